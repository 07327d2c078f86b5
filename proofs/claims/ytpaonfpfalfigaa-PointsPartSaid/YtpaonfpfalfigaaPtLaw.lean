/-
  The statements' functions over the layer points; no condition.
-/
import Derived.Test.YtpaonfpfalfigaaPtl
import Derived.Test.YtpaonfpfalfigaaSxZ
namespace Go.Proofs.Ytpaonfpfalfigaa
open Go.Sx
set_option maxRecDepth 100000
set_option linter.unusedVariables false

noncomputable def cBegun : Con where
  α := Unit
  β := Unit
  m := 0
  m' := 0
  pre := fun _ => True
  args := fun _ => []
  hp := fun _ => []
  ro := fun _ => []
  post := fun _ _ => True
  res := fun _ _ => .a .tt
  hp' := fun _ _ => []
set_option maxHeartbeats 4000000 in
theorem bodyBegun : fnBody (Yf Try.prog) [] 6 cBegun fun _ => [] := fnBody.of (p :=
  ∀ (a : Unit), True →
  ∀ (cap : Nat), (1 : Nat) ≤ cap →
  cap ≤ lenMax →
  ∀ (cap_1 : Nat), (2 : Nat) ≤ cap_1 →
  cap_1 ≤ lenMax →
  ((2 : Nat) ≤ cap →
  cap_1 = cap) →
  ∀ (cap : Nat), (3 : Nat) ≤ cap →
  cap ≤ lenMax →
  ((3 : Nat) ≤ cap_1 →
  cap = cap_1) →
  ∀ (cap_2 : Nat), (4 : Nat) ≤ cap_2 →
  cap_2 ≤ lenMax →
  ((4 : Nat) ≤ cap →
  cap_2 = cap) →
  ∀ (cap : Nat), (5 : Nat) ≤ cap →
  cap ≤ lenMax →
  ((5 : Nat) ≤ cap_2 →
  cap = cap_2) →
  ∀ (cap_3 : Nat), (6 : Nat) ≤ cap_3 →
  cap_3 ≤ lenMax →
  ((6 : Nat) ≤ cap →
  cap_3 = cap) →
  ∀ (cap : Nat), (7 : Nat) ≤ cap →
  cap ≤ lenMax →
  ((7 : Nat) ≤ cap_3 →
  cap = cap_3) →
  ∀ (cap_4 : Nat), (8 : Nat) ≤ cap_4 →
  cap_4 ≤ lenMax →
  ((8 : Nat) ≤ cap →
  cap_4 = cap) →
  ∃ (b : Unit), Bool.true = Bool.true ∧
  True ∧
  True) (by kernel_rfl) (by
  repeat' (first | intro _ | exact ⟨(), rfl, trivial, trivial⟩))
theorem callBegun : CallsBy (Y Try.prog).G.X 6 cBegun := fn_ok okYf (tab := []) trivial bodyBegun

/-! ### PointsLess -/

structure PairA where
  a1 : Int
  a2 : Int
  b1 : Int
  b2 : Int
noncomputable def cLess : Con where
  α := PairA
  β := Unit
  m := 0
  m' := 0
  pre := fun _ => True
  args := fun a => [.agg [.int .u64 a.a1, .int .i64 a.a2], .agg [.int .u64 a.b1, .int .i64 a.b2]]
  hp := fun _ => []
  ro := fun _ => []
  post := fun _ _ => True
  res := fun _ _ => .a .tt
  hp' := fun _ _ => []
noncomputable def cLs : Con where
  α := PairA
  β := Unit
  m := 0
  m' := 0
  pre := fun _ => True
  args := fun a => [.agg [.int .u64 a.a1, .int .i64 a.a2], .agg [.int .u64 a.b1, .int .i64 a.b2]]
  hp := fun _ => []
  ro := fun _ => []
  post := fun _ _ => True
  res := fun a _ => .a (.bool (lessPt (a.a1, a.a2) (a.b1, a.b2)))
  hp' := fun _ _ => []
set_option maxHeartbeats 4000000 in
theorem bodyLs : fnBody (Y Try.prog) [] 11 cLs fun _ => [] := fnBody.of (p :=
  ∀ (a : PairA), True →
  InR IntKind.u64 a.a1 →
  InR IntKind.u64 a.b1 →
  (Decidable.decide (a.a1 < a.b1) = Bool.true →
  ∃ (b : Unit), Bool.true = lessPt (a.a1, a.a2) (a.b1, a.b2) ∧
  True ∧
  True) ∧
  (Decidable.decide (a.a1 < a.b1) = Bool.false →
  InR IntKind.u64 a.a1 →
  InR IntKind.u64 a.b1 →
  ((a.a1 == a.b1) = Bool.true →
  InR IntKind.i64 a.a2 →
  InR IntKind.i64 a.b2 →
  ∃ (b : Unit), Decidable.decide (a.a2 < a.b2) = lessPt (a.a1, a.a2) (a.b1, a.b2) ∧
  True ∧
  True) ∧
  ((a.a1 == a.b1) = Bool.false →
  ∃ (b : Unit), Bool.false = lessPt (a.a1, a.a2) (a.b1, a.b2) ∧
  True ∧
  True))) (by kernel_rfl) (by
  rintro ⟨x1, x2, y1, y2⟩ _ _ _
  dsimp only
  refine ⟨fun h => ⟨(), ?_, trivial, trivial⟩, fun h _ _ => ⟨fun h2 _ _ => ⟨(), ?_, trivial, trivial⟩, fun h2 => ⟨(), ?_, trivial, trivial⟩⟩⟩
  · simp only [decide_eq_true_eq] at h
    simp [lessPt, h]
  · simp only [beq_iff_eq] at h2
    subst h2; simp [lessPt]
  · simp only [beq_eq_false_iff_ne, decide_eq_false_iff_not] at h h2
    simp [lessPt, h, h2])
theorem callLs : CallsBy (Y Try.prog).G.X 11 cLs := fn_ok okY (tab := []) trivial bodyLs

/-! ### cut, Has -/

structure CutA where
  n : Nat
  cap : Nat
  rows : Nat → Nat → Value
noncomputable def cCut : Con where
  α := CutA
  β := Unit
  m := 1
  m' := 1
  pre := fun a => a.n ≤ a.cap ∧ a.cap ≤ lenMax
  args := fun a => [.a (.slc 0 0 1 a.n a.cap)]
  hp := fun _ => []
  ro := fun a => [(0, .arr 3 [.int .i64] a.n a.rows)]
  post := fun _ _ => True
  res := fun a _ => .a (.slc 0 0 1 (min a.n 8) a.cap)
  hp' := fun _ _ => []
set_option maxHeartbeats 4000000 in
theorem bodyCut : fnBody (Y Try.prog) [] 7 cCut fun _ => [] := fnBody.of (p :=
  ∀ (a : CutA), a.n ≤ a.cap ∧
  a.cap ≤ lenMax →
  (Decidable.decide ((8 : Int) < (↑a.n : Int)) = Bool.true →
  ((0 : Int) ≤ (8 : Int) ∧
  (8 : Int) ≤ (↑a.cap : Int)) ∧
  ∃ (b : Unit), ((0 : Nat) = (0 : Nat) ∧
  (8 : Nat) = Min.min a.n (8 : Nat) ∧
  a.cap - (0 : Nat) = a.cap) ∧
  True ∧
  True) ∧
  (Decidable.decide ((8 : Int) < (↑a.n : Int)) = Bool.false →
  ∃ (b : Unit), ((0 : Nat) = (0 : Nat) ∧
  a.n = Min.min a.n (8 : Nat) ∧
  a.cap = a.cap) ∧
  True ∧
  True)) (by kernel_rfl) (by
  rintro ⟨n, cap, rows⟩ ⟨h1, h2⟩
  dsimp only at *
  refine ⟨fun c => ⟨⟨by omega, ?_⟩, (), ⟨rfl, ?_, rfl⟩, trivial, trivial⟩, fun c => ⟨(), ⟨rfl, ?_, rfl⟩, trivial, trivial⟩⟩
  all_goals (simp only [decide_eq_true_eq, decide_eq_false_iff_not] at c; omega))
theorem callCut : CallsBy (Y Try.prog).G.X 7 cCut := fn_ok okY (tab := []) trivial bodyCut
structure HasA where
  l : List Int
  cap : Nat
  n : Int
noncomputable def cHas : Con where
  α := HasA
  β := Unit
  m := 1
  m' := 1
  pre := fun a => a.l.length < 100000
  args := fun a => [.a (.slc 0 0 1 a.l.length a.cap), .a (.int .i64 a.n)]
  hp := fun _ => []
  ro := fun a => [(0, .arr 3 [.int .i64] a.l.length (encRows encI a.l))]
  post := fun _ _ => True
  res := fun a _ => .a (.bool (decide (a.n ∈ a.l)))
  hp' := fun _ _ => []
def iHas (a : HasA) : An := .flat 2 Nat (fun s i => s.int 5 i) (fun _ i => i ≤ a.l.length ∧ a.n ∉ a.l.take i) (fun _ i => a.l.length - i)
set_option maxHeartbeats 4000000 in
theorem bodyHas : fnBody (Y Try.prog) [] 13 cHas fun a => [(13, [iHas a], [])] := fnBody.of (p :=
  ∀ (a : HasA), a.l.length < (100000 : Nat) →
  (∃ (a_2 : Nat), (0 : Int) = (↑a_2 : Int) ∧
  Bool.false = Bool.false ∧
  ((0 : Nat) = (0 : Nat) ∧
  a.l.length = a.l.length ∧
  a.cap = a.cap) ∧
  a.n = a.n ∧
  (a.l.length ≤ a.l.length ∧
  RowsEq a.l.length (1 : Nat) (encRows encI a.l) (encRows encI a.l)) ∧
  (a_2 ≤ a.l.length ∧
  ¬a.n ∈ List.take a_2 a.l) ∧
  True) ∧
  ∀ (a_2 : Nat), a_2 ≤ a.l.length ∧
  ¬a.n ∈ List.take a_2 a.l →
  (Decidable.decide ((↑a_2 : Int) < (↑a.l.length : Int)) = Bool.true →
  ((0 : Int) ≤ (↑a_2 : Int) ∧
  (↑a_2 : Int) < (↑a.l.length : Int)) ∧
  (0 : Nat) + (↑a_2 : Int).toNat < a.l.length ∧
  (InR IntKind.i64 (gl a.l ((0 : Nat) + (↑a_2 : Int).toNat)) →
  ((gl a.l ((0 : Nat) + (↑a_2 : Int).toNat) == a.n) = Bool.true →
  ∃ (b : Unit), Bool.true = Decidable.decide (a.n ∈ a.l) ∧
  True ∧
  True) ∧
  ((gl a.l ((0 : Nat) + (↑a_2 : Int).toNat) == a.n) = Bool.false →
  InR IntKind.i64 ((↑a_2 : Int) + (1 : Int)) ∧
  ∃ (a' : Nat), (↑a_2 : Int) + (1 : Int) = (↑a' : Int) ∧
  Bool.false = Bool.false ∧
  ((0 : Nat) = (0 : Nat) ∧
  a.l.length = a.l.length ∧
  a.cap = a.cap) ∧
  a.n = a.n ∧
  (a.l.length ≤ a.l.length ∧
  RowsEq a.l.length (1 : Nat) (encRows encI a.l) (encRows encI a.l)) ∧
  (a' ≤ a.l.length ∧
  ¬a.n ∈ List.take a' a.l) ∧
  a.l.length - a' < a.l.length - a_2))) ∧
  (Decidable.decide ((↑a_2 : Int) < (↑a.l.length : Int)) = Bool.false →
  ∃ (b : Unit), Bool.false = Decidable.decide (a.n ∈ a.l) ∧
  True ∧
  True)) (by kernel_rfl) (by
  rintro ⟨l, cap, n⟩ h
  dsimp only at *
  simp only [Nat.zero_add, Int.toNat_natCast, InR]
  refine ⟨⟨0, ?_⟩, fun i ⟨i1, i2⟩ => ⟨fun c1 => ?_, fun c1 => ⟨(), ?_, trivial, trivial⟩⟩⟩
  · (repeat' apply And.intro) <;> first | rfl | trivial | exact Nat.le_refl _ | omega | (dsimp only; omega) | exact RowsEq.refl _ _ _ | simp
  · simp only [decide_eq_true_eq] at c1
    have hi : i < l.length := by omega
    refine ⟨by omega, hi, fun _ => ⟨fun c2 => ⟨(), ?_, trivial, trivial⟩, fun c2 => ⟨by omega, i + 1, ?_⟩⟩⟩
    · simp only [beq_iff_eq] at c2
      have : n ∈ l := by rw [← c2]; exact gl_mem hi
      simp [this]
    · simp only [beq_eq_false_iff_ne] at c2
      have : n ∉ l.take (i + 1) := by
        rw [take_succ_gl hi, List.mem_append, List.mem_singleton]
        rintro (h | h)
        · exact i2 h
        · exact c2 h.symm
      (repeat' apply And.intro) <;> first | rfl | trivial | exact Nat.le_refl _ | omega | (dsimp only; omega) | exact RowsEq.refl _ _ _ | exact this
  · simp only [decide_eq_false_iff_not] at c1
    have e : i = l.length := by omega
    subst e
    rw [List.take_length] at i2
    simp [i2])
theorem callHas : CallsBy (Y Try.prog).G.X 13 cHas := fn_ok okY (tab := []) trivial bodyHas
noncomputable def tabPoints : List (Nat × Con) := [(6, cBegun), (11, cLs), (7, cCut), (13, cHas), (8, cMay), (10, cMay), (9, cPtsOf), (12, cPoint)]
theorem tabPoints_ok : TabOk (Y Try.prog).G.X tabPoints := ⟨callBegun, callLs, callCut, callHas, callNodes, callMay, callPtsOf, callRPoint, trivial⟩
set_option maxHeartbeats 4000000 in
theorem bodyLess : fnBody (Y Try.prog) tabPoints 4 cLess fun _ => [] := fnBody.of (p :=
  ∀ (a : PairA), True →
  ∃ (a_2 : Unit), True ∧
  ∀ (b : Unit), True →
  ∃ (a_4 : PairA), a.a1 = a_4.a1 ∧
  a.a2 = a_4.a2 ∧
  a.b1 = a_4.b1 ∧
  a.b2 = a_4.b2 ∧
  True ∧
  ∀ (b : Unit), True →
  ∃ (a_6 : PairA), a.b1 = a_6.a1 ∧
  a.b2 = a_6.a2 ∧
  a.a1 = a_6.b1 ∧
  a.a2 = a_6.b2 ∧
  True ∧
  ∀ (b : Unit), True →
  InR IntKind.u64 a.a1 →
  InR IntKind.u64 a.b1 →
  (Decidable.decide (a.a1 < a.b1) = Bool.true →
  ((lessPt (a_4.a1, a_4.a2) (a_4.b1, a_4.b2) == Bool.true) = Bool.true →
  (lessPt (a_4.a1, a_4.a2) (a_4.b1, a_4.b2) = Bool.true →
  ((!lessPt (a_6.a1, a_6.a2) (a_6.b1, a_6.b2)) = Bool.true →
  (lessPt (a_4.a1, a_4.a2) (a_4.b1, a_4.b2) = Bool.true →
  InR IntKind.u64 a.a1 →
  InR IntKind.u64 a.b1 →
  ((a.a1 != a.b1) = Bool.true →
  ∃ (b : Unit), Bool.true = Bool.true ∧
  True ∧
  True) ∧
  ((a.a1 != a.b1) = Bool.false →
  InR IntKind.i64 a.a2 →
  InR IntKind.i64 a.b2 →
  ∃ (b : Unit), (Bool.true == (a.a2 != a.b2)) = Bool.true ∧
  True ∧
  True)) ∧
  (lessPt (a_4.a1, a_4.a2) (a_4.b1, a_4.b2) = Bool.false →
  InR IntKind.u64 a.a1 →
  InR IntKind.u64 a.b1 →
  ((a.a1 != a.b1) = Bool.true →
  ∃ (b : Unit), (lessPt (a_6.a1, a_6.a2) (a_6.b1, a_6.b2) == Bool.true) = Bool.true ∧
  True ∧
  True) ∧
  ((a.a1 != a.b1) = Bool.false →
  InR IntKind.i64 a.a2 →
  InR IntKind.i64 a.b2 →
  ∃ (b : Unit), (lessPt (a_6.a1, a_6.a2) (a_6.b1, a_6.b2) == (a.a2 != a.b2)) = Bool.true ∧
  True ∧
  True))) ∧
  ((!lessPt (a_6.a1, a_6.a2) (a_6.b1, a_6.b2)) = Bool.false →
  ∃ (b : Unit), Bool.false = Bool.true ∧
  True ∧
  True)) ∧
  (lessPt (a_4.a1, a_4.a2) (a_4.b1, a_4.b2) = Bool.false →
  (lessPt (a_4.a1, a_4.a2) (a_4.b1, a_4.b2) = Bool.true →
  InR IntKind.u64 a.a1 →
  InR IntKind.u64 a.b1 →
  ((a.a1 != a.b1) = Bool.true →
  ∃ (b : Unit), Bool.true = Bool.true ∧
  True ∧
  True) ∧
  ((a.a1 != a.b1) = Bool.false →
  InR IntKind.i64 a.a2 →
  InR IntKind.i64 a.b2 →
  ∃ (b : Unit), (Bool.true == (a.a2 != a.b2)) = Bool.true ∧
  True ∧
  True)) ∧
  (lessPt (a_4.a1, a_4.a2) (a_4.b1, a_4.b2) = Bool.false →
  InR IntKind.u64 a.a1 →
  InR IntKind.u64 a.b1 →
  ((a.a1 != a.b1) = Bool.true →
  ∃ (b : Unit), (lessPt (a_6.a1, a_6.a2) (a_6.b1, a_6.b2) == Bool.true) = Bool.true ∧
  True ∧
  True) ∧
  ((a.a1 != a.b1) = Bool.false →
  InR IntKind.i64 a.a2 →
  InR IntKind.i64 a.b2 →
  ∃ (b : Unit), (lessPt (a_6.a1, a_6.a2) (a_6.b1, a_6.b2) == (a.a2 != a.b2)) = Bool.true ∧
  True ∧
  True)))) ∧
  ((lessPt (a_4.a1, a_4.a2) (a_4.b1, a_4.b2) == Bool.true) = Bool.false →
  ∃ (b : Unit), Bool.false = Bool.true ∧
  True ∧
  True)) ∧
  (Decidable.decide (a.a1 < a.b1) = Bool.false →
  InR IntKind.u64 a.a1 →
  InR IntKind.u64 a.b1 →
  ((a.a1 == a.b1) = Bool.true →
  InR IntKind.i64 a.a2 →
  InR IntKind.i64 a.b2 →
  ((lessPt (a_4.a1, a_4.a2) (a_4.b1, a_4.b2) == Decidable.decide (a.a2 < a.b2)) = Bool.true →
  (lessPt (a_4.a1, a_4.a2) (a_4.b1, a_4.b2) = Bool.true →
  ((!lessPt (a_6.a1, a_6.a2) (a_6.b1, a_6.b2)) = Bool.true →
  (lessPt (a_4.a1, a_4.a2) (a_4.b1, a_4.b2) = Bool.true →
  InR IntKind.u64 a.a1 →
  InR IntKind.u64 a.b1 →
  ((a.a1 != a.b1) = Bool.true →
  ∃ (b : Unit), Bool.true = Bool.true ∧
  True ∧
  True) ∧
  ((a.a1 != a.b1) = Bool.false →
  InR IntKind.i64 a.a2 →
  InR IntKind.i64 a.b2 →
  ∃ (b : Unit), (Bool.true == (a.a2 != a.b2)) = Bool.true ∧
  True ∧
  True)) ∧
  (lessPt (a_4.a1, a_4.a2) (a_4.b1, a_4.b2) = Bool.false →
  InR IntKind.u64 a.a1 →
  InR IntKind.u64 a.b1 →
  ((a.a1 != a.b1) = Bool.true →
  ∃ (b : Unit), (lessPt (a_6.a1, a_6.a2) (a_6.b1, a_6.b2) == Bool.true) = Bool.true ∧
  True ∧
  True) ∧
  ((a.a1 != a.b1) = Bool.false →
  InR IntKind.i64 a.a2 →
  InR IntKind.i64 a.b2 →
  ∃ (b : Unit), (lessPt (a_6.a1, a_6.a2) (a_6.b1, a_6.b2) == (a.a2 != a.b2)) = Bool.true ∧
  True ∧
  True))) ∧
  ((!lessPt (a_6.a1, a_6.a2) (a_6.b1, a_6.b2)) = Bool.false →
  ∃ (b : Unit), Bool.false = Bool.true ∧
  True ∧
  True)) ∧
  (lessPt (a_4.a1, a_4.a2) (a_4.b1, a_4.b2) = Bool.false →
  (lessPt (a_4.a1, a_4.a2) (a_4.b1, a_4.b2) = Bool.true →
  InR IntKind.u64 a.a1 →
  InR IntKind.u64 a.b1 →
  ((a.a1 != a.b1) = Bool.true →
  ∃ (b : Unit), Bool.true = Bool.true ∧
  True ∧
  True) ∧
  ((a.a1 != a.b1) = Bool.false →
  InR IntKind.i64 a.a2 →
  InR IntKind.i64 a.b2 →
  ∃ (b : Unit), (Bool.true == (a.a2 != a.b2)) = Bool.true ∧
  True ∧
  True)) ∧
  (lessPt (a_4.a1, a_4.a2) (a_4.b1, a_4.b2) = Bool.false →
  InR IntKind.u64 a.a1 →
  InR IntKind.u64 a.b1 →
  ((a.a1 != a.b1) = Bool.true →
  ∃ (b : Unit), (lessPt (a_6.a1, a_6.a2) (a_6.b1, a_6.b2) == Bool.true) = Bool.true ∧
  True ∧
  True) ∧
  ((a.a1 != a.b1) = Bool.false →
  InR IntKind.i64 a.a2 →
  InR IntKind.i64 a.b2 →
  ∃ (b : Unit), (lessPt (a_6.a1, a_6.a2) (a_6.b1, a_6.b2) == (a.a2 != a.b2)) = Bool.true ∧
  True ∧
  True)))) ∧
  ((lessPt (a_4.a1, a_4.a2) (a_4.b1, a_4.b2) == Decidable.decide (a.a2 < a.b2)) = Bool.false →
  ∃ (b : Unit), Bool.false = Bool.true ∧
  True ∧
  True)) ∧
  ((a.a1 == a.b1) = Bool.false →
  ((lessPt (a_4.a1, a_4.a2) (a_4.b1, a_4.b2) == Bool.false) = Bool.true →
  (lessPt (a_4.a1, a_4.a2) (a_4.b1, a_4.b2) = Bool.true →
  ((!lessPt (a_6.a1, a_6.a2) (a_6.b1, a_6.b2)) = Bool.true →
  (lessPt (a_4.a1, a_4.a2) (a_4.b1, a_4.b2) = Bool.true →
  InR IntKind.u64 a.a1 →
  InR IntKind.u64 a.b1 →
  ((a.a1 != a.b1) = Bool.true →
  ∃ (b : Unit), Bool.true = Bool.true ∧
  True ∧
  True) ∧
  ((a.a1 != a.b1) = Bool.false →
  InR IntKind.i64 a.a2 →
  InR IntKind.i64 a.b2 →
  ∃ (b : Unit), (Bool.true == (a.a2 != a.b2)) = Bool.true ∧
  True ∧
  True)) ∧
  (lessPt (a_4.a1, a_4.a2) (a_4.b1, a_4.b2) = Bool.false →
  InR IntKind.u64 a.a1 →
  InR IntKind.u64 a.b1 →
  ((a.a1 != a.b1) = Bool.true →
  ∃ (b : Unit), (lessPt (a_6.a1, a_6.a2) (a_6.b1, a_6.b2) == Bool.true) = Bool.true ∧
  True ∧
  True) ∧
  ((a.a1 != a.b1) = Bool.false →
  InR IntKind.i64 a.a2 →
  InR IntKind.i64 a.b2 →
  ∃ (b : Unit), (lessPt (a_6.a1, a_6.a2) (a_6.b1, a_6.b2) == (a.a2 != a.b2)) = Bool.true ∧
  True ∧
  True))) ∧
  ((!lessPt (a_6.a1, a_6.a2) (a_6.b1, a_6.b2)) = Bool.false →
  ∃ (b : Unit), Bool.false = Bool.true ∧
  True ∧
  True)) ∧
  (lessPt (a_4.a1, a_4.a2) (a_4.b1, a_4.b2) = Bool.false →
  (lessPt (a_4.a1, a_4.a2) (a_4.b1, a_4.b2) = Bool.true →
  InR IntKind.u64 a.a1 →
  InR IntKind.u64 a.b1 →
  ((a.a1 != a.b1) = Bool.true →
  ∃ (b : Unit), Bool.true = Bool.true ∧
  True ∧
  True) ∧
  ((a.a1 != a.b1) = Bool.false →
  InR IntKind.i64 a.a2 →
  InR IntKind.i64 a.b2 →
  ∃ (b : Unit), (Bool.true == (a.a2 != a.b2)) = Bool.true ∧
  True ∧
  True)) ∧
  (lessPt (a_4.a1, a_4.a2) (a_4.b1, a_4.b2) = Bool.false →
  InR IntKind.u64 a.a1 →
  InR IntKind.u64 a.b1 →
  ((a.a1 != a.b1) = Bool.true →
  ∃ (b : Unit), (lessPt (a_6.a1, a_6.a2) (a_6.b1, a_6.b2) == Bool.true) = Bool.true ∧
  True ∧
  True) ∧
  ((a.a1 != a.b1) = Bool.false →
  InR IntKind.i64 a.a2 →
  InR IntKind.i64 a.b2 →
  ∃ (b : Unit), (lessPt (a_6.a1, a_6.a2) (a_6.b1, a_6.b2) == (a.a2 != a.b2)) = Bool.true ∧
  True ∧
  True)))) ∧
  ((lessPt (a_4.a1, a_4.a2) (a_4.b1, a_4.b2) == Bool.false) = Bool.false →
  ∃ (b : Unit), Bool.false = Bool.true ∧
  True ∧
  True)))) (by kernel_rfl) (by
  rintro ⟨x1, x2, y1, y2⟩ _
  refine ⟨(), trivial, fun _ _ => ⟨⟨x1, x2, y1, y2⟩, ?_⟩⟩
  ((repeat' apply And.intro) <;> first | with_reducible rfl | omega | (dsimp only; omega) | exact RowsEq.refl _ _ _ | assumption | rfl | trivial | exact Nat.le_refl _ | skip)
  refine fun _ _ => ⟨⟨y1, y2, x1, x2⟩, ?_⟩
  ((repeat' apply And.intro) <;> first | with_reducible rfl | omega | (dsimp only; omega) | exact RowsEq.refl _ _ _ | assumption | rfl | trivial | exact Nat.le_refl _ | skip)
  dsimp only [lessPt]
  intro _ _
  repeat' (first | intro _ | apply And.intro | apply Exists.intro ())
  all_goals (try with_reducible trivial)
  all_goals grind)

/-! ### PointsAll -/

def nsOf (a : CutA) : List Int := (List.range (min a.n 8)).map fun i => toI (a.rows i 0)
noncomputable def cAllP : Con where
  α := CutA
  β := Unit
  m := 1
  m' := 1
  pre := fun a => a.n ≤ a.cap ∧ a.cap ≤ lenMax ∧ ∀ i, i < a.n → a.rows i 0 = .int .i64 (toI (a.rows i 0))
  args := fun a => [.a (.slc 0 0 1 a.n a.cap)]
  hp := fun _ => []
  ro := fun a => [(0, .arr 3 [.int .i64] a.n a.rows)]
  post := fun _ _ => True
  res := fun _ _ => .a .tt
  hp' := fun _ _ => []
def ptE (a : CutA) (i k : Nat) : Int × Int := (pointI (gl (nsOf a) i) k, gl (nsOf a) i)
def iA1 (a : CutA) : An := .flat 14 Nat (fun s i => s.int 6 i) (fun _ i => 1 ≤ i ∧ i ≤ (ptsOf (nsOf a)).length) (fun _ i => (ptsOf (nsOf a)).length - i)
def iA4 (a : CutA) (i k : Nat) : An := .flat 26 Nat (fun s j => (s.int 9 (cntTo (ptsOf (nsOf a)) (ptE a i k) j)).int 10 j) (fun _ j => j ≤ (ptsOf (nsOf a)).length) (fun _ j => (ptsOf (nsOf a)).length - j)
def iA3 (a : CutA) (i : Nat) : An := .mk 22 Nat (fun s k => s.int 8 k) (fun _ k => k ≤ 8) (fun _ k => 8 - k) fun k => .mk 60 [iA4 a i k] []
def iA2 (a : CutA) : An := .mk 19 Nat (fun s i => s.int 7 i) (fun _ i => i ≤ (nsOf a).length) (fun _ i => (nsOf a).length - i) fun i => .mk 60 [iA3 a i] []
set_option maxHeartbeats 4000000 in
theorem bodyAll : fnBody (Y Try.prog) tabPoints 3 cAllP fun a => [(3, [iA1 a, iA2 a], [])] := fnBody.of (p :=
  ∀ (a : CutA), (a.n ≤ a.cap ∧
  a.cap ≤ lenMax ∧
  ∀ (i : Nat), i < a.n →
  a.rows i (0 : Nat) = Value.int IntKind.i64 (toI (a.rows i (0 : Nat)))) →
  ∃ (a_2 : Unit), True ∧
  ∀ (b : Unit), True →
  ∃ (a_4 : CutA), ((0 : Nat) = (0 : Nat) ∧
  a.n = a_4.n ∧
  a.cap = a_4.cap) ∧
  (a_4.n ≤ a.n ∧
  RowsEq a_4.n (1 : Nat) a.rows a_4.rows) ∧
  (a_4.n ≤ a_4.cap ∧
  a_4.cap ≤ lenMax) ∧
  ∀ (b : Unit), True →
  ∃ (a_6 : NodesA), ((0 : Nat) = (0 : Nat) ∧
  Min.min a_4.n (8 : Nat) = a_6.l.length ∧
  a_4.cap = a_6.cap) ∧
  (a_6.l.length ≤ a.n ∧
  RowsEq a_6.l.length (1 : Nat) a.rows (encRows encI a_6.l)) ∧
  a_6.l.length < (100000 : Nat) ∧
  ∀ (b : Unit), True →
  ∃ (a_8 : NodesA), ((0 : Nat) = (0 : Nat) ∧
  Min.min a_4.n (8 : Nat) = a_8.l.length ∧
  a_4.cap = a_8.cap) ∧
  (a_8.l.length ≤ a.n ∧
  RowsEq a_8.l.length (1 : Nat) a.rows (encRows encI a_8.l)) ∧
  a_8.l.length < (100000 : Nat) ∧
  ∀ (b : Nat), True →
  ∃ (a_10 : NodesA), ((0 : Nat) = (0 : Nat) ∧
  Min.min a_4.n (8 : Nat) = a_10.l.length ∧
  a_4.cap = a_10.cap) ∧
  (a_10.l.length ≤ a.n ∧
  RowsEq a_10.l.length (1 : Nat) a.rows (encRows encI a_10.l)) ∧
  a_10.l.length < (100000 : Nat) ∧
  ∀ (b_1 : Unit), True →
  ((!mayN a_10.l == mayN a_6.l) = Bool.true →
  ∃ (b : Unit), Bool.false = Bool.true ∧
  True ∧
  True) ∧
  ((!mayN a_10.l == mayN a_6.l) = Bool.false →
  ((!mayN a_6.l) = Bool.true →
  (((↑(ptsOf a_8.l).length : Int) != (0 : Int)) = Bool.true →
  ∃ (b : Unit), Bool.false = Bool.true ∧
  True ∧
  True) ∧
  (((↑(ptsOf a_8.l).length : Int) != (0 : Int)) = Bool.false →
  ((!mayN a_6.l) = Bool.true →
  ∃ (b : Unit), Bool.true = Bool.true ∧
  True ∧
  True) ∧
  ((!mayN a_6.l) = Bool.false →
  InR IntKind.i64 ((8 : Int) * (↑(Min.min a_4.n (8 : Nat)) : Int)) ∧
  (((↑(ptsOf a_8.l).length : Int) != (8 : Int) * (↑(Min.min a_4.n (8 : Nat)) : Int)) = Bool.true →
  ∃ (b : Unit), Bool.false = Bool.true ∧
  True ∧
  True) ∧
  (((↑(ptsOf a_8.l).length : Int) != (8 : Int) * (↑(Min.min a_4.n (8 : Nat)) : Int)) = Bool.false →
  (∃ (a_17 : Nat), (1 : Int) = (↑a_17 : Int) ∧
  ((↑(ptsOf a_8.l).length : Int) != (8 : Int) * (↑(Min.min a_4.n (8 : Nat)) : Int)) = ((↑(ptsOf a_8.l).length : Int) != (8 : Int) * (↑(Min.min a_4.n (8 : Nat)) : Int)) ∧
  (!mayN a_6.l) = !mayN a_6.l ∧
  ((↑(ptsOf a_8.l).length : Int) != (0 : Int)) = ((↑(ptsOf a_8.l).length : Int) != (0 : Int)) ∧
  ((0 : Nat) = (0 : Nat) ∧
  (ptsOf a_8.l).length = (ptsOf a_8.l).length ∧
  b = b) ∧
  mayN a_6.l = mayN a_6.l ∧
  ((0 : Nat) = (0 : Nat) ∧
  Min.min a_4.n (8 : Nat) = Min.min a_4.n (8 : Nat) ∧
  a_4.cap = a_4.cap) ∧
  Bool.false = Bool.false ∧
  Bool.true = Bool.true ∧
  Bool.false = Bool.false ∧
  ((ptsOf a_8.l).length ≤ (ptsOf a_8.l).length ∧
  RowsEq (ptsOf a_8.l).length (2 : Nat) (encRows encPt (ptsOf a_8.l)) (encRows encPt (ptsOf a_8.l))) ∧
  (a.n ≤ a.n ∧
  RowsEq a.n (1 : Nat) a.rows a.rows) ∧
  ((1 : Nat) ≤ a_17 ∧
  a_17 ≤ (ptsOf (nsOf a)).length) ∧
  True) ∧
  ∀ (a_17 : Nat), (1 : Nat) ≤ a_17 ∧
  a_17 ≤ (ptsOf (nsOf a)).length →
  (Decidable.decide ((↑a_17 : Int) < (↑(ptsOf a_8.l).length : Int)) = Bool.true →
  InR IntKind.i64 ((↑a_17 : Int) - (1 : Int)) ∧
  ((0 : Int) ≤ (↑a_17 : Int) - (1 : Int) ∧
  (↑a_17 : Int) - (1 : Int) < (↑(ptsOf a_8.l).length : Int)) ∧
  (0 : Nat) + ((↑a_17 : Int) - (1 : Int)).toNat < (ptsOf a_8.l).length ∧
  ((0 : Int) ≤ (↑a_17 : Int) ∧
  (↑a_17 : Int) < (↑(ptsOf a_8.l).length : Int)) ∧
  (0 : Nat) + (↑a_17 : Int).toNat < (ptsOf a_8.l).length ∧
  ∃ (a_20 : PairA), (gl (ptsOf a_8.l) ((0 : Nat) + ((↑a_17 : Int) - (1 : Int)).toNat)).fst = a_20.a1 ∧
  (gl (ptsOf a_8.l) ((0 : Nat) + ((↑a_17 : Int) - (1 : Int)).toNat)).snd = a_20.a2 ∧
  (gl (ptsOf a_8.l) ((0 : Nat) + (↑a_17 : Int).toNat)).fst = a_20.b1 ∧
  (gl (ptsOf a_8.l) ((0 : Nat) + (↑a_17 : Int).toNat)).snd = a_20.b2 ∧
  True ∧
  ∀ (b_2 : Unit), True →
  ((!lessPt (a_20.a1, a_20.a2) (a_20.b1, a_20.b2)) = Bool.true →
  ∃ (b : Unit), Bool.false = Bool.true ∧
  True ∧
  True) ∧
  ((!lessPt (a_20.a1, a_20.a2) (a_20.b1, a_20.b2)) = Bool.false →
  InR IntKind.i64 ((↑a_17 : Int) + (1 : Int)) ∧
  ∃ (a' : Nat), (↑a_17 : Int) + (1 : Int) = (↑a' : Int) ∧
  ((↑(ptsOf a_8.l).length : Int) != (8 : Int) * (↑(Min.min a_4.n (8 : Nat)) : Int)) = ((↑(ptsOf a_8.l).length : Int) != (8 : Int) * (↑(Min.min a_4.n (8 : Nat)) : Int)) ∧
  (!mayN a_6.l) = !mayN a_6.l ∧
  ((↑(ptsOf a_8.l).length : Int) != (0 : Int)) = ((↑(ptsOf a_8.l).length : Int) != (0 : Int)) ∧
  ((0 : Nat) = (0 : Nat) ∧
  (ptsOf a_8.l).length = (ptsOf a_8.l).length ∧
  b = b) ∧
  mayN a_6.l = mayN a_6.l ∧
  ((0 : Nat) = (0 : Nat) ∧
  Min.min a_4.n (8 : Nat) = Min.min a_4.n (8 : Nat) ∧
  a_4.cap = a_4.cap) ∧
  Bool.false = Bool.false ∧
  Bool.true = Bool.true ∧
  Bool.false = Bool.false ∧
  ((ptsOf a_8.l).length ≤ (ptsOf a_8.l).length ∧
  RowsEq (ptsOf a_8.l).length (2 : Nat) (encRows encPt (ptsOf a_8.l)) (encRows encPt (ptsOf a_8.l))) ∧
  (a.n ≤ a.n ∧
  RowsEq a.n (1 : Nat) a.rows a.rows) ∧
  ((1 : Nat) ≤ a' ∧
  a' ≤ (ptsOf (nsOf a)).length) ∧
  (ptsOf (nsOf a)).length - a' < (ptsOf (nsOf a)).length - a_17)) ∧
  (Decidable.decide ((↑a_17 : Int) < (↑(ptsOf a_8.l).length : Int)) = Bool.false →
  (∃ (a_20 : Nat), (0 : Int) = (↑a_20 : Int) ∧
  Decidable.decide ((↑a_17 : Int) < (↑(ptsOf a_8.l).length : Int)) = Decidable.decide ((↑a_17 : Int) < (↑(ptsOf a_8.l).length : Int)) ∧
  (↑a_17 : Int) = (↑a_17 : Int) ∧
  ((↑(ptsOf a_8.l).length : Int) != (8 : Int) * (↑(Min.min a_4.n (8 : Nat)) : Int)) = ((↑(ptsOf a_8.l).length : Int) != (8 : Int) * (↑(Min.min a_4.n (8 : Nat)) : Int)) ∧
  (!mayN a_6.l) = !mayN a_6.l ∧
  ((↑(ptsOf a_8.l).length : Int) != (0 : Int)) = ((↑(ptsOf a_8.l).length : Int) != (0 : Int)) ∧
  ((0 : Nat) = (0 : Nat) ∧
  (ptsOf a_8.l).length = (ptsOf a_8.l).length ∧
  b = b) ∧
  mayN a_6.l = mayN a_6.l ∧
  ((0 : Nat) = (0 : Nat) ∧
  Min.min a_4.n (8 : Nat) = Min.min a_4.n (8 : Nat) ∧
  a_4.cap = a_4.cap) ∧
  Bool.false = Bool.false ∧
  Bool.true = Bool.true ∧
  Bool.false = Bool.false ∧
  ((ptsOf a_8.l).length ≤ (ptsOf a_8.l).length ∧
  RowsEq (ptsOf a_8.l).length (2 : Nat) (encRows encPt (ptsOf a_8.l)) (encRows encPt (ptsOf a_8.l))) ∧
  (a.n ≤ a.n ∧
  RowsEq a.n (1 : Nat) a.rows a.rows) ∧
  a_20 ≤ (nsOf a).length ∧
  True) ∧
  ∀ (a_20 : Nat), a_20 ≤ (nsOf a).length →
  (Decidable.decide ((↑a_20 : Int) < (↑(Min.min a_4.n (8 : Nat)) : Int)) = Bool.true →
  (∃ (a_23 : Nat), (0 : Int) = (↑a_23 : Int) ∧
  Decidable.decide ((↑a_20 : Int) < (↑(Min.min a_4.n (8 : Nat)) : Int)) = Decidable.decide ((↑a_20 : Int) < (↑(Min.min a_4.n (8 : Nat)) : Int)) ∧
  (↑a_20 : Int) = (↑a_20 : Int) ∧
  Decidable.decide ((↑a_17 : Int) < (↑(ptsOf a_8.l).length : Int)) = Decidable.decide ((↑a_17 : Int) < (↑(ptsOf a_8.l).length : Int)) ∧
  (↑a_17 : Int) = (↑a_17 : Int) ∧
  ((↑(ptsOf a_8.l).length : Int) != (8 : Int) * (↑(Min.min a_4.n (8 : Nat)) : Int)) = ((↑(ptsOf a_8.l).length : Int) != (8 : Int) * (↑(Min.min a_4.n (8 : Nat)) : Int)) ∧
  (!mayN a_6.l) = !mayN a_6.l ∧
  ((↑(ptsOf a_8.l).length : Int) != (0 : Int)) = ((↑(ptsOf a_8.l).length : Int) != (0 : Int)) ∧
  ((0 : Nat) = (0 : Nat) ∧
  (ptsOf a_8.l).length = (ptsOf a_8.l).length ∧
  b = b) ∧
  mayN a_6.l = mayN a_6.l ∧
  ((0 : Nat) = (0 : Nat) ∧
  Min.min a_4.n (8 : Nat) = Min.min a_4.n (8 : Nat) ∧
  a_4.cap = a_4.cap) ∧
  Bool.false = Bool.false ∧
  Bool.true = Bool.true ∧
  Bool.false = Bool.false ∧
  ((ptsOf a_8.l).length ≤ (ptsOf a_8.l).length ∧
  RowsEq (ptsOf a_8.l).length (2 : Nat) (encRows encPt (ptsOf a_8.l)) (encRows encPt (ptsOf a_8.l))) ∧
  (a.n ≤ a.n ∧
  RowsEq a.n (1 : Nat) a.rows a.rows) ∧
  a_23 ≤ (8 : Nat) ∧
  True) ∧
  ∀ (a_23 : Nat), a_23 ≤ (8 : Nat) →
  (Decidable.decide ((↑a_23 : Int) < (8 : Int)) = Bool.true →
  (∃ (a_26 : Nat), (0 : Int) = (↑a_26 : Int) ∧
  (0 : Int) = (↑(cntTo (ptsOf (nsOf a)) (ptE a a_20 a_23) a_26) : Int) ∧
  Decidable.decide ((↑a_23 : Int) < (8 : Int)) = Decidable.decide ((↑a_23 : Int) < (8 : Int)) ∧
  (↑a_23 : Int) = (↑a_23 : Int) ∧
  Decidable.decide ((↑a_20 : Int) < (↑(Min.min a_4.n (8 : Nat)) : Int)) = Decidable.decide ((↑a_20 : Int) < (↑(Min.min a_4.n (8 : Nat)) : Int)) ∧
  (↑a_20 : Int) = (↑a_20 : Int) ∧
  Decidable.decide ((↑a_17 : Int) < (↑(ptsOf a_8.l).length : Int)) = Decidable.decide ((↑a_17 : Int) < (↑(ptsOf a_8.l).length : Int)) ∧
  (↑a_17 : Int) = (↑a_17 : Int) ∧
  ((↑(ptsOf a_8.l).length : Int) != (8 : Int) * (↑(Min.min a_4.n (8 : Nat)) : Int)) = ((↑(ptsOf a_8.l).length : Int) != (8 : Int) * (↑(Min.min a_4.n (8 : Nat)) : Int)) ∧
  (!mayN a_6.l) = !mayN a_6.l ∧
  ((↑(ptsOf a_8.l).length : Int) != (0 : Int)) = ((↑(ptsOf a_8.l).length : Int) != (0 : Int)) ∧
  ((0 : Nat) = (0 : Nat) ∧
  (ptsOf a_8.l).length = (ptsOf a_8.l).length ∧
  b = b) ∧
  mayN a_6.l = mayN a_6.l ∧
  ((0 : Nat) = (0 : Nat) ∧
  Min.min a_4.n (8 : Nat) = Min.min a_4.n (8 : Nat) ∧
  a_4.cap = a_4.cap) ∧
  Bool.false = Bool.false ∧
  Bool.true = Bool.true ∧
  Bool.false = Bool.false ∧
  ((ptsOf a_8.l).length ≤ (ptsOf a_8.l).length ∧
  RowsEq (ptsOf a_8.l).length (2 : Nat) (encRows encPt (ptsOf a_8.l)) (encRows encPt (ptsOf a_8.l))) ∧
  (a.n ≤ a.n ∧
  RowsEq a.n (1 : Nat) a.rows a.rows) ∧
  a_26 ≤ (ptsOf (nsOf a)).length ∧
  True) ∧
  ∀ (a_26 : Nat), a_26 ≤ (ptsOf (nsOf a)).length →
  (Decidable.decide ((↑a_26 : Int) < (↑(ptsOf a_8.l).length : Int)) = Bool.true →
  ((0 : Int) ≤ (↑a_26 : Int) ∧
  (↑a_26 : Int) < (↑(ptsOf a_8.l).length : Int)) ∧
  (0 : Nat) + (↑a_26 : Int).toNat < (ptsOf a_8.l).length ∧
  (InR IntKind.i64 (gl (ptsOf a_8.l) ((0 : Nat) + (↑a_26 : Int).toNat)).snd →
  ((0 : Int) ≤ (↑a_20 : Int) ∧
  (↑a_20 : Int) < (↑(Min.min a_4.n (8 : Nat)) : Int)) ∧
  (0 : Nat) + (↑a_20 : Int).toNat < a.n ∧
  (InR IntKind.i64 (toI (a.rows ((0 : Nat) + (↑a_20 : Int).toNat) (0 : Nat))) →
  (((gl (ptsOf a_8.l) ((0 : Nat) + (↑a_26 : Int).toNat)).snd == toI (a.rows ((0 : Nat) + (↑a_20 : Int).toNat) (0 : Nat))) = Bool.true →
  ((0 : Int) ≤ (↑a_26 : Int) ∧
  (↑a_26 : Int) < (↑(ptsOf a_8.l).length : Int)) ∧
  (0 : Nat) + (↑a_26 : Int).toNat < (ptsOf a_8.l).length ∧
  (InR IntKind.u64 (gl (ptsOf a_8.l) ((0 : Nat) + (↑a_26 : Int).toNat)).fst →
  ((0 : Int) ≤ (↑a_20 : Int) ∧
  (↑a_20 : Int) < (↑(Min.min a_4.n (8 : Nat)) : Int)) ∧
  (0 : Nat) + (↑a_20 : Int).toNat < a.n ∧
  (InR IntKind.i64 (toI (a.rows ((0 : Nat) + (↑a_20 : Int).toNat) (0 : Nat))) →
  ∃ (a_34 : Int × Int), toI (a.rows ((0 : Nat) + (↑a_20 : Int).toNat) (0 : Nat)) = a_34.fst ∧
  (↑a_23 : Int) = a_34.snd ∧
  ((0 : Int) ≤ a_34.fst ∧
  a_34.fst ≤ (100 : Int) ∧
  (0 : Int) ≤ a_34.snd ∧
  a_34.snd ≤ (100 : Int)) ∧
  ∀ (b_2 : Unit), True →
  (((gl (ptsOf a_8.l) ((0 : Nat) + (↑a_26 : Int).toNat)).fst == pointI a_34.fst a_34.snd) = Bool.true →
  InR IntKind.i64 ((↑(cntTo (ptsOf (nsOf a)) (ptE a a_20 a_23) a_26) : Int) + (1 : Int)) ∧
  InR IntKind.i64 ((↑a_26 : Int) + (1 : Int)) ∧
  ∃ (a' : Nat), (↑a_26 : Int) + (1 : Int) = (↑a' : Int) ∧
  (↑(cntTo (ptsOf (nsOf a)) (ptE a a_20 a_23) a_26) : Int) + (1 : Int) = (↑(cntTo (ptsOf (nsOf a)) (ptE a a_20 a_23) a') : Int) ∧
  Decidable.decide ((↑a_23 : Int) < (8 : Int)) = Decidable.decide ((↑a_23 : Int) < (8 : Int)) ∧
  (↑a_23 : Int) = (↑a_23 : Int) ∧
  Decidable.decide ((↑a_20 : Int) < (↑(Min.min a_4.n (8 : Nat)) : Int)) = Decidable.decide ((↑a_20 : Int) < (↑(Min.min a_4.n (8 : Nat)) : Int)) ∧
  (↑a_20 : Int) = (↑a_20 : Int) ∧
  Decidable.decide ((↑a_17 : Int) < (↑(ptsOf a_8.l).length : Int)) = Decidable.decide ((↑a_17 : Int) < (↑(ptsOf a_8.l).length : Int)) ∧
  (↑a_17 : Int) = (↑a_17 : Int) ∧
  ((↑(ptsOf a_8.l).length : Int) != (8 : Int) * (↑(Min.min a_4.n (8 : Nat)) : Int)) = ((↑(ptsOf a_8.l).length : Int) != (8 : Int) * (↑(Min.min a_4.n (8 : Nat)) : Int)) ∧
  (!mayN a_6.l) = !mayN a_6.l ∧
  ((↑(ptsOf a_8.l).length : Int) != (0 : Int)) = ((↑(ptsOf a_8.l).length : Int) != (0 : Int)) ∧
  ((0 : Nat) = (0 : Nat) ∧
  (ptsOf a_8.l).length = (ptsOf a_8.l).length ∧
  b = b) ∧
  mayN a_6.l = mayN a_6.l ∧
  ((0 : Nat) = (0 : Nat) ∧
  Min.min a_4.n (8 : Nat) = Min.min a_4.n (8 : Nat) ∧
  a_4.cap = a_4.cap) ∧
  Bool.false = Bool.false ∧
  Bool.true = Bool.true ∧
  Bool.false = Bool.false ∧
  ((ptsOf a_8.l).length ≤ (ptsOf a_8.l).length ∧
  RowsEq (ptsOf a_8.l).length (2 : Nat) (encRows encPt (ptsOf a_8.l)) (encRows encPt (ptsOf a_8.l))) ∧
  (a.n ≤ a.n ∧
  RowsEq a.n (1 : Nat) a.rows a.rows) ∧
  a' ≤ (ptsOf (nsOf a)).length ∧
  (ptsOf (nsOf a)).length - a' < (ptsOf (nsOf a)).length - a_26) ∧
  (((gl (ptsOf a_8.l) ((0 : Nat) + (↑a_26 : Int).toNat)).fst == pointI a_34.fst a_34.snd) = Bool.false →
  InR IntKind.i64 ((↑a_26 : Int) + (1 : Int)) ∧
  ∃ (a' : Nat), (↑a_26 : Int) + (1 : Int) = (↑a' : Int) ∧
  (↑(cntTo (ptsOf (nsOf a)) (ptE a a_20 a_23) a_26) : Int) = (↑(cntTo (ptsOf (nsOf a)) (ptE a a_20 a_23) a') : Int) ∧
  Decidable.decide ((↑a_23 : Int) < (8 : Int)) = Decidable.decide ((↑a_23 : Int) < (8 : Int)) ∧
  (↑a_23 : Int) = (↑a_23 : Int) ∧
  Decidable.decide ((↑a_20 : Int) < (↑(Min.min a_4.n (8 : Nat)) : Int)) = Decidable.decide ((↑a_20 : Int) < (↑(Min.min a_4.n (8 : Nat)) : Int)) ∧
  (↑a_20 : Int) = (↑a_20 : Int) ∧
  Decidable.decide ((↑a_17 : Int) < (↑(ptsOf a_8.l).length : Int)) = Decidable.decide ((↑a_17 : Int) < (↑(ptsOf a_8.l).length : Int)) ∧
  (↑a_17 : Int) = (↑a_17 : Int) ∧
  ((↑(ptsOf a_8.l).length : Int) != (8 : Int) * (↑(Min.min a_4.n (8 : Nat)) : Int)) = ((↑(ptsOf a_8.l).length : Int) != (8 : Int) * (↑(Min.min a_4.n (8 : Nat)) : Int)) ∧
  (!mayN a_6.l) = !mayN a_6.l ∧
  ((↑(ptsOf a_8.l).length : Int) != (0 : Int)) = ((↑(ptsOf a_8.l).length : Int) != (0 : Int)) ∧
  ((0 : Nat) = (0 : Nat) ∧
  (ptsOf a_8.l).length = (ptsOf a_8.l).length ∧
  b = b) ∧
  mayN a_6.l = mayN a_6.l ∧
  ((0 : Nat) = (0 : Nat) ∧
  Min.min a_4.n (8 : Nat) = Min.min a_4.n (8 : Nat) ∧
  a_4.cap = a_4.cap) ∧
  Bool.false = Bool.false ∧
  Bool.true = Bool.true ∧
  Bool.false = Bool.false ∧
  ((ptsOf a_8.l).length ≤ (ptsOf a_8.l).length ∧
  RowsEq (ptsOf a_8.l).length (2 : Nat) (encRows encPt (ptsOf a_8.l)) (encRows encPt (ptsOf a_8.l))) ∧
  (a.n ≤ a.n ∧
  RowsEq a.n (1 : Nat) a.rows a.rows) ∧
  a' ≤ (ptsOf (nsOf a)).length ∧
  (ptsOf (nsOf a)).length - a' < (ptsOf (nsOf a)).length - a_26)))) ∧
  (((gl (ptsOf a_8.l) ((0 : Nat) + (↑a_26 : Int).toNat)).snd == toI (a.rows ((0 : Nat) + (↑a_20 : Int).toNat) (0 : Nat))) = Bool.false →
  InR IntKind.i64 ((↑a_26 : Int) + (1 : Int)) ∧
  ∃ (a' : Nat), (↑a_26 : Int) + (1 : Int) = (↑a' : Int) ∧
  (↑(cntTo (ptsOf (nsOf a)) (ptE a a_20 a_23) a_26) : Int) = (↑(cntTo (ptsOf (nsOf a)) (ptE a a_20 a_23) a') : Int) ∧
  Decidable.decide ((↑a_23 : Int) < (8 : Int)) = Decidable.decide ((↑a_23 : Int) < (8 : Int)) ∧
  (↑a_23 : Int) = (↑a_23 : Int) ∧
  Decidable.decide ((↑a_20 : Int) < (↑(Min.min a_4.n (8 : Nat)) : Int)) = Decidable.decide ((↑a_20 : Int) < (↑(Min.min a_4.n (8 : Nat)) : Int)) ∧
  (↑a_20 : Int) = (↑a_20 : Int) ∧
  Decidable.decide ((↑a_17 : Int) < (↑(ptsOf a_8.l).length : Int)) = Decidable.decide ((↑a_17 : Int) < (↑(ptsOf a_8.l).length : Int)) ∧
  (↑a_17 : Int) = (↑a_17 : Int) ∧
  ((↑(ptsOf a_8.l).length : Int) != (8 : Int) * (↑(Min.min a_4.n (8 : Nat)) : Int)) = ((↑(ptsOf a_8.l).length : Int) != (8 : Int) * (↑(Min.min a_4.n (8 : Nat)) : Int)) ∧
  (!mayN a_6.l) = !mayN a_6.l ∧
  ((↑(ptsOf a_8.l).length : Int) != (0 : Int)) = ((↑(ptsOf a_8.l).length : Int) != (0 : Int)) ∧
  ((0 : Nat) = (0 : Nat) ∧
  (ptsOf a_8.l).length = (ptsOf a_8.l).length ∧
  b = b) ∧
  mayN a_6.l = mayN a_6.l ∧
  ((0 : Nat) = (0 : Nat) ∧
  Min.min a_4.n (8 : Nat) = Min.min a_4.n (8 : Nat) ∧
  a_4.cap = a_4.cap) ∧
  Bool.false = Bool.false ∧
  Bool.true = Bool.true ∧
  Bool.false = Bool.false ∧
  ((ptsOf a_8.l).length ≤ (ptsOf a_8.l).length ∧
  RowsEq (ptsOf a_8.l).length (2 : Nat) (encRows encPt (ptsOf a_8.l)) (encRows encPt (ptsOf a_8.l))) ∧
  (a.n ≤ a.n ∧
  RowsEq a.n (1 : Nat) a.rows a.rows) ∧
  a' ≤ (ptsOf (nsOf a)).length ∧
  (ptsOf (nsOf a)).length - a' < (ptsOf (nsOf a)).length - a_26)))) ∧
  (Decidable.decide ((↑a_26 : Int) < (↑(ptsOf a_8.l).length : Int)) = Bool.false →
  (((↑(cntTo (ptsOf (nsOf a)) (ptE a a_20 a_23) a_26) : Int) != (1 : Int)) = Bool.true →
  ∃ (b : Unit), Bool.false = Bool.true ∧
  True ∧
  True) ∧
  (((↑(cntTo (ptsOf (nsOf a)) (ptE a a_20 a_23) a_26) : Int) != (1 : Int)) = Bool.false →
  InR IntKind.i64 ((↑a_23 : Int) + (1 : Int)) ∧
  ∃ (a' : Nat), (↑a_23 : Int) + (1 : Int) = (↑a' : Int) ∧
  Decidable.decide ((↑a_20 : Int) < (↑(Min.min a_4.n (8 : Nat)) : Int)) = Decidable.decide ((↑a_20 : Int) < (↑(Min.min a_4.n (8 : Nat)) : Int)) ∧
  (↑a_20 : Int) = (↑a_20 : Int) ∧
  Decidable.decide ((↑a_17 : Int) < (↑(ptsOf a_8.l).length : Int)) = Decidable.decide ((↑a_17 : Int) < (↑(ptsOf a_8.l).length : Int)) ∧
  (↑a_17 : Int) = (↑a_17 : Int) ∧
  ((↑(ptsOf a_8.l).length : Int) != (8 : Int) * (↑(Min.min a_4.n (8 : Nat)) : Int)) = ((↑(ptsOf a_8.l).length : Int) != (8 : Int) * (↑(Min.min a_4.n (8 : Nat)) : Int)) ∧
  (!mayN a_6.l) = !mayN a_6.l ∧
  ((↑(ptsOf a_8.l).length : Int) != (0 : Int)) = ((↑(ptsOf a_8.l).length : Int) != (0 : Int)) ∧
  ((0 : Nat) = (0 : Nat) ∧
  (ptsOf a_8.l).length = (ptsOf a_8.l).length ∧
  b = b) ∧
  mayN a_6.l = mayN a_6.l ∧
  ((0 : Nat) = (0 : Nat) ∧
  Min.min a_4.n (8 : Nat) = Min.min a_4.n (8 : Nat) ∧
  a_4.cap = a_4.cap) ∧
  Bool.false = Bool.false ∧
  Bool.true = Bool.true ∧
  Bool.false = Bool.false ∧
  ((ptsOf a_8.l).length ≤ (ptsOf a_8.l).length ∧
  RowsEq (ptsOf a_8.l).length (2 : Nat) (encRows encPt (ptsOf a_8.l)) (encRows encPt (ptsOf a_8.l))) ∧
  (a.n ≤ a.n ∧
  RowsEq a.n (1 : Nat) a.rows a.rows) ∧
  a' ≤ (8 : Nat) ∧
  (8 : Nat) - a' < (8 : Nat) - a_23))) ∧
  (Decidable.decide ((↑a_23 : Int) < (8 : Int)) = Bool.false →
  InR IntKind.i64 ((↑a_20 : Int) + (1 : Int)) ∧
  ∃ (a' : Nat), (↑a_20 : Int) + (1 : Int) = (↑a' : Int) ∧
  Decidable.decide ((↑a_17 : Int) < (↑(ptsOf a_8.l).length : Int)) = Decidable.decide ((↑a_17 : Int) < (↑(ptsOf a_8.l).length : Int)) ∧
  (↑a_17 : Int) = (↑a_17 : Int) ∧
  ((↑(ptsOf a_8.l).length : Int) != (8 : Int) * (↑(Min.min a_4.n (8 : Nat)) : Int)) = ((↑(ptsOf a_8.l).length : Int) != (8 : Int) * (↑(Min.min a_4.n (8 : Nat)) : Int)) ∧
  (!mayN a_6.l) = !mayN a_6.l ∧
  ((↑(ptsOf a_8.l).length : Int) != (0 : Int)) = ((↑(ptsOf a_8.l).length : Int) != (0 : Int)) ∧
  ((0 : Nat) = (0 : Nat) ∧
  (ptsOf a_8.l).length = (ptsOf a_8.l).length ∧
  b = b) ∧
  mayN a_6.l = mayN a_6.l ∧
  ((0 : Nat) = (0 : Nat) ∧
  Min.min a_4.n (8 : Nat) = Min.min a_4.n (8 : Nat) ∧
  a_4.cap = a_4.cap) ∧
  Bool.false = Bool.false ∧
  Bool.true = Bool.true ∧
  Bool.false = Bool.false ∧
  ((ptsOf a_8.l).length ≤ (ptsOf a_8.l).length ∧
  RowsEq (ptsOf a_8.l).length (2 : Nat) (encRows encPt (ptsOf a_8.l)) (encRows encPt (ptsOf a_8.l))) ∧
  (a.n ≤ a.n ∧
  RowsEq a.n (1 : Nat) a.rows a.rows) ∧
  a' ≤ (nsOf a).length ∧
  (nsOf a).length - a' < (nsOf a).length - a_20)) ∧
  (Decidable.decide ((↑a_20 : Int) < (↑(Min.min a_4.n (8 : Nat)) : Int)) = Bool.false →
  ∃ (b : Unit), Bool.true = Bool.true ∧
  True ∧
  True)))))) ∧
  ((!mayN a_6.l) = Bool.false →
  ((!mayN a_6.l) = Bool.true →
  ∃ (b : Unit), Bool.true = Bool.true ∧
  True ∧
  True) ∧
  ((!mayN a_6.l) = Bool.false →
  InR IntKind.i64 ((8 : Int) * (↑(Min.min a_4.n (8 : Nat)) : Int)) ∧
  (((↑(ptsOf a_8.l).length : Int) != (8 : Int) * (↑(Min.min a_4.n (8 : Nat)) : Int)) = Bool.true →
  ∃ (b : Unit), Bool.false = Bool.true ∧
  True ∧
  True) ∧
  (((↑(ptsOf a_8.l).length : Int) != (8 : Int) * (↑(Min.min a_4.n (8 : Nat)) : Int)) = Bool.false →
  (∃ (a_16 : Nat), (1 : Int) = (↑a_16 : Int) ∧
  ((↑(ptsOf a_8.l).length : Int) != (8 : Int) * (↑(Min.min a_4.n (8 : Nat)) : Int)) = ((↑(ptsOf a_8.l).length : Int) != (8 : Int) * (↑(Min.min a_4.n (8 : Nat)) : Int)) ∧
  (!mayN a_6.l) = !mayN a_6.l ∧
  Bool.false = Bool.false ∧
  ((0 : Nat) = (0 : Nat) ∧
  (ptsOf a_8.l).length = (ptsOf a_8.l).length ∧
  b = b) ∧
  mayN a_6.l = mayN a_6.l ∧
  ((0 : Nat) = (0 : Nat) ∧
  Min.min a_4.n (8 : Nat) = Min.min a_4.n (8 : Nat) ∧
  a_4.cap = a_4.cap) ∧
  Bool.false = Bool.false ∧
  Bool.true = Bool.true ∧
  Bool.false = Bool.false ∧
  ((ptsOf a_8.l).length ≤ (ptsOf a_8.l).length ∧
  RowsEq (ptsOf a_8.l).length (2 : Nat) (encRows encPt (ptsOf a_8.l)) (encRows encPt (ptsOf a_8.l))) ∧
  (a.n ≤ a.n ∧
  RowsEq a.n (1 : Nat) a.rows a.rows) ∧
  ((1 : Nat) ≤ a_16 ∧
  a_16 ≤ (ptsOf (nsOf a)).length) ∧
  True) ∧
  ∀ (a_16 : Nat), (1 : Nat) ≤ a_16 ∧
  a_16 ≤ (ptsOf (nsOf a)).length →
  (Decidable.decide ((↑a_16 : Int) < (↑(ptsOf a_8.l).length : Int)) = Bool.true →
  InR IntKind.i64 ((↑a_16 : Int) - (1 : Int)) ∧
  ((0 : Int) ≤ (↑a_16 : Int) - (1 : Int) ∧
  (↑a_16 : Int) - (1 : Int) < (↑(ptsOf a_8.l).length : Int)) ∧
  (0 : Nat) + ((↑a_16 : Int) - (1 : Int)).toNat < (ptsOf a_8.l).length ∧
  ((0 : Int) ≤ (↑a_16 : Int) ∧
  (↑a_16 : Int) < (↑(ptsOf a_8.l).length : Int)) ∧
  (0 : Nat) + (↑a_16 : Int).toNat < (ptsOf a_8.l).length ∧
  ∃ (a_19 : PairA), (gl (ptsOf a_8.l) ((0 : Nat) + ((↑a_16 : Int) - (1 : Int)).toNat)).fst = a_19.a1 ∧
  (gl (ptsOf a_8.l) ((0 : Nat) + ((↑a_16 : Int) - (1 : Int)).toNat)).snd = a_19.a2 ∧
  (gl (ptsOf a_8.l) ((0 : Nat) + (↑a_16 : Int).toNat)).fst = a_19.b1 ∧
  (gl (ptsOf a_8.l) ((0 : Nat) + (↑a_16 : Int).toNat)).snd = a_19.b2 ∧
  True ∧
  ∀ (b_2 : Unit), True →
  ((!lessPt (a_19.a1, a_19.a2) (a_19.b1, a_19.b2)) = Bool.true →
  ∃ (b : Unit), Bool.false = Bool.true ∧
  True ∧
  True) ∧
  ((!lessPt (a_19.a1, a_19.a2) (a_19.b1, a_19.b2)) = Bool.false →
  InR IntKind.i64 ((↑a_16 : Int) + (1 : Int)) ∧
  ∃ (a' : Nat), (↑a_16 : Int) + (1 : Int) = (↑a' : Int) ∧
  ((↑(ptsOf a_8.l).length : Int) != (8 : Int) * (↑(Min.min a_4.n (8 : Nat)) : Int)) = ((↑(ptsOf a_8.l).length : Int) != (8 : Int) * (↑(Min.min a_4.n (8 : Nat)) : Int)) ∧
  (!mayN a_6.l) = !mayN a_6.l ∧
  Bool.false = Bool.false ∧
  ((0 : Nat) = (0 : Nat) ∧
  (ptsOf a_8.l).length = (ptsOf a_8.l).length ∧
  b = b) ∧
  mayN a_6.l = mayN a_6.l ∧
  ((0 : Nat) = (0 : Nat) ∧
  Min.min a_4.n (8 : Nat) = Min.min a_4.n (8 : Nat) ∧
  a_4.cap = a_4.cap) ∧
  Bool.false = Bool.false ∧
  Bool.true = Bool.true ∧
  Bool.false = Bool.false ∧
  ((ptsOf a_8.l).length ≤ (ptsOf a_8.l).length ∧
  RowsEq (ptsOf a_8.l).length (2 : Nat) (encRows encPt (ptsOf a_8.l)) (encRows encPt (ptsOf a_8.l))) ∧
  (a.n ≤ a.n ∧
  RowsEq a.n (1 : Nat) a.rows a.rows) ∧
  ((1 : Nat) ≤ a' ∧
  a' ≤ (ptsOf (nsOf a)).length) ∧
  (ptsOf (nsOf a)).length - a' < (ptsOf (nsOf a)).length - a_16)) ∧
  (Decidable.decide ((↑a_16 : Int) < (↑(ptsOf a_8.l).length : Int)) = Bool.false →
  (∃ (a_19 : Nat), (0 : Int) = (↑a_19 : Int) ∧
  Decidable.decide ((↑a_16 : Int) < (↑(ptsOf a_8.l).length : Int)) = Decidable.decide ((↑a_16 : Int) < (↑(ptsOf a_8.l).length : Int)) ∧
  (↑a_16 : Int) = (↑a_16 : Int) ∧
  ((↑(ptsOf a_8.l).length : Int) != (8 : Int) * (↑(Min.min a_4.n (8 : Nat)) : Int)) = ((↑(ptsOf a_8.l).length : Int) != (8 : Int) * (↑(Min.min a_4.n (8 : Nat)) : Int)) ∧
  (!mayN a_6.l) = !mayN a_6.l ∧
  Bool.false = Bool.false ∧
  ((0 : Nat) = (0 : Nat) ∧
  (ptsOf a_8.l).length = (ptsOf a_8.l).length ∧
  b = b) ∧
  mayN a_6.l = mayN a_6.l ∧
  ((0 : Nat) = (0 : Nat) ∧
  Min.min a_4.n (8 : Nat) = Min.min a_4.n (8 : Nat) ∧
  a_4.cap = a_4.cap) ∧
  Bool.false = Bool.false ∧
  Bool.true = Bool.true ∧
  Bool.false = Bool.false ∧
  ((ptsOf a_8.l).length ≤ (ptsOf a_8.l).length ∧
  RowsEq (ptsOf a_8.l).length (2 : Nat) (encRows encPt (ptsOf a_8.l)) (encRows encPt (ptsOf a_8.l))) ∧
  (a.n ≤ a.n ∧
  RowsEq a.n (1 : Nat) a.rows a.rows) ∧
  a_19 ≤ (nsOf a).length ∧
  True) ∧
  ∀ (a_19 : Nat), a_19 ≤ (nsOf a).length →
  (Decidable.decide ((↑a_19 : Int) < (↑(Min.min a_4.n (8 : Nat)) : Int)) = Bool.true →
  (∃ (a_22 : Nat), (0 : Int) = (↑a_22 : Int) ∧
  Decidable.decide ((↑a_19 : Int) < (↑(Min.min a_4.n (8 : Nat)) : Int)) = Decidable.decide ((↑a_19 : Int) < (↑(Min.min a_4.n (8 : Nat)) : Int)) ∧
  (↑a_19 : Int) = (↑a_19 : Int) ∧
  Decidable.decide ((↑a_16 : Int) < (↑(ptsOf a_8.l).length : Int)) = Decidable.decide ((↑a_16 : Int) < (↑(ptsOf a_8.l).length : Int)) ∧
  (↑a_16 : Int) = (↑a_16 : Int) ∧
  ((↑(ptsOf a_8.l).length : Int) != (8 : Int) * (↑(Min.min a_4.n (8 : Nat)) : Int)) = ((↑(ptsOf a_8.l).length : Int) != (8 : Int) * (↑(Min.min a_4.n (8 : Nat)) : Int)) ∧
  (!mayN a_6.l) = !mayN a_6.l ∧
  Bool.false = Bool.false ∧
  ((0 : Nat) = (0 : Nat) ∧
  (ptsOf a_8.l).length = (ptsOf a_8.l).length ∧
  b = b) ∧
  mayN a_6.l = mayN a_6.l ∧
  ((0 : Nat) = (0 : Nat) ∧
  Min.min a_4.n (8 : Nat) = Min.min a_4.n (8 : Nat) ∧
  a_4.cap = a_4.cap) ∧
  Bool.false = Bool.false ∧
  Bool.true = Bool.true ∧
  Bool.false = Bool.false ∧
  ((ptsOf a_8.l).length ≤ (ptsOf a_8.l).length ∧
  RowsEq (ptsOf a_8.l).length (2 : Nat) (encRows encPt (ptsOf a_8.l)) (encRows encPt (ptsOf a_8.l))) ∧
  (a.n ≤ a.n ∧
  RowsEq a.n (1 : Nat) a.rows a.rows) ∧
  a_22 ≤ (8 : Nat) ∧
  True) ∧
  ∀ (a_22 : Nat), a_22 ≤ (8 : Nat) →
  (Decidable.decide ((↑a_22 : Int) < (8 : Int)) = Bool.true →
  (∃ (a_25 : Nat), (0 : Int) = (↑a_25 : Int) ∧
  (0 : Int) = (↑(cntTo (ptsOf (nsOf a)) (ptE a a_19 a_22) a_25) : Int) ∧
  Decidable.decide ((↑a_22 : Int) < (8 : Int)) = Decidable.decide ((↑a_22 : Int) < (8 : Int)) ∧
  (↑a_22 : Int) = (↑a_22 : Int) ∧
  Decidable.decide ((↑a_19 : Int) < (↑(Min.min a_4.n (8 : Nat)) : Int)) = Decidable.decide ((↑a_19 : Int) < (↑(Min.min a_4.n (8 : Nat)) : Int)) ∧
  (↑a_19 : Int) = (↑a_19 : Int) ∧
  Decidable.decide ((↑a_16 : Int) < (↑(ptsOf a_8.l).length : Int)) = Decidable.decide ((↑a_16 : Int) < (↑(ptsOf a_8.l).length : Int)) ∧
  (↑a_16 : Int) = (↑a_16 : Int) ∧
  ((↑(ptsOf a_8.l).length : Int) != (8 : Int) * (↑(Min.min a_4.n (8 : Nat)) : Int)) = ((↑(ptsOf a_8.l).length : Int) != (8 : Int) * (↑(Min.min a_4.n (8 : Nat)) : Int)) ∧
  (!mayN a_6.l) = !mayN a_6.l ∧
  Bool.false = Bool.false ∧
  ((0 : Nat) = (0 : Nat) ∧
  (ptsOf a_8.l).length = (ptsOf a_8.l).length ∧
  b = b) ∧
  mayN a_6.l = mayN a_6.l ∧
  ((0 : Nat) = (0 : Nat) ∧
  Min.min a_4.n (8 : Nat) = Min.min a_4.n (8 : Nat) ∧
  a_4.cap = a_4.cap) ∧
  Bool.false = Bool.false ∧
  Bool.true = Bool.true ∧
  Bool.false = Bool.false ∧
  ((ptsOf a_8.l).length ≤ (ptsOf a_8.l).length ∧
  RowsEq (ptsOf a_8.l).length (2 : Nat) (encRows encPt (ptsOf a_8.l)) (encRows encPt (ptsOf a_8.l))) ∧
  (a.n ≤ a.n ∧
  RowsEq a.n (1 : Nat) a.rows a.rows) ∧
  a_25 ≤ (ptsOf (nsOf a)).length ∧
  True) ∧
  ∀ (a_25 : Nat), a_25 ≤ (ptsOf (nsOf a)).length →
  (Decidable.decide ((↑a_25 : Int) < (↑(ptsOf a_8.l).length : Int)) = Bool.true →
  ((0 : Int) ≤ (↑a_25 : Int) ∧
  (↑a_25 : Int) < (↑(ptsOf a_8.l).length : Int)) ∧
  (0 : Nat) + (↑a_25 : Int).toNat < (ptsOf a_8.l).length ∧
  (InR IntKind.i64 (gl (ptsOf a_8.l) ((0 : Nat) + (↑a_25 : Int).toNat)).snd →
  ((0 : Int) ≤ (↑a_19 : Int) ∧
  (↑a_19 : Int) < (↑(Min.min a_4.n (8 : Nat)) : Int)) ∧
  (0 : Nat) + (↑a_19 : Int).toNat < a.n ∧
  (InR IntKind.i64 (toI (a.rows ((0 : Nat) + (↑a_19 : Int).toNat) (0 : Nat))) →
  (((gl (ptsOf a_8.l) ((0 : Nat) + (↑a_25 : Int).toNat)).snd == toI (a.rows ((0 : Nat) + (↑a_19 : Int).toNat) (0 : Nat))) = Bool.true →
  ((0 : Int) ≤ (↑a_25 : Int) ∧
  (↑a_25 : Int) < (↑(ptsOf a_8.l).length : Int)) ∧
  (0 : Nat) + (↑a_25 : Int).toNat < (ptsOf a_8.l).length ∧
  (InR IntKind.u64 (gl (ptsOf a_8.l) ((0 : Nat) + (↑a_25 : Int).toNat)).fst →
  ((0 : Int) ≤ (↑a_19 : Int) ∧
  (↑a_19 : Int) < (↑(Min.min a_4.n (8 : Nat)) : Int)) ∧
  (0 : Nat) + (↑a_19 : Int).toNat < a.n ∧
  (InR IntKind.i64 (toI (a.rows ((0 : Nat) + (↑a_19 : Int).toNat) (0 : Nat))) →
  ∃ (a_33 : Int × Int), toI (a.rows ((0 : Nat) + (↑a_19 : Int).toNat) (0 : Nat)) = a_33.fst ∧
  (↑a_22 : Int) = a_33.snd ∧
  ((0 : Int) ≤ a_33.fst ∧
  a_33.fst ≤ (100 : Int) ∧
  (0 : Int) ≤ a_33.snd ∧
  a_33.snd ≤ (100 : Int)) ∧
  ∀ (b_2 : Unit), True →
  (((gl (ptsOf a_8.l) ((0 : Nat) + (↑a_25 : Int).toNat)).fst == pointI a_33.fst a_33.snd) = Bool.true →
  InR IntKind.i64 ((↑(cntTo (ptsOf (nsOf a)) (ptE a a_19 a_22) a_25) : Int) + (1 : Int)) ∧
  InR IntKind.i64 ((↑a_25 : Int) + (1 : Int)) ∧
  ∃ (a' : Nat), (↑a_25 : Int) + (1 : Int) = (↑a' : Int) ∧
  (↑(cntTo (ptsOf (nsOf a)) (ptE a a_19 a_22) a_25) : Int) + (1 : Int) = (↑(cntTo (ptsOf (nsOf a)) (ptE a a_19 a_22) a') : Int) ∧
  Decidable.decide ((↑a_22 : Int) < (8 : Int)) = Decidable.decide ((↑a_22 : Int) < (8 : Int)) ∧
  (↑a_22 : Int) = (↑a_22 : Int) ∧
  Decidable.decide ((↑a_19 : Int) < (↑(Min.min a_4.n (8 : Nat)) : Int)) = Decidable.decide ((↑a_19 : Int) < (↑(Min.min a_4.n (8 : Nat)) : Int)) ∧
  (↑a_19 : Int) = (↑a_19 : Int) ∧
  Decidable.decide ((↑a_16 : Int) < (↑(ptsOf a_8.l).length : Int)) = Decidable.decide ((↑a_16 : Int) < (↑(ptsOf a_8.l).length : Int)) ∧
  (↑a_16 : Int) = (↑a_16 : Int) ∧
  ((↑(ptsOf a_8.l).length : Int) != (8 : Int) * (↑(Min.min a_4.n (8 : Nat)) : Int)) = ((↑(ptsOf a_8.l).length : Int) != (8 : Int) * (↑(Min.min a_4.n (8 : Nat)) : Int)) ∧
  (!mayN a_6.l) = !mayN a_6.l ∧
  Bool.false = Bool.false ∧
  ((0 : Nat) = (0 : Nat) ∧
  (ptsOf a_8.l).length = (ptsOf a_8.l).length ∧
  b = b) ∧
  mayN a_6.l = mayN a_6.l ∧
  ((0 : Nat) = (0 : Nat) ∧
  Min.min a_4.n (8 : Nat) = Min.min a_4.n (8 : Nat) ∧
  a_4.cap = a_4.cap) ∧
  Bool.false = Bool.false ∧
  Bool.true = Bool.true ∧
  Bool.false = Bool.false ∧
  ((ptsOf a_8.l).length ≤ (ptsOf a_8.l).length ∧
  RowsEq (ptsOf a_8.l).length (2 : Nat) (encRows encPt (ptsOf a_8.l)) (encRows encPt (ptsOf a_8.l))) ∧
  (a.n ≤ a.n ∧
  RowsEq a.n (1 : Nat) a.rows a.rows) ∧
  a' ≤ (ptsOf (nsOf a)).length ∧
  (ptsOf (nsOf a)).length - a' < (ptsOf (nsOf a)).length - a_25) ∧
  (((gl (ptsOf a_8.l) ((0 : Nat) + (↑a_25 : Int).toNat)).fst == pointI a_33.fst a_33.snd) = Bool.false →
  InR IntKind.i64 ((↑a_25 : Int) + (1 : Int)) ∧
  ∃ (a' : Nat), (↑a_25 : Int) + (1 : Int) = (↑a' : Int) ∧
  (↑(cntTo (ptsOf (nsOf a)) (ptE a a_19 a_22) a_25) : Int) = (↑(cntTo (ptsOf (nsOf a)) (ptE a a_19 a_22) a') : Int) ∧
  Decidable.decide ((↑a_22 : Int) < (8 : Int)) = Decidable.decide ((↑a_22 : Int) < (8 : Int)) ∧
  (↑a_22 : Int) = (↑a_22 : Int) ∧
  Decidable.decide ((↑a_19 : Int) < (↑(Min.min a_4.n (8 : Nat)) : Int)) = Decidable.decide ((↑a_19 : Int) < (↑(Min.min a_4.n (8 : Nat)) : Int)) ∧
  (↑a_19 : Int) = (↑a_19 : Int) ∧
  Decidable.decide ((↑a_16 : Int) < (↑(ptsOf a_8.l).length : Int)) = Decidable.decide ((↑a_16 : Int) < (↑(ptsOf a_8.l).length : Int)) ∧
  (↑a_16 : Int) = (↑a_16 : Int) ∧
  ((↑(ptsOf a_8.l).length : Int) != (8 : Int) * (↑(Min.min a_4.n (8 : Nat)) : Int)) = ((↑(ptsOf a_8.l).length : Int) != (8 : Int) * (↑(Min.min a_4.n (8 : Nat)) : Int)) ∧
  (!mayN a_6.l) = !mayN a_6.l ∧
  Bool.false = Bool.false ∧
  ((0 : Nat) = (0 : Nat) ∧
  (ptsOf a_8.l).length = (ptsOf a_8.l).length ∧
  b = b) ∧
  mayN a_6.l = mayN a_6.l ∧
  ((0 : Nat) = (0 : Nat) ∧
  Min.min a_4.n (8 : Nat) = Min.min a_4.n (8 : Nat) ∧
  a_4.cap = a_4.cap) ∧
  Bool.false = Bool.false ∧
  Bool.true = Bool.true ∧
  Bool.false = Bool.false ∧
  ((ptsOf a_8.l).length ≤ (ptsOf a_8.l).length ∧
  RowsEq (ptsOf a_8.l).length (2 : Nat) (encRows encPt (ptsOf a_8.l)) (encRows encPt (ptsOf a_8.l))) ∧
  (a.n ≤ a.n ∧
  RowsEq a.n (1 : Nat) a.rows a.rows) ∧
  a' ≤ (ptsOf (nsOf a)).length ∧
  (ptsOf (nsOf a)).length - a' < (ptsOf (nsOf a)).length - a_25)))) ∧
  (((gl (ptsOf a_8.l) ((0 : Nat) + (↑a_25 : Int).toNat)).snd == toI (a.rows ((0 : Nat) + (↑a_19 : Int).toNat) (0 : Nat))) = Bool.false →
  InR IntKind.i64 ((↑a_25 : Int) + (1 : Int)) ∧
  ∃ (a' : Nat), (↑a_25 : Int) + (1 : Int) = (↑a' : Int) ∧
  (↑(cntTo (ptsOf (nsOf a)) (ptE a a_19 a_22) a_25) : Int) = (↑(cntTo (ptsOf (nsOf a)) (ptE a a_19 a_22) a') : Int) ∧
  Decidable.decide ((↑a_22 : Int) < (8 : Int)) = Decidable.decide ((↑a_22 : Int) < (8 : Int)) ∧
  (↑a_22 : Int) = (↑a_22 : Int) ∧
  Decidable.decide ((↑a_19 : Int) < (↑(Min.min a_4.n (8 : Nat)) : Int)) = Decidable.decide ((↑a_19 : Int) < (↑(Min.min a_4.n (8 : Nat)) : Int)) ∧
  (↑a_19 : Int) = (↑a_19 : Int) ∧
  Decidable.decide ((↑a_16 : Int) < (↑(ptsOf a_8.l).length : Int)) = Decidable.decide ((↑a_16 : Int) < (↑(ptsOf a_8.l).length : Int)) ∧
  (↑a_16 : Int) = (↑a_16 : Int) ∧
  ((↑(ptsOf a_8.l).length : Int) != (8 : Int) * (↑(Min.min a_4.n (8 : Nat)) : Int)) = ((↑(ptsOf a_8.l).length : Int) != (8 : Int) * (↑(Min.min a_4.n (8 : Nat)) : Int)) ∧
  (!mayN a_6.l) = !mayN a_6.l ∧
  Bool.false = Bool.false ∧
  ((0 : Nat) = (0 : Nat) ∧
  (ptsOf a_8.l).length = (ptsOf a_8.l).length ∧
  b = b) ∧
  mayN a_6.l = mayN a_6.l ∧
  ((0 : Nat) = (0 : Nat) ∧
  Min.min a_4.n (8 : Nat) = Min.min a_4.n (8 : Nat) ∧
  a_4.cap = a_4.cap) ∧
  Bool.false = Bool.false ∧
  Bool.true = Bool.true ∧
  Bool.false = Bool.false ∧
  ((ptsOf a_8.l).length ≤ (ptsOf a_8.l).length ∧
  RowsEq (ptsOf a_8.l).length (2 : Nat) (encRows encPt (ptsOf a_8.l)) (encRows encPt (ptsOf a_8.l))) ∧
  (a.n ≤ a.n ∧
  RowsEq a.n (1 : Nat) a.rows a.rows) ∧
  a' ≤ (ptsOf (nsOf a)).length ∧
  (ptsOf (nsOf a)).length - a' < (ptsOf (nsOf a)).length - a_25)))) ∧
  (Decidable.decide ((↑a_25 : Int) < (↑(ptsOf a_8.l).length : Int)) = Bool.false →
  (((↑(cntTo (ptsOf (nsOf a)) (ptE a a_19 a_22) a_25) : Int) != (1 : Int)) = Bool.true →
  ∃ (b : Unit), Bool.false = Bool.true ∧
  True ∧
  True) ∧
  (((↑(cntTo (ptsOf (nsOf a)) (ptE a a_19 a_22) a_25) : Int) != (1 : Int)) = Bool.false →
  InR IntKind.i64 ((↑a_22 : Int) + (1 : Int)) ∧
  ∃ (a' : Nat), (↑a_22 : Int) + (1 : Int) = (↑a' : Int) ∧
  Decidable.decide ((↑a_19 : Int) < (↑(Min.min a_4.n (8 : Nat)) : Int)) = Decidable.decide ((↑a_19 : Int) < (↑(Min.min a_4.n (8 : Nat)) : Int)) ∧
  (↑a_19 : Int) = (↑a_19 : Int) ∧
  Decidable.decide ((↑a_16 : Int) < (↑(ptsOf a_8.l).length : Int)) = Decidable.decide ((↑a_16 : Int) < (↑(ptsOf a_8.l).length : Int)) ∧
  (↑a_16 : Int) = (↑a_16 : Int) ∧
  ((↑(ptsOf a_8.l).length : Int) != (8 : Int) * (↑(Min.min a_4.n (8 : Nat)) : Int)) = ((↑(ptsOf a_8.l).length : Int) != (8 : Int) * (↑(Min.min a_4.n (8 : Nat)) : Int)) ∧
  (!mayN a_6.l) = !mayN a_6.l ∧
  Bool.false = Bool.false ∧
  ((0 : Nat) = (0 : Nat) ∧
  (ptsOf a_8.l).length = (ptsOf a_8.l).length ∧
  b = b) ∧
  mayN a_6.l = mayN a_6.l ∧
  ((0 : Nat) = (0 : Nat) ∧
  Min.min a_4.n (8 : Nat) = Min.min a_4.n (8 : Nat) ∧
  a_4.cap = a_4.cap) ∧
  Bool.false = Bool.false ∧
  Bool.true = Bool.true ∧
  Bool.false = Bool.false ∧
  ((ptsOf a_8.l).length ≤ (ptsOf a_8.l).length ∧
  RowsEq (ptsOf a_8.l).length (2 : Nat) (encRows encPt (ptsOf a_8.l)) (encRows encPt (ptsOf a_8.l))) ∧
  (a.n ≤ a.n ∧
  RowsEq a.n (1 : Nat) a.rows a.rows) ∧
  a' ≤ (8 : Nat) ∧
  (8 : Nat) - a' < (8 : Nat) - a_22))) ∧
  (Decidable.decide ((↑a_22 : Int) < (8 : Int)) = Bool.false →
  InR IntKind.i64 ((↑a_19 : Int) + (1 : Int)) ∧
  ∃ (a' : Nat), (↑a_19 : Int) + (1 : Int) = (↑a' : Int) ∧
  Decidable.decide ((↑a_16 : Int) < (↑(ptsOf a_8.l).length : Int)) = Decidable.decide ((↑a_16 : Int) < (↑(ptsOf a_8.l).length : Int)) ∧
  (↑a_16 : Int) = (↑a_16 : Int) ∧
  ((↑(ptsOf a_8.l).length : Int) != (8 : Int) * (↑(Min.min a_4.n (8 : Nat)) : Int)) = ((↑(ptsOf a_8.l).length : Int) != (8 : Int) * (↑(Min.min a_4.n (8 : Nat)) : Int)) ∧
  (!mayN a_6.l) = !mayN a_6.l ∧
  Bool.false = Bool.false ∧
  ((0 : Nat) = (0 : Nat) ∧
  (ptsOf a_8.l).length = (ptsOf a_8.l).length ∧
  b = b) ∧
  mayN a_6.l = mayN a_6.l ∧
  ((0 : Nat) = (0 : Nat) ∧
  Min.min a_4.n (8 : Nat) = Min.min a_4.n (8 : Nat) ∧
  a_4.cap = a_4.cap) ∧
  Bool.false = Bool.false ∧
  Bool.true = Bool.true ∧
  Bool.false = Bool.false ∧
  ((ptsOf a_8.l).length ≤ (ptsOf a_8.l).length ∧
  RowsEq (ptsOf a_8.l).length (2 : Nat) (encRows encPt (ptsOf a_8.l)) (encRows encPt (ptsOf a_8.l))) ∧
  (a.n ≤ a.n ∧
  RowsEq a.n (1 : Nat) a.rows a.rows) ∧
  a' ≤ (nsOf a).length ∧
  (nsOf a).length - a' < (nsOf a).length - a_19)) ∧
  (Decidable.decide ((↑a_19 : Int) < (↑(Min.min a_4.n (8 : Nat)) : Int)) = Bool.false →
  ∃ (b : Unit), Bool.true = Bool.true ∧
  True ∧
  True))))))) (by kernel_rfl) (by
  rintro ⟨n, cap, rows⟩ ⟨h1, h2, h3⟩
  dsimp only at h1 h2 h3
  have hl : (nsOf ⟨n, cap, rows⟩).length = min n 8 := by simp [nsOf]
  have hg : ∀ i, i < min n 8 → toI (rows i 0) = gl (nsOf ⟨n, cap, rows⟩) i := fun i hi => by
    rw [gl_eq (by omega)]; simp [nsOf]
  have hr : RowsEq (min n 8) 1 rows (encRows encI (nsOf ⟨n, cap, rows⟩)) := .of_cells fun i hi => by
    show [rows i 0] = [Go.Value.int .i64 (gl (nsOf ⟨n, cap, rows⟩) i)]
    rw [← hg i hi, ← h3 i (by omega)]
  simp only [ptE]
  generalize nsOf ⟨n, cap, rows⟩ = l at *
  refine ⟨(), trivial, fun _ _ => ⟨⟨n, cap, rows⟩, ?_⟩⟩
  ((repeat' apply And.intro) <;> first | with_reducible rfl | omega | (dsimp only; omega) | exact RowsEq.refl _ _ _ | assumption | rfl | trivial | exact Nat.le_refl _ | skip)
  refine fun _ _ => ⟨⟨l, cap⟩, ?_⟩
  rw [← hl] at hr
  ((repeat' apply And.intro) <;> first | with_reducible rfl | omega | (dsimp only; omega) | exact RowsEq.refl _ _ _ | assumption | rfl | trivial | exact Nat.le_refl _ | skip)
  refine fun _ _ => ⟨⟨l, cap⟩, ?_⟩
  ((repeat' apply And.intro) <;> first | with_reducible rfl | omega | (dsimp only; omega) | exact RowsEq.refl _ _ _ | assumption | rfl | trivial | exact Nat.le_refl _ | skip)
  refine fun pc _ => ⟨⟨l, cap⟩, ?_⟩
  ((repeat' apply And.intro) <;> first | with_reducible rfl | omega | (dsimp only; omega) | exact RowsEq.refl _ _ _ | assumption | rfl | trivial | exact Nat.le_refl _ | skip)
  dsimp only
  simp only [Nat.zero_add, Int.toNat_natCast, InR]
  refine fun _ _ => ⟨fun hc => ?_, fun _ => ⟨fun c0 => ⟨fun hc => ?_, fun _ => ⟨fun _ => ⟨(), trivial, trivial, trivial⟩, fun c1 => absurd (c0.symm.trans c1) (by simp)⟩⟩, fun c0 => ⟨fun c1 => absurd (c0.symm.trans c1) (by simp), fun _ => ?_⟩⟩⟩
  · simp at hc
  · have : ptsOf l = [] := if_neg (by simpa using c0)
    rw [this] at hc; simp at hc
  have hm : mayN l = true := by simpa using c0
  have hlen := ptsOf_length hm
  have hb5 := mayN_len hm
  refine ⟨⟨by omega, by omega⟩, fun hc => ?_, fun _ => ⟨⟨1, ?_⟩, fun i ⟨i1, i2⟩ => ⟨fun c2 => ?_, fun c2 => ⟨⟨0, ?_⟩, fun j j1 => ⟨fun c3 => ⟨⟨0, ?_⟩, fun k k1 => ⟨fun c4 => ⟨⟨0, ?_⟩, fun q q1 => ⟨fun c5 => ?_, fun c5 => ?_⟩⟩, fun c4 => ?_⟩⟩, fun _ => ⟨(), trivial, trivial, trivial⟩⟩⟩⟩⟩⟩
  · simp only [bne_iff_ne] at hc; omega
  · have := mayN_pos hm
    ((repeat' apply And.intro) <;> first | with_reducible rfl | omega | (dsimp only; omega) | exact RowsEq.refl _ _ _ | assumption | rfl | trivial | exact Nat.le_refl _ | skip)
  · simp only [decide_eq_true_eq] at c2
    have hlt : lessPt ((gl (ptsOf l) (i - 1)).1, (gl (ptsOf l) (i - 1)).2) ((gl (ptsOf l) i).1, (gl (ptsOf l) i).2) = true := ptsOf_lt hm (by omega) (by omega)
    have ei : ((i : Int) - 1).toNat = i - 1 := by omega
    rw [ei]
    ((repeat' apply And.intro) <;> first | with_reducible rfl | omega | (dsimp only; omega) | exact RowsEq.refl _ _ _ | assumption | rfl | trivial | exact Nat.le_refl _ | skip)
    refine ⟨⟨(gl (ptsOf l) (i - 1)).1, (gl (ptsOf l) (i - 1)).2, (gl (ptsOf l) i).1, (gl (ptsOf l) i).2⟩, ?_⟩
    ((repeat' apply And.intro) <;> first | with_reducible rfl | omega | (dsimp only; omega) | exact RowsEq.refl _ _ _ | assumption | rfl | trivial | exact Nat.le_refl _ | skip)
    dsimp only
    rw [hlt]
    refine fun _ _ => ⟨fun hc => (by simp at hc), fun _ => ⟨by omega, i + 1, ?_⟩⟩
    ((repeat' apply And.intro) <;> first | with_reducible rfl | omega | (dsimp only; omega) | exact RowsEq.refl _ _ _ | assumption | rfl | trivial | exact Nat.le_refl _ | skip)
  · ((repeat' apply And.intro) <;> first | with_reducible rfl | omega | (dsimp only; omega) | exact RowsEq.refl _ _ _ | assumption | rfl | trivial | exact Nat.le_refl _ | skip)
  · ((repeat' apply And.intro) <;> first | with_reducible rfl | omega | (dsimp only; omega) | exact RowsEq.refl _ _ _ | assumption | rfl | trivial | exact Nat.le_refl _ | skip)
  · ((repeat' apply And.intro) <;> first | with_reducible rfl | omega | (dsimp only; omega) | exact RowsEq.refl _ _ _ | assumption | rfl | trivial | exact Nat.le_refl _ | skip)
  · simp only [decide_eq_true_eq] at c3 c4 c5
    have eg := hg j (by omega)
    have hbj := mayN_at hm (show j < l.length by omega)
    rw [eg]
    have cS : cntTo (ptsOf l) (pointI (gl l j) k, gl l j) (q + 1) = cntTo (ptsOf l) (pointI (gl l j) k, gl l j) q + if gl (ptsOf l) q = (pointI (gl l j) k, gl l j) then 1 else 0 := rfl
    have cle := cntTo_le (ptsOf l) (pointI (gl l j) k, gl l j) q
    ((repeat' apply And.intro) <;> first | with_reducible rfl | omega | (dsimp only; omega) | exact RowsEq.refl _ _ _ | assumption | rfl | trivial | exact Nat.le_refl _ | skip)
    intro _
    ((repeat' apply And.intro) <;> first | with_reducible rfl | omega | (dsimp only; omega) | exact RowsEq.refl _ _ _ | assumption | rfl | trivial | exact Nat.le_refl _ | skip)
    refine fun _ => ⟨fun c6 => ?_, fun c6 => ?_⟩
    · simp only [beq_iff_eq] at c6
      ((repeat' apply And.intro) <;> first | with_reducible rfl | omega | (dsimp only; omega) | exact RowsEq.refl _ _ _ | assumption | rfl | trivial | exact Nat.le_refl _ | skip)
      intro _
      ((repeat' apply And.intro) <;> first | with_reducible rfl | omega | (dsimp only; omega) | exact RowsEq.refl _ _ _ | assumption | rfl | trivial | exact Nat.le_refl _ | skip)
      refine fun _ => ⟨(gl l j, (k : Int)), ?_⟩
      ((repeat' apply And.intro) <;> first | with_reducible rfl | omega | (dsimp only; omega) | exact RowsEq.refl _ _ _ | assumption | rfl | trivial | exact Nat.le_refl _ | skip)
      refine fun _ _ => ⟨fun c7 => ?_, fun c7 => ?_⟩
      · simp only [beq_iff_eq] at c7
        rw [if_pos (Prod.ext c7 c6)] at cS
        refine ⟨by omega, by omega, q + 1, ?_⟩
        rw [cS]
        ((repeat' apply And.intro) <;> first | with_reducible rfl | omega | (dsimp only; omega) | exact RowsEq.refl _ _ _ | assumption | rfl | trivial | exact Nat.le_refl _ | skip)
      · simp only [beq_eq_false_iff_ne] at c7
        rw [if_neg fun h => c7 (congrArg Prod.fst h)] at cS
        refine ⟨by omega, q + 1, ?_⟩
        rw [cS]
        ((repeat' apply And.intro) <;> first | with_reducible rfl | omega | (dsimp only; omega) | exact RowsEq.refl _ _ _ | assumption | rfl | trivial | exact Nat.le_refl _ | skip)
    · simp only [beq_eq_false_iff_ne] at c6
      rw [if_neg fun h => c6 (congrArg Prod.snd h)] at cS
      refine ⟨by omega, q + 1, ?_⟩
      rw [cS]
      ((repeat' apply And.intro) <;> first | with_reducible rfl | omega | (dsimp only; omega) | exact RowsEq.refl _ _ _ | assumption | rfl | trivial | exact Nat.le_refl _ | skip)
  · simp only [decide_eq_true_eq, decide_eq_false_iff_not] at c3 c4 c5
    have eq : q = (ptsOf l).length := by omega
    subst eq
    have h1 := cnt_one hm (gl_mem (show j < l.length by omega)) (show k < 8 by omega)
    rw [h1]
    refine ⟨fun hc => ?_, fun _ => ⟨by omega, k + 1, ?_⟩⟩
    · simp at hc
    · ((repeat' apply And.intro) <;> first | with_reducible rfl | omega | (dsimp only; omega) | exact RowsEq.refl _ _ _ | assumption | rfl | trivial | exact Nat.le_refl _ | skip)
  · simp only [decide_eq_true_eq, decide_eq_false_iff_not] at c3 c4
    refine ⟨by omega, j + 1, ?_⟩
    ((repeat' apply And.intro) <;> first | with_reducible rfl | omega | (dsimp only; omega) | exact RowsEq.refl _ _ _ | assumption | rfl | trivial | exact Nat.le_refl _ | skip))

/-! ### PointsPart -/

structure PartA where
  n : Nat
  cap : Nat
  rows : Nat → Nat → Value
  node : Int
def PartA.cut (a : PartA) : CutA := ⟨a.n, a.cap, a.rows⟩
noncomputable def cPart : Con where
  α := PartA
  β := Unit
  m := 1
  m' := 1
  pre := fun a => a.n ≤ a.cap ∧ a.cap ≤ lenMax ∧ ∀ i, i < a.n → a.rows i 0 = .int .i64 (toI (a.rows i 0))
  args := fun a => [.a (.slc 0 0 1 a.n a.cap), .a (.int .i64 a.node)]
  hp := fun _ => []
  ro := fun a => [(0, .arr 3 [.int .i64] a.n a.rows)]
  post := fun _ _ => True
  res := fun _ _ => .a .tt
  hp' := fun _ _ => []
def ownTo (a : PartA) (i : Nat) : List (Int × Int) := ((ptsOf (nsOf a.cut)).take i).filter fun e => decide (e.2 = a.node)
def iP1 (a : PartA) : An := .flat 11 (Nat × Nat) (fun s x => ((s.new (.arr 31 ksPt (ownTo a x.1).length (encRows encPt (ownTo a x.1)))).set 7 (.a (.slc s.nx 0 2 (ownTo a x.1).length x.2))).int 9 x.1)
  (fun _ x => x.1 ≤ (ptsOf (nsOf a.cut)).length) (fun _ x => (ptsOf (nsOf a.cut)).length - x.1)
def iP2 (a : PartA) : An := .flat 18 Nat (fun s i => s.int 10 i) (fun _ i => i ≤ 8) (fun _ i => 8 - i)
set_option maxHeartbeats 4000000 in
theorem bodyPart : fnBody (Y Try.prog) tabPoints 5 cPart fun a => [(5, [iP1 a, iP2 a], [])] := fnBody.of (p :=
  ∀ (a : PartA), (a.n ≤ a.cap ∧
  a.cap ≤ lenMax ∧
  ∀ (i : Nat), i < a.n →
  a.rows i (0 : Nat) = Value.int IntKind.i64 (toI (a.rows i (0 : Nat)))) →
  ∃ (a_2 : Unit), True ∧
  ∀ (b : Unit), True →
  ∃ (a_4 : CutA), ((0 : Nat) = (0 : Nat) ∧
  a.n = a_4.n ∧
  a.cap = a_4.cap) ∧
  (a_4.n ≤ a.n ∧
  RowsEq a_4.n (1 : Nat) a.rows a_4.rows) ∧
  (a_4.n ≤ a_4.cap ∧
  a_4.cap ≤ lenMax) ∧
  ∀ (b : Unit), True →
  ∃ (a_6 : NodesA), ((0 : Nat) = (0 : Nat) ∧
  Min.min a_4.n (8 : Nat) = a_6.l.length ∧
  a_4.cap = a_6.cap) ∧
  (a_6.l.length ≤ a.n ∧
  RowsEq a_6.l.length (1 : Nat) a.rows (encRows encI a_6.l)) ∧
  a_6.l.length < (100000 : Nat) ∧
  ∀ (b : Unit), True →
  ((!mayN a_6.l) = Bool.true →
  ∃ (b : Unit), Bool.true = Bool.true ∧
  True ∧
  True) ∧
  ((!mayN a_6.l) = Bool.false →
  ∃ (a_9 : HasA), ((0 : Nat) = (0 : Nat) ∧
  Min.min a_4.n (8 : Nat) = a_9.l.length ∧
  a_4.cap = a_9.cap) ∧
  a.node = a_9.n ∧
  (a_9.l.length ≤ a.n ∧
  RowsEq a_9.l.length (1 : Nat) a.rows (encRows encI a_9.l)) ∧
  a_9.l.length < (100000 : Nat) ∧
  ∀ (b : Unit), True →
  ((!Decidable.decide (a_9.n ∈ a_9.l)) = Bool.true →
  ∃ (b : Unit), Bool.true = Bool.true ∧
  True ∧
  True) ∧
  ((!Decidable.decide (a_9.n ∈ a_9.l)) = Bool.false →
  ∃ (a_12 : NodesA), ((0 : Nat) = (0 : Nat) ∧
  (1 : Nat) = a_12.l.length ∧
  (1 : Nat) = a_12.cap) ∧
  (a_12.l.length ≤ (1 : Nat) ∧
  RowsEq a_12.l.length (1 : Nat) (flatRows (1 : Nat) [Value.int IntKind.i64 a.node]) (encRows encI a_12.l)) ∧
  a_12.l.length < (100000 : Nat) ∧
  ∀ (b : Nat), True →
  ∃ (a_14 : NodesA), ((0 : Nat) = (0 : Nat) ∧
  Min.min a_4.n (8 : Nat) = a_14.l.length ∧
  a_4.cap = a_14.cap) ∧
  (a_14.l.length ≤ a.n ∧
  RowsEq a_14.l.length (1 : Nat) a.rows (encRows encI a_14.l)) ∧
  a_14.l.length < (100000 : Nat) ∧
  ∀ (b_1 : Nat), True →
  (∃ (a_16 : Nat × Nat), (0 : Int) = (↑a_16.fst : Int) ∧
  ((0 : Nat) = (ownTo a a_16.fst).length ∧
  (0 : Nat) = a_16.snd) ∧
  ((0 : Nat) = (0 : Nat) ∧
  (ptsOf a_14.l).length = (ptsOf a_14.l).length ∧
  b_1 = b_1) ∧
  ((0 : Nat) = (0 : Nat) ∧
  (ptsOf a_12.l).length = (ptsOf a_12.l).length ∧
  b = b) ∧
  (!Decidable.decide (a_9.n ∈ a_9.l)) = !Decidable.decide (a_9.n ∈ a_9.l) ∧
  ((0 : Nat) = (0 : Nat) ∧
  Min.min a_4.n (8 : Nat) = Min.min a_4.n (8 : Nat) ∧
  a_4.cap = a_4.cap) ∧
  Bool.false = Bool.false ∧
  Bool.true = Bool.true ∧
  Bool.false = Bool.false ∧
  a.node = a.node ∧
  (ownTo a a_16.fst).length = (0 : Nat) ∧
  ((ptsOf a_14.l).length ≤ (ptsOf a_14.l).length ∧
  RowsEq (ptsOf a_14.l).length (2 : Nat) (encRows encPt (ptsOf a_14.l)) (encRows encPt (ptsOf a_14.l))) ∧
  ((ptsOf a_12.l).length ≤ (ptsOf a_12.l).length ∧
  RowsEq (ptsOf a_12.l).length (2 : Nat) (encRows encPt (ptsOf a_12.l)) (encRows encPt (ptsOf a_12.l))) ∧
  (a.n ≤ a.n ∧
  RowsEq a.n (1 : Nat) a.rows a.rows) ∧
  a_16.fst ≤ (ptsOf (nsOf a.cut)).length ∧
  True) ∧
  ∀ (a_16 : Nat × Nat), a_16.fst ≤ (ptsOf (nsOf a.cut)).length →
  (Decidable.decide ((↑a_16.fst : Int) < (↑(ptsOf a_14.l).length : Int)) = Bool.true →
  ((0 : Int) ≤ (↑a_16.fst : Int) ∧
  (↑a_16.fst : Int) < (↑(ptsOf a_14.l).length : Int)) ∧
  (0 : Nat) + (↑a_16.fst : Int).toNat < (ptsOf a_14.l).length ∧
  (InR IntKind.i64 (gl (ptsOf a_14.l) ((0 : Nat) + (↑a_16.fst : Int).toNat)).snd →
  (((gl (ptsOf a_14.l) ((0 : Nat) + (↑a_16.fst : Int).toNat)).snd == a.node) = Bool.true →
  ((0 : Int) ≤ (↑a_16.fst : Int) ∧
  (↑a_16.fst : Int) < (↑(ptsOf a_14.l).length : Int)) ∧
  (0 : Nat) + (↑a_16.fst : Int).toNat < (ptsOf a_14.l).length ∧
  (0 : Nat) + (ownTo a a_16.fst).length ≤ (ownTo a a_16.fst).length ∧
  (1 : Nat) ≤ (1 : Nat) ∧
  ((ownTo a a_16.fst).length + (1 : Nat)) * (16 : Nat) ≤ (140737488355328 : Nat) ∧
  ∀ (cap : Nat), (ownTo a a_16.fst).length + (1 : Nat) ≤ cap →
  cap ≤ lenMax →
  ((ownTo a a_16.fst).length + (1 : Nat) ≤ a_16.snd →
  cap = a_16.snd) →
  InR IntKind.i64 ((↑a_16.fst : Int) + (1 : Int)) ∧
  ∃ (a' : Nat × Nat), (↑a_16.fst : Int) + (1 : Int) = (↑a'.fst : Int) ∧
  ((0 : Nat) = (0 : Nat) ∧
  (ownTo a a_16.fst).length + (1 : Nat) = (ownTo a a'.fst).length ∧
  cap = a'.snd) ∧
  ((0 : Nat) = (0 : Nat) ∧
  (ptsOf a_14.l).length = (ptsOf a_14.l).length ∧
  b_1 = b_1) ∧
  ((0 : Nat) = (0 : Nat) ∧
  (ptsOf a_12.l).length = (ptsOf a_12.l).length ∧
  b = b) ∧
  (!Decidable.decide (a_9.n ∈ a_9.l)) = !Decidable.decide (a_9.n ∈ a_9.l) ∧
  ((0 : Nat) = (0 : Nat) ∧
  Min.min a_4.n (8 : Nat) = Min.min a_4.n (8 : Nat) ∧
  a_4.cap = a_4.cap) ∧
  Bool.false = Bool.false ∧
  Bool.true = Bool.true ∧
  Bool.false = Bool.false ∧
  a.node = a.node ∧
  ((ownTo a a'.fst).length ≤ (ownTo a a_16.fst).length + (1 : Nat) ∧
  RowsEq (ownTo a a'.fst).length (2 : Nat) (appRows (encRows encPt (ownTo a a_16.fst)) (0 : Nat) (ownTo a a_16.fst).length fun (i j : Nat) => flatRows (2 : Nat) [Value.int IntKind.u64 (gl (ptsOf a_14.l) ((0 : Nat) + (↑a_16.fst : Int).toNat)).fst, Value.int IntKind.i64 (gl (ptsOf a_14.l) ((0 : Nat) + (↑a_16.fst : Int).toNat)).snd] ((0 : Nat) + i) j) (encRows encPt (ownTo a a'.fst))) ∧
  ((ptsOf a_14.l).length ≤ (ptsOf a_14.l).length ∧
  RowsEq (ptsOf a_14.l).length (2 : Nat) (encRows encPt (ptsOf a_14.l)) (encRows encPt (ptsOf a_14.l))) ∧
  ((ptsOf a_12.l).length ≤ (ptsOf a_12.l).length ∧
  RowsEq (ptsOf a_12.l).length (2 : Nat) (encRows encPt (ptsOf a_12.l)) (encRows encPt (ptsOf a_12.l))) ∧
  (a.n ≤ a.n ∧
  RowsEq a.n (1 : Nat) a.rows a.rows) ∧
  a'.fst ≤ (ptsOf (nsOf a.cut)).length ∧
  (ptsOf (nsOf a.cut)).length - a'.fst < (ptsOf (nsOf a.cut)).length - a_16.fst) ∧
  (((gl (ptsOf a_14.l) ((0 : Nat) + (↑a_16.fst : Int).toNat)).snd == a.node) = Bool.false →
  InR IntKind.i64 ((↑a_16.fst : Int) + (1 : Int)) ∧
  ∃ (a' : Nat × Nat), (↑a_16.fst : Int) + (1 : Int) = (↑a'.fst : Int) ∧
  ((0 : Nat) = (0 : Nat) ∧
  (ownTo a a_16.fst).length = (ownTo a a'.fst).length ∧
  a_16.snd = a'.snd) ∧
  ((0 : Nat) = (0 : Nat) ∧
  (ptsOf a_14.l).length = (ptsOf a_14.l).length ∧
  b_1 = b_1) ∧
  ((0 : Nat) = (0 : Nat) ∧
  (ptsOf a_12.l).length = (ptsOf a_12.l).length ∧
  b = b) ∧
  (!Decidable.decide (a_9.n ∈ a_9.l)) = !Decidable.decide (a_9.n ∈ a_9.l) ∧
  ((0 : Nat) = (0 : Nat) ∧
  Min.min a_4.n (8 : Nat) = Min.min a_4.n (8 : Nat) ∧
  a_4.cap = a_4.cap) ∧
  Bool.false = Bool.false ∧
  Bool.true = Bool.true ∧
  Bool.false = Bool.false ∧
  a.node = a.node ∧
  ((ownTo a a'.fst).length ≤ (ownTo a a_16.fst).length ∧
  RowsEq (ownTo a a'.fst).length (2 : Nat) (encRows encPt (ownTo a a_16.fst)) (encRows encPt (ownTo a a'.fst))) ∧
  ((ptsOf a_14.l).length ≤ (ptsOf a_14.l).length ∧
  RowsEq (ptsOf a_14.l).length (2 : Nat) (encRows encPt (ptsOf a_14.l)) (encRows encPt (ptsOf a_14.l))) ∧
  ((ptsOf a_12.l).length ≤ (ptsOf a_12.l).length ∧
  RowsEq (ptsOf a_12.l).length (2 : Nat) (encRows encPt (ptsOf a_12.l)) (encRows encPt (ptsOf a_12.l))) ∧
  (a.n ≤ a.n ∧
  RowsEq a.n (1 : Nat) a.rows a.rows) ∧
  a'.fst ≤ (ptsOf (nsOf a.cut)).length ∧
  (ptsOf (nsOf a.cut)).length - a'.fst < (ptsOf (nsOf a.cut)).length - a_16.fst))) ∧
  (Decidable.decide ((↑a_16.fst : Int) < (↑(ptsOf a_14.l).length : Int)) = Bool.false →
  (((↑(ptsOf a_12.l).length : Int) != (8 : Int)) = Bool.true →
  ∃ (b : Unit), Bool.false = Bool.true ∧
  True ∧
  True) ∧
  (((↑(ptsOf a_12.l).length : Int) != (8 : Int)) = Bool.false →
  (((↑(ownTo a a_16.fst).length : Int) != (8 : Int)) = Bool.true →
  ∃ (b : Unit), Bool.false = Bool.true ∧
  True ∧
  True) ∧
  (((↑(ownTo a a_16.fst).length : Int) != (8 : Int)) = Bool.false →
  (∃ (a_21 : Nat), (0 : Int) = (↑a_21 : Int) ∧
  ((↑(ownTo a a_16.fst).length : Int) != (8 : Int)) = ((↑(ownTo a a_16.fst).length : Int) != (8 : Int)) ∧
  Decidable.decide ((↑a_16.fst : Int) < (↑(ptsOf a_14.l).length : Int)) = Decidable.decide ((↑a_16.fst : Int) < (↑(ptsOf a_14.l).length : Int)) ∧
  (↑a_16.fst : Int) = (↑a_16.fst : Int) ∧
  ((0 : Nat) = (0 : Nat) ∧
  (ownTo a a_16.fst).length = (ownTo a a_16.fst).length ∧
  a_16.snd = a_16.snd) ∧
  ((0 : Nat) = (0 : Nat) ∧
  (ptsOf a_14.l).length = (ptsOf a_14.l).length ∧
  b_1 = b_1) ∧
  ((0 : Nat) = (0 : Nat) ∧
  (ptsOf a_12.l).length = (ptsOf a_12.l).length ∧
  b = b) ∧
  (!Decidable.decide (a_9.n ∈ a_9.l)) = !Decidable.decide (a_9.n ∈ a_9.l) ∧
  ((0 : Nat) = (0 : Nat) ∧
  Min.min a_4.n (8 : Nat) = Min.min a_4.n (8 : Nat) ∧
  a_4.cap = a_4.cap) ∧
  Bool.false = Bool.false ∧
  Bool.true = Bool.true ∧
  Bool.false = Bool.false ∧
  a.node = a.node ∧
  ((ownTo a a_16.fst).length ≤ (ownTo a a_16.fst).length ∧
  RowsEq (ownTo a a_16.fst).length (2 : Nat) (encRows encPt (ownTo a a_16.fst)) (encRows encPt (ownTo a a_16.fst))) ∧
  ((ptsOf a_14.l).length ≤ (ptsOf a_14.l).length ∧
  RowsEq (ptsOf a_14.l).length (2 : Nat) (encRows encPt (ptsOf a_14.l)) (encRows encPt (ptsOf a_14.l))) ∧
  ((ptsOf a_12.l).length ≤ (ptsOf a_12.l).length ∧
  RowsEq (ptsOf a_12.l).length (2 : Nat) (encRows encPt (ptsOf a_12.l)) (encRows encPt (ptsOf a_12.l))) ∧
  (a.n ≤ a.n ∧
  RowsEq a.n (1 : Nat) a.rows a.rows) ∧
  a_21 ≤ (8 : Nat) ∧
  True) ∧
  ∀ (a_21 : Nat), a_21 ≤ (8 : Nat) →
  (Decidable.decide ((↑a_21 : Int) < (8 : Int)) = Bool.true →
  ((0 : Int) ≤ (↑a_21 : Int) ∧
  (↑a_21 : Int) < (↑(ptsOf a_12.l).length : Int)) ∧
  (0 : Nat) + (↑a_21 : Int).toNat < (ptsOf a_12.l).length ∧
  (InR IntKind.u64 (gl (ptsOf a_12.l) ((0 : Nat) + (↑a_21 : Int).toNat)).fst →
  ((0 : Int) ≤ (↑a_21 : Int) ∧
  (↑a_21 : Int) < (↑(ownTo a a_16.fst).length : Int)) ∧
  (0 : Nat) + (↑a_21 : Int).toNat < (ownTo a a_16.fst).length ∧
  (InR IntKind.u64 (gl (ownTo a a_16.fst) ((0 : Nat) + (↑a_21 : Int).toNat)).fst →
  (((gl (ptsOf a_12.l) ((0 : Nat) + (↑a_21 : Int).toNat)).fst != (gl (ownTo a a_16.fst) ((0 : Nat) + (↑a_21 : Int).toNat)).fst) = Bool.true →
  ∃ (b : Unit), Bool.false = Bool.true ∧
  True ∧
  True) ∧
  (((gl (ptsOf a_12.l) ((0 : Nat) + (↑a_21 : Int).toNat)).fst != (gl (ownTo a a_16.fst) ((0 : Nat) + (↑a_21 : Int).toNat)).fst) = Bool.false →
  ((0 : Int) ≤ (↑a_21 : Int) ∧
  (↑a_21 : Int) < (↑(ptsOf a_12.l).length : Int)) ∧
  (0 : Nat) + (↑a_21 : Int).toNat < (ptsOf a_12.l).length ∧
  (InR IntKind.i64 (gl (ptsOf a_12.l) ((0 : Nat) + (↑a_21 : Int).toNat)).snd →
  (((gl (ptsOf a_12.l) ((0 : Nat) + (↑a_21 : Int).toNat)).snd != a.node) = Bool.true →
  ∃ (b : Unit), Bool.false = Bool.true ∧
  True ∧
  True) ∧
  (((gl (ptsOf a_12.l) ((0 : Nat) + (↑a_21 : Int).toNat)).snd != a.node) = Bool.false →
  InR IntKind.i64 ((↑a_21 : Int) + (1 : Int)) ∧
  ∃ (a' : Nat), (↑a_21 : Int) + (1 : Int) = (↑a' : Int) ∧
  ((↑(ownTo a a_16.fst).length : Int) != (8 : Int)) = ((↑(ownTo a a_16.fst).length : Int) != (8 : Int)) ∧
  Decidable.decide ((↑a_16.fst : Int) < (↑(ptsOf a_14.l).length : Int)) = Decidable.decide ((↑a_16.fst : Int) < (↑(ptsOf a_14.l).length : Int)) ∧
  (↑a_16.fst : Int) = (↑a_16.fst : Int) ∧
  ((0 : Nat) = (0 : Nat) ∧
  (ownTo a a_16.fst).length = (ownTo a a_16.fst).length ∧
  a_16.snd = a_16.snd) ∧
  ((0 : Nat) = (0 : Nat) ∧
  (ptsOf a_14.l).length = (ptsOf a_14.l).length ∧
  b_1 = b_1) ∧
  ((0 : Nat) = (0 : Nat) ∧
  (ptsOf a_12.l).length = (ptsOf a_12.l).length ∧
  b = b) ∧
  (!Decidable.decide (a_9.n ∈ a_9.l)) = !Decidable.decide (a_9.n ∈ a_9.l) ∧
  ((0 : Nat) = (0 : Nat) ∧
  Min.min a_4.n (8 : Nat) = Min.min a_4.n (8 : Nat) ∧
  a_4.cap = a_4.cap) ∧
  Bool.false = Bool.false ∧
  Bool.true = Bool.true ∧
  Bool.false = Bool.false ∧
  a.node = a.node ∧
  ((ownTo a a_16.fst).length ≤ (ownTo a a_16.fst).length ∧
  RowsEq (ownTo a a_16.fst).length (2 : Nat) (encRows encPt (ownTo a a_16.fst)) (encRows encPt (ownTo a a_16.fst))) ∧
  ((ptsOf a_14.l).length ≤ (ptsOf a_14.l).length ∧
  RowsEq (ptsOf a_14.l).length (2 : Nat) (encRows encPt (ptsOf a_14.l)) (encRows encPt (ptsOf a_14.l))) ∧
  ((ptsOf a_12.l).length ≤ (ptsOf a_12.l).length ∧
  RowsEq (ptsOf a_12.l).length (2 : Nat) (encRows encPt (ptsOf a_12.l)) (encRows encPt (ptsOf a_12.l))) ∧
  (a.n ≤ a.n ∧
  RowsEq a.n (1 : Nat) a.rows a.rows) ∧
  a' ≤ (8 : Nat) ∧
  (8 : Nat) - a' < (8 : Nat) - a_21)))))) ∧
  (Decidable.decide ((↑a_21 : Int) < (8 : Int)) = Bool.false →
  ∃ (b : Unit), Bool.true = Bool.true ∧
  True ∧
  True))))))) (by kernel_rfl) (by
  rintro ⟨n, cap, rows, node⟩ ⟨h1, h2, h3⟩
  dsimp only at h1 h2 h3
  have hl : (nsOf ⟨n, cap, rows⟩).length = min n 8 := by simp [nsOf]
  have hg : ∀ i, i < min n 8 → toI (rows i 0) = gl (nsOf ⟨n, cap, rows⟩) i := fun i hi => by
    rw [gl_eq (by omega)]; simp [nsOf]
  have hr : RowsEq (min n 8) 1 rows (encRows encI (nsOf ⟨n, cap, rows⟩)) := .of_cells fun i hi => by
    show [rows i 0] = [Go.Value.int .i64 (gl (nsOf ⟨n, cap, rows⟩) i)]
    rw [← hg i hi, ← h3 i (by omega)]
  have ho : ∀ i, ownTo ⟨n, cap, rows, node⟩ i = ((ptsOf (nsOf ⟨n, cap, rows⟩)).take i).filter fun e => decide (e.2 = node) := fun _ => rfl
  simp only [ho, PartA.cut]
  generalize nsOf ⟨n, cap, rows⟩ = l at *
  clear ho
  refine ⟨(), trivial, fun _ _ => ⟨⟨n, cap, rows⟩, ?_⟩⟩
  ((repeat' apply And.intro) <;> first | with_reducible rfl | omega | (dsimp only; omega) | exact RowsEq.refl _ _ _ | assumption | rfl | trivial | exact Nat.le_refl _ | skip)
  refine fun _ _ => ⟨⟨l, cap⟩, ?_⟩
  rw [← hl] at hr
  ((repeat' apply And.intro) <;> first | with_reducible rfl | omega | (dsimp only; omega) | exact RowsEq.refl _ _ _ | assumption | rfl | trivial | exact Nat.le_refl _ | skip)
  refine fun _ _ => ⟨fun _ => ⟨(), trivial, trivial, trivial⟩, fun c0 => ⟨⟨l, cap, node⟩, ?_⟩⟩
  ((repeat' apply And.intro) <;> first | with_reducible rfl | omega | (dsimp only; omega) | exact RowsEq.refl _ _ _ | assumption | rfl | trivial | exact Nat.le_refl _ | skip)
  refine fun _ _ => ⟨fun _ => ⟨(), trivial, trivial, trivial⟩, fun c1 => ⟨⟨[node], 1⟩, ?_⟩⟩
  have hone : RowsEq 1 1 (flatRows 1 [Go.Value.int Go.IntKind.i64 node]) (encRows encI [node]) := .of_cells fun i hi => by
    have : i = 0 := by omega
    subst this; rfl
  ((repeat' apply And.intro) <;> first | with_reducible rfl | omega | (dsimp only; omega) | exact RowsEq.refl _ _ _ | assumption | rfl | trivial | exact Nat.le_refl _ | skip)
  · simp
  refine fun _ _ => ⟨⟨l, cap⟩, ?_⟩
  ((repeat' apply And.intro) <;> first | with_reducible rfl | omega | (dsimp only; omega) | exact RowsEq.refl _ _ _ | assumption | rfl | trivial | exact Nat.le_refl _ | skip)
  dsimp only at c0 c1 ⊢
  have hm : mayN l = true := by simpa using c0
  have hn : node ∈ l := by simpa using c1
  have hown := own_same hm hn
  have hb := mayN_mem hm hn
  have hm1 := mayN_one hb.1 hb.2
  have hlen := ptsOf_length hm
  have hlen1 : (ptsOf [node]).length = 8 := ptsOf_length hm1
  have hb5 := mayN_len hm
  simp only [Nat.zero_add, Int.toNat_natCast, InR]
  refine fun _ _ => ⟨⟨(0, 0), ?_⟩, fun x hx => ⟨fun c2 => ?_, fun c2 => ?_⟩⟩
  · dsimp only
    rw [List.take_zero, List.filter_nil]
    ((repeat' apply And.intro) <;> first | with_reducible rfl | omega | (dsimp only; omega) | exact RowsEq.refl _ _ _ | assumption | rfl | trivial | exact Nat.le_refl _ | skip)
  · obtain ⟨i, gc⟩ := x
    dsimp only at c2 hx ⊢
    simp only [decide_eq_true_eq] at c2
    have hi : i < (ptsOf l).length := by omega
    have hle := List.length_filter_le (fun e : Int × Int => decide (e.2 = node)) ((ptsOf l).take i)
    rw [List.length_take] at hle
    ((repeat' apply And.intro) <;> first | with_reducible rfl | omega | (dsimp only; omega) | exact RowsEq.refl _ _ _ | assumption | rfl | trivial | exact Nat.le_refl _ | skip)
    refine fun _ => ⟨fun c3 => ?_, fun c3 => ?_⟩
    · simp only [beq_iff_eq] at c3
      have hs : ((ptsOf l).take (i + 1)).filter (fun e => decide (e.2 = node)) = ((ptsOf l).take i).filter (fun e => decide (e.2 = node)) ++ [gl (ptsOf l) i] := by
        rw [take_succ_gl hi, List.filter_append, List.filter_cons_of_pos (by simpa using c3), List.filter_nil]
      have hn1 : (((ptsOf l).take i).filter (fun e => decide (e.2 = node)) ++ [gl (ptsOf l) i]).length = (((ptsOf l).take i).filter (fun e => decide (e.2 = node))).length + 1 := List.length_append
      ((repeat' apply And.intro) <;> first | with_reducible rfl | omega | (dsimp only; omega) | exact RowsEq.refl _ _ _ | assumption | rfl | trivial | exact Nat.le_refl _ | skip)
      refine fun c4 _ _ _ => ⟨by omega, (i + 1, c4), ?_⟩
      dsimp only
      rw [hs, hn1]
      ((repeat' apply And.intro) <;> first | rfl | trivial | exact Nat.le_refl _ | omega | (dsimp only; omega) | exact RowsEq.refl _ _ _ | exact .push rfl (by omega) rfl)
    · simp only [beq_eq_false_iff_ne] at c3
      have hs : ((ptsOf l).take (i + 1)).filter (fun e => decide (e.2 = node)) = ((ptsOf l).take i).filter (fun e => decide (e.2 = node)) := by
        rw [take_succ_gl hi, List.filter_append, List.filter_cons_of_neg (by simpa using c3), List.filter_nil, List.append_nil]
      refine ⟨by omega, (i + 1, gc), ?_⟩
      dsimp only
      rw [hs]
      ((repeat' apply And.intro) <;> first | with_reducible rfl | omega | (dsimp only; omega) | exact RowsEq.refl _ _ _ | assumption | rfl | trivial | exact Nat.le_refl _ | skip)
  · obtain ⟨i, gc⟩ := x
    dsimp only at c2 hx ⊢
    simp only [decide_eq_false_iff_not] at c2
    have hi : i = (ptsOf l).length := by omega
    subst hi
    rw [List.take_length, hown, hlen1]
    refine ⟨fun hc => (by simp at hc), fun _ => ⟨fun hc => (by simp at hc), fun _ => ⟨⟨0, ?_⟩, fun j j1 => ⟨fun c3 => ?_, fun _ => ⟨(), trivial, trivial, trivial⟩⟩⟩⟩⟩
    · ((repeat' apply And.intro) <;> first | with_reducible rfl | omega | (dsimp only; omega) | exact RowsEq.refl _ _ _ | assumption | rfl | trivial | exact Nat.le_refl _ | skip)
    · simp only [decide_eq_true_eq] at c3
      have hsn : (gl (ptsOf [node]) j).2 = node := by
        have h5 := (ptsOf_perm hm1).mem_iff.1 (gl_mem (show j < (ptsOf [node]).length by omega))
        obtain ⟨m, h6, h7⟩ := List.mem_flatMap.1 h5
        rw [ptsN_snd h7, List.mem_singleton.1 h6]
      ((repeat' apply And.intro) <;> first | with_reducible rfl | omega | (dsimp only; omega) | exact RowsEq.refl _ _ _ | assumption | rfl | trivial | exact Nat.le_refl _ | skip)
      intro _
      ((repeat' apply And.intro) <;> first | with_reducible rfl | omega | (dsimp only; omega) | exact RowsEq.refl _ _ _ | assumption | rfl | trivial | exact Nat.le_refl _ | skip)
      refine fun _ => ⟨fun hc => (by simp at hc), fun _ => ?_⟩
      ((repeat' apply And.intro) <;> first | with_reducible rfl | omega | (dsimp only; omega) | exact RowsEq.refl _ _ _ | assumption | rfl | trivial | exact Nat.le_refl _ | skip)
      rw [hsn]
      refine fun _ => ⟨fun hc => (by simp at hc), fun _ => ⟨by omega, j + 1, ?_⟩⟩
      ((repeat' apply And.intro) <;> first | with_reducible rfl | omega | (dsimp only; omega) | exact RowsEq.refl _ _ _ | assumption | rfl | trivial | exact Nat.le_refl _ | skip))

theorem instAllP : ∀ ads, okADs [.slc 3 [.int .i64]] ads → ∃ a : CutA, cAllP.pre a ∧ cAllP.args a = svs 0 ads ∧ cAllP.ro a = chs 0 [.slc 3 [.int .i64]] ads ∧ cAllP.m = slcs ads := by
  rintro ads ⟨d, r, rfl, ⟨n, cap, rows, rfl, h1, h2, h3⟩, rfl⟩
  refine ⟨⟨n, cap, rows⟩, ⟨h1, h2, fun i hi => ?_⟩, rfl, rfl, rfl⟩
  obtain ⟨v, hv, _⟩ := h3 i hi 0 (.int .i64) rfl
  show rows i 0 = Go.Value.int .i64 (toI (rows i 0))
  rw [hv]; rfl
theorem instPart : ∀ ads, okADs [.slc 3 [.int .i64], .int .i64] ads → ∃ a : PartA, cPart.pre a ∧ cPart.args a = svs 0 ads ∧ cPart.ro a = chs 0 [.slc 3 [.int .i64], .int .i64] ads ∧ cPart.m = slcs ads := by
  rintro ads ⟨d, r, rfl, ⟨n, cap, rows, rfl, h1, h2, h3⟩, d2, r2, rfl, ⟨m, rfl, hm⟩, rfl⟩
  refine ⟨⟨n, cap, rows, m⟩, ⟨h1, h2, fun i hi => ?_⟩, rfl, rfl, rfl⟩
  obtain ⟨v, hv, _⟩ := h3 i hi 0 (.int .i64) rfl
  show rows i 0 = Go.Value.int .i64 (toI (rows i 0))
  rw [hv]; rfl
theorem instLess : ∀ ads, okADs [.agg [.int .u64, .int .i64], .agg [.int .u64, .int .i64]] ads → ∃ a : PairA, cLess.pre a ∧ cLess.args a = svs 0 ads ∧ cLess.ro a = chs 0 [.agg [.int .u64, .int .i64], .agg [.int .u64, .int .i64]] ads ∧ cLess.m = slcs ads := by
  rintro ads ⟨d, r, rfl, ⟨x, rfl, hx⟩, d2, r2, rfl, ⟨y, rfl, hy⟩, rfl⟩
  exact ⟨⟨toI (x 0), toI (x 1), toI (y 0), toI (y 1)⟩, trivial, rfl, rfl, rfl⟩
end Go.Proofs.Ytpaonfpfalfigaa
