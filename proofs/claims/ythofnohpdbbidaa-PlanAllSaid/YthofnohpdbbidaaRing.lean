/-
  The layer ring: what a ring tells; who owns a hash by the document. No condition but that lists are short.
-/
import Derived.Test.YthofnohpdbbidaaPtl
import Derived.Test.YthofnohpdbbidaaSxZ
namespace Go.Proofs.Ythofnohpdbbidaa
open Go.Sx
set_option maxRecDepth 100000
set_option linter.unusedVariables false

/-! ### owners, as plain lists -/

def ownP (L : List (Int × Int)) (h : Int) : Int := match L.find? (fun e => decide (h ≤ e.1)) with | some e => e.2 | none => (gl L 0).2
theorem find_take {α : Type} {p : α → Bool} {L : List α} {k : Nat} {x : α} (h : (L.take k).find? p = some x) : L.find? p = some x := by
  rw [← List.take_append_drop k L, List.find?_append, h]; rfl
theorem ownP_hit {L : List (Int × Int)} {h : Int} {i : Nat} (hi : i < L.length) (h1 : (L.take i).find? (fun e => decide (h ≤ e.1)) = none) (h2 : h ≤ (gl L i).1) : ownP L h = (gl L i).2 := by
  have : L.find? (fun e => decide (h ≤ e.1)) = some (gl L i) := by
    refine find_take (k := i + 1) ?_
    rw [take_succ_gl hi, List.find?_append, h1]
    simp [h2]
  unfold ownP; rw [this]
theorem ownP_miss {L : List (Int × Int)} {h : Int} (h1 : L.find? (fun e => decide (h ≤ e.1)) = none) : ownP L h = (gl L 0).2 := by
  unfold ownP; rw [h1]
theorem find_step {L : List (Int × Int)} {h : Int} {i : Nat} (hi : i < L.length) (h1 : (L.take i).find? (fun e => decide (h ≤ e.1)) = none) (h2 : ¬ h ≤ (gl L i).1) : (L.take (i + 1)).find? (fun e => decide (h ≤ e.1)) = none := by
  rw [take_succ_gl hi, List.find?_append, h1]
  simp [h2]

/-! ### a ring -/

structure RingA where
  e : Int
  l : List Int
  c1 : Nat
  L : List (Int × Int)
  c2 : Nat
def roRing (a : RingA) : List (Nat × Chunk) := [(0, .obj 54 [.int .i64 a.e, .slc 1 0 1 a.l.length a.c1, .slc 2 0 2 a.L.length a.c2]), (1, .arr 3 [.int .i64] a.l.length (encRows encI a.l)), (2, .arr 59 ksPt a.L.length (encRows encPt a.L))]
structure OwnerA where
  r : RingA
  h : Int
noncomputable def cOwner : Con where
  α := OwnerA
  β := Unit
  m := 3
  m' := 3
  pre := fun a => a.r.L.length < 100000 ∧ 0 < a.r.L.length
  args := fun a => [.a (.ptr 0 0 0 0), .a (.int .u64 a.h)]
  hp := fun _ => []
  ro := fun a => roRing a.r
  post := fun _ _ => True
  res := fun a _ => .a (.int .i64 (ownP a.r.L a.h))
  hp' := fun _ _ => []
def iOwner (a : OwnerA) : An := .flat 4 Nat (fun s i => s.int 14 i) (fun _ i => i ≤ a.r.L.length ∧ (a.r.L.take i).find? (fun e => decide (a.h ≤ e.1)) = none) (fun _ i => a.r.L.length - i)
set_option maxHeartbeats 4000000 in
theorem bodyOwner : fnBody (Y Try.prog) [] 24 cOwner fun a => [(24, [iOwner a], [])] := fnBody.of (p :=
  ∀ (a : OwnerA), a.r.L.length < (100000 : Nat) ∧
  (0 : Nat) < a.r.L.length →
  (∃ (a_2 : Nat), (0 : Int) = (↑a_2 : Int) ∧
  (↑a.r.L.length : Int) = (↑a.r.L.length : Int) ∧
  ((0 : Nat) = (0 : Nat) ∧
  a.r.L.length = a.r.L.length ∧
  a.r.c2 = a.r.c2) ∧
  Bool.false = Bool.false ∧
  (0 : Int) = (0 : Int) ∧
  (0 : Nat) = (0 : Nat) ∧
  a.h = a.h ∧
  a.r.e = a.r.e ∧
  ((0 : Nat) = (0 : Nat) ∧
  a.r.l.length = a.r.l.length ∧
  a.r.c1 = a.r.c1) ∧
  ((0 : Nat) = (0 : Nat) ∧
  a.r.L.length = a.r.L.length ∧
  a.r.c2 = a.r.c2) ∧
  (a.r.l.length ≤ a.r.l.length ∧
  RowsEq a.r.l.length (1 : Nat) (encRows encI a.r.l) (encRows encI a.r.l)) ∧
  (a.r.L.length ≤ a.r.L.length ∧
  RowsEq a.r.L.length (2 : Nat) (encRows encPt a.r.L) (encRows encPt a.r.L)) ∧
  (a_2 ≤ a.r.L.length ∧
  List.find? (fun (e : Int × Int) => Decidable.decide (a.h ≤ e.fst)) (List.take a_2 a.r.L) = Option.none) ∧
  True) ∧
  ∀ (a_2 : Nat), a_2 ≤ a.r.L.length ∧
  List.find? (fun (e : Int × Int) => Decidable.decide (a.h ≤ e.fst)) (List.take a_2 a.r.L) = Option.none →
  (Decidable.decide ((↑a_2 : Int) < (↑a.r.L.length : Int)) = Bool.true →
  ((0 : Int) ≤ (↑a_2 : Int) ∧
  (↑a_2 : Int) < (↑a.r.L.length : Int)) ∧
  (0 : Nat) + (↑a_2 : Int).toNat < a.r.L.length ∧
  (InR IntKind.u64 (gl a.r.L ((0 : Nat) + (↑a_2 : Int).toNat)).fst →
  (Decidable.decide (a.h ≤ (gl a.r.L ((0 : Nat) + (↑a_2 : Int).toNat)).fst) = Bool.true →
  InR IntKind.i64 (gl a.r.L ((0 : Nat) + (↑a_2 : Int).toNat)).snd →
  ∃ (b : Unit), (gl a.r.L ((0 : Nat) + (↑a_2 : Int).toNat)).snd = ownP a.r.L a.h ∧
  True ∧
  True) ∧
  (Decidable.decide (a.h ≤ (gl a.r.L ((0 : Nat) + (↑a_2 : Int).toNat)).fst) = Bool.false →
  InR IntKind.i64 ((↑a_2 : Int) + (1 : Int)) ∧
  ∃ (a' : Nat), (↑a_2 : Int) + (1 : Int) = (↑a' : Int) ∧
  (↑a.r.L.length : Int) = (↑a.r.L.length : Int) ∧
  ((0 : Nat) = (0 : Nat) ∧
  a.r.L.length = a.r.L.length ∧
  a.r.c2 = a.r.c2) ∧
  Bool.false = Bool.false ∧
  (0 : Int) = (0 : Int) ∧
  (0 : Nat) = (0 : Nat) ∧
  a.h = a.h ∧
  a.r.e = a.r.e ∧
  ((0 : Nat) = (0 : Nat) ∧
  a.r.l.length = a.r.l.length ∧
  a.r.c1 = a.r.c1) ∧
  ((0 : Nat) = (0 : Nat) ∧
  a.r.L.length = a.r.L.length ∧
  a.r.c2 = a.r.c2) ∧
  (a.r.l.length ≤ a.r.l.length ∧
  RowsEq a.r.l.length (1 : Nat) (encRows encI a.r.l) (encRows encI a.r.l)) ∧
  (a.r.L.length ≤ a.r.L.length ∧
  RowsEq a.r.L.length (2 : Nat) (encRows encPt a.r.L) (encRows encPt a.r.L)) ∧
  (a' ≤ a.r.L.length ∧
  List.find? (fun (e : Int × Int) => Decidable.decide (a.h ≤ e.fst)) (List.take a' a.r.L) = Option.none) ∧
  a.r.L.length - a' < a.r.L.length - a_2))) ∧
  (Decidable.decide ((↑a_2 : Int) < (↑a.r.L.length : Int)) = Bool.false →
  ((0 : Int) ≤ (0 : Int) ∧
  (0 : Int) < (↑a.r.L.length : Int)) ∧
  (0 : Nat) < a.r.L.length ∧
  (InR IntKind.i64 (gl a.r.L (0 : Nat)).snd →
  ∃ (b : Unit), (gl a.r.L (0 : Nat)).snd = ownP a.r.L a.h ∧
  True ∧
  True))) (by kernel_rfl) (by
  rintro ⟨⟨e, l, c1, L, c2⟩, h⟩ ⟨h1, h2⟩
  dsimp only at h1 h2 ⊢
  simp only [Nat.zero_add, Int.toNat_natCast, InR]
  refine ⟨⟨0, ?_⟩, fun i ⟨i1, i2⟩ => ⟨fun d1 => ?_, fun d1 => ?_⟩⟩
  · ((repeat' apply And.intro) <;> first | with_reducible rfl | omega | (dsimp only; omega) | exact RowsEq.refl _ _ _ | assumption | rfl | trivial | exact Nat.le_refl _ | skip)
  · simp only [decide_eq_true_eq] at d1
    have hi : i < L.length := by omega
    refine ⟨by omega, hi, fun _ => ⟨fun d2 _ => ⟨(), ?_, trivial, trivial⟩, fun d2 => ⟨by omega, i + 1, ?_⟩⟩⟩
    · simp only [decide_eq_true_eq] at d2
      exact (ownP_hit hi i2 d2).symm
    · simp only [decide_eq_false_iff_not] at d2
      have := find_step hi i2 d2
      ((repeat' apply And.intro) <;> first | with_reducible rfl | omega | (dsimp only; omega) | exact RowsEq.refl _ _ _ | assumption | rfl | trivial | exact Nat.le_refl _ | skip)
  · simp only [decide_eq_false_iff_not] at d1
    have hi : i = L.length := by omega
    subst hi
    rw [List.take_length] at i2
    refine ⟨by omega, h2, fun _ => ⟨(), (ownP_miss i2).symm, trivial, trivial⟩⟩)
theorem callOwner : CallsBy (Y Try.prog).G.X 24 cOwner := fn_ok okY (tab := []) trivial bodyOwner
noncomputable def cClone : Con where
  α := NodesA
  β := Nat
  m := 1
  m' := 2
  pre := fun a => a.l.length < 100000
  args := fun a => [.a (.slc 0 0 1 a.l.length a.cap)]
  hp := fun _ => []
  ro := fun a => [(0, .arr 3 [.int .i64] a.l.length (encRows encI a.l))]
  post := fun _ _ => True
  res := fun a cap => .a (.slc 1 0 1 a.l.length cap)
  hp' := fun a _ => [(1, .arr 3 [.int .i64] a.l.length (encRows encI a.l))]
set_option maxHeartbeats 4000000 in
theorem bodyClone : fnBody (Y Try.prog) [] 26 cClone fun _ => [] := fnBody.of (p :=
  ∀ (a : NodesA), a.l.length < (100000 : Nat) →
  ∀ (b : Bool), (b = Bool.true →
  a.l.length = (0 : Nat)) →
  (b = Bool.true →
  ∃ (b : Nat), ((0 : Nat) = a.l.length ∧
  (0 : Nat) = b) ∧
  a.l.length = (0 : Nat) ∧
  True ∧
  True) ∧
  (b = Bool.false →
  (0 : Nat) ≤ (0 : Nat) ∧
  (0 : Nat) + a.l.length ≤ a.l.length ∧
  ((0 : Nat) + a.l.length) * (8 : Nat) ≤ (140737488355328 : Nat) ∧
  ∀ (cap : Nat), (0 : Nat) + a.l.length ≤ cap →
  cap ≤ lenMax →
  ((0 : Nat) + a.l.length ≤ (0 : Nat) →
  cap = (0 : Nat)) →
  ∃ (b : Nat), ((0 : Nat) = (0 : Nat) ∧
  (0 : Nat) + a.l.length = a.l.length ∧
  cap = b) ∧
  (a.l.length ≤ (0 : Nat) + a.l.length ∧
  RowsEq a.l.length (1 : Nat) (appRows (flatRows (1 : Nat) []) (0 : Nat) (0 : Nat) fun (i j : Nat) => encRows encI a.l ((0 : Nat) + i) j) (encRows encI a.l)) ∧
  True ∧
  True)) (by kernel_rfl) (by
  rintro ⟨l, cap⟩ h
  dsimp only at h ⊢
  have hr : RowsEq l.length 1 (appRows (flatRows 1 []) 0 0 fun (i j : Nat) => encRows encI l (0 + i) j) (encRows encI l) := by
    have := RowsEq.app (enc := encI) (n := l.length) (m := 1) (s := 0) (l := []) (q := l) (r0 := flatRows 1 []) (r1 := fun (i j : Nat) => encRows encI l (0 + i) j) (k := 0) rfl .zero (.of_eq (by funext i j; rw [Nat.zero_add]))
    simpa using this
  refine fun b hb => ⟨fun hc => ⟨0, ?_⟩, fun _ => ?_⟩
  · have h0 := hb hc
    ((repeat' apply And.intro) <;> first | with_reducible rfl | omega | (dsimp only; omega) | exact RowsEq.refl _ _ _ | assumption | rfl | trivial | exact Nat.le_refl _ | skip)
  · ((repeat' apply And.intro) <;> first | with_reducible rfl | omega | (dsimp only; omega) | exact RowsEq.refl _ _ _ | assumption | rfl | trivial | exact Nat.le_refl _ | skip)
    refine fun c _ _ _ => ⟨c, ?_⟩
    ((repeat' apply And.intro) <;> first | with_reducible rfl | omega | (dsimp only; omega) | exact RowsEq.refl _ _ _ | assumption | rfl | trivial | exact Nat.le_refl _ | skip))
theorem callClone : CallsBy (Y Try.prog).G.X 26 cClone := fn_ok okY (tab := []) trivial bodyClone
structure HasA where
  l : List Int
  cap : Nat
  n : Int
noncomputable def cHas : Con where
  α := HasA
  β := Unit
  m := 1
  m' := 1
  pre := fun a => a.l.length < 100000
  args := fun a => [.a (.slc 0 0 1 a.l.length a.cap), .a (.int .i64 a.n)]
  hp := fun _ => []
  ro := fun a => [(0, .arr 3 [.int .i64] a.l.length (encRows encI a.l))]
  post := fun _ _ => True
  res := fun a _ => .a (.bool (decide (a.n ∈ a.l)))
  hp' := fun _ _ => []
def iHas (a : HasA) : An := .flat 2 Nat (fun s i => s.int 5 i) (fun _ i => i ≤ a.l.length ∧ a.n ∉ a.l.take i) (fun _ i => a.l.length - i)
set_option maxHeartbeats 4000000 in
theorem bodyHas : fnBody (Y Try.prog) [] 18 cHas fun a => [(18, [iHas a], [])] := fnBody.of (p :=
  ∀ (a : HasA), a.l.length < (100000 : Nat) →
  (∃ (a_2 : Nat), (0 : Int) = (↑a_2 : Int) ∧
  Bool.false = Bool.false ∧
  ((0 : Nat) = (0 : Nat) ∧
  a.l.length = a.l.length ∧
  a.cap = a.cap) ∧
  a.n = a.n ∧
  (a.l.length ≤ a.l.length ∧
  RowsEq a.l.length (1 : Nat) (encRows encI a.l) (encRows encI a.l)) ∧
  (a_2 ≤ a.l.length ∧
  ¬a.n ∈ List.take a_2 a.l) ∧
  True) ∧
  ∀ (a_2 : Nat), a_2 ≤ a.l.length ∧
  ¬a.n ∈ List.take a_2 a.l →
  (Decidable.decide ((↑a_2 : Int) < (↑a.l.length : Int)) = Bool.true →
  ((0 : Int) ≤ (↑a_2 : Int) ∧
  (↑a_2 : Int) < (↑a.l.length : Int)) ∧
  (0 : Nat) + (↑a_2 : Int).toNat < a.l.length ∧
  (InR IntKind.i64 (gl a.l ((0 : Nat) + (↑a_2 : Int).toNat)) →
  ((gl a.l ((0 : Nat) + (↑a_2 : Int).toNat) == a.n) = Bool.true →
  ∃ (b : Unit), Bool.true = Decidable.decide (a.n ∈ a.l) ∧
  True ∧
  True) ∧
  ((gl a.l ((0 : Nat) + (↑a_2 : Int).toNat) == a.n) = Bool.false →
  InR IntKind.i64 ((↑a_2 : Int) + (1 : Int)) ∧
  ∃ (a' : Nat), (↑a_2 : Int) + (1 : Int) = (↑a' : Int) ∧
  Bool.false = Bool.false ∧
  ((0 : Nat) = (0 : Nat) ∧
  a.l.length = a.l.length ∧
  a.cap = a.cap) ∧
  a.n = a.n ∧
  (a.l.length ≤ a.l.length ∧
  RowsEq a.l.length (1 : Nat) (encRows encI a.l) (encRows encI a.l)) ∧
  (a' ≤ a.l.length ∧
  ¬a.n ∈ List.take a' a.l) ∧
  a.l.length - a' < a.l.length - a_2))) ∧
  (Decidable.decide ((↑a_2 : Int) < (↑a.l.length : Int)) = Bool.false →
  ∃ (b : Unit), Bool.false = Decidable.decide (a.n ∈ a.l) ∧
  True ∧
  True)) (by kernel_rfl) (by
  rintro ⟨l, cap, n⟩ h
  dsimp only at *
  simp only [Nat.zero_add, Int.toNat_natCast, InR]
  refine ⟨⟨0, ?_⟩, fun i ⟨i1, i2⟩ => ⟨fun c1 => ?_, fun c1 => ⟨(), ?_, trivial, trivial⟩⟩⟩
  · (repeat' apply And.intro) <;> first | rfl | trivial | exact Nat.le_refl _ | omega | (dsimp only; omega) | exact RowsEq.refl _ _ _ | simp
  · simp only [decide_eq_true_eq] at c1
    have hi : i < l.length := by omega
    refine ⟨by omega, hi, fun _ => ⟨fun c2 => ⟨(), ?_, trivial, trivial⟩, fun c2 => ⟨by omega, i + 1, ?_⟩⟩⟩
    · simp only [beq_iff_eq] at c2
      have : n ∈ l := by rw [← c2]; exact gl_mem hi
      simp [this]
    · simp only [beq_eq_false_iff_ne] at c2
      have : n ∉ l.take (i + 1) := by
        rw [take_succ_gl hi, List.mem_append, List.mem_singleton]
        rintro (h | h)
        · exact i2 h
        · exact c2 h.symm
      (repeat' apply And.intro) <;> first | rfl | trivial | exact Nat.le_refl _ | omega | (dsimp only; omega) | exact RowsEq.refl _ _ _ | exact this
  · simp only [decide_eq_false_iff_not] at c1
    have e : i = l.length := by omega
    subst e
    rw [List.take_length] at i2
    simp [i2])
theorem callHas : CallsBy (Y Try.prog).G.X 18 cHas := fn_ok okY (tab := []) trivial bodyHas
/-! ### who owns a hash, by the document -/

def stepE (a e : Int × Int) : Int × Int := if a.2 = 0 ∨ e.1 < a.1 ∨ e.1 = a.1 ∧ e.2 < a.2 then e else a
def minE (M : List (Int × Int)) : Int × Int := M.foldl stepE (0, 0)
theorem minE_push (M : List (Int × Int)) (e : Int × Int) : minE (M ++ [e]) = stepE (minE M) e := by simp [minE]
def minH (h : Int) (M : List (Int × Int)) : Int × Int := minE (M.filter fun e => decide (h ≤ e.1))
theorem minH_push (h : Int) (M : List (Int × Int)) (e : Int × Int) : minH h (M ++ [e]) = if h ≤ e.1 then stepE (minH h M) e else minH h M := by
  unfold minH
  rw [List.filter_append]
  by_cases c : h ≤ e.1
  · rw [List.filter_cons_of_pos (by simpa using c), List.filter_nil, minE_push, if_pos c]
  · rw [List.filter_cons_of_neg (by simpa using c), List.filter_nil, List.append_nil, if_neg c]
def refOwner (l : List Int) (h : Int) : Int := if mayN l then if (minH h (rawPts l)).2 = 0 then (minE (rawPts l)).2 else (minH h (rawPts l)).2 else 0
structure ROwnA where
  l : List Int
  cap : Nat
  h : Int
noncomputable def cROwner : Con where
  α := ROwnA
  β := Unit
  m := 1
  m' := 1
  pre := fun a => a.l.length < 100000
  args := fun a => [.a (.slc 0 0 1 a.l.length a.cap), .a (.int .u64 a.h)]
  hp := fun _ => []
  ro := fun a => [(0, .arr 3 [.int .i64] a.l.length (encRows encI a.l))]
  post := fun _ _ => True
  res := fun a _ => .a (.int .i64 (refOwner a.l a.h))
  hp' := fun _ _ => []
def S.u64 (s : S) (i : Nat) (n : Int) : S := s.set i (.a (.int .u64 n))
def S.low (s : S) (M : List (Int × Int)) : S := S.u64 (s.int 6 (minE M).2) 8 (minE M).1
def S.best (s : S) (h : Int) (M : List (Int × Int)) : S := S.u64 (s.int 5 (minH h M).2) 7 (minH h M).1
def partPts (a : ROwnA) (i k : Nat) : List (Int × Int) := rawPts (a.l.take i) ++ ptsN (gl a.l i) k
def iRO3 (a : ROwnA) (i k : Nat) : An := .flat 14 Unit (fun s _ => S.low s (partPts a i (k + 1))) (fun _ _ => True) (fun _ _ => 0)
def iRO2 (a : ROwnA) (i : Nat) : An := .mk 9 Nat (fun s k => (S.best (S.low s (partPts a i k)) a.h (partPts a i k)).int 10 k) (fun _ k => k ≤ 8) (fun _ k => 8 - k) fun k => .mk 60 [] [iRO3 a i k]
def iRO1 (a : ROwnA) : An := .mk 6 Nat (fun s i => (S.best (S.low s (rawPts (a.l.take i))) a.h (rawPts (a.l.take i))).int 9 i) (fun _ i => i ≤ a.l.length) (fun _ i => a.l.length - i) fun i => .mk 60 [iRO2 a i] []
noncomputable def tabROwner : List (Nat × Con) := [(28, cMay), (15, cPoint)]
set_option maxHeartbeats 4000000 in
theorem bodyROwner : fnBody (Y Try.prog) tabROwner 13 cROwner fun a => [(13, [iRO1 a], [])] := fnBody.of (p :=
  ∀ (a : ROwnA), a.l.length < (100000 : Nat) →
  ∃ (a_2 : NodesA), ((0 : Nat) = (0 : Nat) ∧
  a.l.length = a_2.l.length ∧
  a.cap = a_2.cap) ∧
  (a_2.l.length ≤ a.l.length ∧
  RowsEq a_2.l.length (1 : Nat) (encRows encI a.l) (encRows encI a_2.l)) ∧
  a_2.l.length < (100000 : Nat) ∧
  ∀ (b : Unit), True →
  ((!mayN a_2.l) = Bool.true →
  ∃ (b : Unit), (0 : Int) = refOwner a.l a.h ∧
  True ∧
  True) ∧
  ((!mayN a_2.l) = Bool.false →
  (∃ (a_5 : Nat), (0 : Int) = (↑a_5 : Int) ∧
  (0 : Int) = (minH a.h (rawPts (List.take a_5 a.l))).fst ∧
  (0 : Int) = (minH a.h (rawPts (List.take a_5 a.l))).snd ∧
  (0 : Int) = (minE (rawPts (List.take a_5 a.l))).fst ∧
  (0 : Int) = (minE (rawPts (List.take a_5 a.l))).snd ∧
  (!mayN a_2.l) = !mayN a_2.l ∧
  (0 : Int) = (0 : Int) ∧
  ((0 : Nat) = (0 : Nat) ∧
  a.l.length = a.l.length ∧
  a.cap = a.cap) ∧
  a.h = a.h ∧
  (a.l.length ≤ a.l.length ∧
  RowsEq a.l.length (1 : Nat) (encRows encI a.l) (encRows encI a.l)) ∧
  a_5 ≤ a.l.length ∧
  True) ∧
  ∀ (a_5 : Nat), a_5 ≤ a.l.length →
  (Decidable.decide ((↑a_5 : Int) < (↑a.l.length : Int)) = Bool.true →
  (∃ (a_8 : Nat), (0 : Int) = (↑a_8 : Int) ∧
  (minH a.h (rawPts (List.take a_5 a.l))).fst = (minH a.h (partPts a a_5 a_8)).fst ∧
  (minH a.h (rawPts (List.take a_5 a.l))).snd = (minH a.h (partPts a a_5 a_8)).snd ∧
  (minE (rawPts (List.take a_5 a.l))).fst = (minE (partPts a a_5 a_8)).fst ∧
  (minE (rawPts (List.take a_5 a.l))).snd = (minE (partPts a a_5 a_8)).snd ∧
  Decidable.decide ((↑a_5 : Int) < (↑a.l.length : Int)) = Decidable.decide ((↑a_5 : Int) < (↑a.l.length : Int)) ∧
  (↑a_5 : Int) = (↑a_5 : Int) ∧
  (!mayN a_2.l) = !mayN a_2.l ∧
  (0 : Int) = (0 : Int) ∧
  ((0 : Nat) = (0 : Nat) ∧
  a.l.length = a.l.length ∧
  a.cap = a.cap) ∧
  a.h = a.h ∧
  (a.l.length ≤ a.l.length ∧
  RowsEq a.l.length (1 : Nat) (encRows encI a.l) (encRows encI a.l)) ∧
  a_8 ≤ (8 : Nat) ∧
  True) ∧
  ∀ (a_8 : Nat), a_8 ≤ (8 : Nat) →
  (Decidable.decide ((↑a_8 : Int) < (8 : Int)) = Bool.true →
  ((0 : Int) ≤ (↑a_5 : Int) ∧
  (↑a_5 : Int) < (↑a.l.length : Int)) ∧
  (0 : Nat) + (↑a_5 : Int).toNat < a.l.length ∧
  (InR IntKind.i64 (gl a.l ((0 : Nat) + (↑a_5 : Int).toNat)) →
  ∃ (a_12 : Int × Int), gl a.l ((0 : Nat) + (↑a_5 : Int).toNat) = a_12.fst ∧
  (↑a_8 : Int) = a_12.snd ∧
  ((0 : Int) ≤ a_12.fst ∧
  a_12.fst ≤ (100 : Int) ∧
  (0 : Int) ≤ a_12.snd ∧
  a_12.snd ≤ (100 : Int)) ∧
  ∀ (b : Unit), True →
  ((((minE (partPts a a_5 a_8)).snd == (0 : Int)) = Bool.true →
  ((0 : Int) ≤ (↑a_5 : Int) ∧
  (↑a_5 : Int) < (↑a.l.length : Int)) ∧
  (0 : Nat) + (↑a_5 : Int).toNat < a.l.length ∧
  (InR IntKind.i64 (gl a.l ((0 : Nat) + (↑a_5 : Int).toNat)) →
  ∃ (a_16 : Unit), pointI a_12.fst a_12.snd = (minE (partPts a a_5 (a_8 + (1 : Nat)))).fst ∧
  gl a.l ((0 : Nat) + (↑a_5 : Int).toNat) = (minE (partPts a a_5 (a_8 + (1 : Nat)))).snd ∧
  pointI a_12.fst a_12.snd = pointI a_12.fst a_12.snd ∧
  Decidable.decide ((↑a_8 : Int) < (8 : Int)) = Decidable.decide ((↑a_8 : Int) < (8 : Int)) ∧
  (↑a_8 : Int) = (↑a_8 : Int) ∧
  (minH a.h (partPts a a_5 a_8)).fst = (minH a.h (partPts a a_5 a_8)).fst ∧
  (minH a.h (partPts a a_5 a_8)).snd = (minH a.h (partPts a a_5 a_8)).snd ∧
  Decidable.decide ((↑a_5 : Int) < (↑a.l.length : Int)) = Decidable.decide ((↑a_5 : Int) < (↑a.l.length : Int)) ∧
  (↑a_5 : Int) = (↑a_5 : Int) ∧
  (!mayN a_2.l) = !mayN a_2.l ∧
  (0 : Int) = (0 : Int) ∧
  ((0 : Nat) = (0 : Nat) ∧
  a.l.length = a.l.length ∧
  a.cap = a.cap) ∧
  a.h = a.h ∧
  (a.l.length ≤ a.l.length ∧
  RowsEq a.l.length (1 : Nat) (encRows encI a.l) (encRows encI a.l)) ∧
  True ∧
  True)) ∧
  (((minE (partPts a a_5 a_8)).snd == (0 : Int)) = Bool.false →
  (Decidable.decide (pointI a_12.fst a_12.snd < (minE (partPts a a_5 a_8)).fst) = Bool.true →
  ((0 : Int) ≤ (↑a_5 : Int) ∧
  (↑a_5 : Int) < (↑a.l.length : Int)) ∧
  (0 : Nat) + (↑a_5 : Int).toNat < a.l.length ∧
  (InR IntKind.i64 (gl a.l ((0 : Nat) + (↑a_5 : Int).toNat)) →
  ∃ (a_17 : Unit), pointI a_12.fst a_12.snd = (minE (partPts a a_5 (a_8 + (1 : Nat)))).fst ∧
  gl a.l ((0 : Nat) + (↑a_5 : Int).toNat) = (minE (partPts a a_5 (a_8 + (1 : Nat)))).snd ∧
  pointI a_12.fst a_12.snd = pointI a_12.fst a_12.snd ∧
  Decidable.decide ((↑a_8 : Int) < (8 : Int)) = Decidable.decide ((↑a_8 : Int) < (8 : Int)) ∧
  (↑a_8 : Int) = (↑a_8 : Int) ∧
  (minH a.h (partPts a a_5 a_8)).fst = (minH a.h (partPts a a_5 a_8)).fst ∧
  (minH a.h (partPts a a_5 a_8)).snd = (minH a.h (partPts a a_5 a_8)).snd ∧
  Decidable.decide ((↑a_5 : Int) < (↑a.l.length : Int)) = Decidable.decide ((↑a_5 : Int) < (↑a.l.length : Int)) ∧
  (↑a_5 : Int) = (↑a_5 : Int) ∧
  (!mayN a_2.l) = !mayN a_2.l ∧
  (0 : Int) = (0 : Int) ∧
  ((0 : Nat) = (0 : Nat) ∧
  a.l.length = a.l.length ∧
  a.cap = a.cap) ∧
  a.h = a.h ∧
  (a.l.length ≤ a.l.length ∧
  RowsEq a.l.length (1 : Nat) (encRows encI a.l) (encRows encI a.l)) ∧
  True ∧
  True)) ∧
  (Decidable.decide (pointI a_12.fst a_12.snd < (minE (partPts a a_5 a_8)).fst) = Bool.false →
  ((pointI a_12.fst a_12.snd == (minE (partPts a a_5 a_8)).fst) = Bool.true →
  ((0 : Int) ≤ (↑a_5 : Int) ∧
  (↑a_5 : Int) < (↑a.l.length : Int)) ∧
  (0 : Nat) + (↑a_5 : Int).toNat < a.l.length ∧
  (InR IntKind.i64 (gl a.l ((0 : Nat) + (↑a_5 : Int).toNat)) →
  (Decidable.decide (gl a.l ((0 : Nat) + (↑a_5 : Int).toNat) < (minE (partPts a a_5 a_8)).snd) = Bool.true →
  ((0 : Int) ≤ (↑a_5 : Int) ∧
  (↑a_5 : Int) < (↑a.l.length : Int)) ∧
  (0 : Nat) + (↑a_5 : Int).toNat < a.l.length ∧
  (InR IntKind.i64 (gl a.l ((0 : Nat) + (↑a_5 : Int).toNat)) →
  ∃ (a_20 : Unit), pointI a_12.fst a_12.snd = (minE (partPts a a_5 (a_8 + (1 : Nat)))).fst ∧
  gl a.l ((0 : Nat) + (↑a_5 : Int).toNat) = (minE (partPts a a_5 (a_8 + (1 : Nat)))).snd ∧
  pointI a_12.fst a_12.snd = pointI a_12.fst a_12.snd ∧
  Decidable.decide ((↑a_8 : Int) < (8 : Int)) = Decidable.decide ((↑a_8 : Int) < (8 : Int)) ∧
  (↑a_8 : Int) = (↑a_8 : Int) ∧
  (minH a.h (partPts a a_5 a_8)).fst = (minH a.h (partPts a a_5 a_8)).fst ∧
  (minH a.h (partPts a a_5 a_8)).snd = (minH a.h (partPts a a_5 a_8)).snd ∧
  Decidable.decide ((↑a_5 : Int) < (↑a.l.length : Int)) = Decidable.decide ((↑a_5 : Int) < (↑a.l.length : Int)) ∧
  (↑a_5 : Int) = (↑a_5 : Int) ∧
  (!mayN a_2.l) = !mayN a_2.l ∧
  (0 : Int) = (0 : Int) ∧
  ((0 : Nat) = (0 : Nat) ∧
  a.l.length = a.l.length ∧
  a.cap = a.cap) ∧
  a.h = a.h ∧
  (a.l.length ≤ a.l.length ∧
  RowsEq a.l.length (1 : Nat) (encRows encI a.l) (encRows encI a.l)) ∧
  True ∧
  True)) ∧
  (Decidable.decide (gl a.l ((0 : Nat) + (↑a_5 : Int).toNat) < (minE (partPts a a_5 a_8)).snd) = Bool.false →
  ∃ (a_19 : Unit), (minE (partPts a a_5 a_8)).fst = (minE (partPts a a_5 (a_8 + (1 : Nat)))).fst ∧
  (minE (partPts a a_5 a_8)).snd = (minE (partPts a a_5 (a_8 + (1 : Nat)))).snd ∧
  pointI a_12.fst a_12.snd = pointI a_12.fst a_12.snd ∧
  Decidable.decide ((↑a_8 : Int) < (8 : Int)) = Decidable.decide ((↑a_8 : Int) < (8 : Int)) ∧
  (↑a_8 : Int) = (↑a_8 : Int) ∧
  (minH a.h (partPts a a_5 a_8)).fst = (minH a.h (partPts a a_5 a_8)).fst ∧
  (minH a.h (partPts a a_5 a_8)).snd = (minH a.h (partPts a a_5 a_8)).snd ∧
  Decidable.decide ((↑a_5 : Int) < (↑a.l.length : Int)) = Decidable.decide ((↑a_5 : Int) < (↑a.l.length : Int)) ∧
  (↑a_5 : Int) = (↑a_5 : Int) ∧
  (!mayN a_2.l) = !mayN a_2.l ∧
  (0 : Int) = (0 : Int) ∧
  ((0 : Nat) = (0 : Nat) ∧
  a.l.length = a.l.length ∧
  a.cap = a.cap) ∧
  a.h = a.h ∧
  (a.l.length ≤ a.l.length ∧
  RowsEq a.l.length (1 : Nat) (encRows encI a.l) (encRows encI a.l)) ∧
  True ∧
  True))) ∧
  ((pointI a_12.fst a_12.snd == (minE (partPts a a_5 a_8)).fst) = Bool.false →
  ∃ (a_17 : Unit), (minE (partPts a a_5 a_8)).fst = (minE (partPts a a_5 (a_8 + (1 : Nat)))).fst ∧
  (minE (partPts a a_5 a_8)).snd = (minE (partPts a a_5 (a_8 + (1 : Nat)))).snd ∧
  pointI a_12.fst a_12.snd = pointI a_12.fst a_12.snd ∧
  Decidable.decide ((↑a_8 : Int) < (8 : Int)) = Decidable.decide ((↑a_8 : Int) < (8 : Int)) ∧
  (↑a_8 : Int) = (↑a_8 : Int) ∧
  (minH a.h (partPts a a_5 a_8)).fst = (minH a.h (partPts a a_5 a_8)).fst ∧
  (minH a.h (partPts a a_5 a_8)).snd = (minH a.h (partPts a a_5 a_8)).snd ∧
  Decidable.decide ((↑a_5 : Int) < (↑a.l.length : Int)) = Decidable.decide ((↑a_5 : Int) < (↑a.l.length : Int)) ∧
  (↑a_5 : Int) = (↑a_5 : Int) ∧
  (!mayN a_2.l) = !mayN a_2.l ∧
  (0 : Int) = (0 : Int) ∧
  ((0 : Nat) = (0 : Nat) ∧
  a.l.length = a.l.length ∧
  a.cap = a.cap) ∧
  a.h = a.h ∧
  (a.l.length ≤ a.l.length ∧
  RowsEq a.l.length (1 : Nat) (encRows encI a.l) (encRows encI a.l)) ∧
  True ∧
  True)))) ∧
  ∀ (a_14 : Unit), True →
  (Decidable.decide (a.h ≤ pointI a_12.fst a_12.snd) = Bool.true →
  (((minH a.h (partPts a a_5 a_8)).snd == (0 : Int)) = Bool.true →
  ((0 : Int) ≤ (↑a_5 : Int) ∧
  (↑a_5 : Int) < (↑a.l.length : Int)) ∧
  (0 : Nat) + (↑a_5 : Int).toNat < a.l.length ∧
  (InR IntKind.i64 (gl a.l ((0 : Nat) + (↑a_5 : Int).toNat)) →
  InR IntKind.i64 ((↑a_8 : Int) + (1 : Int)) ∧
  ∃ (a' : Nat), (↑a_8 : Int) + (1 : Int) = (↑a' : Int) ∧
  pointI a_12.fst a_12.snd = (minH a.h (partPts a a_5 a')).fst ∧
  gl a.l ((0 : Nat) + (↑a_5 : Int).toNat) = (minH a.h (partPts a a_5 a')).snd ∧
  (minE (partPts a a_5 (a_8 + (1 : Nat)))).fst = (minE (partPts a a_5 a')).fst ∧
  (minE (partPts a a_5 (a_8 + (1 : Nat)))).snd = (minE (partPts a a_5 a')).snd ∧
  Decidable.decide ((↑a_5 : Int) < (↑a.l.length : Int)) = Decidable.decide ((↑a_5 : Int) < (↑a.l.length : Int)) ∧
  (↑a_5 : Int) = (↑a_5 : Int) ∧
  (!mayN a_2.l) = !mayN a_2.l ∧
  (0 : Int) = (0 : Int) ∧
  ((0 : Nat) = (0 : Nat) ∧
  a.l.length = a.l.length ∧
  a.cap = a.cap) ∧
  a.h = a.h ∧
  (a.l.length ≤ a.l.length ∧
  RowsEq a.l.length (1 : Nat) (encRows encI a.l) (encRows encI a.l)) ∧
  a' ≤ (8 : Nat) ∧
  (8 : Nat) - a' < (8 : Nat) - a_8)) ∧
  (((minH a.h (partPts a a_5 a_8)).snd == (0 : Int)) = Bool.false →
  (Decidable.decide (pointI a_12.fst a_12.snd < (minH a.h (partPts a a_5 a_8)).fst) = Bool.true →
  ((0 : Int) ≤ (↑a_5 : Int) ∧
  (↑a_5 : Int) < (↑a.l.length : Int)) ∧
  (0 : Nat) + (↑a_5 : Int).toNat < a.l.length ∧
  (InR IntKind.i64 (gl a.l ((0 : Nat) + (↑a_5 : Int).toNat)) →
  InR IntKind.i64 ((↑a_8 : Int) + (1 : Int)) ∧
  ∃ (a' : Nat), (↑a_8 : Int) + (1 : Int) = (↑a' : Int) ∧
  pointI a_12.fst a_12.snd = (minH a.h (partPts a a_5 a')).fst ∧
  gl a.l ((0 : Nat) + (↑a_5 : Int).toNat) = (minH a.h (partPts a a_5 a')).snd ∧
  (minE (partPts a a_5 (a_8 + (1 : Nat)))).fst = (minE (partPts a a_5 a')).fst ∧
  (minE (partPts a a_5 (a_8 + (1 : Nat)))).snd = (minE (partPts a a_5 a')).snd ∧
  Decidable.decide ((↑a_5 : Int) < (↑a.l.length : Int)) = Decidable.decide ((↑a_5 : Int) < (↑a.l.length : Int)) ∧
  (↑a_5 : Int) = (↑a_5 : Int) ∧
  (!mayN a_2.l) = !mayN a_2.l ∧
  (0 : Int) = (0 : Int) ∧
  ((0 : Nat) = (0 : Nat) ∧
  a.l.length = a.l.length ∧
  a.cap = a.cap) ∧
  a.h = a.h ∧
  (a.l.length ≤ a.l.length ∧
  RowsEq a.l.length (1 : Nat) (encRows encI a.l) (encRows encI a.l)) ∧
  a' ≤ (8 : Nat) ∧
  (8 : Nat) - a' < (8 : Nat) - a_8)) ∧
  (Decidable.decide (pointI a_12.fst a_12.snd < (minH a.h (partPts a a_5 a_8)).fst) = Bool.false →
  ((pointI a_12.fst a_12.snd == (minH a.h (partPts a a_5 a_8)).fst) = Bool.true →
  ((0 : Int) ≤ (↑a_5 : Int) ∧
  (↑a_5 : Int) < (↑a.l.length : Int)) ∧
  (0 : Nat) + (↑a_5 : Int).toNat < a.l.length ∧
  (InR IntKind.i64 (gl a.l ((0 : Nat) + (↑a_5 : Int).toNat)) →
  (Decidable.decide (gl a.l ((0 : Nat) + (↑a_5 : Int).toNat) < (minH a.h (partPts a a_5 a_8)).snd) = Bool.true →
  ((0 : Int) ≤ (↑a_5 : Int) ∧
  (↑a_5 : Int) < (↑a.l.length : Int)) ∧
  (0 : Nat) + (↑a_5 : Int).toNat < a.l.length ∧
  (InR IntKind.i64 (gl a.l ((0 : Nat) + (↑a_5 : Int).toNat)) →
  InR IntKind.i64 ((↑a_8 : Int) + (1 : Int)) ∧
  ∃ (a' : Nat), (↑a_8 : Int) + (1 : Int) = (↑a' : Int) ∧
  pointI a_12.fst a_12.snd = (minH a.h (partPts a a_5 a')).fst ∧
  gl a.l ((0 : Nat) + (↑a_5 : Int).toNat) = (minH a.h (partPts a a_5 a')).snd ∧
  (minE (partPts a a_5 (a_8 + (1 : Nat)))).fst = (minE (partPts a a_5 a')).fst ∧
  (minE (partPts a a_5 (a_8 + (1 : Nat)))).snd = (minE (partPts a a_5 a')).snd ∧
  Decidable.decide ((↑a_5 : Int) < (↑a.l.length : Int)) = Decidable.decide ((↑a_5 : Int) < (↑a.l.length : Int)) ∧
  (↑a_5 : Int) = (↑a_5 : Int) ∧
  (!mayN a_2.l) = !mayN a_2.l ∧
  (0 : Int) = (0 : Int) ∧
  ((0 : Nat) = (0 : Nat) ∧
  a.l.length = a.l.length ∧
  a.cap = a.cap) ∧
  a.h = a.h ∧
  (a.l.length ≤ a.l.length ∧
  RowsEq a.l.length (1 : Nat) (encRows encI a.l) (encRows encI a.l)) ∧
  a' ≤ (8 : Nat) ∧
  (8 : Nat) - a' < (8 : Nat) - a_8)) ∧
  (Decidable.decide (gl a.l ((0 : Nat) + (↑a_5 : Int).toNat) < (minH a.h (partPts a a_5 a_8)).snd) = Bool.false →
  InR IntKind.i64 ((↑a_8 : Int) + (1 : Int)) ∧
  ∃ (a' : Nat), (↑a_8 : Int) + (1 : Int) = (↑a' : Int) ∧
  (minH a.h (partPts a a_5 a_8)).fst = (minH a.h (partPts a a_5 a')).fst ∧
  (minH a.h (partPts a a_5 a_8)).snd = (minH a.h (partPts a a_5 a')).snd ∧
  (minE (partPts a a_5 (a_8 + (1 : Nat)))).fst = (minE (partPts a a_5 a')).fst ∧
  (minE (partPts a a_5 (a_8 + (1 : Nat)))).snd = (minE (partPts a a_5 a')).snd ∧
  Decidable.decide ((↑a_5 : Int) < (↑a.l.length : Int)) = Decidable.decide ((↑a_5 : Int) < (↑a.l.length : Int)) ∧
  (↑a_5 : Int) = (↑a_5 : Int) ∧
  (!mayN a_2.l) = !mayN a_2.l ∧
  (0 : Int) = (0 : Int) ∧
  ((0 : Nat) = (0 : Nat) ∧
  a.l.length = a.l.length ∧
  a.cap = a.cap) ∧
  a.h = a.h ∧
  (a.l.length ≤ a.l.length ∧
  RowsEq a.l.length (1 : Nat) (encRows encI a.l) (encRows encI a.l)) ∧
  a' ≤ (8 : Nat) ∧
  (8 : Nat) - a' < (8 : Nat) - a_8))) ∧
  ((pointI a_12.fst a_12.snd == (minH a.h (partPts a a_5 a_8)).fst) = Bool.false →
  InR IntKind.i64 ((↑a_8 : Int) + (1 : Int)) ∧
  ∃ (a' : Nat), (↑a_8 : Int) + (1 : Int) = (↑a' : Int) ∧
  (minH a.h (partPts a a_5 a_8)).fst = (minH a.h (partPts a a_5 a')).fst ∧
  (minH a.h (partPts a a_5 a_8)).snd = (minH a.h (partPts a a_5 a')).snd ∧
  (minE (partPts a a_5 (a_8 + (1 : Nat)))).fst = (minE (partPts a a_5 a')).fst ∧
  (minE (partPts a a_5 (a_8 + (1 : Nat)))).snd = (minE (partPts a a_5 a')).snd ∧
  Decidable.decide ((↑a_5 : Int) < (↑a.l.length : Int)) = Decidable.decide ((↑a_5 : Int) < (↑a.l.length : Int)) ∧
  (↑a_5 : Int) = (↑a_5 : Int) ∧
  (!mayN a_2.l) = !mayN a_2.l ∧
  (0 : Int) = (0 : Int) ∧
  ((0 : Nat) = (0 : Nat) ∧
  a.l.length = a.l.length ∧
  a.cap = a.cap) ∧
  a.h = a.h ∧
  (a.l.length ≤ a.l.length ∧
  RowsEq a.l.length (1 : Nat) (encRows encI a.l) (encRows encI a.l)) ∧
  a' ≤ (8 : Nat) ∧
  (8 : Nat) - a' < (8 : Nat) - a_8)))) ∧
  (Decidable.decide (a.h ≤ pointI a_12.fst a_12.snd) = Bool.false →
  InR IntKind.i64 ((↑a_8 : Int) + (1 : Int)) ∧
  ∃ (a' : Nat), (↑a_8 : Int) + (1 : Int) = (↑a' : Int) ∧
  (minH a.h (partPts a a_5 a_8)).fst = (minH a.h (partPts a a_5 a')).fst ∧
  (minH a.h (partPts a a_5 a_8)).snd = (minH a.h (partPts a a_5 a')).snd ∧
  (minE (partPts a a_5 (a_8 + (1 : Nat)))).fst = (minE (partPts a a_5 a')).fst ∧
  (minE (partPts a a_5 (a_8 + (1 : Nat)))).snd = (minE (partPts a a_5 a')).snd ∧
  Decidable.decide ((↑a_5 : Int) < (↑a.l.length : Int)) = Decidable.decide ((↑a_5 : Int) < (↑a.l.length : Int)) ∧
  (↑a_5 : Int) = (↑a_5 : Int) ∧
  (!mayN a_2.l) = !mayN a_2.l ∧
  (0 : Int) = (0 : Int) ∧
  ((0 : Nat) = (0 : Nat) ∧
  a.l.length = a.l.length ∧
  a.cap = a.cap) ∧
  a.h = a.h ∧
  (a.l.length ≤ a.l.length ∧
  RowsEq a.l.length (1 : Nat) (encRows encI a.l) (encRows encI a.l)) ∧
  a' ≤ (8 : Nat) ∧
  (8 : Nat) - a' < (8 : Nat) - a_8))) ∧
  (Decidable.decide ((↑a_8 : Int) < (8 : Int)) = Bool.false →
  InR IntKind.i64 ((↑a_5 : Int) + (1 : Int)) ∧
  ∃ (a' : Nat), (↑a_5 : Int) + (1 : Int) = (↑a' : Int) ∧
  (minH a.h (partPts a a_5 a_8)).fst = (minH a.h (rawPts (List.take a' a.l))).fst ∧
  (minH a.h (partPts a a_5 a_8)).snd = (minH a.h (rawPts (List.take a' a.l))).snd ∧
  (minE (partPts a a_5 a_8)).fst = (minE (rawPts (List.take a' a.l))).fst ∧
  (minE (partPts a a_5 a_8)).snd = (minE (rawPts (List.take a' a.l))).snd ∧
  (!mayN a_2.l) = !mayN a_2.l ∧
  (0 : Int) = (0 : Int) ∧
  ((0 : Nat) = (0 : Nat) ∧
  a.l.length = a.l.length ∧
  a.cap = a.cap) ∧
  a.h = a.h ∧
  (a.l.length ≤ a.l.length ∧
  RowsEq a.l.length (1 : Nat) (encRows encI a.l) (encRows encI a.l)) ∧
  a' ≤ a.l.length ∧
  a.l.length - a' < a.l.length - a_5)) ∧
  (Decidable.decide ((↑a_5 : Int) < (↑a.l.length : Int)) = Bool.false →
  (((minH a.h (rawPts (List.take a_5 a.l))).snd == (0 : Int)) = Bool.true →
  ∃ (b : Unit), (minE (rawPts (List.take a_5 a.l))).snd = refOwner a.l a.h ∧
  True ∧
  True) ∧
  (((minH a.h (rawPts (List.take a_5 a.l))).snd == (0 : Int)) = Bool.false →
  ∃ (b : Unit), (minH a.h (rawPts (List.take a_5 a.l))).snd = refOwner a.l a.h ∧
  True ∧
  True)))) (by kernel_rfl) (by
  rintro ⟨l, cap, h⟩ hl
  dsimp only at hl ⊢
  refine ⟨⟨l, cap⟩, ?_⟩
  ((repeat' apply And.intro) <;> first | with_reducible rfl | omega | (dsimp only; omega) | exact RowsEq.refl _ _ _ | assumption | rfl | trivial | exact Nat.le_refl _ | skip)
  dsimp only
  simp only [Nat.zero_add, Int.toNat_natCast, InR]
  refine fun _ _ => ⟨fun c0 => ⟨(), ?_, trivial, trivial⟩, fun c0 => ⟨⟨0, ?_⟩, fun i hi => ⟨fun c1 => ⟨⟨0, ?_⟩, fun k hk => ⟨fun c2 => ?_, fun c2 => ?_⟩⟩, fun c1 => ?_⟩⟩⟩
  · have : ¬ mayN l = true := by simpa using c0
    exact (if_neg this).symm
  · have e0 : rawPts (l.take 0) = [] := rfl
    rw [e0]
    ((repeat' apply And.intro) <;> first | with_reducible rfl | omega | (dsimp only; omega) | exact RowsEq.refl _ _ _ | assumption | rfl | trivial | exact Nat.le_refl _ | skip)
  · have e0 : partPts ⟨l, cap, h⟩ i 0 = rawPts (l.take i) := List.append_nil _
    rw [e0]
    ((repeat' apply And.intro) <;> first | with_reducible rfl | omega | (dsimp only; omega) | exact RowsEq.refl _ _ _ | assumption | rfl | trivial | exact Nat.le_refl _ | skip)
  · have hm : mayN l = true := by simpa using c0
    simp only [decide_eq_true_eq] at c1 c2
    have hi' : i < l.length := by omega
    have hb := mayN_at hm hi'
    have es : partPts ⟨l, cap, h⟩ i (k + 1) = partPts ⟨l, cap, h⟩ i k ++ [(pointI (gl l i) k, gl l i)] := by
      unfold partPts; rw [ptsN_succ, List.append_assoc]
    have eA := minE_push (partPts ⟨l, cap, h⟩ i k) (pointI (gl l i) k, gl l i)
    have eB := minH_push h (partPts ⟨l, cap, h⟩ i k) (pointI (gl l i) k, gl l i)
    rw [← es] at eA eB
    generalize minE (partPts ⟨l, cap, h⟩ i k) = A at *
    generalize minH h (partPts ⟨l, cap, h⟩ i k) = B at *
    obtain ⟨a1, a2⟩ := A
    obtain ⟨b1, b2⟩ := B
    dsimp only [stepE] at eA eB
    generalize hA' : minE (partPts ⟨l, cap, h⟩ i (k + 1)) = A' at *
    generalize hB' : minH h (partPts ⟨l, cap, h⟩ i (k + 1)) = B' at *
    (repeat' (first | intro _ | apply And.intro | apply Exists.intro (k + 1 : Nat) | apply Exists.intro () | apply Exists.intro (gl l i, (k : Int))))
    all_goals (try with_reducible rfl)
    all_goals (try exact trivial)
    all_goals (try omega)
    all_goals (try (dsimp only; omega))
    all_goals (try exact RowsEq.refl _ _ _)
    all_goals (try rw [hB'])
    all_goals (try rw [hA'])
    all_goals (clear hB' hA' es hb hm)
    all_goals grind
  · simp only [decide_eq_true_eq, decide_eq_false_iff_not] at c1 c2
    have hk' : k = 8 := by omega
    subst hk'
    have e8 : partPts ⟨l, cap, h⟩ i 8 = rawPts (l.take (i + 1)) := (rawPts_succ (l := l) (show i < l.length by omega)).symm
    refine ⟨by omega, i + 1, ?_⟩
    rw [e8]
    ((repeat' apply And.intro) <;> first | with_reducible rfl | omega | (dsimp only; omega) | exact RowsEq.refl _ _ _ | assumption | rfl | trivial | exact Nat.le_refl _ | skip)
  · have hm : mayN l = true := by simpa using c0
    simp only [decide_eq_false_iff_not] at c1
    have hi' : i = l.length := by omega
    subst hi'
    rw [List.take_length]
    have er : refOwner l h = if (minH h (rawPts l)).2 = 0 then (minE (rawPts l)).2 else (minH h (rawPts l)).2 := if_pos hm
    rw [er]
    refine ⟨fun c2 => ⟨(), ?_, trivial, trivial⟩, fun c2 => ⟨(), ?_, trivial, trivial⟩⟩
    · rw [if_pos (by simpa using c2)]
    · rw [if_neg (by simpa using c2)])
theorem callROwner : CallsBy (Y Try.prog).G.X 13 cROwner := fn_ok okY (tab := tabROwner) ⟨callNodes, callRPoint, trivial⟩ bodyROwner
end Go.Proofs.Ythofnohpdbbidaa
