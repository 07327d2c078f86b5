/-
  Which messages may be, both ways; no condition but that lists are short.
-/
import Derived.Test.YthgnaehfepcblaaMsgv
namespace Go.Proofs.Ythgnaehfepcblaa
open Go.Sx
set_option maxRecDepth 100000
set_option linter.unusedVariables false

structure inAll (a : InA) : Prop where
  at_ : ∀ i, i < a.n → 0 ≤ toI (a.rows i 0) ∧ toI (a.rows i 0) ≤ a.g
noncomputable def cInF : Con where
  α := InA
  β := Bool
  m := 1
  m' := 1
  pre := fun a => a.n ≤ 1000
  args := fun a => [.a (.int .i64 a.g), .a (.slc 0 0 1 a.n a.cap)]
  hp := fun _ => []
  ro := fun a => [(0, .arr 2 [.int .i64] a.n a.rows)]
  post := fun a b => b = true ↔ inAll a
  res := fun _ b => .a (.bool b)
  hp' := fun _ _ => []
def iInF (a : InA) : An := .flat 2 Nat (fun s i => s.int 9 i) (fun _ i => i ≤ a.n ∧ ∀ j, j < i → 0 ≤ toI (a.rows j 0) ∧ toI (a.rows j 0) ≤ a.g) (fun _ i => a.n - i)
theorem noo {p : Prop} (h : ¬ p) : (false = true ↔ p) := ⟨fun g => (by cases g), fun g => absurd g h⟩
theorem yess {p : Prop} (h : p) : (true = true ↔ p) := ⟨fun _ => h, fun _ => rfl⟩
set_option maxHeartbeats 4000000 in
theorem bodyInF : fnBody (Y Try.prog) [] 34 cInF fun a => [(34, [iInF a], [])] := fnBody.of (p :=
  ∀ (a : InA), a.n ≤ (1000 : Nat) →
  (∃ (a_2 : Nat), (0 : Int) = (↑a_2 : Int) ∧
  (↑a.n : Int) = (↑a.n : Int) ∧
  ((0 : Nat) = (0 : Nat) ∧
  a.n = a.n ∧
  a.cap = a.cap) ∧
  Bool.false = Bool.false ∧
  a.g = a.g ∧
  ((0 : Nat) = (0 : Nat) ∧
  a.n = a.n ∧
  a.cap = a.cap) ∧
  (a.n ≤ a.n ∧
  RowsEq a.n (1 : Nat) a.rows a.rows) ∧
  (a_2 ≤ a.n ∧
  ∀ (j : Nat), j < a_2 →
  (0 : Int) ≤ toI (a.rows j (0 : Nat)) ∧
  toI (a.rows j (0 : Nat)) ≤ a.g) ∧
  True) ∧
  ∀ (a_2 : Nat), (a_2 ≤ a.n ∧
  ∀ (j : Nat), j < a_2 →
  (0 : Int) ≤ toI (a.rows j (0 : Nat)) ∧
  toI (a.rows j (0 : Nat)) ≤ a.g) →
  (Decidable.decide ((↑a_2 : Int) < (↑a.n : Int)) = Bool.true →
  ((0 : Int) ≤ (↑a_2 : Int) ∧
  (↑a_2 : Int) < (↑a.n : Int)) ∧
  (0 : Nat) + (↑a_2 : Int).toNat < a.n ∧
  (InR IntKind.i64 (toI (a.rows ((0 : Nat) + (↑a_2 : Int).toNat) (0 : Nat))) →
  (Decidable.decide (toI (a.rows ((0 : Nat) + (↑a_2 : Int).toNat) (0 : Nat)) < (0 : Int)) = Bool.true →
  ∃ (b : Bool), Bool.false = b ∧
  (b = Bool.true ↔ inAll a) ∧
  True) ∧
  (Decidable.decide (toI (a.rows ((0 : Nat) + (↑a_2 : Int).toNat) (0 : Nat)) < (0 : Int)) = Bool.false →
  (Decidable.decide (a.g < toI (a.rows ((0 : Nat) + (↑a_2 : Int).toNat) (0 : Nat))) = Bool.true →
  ∃ (b : Bool), Bool.false = b ∧
  (b = Bool.true ↔ inAll a) ∧
  True) ∧
  (Decidable.decide (a.g < toI (a.rows ((0 : Nat) + (↑a_2 : Int).toNat) (0 : Nat))) = Bool.false →
  InR IntKind.i64 ((↑a_2 : Int) + (1 : Int)) ∧
  ∃ (a' : Nat), (↑a_2 : Int) + (1 : Int) = (↑a' : Int) ∧
  (↑a.n : Int) = (↑a.n : Int) ∧
  ((0 : Nat) = (0 : Nat) ∧
  a.n = a.n ∧
  a.cap = a.cap) ∧
  Bool.false = Bool.false ∧
  a.g = a.g ∧
  ((0 : Nat) = (0 : Nat) ∧
  a.n = a.n ∧
  a.cap = a.cap) ∧
  (a.n ≤ a.n ∧
  RowsEq a.n (1 : Nat) a.rows a.rows) ∧
  (a' ≤ a.n ∧
  ∀ (j : Nat), j < a' →
  (0 : Int) ≤ toI (a.rows j (0 : Nat)) ∧
  toI (a.rows j (0 : Nat)) ≤ a.g) ∧
  a.n - a' < a.n - a_2)))) ∧
  (Decidable.decide ((↑a_2 : Int) < (↑a.n : Int)) = Bool.false →
  ∃ (b : Bool), Bool.true = b ∧
  (b = Bool.true ↔ inAll a) ∧
  True)) (by kernel_rfl) (by
  rintro ⟨g, n, cap, rows⟩ h1
  dsimp only at h1 ⊢
  simp only [Nat.zero_add, Int.toNat_natCast, InR]
  refine ⟨⟨0, ?_⟩, fun i hi => ⟨fun c1 => ?_, fun c1 => ⟨true, rfl, yess ⟨fun j hj => ?_⟩, trivial⟩⟩⟩
  · ((repeat' apply And.intro) <;> first | with_reducible rfl | omega | (dsimp only; omega) | exact RowsEq.refl _ _ _ | assumption | rfl | trivial | exact Nat.le_refl _ | skip)
  · obtain ⟨hi, hj⟩ := hi
    simp only [decide_eq_true_eq] at c1
    have hi : i < n := by omega
    refine ⟨by omega, hi, fun _ => ⟨fun c2 => ⟨false, rfl, noo fun ⟨ok⟩ => ?_, trivial⟩, fun c2 => ⟨fun c3 => ⟨false, rfl, noo fun ⟨ok⟩ => ?_, trivial⟩, fun c3 => ⟨by omega, i + 1, ?_⟩⟩⟩⟩
    · have := ok i hi; dsimp only at this; simp only [decide_eq_true_eq] at c2; omega
    · have := ok i hi; dsimp only at this; simp only [decide_eq_true_eq] at c3; omega
    · simp only [decide_eq_false_iff_not] at c2 c3
      have nxt : ∀ j, j < i + 1 → 0 ≤ toI (rows j 0) ∧ toI (rows j 0) ≤ g := fun j h => by
        by_cases hji : j = i
        · subst hji; omega
        · exact hj j (by omega)
      ((repeat' apply And.intro) <;> first | with_reducible rfl | omega | (dsimp only; omega) | exact RowsEq.refl _ _ _ | assumption | rfl | trivial | exact Nat.le_refl _ | skip)
  · obtain ⟨hi, hk⟩ := hi
    simp only [decide_eq_false_iff_not] at c1
    exact hk j (by dsimp only at hj; omega))
theorem callInF : CallsBy (Y Try.prog).G.X 34 cInF := fn_ok okY (tab := []) trivial bodyInF

structure lensM (a : MsgA) : Prop where
  i : a.il.length < 100000
  m : a.ml.length < 100000
  n : a.nl.length < 100000
  o : a.ol.length < 100000
def markOk (l : List MarkR) (i : Nat) : Prop := 1 ≤ (gl l i).seq ∧ (gl l i).seq ≤ 1099511627776 ∧ keyB (gl l i).key = true ∧ (0 < i → (gl l (i - 1)).seq < (gl l i).seq)
structure listsOk (a : MsgA) : Prop where
  il : a.il.length ≤ 4
  ml : a.ml.length ≤ 4
  nl : a.nl.length = 0 ∨ mayN a.nl = true
  ol : a.ol.length = 0 ∨ mayN a.ol = true
  ia : ∀ i, i < a.il.length → mayI (gl a.il i) = true
  ma : ∀ i, i < a.ml.length → markOk a.ml i
noncomputable def cListsF : Con where
  α := MsgA
  β := Bool
  m := 4
  m' := 4
  pre := fun a => lensM a
  args := fun a => [.agg (a.atoms 0)]
  hp := fun _ => []
  ro := fun a => a.chs 0
  post := fun a b => b = true ↔ listsOk a
  res := fun _ b => .a (.bool b)
  hp' := fun _ _ => []
def iLf1 (a : MsgA) : An := .flat 3 Nat (fun s i => (s.int 11 i).int 3 (if i = 0 then 0 else (gl a.ml (i - 1)).seq)) (fun _ i => i ≤ a.ml.length ∧ ∀ j, j < i → markOk a.ml j) (fun _ i => a.ml.length - i)
def iLf2 (a : MsgA) : An := .flat 10 Nat (fun s i => s.int 36 i) (fun _ i => i ≤ a.il.length ∧ (∀ j, j < i → mayI (gl a.il j) = true) ∧ ∀ j, j < a.ml.length → markOk a.ml j) (fun _ i => a.il.length - i)
set_option maxHeartbeats 4000000 in
theorem bodyListsF : fnBody (Y Try.prog) tabLists 36 cListsF fun a => [(36, [iLf1 a, iLf2 a], [])] := fnBody.of (p :=
  ∀ (a : MsgA), lensM a →
  (∃ (a_2 : Nat), ((0 : Int) = if a_2 = (0 : Nat) then (0 : Int) else (gl a.ml (a_2 - (1 : Nat))).seq) ∧
  (0 : Int) = (↑a_2 : Int) ∧
  (↑a.ml.length : Int) = (↑a.ml.length : Int) ∧
  ((0 : Nat) = (0 : Nat) ∧
  a.ml.length = a.ml.length ∧
  a.cm = a.cm) ∧
  Bool.false = Bool.false ∧
  (0 : Nat) = (0 : Nat) ∧
  a.m.k = a.m.k ∧
  a.m.f = a.m.f ∧
  a.m.t = a.m.t ∧
  a.m.ep = a.m.ep ∧
  a.m.ti = a.m.ti ∧
  a.m.sq = a.m.sq ∧
  a.m.n = a.m.n ∧
  a.m.id = a.m.id ∧
  a.m.op = a.m.op ∧
  a.m.key = a.m.key ∧
  a.m.err = a.m.err ∧
  a.m.last = a.m.last ∧
  a.m.it.key = a.m.it.key ∧
  a.m.it.val = a.m.it.val ∧
  a.m.it.en = a.m.it.en ∧
  a.m.it.gone = a.m.it.gone ∧
  ((0 : Nat) = (0 : Nat) ∧
  a.il.length = a.il.length ∧
  a.ci = a.ci) ∧
  ((0 : Nat) = (0 : Nat) ∧
  a.ml.length = a.ml.length ∧
  a.cm = a.cm) ∧
  ((0 : Nat) = (0 : Nat) ∧
  a.nl.length = a.nl.length ∧
  a.cn = a.cn) ∧
  a.m.base = a.m.base ∧
  ((0 : Nat) = (0 : Nat) ∧
  a.ol.length = a.ol.length ∧
  a.co = a.co) ∧
  a.m.k = a.m.k ∧
  a.m.f = a.m.f ∧
  a.m.t = a.m.t ∧
  a.m.ep = a.m.ep ∧
  a.m.ti = a.m.ti ∧
  a.m.sq = a.m.sq ∧
  a.m.n = a.m.n ∧
  a.m.id = a.m.id ∧
  a.m.op = a.m.op ∧
  a.m.key = a.m.key ∧
  a.m.err = a.m.err ∧
  a.m.last = a.m.last ∧
  a.m.it.key = a.m.it.key ∧
  a.m.it.val = a.m.it.val ∧
  a.m.it.en = a.m.it.en ∧
  a.m.it.gone = a.m.it.gone ∧
  ((0 : Nat) = (0 : Nat) ∧
  a.il.length = a.il.length ∧
  a.ci = a.ci) ∧
  ((0 : Nat) = (0 : Nat) ∧
  a.ml.length = a.ml.length ∧
  a.cm = a.cm) ∧
  ((0 : Nat) = (0 : Nat) ∧
  a.nl.length = a.nl.length ∧
  a.cn = a.cn) ∧
  a.m.base = a.m.base ∧
  ((0 : Nat) = (0 : Nat) ∧
  a.ol.length = a.ol.length ∧
  a.co = a.co) ∧
  (a.il.length ≤ a.il.length ∧
  RowsEq a.il.length (4 : Nat) (encRows encItem a.il) (encRows encItem a.il)) ∧
  (a.ml.length ≤ a.ml.length ∧
  RowsEq a.ml.length (2 : Nat) (encRows encMark a.ml) (encRows encMark a.ml)) ∧
  (a.nl.length ≤ a.nl.length ∧
  RowsEq a.nl.length (1 : Nat) (encRows encI a.nl) (encRows encI a.nl)) ∧
  (a.ol.length ≤ a.ol.length ∧
  RowsEq a.ol.length (1 : Nat) (encRows encI a.ol) (encRows encI a.ol)) ∧
  (a_2 ≤ a.ml.length ∧
  ∀ (j : Nat), j < a_2 →
  markOk a.ml j) ∧
  True) ∧
  ∀ (a_2 : Nat), (a_2 ≤ a.ml.length ∧
  ∀ (j : Nat), j < a_2 →
  markOk a.ml j) →
  (Decidable.decide ((↑a_2 : Int) < (↑a.ml.length : Int)) = Bool.true →
  ((0 : Int) ≤ (↑a_2 : Int) ∧
  (↑a_2 : Int) < (↑a.ml.length : Int)) ∧
  (0 : Nat) + (↑a_2 : Int).toNat < a.ml.length ∧
  (InR IntKind.i64 (gl a.ml ((0 : Nat) + (↑a_2 : Int).toNat)).seq →
  (Decidable.decide ((gl a.ml ((0 : Nat) + (↑a_2 : Int).toNat)).seq ≤ if a_2 = (0 : Nat) then (0 : Int) else (gl a.ml (a_2 - (1 : Nat))).seq) = Bool.true →
  ∃ (b : Bool), Bool.false = b ∧
  (b = Bool.true ↔ listsOk a) ∧
  True) ∧
  (Decidable.decide ((gl a.ml ((0 : Nat) + (↑a_2 : Int).toNat)).seq ≤ if a_2 = (0 : Nat) then (0 : Int) else (gl a.ml (a_2 - (1 : Nat))).seq) = Bool.false →
  InR IntKind.i64 (gl a.ml ((0 : Nat) + (↑a_2 : Int).toNat)).seq →
  (Decidable.decide ((1099511627776 : Int) < (gl a.ml ((0 : Nat) + (↑a_2 : Int).toNat)).seq) = Bool.true →
  ∃ (b : Bool), Bool.false = b ∧
  (b = Bool.true ↔ listsOk a) ∧
  True) ∧
  (Decidable.decide ((1099511627776 : Int) < (gl a.ml ((0 : Nat) + (↑a_2 : Int).toNat)).seq) = Bool.false →
  ∃ (a_9 : ByteArray), (gl a.ml ((0 : Nat) + (↑a_2 : Int).toNat)).key = a_9 ∧
  True ∧
  ∀ (b : Unit), True →
  ((!keyB a_9) = Bool.true →
  ∃ (b : Bool), Bool.false = b ∧
  (b = Bool.true ↔ listsOk a) ∧
  True) ∧
  ((!keyB a_9) = Bool.false →
  InR IntKind.i64 (gl a.ml ((0 : Nat) + (↑a_2 : Int).toNat)).seq →
  InR IntKind.i64 ((↑a_2 : Int) + (1 : Int)) ∧
  ∃ (a' : Nat), ((gl a.ml ((0 : Nat) + (↑a_2 : Int).toNat)).seq = if a' = (0 : Nat) then (0 : Int) else (gl a.ml (a' - (1 : Nat))).seq) ∧
  (↑a_2 : Int) + (1 : Int) = (↑a' : Int) ∧
  (↑a.ml.length : Int) = (↑a.ml.length : Int) ∧
  ((0 : Nat) = (0 : Nat) ∧
  a.ml.length = a.ml.length ∧
  a.cm = a.cm) ∧
  Bool.false = Bool.false ∧
  (0 : Nat) = (0 : Nat) ∧
  a.m.k = a.m.k ∧
  a.m.f = a.m.f ∧
  a.m.t = a.m.t ∧
  a.m.ep = a.m.ep ∧
  a.m.ti = a.m.ti ∧
  a.m.sq = a.m.sq ∧
  a.m.n = a.m.n ∧
  a.m.id = a.m.id ∧
  a.m.op = a.m.op ∧
  a.m.key = a.m.key ∧
  a.m.err = a.m.err ∧
  a.m.last = a.m.last ∧
  a.m.it.key = a.m.it.key ∧
  a.m.it.val = a.m.it.val ∧
  a.m.it.en = a.m.it.en ∧
  a.m.it.gone = a.m.it.gone ∧
  ((0 : Nat) = (0 : Nat) ∧
  a.il.length = a.il.length ∧
  a.ci = a.ci) ∧
  ((0 : Nat) = (0 : Nat) ∧
  a.ml.length = a.ml.length ∧
  a.cm = a.cm) ∧
  ((0 : Nat) = (0 : Nat) ∧
  a.nl.length = a.nl.length ∧
  a.cn = a.cn) ∧
  a.m.base = a.m.base ∧
  ((0 : Nat) = (0 : Nat) ∧
  a.ol.length = a.ol.length ∧
  a.co = a.co) ∧
  a.m.k = a.m.k ∧
  a.m.f = a.m.f ∧
  a.m.t = a.m.t ∧
  a.m.ep = a.m.ep ∧
  a.m.ti = a.m.ti ∧
  a.m.sq = a.m.sq ∧
  a.m.n = a.m.n ∧
  a.m.id = a.m.id ∧
  a.m.op = a.m.op ∧
  a.m.key = a.m.key ∧
  a.m.err = a.m.err ∧
  a.m.last = a.m.last ∧
  a.m.it.key = a.m.it.key ∧
  a.m.it.val = a.m.it.val ∧
  a.m.it.en = a.m.it.en ∧
  a.m.it.gone = a.m.it.gone ∧
  ((0 : Nat) = (0 : Nat) ∧
  a.il.length = a.il.length ∧
  a.ci = a.ci) ∧
  ((0 : Nat) = (0 : Nat) ∧
  a.ml.length = a.ml.length ∧
  a.cm = a.cm) ∧
  ((0 : Nat) = (0 : Nat) ∧
  a.nl.length = a.nl.length ∧
  a.cn = a.cn) ∧
  a.m.base = a.m.base ∧
  ((0 : Nat) = (0 : Nat) ∧
  a.ol.length = a.ol.length ∧
  a.co = a.co) ∧
  (a.il.length ≤ a.il.length ∧
  RowsEq a.il.length (4 : Nat) (encRows encItem a.il) (encRows encItem a.il)) ∧
  (a.ml.length ≤ a.ml.length ∧
  RowsEq a.ml.length (2 : Nat) (encRows encMark a.ml) (encRows encMark a.ml)) ∧
  (a.nl.length ≤ a.nl.length ∧
  RowsEq a.nl.length (1 : Nat) (encRows encI a.nl) (encRows encI a.nl)) ∧
  (a.ol.length ≤ a.ol.length ∧
  RowsEq a.ol.length (1 : Nat) (encRows encI a.ol) (encRows encI a.ol)) ∧
  (a' ≤ a.ml.length ∧
  ∀ (j : Nat), j < a' →
  markOk a.ml j) ∧
  a.ml.length - a' < a.ml.length - a_2))))) ∧
  (Decidable.decide ((↑a_2 : Int) < (↑a.ml.length : Int)) = Bool.false →
  (∃ (a_5 : Nat), (0 : Int) = (↑a_5 : Int) ∧
  (↑a.il.length : Int) = (↑a.il.length : Int) ∧
  ((0 : Nat) = (0 : Nat) ∧
  a.il.length = a.il.length ∧
  a.ci = a.ci) ∧
  Decidable.decide ((↑a_2 : Int) < (↑a.ml.length : Int)) = Decidable.decide ((↑a_2 : Int) < (↑a.ml.length : Int)) ∧
  ((if a_2 = (0 : Nat) then (0 : Int) else (gl a.ml (a_2 - (1 : Nat))).seq) = if a_2 = (0 : Nat) then (0 : Int) else (gl a.ml (a_2 - (1 : Nat))).seq) ∧
  (↑a_2 : Int) = (↑a_2 : Int) ∧
  (↑a.ml.length : Int) = (↑a.ml.length : Int) ∧
  ((0 : Nat) = (0 : Nat) ∧
  a.ml.length = a.ml.length ∧
  a.cm = a.cm) ∧
  Bool.false = Bool.false ∧
  (0 : Nat) = (0 : Nat) ∧
  a.m.k = a.m.k ∧
  a.m.f = a.m.f ∧
  a.m.t = a.m.t ∧
  a.m.ep = a.m.ep ∧
  a.m.ti = a.m.ti ∧
  a.m.sq = a.m.sq ∧
  a.m.n = a.m.n ∧
  a.m.id = a.m.id ∧
  a.m.op = a.m.op ∧
  a.m.key = a.m.key ∧
  a.m.err = a.m.err ∧
  a.m.last = a.m.last ∧
  a.m.it.key = a.m.it.key ∧
  a.m.it.val = a.m.it.val ∧
  a.m.it.en = a.m.it.en ∧
  a.m.it.gone = a.m.it.gone ∧
  ((0 : Nat) = (0 : Nat) ∧
  a.il.length = a.il.length ∧
  a.ci = a.ci) ∧
  ((0 : Nat) = (0 : Nat) ∧
  a.ml.length = a.ml.length ∧
  a.cm = a.cm) ∧
  ((0 : Nat) = (0 : Nat) ∧
  a.nl.length = a.nl.length ∧
  a.cn = a.cn) ∧
  a.m.base = a.m.base ∧
  ((0 : Nat) = (0 : Nat) ∧
  a.ol.length = a.ol.length ∧
  a.co = a.co) ∧
  a.m.k = a.m.k ∧
  a.m.f = a.m.f ∧
  a.m.t = a.m.t ∧
  a.m.ep = a.m.ep ∧
  a.m.ti = a.m.ti ∧
  a.m.sq = a.m.sq ∧
  a.m.n = a.m.n ∧
  a.m.id = a.m.id ∧
  a.m.op = a.m.op ∧
  a.m.key = a.m.key ∧
  a.m.err = a.m.err ∧
  a.m.last = a.m.last ∧
  a.m.it.key = a.m.it.key ∧
  a.m.it.val = a.m.it.val ∧
  a.m.it.en = a.m.it.en ∧
  a.m.it.gone = a.m.it.gone ∧
  ((0 : Nat) = (0 : Nat) ∧
  a.il.length = a.il.length ∧
  a.ci = a.ci) ∧
  ((0 : Nat) = (0 : Nat) ∧
  a.ml.length = a.ml.length ∧
  a.cm = a.cm) ∧
  ((0 : Nat) = (0 : Nat) ∧
  a.nl.length = a.nl.length ∧
  a.cn = a.cn) ∧
  a.m.base = a.m.base ∧
  ((0 : Nat) = (0 : Nat) ∧
  a.ol.length = a.ol.length ∧
  a.co = a.co) ∧
  (a.il.length ≤ a.il.length ∧
  RowsEq a.il.length (4 : Nat) (encRows encItem a.il) (encRows encItem a.il)) ∧
  (a.ml.length ≤ a.ml.length ∧
  RowsEq a.ml.length (2 : Nat) (encRows encMark a.ml) (encRows encMark a.ml)) ∧
  (a.nl.length ≤ a.nl.length ∧
  RowsEq a.nl.length (1 : Nat) (encRows encI a.nl) (encRows encI a.nl)) ∧
  (a.ol.length ≤ a.ol.length ∧
  RowsEq a.ol.length (1 : Nat) (encRows encI a.ol) (encRows encI a.ol)) ∧
  (a_5 ≤ a.il.length ∧
  (∀ (j : Nat), j < a_5 →
  mayI (gl a.il j) = Bool.true) ∧
  ∀ (j : Nat), j < a.ml.length →
  markOk a.ml j) ∧
  True) ∧
  ∀ (a_5 : Nat), (a_5 ≤ a.il.length ∧
  (∀ (j : Nat), j < a_5 →
  mayI (gl a.il j) = Bool.true) ∧
  ∀ (j : Nat), j < a.ml.length →
  markOk a.ml j) →
  (Decidable.decide ((↑a_5 : Int) < (↑a.il.length : Int)) = Bool.true →
  ((0 : Int) ≤ (↑a_5 : Int) ∧
  (↑a_5 : Int) < (↑a.il.length : Int)) ∧
  (0 : Nat) + (↑a_5 : Int).toNat < a.il.length ∧
  ∃ (a_8 : ItemR), (gl a.il ((0 : Nat) + (↑a_5 : Int).toNat)).key = a_8.key ∧
  (gl a.il ((0 : Nat) + (↑a_5 : Int).toNat)).val = a_8.val ∧
  (gl a.il ((0 : Nat) + (↑a_5 : Int).toNat)).en = a_8.en ∧
  (gl a.il ((0 : Nat) + (↑a_5 : Int).toNat)).gone = a_8.gone ∧
  True ∧
  ∀ (b : Unit), True →
  ((!mayI a_8) = Bool.true →
  ∃ (b : Bool), Bool.false = b ∧
  (b = Bool.true ↔ listsOk a) ∧
  True) ∧
  ((!mayI a_8) = Bool.false →
  InR IntKind.i64 ((↑a_5 : Int) + (1 : Int)) ∧
  ∃ (a' : Nat), (↑a_5 : Int) + (1 : Int) = (↑a' : Int) ∧
  (↑a.il.length : Int) = (↑a.il.length : Int) ∧
  ((0 : Nat) = (0 : Nat) ∧
  a.il.length = a.il.length ∧
  a.ci = a.ci) ∧
  Decidable.decide ((↑a_2 : Int) < (↑a.ml.length : Int)) = Decidable.decide ((↑a_2 : Int) < (↑a.ml.length : Int)) ∧
  ((if a_2 = (0 : Nat) then (0 : Int) else (gl a.ml (a_2 - (1 : Nat))).seq) = if a_2 = (0 : Nat) then (0 : Int) else (gl a.ml (a_2 - (1 : Nat))).seq) ∧
  (↑a_2 : Int) = (↑a_2 : Int) ∧
  (↑a.ml.length : Int) = (↑a.ml.length : Int) ∧
  ((0 : Nat) = (0 : Nat) ∧
  a.ml.length = a.ml.length ∧
  a.cm = a.cm) ∧
  Bool.false = Bool.false ∧
  (0 : Nat) = (0 : Nat) ∧
  a.m.k = a.m.k ∧
  a.m.f = a.m.f ∧
  a.m.t = a.m.t ∧
  a.m.ep = a.m.ep ∧
  a.m.ti = a.m.ti ∧
  a.m.sq = a.m.sq ∧
  a.m.n = a.m.n ∧
  a.m.id = a.m.id ∧
  a.m.op = a.m.op ∧
  a.m.key = a.m.key ∧
  a.m.err = a.m.err ∧
  a.m.last = a.m.last ∧
  a.m.it.key = a.m.it.key ∧
  a.m.it.val = a.m.it.val ∧
  a.m.it.en = a.m.it.en ∧
  a.m.it.gone = a.m.it.gone ∧
  ((0 : Nat) = (0 : Nat) ∧
  a.il.length = a.il.length ∧
  a.ci = a.ci) ∧
  ((0 : Nat) = (0 : Nat) ∧
  a.ml.length = a.ml.length ∧
  a.cm = a.cm) ∧
  ((0 : Nat) = (0 : Nat) ∧
  a.nl.length = a.nl.length ∧
  a.cn = a.cn) ∧
  a.m.base = a.m.base ∧
  ((0 : Nat) = (0 : Nat) ∧
  a.ol.length = a.ol.length ∧
  a.co = a.co) ∧
  a.m.k = a.m.k ∧
  a.m.f = a.m.f ∧
  a.m.t = a.m.t ∧
  a.m.ep = a.m.ep ∧
  a.m.ti = a.m.ti ∧
  a.m.sq = a.m.sq ∧
  a.m.n = a.m.n ∧
  a.m.id = a.m.id ∧
  a.m.op = a.m.op ∧
  a.m.key = a.m.key ∧
  a.m.err = a.m.err ∧
  a.m.last = a.m.last ∧
  a.m.it.key = a.m.it.key ∧
  a.m.it.val = a.m.it.val ∧
  a.m.it.en = a.m.it.en ∧
  a.m.it.gone = a.m.it.gone ∧
  ((0 : Nat) = (0 : Nat) ∧
  a.il.length = a.il.length ∧
  a.ci = a.ci) ∧
  ((0 : Nat) = (0 : Nat) ∧
  a.ml.length = a.ml.length ∧
  a.cm = a.cm) ∧
  ((0 : Nat) = (0 : Nat) ∧
  a.nl.length = a.nl.length ∧
  a.cn = a.cn) ∧
  a.m.base = a.m.base ∧
  ((0 : Nat) = (0 : Nat) ∧
  a.ol.length = a.ol.length ∧
  a.co = a.co) ∧
  (a.il.length ≤ a.il.length ∧
  RowsEq a.il.length (4 : Nat) (encRows encItem a.il) (encRows encItem a.il)) ∧
  (a.ml.length ≤ a.ml.length ∧
  RowsEq a.ml.length (2 : Nat) (encRows encMark a.ml) (encRows encMark a.ml)) ∧
  (a.nl.length ≤ a.nl.length ∧
  RowsEq a.nl.length (1 : Nat) (encRows encI a.nl) (encRows encI a.nl)) ∧
  (a.ol.length ≤ a.ol.length ∧
  RowsEq a.ol.length (1 : Nat) (encRows encI a.ol) (encRows encI a.ol)) ∧
  (a' ≤ a.il.length ∧
  (∀ (j : Nat), j < a' →
  mayI (gl a.il j) = Bool.true) ∧
  ∀ (j : Nat), j < a.ml.length →
  markOk a.ml j) ∧
  a.il.length - a' < a.il.length - a_5)) ∧
  (Decidable.decide ((↑a_5 : Int) < (↑a.il.length : Int)) = Bool.false →
  (Decidable.decide ((↑a.il.length : Int) ≤ (4 : Int)) = Bool.true →
  (Decidable.decide ((↑a.ml.length : Int) ≤ (4 : Int)) = Bool.true →
  (((↑a.nl.length : Int) == (0 : Int)) = Bool.true →
  (((↑a.ol.length : Int) == (0 : Int)) = Bool.true →
  ∃ (b : Bool), Bool.true = b ∧
  (b = Bool.true ↔ listsOk a) ∧
  True) ∧
  (((↑a.ol.length : Int) == (0 : Int)) = Bool.false →
  ∃ (a_12 : NodesA), ((0 : Nat) = (0 : Nat) ∧
  a.ol.length = a_12.l.length ∧
  a.co = a_12.cap) ∧
  (a_12.l.length ≤ a.ol.length ∧
  RowsEq a_12.l.length (1 : Nat) (encRows encI a.ol) (encRows encI a_12.l)) ∧
  a_12.l.length < (100000 : Nat) ∧
  ∀ (b : Unit), True →
  ∃ (b : Bool), mayN a_12.l = b ∧
  (b = Bool.true ↔ listsOk a) ∧
  True)) ∧
  (((↑a.nl.length : Int) == (0 : Int)) = Bool.false →
  ∃ (a_11 : NodesA), ((0 : Nat) = (0 : Nat) ∧
  a.nl.length = a_11.l.length ∧
  a.cn = a_11.cap) ∧
  (a_11.l.length ≤ a.nl.length ∧
  RowsEq a_11.l.length (1 : Nat) (encRows encI a.nl) (encRows encI a_11.l)) ∧
  a_11.l.length < (100000 : Nat) ∧
  ∀ (b : Unit), True →
  (mayN a_11.l = Bool.true →
  (((↑a.ol.length : Int) == (0 : Int)) = Bool.true →
  ∃ (b : Bool), Bool.true = b ∧
  (b = Bool.true ↔ listsOk a) ∧
  True) ∧
  (((↑a.ol.length : Int) == (0 : Int)) = Bool.false →
  ∃ (a_15 : NodesA), ((0 : Nat) = (0 : Nat) ∧
  a.ol.length = a_15.l.length ∧
  a.co = a_15.cap) ∧
  (a_15.l.length ≤ a.ol.length ∧
  RowsEq a_15.l.length (1 : Nat) (encRows encI a.ol) (encRows encI a_15.l)) ∧
  a_15.l.length < (100000 : Nat) ∧
  ∀ (b : Unit), True →
  ∃ (b : Bool), mayN a_15.l = b ∧
  (b = Bool.true ↔ listsOk a) ∧
  True)) ∧
  (mayN a_11.l = Bool.false →
  ∃ (b : Bool), Bool.false = b ∧
  (b = Bool.true ↔ listsOk a) ∧
  True))) ∧
  (Decidable.decide ((↑a.ml.length : Int) ≤ (4 : Int)) = Bool.false →
  ∃ (b : Bool), Bool.false = b ∧
  (b = Bool.true ↔ listsOk a) ∧
  True)) ∧
  (Decidable.decide ((↑a.il.length : Int) ≤ (4 : Int)) = Bool.false →
  ∃ (b : Bool), Bool.false = b ∧
  (b = Bool.true ↔ listsOk a) ∧
  True)))) (by kernel_rfl) (by
  rintro ⟨m, il, ml, nl, ol, ci, cm, cn, co⟩ ⟨h1, h2, h3, h4⟩
  dsimp only at h1 h2 h3 h4 ⊢
  simp only [Nat.zero_add, Int.toNat_natCast, InR, decide_eq_true_eq, decide_eq_false_iff_not, Bool.not_eq_true', Bool.not_eq_false', beq_iff_eq, beq_eq_false_iff_ne]
  have cx : ∀ {b : Bool} {p : Prop}, (b = true ↔ p) → (b = true ↔ p) ∧ True := fun h => ⟨h, trivial⟩
  refine ⟨⟨0, ?_⟩, fun i hi => ⟨fun c => ?_, fun c => ⟨⟨0, ?_⟩, fun j hj => ⟨fun d => ?_, fun d => ⟨fun q1 => ⟨fun q2 => ?_, fun q2 => ⟨false, rfl, noo fun ok => ?_, trivial⟩⟩, fun q1 => ⟨false, rfl, noo fun ok => ?_, trivial⟩⟩⟩⟩⟩⟩
  · ((repeat' apply And.intro) <;> first | with_reducible rfl | omega | (dsimp only; omega) | exact RowsEq.refl _ _ _ | assumption | rfl | trivial | exact Nat.le_refl _ | skip)
  · obtain ⟨hi0, hi1⟩ := hi
    have hi : i < ml.length := by omega
    refine ⟨by omega, hi, fun _ => ⟨fun e1 => ⟨false, rfl, noo fun ok => ?_, trivial⟩, fun e1 _ => ⟨fun e2 => ⟨false, rfl, noo fun ok => ?_, trivial⟩, fun e2 => ⟨(gl ml i).key, ?_⟩⟩⟩⟩
    · obtain ⟨g1, _, _, g4⟩ := ok.ma i hi
      dsimp only at g1 g4
      split at e1
      · omega
      · have := g4 (by omega); omega
    · obtain ⟨_, g2, _, _⟩ := ok.ma i hi
      dsimp only at g2; omega
    · ((repeat' apply And.intro) <;> first | with_reducible rfl | omega | (dsimp only; omega) | exact RowsEq.refl _ _ _ | assumption | rfl | trivial | exact Nat.le_refl _ | skip)
      refine fun _ _ => ⟨fun e3 => ⟨false, rfl, noo fun ok => ?_, trivial⟩, fun e3 _ => ⟨by omega, i + 1, ?_⟩⟩
      · obtain ⟨_, _, g3, _⟩ := ok.ma i hi
        dsimp only at g3; rw [g3] at e3; cases e3
      · have mk : markOk ml i := by
          refine ⟨?_, by omega, e3, fun h0 => ?_⟩
          · by_cases h0 : i = 0
            · subst h0; simp at e1; omega
            · have := (hi1 (i - 1) (by omega)).1
              rw [if_neg h0] at e1; omega
          · rw [if_neg (by omega)] at e1; omega
        have nxt : ∀ j, j < i + 1 → markOk ml j := fun j h => by
          by_cases hji : j = i
          · rw [hji]; exact mk
          · exact hi1 j (by omega)
        ((repeat' apply And.intro) <;> first | with_reducible rfl | omega | (dsimp only; omega) | exact RowsEq.refl _ _ _ | assumption | rfl | trivial | exact Nat.le_refl _ | skip)
  · obtain ⟨hi0, hi1⟩ := hi
    have : i = ml.length := by omega
    subst this
    ((repeat' apply And.intro) <;> first | with_reducible rfl | omega | (dsimp only; omega) | exact RowsEq.refl _ _ _ | assumption | rfl | trivial | exact Nat.le_refl _ | skip)
  · obtain ⟨hj0, hj1, hj2⟩ := hj
    have hj : j < il.length := by omega
    refine ⟨by omega, hj, gl il j, ?_⟩
    ((repeat' apply And.intro) <;> first | with_reducible rfl | omega | (dsimp only; omega) | exact RowsEq.refl _ _ _ | assumption | rfl | trivial | exact Nat.le_refl _ | skip)
    refine fun _ _ => ⟨fun e => ⟨false, rfl, noo fun ok => ?_, trivial⟩, fun e => ⟨by omega, j + 1, ?_⟩⟩
    · have := ok.ia j hj
      dsimp only at this; rw [this] at e; cases e
    · have nxt : ∀ k, k < j + 1 → mayI (gl il k) = true := fun k h => by
        by_cases hji : k = j
        · rw [hji]; exact e
        · exact hj1 k (by omega)
      ((repeat' apply And.intro) <;> first | with_reducible rfl | omega | (dsimp only; omega) | exact RowsEq.refl _ _ _ | assumption | rfl | trivial | exact Nat.le_refl _ | skip)
  · obtain ⟨hj0, hj1, hj2⟩ := hj
    have : j = il.length := by omega
    subst this
    have fin : (nl.length = 0 ∨ mayN nl = true) → (ol.length = 0 ∨ mayN ol = true) → listsOk ⟨m, il, ml, nl, ol, ci, cm, cn, co⟩ := fun g1 g2 => ⟨by dsimp only; omega, by dsimp only; omega, g1, g2, hj1, hj2⟩
    have fo : (nl.length = 0 ∨ mayN nl = true) → ¬ ((ol.length : Int) = 0) → (mayN ol = true ↔ listsOk ⟨m, il, ml, nl, ol, ci, cm, cn, co⟩) := fun g1 g2 => ⟨fun g => fin g1 (.inr g), fun ok => ok.ol.resolve_left (by dsimp only; omega)⟩
    refine ⟨fun e1 => ⟨fun e2 => ⟨true, rfl, yess (fin (.inl (by omega)) (.inl (by omega))), trivial⟩, fun e2 => ⟨⟨ol, co⟩, ?_⟩⟩, fun e1 => ⟨⟨nl, cn⟩, ?_⟩⟩
    · ((repeat' apply And.intro) <;> first | with_reducible rfl | omega | (dsimp only; omega) | exact RowsEq.refl _ _ _ | assumption | rfl | trivial | exact Nat.le_refl _ | skip)
      exact fun _ _ => ⟨_, rfl, cx (fo (.inl (by omega)) e2)⟩
    · ((repeat' apply And.intro) <;> first | with_reducible rfl | omega | (dsimp only; omega) | exact RowsEq.refl _ _ _ | assumption | rfl | trivial | exact Nat.le_refl _ | skip)
      refine fun _ _ => ⟨fun e2 => ⟨fun e3 => ⟨true, rfl, yess (fin (.inr e2) (.inl (by omega))), trivial⟩, fun e3 => ⟨⟨ol, co⟩, ?_⟩⟩, fun e2 => ⟨_, rfl, noo fun ok => ?_, trivial⟩⟩
      · ((repeat' apply And.intro) <;> first | with_reducible rfl | omega | (dsimp only; omega) | exact RowsEq.refl _ _ _ | assumption | rfl | trivial | exact Nat.le_refl _ | skip)
        exact fun _ _ => ⟨_, rfl, cx (fo (.inr e2) e3)⟩
      · have := ok.nl.resolve_left (by dsimp only; omega)
        dsimp only at this e2; rw [this] at e2; cases e2
  · have := ok.ml; dsimp only at this; omega
  · have := ok.il; dsimp only at this; omega)
theorem callListsF : CallsBy (Y Try.prog).G.X 36 cListsF := fn_ok okY (tab := tabLists) ⟨callPKey, callPMayI, callMay, trivial⟩ bodyListsF
noncomputable def cMayF : Con where
  α := MsgA
  β := Bool
  m := 4
  m' := 4
  pre := fun a => lensM a
  args := fun a => [.agg (a.atoms 0)]
  hp := fun _ => []
  ro := fun a => a.chs 0
  post := fun a b => b = true ↔ okMR a
  res := fun _ b => .a (.bool b)
  hp' := fun _ _ => []
noncomputable def tabMayF : List (Nat × Con) := [(34, cInF), (35, cMayI), (36, cListsF)]
theorem in1 {g x : Int} : inAll ⟨g, 1, 1, flatRows 1 [.int .i64 x]⟩ ↔ 0 ≤ x ∧ x ≤ g :=
  ⟨fun ⟨h⟩ => h 0 (Nat.lt_succ_self 0), fun h => ⟨fun i hi => match i, (show i < 1 from hi) with | 0, _ => h⟩⟩
theorem in2 {g x y : Int} : inAll ⟨g, 2, 2, flatRows 1 [.int .i64 x, .int .i64 y]⟩ ↔ (0 ≤ x ∧ x ≤ g) ∧ (0 ≤ y ∧ y ≤ g) :=
  ⟨fun ⟨h⟩ => ⟨h 0 (show 0 < 2 from by decide), h 1 (show 1 < 2 from by decide)⟩, fun h => ⟨fun i hi => match i, (show i < 2 from hi) with | 0, _ => h.1 | 1, _ => h.2⟩⟩
theorem in5 {g a b c d e : Int} : inAll ⟨g, 5, 5, flatRows 1 [.int .i64 a, .int .i64 b, .int .i64 c, .int .i64 d, .int .i64 e]⟩ ↔ (0 ≤ a ∧ a ≤ g) ∧ (0 ≤ b ∧ b ≤ g) ∧ (0 ≤ c ∧ c ≤ g) ∧ (0 ≤ d ∧ d ≤ g) ∧ (0 ≤ e ∧ e ≤ g) :=
  ⟨fun ⟨h⟩ => ⟨h 0 (show 0 < 5 from by decide), h 1 (show 1 < 5 from by decide), h 2 (show 2 < 5 from by decide), h 3 (show 3 < 5 from by decide), h 4 (show 4 < 5 from by decide)⟩, fun ⟨h0, h1, h2, h3, h4⟩ => ⟨fun i hi => match i, (show i < 5 from hi) with | 0, _ => h0 | 1, _ => h1 | 2, _ => h2 | 3, _ => h3 | 4, _ => h4⟩⟩
theorem okMR_lists {a : MsgA} (h : okMR a) : listsOk a := ⟨h.il, h.ml, h.nl, h.ol, h.ia, h.ma⟩
theorem nb {b : Bool} {p : Prop} (h : b = true ↔ p) (e : b = false) : ¬ p := fun hp => by rw [h.2 hp] at e; cases e
set_option maxHeartbeats 4000000 in
theorem bodyMayF : fnBody (Y Try.prog) tabMayF 28 cMayF fun _ => [] := fnBody.of (p :=
  ∀ (a : MsgA), lensM a →
  InR IntKind.i64 a.m.k →
  (Decidable.decide (a.m.k < (1 : Int)) = Bool.true →
  ∃ (b : Bool), Bool.false = b ∧
  (b = Bool.true ↔ okMR a) ∧
  True) ∧
  (Decidable.decide (a.m.k < (1 : Int)) = Bool.false →
  InR IntKind.i64 a.m.k →
  (Decidable.decide ((14 : Int) < a.m.k) = Bool.true →
  ∃ (b : Bool), Bool.false = b ∧
  (b = Bool.true ↔ okMR a) ∧
  True) ∧
  (Decidable.decide ((14 : Int) < a.m.k) = Bool.false →
  InR IntKind.i64 a.m.f →
  InR IntKind.i64 a.m.t →
  ((a.m.f == a.m.t) = Bool.true →
  ∃ (b : Bool), Bool.false = b ∧
  (b = Bool.true ↔ okMR a) ∧
  True) ∧
  ((a.m.f == a.m.t) = Bool.false →
  InR IntKind.i64 a.m.f →
  InR IntKind.i64 a.m.t →
  ∃ (a_11 : InA), (5 : Int) = a_11.g ∧
  ((0 : Nat) = (0 : Nat) ∧
  (2 : Nat) = a_11.n ∧
  (2 : Nat) = a_11.cap) ∧
  (a_11.n ≤ (2 : Nat) ∧
  RowsEq a_11.n (1 : Nat) (flatRows (1 : Nat) [Value.int IntKind.i64 a.m.f, Value.int IntKind.i64 a.m.t]) a_11.rows) ∧
  a_11.n ≤ (1000 : Nat) ∧
  ∀ (b : Bool), (b = Bool.true ↔ inAll a_11) →
  ((!b) = Bool.true →
  ∃ (b : Bool), Bool.false = b ∧
  (b = Bool.true ↔ okMR a) ∧
  True) ∧
  ((!b) = Bool.false →
  InR IntKind.i64 a.m.ep →
  InR IntKind.i64 a.m.ti →
  InR IntKind.i64 a.m.sq →
  InR IntKind.i64 a.m.id →
  InR IntKind.i64 a.m.base →
  ∃ (a_19 : InA), (1099511627776 : Int) = a_19.g ∧
  ((0 : Nat) = (0 : Nat) ∧
  (5 : Nat) = a_19.n ∧
  (5 : Nat) = a_19.cap) ∧
  (a_19.n ≤ (5 : Nat) ∧
  RowsEq a_19.n (1 : Nat) (flatRows (1 : Nat) [Value.int IntKind.i64 a.m.ep, Value.int IntKind.i64 a.m.ti, Value.int IntKind.i64 a.m.sq, Value.int IntKind.i64 a.m.id, Value.int IntKind.i64 a.m.base]) a_19.rows) ∧
  a_19.n ≤ (1000 : Nat) ∧
  ∀ (b : Bool), (b = Bool.true ↔ inAll a_19) →
  ((!b) = Bool.true →
  ∃ (b : Bool), Bool.false = b ∧
  (b = Bool.true ↔ okMR a) ∧
  True) ∧
  ((!b) = Bool.false →
  InR IntKind.i64 a.m.n →
  ∃ (a_23 : InA), (1073741824 : Int) = a_23.g ∧
  ((0 : Nat) = (0 : Nat) ∧
  (1 : Nat) = a_23.n ∧
  (1 : Nat) = a_23.cap) ∧
  (a_23.n ≤ (1 : Nat) ∧
  RowsEq a_23.n (1 : Nat) (flatRows (1 : Nat) [Value.int IntKind.i64 a.m.n]) a_23.rows) ∧
  a_23.n ≤ (1000 : Nat) ∧
  ∀ (b : Bool), (b = Bool.true ↔ inAll a_23) →
  ((!b) = Bool.true →
  ∃ (b : Bool), Bool.false = b ∧
  (b = Bool.true ↔ okMR a) ∧
  True) ∧
  ((!b) = Bool.false →
  InR IntKind.i64 a.m.op →
  ∃ (a_27 : InA), (2 : Int) = a_27.g ∧
  ((0 : Nat) = (0 : Nat) ∧
  (1 : Nat) = a_27.n ∧
  (1 : Nat) = a_27.cap) ∧
  (a_27.n ≤ (1 : Nat) ∧
  RowsEq a_27.n (1 : Nat) (flatRows (1 : Nat) [Value.int IntKind.i64 a.m.op]) a_27.rows) ∧
  a_27.n ≤ (1000 : Nat) ∧
  ∀ (b : Bool), (b = Bool.true ↔ inAll a_27) →
  ((!b) = Bool.true →
  ∃ (b : Bool), Bool.false = b ∧
  (b = Bool.true ↔ okMR a) ∧
  True) ∧
  ((!b) = Bool.false →
  (Decidable.decide ((40 : Int) < (↑a.m.key.size : Int)) = Bool.true →
  ∃ (b : Bool), Bool.false = b ∧
  (b = Bool.true ↔ okMR a) ∧
  True) ∧
  (Decidable.decide ((40 : Int) < (↑a.m.key.size : Int)) = Bool.false →
  InR IntKind.i64 a.m.err →
  ∃ (a_32 : InA), (10 : Int) = a_32.g ∧
  ((0 : Nat) = (0 : Nat) ∧
  (1 : Nat) = a_32.n ∧
  (1 : Nat) = a_32.cap) ∧
  (a_32.n ≤ (1 : Nat) ∧
  RowsEq a_32.n (1 : Nat) (flatRows (1 : Nat) [Value.int IntKind.i64 a.m.err]) a_32.rows) ∧
  a_32.n ≤ (1000 : Nat) ∧
  ∀ (b : Bool), (b = Bool.true ↔ inAll a_32) →
  ((!b) = Bool.true →
  ∃ (b : Bool), Bool.false = b ∧
  (b = Bool.true ↔ okMR a) ∧
  True) ∧
  ((!b) = Bool.false →
  ((Decidable.decide (a.m.it.key = (ByteArray.mk #[])) && (Decidable.decide (a.m.it.val = (ByteArray.mk #[])) && (a.m.it.en == (0 : Int) && (a.m.it.gone == Bool.false && Bool.true)))) = Bool.true →
  ∃ (a_36 : MsgA), a.m.k = a_36.m.k ∧
  a.m.f = a_36.m.f ∧
  a.m.t = a_36.m.t ∧
  a.m.ep = a_36.m.ep ∧
  a.m.ti = a_36.m.ti ∧
  a.m.sq = a_36.m.sq ∧
  a.m.n = a_36.m.n ∧
  a.m.id = a_36.m.id ∧
  a.m.op = a_36.m.op ∧
  a.m.key = a_36.m.key ∧
  a.m.err = a_36.m.err ∧
  a.m.last = a_36.m.last ∧
  a.m.it.key = a_36.m.it.key ∧
  a.m.it.val = a_36.m.it.val ∧
  a.m.it.en = a_36.m.it.en ∧
  a.m.it.gone = a_36.m.it.gone ∧
  ((0 : Nat) = (0 : Nat) ∧
  a.il.length = a_36.il.length ∧
  a.ci = a_36.ci) ∧
  ((0 : Nat) = (0 : Nat) ∧
  a.ml.length = a_36.ml.length ∧
  a.cm = a_36.cm) ∧
  ((0 : Nat) = (0 : Nat) ∧
  a.nl.length = a_36.nl.length ∧
  a.cn = a_36.cn) ∧
  a.m.base = a_36.m.base ∧
  ((0 : Nat) = (0 : Nat) ∧
  a.ol.length = a_36.ol.length ∧
  a.co = a_36.co) ∧
  (a_36.il.length ≤ a.il.length ∧
  RowsEq a_36.il.length (4 : Nat) (encRows encItem a.il) (encRows encItem a_36.il)) ∧
  (a_36.ml.length ≤ a.ml.length ∧
  RowsEq a_36.ml.length (2 : Nat) (encRows encMark a.ml) (encRows encMark a_36.ml)) ∧
  (a_36.nl.length ≤ a.nl.length ∧
  RowsEq a_36.nl.length (1 : Nat) (encRows encI a.nl) (encRows encI a_36.nl)) ∧
  (a_36.ol.length ≤ a.ol.length ∧
  RowsEq a_36.ol.length (1 : Nat) (encRows encI a.ol) (encRows encI a_36.ol)) ∧
  lensM a_36 ∧
  ∀ (b : Bool), (b = Bool.true ↔ listsOk a_36) →
  ∃ (b_1 : Bool), b = b_1 ∧
  (b_1 = Bool.true ↔ okMR a) ∧
  True) ∧
  ((Decidable.decide (a.m.it.key = (ByteArray.mk #[])) && (Decidable.decide (a.m.it.val = (ByteArray.mk #[])) && (a.m.it.en == (0 : Int) && (a.m.it.gone == Bool.false && Bool.true)))) = Bool.false →
  ∃ (a_36 : ItemR), a.m.it.key = a_36.key ∧
  a.m.it.val = a_36.val ∧
  a.m.it.en = a_36.en ∧
  a.m.it.gone = a_36.gone ∧
  True ∧
  ∀ (b : Unit), True →
  (mayI a_36 = Bool.true →
  ∃ (a_39 : MsgA), a.m.k = a_39.m.k ∧
  a.m.f = a_39.m.f ∧
  a.m.t = a_39.m.t ∧
  a.m.ep = a_39.m.ep ∧
  a.m.ti = a_39.m.ti ∧
  a.m.sq = a_39.m.sq ∧
  a.m.n = a_39.m.n ∧
  a.m.id = a_39.m.id ∧
  a.m.op = a_39.m.op ∧
  a.m.key = a_39.m.key ∧
  a.m.err = a_39.m.err ∧
  a.m.last = a_39.m.last ∧
  a.m.it.key = a_39.m.it.key ∧
  a.m.it.val = a_39.m.it.val ∧
  a.m.it.en = a_39.m.it.en ∧
  a.m.it.gone = a_39.m.it.gone ∧
  ((0 : Nat) = (0 : Nat) ∧
  a.il.length = a_39.il.length ∧
  a.ci = a_39.ci) ∧
  ((0 : Nat) = (0 : Nat) ∧
  a.ml.length = a_39.ml.length ∧
  a.cm = a_39.cm) ∧
  ((0 : Nat) = (0 : Nat) ∧
  a.nl.length = a_39.nl.length ∧
  a.cn = a_39.cn) ∧
  a.m.base = a_39.m.base ∧
  ((0 : Nat) = (0 : Nat) ∧
  a.ol.length = a_39.ol.length ∧
  a.co = a_39.co) ∧
  (a_39.il.length ≤ a.il.length ∧
  RowsEq a_39.il.length (4 : Nat) (encRows encItem a.il) (encRows encItem a_39.il)) ∧
  (a_39.ml.length ≤ a.ml.length ∧
  RowsEq a_39.ml.length (2 : Nat) (encRows encMark a.ml) (encRows encMark a_39.ml)) ∧
  (a_39.nl.length ≤ a.nl.length ∧
  RowsEq a_39.nl.length (1 : Nat) (encRows encI a.nl) (encRows encI a_39.nl)) ∧
  (a_39.ol.length ≤ a.ol.length ∧
  RowsEq a_39.ol.length (1 : Nat) (encRows encI a.ol) (encRows encI a_39.ol)) ∧
  lensM a_39 ∧
  ∀ (b : Bool), (b = Bool.true ↔ listsOk a_39) →
  ∃ (b_1 : Bool), b = b_1 ∧
  (b_1 = Bool.true ↔ okMR a) ∧
  True) ∧
  (mayI a_36 = Bool.false →
  ∃ (b : Bool), Bool.false = b ∧
  (b = Bool.true ↔ okMR a) ∧
  True)))))))))))) (by kernel_rfl) (by
  rintro a hl
  simp only [InR, decide_eq_true_eq, decide_eq_false_iff_not, Bool.not_eq_true', Bool.not_eq_false', beq_iff_eq, beq_eq_false_iff_ne]
  refine fun _ => ⟨fun c => ⟨false, rfl, noo fun ok => ?_, trivial⟩, fun c1 _ => ⟨fun c => ⟨false, rfl, noo fun ok => ?_, trivial⟩, fun c2 _ _ => ⟨fun c => ⟨false, rfl, noo fun ok => ok.ft c, trivial⟩, fun c3 _ _ => ⟨⟨5, 2, 2, flatRows 1 [.int .i64 a.m.f, .int .i64 a.m.t]⟩, ?_⟩⟩⟩⟩
  · have := ok.k; omega
  · have := ok.k; omega
  ((repeat' apply And.intro) <;> first | with_reducible rfl | omega | (dsimp only; omega) | exact RowsEq.refl _ _ _ | assumption | rfl | trivial | exact Nat.le_refl _ | skip)
  refine fun b1 p1 => ⟨fun e => ⟨false, rfl, noo fun ok => nb p1 e (in2.2 ⟨ok.f, ok.t⟩), trivial⟩, fun e1 _ _ _ _ _ => ⟨⟨1099511627776, 5, 5, flatRows 1 [.int .i64 a.m.ep, .int .i64 a.m.ti, .int .i64 a.m.sq, .int .i64 a.m.id, .int .i64 a.m.base]⟩, ?_⟩⟩
  have q1 := in2.1 (p1.1 e1)
  ((repeat' apply And.intro) <;> first | with_reducible rfl | omega | (dsimp only; omega) | exact RowsEq.refl _ _ _ | assumption | rfl | trivial | exact Nat.le_refl _ | skip)
  refine fun b2 p2 => ⟨fun e => ⟨false, rfl, noo fun ok => nb p2 e (in5.2 ⟨ok.ep, ok.ti, ok.sq, ok.id, ok.base⟩), trivial⟩, fun e2 _ => ⟨⟨1073741824, 1, 1, flatRows 1 [.int .i64 a.m.n]⟩, ?_⟩⟩
  have q2 := in5.1 (p2.1 e2)
  ((repeat' apply And.intro) <;> first | with_reducible rfl | omega | (dsimp only; omega) | exact RowsEq.refl _ _ _ | assumption | rfl | trivial | exact Nat.le_refl _ | skip)
  refine fun b3 p3 => ⟨fun e => ⟨false, rfl, noo fun ok => nb p3 e (in1.2 ok.n), trivial⟩, fun e3 _ => ⟨⟨2, 1, 1, flatRows 1 [.int .i64 a.m.op]⟩, ?_⟩⟩
  have q3 := in1.1 (p3.1 e3)
  ((repeat' apply And.intro) <;> first | with_reducible rfl | omega | (dsimp only; omega) | exact RowsEq.refl _ _ _ | assumption | rfl | trivial | exact Nat.le_refl _ | skip)
  refine fun b4 p4 => ⟨fun e => ⟨false, rfl, noo fun ok => nb p4 e (in1.2 ok.op), trivial⟩, fun e4 => ⟨fun c => ⟨false, rfl, noo fun ok => ?_, trivial⟩, fun c4 _ => ⟨⟨10, 1, 1, flatRows 1 [.int .i64 a.m.err]⟩, ?_⟩⟩⟩
  · have := ok.key; omega
  have q4 := in1.1 (p4.1 e4)
  ((repeat' apply And.intro) <;> first | with_reducible rfl | omega | (dsimp only; omega) | exact RowsEq.refl _ _ _ | assumption | rfl | trivial | exact Nat.le_refl _ | skip)
  refine fun b5 p5 => ⟨fun e => ⟨false, rfl, noo fun ok => nb p5 e (in1.2 ok.err), trivial⟩, fun e5 => ?_⟩
  have q5 := in1.1 (p5.1 e5)
  have fin : (a.m.it = zeroI ∨ mayI a.m.it = true) → listsOk a → okMR a := fun g l => ⟨⟨by omega, by omega⟩, q1.1, q1.2, c3, q2.1, q2.2.1, q2.2.2.1, q2.2.2.2.1, q2.2.2.2.2, q3, q4, by omega, q5, g, l.il, l.ml, l.nl, l.ol, l.ia, l.ma⟩
  refine ⟨fun c => ⟨a, ?_⟩, fun c => ⟨a.m.it, ?_⟩⟩
  · ((repeat' apply And.intro) <;> first | with_reducible rfl | omega | (dsimp only; omega) | exact RowsEq.refl _ _ _ | assumption | rfl | trivial | exact Nat.le_refl _ | skip)
    have hz : a.m.it = zeroI := by
      generalize a.m.it = it at c
      obtain ⟨k, v, e, g⟩ := it
      simp only [Bool.and_eq_true, decide_eq_true_eq, beq_iff_eq, and_true] at c
      obtain ⟨rfl, rfl, rfl, rfl⟩ := c
      rfl
    exact fun b hb => ⟨b, rfl, ⟨fun g => fin (.inl hz) (hb.1 g), fun ok => hb.2 (okMR_lists ok)⟩, trivial⟩
  · have hne : a.m.it ≠ zeroI := fun e => by rw [e] at c; simp [zeroI] at c
    ((repeat' apply And.intro) <;> first | with_reducible rfl | omega | (dsimp only; omega) | exact RowsEq.refl _ _ _ | assumption | rfl | trivial | exact Nat.le_refl _ | skip)
    refine fun _ _ => ⟨fun e => ⟨a, ?_⟩, fun e => ⟨_, rfl, noo fun ok => ?_, trivial⟩⟩
    · ((repeat' apply And.intro) <;> first | with_reducible rfl | omega | (dsimp only; omega) | exact RowsEq.refl _ _ _ | assumption | rfl | trivial | exact Nat.le_refl _ | skip)
      exact fun b hb => ⟨b, rfl, ⟨fun g => fin (.inr e) (hb.1 g), fun ok => hb.2 (okMR_lists ok)⟩, trivial⟩
    · have := ok.it.resolve_left hne
      rw [this] at e; cases e)
theorem semMayF : ConSem (Y Try.prog).G.X cMayF 28 := con_sem okY (fun _ => CHof_ok okY (tab := tabMayF) ⟨callInF, callPMayI, callListsF, trivial⟩) bodyMayF.body
noncomputable def cMayV : Con where
  α := ValA
  β := Bool
  m := 2
  m' := 2
  pre := fun x => lensM x.a ∧ Has x.gO x.gA x.v x.a
  args := fun x => [.agg (msgV x.a.m x.v)]
  hp := fun x => [(0, .abs (Snap x.gO))]
  ro := fun x => [(1, .abs (Snap x.gA))]
  post := fun x b => b = true ↔ okMR x.a
  res := fun _ b => .a (.bool b)
  hp' := fun x _ => [(0, .abs (Snap x.gO))]
theorem semMayV : ConSem (Y Try.prog).G.X cMayV 28 := by
  rintro ⟨a, v, gO, gA⟩ ⟨hlen, hhas⟩ M ρ w vs hn hh hargs
  obtain ⟨hO, _⟩ := pool_in (g := gO) (t := 0) (wr := true) hh (by simp [wrs, cMayV])
  obtain ⟨hA, _⟩ := pool_in (g := gA) (t := 1) (wr := false) hh (by simp [wrs, ros, cMayV])
  obtain ⟨gi, gm, gn, go, _, hits⟩ := hhas.its
  obtain ⟨_, _, rfl, ⟨us, rfl, hus⟩, rfl⟩ := hargs
  refine (val_call semMayF a hlen (its a v gi gm gn go) rfl rfl rfl (hits hO hA) (vs := [.agg us.toArray]) fun ρ1 hr => ⟨_, _, rfl, ⟨us, rfl, args_tags hus hr⟩, rfl⟩).mono ?_
  rintro e w' ⟨u, rfl, hk, b, ρ1, ρ2, hpost, _, _, hn2, _, hres, hnew⟩
  exact ⟨u, rfl, b, ρ, hpost, hn, fun _ _ => rfl, hres, pool_same (ro := [(1, .abs (Snap gA))]) hh hk⟩
theorem callMayV : CallsBy (Y Try.prog).G.X 28 cMayV := fun _ _ _ h => con_okS semMayV h
end Go.Proofs.Ythgnaehfepcblaa
