/-
  The layer net's functions, as what they do to a list of messages that have no lists; no condition but that what is sent may be.
-/
import Derived.Test.YthgnaehfepcblaaK
import Derived.Test.YthgnaehfepcblaaSxZ
namespace Go.Proofs.Ythgnaehfepcblaa
open Go.Sx
set_option maxRecDepth 100000
set_option linter.unusedVariables false

noncomputable def cBegun : Con where
  α := Unit
  β := Unit
  m := 0
  m' := 0
  pre := fun _ => True
  args := fun _ => []
  hp := fun _ => []
  ro := fun _ => []
  post := fun _ _ => True
  res := fun _ _ => .a .tt
  hp' := fun _ _ => []
set_option maxHeartbeats 4000000 in
theorem bodyBegun : fnBody (Yf Try.prog) [] 8 cBegun fun _ => [] := fnBody.of (p :=
  ∀ (a : Unit), True →
  ∀ (cap : Nat), (1 : Nat) ≤ cap →
  cap ≤ lenMax →
  ∀ (cap_1 : Nat), (2 : Nat) ≤ cap_1 →
  cap_1 ≤ lenMax →
  ((2 : Nat) ≤ cap →
  cap_1 = cap) →
  ((0 : Int) ≤ (2 : Int) ∧
  (2 : Int) ≤ (↑cap_1 : Int)) ∧
  ((0 : Int) ≤ (1 : Int) ∧
  (1 : Int) ≤ (2 : Int)) ∧
  ((0 : Int) ≤ (0 : Int) ∧
  (0 : Int) ≤ (1 : Int)) ∧
  ((0 : Int) ≤ (0 : Int) ∧
  (0 : Int) ≤ (↑cap_1 : Int)) ∧
  ((0 : Int) ≤ (1 : Int) ∧
  (1 : Int) ≤ (2 : Int)) ∧
  ∀ (cap : Nat), (1 : Nat) ≤ cap →
  cap ≤ lenMax →
  ((1 : Nat) ≤ cap_1 - (0 : Nat) →
  cap = cap_1 - (0 : Nat)) →
  ((0 : Int) ≤ (2 : Int) ∧
  (2 : Int) ≤ (↑cap : Int)) ∧
  ((0 : Int) ≤ (1 : Int) ∧
  (1 : Int) ≤ (2 : Int)) ∧
  ((0 : Int) ≤ (1 : Int) ∧
  (1 : Int) ≤ (↑cap : Int)) ∧
  ((0 : Int) ≤ (1 : Int) ∧
  (1 : Int) ≤ (1 : Int)) ∧
  ((0 : Int) ≤ (0 : Int) ∧
  (0 : Int) ≤ (1 : Int)) ∧
  ((0 : Int) ≤ (0 : Int) ∧
  (0 : Int) ≤ (↑cap : Int)) ∧
  ((0 : Int) ≤ (1 : Int) ∧
  (1 : Int) ≤ (1 : Int)) ∧
  ∀ (cap_2 : Nat), (0 : Nat) ≤ cap_2 →
  cap_2 ≤ lenMax →
  ((0 : Nat) ≤ cap - (0 : Nat) →
  cap_2 = cap - (0 : Nat)) →
  ((0 : Int) ≤ (1 : Int) ∧
  (1 : Int) ≤ (↑cap_2 : Int)) ∧
  ((0 : Int) ≤ (0 : Int) ∧
  (0 : Int) ≤ (1 : Int)) ∧
  ∃ (b : Unit), Bool.true = Bool.true ∧
  True ∧
  True) (by kernel_rfl) (by
  repeat' (first | intro _ | exact ⟨(), rfl, trivial, trivial⟩ | apply And.intro | decide | omega))

structure MsgR where
  k : Int
  f : Int
  t : Int
  ep : Int
  ti : Int
  sq : Int
  deriving Inhabited
def zeroM : MsgR := ⟨0, 0, 0, 0, 0, 0⟩
def encMsg (m : MsgR) : List Value := [.int .i64 m.k, .int .i64 m.f, .int .i64 m.t, .int .i64 m.ep, .int .i64 m.ti, .int .i64 m.sq, .int .i64 0, .int .i64 0, .int .i64 0, .string ⟨#[]⟩, .int .i64 0, .bool false,
  .string ⟨#[]⟩, .string ⟨#[]⟩, .int .i64 0, .bool false, .slice none 0 0, .slice none 0 0, .slice none 0 0, .int .i64 0, .slice none 0 0]
def atomsM (m : MsgR) : List A := [.int .i64 m.k, .int .i64 m.f, .int .i64 m.t, .int .i64 m.ep, .int .i64 m.ti, .int .i64 m.sq, .int .i64 0, .int .i64 0, .int .i64 0, .str ⟨#[]⟩, .int .i64 0, .bool false,
  .str ⟨#[]⟩, .str ⟨#[]⟩, .int .i64 0, .bool false, .snil, .snil, .snil, .int .i64 0, .snil]
def ksMsg : List CK := [.int .i64, .int .i64, .int .i64, .int .i64, .int .i64, .int .i64, .int .i64, .int .i64, .int .i64, .str, .int .i64, .bool, .str, .str, .int .i64, .bool, .other, .other, .other, .int .i64, .other]
structure okM (m : MsgR) : Prop where
  k0 : 1 ≤ m.k
  k1 : m.k ≤ 14
  ft : m.f ≠ m.t
  f0 : 0 ≤ m.f
  f1 : m.f ≤ 5
  t0 : 0 ≤ m.t
  t1 : m.t ≤ 5
  e0 : 0 ≤ m.ep
  e1 : m.ep ≤ 1099511627776
  i0 : 0 ≤ m.ti
  i1 : m.ti ≤ 1099511627776
  s0 : 0 ≤ m.sq
  s1 : m.sq ≤ 1099511627776

/-! ### May -/

structure InA where
  g : Int
  n : Nat
  cap : Nat
  rows : Nat → Nat → Value
noncomputable def cIn : Con where
  α := InA
  β := Unit
  m := 1
  m' := 1
  pre := fun a => a.n ≤ 1000 ∧ ∀ i, i < a.n → 0 ≤ toI (a.rows i 0) ∧ toI (a.rows i 0) ≤ a.g
  args := fun a => [.a (.int .i64 a.g), .a (.slc 0 0 1 a.n a.cap)]
  hp := fun _ => []
  ro := fun a => [(0, .arr 2 [.int .i64] a.n a.rows)]
  post := fun _ _ => True
  res := fun _ _ => .a .tt
  hp' := fun _ _ => []
def iIn (a : InA) : An := .flat 2 Nat (fun s i => s.int 9 i) (fun _ i => i ≤ a.n) (fun _ i => a.n - i)
set_option maxHeartbeats 4000000 in
theorem bodyIn : fnBody (Y Try.prog) [] 34 cIn fun a => [(34, [iIn a], [])] := fnBody.of (p :=
  ∀ (a : InA), (a.n ≤ (1000 : Nat) ∧
  ∀ (i : Nat), i < a.n →
  (0 : Int) ≤ toI (a.rows i (0 : Nat)) ∧
  toI (a.rows i (0 : Nat)) ≤ a.g) →
  (∃ (a_2 : Nat), (0 : Int) = (↑a_2 : Int) ∧
  (↑a.n : Int) = (↑a.n : Int) ∧
  ((0 : Nat) = (0 : Nat) ∧
  a.n = a.n ∧
  a.cap = a.cap) ∧
  Bool.false = Bool.false ∧
  a.g = a.g ∧
  ((0 : Nat) = (0 : Nat) ∧
  a.n = a.n ∧
  a.cap = a.cap) ∧
  (a.n ≤ a.n ∧
  RowsEq a.n (1 : Nat) a.rows a.rows) ∧
  a_2 ≤ a.n ∧
  True) ∧
  ∀ (a_2 : Nat), a_2 ≤ a.n →
  (Decidable.decide ((↑a_2 : Int) < (↑a.n : Int)) = Bool.true →
  ((0 : Int) ≤ (↑a_2 : Int) ∧
  (↑a_2 : Int) < (↑a.n : Int)) ∧
  (0 : Nat) + (↑a_2 : Int).toNat < a.n ∧
  (InR IntKind.i64 (toI (a.rows ((0 : Nat) + (↑a_2 : Int).toNat) (0 : Nat))) →
  (Decidable.decide (toI (a.rows ((0 : Nat) + (↑a_2 : Int).toNat) (0 : Nat)) < (0 : Int)) = Bool.true →
  ∃ (b : Unit), Bool.false = Bool.true ∧
  True ∧
  True) ∧
  (Decidable.decide (toI (a.rows ((0 : Nat) + (↑a_2 : Int).toNat) (0 : Nat)) < (0 : Int)) = Bool.false →
  (Decidable.decide (a.g < toI (a.rows ((0 : Nat) + (↑a_2 : Int).toNat) (0 : Nat))) = Bool.true →
  ∃ (b : Unit), Bool.false = Bool.true ∧
  True ∧
  True) ∧
  (Decidable.decide (a.g < toI (a.rows ((0 : Nat) + (↑a_2 : Int).toNat) (0 : Nat))) = Bool.false →
  InR IntKind.i64 ((↑a_2 : Int) + (1 : Int)) ∧
  ∃ (a' : Nat), (↑a_2 : Int) + (1 : Int) = (↑a' : Int) ∧
  (↑a.n : Int) = (↑a.n : Int) ∧
  ((0 : Nat) = (0 : Nat) ∧
  a.n = a.n ∧
  a.cap = a.cap) ∧
  Bool.false = Bool.false ∧
  a.g = a.g ∧
  ((0 : Nat) = (0 : Nat) ∧
  a.n = a.n ∧
  a.cap = a.cap) ∧
  (a.n ≤ a.n ∧
  RowsEq a.n (1 : Nat) a.rows a.rows) ∧
  a' ≤ a.n ∧
  a.n - a' < a.n - a_2)))) ∧
  (Decidable.decide ((↑a_2 : Int) < (↑a.n : Int)) = Bool.false →
  ∃ (b : Unit), Bool.true = Bool.true ∧
  True ∧
  True)) (by kernel_rfl) (by
  rintro ⟨g, n, cap, rows⟩ ⟨h1, h2⟩
  dsimp only at h1 h2 ⊢
  simp only [Nat.zero_add, Int.toNat_natCast, InR]
  refine ⟨⟨0, ?_⟩, fun i hi => ⟨fun c1 => ?_, fun _ => ⟨(), trivial, trivial, trivial⟩⟩⟩
  · ((repeat' apply And.intro) <;> first | with_reducible rfl | omega | (dsimp only; omega) | exact RowsEq.refl _ _ _ | assumption | rfl | trivial | exact Nat.le_refl _ | skip)
  · simp only [decide_eq_true_eq] at c1
    have hi : i < n := by omega
    obtain ⟨g1, g2⟩ := h2 i hi
    refine ⟨by omega, hi, fun _ => ⟨fun g => (by exfalso; simp only [decide_eq_true_eq] at g; omega), fun _ => ⟨fun g => (by exfalso; simp only [decide_eq_true_eq] at g; omega), fun _ => ⟨by omega, i + 1, ?_⟩⟩⟩⟩
    ((repeat' apply And.intro) <;> first | with_reducible rfl | omega | (dsimp only; omega) | exact RowsEq.refl _ _ _ | assumption | rfl | trivial | exact Nat.le_refl _ | skip))

noncomputable def cItem : Con where
  α := (ByteArray × ByteArray) × (Int × Bool)
  β := Unit
  m := 0
  m' := 0
  pre := fun _ => False
  args := fun a => [.agg [.str a.1.1, .str a.1.2, .int .i64 a.2.1, .bool a.2.2]]
  hp := fun _ => []
  ro := fun _ => []
  post := fun _ _ => True
  res := fun _ _ => .a .tt
  hp' := fun _ _ => []
set_option maxHeartbeats 4000000 in
theorem bodyItem : fnBody (Y Try.prog) [] 35 cItem fun _ => [] := fnBody.of (p :=
  ∀ (a : (ByteArray × ByteArray) × Int × Bool), False →
  ((!Decidable.decide (a.fst.fst = (ByteArray.mk #[]))) = Bool.true →
  ((!Decidable.decide ((↑a.fst.fst.size : Int) ≤ (40 : Int))) = Bool.true →
  ∃ (b : Unit), Bool.false = Bool.true ∧
  True ∧
  True) ∧
  ((!Decidable.decide ((↑a.fst.fst.size : Int) ≤ (40 : Int))) = Bool.false →
  (Decidable.decide ((200 : Int) < (↑a.fst.snd.size : Int)) = Bool.true →
  ∃ (b : Unit), Bool.false = Bool.true ∧
  True ∧
  True) ∧
  (Decidable.decide ((200 : Int) < (↑a.fst.snd.size : Int)) = Bool.false →
  InR IntKind.i64 a.snd.fst →
  (Decidable.decide (a.snd.fst < (0 : Int)) = Bool.true →
  ∃ (b : Unit), Bool.false = Bool.true ∧
  True ∧
  True) ∧
  (Decidable.decide (a.snd.fst < (0 : Int)) = Bool.false →
  InR IntKind.i64 a.snd.fst →
  (Decidable.decide ((1099511627776 : Int) < a.snd.fst) = Bool.true →
  ∃ (b : Unit), Bool.false = Bool.true ∧
  True ∧
  True) ∧
  (Decidable.decide ((1099511627776 : Int) < a.snd.fst) = Bool.false →
  ((!a.snd.snd) = Bool.true →
  ∃ (b : Unit), Bool.true = Bool.true ∧
  True ∧
  True) ∧
  ((!a.snd.snd) = Bool.false →
  (Decidable.decide (a.fst.snd = (ByteArray.mk #[])) = Bool.true →
  InR IntKind.i64 a.snd.fst →
  ∃ (b : Unit), (a.snd.fst == (0 : Int)) = Bool.true ∧
  True ∧
  True) ∧
  (Decidable.decide (a.fst.snd = (ByteArray.mk #[])) = Bool.false →
  ∃ (b : Unit), Bool.false = Bool.true ∧
  True ∧
  True))))))) ∧
  ((!Decidable.decide (a.fst.fst = (ByteArray.mk #[]))) = Bool.false →
  ∃ (b : Unit), Bool.false = Bool.true ∧
  True ∧
  True)) (by kernel_rfl) (by
  exact fun _ h => h.elim)
noncomputable def cMay : Con where
  α := MsgR
  β := Unit
  m := 0
  m' := 0
  pre := fun m => okM m
  args := fun m => [.agg (atomsM m)]
  hp := fun _ => []
  ro := fun _ => []
  post := fun _ _ => True
  res := fun _ _ => .a .tt
  hp' := fun _ _ => []
noncomputable def tabMay : List (Nat × Con) := [(34, cIn), (35, cItem)]
set_option maxHeartbeats 4000000 in
theorem bodyMay : fnBody (Y Try.prog) tabMay 28 cMay fun _ => [] := fnBody.of (p :=
  ∀ (a : MsgR), okM a →
  InR IntKind.i64 a.k →
  (Decidable.decide (a.k < (1 : Int)) = Bool.true →
  ∃ (b : Unit), Bool.false = Bool.true ∧
  True ∧
  True) ∧
  (Decidable.decide (a.k < (1 : Int)) = Bool.false →
  InR IntKind.i64 a.k →
  (Decidable.decide ((14 : Int) < a.k) = Bool.true →
  ∃ (b : Unit), Bool.false = Bool.true ∧
  True ∧
  True) ∧
  (Decidable.decide ((14 : Int) < a.k) = Bool.false →
  InR IntKind.i64 a.f →
  InR IntKind.i64 a.t →
  ((a.f == a.t) = Bool.true →
  ∃ (b : Unit), Bool.false = Bool.true ∧
  True ∧
  True) ∧
  ((a.f == a.t) = Bool.false →
  InR IntKind.i64 a.f →
  InR IntKind.i64 a.t →
  ∃ (a_11 : InA), (5 : Int) = a_11.g ∧
  ((0 : Nat) = (0 : Nat) ∧
  (2 : Nat) = a_11.n ∧
  (2 : Nat) = a_11.cap) ∧
  (a_11.n ≤ (2 : Nat) ∧
  RowsEq a_11.n (1 : Nat) (flatRows (1 : Nat) [Value.int IntKind.i64 a.f, Value.int IntKind.i64 a.t]) a_11.rows) ∧
  (a_11.n ≤ (1000 : Nat) ∧
  ∀ (i : Nat), i < a_11.n →
  (0 : Int) ≤ toI (a_11.rows i (0 : Nat)) ∧
  toI (a_11.rows i (0 : Nat)) ≤ a_11.g) ∧
  ∀ (b : Unit), True →
  InR IntKind.i64 a.ep →
  InR IntKind.i64 a.ti →
  InR IntKind.i64 a.sq →
  InR IntKind.i64 (0 : Int) →
  InR IntKind.i64 (0 : Int) →
  ∃ (a_18 : InA), (1099511627776 : Int) = a_18.g ∧
  ((0 : Nat) = (0 : Nat) ∧
  (5 : Nat) = a_18.n ∧
  (5 : Nat) = a_18.cap) ∧
  (a_18.n ≤ (5 : Nat) ∧
  RowsEq a_18.n (1 : Nat) (flatRows (1 : Nat) [Value.int IntKind.i64 a.ep, Value.int IntKind.i64 a.ti, Value.int IntKind.i64 a.sq, Value.int IntKind.i64 (0 : Int), Value.int IntKind.i64 (0 : Int)]) a_18.rows) ∧
  (a_18.n ≤ (1000 : Nat) ∧
  ∀ (i : Nat), i < a_18.n →
  (0 : Int) ≤ toI (a_18.rows i (0 : Nat)) ∧
  toI (a_18.rows i (0 : Nat)) ≤ a_18.g) ∧
  ∀ (b : Unit), True →
  InR IntKind.i64 (0 : Int) →
  ∃ (a : InA), (1073741824 : Int) = a.g ∧
  ((0 : Nat) = (0 : Nat) ∧
  (1 : Nat) = a.n ∧
  (1 : Nat) = a.cap) ∧
  (a.n ≤ (1 : Nat) ∧
  RowsEq a.n (1 : Nat) (flatRows (1 : Nat) [Value.int IntKind.i64 (0 : Int)]) a.rows) ∧
  (a.n ≤ (1000 : Nat) ∧
  ∀ (i : Nat), i < a.n →
  (0 : Int) ≤ toI (a.rows i (0 : Nat)) ∧
  toI (a.rows i (0 : Nat)) ≤ a.g) ∧
  ∀ (b : Unit), True →
  InR IntKind.i64 (0 : Int) →
  ∃ (a : InA), (2 : Int) = a.g ∧
  ((0 : Nat) = (0 : Nat) ∧
  (1 : Nat) = a.n ∧
  (1 : Nat) = a.cap) ∧
  (a.n ≤ (1 : Nat) ∧
  RowsEq a.n (1 : Nat) (flatRows (1 : Nat) [Value.int IntKind.i64 (0 : Int)]) a.rows) ∧
  (a.n ≤ (1000 : Nat) ∧
  ∀ (i : Nat), i < a.n →
  (0 : Int) ≤ toI (a.rows i (0 : Nat)) ∧
  toI (a.rows i (0 : Nat)) ≤ a.g) ∧
  ∀ (b : Unit), True →
  (Bool.false = Bool.true →
  ∃ (b : Unit), Bool.false = Bool.true ∧
  True ∧
  True) ∧
  (Bool.false = Bool.false →
  InR IntKind.i64 (0 : Int) →
  ∃ (a : InA), (10 : Int) = a.g ∧
  ((0 : Nat) = (0 : Nat) ∧
  (1 : Nat) = a.n ∧
  (1 : Nat) = a.cap) ∧
  (a.n ≤ (1 : Nat) ∧
  RowsEq a.n (1 : Nat) (flatRows (1 : Nat) [Value.int IntKind.i64 (0 : Int)]) a.rows) ∧
  (a.n ≤ (1000 : Nat) ∧
  ∀ (i : Nat), i < a.n →
  (0 : Int) ≤ toI (a.rows i (0 : Nat)) ∧
  toI (a.rows i (0 : Nat)) ≤ a.g) ∧
  ∀ (b : Unit), True →
  (Bool.true = Bool.true →
  ∃ (b : Unit), Bool.true = Bool.true ∧
  True ∧
  True) ∧
  (Bool.true = Bool.false →
  ∃ (a : (ByteArray × ByteArray) × Int × Bool), (ByteArray.mk #[]) = a.fst.fst ∧
  (ByteArray.mk #[]) = a.fst.snd ∧
  (0 : Int) = a.snd.fst ∧
  Bool.false = a.snd.snd ∧
  False ∧
  ∀ (b : Unit), True →
  ∃ (b : Unit), Bool.true = Bool.true ∧
  True ∧
  True)))))) (by kernel_rfl) (by
  rintro ⟨k, f, t, ep, ti, sq⟩ ⟨k0, k1, ft, f0, f1, t0, t1, e0, e1, i0, i1, s0, s1⟩
  dsimp only at *
  simp only [InR, decide_eq_true_eq, beq_iff_eq]
  refine fun _ => ⟨fun c => absurd c (by omega), fun _ _ => ⟨fun c => absurd c (by omega), fun _ _ _ => ⟨fun c => absurd c ft, fun _ _ _ => ⟨⟨5, 2, 2, flatRows 1 [.int .i64 f, .int .i64 t]⟩, ?_⟩⟩⟩⟩
  ((repeat' apply And.intro) <;> first | with_reducible rfl | omega | (dsimp only; omega) | exact RowsEq.refl _ _ _ | assumption | rfl | trivial | exact Nat.le_refl _ | skip)
  · intro i hi
    match i, (show i < 2 from hi) with
    | 0, _ => exact ⟨f0, f1⟩
    | 1, _ => exact ⟨t0, t1⟩
  refine fun _ _ _ _ _ _ _ => ⟨⟨1099511627776, 5, 5, flatRows 1 [.int .i64 ep, .int .i64 ti, .int .i64 sq, .int .i64 0, .int .i64 0]⟩, ?_⟩
  ((repeat' apply And.intro) <;> first | with_reducible rfl | omega | (dsimp only; omega) | exact RowsEq.refl _ _ _ | assumption | rfl | trivial | exact Nat.le_refl _ | skip)
  · intro i hi
    match i, (show i < 5 from hi) with
    | 0, _ => exact ⟨e0, e1⟩
    | 1, _ => exact ⟨i0, i1⟩
    | 2, _ => exact ⟨s0, s1⟩
    | 3, _ => exact ⟨(by decide : (0 : Int) ≤ 0), (by decide : (0 : Int) ≤ 1099511627776)⟩
    | 4, _ => exact ⟨(by decide : (0 : Int) ≤ 0), (by decide : (0 : Int) ≤ 1099511627776)⟩
  refine fun _ _ _ => ⟨⟨1073741824, 1, 1, flatRows 1 [.int .i64 0]⟩, ?_⟩
  ((repeat' apply And.intro) <;> first | with_reducible rfl | omega | (dsimp only; omega) | exact RowsEq.refl _ _ _ | assumption | rfl | trivial | exact Nat.le_refl _ | skip)
  refine fun _ _ _ => ⟨⟨2, 1, 1, flatRows 1 [.int .i64 0]⟩, ?_⟩
  ((repeat' apply And.intro) <;> first | with_reducible rfl | omega | (dsimp only; omega) | exact RowsEq.refl _ _ _ | assumption | rfl | trivial | exact Nat.le_refl _ | skip)
  refine fun _ _ => ⟨fun c => (by cases c), fun _ _ => ⟨⟨10, 1, 1, flatRows 1 [.int .i64 0]⟩, ?_⟩⟩
  ((repeat' apply And.intro) <;> first | with_reducible rfl | omega | (dsimp only; omega) | exact RowsEq.refl _ _ _ | assumption | rfl | trivial | exact Nat.le_refl _ | skip)
  exact fun _ _ => ⟨fun _ => ⟨(), trivial, trivial, trivial⟩, fun c => (by cases c)⟩)
theorem callBegun : CallsBy (Y Try.prog).G.X 8 cBegun := fn_ok okYf (tab := []) trivial bodyBegun
theorem callIn : CallsBy (Y Try.prog).G.X 34 cIn := fn_ok okY (tab := []) trivial bodyIn
theorem callItem : CallsBy (Y Try.prog).G.X 35 cItem := fn_ok okY (tab := []) trivial bodyItem
theorem callMay : CallsBy (Y Try.prog).G.X 28 cMay := fn_ok okY (tab := tabMay) ⟨callIn, callItem, trivial⟩ bodyMay

/-! ### lists -/

theorem gl_eraseIdx {α : Type} [Inhabited α] {l : List α} {i j : Nat} : gl (l.eraseIdx i) j = if j < i then gl l j else gl l (j + 1) := by
  simp only [gl, List.getD, List.getElem?_eraseIdx]
  split <;> rfl

/-! ### the net -/

def arrMs (l : List MsgR) : Chunk := .arr 36 ksMsg l.length (encRows encMsg l)
def netHp (o a : Nat) (l : List MsgR) (cap : Nat) : List (Nat × Chunk) := [(o, .obj 51 [.slc a 0 21 l.length cap]), (a, .arr 36 ksMsg l.length (encRows encMsg l))]
structure SendA where
  l : List MsgR
  cap : Nat
  ms : List MsgR
  mcap : Nat
def sentL (l ms : List MsgR) : List MsgR := l ++ ms.take (300 - l.length)
theorem sent_length (l ms : List MsgR) : (sentL l ms).length = l.length + min (300 - l.length) ms.length := by simp [sentL]
theorem sent_more {l ms : List MsgR} {i : Nat} (hi : i < ms.length) (h : (sentL l (ms.take i)).length < 300) : sentL l (ms.take (i + 1)) = sentL l (ms.take i) ++ [gl ms i] := by
  rw [sent_length, List.length_take] at h
  unfold sentL
  rw [List.take_take, List.take_take, show min (300 - l.length) (i + 1) = i + 1 by omega, show min (300 - l.length) i = i by omega, List.append_assoc, gl_eq hi, List.take_append_getElem]
theorem sent_full {l ms : List MsgR} {i : Nat} (hi : i < ms.length) (h : ¬ (sentL l (ms.take i)).length < 300) : sentL l (ms.take (i + 1)) = sentL l (ms.take i) := by
  rw [sent_length, List.length_take] at h
  unfold sentL
  rw [List.take_take, List.take_take, show min (300 - l.length) (i + 1) = 300 - l.length by omega, show min (300 - l.length) i = 300 - l.length by omega]
noncomputable def cSend : Con where
  α := SendA
  β := Nat
  m := 3
  m' := 4
  pre := fun a => a.l.length ≤ 300 ∧ a.l.length ≤ a.cap ∧ a.ms.length ≤ 1000 ∧ ∀ m ∈ a.ms, okM m
  args := fun a => [.a (.ptr 0 0 0 0), .a (.slc 2 0 21 a.ms.length a.mcap)]
  hp := fun a => netHp 0 1 a.l a.cap
  ro := fun a => [(2, .arr 36 ksMsg a.ms.length (encRows encMsg a.ms))]
  post := fun a cap => (sentL a.l a.ms).length ≤ cap
  res := fun a _ => .a (.int .i64 ((sentL a.l a.ms).length - a.l.length))
  hp' := fun a cap => netHp 0 3 (sentL a.l a.ms) cap
def S.net (s : S) (t : Nat) (l : List MsgR) (cap : Nat) : S := (s.at_ t (.obj 51 [.slc (s.in_ t 0) 0 21 l.length cap])).at_ (s.in_ t 0) (.arr 36 ksMsg l.length (encRows encMsg l))
/-- likewise, in a block of its own -/
def S.net1 (s : S) (t : Nat) (l : List MsgR) (cap : Nat) : S := ((s.put (s.hp.del (s.in_ t 0))).at_ t (.obj 51 [.slc s.nx 0 21 l.length cap])).new (.arr 36 ksMsg l.length (encRows encMsg l))
def iSend (a : SendA) : An := .flat 5 (Nat × Nat) (fun s x => (S.net1 s (s.tg 0) (sentL a.l (a.ms.take x.1)) x.2).int 17 x.1) (fun _ x => x.1 ≤ a.ms.length ∧ (sentL a.l (a.ms.take x.1)).length ≤ x.2) (fun _ x => a.ms.length - x.1)
noncomputable def tabSend : List (Nat × Con) := [(28, cMay)]
set_option maxHeartbeats 4000000 in
theorem bodySend : fnBody (Y Try.prog) tabSend 12 cSend fun a => [(12, [iSend a], [])] := fnBody.of (p :=
  ∀ (a : SendA), (a.l.length ≤ (300 : Nat) ∧
  a.l.length ≤ a.cap ∧
  a.ms.length ≤ (1000 : Nat) ∧
  ∀ (m : MsgR), m ∈ a.ms →
  okM m) →
  (∃ (a_2 : Nat × Nat), (0 : Int) = (↑a_2.fst : Int) ∧
  (↑a.ms.length : Int) = (↑a.ms.length : Int) ∧
  ((0 : Nat) = (0 : Nat) ∧
  a.ms.length = a.ms.length ∧
  a.mcap = a.mcap) ∧
  (↑a.l.length : Int) = (↑a.l.length : Int) ∧
  Bool.false = Bool.false ∧
  (0 : Int) = (0 : Int) ∧
  (0 : Nat) = (0 : Nat) ∧
  ((0 : Nat) = (0 : Nat) ∧
  a.ms.length = a.ms.length ∧
  a.mcap = a.mcap) ∧
  ((0 : Nat) = (0 : Nat) ∧
  a.l.length = (sentL a.l (List.take a_2.fst a.ms)).length ∧
  a.cap = a_2.snd) ∧
  (a.ms.length ≤ a.ms.length ∧
  RowsEq a.ms.length (21 : Nat) (encRows encMsg a.ms) (encRows encMsg a.ms)) ∧
  ((sentL a.l (List.take a_2.fst a.ms)).length ≤ a.l.length ∧
  RowsEq (sentL a.l (List.take a_2.fst a.ms)).length (21 : Nat) (encRows encMsg a.l) (encRows encMsg (sentL a.l (List.take a_2.fst a.ms)))) ∧
  (a_2.fst ≤ a.ms.length ∧
  (sentL a.l (List.take a_2.fst a.ms)).length ≤ a_2.snd) ∧
  True) ∧
  ∀ (a_2 : Nat × Nat), a_2.fst ≤ a.ms.length ∧
  (sentL a.l (List.take a_2.fst a.ms)).length ≤ a_2.snd →
  (Decidable.decide ((↑a_2.fst : Int) < (↑a.ms.length : Int)) = Bool.true →
  ((0 : Int) ≤ (↑a_2.fst : Int) ∧
  (↑a_2.fst : Int) < (↑a.ms.length : Int)) ∧
  (0 : Nat) + (↑a_2.fst : Int).toNat < a.ms.length ∧
  ∃ (a_5 : MsgR), (gl a.ms ((0 : Nat) + (↑a_2.fst : Int).toNat)).k = a_5.k ∧
  (gl a.ms ((0 : Nat) + (↑a_2.fst : Int).toNat)).f = a_5.f ∧
  (gl a.ms ((0 : Nat) + (↑a_2.fst : Int).toNat)).t = a_5.t ∧
  (gl a.ms ((0 : Nat) + (↑a_2.fst : Int).toNat)).ep = a_5.ep ∧
  (gl a.ms ((0 : Nat) + (↑a_2.fst : Int).toNat)).ti = a_5.ti ∧
  (gl a.ms ((0 : Nat) + (↑a_2.fst : Int).toNat)).sq = a_5.sq ∧
  (0 : Int) = (0 : Int) ∧
  (0 : Int) = (0 : Int) ∧
  (0 : Int) = (0 : Int) ∧
  (ByteArray.mk #[]) = (ByteArray.mk #[]) ∧
  (0 : Int) = (0 : Int) ∧
  Bool.false = Bool.false ∧
  (ByteArray.mk #[]) = (ByteArray.mk #[]) ∧
  (ByteArray.mk #[]) = (ByteArray.mk #[]) ∧
  (0 : Int) = (0 : Int) ∧
  Bool.false = Bool.false ∧
  (0 : Int) = (0 : Int) ∧
  okM a_5 ∧
  ∀ (b : Unit), True →
  (Decidable.decide ((↑(sentL a.l (List.take a_2.fst a.ms)).length : Int) < (300 : Int)) = Bool.true →
  (0 : Nat) + (sentL a.l (List.take a_2.fst a.ms)).length ≤ (sentL a.l (List.take a_2.fst a.ms)).length ∧
  (1 : Nat) ≤ (1 : Nat) ∧
  ((sentL a.l (List.take a_2.fst a.ms)).length + (1 : Nat)) * (256 : Nat) ≤ (140737488355328 : Nat) ∧
  ∀ (cap : Nat), (sentL a.l (List.take a_2.fst a.ms)).length + (1 : Nat) ≤ cap →
  cap ≤ lenMax →
  ((sentL a.l (List.take a_2.fst a.ms)).length + (1 : Nat) ≤ a_2.snd →
  cap = a_2.snd) →
  InR IntKind.i64 ((↑a_2.fst : Int) + (1 : Int)) ∧
  ∃ (a' : Nat × Nat), (↑a_2.fst : Int) + (1 : Int) = (↑a'.fst : Int) ∧
  (↑a.ms.length : Int) = (↑a.ms.length : Int) ∧
  ((0 : Nat) = (0 : Nat) ∧
  a.ms.length = a.ms.length ∧
  a.mcap = a.mcap) ∧
  (↑a.l.length : Int) = (↑a.l.length : Int) ∧
  Bool.false = Bool.false ∧
  (0 : Int) = (0 : Int) ∧
  (0 : Nat) = (0 : Nat) ∧
  ((0 : Nat) = (0 : Nat) ∧
  a.ms.length = a.ms.length ∧
  a.mcap = a.mcap) ∧
  ((0 : Nat) = (0 : Nat) ∧
  (sentL a.l (List.take a_2.fst a.ms)).length + (1 : Nat) = (sentL a.l (List.take a'.fst a.ms)).length ∧
  cap = a'.snd) ∧
  (a.ms.length ≤ a.ms.length ∧
  RowsEq a.ms.length (21 : Nat) (encRows encMsg a.ms) (encRows encMsg a.ms)) ∧
  ((sentL a.l (List.take a'.fst a.ms)).length ≤ (sentL a.l (List.take a_2.fst a.ms)).length + (1 : Nat) ∧
  RowsEq (sentL a.l (List.take a'.fst a.ms)).length (21 : Nat) (appRows (encRows encMsg (sentL a.l (List.take a_2.fst a.ms))) (0 : Nat) (sentL a.l (List.take a_2.fst a.ms)).length fun (i j : Nat) => flatRows (21 : Nat) [Value.int IntKind.i64 (gl a.ms ((0 : Nat) + (↑a_2.fst : Int).toNat)).k, Value.int IntKind.i64 (gl a.ms ((0 : Nat) + (↑a_2.fst : Int).toNat)).f, Value.int IntKind.i64 (gl a.ms ((0 : Nat) + (↑a_2.fst : Int).toNat)).t, Value.int IntKind.i64 (gl a.ms ((0 : Nat) + (↑a_2.fst : Int).toNat)).ep, Value.int IntKind.i64 (gl a.ms ((0 : Nat) + (↑a_2.fst : Int).toNat)).ti, Value.int IntKind.i64 (gl a.ms ((0 : Nat) + (↑a_2.fst : Int).toNat)).sq, Value.int IntKind.i64 (0 : Int), Value.int IntKind.i64 (0 : Int), Value.int IntKind.i64 (0 : Int), Value.string (ByteArray.mk #[]), Value.int IntKind.i64 (0 : Int), Value.bool Bool.false, Value.string (ByteArray.mk #[]), Value.string (ByteArray.mk #[]), Value.int IntKind.i64 (0 : Int), Value.bool Bool.false, Value.slice Option.none (0 : Nat) (0 : Nat), Value.slice Option.none (0 : Nat) (0 : Nat), Value.slice Option.none (0 : Nat) (0 : Nat), Value.int IntKind.i64 (0 : Int), Value.slice Option.none (0 : Nat) (0 : Nat)] ((0 : Nat) + i) j) (encRows encMsg (sentL a.l (List.take a'.fst a.ms)))) ∧
  (a'.fst ≤ a.ms.length ∧
  (sentL a.l (List.take a'.fst a.ms)).length ≤ a'.snd) ∧
  a.ms.length - a'.fst < a.ms.length - a_2.fst) ∧
  (Decidable.decide ((↑(sentL a.l (List.take a_2.fst a.ms)).length : Int) < (300 : Int)) = Bool.false →
  InR IntKind.i64 ((↑a_2.fst : Int) + (1 : Int)) ∧
  ∃ (a' : Nat × Nat), (↑a_2.fst : Int) + (1 : Int) = (↑a'.fst : Int) ∧
  (↑a.ms.length : Int) = (↑a.ms.length : Int) ∧
  ((0 : Nat) = (0 : Nat) ∧
  a.ms.length = a.ms.length ∧
  a.mcap = a.mcap) ∧
  (↑a.l.length : Int) = (↑a.l.length : Int) ∧
  Bool.false = Bool.false ∧
  (0 : Int) = (0 : Int) ∧
  (0 : Nat) = (0 : Nat) ∧
  ((0 : Nat) = (0 : Nat) ∧
  a.ms.length = a.ms.length ∧
  a.mcap = a.mcap) ∧
  ((0 : Nat) = (0 : Nat) ∧
  (sentL a.l (List.take a_2.fst a.ms)).length = (sentL a.l (List.take a'.fst a.ms)).length ∧
  a_2.snd = a'.snd) ∧
  (a.ms.length ≤ a.ms.length ∧
  RowsEq a.ms.length (21 : Nat) (encRows encMsg a.ms) (encRows encMsg a.ms)) ∧
  ((sentL a.l (List.take a'.fst a.ms)).length ≤ (sentL a.l (List.take a_2.fst a.ms)).length ∧
  RowsEq (sentL a.l (List.take a'.fst a.ms)).length (21 : Nat) (encRows encMsg (sentL a.l (List.take a_2.fst a.ms))) (encRows encMsg (sentL a.l (List.take a'.fst a.ms)))) ∧
  (a'.fst ≤ a.ms.length ∧
  (sentL a.l (List.take a'.fst a.ms)).length ≤ a'.snd) ∧
  a.ms.length - a'.fst < a.ms.length - a_2.fst)) ∧
  (Decidable.decide ((↑a_2.fst : Int) < (↑a.ms.length : Int)) = Bool.false →
  InR IntKind.i64 ((↑(sentL a.l (List.take a_2.fst a.ms)).length : Int) - (↑a.l.length : Int)) ∧
  ∃ (b : Nat), (↑(sentL a.l (List.take a_2.fst a.ms)).length : Int) - (↑a.l.length : Int) = (↑(sentL a.l a.ms).length : Int) - (↑a.l.length : Int) ∧
  ((0 : Nat) = (0 : Nat) ∧
  (sentL a.l (List.take a_2.fst a.ms)).length = (sentL a.l a.ms).length ∧
  a_2.snd = b) ∧
  ((sentL a.l a.ms).length ≤ (sentL a.l (List.take a_2.fst a.ms)).length ∧
  RowsEq (sentL a.l a.ms).length (21 : Nat) (encRows encMsg (sentL a.l (List.take a_2.fst a.ms))) (encRows encMsg (sentL a.l a.ms))) ∧
  (sentL a.l a.ms).length ≤ b ∧
  True)) (by kernel_rfl) (by
  rintro ⟨l, cap, ms, mcap⟩ ⟨h1, hc, h2, h3⟩
  dsimp only at *
  simp only [Nat.zero_add, Int.toNat_natCast, InR]
  have s0 : sentL l (ms.take 0) = l := by simp [sentL]
  refine ⟨⟨(0, cap), ?_⟩, fun x hx => ⟨fun c1 => ?_, fun c1 => ?_⟩⟩
  · dsimp only
    rw [s0]
    ((repeat' apply And.intro) <;> first | with_reducible rfl | omega | (dsimp only; omega) | exact RowsEq.refl _ _ _ | assumption | rfl | trivial | exact Nat.le_refl _ | skip)
  · obtain ⟨i, c⟩ := x
    simp only [decide_eq_true_eq] at c1 hx ⊢
    obtain ⟨hx, hxc⟩ := hx
    have hi : i < ms.length := by omega
    have hs := sent_length l (ms.take i)
    have hs1 := sent_length l (ms.take (i + 1))
    refine ⟨by omega, hi, gl ms i, ?_⟩
    ((repeat' apply And.intro) <;> first | with_reducible rfl | omega | (dsimp only; omega) | exact RowsEq.refl _ _ _ | assumption | rfl | trivial | exact Nat.le_refl _ | skip)
    · exact h3 _ (gl_mem hi)
    · simp only [decide_eq_true_eq, decide_eq_false_iff_not]
      refine fun _ _ => ⟨fun d => ?_, fun d => ?_⟩
      · have e := sent_more hi (show (sentL l (ms.take i)).length < 300 by omega)
        ((repeat' apply And.intro) <;> first | with_reducible rfl | omega | (dsimp only; omega) | exact RowsEq.refl _ _ _ | assumption | rfl | trivial | exact Nat.le_refl _ | skip)
        refine fun c' g1 g2 g3 => ⟨by omega, (i + 1, c'), ?_⟩
        dsimp only
        rw [e]
        ((repeat' apply And.intro) <;> first | with_reducible rfl | omega | (dsimp only; omega) | exact RowsEq.refl _ _ _ | assumption | rfl | trivial | exact Nat.le_refl _ | skip)
        · simp
        · simp
        · exact .push rfl (by simp) rfl
        · simpa using g1
      · have e := sent_full hi (show ¬ (sentL l (ms.take i)).length < 300 by omega)
        refine ⟨by omega, (i + 1, c), ?_⟩
        dsimp only
        rw [e]
        ((repeat' apply And.intro) <;> first | with_reducible rfl | omega | (dsimp only; omega) | exact RowsEq.refl _ _ _ | assumption | rfl | trivial | exact Nat.le_refl _ | skip)
  · obtain ⟨i, c⟩ := x
    simp only [decide_eq_false_iff_not] at c1 hx ⊢
    obtain ⟨hx, hxc⟩ := hx
    have hi : i = ms.length := by omega
    subst hi
    rw [List.take_length] at hxc ⊢
    have hs := sent_length l ms
    refine ⟨by omega, c, ?_⟩
    ((repeat' apply And.intro) <;> first | with_reducible rfl | omega | (dsimp only; omega) | exact RowsEq.refl _ _ _ | assumption | rfl | trivial | exact Nat.le_refl _ | skip))

structure LookA where
  l : List MsgR
  cap : Nat
  i : Int
def lookB (l : List MsgR) (i : Int) : Bool := decide (0 ≤ i) && decide (i < l.length)
def lookM (l : List MsgR) (i : Int) : MsgR := if lookB l i then gl l i.toNat else zeroM
def dropM (l : List MsgR) (i : Int) : List MsgR := if lookB l i then l.eraseIdx i.toNat else l
noncomputable def cLook : Con where
  α := LookA
  β := Unit
  m := 2
  m' := 2
  pre := fun a => a.l.length ≤ 300
  args := fun a => [.a (.ptr 0 0 0 0), .a (.int .i64 a.i)]
  hp := fun _ => []
  ro := fun a => netHp 0 1 a.l a.cap
  post := fun _ _ => True
  res := fun a _ => .tup [.agg (atomsM (lookM a.l a.i)), .a (.bool (lookB a.l a.i))]
  hp' := fun _ _ => []
set_option maxHeartbeats 4000000 in
theorem bodyLook : fnBody (Y Try.prog) [] 13 cLook fun _ => [] := fnBody.of (p :=
  ∀ (a : LookA), a.l.length ≤ (300 : Nat) →
  (Decidable.decide (a.i < (0 : Int)) = Bool.true →
  ∃ (b : Unit), (0 : Int) = (lookM a.l a.i).k ∧
  (0 : Int) = (lookM a.l a.i).f ∧
  (0 : Int) = (lookM a.l a.i).t ∧
  (0 : Int) = (lookM a.l a.i).ep ∧
  (0 : Int) = (lookM a.l a.i).ti ∧
  (0 : Int) = (lookM a.l a.i).sq ∧
  (0 : Int) = (0 : Int) ∧
  (0 : Int) = (0 : Int) ∧
  (0 : Int) = (0 : Int) ∧
  (ByteArray.mk #[]) = (ByteArray.mk #[]) ∧
  (0 : Int) = (0 : Int) ∧
  Bool.false = Bool.false ∧
  (ByteArray.mk #[]) = (ByteArray.mk #[]) ∧
  (ByteArray.mk #[]) = (ByteArray.mk #[]) ∧
  (0 : Int) = (0 : Int) ∧
  Bool.false = Bool.false ∧
  (0 : Int) = (0 : Int) ∧
  Bool.false = lookB a.l a.i ∧
  True ∧
  True) ∧
  (Decidable.decide (a.i < (0 : Int)) = Bool.false →
  (Decidable.decide ((↑a.l.length : Int) ≤ a.i) = Bool.true →
  ∃ (b : Unit), (0 : Int) = (lookM a.l a.i).k ∧
  (0 : Int) = (lookM a.l a.i).f ∧
  (0 : Int) = (lookM a.l a.i).t ∧
  (0 : Int) = (lookM a.l a.i).ep ∧
  (0 : Int) = (lookM a.l a.i).ti ∧
  (0 : Int) = (lookM a.l a.i).sq ∧
  (0 : Int) = (0 : Int) ∧
  (0 : Int) = (0 : Int) ∧
  (0 : Int) = (0 : Int) ∧
  (ByteArray.mk #[]) = (ByteArray.mk #[]) ∧
  (0 : Int) = (0 : Int) ∧
  Bool.false = Bool.false ∧
  (ByteArray.mk #[]) = (ByteArray.mk #[]) ∧
  (ByteArray.mk #[]) = (ByteArray.mk #[]) ∧
  (0 : Int) = (0 : Int) ∧
  Bool.false = Bool.false ∧
  (0 : Int) = (0 : Int) ∧
  Bool.false = lookB a.l a.i ∧
  True ∧
  True) ∧
  (Decidable.decide ((↑a.l.length : Int) ≤ a.i) = Bool.false →
  ((0 : Int) ≤ a.i ∧
  a.i < (↑a.l.length : Int)) ∧
  (0 : Nat) + a.i.toNat < a.l.length ∧
  ∃ (b : Unit), (gl a.l ((0 : Nat) + a.i.toNat)).k = (lookM a.l a.i).k ∧
  (gl a.l ((0 : Nat) + a.i.toNat)).f = (lookM a.l a.i).f ∧
  (gl a.l ((0 : Nat) + a.i.toNat)).t = (lookM a.l a.i).t ∧
  (gl a.l ((0 : Nat) + a.i.toNat)).ep = (lookM a.l a.i).ep ∧
  (gl a.l ((0 : Nat) + a.i.toNat)).ti = (lookM a.l a.i).ti ∧
  (gl a.l ((0 : Nat) + a.i.toNat)).sq = (lookM a.l a.i).sq ∧
  (0 : Int) = (0 : Int) ∧
  (0 : Int) = (0 : Int) ∧
  (0 : Int) = (0 : Int) ∧
  (ByteArray.mk #[]) = (ByteArray.mk #[]) ∧
  (0 : Int) = (0 : Int) ∧
  Bool.false = Bool.false ∧
  (ByteArray.mk #[]) = (ByteArray.mk #[]) ∧
  (ByteArray.mk #[]) = (ByteArray.mk #[]) ∧
  (0 : Int) = (0 : Int) ∧
  Bool.false = Bool.false ∧
  (0 : Int) = (0 : Int) ∧
  Bool.true = lookB a.l a.i ∧
  True ∧
  True))) (by kernel_rfl) (by
  rintro ⟨l, cap, i⟩ hl
  dsimp only at *
  simp only [Nat.zero_add, lookM, lookB]
  refine ⟨fun c => ⟨(), ?_⟩, fun c => ⟨fun d => ⟨(), ?_⟩, fun d => ⟨by simp at c d; omega, by simp at c d; omega, (), ?_⟩⟩⟩
  all_goals simp only [decide_eq_true_eq, decide_eq_false_iff_not] at *
  · simp [show ¬ 0 ≤ i by omega, zeroM]
  · simp [show ¬ i < (l.length : Int) by omega, zeroM]
  · simp [show 0 ≤ i by omega, show i < (l.length : Int) by omega])
noncomputable def cDrop : Con where
  α := LookA
  β := Nat
  m := 2
  m' := 3
  pre := fun a => a.l.length ≤ 300 ∧ a.l.length ≤ a.cap
  args := fun a => [.a (.ptr 0 0 0 0), .a (.int .i64 a.i)]
  hp := fun a => netHp 0 1 a.l a.cap
  ro := fun _ => []
  post := fun a cap => (dropM a.l a.i).length ≤ cap
  res := fun a _ => .a (.bool (lookB a.l a.i))
  hp' := fun a cap => netHp 0 2 (dropM a.l a.i) cap
set_option maxHeartbeats 4000000 in
theorem bodyDrop : fnBody (Y Try.prog) [] 16 cDrop fun _ => [] := fnBody.of (p :=
  ∀ (a : LookA), a.l.length ≤ (300 : Nat) ∧
  a.l.length ≤ a.cap →
  (Decidable.decide (a.i < (0 : Int)) = Bool.true →
  ∃ (b : Nat), Bool.false = lookB a.l a.i ∧
  ((0 : Nat) = (0 : Nat) ∧
  a.l.length = (dropM a.l a.i).length ∧
  a.cap = b) ∧
  ((dropM a.l a.i).length ≤ a.l.length ∧
  RowsEq (dropM a.l a.i).length (21 : Nat) (encRows encMsg a.l) (encRows encMsg (dropM a.l a.i))) ∧
  (dropM a.l a.i).length ≤ b ∧
  True) ∧
  (Decidable.decide (a.i < (0 : Int)) = Bool.false →
  (Decidable.decide ((↑a.l.length : Int) ≤ a.i) = Bool.true →
  ∃ (b : Nat), Bool.false = lookB a.l a.i ∧
  ((0 : Nat) = (0 : Nat) ∧
  a.l.length = (dropM a.l a.i).length ∧
  a.cap = b) ∧
  ((dropM a.l a.i).length ≤ a.l.length ∧
  RowsEq (dropM a.l a.i).length (21 : Nat) (encRows encMsg a.l) (encRows encMsg (dropM a.l a.i))) ∧
  (dropM a.l a.i).length ≤ b ∧
  True) ∧
  (Decidable.decide ((↑a.l.length : Int) ≤ a.i) = Bool.false →
  InR IntKind.i64 (a.i + (1 : Int)) ∧
  ((0 : Int) ≤ (↑a.l.length : Int) ∧
  (↑a.l.length : Int) ≤ (↑a.cap : Int)) ∧
  ((0 : Int) ≤ a.i + (1 : Int) ∧
  a.i + (1 : Int) ≤ (↑(↑a.l.length : Int).toNat : Int)) ∧
  ((0 : Int) ≤ a.i ∧
  a.i ≤ (↑(a.i + (1 : Int)).toNat : Int)) ∧
  ((a.i == a.i + (1 : Int)) = Bool.true →
  ∃ (b : Nat), Bool.true = lookB a.l a.i ∧
  ((0 : Nat) = (0 : Nat) ∧
  a.l.length = (dropM a.l a.i).length ∧
  a.cap = b) ∧
  ((dropM a.l a.i).length ≤ a.l.length ∧
  RowsEq (dropM a.l a.i).length (21 : Nat) (encRows encMsg a.l) (encRows encMsg (dropM a.l a.i))) ∧
  (dropM a.l a.i).length ≤ b ∧
  True) ∧
  ((a.i == a.i + (1 : Int)) = Bool.false →
  ((0 : Int) ≤ a.i ∧
  a.i ≤ (↑a.cap : Int)) ∧
  ((0 : Int) ≤ a.i + (1 : Int) ∧
  a.i + (1 : Int) ≤ (↑a.l.length : Int)) ∧
  (0 : Nat) + (a.i.toNat - (0 : Nat)) ≤ a.l.length ∧
  (0 : Nat) + (a.i + (1 : Int)).toNat + (a.l.length - (a.i + (1 : Int)).toNat) ≤ a.l.length ∧
  (a.i.toNat - (0 : Nat) + (a.l.length - (a.i + (1 : Int)).toNat)) * (256 : Nat) ≤ (140737488355328 : Nat) ∧
  ∀ (cap : Nat), a.i.toNat - (0 : Nat) + (a.l.length - (a.i + (1 : Int)).toNat) ≤ cap →
  cap ≤ lenMax →
  (a.i.toNat - (0 : Nat) + (a.l.length - (a.i + (1 : Int)).toNat) ≤ a.cap - (0 : Nat) →
  cap = a.cap - (0 : Nat)) →
  ((0 : Int) ≤ (↑a.l.length : Int) ∧
  (↑a.l.length : Int) ≤ (↑cap : Int)) ∧
  ((0 : Int) ≤ (↑(a.i.toNat - (0 : Nat) + (a.l.length - (a.i + (1 : Int)).toNat)) : Int) ∧
  (↑(a.i.toNat - (0 : Nat) + (a.l.length - (a.i + (1 : Int)).toNat)) : Int) ≤ (↑(↑a.l.length : Int).toNat : Int)) ∧
  ∃ (b : Nat), Bool.true = lookB a.l a.i ∧
  ((0 : Nat) = (0 : Nat) ∧
  a.i.toNat - (0 : Nat) + (a.l.length - (a.i + (1 : Int)).toNat) = (dropM a.l a.i).length ∧
  cap = b) ∧
  ((dropM a.l a.i).length ≤ a.i.toNat - (0 : Nat) + (a.l.length - (a.i + (1 : Int)).toNat) ∧
  RowsEq (dropM a.l a.i).length (21 : Nat) (fun (i j : Nat) => if (0 : Nat) + (↑(a.i.toNat - (0 : Nat) + (a.l.length - (a.i + (1 : Int)).toNat)) : Int).toNat ≤ i ∧
  i < (0 : Nat) + (↑(a.i.toNat - (0 : Nat) + (a.l.length - (a.i + (1 : Int)).toNat)) : Int).toNat + ((↑a.l.length : Int).toNat - (↑(a.i.toNat - (0 : Nat) + (a.l.length - (a.i + (1 : Int)).toNat)) : Int).toNat) then [Value.int IntKind.i64 (0 : Int), Value.int IntKind.i64 (0 : Int), Value.int IntKind.i64 (0 : Int), Value.int IntKind.i64 (0 : Int), Value.int IntKind.i64 (0 : Int), Value.int IntKind.i64 (0 : Int), Value.int IntKind.i64 (0 : Int), Value.int IntKind.i64 (0 : Int), Value.int IntKind.i64 (0 : Int), Value.string (ByteArray.mk #[]), Value.int IntKind.i64 (0 : Int), Value.bool Bool.false, Value.string (ByteArray.mk #[]), Value.string (ByteArray.mk #[]), Value.int IntKind.i64 (0 : Int), Value.bool Bool.false, Value.slice Option.none (0 : Nat) (0 : Nat), Value.slice Option.none (0 : Nat) (0 : Nat), Value.slice Option.none (0 : Nat) (0 : Nat), Value.int IntKind.i64 (0 : Int), Value.slice Option.none (0 : Nat) (0 : Nat)].getD j (Value.tuple #[]) else appRows (encRows encMsg a.l) (0 : Nat) (a.i.toNat - (0 : Nat)) (fun (i j : Nat) => encRows encMsg a.l ((0 : Nat) + (a.i + (1 : Int)).toNat + i) j) i j) (encRows encMsg (dropM a.l a.i))) ∧
  (dropM a.l a.i).length ≤ b ∧
  True)))) (by kernel_rfl) (by
  rintro ⟨l, cap, i⟩ ⟨hl, hc⟩
  dsimp only at *
  simp only [Nat.zero_add, InR]
  refine ⟨fun c => ⟨cap, ?_⟩, fun c => ⟨fun d => ⟨cap, ?_⟩, fun d => ?_⟩⟩
  · simp only [decide_eq_true_eq] at c
    have e : lookB l i = false := by simp [lookB]; omega
    simp only [dropM, e]
    ((repeat' apply And.intro) <;> first | with_reducible rfl | omega | (dsimp only; omega) | exact RowsEq.refl _ _ _ | assumption | rfl | trivial | exact Nat.le_refl _ | skip)
  · simp only [decide_eq_true_eq] at d
    have e : lookB l i = false := by simp [lookB]; omega
    simp only [dropM, e]
    ((repeat' apply And.intro) <;> first | with_reducible rfl | omega | (dsimp only; omega) | exact RowsEq.refl _ _ _ | assumption | rfl | trivial | exact Nat.le_refl _ | skip)
  · simp only [decide_eq_false_iff_not] at c d
    obtain ⟨k, rfl⟩ : ∃ k : Nat, i = k := ⟨i.toNat, by omega⟩
    have hk : k < l.length := by omega
    have e : lookB l (k : Int) = true := by simp [lookB]; omega
    have el : (l.eraseIdx k).length = l.length - 1 := by rw [List.length_eraseIdx]; simp [hk]
    have e1 : ((k : Int) + 1).toNat = k + 1 := by omega
    have e2 : k + (l.length - (k + 1)) = l.length - 1 := by omega
    simp only [dropM, e, if_true, Int.toNat_natCast, e1, el, Nat.sub_zero, e2]
    refine ⟨by omega, by omega, by omega, by omega, fun g => (by exfalso; simp only [beq_iff_eq] at g; omega), fun _ => ⟨by omega, by omega, by omega, by omega, by omega, fun c' g1 g2 g3 => ⟨by omega, by omega, c', ?_⟩⟩⟩
    ((repeat' apply And.intro) <;> first | with_reducible rfl | omega | (dsimp only; omega) | exact RowsEq.refl _ _ _ | assumption | rfl | trivial | exact Nat.le_refl _ | skip)
    refine ⟨fun i hi j hj => ?_⟩
    rw [if_neg (by omega)]
    simp only [appRows, encRows, gl_eraseIdx, Nat.zero_add]
    by_cases h : i < k
    · simp only [h, if_true]
    · simp only [h, if_false]
      rw [show k + 1 + (i - k) = i + 1 by omega])
noncomputable def cTake : Con where
  α := LookA
  β := Nat
  m := 2
  m' := 3
  pre := fun a => a.l.length ≤ 300 ∧ a.l.length ≤ a.cap
  args := fun a => [.a (.ptr 0 0 0 0), .a (.int .i64 a.i)]
  hp := fun a => netHp 0 1 a.l a.cap
  ro := fun _ => []
  post := fun a cap => (dropM a.l a.i).length ≤ cap
  res := fun a _ => .tup [.agg (atomsM (lookM a.l a.i)), .a (.bool (lookB a.l a.i))]
  hp' := fun a cap => netHp 0 2 (dropM a.l a.i) cap
theorem callSend : CallsBy (Y Try.prog).G.X 12 cSend := fn_ok okY (tab := tabSend) ⟨callMay, trivial⟩ bodySend
theorem callLook : CallsBy (Y Try.prog).G.X 13 cLook := fn_ok okY (tab := []) trivial bodyLook
theorem callDrop : CallsBy (Y Try.prog).G.X 16 cDrop := fn_ok okY (tab := []) trivial bodyDrop
noncomputable def tabTake : List (Nat × Con) := [(13, cLook), (16, cDrop)]
set_option maxHeartbeats 4000000 in
theorem bodyTake : fnBody (Y Try.prog) tabTake 14 cTake fun _ => [] := fnBody.of (p :=
  ∀ (a : LookA), a.l.length ≤ (300 : Nat) ∧
  a.l.length ≤ a.cap →
  ∃ (a_2 : LookA), (0 : Nat) = (0 : Nat) ∧
  a.i = a_2.i ∧
  ((0 : Nat) = (0 : Nat) ∧
  a.l.length = a_2.l.length ∧
  a.cap = a_2.cap) ∧
  (a_2.l.length ≤ a.l.length ∧
  RowsEq a_2.l.length (21 : Nat) (encRows encMsg a.l) (encRows encMsg a_2.l)) ∧
  a_2.l.length ≤ (300 : Nat) ∧
  ∀ (b : Unit), True →
  ∃ (a_4 : LookA), (0 : Nat) = (0 : Nat) ∧
  a.i = a_4.i ∧
  ((0 : Nat) = (0 : Nat) ∧
  a.l.length = a_4.l.length ∧
  a.cap = a_4.cap) ∧
  (a_4.l.length ≤ a.l.length ∧
  RowsEq a_4.l.length (21 : Nat) (encRows encMsg a.l) (encRows encMsg a_4.l)) ∧
  (a_4.l.length ≤ (300 : Nat) ∧
  a_4.l.length ≤ a_4.cap) ∧
  ∀ (b : Nat), (dropM a_4.l a_4.i).length ≤ b →
  ∃ (b_1 : Nat), (lookM a_2.l a_2.i).k = (lookM a.l a.i).k ∧
  (lookM a_2.l a_2.i).f = (lookM a.l a.i).f ∧
  (lookM a_2.l a_2.i).t = (lookM a.l a.i).t ∧
  (lookM a_2.l a_2.i).ep = (lookM a.l a.i).ep ∧
  (lookM a_2.l a_2.i).ti = (lookM a.l a.i).ti ∧
  (lookM a_2.l a_2.i).sq = (lookM a.l a.i).sq ∧
  (0 : Int) = (0 : Int) ∧
  (0 : Int) = (0 : Int) ∧
  (0 : Int) = (0 : Int) ∧
  (ByteArray.mk #[]) = (ByteArray.mk #[]) ∧
  (0 : Int) = (0 : Int) ∧
  Bool.false = Bool.false ∧
  (ByteArray.mk #[]) = (ByteArray.mk #[]) ∧
  (ByteArray.mk #[]) = (ByteArray.mk #[]) ∧
  (0 : Int) = (0 : Int) ∧
  Bool.false = Bool.false ∧
  (0 : Int) = (0 : Int) ∧
  lookB a_2.l a_2.i = lookB a.l a.i ∧
  ((0 : Nat) = (0 : Nat) ∧
  (dropM a_4.l a_4.i).length = (dropM a.l a.i).length ∧
  b = b_1) ∧
  ((dropM a.l a.i).length ≤ (dropM a_4.l a_4.i).length ∧
  RowsEq (dropM a.l a.i).length (21 : Nat) (encRows encMsg (dropM a_4.l a_4.i)) (encRows encMsg (dropM a.l a.i))) ∧
  (dropM a.l a.i).length ≤ b_1 ∧
  True) (by kernel_rfl) (by
  rintro ⟨l, cap, i⟩ ⟨hl, hc⟩
  dsimp only at *
  refine ⟨⟨l, cap, i⟩, ?_⟩
  ((repeat' apply And.intro) <;> first | with_reducible rfl | omega | (dsimp only; omega) | exact RowsEq.refl _ _ _ | assumption | rfl | trivial | exact Nat.le_refl _ | skip)
  refine fun _ _ => ⟨⟨l, cap, i⟩, ?_⟩
  ((repeat' apply And.intro) <;> first | with_reducible rfl | omega | (dsimp only; omega) | exact RowsEq.refl _ _ _ | assumption | rfl | trivial | exact Nat.le_refl _ | skip)
  refine fun b hb => ⟨b, ?_⟩
  ((repeat' apply And.intro) <;> first | with_reducible rfl | omega | (dsimp only; omega) | exact RowsEq.refl _ _ _ | assumption | rfl | trivial | exact Nat.le_refl _ | skip))
theorem callTake : CallsBy (Y Try.prog).G.X 14 cTake := fn_ok okY (tab := tabTake) ⟨callLook, callDrop, trivial⟩ bodyTake
end Go.Proofs.Ythgnaehfepcblaa
