/-
  Messages: cut, looked at, copied, told apart; no condition but that lists are short.
-/
import Derived.Test.YthgnaehfepcblaaKd
import Derived.Test.YthgnaehfepcblaaSxZ
namespace Go.Proofs.Ythgnaehfepcblaa
open Go.Sx
set_option maxRecDepth 100000
set_option linter.unusedVariables false

noncomputable def cBegun : Con where
  α := Unit
  β := Unit
  m := 0
  m' := 0
  pre := fun _ => True
  args := fun _ => []
  hp := fun _ => []
  ro := fun _ => []
  post := fun _ _ => True
  res := fun _ _ => .a .tt
  hp' := fun _ _ => []
set_option maxHeartbeats 4000000 in
theorem bodyBegun : fnBody (Yf Try.prog) [] 8 cBegun fun _ => [] := fnBody.of (p :=
  ∀ (a : Unit), True →
  ∀ (cap : Nat), (1 : Nat) ≤ cap →
  cap ≤ lenMax →
  ∀ (cap_1 : Nat), (2 : Nat) ≤ cap_1 →
  cap_1 ≤ lenMax →
  ((2 : Nat) ≤ cap →
  cap_1 = cap) →
  ((0 : Int) ≤ (2 : Int) ∧
  (2 : Int) ≤ (↑cap_1 : Int)) ∧
  ((0 : Int) ≤ (1 : Int) ∧
  (1 : Int) ≤ (2 : Int)) ∧
  ((0 : Int) ≤ (0 : Int) ∧
  (0 : Int) ≤ (1 : Int)) ∧
  ((0 : Int) ≤ (0 : Int) ∧
  (0 : Int) ≤ (↑cap_1 : Int)) ∧
  ((0 : Int) ≤ (1 : Int) ∧
  (1 : Int) ≤ (2 : Int)) ∧
  ∀ (cap : Nat), (1 : Nat) ≤ cap →
  cap ≤ lenMax →
  ((1 : Nat) ≤ cap_1 - (0 : Nat) →
  cap = cap_1 - (0 : Nat)) →
  ((0 : Int) ≤ (2 : Int) ∧
  (2 : Int) ≤ (↑cap : Int)) ∧
  ((0 : Int) ≤ (1 : Int) ∧
  (1 : Int) ≤ (2 : Int)) ∧
  ((0 : Int) ≤ (1 : Int) ∧
  (1 : Int) ≤ (↑cap : Int)) ∧
  ((0 : Int) ≤ (1 : Int) ∧
  (1 : Int) ≤ (1 : Int)) ∧
  ((0 : Int) ≤ (0 : Int) ∧
  (0 : Int) ≤ (1 : Int)) ∧
  ((0 : Int) ≤ (0 : Int) ∧
  (0 : Int) ≤ (↑cap : Int)) ∧
  ((0 : Int) ≤ (1 : Int) ∧
  (1 : Int) ≤ (1 : Int)) ∧
  ∀ (cap_2 : Nat), (0 : Nat) ≤ cap_2 →
  cap_2 ≤ lenMax →
  ((0 : Nat) ≤ cap - (0 : Nat) →
  cap_2 = cap - (0 : Nat)) →
  ((0 : Int) ≤ (1 : Int) ∧
  (1 : Int) ≤ (↑cap_2 : Int)) ∧
  ((0 : Int) ≤ (0 : Int) ∧
  (0 : Int) ≤ (1 : Int)) ∧
  ∃ (b : Unit), Bool.true = Bool.true ∧
  True ∧
  True) (by kernel_rfl) (by
  repeat' (first | intro _ | exact ⟨(), rfl, trivial, trivial⟩ | apply And.intro | decide | omega))
theorem callBegun : CallsBy (Y Try.prog).G.X 8 cBegun := fn_ok okYf (tab := []) trivial bodyBegun

/-- a text is cut -/
def cutB (s : ByteArray) (n : Int) : ByteArray := if n < s.size then s.extract 0 n.toNat else s
noncomputable def cCut : Con where
  α := ByteArray × Int
  β := Unit
  m := 0
  m' := 0
  pre := fun a => 0 ≤ a.2
  args := fun a => [.a (.str a.1), .a (.int .i64 a.2)]
  hp := fun _ => []
  ro := fun _ => []
  post := fun _ _ => True
  res := fun a _ => .a (.str (cutB a.1 a.2))
  hp' := fun _ _ => []

set_option maxHeartbeats 4000000 in
theorem bodyCut : fnBody (Y Try.prog) [] 20 cCut fun _ => [] := fnBody.of (p :=
  ∀ (a : ByteArray × Int), (0 : Int) ≤ a.snd →
  (Decidable.decide (a.snd < (↑a.fst.size : Int)) = Bool.true →
  ((0 : Int) ≤ a.snd ∧
  a.snd ≤ (↑a.fst.size : Int)) ∧
  ∃ (b : Unit), a.fst.extract (0 : Nat) a.snd.toNat = cutB a.fst a.snd ∧
  True ∧
  True) ∧
  (Decidable.decide (a.snd < (↑a.fst.size : Int)) = Bool.false →
  ∃ (b : Unit), a.fst = cutB a.fst a.snd ∧
  True ∧
  True)) (by kernel_rfl) (by
  intro a h
  refine ⟨fun h1 => ?_, fun h1 => ⟨(), ?_, trivial, trivial⟩⟩
  · have h2 : a.2 < a.1.size := by simpa using h1
    exact ⟨by omega, (), by simp [cutB, h2], trivial, trivial⟩
  · have h2 : ¬ a.2 < a.1.size := by simpa using h1
    simp [cutB, h2])

theorem callCut : CallsBy (Y Try.prog).G.X 20 cCut := fn_ok okY (tab := []) trivial bodyCut

/-! ### entries, marks -/

structure ItemR where
  key : ByteArray
  val : ByteArray
  en : Int
  gone : Bool
  deriving Inhabited
structure MarkR where
  seq : Int
  key : ByteArray
  deriving Inhabited
def encItem (x : ItemR) : List Value := [.string x.key, .string x.val, .int .i64 x.en, .bool x.gone]
def encMark (x : MarkR) : List Value := [.int .i64 x.seq, .string x.key]
def atomsI (x : ItemR) : List A := [.str x.key, .str x.val, .int .i64 x.en, .bool x.gone]
def ksItem : List CK := [.str, .str, .int .i64, .bool]
def ksMark : List CK := [.int .i64, .str]
def encI (p : Int) : List Value := [.int .i64 p]
def mayAt (l : List Int) (i : Nat) : Bool := decide (1 ≤ gl l i) && decide (gl l i ≤ 5) && (decide (i = 0) || decide (gl l (i - 1) < gl l i))
def mayTo (l : List Int) : Nat → Bool
  | 0 => true
  | i + 1 => mayTo l i && mayAt l i
def mayN (l : List Int) : Bool := mayTo l l.length && decide (0 < l.length)
theorem mayTo_at {l : List Int} : ∀ {i j : Nat}, mayTo l i = true → j < i → mayAt l j = true
  | i + 1, j, h, hj => by
    simp only [mayTo, Bool.and_eq_true] at h
    by_cases e : j = i
    · subst e; exact h.2
    · exact mayTo_at h.1 (by omega)
theorem mayTo_false {l : List Int} {j : Nat} (h : mayAt l j = false) : ∀ {i : Nat}, j < i → mayTo l i = false
  | i + 1, hj => by
    simp only [mayTo, Bool.and_eq_false_iff]
    by_cases e : j = i
    · subst e; exact .inr h
    · exact .inl (mayTo_false h (by omega))
theorem mayN_at {l : List Int} (h : mayN l = true) {j : Nat} (hj : j < l.length) : 1 ≤ gl l j ∧ gl l j ≤ 5 ∧ (j = 0 ∨ gl l (j - 1) < gl l j) := by
  simp only [mayN, Bool.and_eq_true] at h
  have := mayTo_at h.1 hj
  simpa [mayAt, and_assoc] using this
theorem mayN_pos {l : List Int} (h : mayN l = true) : 0 < l.length := by
  simp only [mayN, Bool.and_eq_true, decide_eq_true_eq] at h; exact h.2
theorem mayN_grows {l : List Int} (h : mayN l = true) : ∀ j, j < l.length → (j : Int) + 1 ≤ gl l j
  | 0, hj => by have := mayN_at h hj; omega
  | j + 1, hj => by
    have h1 := mayN_grows h j (by omega)
    have h2 := mayN_at h hj
    simp at h2
    omega
theorem mayN_len {l : List Int} (h : mayN l = true) : l.length ≤ 5 := by
  have h0 := mayN_pos h
  have h1 := mayN_grows h (l.length - 1) (by omega)
  have h2 := mayN_at h (show l.length - 1 < l.length by omega)
  omega

structure NodesA where
  l : List Int
  cap : Nat
noncomputable def cMay : Con where
  α := NodesA
  β := Unit
  m := 1
  m' := 1
  pre := fun a => a.l.length < 100000
  args := fun a => [.a (.slc 0 0 1 a.l.length a.cap)]
  hp := fun _ => []
  ro := fun a => [(0, .arr 3 [.int .i64] a.l.length (encRows encI a.l))]
  post := fun _ _ => True
  res := fun a _ => .a (.bool (mayN a.l))
  hp' := fun _ _ => []
def iMay (k slot : Nat) (a : NodesA) : An := .flat k Nat (fun s i => s.int slot i) (fun _ i => i ≤ a.l.length ∧ mayTo a.l i = true) (fun _ i => a.l.length - i)
set_option maxHeartbeats 4000000 in
theorem bodyMay : fnBody (Y Try.prog) [] 41 cMay fun a => [(41, [iMay 2 7 a], [])] := fnBody.of (p :=
  ∀ (a : NodesA), a.l.length < (100000 : Nat) →
  (∃ (a_2 : Nat), (0 : Int) = (↑a_2 : Int) ∧
  (↑a.l.length : Int) = (↑a.l.length : Int) ∧
  ((0 : Nat) = (0 : Nat) ∧
  a.l.length = a.l.length ∧
  a.cap = a.cap) ∧
  Bool.false = Bool.false ∧
  ((0 : Nat) = (0 : Nat) ∧
  a.l.length = a.l.length ∧
  a.cap = a.cap) ∧
  (a.l.length ≤ a.l.length ∧
  RowsEq a.l.length (1 : Nat) (encRows encI a.l) (encRows encI a.l)) ∧
  (a_2 ≤ a.l.length ∧
  mayTo a.l a_2 = Bool.true) ∧
  True) ∧
  ∀ (a_2 : Nat), a_2 ≤ a.l.length ∧
  mayTo a.l a_2 = Bool.true →
  (Decidable.decide ((↑a_2 : Int) < (↑a.l.length : Int)) = Bool.true →
  ((0 : Int) ≤ (↑a_2 : Int) ∧
  (↑a_2 : Int) < (↑a.l.length : Int)) ∧
  (0 : Nat) + (↑a_2 : Int).toNat < a.l.length ∧
  (InR IntKind.i64 (gl a.l ((0 : Nat) + (↑a_2 : Int).toNat)) →
  (Decidable.decide (gl a.l ((0 : Nat) + (↑a_2 : Int).toNat) < (1 : Int)) = Bool.true →
  ∃ (b : Unit), Bool.false = mayN a.l ∧
  True ∧
  True) ∧
  (Decidable.decide (gl a.l ((0 : Nat) + (↑a_2 : Int).toNat) < (1 : Int)) = Bool.false →
  (Decidable.decide ((5 : Int) < gl a.l ((0 : Nat) + (↑a_2 : Int).toNat)) = Bool.true →
  ∃ (b : Unit), Bool.false = mayN a.l ∧
  True ∧
  True) ∧
  (Decidable.decide ((5 : Int) < gl a.l ((0 : Nat) + (↑a_2 : Int).toNat)) = Bool.false →
  (Decidable.decide ((0 : Int) < (↑a_2 : Int)) = Bool.true →
  InR IntKind.i64 ((↑a_2 : Int) - (1 : Int)) ∧
  ((0 : Int) ≤ (↑a_2 : Int) - (1 : Int) ∧
  (↑a_2 : Int) - (1 : Int) < (↑a.l.length : Int)) ∧
  (0 : Nat) + ((↑a_2 : Int) - (1 : Int)).toNat < a.l.length ∧
  (InR IntKind.i64 (gl a.l ((0 : Nat) + ((↑a_2 : Int) - (1 : Int)).toNat)) →
  (Decidable.decide (gl a.l ((0 : Nat) + (↑a_2 : Int).toNat) ≤ gl a.l ((0 : Nat) + ((↑a_2 : Int) - (1 : Int)).toNat)) = Bool.true →
  ∃ (b : Unit), Bool.false = mayN a.l ∧
  True ∧
  True) ∧
  (Decidable.decide (gl a.l ((0 : Nat) + (↑a_2 : Int).toNat) ≤ gl a.l ((0 : Nat) + ((↑a_2 : Int) - (1 : Int)).toNat)) = Bool.false →
  InR IntKind.i64 ((↑a_2 : Int) + (1 : Int)) ∧
  ∃ (a' : Nat), (↑a_2 : Int) + (1 : Int) = (↑a' : Int) ∧
  (↑a.l.length : Int) = (↑a.l.length : Int) ∧
  ((0 : Nat) = (0 : Nat) ∧
  a.l.length = a.l.length ∧
  a.cap = a.cap) ∧
  Bool.false = Bool.false ∧
  ((0 : Nat) = (0 : Nat) ∧
  a.l.length = a.l.length ∧
  a.cap = a.cap) ∧
  (a.l.length ≤ a.l.length ∧
  RowsEq a.l.length (1 : Nat) (encRows encI a.l) (encRows encI a.l)) ∧
  (a' ≤ a.l.length ∧
  mayTo a.l a' = Bool.true) ∧
  a.l.length - a' < a.l.length - a_2))) ∧
  (Decidable.decide ((0 : Int) < (↑a_2 : Int)) = Bool.false →
  InR IntKind.i64 ((↑a_2 : Int) + (1 : Int)) ∧
  ∃ (a' : Nat), (↑a_2 : Int) + (1 : Int) = (↑a' : Int) ∧
  (↑a.l.length : Int) = (↑a.l.length : Int) ∧
  ((0 : Nat) = (0 : Nat) ∧
  a.l.length = a.l.length ∧
  a.cap = a.cap) ∧
  Bool.false = Bool.false ∧
  ((0 : Nat) = (0 : Nat) ∧
  a.l.length = a.l.length ∧
  a.cap = a.cap) ∧
  (a.l.length ≤ a.l.length ∧
  RowsEq a.l.length (1 : Nat) (encRows encI a.l) (encRows encI a.l)) ∧
  (a' ≤ a.l.length ∧
  mayTo a.l a' = Bool.true) ∧
  a.l.length - a' < a.l.length - a_2))))) ∧
  (Decidable.decide ((↑a_2 : Int) < (↑a.l.length : Int)) = Bool.false →
  ∃ (b : Unit), Decidable.decide ((0 : Int) < (↑a.l.length : Int)) = mayN a.l ∧
  True ∧
  True)) (by kernel_rfl) (by
  intro a h
  simp only [Nat.zero_add, Int.toNat_natCast, InR]
  refine ⟨⟨0, ?_⟩, fun i ⟨i1, i2⟩ => ⟨fun c1 => ?_, fun c1 => ⟨(), ?_, trivial, trivial⟩⟩⟩
  · (repeat' apply And.intro) <;> first | rfl | trivial | exact Nat.le_refl _ | omega | (dsimp only; omega) | exact RowsEq.refl _ _ _
  · simp only [decide_eq_true_eq] at c1
    have hi : i < a.l.length := by omega
    have hpre : ((i : Int) - 1).toNat = i - 1 := by omega
    rw [hpre]
    have bad : mayAt a.l i = false → false = mayN a.l := fun e => by unfold mayN; rw [mayTo_false e hi]; rfl
    have good : mayAt a.l i = true → mayTo a.l (i + 1) = true := fun e => by simp only [mayTo, i2, e, Bool.and_self]
    repeat' (first | intro _ | apply And.intro | apply Exists.intro (i + 1 : Nat) | apply Exists.intro ())
    all_goals (try with_reducible rfl)
    all_goals (try exact trivial)
    all_goals (try simp only [decide_eq_true_eq, decide_eq_false_iff_not] at *)
    all_goals (try omega)
    all_goals (try exact RowsEq.refl _ _ _)
    all_goals first
      | exact bad (by simp only [mayAt, Bool.and_eq_false_iff, Bool.or_eq_false_iff, decide_eq_false_iff_not]; omega)
      | exact good (by simp only [mayAt, Bool.and_eq_true, Bool.or_eq_true, decide_eq_true_eq]; omega)
  · simp only [decide_eq_false_iff_not] at c1
    have e : i = a.l.length := by omega
    subst e
    unfold mayN
    rw [i2]
    simp)
theorem callMay : CallsBy (Y Try.prog).G.X 41 cMay := fn_ok okY (tab := []) trivial bodyMay
set_option maxHeartbeats 4000000 in
theorem bodyNodes : fnBody (Y Try.prog) [] 26 cMay fun a => [(26, [iMay 2 3 a], [])] := fnBody.of (p :=
  ∀ (a : NodesA), a.l.length < (100000 : Nat) →
  (∃ (a_2 : Nat), (0 : Int) = (↑a_2 : Int) ∧
  Bool.false = Bool.false ∧
  ((0 : Nat) = (0 : Nat) ∧
  a.l.length = a.l.length ∧
  a.cap = a.cap) ∧
  (a.l.length ≤ a.l.length ∧
  RowsEq a.l.length (1 : Nat) (encRows encI a.l) (encRows encI a.l)) ∧
  (a_2 ≤ a.l.length ∧
  mayTo a.l a_2 = Bool.true) ∧
  True) ∧
  ∀ (a_2 : Nat), a_2 ≤ a.l.length ∧
  mayTo a.l a_2 = Bool.true →
  (Decidable.decide ((↑a_2 : Int) < (↑a.l.length : Int)) = Bool.true →
  ((0 : Int) ≤ (↑a_2 : Int) ∧
  (↑a_2 : Int) < (↑a.l.length : Int)) ∧
  (0 : Nat) + (↑a_2 : Int).toNat < a.l.length ∧
  (InR IntKind.i64 (gl a.l ((0 : Nat) + (↑a_2 : Int).toNat)) →
  (Decidable.decide (gl a.l ((0 : Nat) + (↑a_2 : Int).toNat) < (1 : Int)) = Bool.true →
  ∃ (b : Unit), Bool.false = mayN a.l ∧
  True ∧
  True) ∧
  (Decidable.decide (gl a.l ((0 : Nat) + (↑a_2 : Int).toNat) < (1 : Int)) = Bool.false →
  ((0 : Int) ≤ (↑a_2 : Int) ∧
  (↑a_2 : Int) < (↑a.l.length : Int)) ∧
  (0 : Nat) + (↑a_2 : Int).toNat < a.l.length ∧
  (InR IntKind.i64 (gl a.l ((0 : Nat) + (↑a_2 : Int).toNat)) →
  (Decidable.decide ((5 : Int) < gl a.l ((0 : Nat) + (↑a_2 : Int).toNat)) = Bool.true →
  ∃ (b : Unit), Bool.false = mayN a.l ∧
  True ∧
  True) ∧
  (Decidable.decide ((5 : Int) < gl a.l ((0 : Nat) + (↑a_2 : Int).toNat)) = Bool.false →
  (Decidable.decide ((0 : Int) < (↑a_2 : Int)) = Bool.true →
  ((0 : Int) ≤ (↑a_2 : Int) ∧
  (↑a_2 : Int) < (↑a.l.length : Int)) ∧
  (0 : Nat) + (↑a_2 : Int).toNat < a.l.length ∧
  (InR IntKind.i64 (gl a.l ((0 : Nat) + (↑a_2 : Int).toNat)) →
  InR IntKind.i64 ((↑a_2 : Int) - (1 : Int)) ∧
  ((0 : Int) ≤ (↑a_2 : Int) - (1 : Int) ∧
  (↑a_2 : Int) - (1 : Int) < (↑a.l.length : Int)) ∧
  (0 : Nat) + ((↑a_2 : Int) - (1 : Int)).toNat < a.l.length ∧
  (InR IntKind.i64 (gl a.l ((0 : Nat) + ((↑a_2 : Int) - (1 : Int)).toNat)) →
  (Decidable.decide (gl a.l ((0 : Nat) + (↑a_2 : Int).toNat) ≤ gl a.l ((0 : Nat) + ((↑a_2 : Int) - (1 : Int)).toNat)) = Bool.true →
  ∃ (b : Unit), Bool.false = mayN a.l ∧
  True ∧
  True) ∧
  (Decidable.decide (gl a.l ((0 : Nat) + (↑a_2 : Int).toNat) ≤ gl a.l ((0 : Nat) + ((↑a_2 : Int) - (1 : Int)).toNat)) = Bool.false →
  InR IntKind.i64 ((↑a_2 : Int) + (1 : Int)) ∧
  ∃ (a' : Nat), (↑a_2 : Int) + (1 : Int) = (↑a' : Int) ∧
  Bool.false = Bool.false ∧
  ((0 : Nat) = (0 : Nat) ∧
  a.l.length = a.l.length ∧
  a.cap = a.cap) ∧
  (a.l.length ≤ a.l.length ∧
  RowsEq a.l.length (1 : Nat) (encRows encI a.l) (encRows encI a.l)) ∧
  (a' ≤ a.l.length ∧
  mayTo a.l a' = Bool.true) ∧
  a.l.length - a' < a.l.length - a_2)))) ∧
  (Decidable.decide ((0 : Int) < (↑a_2 : Int)) = Bool.false →
  InR IntKind.i64 ((↑a_2 : Int) + (1 : Int)) ∧
  ∃ (a' : Nat), (↑a_2 : Int) + (1 : Int) = (↑a' : Int) ∧
  Bool.false = Bool.false ∧
  ((0 : Nat) = (0 : Nat) ∧
  a.l.length = a.l.length ∧
  a.cap = a.cap) ∧
  (a.l.length ≤ a.l.length ∧
  RowsEq a.l.length (1 : Nat) (encRows encI a.l) (encRows encI a.l)) ∧
  (a' ≤ a.l.length ∧
  mayTo a.l a' = Bool.true) ∧
  a.l.length - a' < a.l.length - a_2)))))) ∧
  (Decidable.decide ((↑a_2 : Int) < (↑a.l.length : Int)) = Bool.false →
  ∃ (b : Unit), Decidable.decide ((0 : Int) < (↑a.l.length : Int)) = mayN a.l ∧
  True ∧
  True)) (by kernel_rfl) (by
  intro a h
  simp only [Nat.zero_add, Int.toNat_natCast, InR]
  refine ⟨⟨0, ?_⟩, fun i ⟨i1, i2⟩ => ⟨fun c1 => ?_, fun c1 => ⟨(), ?_, trivial, trivial⟩⟩⟩
  · (repeat' apply And.intro) <;> first | rfl | trivial | exact Nat.le_refl _ | omega | (dsimp only; omega) | exact RowsEq.refl _ _ _
  · simp only [decide_eq_true_eq] at c1
    have hi : i < a.l.length := by omega
    have hpre : ((i : Int) - 1).toNat = i - 1 := by omega
    rw [hpre]
    have bad : mayAt a.l i = false → false = mayN a.l := fun e => by unfold mayN; rw [mayTo_false e hi]; rfl
    have good : mayAt a.l i = true → mayTo a.l (i + 1) = true := fun e => by simp only [mayTo, i2, e, Bool.and_self]
    repeat' (first | intro _ | apply And.intro | apply Exists.intro (i + 1 : Nat) | apply Exists.intro ())
    all_goals (try with_reducible rfl)
    all_goals (try exact trivial)
    all_goals (try simp only [decide_eq_true_eq, decide_eq_false_iff_not] at *)
    all_goals (try omega)
    all_goals (try exact RowsEq.refl _ _ _)
    all_goals first
      | exact bad (by simp only [mayAt, Bool.and_eq_false_iff, Bool.or_eq_false_iff, decide_eq_false_iff_not]; omega)
      | exact good (by simp only [mayAt, Bool.and_eq_true, Bool.or_eq_true, decide_eq_true_eq]; omega)
  · simp only [decide_eq_false_iff_not] at c1
    have e : i = a.l.length := by omega
    subst e
    unfold mayN
    rw [i2]
    simp)
theorem callNodes : CallsBy (Y Try.prog).G.X 26 cMay := fn_ok okY (tab := []) trivial bodyNodes
noncomputable def cClone : Con where
  α := NodesA
  β := Nat
  m := 1
  m' := 2
  pre := fun a => a.l.length < 100000
  args := fun a => [.a (.slc 0 0 1 a.l.length a.cap)]
  hp := fun _ => []
  ro := fun a => [(0, .arr 3 [.int .i64] a.l.length (encRows encI a.l))]
  post := fun _ _ => True
  res := fun a cap => .a (.slc 1 0 1 a.l.length cap)
  hp' := fun a _ => [(1, .arr 3 [.int .i64] a.l.length (encRows encI a.l))]
set_option maxHeartbeats 4000000 in
theorem bodyClone : fnBody (Y Try.prog) [] 39 cClone fun _ => [] := fnBody.of (p :=
  ∀ (a : NodesA), a.l.length < (100000 : Nat) →
  ∀ (b : Bool), (b = Bool.true →
  a.l.length = (0 : Nat)) →
  (b = Bool.true →
  ∃ (b : Nat), ((0 : Nat) = a.l.length ∧
  (0 : Nat) = b) ∧
  a.l.length = (0 : Nat) ∧
  True ∧
  True) ∧
  (b = Bool.false →
  (0 : Nat) ≤ (0 : Nat) ∧
  (0 : Nat) + a.l.length ≤ a.l.length ∧
  ((0 : Nat) + a.l.length) * (8 : Nat) ≤ (140737488355328 : Nat) ∧
  ∀ (cap : Nat), (0 : Nat) + a.l.length ≤ cap →
  cap ≤ lenMax →
  ((0 : Nat) + a.l.length ≤ (0 : Nat) →
  cap = (0 : Nat)) →
  ∃ (b : Nat), ((0 : Nat) = (0 : Nat) ∧
  (0 : Nat) + a.l.length = a.l.length ∧
  cap = b) ∧
  (a.l.length ≤ (0 : Nat) + a.l.length ∧
  RowsEq a.l.length (1 : Nat) (appRows (flatRows (1 : Nat) []) (0 : Nat) (0 : Nat) fun (i j : Nat) => encRows encI a.l ((0 : Nat) + i) j) (encRows encI a.l)) ∧
  True ∧
  True)) (by kernel_rfl) (by
  rintro ⟨l, cap⟩ h
  dsimp only at h ⊢
  have hr : RowsEq l.length 1 (appRows (flatRows 1 []) 0 0 fun (i j : Nat) => encRows encI l (0 + i) j) (encRows encI l) := by
    have := RowsEq.app (enc := encI) (n := l.length) (m := 1) (s := 0) (l := []) (q := l) (r0 := flatRows 1 []) (r1 := fun (i j : Nat) => encRows encI l (0 + i) j) (k := 0) rfl .zero (.of_eq (by funext i j; rw [Nat.zero_add]))
    simpa using this
  refine fun b hb => ⟨fun hc => ⟨0, ?_⟩, fun _ => ?_⟩
  · have h0 := hb hc
    ((repeat' apply And.intro) <;> first | with_reducible rfl | omega | (dsimp only; omega) | exact RowsEq.refl _ _ _ | assumption | rfl | trivial | exact Nat.le_refl _ | skip)
  · ((repeat' apply And.intro) <;> first | with_reducible rfl | omega | (dsimp only; omega) | exact RowsEq.refl _ _ _ | assumption | rfl | trivial | exact Nat.le_refl _ | skip)
    refine fun c _ _ _ => ⟨c, ?_⟩
    ((repeat' apply And.intro) <;> first | with_reducible rfl | omega | (dsimp only; omega) | exact RowsEq.refl _ _ _ | assumption | rfl | trivial | exact Nat.le_refl _ | skip))
theorem callClone : CallsBy (Y Try.prog).G.X 39 cClone := fn_ok okY (tab := []) trivial bodyClone
structure EqA where
  l : List Int
  c : Nat
  l2 : List Int
  c2 : Nat
noncomputable def cEqInts : Con where
  α := EqA
  β := Unit
  m := 2
  m' := 2
  pre := fun a => a.l.length < 100000
  args := fun a => [.a (.slc 0 0 1 a.l.length a.c), .a (.slc 1 0 1 a.l2.length a.c2)]
  hp := fun _ => []
  ro := fun a => [(0, .arr 3 [.int .i64] a.l.length (encRows encI a.l)), (1, .arr 3 [.int .i64] a.l2.length (encRows encI a.l2))]
  post := fun _ _ => True
  res := fun a _ => .a (.bool (decide (a.l = a.l2)))
  hp' := fun _ _ => []
def iEqInts (a : EqA) : An := .flat 4 Nat (fun s i => s.int 5 i) (fun _ i => i ≤ a.l.length ∧ a.l.take i = a.l2.take i) (fun _ i => a.l.length - i)
set_option maxHeartbeats 4000000 in
theorem bodyEqInts : fnBody (Y Try.prog) [] 32 cEqInts fun a => [(32, [iEqInts a], [])] := fnBody.of (p :=
  ∀ (a : EqA), a.l.length < (100000 : Nat) →
  (((↑a.l.length : Int) != (↑a.l2.length : Int)) = Bool.true →
  ∃ (b : Unit), Bool.false = Decidable.decide (a.l = a.l2) ∧
  True ∧
  True) ∧
  (((↑a.l.length : Int) != (↑a.l2.length : Int)) = Bool.false →
  (∃ (a_3 : Nat), (0 : Int) = (↑a_3 : Int) ∧
  ((↑a.l.length : Int) != (↑a.l2.length : Int)) = ((↑a.l.length : Int) != (↑a.l2.length : Int)) ∧
  Bool.false = Bool.false ∧
  ((0 : Nat) = (0 : Nat) ∧
  a.l.length = a.l.length ∧
  a.c = a.c) ∧
  ((0 : Nat) = (0 : Nat) ∧
  a.l2.length = a.l2.length ∧
  a.c2 = a.c2) ∧
  (a.l.length ≤ a.l.length ∧
  RowsEq a.l.length (1 : Nat) (encRows encI a.l) (encRows encI a.l)) ∧
  (a.l2.length ≤ a.l2.length ∧
  RowsEq a.l2.length (1 : Nat) (encRows encI a.l2) (encRows encI a.l2)) ∧
  (a_3 ≤ a.l.length ∧
  List.take a_3 a.l = List.take a_3 a.l2) ∧
  True) ∧
  ∀ (a_3 : Nat), a_3 ≤ a.l.length ∧
  List.take a_3 a.l = List.take a_3 a.l2 →
  (Decidable.decide ((↑a_3 : Int) < (↑a.l.length : Int)) = Bool.true →
  ((0 : Int) ≤ (↑a_3 : Int) ∧
  (↑a_3 : Int) < (↑a.l.length : Int)) ∧
  (0 : Nat) + (↑a_3 : Int).toNat < a.l.length ∧
  (InR IntKind.i64 (gl a.l ((0 : Nat) + (↑a_3 : Int).toNat)) →
  ((0 : Int) ≤ (↑a_3 : Int) ∧
  (↑a_3 : Int) < (↑a.l2.length : Int)) ∧
  (0 : Nat) + (↑a_3 : Int).toNat < a.l2.length ∧
  (InR IntKind.i64 (gl a.l2 ((0 : Nat) + (↑a_3 : Int).toNat)) →
  ((gl a.l ((0 : Nat) + (↑a_3 : Int).toNat) != gl a.l2 ((0 : Nat) + (↑a_3 : Int).toNat)) = Bool.true →
  ∃ (b : Unit), Bool.false = Decidable.decide (a.l = a.l2) ∧
  True ∧
  True) ∧
  ((gl a.l ((0 : Nat) + (↑a_3 : Int).toNat) != gl a.l2 ((0 : Nat) + (↑a_3 : Int).toNat)) = Bool.false →
  InR IntKind.i64 ((↑a_3 : Int) + (1 : Int)) ∧
  ∃ (a' : Nat), (↑a_3 : Int) + (1 : Int) = (↑a' : Int) ∧
  ((↑a.l.length : Int) != (↑a.l2.length : Int)) = ((↑a.l.length : Int) != (↑a.l2.length : Int)) ∧
  Bool.false = Bool.false ∧
  ((0 : Nat) = (0 : Nat) ∧
  a.l.length = a.l.length ∧
  a.c = a.c) ∧
  ((0 : Nat) = (0 : Nat) ∧
  a.l2.length = a.l2.length ∧
  a.c2 = a.c2) ∧
  (a.l.length ≤ a.l.length ∧
  RowsEq a.l.length (1 : Nat) (encRows encI a.l) (encRows encI a.l)) ∧
  (a.l2.length ≤ a.l2.length ∧
  RowsEq a.l2.length (1 : Nat) (encRows encI a.l2) (encRows encI a.l2)) ∧
  (a' ≤ a.l.length ∧
  List.take a' a.l = List.take a' a.l2) ∧
  a.l.length - a' < a.l.length - a_3)))) ∧
  (Decidable.decide ((↑a_3 : Int) < (↑a.l.length : Int)) = Bool.false →
  ∃ (b : Unit), Bool.true = Decidable.decide (a.l = a.l2) ∧
  True ∧
  True))) (by kernel_rfl) (by
  rintro ⟨l, c, l2, c2⟩ h
  dsimp only at h ⊢
  simp only [Nat.zero_add, Int.toNat_natCast, InR]
  refine ⟨fun d1 => ⟨(), ?_, trivial, trivial⟩, fun d1 => ⟨⟨0, ?_⟩, fun i ⟨i1, i2⟩ => ⟨fun d2 => ?_, fun d2 => ⟨(), ?_, trivial, trivial⟩⟩⟩⟩
  · simp only [bne_iff_ne] at d1
    have : l ≠ l2 := fun e => d1 (by rw [e])
    simp [this]
  · (repeat' apply And.intro) <;> first | rfl | trivial | exact Nat.le_refl _ | omega | (dsimp only; omega) | exact RowsEq.refl _ _ _ | simp
  · simp only [decide_eq_true_eq] at d2
    have hn : l.length = l2.length := by have : (l.length : Int) = (l2.length : Int) := by simpa using d1
                                         omega
    have hi : i < l.length := by omega
    have hi2 : i < l2.length := by omega
    ((repeat' apply And.intro) <;> first | with_reducible rfl | omega | (dsimp only; omega) | exact RowsEq.refl _ _ _ | assumption | rfl | trivial | exact Nat.le_refl _ | skip)
    intro _
    ((repeat' apply And.intro) <;> first | with_reducible rfl | omega | (dsimp only; omega) | exact RowsEq.refl _ _ _ | assumption | rfl | trivial | exact Nat.le_refl _ | skip)
    refine fun _ => ⟨fun d3 => ⟨(), ?_, trivial, trivial⟩, fun d3 => ⟨by omega, i + 1, ?_⟩⟩
    · simp only [bne_iff_ne] at d3
      have : l ≠ l2 := fun e => d3 (by rw [e])
      simp [this]
    · have d3 : gl l i = gl l2 i := by simpa using d3
      have : l.take (i + 1) = l2.take (i + 1) := by rw [take_succ_gl hi, take_succ_gl hi2, i2, d3]
      ((repeat' apply And.intro) <;> first | with_reducible rfl | omega | (dsimp only; omega) | exact RowsEq.refl _ _ _ | assumption | rfl | trivial | exact Nat.le_refl _ | skip)
  · have hn : l.length = l2.length := by have : (l.length : Int) = (l2.length : Int) := by simpa using d1
                                         omega
    simp only [decide_eq_false_iff_not] at d2
    have hi : i = l.length := by omega
    subst hi
    rw [List.take_length, hn, List.take_length] at i2
    simp [i2])
theorem callEqInts : CallsBy (Y Try.prog).G.X 32 cEqInts := fn_ok okY (tab := []) trivial bodyEqInts

structure ItemA where
  l : List ItemR
  cap : Nat
noncomputable def cCloneItem : Con where
  α := ItemA
  β := Nat
  m := 1
  m' := 2
  pre := fun a => a.l.length < 100000
  args := fun a => [.a (.slc 0 0 4 a.l.length a.cap)]
  hp := fun _ => []
  ro := fun a => [(0, .arr 31 ksItem a.l.length (encRows encItem a.l))]
  post := fun a cap => a.l.length ≤ cap
  res := fun a cap => .a (.slc 1 0 4 a.l.length cap)
  hp' := fun a _ => [(1, .arr 31 ksItem a.l.length (encRows encItem a.l))]
set_option maxHeartbeats 4000000 in
theorem bodyCloneItem : fnBody (Y Try.prog) [] 37 cCloneItem fun _ => [] := fnBody.of (p :=
  ∀ (a : ItemA), a.l.length < (100000 : Nat) →
  ∀ (b : Bool), (b = Bool.true →
  a.l.length = (0 : Nat)) →
  (b = Bool.true →
  ∃ (b : Nat), ((0 : Nat) = a.l.length ∧
  (0 : Nat) = b) ∧
  a.l.length = (0 : Nat) ∧
  a.l.length ≤ b ∧
  True) ∧
  (b = Bool.false →
  (0 : Nat) ≤ (0 : Nat) ∧
  (0 : Nat) + a.l.length ≤ a.l.length ∧
  ((0 : Nat) + a.l.length) * (48 : Nat) ≤ (140737488355328 : Nat) ∧
  ∀ (cap : Nat), (0 : Nat) + a.l.length ≤ cap →
  cap ≤ lenMax →
  ((0 : Nat) + a.l.length ≤ (0 : Nat) →
  cap = (0 : Nat)) →
  ∃ (b : Nat), ((0 : Nat) = (0 : Nat) ∧
  (0 : Nat) + a.l.length = a.l.length ∧
  cap = b) ∧
  (a.l.length ≤ (0 : Nat) + a.l.length ∧
  RowsEq a.l.length (4 : Nat) (appRows (flatRows (4 : Nat) []) (0 : Nat) (0 : Nat) fun (i j : Nat) => encRows encItem a.l ((0 : Nat) + i) j) (encRows encItem a.l)) ∧
  a.l.length ≤ b ∧
  True)) (by kernel_rfl) (by
  rintro ⟨l, cap⟩ h
  dsimp only at h ⊢
  have hr : RowsEq l.length 4 (appRows (flatRows 4 []) 0 0 fun (i j : Nat) => encRows encItem l (0 + i) j) (encRows encItem l) := by
    have := RowsEq.app (enc := encItem) (n := l.length) (m := 4) (s := 0) (l := []) (q := l) (r0 := flatRows 4 []) (r1 := fun (i j : Nat) => encRows encItem l (0 + i) j) (k := 0) rfl .zero (.of_eq (by funext i j; rw [Nat.zero_add]))
    simpa using this
  refine fun b hb => ⟨fun hc => ⟨0, ?_⟩, fun _ => ?_⟩
  · have h0 := hb hc
    ((repeat' apply And.intro) <;> first | with_reducible rfl | omega | (dsimp only; omega) | exact RowsEq.refl _ _ _ | assumption | rfl | trivial | exact Nat.le_refl _ | skip)
  · ((repeat' apply And.intro) <;> first | with_reducible rfl | omega | (dsimp only; omega) | exact RowsEq.refl _ _ _ | assumption | rfl | trivial | exact Nat.le_refl _ | skip)
    refine fun c _ _ _ => ⟨c, ?_⟩
    ((repeat' apply And.intro) <;> first | with_reducible rfl | omega | (dsimp only; omega) | exact RowsEq.refl _ _ _ | assumption | rfl | trivial | exact Nat.le_refl _ | skip))
theorem callCloneItem : CallsBy (Y Try.prog).G.X 37 cCloneItem := fn_ok okY (tab := []) trivial bodyCloneItem
structure EqItemA where
  l : List ItemR
  c1 : Nat
  c2 : Nat
noncomputable def cEqItem : Con where
  α := EqItemA
  β := Unit
  m := 2
  m' := 2
  pre := fun a => a.l.length < 100000
  args := fun a => [.a (.slc 0 0 4 a.l.length a.c1), .a (.slc 1 0 4 a.l.length a.c2)]
  hp := fun _ => []
  ro := fun a => [(0, .arr 31 ksItem a.l.length (encRows encItem a.l)), (1, .arr 31 ksItem a.l.length (encRows encItem a.l))]
  post := fun _ _ => True
  res := fun _ _ => .a .tt
  hp' := fun _ _ => []
def iEqItem (a : EqItemA) : An := .flat 4 Nat (fun s i => s.int 5 i) (fun _ i => i ≤ a.l.length) (fun _ i => a.l.length - i)
set_option maxHeartbeats 4000000 in
theorem bodyEqItem : fnBody (Y Try.prog) [] 30 cEqItem fun a => [(30, [iEqItem a], [])] := fnBody.of (p :=
  ∀ (a : EqItemA), a.l.length < (100000 : Nat) →
  (((↑a.l.length : Int) != (↑a.l.length : Int)) = Bool.true →
  ∃ (b : Unit), Bool.false = Bool.true ∧
  True ∧
  True) ∧
  (((↑a.l.length : Int) != (↑a.l.length : Int)) = Bool.false →
  (∃ (a_3 : Nat), (0 : Int) = (↑a_3 : Int) ∧
  ((↑a.l.length : Int) != (↑a.l.length : Int)) = ((↑a.l.length : Int) != (↑a.l.length : Int)) ∧
  Bool.false = Bool.false ∧
  ((0 : Nat) = (0 : Nat) ∧
  a.l.length = a.l.length ∧
  a.c1 = a.c1) ∧
  ((0 : Nat) = (0 : Nat) ∧
  a.l.length = a.l.length ∧
  a.c2 = a.c2) ∧
  (a.l.length ≤ a.l.length ∧
  RowsEq a.l.length (4 : Nat) (encRows encItem a.l) (encRows encItem a.l)) ∧
  (a.l.length ≤ a.l.length ∧
  RowsEq a.l.length (4 : Nat) (encRows encItem a.l) (encRows encItem a.l)) ∧
  a_3 ≤ a.l.length ∧
  True) ∧
  ∀ (a_3 : Nat), a_3 ≤ a.l.length →
  (Decidable.decide ((↑a_3 : Int) < (↑a.l.length : Int)) = Bool.true →
  ((0 : Int) ≤ (↑a_3 : Int) ∧
  (↑a_3 : Int) < (↑a.l.length : Int)) ∧
  (0 : Nat) + (↑a_3 : Int).toNat < a.l.length ∧
  ((0 : Int) ≤ (↑a_3 : Int) ∧
  (↑a_3 : Int) < (↑a.l.length : Int)) ∧
  (0 : Nat) + (↑a_3 : Int).toNat < a.l.length ∧
  (Decidable.decide ((gl a.l ((0 : Nat) + (↑a_3 : Int).toNat)).key = (gl a.l ((0 : Nat) + (↑a_3 : Int).toNat)).key) = Bool.true →
  (Decidable.decide ((gl a.l ((0 : Nat) + (↑a_3 : Int).toNat)).val = (gl a.l ((0 : Nat) + (↑a_3 : Int).toNat)).val) = Bool.true →
  InR IntKind.i64 (gl a.l ((0 : Nat) + (↑a_3 : Int).toNat)).en →
  InR IntKind.i64 (gl a.l ((0 : Nat) + (↑a_3 : Int).toNat)).en →
  (((gl a.l ((0 : Nat) + (↑a_3 : Int).toNat)).en == (gl a.l ((0 : Nat) + (↑a_3 : Int).toNat)).en) = Bool.true →
  ((!(gl a.l ((0 : Nat) + (↑a_3 : Int).toNat)).gone == (gl a.l ((0 : Nat) + (↑a_3 : Int).toNat)).gone) = Bool.true →
  ∃ (b : Unit), Bool.false = Bool.true ∧
  True ∧
  True) ∧
  ((!(gl a.l ((0 : Nat) + (↑a_3 : Int).toNat)).gone == (gl a.l ((0 : Nat) + (↑a_3 : Int).toNat)).gone) = Bool.false →
  InR IntKind.i64 ((↑a_3 : Int) + (1 : Int)) ∧
  ∃ (a' : Nat), (↑a_3 : Int) + (1 : Int) = (↑a' : Int) ∧
  ((↑a.l.length : Int) != (↑a.l.length : Int)) = ((↑a.l.length : Int) != (↑a.l.length : Int)) ∧
  Bool.false = Bool.false ∧
  ((0 : Nat) = (0 : Nat) ∧
  a.l.length = a.l.length ∧
  a.c1 = a.c1) ∧
  ((0 : Nat) = (0 : Nat) ∧
  a.l.length = a.l.length ∧
  a.c2 = a.c2) ∧
  (a.l.length ≤ a.l.length ∧
  RowsEq a.l.length (4 : Nat) (encRows encItem a.l) (encRows encItem a.l)) ∧
  (a.l.length ≤ a.l.length ∧
  RowsEq a.l.length (4 : Nat) (encRows encItem a.l) (encRows encItem a.l)) ∧
  a' ≤ a.l.length ∧
  a.l.length - a' < a.l.length - a_3)) ∧
  (((gl a.l ((0 : Nat) + (↑a_3 : Int).toNat)).en == (gl a.l ((0 : Nat) + (↑a_3 : Int).toNat)).en) = Bool.false →
  ∃ (b : Unit), Bool.false = Bool.true ∧
  True ∧
  True)) ∧
  (Decidable.decide ((gl a.l ((0 : Nat) + (↑a_3 : Int).toNat)).val = (gl a.l ((0 : Nat) + (↑a_3 : Int).toNat)).val) = Bool.false →
  ∃ (b : Unit), Bool.false = Bool.true ∧
  True ∧
  True)) ∧
  (Decidable.decide ((gl a.l ((0 : Nat) + (↑a_3 : Int).toNat)).key = (gl a.l ((0 : Nat) + (↑a_3 : Int).toNat)).key) = Bool.false →
  ∃ (b : Unit), Bool.false = Bool.true ∧
  True ∧
  True)) ∧
  (Decidable.decide ((↑a_3 : Int) < (↑a.l.length : Int)) = Bool.false →
  ∃ (b : Unit), Bool.true = Bool.true ∧
  True ∧
  True))) (by kernel_rfl) (by
  rintro ⟨l, c1, c2⟩ h
  dsimp only at h ⊢
  simp only [Nat.zero_add, Int.toNat_natCast, InR]
  refine ⟨fun g => (by simp at g), fun _ => ⟨⟨0, ?_⟩, fun i hi => ⟨fun d => ?_, fun _ => ⟨(), trivial, trivial, trivial⟩⟩⟩⟩
  · ((repeat' apply And.intro) <;> first | with_reducible rfl | omega | (dsimp only; omega) | exact RowsEq.refl _ _ _ | assumption | rfl | trivial | exact Nat.le_refl _ | skip)
  · simp only [decide_eq_true_eq] at d
    have hi : i < l.length := by omega
    refine ⟨by omega, hi, by omega, hi, fun _ => ⟨fun _ _ _ => ⟨fun _ => ⟨fun g => (by simp at g), fun _ => ⟨by omega, i + 1, ?_⟩⟩, fun g => (by simp at g)⟩, fun g => (by simp at g)⟩, fun g => (by simp at g)⟩
    ((repeat' apply And.intro) <;> first | with_reducible rfl | omega | (dsimp only; omega) | exact RowsEq.refl _ _ _ | assumption | rfl | trivial | exact Nat.le_refl _ | skip))
theorem callEqItem : CallsBy (Y Try.prog).G.X 30 cEqItem := fn_ok okY (tab := []) trivial bodyEqItem

structure MarkA where
  l : List MarkR
  cap : Nat
noncomputable def cCloneMark : Con where
  α := MarkA
  β := Nat
  m := 1
  m' := 2
  pre := fun a => a.l.length < 100000
  args := fun a => [.a (.slc 0 0 2 a.l.length a.cap)]
  hp := fun _ => []
  ro := fun a => [(0, .arr 56 ksMark a.l.length (encRows encMark a.l))]
  post := fun a cap => a.l.length ≤ cap
  res := fun a cap => .a (.slc 1 0 2 a.l.length cap)
  hp' := fun a _ => [(1, .arr 56 ksMark a.l.length (encRows encMark a.l))]
set_option maxHeartbeats 4000000 in
theorem bodyCloneMark : fnBody (Y Try.prog) [] 38 cCloneMark fun _ => [] := fnBody.of (p :=
  ∀ (a : MarkA), a.l.length < (100000 : Nat) →
  ∀ (b : Bool), (b = Bool.true →
  a.l.length = (0 : Nat)) →
  (b = Bool.true →
  ∃ (b : Nat), ((0 : Nat) = a.l.length ∧
  (0 : Nat) = b) ∧
  a.l.length = (0 : Nat) ∧
  a.l.length ≤ b ∧
  True) ∧
  (b = Bool.false →
  (0 : Nat) ≤ (0 : Nat) ∧
  (0 : Nat) + a.l.length ≤ a.l.length ∧
  ((0 : Nat) + a.l.length) * (24 : Nat) ≤ (140737488355328 : Nat) ∧
  ∀ (cap : Nat), (0 : Nat) + a.l.length ≤ cap →
  cap ≤ lenMax →
  ((0 : Nat) + a.l.length ≤ (0 : Nat) →
  cap = (0 : Nat)) →
  ∃ (b : Nat), ((0 : Nat) = (0 : Nat) ∧
  (0 : Nat) + a.l.length = a.l.length ∧
  cap = b) ∧
  (a.l.length ≤ (0 : Nat) + a.l.length ∧
  RowsEq a.l.length (2 : Nat) (appRows (flatRows (2 : Nat) []) (0 : Nat) (0 : Nat) fun (i j : Nat) => encRows encMark a.l ((0 : Nat) + i) j) (encRows encMark a.l)) ∧
  a.l.length ≤ b ∧
  True)) (by kernel_rfl) (by
  rintro ⟨l, cap⟩ h
  dsimp only at h ⊢
  have hr : RowsEq l.length 2 (appRows (flatRows 2 []) 0 0 fun (i j : Nat) => encRows encMark l (0 + i) j) (encRows encMark l) := by
    have := RowsEq.app (enc := encMark) (n := l.length) (m := 2) (s := 0) (l := []) (q := l) (r0 := flatRows 2 []) (r1 := fun (i j : Nat) => encRows encMark l (0 + i) j) (k := 0) rfl .zero (.of_eq (by funext i j; rw [Nat.zero_add]))
    simpa using this
  refine fun b hb => ⟨fun hc => ⟨0, ?_⟩, fun _ => ?_⟩
  · have h0 := hb hc
    ((repeat' apply And.intro) <;> first | with_reducible rfl | omega | (dsimp only; omega) | exact RowsEq.refl _ _ _ | assumption | rfl | trivial | exact Nat.le_refl _ | skip)
  · ((repeat' apply And.intro) <;> first | with_reducible rfl | omega | (dsimp only; omega) | exact RowsEq.refl _ _ _ | assumption | rfl | trivial | exact Nat.le_refl _ | skip)
    refine fun c _ _ _ => ⟨c, ?_⟩
    ((repeat' apply And.intro) <;> first | with_reducible rfl | omega | (dsimp only; omega) | exact RowsEq.refl _ _ _ | assumption | rfl | trivial | exact Nat.le_refl _ | skip))
theorem callCloneMark : CallsBy (Y Try.prog).G.X 38 cCloneMark := fn_ok okY (tab := []) trivial bodyCloneMark
structure EqMarkA where
  l : List MarkR
  c1 : Nat
  c2 : Nat
noncomputable def cEqMark : Con where
  α := EqMarkA
  β := Unit
  m := 2
  m' := 2
  pre := fun a => a.l.length < 100000
  args := fun a => [.a (.slc 0 0 2 a.l.length a.c1), .a (.slc 1 0 2 a.l.length a.c2)]
  hp := fun _ => []
  ro := fun a => [(0, .arr 56 ksMark a.l.length (encRows encMark a.l)), (1, .arr 56 ksMark a.l.length (encRows encMark a.l))]
  post := fun _ _ => True
  res := fun _ _ => .a .tt
  hp' := fun _ _ => []
def iEqMark (a : EqMarkA) : An := .flat 4 Nat (fun s i => s.int 5 i) (fun _ i => i ≤ a.l.length) (fun _ i => a.l.length - i)
set_option maxHeartbeats 4000000 in
theorem bodyEqMark : fnBody (Y Try.prog) [] 31 cEqMark fun a => [(31, [iEqMark a], [])] := fnBody.of (p :=
  ∀ (a : EqMarkA), a.l.length < (100000 : Nat) →
  (((↑a.l.length : Int) != (↑a.l.length : Int)) = Bool.true →
  ∃ (b : Unit), Bool.false = Bool.true ∧
  True ∧
  True) ∧
  (((↑a.l.length : Int) != (↑a.l.length : Int)) = Bool.false →
  (∃ (a_3 : Nat), (0 : Int) = (↑a_3 : Int) ∧
  ((↑a.l.length : Int) != (↑a.l.length : Int)) = ((↑a.l.length : Int) != (↑a.l.length : Int)) ∧
  Bool.false = Bool.false ∧
  ((0 : Nat) = (0 : Nat) ∧
  a.l.length = a.l.length ∧
  a.c1 = a.c1) ∧
  ((0 : Nat) = (0 : Nat) ∧
  a.l.length = a.l.length ∧
  a.c2 = a.c2) ∧
  (a.l.length ≤ a.l.length ∧
  RowsEq a.l.length (2 : Nat) (encRows encMark a.l) (encRows encMark a.l)) ∧
  (a.l.length ≤ a.l.length ∧
  RowsEq a.l.length (2 : Nat) (encRows encMark a.l) (encRows encMark a.l)) ∧
  a_3 ≤ a.l.length ∧
  True) ∧
  ∀ (a_3 : Nat), a_3 ≤ a.l.length →
  (Decidable.decide ((↑a_3 : Int) < (↑a.l.length : Int)) = Bool.true →
  ((0 : Int) ≤ (↑a_3 : Int) ∧
  (↑a_3 : Int) < (↑a.l.length : Int)) ∧
  (0 : Nat) + (↑a_3 : Int).toNat < a.l.length ∧
  (InR IntKind.i64 (gl a.l ((0 : Nat) + (↑a_3 : Int).toNat)).seq →
  ((0 : Int) ≤ (↑a_3 : Int) ∧
  (↑a_3 : Int) < (↑a.l.length : Int)) ∧
  (0 : Nat) + (↑a_3 : Int).toNat < a.l.length ∧
  (InR IntKind.i64 (gl a.l ((0 : Nat) + (↑a_3 : Int).toNat)).seq →
  (((gl a.l ((0 : Nat) + (↑a_3 : Int).toNat)).seq != (gl a.l ((0 : Nat) + (↑a_3 : Int).toNat)).seq) = Bool.true →
  ∃ (b : Unit), Bool.false = Bool.true ∧
  True ∧
  True) ∧
  (((gl a.l ((0 : Nat) + (↑a_3 : Int).toNat)).seq != (gl a.l ((0 : Nat) + (↑a_3 : Int).toNat)).seq) = Bool.false →
  ((0 : Int) ≤ (↑a_3 : Int) ∧
  (↑a_3 : Int) < (↑a.l.length : Int)) ∧
  (0 : Nat) + (↑a_3 : Int).toNat < a.l.length ∧
  ((0 : Int) ≤ (↑a_3 : Int) ∧
  (↑a_3 : Int) < (↑a.l.length : Int)) ∧
  (0 : Nat) + (↑a_3 : Int).toNat < a.l.length ∧
  ((!Decidable.decide ((gl a.l ((0 : Nat) + (↑a_3 : Int).toNat)).key = (gl a.l ((0 : Nat) + (↑a_3 : Int).toNat)).key)) = Bool.true →
  ∃ (b : Unit), Bool.false = Bool.true ∧
  True ∧
  True) ∧
  ((!Decidable.decide ((gl a.l ((0 : Nat) + (↑a_3 : Int).toNat)).key = (gl a.l ((0 : Nat) + (↑a_3 : Int).toNat)).key)) = Bool.false →
  InR IntKind.i64 ((↑a_3 : Int) + (1 : Int)) ∧
  ∃ (a' : Nat), (↑a_3 : Int) + (1 : Int) = (↑a' : Int) ∧
  ((↑a.l.length : Int) != (↑a.l.length : Int)) = ((↑a.l.length : Int) != (↑a.l.length : Int)) ∧
  Bool.false = Bool.false ∧
  ((0 : Nat) = (0 : Nat) ∧
  a.l.length = a.l.length ∧
  a.c1 = a.c1) ∧
  ((0 : Nat) = (0 : Nat) ∧
  a.l.length = a.l.length ∧
  a.c2 = a.c2) ∧
  (a.l.length ≤ a.l.length ∧
  RowsEq a.l.length (2 : Nat) (encRows encMark a.l) (encRows encMark a.l)) ∧
  (a.l.length ≤ a.l.length ∧
  RowsEq a.l.length (2 : Nat) (encRows encMark a.l) (encRows encMark a.l)) ∧
  a' ≤ a.l.length ∧
  a.l.length - a' < a.l.length - a_3))))) ∧
  (Decidable.decide ((↑a_3 : Int) < (↑a.l.length : Int)) = Bool.false →
  ∃ (b : Unit), Bool.true = Bool.true ∧
  True ∧
  True))) (by kernel_rfl) (by
  rintro ⟨l, c1, c2⟩ h
  dsimp only at h ⊢
  simp only [Nat.zero_add, Int.toNat_natCast, InR]
  refine ⟨fun g => (by simp at g), fun _ => ⟨⟨0, ?_⟩, fun i hi => ⟨fun d => ?_, fun _ => ⟨(), trivial, trivial, trivial⟩⟩⟩⟩
  · ((repeat' apply And.intro) <;> first | with_reducible rfl | omega | (dsimp only; omega) | exact RowsEq.refl _ _ _ | assumption | rfl | trivial | exact Nat.le_refl _ | skip)
  · simp only [decide_eq_true_eq] at d
    have hi : i < l.length := by omega
    refine ⟨by omega, hi, fun _ => ⟨by omega, hi, fun _ => ⟨fun g => (by simp at g), fun _ => ⟨by omega, hi, by omega, hi, fun g => (by simp at g), fun _ => ⟨by omega, i + 1, ?_⟩⟩⟩⟩⟩
    ((repeat' apply And.intro) <;> first | with_reducible rfl | omega | (dsimp only; omega) | exact RowsEq.refl _ _ _ | assumption | rfl | trivial | exact Nat.le_refl _ | skip))
theorem callEqMark : CallsBy (Y Try.prog).G.X 31 cEqMark := fn_ok okY (tab := []) trivial bodyEqMark

/-! ### may -/

def keyB (s : ByteArray) : Bool := decide (1 ≤ s.size) && decide (s.size ≤ 40)
theorem empty_iff (s : ByteArray) : (s = ByteArray.mk #[]) = (s.size = 0) := by
  obtain ⟨d⟩ := s
  simp only [ByteArray.mk.injEq, eq_iff_iff]
  show d = #[] ↔ d.size = 0
  exact ⟨fun h => by rw [h]; rfl, fun h => Array.eq_empty_of_size_eq_zero h⟩
def mayI (x : ItemR) : Bool := keyB x.key && (decide (x.val.size ≤ 200) && (decide (0 ≤ x.en) && (decide (x.en ≤ 1099511627776) && (!x.gone || (decide (x.val.size = 0) && x.en == 0)))))
noncomputable def cKey : Con where
  α := ByteArray
  β := Unit
  m := 0
  m' := 0
  pre := fun _ => True
  args := fun s => [.a (.str s)]
  hp := fun _ => []
  ro := fun _ => []
  post := fun _ _ => True
  res := fun s _ => .a (.bool (keyB s))
  hp' := fun _ _ => []
set_option maxHeartbeats 4000000 in
theorem bodyRKey : fnBody (Y Try.prog) [] 27 cKey fun _ => [] := fnBody.of (p :=
  ∀ (a : ByteArray), True →
  (Decidable.decide ((1 : Int) ≤ (↑a.size : Int)) = Bool.true →
  ∃ (b : Unit), Decidable.decide ((↑a.size : Int) ≤ (40 : Int)) = keyB a ∧
  True ∧
  True) ∧
  (Decidable.decide ((1 : Int) ≤ (↑a.size : Int)) = Bool.false →
  ∃ (b : Unit), Bool.false = keyB a ∧
  True ∧
  True)) (by kernel_rfl) (by
  intro s _
  refine ⟨fun c => ⟨(), ?_, trivial, trivial⟩, fun c => ⟨(), ?_, trivial, trivial⟩⟩
  · simp only [decide_eq_true_eq] at c
    have h1 : 1 ≤ s.size := by omega
    rw [Bool.eq_iff_iff]; simp [keyB, h1]; omega
  · simp only [decide_eq_false_iff_not] at c
    have h1 : ¬ 1 ≤ s.size := by omega
    simp [keyB, h1])
set_option maxHeartbeats 4000000 in
theorem bodyPKey : fnBody (Y Try.prog) [] 40 cKey fun _ => [] := fnBody.of (p :=
  ∀ (a : ByteArray), True →
  ((!Decidable.decide (a = (ByteArray.mk #[]))) = Bool.true →
  ∃ (b : Unit), Decidable.decide ((↑a.size : Int) ≤ (40 : Int)) = keyB a ∧
  True ∧
  True) ∧
  ((!Decidable.decide (a = (ByteArray.mk #[]))) = Bool.false →
  ∃ (b : Unit), Bool.false = keyB a ∧
  True ∧
  True)) (by kernel_rfl) (by
  intro s _
  refine ⟨fun c => ⟨(), ?_, trivial, trivial⟩, fun c => ⟨(), ?_, trivial, trivial⟩⟩
  · have h1 : 1 ≤ s.size := by
      have : s.size ≠ 0 := fun e => by simp [empty_iff, e] at c
      omega
    rw [Bool.eq_iff_iff]; simp [keyB, h1]; omega
  · have h1 : ¬ 1 ≤ s.size := by
      have c' : s.size = 0 := by simpa [empty_iff] using c
      omega
    simp [keyB, h1])
theorem callRKey : CallsBy (Y Try.prog).G.X 27 cKey := fn_ok okY (tab := []) trivial bodyRKey
theorem callPKey : CallsBy (Y Try.prog).G.X 40 cKey := fn_ok okY (tab := []) trivial bodyPKey
noncomputable def cMayI : Con where
  α := ItemR
  β := Unit
  m := 0
  m' := 0
  pre := fun _ => True
  args := fun x => [.agg (atomsI x)]
  hp := fun _ => []
  ro := fun _ => []
  post := fun _ _ => True
  res := fun x _ => .a (.bool (mayI x))
  hp' := fun _ _ => []
set_option maxHeartbeats 4000000 in
theorem bodyRMayI : fnBody (Y Try.prog) [(27, cKey)] 25 cMayI fun _ => [] := fnBody.of (p :=
  ∀ (a : ItemR), True →
  ∃ (a_2 : ByteArray), a.key = a_2 ∧
  True ∧
  ∀ (b : Unit), True →
  (keyB a_2 = Bool.true →
  (Decidable.decide ((↑a.val.size : Int) ≤ (200 : Int)) = Bool.true →
  InR IntKind.i64 a.en →
  (Decidable.decide ((0 : Int) ≤ a.en) = Bool.true →
  InR IntKind.i64 a.en →
  (Decidable.decide (a.en ≤ (1099511627776 : Int)) = Bool.true →
  ((!a.gone) = Bool.true →
  ∃ (b : Unit), Bool.true = mayI a ∧
  True ∧
  True) ∧
  ((!a.gone) = Bool.false →
  (Decidable.decide (a.val = (ByteArray.mk #[])) = Bool.true →
  InR IntKind.i64 a.en →
  ∃ (b : Unit), (a.en == (0 : Int)) = mayI a ∧
  True ∧
  True) ∧
  (Decidable.decide (a.val = (ByteArray.mk #[])) = Bool.false →
  ∃ (b : Unit), Bool.false = mayI a ∧
  True ∧
  True))) ∧
  (Decidable.decide (a.en ≤ (1099511627776 : Int)) = Bool.false →
  ∃ (b : Unit), Bool.false = mayI a ∧
  True ∧
  True)) ∧
  (Decidable.decide ((0 : Int) ≤ a.en) = Bool.false →
  ∃ (b : Unit), Bool.false = mayI a ∧
  True ∧
  True)) ∧
  (Decidable.decide ((↑a.val.size : Int) ≤ (200 : Int)) = Bool.false →
  ∃ (b : Unit), Bool.false = mayI a ∧
  True ∧
  True)) ∧
  (keyB a_2 = Bool.false →
  ∃ (b : Unit), Bool.false = mayI a ∧
  True ∧
  True)) (by kernel_rfl) (by
  intro x _
  refine ⟨x.key, rfl, trivial, fun _ _ => ?_⟩
  simp only [empty_iff]
  rw [mayI]
  (repeat' first | intro _ | apply And.intro | apply Exists.intro ())
  all_goals first | trivial | skip
  all_goals simp_all
  all_goals grind)
set_option maxHeartbeats 4000000 in
theorem bodyPMayI : fnBody (Y Try.prog) [(40, cKey)] 35 cMayI fun _ => [] := fnBody.of (p :=
  ∀ (a : ItemR), True →
  ∃ (a_2 : ByteArray), a.key = a_2 ∧
  True ∧
  ∀ (b : Unit), True →
  ((!keyB a_2) = Bool.true →
  ∃ (b : Unit), Bool.false = mayI a ∧
  True ∧
  True) ∧
  ((!keyB a_2) = Bool.false →
  (Decidable.decide ((200 : Int) < (↑a.val.size : Int)) = Bool.true →
  ∃ (b : Unit), Bool.false = mayI a ∧
  True ∧
  True) ∧
  (Decidable.decide ((200 : Int) < (↑a.val.size : Int)) = Bool.false →
  InR IntKind.i64 a.en →
  (Decidable.decide (a.en < (0 : Int)) = Bool.true →
  ∃ (b : Unit), Bool.false = mayI a ∧
  True ∧
  True) ∧
  (Decidable.decide (a.en < (0 : Int)) = Bool.false →
  InR IntKind.i64 a.en →
  (Decidable.decide ((1099511627776 : Int) < a.en) = Bool.true →
  ∃ (b : Unit), Bool.false = mayI a ∧
  True ∧
  True) ∧
  (Decidable.decide ((1099511627776 : Int) < a.en) = Bool.false →
  ((!a.gone) = Bool.true →
  ∃ (b : Unit), Bool.true = mayI a ∧
  True ∧
  True) ∧
  ((!a.gone) = Bool.false →
  (Decidable.decide (a.val = (ByteArray.mk #[])) = Bool.true →
  InR IntKind.i64 a.en →
  ∃ (b : Unit), (a.en == (0 : Int)) = mayI a ∧
  True ∧
  True) ∧
  (Decidable.decide (a.val = (ByteArray.mk #[])) = Bool.false →
  ∃ (b : Unit), Bool.false = mayI a ∧
  True ∧
  True))))))) (by kernel_rfl) (by
  intro x _
  refine ⟨x.key, rfl, trivial, fun _ _ => ?_⟩
  simp only [empty_iff]
  rw [mayI]
  (repeat' first | intro _ | apply And.intro | apply Exists.intro ())
  all_goals first | trivial | skip
  all_goals simp_all
  all_goals grind)
theorem callRMayI : CallsBy (Y Try.prog).G.X 25 cMayI := fn_ok okY (tab := [(27, cKey)]) ⟨callRKey, trivial⟩ bodyRMayI
theorem callPMayI : CallsBy (Y Try.prog).G.X 35 cMayI := fn_ok okY (tab := [(40, cKey)]) ⟨callPKey, trivial⟩ bodyPMayI

/-! ### cut -/

def cutI (x : ItemR) : ItemR := ⟨cutB x.key 50, cutB x.val 210, x.en, x.gone⟩
def cutIL (l : List ItemR) (n : Nat) : List ItemR := (l.take n).map cutI
theorem cutIL_succ {l : List ItemR} {i : Nat} (h : i < l.length) : cutIL l (i + 1) = cutIL l i ++ [cutI (gl l i)] := by
  unfold cutIL
  rw [take_succ_gl h, List.map_append]; rfl
structure ItemsA where
  l : List ItemR
  cap : Nat
  n : Nat
noncomputable def cItems : Con where
  α := ItemsA
  β := Nat
  m := 1
  m' := 2
  pre := fun a => a.n ≤ 1000
  args := fun a => [.a (.slc 0 0 4 a.l.length a.cap), .a (.int .i64 a.n)]
  hp := fun _ => []
  ro := fun a => [(0, .arr 31 ksItem a.l.length (encRows encItem a.l))]
  post := fun a cap => (cutIL a.l a.n).length ≤ cap
  res := fun a cap => .a (.slc 1 0 4 (cutIL a.l a.n).length cap)
  hp' := fun a _ => [(1, .arr 31 ksItem (cutIL a.l a.n).length (encRows encItem (cutIL a.l a.n)))]
def iItems (a : ItemsA) : An := .flat 3 (Nat × Nat) (fun s x => ((s.new (.arr 31 ksItem (cutIL a.l x.1).length (encRows encItem (cutIL a.l x.1)))).set 5 (.a (.slc s.nx 0 4 (cutIL a.l x.1).length x.2))).int 6 x.1) (fun _ x => x.1 ≤ a.n ∧ x.1 ≤ a.l.length ∧ (cutIL a.l x.1).length ≤ x.2) (fun _ x => a.n - x.1)
set_option maxHeartbeats 4000000 in
theorem bodyItems : fnBody (Y Try.prog) [(20, cCut)] 22 cItems fun a => [(22, [iItems a], [])] := fnBody.of (p :=
  ∀ (a : ItemsA), a.n ≤ (1000 : Nat) →
  (∃ (a_2 : Nat × Nat), (0 : Int) = (↑a_2.fst : Int) ∧
  ((0 : Nat) = (cutIL a.l a_2.fst).length ∧
  (0 : Nat) = a_2.snd) ∧
  ((0 : Nat) = (0 : Nat) ∧
  a.l.length = a.l.length ∧
  a.cap = a.cap) ∧
  (↑a.n : Int) = (↑a.n : Int) ∧
  (cutIL a.l a_2.fst).length = (0 : Nat) ∧
  (a.l.length ≤ a.l.length ∧
  RowsEq a.l.length (4 : Nat) (encRows encItem a.l) (encRows encItem a.l)) ∧
  (a_2.fst ≤ a.n ∧
  a_2.fst ≤ a.l.length ∧
  (cutIL a.l a_2.fst).length ≤ a_2.snd) ∧
  True) ∧
  ∀ (a_2 : Nat × Nat), a_2.fst ≤ a.n ∧
  a_2.fst ≤ a.l.length ∧
  (cutIL a.l a_2.fst).length ≤ a_2.snd →
  (Decidable.decide ((↑a_2.fst : Int) < (↑a.l.length : Int)) = Bool.true →
  (Decidable.decide ((↑a_2.fst : Int) < (↑a.n : Int)) = Bool.true →
  ((0 : Int) ≤ (↑a_2.fst : Int) ∧
  (↑a_2.fst : Int) < (↑a.l.length : Int)) ∧
  (0 : Nat) + (↑a_2.fst : Int).toNat < a.l.length ∧
  ∃ (a_6 : ByteArray × Int), (gl a.l ((0 : Nat) + (↑a_2.fst : Int).toNat)).key = a_6.fst ∧
  (50 : Int) = a_6.snd ∧
  (0 : Int) ≤ a_6.snd ∧
  ∀ (b : Unit), True →
  ∃ (a_8 : ByteArray × Int), (gl a.l ((0 : Nat) + (↑a_2.fst : Int).toNat)).val = a_8.fst ∧
  (210 : Int) = a_8.snd ∧
  (0 : Int) ≤ a_8.snd ∧
  ∀ (b : Unit), True →
  (0 : Nat) + (cutIL a.l a_2.fst).length ≤ (cutIL a.l a_2.fst).length ∧
  (1 : Nat) ≤ (1 : Nat) ∧
  ((cutIL a.l a_2.fst).length + (1 : Nat)) * (48 : Nat) ≤ (140737488355328 : Nat) ∧
  ∀ (cap : Nat), (cutIL a.l a_2.fst).length + (1 : Nat) ≤ cap →
  cap ≤ lenMax →
  ((cutIL a.l a_2.fst).length + (1 : Nat) ≤ a_2.snd →
  cap = a_2.snd) →
  InR IntKind.i64 ((↑a_2.fst : Int) + (1 : Int)) ∧
  ∃ (a' : Nat × Nat), (↑a_2.fst : Int) + (1 : Int) = (↑a'.fst : Int) ∧
  ((0 : Nat) = (0 : Nat) ∧
  (cutIL a.l a_2.fst).length + (1 : Nat) = (cutIL a.l a'.fst).length ∧
  cap = a'.snd) ∧
  ((0 : Nat) = (0 : Nat) ∧
  a.l.length = a.l.length ∧
  a.cap = a.cap) ∧
  (↑a.n : Int) = (↑a.n : Int) ∧
  ((cutIL a.l a'.fst).length ≤ (cutIL a.l a_2.fst).length + (1 : Nat) ∧
  RowsEq (cutIL a.l a'.fst).length (4 : Nat) (appRows (encRows encItem (cutIL a.l a_2.fst)) (0 : Nat) (cutIL a.l a_2.fst).length fun (i j : Nat) => flatRows (4 : Nat) [Value.string (cutB a_6.fst a_6.snd), Value.string (cutB a_8.fst a_8.snd), Value.int IntKind.i64 (gl a.l ((0 : Nat) + (↑a_2.fst : Int).toNat)).en, Value.bool (gl a.l ((0 : Nat) + (↑a_2.fst : Int).toNat)).gone] ((0 : Nat) + i) j) (encRows encItem (cutIL a.l a'.fst))) ∧
  (a.l.length ≤ a.l.length ∧
  RowsEq a.l.length (4 : Nat) (encRows encItem a.l) (encRows encItem a.l)) ∧
  (a'.fst ≤ a.n ∧
  a'.fst ≤ a.l.length ∧
  (cutIL a.l a'.fst).length ≤ a'.snd) ∧
  a.n - a'.fst < a.n - a_2.fst) ∧
  (Decidable.decide ((↑a_2.fst : Int) < (↑a.n : Int)) = Bool.false →
  ∃ (b : Nat), ((0 : Nat) = (0 : Nat) ∧
  (cutIL a.l a_2.fst).length = (cutIL a.l a.n).length ∧
  a_2.snd = b) ∧
  ((cutIL a.l a.n).length ≤ (cutIL a.l a_2.fst).length ∧
  RowsEq (cutIL a.l a.n).length (4 : Nat) (encRows encItem (cutIL a.l a_2.fst)) (encRows encItem (cutIL a.l a.n))) ∧
  (cutIL a.l a.n).length ≤ b ∧
  True)) ∧
  (Decidable.decide ((↑a_2.fst : Int) < (↑a.l.length : Int)) = Bool.false →
  ∃ (b : Nat), ((0 : Nat) = (0 : Nat) ∧
  (cutIL a.l a_2.fst).length = (cutIL a.l a.n).length ∧
  a_2.snd = b) ∧
  ((cutIL a.l a.n).length ≤ (cutIL a.l a_2.fst).length ∧
  RowsEq (cutIL a.l a.n).length (4 : Nat) (encRows encItem (cutIL a.l a_2.fst)) (encRows encItem (cutIL a.l a.n))) ∧
  (cutIL a.l a.n).length ≤ b ∧
  True)) (by kernel_rfl) (by
  rintro ⟨l, cap, n⟩ h
  dsimp only at h ⊢
  simp only [Nat.zero_add, Int.toNat_natCast, InR]
  refine ⟨⟨(0, 0), ?_⟩, fun x hx => ⟨fun c => ⟨fun d => ?_, fun d => ?_⟩, fun c => ?_⟩⟩
  · have h0 : (cutIL l 0).length = 0 := by simp [cutIL]
    ((repeat' apply And.intro) <;> first | with_reducible rfl | omega | (dsimp only; omega) | exact RowsEq.refl _ _ _ | assumption | rfl | trivial | exact Nat.le_refl _ | skip)
  · obtain ⟨i, k⟩ := x
    simp only [decide_eq_true_eq] at c d hx ⊢
    obtain ⟨x1, x2, x3⟩ := hx
    have hi : i < l.length := by omega
    have hl : (cutIL l i).length = i := by simp [cutIL]; omega
    have e := cutIL_succ hi
    refine ⟨by omega, hi, ((gl l i).key, 50), ?_⟩
    ((repeat' apply And.intro) <;> first | with_reducible rfl | omega | (dsimp only; omega) | exact RowsEq.refl _ _ _ | assumption | rfl | trivial | exact Nat.le_refl _ | skip)
    refine fun _ _ => ⟨((gl l i).val, 210), ?_⟩
    ((repeat' apply And.intro) <;> first | with_reducible rfl | omega | (dsimp only; omega) | exact RowsEq.refl _ _ _ | assumption | rfl | trivial | exact Nat.le_refl _ | skip)
    refine fun _ _ => ?_
    ((repeat' apply And.intro) <;> first | with_reducible rfl | omega | (dsimp only; omega) | exact RowsEq.refl _ _ _ | assumption | rfl | trivial | exact Nat.le_refl _ | skip)
    refine fun c' g1 g2 g3 => ⟨by omega, (i + 1, c'), ?_⟩
    dsimp only
    rw [e]
    ((repeat' apply And.intro) <;> first | with_reducible rfl | omega | (dsimp only; omega) | exact RowsEq.refl _ _ _ | assumption | rfl | trivial | exact Nat.le_refl _ | skip)
    · simp
    · simp
    · exact .push rfl (by simp) rfl
    · simpa using g1
  · obtain ⟨i, k⟩ := x
    simp only [decide_eq_false_iff_not] at c d hx ⊢
    obtain ⟨x1, x2, x3⟩ := hx
    have hi : i = n := by omega
    subst hi
    refine ⟨k, ?_⟩
    ((repeat' apply And.intro) <;> first | with_reducible rfl | omega | (dsimp only; omega) | exact RowsEq.refl _ _ _ | assumption | rfl | trivial | exact Nat.le_refl _ | skip)
  · obtain ⟨i, k⟩ := x
    simp only [decide_eq_false_iff_not] at c hx ⊢
    obtain ⟨x1, x2, x3⟩ := hx
    have hi : i = l.length := by omega
    subst hi
    have e : cutIL l n = cutIL l l.length := by unfold cutIL; rw [List.take_length, List.take_of_length_le (by omega)]
    rw [e]
    refine ⟨k, ?_⟩
    ((repeat' apply And.intro) <;> first | with_reducible rfl | omega | (dsimp only; omega) | exact RowsEq.refl _ _ _ | assumption | rfl | trivial | exact Nat.le_refl _ | skip))
theorem callItems : CallsBy (Y Try.prog).G.X 22 cItems := fn_ok okY (tab := [(20, cCut)]) ⟨callCut, trivial⟩ bodyItems
end Go.Proofs.Ythgnaehfepcblaa
