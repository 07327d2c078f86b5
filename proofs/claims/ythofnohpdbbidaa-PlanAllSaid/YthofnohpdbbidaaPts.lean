/-
  The layer points: which nodes may be, what points they have, in order. No condition but that lists are short.
-/
import Derived.Test.YthofnohpdbbidaaStir
import Derived.Test.YthofnohpdbbidaaPc
import Derived.Test.YthofnohpdbbidaaSxSf
namespace Go.Proofs.Ythofnohpdbbidaa
open Go.Sx
set_option maxRecDepth 100000
set_option linter.unusedVariables false

def encI (p : Int) : List Value := [.int .i64 p]
def mayAt (l : List Int) (i : Nat) : Bool := decide (1 ≤ gl l i) && decide (gl l i ≤ 5) && (decide (i = 0) || decide (gl l (i - 1) < gl l i))
def mayTo (l : List Int) : Nat → Bool
  | 0 => true
  | i + 1 => mayTo l i && mayAt l i
def mayN (l : List Int) : Bool := mayTo l l.length && decide (0 < l.length)
theorem mayTo_at {l : List Int} : ∀ {i j : Nat}, mayTo l i = true → j < i → mayAt l j = true
  | i + 1, j, h, hj => by
    simp only [mayTo, Bool.and_eq_true] at h
    by_cases e : j = i
    · subst e; exact h.2
    · exact mayTo_at h.1 (by omega)
theorem mayTo_false {l : List Int} {j : Nat} (h : mayAt l j = false) : ∀ {i : Nat}, j < i → mayTo l i = false
  | i + 1, hj => by
    simp only [mayTo, Bool.and_eq_false_iff]
    by_cases e : j = i
    · subst e; exact .inr h
    · exact .inl (mayTo_false h (by omega))
theorem mayN_at {l : List Int} (h : mayN l = true) {j : Nat} (hj : j < l.length) : 1 ≤ gl l j ∧ gl l j ≤ 5 ∧ (j = 0 ∨ gl l (j - 1) < gl l j) := by
  simp only [mayN, Bool.and_eq_true] at h
  have := mayTo_at h.1 hj
  simpa [mayAt, and_assoc] using this
theorem mayN_pos {l : List Int} (h : mayN l = true) : 0 < l.length := by
  simp only [mayN, Bool.and_eq_true, decide_eq_true_eq] at h; exact h.2
theorem mayN_grows {l : List Int} (h : mayN l = true) : ∀ j, j < l.length → (j : Int) + 1 ≤ gl l j
  | 0, hj => by have := mayN_at h hj; omega
  | j + 1, hj => by
    have h1 := mayN_grows h j (by omega)
    have h2 := mayN_at h hj
    simp at h2
    omega
theorem mayN_len {l : List Int} (h : mayN l = true) : l.length ≤ 5 := by
  have h0 := mayN_pos h
  have h1 := mayN_grows h (l.length - 1) (by omega)
  have h2 := mayN_at h (show l.length - 1 < l.length by omega)
  omega

structure NodesA where
  l : List Int
  cap : Nat
noncomputable def cMay : Con where
  α := NodesA
  β := Unit
  m := 1
  m' := 1
  pre := fun a => a.l.length < 100000
  args := fun a => [.a (.slc 0 0 1 a.l.length a.cap)]
  hp := fun _ => []
  ro := fun a => [(0, .arr 3 [.int .i64] a.l.length (encRows encI a.l))]
  post := fun _ _ => True
  res := fun a _ => .a (.bool (mayN a.l))
  hp' := fun _ _ => []
def iMay (k slot : Nat) (a : NodesA) : An := .flat k Nat (fun s i => s.int slot i) (fun _ i => i ≤ a.l.length ∧ mayTo a.l i = true) (fun _ i => a.l.length - i)
set_option maxHeartbeats 4000000 in
theorem bodyMay : fnBody (Y Try.prog) [] 25 cMay fun a => [(25, [iMay 2 7 a], [])] := fnBody.of (p :=
  ∀ (a : NodesA), a.l.length < (100000 : Nat) →
  (∃ (a_2 : Nat), (0 : Int) = (↑a_2 : Int) ∧
  (↑a.l.length : Int) = (↑a.l.length : Int) ∧
  ((0 : Nat) = (0 : Nat) ∧
  a.l.length = a.l.length ∧
  a.cap = a.cap) ∧
  Bool.false = Bool.false ∧
  ((0 : Nat) = (0 : Nat) ∧
  a.l.length = a.l.length ∧
  a.cap = a.cap) ∧
  (a.l.length ≤ a.l.length ∧
  RowsEq a.l.length (1 : Nat) (encRows encI a.l) (encRows encI a.l)) ∧
  (a_2 ≤ a.l.length ∧
  mayTo a.l a_2 = Bool.true) ∧
  True) ∧
  ∀ (a_2 : Nat), a_2 ≤ a.l.length ∧
  mayTo a.l a_2 = Bool.true →
  (Decidable.decide ((↑a_2 : Int) < (↑a.l.length : Int)) = Bool.true →
  ((0 : Int) ≤ (↑a_2 : Int) ∧
  (↑a_2 : Int) < (↑a.l.length : Int)) ∧
  (0 : Nat) + (↑a_2 : Int).toNat < a.l.length ∧
  (InR IntKind.i64 (gl a.l ((0 : Nat) + (↑a_2 : Int).toNat)) →
  (Decidable.decide (gl a.l ((0 : Nat) + (↑a_2 : Int).toNat) < (1 : Int)) = Bool.true →
  ∃ (b : Unit), Bool.false = mayN a.l ∧
  True ∧
  True) ∧
  (Decidable.decide (gl a.l ((0 : Nat) + (↑a_2 : Int).toNat) < (1 : Int)) = Bool.false →
  (Decidable.decide ((5 : Int) < gl a.l ((0 : Nat) + (↑a_2 : Int).toNat)) = Bool.true →
  ∃ (b : Unit), Bool.false = mayN a.l ∧
  True ∧
  True) ∧
  (Decidable.decide ((5 : Int) < gl a.l ((0 : Nat) + (↑a_2 : Int).toNat)) = Bool.false →
  (Decidable.decide ((0 : Int) < (↑a_2 : Int)) = Bool.true →
  InR IntKind.i64 ((↑a_2 : Int) - (1 : Int)) ∧
  ((0 : Int) ≤ (↑a_2 : Int) - (1 : Int) ∧
  (↑a_2 : Int) - (1 : Int) < (↑a.l.length : Int)) ∧
  (0 : Nat) + ((↑a_2 : Int) - (1 : Int)).toNat < a.l.length ∧
  (InR IntKind.i64 (gl a.l ((0 : Nat) + ((↑a_2 : Int) - (1 : Int)).toNat)) →
  (Decidable.decide (gl a.l ((0 : Nat) + (↑a_2 : Int).toNat) ≤ gl a.l ((0 : Nat) + ((↑a_2 : Int) - (1 : Int)).toNat)) = Bool.true →
  ∃ (b : Unit), Bool.false = mayN a.l ∧
  True ∧
  True) ∧
  (Decidable.decide (gl a.l ((0 : Nat) + (↑a_2 : Int).toNat) ≤ gl a.l ((0 : Nat) + ((↑a_2 : Int) - (1 : Int)).toNat)) = Bool.false →
  InR IntKind.i64 ((↑a_2 : Int) + (1 : Int)) ∧
  ∃ (a' : Nat), (↑a_2 : Int) + (1 : Int) = (↑a' : Int) ∧
  (↑a.l.length : Int) = (↑a.l.length : Int) ∧
  ((0 : Nat) = (0 : Nat) ∧
  a.l.length = a.l.length ∧
  a.cap = a.cap) ∧
  Bool.false = Bool.false ∧
  ((0 : Nat) = (0 : Nat) ∧
  a.l.length = a.l.length ∧
  a.cap = a.cap) ∧
  (a.l.length ≤ a.l.length ∧
  RowsEq a.l.length (1 : Nat) (encRows encI a.l) (encRows encI a.l)) ∧
  (a' ≤ a.l.length ∧
  mayTo a.l a' = Bool.true) ∧
  a.l.length - a' < a.l.length - a_2))) ∧
  (Decidable.decide ((0 : Int) < (↑a_2 : Int)) = Bool.false →
  InR IntKind.i64 ((↑a_2 : Int) + (1 : Int)) ∧
  ∃ (a' : Nat), (↑a_2 : Int) + (1 : Int) = (↑a' : Int) ∧
  (↑a.l.length : Int) = (↑a.l.length : Int) ∧
  ((0 : Nat) = (0 : Nat) ∧
  a.l.length = a.l.length ∧
  a.cap = a.cap) ∧
  Bool.false = Bool.false ∧
  ((0 : Nat) = (0 : Nat) ∧
  a.l.length = a.l.length ∧
  a.cap = a.cap) ∧
  (a.l.length ≤ a.l.length ∧
  RowsEq a.l.length (1 : Nat) (encRows encI a.l) (encRows encI a.l)) ∧
  (a' ≤ a.l.length ∧
  mayTo a.l a' = Bool.true) ∧
  a.l.length - a' < a.l.length - a_2))))) ∧
  (Decidable.decide ((↑a_2 : Int) < (↑a.l.length : Int)) = Bool.false →
  ∃ (b : Unit), Decidable.decide ((0 : Int) < (↑a.l.length : Int)) = mayN a.l ∧
  True ∧
  True)) (by kernel_rfl) (by
  intro a h
  simp only [Nat.zero_add, Int.toNat_natCast, InR]
  refine ⟨⟨0, ?_⟩, fun i ⟨i1, i2⟩ => ⟨fun c1 => ?_, fun c1 => ⟨(), ?_, trivial, trivial⟩⟩⟩
  · (repeat' apply And.intro) <;> first | rfl | trivial | exact Nat.le_refl _ | omega | (dsimp only; omega) | exact RowsEq.refl _ _ _
  · simp only [decide_eq_true_eq] at c1
    have hi : i < a.l.length := by omega
    have hpre : ((i : Int) - 1).toNat = i - 1 := by omega
    rw [hpre]
    have bad : mayAt a.l i = false → false = mayN a.l := fun e => by unfold mayN; rw [mayTo_false e hi]; rfl
    have good : mayAt a.l i = true → mayTo a.l (i + 1) = true := fun e => by simp only [mayTo, i2, e, Bool.and_self]
    repeat' (first | intro _ | apply And.intro | apply Exists.intro (i + 1 : Nat) | apply Exists.intro ())
    all_goals (try with_reducible rfl)
    all_goals (try exact trivial)
    all_goals (try simp only [decide_eq_true_eq, decide_eq_false_iff_not] at *)
    all_goals (try omega)
    all_goals (try exact RowsEq.refl _ _ _)
    all_goals first
      | exact bad (by simp only [mayAt, Bool.and_eq_false_iff, Bool.or_eq_false_iff, decide_eq_false_iff_not]; omega)
      | exact good (by simp only [mayAt, Bool.and_eq_true, Bool.or_eq_true, decide_eq_true_eq]; omega)
  · simp only [decide_eq_false_iff_not] at c1
    have e : i = a.l.length := by omega
    subst e
    unfold mayN
    rw [i2]
    simp)
theorem callMay : CallsBy (Y Try.prog).G.X 25 cMay := fn_ok okY (tab := []) trivial bodyMay
set_option maxHeartbeats 4000000 in
theorem bodyNodes : fnBody (Y Try.prog) [] 28 cMay fun a => [(28, [iMay 2 3 a], [])] := fnBody.of (p :=
  ∀ (a : NodesA), a.l.length < (100000 : Nat) →
  (∃ (a_2 : Nat), (0 : Int) = (↑a_2 : Int) ∧
  Bool.false = Bool.false ∧
  ((0 : Nat) = (0 : Nat) ∧
  a.l.length = a.l.length ∧
  a.cap = a.cap) ∧
  (a.l.length ≤ a.l.length ∧
  RowsEq a.l.length (1 : Nat) (encRows encI a.l) (encRows encI a.l)) ∧
  (a_2 ≤ a.l.length ∧
  mayTo a.l a_2 = Bool.true) ∧
  True) ∧
  ∀ (a_2 : Nat), a_2 ≤ a.l.length ∧
  mayTo a.l a_2 = Bool.true →
  (Decidable.decide ((↑a_2 : Int) < (↑a.l.length : Int)) = Bool.true →
  ((0 : Int) ≤ (↑a_2 : Int) ∧
  (↑a_2 : Int) < (↑a.l.length : Int)) ∧
  (0 : Nat) + (↑a_2 : Int).toNat < a.l.length ∧
  (InR IntKind.i64 (gl a.l ((0 : Nat) + (↑a_2 : Int).toNat)) →
  (Decidable.decide (gl a.l ((0 : Nat) + (↑a_2 : Int).toNat) < (1 : Int)) = Bool.true →
  ∃ (b : Unit), Bool.false = mayN a.l ∧
  True ∧
  True) ∧
  (Decidable.decide (gl a.l ((0 : Nat) + (↑a_2 : Int).toNat) < (1 : Int)) = Bool.false →
  ((0 : Int) ≤ (↑a_2 : Int) ∧
  (↑a_2 : Int) < (↑a.l.length : Int)) ∧
  (0 : Nat) + (↑a_2 : Int).toNat < a.l.length ∧
  (InR IntKind.i64 (gl a.l ((0 : Nat) + (↑a_2 : Int).toNat)) →
  (Decidable.decide ((5 : Int) < gl a.l ((0 : Nat) + (↑a_2 : Int).toNat)) = Bool.true →
  ∃ (b : Unit), Bool.false = mayN a.l ∧
  True ∧
  True) ∧
  (Decidable.decide ((5 : Int) < gl a.l ((0 : Nat) + (↑a_2 : Int).toNat)) = Bool.false →
  (Decidable.decide ((0 : Int) < (↑a_2 : Int)) = Bool.true →
  ((0 : Int) ≤ (↑a_2 : Int) ∧
  (↑a_2 : Int) < (↑a.l.length : Int)) ∧
  (0 : Nat) + (↑a_2 : Int).toNat < a.l.length ∧
  (InR IntKind.i64 (gl a.l ((0 : Nat) + (↑a_2 : Int).toNat)) →
  InR IntKind.i64 ((↑a_2 : Int) - (1 : Int)) ∧
  ((0 : Int) ≤ (↑a_2 : Int) - (1 : Int) ∧
  (↑a_2 : Int) - (1 : Int) < (↑a.l.length : Int)) ∧
  (0 : Nat) + ((↑a_2 : Int) - (1 : Int)).toNat < a.l.length ∧
  (InR IntKind.i64 (gl a.l ((0 : Nat) + ((↑a_2 : Int) - (1 : Int)).toNat)) →
  (Decidable.decide (gl a.l ((0 : Nat) + (↑a_2 : Int).toNat) ≤ gl a.l ((0 : Nat) + ((↑a_2 : Int) - (1 : Int)).toNat)) = Bool.true →
  ∃ (b : Unit), Bool.false = mayN a.l ∧
  True ∧
  True) ∧
  (Decidable.decide (gl a.l ((0 : Nat) + (↑a_2 : Int).toNat) ≤ gl a.l ((0 : Nat) + ((↑a_2 : Int) - (1 : Int)).toNat)) = Bool.false →
  InR IntKind.i64 ((↑a_2 : Int) + (1 : Int)) ∧
  ∃ (a' : Nat), (↑a_2 : Int) + (1 : Int) = (↑a' : Int) ∧
  Bool.false = Bool.false ∧
  ((0 : Nat) = (0 : Nat) ∧
  a.l.length = a.l.length ∧
  a.cap = a.cap) ∧
  (a.l.length ≤ a.l.length ∧
  RowsEq a.l.length (1 : Nat) (encRows encI a.l) (encRows encI a.l)) ∧
  (a' ≤ a.l.length ∧
  mayTo a.l a' = Bool.true) ∧
  a.l.length - a' < a.l.length - a_2)))) ∧
  (Decidable.decide ((0 : Int) < (↑a_2 : Int)) = Bool.false →
  InR IntKind.i64 ((↑a_2 : Int) + (1 : Int)) ∧
  ∃ (a' : Nat), (↑a_2 : Int) + (1 : Int) = (↑a' : Int) ∧
  Bool.false = Bool.false ∧
  ((0 : Nat) = (0 : Nat) ∧
  a.l.length = a.l.length ∧
  a.cap = a.cap) ∧
  (a.l.length ≤ a.l.length ∧
  RowsEq a.l.length (1 : Nat) (encRows encI a.l) (encRows encI a.l)) ∧
  (a' ≤ a.l.length ∧
  mayTo a.l a' = Bool.true) ∧
  a.l.length - a' < a.l.length - a_2)))))) ∧
  (Decidable.decide ((↑a_2 : Int) < (↑a.l.length : Int)) = Bool.false →
  ∃ (b : Unit), Decidable.decide ((0 : Int) < (↑a.l.length : Int)) = mayN a.l ∧
  True ∧
  True)) (by kernel_rfl) (by
  intro a h
  simp only [Nat.zero_add, Int.toNat_natCast, InR]
  refine ⟨⟨0, ?_⟩, fun i ⟨i1, i2⟩ => ⟨fun c1 => ?_, fun c1 => ⟨(), ?_, trivial, trivial⟩⟩⟩
  · (repeat' apply And.intro) <;> first | rfl | trivial | exact Nat.le_refl _ | omega | (dsimp only; omega) | exact RowsEq.refl _ _ _
  · simp only [decide_eq_true_eq] at c1
    have hi : i < a.l.length := by omega
    have hpre : ((i : Int) - 1).toNat = i - 1 := by omega
    rw [hpre]
    have bad : mayAt a.l i = false → false = mayN a.l := fun e => by unfold mayN; rw [mayTo_false e hi]; rfl
    have good : mayAt a.l i = true → mayTo a.l (i + 1) = true := fun e => by simp only [mayTo, i2, e, Bool.and_self]
    repeat' (first | intro _ | apply And.intro | apply Exists.intro (i + 1 : Nat) | apply Exists.intro ())
    all_goals (try with_reducible rfl)
    all_goals (try exact trivial)
    all_goals (try simp only [decide_eq_true_eq, decide_eq_false_iff_not] at *)
    all_goals (try omega)
    all_goals (try exact RowsEq.refl _ _ _)
    all_goals first
      | exact bad (by simp only [mayAt, Bool.and_eq_false_iff, Bool.or_eq_false_iff, decide_eq_false_iff_not]; omega)
      | exact good (by simp only [mayAt, Bool.and_eq_true, Bool.or_eq_true, decide_eq_true_eq]; omega)
  · simp only [decide_eq_false_iff_not] at c1
    have e : i = a.l.length := by omega
    subst e
    unfold mayN
    rw [i2]
    simp)
theorem callNodes : CallsBy (Y Try.prog).G.X 28 cMay := fn_ok okY (tab := []) trivial bodyNodes

/-! ### Of -/

def ksPt : List CK := [.int .u64, .int .i64]
def ptsN (n : Int) (k : Nat) : List (Int × Int) := (List.range k).map fun j : Nat => (pointI n (j : Int), n)
def rawPts (l : List Int) : List (Int × Int) := l.flatMap fun n => ptsN n 8
def sortP (l : List (Int × Int)) : List (Int × Int) := l.mergeSort fun x y => !(Go.Proofs.ltOf cfPt) y x
def ptsOf (l : List Int) : List (Int × Int) := if mayN l then sortP (rawPts l) else []
noncomputable def cSortPt : Con := cSortF 59 ksPt encPt 35 sortP
theorem sortCall (blk off cap : Nat) (d : Array (Int × Int)) (w : World) (hH : Go.Sort.HoldsK encPt ksPt.length w blk off d) (hblk : blk < w.heap.size) (hsz : d.size < 4611686018427387904) :
    Calls Try.prog 34 #[.slice (some ⟨blk, off, none⟩) d.size cap, .func (.func 35) #[] #[]] w fun e w' =>
      e = .returned (.tuple #[]) ∧ ∃ n os, w' = Go.Proofs.sortWorldK encPt ksPt.length w blk off n (sortP d.toList).toArray os := sortPt blk off cap d w hH hblk hsz
theorem sortP_length (l : List (Int × Int)) : (sortP l).length = l.length := List.length_mergeSort _
theorem sortP_perm (l : List (Int × Int)) : (sortP l).Perm l := List.mergeSort_perm _ _
theorem semSortPt : ConSem (Y Try.prog).G.X cSortPt 34 :=
  sortF_sem (ks := ksPt) (enc := encPt) (g := 35) (srt := sortP) (fun _ => rfl) (by decide) sortP_length (fun l x hx => (sortP_perm l).mem_iff.1 hx) sortCall
theorem callSortPt : CallsBy (Y Try.prog).G.X 34 cSortPt := fun _ _ _ h => con_okS semSortPt h
noncomputable def cPtsOf : Con where
  α := NodesA
  β := Nat
  m := 1
  m' := 2
  pre := fun a => a.l.length < 100000
  args := fun a => [.a (.slc 0 0 1 a.l.length a.cap)]
  hp := fun _ => []
  ro := fun a => [(0, .arr 3 [.int .i64] a.l.length (encRows encI a.l))]
  post := fun _ _ => True
  res := fun a cap => .a (.slc 1 0 2 (ptsOf a.l).length cap)
  hp' := fun a _ => [(1, .arr 59 ksPt (ptsOf a.l).length (encRows encPt (ptsOf a.l)))]
def iPts2 (a : NodesA) (i : Nat) : An := .flat 8 (Nat × Nat) (fun s x => ((s.at_ (s.tg 3) (.arr 59 ksPt (rawPts (a.l.take i) ++ ptsN (gl a.l i) x.1).length (encRows encPt (rawPts (a.l.take i) ++ ptsN (gl a.l i) x.1)))).set 3 (.a (.slc (s.tg 3) 0 2 (rawPts (a.l.take i) ++ ptsN (gl a.l i) x.1).length x.2))).int 16 x.1)
  (fun _ x => x.1 ≤ 8) (fun _ x => 8 - x.1)
def iPts (a : NodesA) : An := .mk 5 (Nat × Nat) (fun s x => ((s.new (.arr 59 ksPt (rawPts (a.l.take x.1)).length (encRows encPt (rawPts (a.l.take x.1))))).set 3 (.a (.slc s.nx 0 2 (rawPts (a.l.take x.1)).length x.2))).int 12 x.1)
  (fun _ x => x.1 ≤ a.l.length) (fun _ x => a.l.length - x.1) fun x => .mk 60 [iPts2 a x.1] []
theorem ptsN_succ (n : Int) (k : Nat) : ptsN n (k + 1) = ptsN n k ++ [(pointI n k, n)] := by
  unfold ptsN; rw [List.range_succ, List.map_append]; rfl
theorem ptsN_length (n : Int) (k : Nat) : (ptsN n k).length = k := by simp [ptsN]
theorem rawPts_succ {l : List Int} {i : Nat} (h : i < l.length) : rawPts (l.take (i + 1)) = rawPts (l.take i) ++ ptsN (gl l i) 8 := by
  unfold rawPts; rw [take_succ_gl h, List.flatMap_append]; simp
theorem rawPts_length : ∀ l : List Int, (rawPts l).length = 8 * l.length
  | [] => rfl
  | a :: l => by
    have := rawPts_length l
    unfold rawPts at *
    rw [List.flatMap_cons, List.length_append, ptsN_length, this, List.length_cons]; omega
set_option maxHeartbeats 4000000 in
theorem bodyPtsOf : fnBody (Y Try.prog) [(25, cMay), (33, cPoint), (34, cSortPt)] 27 cPtsOf fun a => [(27, [iPts a], [])] := fnBody.of (p :=
  ∀ (a : NodesA), a.l.length < (100000 : Nat) →
  ∃ (a_2 : NodesA), ((0 : Nat) = (0 : Nat) ∧
  a.l.length = a_2.l.length ∧
  a.cap = a_2.cap) ∧
  (a_2.l.length ≤ a.l.length ∧
  RowsEq a_2.l.length (1 : Nat) (encRows encI a.l) (encRows encI a_2.l)) ∧
  a_2.l.length < (100000 : Nat) ∧
  ∀ (b : Unit), True →
  ((!mayN a_2.l) = Bool.true →
  ∃ (b : Nat), ((0 : Nat) = (ptsOf a.l).length ∧
  (0 : Nat) = b) ∧
  (ptsOf a.l).length = (0 : Nat) ∧
  True ∧
  True) ∧
  ((!mayN a_2.l) = Bool.false →
  (∃ (a_5 : Nat × Nat), (0 : Int) = (↑a_5.fst : Int) ∧
  ((0 : Nat) = (rawPts (List.take a_5.fst a.l)).length ∧
  (0 : Nat) = a_5.snd) ∧
  (↑a.l.length : Int) = (↑a.l.length : Int) ∧
  ((0 : Nat) = (0 : Nat) ∧
  a.l.length = a.l.length ∧
  a.cap = a.cap) ∧
  (!mayN a_2.l) = !mayN a_2.l ∧
  ((0 : Nat) = (0 : Nat) ∧
  a.l.length = a.l.length ∧
  a.cap = a.cap) ∧
  (rawPts (List.take a_5.fst a.l)).length = (0 : Nat) ∧
  (a.l.length ≤ a.l.length ∧
  RowsEq a.l.length (1 : Nat) (encRows encI a.l) (encRows encI a.l)) ∧
  a_5.fst ≤ a.l.length ∧
  True) ∧
  ∀ (a_5 : Nat × Nat), a_5.fst ≤ a.l.length →
  (Decidable.decide ((↑a_5.fst : Int) < (↑a.l.length : Int)) = Bool.true →
  ((0 : Int) ≤ (↑a_5.fst : Int) ∧
  (↑a_5.fst : Int) < (↑a.l.length : Int)) ∧
  (0 : Nat) + (↑a_5.fst : Int).toNat < a.l.length ∧
  (InR IntKind.i64 (gl a.l ((0 : Nat) + (↑a_5.fst : Int).toNat)) →
  (∃ (a_9 : Nat × Nat), (0 : Int) = (↑a_9.fst : Int) ∧
  ((0 : Nat) = (0 : Nat) ∧
  (rawPts (List.take a_5.fst a.l)).length = (rawPts (List.take a_5.fst a.l) ++ ptsN (gl a.l a_5.fst) a_9.fst).length ∧
  a_5.snd = a_9.snd) ∧
  gl a.l ((0 : Nat) + (↑a_5.fst : Int).toNat) = gl a.l ((0 : Nat) + (↑a_5.fst : Int).toNat) ∧
  Decidable.decide ((↑a_5.fst : Int) < (↑a.l.length : Int)) = Decidable.decide ((↑a_5.fst : Int) < (↑a.l.length : Int)) ∧
  (↑a_5.fst : Int) = (↑a_5.fst : Int) ∧
  (↑a.l.length : Int) = (↑a.l.length : Int) ∧
  ((0 : Nat) = (0 : Nat) ∧
  a.l.length = a.l.length ∧
  a.cap = a.cap) ∧
  (!mayN a_2.l) = !mayN a_2.l ∧
  ((0 : Nat) = (0 : Nat) ∧
  a.l.length = a.l.length ∧
  a.cap = a.cap) ∧
  ((rawPts (List.take a_5.fst a.l) ++ ptsN (gl a.l a_5.fst) a_9.fst).length ≤ (rawPts (List.take a_5.fst a.l)).length ∧
  RowsEq (rawPts (List.take a_5.fst a.l) ++ ptsN (gl a.l a_5.fst) a_9.fst).length (2 : Nat) (encRows encPt (rawPts (List.take a_5.fst a.l))) (encRows encPt (rawPts (List.take a_5.fst a.l) ++ ptsN (gl a.l a_5.fst) a_9.fst))) ∧
  (a.l.length ≤ a.l.length ∧
  RowsEq a.l.length (1 : Nat) (encRows encI a.l) (encRows encI a.l)) ∧
  a_9.fst ≤ (8 : Nat) ∧
  True) ∧
  ∀ (a_9 : Nat × Nat), a_9.fst ≤ (8 : Nat) →
  (Decidable.decide ((↑a_9.fst : Int) < (8 : Int)) = Bool.true →
  ∃ (a_12 : Int × Int), gl a.l ((0 : Nat) + (↑a_5.fst : Int).toNat) = a_12.fst ∧
  (↑a_9.fst : Int) = a_12.snd ∧
  ((0 : Int) ≤ a_12.fst ∧
  a_12.fst ≤ (100 : Int) ∧
  (0 : Int) ≤ a_12.snd ∧
  a_12.snd ≤ (100 : Int)) ∧
  ∀ (b : Unit), True →
  (0 : Nat) + (rawPts (List.take a_5.fst a.l) ++ ptsN (gl a.l a_5.fst) a_9.fst).length ≤ (rawPts (List.take a_5.fst a.l) ++ ptsN (gl a.l a_5.fst) a_9.fst).length ∧
  (1 : Nat) ≤ (1 : Nat) ∧
  ((rawPts (List.take a_5.fst a.l) ++ ptsN (gl a.l a_5.fst) a_9.fst).length + (1 : Nat)) * (16 : Nat) ≤ (140737488355328 : Nat) ∧
  ∀ (cap : Nat), (rawPts (List.take a_5.fst a.l) ++ ptsN (gl a.l a_5.fst) a_9.fst).length + (1 : Nat) ≤ cap →
  cap ≤ lenMax →
  ((rawPts (List.take a_5.fst a.l) ++ ptsN (gl a.l a_5.fst) a_9.fst).length + (1 : Nat) ≤ a_9.snd →
  cap = a_9.snd) →
  InR IntKind.i64 ((↑a_9.fst : Int) + (1 : Int)) ∧
  ∃ (a' : Nat × Nat), (↑a_9.fst : Int) + (1 : Int) = (↑a'.fst : Int) ∧
  ((0 : Nat) = (0 : Nat) ∧
  (rawPts (List.take a_5.fst a.l) ++ ptsN (gl a.l a_5.fst) a_9.fst).length + (1 : Nat) = (rawPts (List.take a_5.fst a.l) ++ ptsN (gl a.l a_5.fst) a'.fst).length ∧
  cap = a'.snd) ∧
  gl a.l ((0 : Nat) + (↑a_5.fst : Int).toNat) = gl a.l ((0 : Nat) + (↑a_5.fst : Int).toNat) ∧
  Decidable.decide ((↑a_5.fst : Int) < (↑a.l.length : Int)) = Decidable.decide ((↑a_5.fst : Int) < (↑a.l.length : Int)) ∧
  (↑a_5.fst : Int) = (↑a_5.fst : Int) ∧
  (↑a.l.length : Int) = (↑a.l.length : Int) ∧
  ((0 : Nat) = (0 : Nat) ∧
  a.l.length = a.l.length ∧
  a.cap = a.cap) ∧
  (!mayN a_2.l) = !mayN a_2.l ∧
  ((0 : Nat) = (0 : Nat) ∧
  a.l.length = a.l.length ∧
  a.cap = a.cap) ∧
  ((rawPts (List.take a_5.fst a.l) ++ ptsN (gl a.l a_5.fst) a'.fst).length ≤ (rawPts (List.take a_5.fst a.l) ++ ptsN (gl a.l a_5.fst) a_9.fst).length + (1 : Nat) ∧
  RowsEq (rawPts (List.take a_5.fst a.l) ++ ptsN (gl a.l a_5.fst) a'.fst).length (2 : Nat) (appRows (encRows encPt (rawPts (List.take a_5.fst a.l) ++ ptsN (gl a.l a_5.fst) a_9.fst)) (0 : Nat) (rawPts (List.take a_5.fst a.l) ++ ptsN (gl a.l a_5.fst) a_9.fst).length fun (i j : Nat) => flatRows (2 : Nat) [Value.int IntKind.u64 (pointI a_12.fst a_12.snd), Value.int IntKind.i64 (gl a.l ((0 : Nat) + (↑a_5.fst : Int).toNat))] ((0 : Nat) + i) j) (encRows encPt (rawPts (List.take a_5.fst a.l) ++ ptsN (gl a.l a_5.fst) a'.fst))) ∧
  (a.l.length ≤ a.l.length ∧
  RowsEq a.l.length (1 : Nat) (encRows encI a.l) (encRows encI a.l)) ∧
  a'.fst ≤ (8 : Nat) ∧
  (8 : Nat) - a'.fst < (8 : Nat) - a_9.fst) ∧
  (Decidable.decide ((↑a_9.fst : Int) < (8 : Int)) = Bool.false →
  InR IntKind.i64 ((↑a_5.fst : Int) + (1 : Int)) ∧
  ∃ (a' : Nat × Nat), (↑a_5.fst : Int) + (1 : Int) = (↑a'.fst : Int) ∧
  ((0 : Nat) = (0 : Nat) ∧
  (rawPts (List.take a_5.fst a.l) ++ ptsN (gl a.l a_5.fst) a_9.fst).length = (rawPts (List.take a'.fst a.l)).length ∧
  a_9.snd = a'.snd) ∧
  (↑a.l.length : Int) = (↑a.l.length : Int) ∧
  ((0 : Nat) = (0 : Nat) ∧
  a.l.length = a.l.length ∧
  a.cap = a.cap) ∧
  (!mayN a_2.l) = !mayN a_2.l ∧
  ((0 : Nat) = (0 : Nat) ∧
  a.l.length = a.l.length ∧
  a.cap = a.cap) ∧
  ((rawPts (List.take a'.fst a.l)).length ≤ (rawPts (List.take a_5.fst a.l) ++ ptsN (gl a.l a_5.fst) a_9.fst).length ∧
  RowsEq (rawPts (List.take a'.fst a.l)).length (2 : Nat) (encRows encPt (rawPts (List.take a_5.fst a.l) ++ ptsN (gl a.l a_5.fst) a_9.fst)) (encRows encPt (rawPts (List.take a'.fst a.l)))) ∧
  (a.l.length ≤ a.l.length ∧
  RowsEq a.l.length (1 : Nat) (encRows encI a.l) (encRows encI a.l)) ∧
  a'.fst ≤ a.l.length ∧
  a.l.length - a'.fst < a.l.length - a_5.fst))) ∧
  (Decidable.decide ((↑a_5.fst : Int) < (↑a.l.length : Int)) = Bool.false →
  ∃ (a_8 : SortA (Int × Int)), ((0 : Nat) = (0 : Nat) ∧
  (rawPts (List.take a_5.fst a.l)).length = a_8.1.length ∧
  a_5.snd = a_8.2) ∧
  (a_8.1.length ≤ (rawPts (List.take a_5.fst a.l)).length ∧
  RowsEq a_8.1.length (2 : Nat) (encRows encPt (rawPts (List.take a_5.fst a.l))) (encRows encPt a_8.1)) ∧
  (a_8.1.length < (100000 : Nat) ∧
  (1 : Nat) ≤ a_8.1.length) ∧
  ∀ (b : Unit), True →
  ∃ (b : Nat), ((0 : Nat) = (0 : Nat) ∧
  (rawPts (List.take a_5.fst a.l)).length = (ptsOf a.l).length ∧
  a_5.snd = b) ∧
  ((ptsOf a.l).length ≤ a_8.1.length ∧
  RowsEq (ptsOf a.l).length (2 : Nat) (encRows encPt (sortP a_8.1)) (encRows encPt (ptsOf a.l))) ∧
  True ∧
  True))) (by kernel_rfl) (by
  intro a h
  refine ⟨⟨a.l, a.cap⟩, ?_⟩
  (repeat' apply And.intro) <;> first | rfl | trivial | exact Nat.le_refl _ | omega | (dsimp only; omega) | exact RowsEq.refl _ _ _ | skip
  refine fun _ _ => ⟨fun c0 => ⟨0, ?_⟩, fun c0 => ?_⟩
  · have e : ptsOf a.l = [] := if_neg (by simpa using c0)
    rw [e]
    (repeat' apply And.intro) <;> first | rfl | trivial | exact Nat.le_refl _ | omega | (dsimp only; omega) | exact RowsEq.refl _ _ _
  have hm : mayN a.l = true := by simpa using c0
  have hl := mayN_len hm
  have hl0 := mayN_pos hm
  have e : ptsOf a.l = sortP (rawPts a.l) := if_pos hm
  simp only [Nat.zero_add, Int.toNat_natCast, InR]
  refine ⟨⟨(0, 0), ?_⟩, fun x hx => ⟨fun c1 => ?_, fun c1 => ?_⟩⟩
  · have e0 : rawPts (a.l.take 0) = [] := rfl
    dsimp only
    rw [e0]
    (repeat' apply And.intro) <;> first | rfl | trivial | exact Nat.le_refl _ | omega | (dsimp only; omega) | exact RowsEq.refl _ _ _
  · obtain ⟨i, cap⟩ := x
    dsimp only at c1 hx ⊢
    simp only [decide_eq_true_eq] at c1
    have hi : i < a.l.length := by omega
    have hb := mayN_at hm hi
    have hr := rawPts_length (a.l.take i)
    rw [List.length_take] at hr
    refine ⟨by omega, by omega, fun _ => ⟨⟨(0, cap), ?_⟩, fun y hy => ⟨fun c2 => ?_, fun c2 => ?_⟩⟩⟩
    · have e0 : rawPts (a.l.take i) ++ ptsN (gl a.l i) 0 = rawPts (a.l.take i) := List.append_nil _
      dsimp only
      rw [e0]
      (repeat' apply And.intro) <;> first | rfl | trivial | exact Nat.le_refl _ | omega | (dsimp only; omega) | exact RowsEq.refl _ _ _
    · obtain ⟨k, c⟩ := y
      dsimp only at c2 hy ⊢
      simp only [decide_eq_true_eq] at c2
      have hk : k < 8 := by omega
      have hn : (rawPts (a.l.take i) ++ ptsN (gl a.l i) k).length = 8 * min i a.l.length + k := by rw [List.length_append, ptsN_length, hr]
      have hs : rawPts (a.l.take i) ++ ptsN (gl a.l i) (k + 1) = (rawPts (a.l.take i) ++ ptsN (gl a.l i) k) ++ [(pointI (gl a.l i) k, gl a.l i)] := by rw [ptsN_succ, List.append_assoc]
      have hn1 : ((rawPts (a.l.take i) ++ ptsN (gl a.l i) k) ++ [(pointI (gl a.l i) k, gl a.l i)]).length = (rawPts (a.l.take i) ++ ptsN (gl a.l i) k).length + 1 := List.length_append
      refine ⟨(gl a.l i, (k : Int)), rfl, rfl, ⟨by omega, by omega, by omega, by omega⟩, fun _ _ => ⟨by omega, by omega, by omega, fun c3 _ _ _ => ⟨by omega, ⟨(k + 1, c3), ?_⟩⟩⟩⟩
      dsimp only
      rw [hs, hn1]
      (repeat' apply And.intro) <;> first | rfl | trivial | exact Nat.le_refl _ | omega | (dsimp only; omega) | exact RowsEq.refl _ _ _ | exact .push rfl (by omega) rfl
    · obtain ⟨k, c⟩ := y
      dsimp only at c2 hy ⊢
      simp only [decide_eq_false_iff_not] at c2
      have hk : k = 8 := by omega
      subst hk
      have hs := rawPts_succ hi
      refine ⟨by omega, ⟨(i + 1, c), ?_⟩⟩
      dsimp only
      rw [hs]
      (repeat' apply And.intro) <;> first | rfl | trivial | exact Nat.le_refl _ | omega | (dsimp only; omega) | exact RowsEq.refl _ _ _
  · obtain ⟨i, cap⟩ := x
    dsimp only at c1 hx ⊢
    simp only [decide_eq_false_iff_not] at c1
    have hi : i = a.l.length := by omega
    subst hi
    have hr := rawPts_length a.l
    have hsl := sortP_length (rawPts a.l)
    rw [List.take_length, e]
    refine ⟨⟨rawPts a.l, cap⟩, ?_⟩
    (repeat' apply And.intro) <;> first | rfl | trivial | exact Nat.le_refl _ | omega | (dsimp only; omega) | exact RowsEq.refl _ _ _ | skip
    refine fun _ _ => ⟨cap, ?_⟩
    (repeat' apply And.intro) <;> first | rfl | trivial | exact Nat.le_refl _ | omega | (dsimp only; omega) | exact RowsEq.refl _ _ _)
theorem callPtsOf : CallsBy (Y Try.prog).G.X 27 cPtsOf := fn_ok okY (tab := [(25, cMay), (33, cPoint), (34, cSortPt)]) ⟨callMay, callPoint, callSortPt, trivial⟩ bodyPtsOf
end Go.Proofs.Ythofnohpdbbidaa
