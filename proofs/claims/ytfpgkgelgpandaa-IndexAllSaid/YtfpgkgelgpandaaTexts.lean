/-
  Lists of texts: sorted by the library, or as the document does it; the layer index's Keys; texts compared, cut. No condition but that lists are short.
-/
import Derived.Test.YtfpgkgelgpandaaIndexLaw
import Derived.Test.YtfpgkgelgpandaaShelf
import Derived.Test.YtfpgkgelgpandaaSxSo
import Derived.Sort.KeysCollected
namespace Go.Proofs.Ytfpgkgelgpandaa
open Go.Sx
set_option maxRecDepth 100000
set_option linter.unusedVariables false

def encT (b : ByteArray) : List Value := [.string b]
def tl (b : ByteArray) : List UInt8 := b.data.toList
theorem tl_inj {a b : ByteArray} (h : tl a = tl b) : a = b := by
  cases a; cases b; simp only [tl] at h; rw [Array.toList_inj.1 h]
/-- texts in order -/
def sortB (l : List ByteArray) : List ByteArray := ((l.map tl).mergeSort fun x y => decide (x ≤ y)).map fun x => ⟨x.toArray⟩
theorem sortB_map (l : List ByteArray) : (sortB l).map tl = (l.map tl).mergeSort fun x y => decide (x ≤ y) := by
  unfold sortB
  rw [List.map_map]
  exact (List.map_congr_left fun x _ => by simp [tl]).trans (List.map_id _)
theorem sortB_length (l : List ByteArray) : (sortB l).length = l.length := by simp [sortB]
theorem map_tl_back (l : List ByteArray) : (l.map tl).map (fun x => (⟨x.toArray⟩ : ByteArray)) = l := by
  rw [List.map_map]
  refine (List.map_congr_left fun x _ => ?_).trans (List.map_id _)
  cases x; simp [tl]
theorem sortB_perm (l : List ByteArray) : (sortB l).Perm l := by
  have := (List.mergeSort_perm (l.map tl) fun x y => decide (x ≤ y)).map fun x => (⟨x.toArray⟩ : ByteArray)
  rwa [map_tl_back] at this
theorem sortB_congr {l m : List ByteArray} (h : l.Perm m) : sortB l = sortB m := by
  unfold sortB
  rw [show (fun x y : List UInt8 => decide (x ≤ y)) = leB from rfl, mergeSort_of_perm (h.map tl)]
def ltB (a b : ByteArray) : Bool := Op.bytesLess a.toList b.toList
theorem ltB_iff {a b : ByteArray} : ltB a b = true ↔ tl a < tl b := by
  unfold ltB tl
  rw [bytesLess_eq, Lib.toList_data, Lib.toList_data]; simp
theorem ltB_false {a b : ByteArray} : ltB a b = false ↔ tl b ≤ tl a := by
  rw [← List.not_lt, ← ltB_iff]; simp
theorem sortB_of_sorted {l : List ByteArray} (h : (l.map tl).Pairwise fun a b => decide (a ≤ b) = true) : sortB l = l := by
  unfold sortB
  rw [List.mergeSort_of_pairwise h, map_tl_back]
theorem sortB_sorted (l : List ByteArray) : ((sortB l).map tl).Pairwise fun a b => decide (a ≤ b) = true := by
  rw [sortB_map]
  refine List.pairwise_mergeSort (fun a b c h1 h2 => ?_) (fun a b => ?_) _
  · simp only [decide_eq_true_eq] at *; exact List.le_trans h1 h2
  · simp only [Bool.or_eq_true, decide_eq_true_eq]; exact List.le_total a b
/-- two texts in order -/
theorem sortB_two {a b : ByteArray} (h : a ≠ b) : (sortB [a, b]).length = 2 ∧ ltB (gl (sortB [a, b]) 0) (gl (sortB [a, b]) 1) = true := by
  have h1 := sortB_length [a, b]
  have h2 := sortB_sorted [a, b]
  have h3 := sortB_perm [a, b]
  refine ⟨h1, ?_⟩
  obtain ⟨u, v, e⟩ : ∃ u v, sortB [a, b] = [u, v] := by
    match sortB [a, b], h1 with
    | [u, v], _ => exact ⟨u, v, rfl⟩
  rw [e] at h2 h3 ⊢
  have hle : tl u ≤ tl v := by simpa using h2
  have hne : u ≠ v := by
    have := h3.nodup_iff.2 (by simp [h])
    simpa using this
  rw [show gl [u, v] 0 = u from rfl, show gl [u, v] 1 = v from rfl, ltB_iff]
  refine Decidable.byContradiction fun hc => hne (tl_inj (List.le_antisymm hle (List.not_lt.1 hc)))

/-! ### the library's sort -/

theorem callSort : CallsBy (Y Try.prog).G.X 23 (cSort 9 .str Value.string sortB) := fun _ _ _ h =>
  con_okS (sort_sem (enc2 := encStr) (to := tl) (srt2 := fun l => l.mergeSort fun x y => decide (x ≤ y)) (fun x => by cases x; simp [tl, encStr]) sortB_map sortB_length (fun l x hx => (sortB_perm l).mem_iff.1 hx)
    (fun blk off cap l w h1 h2 h3 => Try.slices_Sort_string blk off cap l w h1 h2 h3) (fun p cap w => Try.slices_Sort_string_none p cap w)) h

/-! ### Keys -/

def keysOf (t : List PlaceR) : List ByteArray := (ents t).map Prod.fst
noncomputable def cKeys : Con where
  α := KeyA
  β := Nat
  m := 2
  m' := 3
  pre := fun a => a.x.t.length < 100000
  args := fun _ => [.a (.ptr 0 0 0 0)]
  hp := fun _ => []
  ro := fun a => idxHp 0 1 a.x.t a.cap a.x.n a.x.used
  post := fun _ _ => True
  res := fun a cap => .a (.slc 2 0 1 (keysOf a.x.t).length cap)
  hp' := fun a _ => [(2, .arr 9 [.str] (keysOf a.x.t).length (encRows encT (sortB (keysOf a.x.t))))]
def iKeys (a : KeyA) : An := .flat 5 (Nat × Nat) (fun s x => ((s.new (.arr 9 [.str] (keysOf (a.x.t.take x.1)).length (encRows encT (keysOf (a.x.t.take x.1))))).set 3 (.a (.slc s.nx 0 1 (keysOf (a.x.t.take x.1)).length x.2))).int 13 x.1) (fun _ x => x.1 ≤ a.x.t.length) (fun _ x => a.x.t.length - x.1)
theorem keysOf_step {t : List PlaceR} {i : Nat} (h : i < t.length) : keysOf (t.take (i + 1)) = keysOf (t.take i) ++ if (gl t i).has then [(gl t i).key] else [] := by
  unfold keysOf
  rw [take_succ_gl h, ents_app, List.map_append, ents_cons]
  cases (gl t i).has <;> simp [ents, entOf]
theorem keysOf_le (t : List PlaceR) : (keysOf t).length ≤ t.length := by
  unfold keysOf ents
  simp only [List.length_map]
  exact List.length_filter_le _ _
set_option maxHeartbeats 4000000 in
theorem bodyKeys : fnBody (Y Try.prog) [(23, cSort 9 .str Value.string sortB)] 19 cKeys fun a => [(19, [iKeys a], [])] := fnBody.of (p :=
  ∀ (a : KeyA), a.x.t.length < (100000 : Nat) →
  (∃ (a_2 : Nat × Nat), (0 : Int) = (↑a_2.fst : Int) ∧
  ((0 : Nat) = (keysOf (List.take a_2.fst a.x.t)).length ∧
  (0 : Nat) = a_2.snd) ∧
  (↑a.x.t.length : Int) = (↑a.x.t.length : Int) ∧
  ((0 : Nat) = (0 : Nat) ∧
  a.x.t.length = a.x.t.length ∧
  a.cap = a.cap) ∧
  Bool.false = Bool.false ∧
  (0 : Nat) = (0 : Nat) ∧
  (keysOf (List.take a_2.fst a.x.t)).length = (0 : Nat) ∧
  ((0 : Nat) = (0 : Nat) ∧
  a.x.t.length = a.x.t.length ∧
  a.cap = a.cap) ∧
  (↑a.x.n : Int) = (↑a.x.n : Int) ∧
  (↑a.x.used : Int) = (↑a.x.used : Int) ∧
  (a.x.t.length ≤ a.x.t.length ∧
  RowsEq a.x.t.length (4 : Nat) (encRows encP a.x.t) (encRows encP a.x.t)) ∧
  a_2.fst ≤ a.x.t.length ∧
  True) ∧
  ∀ (a_2 : Nat × Nat), a_2.fst ≤ a.x.t.length →
  (Decidable.decide ((↑a_2.fst : Int) < (↑a.x.t.length : Int)) = Bool.true →
  ((0 : Int) ≤ (↑a_2.fst : Int) ∧
  (↑a_2.fst : Int) < (↑a.x.t.length : Int)) ∧
  (0 : Nat) + (↑a_2.fst : Int).toNat < a.x.t.length ∧
  ((gl a.x.t ((0 : Nat) + (↑a_2.fst : Int).toNat)).has = Bool.true →
  (0 : Nat) + (keysOf (List.take a_2.fst a.x.t)).length ≤ (keysOf (List.take a_2.fst a.x.t)).length ∧
  (1 : Nat) ≤ (1 : Nat) ∧
  ((keysOf (List.take a_2.fst a.x.t)).length + (1 : Nat)) * (16 : Nat) ≤ (140737488355328 : Nat) ∧
  ∀ (cap : Nat), (keysOf (List.take a_2.fst a.x.t)).length + (1 : Nat) ≤ cap →
  cap ≤ lenMax →
  ((keysOf (List.take a_2.fst a.x.t)).length + (1 : Nat) ≤ a_2.snd →
  cap = a_2.snd) →
  InR IntKind.i64 ((↑a_2.fst : Int) + (1 : Int)) ∧
  ∃ (a' : Nat × Nat), (↑a_2.fst : Int) + (1 : Int) = (↑a'.fst : Int) ∧
  ((0 : Nat) = (0 : Nat) ∧
  (keysOf (List.take a_2.fst a.x.t)).length + (1 : Nat) = (keysOf (List.take a'.fst a.x.t)).length ∧
  cap = a'.snd) ∧
  (↑a.x.t.length : Int) = (↑a.x.t.length : Int) ∧
  ((0 : Nat) = (0 : Nat) ∧
  a.x.t.length = a.x.t.length ∧
  a.cap = a.cap) ∧
  Bool.false = Bool.false ∧
  (0 : Nat) = (0 : Nat) ∧
  ((keysOf (List.take a'.fst a.x.t)).length ≤ (keysOf (List.take a_2.fst a.x.t)).length + (1 : Nat) ∧
  RowsEq (keysOf (List.take a'.fst a.x.t)).length (1 : Nat) (appRows (encRows encT (keysOf (List.take a_2.fst a.x.t))) (0 : Nat) (keysOf (List.take a_2.fst a.x.t)).length fun (i j : Nat) => flatRows (1 : Nat) [Value.string (gl a.x.t ((0 : Nat) + (↑a_2.fst : Int).toNat)).key] ((0 : Nat) + i) j) (encRows encT (keysOf (List.take a'.fst a.x.t)))) ∧
  ((0 : Nat) = (0 : Nat) ∧
  a.x.t.length = a.x.t.length ∧
  a.cap = a.cap) ∧
  (↑a.x.n : Int) = (↑a.x.n : Int) ∧
  (↑a.x.used : Int) = (↑a.x.used : Int) ∧
  (a.x.t.length ≤ a.x.t.length ∧
  RowsEq a.x.t.length (4 : Nat) (encRows encP a.x.t) (encRows encP a.x.t)) ∧
  a'.fst ≤ a.x.t.length ∧
  a.x.t.length - a'.fst < a.x.t.length - a_2.fst) ∧
  ((gl a.x.t ((0 : Nat) + (↑a_2.fst : Int).toNat)).has = Bool.false →
  InR IntKind.i64 ((↑a_2.fst : Int) + (1 : Int)) ∧
  ∃ (a' : Nat × Nat), (↑a_2.fst : Int) + (1 : Int) = (↑a'.fst : Int) ∧
  ((0 : Nat) = (0 : Nat) ∧
  (keysOf (List.take a_2.fst a.x.t)).length = (keysOf (List.take a'.fst a.x.t)).length ∧
  a_2.snd = a'.snd) ∧
  (↑a.x.t.length : Int) = (↑a.x.t.length : Int) ∧
  ((0 : Nat) = (0 : Nat) ∧
  a.x.t.length = a.x.t.length ∧
  a.cap = a.cap) ∧
  Bool.false = Bool.false ∧
  (0 : Nat) = (0 : Nat) ∧
  ((keysOf (List.take a'.fst a.x.t)).length ≤ (keysOf (List.take a_2.fst a.x.t)).length ∧
  RowsEq (keysOf (List.take a'.fst a.x.t)).length (1 : Nat) (encRows encT (keysOf (List.take a_2.fst a.x.t))) (encRows encT (keysOf (List.take a'.fst a.x.t)))) ∧
  ((0 : Nat) = (0 : Nat) ∧
  a.x.t.length = a.x.t.length ∧
  a.cap = a.cap) ∧
  (↑a.x.n : Int) = (↑a.x.n : Int) ∧
  (↑a.x.used : Int) = (↑a.x.used : Int) ∧
  (a.x.t.length ≤ a.x.t.length ∧
  RowsEq a.x.t.length (4 : Nat) (encRows encP a.x.t) (encRows encP a.x.t)) ∧
  a'.fst ≤ a.x.t.length ∧
  a.x.t.length - a'.fst < a.x.t.length - a_2.fst)) ∧
  (Decidable.decide ((↑a_2.fst : Int) < (↑a.x.t.length : Int)) = Bool.false →
  ∃ (a_5 : SortA ByteArray), ((0 : Nat) = (0 : Nat) ∧
  (keysOf (List.take a_2.fst a.x.t)).length = a_5.1.length ∧
  a_2.snd = a_5.2) ∧
  (a_5.1.length ≤ (keysOf (List.take a_2.fst a.x.t)).length ∧
  RowsEq a_5.1.length (1 : Nat) (encRows encT (keysOf (List.take a_2.fst a.x.t))) (encRows (fun (x : ByteArray) => [Value.string x]) a_5.1)) ∧
  a_5.1.length < (100000 : Nat) ∧
  ∀ (b : Unit), True →
  ∃ (b : Nat), ((0 : Nat) = (0 : Nat) ∧
  (keysOf (List.take a_2.fst a.x.t)).length = (keysOf a.x.t).length ∧
  a_2.snd = b) ∧
  ((keysOf a.x.t).length ≤ a_5.1.length ∧
  RowsEq (keysOf a.x.t).length (1 : Nat) (encRows (fun (x : ByteArray) => [Value.string x]) (sortB a_5.1)) (encRows encT (sortB (keysOf a.x.t)))) ∧
  True ∧
  True)) (by kernel_rfl) (by
  intro a h
  refine ⟨⟨(0, 0), ?_⟩, fun x hx => ⟨fun c1 => ?_, fun c1 => ?_⟩⟩
  · dsimp only
    have e : keysOf (a.x.t.take 0) = [] := rfl
    rw [e]
    (repeat' apply And.intro) <;> first | rfl | trivial | exact Nat.le_refl _ | omega | (dsimp only; omega) | exact RowsEq.refl _ _ _
  · obtain ⟨i, cap0⟩ := x
    simp only [decide_eq_true_eq] at c1
    have hi : i < a.x.t.length := by omega
    have hle := keysOf_le (a.x.t.take i)
    rw [List.length_take] at hle
    have hst := keysOf_step hi
    simp only [Nat.zero_add, Int.toNat_natCast, InR]
    refine ⟨by omega, by omega, fun hh => ⟨by omega, by omega, by omega, fun cap _ _ _ => ⟨by omega, ⟨(i + 1, cap), ?_⟩⟩⟩, fun hh => ⟨by omega, ⟨(i + 1, cap0), ?_⟩⟩⟩
    · rw [hh] at hst
      dsimp only
      rw [hst]
      (repeat' apply And.intro) <;> first | rfl | trivial | exact Nat.le_refl _ | omega | (dsimp only; omega) | exact RowsEq.refl _ _ _ | (simp; done) | exact .push rfl (by simp) rfl
    · rw [hh] at hst
      simp only [Bool.false_eq_true, if_false, List.append_nil] at hst
      dsimp only
      rw [hst]
      (repeat' apply And.intro) <;> first | rfl | trivial | exact Nat.le_refl _ | omega | (dsimp only; omega) | exact RowsEq.refl _ _ _
  · obtain ⟨i, cap0⟩ := x
    simp only [decide_eq_false_iff_not] at c1
    have hi : i = a.x.t.length := by have : i ≤ a.x.t.length := hx
                                     omega
    subst hi
    have hle := keysOf_le a.x.t
    rw [List.take_length]
    refine ⟨⟨keysOf a.x.t, cap0⟩, ?_⟩
    (repeat' apply And.intro) <;> first | rfl | trivial | exact Nat.le_refl _ | omega | (dsimp only; omega) | exact RowsEq.refl _ _ _ | skip
    refine fun _ _ => ⟨cap0, ?_⟩
    (repeat' apply And.intro) <;> first | rfl | trivial | exact Nat.le_refl _ | omega | (dsimp only; omega) | exact RowsEq.refl _ _ _)

/-! ### texts compared; cut -/

structure TwoA where
  l : List ByteArray
  c1 : Nat
  c2 : Nat
noncomputable def cEqT : Con where
  α := TwoA
  β := Unit
  m := 2
  m' := 2
  pre := fun a => a.l.length < 100000
  args := fun a => [.a (.slc 0 0 1 a.l.length a.c1), .a (.slc 1 0 1 a.l.length a.c2)]
  hp := fun _ => []
  ro := fun a => [(0, .arr 9 [.str] a.l.length (encRows encT a.l)), (1, .arr 9 [.str] a.l.length (encRows encT a.l))]
  post := fun _ _ => True
  res := fun _ _ => .a .tt
  hp' := fun _ _ => []
def iEqT (a : TwoA) : An := .flat 4 Nat (fun s i => s.int 5 i) (fun _ i => i ≤ a.l.length) (fun _ i => a.l.length - i)
set_option maxHeartbeats 4000000 in
theorem bodyEqT : fnBody (Y Try.prog) [] 18 cEqT fun a => [(18, [iEqT a], [])] := fnBody.of (p :=
  ∀ (a : TwoA), a.l.length < (100000 : Nat) →
  (((↑a.l.length : Int) != (↑a.l.length : Int)) = Bool.true →
  ∃ (b : Unit), Bool.false = Bool.true ∧
  True ∧
  True) ∧
  (((↑a.l.length : Int) != (↑a.l.length : Int)) = Bool.false →
  (∃ (a_3 : Nat), (0 : Int) = (↑a_3 : Int) ∧
  ((↑a.l.length : Int) != (↑a.l.length : Int)) = ((↑a.l.length : Int) != (↑a.l.length : Int)) ∧
  Bool.false = Bool.false ∧
  ((0 : Nat) = (0 : Nat) ∧
  a.l.length = a.l.length ∧
  a.c1 = a.c1) ∧
  ((0 : Nat) = (0 : Nat) ∧
  a.l.length = a.l.length ∧
  a.c2 = a.c2) ∧
  (a.l.length ≤ a.l.length ∧
  RowsEq a.l.length (1 : Nat) (encRows encT a.l) (encRows encT a.l)) ∧
  (a.l.length ≤ a.l.length ∧
  RowsEq a.l.length (1 : Nat) (encRows encT a.l) (encRows encT a.l)) ∧
  a_3 ≤ a.l.length ∧
  True) ∧
  ∀ (a_3 : Nat), a_3 ≤ a.l.length →
  (Decidable.decide ((↑a_3 : Int) < (↑a.l.length : Int)) = Bool.true →
  ((0 : Int) ≤ (↑a_3 : Int) ∧
  (↑a_3 : Int) < (↑a.l.length : Int)) ∧
  (0 : Nat) + (↑a_3 : Int).toNat < a.l.length ∧
  ((0 : Int) ≤ (↑a_3 : Int) ∧
  (↑a_3 : Int) < (↑a.l.length : Int)) ∧
  (0 : Nat) + (↑a_3 : Int).toNat < a.l.length ∧
  ((!Decidable.decide (gl a.l ((0 : Nat) + (↑a_3 : Int).toNat) = gl a.l ((0 : Nat) + (↑a_3 : Int).toNat))) = Bool.true →
  ∃ (b : Unit), Bool.false = Bool.true ∧
  True ∧
  True) ∧
  ((!Decidable.decide (gl a.l ((0 : Nat) + (↑a_3 : Int).toNat) = gl a.l ((0 : Nat) + (↑a_3 : Int).toNat))) = Bool.false →
  InR IntKind.i64 ((↑a_3 : Int) + (1 : Int)) ∧
  ∃ (a' : Nat), (↑a_3 : Int) + (1 : Int) = (↑a' : Int) ∧
  ((↑a.l.length : Int) != (↑a.l.length : Int)) = ((↑a.l.length : Int) != (↑a.l.length : Int)) ∧
  Bool.false = Bool.false ∧
  ((0 : Nat) = (0 : Nat) ∧
  a.l.length = a.l.length ∧
  a.c1 = a.c1) ∧
  ((0 : Nat) = (0 : Nat) ∧
  a.l.length = a.l.length ∧
  a.c2 = a.c2) ∧
  (a.l.length ≤ a.l.length ∧
  RowsEq a.l.length (1 : Nat) (encRows encT a.l) (encRows encT a.l)) ∧
  (a.l.length ≤ a.l.length ∧
  RowsEq a.l.length (1 : Nat) (encRows encT a.l) (encRows encT a.l)) ∧
  a' ≤ a.l.length ∧
  a.l.length - a' < a.l.length - a_3)) ∧
  (Decidable.decide ((↑a_3 : Int) < (↑a.l.length : Int)) = Bool.false →
  ∃ (b : Unit), Bool.true = Bool.true ∧
  True ∧
  True))) (by kernel_rfl) (by
  intro a h
  refine ⟨by simp, fun _ => ⟨⟨0, ?_⟩, fun i hi => ⟨fun c1 => ?_, fun c1 => ⟨(), rfl, trivial, trivial⟩⟩⟩⟩
  · (repeat' apply And.intro) <;> first | rfl | trivial | exact Nat.le_refl _ | omega | (dsimp only; omega) | exact RowsEq.refl _ _ _
  · simp only [decide_eq_true_eq] at c1
    simp only [Nat.zero_add, Int.toNat_natCast, InR]
    have hi' : i < a.l.length := by omega
    refine ⟨⟨by omega, by omega⟩, by omega, ⟨by omega, by omega⟩, by omega, fun hc => (by simp at hc), fun _ => ⟨by omega, i + 1, ?_⟩⟩
    (repeat' apply And.intro) <;> first | rfl | trivial | exact Nat.le_refl _ | omega | (dsimp only; omega) | exact RowsEq.refl _ _ _)
def cutB (s : ByteArray) (n : Int) : ByteArray := if n < s.size then s.extract 0 n.toNat else s
noncomputable def cCut : Con where
  α := ByteArray × Int
  β := Unit
  m := 0
  m' := 0
  pre := fun a => 0 ≤ a.2
  args := fun a => [.a (.str a.1), .a (.int .i64 a.2)]
  hp := fun _ => []
  ro := fun _ => []
  post := fun _ _ => True
  res := fun a _ => .a (.str (cutB a.1 a.2))
  hp' := fun _ _ => []
set_option maxHeartbeats 4000000 in
theorem bodyCut : fnBody (Y Try.prog) [] 16 cCut fun _ => [] := fnBody.of (p :=
  ∀ (a : ByteArray × Int), (0 : Int) ≤ a.snd →
  (Decidable.decide (a.snd < (↑a.fst.size : Int)) = Bool.true →
  ((0 : Int) ≤ a.snd ∧
  a.snd ≤ (↑a.fst.size : Int)) ∧
  ∃ (b : Unit), a.fst.extract (0 : Nat) a.snd.toNat = cutB a.fst a.snd ∧
  True ∧
  True) ∧
  (Decidable.decide (a.snd < (↑a.fst.size : Int)) = Bool.false →
  ∃ (b : Unit), a.fst = cutB a.fst a.snd ∧
  True ∧
  True)) (by kernel_rfl) (by
  intro a h
  refine ⟨fun h1 => ?_, fun h1 => ⟨(), ?_, trivial, trivial⟩⟩
  · have h2 : a.2 < a.1.size := by simpa using h1
    exact ⟨by omega, (), by simp [cutB, h2], trivial, trivial⟩
  · have h2 : ¬ a.2 < a.1.size := by simpa using h1
    simp [cutB, h2])
theorem callKeys : CallsBy (Y Try.prog).G.X 19 cKeys := fn_ok okY (tab := [(23, cSort 9 .str Value.string sortB)]) ⟨callSort, trivial⟩ bodyKeys
theorem callEqT : CallsBy (Y Try.prog).G.X 18 cEqT := fn_ok okY (tab := []) trivial bodyEqT
theorem callCut : CallsBy (Y Try.prog).G.X 16 cCut := fn_ok okY (tab := []) trivial bodyCut
end Go.Proofs.Ytfpgkgelgpandaa
