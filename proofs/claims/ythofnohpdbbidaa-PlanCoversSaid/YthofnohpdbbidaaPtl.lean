/-
  Points of nodes as a plain list: each once, in order; a node's own among them. No program in sight.
-/
import Derived.Test.YthofnohpdbbidaaPts
namespace Go.Proofs.Ythofnohpdbbidaa
open Go.Sx
set_option maxRecDepth 100000
set_option linter.unusedVariables false

theorem pt_nodup {n : Int} (h1 : 1 ≤ n) (h2 : n ≤ 5) : ((List.range 8).map fun j : Nat => pointI n (j : Int)).Nodup := by
  have : n = 1 ∨ n = 2 ∨ n = 3 ∨ n = 4 ∨ n = 5 := by omega
  rcases this with rfl | rfl | rfl | rfl | rfl <;> decide +kernel
theorem ptsN_nodup {n : Int} (h1 : 1 ≤ n) (h2 : n ≤ 5) : (ptsN n 8).Nodup := by
  have := pt_nodup h1 h2
  unfold ptsN List.Nodup at *
  rw [List.pairwise_map] at *
  exact this.imp fun h e => h (congrArg Prod.fst e)
theorem ptsN_snd {n : Int} {k : Nat} {e : Int × Int} (h : e ∈ ptsN n k) : e.2 = n := by
  obtain ⟨j, _, rfl⟩ := List.mem_map.1 h; rfl
theorem mayN_mem {l : List Int} (h : mayN l = true) {n : Int} (hn : n ∈ l) : 1 ≤ n ∧ n ≤ 5 := by
  obtain ⟨i, hi, rfl⟩ := List.getElem_of_mem hn
  have := mayN_at h hi
  rw [gl_eq hi] at this; omega
theorem mayN_lt {l : List Int} (h : mayN l = true) {i : Nat} : ∀ j, i < j → j < l.length → gl l i < gl l j
  | j + 1, hij, hj => by
    have h2 := mayN_at h hj
    simp only [Nat.add_sub_cancel, Nat.add_one_ne_zero, false_or] at h2
    by_cases e : i = j
    · subst e; exact h2.2.2
    · have := mayN_lt (i := i) h j (by omega) (by omega); omega
theorem mayN_nodup {l : List Int} (h : mayN l = true) : l.Nodup := by
  refine List.pairwise_iff_getElem.2 fun i j hi hj hij => ?_
  have := mayN_lt h j hij hj
  rw [gl_eq hi, gl_eq hj] at this; omega
theorem rawPts_nodup : ∀ {l : List Int}, l.Nodup → (∀ n ∈ l, 1 ≤ n ∧ n ≤ 5) → (rawPts l).Nodup
  | [], _, _ => List.nodup_nil
  | a :: r, h, hb => by
    obtain ⟨h1, h2⟩ := List.nodup_cons.1 h
    have ih := rawPts_nodup h2 fun n hn => hb n (List.mem_cons_of_mem _ hn)
    have ha := hb a List.mem_cons_self
    unfold rawPts at *
    rw [List.flatMap_cons, List.nodup_append]
    refine ⟨ptsN_nodup ha.1 ha.2, ih, fun x hx y hy e => ?_⟩
    subst e
    obtain ⟨n, hn, hm⟩ := List.mem_flatMap.1 hy
    have := (ptsN_snd hx).symm.trans (ptsN_snd hm)
    subst this; exact h1 hn
theorem mem_rawPts {l : List Int} {n : Int} {k : Nat} (hn : n ∈ l) (hk : k < 8) : (pointI n (k : Int), n) ∈ rawPts l :=
  List.mem_flatMap.2 ⟨n, hn, List.mem_map.2 ⟨k, List.mem_range.2 hk, rfl⟩⟩
theorem sortP_sorted (l : List (Int × Int)) : (sortP l).Pairwise fun x y => lessPt y x = false := by
  have := List.pairwise_mergeSort (le := fun x y => !(Go.Proofs.ltOf cfPt) y x) (fun a b c h1 h2 => ?_) (fun a b => ?_) l
  · exact this.imp fun {x y} h => by rw [← ltPt]; simpa using h
  · simp only [Bool.not_eq_true'] at *
    exact swoPt.ntrans c b a h2 h1
  · simp only [Bool.or_eq_true, Bool.not_eq_true']
    cases h : Go.Proofs.ltOf cfPt b a with
    | false => exact .inl rfl
    | true =>
      refine .inr ?_
      cases h' : Go.Proofs.ltOf cfPt a b with
      | false => rfl
      | true => have := swoPt.trans a b a h' h; rw [swoPt.irrefl] at this; cases this
theorem sorted_unique {l m : List (Int × Int)} (h1 : l.Pairwise fun x y => lessPt y x = false) (h2 : m.Pairwise fun x y => lessPt y x = false) (h : l.Perm m) : l = m :=
  List.Perm.eq_of_pairwise (le := fun x y => lessPt y x = false) (fun a b _ _ h3 h4 => totPt a b (by rw [ltPt]; exact h4) (by rw [ltPt]; exact h3)) h1 h2 h
theorem ptsOf_eq {l : List Int} (h : mayN l = true) : ptsOf l = sortP (rawPts l) := if_pos h
theorem ptsOf_perm {l : List Int} (h : mayN l = true) : (ptsOf l).Perm (rawPts l) := by rw [ptsOf_eq h]; exact sortP_perm _
theorem ptsOf_length {l : List Int} (h : mayN l = true) : (ptsOf l).length = 8 * l.length := by rw [(ptsOf_perm h).length_eq, rawPts_length]
theorem ptsOf_nodup {l : List Int} (h : mayN l = true) : (ptsOf l).Nodup := (ptsOf_perm h).nodup_iff.2 (rawPts_nodup (mayN_nodup h) fun n hn => mayN_mem h hn)
theorem ptsOf_sorted {l : List Int} (h : mayN l = true) : (ptsOf l).Pairwise fun x y => lessPt y x = false := by rw [ptsOf_eq h]; exact sortP_sorted _
theorem ptsOf_lt {l : List Int} (h : mayN l = true) {i j : Nat} (hij : i < j) (hj : j < (ptsOf l).length) : lessPt (gl (ptsOf l) i) (gl (ptsOf l) j) = true := by
  have h1 := List.pairwise_iff_getElem.1 (ptsOf_sorted h) i j (by omega) hj hij
  have h2 := List.pairwise_iff_getElem.1 (ptsOf_nodup h) i j (by omega) hj hij
  rw [gl_eq hj, gl_eq (show i < (ptsOf l).length by omega)]
  cases h3 : lessPt (ptsOf l)[i] (ptsOf l)[j] with
  | true => rfl
  | false => exact absurd (totPt _ _ (by rw [ltPt]; exact h3) (by rw [ltPt]; exact h1)) h2
/-- how often the first j are this one -/
def cntTo (L : List (Int × Int)) (e : Int × Int) : Nat → Nat
  | 0 => 0
  | j + 1 => cntTo L e j + if gl L j = e then 1 else 0
theorem cntTo_le (L : List (Int × Int)) (e : Int × Int) : ∀ j, cntTo L e j ≤ j
  | 0 => Nat.le_refl _
  | j + 1 => by
    have := cntTo_le L e j
    unfold cntTo; split <;> omega
theorem cntTo_eq (L : List (Int × Int)) (e : Int × Int) : ∀ j, j ≤ L.length → cntTo L e j = (L.take j).count e
  | 0, _ => by simp [cntTo]
  | j + 1, h => by
    rw [take_succ_gl (by omega), List.count_append, ← cntTo_eq L e j (by omega)]
    show cntTo L e j + (if gl L j = e then 1 else 0) = _
    by_cases hc : gl L j = e <;> simp [hc, List.count_singleton]
theorem cnt_one {l : List Int} (h : mayN l = true) {n : Int} {k : Nat} (hn : n ∈ l) (hk : k < 8) : cntTo (ptsOf l) (pointI n (k : Int), n) (ptsOf l).length = 1 := by
  rw [cntTo_eq _ _ _ (Nat.le_refl _), List.take_length]
  have hm := (ptsOf_perm h).mem_iff.2 (mem_rawPts hn hk)
  rw [(ptsOf_nodup h).count, if_pos hm]
/-- a node's own points -/
theorem raw_own {n : Int} : ∀ {l : List Int}, l.Nodup → n ∈ l → (rawPts l).filter (fun e => decide (e.2 = n)) = ptsN n 8
  | a :: r, h, hn => by
    obtain ⟨h1, h2⟩ := List.nodup_cons.1 h
    unfold rawPts
    rw [List.flatMap_cons, List.filter_append]
    by_cases e : a = n
    · subst e
      have e1 : (ptsN a 8).filter (fun e => decide (e.2 = a)) = ptsN a 8 := List.filter_eq_self.2 fun x hx => decide_eq_true (ptsN_snd hx)
      have e2 : (r.flatMap fun n => ptsN n 8).filter (fun e => decide (e.2 = a)) = [] := List.filter_eq_nil_iff.2 fun x hx => by
        obtain ⟨m, hm, hx⟩ := List.mem_flatMap.1 hx
        have := ptsN_snd hx
        simp only [decide_eq_true_eq]
        intro he
        exact h1 (by rw [← he, this]; exact hm)
      rw [e1, e2, List.append_nil]
    · have hr : n ∈ r := (List.mem_cons.1 hn).resolve_left fun h => e h.symm
      have e1 : (ptsN a 8).filter (fun e => decide (e.2 = n)) = [] := List.filter_eq_nil_iff.2 fun x hx => by
        simp only [decide_eq_true_eq]; rw [ptsN_snd hx]; exact e
      rw [e1, List.nil_append]
      exact raw_own h2 hr
theorem mayN_one {n : Int} (h1 : 1 ≤ n) (h2 : n ≤ 5) : mayN [n] = true := by simp [mayN, mayTo, mayAt, gl, h1, h2]
theorem own_same {l : List Int} (h : mayN l = true) {n : Int} (hn : n ∈ l) : (ptsOf l).filter (fun e => decide (e.2 = n)) = ptsOf [n] := by
  have hb := mayN_mem h hn
  have h1 := mayN_one hb.1 hb.2
  refine sorted_unique ((ptsOf_sorted h).filter _) (ptsOf_sorted h1) ?_
  refine ((ptsOf_perm h).filter _).trans ((List.Perm.of_eq (raw_own (mayN_nodup h) hn)).trans ((ptsOf_perm h1).trans (List.Perm.of_eq ?_)).symm)
  simp [rawPts]
end Go.Proofs.Ythofnohpdbbidaa
