/-
  A plan in plain Lean: its parts lie apart, tell the owners, and all else stays where it is. No program in sight.
-/
import Derived.Test.YthofnohpdbbidaaPlan
namespace Go.Proofs.Ythofnohpdbbidaa
open Go.Sx
set_option maxRecDepth 100000
set_option linter.unusedVariables false

/-! ### cuts -/

theorem comp_inv {l : List Int} (hs : Srt l 0 l.length) : ∀ q, q ≤ l.length → (compTo l q).Pairwise (· < ·) ∧ ∀ x, x ∈ compTo l q ↔ x ∈ l.take q
  | 0, _ => ⟨List.Pairwise.nil, fun x => by simp [compTo]⟩
  | q + 1, h => by
    obtain ⟨h1, h2⟩ := comp_inv hs q (by omega)
    have hq : q < l.length := by omega
    rw [take_succ_gl hq]
    by_cases c : q ≠ 0 ∧ gl l q = gl l (q - 1)
    · rw [comp_same c.1 c.2]
      refine ⟨h1, fun x => ?_⟩
      rw [h2, List.mem_append, List.mem_singleton]
      refine ⟨.inl, fun g => g.elim id fun e => ?_⟩
      rw [e, c.2]
      have : gl (l.take q) (q - 1) = gl l (q - 1) := gl_take (by omega)
      rw [← this]
      exact gl_mem (by rw [List.length_take]; omega)
    · have e : compTo l (q + 1) = compTo l q ++ [gl l q] := if_neg c
      rw [e]
      refine ⟨?_, fun x => by rw [List.mem_append, List.mem_append, h2]⟩
      rw [List.pairwise_append]
      refine ⟨h1, by simp, fun x hx y hy => ?_⟩
      rw [List.mem_singleton] at hy
      subst hy
      obtain ⟨i, hi, rfl⟩ := List.getElem_of_mem ((h2 x).1 hx)
      rw [List.length_take] at hi
      have e1 : (l.take q)[i] = gl l i := by rw [List.getElem_take, gl_eq]
      rw [e1]
      have hq0 : q ≠ 0 := by omega
      have ne : gl l q ≠ gl l (q - 1) := fun e => c ⟨hq0, e⟩
      have a1 : gl l (q - 1) ≤ gl l q := hs (q - 1) q (by omega) (by omega) hq
      have a2 : gl l i ≤ gl l (q - 1) := by
        by_cases e : i = q - 1
        · subst e; exact Int.le_refl _
        · exact hs i (q - 1) (by omega) (by omega) (by omega)
      omega
theorem comp_sorted {l : List Int} (hs : Srt l 0 l.length) : (compL l).Pairwise (· < ·) ∧ ∀ x, x ∈ compL l ↔ x ∈ l := by
  have := comp_inv hs l.length (Nat.le_refl _)
  rw [List.take_length] at this
  exact this
theorem cutsOf_lt {A B : List (Int × Int)} {i j : Nat} (hij : i < j) (hj : j < (cutsOf A B).length) : gl (cutsOf A B) i < gl (cutsOf A B) j := by
  have := List.pairwise_iff_getElem.1 (comp_sorted (sortU_srt (A.map Prod.fst ++ B.map Prod.fst ++ [maxU]))).1 i j (by unfold cutsOf at hj; omega) hj hij
  rw [gl_eq hj, gl_eq (show i < (cutsOf A B).length by omega)]
  exact this
theorem cutsOf_mem {A B : List (Int × Int)} {x : Int} : x ∈ cutsOf A B ↔ (∃ e ∈ A, e.1 = x) ∨ (∃ e ∈ B, e.1 = x) ∨ x = maxU := by
  unfold cutsOf
  rw [(comp_sorted (sortU_srt _)).2, (sortU_perm _).mem_iff, List.mem_append, List.mem_append, List.mem_map, List.mem_map, List.mem_singleton, or_assoc]
theorem cutsOf_comm (A B : List (Int × Int)) : cutsOf B A = cutsOf A B := by
  unfold cutsOf
  congr 1
  refine Srt.perm_eq (sortU_srt _) (sortU_srt _) ((sortU_perm _).trans (List.Perm.trans ?_ (sortU_perm _).symm))
  exact (List.perm_append_comm (l₁ := B.map Prod.fst)).append_right _
/-- hashes of points are numbers of 64 bits -/
def InU (A : List (Int × Int)) : Prop := ∀ e ∈ A, 0 ≤ e.1 ∧ e.1 ≤ maxU
theorem cutsOf_in {A B : List (Int × Int)} (hA : InU A) (hB : InU B) {i : Nat} (hi : i < (cutsOf A B).length) : 0 ≤ gl (cutsOf A B) i ∧ gl (cutsOf A B) i ≤ maxU := by
  rcases cutsOf_mem.1 (gl_mem hi) with ⟨e, h1, h2⟩ | ⟨e, h1, h2⟩ | h
  · rw [← h2]; exact hA e h1
  · rw [← h2]; exact hB e h1
  · rw [h]; unfold maxU; omega
theorem cutsOf_last (A B : List (Int × Int)) (hA : InU A) (hB : InU B) : 0 < (cutsOf A B).length ∧ gl (cutsOf A B) ((cutsOf A B).length - 1) = maxU := by
  have hm : maxU ∈ cutsOf A B := cutsOf_mem.2 (.inr (.inr rfl))
  have h0 := List.length_pos_of_mem hm
  refine ⟨h0, ?_⟩
  obtain ⟨i, hi, e⟩ := List.getElem_of_mem hm
  have h1 := (cutsOf_in hA hB (show (cutsOf A B).length - 1 < (cutsOf A B).length by omega)).2
  rw [← gl_eq hi] at e
  by_cases c : i = (cutsOf A B).length - 1
  · rw [← c]; exact e
  · have := cutsOf_lt (A := A) (B := B) (show i < (cutsOf A B).length - 1 by omega) (by omega)
    omega

/-! ### between cuts owners stay -/

theorem find_congr {α : Type} {p q : α → Bool} : ∀ {l : List α}, (∀ x ∈ l, p x = q x) → l.find? p = l.find? q
  | [], _ => rfl
  | a :: r, h => by
    rw [List.find?_cons, List.find?_cons, h a List.mem_cons_self, find_congr fun x hx => h x (List.mem_cons_of_mem _ hx)]
theorem own_same_at {A : List (Int × Int)} {h to : Int} (hh : ∀ e ∈ A, e.1 < h ∨ to ≤ e.1) (hle : h ≤ to) : ownP A h = ownP A to := by
  unfold ownP
  rw [find_congr (q := fun e => decide (to ≤ e.1)) fun e he => ?_]
  have := hh e he
  by_cases c : to ≤ e.1
  · rw [decide_eq_true c, decide_eq_true (show h ≤ e.1 by omega)]
  · rw [decide_eq_false c, decide_eq_false (show ¬ h ≤ e.1 by omega)]

/-! ### a plan is right -/

theorem w64_id {x : Int} (h0 : 0 ≤ x) (h1 : x ≤ maxU) : w64 x = x := by
  show x % 18446744073709551616 = x
  unfold maxU at h1
  omega
structure GoodP (A B : List (Int × Int)) (l : List MvR) (c : Int) : Prop where
  le : ∀ k, k < l.length → 0 ≤ (gl l k).f ∧ (gl l k).f ≤ (gl l k).t ∧ (gl l k).t < c ∧ (gl l k).s ≠ (gl l k).d
  ap : ∀ k, k + 1 < l.length → (gl l k).t < (gl l (k + 1)).f ∧ ¬ ((gl l k).t + 1 = (gl l (k + 1)).f ∧ (gl l k).s = (gl l (k + 1)).s ∧ (gl l k).d = (gl l (k + 1)).d)
  own : ∀ k, k < l.length → ∀ h, (gl l k).f ≤ h → h ≤ (gl l k).t → ownP A h = (gl l k).s ∧ ownP B h = (gl l k).d
  out : ∀ h, 0 ≤ h → h < c → (∀ k, k < l.length → ¬ ((gl l k).f ≤ h ∧ h ≤ (gl l k).t)) → ownP A h = ownP B h
def nxtC (C : List Int) (i : Nat) : Int := if i = 0 then 0 else gl C (i - 1) + 1
theorem good_step {A B : List (Int × Int)} {y : PlS} {c to : Int} (hg : GoodP A B y.l c) (hf : y.from_ = c) (h0 : 0 ≤ c) (hto : c ≤ to) (hm : to ≤ maxU)
    (hA : ∀ h, c ≤ h → h ≤ to → ownP A h = ownP A to) (hB : ∀ h, c ≤ h → h ≤ to → ownP B h = ownP B to) : GoodP A B (stepP A B y to).l (to + 1) := by
  obtain ⟨l, from_⟩ := y
  dsimp only at hg hf
  subst hf
  unfold stepP
  dsimp only
  by_cases e : ownP A to = ownP B to
  · rw [if_pos e]
    show GoodP A B l (to + 1)
    refine ⟨fun k hk => ?_, hg.ap, hg.own, fun h g1 g2 g3 => ?_⟩
    · have := hg.le k hk; exact ⟨this.1, this.2.1, by omega, this.2.2.2⟩
    · by_cases c1 : h < from_
      · exact hg.out h g1 c1 g3
      · rw [hA h (by omega) (by omega), hB h (by omega) (by omega)]; exact e
  · rw [if_neg e]
    by_cases j : joins A B ⟨l, from_⟩ to
    · rw [if_pos j]
      obtain ⟨j1, j2, j3, j4⟩ := j
      dsimp only at j1 j2 j3 j4 ⊢
      have hlast := hg.le (l.length - 1) (by omega)
      have el : gl l (l.length - 1) = lastM l := rfl
      rw [el] at hlast
      have j2 : (lastM l).t + 1 = from_ := by
        rw [w64_id (by omega) (by omega)] at j2
        exact j2
      have hlen : (l.set (l.length - 1) (⟨(lastM l).f, to, (lastM l).s, (lastM l).d⟩ : MvR)).length = l.length := List.length_set
      have gs : gl (l.set (l.length - 1) (⟨(lastM l).f, to, (lastM l).s, (lastM l).d⟩ : MvR)) (l.length - 1) = ⟨(lastM l).f, to, (lastM l).s, (lastM l).d⟩ := gl_set_self (by omega)
      have gn : ∀ k, k ≠ l.length - 1 → gl (l.set (l.length - 1) (⟨(lastM l).f, to, (lastM l).s, (lastM l).d⟩ : MvR)) k = gl l k := fun k hk => gl_set_ne fun h => hk h.symm
      generalize l.set (l.length - 1) (⟨(lastM l).f, to, (lastM l).s, (lastM l).d⟩ : MvR) = l2 at *
      refine ⟨fun k hk => ?_, fun k hk => ?_, fun k hk h g1 g2 => ?_, fun h g1 g2 g3 => ?_⟩
      · by_cases ek : k = l.length - 1
        · subst ek; rw [gs]; dsimp only; exact ⟨hlast.1, by omega, by omega, hlast.2.2.2⟩
        · rw [gn k ek]; have := hg.le k (by omega); exact ⟨this.1, this.2.1, by omega, this.2.2.2⟩
      · have a := hg.ap k (by omega)
        rw [gn k (by omega)]
        by_cases ek : k + 1 = l.length - 1
        · rw [ek] at a ⊢; rw [gs]; exact a
        · rw [gn _ ek]; exact a
      · by_cases ek : k = l.length - 1
        · subst ek
          rw [gs] at g1 g2 ⊢
          dsimp only at g1 g2 ⊢
          by_cases c1 : h ≤ (lastM l).t
          · exact hg.own (l.length - 1) (by omega) h g1 c1
          · rw [hA h (by omega) g2, hB h (by omega) g2]; exact ⟨j3.symm, j4.symm⟩
        · rw [gn k ek] at g1 g2 ⊢; exact hg.own k (by omega) h g1 g2
      · have h2 := g3 (l.length - 1) (by omega)
        rw [gs] at h2
        dsimp only at h2
        refine hg.out h g1 (by omega) fun k hk => ?_
        by_cases ek : k = l.length - 1
        · subst ek; rw [el]; omega
        · have := g3 k (by omega); rw [gn k ek] at this; exact this
    · rw [if_neg j]
      dsimp only
      have hlen : (l ++ [(⟨from_, to, ownP A to, ownP B to⟩ : MvR)]).length = l.length + 1 := by simp
      have gs : gl (l ++ [(⟨from_, to, ownP A to, ownP B to⟩ : MvR)]) l.length = ⟨from_, to, ownP A to, ownP B to⟩ := by
        rw [gl_append_right (Nat.le_refl _), Nat.sub_self]; rfl
      have gn : ∀ k, k < l.length → gl (l ++ [(⟨from_, to, ownP A to, ownP B to⟩ : MvR)]) k = gl l k := fun k hk => gl_append_left hk
      generalize l ++ [(⟨from_, to, ownP A to, ownP B to⟩ : MvR)] = l2 at *
      refine ⟨fun k hk => ?_, fun k hk => ?_, fun k hk h g1 g2 => ?_, fun h g1 g2 g3 => ?_⟩
      · by_cases ek : k = l.length
        · subst ek; rw [gs]; dsimp only; exact ⟨h0, hto, by omega, e⟩
        · rw [gn k (by omega)]; have := hg.le k (by omega); exact ⟨this.1, this.2.1, by omega, this.2.2.2⟩
      · rw [gn k (by omega)]
        by_cases ek : k + 1 = l.length
        · rw [ek, gs]
          dsimp only
          have hk' : k = l.length - 1 := by omega
          have a := hg.le k (by omega)
          refine ⟨by omega, fun g => j ⟨by dsimp only; omega, ?_, ?_, ?_⟩⟩
          · show w64 ((lastM l).t + 1) = from_
            unfold lastM
            rw [← hk', w64_id (by omega) (by omega)]
            exact g.1
          · show (lastM l).s = _
            unfold lastM; rw [← hk']; exact g.2.1
          · show (lastM l).d = _
            unfold lastM; rw [← hk']; exact g.2.2
        · rw [gn _ (by omega)]; exact hg.ap k (by omega)
      · by_cases ek : k = l.length
        · subst ek
          rw [gs] at g1 g2 ⊢
          dsimp only at g1 g2 ⊢
          exact ⟨hA h g1 g2, hB h g1 g2⟩
        · rw [gn k (by omega)] at g1 g2 ⊢; exact hg.own k (by omega) h g1 g2
      · have h2 := g3 l.length (by omega)
        rw [gs] at h2
        dsimp only at h2
        refine hg.out h g1 (by omega) fun k hk => ?_
        have := g3 k (by omega); rw [gn k hk] at this; exact this
theorem step_from (A B : List (Int × Int)) (y : PlS) (to : Int) : (stepP A B y to).from_ = w64 (to + 1) := by
  unfold stepP
  split
  · rfl
  · split <;> rfl
theorem plan_inv {A B : List (Int × Int)} (hA : InU A) (hB : InU B) : ∀ i, i ≤ (cutsOf A B).length →
    GoodP A B (planTo A B (cutsOf A B) i).l (nxtC (cutsOf A B) i) ∧ (i < (cutsOf A B).length → (planTo A B (cutsOf A B) i).from_ = nxtC (cutsOf A B) i)
  | 0, _ => ⟨⟨fun k hk => absurd hk (Nat.not_lt_zero _), fun k hk => absurd hk (Nat.not_lt_zero _), fun k hk => absurd hk (Nat.not_lt_zero _), fun h g1 g2 => absurd g2 (by show ¬ h < 0; omega)⟩, fun _ => rfl⟩
  | i + 1, hi => by
    obtain ⟨h1, h2⟩ := plan_inv hA hB i (by omega)
    have hlt : i < (cutsOf A B).length := by omega
    have hin := cutsOf_in hA hB hlt
    have hn : nxtC (cutsOf A B) (i + 1) = gl (cutsOf A B) i + 1 := by
      unfold nxtC; rw [if_neg (by omega), Nat.add_sub_cancel]
    have hc : 0 ≤ nxtC (cutsOf A B) i ∧ nxtC (cutsOf A B) i ≤ gl (cutsOf A B) i := by
      unfold nxtC
      by_cases e : i = 0
      · rw [if_pos e]; exact ⟨Int.le_refl _, hin.1⟩
      · rw [if_neg e]
        have a := cutsOf_lt (A := A) (B := B) (show i - 1 < i by omega) hlt
        have b := cutsOf_in hA hB (show i - 1 < (cutsOf A B).length by omega)
        omega
    -- no cut lies between
    have gap : ∀ x ∈ cutsOf A B, ∀ h, nxtC (cutsOf A B) i ≤ h → x < h ∨ gl (cutsOf A B) i ≤ x := fun x hx h hh => by
      obtain ⟨j, hj, e⟩ := List.getElem_of_mem hx
      rw [← gl_eq hj] at e
      by_cases c : j < i
      · left
        unfold nxtC at hh
        rw [if_neg (by omega)] at hh
        by_cases c2 : j = i - 1
        · rw [← e, c2]; omega
        · have := cutsOf_lt (A := A) (B := B) (show j < i - 1 by omega) (by omega)
          omega
      · right
        by_cases c2 : j = i
        · rw [← e, c2]; exact Int.le_refl _
        · have := cutsOf_lt (A := A) (B := B) (show i < j by omega) hj
          omega
    refine ⟨?_, fun hlt2 => ?_⟩
    · rw [hn]
      exact good_step h1 (h2 hlt) hc.1 hc.2 hin.2
        (fun h g1 g2 => own_same_at (fun e he => gap e.1 (cutsOf_mem.2 (.inl ⟨e, he, rfl⟩)) h g1) g2)
        (fun h g1 g2 => own_same_at (fun e he => gap e.1 (cutsOf_mem.2 (.inr (.inl ⟨e, he, rfl⟩))) h g1) g2)
    · rw [hn]
      show (stepP A B _ _).from_ = _
      rw [step_from]
      have a := cutsOf_lt (A := A) (B := B) (show i < i + 1 by omega) hlt2
      have b := cutsOf_in hA hB hlt2
      rw [w64_id (by omega) (by omega)]
theorem plan_good {A B : List (Int × Int)} (hA : InU A) (hB : InU B) : GoodP A B (planL A B) (maxU + 1) := by
  have h := (plan_inv hA hB (cutsOf A B).length (Nat.le_refl _)).1
  obtain ⟨h0, h1⟩ := cutsOf_last A B hA hB
  have e : nxtC (cutsOf A B) (cutsOf A B).length = maxU + 1 := by
    unfold nxtC; rw [if_neg (by omega), h1]
  rw [e] at h
  exact h
/-! ### what it tells of a hash -/

theorem cov_some {l : List MvR} {h : Int} {m : MvR} (e : l.find? (inM h) = some m) : covB l h = true ∧ covM l h = m := by
  unfold covB covM; rw [e]; exact ⟨rfl, rfl⟩
theorem cov_none {l : List MvR} {h : Int} (e : l.find? (inM h) = none) : covB l h = false ∧ covM l h = ⟨0, 0, 0, 0⟩ := by
  unfold covB covM; rw [e]; exact ⟨rfl, rfl⟩
theorem inM_iff {h : Int} {m : MvR} : inM h m = true ↔ m.f ≤ h ∧ h ≤ m.t := by
  unfold inM; rw [Bool.and_eq_true, decide_eq_true_eq, decide_eq_true_eq]
theorem cov_law {A B : List (Int × Int)} {l : List MvR} (hg : GoodP A B l (maxU + 1)) {h : Int} (h0 : 0 ≤ h) (h1 : h ≤ maxU) :
    (covB l h = true ∧ ownP A h ≠ ownP B h ∧ (covM l h).f ≤ h ∧ h ≤ (covM l h).t ∧ (covM l h).s = ownP A h ∧ (covM l h).d = ownP B h) ∨ (covB l h = false ∧ ownP A h = ownP B h ∧ covM l h = ⟨0, 0, 0, 0⟩) := by
  cases e : l.find? (inM h) with
  | some m =>
    obtain ⟨c1, c2⟩ := cov_some e
    have hm := List.mem_of_find?_eq_some e
    have hi := inM_iff.1 (List.find?_some e)
    obtain ⟨k, hk, ek⟩ := List.getElem_of_mem hm
    rw [← gl_eq hk] at ek
    have ho := hg.own k hk h (by rw [ek]; exact hi.1) (by rw [ek]; exact hi.2)
    have hl := hg.le k hk
    rw [ek] at ho hl
    refine .inl ⟨c1, ?_, ?_⟩
    · rw [ho.1, ho.2]; exact hl.2.2.2
    · rw [c2]; exact ⟨hi.1, hi.2, ho.1.symm, ho.2.symm⟩
  | none =>
    obtain ⟨c1, c2⟩ := cov_none e
    refine .inr ⟨c1, hg.out h h0 (by omega) fun k hk g => ?_, c2⟩
    have := List.find?_eq_none.1 e (gl l k) (gl_mem hk)
    exact this (inM_iff.2 g)
theorem in_u64 (a b : Int) : 0 ≤ x64 a b ∧ x64 a b ≤ maxU := InR_wrap .u64 _
theorem point_in (n i : Int) : 0 ≤ pointI n i ∧ pointI n i ≤ maxU := in_u64 _ _
theorem pts_in {l : List Int} (h : mayN l = true) : InU (ptsOf l) := fun e he => by
  obtain ⟨n, _, h2⟩ := List.mem_flatMap.1 ((ptsOf_perm h).mem_iff.1 he)
  obtain ⟨j, _, rfl⟩ := List.mem_map.1 h2
  exact point_in _ _

/-! ### the other way, and nowhere -/

def swapM (m : MvR) : MvR := ⟨m.f, m.t, m.d, m.s⟩
def swapS (y : PlS) : PlS := ⟨y.l.map swapM, y.from_⟩
theorem gl_swapM {l : List MvR} {k : Nat} (h : k < l.length) : gl (l.map swapM) k = swapM (gl l k) := gl_map h
theorem step_swap (A B : List (Int × Int)) (y : PlS) (to : Int) : stepP B A (swapS y) to = swapS (stepP A B y to) := by
  obtain ⟨l, from_⟩ := y
  unfold stepP swapS
  dsimp only
  have hj : joins B A ⟨l.map swapM, from_⟩ to ↔ joins A B ⟨l, from_⟩ to := by
    unfold joins
    dsimp only
    rw [List.length_map]
    by_cases h0 : 0 < l.length
    · have e : lastM (l.map swapM) = swapM (lastM l) := by
        unfold lastM
        rw [List.length_map]
        exact gl_swapM (by omega)
      rw [e]
      show 0 < l.length ∧ w64 ((lastM l).t + 1) = from_ ∧ (lastM l).d = ownP B to ∧ (lastM l).s = ownP A to ↔ _
      exact ⟨fun g => ⟨g.1, g.2.1, g.2.2.2, g.2.2.1⟩, fun g => ⟨g.1, g.2.1, g.2.2.2, g.2.2.1⟩⟩
    · exact ⟨fun g => absurd g.1 h0, fun g => absurd g.1 h0⟩
  by_cases e : ownP A to = ownP B to
  · rw [if_pos e.symm, if_pos e]
  · rw [if_neg (fun g => e g.symm), if_neg e]
    by_cases j : joins A B ⟨l, from_⟩ to
    · rw [if_pos (hj.2 j), if_pos j]
      have h0 := j.1
      dsimp only at h0 ⊢
      have el : lastM (l.map swapM) = swapM (lastM l) := by
        unfold lastM
        rw [List.length_map]
        exact gl_swapM (by omega)
      rw [el, List.length_map, List.map_set]
      rfl
    · rw [if_neg (fun g => j (hj.1 g)), if_neg j]
      dsimp only
      rw [List.map_append]
      rfl
theorem planTo_swap (A B : List (Int × Int)) (C : List Int) : ∀ i, planTo B A C i = swapS (planTo A B C i)
  | 0 => rfl
  | i + 1 => by
    show stepP B A (planTo B A C i) (gl C i) = swapS (stepP A B (planTo A B C i) (gl C i))
    rw [planTo_swap A B C i, step_swap]
theorem plan_swap (A B : List (Int × Int)) : planL B A = (planL A B).map swapM := by
  unfold planL
  rw [cutsOf_comm, planTo_swap]
  rfl
theorem planTo_same (A : List (Int × Int)) (C : List Int) : ∀ i, (planTo A A C i).l = []
  | 0 => rfl
  | i + 1 => by
    show (stepP A A (planTo A A C i) (gl C i)).l = []
    unfold stepP
    rw [if_pos rfl]
    exact planTo_same A C i
theorem plan_same (A : List (Int × Int)) : planL A A = [] := planTo_same A _ _

theorem plan_len (A B : List (Int × Int)) : (planL A B).length ≤ A.length + B.length + 1 :=
  Nat.le_trans (planTo_len A B _ _) (cutsOf_len A B)

/-! ### sides -/

theorem good_pair {A B : List (Int × Int)} {l : List MvR} {c : Int} (hg : GoodP A B l c) : l.Pairwise fun a b => a.t < b.f := by
  refine List.pairwise_iff_getElem.2 fun i j hi hj hij => ?_
  have go : ∀ j, i < j → j < l.length → (gl l i).t < (gl l j).f := fun j => by
    induction j with
    | zero => intro h; omega
    | succ j ih =>
      intro h1 h2
      have a := (hg.ap j (by omega)).1
      by_cases e : i = j
      · subst e; exact a
      · have b := ih (by omega) (by omega)
        have c := hg.le j (by omega)
        omega
  have := go j hij hj
  rwa [gl_eq hi, gl_eq hj] at this
theorem cnt_split (l : List Int) (n : Int) : (l.filter fun x => decide (x < n + 1)).length = (l.filter fun x => decide (x < n)).length + (l.filter fun x => decide (x = n)).length := by
  induction l with
  | nil => rfl
  | cons a r ih =>
    rw [List.filter_cons, List.filter_cons, List.filter_cons]
    by_cases c1 : a < n
    · rw [if_pos (by simpa using (show a < n + 1 by omega)), if_pos (by simpa using c1), if_neg (by simpa using (show ¬ a = n by omega)), List.length_cons, List.length_cons, ih]; omega
    · by_cases c2 : a = n
      · rw [if_pos (by simpa using (show a < n + 1 by omega)), if_neg (by simpa using c1), if_pos (by simpa using c2), List.length_cons, List.length_cons, ih]; omega
      · rw [if_neg (by simpa using (show ¬ a < n + 1 by omega)), if_neg (by simpa using c1), if_neg (by simpa using c2), ih]
/-- so many go from a node below n, so many go to one -/
def cntS (l : List MvR) (n : Int) : Nat := ((l.map MvR.s).filter fun x => decide (x < n)).length
def cntD (l : List MvR) (n : Int) : Nat := ((l.map MvR.d).filter fun x => decide (x < n)).length
theorem cntS_next (l : List MvR) (n : Int) : cntS l (n + 1) = cntS l n + (fromL l n).length := by
  unfold cntS fromL
  have e : ((l.map MvR.s).filter fun x => decide (x = n)).length = (l.filter fun m => decide (m.s = n)).length := by rw [List.filter_map, List.length_map]; rfl
  rw [cnt_split, e]
theorem cntD_next (l : List MvR) (n : Int) : cntD l (n + 1) = cntD l n + (toL l n).length := by
  unfold cntD toL
  have e : ((l.map MvR.d).filter fun x => decide (x = n)).length = (l.filter fun m => decide (m.d = n)).length := by rw [List.filter_map, List.length_map]; rfl
  rw [cnt_split, e]
theorem cnt_all {l : List Int} {n : Int} (h : ∀ x ∈ l, x < n) : (l.filter fun x => decide (x < n)).length = l.length := by
  rw [List.filter_eq_self.2 fun x hx => by simpa using h x hx]
theorem cnt_none {l : List Int} {n : Int} (h : ∀ x ∈ l, n ≤ x) : (l.filter fun x => decide (x < n)).length = 0 := by
  rw [List.filter_eq_nil_iff.2 fun x hx => by have := h x hx; simp; omega]; rfl
theorem plan_nodes {l m : List Int} (hl : mayN l = true) (hm : mayN m = true) : ∀ x ∈ planL (ptsOf l) (ptsOf m), x.s ∈ l ∧ x.d ∈ m := fun x hx => by
  have hg := plan_good (pts_in hl) (pts_in hm)
  obtain ⟨k, hk, e⟩ := List.getElem_of_mem hx
  rw [← gl_eq hk] at e
  have h1 := hg.le k hk
  have h2 := hg.own k hk (gl (planL (ptsOf l) (ptsOf m)) k).f (Int.le_refl _) h1.2.1
  rw [e] at h2
  exact ⟨h2.1 ▸ own_mem hl _, h2.2 ▸ own_mem hm _⟩

/-! ### a node more -/

theorem point_once {n : Int} (h1 : 1 ≤ n) (h2 : n ≤ 5) : ∀ m : Int, 1 ≤ m → m ≤ 5 → ∀ j : Nat, j < 8 → pointI m (j : Int) = pointI n 0 → m = n := by
  have go : ∀ a, a < 5 → ∀ b, b < 5 → ∀ j, j < 8 → pointI ((b : Nat) + 1 : Int) (j : Nat) = pointI ((a : Nat) + 1 : Int) 0 → b = a := by decide +kernel
  intro m h3 h4 j hj e
  have := go (n - 1).toNat (by omega) (m - 1).toNat (by omega) j hj (by
    rw [show (((m - 1).toNat : Nat) + 1 : Int) = m by omega, show (((n - 1).toNat : Nat) + 1 : Int) = n by omega]; exact e)
  omega
theorem own_point {m : List Int} (hm : mayN m = true) {n : Int} (hn : n ∈ m) : ownP (ptsOf m) (pointI n 0) = n := by
  have hb := mayN_mem hm hn
  have hmem : (pointI n 0, n) ∈ ptsOf m := (ptsOf_perm hm).mem_iff.2 (mem_rawPts (k := 0) hn (by omega))
  unfold ownP
  cases e : (ptsOf m).find? (fun e => decide (pointI n 0 ≤ e.1)) with
  | none =>
    have := List.find?_eq_none.1 e _ hmem
    simp at this
  | some x =>
    dsimp only
    obtain ⟨hp, us, vs, es, ha⟩ := List.find?_eq_some_iff_append.1 e
    have hx := List.mem_of_find?_eq_some e
    have hp : pointI n 0 ≤ x.1 := by simpa using hp
    -- it does not stand behind that one
    have hle : lessPt (pointI n 0, n) x = false := by
      have hs := ptsOf_sorted hm
      rw [es] at hs hmem
      rw [List.mem_append, List.mem_cons] at hmem
      rcases hmem with g | g | g
      · have := ha _ g
        simp at this
      · rw [g, lessPt_not]; omega
      · exact (List.pairwise_cons.1 (List.pairwise_append.1 hs).2.1).1 _ g
    rw [lessPt_not] at hle
    dsimp only at hle
    have e1 : x.1 = pointI n 0 := by omega
    obtain ⟨q, h3, h4⟩ := List.mem_flatMap.1 ((ptsOf_perm hm).mem_iff.1 hx)
    obtain ⟨j, h5, h6⟩ := List.mem_map.1 h4
    have hq := mayN_mem hm h3
    rw [← h6] at e1 ⊢
    exact point_once hb.1 hb.2 q hq.1 hq.2 j (List.mem_range.1 h5) e1
theorem plan_more {l m : List Int} {node : Int} (hl : mayN l = true) (hm : mayN m = true) (hn : node ∉ l) (h : ∀ n, n ∈ m ↔ n ∈ l ∨ n = node) :
    0 < (planL (ptsOf l) (ptsOf m)).length ∧ ∀ x ∈ planL (ptsOf l) (ptsOf m), x.d = node := by
  have hg := plan_good (pts_in hl) (pts_in hm)
  refine ⟨?_, fun x hx => ?_⟩
  · have hp := point_in node 0
    have e1 := own_point hm ((h node).2 (.inr rfl))
    have e2 := own_mem hl (pointI node 0)
    rcases cov_law hg hp.1 hp.2 with ⟨c, _⟩ | ⟨_, c, _⟩
    · by_cases z : 0 < (planL (ptsOf l) (ptsOf m)).length
      · exact z
      · have : planL (ptsOf l) (ptsOf m) = [] := List.eq_nil_of_length_eq_zero (by omega)
        rw [this] at c; cases c
    · rw [e1] at c
      rw [c] at e2
      exact absurd e2 hn
  · obtain ⟨k, hk, e⟩ := List.getElem_of_mem hx
    rw [← gl_eq hk] at e
    have h1 := hg.le k hk
    have h2 := hg.own k hk (gl (planL (ptsOf l) (ptsOf m)) k).f (Int.le_refl _) h1.2.1
    have h3 := own_join hl hm hn h (gl (planL (ptsOf l) (ptsOf m)) k).f
    rw [e] at h1 h2 h3
    rw [← h2.2]
    refine h3.1.resolve_left fun g => h1.2.2.2 ?_
    rw [← h2.1, ← h2.2, g]
end Go.Proofs.Ythofnohpdbbidaa
