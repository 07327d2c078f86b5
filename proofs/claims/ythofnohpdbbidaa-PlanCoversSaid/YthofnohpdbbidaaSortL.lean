/-
  Lists whose entries change places; a range in order. Plain Lean, no program in sight.
-/
import Derived.Test.YthofnohpdbbidaaK
import Derived.Test.YthofnohpdbbidaaSxZ
namespace Go.Proofs.Ythofnohpdbbidaa
open Go.Sx
set_option maxRecDepth 100000
set_option linter.unusedVariables false

def encU (x : Int) : List Value := [.int .u64 x]
/-- two change places -/
def swpL (l : List Int) (i j : Nat) : List Int := (l.set i (gl l j)).set j (gl l i)
theorem swpL_length (l : List Int) (i j : Nat) : (swpL l i j).length = l.length := by simp [swpL]
theorem gl_swp {l : List Int} {i j : Nat} (hi : i < l.length) (hj : j < l.length) (k : Nat) : gl (swpL l i j) k = if k = j then gl l i else if k = i then gl l j else gl l k := by
  unfold swpL
  by_cases h1 : k = j
  · subst h1; rw [if_pos rfl, gl_set_self (by simpa using hj)]
  · rw [if_neg h1, gl_set_ne fun h => h1 h.symm]
    by_cases h2 : k = i
    · subst h2; rw [if_pos rfl, gl_set_self hi]
    · rw [if_neg h2, gl_set_ne fun h => h2 h.symm]
theorem swpL_perm {l : List Int} {i j : Nat} (hi : i < l.length) (hj : j < l.length) : (swpL l i j).Perm l := by
  refine List.perm_iff_count.2 fun x => ?_
  unfold swpL
  rw [List.count_set (by simpa using hj), List.count_set hi]
  have e1 : l[i] = gl l i := (gl_eq hi).symm
  have e3 : (l.set i (gl l j))[j]'(by simpa using hj) = gl l j := by
    by_cases h : i = j
    · subst h; simp
    · rw [List.getElem_set_ne h, ← gl_eq hj]
  rw [e1, e3]
  have h1 : gl l i = x → 0 < l.count x := fun h => List.count_pos_iff.2 (h ▸ gl_mem hi)
  simp only [beq_iff_eq]
  by_cases c1 : gl l i = x <;> by_cases c2 : gl l j = x <;> simp [c1, c2]
  all_goals (have := h1 c1; omega)
/-- the rows are those of the list with two changed -/
theorem rows_swap {m : List Int} {n i j : Nat} (hi : i < m.length) (hj : j < m.length) {x y : Int} (hx : x = gl m j) (hy : y = gl m i) :
    RowsEq n 1 (updR (updR (encRows encU m) i 0 [Go.Value.int .u64 x]) j 0 [Go.Value.int .u64 y]) (encRows encU (swpL m i j)) := by
  subst hx hy
  refine .of_cells fun k hk => ?_
  show [_] = [_]
  congr 1
  show _ = Go.Value.int .u64 (gl (swpL m i j) k)
  rw [gl_swp hi hj]
  by_cases h1 : k = j
  · subst h1; rw [if_pos rfl, updR_self]; rfl
  · rw [if_neg h1, updR_other h1]
    by_cases h2 : k = i
    · subst h2; rw [if_pos rfl, updR_self]; rfl
    · rw [if_neg h2, updR_other h2]; rfl

/-- entries of a range have changed places -/
inductive PR (a b : Nat) : List Int → List Int → Prop where
  | refl (l : List Int) : PR a b l l
  | step {l m : List Int} {i j : Nat} : PR a b l m → a ≤ i → i < b → a ≤ j → j < b → b ≤ m.length → PR a b l (swpL m i j)
theorem PR.length {a b : Nat} {l m : List Int} (h : PR a b l m) : m.length = l.length := by
  induction h with
  | refl => rfl
  | step _ _ _ _ _ _ ih => rw [swpL_length, ih]
theorem PR.perm {a b : Nat} {l m : List Int} (h : PR a b l m) : m.Perm l := by
  induction h with
  | refl => exact .refl _
  | step _ h1 h2 h3 h4 h5 ih => exact (swpL_perm (by omega) (by omega)).trans ih
theorem PR.out {a b : Nat} {l m : List Int} (h : PR a b l m) {k : Nat} (hk : k < a ∨ b ≤ k) : gl m k = gl l k := by
  induction h with
  | refl => rfl
  | step _ h1 h2 h3 h4 h5 ih => rw [gl_swp (by omega) (by omega), if_neg (by omega), if_neg (by omega), ih]
theorem PR.inc {a b : Nat} {l m : List Int} (h : PR a b l m) : ∀ k, a ≤ k → k < b → ∃ k', a ≤ k' ∧ k' < b ∧ gl m k = gl l k' := by
  induction h with
  | refl => exact fun k h1 h2 => ⟨k, h1, h2, rfl⟩
  | @step m i j _ h1 h2 h3 h4 h5 ih =>
    intro k hk1 hk2
    rw [gl_swp (by omega) (by omega)]
    by_cases c1 : k = j
    · rw [if_pos c1]; exact ih i h1 h2
    · rw [if_neg c1]
      by_cases c2 : k = i
      · rw [if_pos c2]; exact ih j h3 h4
      · rw [if_neg c2]; exact ih k hk1 hk2
theorem PR.trans {a b : Nat} {l m n : List Int} (h1 : PR a b l m) (h2 : PR a b m n) : PR a b l n := by
  induction h2 with
  | refl => exact h1
  | step _ g1 g2 g3 g4 g5 ih => exact .step ih g1 g2 g3 g4 g5
theorem PR.mono {a b c d : Nat} {l m : List Int} (h : PR a b l m) (h1 : c ≤ a) (h2 : b ≤ d) (h3 : d ≤ l.length) : PR c d l m := by
  induction h with
  | refl => exact .refl _
  | step g g1 g2 g3 g4 g5 ih => exact .step ih (by omega) (by omega) (by omega) (by omega) (by rw [g.length]; exact h3)
/-- what holds of all of a range holds of all of it behind -/
theorem PR.all {a b : Nat} {l m : List Int} (h : PR a b l m) {P : Int → Prop} (hp : ∀ k, a ≤ k → k < b → P (gl l k)) : ∀ k, a ≤ k → k < b → P (gl m k) := fun k h1 h2 => by
  obtain ⟨k', g1, g2, e⟩ := h.inc k h1 h2
  rw [e]; exact hp k' g1 g2

/-- a range is in order -/
def Srt (l : List Int) (a b : Nat) : Prop := ∀ i j, a ≤ i → i < j → j < b → gl l i ≤ gl l j
theorem Srt.perm_eq {l m : List Int} (h1 : Srt l 0 l.length) (h2 : Srt m 0 m.length) (h : l.Perm m) : l = m := by
  have go : ∀ l : List Int, Srt l 0 l.length → l.Pairwise (· ≤ ·) := fun l h => List.pairwise_iff_getElem.2 fun i j hi hj hij => by
    have := h i j (Nat.zero_le _) hij hj
    rwa [gl_eq hi, gl_eq hj] at this
  exact List.Perm.eq_of_pairwise (le := (· ≤ ·)) (fun a b _ _ h3 h4 => Int.le_antisymm h3 h4) (go l h1) (go m h2) h
end Go.Proofs.Ythofnohpdbbidaa
