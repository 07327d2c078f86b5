/-
  Owners and nodes by bits in plain Lean: the first point at a hash or above is the least one; a node more takes, and gives none. No program in sight.
-/
import Derived.Test.YthofnohpdbbidaaRing
namespace Go.Proofs.Ythofnohpdbbidaa
open Go.Sx
set_option maxRecDepth 100000
set_option linter.unusedVariables false

theorem lessPt_iff {x y : Int × Int} : lessPt x y = true ↔ (x.1 < y.1 ∨ x.1 = y.1 ∧ x.2 < y.2) := by simp [lessPt]
theorem lessPt_not {x y : Int × Int} : lessPt x y = false ↔ ¬ (x.1 < y.1 ∨ x.1 = y.1 ∧ x.2 < y.2) := by
  rw [← lessPt_iff]; simp
theorem lessPt_tot {x y : Int × Int} (h1 : lessPt x y = false) (h2 : lessPt y x = false) : x = y := by
  rw [lessPt_not] at *
  exact Prod.ext (by omega) (by omega)

/-! ### the least one -/

theorem minE_take {M : List (Int × Int)} (hM : ∀ e ∈ M, 1 ≤ e.2) : ∀ k, k ≤ M.length →
    k = 0 ∧ minE (M.take k) = (0, 0) ∨ 0 < k ∧ minE (M.take k) ∈ M ∧ ∀ j, j < k → lessPt (gl M j) (minE (M.take k)) = false
  | 0, _ => .inl ⟨rfl, rfl⟩
  | k + 1, h => by
    have hk : k < M.length := by omega
    have ih := minE_take hM k (by omega)
    have hg := gl_mem hk
    have he := hM _ hg
    rw [take_succ_gl hk, minE_push]
    generalize minE (M.take k) = a at *
    refine .inr ⟨by omega, ?_⟩
    rcases ih with ⟨h0, rfl⟩ | ⟨h0, h1, h2⟩
    · subst h0
      refine ⟨by simpa [stepE] using hg, fun j hj => ?_⟩
      have : j = 0 := by omega
      subst this
      rw [lessPt_not]
      simp only [stepE, if_true, true_or]
      omega
    · have ha := hM _ h1
      by_cases c : (gl M k).1 < a.1 ∨ (gl M k).1 = a.1 ∧ (gl M k).2 < a.2
      · have e : stepE a (gl M k) = gl M k := if_pos (.inr c)
        rw [e]
        refine ⟨hg, fun j hj => ?_⟩
        by_cases ej : j = k
        · subst ej; rw [lessPt_not]; omega
        · have := h2 j (by omega)
          rw [lessPt_not] at *
          omega
      · have e : stepE a (gl M k) = a := if_neg (by omega)
        rw [e]
        refine ⟨h1, fun j hj => ?_⟩
        by_cases ej : j = k
        · subst ej; rw [lessPt_not]; exact c
        · exact h2 j (by omega)
theorem minE_least {M : List (Int × Int)} (hM : ∀ e ∈ M, 1 ≤ e.2) (h0 : 0 < M.length) : minE M ∈ M ∧ ∀ x ∈ M, lessPt x (minE M) = false := by
  rcases minE_take hM M.length (Nat.le_refl _) with ⟨h, _⟩ | ⟨_, h1, h2⟩
  · omega
  · rw [List.take_length] at *
    refine ⟨h1, fun x hx => ?_⟩
    obtain ⟨j, hj, rfl⟩ := List.getElem_of_mem hx
    have := h2 j hj
    rwa [gl_eq hj] at this
/-- the first of those in order -/
theorem first_least {S M : List (Int × Int)} (hM : ∀ e ∈ M, 1 ≤ e.2) (h0 : 0 < M.length) (hp : S.Perm M) (hs : S.Pairwise fun x y => lessPt y x = false) : gl S 0 = minE M := by
  obtain ⟨h1, h2⟩ := minE_least hM h0
  have hl := hp.length_eq
  have hS : 0 < S.length := by omega
  refine lessPt_tot (h2 _ (hp.mem_iff.1 (gl_mem hS))) ?_
  obtain ⟨j, hj, e⟩ := List.getElem_of_mem (hp.mem_iff.2 h1)
  by_cases ej : j = 0
  · subst ej
    rw [← e, gl_eq hS, lessPt_not]; omega
  · have := List.pairwise_iff_getElem.1 hs 0 j hS hj (by omega)
    rw [e] at this
    rwa [gl_eq hS]
theorem find_filter {α : Type} [Inhabited α] (p : α → Bool) (S : List α) : S.find? p = if (S.filter p).length = 0 then none else some (gl (S.filter p) 0) := by
  rw [← List.head?_filter]
  generalize S.filter p = T
  cases T with
  | nil => rfl
  | cons a r => rfl
theorem ownP_eq {S M : List (Int × Int)} (hM : ∀ e ∈ M, 1 ≤ e.2) (h0 : 0 < M.length) (hp : S.Perm M) (hs : S.Pairwise fun x y => lessPt y x = false) (h : Int) :
    ownP S h = if (minH h M).2 = 0 then (minE M).2 else (minH h M).2 := by
  have hp' := hp.filter fun e => decide (h ≤ e.1)
  have hl' := hp'.length_eq
  have hM' : ∀ e ∈ M.filter (fun e => decide (h ≤ e.1)), 1 ≤ e.2 := fun e he => hM e (List.mem_filter.1 he).1
  unfold ownP minH
  rw [find_filter]
  by_cases c : (M.filter fun e => decide (h ≤ e.1)).length = 0
  · rw [if_pos (by omega), List.eq_nil_of_length_eq_zero c]
    show (gl S 0).2 = if (0 : Int) = 0 then _ else _
    rw [if_pos rfl, first_least hM h0 hp hs]
  · rw [if_neg (by omega)]
    have e := first_least hM' (by omega) hp' (hs.filter _)
    have hm := hM' _ (minE_least hM' (by omega)).1
    rw [if_neg (by omega)]
    show (gl (S.filter _) 0).2 = _
    rw [e]
theorem raw_pos {l : List Int} (h : mayN l = true) : ∀ e ∈ rawPts l, 1 ≤ e.2 := fun e he => by
  obtain ⟨n, h1, h2⟩ := List.mem_flatMap.1 he
  have := mayN_mem h h1
  rw [ptsN_snd h2]; exact this.1
/-- who owns a hash is as the document says it -/
theorem own_law {l : List Int} (h : mayN l = true) (x : Int) : ownP (ptsOf l) x = refOwner l x := by
  have h0 := mayN_pos h
  rw [ownP_eq (raw_pos h) (by rw [rawPts_length]; omega) (ptsOf_perm h) (ptsOf_sorted h)]
  exact (if_pos h).symm
theorem ownP_mem {L : List (Int × Int)} (h0 : 0 < L.length) (x : Int) : ∃ e ∈ L, ownP L x = e.2 := by
  unfold ownP
  cases c : L.find? (fun e => decide (x ≤ e.1)) with
  | none => exact ⟨_, gl_mem h0, rfl⟩
  | some e => exact ⟨e, List.mem_of_find?_eq_some c, rfl⟩
theorem own_mem {l : List Int} (h : mayN l = true) (x : Int) : ownP (ptsOf l) x ∈ l := by
  have h0 := mayN_pos h
  obtain ⟨e, h1, h2⟩ := ownP_mem (L := ptsOf l) (by rw [ptsOf_length h]; omega) x
  obtain ⟨n, h3, h4⟩ := List.mem_flatMap.1 ((ptsOf_perm h).mem_iff.1 h1)
  rw [h2, ptsN_snd h4]; exact h3

/-! ### a node more -/

theorem pts_less {l m : List Int} {node : Int} (hl : mayN l = true) (hm : mayN m = true) (hn : node ∉ l) (h : ∀ n, n ∈ m ↔ n ∈ l ∨ n = node) : (ptsOf m).filter (fun e => decide (e.2 ≠ node)) = ptsOf l := by
  refine sorted_unique ((ptsOf_sorted hm).filter _) (ptsOf_sorted hl) ?_
  refine (List.perm_ext_iff_of_nodup ((ptsOf_nodup hm).filter _) (ptsOf_nodup hl)).2 fun e => ?_
  rw [List.mem_filter, (ptsOf_perm hm).mem_iff, (ptsOf_perm hl).mem_iff]
  unfold rawPts
  rw [List.mem_flatMap, List.mem_flatMap]
  simp only [decide_eq_true_eq]
  constructor
  · rintro ⟨⟨n, h1, h2⟩, h3⟩
    have e2 := ptsN_snd h2
    exact ⟨n, ((h n).1 h1).resolve_right fun e => h3 (by rw [e2, e]), h2⟩
  · rintro ⟨n, h1, h2⟩
    have e2 := ptsN_snd h2
    exact ⟨⟨n, (h n).2 (.inl h1), h2⟩, fun e => hn (by rw [← e, e2]; exact h1)⟩
theorem own_join {l m : List Int} {node : Int} (hl : mayN l = true) (hm : mayN m = true) (hn : node ∉ l) (h : ∀ n, n ∈ m ↔ n ∈ l ∨ n = node) (x : Int) :
    (ownP (ptsOf m) x = ownP (ptsOf l) x ∨ ownP (ptsOf m) x = node) ∧ ownP (ptsOf l) x ≠ node := by
  refine ⟨?_, fun e => hn (by rw [← e]; exact own_mem hl x)⟩
  have hf := pts_less hl hm hn h
  have h0 := mayN_pos hm
  have hlen := ptsOf_length hm
  have h1 := mayN_pos hl
  have hlen1 := ptsOf_length hl
  generalize ptsOf m = S at *
  generalize ptsOf l = T at *
  subst hf
  have hS : 0 < S.length := by omega
  unfold ownP
  cases c : S.find? (fun e => decide (x ≤ e.1)) with
  | some e =>
    by_cases ce : e.2 = node
    · exact .inr ce
    · refine .inl ?_
      have : (S.filter fun e => decide (e.2 ≠ node)).find? (fun e => decide (x ≤ e.1)) = some e := by
        obtain ⟨hp, us, vs, rfl, ha⟩ := List.find?_eq_some_iff_append.1 c
        refine List.find?_eq_some_iff_append.2 ⟨hp, us.filter (fun e => decide (e.2 ≠ node)), vs.filter (fun e => decide (e.2 ≠ node)), ?_, fun a h => ha a (List.mem_filter.1 h).1⟩
        rw [List.filter_append, List.filter_cons_of_pos (by simpa using ce)]
      rw [this]
  | none =>
    have : (S.filter fun e => decide (e.2 ≠ node)).find? (fun e => decide (x ≤ e.1)) = none := by
      rw [List.find?_eq_none] at *
      exact fun a h => c a (List.mem_filter.1 h).1
    rw [this]
    cases S with
    | nil => simp at hS
    | cons a r =>
      by_cases ce : a.2 = node
      · exact .inr ce
      · refine .inl ?_
        rw [List.filter_cons_of_pos (by simpa using ce)]
        rfl

/-! ### nodes by bits -/

def bitQ (b : Int) (k : Nat) : Bool := (b / 2 ^ k).tmod 2 != 0
def bitsTo (b : Int) : Nat → List Int
  | 0 => []
  | k + 1 => bitsTo b k ++ if bitQ b k then [(k : Int) + 1] else []
theorem bits_mem {b n : Int} : ∀ {k : Nat}, n ∈ bitsTo b k ↔ ∃ j, j < k ∧ bitQ b j = true ∧ n = (j : Int) + 1
  | 0 => by simp [bitsTo]
  | k + 1 => by
    unfold bitsTo
    rw [List.mem_append, bits_mem]
    constructor
    · rintro (⟨j, h1, h2, h3⟩ | h)
      · exact ⟨j, by omega, h2, h3⟩
      · by_cases c : bitQ b k = true
        · rw [if_pos c, List.mem_singleton] at h
          exact ⟨k, by omega, c, h⟩
        · rw [if_neg c] at h; cases h
    · rintro ⟨j, h1, h2, h3⟩
      by_cases e : j = k
      · subst e; exact .inr (by rw [if_pos h2, List.mem_singleton]; exact h3)
      · exact .inl ⟨j, by omega, h2, h3⟩
theorem bits_len (b : Int) : ∀ k, (bitsTo b k).length ≤ k
  | 0 => Nat.le_refl _
  | k + 1 => by
    have := bits_len b k
    unfold bitsTo
    rw [List.length_append]
    split <;> simp <;> omega
theorem bits_sorted (b : Int) : ∀ k, (bitsTo b k).Pairwise (· < ·)
  | 0 => List.Pairwise.nil
  | k + 1 => by
    unfold bitsTo
    rw [List.pairwise_append]
    refine ⟨bits_sorted b k, by split <;> simp, fun x hx y hy => ?_⟩
    obtain ⟨j, h1, _, rfl⟩ := bits_mem.1 hx
    split at hy
    · rw [List.mem_singleton] at hy; omega
    · cases hy
theorem mayN_of {l : List Int} (h0 : 0 < l.length) (hs : l.Pairwise (· < ·)) (hb : ∀ n ∈ l, 1 ≤ n ∧ n ≤ 5) : mayN l = true := by
  have hat : ∀ i, i < l.length → mayAt l i = true := fun i hi => by
    have h1 := hb _ (gl_mem hi)
    have h2 : i = 0 ∨ gl l (i - 1) < gl l i := by
      by_cases e : i = 0
      · exact .inl e
      · refine .inr ?_
        have := List.pairwise_iff_getElem.1 hs (i - 1) i (by omega) hi (by omega)
        rw [gl_eq hi, gl_eq (show i - 1 < l.length by omega)]; exact this
    simp only [mayAt, Bool.and_eq_true, Bool.or_eq_true, decide_eq_true_eq]
    exact ⟨h1, h2⟩
  have hto : ∀ i, i ≤ l.length → mayTo l i = true := fun i => by
    induction i with
    | zero => intro _; rfl
    | succ i ih =>
      intro hi
      show (mayTo l i && mayAt l i) = true
      rw [ih (by omega), hat i (by omega)]; rfl
  unfold mayN
  rw [hto _ (Nat.le_refl _)]; simpa using h0
theorem bits_may {b : Int} (h : 0 < (bitsTo b 5).length) : mayN (bitsTo b 5) = true :=
  mayN_of h (bits_sorted b 5) fun n hn => by
    obtain ⟨j, h1, _, rfl⟩ := bits_mem.1 hn
    omega
theorem bits_may_not {b : Int} (h : (bitsTo b 5).length = 0) : mayN (bitsTo b 5) = false := by
  rw [List.eq_nil_of_length_eq_zero h]; rfl

theorem bitQ_bv (x : Int) {k : Nat} (hk : k < 5) : bitQ x k = (BitVec.ofInt 64 x).getLsbD k := by
  have e : (BitVec.ofInt 64 x).getLsbD k = decide ((x % 18446744073709551616).toNat / 2 ^ k % 2 = 1) := by
    rw [BitVec.getLsbD, BitVec.toNat_ofInt, Nat.testBit_eq_decide_div_mod_eq]
    rfl
  rw [e]
  unfold bitQ
  have h5 : k = 0 ∨ k = 1 ∨ k = 2 ∨ k = 3 ∨ k = 4 := by omega
  have hd : ∀ y : Int, y.tmod 2 = 0 ↔ y % 2 = 0 := fun y => by rw [← Int.dvd_iff_tmod_eq_zero, Int.dvd_iff_emod_eq_zero]
  rw [Bool.eq_iff_iff]
  simp only [bne_iff_ne, decide_eq_true_eq, ne_eq, hd]
  rcases h5 with rfl | rfl | rfl | rfl | rfl <;> simp only [Nat.reducePow, Int.reducePow] <;> omega
theorem wrap64 (n : Int) : IntKind.i64.wrap n = if 9223372036854775808 ≤ n % 18446744073709551616 then n % 18446744073709551616 - 18446744073709551616 else n % 18446744073709551616 := by
  simp [IntKind.wrap, IntKind.signed, IntKind.bits]
theorem ofInt_wrap (r : BitVec 64) : BitVec.ofInt 64 (IntKind.i64.wrap r.toNat) = r := by
  apply BitVec.eq_of_toNat_eq
  rw [BitVec.toNat_ofInt, wrap64]
  have := r.isLt
  split <;> omega
theorem shl_pow {t : Int} (h0 : 0 ≤ t) (h5 : t < 5) : ∃ j : Nat, t = j ∧ j < 5 ∧ IntKind.i64.wrap (1 * 2 ^ min (uw .u64 (1 + t - 1)).toNat 64) = 2 ^ j := by
  refine ⟨t.toNat, by omega, by omega, ?_⟩
  have : t = 0 ∨ t = 1 ∨ t = 2 ∨ t = 3 ∨ t = 4 := by omega
  rcases this with rfl | rfl | rfl | rfl | rfl <;> decide
theorem pow_bit {j k : Nat} (hj : j < 5) (hk : k < 5) : (BitVec.ofInt 64 (2 ^ j)).getLsbD k = decide (k = j) := by
  rw [← bitQ_bv _ hk]
  have e1 : j = 0 ∨ j = 1 ∨ j = 2 ∨ j = 3 ∨ j = 4 := by omega
  have e2 : k = 0 ∨ k = 1 ∨ k = 2 ∨ k = 3 ∨ k = 4 := by omega
  rcases e1 with rfl | rfl | rfl | rfl | rfl <;> rcases e2 with rfl | rfl | rfl | rfl | rfl <;> decide
theorem bitQ_out (b : Int) {j k : Nat} (hj : j < 5) (hk : k < 5) : bitQ (ibits .andNot .i64 b (2 ^ j)) k = (bitQ b k && !decide (k = j)) := by
  rw [bitQ_bv _ hk, bitQ_bv _ hk]
  show (BitVec.ofInt 64 (IntKind.i64.wrap (BitVec.ofInt 64 b &&& ~~~BitVec.ofInt 64 (2 ^ j)).toNat)).getLsbD k = _
  rw [ofInt_wrap, BitVec.getLsbD_and, BitVec.getLsbD_not, pow_bit hj hk]
  have h64 : decide (k < 64) = true := by simp; omega
  rw [h64, Bool.true_and]
theorem bitQ_in (b : Int) {j k : Nat} (hj : j < 5) (hk : k < 5) : bitQ (ibits .or .i64 b (2 ^ j)) k = (bitQ b k || decide (k = j)) := by
  rw [bitQ_bv _ hk, bitQ_bv _ hk]
  show (BitVec.ofInt 64 (IntKind.i64.wrap (BitVec.ofInt 64 b ||| BitVec.ofInt 64 (2 ^ j)).toNat)).getLsbD k = _
  rw [ofInt_wrap, BitVec.getLsbD_or, pow_bit hj hk]
/-- with a node and without it -/
theorem bits_join (b : Int) {j : Nat} (hj : j < 5) : ((j : Int) + 1 ∉ bitsTo (ibits .andNot .i64 b (2 ^ j)) 5) ∧ ∀ n, n ∈ bitsTo (ibits .or .i64 b (2 ^ j)) 5 ↔ n ∈ bitsTo (ibits .andNot .i64 b (2 ^ j)) 5 ∨ n = (j : Int) + 1 := by
  refine ⟨fun h => ?_, fun n => ?_⟩
  · obtain ⟨k, h1, h2, h3⟩ := bits_mem.1 h
    rw [bitQ_out b hj h1] at h2
    have : k = j := by omega
    subst this
    simp at h2
  · rw [bits_mem, bits_mem]
    constructor
    · rintro ⟨k, h1, h2, h3⟩
      rw [bitQ_in b hj h1] at h2
      by_cases e : k = j
      · subst e; exact .inr h3
      · refine .inl ⟨k, h1, ?_, h3⟩
        rw [bitQ_out b hj h1]
        simpa [e] using h2
    · rintro (⟨k, h1, h2, h3⟩ | rfl)
      · rw [bitQ_out b hj h1] at h2
        refine ⟨k, h1, ?_, h3⟩
        rw [bitQ_in b hj h1]
        simp only [Bool.and_eq_true] at h2
        rw [h2.1]; rfl
      · exact ⟨j, hj, by rw [bitQ_in b hj hj]; simp, rfl⟩
end Go.Proofs.Ythofnohpdbbidaa
