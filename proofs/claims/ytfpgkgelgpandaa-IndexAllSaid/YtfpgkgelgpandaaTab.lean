/-
  The index's table as a plain list of places: what find tells, what Put, grow, Drop and Below do to the keys that are there. No program in sight.
-/
import Derived.Test.YtfpgkgelgpandaaIndex2
namespace Go.Proofs.Ytfpgkgelgpandaa
open Go.Sx
set_option maxRecDepth 100000
set_option linter.unusedVariables false

def entOf (p : PlaceR) : ByteArray × Int := (p.key, p.pos)
def ents (t : List PlaceR) : List (ByteArray × Int) := (t.filter (·.has)).map entOf
def busy (p : PlaceR) : Bool := !bare p
structure Inv (x : IdxR) : Prop where
  lo : 16 ≤ x.t.length
  hi : x.t.length ≤ 40000
  n : x.n = (ents x.t).length
  used : x.used = x.t.countP busy
  half : 2 * x.used < x.t.length + 2
  size : ∀ i, i < x.t.length → (gl x.t i).key.size ≤ lenMax
  dist : ∀ i j, i < x.t.length → j < x.t.length → (gl x.t i).has = true → (gl x.t j).has = true → (gl x.t i).key = (gl x.t j).key → i = j
  path : ∀ i, i < x.t.length → (gl x.t i).has = true → ∃ d, d < x.t.length ∧ (startOf x.t.length (gl x.t i).key + d) % x.t.length = i ∧ ∀ k, k < d → bare (gl x.t ((startOf x.t.length (gl x.t i).key + k) % x.t.length)) = false

theorem mod_step {s d L : Nat} : ((s + d) % L + 1) % L = (s + (d + 1)) % L := by rw [Nat.mod_add_mod, Nat.add_assoc]

theorem hit_iff {key : ByteArray} {p : PlaceR} : hit key p = true ↔ p.has = true ∧ p.key = key := by simp [hit]

/-- a key that is there is found -/
theorem find_there {t : List PlaceR} {key : ByteArray} {i0 d0 : Nat} (hL : 1 ≤ t.length) (hi : i0 < t.length) (hh : hit key (gl t i0) = true) (hd : d0 < t.length)
    (hp : (startOf t.length key + d0) % t.length = i0) (hb : ∀ k, k < d0 → bare (gl t ((startOf t.length key + k) % t.length)) = false)
    (hu : ∀ j, j < t.length → hit key (gl t j) = true → j = i0) : ∀ (m d : Nat) (f : Int), d + m = d0 → findFrom t key (t.length - d) ((startOf t.length key + d) % t.length) f = ((i0 : Int), (i0 : Int))
  | 0, d, f, hm => by
    have : d = d0 := by omega
    subst this
    rw [hp, show t.length - d = (t.length - d - 1) + 1 by omega]
    simp only [findFrom, hh, if_true]
  | m + 1, d, f, hm => by
    have hlt : (startOf t.length key + d) % t.length < t.length := Nat.mod_lt _ hL
    rw [show t.length - d = (t.length - (d + 1)) + 1 by omega]
    by_cases h : hit key (gl t ((startOf t.length key + d) % t.length)) = true
    · have := hu _ hlt h
      rw [this] at h ⊢
      simp only [findFrom, h, if_true]
    · simp only [findFrom, h, if_false, hb d (by omega), Bool.false_eq_true]
      rw [mod_step]
      exact find_there hL hi hh hd hp hb hu m (d + 1) _ (by omega)

theorem find_none {t : List PlaceR} {key : ByteArray} (hL : 1 ≤ t.length) (hu : ∀ j, j < t.length → hit key (gl t j) = false) : ∀ (k i : Nat) (f : Int), i < t.length → 0 ≤ f → findFrom t key k i f = (-1, f)
  | 0, i, f, hi, hf => rfl
  | k + 1, i, f, hi, hf => by
    have h1 : (!(gl t i).has && decide (f < 0)) = false := by simp; omega
    simp only [findFrom, hu i hi, Bool.false_eq_true, if_false, h1]
    split
    · rfl
    · exact find_none hL hu k _ f (Nat.mod_lt _ hL) hf

/-- a key that is not there has a place, the first that is free on its road -/
theorem find_free {t : List PlaceR} {key : ByteArray} {d0 : Nat} (hL : 1 ≤ t.length) (hd : d0 < t.length) (hu : ∀ j, j < t.length → hit key (gl t j) = false)
    (hf : (gl t ((startOf t.length key + d0) % t.length)).has = false) (hb : ∀ k, k < d0 → (gl t ((startOf t.length key + k) % t.length)).has = true) :
    ∀ (m d : Nat), d + m = d0 → findFrom t key (t.length - d) ((startOf t.length key + d) % t.length) (-1) = (-1, (((startOf t.length key + d0) % t.length : Nat) : Int))
  | 0, d, hm => by
    have : d = d0 := by omega
    subst this
    have hlt : (startOf t.length key + d) % t.length < t.length := Nat.mod_lt _ hL
    rw [show t.length - d = (t.length - d - 1) + 1 by omega]
    have h1 : (!(gl t ((startOf t.length key + d) % t.length)).has && decide ((-1 : Int) < 0)) = true := by simp [hf]
    simp only [findFrom, hu _ hlt, Bool.false_eq_true, if_false, h1, if_true]
    split
    · rfl
    · exact find_none hL hu _ _ _ (Nat.mod_lt _ hL) (by omega)
  | m + 1, d, hm => by
    have hlt : (startOf t.length key + d) % t.length < t.length := Nat.mod_lt _ hL
    rw [show t.length - d = (t.length - (d + 1)) + 1 by omega]
    have h0 := hb d (by omega)
    have h1 : (!(gl t ((startOf t.length key + d) % t.length)).has && decide ((-1 : Int) < 0)) = false := by simp [h0]
    have h2 : bare (gl t ((startOf t.length key + d) % t.length)) = false := by simp [bare, h0]
    simp only [findFrom, hu _ hlt, Bool.false_eq_true, if_false, h1, h2]
    rw [mod_step]
    exact find_free hL hd hu hf hb m (d + 1) (by omega)

theorem start_mod {L : Nat} {key : ByteArray} (hL : 1 ≤ L) : (startOf L key + 0) % L = startOf L key := by
  rw [Nat.add_zero, Nat.mod_eq_of_lt (startOf_lt key hL)]

theorem findP_there {x : IdxR} (h : Inv x) {i : Nat} (hi : i < x.t.length) (hh : (gl x.t i).has = true) : findP x.t (gl x.t i).key = ((i : Int), (i : Int)) := by
  obtain ⟨d, h1, h2, h3⟩ := h.path i hi hh
  have hL : 1 ≤ x.t.length := by have := h.lo; omega
  have := find_there (key := (gl x.t i).key) hL hi (hit_iff.2 ⟨hh, rfl⟩) h1 h2 h3 (fun j hj hj2 => h.dist j i hj hi (hit_iff.1 hj2).1 hh (hit_iff.1 hj2).2) d 0 (-1) (by omega)
  rwa [start_mod hL, Nat.sub_zero] at this

/-- each place is on each road -/
theorem road {L s i : Nat} (hs : s < L) (hi : i < L) : ∃ d, d < L ∧ (s + d) % L = i := by
  by_cases h : s ≤ i
  · exact ⟨i - s, by omega, by rw [show s + (i - s) = i by omega]; exact Nat.mod_eq_of_lt hi⟩
  · refine ⟨L + i - s, by omega, ?_⟩
    rw [show s + (L + i - s) = i + L by omega, Nat.add_mod_right]; exact Nat.mod_eq_of_lt hi

theorem ents_le : ∀ (t : List PlaceR), (ents t).length ≤ t.countP busy
  | [] => Nat.le_refl _
  | p :: r => by
    have := ents_le r
    unfold ents at *
    simp only [List.length_map, List.filter_cons, List.countP_cons] at *
    cases hp : p.has <;> simp [busy, bare, hp] <;> omega
theorem some_free : ∀ (t : List PlaceR), t.countP busy < t.length → ∃ i, i < t.length ∧ (gl t i).has = false
  | [], h => absurd h (Nat.not_lt_zero _)
  | p :: r, h => by
    cases hp : p.has with
    | false => exact ⟨0, by simp, hp⟩
    | true =>
      have hb : busy p = true := by simp [busy, bare, hp]
      rw [List.countP_cons_of_pos hb] at h
      obtain ⟨i, h1, h2⟩ := some_free r (by simpa using h)
      exact ⟨i + 1, by simp; omega, h2⟩

theorem first {p : Nat → Bool} : ∀ d, p d = true → ∃ d0, d0 ≤ d ∧ p d0 = true ∧ ∀ k, k < d0 → p k = false := by
  intro d
  induction d using Nat.strongRecOn with
  | ind d ih =>
    intro h
    by_cases hx : ∃ k, k < d ∧ p k = true
    · obtain ⟨k, hk, hp⟩ := hx
      obtain ⟨d0, a, b, c⟩ := ih k hk hp
      exact ⟨d0, by omega, b, c⟩
    · refine ⟨d, Nat.le_refl _, h, fun k hk => ?_⟩
      cases hp : p k with
      | false => rfl
      | true => exact absurd ⟨k, hk, hp⟩ hx

def absent (t : List PlaceR) (key : ByteArray) : Prop := ∀ j, j < t.length → hit key (gl t j) = false

theorem findP_free {t : List PlaceR} {key : ByteArray} (hL : 1 ≤ t.length) (hu : absent t key) (hr : t.countP busy < t.length) :
    ∃ d i, d < t.length ∧ (startOf t.length key + d) % t.length = i ∧ i < t.length ∧ (gl t i).has = false ∧ (∀ k, k < d → (gl t ((startOf t.length key + k) % t.length)).has = true) ∧ findP t key = (-1, (i : Int)) := by
  obtain ⟨i, h1, h2⟩ := some_free t hr
  obtain ⟨d, h3, h4⟩ := road (startOf_lt key hL) h1
  obtain ⟨d0, g1, g2, g3⟩ := first (p := fun d => !(gl t ((startOf t.length key + d) % t.length)).has) d (by simp [h4, h2])
  simp only [Bool.not_eq_true', Bool.not_eq_false'] at g2 g3
  have := find_free hL (show d0 < t.length by omega) hu g2 g3 d0 0 (by omega)
  rw [start_mod hL, Nat.sub_zero] at this
  exact ⟨d0, _, by omega, rfl, Nat.mod_lt _ hL, g2, g3, this⟩

/-! ### what is there -/

theorem split_at {t : List PlaceR} {i : Nat} (h : i < t.length) : t = t.take i ++ gl t i :: t.drop (i + 1) := by
  rw [gl_eq h, List.getElem_cons_drop, List.take_append_drop]
theorem set_split {t : List PlaceR} {i : Nat} {q : PlaceR} (h : i < t.length) : t.set i q = t.take i ++ q :: t.drop (i + 1) := by
  rw [List.set_eq_take_append_cons_drop, if_pos h]
theorem ents_app (a b : List PlaceR) : ents (a ++ b) = ents a ++ ents b := by simp [ents]
theorem ents_cons (p : PlaceR) (r : List PlaceR) : ents (p :: r) = (if p.has then [entOf p] else []) ++ ents r := by
  unfold ents; rw [List.filter_cons]; split <;> simp
/-- one place changed -/
theorem ents_at {t : List PlaceR} {i : Nat} (h : i < t.length) : ents t = ents (t.take i) ++ ((if (gl t i).has then [entOf (gl t i)] else []) ++ ents (t.drop (i + 1))) := by
  conv => lhs; rw [split_at h]
  rw [ents_app, ents_cons]
theorem ents_set {t : List PlaceR} {i : Nat} {q : PlaceR} (h : i < t.length) : ents (t.set i q) = ents (t.take i) ++ ((if q.has then [entOf q] else []) ++ ents (t.drop (i + 1))) := by
  rw [set_split h, ents_app, ents_cons]
theorem cnt_at {t : List PlaceR} {i : Nat} (h : i < t.length) : t.countP busy = (t.take i).countP busy + ((t.drop (i + 1)).countP busy + if busy (gl t i) then 1 else 0) := by
  conv => lhs; rw [split_at h]
  rw [List.countP_append, List.countP_cons]
theorem cnt_set {t : List PlaceR} {i : Nat} {q : PlaceR} (h : i < t.length) : (t.set i q).countP busy = (t.take i).countP busy + ((t.drop (i + 1)).countP busy + if busy q then 1 else 0) := by
  rw [set_split h, List.countP_append, List.countP_cons]
theorem mem_ents {t : List PlaceR} {k : ByteArray} {p : Int} : (k, p) ∈ ents t ↔ ∃ i, i < t.length ∧ (gl t i).has = true ∧ (gl t i).key = k ∧ (gl t i).pos = p := by
  unfold ents
  simp only [List.mem_map, List.mem_filter, entOf, Prod.mk.injEq]
  constructor
  · rintro ⟨q, ⟨h1, h2⟩, h3, h4⟩
    obtain ⟨i, hi, rfl⟩ := List.getElem_of_mem h1
    exact ⟨i, hi, by rw [gl_eq hi]; exact h2, by rw [gl_eq hi]; exact h3, by rw [gl_eq hi]; exact h4⟩
  · rintro ⟨i, h1, h2, h3, h4⟩
    exact ⟨_, ⟨gl_mem h1, h2⟩, h3, h4⟩
theorem absent_iff {t : List PlaceR} {k : ByteArray} : absent t k ↔ k ∉ (ents t).map Prod.fst := by
  constructor
  · intro h hm
    obtain ⟨⟨k', p⟩, h1, rfl⟩ := List.mem_map.1 hm
    obtain ⟨i, h2, h3, h4, _⟩ := mem_ents.1 h1
    have := h i h2
    rw [hit_iff.2 ⟨h3, h4⟩] at this; cases this
  · intro h j hj
    cases hh : hit k (gl t j) with
    | false => rfl
    | true =>
      obtain ⟨h1, h2⟩ := hit_iff.1 hh
      exact absurd (List.mem_map.2 ⟨(k, (gl t j).pos), mem_ents.2 ⟨j, hj, h1, h2, rfl⟩, rfl⟩) h

/-- the table x has the entries l, in whatever order -/
structure Has (x : IdxR) (l : List (ByteArray × Int)) : Prop where
  inv : Inv x
  perm : (ents x.t).Perm l
theorem Has.of_perm {x : IdxR} {l m : List (ByteArray × Int)} (h : Has x l) (p : l.Perm m) : Has x m := ⟨h.inv, h.perm.trans p⟩
theorem Has.n {x : IdxR} {l : List (ByteArray × Int)} (h : Has x l) : x.n = l.length := by rw [h.inv.n, h.perm.length_eq]
theorem Has.mem {x : IdxR} {l : List (ByteArray × Int)} (h : Has x l) {k : ByteArray} {p : Int} (hm : (k, p) ∈ l) : ∃ i : Nat, i < x.t.length ∧ (gl x.t i).has = true ∧ (gl x.t i).key = k ∧ (gl x.t i).pos = p ∧ findP x.t k = ((i : Int), (i : Int)) := by
  obtain ⟨i, h1, h2, h3, h4⟩ := mem_ents.1 (h.perm.mem_iff.2 hm)
  refine ⟨i, h1, h2, h3, h4, ?_⟩
  rw [← h3]; exact findP_there h.inv h1 h2
theorem Has.none {x : IdxR} {l : List (ByteArray × Int)} (h : Has x l) {k : ByteArray} (hm : k ∉ l.map Prod.fst) : absent x.t k := absent_iff.2 fun hk => hm ((h.perm.map _).mem_iff.1 hk)
theorem Inv.room {x : IdxR} (h : Inv x) : x.t.countP busy < x.t.length := by have := h.half; have := h.used; have := h.lo; omega
theorem Has.none_find {x : IdxR} {l : List (ByteArray × Int)} (h : Has x l) {k : ByteArray} (hm : k ∉ l.map Prod.fst) : (findP x.t k).1 = -1 ∧ 0 ≤ (findP x.t k).2 := by
  obtain ⟨d, i, _, _, _, _, _, e⟩ := findP_free (by have := h.inv.lo; omega) (h.none hm) h.inv.room
  rw [e]; exact ⟨rfl, by simp⟩

/-! ### one place changed -/

theorem Inv.set {x : IdxR} (h : Inv x) {i : Nat} (hi : i < x.t.length) {q : PlaceR} (hb : bare q = false) (hs : q.key.size ≤ lenMax)
    (hd : q.has = true → ∀ j, j < x.t.length → j ≠ i → (gl x.t j).has = true → (gl x.t j).key ≠ q.key)
    (hp : q.has = true → ∃ d, d < x.t.length ∧ (startOf x.t.length q.key + d) % x.t.length = i ∧ ∀ k, k < d → bare (gl x.t ((startOf x.t.length q.key + k) % x.t.length)) = false)
    {n' u' : Nat} (hn : n' = (ents (x.t.set i q)).length) (hu : u' = (x.t.set i q).countP busy) (hh : 2 * u' < x.t.length + 2) : Inv ⟨x.t.set i q, n', u'⟩ := by
  have hl : (x.t.set i q).length = x.t.length := by simp
  have key : ∀ j, gl (x.t.set i q) j = if i = j then q else gl x.t j := by
    intro j
    by_cases e : i = j
    · subst e; rw [if_pos rfl, gl_set_self hi]
    · rw [if_neg e, gl_set_ne e]
  have bb : ∀ j, bare (gl x.t j) = false → bare (gl (x.t.set i q) j) = false := by
    intro j hj
    rw [key]; split
    · exact hb
    · exact hj
  refine ⟨by rw [hl]; exact h.lo, by rw [hl]; exact h.hi, hn, hu, by rw [hl]; exact hh, fun j hj => ?_, fun a b ha hb' h1 h2 h3 => ?_, fun j hj hj2 => ?_⟩
  · rw [hl] at hj
    rw [key]; split
    · exact hs
    · exact h.size j hj
  · simp only [hl] at ha hb'
    simp only [key] at h1 h2 h3
    by_cases e1 : i = a
    · by_cases e2 : i = b
      · omega
      · rw [if_pos e1] at h1 h3; rw [if_neg e2] at h2 h3
        exact absurd h3.symm (hd h1 b hb' (fun e => e2 e.symm) h2)
    · by_cases e2 : i = b
      · rw [if_neg e1] at h1 h3; rw [if_pos e2] at h2 h3
        exact absurd h3 (hd h2 a ha (fun e => e1 e.symm) h1)
      · rw [if_neg e1] at h1 h3; rw [if_neg e2] at h2 h3
        exact h.dist a b ha hb' h1 h2 h3
  · simp only [hl] at hj ⊢
    simp only [key] at hj2
    by_cases e : i = j
    · rw [if_pos e] at hj2
      subst e
      obtain ⟨d, h1, h2, h3⟩ := hp hj2
      rw [show gl (x.t.set i q) i = q by rw [key, if_pos rfl]]
      exact ⟨d, h1, h2, fun k hk => bb _ (h3 k hk)⟩
    · rw [if_neg e] at hj2
      obtain ⟨d, h1, h2, h3⟩ := h.path j hj hj2
      rw [show gl (x.t.set i q) j = gl x.t j by rw [key, if_neg e]]
      exact ⟨d, h1, h2, fun k hk => bb _ (h3 k hk)⟩

theorem busy_has {p : PlaceR} (h : p.has = true) : busy p = true := by simp [busy, bare, h]

/-- a key that is there is put anew -/
theorem put_there {x : IdxR} {l : List (ByteArray × Int)} {k : ByteArray} {p q : Int} (h : Has x ((k, q) :: l)) : Has (putI x k p) ((k, p) :: l) ∧ putRet x k = q ∧ 0 ≤ (findP x.t k).1 := by
  obtain ⟨i, h1, h2, h3, h4, h5⟩ := h.mem List.mem_cons_self
  have e : putI x k p = ⟨x.t.set i { gl x.t i with pos := p }, x.n, x.used⟩ := by
    unfold putI; rw [h5]; simp
  have hk : (ents x.t).Perm ((k, q) :: (ents (x.t.take i) ++ ents (x.t.drop (i + 1)))) := by
    rw [ents_at h1, h2]
    have : entOf (gl x.t i) = (k, q) := by simp [entOf, h3, h4]
    rw [if_pos rfl, this]; exact List.perm_middle
  have hk' : (ents (x.t.set i { gl x.t i with pos := p })).Perm ((k, p) :: (ents (x.t.take i) ++ ents (x.t.drop (i + 1)))) := by
    rw [ents_set h1]
    simp only [h2, if_true, entOf, h3]
    exact List.perm_middle
  have hl : (ents (x.t.take i) ++ ents (x.t.drop (i + 1))).Perm l := (List.perm_cons _).1 (hk.symm.trans h.perm)
  refine ⟨⟨?_, ?_⟩, by unfold putRet; rw [h5]; simp [h4], by rw [h5]; simp⟩
  · rw [e]
    refine h.inv.set (q := { gl x.t i with pos := p }) h1 (by simp [bare, h2]) (h.inv.size i h1) (fun _ j hj hne hj2 he => hne (h.inv.dist j i hj h1 hj2 h2 he)) (fun _ => h.inv.path i h1 h2) ?_ ?_ h.inv.half
    · rw [h.inv.n, hk.length_eq, hk'.length_eq]; rfl
    · rw [h.inv.used, cnt_at h1, cnt_set h1, busy_has h2, busy_has (p := { gl x.t i with pos := p }) h2]
  · rw [e]; exact hk'.trans (hl.cons _)

/-- a key that is not there is put -/
theorem put_new {x : IdxR} {l : List (ByteArray × Int)} {k : ByteArray} {p : Int} (h : Has x l) (hk : k ∉ l.map Prod.fst) (hs : k.size ≤ lenMax) (hr : 2 * x.used < x.t.length) :
    Has (putI x k p) ((k, p) :: l) ∧ putRet x k = 0 ∧ (findP x.t k).1 < 0 ∧ 0 ≤ (findP x.t k).2 ∧ (putI x k p).used ≤ x.used + 1 ∧ (putI x k p).n = x.n + 1 := by
  obtain ⟨d, i, h1, h2, h3, h4, h5, h6⟩ := findP_free (by have := h.inv.lo; omega) (h.none hk) h.inv.room
  have e : putI x k p = ⟨x.t.set i ⟨k, p, true, false⟩, x.n + 1, if (gl x.t i).gone then x.used else x.used + 1⟩ := by
    unfold putI; rw [h6]; simp
  have hp0 : ents x.t = ents (x.t.take i) ++ ents (x.t.drop (i + 1)) := by rw [ents_at h3, h4]; simp
  have hp1 : (ents (x.t.set i ⟨k, p, true, false⟩)).Perm ((k, p) :: ents x.t) := by
    rw [ents_set h3, hp0]
    simp only [if_true, entOf]
    exact List.perm_middle
  have hb : busy (gl x.t i) = (gl x.t i).gone := by simp [busy, bare, h4]
  refine ⟨⟨?_, ?_⟩, by unfold putRet; rw [h6]; simp, by rw [h6]; simp, by rw [h6]; simp, by rw [e]; simp only; split <;> omega, by rw [e]⟩
  · rw [e]
    refine h.inv.set (q := ⟨k, p, true, false⟩) h3 rfl hs (fun _ j hj hne hj2 he => ?_) (fun _ => ⟨d, h1, h2, fun k hk => by simp [bare, h5 k hk]⟩) ?_ ?_ (by split <;> omega)
    · have := h.none hk j hj
      rw [hit_iff.2 ⟨hj2, he⟩] at this; cases this
    · rw [hp1.length_eq, List.length_cons, h.inv.n]
    · rw [cnt_set h3, h.inv.used, cnt_at h3, hb]
      cases hg : (gl x.t i).gone <;> simp [busy, bare] <;> omega
  · rw [e]; exact hp1.trans (h.perm.cons _)

def goneP : PlaceR := ⟨.empty, 0, false, true⟩
def dropI (x : IdxR) (k : ByteArray) : IdxR := if 0 ≤ (findP x.t k).1 then ⟨x.t.set (findP x.t k).1.toNat goneP, x.n - 1, x.used⟩ else x
/-- a key that is there is dropped -/
theorem drop_there {x : IdxR} {l : List (ByteArray × Int)} {k : ByteArray} {q : Int} (h : Has x ((k, q) :: l)) : Has (dropI x k) l ∧ 0 ≤ (findP x.t k).1 := by
  obtain ⟨i, h1, h2, h3, h4, h5⟩ := h.mem List.mem_cons_self
  have e : dropI x k = ⟨x.t.set i goneP, x.n - 1, x.used⟩ := by unfold dropI; rw [h5]; simp
  have hk : (ents x.t).Perm ((k, q) :: (ents (x.t.take i) ++ ents (x.t.drop (i + 1)))) := by
    rw [ents_at h1, h2]
    have : entOf (gl x.t i) = (k, q) := by simp [entOf, h3, h4]
    rw [if_pos rfl, this]; exact List.perm_middle
  have hk' : ents (x.t.set i goneP) = ents (x.t.take i) ++ ents (x.t.drop (i + 1)) := by rw [ents_set h1]; rfl
  have hl : (ents (x.t.take i) ++ ents (x.t.drop (i + 1))).Perm l := (List.perm_cons _).1 (hk.symm.trans h.perm)
  refine ⟨⟨?_, ?_⟩, by rw [h5]; simp⟩
  · rw [e]
    refine h.inv.set (q := goneP) h1 rfl (by unfold lenMax; decide) (fun hc => by cases hc) (fun hc => by cases hc) ?_ ?_ h.inv.half
    · rw [h.inv.n, hk.length_eq, hk']; rfl
    · rw [h.inv.used, cnt_at h1, cnt_set h1, busy_has h2]; rfl
  · rw [e, hk']; exact hl
theorem drop_none {x : IdxR} {l : List (ByteArray × Int)} {k : ByteArray} (h : Has x l) (hk : k ∉ l.map Prod.fst) : dropI x k = x := by
  unfold dropI; rw [(h.none_find hk).1]; rfl

/-! ### Below -/

def low (p : Int) (q : PlaceR) : Bool := q.has && decide (q.pos < p)
/-- the first i places looked through -/
def belowT (t : List PlaceR) (p : Int) : Nat → List PlaceR
  | 0 => t
  | i + 1 => if low p (gl t i) then (belowT t p i).set i goneP else belowT t p i
def belowN (t : List PlaceR) (p : Int) : Nat → Nat
  | 0 => 0
  | i + 1 => belowN t p i + if low p (gl t i) then 1 else 0
def belowI (x : IdxR) (p : Int) : IdxR := ⟨belowT x.t p x.t.length, x.n - belowN x.t p x.t.length, x.used⟩
theorem belowT_length (t : List PlaceR) (p : Int) : ∀ i, (belowT t p i).length = t.length
  | 0 => rfl
  | i + 1 => by unfold belowT; split <;> simp [belowT_length t p i]
theorem belowT_at (t : List PlaceR) (p : Int) : ∀ i, i ≤ t.length → ∀ j, gl (belowT t p i) j = if j < i ∧ low p (gl t j) then goneP else gl t j
  | 0, _, j => by simp [belowT]
  | i + 1, hi, j => by
    have ih := belowT_at t p i (by omega) j
    unfold belowT
    by_cases h : low p (gl t i) = true
    · rw [if_pos h]
      by_cases hj : i = j
      · subst hj; rw [gl_set_self (by rw [belowT_length]; omega), if_pos ⟨by omega, h⟩]
      · rw [gl_set_ne hj, ih]
        grind
    · rw [if_neg h, ih]
      by_cases hj : i = j
      · subst hj; rw [if_neg (by simp), if_neg (fun hc => h hc.2)]
      · grind
theorem below_there {x : IdxR} {l : List (ByteArray × Int)} (h : Has x l) (p : Int) : ∀ i, i ≤ x.t.length →
    Has ⟨belowT x.t p i, x.n - belowN x.t p i, x.used⟩ (((x.t.take i).filter fun q => q.has && !low p q).map entOf ++ ents (x.t.drop i)) ∧ belowN x.t p i = ((x.t.take i).filter (low p)).length
  | 0, _ => ⟨⟨h.inv, by simp [belowT]⟩, rfl⟩
  | i + 1, hi => by
    obtain ⟨⟨i1, i2⟩, i3⟩ := below_there h p i (by omega)
    have hT := belowT_at x.t p i (by omega) i
    rw [if_neg (by simp)] at hT
    have hLen := belowT_length x.t p i
    rw [take_succ_gl (by omega), List.filter_append, List.filter_append, List.map_append, List.length_append, ← i3]
    have hdrop : ents (x.t.drop i) = (if (gl x.t i).has then [entOf (gl x.t i)] else []) ++ ents (x.t.drop (i + 1)) := by
      rw [← ents_cons, gl_eq (by omega), List.getElem_cons_drop]
    rw [hdrop] at i2
    by_cases hl : low p (gl x.t i) = true
    · have hh : (gl x.t i).has = true := by simp [low] at hl; exact hl.1
      have e1 : belowT x.t p (i + 1) = (belowT x.t p i).set i goneP := if_pos hl
      have e2 : belowN x.t p (i + 1) = belowN x.t p i + 1 := by show belowN x.t p i + (if low p (gl x.t i) = true then 1 else 0) = _; rw [if_pos hl]
      have h0 : Has ⟨belowT x.t p i, x.n - belowN x.t p i, x.used⟩ ((entOf (gl x.t i)) :: (((x.t.take i).filter fun q => q.has && !low p q).map entOf ++ ents (x.t.drop (i + 1)))) := by
        refine ⟨i1, i2.trans ?_⟩
        rw [if_pos hh]; exact List.perm_middle
      have h1 := drop_there (x := ⟨belowT x.t p i, x.n - belowN x.t p i, x.used⟩) h0
      have hf := findP_there i1 (i := i) (by simp only; omega) (by simp only; rw [hT]; exact hh)
      simp only at hf
      rw [hT] at hf
      have e3 : dropI ⟨belowT x.t p i, x.n - belowN x.t p i, x.used⟩ (gl x.t i).key = ⟨(belowT x.t p i).set i goneP, x.n - (belowN x.t p i + 1), x.used⟩ := by
        unfold dropI; simp only; rw [hf]; simp; omega
      refine ⟨?_, by rw [e2]; simp [hl]⟩
      rw [e1, e2, ← e3]
      simp only [List.filter_cons, hl, hh, Bool.not_true, Bool.and_false, List.filter_nil, List.map_nil, List.append_nil, Bool.false_eq_true, if_false]
      exact h1.1
    · have e1 : belowT x.t p (i + 1) = belowT x.t p i := if_neg hl
      have e2 : belowN x.t p (i + 1) = belowN x.t p i := by show belowN x.t p i + (if low p (gl x.t i) = true then 1 else 0) = _; rw [if_neg hl]; rfl
      refine ⟨⟨?_, ?_⟩, by rw [e2]; simp [hl]⟩
      · rw [e1, e2]; exact i1
      · rw [e1]
        refine i2.trans (.of_eq ?_)
        cases hh : (gl x.t i).has <;> simp [hl, hh]
theorem two_parts {α : Type} (f : α → Bool) : ∀ l : List α, l.length = (l.filter f).length + (l.filter fun e => !f e).length
  | [] => rfl
  | a :: r => by
    have := two_parts f r
    cases h : f a <;> simp [List.filter_cons, h] <;> omega
/-- what lies below goes -/
theorem below_has {x : IdxR} {l : List (ByteArray × Int)} (h : Has x l) (p : Int) : Has (belowI x p) (l.filter fun e => decide (p ≤ e.2)) ∧ belowN x.t p x.t.length = l.length - (l.filter fun e => decide (p ≤ e.2)).length ∧ belowN x.t p x.t.length ≤ l.length := by
  obtain ⟨h1, h2⟩ := below_there h p x.t.length (Nat.le_refl _)
  rw [List.take_length] at h1 h2
  rw [List.drop_length] at h1
  have e : ((x.t.filter fun q => q.has && !low p q).map entOf ++ ents []) = (ents x.t).filter fun e => decide (p ≤ e.2) := by
    unfold ents
    rw [List.filter_map, List.filter_filter]
    simp only [List.filter_nil, List.map_nil, List.append_nil]
    congr 1
    apply List.filter_congr
    intro q _
    simp only [Function.comp, low, entOf]
    by_cases hc : q.pos < p
    · have hd : ¬ p ≤ q.pos := by omega
      cases hq : q.has <;> simp [hc, hd]
    · have hd : p ≤ q.pos := by omega
      cases hq : q.has <;> simp [hc, hd]
  rw [e] at h1
  have hp := (h.perm.filter fun e => decide (p ≤ e.2))
  have e2 : (x.t.filter (low p)).length = ((ents x.t).filter fun e => !decide (p ≤ e.2)).length := by
    unfold ents
    rw [List.filter_map, List.length_map, List.filter_filter]
    congr 1
    apply List.filter_congr
    intro q _
    simp only [Function.comp, low, entOf]
    by_cases hc : q.pos < p
    · have hd : ¬ p ≤ q.pos := by omega
      cases hq : q.has <;> simp [hc, hd]
    · have hd : p ≤ q.pos := by omega
      cases hq : q.has <;> simp [hc, hd]
  have e3 := two_parts (fun e : ByteArray × Int => decide (p ≤ e.2)) (ents x.t)
  refine ⟨h1.of_perm hp, ?_, ?_⟩
  · rw [h2, e2, ← hp.length_eq, ← h.perm.length_eq]; omega
  · rw [h2, e2, ← h.perm.length_eq]; omega

/-! ### a new one; grow -/

theorem empty_has {n : Nat} (h1 : 16 ≤ n) (h2 : n ≤ 40000) : Has (emptyI n) [] := by
  have key : ∀ i, i < n → gl (List.replicate n (⟨.empty, 0, false, false⟩ : PlaceR)) i = ⟨.empty, 0, false, false⟩ := fun i hi => gl_replicate hi
  have he : ents (List.replicate n (⟨.empty, 0, false, false⟩ : PlaceR)) = [] := by simp [ents]
  refine ⟨⟨by simpa [emptyI] using h1, by simpa [emptyI] using h2, ?_, ?_, by simp only [emptyI, List.length_replicate]; omega, fun i hi => ?_, fun i j hi hj h => ?_, fun i hi h => ?_⟩, by simp only [emptyI]; rw [he]⟩
  · simp only [emptyI]; rw [he]; rfl
  · simp [emptyI, List.countP_replicate, busy, bare]
  · simp only [emptyI, List.length_replicate] at hi ⊢
    rw [key i hi]; simp only [lenMax]; decide
  · simp only [emptyI, List.length_replicate] at hi h
    rw [key i hi] at h; cases h
  · simp only [emptyI, List.length_replicate] at hi h
    rw [key i hi] at h; cases h

theorem keys_nodup {x : IdxR} (h : Inv x) {i : Nat} (hi : i < x.t.length) (hh : (gl x.t i).has = true) : (gl x.t i).key ∉ (ents (x.t.take i)).map Prod.fst := by
  intro hm
  obtain ⟨⟨k, p⟩, h1, h2⟩ := List.mem_map.1 hm
  obtain ⟨j, h3, h4, h5, _⟩ := mem_ents.1 h1
  rw [List.length_take] at h3
  rw [gl_take (by omega)] at h4 h5
  have := h.dist j i (by omega) hi h4 hh (h5.trans h2)
  omega

theorem grow_step {x : IdxR} (h : Inv x) (hn : x.n < 10000) : ∀ i, i ≤ x.t.length →
    Has (putAll x.t (emptyI (max 16 (4 * x.n))) i) (ents (x.t.take i)) ∧ (putAll x.t (emptyI (max 16 (4 * x.n))) i).used ≤ (putAll x.t (emptyI (max 16 (4 * x.n))) i).n
  | 0, _ => ⟨by simpa [putAll, ents] using empty_has (n := max 16 (4 * x.n)) (by omega) (by omega), Nat.le_refl _⟩
  | i + 1, hi => by
    obtain ⟨h1, h2⟩ := grow_step h hn i (by omega)
    have hT := take_succ_gl (l := x.t) (i := i) (by omega)
    rw [hT, ents_app]
    unfold putAll
    by_cases hh : (gl x.t i).has = true
    · rw [if_pos hh]
      have hcount : (ents (x.t.take i)).length + 1 ≤ x.n := by
        rw [h.n, ents_at (show i < x.t.length by omega), if_pos hh]; simp
      have hlen : (putAll x.t (emptyI (max 16 (4 * x.n))) i).t.length = max 16 (4 * x.n) := by rw [putAll_length]; simp [emptyI]
      obtain ⟨g1, g2, g3, g4, g5, g6⟩ := put_new (p := (gl x.t i).pos) h1 (keys_nodup h (by omega) hh) (h.size i (by omega)) (by rw [hlen]; have := h1.n; omega)
      refine ⟨g1.of_perm ?_, by omega⟩
      rw [ents_cons, if_pos hh]
      simp only [ents, List.filter_nil, List.map_nil, List.append_nil]
      exact (List.perm_append_singleton _ _).symm
    · rw [if_neg hh, ents_cons, if_neg hh]
      simp only [ents, List.filter_nil, List.map_nil, List.append_nil]
      exact ⟨h1, h2⟩
/-- what grow needs -/
theorem grow_pre {x : IdxR} (h : Inv x) (hn : x.n < 10000) : ∀ i, i < x.t.length → (gl x.t i).has = true → 2 * (putAll x.t (emptyI (max 16 (4 * x.n))) i).used < max 16 (4 * x.n) ∧ (putAll x.t (emptyI (max 16 (4 * x.n))) i).n < 100000 ∧
      ((findP (putAll x.t (emptyI (max 16 (4 * x.n))) i).t (gl x.t i).key).1 < 0 → 0 ≤ (findP (putAll x.t (emptyI (max 16 (4 * x.n))) i).t (gl x.t i).key).2) := by
  intro i hi hh
  obtain ⟨h1, h2⟩ := grow_step h hn i (by omega)
  have hcount : (ents (x.t.take i)).length + 1 ≤ x.n := by
    rw [h.n, ents_at hi, if_pos hh]; simp
  have := h1.n
  exact ⟨by omega, by omega, fun _ => (h1.none_find (keys_nodup h hi hh)).2⟩
theorem grow_has {x : IdxR} {l : List (ByteArray × Int)} (h : Has x l) (hn : x.n < 10000) : Has (growI x) l ∧ 2 * (growI x).used < (growI x).t.length := by
  obtain ⟨h1, h2⟩ := grow_step h.inv hn x.t.length (Nat.le_refl _)
  rw [List.take_length] at h1
  refine ⟨h1.of_perm h.perm, ?_⟩
  have hlen : (growI x).t.length = max 16 (4 * x.n) := by unfold growI; rw [putAll_length]; simp [emptyI]
  have e1 := h1.n
  have e2 := h.inv.n
  rw [hlen]
  unfold growI
  omega

/-- Put -/
def roomy (x : IdxR) : IdxR := if x.t.length ≤ 2 * x.used then growI x else x
def putX (x : IdxR) (k : ByteArray) (p : Int) : IdxR := putI (roomy x) k p
theorem roomy_has {x : IdxR} {l : List (ByteArray × Int)} (h : Has x l) (hn : x.n < 10000) : Has (roomy x) l ∧ 2 * (roomy x).used < (roomy x).t.length := by
  unfold roomy
  split
  · exact grow_has h hn
  · exact ⟨h, by omega⟩
theorem putX_there {x : IdxR} {l : List (ByteArray × Int)} {k : ByteArray} {p q : Int} (h : Has x ((k, q) :: l)) (hn : x.n < 10000) : Has (putX x k p) ((k, p) :: l) ∧ putRet (roomy x) k = q :=
  let h1 := roomy_has h hn
  let h2 := put_there (p := p) h1.1
  ⟨h2.1, h2.2.1⟩
theorem putX_new {x : IdxR} {l : List (ByteArray × Int)} {k : ByteArray} {p : Int} (h : Has x l) (hn : x.n < 10000) (hk : k ∉ l.map Prod.fst) (hs : k.size ≤ lenMax) : Has (putX x k p) ((k, p) :: l) ∧ putRet (roomy x) k = 0 :=
  let h1 := roomy_has h hn
  let h2 := put_new (p := p) h1.1 hk hs h1.2
  ⟨h2.1, h2.2.1⟩
theorem Has.free {x : IdxR} {l : List (ByteArray × Int)} (h : Has x l) (k : ByteArray) (hf : (findP x.t k).1 < 0) : 0 ≤ (findP x.t k).2 := by
  by_cases hk : k ∈ l.map Prod.fst
  · obtain ⟨⟨k', p⟩, h1, rfl⟩ := List.mem_map.1 hk
    obtain ⟨i, _, _, _, _, e⟩ := h.mem h1
    rw [e] at hf; simp at hf; omega
  · exact (h.none_find hk).2

/-- what Get tells -/
def getI (x : IdxR) (k : ByteArray) : Int × Bool := if 0 ≤ (findP x.t k).1 then ((gl x.t (findP x.t k).1.toNat).pos, true) else (0, false)
theorem get_there {x : IdxR} {l : List (ByteArray × Int)} (h : Has x l) {k : ByteArray} {p : Int} (hm : (k, p) ∈ l) : getI x k = (p, true) := by
  obtain ⟨i, _, _, _, h4, e⟩ := h.mem hm
  unfold getI; rw [e]; simp [h4]
theorem get_none {x : IdxR} {l : List (ByteArray × Int)} (h : Has x l) {k : ByteArray} (hm : k ∉ l.map Prod.fst) : getI x k = (0, false) := by
  unfold getI; rw [(h.none_find hm).1]; rfl
end Go.Proofs.Ytfpgkgelgpandaa
