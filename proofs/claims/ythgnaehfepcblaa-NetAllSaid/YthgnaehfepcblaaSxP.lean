/-
  The order in which a region that draws its order is carried out here; its check.
-/
import Derived.Test.YthgnaehfepcblaaSxOb
namespace Go.Sx
section

/-- 'two': none (0), or the place, counted from 1, of the first of two neighbours that may come in either order -/
structure RG where
  pi : List (Nat × Bool)
  rows : List (Nat × Nat)
  two : Nat

def nlook : List (Nat × Nat) → Nat → Nat
  | [], _ => 0
  | (j, v) :: r, i => bif Nat.beq j i then v else nlook r i

def bit (n i : Nat) : Bool := Nat.beq (Nat.land (Nat.shiftRight n i) 1) 1
theorem bit_eq (n i : Nat) : bit n i = n.testBit i := by
  rw [Nat.testBit_eq_decide_div_mod_eq]
  unfold bit
  have h : Nat.land (Nat.shiftRight n i) 1 = n / 2 ^ i % 2 := by
    show (n >>> i) &&& 1 = _
    rw [Nat.and_one_is_mod, Nat.shiftRight_eq_div_pow]
  rw [h]
  by_cases h1 : n / 2 ^ i % 2 = 1
  · simp [h1]
  · rw [beq_ne h1]; simp [h1]

def bindE (e : Edge) : Bool := Region.binds .any e
def deps (o : Oper) : List Nat := (o.after.toList.filter bindE).map (·.on)
def rowOf (rows : List (Nat × Nat)) : List Nat → Nat
  | [] => 0
  | d :: r => Nat.lor (Nat.lor (Nat.shiftLeft 1 d) (nlook rows d)) (rowOf rows r)

def apartAt (all : List Oper) (ops : Array Oper) (o : Oper) (j : Nat) : Bool :=
  match all[j]? with
  | none => false
  | some p => o.apart ops p

def rgGo (all : List Oper) (ops : Array Oper) (rows : List (Nat × Nat)) : List (Nat × Bool) → Nat → Bool
  | [], seen => Nat.beq (seen + 1) (2 ^ all.length)
  | (i, b) :: r, seen =>
    match all[i]? with
    | none => false
    | some o => !bit seen i && noSel o && (deps o).all (bit seen) && Nat.beq (nlook rows i) (rowOf rows (deps o)) &&
        r.all (fun q => bit (nlook rows q.1) i || (!b && apartAt all ops o q.1)) && rgGo all ops rows r (Nat.lor seen (Nat.shiftLeft 1 i))

def rgOk (all : List Oper) (g : RG) : Bool := Nat.beq g.pi.length all.length && rgGo all all.toArray g.rows g.pi 0

def RG.anc (g : RG) (e i : Nat) : Bool := bit (nlook g.rows i) e

/-! ### it is right -/

theorem bit_lor (a b i : Nat) : bit (Nat.lor a b) i = (bit a i || bit b i) := by
  rw [bit_eq, bit_eq, bit_eq]; exact Nat.testBit_or a b i
theorem bit_one (d i : Nat) : bit (Nat.shiftLeft 1 d) i = true ↔ d = i := by
  rw [bit_eq]
  show (1 <<< d).testBit i = true ↔ _
  rw [Nat.one_shiftLeft, Nat.testBit_two_pow]
  simp
theorem bit_zero (i : Nat) : bit 0 i = false := by rw [bit_eq]; simp

theorem mem_deps {o : Oper} {d : Nat} : d ∈ deps o ↔ ∃ e ∈ o.after, Region.binds .any e = true ∧ e.on = d := by
  unfold deps bindE
  simp only [List.mem_map, List.mem_filter, Array.mem_toList_iff, and_assoc]

structure Step (all : List Oper) (rows : List (Nat × Nat)) (pre : List Nat) (i : Nat) (b : Bool) (R : List (Nat × Bool)) : Prop where
  at_ : ∃ o, all[i]? = some o ∧ noSel o = true ∧ (∀ d ∈ deps o, d ∈ pre) ∧ nlook rows i = rowOf rows (deps o) ∧ ∀ q ∈ R, bit (nlook rows q.1) i = true ∨ (b = false ∧ apartAt all all.toArray o q.1 = true)
  new : i ∉ pre

theorem rgGo_split {all : List Oper} {rows : List (Nat × Nat)} : ∀ (pi : List (Nat × Bool)) (seen : Nat) (pre : List Nat), rgGo all all.toArray rows pi seen = true → (∀ x, bit seen x = true ↔ x ∈ pre) →
    (∀ L i b R, pi = L ++ (i, b) :: R → Step all rows (pre ++ L.map (·.1)) i b R) ∧ (∀ k, k < all.length → k ∈ pre ++ pi.map (·.1))
  | [], seen, pre, h, hs => by
    refine ⟨fun L i b R e => by simp at e, fun k hk => ?_⟩
    simp only [rgGo] at h
    have h1 : seen = 2 ^ all.length - 1 := by have := Nat.eq_of_beq_eq_true h; omega
    have : bit seen k = true := by rw [bit_eq, h1, Nat.testBit_two_pow_sub_one]; simpa using hk
    simpa using (hs k).1 this
  | (i, b) :: r, seen, pre, h, hs => by
    simp only [rgGo] at h
    cases ho : all[i]? with
    | none => rw [ho] at h; cases h
    | some o =>
      rw [ho] at h
      simp only [Bool.and_eq_true, Bool.not_eq_true', List.all_eq_true, Bool.or_eq_true] at h
      obtain ⟨⟨⟨⟨⟨h1, h2⟩, h3⟩, h4⟩, h5⟩, h6⟩ := h
      have ih := rgGo_split r (Nat.lor seen (Nat.shiftLeft 1 i)) (pre ++ [i]) h6 (by
        intro x
        rw [bit_lor, Bool.or_eq_true, hs x, bit_one]
        simp only [List.mem_append, List.mem_singleton]
        exact ⟨fun h => h.imp id Eq.symm, fun h => h.imp id Eq.symm⟩)
      refine ⟨?_, ?_⟩
      · intro L i' b' R e
        cases L with
        | nil =>
          simp only [List.nil_append, List.cons.injEq, Prod.mk.injEq] at e
          obtain ⟨⟨rfl, rfl⟩, rfl⟩ := e
          refine ⟨⟨o, ho, h2, fun d hd => by simpa using (hs d).1 (h3 d hd), Nat.eq_of_beq_eq_true h4, ?_⟩, ?_⟩
          · intro q hq
            rcases h5 q hq with h | ⟨h, h'⟩
            · exact .inl h
            · exact .inr ⟨h, h'⟩
          · intro hm
            have := (hs i).2 (by simpa using hm)
            rw [this] at h1; cases h1
        | cons p L =>
          simp only [List.cons_append, List.cons.injEq] at e
          obtain ⟨rfl, rfl⟩ := e
          have := ih.1 L i' b' R rfl
          simpa using this
      · intro k hk
        have := ih.2 k hk
        simpa using this

theorem pairwise_split {α : Type} {R : α → α → Prop} : ∀ (xs : List α), (∀ a x b y c, xs = a ++ x :: (b ++ y :: c) → R x y) → xs.Pairwise R
  | [], _ => .nil
  | x :: xs, h => by
    refine List.pairwise_cons.2 ⟨fun y hy => ?_, pairwise_split xs fun a x' b y c e => h (x :: a) x' b y c (by rw [e]; rfl)⟩
    obtain ⟨b, c, rfl⟩ := List.append_of_mem hy
    exact h [] x b y c rfl

/-- the check says what is wanted -/
theorem rg_ok {all : List Oper} {g : RG} (h : rgOk all g = true) : g.pi.length = all.length ∧ Fine all.toArray g.anc ∧ Stand all.toArray (Array.replicate all.toArray.size false) (g.pi.map (·.1)) ∧ LoudOk all.toArray g.pi := by
  simp only [rgOk, Bool.and_eq_true] at h
  obtain ⟨hlen, h⟩ := h
  obtain ⟨hsp, hcov⟩ := rgGo_split g.pi 0 [] h (fun x => by simp [bit_zero])
  simp only [List.nil_append] at hsp hcov
  have hdep : ∀ {d i : Nat} {o : Oper}, all[i]? = some o → (Dep all.toArray d i ↔ d ∈ deps o) := by
    intro d i o ho
    rw [mem_deps]
    constructor
    · rintro ⟨o', ho', h⟩
      have : o' = o := by simpa [ho] using ho'.symm
      subst this; exact h
    · intro h; exact ⟨o, by simpa using ho, h⟩
  -- ancestors lie ahead
  have hahead : ∀ {y x : Nat}, Anc all.toArray y x → ∀ L b R, g.pi = L ++ (x, b) :: R → y ∈ L.map (·.1) := by
    intro y x ha
    induction ha with
    | one d =>
      intro L b R e
      obtain ⟨⟨o, ho, _, hd, _⟩, _⟩ := hsp L _ b R e
      exact hd _ ((hdep ho).1 d)
    | @step j k _ d ih =>
      intro L b R e
      obtain ⟨⟨o, ho, _, hd, _⟩, _⟩ := hsp L _ b R e
      obtain ⟨p, hp, hpj⟩ := List.mem_map.1 (hd _ ((hdep ho).1 d))
      obtain ⟨L1, L2, rfl⟩ := List.append_of_mem hp
      obtain ⟨j', b'⟩ := p
      simp only at hpj
      subst hpj
      have := ih L1 b' (L2 ++ (k, b) :: R) (by rw [e]; simp)
      simp only [List.map_append, List.mem_append]
      exact .inl this
  -- the rows tell ancestors
  have hrow1 : ∀ (rs : List Nat) (e : Nat), bit (rowOf g.rows rs) e = true → ∃ d ∈ rs, d = e ∨ bit (nlook g.rows d) e = true := by
    intro rs e
    induction rs with
    | nil => intro h; simp only [rowOf, bit_zero] at h; cases h
    | cons d rs ih =>
      intro h
      simp only [rowOf, bit_lor, Bool.or_eq_true, bit_one] at h
      rcases h with (h | h) | h
      · exact ⟨d, List.mem_cons_self, .inl h⟩
      · exact ⟨d, List.mem_cons_self, .inr h⟩
      · obtain ⟨d', hd', h'⟩ := ih h; exact ⟨d', List.mem_cons_of_mem _ hd', h'⟩
  have hrow : ∀ (n : Nat) (L : List (Nat × Bool)), L.length = n → ∀ i b R, g.pi = L ++ (i, b) :: R → ∀ e, bit (nlook g.rows i) e = true → Anc all.toArray e i := by
    intro n
    induction n using Nat.strongRecOn with
    | ind n ih =>
      intro L hL i b R e x hx
      obtain ⟨⟨o, ho, _, hd, hr, _⟩, _⟩ := hsp L _ b R e
      rw [hr] at hx
      obtain ⟨d, hd1, hd2⟩ := hrow1 _ _ hx
      have hdp := (hdep ho).2 hd1
      rcases hd2 with rfl | hd2
      · exact .one hdp
      · obtain ⟨p, hp, hpj⟩ := List.mem_map.1 (hd _ hd1)
        obtain ⟨L1, L2, rfl⟩ := List.append_of_mem hp
        obtain ⟨j', b'⟩ := p
        simp only at hpj
        subst hpj
        exact .step (ih L1.length (by simp at hL; omega) L1 rfl j' b' (L2 ++ (i, b) :: R) (by rw [e]; simp) x hd2) hdp
  have hsplit : ∀ x ∈ g.pi.map (·.1), ∃ L b R, g.pi = L ++ (x, b) :: R := by
    intro x hx
    obtain ⟨p, hp, rfl⟩ := List.mem_map.1 hx
    obtain ⟨L, R, e⟩ := List.append_of_mem hp
    exact ⟨L, p.2, R, e⟩
  have hanc : ∀ i ∈ g.pi.map (·.1), ∀ e, bit (nlook g.rows i) e = true → Anc all.toArray e i := by
    intro i hi e he
    obtain ⟨L, b, R, h⟩ := hsplit i hi
    exact hrow _ L rfl i b R h e he
  have hlt : ∀ x ∈ g.pi.map (·.1), x < all.length := by
    intro x hx
    obtain ⟨L, b, R, e⟩ := hsplit x hx
    obtain ⟨⟨o, ho, _⟩, _⟩ := hsp L x b R e
    exact (List.getElem?_eq_some_iff.1 ho).1
  -- two of them
  have hmapsplit : ∀ (a : List Nat) (x : Nat) (c : List Nat), g.pi.map (·.1) = a ++ x :: c → ∃ L b R, g.pi = L ++ (x, b) :: R ∧ L.map (·.1) = a ∧ R.map (·.1) = c := by
    intro a x c e
    obtain ⟨l1, l2, e1, e2, e3⟩ := List.map_eq_append_iff.1 e
    obtain ⟨p, l3, e4, e5, e6⟩ := List.map_eq_cons_iff.1 e3
    subst e4
    refine ⟨l1, p.2, l3, ?_, e2, e6⟩
    rw [e1, ← e5]
  have hnodup : (g.pi.map (·.1)).Nodup := by
    refine pairwise_split _ fun a x b y c e => ?_
    rintro rfl
    obtain ⟨L, b', R, e1, e2, e3⟩ := hmapsplit (a ++ x :: b) x c (by rw [e]; simp)
    have := (hsp L x b' R e1).new
    rw [e2] at this
    exact this (by simp)
  refine ⟨Nat.eq_of_beq_eq_true hlen, ⟨?_, ?_, ?_, ?_⟩, ⟨by simp, fun x hx => by simpa using hlt x hx, ?_, hnodup, fun k hk => .inr (hcov k (by simpa using hk)), ?_, ?_⟩, ?_⟩
  · -- apart
    have one : ∀ (a : List Nat) (x : Nat) (b : List Nat) (y : Nat) (c : List Nat), g.pi.map (·.1) = a ++ x :: (b ++ y :: c) → ∀ ox oy, all[x]? = some ox → all[y]? = some oy → Anc all.toArray x y ∨ ox.apart all.toArray oy = true := by
      intro a x b y c e ox oy hx hy
      obtain ⟨L, b', R, e1, e2, e3⟩ := hmapsplit a x (b ++ y :: c) e
      obtain ⟨⟨o, ho, _, _, _, hq⟩, _⟩ := hsp L x b' R e1
      have hym : y ∈ R.map (·.1) := by rw [e3]; simp
      obtain ⟨q, hqm, rfl⟩ := List.mem_map.1 hym
      rcases hq q hqm with h | ⟨_, h⟩
      · exact .inl (hanc _ (by rw [e]; simp) _ h)
      · refine .inr ?_
        rw [hx] at ho; cases ho
        simpa [apartAt, hy] using h
    intro i j oi oj hi hj hne
    have hi' : all[i]? = some oi := by simpa using hi
    have hj' : all[j]? = some oj := by simpa using hj
    have mi := hcov i (List.getElem?_eq_some_iff.1 hi').1
    have mj := hcov j (List.getElem?_eq_some_iff.1 hj').1
    obtain ⟨a, c, e⟩ := List.append_of_mem mi
    rw [e] at mj
    rcases List.mem_append.1 mj with h | h
    · obtain ⟨a1, a2, rfl⟩ := List.append_of_mem h
      rcases one a1 j a2 i c (by rw [e]; simp) oj oi hj' hi' with h | h
      · exact .inr (.inl h)
      · exact .inr (.inr (apart_symm h))
    · rcases List.mem_cons.1 h with h | h
      · exact absurd h.symm hne
      · obtain ⟨c1, c2, rfl⟩ := List.append_of_mem h
        rcases one a i c1 j c2 e oi oj hi' hj' with h | h
        · exact .inl h
        · exact .inr (.inr h)
  · intro i o ho
    have ho' : all[i]? = some o := by simpa using ho
    obtain ⟨L, b, R, e⟩ := hsplit i (hcov i (List.getElem?_eq_some_iff.1 ho').1)
    obtain ⟨⟨o', h1, h2, _⟩, _⟩ := hsp L i b R e
    rw [ho'] at h1; cases h1; exact h2
  · intro i j hj h
    exact hanc j (hcov j (by simpa using hj)) i h
  · intro i j hd
    obtain ⟨o, ho, _⟩ := id hd
    have ho' : all[j]? = some o := by simpa using ho
    obtain ⟨L, b, R, e⟩ := hsplit j (hcov j (List.getElem?_eq_some_iff.1 ho').1)
    have hs := hsp L j b R e
    have hm := hahead (.one hd) L b R e
    refine ⟨?_, ?_⟩
    · rintro rfl; exact hs.new hm
    · have : i ∈ g.pi.map (·.1) := by rw [e]; simp only [List.map_append, List.mem_append]; exact .inl hm
      simpa using hlt i this
  · intro x hx
    have := hlt x hx
    simp [Array.getD, this]
  · intro i j hd hj
    simp [Array.getD] at hj
  · refine pairwise_split _ fun a x b y c e ha => ?_
    obtain ⟨L, b', R, e1, e2, e3⟩ := hmapsplit a x (b ++ y :: c) e
    have hm := hahead ha L b' R e1
    rw [e2] at hm
    rw [e] at hnodup
    exact (List.nodup_append.1 hnodup).2.2 y hm y (by simp) rfl
  · intro L R x e q hq
    obtain ⟨⟨o, ho, _, _, _, hq'⟩, _⟩ := hsp L x true R e
    rcases hq' q hq with h | ⟨h, _⟩
    · refine hanc q.1 ?_ _ h
      rw [e]
      simp only [List.map_append, List.mem_append, List.map_cons, List.mem_cons]
      exact .inr (.inr (List.mem_map_of_mem hq))
    · cases h

def quiets : List (Nat × Bool) → Bool
  | [] => true
  | (_, b) :: r => !b && quiets r
theorem quiets_map : ∀ {l : List (Nat × Bool)}, quiets l = true → l = (l.map (·.1)).map fun i => (i, false)
  | [], _ => rfl
  | (i, b) :: r, h => by
    simp only [quiets, Bool.and_eq_true, Bool.not_eq_true'] at h
    obtain ⟨rfl, h⟩ := h
    simp only [List.map_cons]
    rw [← quiets_map h]

/-- likewise, where two may come in either order -/
def rgOkT (all : List Oper) (g : RG) : Bool :=
  match g.two with
  | 0 => rgOk all g
  | k + 1 => match g.pi.drop k with
    | (x, true) :: (y, true) :: R => quiets (g.pi.take k) && rgOk all ⟨g.pi.take k ++ (x, false) :: (y, true) :: R, g.rows, 0⟩ && rgOk all ⟨g.pi.take k ++ (y, false) :: (x, true) :: R, g.rows, 0⟩
    | _ => false
end
end Go.Sx
