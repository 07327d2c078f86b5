/-
  The heap assertions: how they are kept, extended, changed.
-/
import Derived.Test.YthgnaehfepcblaaSxA
namespace Go.Sx

def Env.ext (ρ : Env) (p : Place) : Env := ⟨ρ.n + 1, fun t => if t = ρ.n then p else ρ.pl t⟩
theorem Env.le_ext (ρ : Env) (p : Place) : ρ.le (ρ.ext p) := ⟨Nat.le_succ _, fun t ht => by simp [Env.ext, Nat.ne_of_lt ht]⟩
theorem Env.ext_new (ρ : Env) (p : Place) : (ρ.ext p).pl ρ.n = p := by simp [Env.ext]
theorem Env.ext_old (ρ : Env) (p : Place) {t : Nat} (h : t < ρ.n) : (ρ.ext p).pl t = ρ.pl t := by simp [Env.ext, Nat.ne_of_lt h]

theorem Chunk.Sat.mono {ρ ρ' : Env} (h : ρ.le ρ') {p : Place} {w : World} {ch : Chunk} (r : ch.Sat ρ p w) : ch.Sat ρ' p w := by
  cases ch with
  | obj ty cs => obtain ⟨vs, fr, h1, h2, ⟨us, xs, h5, h3⟩, h4⟩ := r; exact ⟨vs, fr, h1, h2, ⟨us, xs, h5, h3.mono h⟩, h4⟩
  | arr ty ks n rows => exact r
  | abs R => exact r

theorem Chunk.Sat.world {ρ : Env} {p : Place} {w w' : World} {ch : Chunk} (h : ∀ b, p.fp b → w'.heap[b]? = w.heap[b]?) (r : ch.Sat ρ p w) : ch.Sat ρ p w' := by
  cases ch with
  | obj ty cs =>
    obtain ⟨vs, fr, h1, h2, h3, h4, h5⟩ := r
    exact ⟨vs, fr, (h _ ((h5 _).2 rfl)).trans h1, h2, h3, h4, h5⟩
  | arr ty ks n rows =>
    rcases r with r | ⟨vs, ty', fr, h1, h2, h3, h4, h5, h6⟩
    · exact .inl r
    · exact .inr ⟨vs, ty', fr, (h _ ((h5 _).2 rfl)).trans h1, h2, h3, h4, h5, h6⟩
  | abs R => exact fun w'' hw => r w'' fun b hb => (hw b hb).trans (h b hb)

theorem Ent.Sat.mono {w0 : World} {M : Nat → Prop} {ρ ρ' : Env} (h : ρ.le ρ') {w : World} {e : Ent} (r : e.Sat w0 M ρ w) : e.Sat w0 M ρ' w where
  tag := Nat.lt_of_lt_of_le r.tag h.n
  ch := by rw [h.pl _ r.tag]; exact r.ch.mono h
  lt := by rw [h.pl _ r.tag]; exact r.lt
  own := by rw [h.pl _ r.tag]; exact r.own

theorem HeapSat.mono {w0 : World} {M : Nat → Prop} {ρ ρ' : Env} (h : ρ.le ρ') {w : World} {hp : Heap} (r : HeapSat w0 M ρ hp w) : HeapSat w0 M ρ' hp w where
  keeps := r.keeps
  ent := fun e he => (r.ent e he).mono h
  apart := List.Pairwise.imp_of_mem (fun {x y} hx hy hxy => by
    obtain ⟨h1, h2⟩ := hxy
    refine ⟨h1, ?_⟩
    rw [h.pl _ (r.ent x hx).tag, h.pl _ (r.ent y hy).tag]; exact h2) r.apart

/-- the world goes on, and what the entries stand on stays -/
theorem HeapSat.world {w0 : World} {M M' : Nat → Prop} {ρ : Env} {w w' : World} {hp : Heap} (r : HeapSat w0 M ρ hp w) (hk : Keeps M' w w') (hM : ∀ b, b < w0.heap.size → M' b → M b)
    (hs : ∀ e ∈ hp, ∀ b, (ρ.pl e.tag).fp b → w'.heap[b]? = w.heap[b]?) : HeapSat w0 M ρ hp w' where
  keeps := ⟨hk.os.trans r.keeps.os, hk.tape.trans r.keeps.tape, hk.output.trans r.keeps.output, Nat.le_trans r.keeps.size hk.size, fun b hb hn =>
    (hk.block b (Nat.lt_of_lt_of_le hb r.keeps.size) fun hm => hn (hM b hb hm)).trans (r.keeps.block b hb hn), fun a ha => (hk.frz a (Nat.lt_of_lt_of_le ha r.keeps.size)).trans (r.keeps.frz a ha)⟩
  ent := fun e he => ⟨(r.ent e he).tag, (r.ent e he).ch.world (hs e he), fun b hb => Nat.lt_of_lt_of_le ((r.ent e he).lt b hb) hk.size, (r.ent e he).own⟩
  apart := r.apart

/-! ### the entries of a heap -/

def Heap.find : Heap → Nat → Option (Bool × Chunk)
  | [], _ => none
  | e :: r, t => bif Nat.beq e.tag t then some (e.wr, e.ch) else Heap.find r t

def Heap.upd : Heap → Nat → Chunk → Heap
  | [], _, _ => []
  | e :: r, t, ch => bif Nat.beq e.tag t then ⟨e.tag, e.wr, ch⟩ :: r else e :: Heap.upd r t ch

def Heap.del : Heap → Nat → Heap
  | [], _ => []
  | e :: r, t => bif Nat.beq e.tag t then r else e :: Heap.del r t

theorem beq_ne {a b : Nat} (h : a ≠ b) : Nat.beq a b = false := by
  rw [Bool.eq_false_iff]; intro hh; exact h (Nat.eq_of_beq_eq_true hh)
theorem beq_self' (a : Nat) : Nat.beq a a = true := by simp

theorem Heap.find_mem {hp : Heap} {t : Nat} {m : Bool} {ch : Chunk} (h : hp.find t = some (m, ch)) : (⟨t, m, ch⟩ : Ent) ∈ hp := by
  induction hp with
  | nil => simp [Heap.find] at h
  | cons e r ih =>
    simp only [Heap.find] at h
    by_cases he : e.tag = t
    · subst he
      simp only [beq_self', cond_true, Option.some.injEq, Prod.mk.injEq] at h
      obtain ⟨rfl, rfl⟩ := h
      exact List.mem_cons_self
    · simp only [beq_ne he, cond_false] at h
      exact List.mem_cons_of_mem _ (ih h)

theorem Heap.del_sub {hp : Heap} {t : Nat} : (hp.del t).Sublist hp := by
  induction hp with
  | nil => exact List.Sublist.slnil
  | cons e r ih =>
    simp only [Heap.del]
    by_cases he : e.tag = t
    · subst he; simp only [beq_self', cond_true]; exact List.sublist_cons_self _ _
    · simp only [beq_ne he, cond_false]; exact ih.cons_cons _

/-- an entry may be forgotten -/
theorem HeapSat.sub {w0 : World} {M : Nat → Prop} {ρ : Env} {w : World} {hp hp' : Heap} (r : HeapSat w0 M ρ hp w) (h : hp'.Sublist hp) : HeapSat w0 M ρ hp' w :=
  ⟨r.keeps, fun e he => r.ent e (h.subset he), r.apart.sublist h⟩

theorem HeapSat.del_ne {w0 : World} {M : Nat → Prop} {ρ : Env} {w : World} {hp : Heap} {t : Nat} {m : Bool} {ch : Chunk} (r : HeapSat w0 M ρ hp w) (h : hp.find t = some (m, ch)) :
    ∀ e ∈ hp.del t, e.tag ≠ t ∧ ((m || e.wr) = true → ∀ b, (ρ.pl t).fp b → ¬ (ρ.pl e.tag).fp b) := by
  have hap := r.apart
  clear r
  induction hp with
  | nil => simp [Heap.find] at h
  | cons x l ih =>
    simp only [Heap.find] at h
    rw [List.pairwise_cons] at hap
    by_cases he : x.tag = t
    · subst he
      simp only [beq_self', cond_true, Option.some.injEq, Prod.mk.injEq] at h
      obtain ⟨rfl, rfl⟩ := h
      intro e hm
      simp only [Heap.del, beq_self', cond_true] at hm
      exact ⟨(hap.1 e hm).1.symm, (hap.1 e hm).2⟩
    · simp only [beq_ne he, cond_false] at h
      intro e hm
      simp only [Heap.del, beq_ne he, cond_false, List.mem_cons] at hm
      rcases hm with rfl | hm
      · have hmem := Heap.find_mem h
        have := hap.1 _ hmem
        refine ⟨he, fun hw b hb hb' => this.2 (by rw [Bool.or_comm]; exact hw) b hb' hb⟩
      · exact ih h hap.2 e hm

/-- a new entry -/
theorem HeapSat.cons {w0 : World} {M : Nat → Prop} {ρ : Env} {w : World} {hp : Heap} (r : HeapSat w0 M ρ hp w) {e : Ent} (he : e.Sat w0 M ρ w) (ha : ∀ x ∈ hp, Apart ρ e x) : HeapSat w0 M ρ (e :: hp) w :=
  ⟨r.keeps, fun x hx => by rcases List.mem_cons.1 hx with rfl | h <;> first | exact he | exact r.ent x h, List.pairwise_cons.2 ⟨ha, r.apart⟩⟩

theorem Heap.upd_mem {hp : Heap} {t : Nat} {m : Bool} {ch ch' : Chunk} (h : hp.find t = some (m, ch)) : ∀ e ∈ hp.upd t ch', e = ⟨t, m, ch'⟩ ∨ e ∈ hp.del t := by
  induction hp with
  | nil => simp [Heap.find] at h
  | cons x l ih =>
    simp only [Heap.find] at h
    by_cases he : x.tag = t
    · subst he
      simp only [beq_self', cond_true, Option.some.injEq, Prod.mk.injEq] at h
      obtain ⟨rfl, rfl⟩ := h
      intro e hm
      simp only [Heap.upd, beq_self', cond_true, List.mem_cons] at hm
      simp only [Heap.del, beq_self', cond_true]
      exact hm
    · simp only [beq_ne he, cond_false] at h
      intro e hm
      simp only [Heap.upd, beq_ne he, cond_false, List.mem_cons] at hm
      simp only [Heap.del, beq_ne he, cond_false, List.mem_cons]
      rcases hm with rfl | hm
      · exact .inr (.inl rfl)
      · rcases ih h e hm with h' | h'
        · exact .inl h'
        · exact .inr (.inr h')

theorem Apart.same {ρ : Env} {x y x' y' : Ent} (h : Apart ρ x y) (h1 : x'.tag = x.tag) (h2 : x'.wr = x.wr) (h3 : y'.tag = y.tag) (h4 : y'.wr = y.wr) : Apart ρ x' y' := by
  unfold Apart at *; rw [h1, h2, h3, h4]; exact h

theorem Heap.upd_apart {ρ : Env} {hp : Heap} {t : Nat} {ch' : Chunk} (h : hp.Pairwise (Apart ρ)) : (hp.upd t ch').Pairwise (Apart ρ) := by
  induction hp with
  | nil => simp [Heap.upd]
  | cons x l ih =>
    rw [List.pairwise_cons] at h
    by_cases he : x.tag = t
    · subst he
      simp only [Heap.upd, beq_self', cond_true, List.pairwise_cons]
      exact ⟨fun y hy => (h.1 y hy).same rfl rfl rfl rfl, h.2⟩
    · simp only [Heap.upd, beq_ne he, cond_false, List.pairwise_cons]
      refine ⟨?_, ih h.2⟩
      have : ∀ (l : Heap), (∀ y ∈ l, Apart ρ x y) → ∀ y ∈ l.upd t ch', Apart ρ x y := by
        intro l
        induction l with
        | nil => intro _ y hy; simp [Heap.upd] at hy
        | cons z r ihr =>
          intro hl y hy
          by_cases hz : z.tag = t
          · subst hz
            simp only [Heap.upd, beq_self', cond_true, List.mem_cons] at hy
            rcases hy with rfl | hy
            · exact (hl z List.mem_cons_self).same rfl rfl rfl rfl
            · exact hl y (List.mem_cons_of_mem _ hy)
          · simp only [Heap.upd, beq_ne hz, cond_false, List.mem_cons] at hy
            rcases hy with rfl | hy
            · exact hl y List.mem_cons_self
            · exact ihr (fun y hy => hl y (List.mem_cons_of_mem _ hy)) y hy
      exact this l h.1

/-- an entry that may be written is changed, in its own blocks alone -/
theorem HeapSat.upd {w0 : World} {M : Nat → Prop} {ρ : Env} {w w' : World} {hp : Heap} {t : Nat} {ch ch' : Chunk} (r : HeapSat w0 M ρ hp w) (h : hp.find t = some (true, ch))
    (hk : Keeps (ρ.pl t).fp w w') (hch : ch'.Sat ρ (ρ.pl t) w') : HeapSat w0 M ρ (hp.upd t ch') w' := by
  have he := r.ent _ (Heap.find_mem h)
  have hd : HeapSat w0 M ρ (hp.del t) w' := (r.sub Heap.del_sub).world hk (fun b hb hf => he.own rfl b hf hb) (fun e hm b hb => by
    have := r.del_ne h e hm
    refine hk.block b ((r.ent e (Heap.del_sub.subset hm)).lt b hb) fun hf => this.2 rfl b hf hb)
  refine ⟨hd.keeps, fun e hm => ?_, Heap.upd_apart r.apart⟩
  rcases Heap.upd_mem h e hm with rfl | hm
  · exact ⟨he.tag, hch, fun b hb => Nat.lt_of_lt_of_le (he.lt b hb) hk.size, he.own⟩
  · exact hd.ent e hm

theorem frz_alloc (w : World) (vs : Array Value) (t : TypeId) (fr : Nat × Nat) (h : fr.2 ≤ fr.1) (a : Addr) : (w.alloc (.cells vs t fr)).frozen? a = w.frozen? a := by
  by_cases hb : a.block = w.heap.size
  · have e1 : (w.alloc (.cells vs t fr)).heap[a.block]? = some (.cells vs t fr) := by rw [hb]; show (w.heap.push _)[w.heap.size]? = _; simp
    have e2 : w.heap[a.block]? = none := by rw [hb]; simp
    obtain ⟨lo, hi⟩ := fr
    simp only at h
    simp only [World.frozen?, e1, e2]
    simp; omega
  · have e : (w.alloc (.cells vs t fr)).heap[a.block]? = w.heap[a.block]? := by
      show (w.heap.push _)[a.block]? = _
      rw [Array.getElem?_push, if_neg hb]
    simp [World.frozen?, e]

/-- a new block -/
theorem HeapSat.alloc {w0 : World} {M : Nat → Prop} {ρ : Env} {w : World} {hp : Heap} (r : HeapSat w0 M ρ hp w) (o : Obj) (p : Place) (hp0 : ∀ b, p.fp b ↔ b = w.heap.size) (hfz : ∀ a, (w.alloc o).frozen? a = w.frozen? a) {ch : Chunk} (hch : ch.Sat (ρ.ext p) p (w.alloc o)) :
    HeapSat w0 M (ρ.ext p) (⟨ρ.n, true, ch⟩ :: hp) (w.alloc o) := by
  have hk : Keeps (fun _ => False) w (w.alloc o) := ⟨rfl, rfl, rfl, by simp, fun b hb _ => by
    show (w.heap.push o)[b]? = _
    rw [Array.getElem?_push, if_neg (by omega)], fun a _ => hfz a⟩
  have h1 : HeapSat w0 M (ρ.ext p) hp (w.alloc o) := (r.world hk (fun _ _ h => h.elim) fun e he b hb => hk.block b ((r.ent e he).lt b hb) id).mono (ρ.le_ext p)
  refine h1.cons ⟨Nat.lt_succ_self _, by simpa only [ρ.ext_new p] using hch, fun b hb => ?_, fun _ b hb hb0 => ?_⟩ fun x hx => ?_
  · simp only [ρ.ext_new p] at hb
    rw [(hp0 b).1 hb]; simp
  · simp only [ρ.ext_new p] at hb
    have := r.keeps.size
    rw [(hp0 b).1 hb] at hb0
    omega
  · have ht := (r.ent x hx).tag
    refine ⟨Nat.ne_of_gt ht, fun _ b hb hb' => ?_⟩
    simp only [ρ.ext_new p] at hb
    rw [ρ.ext_old p ht] at hb'
    have := (r.ent x hx).lt b hb'
    rw [(hp0 b).1 hb] at this
    omega

end Go.Sx
