/-
  A region that draws its order.
-/
import Derived.Test.YthgnaehfepcblaaSxP
namespace Go.Sx
section

def has : List Nat → Nat → Bool
  | [], _ => false
  | j :: r, i => bif Nat.beq j i then true else has r i
theorem has_mem : ∀ {l : List Nat} {i : Nat}, has l i = true ↔ i ∈ l
  | [], i => by simp [has]
  | j :: r, i => by
    simp only [has]
    by_cases h : j = i
    · subst h; simp
    · rw [beq_ne h]; simp only [cond_false, List.mem_cons]
      rw [has_mem]
      exact ⟨.inr, fun h' => h'.resolve_left fun e => h e.symm⟩

/-- these are not to be written -/
def Heap.freeze (ts : List Nat) (hp : Heap) : Heap := hp.map fun e => ⟨e.tag, bif has ts e.tag then false else e.wr, e.ch⟩
def thaw1 (old : Heap) (ts : List Nat) (e : Ent) : Option Ent :=
  match old.find e.tag with
  | some (m, _) => bif has ts e.tag then some ⟨e.tag, m, e.ch⟩ else some e
  | none => bif e.wr then some e else none
/-- they may be written again -/
def Heap.thaw (old : Heap) (ts : List Nat) (hp : Heap) : Heap := hp.filterMap (thaw1 old ts)

def toFreeze (g : RG) (i : Nat) : List (Nat × Option Nat) → Option (List Nat)
  | [] => some []
  | (e, x) :: r => bif g.anc e i then toFreeze g i r else
    match x, toFreeze g i r with
    | some t, some ts => some (t :: ts)
    | _, _ => none
def stale (g : RG) (i : Nat) (E : List (Nat × Option Nat)) : List (Nat × Option Nat) := E.map fun p => (p.1, bif g.anc p.1 i then none else p.2)

/-- the loud one -/
def xloud (G : Fx) (ch : CallH) (o : Oper) (ts : List Nat) (s : S) (K : KV) : Prop :=
  match ts with
  | [] => xrun G ch o s K
  | _ :: _ => bif ts.all (fun t => (s.hp.find t).isSome) then xrun G ch o (s.put (s.hp.freeze ts)) fun v s' => K v (s'.put (Heap.thaw s.hp ts s'.hp)) else False

def xdraw (G : Fx) (ch : CallH) (all : List Oper) (g : RG) : List (Nat × Bool) → List (Nat × Option Nat) → S → (S → Prop) → Prop
  | [], _, s, K => K s
  | (i, loud) :: r, E, s, K =>
    match all[i]? with
    | none => False
    | some o => xguard G.X all o s
        (fun s => bif loud then
            (match toFreeze g i E with
            | none => False
            | some ts => xloud G ch o ts s fun v s => xput o v s fun s => xdraw G ch all g r (stale g i E) s K)
          else bif isQuiet o then
            xop G.X o s fun v s1 => xput o v s1 fun s2 => xdraw G ch all g r (match rtag o s with | some t => (i, some t) :: E | none => E) s2 K
          else False)
        (fun s => xput o (.tup []) s fun s => xdraw G ch all g r E s K)

/-! ### it is right -/

theorem apart_of_mem {ρ : Env} : ∀ {hp : Heap}, hp.Pairwise (Apart ρ) → ∀ {x y : Ent}, x ∈ hp → y ∈ hp → x.tag ≠ y.tag → (x.wr || y.wr) = true → ∀ b, (ρ.pl x.tag).fp b → ¬ (ρ.pl y.tag).fp b
  | [], _, _, _, hx, _, _, _ => by cases hx
  | e :: r, h, x, y, hx, hy, hne, hw => by
    obtain ⟨h1, h2⟩ := List.pairwise_cons.1 h
    rcases List.mem_cons.1 hx with hx | hx
    · rcases List.mem_cons.1 hy with hy | hy
      · exact absurd (by rw [hx, hy]) hne
      · rw [hx] at hw ⊢; exact (h1 y hy).2 hw
    · rcases List.mem_cons.1 hy with hy | hy
      · intro b hb hb'
        rw [hy] at hb' hw
        exact (h1 x hx).2 (by rw [Bool.or_comm]; exact hw) b hb' hb
      · exact apart_of_mem h2 hx hy hne hw

theorem freeze_mem {ts : List Nat} {hp : Heap} {e : Ent} (h : e ∈ hp.freeze ts) : ∃ e0 ∈ hp, e.tag = e0.tag ∧ e.ch = e0.ch ∧ (e.wr = true → e0.wr = true ∧ e.tag ∉ ts) := by
  obtain ⟨e0, h0, rfl⟩ := List.mem_map.1 h
  refine ⟨e0, h0, rfl, rfl, ?_⟩
  show (bif has ts e0.tag then false else e0.wr) = true → _
  cases hh : has ts e0.tag with
  | true => intro h; cases h
  | false => intro h; exact ⟨h, fun hm => by rw [has_mem.2 hm] at hh; cases hh⟩

def frozenM (ρ : Env) (hp : Heap) : Nat → Prop := fun b => ∃ e ∈ hp, e.wr = true ∧ (ρ.pl e.tag).fp b

theorem HeapSat.freeze {w0 : World} {M : Nat → Prop} {ρ : Env} {w : World} {hp : Heap} (h : HeapSat w0 M ρ hp w) (ts : List Nat) : HeapSat w (frozenM ρ (hp.freeze ts)) ρ (hp.freeze ts) w where
  keeps := Keeps.refl _ w
  ent := fun e he => by
    obtain ⟨e0, h0, h1, h2, _⟩ := freeze_mem he
    have hs := h.ent e0 h0
    exact ⟨h1 ▸ hs.tag, by rw [h1, h2]; exact hs.ch, by rw [h1]; exact hs.lt, fun hw b hb _ => ⟨e, he, hw, hb⟩⟩
  apart := by
    refine List.pairwise_map.2 (h.apart.imp fun {x y} hxy => ⟨hxy.1, fun hw => hxy.2 ?_⟩)
    have hw' : ((bif has ts x.tag then false else x.wr) || (bif has ts y.tag then false else y.wr)) = true := hw
    cases hx : has ts x.tag <;> cases hy : has ts y.tag <;> simp [hx, hy] at hw' <;> simp [hw']

theorem Heap.find_some {hp : Heap} {t : Nat} (h : (hp.find t).isSome = true) : ∃ m ch, (⟨t, m, ch⟩ : Ent) ∈ hp := by
  cases hf : hp.find t with
  | none => rw [hf] at h; cases h
  | some p => exact ⟨p.1, p.2, Heap.find_mem hf⟩

theorem thaw_mem {old : Heap} {ts : List Nat} {e e2 : Ent} (h : thaw1 old ts e2 = some e) : e.tag = e2.tag ∧ e.ch = e2.ch ∧ (e = e2 ∧ (e2.wr = true ∨ ∃ m ch, (⟨e.tag, m, ch⟩ : Ent) ∈ old) ∨ ∃ ch, (⟨e.tag, e.wr, ch⟩ : Ent) ∈ old) := by
  unfold thaw1 at h
  cases hf : old.find e2.tag with
  | none =>
    rw [hf] at h
    simp only at h
    cases hw : e2.wr with
    | false => rw [hw] at h; cases h
    | true =>
      rw [hw] at h
      simp only [cond_true, Option.some.injEq] at h
      subst h; exact ⟨rfl, rfl, .inl ⟨rfl, .inl rfl⟩⟩
  | some p =>
    obtain ⟨m, ch⟩ := p
    rw [hf] at h
    simp only at h
    have hm := Heap.find_mem hf
    cases hh : has ts e2.tag with
    | true => rw [hh] at h; cases h; exact ⟨rfl, rfl, .inr ⟨ch, hm⟩⟩
    | false => rw [hh] at h; cases h; exact ⟨rfl, rfl, .inl ⟨rfl, .inr ⟨m, ch, hm⟩⟩⟩

theorem frozen_M {w0 : World} {M : Nat → Prop} {ρ : Env} {w : World} {hp : Heap} (h : HeapSat w0 M ρ hp w) (ts : List Nat) {b : Nat} (hb : b < w0.heap.size) (hm : frozenM ρ (hp.freeze ts) b) : M b := by
  obtain ⟨e, he, hw, hf⟩ := hm
  obtain ⟨e0, h0, h1, _, h3⟩ := freeze_mem he
  exact (h.ent e0 h0).own (h3 hw).1 b (by rw [← h1]; exact hf) hb

theorem HeapSat.thaw {w0 : World} {M : Nat → Prop} {ρ ρ' : Env} {w w' : World} {hp hp' : Heap} {ts : List Nat} (h : HeapSat w0 M ρ hp w) (hle : ρ.le ρ') (h' : HeapSat w (frozenM ρ (hp.freeze ts)) ρ' hp' w') :
    HeapSat w0 M ρ' (Heap.thaw hp ts hp') w' where
  keeps := ⟨h'.keeps.os.trans h.keeps.os, h'.keeps.tape.trans h.keeps.tape, h'.keeps.output.trans h.keeps.output, Nat.le_trans h.keeps.size h'.keeps.size, fun b hb hn =>
    (h'.keeps.block b (Nat.lt_of_lt_of_le hb h.keeps.size) fun hm => hn (frozen_M h ts hb hm)).trans (h.keeps.block b hb hn), fun a ha => (h'.keeps.frz a (Nat.lt_of_lt_of_le ha h.keeps.size)).trans (h.keeps.frz a ha)⟩
  ent := fun e he => by
    obtain ⟨e2, he2, ht⟩ := List.mem_filterMap.1 he
    obtain ⟨h1, h2, h3⟩ := thaw_mem ht
    have hs := h'.ent e2 he2
    refine ⟨h1 ▸ hs.tag, by rw [h1, h2]; exact hs.ch, by rw [h1]; exact hs.lt, fun hw b hb hlt => ?_⟩
    rcases h3 with ⟨rfl, _⟩ | ⟨ch, hm⟩
    · exact frozen_M h ts hlt (hs.own hw b hb (Nat.lt_of_lt_of_le hlt h.keeps.size))
    · have hs0 := h.ent _ hm
      refine hs0.own hw b ?_ hlt
      rw [← hle.pl _ hs0.tag]; exact hb
  apart := by
    refine List.pairwise_filterMap.2 (List.Pairwise.imp_of_mem (fun {x y} hx hy hxy => ?_) h'.apart)
    intro e he e' he'
    obtain ⟨h1, _, h3⟩ := thaw_mem he
    obtain ⟨h1', _, h3'⟩ := thaw_mem he'
    have hne : e.tag ≠ e'.tag := by rw [h1, h1']; exact hxy.1
    refine ⟨hne, fun hw => ?_⟩
    by_cases hxw : (x.wr || y.wr) = true
    · rw [h1, h1']; exact hxy.2 hxw
    · have hx0 : x.wr = false := by cases hh : x.wr <;> simp [hh] at hxw ⊢
      have hy0 : y.wr = false := by cases hh : y.wr <;> simp [hh] at hxw ⊢
      have gx : ∃ m ch, (⟨e.tag, m, ch⟩ : Ent) ∈ hp ∧ (e.wr = true → m = true) := by
        rcases h3 with ⟨rfl, h | ⟨m, ch, h⟩⟩ | ⟨ch, h⟩
        · rw [hx0] at h; cases h
        · exact ⟨m, ch, h, fun hh => by rw [hx0] at hh; cases hh⟩
        · exact ⟨_, ch, h, id⟩
      have gy : ∃ m ch, (⟨e'.tag, m, ch⟩ : Ent) ∈ hp ∧ (e'.wr = true → m = true) := by
        rcases h3' with ⟨rfl, h | ⟨m, ch, h⟩⟩ | ⟨ch, h⟩
        · rw [hy0] at h; cases h
        · exact ⟨m, ch, h, fun hh => by rw [hy0] at hh; cases hh⟩
        · exact ⟨_, ch, h, id⟩
      obtain ⟨m, ch, g1, g2⟩ := gx
      obtain ⟨m', ch', g1', g2'⟩ := gy
      have := apart_of_mem h.apart g1 g1' hne (by
        show (m || m') = true
        cases he : e.wr with
        | true => rw [g2 he]; rfl
        | false =>
          rw [he] at hw
          rw [g2' (by simpa using hw)]; simp)
      rw [hle.pl _ (h.ent _ g1).tag, hle.pl _ (h.ent _ g1').tag]
      exact this

theorem frozen_keeps {w0 : World} {M : Nat → Prop} {ρ ρ' : Env} {w w' : World} {hp hp' : Heap} {ts : List Nat} (h : HeapSat w0 M ρ hp w) (h' : HeapSat w (frozenM ρ (hp.freeze ts)) ρ' hp' w') {t : Nat} (ht : t ∈ ts) (hf : (hp.find t).isSome = true) {b : Nat} (hb : (ρ.pl t).fp b) : w'.heap[b]? = w.heap[b]? := by
  obtain ⟨m, ch, hm⟩ := Heap.find_some hf
  refine h'.keeps.block b ((h.ent _ hm).lt b hb) ?_
  rintro ⟨e, he, hw, hfp⟩
  obtain ⟨e0, h0, h1, _, h3⟩ := freeze_mem he
  obtain ⟨h4, h5⟩ := h3 hw
  have hne : e0.tag ≠ t := by rintro rfl; rw [h1] at h5; exact h5 ht
  exact apart_of_mem h.apart h0 hm hne (by rw [h4]; rfl) b (by rw [← h1]; exact hfp) hb

/-- what a loud one does -/
theorem xrun_loud {G : Fx} (hG : G.Ok) {ch : CallH} (hch : HOk G.X ch) {o : Oper} {s : S} {K : KV} (h : xrun G ch o s K) {w0 : World} {M : Nat → Prop} {ρ : Env} {a : Act} {w : World} (hs : SatE w0 M ρ s a w) :
    Loud G.X.P (execOp a.eval o) w fun v w' => Out w0 M ρ s w' v K := by
  have plain : ∀ K, xop G.X o s K → Loud G.X.P (execOp a.eval o) w fun v w' => Out w0 M ρ s w' v K := by
    intro K h
    obtain ⟨r, w', hr, v, hv, hout⟩ := xop_ok hG.cx h w0 M ρ a w hs
    refine .inl ⟨v, w', ?_, hout⟩
    rcases hv with rfl | ⟨rfl, rfl⟩
    · exact .inl hr
    · exact .inr ⟨hr, rfl⟩
  unfold xrun at h
  split at h
  · rename_i c hc
    split at h
    · rename_i f hf
      split at h
      · rename_i g hg
        split at h
        · rename_i fn hfn
          have hok := hG.fns _ (fnAt_mem hfn)
          have hev : a.eval f = .func (.func g) #[] #[] := by have := hs.frame.ev f; rw [hg] at this; exact this
          have hcall := hch _ _ _ _ h w0 M ρ w (c.args.toList.map a.eval) hs.n hs.heap (RepArgs_ev hs.frame _)
          refine .inr ⟨g, c.args.map a.eval, ?_, ?_⟩
          · obtain ⟨callee, args, ts⟩ := c
            simp only at hf
            have hb : fn.body ≠ none := by have := hok.body; cases hh : fn.body <;> simp [hh] at this ⊢
            have hne : fn.name ≠ "runtime.NumGoroutine" := by have := hok.name; simpa using this
            simp [execOp, hc, hf, resolve, hev, Deferred.ofValue, invoke, callFunc, hok.at_, hne, hb]
          · have e : (c.args.toList.map a.eval).toArray = c.args.map a.eval := by apply Array.toList_inj.1; simp
            rw [e] at hcall
            exact hcall
        · exact h.elim
      · exact h.elim
    · exact plain K h
    · exact h.elim
  · exact plain K h

theorem Loud.mono {P : Program} {m : Sem Next} {w : World} {R R' : Value → World → Prop} (h : Loud P m w R) (hh : ∀ v w', R v w' → R' v w') : Loud P m w R' := by
  rcases h with ⟨v, w', h1, h2⟩ | ⟨f, args, h1, h2⟩
  · exact .inl ⟨v, w', h1, hh _ _ h2⟩
  · refine .inr ⟨f, args, h1, h2.mono ?_⟩
    rintro e w' ⟨v, rfl, h3⟩
    exact ⟨v, rfl, hh _ _ h3⟩

/-- the loud one, and what stays as it was -/
theorem xloud_loud {G : Fx} (hG : G.Ok) {ch : CallH} (hch : HOk G.X ch) {o : Oper} {ts : List Nat} {s : S} {K : KV} (h : xloud G ch o ts s K) {w0 : World} {M : Nat → Prop} {ρ : Env} {a : Act} {w : World} (hs : SatE w0 M ρ s a w) :
    Loud G.X.P (execOp a.eval o) w fun v w' => Out w0 M ρ s w' v K ∧ ∀ t ∈ ts, ∀ b, (ρ.pl t).fp b → w'.heap[b]? = w.heap[b]? := by
  unfold xloud at h
  cases ts with
  | nil => exact (xrun_loud hG hch h hs).mono fun v w' ho => ⟨ho, fun t ht => by cases ht⟩
  | cons t0 ts =>
    simp only at h
    cases ha : (t0 :: ts).all fun t => (s.hp.find t).isSome with
    | false => rw [ha] at h; exact h.elim
    | true =>
      rw [ha] at h
      simp only [cond_true] at h
      have hs' : SatE w (frozenM ρ (s.hp.freeze (t0 :: ts))) ρ (s.put (s.hp.freeze (t0 :: ts))) a w := ⟨hs.defers, hs.size, hs.n, hs.frame, hs.heap.freeze _⟩
      refine (xrun_loud hG hch h hs').mono fun v w' ho => ?_
      obtain ⟨sv, s', ρ', h1, h2, h3, h4, h5, h6, h7⟩ := ho
      refine ⟨⟨sv, _, ρ', h1, h2, h3, h4, h5, h6, hs.heap.thaw h4 h7⟩, fun t ht b hb => frozen_keeps hs.heap h7 ht ?_ hb⟩
      exact List.all_eq_true.1 ha t ht

def Known (P : Program) (ρ : Env) (w : World) (E : List (Nat × Option Nat)) (e : Nat × Sem Next × Value) : Prop :=
  (∀ w' : World, e.2.1.run P w' = .ok (.value e.2.2) w') ∨ (∃ t, (e.1, some t) ∈ E ∧ t < ρ.n ∧ ∀ w' : World, (∀ b, (ρ.pl t).fp b → w'.heap[b]? = w.heap[b]?) → e.2.1.run P w' = .ok (.value e.2.2) w') ∨ (e.1, none) ∈ E

theorem Known.mono {P : Program} {ρ ρ' : Env} (h : ρ.le ρ') {w : World} {E : List (Nat × Option Nat)} {e : Nat × Sem Next × Value} (k : Known P ρ w E e) : Known P ρ' w E e := by
  rcases k with k | ⟨t, k1, k2, k3⟩ | k
  · exact .inl k
  · exact .inr (.inl ⟨t, k1, Nat.lt_of_lt_of_le k2 h.n, by rw [h.pl t k2]; exact k3⟩)
  · exact .inr (.inr k)

theorem toFreeze_spec {g : RG} {i : Nat} : ∀ {E : List (Nat × Option Nat)} {ts : List Nat}, toFreeze g i E = some ts → ∀ {e x}, (e, x) ∈ E → g.anc e i = false → ∃ t ∈ ts, x = some t
  | [], _, _, _, _, hm, _ => by cases hm
  | (e', x') :: E, ts, h, e, x, hm, ha => by
    simp only [toFreeze] at h
    cases hb : g.anc e' i with
    | true =>
      rw [hb] at h
      simp only [cond_true] at h
      rcases List.mem_cons.1 hm with h' | h'
      · cases h'; rw [hb] at ha; cases ha
      · exact toFreeze_spec h h' ha
    | false =>
      rw [hb] at h
      simp only [cond_false] at h
      split at h
      · rename_i t ts' h1
        cases h
        rcases List.mem_cons.1 hm with h' | h'
        · cases h'; exact ⟨t, List.mem_cons_self, rfl⟩
        · obtain ⟨t', ht, e'⟩ := toFreeze_spec h1 h' ha
          exact ⟨t', List.mem_cons_of_mem _ ht, e'⟩
      · cases h

theorem xdraw_run {G : Fx} (hG : G.Ok) {ch : CallH} (hch : HOk G.X ch) {all : List Oper} {g : RG} {w0 : World} {M : Nat → Prop} {Q : Act → World → Prop} {K : S → Prop} : ∀ (pi : List (Nat × Bool)) (E : List (Nat × Option Nat)) (Es : List (Nat × Sem Next × Value)) (s : S) (ρ : Env) (a : Act) (w : World),
    xdraw G ch all g pi E s K → SatE w0 M ρ s a w → (∀ e ∈ Es, Known G.X.P ρ w E e) →
    (∀ s' ρ' a' w', K s' → ρ.le ρ' → SatE w0 M ρ' s' a' w' → Q a' w') → nrun G.X.P all.toArray g.anc Q pi Es a w
  | [], E, Es, s, ρ, a, w, h, hs, _, hQ => hQ s ρ a w h (Env.le.refl ρ) hs
  | (i, loud) :: r, E, Es, s, ρ, a, w, h, hs, hE, hQ => by
    simp only [xdraw] at h
    simp only [nrun]
    cases ho : all[i]? with
    | none => rw [ho] at h; exact h.elim
    | some o =>
      rw [ho] at h
      have ho' : all.toArray[i]? = some o := by simpa using ho
      rw [ho']
      simp only at h ⊢
      obtain ⟨s', _, hs', _, hcase⟩ := xguard_ok h hs
      rcases hcase with ⟨hw, h⟩ | ⟨hw, h⟩
      · rw [if_pos hw]
        cases loud with
        | true =>
          simp only [cond_true, if_true] at h ⊢
          cases hf : toFreeze g i E with
          | none => rw [hf] at h; exact h.elim
          | some ts =>
            rw [hf] at h
            simp only at h
            refine (xloud_loud hG hch h hs').mono ?_
            rintro v w' ⟨hout, hkeep⟩
            refine ⟨?_, ?_⟩
            · intro e he hae
              rcases hE e he with k | ⟨t, k1, k2, k3⟩ | k
              · exact k w'
              · obtain ⟨t', ht', e'⟩ := toFreeze_spec hf k1 hae
                cases e'
                exact k3 w' (hkeep t ht')
              · obtain ⟨t', ht', e'⟩ := toFreeze_spec hf k hae
                cases e'
            · obtain ⟨sv, s2, ρ', hK, hle, hv, hs2⟩ := hout.sat hs'
              obtain ⟨s3, h3, hs3⟩ := xput_ok hK hs2 hv
              refine xdraw_run hG hch r _ Es s3 ρ' _ w' h3 hs3 ?_ fun s4 ρ4 a4 w4 k hl hs4 => hQ s4 ρ4 a4 w4 k (hle.trans hl) hs4
              intro e he
              rcases hE e he with k | ⟨t, k1, k2, k3⟩ | k
              · exact .inl k
              · have hm : (e.1, bif g.anc e.1 i then none else some t) ∈ stale g i E := List.mem_map.2 ⟨_, k1, rfl⟩
                cases hae : g.anc e.1 i with
                | true => rw [hae] at hm; exact .inr (.inr hm)
                | false =>
                  rw [hae] at hm
                  obtain ⟨t', ht', e'⟩ := toFreeze_spec hf k1 hae
                  cases e'
                  refine .inr (.inl ⟨t, hm, Nat.lt_of_lt_of_le k2 hle.n, fun w'' hw'' => k3 w'' fun b hb => ?_⟩)
                  exact (hw'' b (by rw [hle.pl t k2]; exact hb)).trans (hkeep t ht' b hb)
              · have hm : (e.1, bif g.anc e.1 i then none else none) ∈ stale g i E := List.mem_map.2 ⟨_, k, rfl⟩
                cases hae : g.anc e.1 i <;> rw [hae] at hm <;> exact .inr (.inr hm)
        | false =>
          simp only [cond_false, Bool.false_eq_true, if_false] at h ⊢
          cases hq : isQuiet o with
          | false => rw [hq] at h; exact h.elim
          | true =>
            rw [hq] at h
            simp only [cond_true] at h
            obtain ⟨v, sv, h1, h2, h3⟩ := xop_quiet hG.cx hq h w0 M ρ a w hs'
            refine ⟨v, h3 w fun _ _ _ _ => rfl, ?_⟩
            obtain ⟨s3, h4, hs3⟩ := xput_ok h1 hs' h2
            refine xdraw_run hG hch r _ _ s3 ρ _ w h4 hs3 ?_ hQ
            intro e he
            rcases List.mem_cons.1 he with rfl | he
            · cases hr : rtag o s' with
              | none => exact .inl fun w' => h3 w' fun t ht => by rw [hr] at ht; cases ht
              | some t =>
                refine .inr (.inl ⟨t, List.mem_cons_self, ?_, fun w' hw' => h3 w' fun t' ht' => ?_⟩)
                · have hp : ∀ x, ptag (s'.ev x) = some t → t < ρ.n := by
                    intro x hr
                    have := hs'.frame.ev x
                    unfold ptag at hr
                    split at hr
                    · rename_i e; cases hr; rw [e] at this; exact this.1
                    · rename_i e; cases hr; rw [e] at this; exact this.1
                    · cases hr
                  unfold rtag at hr
                  split at hr
                  · exact hp _ hr
                  · exact hp _ hr
                  · cases hr
                · rw [hr] at ht'; cases ht'; exact hw'
            · rcases hE e he with k | ⟨t, k1, k2, k3⟩ | k
              · exact .inl k
              · refine .inr (.inl ⟨t, ?_, k2, k3⟩)
                split
                · exact List.mem_cons_of_mem _ k1
                · exact k1
              · refine .inr (.inr ?_)
                split
                · exact List.mem_cons_of_mem _ k
                · exact k
      · rw [if_neg (by simp [hw])]
        obtain ⟨s3, h3, hs3⟩ := xput_ok h hs' (v := undef) ⟨[], rfl, rfl⟩
        exact xdraw_run hG hch r E Es s3 ρ _ w h3 hs3 hE hQ

theorem SatE.draw {w0 : World} {M : Nat → Prop} {ρ : Env} {s : S} {a : Act} {w : World} (h : SatE w0 M ρ s a w) : SatE w0 M ρ s a { w with drawn := w.drawn + 1 } :=
  ⟨h.defers, h.size, h.n, h.frame, h.heap.world (M' := fun _ => False) ⟨rfl, rfl, rfl, Nat.le_refl _, fun _ _ _ => rfl, fun _ _ => rfl⟩ (fun _ _ h => h.elim) fun _ _ _ _ => rfl⟩

/-- **a region that draws its order** -/
theorem xdraw_wp {G : Fx} (hG : G.Ok) {ch : CallH} (hch : HOk G.X ch) {all : List Oper} {g : RG} (hg : rgOk all g = true) {w0 : World} {M : Nat → Prop} {Q : Exit → Act → World → Prop} {K : S → Prop} {id : Nat} {s : S} {ρ : Env} {a : Act} {w : World}
    (h : xdraw G ch all g g.pi [] s K) (hs : SatE w0 M ρ s a w) (hQ : ∀ s' ρ' a' w', K s' → ρ.le ρ' → SatE w0 M ρ' s' a' w' → Q .normal a' w') : (Code.region id all.toArray true).wp G.X.P Q a w := by
  obtain ⟨hlen, hf, hst, hlo⟩ := rg_ok hg
  refine wp_region_any hG.cx.mixed ?_
  refine any_of_one hf (Q := fun a' w' => Q .normal a' w') (fun _ _ h => h) _ [] g.pi [] _ a _ ?_ hst (fun d hd => by cases hd) hlo trivial (fun d hd => by cases hd) ?_
  · simpa using hlen
  · exact xdraw_run hG hch g.pi [] [] s ρ a _ h hs.draw (fun e he => by cases he) hQ

/-- likewise, where two may come in either order -/
def xdrawT (G : Fx) (ch : CallH) (all : List Oper) (g : RG) (s : S) (K : S → Prop) : Prop :=
  match g.two with
  | 0 => xdraw G ch all g g.pi [] s K
  | k + 1 => match g.pi.drop k with
    | p :: q :: R => xdraw G ch all g (g.pi.take k ++ p :: q :: R) [] s K ∧ xdraw G ch all g (g.pi.take k ++ q :: p :: R) [] s K
    | _ => False

theorem xdrawT_wp {G : Fx} (hG : G.Ok) {ch : CallH} (hch : HOk G.X ch) {all : List Oper} {g : RG} (hg : rgOkT all g = true) {w0 : World} {M : Nat → Prop} {Q : Exit → Act → World → Prop} {K : S → Prop} {id : Nat} {s : S} {ρ : Env} {a : Act} {w : World}
    (h : xdrawT G ch all g s K) (hs : SatE w0 M ρ s a w) (hQ : ∀ s' ρ' a' w', K s' → ρ.le ρ' → SatE w0 M ρ' s' a' w' → Q .normal a' w') : (Code.region id all.toArray true).wp G.X.P Q a w := by
  unfold xdrawT at h
  unfold rgOkT at hg
  cases ht : g.two with
  | zero => rw [ht] at h hg; exact xdraw_wp hG hch hg h hs hQ
  | succ k =>
    rw [ht] at h hg
    simp only at h hg
    split at hg
    · rename_i x y R e
      rw [e] at h
      simp only [Bool.and_eq_true] at hg
      obtain ⟨⟨hq, h1⟩, h2⟩ := hg
      obtain ⟨hlen, hf, hst1, hlo1⟩ := rg_ok h1
      obtain ⟨_, _, hst2, hlo2⟩ := rg_ok h2
      have hqm := quiets_map hq
      refine wp_region_any hG.cx.mixed ?_
      have r1 := xdraw_run (Q := fun a' w' => Q .normal a' w') hG hch _ [] [] s ρ a _ h.1 hs.draw (fun e he => by cases he) hQ
      have r2 := xdraw_run (Q := fun a' w' => Q .normal a' w') hG hch _ [] [] s ρ a _ h.2 hs.draw (fun e he => by cases he) hQ
      rw [hqm] at r1 r2
      have rr := nrunL_both _ _ _ _ r1 r2
      refine any_of_two (anc := g.anc) (x := x) (y := y) (R := R) hf (Q := fun a' w' => Q .normal a' w') (fun _ _ h => h) ?_ ?_ ?_ _ [] ((g.pi.take k).map (·.1)) [] _ a _ ?_ ?_ ?_ (fun d hd => by cases hd) trivial (fun d hd => by cases hd) rr
      · intro L' R' z ez q hq
        exact hlo1 (g.pi.take k ++ (x, false) :: (y, true) :: L') R' z (by rw [ez]; simp) q hq
      · exact hlo2 (g.pi.take k ++ [(y, false)]) R x (by simp)
      · exact hlo1 (g.pi.take k ++ [(x, false)]) R y (by simp)
      · have : (g.pi.take k ++ (x, false) :: (y, true) :: R).length = all.length := hlen
        simp only [List.length_append, List.length_cons, List.length_map, List.length_nil, Nat.zero_add] at this ⊢
        show _ = all.toArray.size
        simp only [List.size_toArray]
        omega
      · simpa using hst1
      · simpa using hst2
    · cases hg

end
end Go.Sx
