/-
  Memory that is not written any more: what its slices tell; contracts told of slices told of values; a cell that is opened.
-/
import Derived.Test.YthgnaehfepcblaaSxY
namespace Go.Sx
section

/-- blocks of a world, as they stand there -/
structure Pool where
  W : World
  F : Nat → Prop
def Snap (g : Pool) : Place → World → Prop := fun p w => ∀ b, g.F b → p.fp b ∧ w.heap[b]? = g.W.heap[b]?
/-- they stand so in this world -/
structure Pool.In (g : Pool) (w : World) : Prop where
  at_ : ∀ b, g.F b → b < w.heap.size ∧ w.heap[b]? = g.W.heap[b]?
structure Pool.Ext (g g' : Pool) : Prop where
  at_ : ∀ b, g.F b → g'.F b ∧ g'.W.heap[b]? = g.W.heap[b]?
theorem Pool.Ext.refl (g : Pool) : g.Ext g := ⟨fun _ h => ⟨h, rfl⟩⟩
theorem Pool.Ext.trans {a b c : Pool} (h : a.Ext b) (k : b.Ext c) : a.Ext c := ⟨fun x hx => ⟨(k.at_ x (h.at_ x hx).1).1, ((k.at_ x (h.at_ x hx).1).2).trans (h.at_ x hx).2⟩⟩
theorem Pool.In.ext {g g' : Pool} {w : World} (h : g'.In w) (e : g.Ext g') : g.In w := ⟨fun b hb => ⟨(h.at_ b (e.at_ b hb).1).1, ((h.at_ b (e.at_ b hb).1).2).trans (e.at_ b hb).2⟩⟩
def Pool.none : Pool := ⟨default, fun _ => False⟩

/-- a slice of such rows -/
structure IsSl (g : Pool) (v : Value) (ks : List CK) (n cap : Nat) (rows : Nat → Nat → Value) : Prop where
  le : n ≤ cap
  max : cap ≤ lenMax
  val : (cap = 0 ∧ (v = .slice .none 0 0 ∨ ∃ a : Addr, v = .slice (some a) 0 0)) ∨ ∃ b o vs ty fr, v = .slice (some ⟨b, o, .none⟩) n cap ∧ g.F b ∧ g.W.heap[b]? = some (.cells vs ty fr) ∧ o + cap * ks.length ≤ vs.size ∧ UnfrozenIn o (o + cap * ks.length) fr ∧
    ∀ i, i < n → ∀ (j : Nat) (k : CK), ks[j]? = some k → vs[o + i * ks.length + j]? = some (rows i j) ∧ k.ok (rows i j)

theorem IsSl.ext {g g' : Pool} {v : Value} {ks : List CK} {n cap : Nat} {rows : Nat → Nat → Value} (h : IsSl g v ks n cap rows) (e : g.Ext g') : IsSl g' v ks n cap rows := by
  refine ⟨h.le, h.max, ?_⟩
  rcases h.val with h | ⟨b, o, vs, ty, fr, h1, h2, h3, h4⟩
  · exact .inl h
  · exact .inr ⟨b, o, vs, ty, fr, h1, (e.at_ b h2).1, ((e.at_ b h2).2).trans h3, h4⟩
theorem IsSl.nil (g : Pool) (ks : List CK) (rows : Nat → Nat → Value) : IsSl g (.slice .none 0 0) ks 0 0 rows := ⟨Nat.le_refl _, Nat.zero_le _, .inl ⟨rfl, .inl rfl⟩⟩
theorem IsSl.one {g : Pool} {v : Value} {ks : List CK} {n cap : Nat} {rows : Nat → Nat → Value} (h : IsSl g v ks n cap rows) : v.oneCell' = true := by
  rcases h.val with ⟨_, rfl | ⟨_, rfl⟩⟩ | ⟨_, _, _, _, _, rfl, _⟩ <;> rfl
theorem IsSl.rows {g : Pool} {v : Value} {ks : List CK} {n cap : Nat} {rows rows' : Nat → Nat → Value} (h : IsSl g v ks n cap rows) (e : RowsEq n ks.length rows rows') : IsSl g v ks n cap rows' := by
  refine ⟨h.le, h.max, ?_⟩
  rcases h.val with h | ⟨b, o, vs, ty, fr, h1, h2, h3, h4, h5, h6⟩
  · exact .inl h
  · refine .inr ⟨b, o, vs, ty, fr, h1, h2, h3, h4, h5, fun i hi j k hk => ?_⟩
    rw [← e.at_ i hi j (List.getElem?_eq_some_iff.1 hk).1]; exact h6 i hi j k hk

theorem IsSl.open_ {g : Pool} {w : World} (hw : g.In w) {v : Value} {ks : List CK} {n cap : Nat} {rows : Nat → Nat → Value} (h : IsSl g v ks n cap rows) :
    ∃ p : Place, (∀ b, p.fp b → g.F b) ∧ (∀ (ρ : Env) (T : Nat), T < ρ.n → ρ.pl T = p → (A.slc T 0 ks.length n cap).Rep ρ v) ∧ ∀ (ρ : Env) (ty : Nat), (Chunk.arr ty ks n rows).Sat ρ p w := by
  obtain ⟨h1, h2, h3⟩ := h
  rcases h3 with ⟨rfl, h3⟩ | ⟨b, o, vs, ty, fr, rfl, hb, hg, hs, hu, hr⟩
  · have hn : n = 0 := by omega
    subst hn
    rcases h3 with rfl | ⟨a, rfl⟩
    · exact ⟨nilPlace, fun _ h => h.elim, fun ρ T hT _ => ⟨hT, Nat.le_refl _, Nat.zero_le _, .inl ⟨rfl, rfl, rfl⟩⟩, fun ρ ty => .inl ⟨rfl, rfl, fun b hb => hb⟩⟩
    · refine ⟨nilPlace, fun _ h => h.elim, fun ρ T hT hp => ⟨hT, Nat.le_refl _, Nat.zero_le _, .inr ⟨a, rfl, fun h => absurd rfl h⟩⟩, fun ρ ty => .inl ⟨rfl, rfl, fun b hb => hb⟩⟩
  · refine ⟨⟨b, o, cap, fun x => x = b⟩, fun x hx => by subst hx; exact hb, fun ρ T hT hp => ⟨hT, h1, h2, .inr ⟨_, rfl, fun _ => by rw [hp]; simp⟩⟩, fun ρ ty' => .inr ⟨vs, ty, fr, ((hw.at_ b hb).2).trans hg, hs, h1, hu, fun _ => Iff.rfl, hr⟩⟩

theorem IsSl.of {g : Pool} {ρ : Env} {w : World} {T : Nat} {v : Value} {ty : Nat} {ks : List CK} {n cap : Nat} {rows : Nat → Nat → Value} (hr : (A.slc T 0 ks.length n cap).Rep ρ v) (hs : (Chunk.arr ty ks n rows).Sat ρ (ρ.pl T) w)
    (hg : ∀ b, (ρ.pl T).fp b → g.F b ∧ w.heap[b]? = g.W.heap[b]?) : IsSl g v ks n cap rows := by
  obtain ⟨_, h1, h2, h3⟩ := hr
  refine ⟨h1, h2, ?_⟩
  rcases h3 with ⟨rfl, rfl, rfl⟩ | ⟨o, rfl, ho⟩
  · exact .inl ⟨rfl, .inl rfl⟩
  · by_cases hc : cap = 0
    · subst hc
      have : n = 0 := by omega
      subst this
      exact .inl ⟨rfl, .inr ⟨_, rfl⟩⟩
    · obtain ⟨e1, e2⟩ := ho hc
      rcases hs with ⟨_, hN, _⟩ | ⟨vs, ty', fr, a1, a2, a3, a4, a5, a6⟩
      · omega
      · rw [Nat.zero_mul, Nat.add_zero] at e1
        subst e1
        have hfp := (a5 _).2 rfl
        have hm := Nat.mul_le_mul_right ks.length (show cap ≤ (ρ.pl T).N by omega)
        exact .inr ⟨_, _, vs, ty', fr, rfl, (hg _ hfp).1, ((hg _ hfp).2).symm.trans a1, by omega, fun x h1 h2 => a4 x h1 (by omega), a6⟩

/-! ### several at once -/

structure Sli where
  v : Value
  ty : Nat
  ks : List CK
  n : Nat
  cap : Nat
  rows : Nat → Nat → Value
  g : Pool
def itemChs : Nat → List Sli → List (Nat × Chunk)
  | _, [] => []
  | t, x :: r => (t, .arr x.ty x.ks x.n x.rows) :: itemChs (t + 1) r
def itemsRep (ρ : Env) : Nat → List Sli → Prop
  | _, [] => True
  | t, x :: r => ((A.slc t 0 x.ks.length x.n x.cap).Rep ρ x.v ∧ (∀ b, (ρ.pl t).fp b → x.g.F b)) ∧ itemsRep ρ (t + 1) r
theorem itemsRep.mono {ρ ρ' : Env} (h : ρ.le ρ') : ∀ {L : List Sli} {t : Nat}, t + L.length ≤ ρ.n → itemsRep ρ t L → itemsRep ρ' t L
  | [], _, _, _ => trivial
  | x :: r, t, ht, ⟨⟨h1, h2⟩, h3⟩ => ⟨⟨h1.mono h, by rw [h.pl t (by simp at ht; omega)]; exact h2⟩, itemsRep.mono h (by simp at ht; omega) h3⟩
theorem itemChs_tag : ∀ {L : List Sli} {t : Nat} {p : Nat × Chunk}, p ∈ itemChs t L → t ≤ p.1 ∧ p.1 < t + L.length
  | x :: r, t, p, h => by
    simp only [itemChs, List.mem_cons] at h
    rcases h with rfl | h
    · simp
    · have := itemChs_tag h
      simp; omega

theorem openAll {w : World} {M : Nat → Prop} : ∀ (L : List Sli) (ρ0 : Env), (∀ x ∈ L, x.g.In w ∧ IsSl x.g x.v x.ks x.n x.cap x.rows) →
    ∃ ρ : Env, ρ0.le ρ ∧ ρ.n = ρ0.n + L.length ∧ itemsRep ρ ρ0.n L ∧ HeapSat w M ρ (ros (itemChs ρ0.n L)) w
  | [], ρ0, _ => ⟨ρ0, Env.le.refl _, rfl, trivial, ⟨Keeps.refl _ _, fun e he => (by cases he), .nil⟩⟩
  | x :: r, ρ0, h => by
    obtain ⟨hin, hsl⟩ := h x List.mem_cons_self
    obtain ⟨p, hp1, hp2, hp3⟩ := hsl.open_ hin
    obtain ⟨ρ, h1, h2, h3, h4⟩ := openAll (M := M) r (ρ0.ext p) fun y hy => h y (List.mem_cons_of_mem _ hy)
    have hpl : ρ.pl ρ0.n = p := by rw [h1.pl _ (Nat.lt_succ_self _)]; exact ρ0.ext_new p
    have hlt : ρ0.n < ρ.n := h1.n
    refine ⟨ρ, (ρ0.le_ext p).trans h1, by rw [h2]; simp [Env.ext]; omega, ⟨⟨hp2 ρ ρ0.n hlt hpl, by rw [hpl]; exact hp1⟩, h3⟩, ?_⟩
    refine HeapSat.cons h4 ⟨hlt, by simp only; rw [hpl]; exact hp3 ρ _, by simp only; rw [hpl]; exact fun b hb => (hin.at_ b (hp1 b hb)).1, fun h => (by cases h)⟩ fun y hy => ⟨?_, fun h => ?_⟩
    · obtain ⟨q, hq, rfl⟩ := List.mem_map.1 hy
      have := itemChs_tag hq
      simp only [Env.ext] at this ⊢
      omega
    · rw [ros_wr hy] at h; cases h

/-- a function that reads lists by their tags is called with what the slices' values tell -/
theorem val_call {X : Cx} {C : Con} {f : Nat} (hs : ConSem X C f) (a : C.α) (hpre : C.pre a) (L : List Sli) (hhp : C.hp a = []) (hro : C.ro a = itemChs 0 L) (hm : C.m = L.length) {w : World} (hL : ∀ x ∈ L, x.g.In w ∧ IsSl x.g x.v x.ks x.n x.cap x.rows) {vs : List Value}
    (hargs : ∀ ρ : Env, itemsRep ρ 0 L → RepArgs ρ (C.args a) vs) :
    Calls X.P f vs.toArray w fun e w' => ∃ v, e = .returned v ∧ Keeps (fun _ => False) w w' ∧ ∃ o ρ1 ρ2, C.post a o ∧ itemsRep ρ1 0 L ∧ HeapSat w (fun _ => False) ρ1 (ros (itemChs 0 L)) w ∧ ρ2.n = C.m' ∧ (∀ T, T < C.m → ρ2.pl T = ρ1.pl T) ∧ (C.res a o).Rep ρ2 v ∧ HeapSat w (fun _ => False) ρ2 (wrs (C.hp' a o)) w' := by
  obtain ⟨ρ, h1, h2, h3, h4⟩ := openAll (w := w) (M := fun _ => False) L ⟨0, fun _ => nilPlace⟩ hL
  refine (hs a hpre (fun _ => False) ρ w vs (by rw [h2, hm]; simp) (by rw [hhp, hro]; exact h4) (hargs ρ h3)).mono ?_
  rintro e w' ⟨v, rfl, o, ρ2, g1, g2, g3, g4, g5⟩
  exact ⟨v, rfl, g5.keeps, o, ρ, ρ2, g1, h3, h4, g2, g3, g4, g5⟩

/-! ### the two pools of a call: one's own, one that is read -/

theorem pool_in {g : Pool} {w0 : World} {M : Nat → Prop} {ρ : Env} {w : World} {hp : Heap} (h : HeapSat w0 M ρ hp w) {t : Nat} {wr : Bool} (he : (⟨t, wr, .abs (Snap g)⟩ : Ent) ∈ hp) : g.In w ∧ ∀ b, g.F b → (ρ.pl t).fp b := by
  have hs := h.ent _ he
  have hw : Snap g (ρ.pl t) w := hs.ch w fun _ _ => rfl
  exact ⟨⟨fun b hb => ⟨hs.lt b (hw b hb).1, (hw b hb).2⟩⟩, fun b hb => (hw b hb).1⟩

/-- new entries go to one's own pool -/
theorem pool_back {g : Pool} {w : World} {M : Nat → Prop} {ρ : Env} {m : Nat} {w' : World} {hp : Heap} (h : HeapSat w M ρ hp w) (he : (⟨0, true, .abs (Snap g)⟩ : Ent) ∈ hp) (hk : Keeps (fun _ => False) w w') {ρ2 : Env} {l : List (Nat × Chunk)} (h2 : HeapSat w (fun _ => False) ρ2 (wrs l) w') :
    ∃ (g' : Pool) (ρ' : Env), g.Ext g' ∧ (∀ e ∈ wrs l, ∀ b, (ρ2.pl e.tag).fp b → g'.F b ∧ w'.heap[b]? = g'.W.heap[b]?) ∧ g'.In w' ∧ ρ'.n = m + 1 ∧ (∀ T, T < m → ρ'.pl T = ρ.pl T) ∧ HeapSat w M ρ' (wrs [(m, .abs (Snap g'))]) w' := by
  obtain ⟨hin, hfp⟩ := pool_in h he
  have hs := h.ent _ he
  let F : Nat → Prop := fun b => (ρ.pl 0).fp b ∨ ∃ e ∈ wrs l, (ρ2.pl e.tag).fp b
  let G : Nat → Prop := fun b => g.F b ∨ ∃ e ∈ wrs l, (ρ2.pl e.tag).fp b
  refine ⟨⟨w', G⟩, ⟨m + 1, fun t => if t = m then ⟨0, 0, 0, F⟩ else ρ.pl t⟩, ⟨fun b hb => ⟨.inl hb, ?_⟩⟩, fun e he b hb => ⟨.inr ⟨e, he, hb⟩, rfl⟩, ⟨?_⟩, rfl, fun T hT => by show (if T = m then _ else _) = _; rw [if_neg (by omega)], ?_⟩
  · have := hin.at_ b hb
    exact (hk.block b this.1 id).trans this.2
  · rintro b (hb | ⟨e, he, hb⟩)
    · exact ⟨Nat.lt_of_lt_of_le (hin.at_ b hb).1 hk.size, rfl⟩
    · exact ⟨(h2.ent e he).lt b hb, rfl⟩
  · refine ⟨hk.mono fun _ _ h => h.elim, fun e he => ?_, by simp [wrs]⟩
    simp only [wrs, List.map_cons, List.map_nil, List.mem_singleton] at he
    subst he
    have hpl : (if m = m then (⟨0, 0, 0, F⟩ : Place) else ρ.pl m) = ⟨0, 0, 0, F⟩ := if_pos rfl
    refine ⟨Nat.lt_succ_self _, ?_, ?_, ?_⟩
    · show ∀ w'' : World, _ → _
      intro w'' hw b hb
      show (if m = m then (⟨0, 0, 0, F⟩ : Place) else ρ.pl m).fp b ∧ _
      have hF : F b := by rcases hb with hb | hb <;> first | exact .inl (hfp b hb) | exact .inr hb
      refine ⟨by rw [hpl]; exact hF, hw b ?_⟩
      show (if m = m then (⟨0, 0, 0, F⟩ : Place) else ρ.pl m).fp b
      rw [hpl]; exact hF
    · intro b hb
      have hb : (if m = m then (⟨0, 0, 0, F⟩ : Place) else ρ.pl m).fp b := hb
      rw [hpl] at hb
      rcases hb with hb | ⟨e, he, hb⟩
      · exact Nat.lt_of_lt_of_le (hs.lt b hb) hk.size
      · exact (h2.ent e he).lt b hb
    · intro _ b hb hlt
      have hb : (if m = m then (⟨0, 0, 0, F⟩ : Place) else ρ.pl m).fp b := hb
      rw [hpl] at hb
      rcases hb with hb | ⟨e, he, hb⟩
      · exact hs.own rfl b hb hlt
      · exact ((h2.ent e he).own (wrs_wr he) b hb hlt).elim

/-- nothing new: one's own pool stays -/
theorem pool_same {w : World} {M : Nat → Prop} {ρ : Env} {w' : World} {R : Place → World → Prop} {ro : List (Nat × Chunk)} (h : HeapSat w M ρ (wrs [(0, .abs R)] ++ ros ro) w) (hk : Keeps (fun _ => False) w w') : HeapSat w M ρ (wrs [(0, .abs R)]) w' :=
  (h.sub (List.sublist_append_left _ _)).world hk (fun _ _ h => h.elim) fun e he b hb => hk.block b ((h.ent e (List.mem_append_left _ he)).lt b hb) id

/-! ### a cell of a local struct that is a slice's value is opened -/

def openCell (slot cell : Nat) (ty : TypeId) (ks : List CK) (s : S) (K : S → Prop) : Prop :=
  match look s.fr slot with
  | .a (.ptr t _ _ _) => match s.hp.find t with
    | some (true, .obj ty0 cs) => match cs[cell]? with
      | some (.val v) => match findAbs false s.hp with
        | some tp => match s.hp.find tp with
          | some (false, .abs R) => ∃ (g : Pool) (n cap : Nat) (rows : Nat → Nat → Value), R = Snap g ∧ IsSl g v ks n cap rows ∧
              K ⟨s.nt, s.fr, ⟨s.nx, false, .arr ty ks n rows⟩ :: s.hp.upd t (.obj ty0 (cs.set cell (.slc s.nx 0 ks.length n cap))), s.nx + 1, s.kp, s.rt⟩
          | _ => False
        | none => False
      | _ => False
    | _ => False
  | _ => False

theorem openCell_ok (slot cell : Nat) (ty : TypeId) (ks : List CK) : ∀ s K, openCell slot cell ty ks s K → ViewOk s K := by
  intro s K h w0 M ρ a w hs
  unfold openCell at h
  split at h <;> try exact h.elim
  rename_i t r e c hsl
  split at h <;> try exact h.elim
  rename_i ty0 cs hf
  split at h <;> try exact h.elim
  rename_i v hv
  split at h <;> try exact h.elim
  rename_i tp htp
  split at h <;> try exact h.elim
  rename_i R hfp
  obtain ⟨g, n, cap, rows, rfl, hsl, hK⟩ := h
  obtain ⟨hin, hF⟩ := pool_in hs.heap (Heap.find_mem hfp)
  obtain ⟨p, hp1, hp2, hp3⟩ := hsl.open_ hin
  have hle := ρ.le_ext p
  have hrep : (A.slc s.nx 0 ks.length n cap).Rep (ρ.ext p) v := hp2 _ s.nx (by rw [← hs.n]; exact Nat.lt_succ_self _) (by rw [← hs.n]; exact ρ.ext_new p)
  have h1 : HeapSat w0 M (ρ.ext p) s.hp w := hs.heap.mono hle
  have h2 := h1.upd hf (Keeps.refl _ w) (ch' := .obj ty0 (cs.set cell (.slc s.nx 0 ks.length n cap))) (by
    have he := (h1.ent _ (Heap.find_mem hf)).ch
    obtain ⟨vs, fr, a1, a2, ⟨us, xs, a3, a4⟩, a5⟩ := he
    refine ⟨vs, fr, a1, a2, ⟨us, xs, a3, ?_⟩, a5⟩
    obtain ⟨u, hu, hru⟩ := a4.get hv
    have := a4.set cell (v := u) (x := .slc s.nx 0 ks.length n cap) (by
      have : u = v := hru.1
      rw [this]; exact hrep)
    have e : us.set cell u = us := by
      obtain ⟨hlt, he⟩ := List.getElem?_eq_some_iff.1 hu
      subst he
      exact List.set_getElem_self hlt
    rwa [e] at this)
  refine ⟨_, ρ.ext p, hK, hle, ⟨hs.defers, hs.size, by show ρ.n + 1 = s.nx + 1; rw [hs.n], hs.frame.mono hle, ?_⟩⟩
  refine h2.cons ⟨by show s.nx < ρ.n + 1; rw [hs.n]; exact Nat.lt_succ_self _, ?_, ?_, fun h => (by cases h)⟩ fun x hx => ?_
  · show (Chunk.arr ty ks n rows).Sat _ ((ρ.ext p).pl s.nx) w
    rw [← hs.n, ρ.ext_new]; exact hp3 _ _
  · intro b hb
    have hb : ((ρ.ext p).pl s.nx).fp b := hb
    rw [← hs.n, ρ.ext_new] at hb
    exact (hin.at_ b (hp1 b hb)).1
  · have hxs : ∃ y ∈ s.hp, y.tag = x.tag ∧ y.wr = x.wr := by
      rcases Heap.upd_mem hf x hx with rfl | h
      · exact ⟨_, Heap.find_mem hf, rfl, rfl⟩
      · exact ⟨x, Heap.del_sub.subset h, rfl, rfl⟩
    obtain ⟨y, hy, e1, e2⟩ := hxs
    have hyt := (hs.heap.ent y hy).tag
    refine ⟨by show s.nx ≠ x.tag; rw [← e1, ← hs.n]; omega, fun hw b hb hb' => ?_⟩
    have hb : ((ρ.ext p).pl s.nx).fp b := hb
    rw [← hs.n, ρ.ext_new] at hb
    rw [← e1, ρ.ext_old p hyt] at hb'
    have hpb := hF b (hp1 b hb)
    have hyw : y.wr = true := by rw [e2]; simpa using hw
    by_cases hty : tp = y.tag
    · -- the pool itself is not written
      have : y ≠ ⟨tp, false, .abs (Snap g)⟩ := fun e => by rw [e] at hyw; cases hyw
      have hpw := hs.heap.apart
      have key : ∀ (l : Heap), l.Pairwise (Apart ρ) → (⟨tp, false, .abs (Snap g)⟩ : Ent) ∈ l → y ∈ l → False := by
        intro l
        induction l with
        | nil => intro _ h; cases h
        | cons z l ih =>
          intro hp h1 h2
          rw [List.pairwise_cons] at hp
          rcases List.mem_cons.1 h1 with h1 | h1
          · rcases List.mem_cons.1 h2 with h2 | h2
            · exact this (h2.trans h1.symm)
            · exact (hp.1 y h2).1 (by rw [← h1]; exact hty)
          · rcases List.mem_cons.1 h2 with h2 | h2
            · exact (hp.1 _ h1).1 (by rw [← h2]; exact hty.symm)
            · exact ih hp.2 h1 h2
      exact key _ hpw (Heap.find_mem hfp) hy
    · have hd : y ∈ s.hp.del tp := by
        have : ∀ (l : Heap), y ∈ l → y ∈ Heap.del l tp := by
          intro l
          induction l with
          | nil => intro h; exact h
          | cons z l ih =>
            intro h
            simp only [Heap.del]
            by_cases hz : z.tag = tp
            · subst hz
              simp only [beq_self', cond_true]
              rcases List.mem_cons.1 h with h | h
              · rw [h] at hty; exact absurd rfl hty
              · exact h
            · simp only [beq_ne hz, cond_false]
              rcases List.mem_cons.1 h with h | h
              · rw [h]; exact List.mem_cons_self
              · exact List.mem_cons_of_mem _ (ih h)
        exact this _ hy
      exact (hs.heap.del_ne hfp y hd).2 (by rw [hyw]; rfl) b hpb hb'

/-- at the region 'key' -/
def An.openCell (key slot cell : Nat) (ty : TypeId) (ks : List CK) (next : LH) : An := .view key (Sx.openCell slot cell ty ks) (openCell_ok slot cell ty ks) next

end
end Go.Sx
