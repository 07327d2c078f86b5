/-
  Contracts: a function's body is carried out once, over formal tags; calls are met by what it says.
-/
import Derived.Test.YthgnaehfepcblaaSxT
namespace Go.Sx
section
def wrs (l : List (Nat × Chunk)) : Heap := l.map fun p => ⟨p.1, true, p.2⟩
def ros (l : List (Nat × Chunk)) : Heap := l.map fun p => ⟨p.1, false, p.2⟩

/-- 'm': so many formal tags come in, 'm'' tags there are behind it; 'hp': what may be written; 'ro': what is read alone -/
structure Con where
  α : Type
  β : Type
  m : Nat
  m' : Nat
  pre : α → Prop
  args : α → List SV
  hp : α → List (Nat × Chunk)
  ro : α → List (Nat × Chunk)
  post : α → β → Prop
  res : α → β → SV
  hp' : α → β → List (Nat × Chunk)

def conK (C : Con) (a : C.α) : KV := fun v s' => ∃ b, matchV C.m C.m' [] v (C.res a b) fun σ => matchHp C.m C.m' 1000 (C.hp' a b).length σ s'.hp (wrs (C.hp' a b)) fun _ _ => C.post a b ∧ True

def conS (C : Con) (a : C.α) : S := ⟨0, [], wrs (C.hp a) ++ ros (C.ro a), C.m, [], List.range C.m⟩

/-- the body does what is said -/
def conBody (Y : Gx) (C : Con) (ch : C.α → CallH) (lh : C.α → Nat → LH) (f : Nat) : Prop := ∀ a, C.pre a → xbody Y (ch a) (lh a) f (C.args a) (conS C a) (conK C a)

/-! ### at a call -/

/-- entries that are read alone -/
def matchRo (n0 N : Nat) : Nat → Nat → Sub → Heap → Heap → (Sub → Prop) → Prop
  | 0, _, _, _, _, _ => False
  | _ + 1, _, σ, _, [], K => K σ
  | n + 1, d, σ, hp, e :: r, K => bif noTag e.tag r then
    (match subAt σ e.tag with
    | some none => isNo e.ch (matchRo n0 N n r.length σ hp r K)
    | some (some t) => match hp.find t with
      | some (_, ch) => matchCh n0 N σ ch e.ch fun σ => matchRo n0 N n r.length σ hp r K
      | none => False
    | none => match absTag false e.ch hp with
      | some t => (match hp.find t with
        | some (_, ch) => bindT n0 N σ e.tag (some t) fun σ => matchCh n0 N σ ch e.ch fun σ => matchRo n0 N n r.length σ hp r K
        | none => False)
      | none => match d with
        | d + 1 => matchRo n0 N n d σ hp (r ++ [e]) K
        | 0 => False) else False

inductive GotR (σ : Sub) (hp : Heap) : Heap → Prop where
  | nil : GotR σ hp []
  | later {r : Heap} {e : Ent} : GotR σ hp (r ++ [e]) → GotR σ hp (e :: r)
  | skip {r : Heap} {T : Nat} {wr : Bool} {ty : TypeId} {ks : List CK} {rows : Nat → Nat → Value} : subAt σ T = some none → (∀ e ∈ r, T ≠ e.tag) → GotR σ hp r → GotR σ hp (⟨T, wr, .arr ty ks 0 rows⟩ :: r)
  | take {r : Heap} {T t : Nat} {wr wr' : Bool} {ch ch' : Chunk} : subAt σ T = some (some t) → hp.find t = some (wr', ch') →
      (∀ ρ ρ' p w, Fits ρ ρ' σ → ch'.Sat ρ p w → ch.Sat ρ' p w) → (∀ e ∈ r, T ≠ e.tag) → GotR σ hp r → GotR σ hp (⟨T, wr, ch⟩ :: r)

theorem matchRo_ok {n0 N : Nat} {hp : Heap} {K : Sub → Prop} : ∀ {n d : Nat} {J : Heap} {σ : Sub}, matchRo n0 N n d σ hp J K → Wf n0 N σ → ∃ σ', K σ' ∧ Ext σ σ' ∧ Wf n0 N σ' ∧ GotR σ' hp J
  | 0, _, _, _, h, _ => h.elim
  | _ + 1, _, [], σ, h, hw => ⟨σ, h, Ext.refl σ, hw, .nil⟩
  | n + 1, d, ⟨T, wr, ch⟩ :: r, σ, h, hw => by
    simp only [matchRo] at h
    cases hn : noTag T r
    · rw [hn] at h; exact h.elim
    rw [hn] at h
    simp only [cond_true] at h
    have hne := noTag_spec hn
    split at h
    · rename_i hs
      cases ch <;> simp only [isNo] at h <;> try exact h.elim
      obtain ⟨rfl, h⟩ := h
      obtain ⟨σ', h1, h2, h3, h4⟩ := matchRo_ok h hw
      exact ⟨σ', h1, h2, h3, .skip (h2.at_ _ _ hs) hne h4⟩
    · rename_i t hs
      split at h
      · rename_i wr' ch' hf
        obtain ⟨σ1, k1, e1, w1, r1⟩ := matchCh_ok h hw
        obtain ⟨σ', h1, h2, h3, h4⟩ := matchRo_ok k1 w1
        exact ⟨σ', h1, e1.trans h2, h3, .take ((e1.trans h2).at_ _ _ hs) hf (fun ρ ρ' p w hf => r1 ρ ρ' p w (hf.ext h2)) hne h4⟩
      · exact h.elim
    · split at h
      · split at h
        · rename_i wr' ch' hf
          obtain ⟨σ0, k0, e0, w0, s0⟩ := bindT_ok h hw
          obtain ⟨σ1, k1, e1, w1, r1⟩ := matchCh_ok k0 w0
          obtain ⟨σ', h1, h2, h3, h4⟩ := matchRo_ok k1 w1
          exact ⟨σ', h1, e0.trans (e1.trans h2), h3, .take ((e1.trans h2).at_ _ _ s0) hf (fun ρ ρ' p w hf => r1 ρ ρ' p w (hf.ext h2)) hne h4⟩
        · exact h.elim
      · split at h
        · obtain ⟨σ', h1, h2, h3, h4⟩ := matchRo_ok h hw
          exact ⟨σ', h1, h2, h3, .later h4⟩
        · exact h.elim

theorem GotR.src {σ : Sub} {hp J : Heap} (h : GotR σ hp J) {ρ ρ' : Env} (hf : Fits ρ ρ' σ) : ∀ e ∈ J, (∀ b, ¬ (ρ'.pl e.tag).fp b) ∨ ∃ e' ∈ hp, ρ'.pl e.tag = ρ.pl e'.tag := by
  induction h with
  | nil => intro e he; cases he
  | later _ ih => intro e he; exact ih e (by simp only [List.mem_cons, List.mem_append, List.not_mem_nil, or_false] at he ⊢; exact he.symm)
  | skip hs _ _ ih =>
    intro e he
    rcases List.mem_cons.1 he with rfl | he
    · left; intro b; rw [(hf _ _ hs).2]; exact id
    · exact ih e he
  | take hs hfd _ _ _ ih =>
    intro e he
    rcases List.mem_cons.1 he with rfl | he
    · exact .inr ⟨_, Heap.find_mem hfd, (hf _ _ hs).2⟩
    · exact ih e he

theorem GotR.sat {σ : Sub} {hp J : Heap} (h : GotR σ hp J) {ρ ρ' : Env} (hf : Fits ρ ρ' σ) {w0 : World} {M : Nat → Prop} {w : World} (hh : HeapSat w0 M ρ hp w) (hr : ∀ e ∈ J, e.wr = false) {w1 : World} {M1 : Nat → Prop} (hk : Keeps M1 w1 w) : HeapSat w1 M1 ρ' J w := by
  induction h with
  | nil => exact ⟨hk, fun _ h => (by cases h), .nil⟩
  | later _ ih => exact (ih fun e he => hr e (by simp only [List.mem_cons, List.mem_append, List.not_mem_nil, or_false] at he ⊢; exact he.symm)).perm (List.perm_append_singleton _ _)
  | skip hs hne _ ih =>
    refine (ih fun e he => hr e (List.mem_cons_of_mem _ he)).cons ⟨(hf _ _ hs).1, ?_, ?_, ?_⟩ fun x hx => ⟨hne x hx, fun _ b hb => ?_⟩
    · refine .inl ⟨rfl, ?_, fun b hb => ?_⟩
      · rw [(hf _ _ hs).2]; rfl
      · rw [(hf _ _ hs).2] at hb; exact hb
    · intro b hb; rw [(hf _ _ hs).2] at hb; exact hb.elim
    · intro _ b hb; rw [(hf _ _ hs).2] at hb; exact hb.elim
    · rw [(hf _ _ hs).2] at hb; exact hb.elim
  | take hs hfd hc hne _ ih =>
    have hp1 := (hf _ _ hs).2
    have he := hh.ent _ (Heap.find_mem hfd)
    refine (ih fun e he => hr e (List.mem_cons_of_mem _ he)).cons ⟨(hf _ _ hs).1, ?_, ?_, ?_⟩ fun x hx => ⟨hne x hx, fun hwr => ?_⟩
    · rw [hp1]; exact hc ρ ρ' _ w hf he.ch
    · rw [hp1]; exact he.lt
    · intro h1; have := hr _ List.mem_cons_self; simp only at this h1; rw [this] at h1; cases h1
    · have h1 := hr _ List.mem_cons_self
      have h2 := hr x (List.mem_cons_of_mem _ hx)
      simp only at h1
      rw [h1, h2] at hwr; cases hwr

/-! ### tags of what a call leaves -/

def renT (σ : Sub) (nx m T : Nat) : Nat := bif Nat.blt T m then (match subAt σ T with | some (some t) => bif Nat.blt t nx then t else nx + T | _ => nx + T) else nx + T
def renA (f : Nat → Nat) : A → A
  | .ptr T r e c => .ptr (f T) r e c
  | .slc T r e l c => .slc (f T) r e l c
  | x => x
def renCV (f : Nat → Nat) : CV → CV
  | .a x => .a (renA f x)
  | .agg xs => .agg (xs.map (renA f))
def renV (f : Nat → Nat) : SV → SV
  | .a x => .a (renA f x)
  | .agg xs => .agg (xs.map (renA f))
  | .tup xs => .tup (xs.map (renCV f))
def renCh (f : Nat → Nat) : Chunk → Chunk
  | .obj ty cs => .obj ty (cs.map (renA f))
  | c => c

def Moves (f : Nat → Nat) (ρ ρ' : Env) : Prop := ∀ T, T < ρ.n → f T < ρ'.n ∧ ρ'.pl (f T) = ρ.pl T

theorem renA_rep {f : Nat → Nat} {ρ ρ' : Env} (h : Moves f ρ ρ') {x : A} {v : Value} (r : x.Rep ρ v) : (renA f x).Rep ρ' v := by
  cases x <;> simp only [renA, A.Rep] at r ⊢ <;> try exact r
  · obtain ⟨h1, rfl⟩ := r
    obtain ⟨h2, h3⟩ := h _ h1
    exact ⟨h2, by rw [h3]⟩
  · obtain ⟨h1, h4, h5, h6⟩ := r
    obtain ⟨h2, h3⟩ := h _ h1
    exact ⟨h2, h4, h5, by rw [h3]; exact h6⟩
theorem renL_rep {f : Nat → Nat} {ρ ρ' : Env} (h : Moves f ρ ρ') : ∀ {xs : List A} {vs : List Value}, RepL ρ xs vs → RepL ρ' (xs.map (renA f)) vs
  | [], _, r => r
  | _ :: _, _, ⟨v, t, e, r1, r2⟩ => ⟨v, t, e, renA_rep h r1, renL_rep h r2⟩
theorem renCV_rep {f : Nat → Nat} {ρ ρ' : Env} (h : Moves f ρ ρ') : ∀ {x : CV} {v : Value}, x.Rep ρ v → (renCV f x).Rep ρ' v
  | .a _, _, r => renA_rep h r
  | .agg _, _, ⟨vs, e, r⟩ => ⟨vs, e, renL_rep h r⟩
theorem renC_rep {f : Nat → Nat} {ρ ρ' : Env} (h : Moves f ρ ρ') : ∀ {xs : List CV} {vs : List Value}, RepC ρ xs vs → RepC ρ' (xs.map (renCV f)) vs
  | [], _, r => r
  | _ :: _, _, ⟨v, t, e, r1, r2⟩ => ⟨v, t, e, renCV_rep h r1, renC_rep h r2⟩
theorem renV_rep {f : Nat → Nat} {ρ ρ' : Env} (h : Moves f ρ ρ') : ∀ {x : SV} {v : Value}, x.Rep ρ v → (renV f x).Rep ρ' v
  | .a _, _, r => renA_rep h r
  | .agg _, _, ⟨vs, e, r⟩ => ⟨vs, e, renL_rep h r⟩
  | .tup _, _, ⟨vs, e, r⟩ => ⟨vs, e, renC_rep h r⟩
theorem renCh_sat {f : Nat → Nat} {ρ ρ' : Env} (h : Moves f ρ ρ') {c : Chunk} {p : Place} {w : World} (r : c.Sat ρ p w) : (renCh f c).Sat ρ' p w := by
  cases c with
  | obj ty cs => obtain ⟨vs, fr, a, b, ⟨us, xs, e, c⟩, d⟩ := r; exact ⟨vs, fr, a, b, ⟨us, xs, e, renL_rep h c⟩, d⟩
  | arr ty ks n rows => exact r
  | abs R => exact r

def renHp (f : Nat → Nat) (l : List (Nat × Chunk)) : Heap := l.map fun p => ⟨f p.1, true, renCh f p.2⟩

def distinct : Heap → Bool
  | [] => true
  | e :: r => noTag e.tag r && distinct r
theorem distinct_spec : ∀ {hp : Heap}, distinct hp = true → hp.Pairwise fun x y => x.tag ≠ y.tag
  | [], _ => .nil
  | e :: r, h => by
    simp only [distinct, Bool.and_eq_true] at h
    exact List.pairwise_cons.2 ⟨fun y hy => noTag_spec h.1 y hy, distinct_spec h.2⟩

def conCall (C : Con) (args : List SV) (s : S) (K : KV) : Prop :=
  ∃ a, matchArgs 0 C.m [] args (C.args a) fun σ => matchHp 0 C.m 1000 (C.hp a).length σ s.hp (wrs (C.hp a)) fun σ rest => matchRo 0 C.m 1000 (C.ro a).length σ rest (ros (C.ro a)) fun σ =>
    bif distinct (wrs (C.hp a) ++ ros (C.ro a)) then C.pre a ∧
    ∀ b, C.post a b → bif distinct (renHp (renT σ s.nx C.m) (C.hp' a b) ++ rest) then
      K (renV (renT σ s.nx C.m) (C.res a b)) ⟨s.nt, s.fr, renHp (renT σ s.nx C.m) (C.hp' a b) ++ rest, s.nx + C.m', s.kp, s.rt⟩ else False else False

theorem HeapSat.local {w0 : World} {M : Nat → Prop} {ρ : Env} {hp : Heap} {w : World} (h : HeapSat w0 M ρ hp w) : HeapSat w (frozenM ρ hp) ρ hp w where
  keeps := Keeps.refl _ w
  ent := fun e he => ⟨(h.ent e he).tag, (h.ent e he).ch, (h.ent e he).lt, fun hw _ hb _ => ⟨e, he, hw, hb⟩⟩
  apart := h.apart

theorem HeapSat.app {w0 : World} {M : Nat → Prop} {ρ : Env} {w : World} : ∀ {h1 h2 : Heap}, HeapSat w0 M ρ h1 w → HeapSat w0 M ρ h2 w → (∀ x ∈ h1, ∀ y ∈ h2, Apart ρ x y) → HeapSat w0 M ρ (h1 ++ h2) w
  | [], _, _, h, _ => h
  | e :: r, h2, h, h', ha => by
    have hr := HeapSat.app (h.sub (List.sublist_cons_self e r)) h' fun x hx => ha x (List.mem_cons_of_mem _ hx)
    refine hr.cons (h.ent e List.mem_cons_self) fun x hx => ?_
    rcases List.mem_append.1 hx with hx | hx
    · exact (List.pairwise_cons.1 h.apart).1 x hx
    · exact ha e List.mem_cons_self x hx

theorem wrs_wr {l : List (Nat × Chunk)} {e : Ent} (h : e ∈ wrs l) : e.wr = true := by
  obtain ⟨p, _, rfl⟩ := List.mem_map.1 h; rfl
theorem ros_wr {l : List (Nat × Chunk)} {e : Ent} (h : e ∈ ros l) : e.wr = false := by
  obtain ⟨p, _, rfl⟩ := List.mem_map.1 h; rfl

/-- what a contract says of its function, whatever the tags' places -/
def ConSem (X : Cx) (C : Con) (f : Nat) : Prop := ∀ a, C.pre a → ∀ (M : Nat → Prop) (ρ : Env) (w : World) (vs : List Value), ρ.n = C.m → HeapSat w M ρ (wrs (C.hp a) ++ ros (C.ro a)) w → RepArgs ρ (C.args a) vs →
  Calls X.P f vs.toArray w fun e w' => ∃ v, e = .returned v ∧ ∃ o ρ2, C.post a o ∧ ρ2.n = C.m' ∧ (∀ T, T < C.m → ρ2.pl T = ρ.pl T) ∧ (C.res a o).Rep ρ2 v ∧ HeapSat w M ρ2 (wrs (C.hp' a o)) w'

theorem con_okS {X : Cx} {C : Con} {f : Nat} (hb : ConSem X C f) {args : List SV} {s : S} {K : KV} (h : conCall C args s K) : CallOk X f args s K := by
  obtain ⟨a, h⟩ := h
  obtain ⟨σ1, h1, e1, w1, r1⟩ := matchArgs_ok h (Wf.nil _ _)
  obtain ⟨σ2, rest, h2, e2, w2, g⟩ := matchHp_ok h1 w1
  obtain ⟨σ, hcont, e3, w3, gr⟩ := matchRo_ok h2 w2
  cases hd0 : distinct (wrs (C.hp a) ++ ros (C.ro a)) with
  | false => rw [hd0] at hcont; exact hcont.elim
  | true =>
  rw [hd0] at hcont
  obtain ⟨hpre, hpost⟩ := hcont
  intro w0 M ρ w vs hn hh hargs
  have hf : Fits ρ (subEnv ρ σ C.m) σ := subEnv_fits w3
  have hfw := hf.ext e3
  have hW : HeapSat w0 M (subEnv ρ σ C.m) (wrs (C.hp a)) w := g.sat hfw hh
  have hrest : HeapSat w0 M ρ rest w := hh.sub g.rest
  have hWl := hW.local
  have hRo : HeapSat w (frozenM (subEnv ρ σ C.m) (wrs (C.hp a))) (subEnv ρ σ C.m) (ros (C.ro a)) w := gr.sat hf hrest (fun e he => ros_wr he) (Keeps.refl _ w)
  have hapW : ∀ g0 ∈ wrs (C.hp a), ∀ f ∈ rest, ∀ b, ((subEnv ρ σ C.m).pl g0.tag).fp b → ¬ (ρ.pl f.tag).fp b := fun g0 hg0 f hf0 => g.apart hfw hh g0 hg0 f hf0 (by rw [wrs_wr hg0]; rfl)
  have hM1 : ∀ f ∈ rest, ∀ b, (ρ.pl f.tag).fp b → ¬ frozenM (subEnv ρ σ C.m) (wrs (C.hp a)) b := by
    rintro f hf0 b hb ⟨g0, hg0, _, hfp⟩
    exact hapW g0 hg0 f hf0 b hfp hb
  have hM : ∀ b, b < w0.heap.size → frozenM (subEnv ρ σ C.m) (wrs (C.hp a)) b → M b := by
    rintro b hb ⟨g0, hg0, hw, hfp⟩
    exact (hW.ent g0 hg0).own hw b hfp hb
  have hdist := List.pairwise_append.1 (distinct_spec hd0)
  have hJ : HeapSat w (frozenM (subEnv ρ σ C.m) (wrs (C.hp a))) (subEnv ρ σ C.m) (wrs (C.hp a) ++ ros (C.ro a)) w := by
    refine hWl.app hRo fun x hx y hy => ⟨hdist.2.2 x hx y hy, fun _ b hb hb' => ?_⟩
    rcases gr.src hf y hy with h | ⟨y', h1, h2⟩
    · exact h b hb'
    · rw [h2] at hb'; exact hapW x hx y' h1 b hb hb'
  have hargs' : RepArgs (subEnv ρ σ C.m) (C.args a) vs := r1 ρ _ vs (hf.ext (e2.trans e3)) hargs
  refine (hb a hpre _ (subEnv ρ σ C.m) w vs rfl hJ hargs').mono ?_
  rintro e w' ⟨v, rfl, o, ρ2, hpo, hn2, hpl2, hres, hnew⟩
  refine ⟨v, rfl, ?_⟩
  have hcont := hpost o hpo
  cases hd : distinct (renHp (renT σ s.nx C.m) (C.hp' a o) ++ rest) with
  | false => rw [hd] at hcont; exact hcont.elim
  | true =>
  rw [hd] at hcont
  simp only [cond_true] at hcont
  have hds := List.pairwise_append.1 (distinct_spec hd)
  -- the environment behind it
  let ρ3 : Env := ⟨s.nx + C.m', fun t => if t < s.nx then ρ.pl t else ρ2.pl (t - s.nx)⟩
  have hle : ρ.le ρ3 := ⟨by show ρ.n ≤ s.nx + C.m'; omega, fun t ht => by show (if t < s.nx then _ else _) = _; rw [if_pos (by omega)]⟩
  have hmv : Moves (renT σ s.nx C.m) ρ2 ρ3 := by
    intro T hT
    have hT' : T < C.m' := by rw [← hn2]; exact hT
    have fresh : s.nx + T < ρ3.n ∧ ρ3.pl (s.nx + T) = ρ2.pl T := ⟨by show s.nx + T < s.nx + C.m'; omega, by show (if s.nx + T < s.nx then _ else _) = _; rw [if_neg (by omega), Nat.add_sub_cancel_left]⟩
    unfold renT
    cases hlt : Nat.blt T C.m with
    | false => exact fresh
    | true =>
      have hTm : T < C.m := by simp [Nat.blt] at hlt; omega
      simp only [cond_true]
      split
      · rename_i t hst
        cases hlt2 : Nat.blt t s.nx with
        | false => exact fresh
        | true =>
          have htn : t < s.nx := by simp [Nat.blt] at hlt2; omega
          refine ⟨by show t < s.nx + C.m'; omega, ?_⟩
          show (if t < s.nx then _ else _) = _
          rw [if_pos htn]
          rw [hpl2 T hTm, (hf T _ hst).2]; rfl
      · exact fresh
  have hkeep : Keeps (frozenM (subEnv ρ σ C.m) (wrs (C.hp a))) w w' := hnew.keeps
  have hfix : ∀ f ∈ rest, ∀ b, (ρ.pl f.tag).fp b → w'.heap[b]? = w.heap[b]? := fun f hf0 b hb => hkeep.block b ((hrest.ent f hf0).lt b hb) (hM1 f hf0 b hb)
  have hrest3 : HeapSat w0 M ρ3 rest w' := (hrest.world hkeep hM hfix).mono hle
  have hown : ∀ g0 ∈ wrs (C.hp' a o), ∀ b, (ρ2.pl g0.tag).fp b → b < w.heap.size → frozenM (subEnv ρ σ C.m) (wrs (C.hp a)) b := fun g0 hg0 b hb hlt => (hnew.ent g0 hg0).own (wrs_wr hg0) b hb hlt
  refine ⟨_, _, ρ3, hcont, rfl, rfl, hle, rfl, renV_rep hmv hres, ?_⟩
  have hren : HeapSat w0 M ρ3 (renHp (renT σ s.nx C.m) (C.hp' a o)) w' := by
    refine ⟨hrest3.keeps, fun e he => ?_, ?_⟩
    · obtain ⟨p, hp, rfl⟩ := List.mem_map.1 he
      have hg := hnew.ent ⟨p.1, true, p.2⟩ (List.mem_map.2 ⟨p, hp, rfl⟩)
      obtain ⟨m1, m2⟩ := hmv _ hg.tag
      refine ⟨m1, ?_, ?_, fun _ b hb hlt => ?_⟩
      · show (renCh _ p.2).Sat ρ3 (ρ3.pl _) w'
        rw [m2]; exact renCh_sat hmv hg.ch
      · show ∀ b, (ρ3.pl _).fp b → _
        rw [m2]; exact hg.lt
      · have hb' : (ρ2.pl p.1).fp b := by have : (ρ3.pl (renT σ s.nx C.m p.1)).fp b := hb; rw [m2] at this; exact this
        exact hM b hlt (hown ⟨p.1, true, p.2⟩ (List.mem_map.2 ⟨p, hp, rfl⟩) b hb' (Nat.lt_of_lt_of_le hlt hh.keeps.size))
    · have hd1 := List.pairwise_map.1 hds.1
      have ha1 := List.pairwise_map.1 hnew.apart
      refine List.pairwise_map.2 (List.Pairwise.imp_of_mem (fun {x y} hx hy hxy => ?_) (hd1.and ha1))
      obtain ⟨hne, hap⟩ := hxy
      have gx := hmv _ (hnew.ent ⟨x.1, true, x.2⟩ (List.mem_map.2 ⟨x, hx, rfl⟩)).tag
      have gy := hmv _ (hnew.ent ⟨y.1, true, y.2⟩ (List.mem_map.2 ⟨y, hy, rfl⟩)).tag
      refine ⟨hne, fun _ b hb hb' => ?_⟩
      have hb1 : (ρ3.pl (renT σ s.nx C.m x.1)).fp b := hb
      have hb2 : (ρ3.pl (renT σ s.nx C.m y.1)).fp b := hb'
      rw [gx.2] at hb1
      rw [gy.2] at hb2
      exact hap.2 rfl b hb1 hb2
  refine hren.app hrest3 fun x hx y hy => ⟨hds.2.2 x hx y hy, fun _ b hb hb' => ?_⟩
  obtain ⟨p, hp, rfl⟩ := List.mem_map.1 hx
  have hmem : (⟨p.1, true, p.2⟩ : Ent) ∈ wrs (C.hp' a o) := List.mem_map.2 ⟨p, hp, rfl⟩
  have gx := hmv _ (hnew.ent _ hmem).tag
  have hb1 : (ρ3.pl (renT σ s.nx C.m p.1)).fp b := hb
  rw [gx.2] at hb1
  have hb2 : (ρ.pl y.tag).fp b := by rw [← hle.pl _ (hrest.ent y hy).tag]; exact hb'
  have hlt := (hrest.ent y hy).lt b hb2
  exact hM1 y hy b hb2 (hown _ hmem b hb1 hlt)

theorem con_sem {Y : Gx} (hY : Y.Ok) {C : Con} {ch : C.α → CallH} (hch : ∀ a, HOk Y.G.X (ch a)) {lh : C.α → Nat → LH} {f : Nat} (hb : conBody Y C ch lh f) : ConSem Y.G.X C f := by
  intro a hpre M ρ w vs hn hJ hargs
  refine (xbody_ok hY (hch a) (hb a hpre) w M ρ w vs hn hJ hargs).mono ?_
  rintro e w' ⟨v, rfl, sv, s', ρ1, hK, _, _, hle1, hn1, hrep1, hh1⟩
  refine ⟨v, rfl, ?_⟩
  obtain ⟨o, hK⟩ := hK
  obtain ⟨τ1, k1, f1, v1, q1⟩ := matchV_ok hK (Wf.nil _ _)
  obtain ⟨τ, rest', ⟨hpo, _⟩, f2, v2, gt⟩ := matchHp_ok k1 v1
  have hft : Fits ρ1 (subEnv ρ1 τ C.m') τ := subEnv_fits v2
  refine ⟨o, subEnv ρ1 τ C.m', hpo, rfl, fun T hTm => ?_, q1 ρ1 _ v (hft.ext f2) hrep1, gt.sat hft hh1⟩
  rw [← hle1.pl T (by rw [hn]; exact hTm)]
  show (match subAt τ T with | some x => placeOf ρ1 x | none => ρ1.pl T) = _
  split
  · rename_i x hx; rw [v2.id T x hx hTm]; rfl
  · rfl

theorem con_ok {Y : Gx} (hY : Y.Ok) {C : Con} {ch : C.α → CallH} (hch : ∀ a, HOk Y.G.X (ch a)) {lh : C.α → Nat → LH} {f : Nat} (hb : conBody Y C ch lh f) {args : List SV} {s : S} {K : KV} (h : conCall C args s K) : CallOk Y.G.X f args s K :=
  con_okS (con_sem hY hch hb) h

/-- the contracts of a program's functions -/
def cons (tab : Nat → Option Con) : Sx.Spec := fun f => (tab f).map conCall
theorem cons_ok {X : Cx} {tab : Nat → Option Con} (h : ∀ f C, tab f = some C → ∀ args s K, conCall C args s K → CallOk X f args s K) : SpOk X (cons tab) := by
  intro f g hg args s K hK
  unfold cons at hg
  cases ht : tab f with
  | none => rw [ht] at hg; cases hg
  | some C => rw [ht] at hg; cases hg; exact h f C ht args s K hK

end
end Go.Sx
