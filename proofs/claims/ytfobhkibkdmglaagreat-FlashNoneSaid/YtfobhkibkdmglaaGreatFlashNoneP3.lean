/-
  Contracts: a function's body is carried out once, over formal tags; calls are met by what it says.
  Lists of data as rows of cells; tables of contracts.
  The tables of the functions that are reached: their types, their regions' orders, the slots that live on; no condition.
  Memory that is not written any more: what its slices tell; contracts told of slices told of values; a cell that is opened.
  Bytes: sums, numbers laid down and read; no condition but that there is room.
  The layer dev: a device's sectors, written, flushed, read, crashed; no condition but that a sector is there, and that calls are not too many.
  The layer num: numbers and texts laid behind bytes; no condition but that numbers are none below zero, and that there is room.
  The layers num and item: numbers, texts and entries read back; no condition but that they stand there as they are laid down.
  A state told otherwise: what a slot or a cell has comes into the pool, or is opened out of it.
-/
import Derived.Test.YtfobhkibkdmglaaGreatFlashNoneP2
import Derived.Test.YtfobhkibkdmglaaGreatProg
namespace Go.Sx
section
def wrs (l : List (Nat × Chunk)) : Heap := l.map fun p => ⟨p.1, true, p.2⟩
def ros (l : List (Nat × Chunk)) : Heap := l.map fun p => ⟨p.1, false, p.2⟩

/-- 'm': so many formal tags come in, 'm'' tags there are behind it; 'hp': what may be written; 'ro': what is read alone -/
structure Con where
 α : Type
 β : Type
 m : Nat
 m' : Nat
 pre : α → Prop
 args : α → List SV
 hp : α → List (Nat × Chunk)
 ro : α → List (Nat × Chunk)
 post : α → β → Prop
 res : α → β → SV
 hp' : α → β → List (Nat × Chunk)

def conK (C : Con) (a : C.α) : KV := fun v s' => ∃ b, matchV C.m C.m' [] v (C.res a b) fun σ => matchHp C.m C.m' 1000 (C.hp' a b).length σ s'.hp (wrs (C.hp' a b)) fun _ _ => C.post a b ∧ True

def conS (C : Con) (a : C.α) : S := ⟨0, [], wrs (C.hp a) ++ ros (C.ro a), C.m, [], List.range C.m⟩

/-- the body does what is said -/
def conBody (Y : Gx) (C : Con) (ch : C.α → CallH) (lh : C.α → Nat → LH) (f : Nat) : Prop := ∀ a, C.pre a → xbody Y (ch a) (lh a) f (C.args a) (conS C a) (conK C a)

/-! ### at a call -/

/-- entries that are read alone -/
def matchRo (n0 N : Nat) : Nat → Nat → Sub → Heap → Heap → (Sub → Prop) → Prop
 | 0, _, _, _, _, _ => False
 | _ + 1, _, σ, _, [], K => K σ
 | n + 1, d, σ, hp, e :: r, K => bif noTag e.tag r then
  (match subAt σ e.tag with
  | some none => isNo e.ch (matchRo n0 N n r.length σ hp r K)
  | some (some t) => match hp.find t with
   | some (_, ch) => matchCh n0 N σ ch e.ch fun σ => matchRo n0 N n r.length σ hp r K
   | none => False
  | none => match absTag false e.ch hp with
   | some t => (match hp.find t with
    | some (_, ch) => bindT n0 N σ e.tag (some t) fun σ => matchCh n0 N σ ch e.ch fun σ => matchRo n0 N n r.length σ hp r K
    | none => False)
   | none => match d with
    | d + 1 => matchRo n0 N n d σ hp (r ++ [e]) K
    | 0 => False) else False

inductive GotR (σ : Sub) (hp : Heap) : Heap → Prop where
 | nil : GotR σ hp []
 | later {r : Heap} {e : Ent} : GotR σ hp (r ++ [e]) → GotR σ hp (e :: r)
 | skip {r : Heap} {T : Nat} {wr : Bool} {ty : TypeId} {ks : List CK} {rows : Nat → Nat → Value} : subAt σ T = some none → (∀ e ∈ r, T ≠ e.tag) → GotR σ hp r → GotR σ hp (⟨T, wr, .arr ty ks 0 rows⟩ :: r)
 | take {r : Heap} {T t : Nat} {wr wr' : Bool} {ch ch' : Chunk} : subAt σ T = some (some t) → hp.find t = some (wr', ch') →
  (∀ ρ ρ' p w, Fits ρ ρ' σ → ch'.Sat ρ p w → ch.Sat ρ' p w) → (∀ e ∈ r, T ≠ e.tag) → GotR σ hp r → GotR σ hp (⟨T, wr, ch⟩ :: r)

theorem matchRo_ok {n0 N : Nat} {hp : Heap} {K : Sub → Prop} : ∀ {n d : Nat} {J : Heap} {σ : Sub}, matchRo n0 N n d σ hp J K → Wf n0 N σ → ∃ σ', K σ' ∧ Ext σ σ' ∧ Wf n0 N σ' ∧ GotR σ' hp J
 | 0, _, _, _, h, _ => h.elim
 | _ + 1, _, [], σ, h, hw => ⟨σ, h, Ext.refl σ, hw, .nil⟩
 | n + 1, d, ⟨T, wr, ch⟩ :: r, σ, h, hw => by
  simp only [matchRo] at h
  cases hn : noTag T r
  ·rw [hn] at h; exact h.elim
  rw [hn] at h
  simp only [cond_true] at h
  have hne := noTag_spec hn
  split at h
  ·rename_i hs
   cases ch <;> simp only [isNo] at h <;> try exact h.elim
   obtain ⟨rfl, h⟩ := h
   obtain ⟨σ', h1, h2, h3, h4⟩ := matchRo_ok h hw
   exact ⟨σ', h1, h2, h3, .skip (h2.at_ _ _ hs) hne h4⟩
  ·rename_i t hs
   split at h
   ·rename_i wr' ch' hf
    obtain ⟨σ1, k1, e1, w1, r1⟩ := matchCh_ok h hw
    obtain ⟨σ', h1, h2, h3, h4⟩ := matchRo_ok k1 w1
    exact ⟨σ', h1, e1.trans h2, h3, .take ((e1.trans h2).at_ _ _ hs) hf (fun ρ ρ' p w hf => r1 ρ ρ' p w (hf.ext h2)) hne h4⟩
   ·exact h.elim
  ·split at h
   ·split at h
    ·rename_i wr' ch' hf
     obtain ⟨σ0, k0, e0, w0, s0⟩ := bindT_ok h hw
     obtain ⟨σ1, k1, e1, w1, r1⟩ := matchCh_ok k0 w0
     obtain ⟨σ', h1, h2, h3, h4⟩ := matchRo_ok k1 w1
     exact ⟨σ', h1, e0.trans (e1.trans h2), h3, .take ((e1.trans h2).at_ _ _ s0) hf (fun ρ ρ' p w hf => r1 ρ ρ' p w (hf.ext h2)) hne h4⟩
    ·exact h.elim
   ·split at h
    ·obtain ⟨σ', h1, h2, h3, h4⟩ := matchRo_ok h hw
     exact ⟨σ', h1, h2, h3, .later h4⟩
    ·exact h.elim

theorem GotR.src {σ : Sub} {hp J : Heap} (h : GotR σ hp J) {ρ ρ' : Env} (hf : Fits ρ ρ' σ) : ∀ e ∈ J, (∀ b, ¬ (ρ'.pl e.tag).fp b) ∨ ∃ e' ∈ hp, ρ'.pl e.tag = ρ.pl e'.tag := by
 induction h with
 | nil => intro e he; cases he
 | later _ ih => intro e he; exact ih e (by simp only [List.mem_cons, List.mem_append, List.not_mem_nil, or_false] at he ⊢; exact he.symm)
 | skip hs _ _ ih =>
  intro e he
  rcases List.mem_cons.1 he with rfl | he
  ·left; intro b; rw [(hf _ _ hs).2]; exact id
  ·exact ih e he
 | take hs hfd _ _ _ ih =>
  intro e he
  rcases List.mem_cons.1 he with rfl | he
  ·exact .inr ⟨_, Heap.find_mem hfd, (hf _ _ hs).2⟩
  ·exact ih e he

theorem GotR.sat {σ : Sub} {hp J : Heap} (h : GotR σ hp J) {ρ ρ' : Env} (hf : Fits ρ ρ' σ) {w0 : World} {M : Nat → Prop} {w : World} (hh : HeapSat w0 M ρ hp w) (hr : ∀ e ∈ J, e.wr = false) {w1 : World} {M1 : Nat → Prop} (hk : Keeps M1 w1 w) : HeapSat w1 M1 ρ' J w := by
 induction h with
 | nil => exact ⟨hk, fun _ h => (by cases h), .nil⟩
 | later _ ih => exact (ih fun e he => hr e (by simp only [List.mem_cons, List.mem_append, List.not_mem_nil, or_false] at he ⊢; exact he.symm)).perm (List.perm_append_singleton _ _)
 | skip hs hne _ ih =>
  refine (ih fun e he => hr e (List.mem_cons_of_mem _ he)).cons ⟨(hf _ _ hs).1, ?_, ?_, ?_⟩ fun x hx => ⟨hne x hx, fun _ b hb => ?_⟩
  ·refine .inl ⟨rfl, ?_, fun b hb => ?_⟩
   ·rw [(hf _ _ hs).2]; rfl
   ·rw [(hf _ _ hs).2] at hb; exact hb
  ·intro b hb; rw [(hf _ _ hs).2] at hb; exact hb.elim
  ·intro _ b hb; rw [(hf _ _ hs).2] at hb; exact hb.elim
  ·rw [(hf _ _ hs).2] at hb; exact hb.elim
 | take hs hfd hc hne _ ih =>
  have hp1 := (hf _ _ hs).2
  have he := hh.ent _ (Heap.find_mem hfd)
  refine (ih fun e he => hr e (List.mem_cons_of_mem _ he)).cons ⟨(hf _ _ hs).1, ?_, ?_, ?_⟩ fun x hx => ⟨hne x hx, fun hwr => ?_⟩
  ·rw [hp1]; exact hc ρ ρ' _ w hf he.ch
  ·rw [hp1]; exact he.lt
  ·intro h1; have := hr _ List.mem_cons_self; simp only at this h1; rw [this] at h1; cases h1
  ·have h1 := hr _ List.mem_cons_self
   have h2 := hr x (List.mem_cons_of_mem _ hx)
   simp only at h1
   rw [h1, h2] at hwr; cases hwr

/-! ### tags of what a call leaves -/

def renT (σ : Sub) (nx m T : Nat) : Nat := bif Nat.blt T m then (match subAt σ T with | some (some t) => bif Nat.blt t nx then t else nx + T | _ => nx + T) else nx + T
def renA (f : Nat → Nat) : A → A
 | .ptr T r e c => .ptr (f T) r e c
 | .slc T r e l c => .slc (f T) r e l c
 | .sub T r e o l c => .sub (f T) r e o l c
 | x => x
def renCV (f : Nat → Nat) : CV → CV
 | .a x => .a (renA f x)
 | .agg xs => .agg (xs.map (renA f))
def renV (f : Nat → Nat) : SV → SV
 | .a x => .a (renA f x)
 | .agg xs => .agg (xs.map (renA f))
 | .tup xs => .tup (xs.map (renCV f))
 | .clo g xs => .clo g (xs.map (renA f))
def renCh (f : Nat → Nat) : Chunk → Chunk
 | .obj ty cs => .obj ty (cs.map (renA f))
 | c => c

def Moves (f : Nat → Nat) (ρ ρ' : Env) : Prop := ∀ T, T < ρ.n → f T < ρ'.n ∧ ρ'.pl (f T) = ρ.pl T

theorem renA_rep {f : Nat → Nat} {ρ ρ' : Env} (h : Moves f ρ ρ') {x : A} {v : Value} (r : x.Rep ρ v) : (renA f x).Rep ρ' v := by
 cases x <;> simp only [renA, A.Rep] at r ⊢ <;> try exact r
 ·obtain ⟨h1, rfl⟩ := r
  obtain ⟨h2, h3⟩ := h _ h1
  exact ⟨h2, by rw [h3]⟩
 ·obtain ⟨h1, h4, h5, h6⟩ := r
  obtain ⟨h2, h3⟩ := h _ h1
  exact ⟨h2, h4, h5, by rw [h3]; exact h6⟩
 ·obtain ⟨h1, h4, h5, rfl⟩ := r
  obtain ⟨h2, h3⟩ := h _ h1
  exact ⟨h2, h4, h5, by rw [h3]⟩
theorem renL_rep {f : Nat → Nat} {ρ ρ' : Env} (h : Moves f ρ ρ') : ∀ {xs : List A} {vs : List Value}, RepL ρ xs vs → RepL ρ' (xs.map (renA f)) vs
 | [], _, r => r
 | _ :: _, _, ⟨v, t, e, r1, r2⟩ => ⟨v, t, e, renA_rep h r1, renL_rep h r2⟩
theorem renCV_rep {f : Nat → Nat} {ρ ρ' : Env} (h : Moves f ρ ρ') : ∀ {x : CV} {v : Value}, x.Rep ρ v → (renCV f x).Rep ρ' v
 | .a _, _, r => renA_rep h r
 | .agg _, _, ⟨vs, e, r⟩ => ⟨vs, e, renL_rep h r⟩
theorem renC_rep {f : Nat → Nat} {ρ ρ' : Env} (h : Moves f ρ ρ') : ∀ {xs : List CV} {vs : List Value}, RepC ρ xs vs → RepC ρ' (xs.map (renCV f)) vs
 | [], _, r => r
 | _ :: _, _, ⟨v, t, e, r1, r2⟩ => ⟨v, t, e, renCV_rep h r1, renC_rep h r2⟩
theorem renV_rep {f : Nat → Nat} {ρ ρ' : Env} (h : Moves f ρ ρ') : ∀ {x : SV} {v : Value}, x.Rep ρ v → (renV f x).Rep ρ' v
 | .a _, _, r => renA_rep h r
 | .agg _, _, ⟨vs, e, r⟩ => ⟨vs, e, renL_rep h r⟩
 | .tup _, _, ⟨vs, e, r⟩ => ⟨vs, e, renC_rep h r⟩
 | .clo _ _, _, ⟨vs, e, r⟩ => ⟨vs, e, renL_rep h r⟩
theorem renCh_sat {f : Nat → Nat} {ρ ρ' : Env} (h : Moves f ρ ρ') {c : Chunk} {p : Place} {w : World} (r : c.Sat ρ p w) : (renCh f c).Sat ρ' p w := by
 cases c with
 | obj ty cs => obtain ⟨vs, fr, a, b, ⟨us, xs, e, c⟩, d⟩ := r; exact ⟨vs, fr, a, b, ⟨us, xs, e, renL_rep h c⟩, d⟩
 | arr ty ks n rows => exact r
 | abs R => exact r
 | pool H => exact r

def renHp (f : Nat → Nat) (l : List (Nat × Chunk)) : Heap := l.map fun p => ⟨f p.1, true, renCh f p.2⟩

def distinct : Heap → Bool
 | [] => true
 | e :: r => noTag e.tag r && distinct r
theorem distinct_spec : ∀ {hp : Heap}, distinct hp = true → hp.Pairwise fun x y => x.tag ≠ y.tag
 | [], _ => .nil
 | e :: r, h => by
  simp only [distinct, Bool.and_eq_true] at h
  exact List.pairwise_cons.2 ⟨fun y hy => noTag_spec h.1 y hy, distinct_spec h.2⟩

def conCall (C : Con) (args : List SV) (s : S) (K : KV) : Prop :=
 ∃ a, matchArgs 0 C.m [] args (C.args a) fun σ => matchHp 0 C.m 1000 (C.hp a).length σ s.hp (wrs (C.hp a)) fun σ rest => matchRo 0 C.m 1000 (C.ro a).length σ rest (ros (C.ro a)) fun σ =>
  bif distinct (wrs (C.hp a) ++ ros (C.ro a)) then C.pre a ∧
  ∀ b, C.post a b → bif distinct (renHp (renT σ s.nx C.m) (C.hp' a b) ++ rest) then
   K (renV (renT σ s.nx C.m) (C.res a b)) ⟨s.nt, s.fr, renHp (renT σ s.nx C.m) (C.hp' a b) ++ rest, s.nx + C.m', s.kp, s.rt⟩ else False else False

theorem HeapSat.local {w0 : World} {M : Nat → Prop} {ρ : Env} {hp : Heap} {w : World} (h : HeapSat w0 M ρ hp w) : HeapSat w (frozenM ρ hp) ρ hp w where
 keeps := Keeps.refl _ w
 ent := fun e he => ⟨(h.ent e he).tag, (h.ent e he).ch, (h.ent e he).lt, fun hw _ hb _ => ⟨e, he, hw, hb⟩⟩
 apart := h.apart

theorem HeapSat.app {w0 : World} {M : Nat → Prop} {ρ : Env} {w : World} : ∀ {h1 h2 : Heap}, HeapSat w0 M ρ h1 w → HeapSat w0 M ρ h2 w → (∀ x ∈ h1, ∀ y ∈ h2, Apart ρ x y) → HeapSat w0 M ρ (h1 ++ h2) w
 | [], _, _, h, _ => h
 | e :: r, h2, h, h', ha => by
  have hr := HeapSat.app (h.sub (List.sublist_cons_self e r)) h' fun x hx => ha x (List.mem_cons_of_mem _ hx)
  refine hr.cons (h.ent e List.mem_cons_self) fun x hx => ?_
  rcases List.mem_append.1 hx with hx | hx
  ·exact (List.pairwise_cons.1 h.apart).1 x hx
  ·exact ha e List.mem_cons_self x hx

theorem wrs_wr {l : List (Nat × Chunk)} {e : Ent} (h : e ∈ wrs l) : e.wr = true := by
 obtain ⟨p, _, rfl⟩ := List.mem_map.1 h; rfl
theorem ros_wr {l : List (Nat × Chunk)} {e : Ent} (h : e ∈ ros l) : e.wr = false := by
 obtain ⟨p, _, rfl⟩ := List.mem_map.1 h; rfl

/-- what a contract says of its function, whatever the tags' places -/
def ConSem (X : Cx) (C : Con) (f : Nat) : Prop := ∀ a, C.pre a → ∀ (M : Nat → Prop) (ρ : Env) (w : World) (vs : List Value), ρ.n = C.m → HeapSat w M ρ (wrs (C.hp a) ++ ros (C.ro a)) w → RepArgs ρ (C.args a) vs →
 Calls X.P f vs.toArray w fun e w' => ∃ v, e = .returned v ∧ ∃ o ρ2, C.post a o ∧ ρ2.n = C.m' ∧ (∀ T, T < C.m → ρ2.pl T = ρ.pl T) ∧ (C.res a o).Rep ρ2 v ∧ HeapSat w M ρ2 (wrs (C.hp' a o)) w'

theorem con_okS {X : Cx} {C : Con} {f : Nat} (hb : ConSem X C f) {args : List SV} {s : S} {K : KV} (h : conCall C args s K) : CallOk X f args s K := by
 obtain ⟨a, h⟩ := h
 obtain ⟨σ1, h1, e1, w1, r1⟩ := matchArgs_ok h (Wf.nil _ _)
 obtain ⟨σ2, rest, h2, e2, w2, g⟩ := matchHp_ok h1 w1
 obtain ⟨σ, hcont, e3, w3, gr⟩ := matchRo_ok h2 w2
 cases hd0 : distinct (wrs (C.hp a) ++ ros (C.ro a)) with
 | false => rw [hd0] at hcont; exact hcont.elim
 | true =>
 rw [hd0] at hcont
 obtain ⟨hpre, hpost⟩ := hcont
 intro w0 M ρ w vs hn hh hargs
 have hf : Fits ρ (subEnv ρ σ C.m) σ := subEnv_fits w3
 have hfw := hf.ext e3
 have hW : HeapSat w0 M (subEnv ρ σ C.m) (wrs (C.hp a)) w := g.sat hfw hh
 have hrest : HeapSat w0 M ρ rest w := hh.sub g.rest
 have hWl := hW.local
 have hRo : HeapSat w (frozenM (subEnv ρ σ C.m) (wrs (C.hp a))) (subEnv ρ σ C.m) (ros (C.ro a)) w := gr.sat hf hrest (fun e he => ros_wr he) (Keeps.refl _ w)
 have hapW : ∀ g0 ∈ wrs (C.hp a), ∀ f ∈ rest, ∀ b, ((subEnv ρ σ C.m).pl g0.tag).fp b → ¬ (ρ.pl f.tag).fp b := fun g0 hg0 f hf0 => g.apart hfw hh g0 hg0 f hf0 (by rw [wrs_wr hg0]; rfl)
 have hM1 : ∀ f ∈ rest, ∀ b, (ρ.pl f.tag).fp b → ¬ frozenM (subEnv ρ σ C.m) (wrs (C.hp a)) b := by
  rintro f hf0 b hb ⟨g0, hg0, _, hfp⟩
  exact hapW g0 hg0 f hf0 b hfp hb
 have hM : ∀ b, b < w0.heap.size → frozenM (subEnv ρ σ C.m) (wrs (C.hp a)) b → M b := by
  rintro b hb ⟨g0, hg0, hw, hfp⟩
  exact (hW.ent g0 hg0).own hw b hfp hb
 have hdist := List.pairwise_append.1 (distinct_spec hd0)
 have hJ : HeapSat w (frozenM (subEnv ρ σ C.m) (wrs (C.hp a))) (subEnv ρ σ C.m) (wrs (C.hp a) ++ ros (C.ro a)) w := by
  refine hWl.app hRo fun x hx y hy => ⟨hdist.2.2 x hx y hy, fun _ b hb hb' => ?_⟩
  rcases gr.src hf y hy with h | ⟨y', h1, h2⟩
  ·exact h b hb'
  ·rw [h2] at hb'; exact hapW x hx y' h1 b hb hb'
 have hargs' : RepArgs (subEnv ρ σ C.m) (C.args a) vs := r1 ρ _ vs (hf.ext (e2.trans e3)) hargs
 refine (hb a hpre _ (subEnv ρ σ C.m) w vs rfl hJ hargs').mono ?_
 rintro e w' ⟨v, rfl, o, ρ2, hpo, hn2, hpl2, hres, hnew⟩
 refine ⟨v, rfl, ?_⟩
 have hcont := hpost o hpo
 cases hd : distinct (renHp (renT σ s.nx C.m) (C.hp' a o) ++ rest) with
 | false => rw [hd] at hcont; exact hcont.elim
 | true =>
 rw [hd] at hcont
 simp only [cond_true] at hcont
 have hds := List.pairwise_append.1 (distinct_spec hd)
 -- the environment behind it
 let ρ3 : Env := ⟨s.nx + C.m', fun t => if t < s.nx then ρ.pl t else ρ2.pl (t - s.nx)⟩
 have hle : ρ.le ρ3 := ⟨by show ρ.n ≤ s.nx + C.m'; omega, fun t ht => by show (if t < s.nx then _ else _) = _; rw [if_pos (by omega)]⟩
 have hmv : Moves (renT σ s.nx C.m) ρ2 ρ3 := by
  intro T hT
  have hT' : T < C.m' := by rw [← hn2]; exact hT
  have fresh : s.nx + T < ρ3.n ∧ ρ3.pl (s.nx + T) = ρ2.pl T := ⟨by show s.nx + T < s.nx + C.m'; omega, by show (if s.nx + T < s.nx then _ else _) = _; rw [if_neg (by omega), Nat.add_sub_cancel_left]⟩
  unfold renT
  cases hlt : Nat.blt T C.m with
  | false => exact fresh
  | true =>
   have hTm : T < C.m := by simp [Nat.blt] at hlt; omega
   simp only [cond_true]
   split
   ·rename_i t hst
    cases hlt2 : Nat.blt t s.nx with
    | false => exact fresh
    | true =>
     have htn : t < s.nx := by simp [Nat.blt] at hlt2; omega
     refine ⟨by show t < s.nx + C.m'; omega, ?_⟩
     show (if t < s.nx then _ else _) = _
     rw [if_pos htn]
     rw [hpl2 T hTm, (hf T _ hst).2]; rfl
   ·exact fresh
 have hkeep : Keeps (frozenM (subEnv ρ σ C.m) (wrs (C.hp a))) w w' := hnew.keeps
 have hfix : ∀ f ∈ rest, ∀ b, (ρ.pl f.tag).fp b → w'.heap[b]? = w.heap[b]? := fun f hf0 b hb => hkeep.block b ((hrest.ent f hf0).lt b hb) (hM1 f hf0 b hb)
 have hrest3 : HeapSat w0 M ρ3 rest w' := (hrest.world hkeep hM hfix).mono hle
 have hown : ∀ g0 ∈ wrs (C.hp' a o), ∀ b, (ρ2.pl g0.tag).fp b → b < w.heap.size → frozenM (subEnv ρ σ C.m) (wrs (C.hp a)) b := fun g0 hg0 b hb hlt => (hnew.ent g0 hg0).own (wrs_wr hg0) b hb hlt
 refine ⟨_, _, ρ3, hcont, rfl, rfl, hle, rfl, renV_rep hmv hres, ?_⟩
 have hren : HeapSat w0 M ρ3 (renHp (renT σ s.nx C.m) (C.hp' a o)) w' := by
  refine ⟨hrest3.keeps, fun e he => ?_, ?_⟩
  ·obtain ⟨p, hp, rfl⟩ := List.mem_map.1 he
   have hg := hnew.ent ⟨p.1, true, p.2⟩ (List.mem_map.2 ⟨p, hp, rfl⟩)
   obtain ⟨m1, m2⟩ := hmv _ hg.tag
   refine ⟨m1, ?_, ?_, fun _ b hb hlt => ?_⟩
   ·show (renCh _ p.2).Sat ρ3 (ρ3.pl _) w'
    rw [m2]; exact renCh_sat hmv hg.ch
   ·show ∀ b, (ρ3.pl _).fp b → _
    rw [m2]; exact hg.lt
   ·have hb' : (ρ2.pl p.1).fp b := by have : (ρ3.pl (renT σ s.nx C.m p.1)).fp b := hb; rw [m2] at this; exact this
    exact hM b hlt (hown ⟨p.1, true, p.2⟩ (List.mem_map.2 ⟨p, hp, rfl⟩) b hb' (Nat.lt_of_lt_of_le hlt hh.keeps.size))
  ·have hd1 := List.pairwise_map.1 hds.1
   have ha1 := List.pairwise_map.1 hnew.apart
   refine List.pairwise_map.2 (List.Pairwise.imp_of_mem (fun {x y} hx hy hxy => ?_) (hd1.and ha1))
   obtain ⟨hne, hap⟩ := hxy
   have gx := hmv _ (hnew.ent ⟨x.1, true, x.2⟩ (List.mem_map.2 ⟨x, hx, rfl⟩)).tag
   have gy := hmv _ (hnew.ent ⟨y.1, true, y.2⟩ (List.mem_map.2 ⟨y, hy, rfl⟩)).tag
   refine ⟨hne, fun _ b hb hb' => ?_⟩
   have hb1 : (ρ3.pl (renT σ s.nx C.m x.1)).fp b := hb
   have hb2 : (ρ3.pl (renT σ s.nx C.m y.1)).fp b := hb'
   rw [gx.2] at hb1
   rw [gy.2] at hb2
   exact hap.2 rfl b hb1 hb2
 refine hren.app hrest3 fun x hx y hy => ⟨hds.2.2 x hx y hy, fun _ b hb hb' => ?_⟩
 obtain ⟨p, hp, rfl⟩ := List.mem_map.1 hx
 have hmem : (⟨p.1, true, p.2⟩ : Ent) ∈ wrs (C.hp' a o) := List.mem_map.2 ⟨p, hp, rfl⟩
 have gx := hmv _ (hnew.ent _ hmem).tag
 have hb1 : (ρ3.pl (renT σ s.nx C.m p.1)).fp b := hb
 rw [gx.2] at hb1
 have hb2 : (ρ.pl y.tag).fp b := by rw [← hle.pl _ (hrest.ent y hy).tag]; exact hb'
 have hlt := (hrest.ent y hy).lt b hb2
 exact hM1 y hy b hb2 (hown _ hmem b hb1 hlt)

theorem con_sem {Y : Gx} (hY : Y.Ok) {C : Con} {ch : C.α → CallH} (hch : ∀ a, HOk Y.G.X (ch a)) {lh : C.α → Nat → LH} {f : Nat} (hb : conBody Y C ch lh f) : ConSem Y.G.X C f := by
 intro a hpre M ρ w vs hn hJ hargs
 refine (xbody_ok hY (hch a) (hb a hpre) w M ρ w vs hn hJ hargs).mono ?_
 rintro e w' ⟨v, rfl, sv, s', ρ1, hK, _, _, hle1, hn1, hrep1, hh1⟩
 refine ⟨v, rfl, ?_⟩
 obtain ⟨o, hK⟩ := hK
 obtain ⟨τ1, k1, f1, v1, q1⟩ := matchV_ok hK (Wf.nil _ _)
 obtain ⟨τ, rest', ⟨hpo, _⟩, f2, v2, gt⟩ := matchHp_ok k1 v1
 have hft : Fits ρ1 (subEnv ρ1 τ C.m') τ := subEnv_fits v2
 refine ⟨o, subEnv ρ1 τ C.m', hpo, rfl, fun T hTm => ?_, q1 ρ1 _ v (hft.ext f2) hrep1, gt.sat hft hh1⟩
 rw [← hle1.pl T (by rw [hn]; exact hTm)]
 show (match subAt τ T with | some x => placeOf ρ1 x | none => ρ1.pl T) = _
 split
 ·rename_i x hx; rw [v2.id T x hx hTm]; rfl
 ·rfl

theorem con_ok {Y : Gx} (hY : Y.Ok) {C : Con} {ch : C.α → CallH} (hch : ∀ a, HOk Y.G.X (ch a)) {lh : C.α → Nat → LH} {f : Nat} (hb : conBody Y C ch lh f) {args : List SV} {s : S} {K : KV} (h : conCall C args s K) : CallOk Y.G.X f args s K :=
 con_okS (con_sem hY hch hb) h

/-- the contracts of a program's functions -/
def cons (tab : Nat → Option Con) : Sx.Spec := fun f => (tab f).map conCall
theorem cons_ok {X : Cx} {tab : Nat → Option Con} (h : ∀ f C, tab f = some C → ∀ args s K, conCall C args s K → CallOk X f args s K) : SpOk X (cons tab) := by
 intro f g hg args s K hK
 unfold cons at hg
 cases ht : tab f with
 | none => rw [ht] at hg; cases hg
 | some C => rw [ht] at hg; cases hg; exact h f C ht args s K hK

end
end Go.Sx

namespace Go.Sx
section

/-- an entry of a list -/
def gl {α : Type} [Inhabited α] (l : List α) (i : Nat) : α := l.getD i default
theorem gl_eq {α : Type} [Inhabited α] {l : List α} {i : Nat} (h : i < l.length) : gl l i = l[i] := by simp [gl, List.getD, h]
theorem gl_append_left {α : Type} [Inhabited α] {l m : List α} {i : Nat} (h : i < l.length) : gl (l ++ m) i = gl l i := by simp [gl, List.getD, List.getElem?_append_left h]
theorem gl_append_right {α : Type} [Inhabited α] {l m : List α} {i : Nat} (h : l.length ≤ i) : gl (l ++ m) i = gl m (i - l.length) := by simp [gl, List.getD, List.getElem?_append_right h]
theorem gl_set_self {α : Type} [Inhabited α] {l : List α} {i : Nat} {x : α} (h : i < l.length) : gl (l.set i x) i = x := by simp [gl, List.getD, h]
theorem gl_set_ne {α : Type} [Inhabited α] {l : List α} {i j : Nat} {x : α} (h : i ≠ j) : gl (l.set i x) j = gl l j := by simp [gl, List.getD, List.getElem?_set_ne h]
theorem gl_take {α : Type} [Inhabited α] {l : List α} {i k : Nat} (h : i < k) : gl (l.take k) i = gl l i := by simp [gl, List.getD, h]
theorem take_succ_gl {α : Type} [Inhabited α] {l : List α} {i : Nat} (h : i < l.length) : l.take (i + 1) = l.take i ++ [gl l i] := by
 rw [List.take_succ_eq_append_getElem h, gl_eq h]
theorem gl_mem {α : Type} [Inhabited α] {l : List α} {i : Nat} (h : i < l.length) : gl l i ∈ l := by rw [gl_eq h]; exact List.getElem_mem h
/-- rows of cells, each a datum's -/
def encRows {α : Type} [Inhabited α] (enc : α → List Value) (l : List α) : Nat → Nat → Value := fun i j => (enc (gl l i)).getD j undef

theorem updR_other {rows : Nat → Nat → Value} {row c i : Nat} {vs : List Value} (h : i ≠ row) : updR rows row c vs i = rows i := by
 funext j; simp [updR, h]
theorem updR_self {rows : Nat → Nat → Value} {row c : Nat} {vs : List Value} : updR rows row c vs row = fun j => bif Nat.ble c j && Nat.blt j (c + vs.length) then vs.getD (j - c) undef else rows row j := by
 funext j; simp [updR]

def cellsOf (m : Nat) (r : Nat → Value) : List Value := (List.range m).map r
/-- cell by cell -/
theorem RowsEq.of_cells {n m : Nat} {rows rows' : Nat → Nat → Value} (h : ∀ i, i < n → cellsOf m (rows i) = cellsOf m (rows' i)) : RowsEq n m rows rows' := by
 refine ⟨fun i hi j hj => ?_⟩
 have := congrArg (fun l => l[j]?) (h i hi)
 simpa [cellsOf, hj] using this
theorem RowsEq.of_eq {n m : Nat} {a b : Nat → Nat → Value} (h : a = b) : RowsEq n m a b := h ▸ .refl n m a

/-- one row is another one's -/
theorem RowsEq.set {α : Type} [Inhabited α] {enc : α → List Value} {n m : Nat} {l : List α} {x : α} (i0 : Nat) {rows : Nat → Nat → Value} (h0 : i0 < l.length)
 (h1 : ∀ i, i ≠ i0 → rows i = encRows enc l i) (h2 : cellsOf m (rows i0) = cellsOf m fun j => (enc x).getD j undef) : RowsEq n m rows (encRows enc (l.set i0 x)) := by
 refine .of_cells fun i _ => ?_
 by_cases hi : i = i0
 ·subst hi; rw [h2]; unfold encRows; rw [gl_set_self h0]
 ·rw [h1 i hi]; unfold encRows; rw [gl_set_ne fun h => hi h.symm]

theorem appRows_left {r0 r1 : Nat → Nat → Value} {s l i : Nat} (h : i < l) : appRows r0 s l r1 i = r0 (s + i) := by funext j; simp [appRows, h]
theorem appRows_right {r0 r1 : Nat → Nat → Value} {s l i : Nat} (h : l ≤ i) : appRows r0 s l r1 i = r1 (i - l) := by funext j; simp [appRows, Nat.not_lt.2 h]

/-- rows behind rows -/
theorem RowsEq.app {α : Type} [Inhabited α] {enc : α → List Value} {n m s : Nat} {l q : List α} {r0 r1 : Nat → Nat → Value} {k : Nat} (hk : l.length = k) (h0 : RowsEq k m (fun i => r0 (s + i)) (encRows enc l)) (h1 : RowsEq (n - k) m r1 (encRows enc q)) :
 RowsEq n m (appRows r0 s k r1) (encRows enc (l ++ q)) := by
 refine ⟨fun i hi j hj => ?_⟩
 by_cases h : i < k
 ·rw [appRows_left h]
  refine (h0.at_ i h j hj).trans ?_
  unfold encRows; rw [gl_append_left (by omega)]
 ·rw [appRows_right (by omega)]
  refine (h1.at_ (i - k) (by omega) j hj).trans ?_
  unfold encRows; rw [gl_append_right (by omega), hk]

/-- one row, its cells laid out -/
theorem RowsEq.one {α : Type} [Inhabited α] {enc : α → List Value} {n m : Nat} {x : α} {rows : Nat → Nat → Value} (hn : n ≤ 1) (h : cellsOf m (rows 0) = cellsOf m fun j => (enc x).getD j undef) : RowsEq n m rows (encRows enc [x]) := by
 refine .of_cells fun i hi => ?_
 have : i = 0 := by omega
 subst this
 rw [h]; rfl
/-- one more row at the end -/
theorem RowsEq.push {α : Type} [Inhabited α] {enc : α → List Value} {n m : Nat} {l : List α} {x : α} {r1 : Nat → Nat → Value} {k : Nat} (hk : l.length = k) (hn : n ≤ k + 1) (h : cellsOf m (r1 0) = cellsOf m fun j => (enc x).getD j undef) :
 RowsEq n m (appRows (encRows enc l) 0 k r1) (encRows enc (l ++ [x])) :=
 .app hk (.of_eq (by funext i; simp)) (.one (by omega) h)

/-! ### tables -/

def CallsBy (X : Cx) (f : Nat) (C : Con) : Prop := ∀ args s K, conCall C args s K → CallOk X f args s K
def conTab : List (Nat × Con) → Nat → Option Con
 | [], _ => none
 | (j, c) :: r, f => bif Nat.beq j f then some c else conTab r f
def TabOk (X : Cx) : List (Nat × Con) → Prop
 | [] => True
 | p :: r => CallsBy X p.1 p.2 ∧ TabOk X r
theorem TabOk.at_ {X : Cx} : ∀ {l : List (Nat × Con)}, TabOk X l → ∀ f C, conTab l f = some C → CallsBy X f C
 | [], _, _, _, h => by cases h
 | (j, c) :: r, h, f, C, hc => by
  simp only [conTab] at hc
  by_cases hj : j = f
  ·subst hj
   simp only [beq_self', cond_true, Option.some.injEq] at hc
   subst hc; exact h.1
  ·rw [beq_ne hj] at hc
   exact TabOk.at_ h.2 f C hc

/-- what is said of loops and of ways that meet, by functions -/
def lhTab (n : Nat) : List (Nat × List An × List An) → Nat → LH
 | [], _ => .mk n [] []
 | (j, l, c) :: r, f => bif Nat.beq j f then .mk n l c else lhTab n r f

def CHof (Y : Gx) (tab : List (Nat × Con)) (lh : Nat → LH) (n : Nat) : CallH := xcall Y (cons (conTab tab)) lh n
theorem CHof_ok {Y : Gx} (hY : Y.Ok) {tab : List (Nat × Con)} (ht : TabOk Y.G.X tab) {lh : Nat → LH} {n : Nat} : HOk Y.G.X (CHof Y tab lh n) :=
 xcall_ok hY (cons_ok fun f C h => ht.at_ f C h) n
/-- a function's body, with what is said of its loops and of its callees -/
def fnBodyP (Y : Gx) (tab : List (Nat × Con)) (f : Nat) (C : Con) (l : C.α → List (Nat × List An × List An)) : Prop :=
 conBody Y C (fun a => CHof Y tab (lhTab 1000 (l a)) 20) (fun a => lhTab 1000 (l a)) f
/-- likewise; not opened where it stands as a type -/
structure fnBody (Y : Gx) (tab : List (Nat × Con)) (f : Nat) (C : Con) (l : C.α → List (Nat × List An × List An)) : Prop where
 body : fnBodyP Y tab f C l
theorem fnBody.of {Y : Gx} {tab : List (Nat × Con)} {f : Nat} {C : Con} {l : C.α → List (Nat × List An × List An)} {p : Prop} (h : fnBodyP Y tab f C l = p) (hp : p) : fnBody Y tab f C l := ⟨h.mpr hp⟩
theorem fn_ok {Y : Gx} (hY : Y.Ok) {tab : List (Nat × Con)} (ht : TabOk Y.G.X tab) {f : Nat} {C : Con} {l : C.α → List (Nat × List An × List An)} (hb : fnBody Y tab f C l) : CallsBy Y.G.X f C :=
 fun _ _ _ h => con_ok hY (fun _ => CHof_ok hY ht) hb.body h
/-- without more within -/
def An.flat (key : Nat) (α : Type) (J : S → α → S) (p : S → α → Prop) (μ : S → α → Nat) : An := .mk key α J p μ fun _ => .mk 60 [] []

/-! ### states, changed by hand -/

def tagOf : SV → Nat
 | .a (.ptr t _ _ _) => t
 | .a (.slc t _ _ _ _) => t
 | _ => 0
def S.tg (s : S) (i : Nat) : Nat := tagOf (look s.fr i)
/-- the number in a slot -/
def S.iv (s : S) (i : Nat) : Int := match look s.fr i with
 | .a (.int _ n) => n
 | .a (.lit _ n) => n
 | _ => 0
/-- the tag of a cell of a block -/
def S.in_ (s : S) (t c : Nat) : Nat := match s.hp.find t with
 | some (_, .obj _ cs) => match cs[c]? with | some x => tagOf (.a x) | none => 0
 | _ => 0
def S.at_ (s : S) (t : Nat) (ch : Chunk) : S := s.put (s.hp.upd t ch)
def S.int (s : S) (i : Nat) (n : Int) : S := s.set i (.a (.int .i64 n))

end
end Go.Sx

namespace Go.Proofs.YtfobhkibkdmglaaGreat
open Go.Sx
set_option maxRecDepth 100000
namespace Tab
def Tf : List (Nat × TI) := [(2, ⟨1, 8, false, .int .i64, [.lit .i64 0], [.int .i64]⟩),
 (3, ⟨1, 8, false, .int .i64, [.lit .i64 0], [.int .i64]⟩),
 (4, ⟨1, 1, false, .bool, [.ff], [.bool]⟩),
 (5, ⟨1, 1, false, .int .u8, [.lit .u8 0], [.int .u8]⟩),
 (9, ⟨1, 16, false, .str, [.str ⟨#[]⟩], [.str]⟩),
 (22, ⟨1, 24, false, .slc 38, [.snil], [.other]⟩),
 (24, ⟨1, 8, false, .ptr, [.nil], [.other]⟩),
 (25, ⟨1, 8, false, .int .i64, [.lit .i64 0], [.int .i64]⟩),
 (28, ⟨1, 8, false, .ptr, [.nil], [.other]⟩),
 (30, ⟨1, 8, false, .ptr, [.nil], [.other]⟩),
 (31, ⟨1, 24, false, .slc 50, [.snil], [.other]⟩),
 (33, ⟨2, 32, true, .struct [(0, 1), (1, 1)], [.snil, .lit .i64 0], [.other, .int .i64]⟩),
 (35, ⟨4, 48, true, .struct [(0, 1), (1, 1), (2, 1), (3, 1)], [.str ⟨#[]⟩, .str ⟨#[]⟩, .lit .i64 0, .ff], [.str, .str, .int .i64, .bool]⟩),
 (36, ⟨1, 24, false, .slc 4, [.snil], [.other]⟩),
 (38, ⟨7, 88, true, .struct [(0, 1), (1, 4), (5, 1), (6, 1)], [.lit .i64 0, .str ⟨#[]⟩, .str ⟨#[]⟩, .lit .i64 0, .ff, .lit .i64 0, .snil], [.int .i64, .str, .str, .int .i64, .bool, .int .i64, .other]⟩),
 (46, ⟨1, 24, false, .slc 9, [.snil], [.other]⟩),
 (50, ⟨6, 64, true, .struct [(0, 4), (4, 1), (5, 1)], [.str ⟨#[]⟩, .str ⟨#[]⟩, .lit .i64 0, .ff, .lit .i64 0, .lit .i64 0], [.str, .str, .int .i64, .bool, .int .i64, .int .i64]⟩),
 (55, ⟨1, 24, false, .slc 35, [.snil], [.other]⟩),
 (56, ⟨1, 8, false, .int .u64, [.lit .u64 0], [.int .u64]⟩),
 (65, ⟨1, 8, false, .ptr, [.nil], [.other]⟩),
 (68, ⟨1, 8, false, .ptr, [.nil], [.other]⟩),
 (71, ⟨2, 16, true, .struct [(0, 1), (1, 1)], [.nil, .nil], [.other, .other]⟩),
 (72, ⟨1, 24, false, .slc 76, [.snil], [.other]⟩),
 (74, ⟨1, 24, false, .slc 5, [.snil], [.other]⟩),
 (76, ⟨2, 32, true, .struct [(0, 1), (1, 1)], [.lit .i64 0, .snil], [.int .i64, .other]⟩),
 (79, ⟨1, 24, false, .slc 93, [.snil], [.other]⟩),
 (81, ⟨2, 32, true, .struct [(0, 1), (1, 1)], [.snil, .lit .i64 0], [.other, .int .i64]⟩),
 (91, ⟨64, 64, true, .arr 64 5, [.lit .u8 0, .lit .u8 0, .lit .u8 0, .lit .u8 0, .lit .u8 0, .lit .u8 0, .lit .u8 0, .lit .u8 0, .lit .u8 0, .lit .u8 0, .lit .u8 0, .lit .u8 0, .lit .u8 0, .lit .u8 0, .lit .u8 0, .lit .u8 0, .lit .u8 0, .lit .u8 0, .lit .u8 0, .lit .u8 0, .lit .u8 0, .lit .u8 0, .lit .u8 0, .lit .u8 0, .lit .u8 0, .lit .u8 0, .lit .u8 0, .lit .u8 0, .lit .u8 0, .lit .u8 0, .lit .u8 0, .lit .u8 0, .lit .u8 0, .lit .u8 0, .lit .u8 0, .lit .u8 0, .lit .u8 0, .lit .u8 0, .lit .u8 0, .lit .u8 0, .lit .u8 0, .lit .u8 0, .lit .u8 0, .lit .u8 0, .lit .u8 0, .lit .u8 0, .lit .u8 0, .lit .u8 0, .lit .u8 0, .lit .u8 0, .lit .u8 0, .lit .u8 0, .lit .u8 0, .lit .u8 0, .lit .u8 0, .lit .u8 0, .lit .u8 0, .lit .u8 0, .lit .u8 0, .lit .u8 0, .lit .u8 0, .lit .u8 0, .lit .u8 0, .lit .u8 0], [.int .u8, .int .u8, .int .u8, .int .u8, .int .u8, .int .u8, .int .u8, .int .u8, .int .u8, .int .u8, .int .u8, .int .u8, .int .u8, .int .u8, .int .u8, .int .u8, .int .u8, .int .u8, .int .u8, .int .u8, .int .u8, .int .u8, .int .u8, .int .u8, .int .u8, .int .u8, .int .u8, .int .u8, .int .u8, .int .u8, .int .u8, .int .u8, .int .u8, .int .u8, .int .u8, .int .u8, .int .u8, .int .u8, .int .u8, .int .u8, .int .u8, .int .u8, .int .u8, .int .u8, .int .u8, .int .u8, .int .u8, .int .u8, .int .u8, .int .u8, .int .u8, .int .u8, .int .u8, .int .u8, .int .u8, .int .u8, .int .u8, .int .u8, .int .u8, .int .u8, .int .u8, .int .u8, .int .u8, .int .u8]⟩),
 (93, ⟨129, 129, true, .struct [(0, 64), (64, 64), (128, 1)], [.lit .u8 0, .lit .u8 0, .lit .u8 0, .lit .u8 0, .lit .u8 0, .lit .u8 0, .lit .u8 0, .lit .u8 0, .lit .u8 0, .lit .u8 0, .lit .u8 0, .lit .u8 0, .lit .u8 0, .lit .u8 0, .lit .u8 0, .lit .u8 0, .lit .u8 0, .lit .u8 0, .lit .u8 0, .lit .u8 0, .lit .u8 0, .lit .u8 0, .lit .u8 0, .lit .u8 0, .lit .u8 0, .lit .u8 0, .lit .u8 0, .lit .u8 0, .lit .u8 0, .lit .u8 0, .lit .u8 0, .lit .u8 0, .lit .u8 0, .lit .u8 0, .lit .u8 0, .lit .u8 0, .lit .u8 0, .lit .u8 0, .lit .u8 0, .lit .u8 0, .lit .u8 0, .lit .u8 0, .lit .u8 0, .lit .u8 0, .lit .u8 0, .lit .u8 0, .lit .u8 0, .lit .u8 0, .lit .u8 0, .lit .u8 0, .lit .u8 0, .lit .u8 0, .lit .u8 0, .lit .u8 0, .lit .u8 0, .lit .u8 0, .lit .u8 0, .lit .u8 0, .lit .u8 0, .lit .u8 0, .lit .u8 0, .lit .u8 0, .lit .u8 0, .lit .u8 0, .lit .u8 0, .lit .u8 0, .lit .u8 0, .lit .u8 0, .lit .u8 0, .lit .u8 0, .lit .u8 0, .lit .u8 0, .lit .u8 0, .lit .u8 0, .lit .u8 0, .lit .u8 0, .lit .u8 0, .lit .u8 0, .lit .u8 0, .lit .u8 0, .lit .u8 0, .lit .u8 0, .lit .u8 0, .lit .u8 0, .lit .u8 0, .lit .u8 0, .lit .u8 0, .lit .u8 0, .lit .u8 0, .lit .u8 0, .lit .u8 0, .lit .u8 0, .lit .u8 0, .lit .u8 0, .lit .u8 0, .lit .u8 0, .lit .u8 0, .lit .u8 0, .lit .u8 0, .lit .u8 0, .lit .u8 0, .lit .u8 0, .lit .u8 0, .lit .u8 0, .lit .u8 0, .lit .u8 0, .lit .u8 0, .lit .u8 0, .lit .u8 0, .lit .u8 0, .lit .u8 0, .lit .u8 0, .lit .u8 0, .lit .u8 0, .lit .u8 0, .lit .u8 0, .lit .u8 0, .lit .u8 0, .lit .u8 0, .lit .u8 0, .lit .u8 0, .lit .u8 0, .lit .u8 0, .lit .u8 0, .lit .u8 0, .lit .u8 0, .lit .u8 0, .lit .u8 0, .ff], [.int .u8, .int .u8, .int .u8, .int .u8, .int .u8, .int .u8, .int .u8, .int .u8, .int .u8, .int .u8, .int .u8, .int .u8, .int .u8, .int .u8, .int .u8, .int .u8, .int .u8, .int .u8, .int .u8, .int .u8, .int .u8, .int .u8, .int .u8, .int .u8, .int .u8, .int .u8, .int .u8, .int .u8, .int .u8, .int .u8, .int .u8, .int .u8, .int .u8, .int .u8, .int .u8, .int .u8, .int .u8, .int .u8, .int .u8, .int .u8, .int .u8, .int .u8, .int .u8, .int .u8, .int .u8, .int .u8, .int .u8, .int .u8, .int .u8, .int .u8, .int .u8, .int .u8, .int .u8, .int .u8, .int .u8, .int .u8, .int .u8, .int .u8, .int .u8, .int .u8, .int .u8, .int .u8, .int .u8, .int .u8, .int .u8, .int .u8, .int .u8, .int .u8, .int .u8, .int .u8, .int .u8, .int .u8, .int .u8, .int .u8, .int .u8, .int .u8, .int .u8, .int .u8, .int .u8, .int .u8, .int .u8, .int .u8, .int .u8, .int .u8, .int .u8, .int .u8, .int .u8, .int .u8, .int .u8, .int .u8, .int .u8, .int .u8, .int .u8, .int .u8, .int .u8, .int .u8, .int .u8, .int .u8, .int .u8, .int .u8, .int .u8, .int .u8, .int .u8, .int .u8, .int .u8, .int .u8, .int .u8, .int .u8, .int .u8, .int .u8, .int .u8, .int .u8, .int .u8, .int .u8, .int .u8, .int .u8, .int .u8, .int .u8, .int .u8, .int .u8, .int .u8, .int .u8, .int .u8, .int .u8, .int .u8, .int .u8, .int .u8, .int .u8, .bool]⟩),
 (98, ⟨1, 24, false, .slc 101, [.snil], [.other]⟩),
 (100, ⟨7, 72, true, .struct [(0, 1), (1, 1), (2, 1), (3, 1), (4, 1), (5, 1), (6, 1)], [.nil, .lit .i64 0, .lit .i64 0, .snil, .lit .i64 0, .lit .i64 0, .ff], [.other, .int .i64, .int .i64, .other, .int .i64, .int .i64, .bool]⟩),
 (101, ⟨1, 8, false, .ptr, [.nil], [.other]⟩),
 (105, ⟨5, 72, true, .struct [(0, 1), (1, 1), (2, 1), (3, 1), (4, 1)], [.lit .i64 0, .lit .i64 0, .lit .i64 0, .snil, .snil], [.int .i64, .int .i64, .int .i64, .other, .other]⟩),
 (106, ⟨1, 8, false, .func, [.val .nilFunc], [.other]⟩),
 (108, ⟨1, 8, false, .func, [.val .nilFunc], [.other]⟩),
 (109, ⟨1, 24, false, .slc 118, [.snil], [.other]⟩),
 (111, ⟨3, 40, true, .struct [(0, 1), (1, 1), (2, 1)], [.snil, .lit .i64 0, .lit .i64 0], [.other, .int .i64, .int .i64]⟩),
 (118, ⟨4, 32, true, .struct [(0, 1), (1, 1), (2, 1), (3, 1)], [.str ⟨#[]⟩, .lit .i64 0, .ff, .ff], [.str, .int .i64, .bool, .bool]⟩),
 (133, ⟨1, 8, false, .int .u64, [.lit .u64 0], [.int .u64]⟩),
 (139, ⟨1, 8, false, .ptr, [.nil], [.other]⟩),
 (141, ⟨8, 8, true, .arr 8 5, [.lit .u8 0, .lit .u8 0, .lit .u8 0, .lit .u8 0, .lit .u8 0, .lit .u8 0, .lit .u8 0, .lit .u8 0], [.int .u8, .int .u8, .int .u8, .int .u8, .int .u8, .int .u8, .int .u8, .int .u8]⟩),
 (144, ⟨1, 24, false, .slc 2, [.snil], [.other]⟩),
 (149, ⟨1, 8, false, .func, [.val .nilFunc], [.other]⟩),
 (151, ⟨1, 4, false, .int .u32, [.lit .u32 0], [.int .u32]⟩),
 (154, ⟨1, 8, false, .int .i64, [.lit .i64 0], [.int .i64]⟩),
 (164, ⟨1, 24, false, .slc 139, [.snil], [.other]⟩),
 (173, ⟨1, 24, false, .slc 74, [.snil], [.other]⟩),
 (174, ⟨1, 8, false, .int .u64, [.lit .u64 0], [.int .u64]⟩),
 (178, ⟨1, 8, false, .ptr, [.nil], [.other]⟩),
 (182, ⟨1, 8, false, .ptr, [.nil], [.other]⟩)]
def T : List (Nat × TI) := [(2, ⟨1, 8, false, .int .i64, [.lit .i64 0], [.int .i64]⟩),
 (3, ⟨1, 8, false, .int .i64, [.lit .i64 0], [.int .i64]⟩),
 (4, ⟨1, 1, false, .bool, [.ff], [.bool]⟩),
 (5, ⟨1, 1, false, .int .u8, [.lit .u8 0], [.int .u8]⟩),
 (9, ⟨1, 16, false, .str, [.str ⟨#[]⟩], [.str]⟩),
 (22, ⟨1, 24, false, .slc 38, [.snil], [.deep]⟩),
 (24, ⟨1, 8, false, .ptr, [.nil], [.deep]⟩),
 (25, ⟨1, 8, false, .int .i64, [.lit .i64 0], [.int .i64]⟩),
 (28, ⟨1, 8, false, .ptr, [.nil], [.deep]⟩),
 (30, ⟨1, 8, false, .ptr, [.nil], [.deep]⟩),
 (31, ⟨1, 24, false, .slc 50, [.snil], [.deep]⟩),
 (33, ⟨2, 32, true, .struct [(0, 1), (1, 1)], [.snil, .lit .i64 0], [.deep, .int .i64]⟩),
 (35, ⟨4, 48, true, .struct [(0, 1), (1, 1), (2, 1), (3, 1)], [.str ⟨#[]⟩, .str ⟨#[]⟩, .lit .i64 0, .ff], [.str, .str, .int .i64, .bool]⟩),
 (36, ⟨1, 24, false, .slc 4, [.snil], [.deep]⟩),
 (38, ⟨7, 88, true, .struct [(0, 1), (1, 4), (5, 1), (6, 1)], [.lit .i64 0, .str ⟨#[]⟩, .str ⟨#[]⟩, .lit .i64 0, .ff, .lit .i64 0, .snil], [.int .i64, .str, .str, .int .i64, .bool, .int .i64, .deep]⟩),
 (46, ⟨1, 24, false, .slc 9, [.snil], [.deep]⟩),
 (50, ⟨6, 64, true, .struct [(0, 4), (4, 1), (5, 1)], [.str ⟨#[]⟩, .str ⟨#[]⟩, .lit .i64 0, .ff, .lit .i64 0, .lit .i64 0], [.str, .str, .int .i64, .bool, .int .i64, .int .i64]⟩),
 (55, ⟨1, 24, false, .slc 35, [.snil], [.deep]⟩),
 (56, ⟨1, 8, false, .int .u64, [.lit .u64 0], [.int .u64]⟩),
 (65, ⟨1, 8, false, .ptr, [.nil], [.deep]⟩),
 (68, ⟨1, 8, false, .ptr, [.nil], [.deep]⟩),
 (71, ⟨2, 16, true, .struct [(0, 1), (1, 1)], [.nil, .nil], [.deep, .deep]⟩),
 (72, ⟨1, 24, false, .slc 76, [.snil], [.deep]⟩),
 (74, ⟨1, 24, false, .slc 5, [.snil], [.deep]⟩),
 (76, ⟨2, 32, true, .struct [(0, 1), (1, 1)], [.lit .i64 0, .snil], [.int .i64, .deep]⟩),
 (79, ⟨1, 24, false, .slc 93, [.snil], [.deep]⟩),
 (81, ⟨2, 32, true, .struct [(0, 1), (1, 1)], [.snil, .lit .i64 0], [.deep, .int .i64]⟩),
 (91, ⟨64, 64, true, .arr 64 5, [.lit .u8 0, .lit .u8 0, .lit .u8 0, .lit .u8 0, .lit .u8 0, .lit .u8 0, .lit .u8 0, .lit .u8 0, .lit .u8 0, .lit .u8 0, .lit .u8 0, .lit .u8 0, .lit .u8 0, .lit .u8 0, .lit .u8 0, .lit .u8 0, .lit .u8 0, .lit .u8 0, .lit .u8 0, .lit .u8 0, .lit .u8 0, .lit .u8 0, .lit .u8 0, .lit .u8 0, .lit .u8 0, .lit .u8 0, .lit .u8 0, .lit .u8 0, .lit .u8 0, .lit .u8 0, .lit .u8 0, .lit .u8 0, .lit .u8 0, .lit .u8 0, .lit .u8 0, .lit .u8 0, .lit .u8 0, .lit .u8 0, .lit .u8 0, .lit .u8 0, .lit .u8 0, .lit .u8 0, .lit .u8 0, .lit .u8 0, .lit .u8 0, .lit .u8 0, .lit .u8 0, .lit .u8 0, .lit .u8 0, .lit .u8 0, .lit .u8 0, .lit .u8 0, .lit .u8 0, .lit .u8 0, .lit .u8 0, .lit .u8 0, .lit .u8 0, .lit .u8 0, .lit .u8 0, .lit .u8 0, .lit .u8 0, .lit .u8 0, .lit .u8 0, .lit .u8 0], [.int .u8, .int .u8, .int .u8, .int .u8, .int .u8, .int .u8, .int .u8, .int .u8, .int .u8, .int .u8, .int .u8, .int .u8, .int .u8, .int .u8, .int .u8, .int .u8, .int .u8, .int .u8, .int .u8, .int .u8, .int .u8, .int .u8, .int .u8, .int .u8, .int .u8, .int .u8, .int .u8, .int .u8, .int .u8, .int .u8, .int .u8, .int .u8, .int .u8, .int .u8, .int .u8, .int .u8, .int .u8, .int .u8, .int .u8, .int .u8, .int .u8, .int .u8, .int .u8, .int .u8, .int .u8, .int .u8, .int .u8, .int .u8, .int .u8, .int .u8, .int .u8, .int .u8, .int .u8, .int .u8, .int .u8, .int .u8, .int .u8, .int .u8, .int .u8, .int .u8, .int .u8, .int .u8, .int .u8, .int .u8]⟩),
 (93, ⟨129, 129, true, .struct [(0, 64), (64, 64), (128, 1)], [.lit .u8 0, .lit .u8 0, .lit .u8 0, .lit .u8 0, .lit .u8 0, .lit .u8 0, .lit .u8 0, .lit .u8 0, .lit .u8 0, .lit .u8 0, .lit .u8 0, .lit .u8 0, .lit .u8 0, .lit .u8 0, .lit .u8 0, .lit .u8 0, .lit .u8 0, .lit .u8 0, .lit .u8 0, .lit .u8 0, .lit .u8 0, .lit .u8 0, .lit .u8 0, .lit .u8 0, .lit .u8 0, .lit .u8 0, .lit .u8 0, .lit .u8 0, .lit .u8 0, .lit .u8 0, .lit .u8 0, .lit .u8 0, .lit .u8 0, .lit .u8 0, .lit .u8 0, .lit .u8 0, .lit .u8 0, .lit .u8 0, .lit .u8 0, .lit .u8 0, .lit .u8 0, .lit .u8 0, .lit .u8 0, .lit .u8 0, .lit .u8 0, .lit .u8 0, .lit .u8 0, .lit .u8 0, .lit .u8 0, .lit .u8 0, .lit .u8 0, .lit .u8 0, .lit .u8 0, .lit .u8 0, .lit .u8 0, .lit .u8 0, .lit .u8 0, .lit .u8 0, .lit .u8 0, .lit .u8 0, .lit .u8 0, .lit .u8 0, .lit .u8 0, .lit .u8 0, .lit .u8 0, .lit .u8 0, .lit .u8 0, .lit .u8 0, .lit .u8 0, .lit .u8 0, .lit .u8 0, .lit .u8 0, .lit .u8 0, .lit .u8 0, .lit .u8 0, .lit .u8 0, .lit .u8 0, .lit .u8 0, .lit .u8 0, .lit .u8 0, .lit .u8 0, .lit .u8 0, .lit .u8 0, .lit .u8 0, .lit .u8 0, .lit .u8 0, .lit .u8 0, .lit .u8 0, .lit .u8 0, .lit .u8 0, .lit .u8 0, .lit .u8 0, .lit .u8 0, .lit .u8 0, .lit .u8 0, .lit .u8 0, .lit .u8 0, .lit .u8 0, .lit .u8 0, .lit .u8 0, .lit .u8 0, .lit .u8 0, .lit .u8 0, .lit .u8 0, .lit .u8 0, .lit .u8 0, .lit .u8 0, .lit .u8 0, .lit .u8 0, .lit .u8 0, .lit .u8 0, .lit .u8 0, .lit .u8 0, .lit .u8 0, .lit .u8 0, .lit .u8 0, .lit .u8 0, .lit .u8 0, .lit .u8 0, .lit .u8 0, .lit .u8 0, .lit .u8 0, .lit .u8 0, .lit .u8 0, .lit .u8 0, .lit .u8 0, .lit .u8 0, .lit .u8 0, .ff], [.int .u8, .int .u8, .int .u8, .int .u8, .int .u8, .int .u8, .int .u8, .int .u8, .int .u8, .int .u8, .int .u8, .int .u8, .int .u8, .int .u8, .int .u8, .int .u8, .int .u8, .int .u8, .int .u8, .int .u8, .int .u8, .int .u8, .int .u8, .int .u8, .int .u8, .int .u8, .int .u8, .int .u8, .int .u8, .int .u8, .int .u8, .int .u8, .int .u8, .int .u8, .int .u8, .int .u8, .int .u8, .int .u8, .int .u8, .int .u8, .int .u8, .int .u8, .int .u8, .int .u8, .int .u8, .int .u8, .int .u8, .int .u8, .int .u8, .int .u8, .int .u8, .int .u8, .int .u8, .int .u8, .int .u8, .int .u8, .int .u8, .int .u8, .int .u8, .int .u8, .int .u8, .int .u8, .int .u8, .int .u8, .int .u8, .int .u8, .int .u8, .int .u8, .int .u8, .int .u8, .int .u8, .int .u8, .int .u8, .int .u8, .int .u8, .int .u8, .int .u8, .int .u8, .int .u8, .int .u8, .int .u8, .int .u8, .int .u8, .int .u8, .int .u8, .int .u8, .int .u8, .int .u8, .int .u8, .int .u8, .int .u8, .int .u8, .int .u8, .int .u8, .int .u8, .int .u8, .int .u8, .int .u8, .int .u8, .int .u8, .int .u8, .int .u8, .int .u8, .int .u8, .int .u8, .int .u8, .int .u8, .int .u8, .int .u8, .int .u8, .int .u8, .int .u8, .int .u8, .int .u8, .int .u8, .int .u8, .int .u8, .int .u8, .int .u8, .int .u8, .int .u8, .int .u8, .int .u8, .int .u8, .int .u8, .int .u8, .int .u8, .int .u8, .bool]⟩),
 (98, ⟨1, 24, false, .slc 101, [.snil], [.deep]⟩),
 (100, ⟨7, 72, true, .struct [(0, 1), (1, 1), (2, 1), (3, 1), (4, 1), (5, 1), (6, 1)], [.nil, .lit .i64 0, .lit .i64 0, .snil, .lit .i64 0, .lit .i64 0, .ff], [.deep, .int .i64, .int .i64, .deep, .int .i64, .int .i64, .bool]⟩),
 (101, ⟨1, 8, false, .ptr, [.nil], [.deep]⟩),
 (105, ⟨5, 72, true, .struct [(0, 1), (1, 1), (2, 1), (3, 1), (4, 1)], [.lit .i64 0, .lit .i64 0, .lit .i64 0, .snil, .snil], [.int .i64, .int .i64, .int .i64, .deep, .deep]⟩),
 (106, ⟨1, 8, false, .func, [.val .nilFunc], [.other]⟩),
 (108, ⟨1, 8, false, .func, [.val .nilFunc], [.other]⟩),
 (109, ⟨1, 24, false, .slc 118, [.snil], [.deep]⟩),
 (111, ⟨3, 40, true, .struct [(0, 1), (1, 1), (2, 1)], [.snil, .lit .i64 0, .lit .i64 0], [.deep, .int .i64, .int .i64]⟩),
 (118, ⟨4, 32, true, .struct [(0, 1), (1, 1), (2, 1), (3, 1)], [.str ⟨#[]⟩, .lit .i64 0, .ff, .ff], [.str, .int .i64, .bool, .bool]⟩),
 (133, ⟨1, 8, false, .int .u64, [.lit .u64 0], [.int .u64]⟩),
 (139, ⟨1, 8, false, .ptr, [.nil], [.deep]⟩),
 (141, ⟨8, 8, true, .arr 8 5, [.lit .u8 0, .lit .u8 0, .lit .u8 0, .lit .u8 0, .lit .u8 0, .lit .u8 0, .lit .u8 0, .lit .u8 0], [.int .u8, .int .u8, .int .u8, .int .u8, .int .u8, .int .u8, .int .u8, .int .u8]⟩),
 (144, ⟨1, 24, false, .slc 2, [.snil], [.deep]⟩),
 (149, ⟨1, 8, false, .func, [.val .nilFunc], [.other]⟩),
 (151, ⟨1, 4, false, .int .u32, [.lit .u32 0], [.int .u32]⟩),
 (154, ⟨1, 8, false, .int .i64, [.lit .i64 0], [.int .i64]⟩),
 (164, ⟨1, 24, false, .slc 139, [.snil], [.deep]⟩),
 (173, ⟨1, 24, false, .slc 74, [.snil], [.deep]⟩),
 (174, ⟨1, 8, false, .int .u64, [.lit .u64 0], [.int .u64]⟩),
 (178, ⟨1, 8, false, .ptr, [.nil], [.deep]⟩),
 (182, ⟨1, 8, false, .ptr, [.nil], [.deep]⟩)]
def ids : List Nat := [3, 4, 5, 6, 7, 9, 8, 10, 11, 12, 13, 14, 15, 16, 17, 18, 19, 20, 21, 22, 23, 24, 25, 26, 27, 28, 29, 30, 31, 32, 33, 34, 36, 35, 37, 38, 39, 40, 41, 42, 43, 44, 45, 46, 47, 48, 49, 50, 51, 52, 54, 53, 55, 56, 57, 58, 63, 62, 59, 61, 60, 64, 65, 66, 67, 68, 69, 70, 71, 72, 74, 73, 75, 76, 77, 78, 83, 79, 80, 81, 82, 84, 85, 86, 87, 88, 97, 98, 89, 90, 91, 92, 93, 94, 95, 96, 99, 100, 102, 101, 103, 104, 105, 106, 107, 108, 109, 110, 111, 112, 113, 114, 115, 116, 117, 118, 119, 120, 121, 122]
def I : List (Nat × List Nat) := [(3, [0, 1, 4, 5, 6, 7, 8, 9, 10, 11, 12, 15, 30, 40, 61, 62, 70, 71, 76, 90, 91, 98, 102, 103, 113, 158]), (4, [0, 1, 4, 5, 6, 7, 8, 9, 10, 11, 14, 25, 33, 36, 63, 72]), (5, [0, 1, 2, 3, 8, 9, 10, 11, 12, 13, 14, 15, 16, 17, 18, 21, 38, 44, 53, 68, 85, 104, 140, 143]), (6, [0, 1, 3, 5]), (7, [0, 1, 2, 3, 4, 5, 6, 8, 9, 10, 11, 12, 13, 25]), (9, [0, 2]), (8, [0, 1, 2, 6, 7, 8, 9, 10, 12, 13, 14, 23, 30, 31, 32, 33, 42, 58, 71]), (10, [0, 1, 2]), (11, [0, 1, 2]), (12, [0, 1, 3, 4, 5, 6, 7, 10, 29]), (13, [0, 1, 3]), (14, [0, 2]), (15, [0, 1, 4, 6, 8, 10, 12, 13, 14, 15, 16, 21, 23, 24, 25, 26, 41]), (16, [0, 2, 4]), (17, [0, 2, 4, 6, 14]), (18, [0, 2, 4]), (19, [0, 1, 2, 3, 4, 10, 11, 12, 13, 14, 15, 42, 51]), (20, [0, 2]), (21, [0, 1, 4, 5, 6, 7, 8, 9, 11, 21, 22, 23, 24, 31, 41]), (22, [0, 1, 4, 5, 6, 15]), (23, [0, 2, 3, 4, 5, 9, 18]), (24, [0, 1, 2, 3, 4, 10, 11, 13, 14, 15, 16, 18, 19, 20, 21, 27, 43, 50]), (25, [0, 1, 4, 5, 10, 14, 26]), (26, [0, 1, 2, 6, 7, 8, 9, 11, 26]), (27, [0, 1, 4, 8]), (28, [0, 1, 2, 5, 6, 7, 8, 9, 10, 11, 12, 13, 14, 17, 42, 43, 44, 50, 73, 105]), (29, [0]), (30, [0, 2, 3, 5, 7, 9, 13, 14, 15, 16, 22, 23, 24, 25]), (31, [0, 2, 3, 4, 5, 14, 28]), (32, [0, 1, 4, 5, 8, 16]), (33, [0, 1, 2, 6, 7, 8, 9, 11, 22, 32, 58]), (34, [0, 1, 2, 22]), (36, [0, 2, 3, 5, 6, 7, 8, 9, 10, 15, 17]), (35, [0, 1, 4, 5, 6, 7]), (37, [0, 1, 2]), (38, [0, 2]), (39, [0, 2, 4]), (40, [0, 2, 3, 5, 7, 11, 12, 13, 14, 18]), (41, [0, 1, 2, 6, 7, 8, 9, 13, 30]), (42, [0, 1, 2, 4]), (43, [0, 1, 4, 5, 6, 21]), (44, [0, 1, 2, 3, 4]), (45, [0, 2]), (46, [0, 2, 3, 5, 6, 7, 8, 9, 10, 14, 15, 16]), (47, [0, 1, 4, 5, 6, 7, 8, 9, 20, 32]), (48, [0, 1, 2, 4]), (49, [0, 2, 4]), (50, [0, 1, 4, 5, 6, 7, 8, 9, 12, 13, 33, 59, 82]), (51, [0, 1, 4]), (52, [0, 1, 4]), (54, [0, 1, 2, 4]), (53, [0, 1, 4, 5, 6, 7, 12, 19, 29]), (55, [0, 2, 4]), (56, [0, 2, 3, 4, 5, 6, 7, 8, 9, 10, 11, 12, 13, 14, 18, 28, 40, 55, 83]), (57, [0, 1, 4, 5, 6, 7, 8, 24, 25, 26, 34, 45, 61]), (58, [0, 2, 4, 19, 20, 21, 22, 26]), (63, [0, 1, 4, 6, 7, 8, 9, 10]), (62, [0, 1, 4, 6, 7, 8, 9, 10]), (59, [0, 1, 4, 5, 6, 7, 8, 9, 10, 11, 12, 13, 16, 49, 53, 95, 96, 112, 118, 147]), (61, [0, 2, 4, 6, 10, 11, 12, 13, 21]), (60, [0, 1, 4, 5, 6, 7, 9, 13, 14, 15, 16, 27]), (64, [0, 2, 3, 5, 10, 11, 12]), (65, [0, 2]), (66, [0, 2]), (67, [0, 1, 4, 5, 6, 9, 17]), (68, [0, 1, 4, 5, 7, 8, 9, 11, 15, 16, 17, 18, 30]), (69, [0, 1, 4, 5, 6, 11]), (70, [0, 2, 3, 5, 6, 7, 8, 9]), (71, [0, 1, 2, 6, 7, 8, 12, 87]), (72, [0, 2, 3, 4, 12, 51]), (74, [0, 2]), (73, [0, 1, 2, 3, 4, 10, 11, 12, 13, 14, 15, 16, 17, 18, 19, 20, 25, 32, 39, 56, 75, 80, 97, 125]), (75, [0, 1, 4, 5, 7, 8, 9, 16]), (76, [0, 2, 3, 4, 5, 6, 7, 14, 18, 25]), (77, [0, 1, 4, 5, 6, 8, 9, 10, 11, 12, 13, 14, 15, 27, 30]), (78, [0, 1, 4]), (83, [0, 1, 4, 5, 10, 14]), (79, [0, 1, 2, 3, 4, 5, 18, 38]), (80, [0, 1, 4, 6, 7, 8]), (81, [0, 2]), (82, [0, 1, 2, 6, 7]), (84, [0, 1, 2, 3, 8, 9, 10, 11, 12, 13, 14, 15, 16, 17, 18, 23, 29, 35, 50, 68, 72, 87, 113]), (85, [0, 1, 2, 6, 7, 8, 9, 10, 11, 17, 31]), (86, [0, 1, 2, 4]), (87, [0, 1, 4, 5, 8]), (88, [0, 2, 3, 5, 7, 8, 9, 10, 11, 14, 15, 16, 17, 24, 25]), (97, [0, 2, 4, 8]), (98, [0, 2, 4, 8, 14]), (89, [0, 1, 2, 3, 8, 9, 14, 34]), (90, [0, 1, 2, 3, 8, 9, 10, 11, 12, 21, 33]), (91, [0, 1, 2, 8, 9, 10, 11, 12, 17, 35, 45]), (92, [0, 1, 2, 3, 8, 9, 10, 11, 12, 13, 14, 34, 36, 55, 57, 60]), (93, [0, 1, 2, 8, 9, 15]), (94, [0, 1, 2, 3, 8, 9, 10, 11, 12, 16, 36, 41, 45, 65, 69, 84, 104, 109, 124]), (95, [0, 1, 2, 3, 4, 10, 11, 12, 47, 65, 70]), (96, [0, 1, 2, 3, 4, 10, 11, 12, 13, 47, 66, 71, 120, 139, 144]), (99, [0, 2, 3, 4, 5, 6, 7, 8, 9, 10, 11, 12, 21, 31, 37, 43]), (100, [0, 1, 2, 4]), (102, [0, 1, 2, 6, 7, 8, 30]), (101, [0, 1, 2, 6, 7, 12, 16]), (103, [0, 1, 2, 6, 7, 12, 30]), (104, [0, 1, 2, 6, 7, 8, 9, 10, 19, 30]), (105, [0, 1, 2, 6, 7, 8, 9, 10, 15, 33, 43]), (106, [0, 1, 2, 6, 7, 8, 9, 10, 11, 12, 32, 34, 49, 51, 54]), (107, [0, 1, 2, 6, 7, 13]), (108, [0, 1, 2, 6, 7, 8, 9, 10, 14, 32, 37, 41, 61, 65, 78, 98, 103, 116]), (109, [0, 1, 4]), (110, [0, 1, 2, 3, 8, 9, 10, 43, 59, 64]), (111, [0, 1, 2, 3, 8, 9, 10, 11, 43, 60, 65, 112, 129, 134]), (112, [0, 1, 2, 3, 4, 10, 11, 18, 40, 58]), (113, [0, 2]), (114, [0, 2]), (115, [0, 1, 2, 3, 8]), (116, [0, 1, 2, 3, 4, 5, 12]), (117, [0, 1, 2, 3, 8, 9, 16, 36, 52]), (118, [0, 1, 2, 6]), (119, [0, 1, 2, 3, 4, 10]), (120, [0, 2]), (121, [0, 1, 2, 3, 4, 10, 11, 22]), (122, [0, 1, 2, 3, 8, 9, 18])]
def R : List (Nat × List (Nat × RG)) := [(3, [(34, ⟨[(0, false), (1, false), (2, false), (3, false), (4, false), (5, false), (6, false), (7, false), (8, true), (9, false), (10, false), (11, false), (12, false), (13, false), (14, false), (15, false), (16, false), (17, false), (18, false), (19, false), (20, false), (21, false), (22, false), (23, false), (24, false), (25, false), (26, false), (27, false), (28, false), (29, false), (30, false), (31, false), (32, false), (33, false), (34, false), (35, false), (36, false), (37, false), (38, true), (39, false), (40, false), (41, false)], [(41, 2199023255551), (40, 1099511627775), (39, 549755813887), (38, 274877906943), (37, 262143), (36, 34360000511), (35, 262143), (34, 17179082751), (33, 8589148159), (32, 4294180863), (31, 2146697215), (30, 1057226751), (29, 503578623), (28, 235143167), (27, 100925439), (26, 33816575), (25, 262143), (24, 262143), (23, 7602175), (22, 3407871), (21, 1310719), (20, 262143), (19, 262143), (18, 262143), (17, 131071), (16, 65535), (15, 32767), (14, 16383), (13, 8191), (12, 4095), (11, 2047), (10, 1023), (9, 511), (8, 255), (7, 0), (6, 32), (5, 0), (4, 12), (3, 4), (2, 0), (1, 0), (0, 0)], 0, none⟩)]),
 (4, []),
 (5, [(16, ⟨[(0, false), (1, false), (2, false), (3, false), (4, false), (5, false), (6, false), (7, false), (8, false), (9, false), (10, false), (11, false), (12, false), (13, false), (14, false), (15, false), (16, false)], [(16, 65535), (15, 32767), (14, 15391), (13, 7199), (12, 3103), (11, 31), (10, 31), (9, 511), (8, 255), (7, 127), (6, 31), (5, 31), (4, 15), (3, 7), (2, 2), (1, 0), (0, 0)], 0, none⟩),
  (18, ⟨[(0, false), (1, false), (2, false), (3, false), (4, false), (5, false), (6, false), (7, false), (8, false), (9, false), (10, false), (11, false), (12, false), (13, false), (14, false), (15, false), (16, false)], [(16, 65535), (15, 32767), (14, 15391), (13, 7199), (12, 3103), (11, 31), (10, 31), (9, 511), (8, 255), (7, 127), (6, 31), (5, 31), (4, 15), (3, 7), (2, 2), (1, 0), (0, 0)], 0, none⟩),
  (20, ⟨[(0, false), (1, false), (2, false), (3, false), (4, false), (5, false), (6, false), (7, false), (9, false), (10, false), (11, false), (8, true), (12, true), (13, true), (14, false)], [(14, 16383), (13, 8191), (12, 4080), (8, 240), (11, 1536), (10, 0), (9, 0), (7, 112), (6, 48), (5, 0), (4, 0), (3, 7), (2, 0), (1, 0), (0, 0)], 0, none⟩)]),
 (6, []),
 (7, []),
 (9, []),
 (8, [(12, ⟨[(0, false), (1, false), (2, false), (3, false), (4, false), (5, false), (6, true)], [(6, 63), (5, 16), (4, 0), (3, 7), (2, 3), (1, 1), (0, 0)], 0, none⟩),
  (14, ⟨[(0, false), (1, false), (2, false), (3, false), (4, false), (5, false), (6, false), (7, false), (8, true)], [(8, 255), (7, 64), (6, 0), (5, 16), (4, 0), (3, 7), (2, 3), (1, 1), (0, 0)], 0, none⟩)]),
 (10, [(1, ⟨[(0, false), (1, false), (3, false), (4, false), (2, true), (6, false), (5, true), (7, true), (8, false), (9, true)], [(9, 511), (8, 255), (7, 127), (5, 31), (6, 31), (2, 3), (4, 8), (3, 0), (1, 1), (0, 0)], 0, none⟩)]),
 (11, []),
 (12, [(7, ⟨[(0, false), (1, false), (2, false), (3, false), (4, false), (5, false), (6, false), (7, true)], [(7, 127), (6, 0), (5, 16), (4, 0), (3, 7), (2, 3), (1, 1), (0, 0)], 0, none⟩)]),
 (13, [(1, ⟨[(0, false), (1, false), (2, false), (3, false), (4, false), (5, false), (6, false), (8, false), (9, false), (10, false), (11, false), (12, false), (7, true), (13, false), (14, true), (15, true), (16, false), (17, false), (18, true)], [(18, 262143), (17, 131071), (16, 65535), (15, 32766), (14, 16352), (13, 8160), (7, 64), (12, 3840), (11, 1792), (10, 768), (9, 256), (8, 0), (6, 0), (5, 0), (4, 14), (3, 6), (2, 2), (1, 0), (0, 0)], 0, none⟩)]),
 (14, []),
 (15, []),
 (16, []),
 (17, []),
 (18, []),
 (19, []),
 (20, []),
 (21, [(13, ⟨[(0, false), (1, false), (2, false), (3, false), (4, false), (5, false), (6, false), (7, false), (8, false), (9, true)], [(9, 511), (8, 255), (7, 96), (6, 0), (5, 0), (4, 0), (3, 7), (2, 3), (1, 1), (0, 0)], 0, none⟩)]),
 (22, []),
 (23, []),
 (24, []),
 (25, [(6, ⟨[(0, false), (1, false), (2, false), (3, false), (4, false), (5, false), (6, false), (7, false), (8, true), (9, false)], [(9, 511), (8, 255), (7, 112), (6, 48), (5, 0), (4, 0), (3, 7), (2, 3), (1, 0), (0, 0)], 0, none⟩)]),
 (26, []),
 (27, []),
 (28, [(3, ⟨[(0, false), (1, false), (2, false), (3, false), (4, false), (5, false), (6, false), (7, false), (8, false), (9, false), (10, false), (11, false), (12, false), (14, false), (15, false), (13, true), (16, false), (17, false), (18, false), (19, false)], [(19, 524287), (18, 262143), (17, 131071), (16, 63487), (13, 6143), (15, 18431), (14, 2047), (12, 2047), (11, 2047), (10, 1023), (9, 511), (8, 255), (7, 127), (6, 63), (5, 31), (4, 15), (3, 7), (2, 3), (1, 1), (0, 0)], 0, none⟩)]),
 (29, []),
 (30, [(10, ⟨[(0, false), (1, false), (2, false), (3, false), (4, false), (5, true), (6, false), (7, true), (8, true), (9, false)], [(9, 511), (8, 255), (7, 126), (6, 62), (5, 24), (4, 8), (3, 0), (2, 2), (1, 0), (0, 0)], 0, none⟩)]),
 (31, []),
 (32, []),
 (33, [(3, ⟨[(0, false), (1, false), (2, false), (3, false), (4, false), (5, false), (6, false), (7, false), (8, false), (9, false), (10, false)], [(10, 1023), (9, 480), (8, 224), (7, 96), (6, 32), (5, 0), (4, 15), (3, 7), (2, 3), (1, 1), (0, 0)], 0, none⟩)]),
 (34, []),
 (36, [(10, ⟨[(0, false), (1, false), (2, false), (3, false), (4, false), (7, false), (8, false), (9, false), (5, true), (6, true), (10, true), (11, true), (12, false)], [(12, 4095), (11, 2047), (10, 896), (6, 63), (5, 30), (9, 0), (8, 128), (7, 0), (4, 8), (3, 0), (2, 2), (1, 0), (0, 0)], 0, some (.two [0, 1, 2, 3, 4, 7, 8, 9] 5 (.two [] 6 (.one [(10, true), (11, true), (12, false)]) 10 (.one [(6, true), (11, true), (12, false)])) 10 (.one [(5, true), (6, true), (11, true), (12, false)]))⟩)]),
 (35, [(2, ⟨[(0, false), (1, false), (2, false), (3, false), (4, false), (5, false), (6, false), (7, false), (8, true), (9, true)], [(9, 511), (8, 240), (7, 112), (6, 48), (5, 16), (4, 0), (3, 7), (2, 3), (1, 1), (0, 0)], 0, none⟩)]),
 (37, []),
 (38, []),
 (39, []),
 (40, []),
 (41, []),
 (42, []),
 (43, []),
 (44, []),
 (45, []),
 (46, []),
 (47, []),
 (48, []),
 (49, []),
 (50, [(6, ⟨[(0, false), (1, false), (2, false), (3, false), (4, false), (5, false), (6, false), (7, false), (8, false), (9, false), (10, false), (11, false), (12, false), (13, true), (14, false), (15, false), (16, false), (17, false), (18, false)], [(18, 262143), (17, 65535), (16, 32767), (15, 32767), (14, 16383), (13, 8191), (12, 4080), (11, 0), (10, 1008), (9, 256), (8, 0), (7, 112), (6, 48), (5, 16), (4, 0), (3, 7), (2, 3), (1, 1), (0, 0)], 0, none⟩),
  (9, ⟨[(0, false), (1, false), (2, false), (3, false), (4, false), (5, false), (6, false), (7, true), (8, false), (9, false), (10, false), (11, false), (12, false), (13, true)], [(13, 8191), (12, 4095), (11, 2047), (10, 1022), (9, 480), (8, 224), (7, 96), (6, 32), (5, 0), (4, 14), (3, 6), (2, 2), (1, 0), (0, 0)], 0, none⟩),
  (14, ⟨[(0, false), (1, false), (2, false), (3, false), (4, false), (5, false), (6, false), (7, false), (8, false), (9, false), (10, false), (11, false), (12, false), (13, false), (14, false), (15, false), (16, false), (17, false), (18, false)], [(18, 262143), (17, 131071), (16, 63), (15, 32767), (14, 14399), (13, 6207), (12, 2111), (11, 63), (10, 1023), (9, 511), (8, 255), (7, 127), (6, 63), (5, 31), (4, 15), (3, 7), (2, 3), (1, 1), (0, 0)], 0, none⟩)]),
 (51, []),
 (52, [(1, ⟨[(0, false), (1, false), (2, false), (3, false), (4, false), (5, false), (6, false), (7, false), (8, false), (9, false), (10, false), (11, false)], [(11, 2047), (10, 1023), (9, 511), (8, 255), (7, 112), (6, 48), (5, 16), (4, 0), (3, 7), (2, 3), (1, 1), (0, 0)], 0, none⟩)]),
 (54, [(1, ⟨[(0, false), (1, false), (2, false), (3, false), (4, false), (5, false), (6, false), (7, false), (8, false), (9, false), (10, false), (11, false)], [(11, 2047), (10, 1023), (9, 496), (8, 0), (7, 112), (6, 48), (5, 16), (4, 0), (3, 7), (2, 3), (1, 1), (0, 0)], 0, none⟩)]),
 (53, []),
 (55, []),
 (56, []),
 (57, [(2, ⟨[(0, false), (3, false), (4, false), (5, false), (6, false), (7, false), (8, false), (1, true), (2, true), (9, false), (10, false), (11, false)], [(11, 2047), (10, 1023), (9, 511), (2, 3), (1, 1), (8, 248), (7, 120), (6, 56), (5, 24), (4, 8), (3, 0), (0, 0)], 0, none⟩)]),
 (58, []),
 (63, []),
 (62, []),
 (59, [(10, ⟨[(0, false), (1, false), (2, false), (3, false), (4, false), (5, false), (6, false), (7, false), (8, false), (9, false), (10, false), (11, false), (12, false)], [(12, 4095), (11, 2047), (10, 1023), (9, 496), (8, 240), (7, 112), (6, 48), (5, 16), (4, 0), (3, 7), (2, 3), (1, 1), (0, 0)], 0, none⟩),
  (13, ⟨[(0, false), (1, false), (2, false), (3, false), (4, false), (5, false), (6, true)], [(6, 63), (5, 30), (4, 14), (3, 6), (2, 2), (1, 0), (0, 0)], 0, none⟩),
  (15, ⟨[(0, false), (1, false), (2, false), (3, false), (4, false), (5, false), (7, false), (6, true), (8, true), (9, false), (10, false), (11, true)], [(11, 2047), (10, 1023), (9, 511), (8, 254), (6, 62), (7, 0), (5, 0), (4, 14), (3, 6), (2, 2), (1, 0), (0, 0)], 0, none⟩),
  (19, ⟨[(0, false), (1, false), (3, false), (2, true), (4, false), (5, false), (6, false), (8, false), (9, false), (10, false), (11, false), (12, false), (7, true), (13, false), (14, false)], [(14, 16383), (13, 8191), (7, 127), (12, 3903), (11, 1855), (10, 831), (9, 319), (8, 63), (6, 63), (5, 31), (4, 15), (2, 3), (3, 0), (1, 1), (0, 0)], 0, none⟩),
  (24, ⟨[(0, false), (1, false), (2, false), (3, false), (4, false), (5, false), (6, false), (7, false), (8, false), (9, false), (10, true), (11, false), (12, true), (13, true), (14, false), (15, false), (16, true)], [(16, 65535), (15, 32767), (14, 16383), (13, 8190), (12, 4064), (11, 2016), (10, 512), (9, 0), (8, 224), (7, 96), (6, 32), (5, 0), (4, 14), (3, 6), (2, 2), (1, 0), (0, 0)], 0, none⟩),
  (28, ⟨[(0, false), (1, false), (2, false), (3, false), (4, false), (5, false), (6, false), (7, false), (8, false), (9, true), (10, false), (11, false)], [(11, 2047), (10, 1023), (9, 480), (8, 224), (7, 96), (6, 32), (5, 0), (4, 15), (3, 7), (2, 3), (1, 1), (0, 0)], 0, none⟩)]),
 (61, []),
 (60, []),
 (64, [(6, ⟨[(0, false), (1, false), (2, false), (3, false), (4, false), (5, false), (6, false), (7, false), (8, false), (9, false), (10, false), (11, false), (12, false), (13, false), (14, false), (15, false), (16, false), (17, false), (18, false), (19, false), (20, true), (21, false), (22, false), (23, true)], [(23, 8388607), (22, 4194303), (21, 2097151), (20, 1048063), (19, 523775), (18, 261631), (17, 130048), (16, 64512), (15, 31744), (14, 0), (13, 7168), (12, 3072), (11, 1024), (10, 0), (9, 0), (8, 224), (7, 96), (6, 32), (5, 0), (4, 0), (3, 7), (2, 3), (1, 1), (0, 0)], 0, none⟩)]),
 (65, []),
 (66, []),
 (67, []),
 (68, []),
 (69, []),
 (70, []),
 (71, [(3, ⟨[(0, false), (1, false), (2, false), (3, false), (6, false), (7, false), (4, true), (5, false), (8, true), (9, false), (10, false), (11, false), (12, true), (13, false), (14, false), (15, true)], [(15, 32767), (14, 16383), (13, 8191), (12, 3581), (11, 1533), (10, 509), (9, 476), (8, 220), (5, 28), (4, 12), (7, 64), (6, 0), (3, 4), (2, 0), (1, 0), (0, 0)], 0, none⟩),
  (6, ⟨[(0, false), (1, false), (5, false), (6, false), (2, true), (3, true), (4, false), (7, true), (8, false), (9, false), (10, false), (11, false), (14, false), (15, false), (16, false), (17, false), (12, true), (13, false), (18, false), (19, false), (20, false), (21, false), (22, false), (23, false), (24, false), (25, false), (26, false), (27, false), (28, false), (29, false), (30, false), (31, false), (32, false), (33, false), (34, false), (35, false), (36, false), (37, false), (38, false), (39, false), (40, false), (41, false), (42, false), (43, false), (44, false), (45, false), (46, false), (47, false), (48, false), (49, false), (50, false), (51, false), (52, true), (53, false), (54, false)], [(54, 18014398509481983), (53, 9007199254740991), (52, 2322168557862911), (51, 70368744177663), (50, 1125899906842623), (49, 562949953421311), (48, 281474976710655), (47, 140737488355327), (46, 70368744177663), (45, 35184372088831), (44, 17592186044415), (43, 8796093022207), (42, 2336462209023), (41, 137438953471), (40, 1099511627775), (39, 549755813887), (38, 274877906943), (37, 137438953471), (36, 68719476735), (35, 34359738367), (34, 17179869183), (33, 536870911), (32, 4294967295), (31, 2147483647), (30, 1073741823), (29, 536870911), (28, 268435455), (27, 134217727), (26, 67108863), (25, 31457279), (24, 14680063), (23, 6291455), (22, 2097151), (21, 2097151), (20, 1048575), (19, 524287), (18, 262143), (13, 8191), (12, 4095), (17, 115711), (16, 50175), (15, 17407), (14, 1023), (11, 2047), (10, 1023), (9, 511), (8, 255), (7, 111), (4, 15), (3, 7), (2, 3), (6, 32), (5, 0), (1, 1), (0, 0)], 0, none⟩),
  (9, ⟨[(0, false), (1, false), (2, false), (3, false), (4, false), (5, false), (6, false), (7, false), (8, false), (9, false), (10, true), (11, false), (12, false), (13, true)], [(13, 8191), (12, 4095), (11, 2047), (10, 1022), (9, 480), (8, 192), (7, 64), (6, 0), (5, 0), (4, 14), (3, 6), (2, 2), (1, 0), (0, 0)], 0, none⟩)]),
 (72, [(5, ⟨[(0, false), (1, false), (2, false), (3, false), (4, false), (5, false), (6, false), (7, false), (8, false), (9, false), (10, false), (11, false), (12, false), (13, false), (14, false), (15, false), (16, false), (17, true), (18, false), (19, true), (20, true), (21, false), (22, false), (23, true)], [(23, 8388607), (22, 4194303), (21, 2097151), (20, 1048574), (19, 524256), (18, 262112), (17, 131008), (16, 65472), (15, 28672), (14, 0), (13, 4096), (12, 0), (11, 1024), (10, 0), (9, 448), (8, 192), (7, 64), (6, 0), (5, 0), (4, 14), (3, 6), (2, 2), (1, 0), (0, 0)], 0, none⟩)]),
 (74, []),
 (73, [(17, ⟨[(0, false), (1, false), (2, false), (3, false), (4, false), (5, false), (6, false), (7, false), (8, false), (9, false), (10, false), (11, false), (12, false), (13, true), (14, false), (15, false), (16, false)], [(16, 65535), (15, 32767), (14, 16383), (13, 8191), (12, 3591), (11, 1543), (10, 7), (9, 7), (8, 247), (7, 119), (6, 39), (5, 7), (4, 7), (3, 7), (2, 3), (1, 1), (0, 0)], 0, none⟩)]),
 (75, []),
 (76, []),
 (77, []),
 (78, []),
 (83, []),
 (79, [(4, ⟨[(0, false), (1, false), (2, false), (3, false), (4, false), (5, false), (6, false), (7, false), (8, false), (9, false), (10, false), (11, false), (12, false), (13, false), (14, false), (15, true)], [(15, 32767), (14, 16383), (13, 8191), (12, 4094), (11, 2046), (10, 1022), (9, 510), (8, 254), (7, 126), (6, 32), (5, 0), (4, 14), (3, 6), (2, 2), (1, 0), (0, 0)], 0, none⟩),
  (8, ⟨[(0, false), (1, false), (2, false), (3, false), (4, false), (5, false), (6, true), (7, false), (8, false), (9, true)], [(9, 511), (8, 255), (7, 127), (6, 62), (5, 0), (4, 14), (3, 6), (2, 2), (1, 0), (0, 0)], 0, none⟩),
  (9, ⟨[(0, false), (1, false), (2, false), (3, false), (4, false), (5, false), (6, true), (7, true), (8, false), (9, false), (10, true)], [(10, 1023), (9, 511), (8, 255), (7, 126), (6, 32), (5, 0), (4, 14), (3, 6), (2, 2), (1, 0), (0, 0)], 0, none⟩)]),
 (80, []),
 (81, []),
 (82, [(1, ⟨[(0, false), (1, false), (2, false), (3, false), (4, false), (5, false), (6, false), (7, false), (8, false), (9, false), (10, false)], [(10, 1023), (9, 511), (8, 224), (7, 96), (6, 32), (5, 0), (4, 15), (3, 7), (2, 3), (1, 1), (0, 0)], 0, none⟩),
  (2, ⟨[(0, false), (1, false), (2, false), (3, false), (4, false), (5, false), (6, false), (7, false), (8, false), (9, false), (10, false), (11, false), (12, false), (13, false), (14, false), (15, false), (16, false), (17, false), (18, false), (19, true), (20, true), (21, false)], [(21, 2097151), (20, 1048575), (19, 516096), (18, 229376), (17, 98304), (16, 32768), (15, 0), (14, 0), (13, 0), (12, 4080), (11, 0), (10, 1008), (9, 256), (8, 0), (7, 112), (6, 48), (5, 16), (4, 0), (3, 7), (2, 3), (1, 1), (0, 0)], 0, none⟩)]),
 (84, [(17, ⟨[(0, false), (1, false), (2, false), (3, false), (4, false), (5, false), (6, false), (7, false), (8, false), (9, false), (10, false), (11, false), (12, true), (13, false), (14, false)], [(14, 16383), (13, 8191), (12, 4095), (11, 1799), (10, 775), (9, 7), (8, 7), (7, 127), (6, 63), (5, 23), (4, 7), (3, 7), (2, 3), (1, 1), (0, 0)], 0, none⟩)]),
 (85, []),
 (86, []),
 (87, []),
 (88, []),
 (97, []),
 (98, []),
 (89, [(4, ⟨[(0, false), (1, false), (2, false), (3, false), (4, false), (5, false), (6, false), (7, false), (8, false), (9, false), (10, false), (11, false), (12, false), (13, false), (14, true), (15, false), (16, false)], [(16, 65535), (15, 32767), (14, 16383), (13, 7695), (12, 3599), (11, 1039), (10, 15), (9, 15), (8, 239), (7, 111), (6, 15), (5, 15), (4, 15), (3, 7), (2, 3), (1, 0), (0, 0)], 0, none⟩),
  (6, ⟨[(0, false), (1, false), (2, false), (3, false), (4, false), (5, false), (6, false), (7, false), (8, false), (9, false), (10, false), (11, false), (12, false), (13, false), (14, false), (15, true), (16, false), (17, true)], [(17, 131071), (16, 65535), (15, 32739), (14, 16355), (13, 7168), (12, 3072), (11, 0), (10, 0), (9, 480), (8, 224), (7, 64), (6, 0), (5, 0), (4, 8), (3, 0), (2, 0), (1, 0), (0, 0)], 0, none⟩)]),
 (90, [(10, ⟨[(0, false), (1, false), (2, false), (3, false), (4, false), (5, false), (6, false), (7, false), (8, false), (9, false), (10, false), (11, false), (12, false), (13, false), (14, false), (15, false), (16, false), (17, true), (18, false), (19, true)], [(19, 524287), (18, 262143), (17, 131011), (16, 65475), (15, 28672), (14, 12288), (13, 0), (12, 0), (11, 1984), (10, 960), (9, 384), (8, 0), (7, 0), (6, 0), (5, 24), (4, 0), (3, 0), (2, 0), (1, 0), (0, 0)], 0, none⟩)]),
 (91, [(10, ⟨[(0, false), (1, false), (2, false), (3, false), (4, false), (5, false), (6, false), (7, false), (8, false), (9, false), (10, false), (11, false), (12, false), (13, false), (14, false), (15, false), (16, false), (17, true), (18, false), (19, true)], [(19, 524287), (18, 262143), (17, 131011), (16, 65475), (15, 28672), (14, 12288), (13, 0), (12, 0), (11, 1984), (10, 960), (9, 384), (8, 0), (7, 0), (6, 0), (5, 24), (4, 0), (3, 0), (2, 0), (1, 0), (0, 0)], 0, none⟩)]),
 (92, []),
 (93, [(3, ⟨[(0, false), (1, false), (2, false), (3, false), (4, false), (5, false), (6, false), (7, false), (8, false), (9, false), (10, false), (11, false), (12, false), (13, true), (14, false), (15, true)], [(15, 32767), (14, 16383), (13, 8179), (12, 4083), (11, 1792), (10, 768), (9, 0), (8, 0), (7, 112), (6, 48), (5, 0), (4, 0), (3, 0), (2, 0), (1, 0), (0, 0)], 0, none⟩)]),
 (94, [(5, ⟨[(0, false), (1, false), (2, false), (3, false), (4, false), (5, false), (6, false), (7, false), (8, false), (9, false), (10, false), (11, false), (12, false), (13, false), (14, true), (15, false), (16, false), (17, false)], [(17, 131071), (16, 65535), (15, 32767), (14, 16383), (13, 7695), (12, 3599), (11, 1039), (10, 15), (9, 15), (8, 239), (7, 111), (6, 15), (5, 15), (4, 15), (3, 7), (2, 3), (1, 0), (0, 0)], 0, none⟩),
  (11, ⟨[(0, false), (1, false), (2, false), (3, false), (4, false), (5, false), (6, false), (7, false), (8, false), (9, false), (10, false), (11, false), (12, false), (13, false), (14, false), (15, true), (16, false), (17, true)], [(17, 131071), (16, 65535), (15, 32739), (14, 16355), (13, 7168), (12, 3072), (11, 0), (10, 0), (9, 480), (8, 224), (7, 64), (6, 0), (5, 0), (4, 8), (3, 0), (2, 0), (1, 0), (0, 0)], 0, none⟩),
  (16, ⟨[(0, false), (1, false), (2, false), (3, false), (4, false), (5, false), (6, false), (7, false), (8, false), (9, false), (10, true), (11, false), (12, false)], [(12, 4095), (11, 2047), (10, 1023), (9, 480), (8, 224), (7, 64), (6, 0), (5, 0), (4, 14), (3, 6), (2, 0), (1, 0), (0, 0)], 0, none⟩),
  (17, ⟨[(0, false), (1, false), (2, false), (3, false), (4, false), (5, false), (6, false), (7, false), (8, false), (9, false), (10, false), (11, false), (12, false), (13, false), (14, false), (15, true), (16, false), (17, true)], [(17, 131071), (16, 65535), (15, 32739), (14, 16355), (13, 7168), (12, 3072), (11, 0), (10, 0), (9, 480), (8, 224), (7, 64), (6, 0), (5, 0), (4, 8), (3, 0), (2, 0), (1, 0), (0, 0)], 0, none⟩),
  (22, ⟨[(0, false), (1, false), (2, false), (3, false), (4, false), (5, false), (6, false), (7, false), (8, false), (9, false), (10, true), (11, false), (12, false)], [(12, 4095), (11, 2047), (10, 1023), (9, 480), (8, 224), (7, 64), (6, 0), (5, 0), (4, 14), (3, 6), (2, 0), (1, 0), (0, 0)], 0, none⟩),
  (23, ⟨[(0, false), (1, false), (2, false), (3, false), (4, false), (5, false), (6, false), (7, false), (8, false), (9, false), (10, false), (11, false), (12, false), (13, false), (14, false), (15, true), (16, false), (17, true)], [(17, 131071), (16, 65535), (15, 32739), (14, 16355), (13, 7168), (12, 3072), (11, 0), (10, 0), (9, 480), (8, 224), (7, 64), (6, 0), (5, 0), (4, 8), (3, 0), (2, 0), (1, 0), (0, 0)], 0, none⟩)]),
 (95, [(1, ⟨[(0, false), (1, false), (2, false), (3, false), (4, false), (5, false), (6, false), (7, false), (8, false), (9, false), (10, false), (11, false), (12, false), (13, true), (14, false), (15, true)], [(15, 32767), (14, 16383), (13, 8179), (12, 4083), (11, 1792), (10, 768), (9, 0), (8, 0), (7, 112), (6, 48), (5, 0), (4, 0), (3, 0), (2, 0), (1, 0), (0, 0)], 0, none⟩),
  (3, ⟨[(0, false), (1, false), (2, false), (3, false), (4, false), (5, false), (6, false), (7, false), (8, false), (9, false), (10, false), (11, false), (12, false), (13, true), (14, false), (15, false), (16, false)], [(16, 65535), (15, 32767), (14, 16383), (13, 8191), (12, 3599), (11, 1551), (10, 15), (9, 15), (8, 239), (7, 111), (6, 15), (5, 15), (4, 15), (3, 7), (2, 3), (1, 0), (0, 0)], 0, none⟩),
  (5, ⟨[(0, false), (1, false), (2, false), (3, false), (4, false), (5, false), (6, false), (7, false), (8, false), (9, false), (10, false), (11, false), (12, false), (13, true), (14, false), (15, false)], [(15, 32767), (14, 16383), (13, 8191), (12, 3599), (11, 1551), (10, 15), (9, 15), (8, 239), (7, 111), (6, 15), (5, 15), (4, 15), (3, 7), (2, 3), (1, 0), (0, 0)], 0, none⟩),
  (8, ⟨[(0, false), (1, false), (2, false), (3, false), (4, false), (5, false), (6, false), (7, false), (8, false), (9, false), (10, false), (11, false), (12, false), (13, true), (14, false), (15, true)], [(15, 32767), (14, 16383), (13, 8179), (12, 4083), (11, 1792), (10, 768), (9, 0), (8, 0), (7, 112), (6, 48), (5, 0), (4, 0), (3, 0), (2, 0), (1, 0), (0, 0)], 0, none⟩)]),
 (96, [(1, ⟨[(0, false), (1, false), (2, false), (3, false), (4, false), (5, false), (6, false), (7, false), (8, false), (9, false), (10, false), (11, false), (12, false), (13, true), (14, false), (15, true)], [(15, 32767), (14, 16383), (13, 8179), (12, 4083), (11, 1792), (10, 768), (9, 0), (8, 0), (7, 112), (6, 48), (5, 0), (4, 0), (3, 0), (2, 0), (1, 0), (0, 0)], 0, none⟩),
  (3, ⟨[(0, false), (1, false), (2, false), (3, false), (4, false), (5, false), (6, false), (7, false), (8, false), (9, false), (10, false), (11, false), (12, false), (13, true), (14, false), (15, false)], [(15, 32767), (14, 16383), (13, 8191), (12, 3599), (11, 1551), (10, 15), (9, 15), (8, 239), (7, 111), (6, 15), (5, 15), (4, 15), (3, 7), (2, 3), (1, 0), (0, 0)], 0, none⟩),
  (5, ⟨[(0, false), (1, false), (2, false), (3, false), (4, false), (5, false), (6, false), (7, false), (8, false), (9, false), (10, false), (11, false), (12, false), (13, true), (14, false), (15, false), (16, false)], [(16, 65535), (15, 32767), (14, 16383), (13, 8191), (12, 3599), (11, 1551), (10, 15), (9, 15), (8, 239), (7, 111), (6, 15), (5, 15), (4, 15), (3, 7), (2, 3), (1, 0), (0, 0)], 0, none⟩),
  (8, ⟨[(0, false), (1, false), (2, false), (3, false), (4, false), (5, false), (6, false), (7, false), (8, false), (9, false), (10, false), (11, false), (12, false), (13, true), (14, false), (15, true)], [(15, 32767), (14, 16383), (13, 8179), (12, 4083), (11, 1792), (10, 768), (9, 0), (8, 0), (7, 112), (6, 48), (5, 0), (4, 0), (3, 0), (2, 0), (1, 0), (0, 0)], 0, none⟩),
  (10, ⟨[(0, false), (1, false), (2, false), (3, false), (4, false), (5, false), (6, false), (7, false), (8, false), (9, false), (10, false), (11, false), (12, false), (13, true), (14, false), (15, true)], [(15, 32767), (14, 16383), (13, 8179), (12, 4083), (11, 1792), (10, 768), (9, 0), (8, 0), (7, 112), (6, 48), (5, 0), (4, 0), (3, 0), (2, 0), (1, 0), (0, 0)], 0, none⟩),
  (13, ⟨[(0, false), (1, false), (2, false), (3, false), (4, false), (5, false), (6, false), (7, false), (8, false), (9, false), (10, false), (11, false), (12, false), (13, true), (14, false), (15, false)], [(15, 32767), (14, 16383), (13, 8191), (12, 3599), (11, 1551), (10, 15), (9, 15), (8, 239), (7, 111), (6, 15), (5, 15), (4, 15), (3, 7), (2, 3), (1, 0), (0, 0)], 0, none⟩),
  (15, ⟨[(0, false), (1, false), (2, false), (3, false), (4, false), (5, false), (6, false), (7, false), (8, false), (9, false), (10, false), (11, false), (12, false), (13, true), (14, false), (15, false), (16, false)], [(16, 65535), (15, 32767), (14, 16383), (13, 8191), (12, 3599), (11, 1551), (10, 15), (9, 15), (8, 239), (7, 111), (6, 15), (5, 15), (4, 15), (3, 7), (2, 3), (1, 0), (0, 0)], 0, none⟩),
  (18, ⟨[(0, false), (1, false), (2, false), (3, false), (4, false), (5, false), (6, false), (7, false), (8, false), (9, false), (10, false), (11, false), (12, false), (13, true), (14, false), (15, true)], [(15, 32767), (14, 16383), (13, 8179), (12, 4083), (11, 1792), (10, 768), (9, 0), (8, 0), (7, 112), (6, 48), (5, 0), (4, 0), (3, 0), (2, 0), (1, 0), (0, 0)], 0, none⟩),
  (21, ⟨[(0, false), (1, false), (2, false), (3, false), (4, false), (5, false), (6, false), (7, false), (8, false), (9, false), (10, false), (11, false), (12, false), (13, true), (14, false), (15, true)], [(15, 32767), (14, 16383), (13, 8179), (12, 4083), (11, 1792), (10, 768), (9, 0), (8, 0), (7, 112), (6, 48), (5, 0), (4, 0), (3, 0), (2, 0), (1, 0), (0, 0)], 0, none⟩)]),
 (99, []),
 (100, [(1, ⟨[(0, false), (1, false), (2, false), (3, false), (4, false), (5, false), (6, false), (7, false), (8, false), (9, false), (10, false), (11, false), (12, false), (13, false), (14, false)], [(14, 16383), (13, 8191), (12, 4080), (11, 1792), (10, 768), (9, 256), (8, 0), (7, 112), (6, 48), (5, 16), (4, 0), (3, 7), (2, 3), (1, 1), (0, 0)], 0, none⟩)]),
 (102, [(2, ⟨[(0, false), (1, false), (2, false), (3, false), (4, false), (5, false), (6, false), (7, true)], [(7, 127), (6, 60), (5, 28), (4, 12), (3, 4), (2, 0), (1, 1), (0, 0)], 0, none⟩),
  (7, ⟨[(0, false), (1, false), (2, false), (3, false), (4, false), (5, false), (6, false), (7, true)], [(7, 127), (6, 60), (5, 28), (4, 12), (3, 4), (2, 0), (1, 1), (0, 0)], 0, none⟩),
  (9, ⟨[(0, false), (1, false), (2, false), (3, false), (4, false), (5, false), (6, false), (8, false), (9, false), (10, false), (11, false), (12, false), (7, true), (13, false), (14, false), (15, true), (16, false), (17, false), (18, true)], [(18, 262143), (17, 131071), (16, 65534), (15, 32766), (14, 16380), (13, 8128), (7, 64), (12, 3840), (11, 1792), (10, 768), (9, 256), (8, 0), (6, 0), (5, 28), (4, 12), (3, 4), (2, 0), (1, 0), (0, 0)], 0, none⟩),
  (10, ⟨[(0, false), (1, false), (2, false), (3, false), (4, true), (5, true), (6, false), (7, true)], [(7, 127), (6, 60), (5, 28), (4, 12), (3, 4), (2, 0), (1, 1), (0, 0)], 0, none⟩)]),
 (101, []),
 (103, [(4, ⟨[(0, false), (1, false), (2, false), (3, false), (4, false), (5, false), (6, false), (7, false), (8, false), (9, false), (10, false), (11, false), (12, false), (13, true), (14, false)], [(14, 16383), (13, 8191), (12, 3855), (11, 1807), (10, 527), (9, 15), (8, 15), (7, 127), (6, 63), (5, 15), (4, 15), (3, 7), (2, 3), (1, 0), (0, 0)], 0, none⟩),
  (6, ⟨[(0, false), (1, false), (2, false), (3, false), (4, false), (5, false), (6, false), (7, false), (8, false), (9, false), (10, false), (11, false), (12, false), (13, false), (14, false), (15, true), (16, false), (17, true)], [(17, 131071), (16, 65535), (15, 32739), (14, 16355), (13, 7168), (12, 3072), (11, 0), (10, 0), (9, 480), (8, 224), (7, 64), (6, 0), (5, 0), (4, 8), (3, 0), (2, 0), (1, 0), (0, 0)], 0, none⟩)]),
 (104, [(10, ⟨[(0, false), (1, false), (2, false), (3, false), (4, false), (5, false), (6, false), (7, false), (8, false), (9, false), (10, false), (11, false), (12, false), (13, false), (14, false), (15, false), (16, false), (17, true), (18, false), (19, true)], [(19, 524287), (18, 262143), (17, 131011), (16, 65475), (15, 28672), (14, 12288), (13, 0), (12, 0), (11, 1984), (10, 960), (9, 384), (8, 0), (7, 0), (6, 0), (5, 24), (4, 0), (3, 0), (2, 0), (1, 0), (0, 0)], 0, none⟩)]),
 (105, [(10, ⟨[(0, false), (1, false), (2, false), (3, false), (4, false), (5, false), (6, false), (7, false), (8, false), (9, false), (10, false), (11, false), (12, false), (13, false), (14, false), (15, false), (16, false), (17, true), (18, false), (19, true)], [(19, 524287), (18, 262143), (17, 131011), (16, 65475), (15, 28672), (14, 12288), (13, 0), (12, 0), (11, 1984), (10, 960), (9, 384), (8, 0), (7, 0), (6, 0), (5, 24), (4, 0), (3, 0), (2, 0), (1, 0), (0, 0)], 0, none⟩)]),
 (106, []),
 (107, [(3, ⟨[(0, false), (1, false), (2, false), (3, false), (4, false), (5, false), (6, false), (7, false), (8, false), (9, false), (10, false), (11, false), (12, false), (13, true), (14, false), (15, true)], [(15, 32767), (14, 16383), (13, 8179), (12, 4083), (11, 1792), (10, 768), (9, 0), (8, 0), (7, 112), (6, 48), (5, 0), (4, 0), (3, 0), (2, 0), (1, 0), (0, 0)], 0, none⟩)]),
 (108, [(5, ⟨[(0, false), (1, false), (2, false), (3, false), (4, false), (5, false), (6, false), (7, false), (8, false), (9, false), (10, false), (11, false), (12, false), (13, true), (14, false), (15, false)], [(15, 32767), (14, 16383), (13, 8191), (12, 3855), (11, 1807), (10, 527), (9, 15), (8, 15), (7, 127), (6, 63), (5, 15), (4, 15), (3, 7), (2, 3), (1, 0), (0, 0)], 0, none⟩),
  (11, ⟨[(0, false), (1, false), (2, false), (3, false), (4, false), (5, false), (6, false), (7, false), (8, false), (9, false), (10, false), (11, false), (12, false), (13, false), (14, false), (15, true), (16, false), (17, true)], [(17, 131071), (16, 65535), (15, 32739), (14, 16355), (13, 7168), (12, 3072), (11, 0), (10, 0), (9, 480), (8, 224), (7, 64), (6, 0), (5, 0), (4, 8), (3, 0), (2, 0), (1, 0), (0, 0)], 0, none⟩),
  (16, ⟨[(0, false), (1, false), (2, false), (3, false), (4, false), (5, false), (6, false), (7, false), (8, false), (9, true), (10, false)], [(10, 1023), (9, 511), (8, 240), (7, 112), (6, 32), (5, 0), (4, 0), (3, 7), (2, 3), (1, 0), (0, 0)], 0, none⟩),
  (17, ⟨[(0, false), (1, false), (2, false), (3, false), (4, false), (5, false), (6, false), (7, false), (8, false), (9, false), (10, false), (11, false), (12, false), (13, false), (14, false), (15, true), (16, false), (17, true)], [(17, 131071), (16, 65535), (15, 32739), (14, 16355), (13, 7168), (12, 3072), (11, 0), (10, 0), (9, 480), (8, 224), (7, 64), (6, 0), (5, 0), (4, 8), (3, 0), (2, 0), (1, 0), (0, 0)], 0, none⟩),
  (22, ⟨[(0, false), (1, false), (2, false), (3, false), (4, false), (5, false), (6, false), (7, false), (8, false), (9, true), (10, false)], [(10, 1023), (9, 511), (8, 240), (7, 112), (6, 32), (5, 0), (4, 0), (3, 7), (2, 3), (1, 0), (0, 0)], 0, none⟩),
  (23, ⟨[(0, false), (1, false), (2, false), (3, false), (4, false), (5, false), (6, false), (7, false), (8, false), (9, false), (10, false), (11, false), (12, false), (13, false), (14, false), (15, true), (16, false), (17, true)], [(17, 131071), (16, 65535), (15, 32739), (14, 16355), (13, 7168), (12, 3072), (11, 0), (10, 0), (9, 480), (8, 224), (7, 64), (6, 0), (5, 0), (4, 8), (3, 0), (2, 0), (1, 0), (0, 0)], 0, none⟩)]),
 (109, []),
 (110, [(1, ⟨[(0, false), (1, false), (2, false), (3, false), (4, false), (5, false), (6, false), (7, false), (8, false), (9, false), (10, false), (11, false), (12, false), (13, true), (14, false), (15, true)], [(15, 32767), (14, 16383), (13, 8179), (12, 4083), (11, 1792), (10, 768), (9, 0), (8, 0), (7, 112), (6, 48), (5, 0), (4, 0), (3, 0), (2, 0), (1, 0), (0, 0)], 0, none⟩),
  (3, ⟨[(0, false), (1, false), (2, false), (3, false), (4, false), (5, false), (6, false), (7, false), (8, false), (9, false), (10, false), (11, false), (12, true), (13, false), (14, false)], [(14, 16383), (13, 8191), (12, 4095), (11, 1807), (10, 783), (9, 15), (8, 15), (7, 127), (6, 63), (5, 15), (4, 15), (3, 7), (2, 3), (1, 0), (0, 0)], 0, none⟩),
  (5, ⟨[(0, false), (1, false), (2, false), (3, false), (4, false), (5, false), (6, false), (7, false), (8, false), (9, false), (10, false), (11, false), (12, true), (13, false)], [(13, 8191), (12, 4095), (11, 1807), (10, 783), (9, 15), (8, 15), (7, 127), (6, 63), (5, 15), (4, 15), (3, 7), (2, 3), (1, 0), (0, 0)], 0, none⟩),
  (8, ⟨[(0, false), (1, false), (2, false), (3, false), (4, false), (5, false), (6, false), (7, false), (8, false), (9, false), (10, false), (11, false), (12, false), (13, true), (14, false), (15, true)], [(15, 32767), (14, 16383), (13, 8179), (12, 4083), (11, 1792), (10, 768), (9, 0), (8, 0), (7, 112), (6, 48), (5, 0), (4, 0), (3, 0), (2, 0), (1, 0), (0, 0)], 0, none⟩)]),
 (111, [(1, ⟨[(0, false), (1, false), (2, false), (3, false), (4, false), (5, false), (6, false), (7, false), (8, false), (9, false), (10, false), (11, false), (12, false), (13, true), (14, false), (15, true)], [(15, 32767), (14, 16383), (13, 8179), (12, 4083), (11, 1792), (10, 768), (9, 0), (8, 0), (7, 112), (6, 48), (5, 0), (4, 0), (3, 0), (2, 0), (1, 0), (0, 0)], 0, none⟩),
  (3, ⟨[(0, false), (1, false), (2, false), (3, false), (4, false), (5, false), (6, false), (7, false), (8, false), (9, false), (10, false), (11, false), (12, true), (13, false)], [(13, 8191), (12, 4095), (11, 1807), (10, 783), (9, 15), (8, 15), (7, 127), (6, 63), (5, 15), (4, 15), (3, 7), (2, 3), (1, 0), (0, 0)], 0, none⟩),
  (5, ⟨[(0, false), (1, false), (2, false), (3, false), (4, false), (5, false), (6, false), (7, false), (8, false), (9, false), (10, false), (11, false), (12, true), (13, false), (14, false)], [(14, 16383), (13, 8191), (12, 4095), (11, 1807), (10, 783), (9, 15), (8, 15), (7, 127), (6, 63), (5, 15), (4, 15), (3, 7), (2, 3), (1, 0), (0, 0)], 0, none⟩),
  (8, ⟨[(0, false), (1, false), (2, false), (3, false), (4, false), (5, false), (6, false), (7, false), (8, false), (9, false), (10, false), (11, false), (12, false), (13, true), (14, false), (15, true)], [(15, 32767), (14, 16383), (13, 8179), (12, 4083), (11, 1792), (10, 768), (9, 0), (8, 0), (7, 112), (6, 48), (5, 0), (4, 0), (3, 0), (2, 0), (1, 0), (0, 0)], 0, none⟩),
  (10, ⟨[(0, false), (1, false), (2, false), (3, false), (4, false), (5, false), (6, false), (7, false), (8, false), (9, false), (10, false), (11, false), (12, false), (13, true), (14, false), (15, true)], [(15, 32767), (14, 16383), (13, 8179), (12, 4083), (11, 1792), (10, 768), (9, 0), (8, 0), (7, 112), (6, 48), (5, 0), (4, 0), (3, 0), (2, 0), (1, 0), (0, 0)], 0, none⟩),
  (13, ⟨[(0, false), (1, false), (2, false), (3, false), (4, false), (5, false), (6, false), (7, false), (8, false), (9, false), (10, false), (11, false), (12, true), (13, false)], [(13, 8191), (12, 4095), (11, 1807), (10, 783), (9, 15), (8, 15), (7, 127), (6, 63), (5, 15), (4, 15), (3, 7), (2, 3), (1, 0), (0, 0)], 0, none⟩),
  (15, ⟨[(0, false), (1, false), (2, false), (3, false), (4, false), (5, false), (6, false), (7, false), (8, false), (9, false), (10, false), (11, false), (12, true), (13, false), (14, false)], [(14, 16383), (13, 8191), (12, 4095), (11, 1807), (10, 783), (9, 15), (8, 15), (7, 127), (6, 63), (5, 15), (4, 15), (3, 7), (2, 3), (1, 0), (0, 0)], 0, none⟩),
  (18, ⟨[(0, false), (1, false), (2, false), (3, false), (4, false), (5, false), (6, false), (7, false), (8, false), (9, false), (10, false), (11, false), (12, false), (13, true), (14, false), (15, true)], [(15, 32767), (14, 16383), (13, 8179), (12, 4083), (11, 1792), (10, 768), (9, 0), (8, 0), (7, 112), (6, 48), (5, 0), (4, 0), (3, 0), (2, 0), (1, 0), (0, 0)], 0, none⟩),
  (21, ⟨[(0, false), (1, false), (2, false), (3, false), (4, false), (5, false), (6, false), (7, false), (8, false), (9, false), (10, false), (11, false), (12, false), (13, true), (14, false), (15, true)], [(15, 32767), (14, 16383), (13, 8179), (12, 4083), (11, 1792), (10, 768), (9, 0), (8, 0), (7, 112), (6, 48), (5, 0), (4, 0), (3, 0), (2, 0), (1, 0), (0, 0)], 0, none⟩)]),
 (112, [(3, ⟨[(0, false), (1, false), (2, false), (3, false), (4, false), (5, false), (6, false), (7, false), (8, false), (9, false), (10, false), (11, false), (12, false), (13, false), (14, false), (15, false), (16, false), (17, false), (18, false), (19, true), (20, false), (21, false)], [(21, 2097151), (20, 1048575), (19, 524287), (18, 258079), (17, 127007), (16, 57375), (15, 24607), (14, 31), (13, 31), (12, 31), (11, 2015), (10, 991), (9, 415), (8, 31), (7, 31), (6, 31), (5, 31), (4, 15), (3, 7), (2, 0), (1, 1), (0, 0)], 0, none⟩),
  (5, ⟨[(0, false), (1, false), (2, false), (3, false), (4, false), (5, false), (6, false), (7, false), (8, false), (9, false), (10, false), (11, false), (12, false), (13, true), (14, false), (15, false)], [(15, 32767), (14, 16383), (13, 8191), (12, 3968), (11, 1920), (10, 768), (9, 0), (8, 0), (7, 0), (6, 62), (5, 30), (4, 12), (3, 0), (2, 0), (1, 0), (0, 0)], 0, none⟩),
  (6, ⟨[(0, false), (1, false), (2, false), (3, false), (4, false), (5, false), (6, false), (7, false), (8, false), (9, false), (10, false), (11, false), (12, false), (13, false), (14, false), (15, false), (16, false), (17, false), (18, false), (19, false), (20, false), (21, true), (22, false), (23, true)], [(23, 8388607), (22, 4194303), (21, 2096911), (20, 1048335), (19, 507904), (18, 245760), (17, 98304), (16, 0), (15, 0), (14, 0), (13, 7936), (12, 3840), (11, 1536), (10, 0), (9, 0), (8, 0), (7, 96), (6, 0), (5, 0), (4, 0), (3, 6), (2, 0), (1, 0), (0, 0)], 0, none⟩)]),
 (113, []),
 (114, [(1, ⟨[(0, false), (1, false), (2, false), (3, false), (4, false), (5, false), (6, false), (7, false), (8, false), (9, true)], [(9, 511), (8, 255), (7, 127), (6, 56), (5, 24), (4, 8), (3, 0), (2, 3), (1, 1), (0, 0)], 0, none⟩),
  (2, ⟨[(0, false), (1, false), (2, false), (3, false), (4, false), (5, false), (6, false), (7, false), (8, false), (9, true)], [(9, 511), (8, 255), (7, 127), (6, 56), (5, 24), (4, 8), (3, 0), (2, 3), (1, 1), (0, 0)], 0, none⟩),
  (3, ⟨[(0, false), (1, false), (2, false), (3, false), (4, false), (5, false), (6, false), (7, false), (8, false), (9, true)], [(9, 511), (8, 255), (7, 127), (6, 56), (5, 24), (4, 8), (3, 0), (2, 3), (1, 1), (0, 0)], 0, none⟩)]),
 (115, []),
 (116, []),
 (117, [(3, ⟨[(0, false), (1, false), (2, false), (3, false), (4, false), (5, false), (6, false), (7, false), (8, false), (9, false), (10, false), (11, false), (12, false), (13, false), (14, false), (15, false), (16, false), (17, false), (18, true), (19, false)], [(19, 524287), (18, 262143), (17, 129055), (16, 63519), (15, 28703), (14, 12319), (13, 31), (12, 31), (11, 31), (10, 1023), (9, 511), (8, 223), (7, 31), (6, 31), (5, 31), (4, 15), (3, 7), (2, 0), (1, 1), (0, 0)], 0, none⟩),
  (5, ⟨[(0, false), (1, false), (2, false), (3, false), (4, false), (5, false), (6, false), (7, false), (8, false), (9, false), (10, false), (11, false), (12, true), (13, false)], [(13, 8191), (12, 4095), (11, 1984), (10, 960), (9, 384), (8, 0), (7, 0), (6, 0), (5, 31), (4, 15), (3, 6), (2, 0), (1, 0), (0, 0)], 0, none⟩),
  (6, ⟨[(0, false), (1, false), (2, false), (3, false), (4, false), (5, false), (6, false), (7, false), (8, false), (9, false), (10, false), (11, false), (12, false), (13, false), (14, false), (15, false), (16, false), (17, false), (18, false), (19, false), (20, false), (21, true), (22, false), (23, true)], [(23, 8388607), (22, 4194303), (21, 2096911), (20, 1048335), (19, 507904), (18, 245760), (17, 98304), (16, 0), (15, 0), (14, 0), (13, 7936), (12, 3840), (11, 1536), (10, 0), (9, 0), (8, 0), (7, 96), (6, 0), (5, 0), (4, 0), (3, 6), (2, 0), (1, 0), (0, 0)], 0, none⟩)]),
 (118, []),
 (119, []),
 (120, []),
 (121, [(1, ⟨[(0, false), (1, false), (2, false), (3, false), (4, false), (5, false), (6, false), (7, false), (8, false), (9, true), (10, false)], [(10, 1023), (9, 511), (8, 224), (7, 96), (6, 0), (5, 0), (4, 14), (3, 6), (2, 0), (1, 0), (0, 0)], 0, none⟩)]),
 (122, [(1, ⟨[(0, false), (1, false), (2, false), (3, false), (4, false), (5, false), (6, false), (7, false), (8, true)], [(8, 255), (7, 112), (6, 48), (5, 0), (4, 0), (3, 7), (2, 3), (1, 0), (0, 0)], 0, none⟩)])]
end Tab
def Y (P : Program) : Gx := ⟨⟨⟨P, Tab.T, false, false⟩, fnTab P Tab.ids, Tab.I⟩, Tab.R⟩
theorem okT : Tab.T.map (fun p => mkTId true Tryz.prog p.1) = Tab.T.map fun p => some p.2 := by kernel_rfl
theorem okB : (fnTab Tryz.prog Tab.ids).all (fnB Tab.R) = true := by kernel_rfl
theorem mixed : Tryz.prog.follows .mixedOrders = true := by kernel_rfl
theorem okY : (Y Tryz.prog).Ok := gx_okd (dp := true) okT mixed (fnTab_ok _ _) okB
/-- likewise, where all is known -/
def Yf (P : Program) : Gx := ⟨⟨⟨P, Tab.Tf, true, false⟩, fnTab P Tab.ids, Tab.I⟩, Tab.R⟩
theorem okTf : Tab.Tf.map (fun p => mkTI Tryz.prog p.1) = Tab.Tf.map fun p => some p.2 := by kernel_rfl
theorem okYf : (Yf Tryz.prog).Ok := gx_ok okTf mixed (fnTab_ok _ _) okB
end Go.Proofs.YtfobhkibkdmglaaGreat

namespace Go.Sx
section

/-! ### several at once -/

/-! ### the two pools of a call: one's own, one that is read -/

/-! ### a cell of a local struct that is a slice's value is opened -/

end
end Go.Sx

namespace Go.Proofs.YtfobhkibkdmglaaGreat
open Go.Sx
set_option maxRecDepth 100000
set_option linter.unusedVariables false

def u8 (r : Nat → Nat → Value) (i : Nat) : Int := toI (r i 0)

/-! ### sums -/

def bit1 (x : Int) : Int := ibits .xor .u32 (x / 2) (ibits .and .u32 3988292384 (uw .u32 (0 - ibits .and .u32 x 1)))
def bitN : Nat → Int → Int
 | 0, x => x
 | k + 1, x => bit1 (bitN k x)
def crcTo (r : Nat → Int) : Nat → Int
 | 0 => 4294967295
 | k + 1 => bitN 8 (ibits .xor .u32 (crcTo r k) (r k))
structure CrcA where
 c : Nat
 r : Nat
 len : Nat
 cap : Nat
 n : Nat
 rows : Nat → Nat → Value
noncomputable def cCrc : Con where
 α := CrcA
 β := Unit
 m := 2
 m' := 2
 pre := fun a => a.r + a.len ≤ a.n ∧ a.len < 100000
 args := fun a => [.a (.slc 0 0 1 1 a.c)]
 hp := fun _ => []
 ro := fun a => [(0, .obj 74 [.slc 1 a.r 1 a.len a.cap]), (1, .arr 5 [.int .u8] a.n a.rows)]
 post := fun _ _ => True
 res := fun a _ => .a (.int .u32 (ibits .xor .u32 4294967295 (crcTo (fun i => u8 a.rows (a.r + i)) a.len)))
 hp' := fun _ _ => []
def iCrc8 : An := .flat 10 Nat (fun s j => (s.set 3 (.a (.int .u32 (bitN j (S.iv s 3))))).int 24 j) (fun _ j => j ≤ 8) (fun _ j => 8 - j)
def iCrc (a : CrcA) : An := .mk 6 Nat (fun s i => (s.set 3 (.a (.int .u32 (crcTo (fun i => u8 a.rows (a.r + i)) i)))).int 16 i) (fun _ i => i ≤ a.len) (fun _ i => a.len - i) fun _ => .mk 60 [iCrc8] []
set_option maxHeartbeats 4000000 in
theorem bodyCrc : fnBody (Y Tryz.prog) [] 88 cCrc fun a => [(88, [iCrc a], [])] := fnBody.of (p :=
 ∀ a : CrcA, a.r + a.len ≤ a.n ∧ a.len < 100000 → ((0 : Int) ≤ 0 ∧ (0 : Int) < 1) ∧ (∃ a_2 : Nat, 0 = (↑a_2 : Int) ∧ (4294967295 : Int) = crcTo (fun (i : Nat) => u8 a.rows (a.r + i)) a_2 ∧ (↑a.len : Int) = (↑a.len : Int) ∧ (a.r = a.r ∧ a.len = a.len ∧ a.cap = a.cap) ∧ (a.r = a.r ∧ a.len = a.len ∧ a.cap = a.cap) ∧ true = true ∧ (0 : Int) = 0 ∧ (1 : Int) = 1 ∧ (0 = 0 ∧ 1 = 1 ∧ a.c = a.c) ∧ (0 : Int) = 0 ∧ (0 = 0 ∧ 1 = 1 ∧ a.c = a.c) ∧ (a.r = a.r ∧ a.len = a.len ∧ a.cap = a.cap) ∧ (a.n ≤ a.n ∧ RowsEq a.n 1 a.rows a.rows) ∧ a_2 ≤ a.len ∧ True) ∧ ∀ a_2 : Nat, a_2 ≤ a.len → (decide ((↑a_2 : Int) < (↑a.len : Int)) = true → (0 ≤ (↑a_2 : Int) ∧ (↑a_2 : Int) < (↑a.len : Int)) ∧ a.r + (↑a_2 : Int).toNat < a.n ∧ (InR .u8 (toI (a.rows (a.r + (↑a_2 : Int).toNat) 0)) → (∃ a_6 : Nat, 0 = (↑a_6 : Int) ∧ ibits Go.BinOp.xor IntKind.u32 (crcTo (fun (i : Nat) => u8 a.rows (a.r + i)) a_2) (toI (a.rows (a.r + (↑a_2 : Int).toNat) 0)) = bitN a_6 (ibits Go.BinOp.xor IntKind.u32 (crcTo (fun (i : Nat) => u8 a.rows (a.r + i)) a_2) (toI (a.rows (a.r + (↑a_2 : Int).toNat) 0))) ∧ toI (a.rows (a.r + (↑a_2 : Int).toNat) 0) = toI (a.rows (a.r + (↑a_2 : Int).toNat) 0) ∧ decide ((↑a_2 : Int) < (↑a.len : Int)) = decide ((↑a_2 : Int) < (↑a.len : Int)) ∧ (↑a_2 : Int) = (↑a_2 : Int) ∧ (↑a.len : Int) = (↑a.len : Int) ∧ (a.r = a.r ∧ a.len = a.len ∧ a.cap = a.cap) ∧ (a.r = a.r ∧ a.len = a.len ∧ a.cap = a.cap) ∧ true = true ∧ (0 : Int) = 0 ∧ (1 : Int) = 1 ∧ (0 = 0 ∧ 1 = 1 ∧ a.c = a.c) ∧ (0 : Int) = 0 ∧ (0 = 0 ∧ 1 = 1 ∧ a.c = a.c) ∧ 
 (a.r = a.r ∧ a.len = a.len ∧ a.cap = a.cap) ∧ (a.n ≤ a.n ∧ RowsEq a.n 1 a.rows a.rows) ∧ a_6 ≤ 8 ∧ True) ∧ ∀ a_6 : Nat, a_6 ≤ 8 → (decide ((↑a_6 : Int) < 8) = true → (0 : Int) ≤ 1 ∧ InR .i64 ((↑a_6 : Int) + 1) ∧ ∃ (a' : Nat), (↑a_6 : Int) + 1 = (↑a' : Int) ∧ ibits Go.BinOp.xor IntKind.u32 (bitN a_6 (ibits Go.BinOp.xor IntKind.u32 (crcTo (fun (i : Nat) => u8 a.rows (a.r + i)) a_2) (toI (a.rows (a.r + (↑a_2 : Int).toNat) 0))) / (2 : Int)) (ibits Go.BinOp.and IntKind.u32 (3988292384 : Int) (uw .u32 ((0 : Int) - ibits Go.BinOp.and IntKind.u32 (bitN a_6 (ibits Go.BinOp.xor IntKind.u32 (crcTo (fun (i : Nat) => u8 a.rows (a.r + i)) a_2) (toI (a.rows (a.r + (↑a_2 : Int).toNat) 0)))) (1 : Int)))) = bitN a' (ibits Go.BinOp.xor IntKind.u32 (crcTo (fun (i : Nat) => u8 a.rows (a.r + i)) a_2) (toI (a.rows (a.r + (↑a_2 : Int).toNat) 0))) ∧ toI (a.rows (a.r + (↑a_2 : Int).toNat) 0) = toI (a.rows (a.r + (↑a_2 : Int).toNat) 0) ∧ decide ((↑a_2 : Int) < (↑a.len : Int)) = decide ((↑a_2 : Int) < (↑a.len : Int)) ∧ (↑a_2 : Int) = (↑a_2 : Int) ∧ (↑a.len : Int) = (↑a.len : Int) ∧ (a.r = a.r ∧ a.len = a.len ∧ a.cap = a.cap) ∧ (a.r = a.r ∧ a.len = a.len ∧ a.cap = a.cap) ∧ true = true ∧ (0 : Int) = 0 ∧ (1 : Int) = 1 ∧ (0 = 0 ∧ 1 = 1 ∧ a.c = a.c) ∧ (0 : Int) = 0 ∧ (0 = 0 ∧ 1 = 1 ∧ a.c = a.c) ∧ (a.r = a.r ∧ a.len = a.len ∧ a.cap = a.cap) ∧ (a.n ≤ a.n ∧ RowsEq a.n 1 a.rows a.rows) ∧ a' ≤ 8 ∧ 8 - a' < 8 - a_6) ∧ (decide ((↑a_6 : Int) < 8) = false → InR .i64 ((↑a_2 : Int) + 1) ∧ ∃ (a' : Nat), (↑a_2 : Int) + 1 = (↑a' : Int) ∧ 
 bitN a_6 (ibits Go.BinOp.xor IntKind.u32 (crcTo (fun (i : Nat) => u8 a.rows (a.r + i)) a_2) (toI (a.rows (a.r + (↑a_2 : Int).toNat) 0))) = crcTo (fun (i : Nat) => u8 a.rows (a.r + i)) a' ∧ (↑a.len : Int) = (↑a.len : Int) ∧ (a.r = a.r ∧ a.len = a.len ∧ a.cap = a.cap) ∧ (a.r = a.r ∧ a.len = a.len ∧ a.cap = a.cap) ∧ true = true ∧ (0 : Int) = 0 ∧ (1 : Int) = 1 ∧ (0 = 0 ∧ 1 = 1 ∧ a.c = a.c) ∧ (0 : Int) = 0 ∧ (0 = 0 ∧ 1 = 1 ∧ a.c = a.c) ∧ (a.r = a.r ∧ a.len = a.len ∧ a.cap = a.cap) ∧ (a.n ≤ a.n ∧ RowsEq a.n 1 a.rows a.rows) ∧ a' ≤ a.len ∧ a.len - a' < a.len - a_2))) ∧ (decide ((↑a_2 : Int) < (↑a.len : Int)) = false → ∃ b : Unit, ibits Go.BinOp.xor IntKind.u32 (4294967295 : Int) (crcTo (fun (i : Nat) => u8 a.rows (a.r + i)) a_2) = ibits Go.BinOp.xor IntKind.u32 (4294967295 : Int) (crcTo (fun (i : Nat) => u8 a.rows (a.r + i)) a.len) ∧ True ∧ True)) (by kernel_rfl) (by
 rintro ⟨c, r, len, cap, n, rows⟩ ⟨h1, h2⟩
 dsimp only at h1 h2 ⊢
 simp only [Int.toNat_natCast, InR, decide_eq_true_eq, decide_eq_false_iff_not]
 refine ⟨by decide, ⟨0, ?_⟩, fun i hi => ⟨fun c1 => ?_, fun c1 => ⟨(), ?_⟩⟩⟩
 ·((repeat' apply And.intro) <;> first | with_reducible rfl | omega | (dsimp only; omega) | exact RowsEq.refl _ _ _ | assumption | rfl | trivial | exact Nat.le_refl _ | skip)
 ·have hi : i < len := by omega
  refine ⟨by omega, by omega, fun _ => ⟨⟨0, ?_⟩, fun j hj => ⟨fun c2 => ⟨by decide, by omega, j + 1, ?_⟩, fun c2 => ⟨by omega, i + 1, ?_⟩⟩⟩⟩
  ·((repeat' apply And.intro) <;> first | with_reducible rfl | omega | (dsimp only; omega) | exact RowsEq.refl _ _ _ | assumption | rfl | trivial | exact Nat.le_refl _ | skip)
  ·((repeat' apply And.intro) <;> first | with_reducible rfl | omega | (dsimp only; omega) | exact RowsEq.refl _ _ _ | assumption | rfl | trivial | exact Nat.le_refl _ | skip)
  ·have : j = 8 := by omega
   subst this
   ((repeat' apply And.intro) <;> first | with_reducible rfl | omega | (dsimp only; omega) | exact RowsEq.refl _ _ _ | assumption | rfl | trivial | exact Nat.le_refl _ | skip)
 ·have : i = len := by omega
  subst this
  ((repeat' apply And.intro) <;> first | with_reducible rfl | omega | (dsimp only; omega) | exact RowsEq.refl _ _ _ | assumption | rfl | trivial | exact Nat.le_refl _ | skip))
theorem callCrc : CallsBy (Y Tryz.prog).G.X 88 cCrc := fn_ok okY (tab := []) trivial bodyCrc

/-! ### numbers, the highest byte first -/

def putR (rows : Nat → Nat → Value) (r len : Nat) (v : Int) (k : Nat) : Nat → Nat → Value := fun i j => if r + len ≤ i + k ∧ i < r + len then .int .u8 (uw .u8 (v / 2 ^ min (8 * (r + len - 1 - i)) 64)) else rows i j
structure PutA where
 r : Nat
 len : Nat
 cap : Nat
 v : Int
 n : Nat
 rows : Nat → Nat → Value
noncomputable def cPut : Con where
 α := PutA
 β := Unit
 m := 1
 m' := 1
 pre := fun a => a.r + a.len ≤ a.n ∧ a.len ≤ 8
 args := fun a => [.a (.slc 0 a.r 1 a.len a.cap), .a (.int .u64 a.v)]
 hp := fun a => [(0, .arr 5 [.int .u8] a.n a.rows)]
 ro := fun _ => []
 post := fun _ _ => True
 res := fun _ _ => .tup []
 hp' := fun a _ => [(0, .arr 5 [.int .u8] a.n (putR a.rows a.r a.len a.v a.len))]
def iPut (a : PutA) : An := .flat 1 Nat (fun s k => (s.at_ 0 (.arr 5 [.int .u8] a.n (putR a.rows a.r a.len a.v k))).int 7 k) (fun _ k => k ≤ a.len) (fun _ k => a.len - k)
set_option maxHeartbeats 4000000 in
theorem bodyPut : fnBody (Y Tryz.prog) [] 80 cPut fun a => [(80, [iPut a], [])] := fnBody.of (p :=
 ∀ a : PutA, a.r + a.len ≤ a.n ∧ a.len ≤ 8 → (∃ a_2 : Nat, 0 = (↑a_2 : Int) ∧ (↑a.len : Int) = (↑a.len : Int) ∧ (a.r = a.r ∧ a.len = a.len ∧ a.cap = a.cap) ∧ a.v = a.v ∧ (a.n ≤ a.n ∧ RowsEq a.n 1 a.rows (putR a.rows a.r a.len a.v a_2)) ∧ a_2 ≤ a.len ∧ True) ∧ ∀ a_2 : Nat, a_2 ≤ a.len → (decide ((↑a_2 : Int) < (↑a.len : Int)) = true → InR .i64 ((↑a.len : Int) - 1) ∧ InR .i64 ((↑a.len : Int) - 1 - (↑a_2 : Int)) ∧ InR .i64 ((8 : Int) * (↑a_2 : Int)) ∧ (0 : Int) ≤ 8 * (↑a_2 : Int) ∧ (0 ≤ (↑a.len : Int) - 1 - (↑a_2 : Int) ∧ (↑a.len : Int) - 1 - (↑a_2 : Int) < (↑a.len : Int)) ∧ a.r + ((↑a.len : Int) - 1 - (↑a_2 : Int)).toNat < a.n ∧ InR .i64 ((↑a_2 : Int) + 1) ∧ ∃ (a' : Nat), (↑a_2 : Int) + 1 = (↑a' : Int) ∧ (↑a.len : Int) = (↑a.len : Int) ∧ (a.r = a.r ∧ a.len = a.len ∧ a.cap = a.cap) ∧ a.v = a.v ∧ (a.n ≤ a.n ∧ RowsEq a.n 1 (updR (putR a.rows a.r a.len a.v a_2) (a.r + ((↑a.len : Int) - 1 - (↑a_2 : Int)).toNat) 0 [Value.int IntKind.u8 (uw .u8 (a.v / (2 : Int) ^ min ((8 : Int) * (↑a_2 : Int)).toNat 64))]) (putR a.rows a.r a.len a.v a')) ∧ a' ≤ a.len ∧ a.len - a' < a.len - a_2) ∧ (decide ((↑a_2 : Int) < (↑a.len : Int)) = false → ∃ b : Unit, (a.n ≤ a.n ∧ RowsEq a.n 1 (putR a.rows a.r a.len a.v a_2) (putR a.rows a.r a.len a.v a.len)) ∧ True ∧ True)) (by kernel_rfl) (by
 rintro ⟨r, len, cap, v, n, rows⟩ ⟨h1, h2⟩
 dsimp only at h1 h2 ⊢
 simp only [Int.toNat_natCast, InR, decide_eq_true_eq, decide_eq_false_iff_not]
 refine ⟨⟨0, ?_⟩, fun k hk => ⟨fun c1 => ?_, fun c1 => ⟨(), ?_⟩⟩⟩
 ·((repeat' apply And.intro) <;> first | with_reducible rfl | omega | (dsimp only; omega) | exact RowsEq.refl _ _ _ | assumption | rfl | trivial | exact Nat.le_refl _ | skip)
  refine ⟨fun i hi j hj => ?_⟩
  unfold putR
  rw [if_neg (by omega)]
 ·have hk : k < len := by omega
  have e : ((len : Int) - 1 - k).toNat = len - 1 - k := by omega
  rw [e]
  refine ⟨by omega, by omega, by omega, by omega, by omega, by omega, by omega, k + 1, ?_⟩
  ((repeat' apply And.intro) <;> first | with_reducible rfl | omega | (dsimp only; omega) | exact RowsEq.refl _ _ _ | assumption | rfl | trivial | exact Nat.le_refl _ | skip)
  refine ⟨fun i hi j hj => ?_⟩
  have hj : j = 0 := by omega
  subst hj
  by_cases hik : i = r + (len - 1 - k)
  ·subst hik
   have e3 : (8 * (k : Int)).toNat = 8 * (r + len - 1 - (r + (len - 1 - k))) := by omega
   rw [updR_self, e3]
   show Value.int .u8 _ = _
   simp only [putR]
   rw [if_pos (by omega)]
  ·rw [updR_other hik]
   simp only [putR]
   by_cases hq : r + len ≤ i + k ∧ i < r + len
   ·rw [if_pos hq, if_pos (by omega)]
   ·rw [if_neg hq, if_neg (by omega)]
 ·have : k = len := by omega
  subst this
  ((repeat' apply And.intro) <;> first | with_reducible rfl | omega | (dsimp only; omega) | exact RowsEq.refl _ _ _ | assumption | rfl | trivial | exact Nat.le_refl _ | skip))
theorem callPut : CallsBy (Y Tryz.prog).G.X 80 cPut := fn_ok okY (tab := []) trivial bodyPut
def getTo (r : Nat → Int) : Nat → Int
 | 0 => 0
 | k + 1 => ibits .or .u64 (uw .u64 (getTo r k * 2 ^ 8)) (r k)
structure GetA where
 r : Nat
 len : Nat
 cap : Nat
 n : Nat
 rows : Nat → Nat → Value
noncomputable def cGet : Con where
 α := GetA
 β := Unit
 m := 1
 m' := 1
 pre := fun a => a.r + a.len ≤ a.n ∧ a.len ≤ 8
 args := fun a => [.a (.slc 0 a.r 1 a.len a.cap)]
 hp := fun _ => []
 ro := fun a => [(0, .arr 5 [.int .u8] a.n a.rows)]
 post := fun _ _ => True
 res := fun a _ => .a (.int .u64 (getTo (fun i => u8 a.rows (a.r + i)) a.len))
 hp' := fun _ _ => []
def iGet (a : GetA) : An := .flat 3 Nat (fun s k => (s.set 3 (.a (.int .u64 (getTo (fun i => u8 a.rows (a.r + i)) k)))).int 8 k) (fun _ k => k ≤ a.len) (fun _ k => a.len - k)
set_option maxHeartbeats 4000000 in
theorem bodyGet : fnBody (Y Tryz.prog) [] 70 cGet fun a => [(70, [iGet a], [])] := fnBody.of (p :=
 ∀ a : GetA, a.r + a.len ≤ a.n ∧ a.len ≤ 8 → (∃ a_2 : Nat, 0 = (↑a_2 : Int) ∧ (0 : Int) = getTo (fun (i : Nat) => u8 a.rows (a.r + i)) a_2 ∧ (↑a.len : Int) = (↑a.len : Int) ∧ (a.r = a.r ∧ a.len = a.len ∧ a.cap = a.cap) ∧ (0 : Int) = 0 ∧ (a.r = a.r ∧ a.len = a.len ∧ a.cap = a.cap) ∧ (a.n ≤ a.n ∧ RowsEq a.n 1 a.rows a.rows) ∧ a_2 ≤ a.len ∧ True) ∧ ∀ a_2 : Nat, a_2 ≤ a.len → (decide ((↑a_2 : Int) < (↑a.len : Int)) = true → (0 ≤ (↑a_2 : Int) ∧ (↑a_2 : Int) < (↑a.len : Int)) ∧ a.r + (↑a_2 : Int).toNat < a.n ∧ (InR .u8 (toI (a.rows (a.r + (↑a_2 : Int).toNat) 0)) → (0 : Int) ≤ 8 ∧ InR .i64 ((↑a_2 : Int) + 1) ∧ ∃ (a' : Nat), (↑a_2 : Int) + 1 = (↑a' : Int) ∧ ibits Go.BinOp.or IntKind.u64 (uw .u64 (getTo (fun (i : Nat) => u8 a.rows (a.r + i)) a_2 * (256 : Int))) (toI (a.rows (a.r + (↑a_2 : Int).toNat) 0)) = getTo (fun (i : Nat) => u8 a.rows (a.r + i)) a' ∧ (↑a.len : Int) = (↑a.len : Int) ∧ (a.r = a.r ∧ a.len = a.len ∧ a.cap = a.cap) ∧ (0 : Int) = 0 ∧ (a.r = a.r ∧ a.len = a.len ∧ a.cap = a.cap) ∧ (a.n ≤ a.n ∧ RowsEq a.n 1 a.rows a.rows) ∧ a' ≤ a.len ∧ a.len - a' < a.len - a_2)) ∧ (decide ((↑a_2 : Int) < (↑a.len : Int)) = false → ∃ b : Unit, getTo (fun (i : Nat) => u8 a.rows (a.r + i)) a_2 = getTo (fun (i : Nat) => u8 a.rows (a.r + i)) a.len ∧ True ∧ True)) (by kernel_rfl) (by
 rintro ⟨r, len, cap, n, rows⟩ ⟨h1, h2⟩
 dsimp only at h1 h2 ⊢
 simp only [Int.toNat_natCast, InR, decide_eq_true_eq, decide_eq_false_iff_not]
 refine ⟨⟨0, ?_⟩, fun k hk => ⟨fun c1 => ?_, fun c1 => ⟨(), ?_⟩⟩⟩
 ·((repeat' apply And.intro) <;> first | with_reducible rfl | omega | (dsimp only; omega) | exact RowsEq.refl _ _ _ | assumption | rfl | trivial | exact Nat.le_refl _ | skip)
 ·have hk : k < len := by omega
  refine ⟨by omega, by omega, fun _ => ⟨by omega, by omega, k + 1, ?_⟩⟩
  ((repeat' apply And.intro) <;> first | with_reducible rfl | omega | (dsimp only; omega) | exact RowsEq.refl _ _ _ | assumption | rfl | trivial | exact Nat.le_refl _ | skip)
 ·have : k = len := by omega
  subst this
  ((repeat' apply And.intro) <;> first | with_reducible rfl | omega | (dsimp only; omega) | exact RowsEq.refl _ _ _ | assumption | rfl | trivial | exact Nat.le_refl _ | skip))
theorem callGet : CallsBy (Y Tryz.prog).G.X 70 cGet := fn_ok okY (tab := []) trivial bodyGet
end Go.Proofs.YtfobhkibkdmglaaGreat

namespace Go.Proofs.YtfobhkibkdmglaaGreat
open Go.Sx
set_option maxRecDepth 100000
set_option linter.unusedVariables false

/-- a device: what is written, what lasts, which sectors are loose, how many calls there were -/
structure DevM where
 n : Nat
 now : Nat → Nat → Int
 lasts : Nat → Nat → Int
 loose : Nat → Bool
 calls : Nat
def ksSec : List CK := List.replicate 128 (.int .u8) ++ [.bool]
def rowsD (d : DevM) : Nat → Nat → Value := fun i j => if j < 64 then .int .u8 (d.now i j) else if j < 128 then .int .u8 (d.lasts i (j - 64)) else .bool (d.loose i)
/-- a device is told as another one -/
@[reducible] def devQ (a b : DevM) (p : Prop) : Prop := (0 = 0 ∧ a.n = b.n ∧ a.n = b.n) ∧ (↑a.calls : Int) = (↑b.calls : Int) ∧ (b.n ≤ a.n ∧ RowsEq b.n 129 (rowsD a) (rowsD b)) ∧ p
def devHp (o a : Nat) (d : DevM) : List (Nat × Chunk) := [(o, .obj 81 [.slc a 0 129 d.n d.n, .int .i64 d.calls]), (a, .arr 93 ksSec d.n (rowsD d))]
def devNew (n : Int) : DevM := ⟨(min (max n 1) 2048).toNat, fun _ _ => 0, fun _ _ => 0, fun _ => false, 0⟩
noncomputable def cDevNew : Con where
 α := Int
 β := Unit
 m := 0
 m' := 2
 pre := fun _ => True
 args := fun n => [.a (.int .i64 n)]
 hp := fun _ => []
 ro := fun _ => []
 post := fun _ _ => True
 res := fun _ _ => .a (.ptr 0 0 0 0)
 hp' := fun n _ => devHp 0 1 (devNew n)
set_option maxHeartbeats 4000000 in
theorem bodyDevNew : fnBody (Y Tryz.prog) [] 9 cDevNew fun _ => [] := fnBody.of (p :=
 ∀ a : Int, True → ((0 : Int) ≤ bif false then max (bif true then max a (1 : Int) else min a (1 : Int)) (2048 : Int) else min (bif true then max a (1 : Int) else min a (1 : Int)) (2048 : Int)) ∧ ((bif false then max (bif true then max a (1 : Int) else min a (1 : Int)) (2048 : Int) else min (bif true then max a (1 : Int) else min a (1 : Int)) (2048 : Int)) ≤ bif false then max (bif true then max a (1 : Int) else min a (1 : Int)) (2048 : Int) else min (bif true then max a (1 : Int) else min a (1 : Int)) (2048 : Int)) ∧ ((129 : Int) * bif false then max (bif true then max a (1 : Int) else min a (1 : Int)) (2048 : Int) else min (bif true then max a (1 : Int) else min a (1 : Int)) (2048 : Int)) ≤ (281474976710656 : Int) ∧ ∃ b : Unit, 0 = 0 ∧ (0 = 0 ∧ (bif false then max (bif true then max a (1 : Int) else min a (1 : Int)) (2048 : Int) else min (bif true then max a (1 : Int) else min a (1 : Int)) (2048 : Int)).toNat = (devNew a).n ∧ (bif false then max (bif true then max a (1 : Int) else min a (1 : Int)) (2048 : Int) else min (bif true then max a (1 : Int) else min a (1 : Int)) (2048 : Int)).toNat = (devNew a).n) ∧ 0 = (↑(devNew a).calls : Int) ∧ ((devNew a).n ≤ (bif false then max (bif true then max a (1 : Int) else min a (1 : Int)) (2048 : Int) else min (bif true then max a (1 : Int) else min a (1 : Int)) (2048 : Int)).toNat ∧ RowsEq (devNew a).n 129 (fun (x j : Nat) => [Value.int IntKind.u8 (0 : Int), Value.int IntKind.u8 (0 : Int), Value.int IntKind.u8 (0 : Int), Value.int IntKind.u8 (0 : Int), Value.int IntKind.u8 (0 : Int), Value.int IntKind.u8 (0 : Int), Value.int IntKind.u8 (0 : Int), Value.int IntKind.u8 (0 : Int), Value.int IntKind.u8 (0 : Int), Value.int IntKind.u8 (0 : Int), Value.int IntKind.u8 (0 : Int), Value.int IntKind.u8 (0 : Int), Value.int IntKind.u8 (0 : Int), Value.int IntKind.u8 (0 : Int), Value.int IntKind.u8 (0 : Int), Value.int IntKind.u8 (0 : Int), Value.int IntKind.u8 (0 : Int), Value.int IntKind.u8 (0 : Int), Value.int IntKind.u8 (0 : Int), Value.int IntKind.u8 (0 : Int), Value.int IntKind.u8 (0 : Int), Value.int IntKind.u8 (0 : Int), Value.int IntKind.u8 (0 : Int), Value.int IntKind.u8 (0 : Int), Value.int IntKind.u8 (0 : Int), Value.int IntKind.u8 (0 : Int), Value.int IntKind.u8 (0 : Int), Value.int IntKind.u8 (0 : Int), Value.int IntKind.u8 (0 : Int), Value.int IntKind.u8 (0 : Int), Value.int IntKind.u8 (0 : Int), Value.int IntKind.u8 (0 : Int), Value.int IntKind.u8 (0 : Int), Value.int IntKind.u8 (0 : Int), Value.int IntKind.u8 (0 : Int), Value.int IntKind.u8 (0 : Int), Value.int IntKind.u8 (0 : Int), Value.int IntKind.u8 (0 : Int), Value.int IntKind.u8 (0 : Int), Value.int IntKind.u8 (0 : Int), Value.int IntKind.u8 (0 : Int), Value.int IntKind.u8 (0 : Int), Value.int IntKind.u8 (0 : Int), Value.int IntKind.u8 (0 : Int), Value.int IntKind.u8 (0 : Int), Value.int IntKind.u8 (0 : Int), Value.int IntKind.u8 (0 : Int), Value.int IntKind.u8 (0 : Int), Value.int IntKind.u8 (0 : Int), Value.int IntKind.u8 (0 : Int), Value.int IntKind.u8 (0 : Int), Value.int IntKind.u8 (0 : Int), Value.int IntKind.u8 (0 : Int), Value.int IntKind.u8 (0 : Int), Value.int IntKind.u8 (0 : Int), Value.int IntKind.u8 (0 : Int), Value.int IntKind.u8 (0 : Int), Value.int IntKind.u8 (0 : Int), Value.int IntKind.u8 (0 : Int), Value.int IntKind.u8 (0 : Int), Value.int IntKind.u8 (0 : Int), Value.int IntKind.u8 (0 : Int), Value.int IntKind.u8 (0 : Int), Value.int IntKind.u8 (0 : Int), Value.int IntKind.u8 (0 : Int), Value.int IntKind.u8 (0 : Int), Value.int IntKind.u8 (0 : Int), Value.int IntKind.u8 (0 : Int), Value.int IntKind.u8 (0 : Int), Value.int IntKind.u8 (0 : Int), Value.int IntKind.u8 (0 : Int), Value.int IntKind.u8 (0 : Int), Value.int IntKind.u8 (0 : Int), Value.int IntKind.u8 (0 : Int), Value.int IntKind.u8 (0 : Int), Value.int IntKind.u8 (0 : Int), Value.int IntKind.u8 (0 : Int), Value.int IntKind.u8 (0 : Int), Value.int IntKind.u8 (0 : Int), Value.int IntKind.u8 (0 : Int), Value.int IntKind.u8 (0 : Int), Value.int IntKind.u8 (0 : Int), Value.int IntKind.u8 (0 : Int), Value.int IntKind.u8 (0 : Int), Value.int IntKind.u8 (0 : Int), Value.int IntKind.u8 (0 : Int), Value.int IntKind.u8 (0 : Int), Value.int IntKind.u8 (0 : Int), Value.int IntKind.u8 (0 : Int), Value.int IntKind.u8 (0 : Int), Value.int IntKind.u8 (0 : Int), Value.int IntKind.u8 (0 : Int), Value.int IntKind.u8 (0 : Int), Value.int IntKind.u8 (0 : Int), Value.int IntKind.u8 (0 : Int), Value.int IntKind.u8 (0 : Int), Value.int IntKind.u8 (0 : Int), Value.int IntKind.u8 (0 : Int), Value.int IntKind.u8 (0 : Int), Value.int IntKind.u8 (0 : Int), Value.int IntKind.u8 (0 : Int), Value.int IntKind.u8 (0 : Int), Value.int IntKind.u8 (0 : Int), Value.int IntKind.u8 (0 : Int), Value.int IntKind.u8 (0 : Int), Value.int IntKind.u8 (0 : Int), Value.int IntKind.u8 (0 : Int), Value.int IntKind.u8 (0 : Int), Value.int IntKind.u8 (0 : Int), Value.int IntKind.u8 (0 : Int), Value.int IntKind.u8 (0 : Int), Value.int IntKind.u8 (0 : Int), Value.int IntKind.u8 (0 : Int), Value.int IntKind.u8 (0 : Int), Value.int IntKind.u8 (0 : Int), Value.int IntKind.u8 (0 : Int), Value.int IntKind.u8 (0 : Int), Value.int IntKind.u8 (0 : Int), Value.int IntKind.u8 (0 : Int), Value.int IntKind.u8 (0 : Int), Value.int IntKind.u8 (0 : Int), Value.int IntKind.u8 (0 : Int), Value.int IntKind.u8 (0 : Int), Value.int IntKind.u8 (0 : Int), Value.int IntKind.u8 (0 : Int), Value.int IntKind.u8 (0 : Int), Value.int IntKind.u8 (0 : Int), Value.int IntKind.u8 (0 : Int), Value.bool false].getD j (Value.tuple #[])) (rowsD (devNew a))) ∧ 
 True ∧ True) (by kernel_rfl) (by
 intro n _
 simp only [cond_true, cond_false, Nat.zero_add]
 have e : min (max n 1) 2048 = ((min (max n 1) 2048).toNat : Int) := by omega
 refine ⟨by omega, by omega, by omega, (), (by trivial), ⟨(by trivial), (by trivial), (by trivial)⟩, (by trivial), ⟨Nat.le_refl _, ⟨fun i hi j hj => ?_⟩⟩, trivial, trivial⟩
 show (List.replicate 128 (Value.int .u8 0) ++ [Value.bool false]).getD j undef = _
 unfold rowsD devNew
 dsimp only
 simp only [List.getD_eq_getElem?_getD, List.getElem?_append, List.length_replicate, List.getElem?_replicate]
 by_cases h1 : j < 64
 ·rw [if_pos (by omega), if_pos (by omega), if_pos h1]; rfl
 ·by_cases h2 : j < 128
  ·rw [if_pos h2, if_pos h2, if_neg h1, if_pos h2]; rfl
  ·rw [if_neg h2, if_neg h1, if_neg h2, show j = 128 by omega]; rfl)
theorem updR_at {rows : Nat → Nat → Value} {row c i j : Nat} {vs : List Value} : updR rows row c vs i j = if (c ≤ j ∧ j < c + vs.length) ∧ i = row then vs.getD (j - c) undef else rows i j := by
 have e1 : ∀ a b : Nat, Nat.ble a b = decide (a ≤ b) := fun a b => by rw [Bool.eq_iff_iff]; simp
 have e2 : ∀ a b : Nat, Nat.blt a b = decide (a < b) := fun a b => e1 _ _
 unfold updR
 rw [e1, e2]
 by_cases h1 : c ≤ j <;> by_cases h2 : j < c + vs.length <;> by_cases h3 : i = row <;> simp [h1, h2, h3]
theorem range_at {f : Nat → Value} {n j : Nat} (h : j < n) : ((List.range n).map f).getD j undef = f j := by
 simp [List.getD_eq_getElem?_getD, List.getElem?_range h]
def devWr (d : DevM) (i len : Nat) (src : Nat → Int) : DevM := ⟨d.n, fun r j => if r = i ∧ j < len then src j else d.now r j, d.lasts, fun r => if r = i then true else d.loose r, d.calls + 1⟩
/-- rows of one byte each -/
def rowsB (f : Nat → Int) : Nat → Nat → Value := fun i _ => .int .u8 (f i)
structure WrA where
 d : DevM
 i : Nat
 r : Nat
 len : Nat
 cap : Nat
 n : Nat
 src : Nat → Int
noncomputable def cDevWrite : Con where
 α := WrA
 β := Unit
 m := 3
 m' := 3
 pre := fun a => a.i < a.d.n ∧ a.d.n < 100000 ∧ a.len ≤ 64 ∧ a.r + a.len ≤ a.n ∧ a.d.calls < 1000000000000
 args := fun a => [.a (.ptr 0 0 0 0), .a (.int .i64 a.i), .a (.slc 2 a.r 1 a.len a.cap)]
 hp := fun a => devHp 0 1 a.d
 ro := fun a => [(2, .arr 5 [.int .u8] a.n (rowsB a.src))]
 post := fun _ _ => True
 res := fun _ _ => .a (.int .i64 0)
 hp' := fun a _ => devHp 0 1 (devWr a.d a.i a.len fun j => a.src (a.r + j))
set_option maxHeartbeats 4000000 in
theorem bodyDevWrite : fnBody (Y Tryz.prog) [] 101 cDevWrite fun _ => [] := fnBody.of (p :=
 ∀ a : WrA, a.i < a.d.n ∧ a.d.n < 100000 ∧ a.len ≤ 64 ∧ a.r + a.len ≤ a.n ∧ a.d.calls < 1000000000000 → (decide ((↑a.i : Int) < 0) = true → ∃ b : Unit, (4 : Int) = 0 ∧ devQ a.d (devWr a.d a.i a.len fun (j : Nat) => a.src (a.r + j)) (True ∧ True)) ∧ (decide ((↑a.i : Int) < 0) = false → (decide ((↑a.d.n : Int) ≤ (↑a.i : Int)) = true → ∃ b : Unit, (4 : Int) = 0 ∧ devQ a.d (devWr a.d a.i a.len fun (j : Nat) => a.src (a.r + j)) (True ∧ True)) ∧ (decide ((↑a.d.n : Int) ≤ (↑a.i : Int)) = false → (decide (64 < (↑a.len : Int)) = true → ∃ b : Unit, (1 : Int) = 0 ∧ devQ a.d (devWr a.d a.i a.len fun (j : Nat) => a.src (a.r + j)) (True ∧ True)) ∧ (decide (64 < (↑a.len : Int)) = false → (0 ≤ (↑a.i : Int) ∧ (↑a.i : Int) < (↑a.d.n : Int)) ∧ 0 < 64 ∧ 0 + (↑a.i : Int).toNat < a.d.n ∧ a.r + a.len ≤ a.n ∧ (0 ≤ (↑a.i : Int) ∧ (↑a.i : Int) < (↑a.d.n : Int)) ∧ 0 + (↑a.i : Int).toNat < a.d.n ∧ (InR .i64 (↑a.d.calls : Int) → InR .i64 ((↑a.d.calls : Int) + 1) ∧ ∃ b : Unit, (0 : Int) = 0 ∧ (0 = 0 ∧ a.d.n = (devWr a.d a.i a.len fun (j : Nat) => a.src (a.r + j)).n ∧ a.d.n = (devWr a.d a.i a.len fun (j : Nat) => a.src (a.r + j)).n) ∧ (↑a.d.calls : Int) + 1 = (↑(devWr a.d a.i a.len fun (j : Nat) => a.src (a.r + j)).calls : Int) ∧ ((devWr a.d a.i a.len fun (j : Nat) => a.src (a.r + j)).n ≤ a.d.n ∧ RowsEq (devWr a.d a.i a.len fun (j : Nat) => a.src (a.r + j)).n 129 (updR (cpCells (rowsD a.d) (0 + (↑a.i : Int).toNat) 0 (min a.len 64) fun (i j : Nat) => Value.int IntKind.u8 (a.src (a.r + i))) (0 + (↑a.i : Int).toNat) 128 [Value.bool true]) (rowsD (devWr a.d a.i a.len fun (j : Nat) => a.src (a.r + j)))) ∧ 
 True ∧ True))))) (by kernel_rfl) (by
 intro a h
 obtain ⟨h1, h2, h3, h4, h5⟩ := h
 have e1 : decide ((a.i : Int) < 0) = false := by simp
 have e2 : decide ((a.d.n : Int) ≤ a.i) = false := by simp; omega
 have e3 : decide ((64 : Int) < a.len) = false := by simp; omega
 simp only [e1, e2, e3, Nat.zero_add, Int.toNat_natCast, InR]
 refine ⟨fun e => (by cases e), fun _ => ⟨fun e => (by cases e), fun _ => ⟨fun e => (by cases e), fun _ => ⟨by omega, by omega, by omega, by omega, by omega, by omega, fun _ => ⟨by omega, (), (by trivial), ⟨(by trivial), (by trivial), (by trivial)⟩, (by trivial), ⟨Nat.le_refl _, ⟨fun i hi j hj => ?_⟩⟩, trivial, trivial⟩⟩⟩⟩⟩
 rw [updR_at, show min a.len 64 = a.len by omega]
 simp only [rowsD, devWr, cpCells, rowsB, List.length_singleton]
 by_cases h6 : i = a.i
 ·subst h6
  by_cases g1 : j < 64
  ·by_cases g2 : j < a.len
   ·simp [g1, g2, show ¬ (128 ≤ j) by omega]
   ·simp [g1, g2, show ¬ (128 ≤ j) by omega]
  ·by_cases g3 : j < 128
   ·simp [g1, g3, show ¬ (128 ≤ j) by omega, show ¬ (j < a.len) by omega]
   ·simp [g1, g3, show j = 128 by omega]
 ·simp [h6])
def devFl (d : DevM) : DevM := ⟨d.n, d.now, d.now, fun _ => false, d.calls + 1⟩
def devFlTo (d : DevM) (i : Nat) : DevM := ⟨d.n, d.now, fun r j => if r < i then d.now r j else d.lasts r j, fun r => if r < i then false else d.loose r, d.calls⟩
noncomputable def cDevFlush : Con where
 α := DevM
 β := Unit
 m := 2
 m' := 2
 pre := fun d => d.n < 100000 ∧ d.calls < 1000000000000
 args := fun a => [.a (.ptr 0 0 0 0)]
 hp := fun d => devHp 0 1 d
 ro := fun _ => []
 post := fun _ _ => True
 res := fun _ _ => .a (.int .i64 0)
 hp' := fun d _ => devHp 0 1 (devFl d)
def iDevFl (d : DevM) : An := .flat 4 Nat (fun s i => (s.at_ (s.in_ (s.tg 0) 0) (.arr 93 ksSec d.n (rowsD (devFlTo d i)))).int 11 i) (fun _ i => i ≤ d.n) (fun _ i => d.n - i)
set_option maxHeartbeats 4000000 in
theorem bodyDevFlush : fnBody (Y Tryz.prog) [] 64 cDevFlush fun d => [(64, [iDevFl d], [])] := fnBody.of (p :=
 ∀ a : DevM, a.n < 100000 ∧ a.calls < 1000000000000 → (∃ a_2 : Nat, 0 = (↑a_2 : Int) ∧ (↑a.n : Int) = (↑a.n : Int) ∧ false = false ∧ (0 : Int) = 0 ∧ 0 = 0 ∧ (0 = 0 ∧ a.n = a.n ∧ a.n = a.n) ∧ (↑a.calls : Int) = (↑a.calls : Int) ∧ (a.n ≤ a.n ∧ RowsEq a.n 129 (rowsD a) (rowsD (devFlTo a a_2))) ∧ a_2 ≤ a.n ∧ True) ∧ ∀ a_2 : Nat, a_2 ≤ a.n → (decide ((↑a_2 : Int) < (↑a.n : Int)) = true → (0 ≤ (↑a_2 : Int) ∧ (↑a_2 : Int) < (↑a.n : Int)) ∧ 0 + (↑a_2 : Int).toNat < a.n ∧ (0 ≤ (↑a_2 : Int) ∧ (↑a_2 : Int) < (↑a.n : Int)) ∧ 0 + (↑a_2 : Int).toNat < a.n ∧ (0 ≤ (↑a_2 : Int) ∧ (↑a_2 : Int) < (↑a.n : Int)) ∧ 0 + (↑a_2 : Int).toNat < a.n ∧ InR .i64 ((↑a_2 : Int) + 1) ∧ ∃ (a' : Nat), (↑a_2 : Int) + 1 = (↑a' : Int) ∧ (↑a.n : Int) = (↑a.n : Int) ∧ false = false ∧ (0 : Int) = 0 ∧ 0 = 0 ∧ (0 = 0 ∧ a.n = a.n ∧ a.n = a.n) ∧ (↑a.calls : Int) = (↑a.calls : Int) ∧ (a.n ≤ a.n ∧ RowsEq a.n 129 (updR (updR (rowsD (devFlTo a a_2)) (0 + (↑a_2 : Int).toNat) 64 ((List.range 64).map (fun k_ => Value.int IntKind.u8 ((devFlTo a a_2).now (0 + (↑a_2 : Int).toNat) k_)))) (0 + (↑a_2 : Int).toNat) 128 [Value.bool false]) (rowsD (devFlTo a a'))) ∧ a' ≤ a.n ∧ a.n - a' < a.n - a_2) ∧ (decide ((↑a_2 : Int) < (↑a.n : Int)) = false → InR .i64 (↑a.calls : Int) → InR .i64 ((↑a.calls : Int) + 1) ∧ ∃ b : Unit, (0 : Int) = 0 ∧ (0 = 0 ∧ a.n = (devFl a).n ∧ a.n = (devFl a).n) ∧ (↑a.calls : Int) + 1 = (↑(devFl a).calls : Int) ∧ ((devFl a).n ≤ a.n ∧ RowsEq (devFl a).n 129 (rowsD (devFlTo a a_2)) (rowsD (devFl a))) ∧ True ∧ True)) (by kernel_rfl) (by
 intro d h
 obtain ⟨h1, h2⟩ := h
 simp only [Nat.zero_add, Int.toNat_natCast, InR]
 refine ⟨⟨0, (by trivial), (by trivial), (by trivial), (by trivial), (by trivial), ⟨(by trivial), (by trivial), (by trivial)⟩, (by trivial), ⟨Nat.le_refl _, ⟨fun i hi j hj => ?_⟩⟩, by omega, trivial⟩, fun k hk => ⟨fun c1 => ?_, fun c1 _ => ?_⟩⟩
 ·simp only [rowsD, devFlTo, Nat.not_lt_zero, if_false]
 ·have hk : k < d.n := by simpa using c1
  refine ⟨by omega, by omega, by omega, by omega, by omega, by omega, by omega, k + 1, by omega, (by trivial), (by trivial), (by trivial), (by trivial), ⟨(by trivial), (by trivial), (by trivial)⟩, (by trivial), ⟨Nat.le_refl _, ⟨fun i hi j hj => ?_⟩⟩, by omega, by omega⟩
  refine Eq.trans (b := updR (updR (rowsD (devFlTo d k)) k 64 ((List.range 64).map fun j => .int .u8 ((devFlTo d k).now k j))) k 128 [.bool false] i j) rfl ?_
  rw [updR_at, updR_at]
  simp only [List.length_singleton, List.length_map, List.length_range]
  by_cases h6 : i = k
  ·subst h6
   by_cases g1 : j < 64
   ·simp [rowsD, devFlTo, g1, show ¬ (128 ≤ j) by omega, show ¬ (64 ≤ j) by omega]
   ·by_cases g3 : j < 128
    ·rw [if_neg (by omega), if_pos (by omega), range_at (by omega)]
     simp [rowsD, devFlTo, g1, g3]
    ·simp [rowsD, devFlTo, g1, g3, show j = 128 by omega]
  ·rw [if_neg (by omega), if_neg (by omega)]
   simp only [rowsD, devFlTo, show (i < k + 1) = (i < k) by simp; omega]
 ·have hk : k = d.n := by simp at c1; omega
  subst hk
  refine ⟨by omega, (), (by trivial), ⟨(by trivial), (by trivial), (by trivial)⟩, (by trivial), ⟨Nat.le_refl _, ⟨fun i hi j hj => ?_⟩⟩, trivial, trivial⟩
  have hi : i < d.n := hi
  simp only [rowsD, devFlTo, devFl, hi, if_true])
structure RdA where
 d : DevM
 i : Nat
noncomputable def cDevRead : Con where
 α := RdA
 β := Nat
 m := 2
 m' := 3
 pre := fun a => a.i < a.d.n ∧ a.d.n < 100000
 args := fun a => [.a (.ptr 0 0 0 0), .a (.int .i64 a.i)]
 hp := fun _ => []
 ro := fun a => devHp 0 1 a.d
 post := fun _ c => 64 ≤ c
 res := fun _ c => .tup [.a (.slc 2 0 1 64 c), .a (.int .i64 0)]
 hp' := fun a c => [(2, .arr 5 [.int .u8] 64 (rowsB (a.d.now a.i)))]
set_option maxHeartbeats 4000000 in
theorem bodyDevRead : fnBody (Y Tryz.prog) [] 69 cDevRead fun _ => [] := fnBody.of (p :=
 ∀ a : RdA, a.i < a.d.n ∧ a.d.n < 100000 → (decide ((↑a.i : Int) < 0) = true → ∃ b : Nat, (0 = 64 ∧ 0 = b) ∧ (4 : Int) = 0 ∧ 64 = 0 ∧ 64 ≤ b ∧ True) ∧ (decide ((↑a.i : Int) < 0) = false → (decide ((↑a.d.n : Int) ≤ (↑a.i : Int)) = true → ∃ b : Nat, (0 = 64 ∧ 0 = b) ∧ (4 : Int) = 0 ∧ 64 = 0 ∧ 64 ≤ b ∧ True) ∧ (decide ((↑a.d.n : Int) ≤ (↑a.i : Int)) = false → (0 ≤ (↑a.i : Int) ∧ (↑a.i : Int) < (↑a.d.n : Int)) ∧ 0 < 64 ∧ 0 ≤ 0 ∧ 0 + (↑a.i : Int).toNat < a.d.n ∧ 64 ≤ 140737488355328 ∧ ∀ cap : Nat, 64 ≤ cap → cap ≤ lenMax → (64 ≤ 0 → cap = 0) → ∃ b : Nat, (0 = 0 ∧ 64 = 64 ∧ cap = b) ∧ (0 : Int) = 0 ∧ (64 ≤ 64 ∧ RowsEq 64 1 (appRows (flatRows 1 []) 0 0 fun (i x : Nat) => rowsD a.d (0 + (↑a.i : Int).toNat) (0 + i)) (rowsB (a.d.now a.i))) ∧ 64 ≤ b ∧ True))) (by kernel_rfl) (by
 intro a h
 obtain ⟨h1, h2⟩ := h
 have e1 : decide ((a.i : Int) < 0) = false := by simp
 have e2 : decide ((a.d.n : Int) ≤ a.i) = false := by simp; omega
 simp only [e1, e2, Nat.zero_add, Int.toNat_natCast]
 refine ⟨fun e => (by cases e), fun _ => ⟨fun e => (by cases e), fun _ => ⟨by omega, by omega, by omega, by omega, by omega, fun cap hc1 hc2 hc3 => ⟨cap, ⟨(by trivial), (by trivial), (by trivial)⟩, (by trivial), ⟨Nat.le_refl _, ⟨fun i hi j hj => ?_⟩⟩, hc1, trivial⟩⟩⟩⟩
 simp only [appRows, rowsB, Nat.not_lt_zero, if_false, Nat.sub_zero, rowsD, if_pos hi])
/-- which loose sectors are kept -/
def cntL (d : DevM) : Nat → Nat
 | 0 => 0
 | i + 1 => if d.loose i then cntL d i + 1 else cntL d i
def crashNow (d : DevM) (klen : Nat) (keep : Nat → Bool) (r j : Nat) : Int := if d.loose r && decide (cntL d r < klen) && keep (cntL d r) then d.now r j else d.lasts r j
def devCrash (d : DevM) (klen : Nat) (keep : Nat → Bool) : DevM := ⟨d.n, crashNow d klen keep, crashNow d klen keep, fun _ => false, 0⟩
def crashTo (d : DevM) (klen : Nat) (keep : Nat → Bool) (i : Nat) : DevM := ⟨d.n, fun r j => if r < i then crashNow d klen keep r j else 0, fun r j => if r < i then crashNow d klen keep r j else 0, fun _ => false, 0⟩
theorem crash_step {d : DevM} {klen k : Nat} {keep : Nat → Bool} (src : Nat → Int) (h : ∀ j, crashNow d klen keep k j = src j) : RowsEq d.n 129 (updR (rowsD (crashTo d klen keep k)) k 0
 ((List.range 64).map (fun j => .int .u8 (src j)) ++ (List.range 64).map (fun j => .int .u8 (src j)) ++ [.bool false])) (rowsD (crashTo d klen keep (k + 1))) := by
 refine ⟨fun i hi j hj => ?_⟩
 rw [updR_at]
 simp only [List.length_append, List.length_singleton, List.length_map, List.length_range, Nat.zero_le, Nat.zero_add, true_and, Nat.sub_zero, List.getD_eq_getElem?_getD, List.getElem?_append]
 by_cases h6 : i = k
 ·subst h6
  rw [if_pos (by omega)]
  by_cases g1 : j < 64
  ·rw [if_pos (by omega), if_pos (by omega), List.getElem?_map, List.getElem?_range g1]
   simp [rowsD, crashTo, g1, h]
  ·by_cases g3 : j < 128
   ·rw [if_pos (by omega), if_neg (by omega), List.getElem?_map, List.getElem?_range (by omega)]
    simp [rowsD, crashTo, g1, g3, h]
   ·rw [if_neg (by omega), show j - (64 + 64) = 0 by omega]
    simp [rowsD, crashTo, g1, g3]
 ·rw [if_neg (by omega)]
  simp only [rowsD, crashTo, show (i < k + 1) = (i < k) by simp; omega]
structure CrashA where
 d : DevM
 kr : Nat
 klen : Nat
 kcap : Nat
 kn : Nat
 keep : Nat → Bool
noncomputable def cDevCrash : Con where
 α := CrashA
 β := Unit
 m := 3
 m' := 5
 pre := fun a => 1 ≤ a.d.n ∧ a.d.n ≤ 2048 ∧ a.kr + a.klen ≤ a.kn ∧ a.klen < 100000
 args := fun a => [.a (.ptr 0 0 0 0), .a (.slc 2 a.kr 1 a.klen a.kcap)]
 hp := fun _ => []
 ro := fun a => devHp 0 1 a.d ++ [(2, .arr 4 [.bool] a.kn fun i _ => .bool (a.keep i))]
 post := fun _ _ => True
 res := fun _ _ => .a (.ptr 3 0 0 0)
 hp' := fun a _ => devHp 3 4 (devCrash a.d a.klen fun i => a.keep (a.kr + i))
def iDevCrash (a : CrashA) : An := .flat 6 Nat (fun s i => ((s.at_ (s.in_ (s.tg 5) 0) (.arr 93 ksSec a.d.n (rowsD (crashTo a.d a.klen (fun i => a.keep (a.kr + i)) i)))).int 23 i).int 6 (cntL a.d i)) (fun _ i => i ≤ a.d.n) (fun _ i => a.d.n - i)
set_option maxHeartbeats 4000000 in
theorem bodyDevCrash : fnBody (Y Tryz.prog) [(9, cDevNew)] 21 cDevCrash fun a => [(21, [iDevCrash a], [])] := fnBody.of (p :=
 ∀ a : CrashA, 1 ≤ a.d.n ∧ a.d.n ≤ 2048 ∧ a.kr + a.klen ≤ a.kn ∧ a.klen < 100000 → ∃ a_2 : Int, (↑a.d.n : Int) = a_2 ∧ True ∧ ∀ b : Unit, True → (∃ a_4 : Nat, 0 = (↑(cntL a.d a_4) : Int) ∧ 0 = (↑a_4 : Int) ∧ (↑a.d.n : Int) = (↑a.d.n : Int) ∧ (0 = 0 ∧ a.d.n = a.d.n ∧ a.d.n = a.d.n) ∧ 0 = 0 ∧ false = false ∧ 0 = 0 ∧ (a.kr = a.kr ∧ a.klen = a.klen ∧ a.kcap = a.kcap) ∧ (0 = 0 ∧ (devNew a_2).n = (devNew a_2).n ∧ (devNew a_2).n = (devNew a_2).n) ∧ (↑(devNew a_2).calls : Int) = (↑(devNew a_2).calls : Int) ∧ (a.d.n ≤ (devNew a_2).n ∧ RowsEq a.d.n 129 (rowsD (devNew a_2)) (rowsD (crashTo a.d a.klen (fun (i : Nat) => a.keep (a.kr + i)) a_4))) ∧ devQ a.d a.d ((a.kn ≤ a.kn ∧ RowsEq a.kn 1 (fun (i x : Nat) => Value.bool (a.keep i)) fun (i x : Nat) => Value.bool (a.keep i)) ∧ a_4 ≤ a.d.n ∧ True)) ∧ ∀ a_4 : Nat, a_4 ≤ a.d.n → (decide ((↑a_4 : Int) < (↑a.d.n : Int)) = true → (0 ≤ (↑a_4 : Int) ∧ (↑a_4 : Int) < (↑a.d.n : Int)) ∧ 0 + (↑a_4 : Int).toNat < a.d.n ∧ (a.d.loose (0 + (↑a_4 : Int).toNat) = true → (decide ((↑(cntL a.d a_4) : Int) < (↑a.klen : Int)) = true → (0 ≤ (↑(cntL a.d a_4) : Int) ∧ (↑(cntL a.d a_4) : Int) < (↑a.klen : Int)) ∧ a.kr + (↑(cntL a.d a_4) : Int).toNat < a.kn ∧ (a.keep (a.kr + (↑(cntL a.d a_4) : Int).toNat) = true → InR .i64 ((↑(cntL a.d a_4) : Int) + 1) ∧ (0 ≤ (↑a_4 : Int) ∧ (↑a_4 : Int) < (↑(devNew a_2).n : Int)) ∧ 0 + (↑a_4 : Int).toNat < a.d.n ∧ InR .i64 ((↑a_4 : Int) + 1) ∧ ∃ (a' : Nat), (↑(cntL a.d a_4) : Int) + 1 = (↑(cntL a.d a') : Int) ∧ (↑a_4 : Int) + 1 = (↑a' : Int) ∧ 
 (↑a.d.n : Int) = (↑a.d.n : Int) ∧ (0 = 0 ∧ a.d.n = a.d.n ∧ a.d.n = a.d.n) ∧ 0 = 0 ∧ false = false ∧ 0 = 0 ∧ (a.kr = a.kr ∧ a.klen = a.klen ∧ a.kcap = a.kcap) ∧ (0 = 0 ∧ (devNew a_2).n = (devNew a_2).n ∧ (devNew a_2).n = (devNew a_2).n) ∧ (↑(devNew a_2).calls : Int) = (↑(devNew a_2).calls : Int) ∧ (a.d.n ≤ a.d.n ∧ RowsEq a.d.n 129 (updR (rowsD (crashTo a.d a.klen (fun (i : Nat) => a.keep (a.kr + i)) a_4)) (0 + (↑a_4 : Int).toNat) 0 ((List.range 64).map (fun k_ => Value.int IntKind.u8 (a.d.now (0 + (↑a_4 : Int).toNat) k_)) ++ (List.range 64).map (fun k_ => Value.int IntKind.u8 (a.d.now (0 + (↑a_4 : Int).toNat) k_)) ++ [Value.bool false])) (rowsD (crashTo a.d a.klen (fun (i : Nat) => a.keep (a.kr + i)) a'))) ∧ devQ a.d a.d ((a.kn ≤ a.kn ∧ RowsEq a.kn 1 (fun (i x : Nat) => Value.bool (a.keep i)) fun (i x : Nat) => Value.bool (a.keep i)) ∧ a' ≤ a.d.n ∧ a.d.n - a' < a.d.n - a_4)) ∧ (a.keep (a.kr + (↑(cntL a.d a_4) : Int).toNat) = false → InR .i64 ((↑(cntL a.d a_4) : Int) + 1) ∧ (0 ≤ (↑a_4 : Int) ∧ (↑a_4 : Int) < (↑(devNew a_2).n : Int)) ∧ 0 + (↑a_4 : Int).toNat < a.d.n ∧ InR .i64 ((↑a_4 : Int) + 1) ∧ ∃ (a' : Nat), (↑(cntL a.d a_4) : Int) + 1 = (↑(cntL a.d a') : Int) ∧ (↑a_4 : Int) + 1 = (↑a' : Int) ∧ (↑a.d.n : Int) = (↑a.d.n : Int) ∧ (0 = 0 ∧ a.d.n = a.d.n ∧ a.d.n = a.d.n) ∧ 0 = 0 ∧ false = false ∧ 0 = 0 ∧ (a.kr = a.kr ∧ a.klen = a.klen ∧ a.kcap = a.kcap) ∧ (0 = 0 ∧ (devNew a_2).n = (devNew a_2).n ∧ (devNew a_2).n = (devNew a_2).n) ∧ (↑(devNew a_2).calls : Int) = (↑(devNew a_2).calls : Int) ∧ 
 (a.d.n ≤ a.d.n ∧ RowsEq a.d.n 129 (updR (rowsD (crashTo a.d a.klen (fun (i : Nat) => a.keep (a.kr + i)) a_4)) (0 + (↑a_4 : Int).toNat) 0 ((List.range 64).map (fun k_ => Value.int IntKind.u8 (a.d.lasts (0 + (↑a_4 : Int).toNat) k_)) ++ (List.range 64).map (fun k_ => Value.int IntKind.u8 (a.d.lasts (0 + (↑a_4 : Int).toNat) k_)) ++ [Value.bool false])) (rowsD (crashTo a.d a.klen (fun (i : Nat) => a.keep (a.kr + i)) a'))) ∧ devQ a.d a.d ((a.kn ≤ a.kn ∧ RowsEq a.kn 1 (fun (i x : Nat) => Value.bool (a.keep i)) fun (i x : Nat) => Value.bool (a.keep i)) ∧ a' ≤ a.d.n ∧ a.d.n - a' < a.d.n - a_4))) ∧ (decide ((↑(cntL a.d a_4) : Int) < (↑a.klen : Int)) = false → InR .i64 ((↑(cntL a.d a_4) : Int) + 1) ∧ (0 ≤ (↑a_4 : Int) ∧ (↑a_4 : Int) < (↑(devNew a_2).n : Int)) ∧ 0 + (↑a_4 : Int).toNat < a.d.n ∧ InR .i64 ((↑a_4 : Int) + 1) ∧ ∃ (a' : Nat), (↑(cntL a.d a_4) : Int) + 1 = (↑(cntL a.d a') : Int) ∧ (↑a_4 : Int) + 1 = (↑a' : Int) ∧ (↑a.d.n : Int) = (↑a.d.n : Int) ∧ (0 = 0 ∧ a.d.n = a.d.n ∧ a.d.n = a.d.n) ∧ 0 = 0 ∧ false = false ∧ 0 = 0 ∧ (a.kr = a.kr ∧ a.klen = a.klen ∧ a.kcap = a.kcap) ∧ (0 = 0 ∧ (devNew a_2).n = (devNew a_2).n ∧ (devNew a_2).n = (devNew a_2).n) ∧ (↑(devNew a_2).calls : Int) = (↑(devNew a_2).calls : Int) ∧ (a.d.n ≤ a.d.n ∧ RowsEq a.d.n 129 (updR (rowsD (crashTo a.d a.klen (fun (i : Nat) => a.keep (a.kr + i)) a_4)) (0 + (↑a_4 : Int).toNat) 0 ((List.range 64).map (fun k_ => Value.int IntKind.u8 (a.d.lasts (0 + (↑a_4 : Int).toNat) k_)) ++ (List.range 64).map (fun k_ => Value.int IntKind.u8 (a.d.lasts (0 + (↑a_4 : Int).toNat) k_)) ++ [Value.bool false])) (rowsD (crashTo a.d a.klen (fun (i : Nat) => a.keep (a.kr + i)) a'))) ∧ 
 devQ a.d a.d ((a.kn ≤ a.kn ∧ RowsEq a.kn 1 (fun (i x : Nat) => Value.bool (a.keep i)) fun (i x : Nat) => Value.bool (a.keep i)) ∧ a' ≤ a.d.n ∧ a.d.n - a' < a.d.n - a_4))) ∧ (a.d.loose (0 + (↑a_4 : Int).toNat) = false → (0 ≤ (↑a_4 : Int) ∧ (↑a_4 : Int) < (↑(devNew a_2).n : Int)) ∧ 0 + (↑a_4 : Int).toNat < a.d.n ∧ InR .i64 ((↑a_4 : Int) + 1) ∧ ∃ (a' : Nat), (↑(cntL a.d a_4) : Int) = (↑(cntL a.d a') : Int) ∧ (↑a_4 : Int) + 1 = (↑a' : Int) ∧ (↑a.d.n : Int) = (↑a.d.n : Int) ∧ (0 = 0 ∧ a.d.n = a.d.n ∧ a.d.n = a.d.n) ∧ 0 = 0 ∧ false = false ∧ 0 = 0 ∧ (a.kr = a.kr ∧ a.klen = a.klen ∧ a.kcap = a.kcap) ∧ (0 = 0 ∧ (devNew a_2).n = (devNew a_2).n ∧ (devNew a_2).n = (devNew a_2).n) ∧ (↑(devNew a_2).calls : Int) = (↑(devNew a_2).calls : Int) ∧ (a.d.n ≤ a.d.n ∧ RowsEq a.d.n 129 (updR (rowsD (crashTo a.d a.klen (fun (i : Nat) => a.keep (a.kr + i)) a_4)) (0 + (↑a_4 : Int).toNat) 0 ((List.range 64).map (fun k_ => Value.int IntKind.u8 (a.d.lasts (0 + (↑a_4 : Int).toNat) k_)) ++ (List.range 64).map (fun k_ => Value.int IntKind.u8 (a.d.lasts (0 + (↑a_4 : Int).toNat) k_)) ++ [Value.bool false])) (rowsD (crashTo a.d a.klen (fun (i : Nat) => a.keep (a.kr + i)) a'))) ∧ devQ a.d a.d ((a.kn ≤ a.kn ∧ RowsEq a.kn 1 (fun (i x : Nat) => Value.bool (a.keep i)) fun (i x : Nat) => Value.bool (a.keep i)) ∧ a' ≤ a.d.n ∧ a.d.n - a' < a.d.n - a_4))) ∧ (decide ((↑a_4 : Int) < (↑a.d.n : Int)) = false → ∃ b : Unit, 0 = 0 ∧ (0 = 0 ∧ (devNew a_2).n = (devCrash a.d a.klen fun (i : Nat) => a.keep (a.kr + i)).n ∧ (devNew a_2).n = (devCrash a.d a.klen fun (i : Nat) => a.keep (a.kr + i)).n) ∧ 
 (↑(devNew a_2).calls : Int) = (↑(devCrash a.d a.klen fun (i : Nat) => a.keep (a.kr + i)).calls : Int) ∧ ((devCrash a.d a.klen fun (i : Nat) => a.keep (a.kr + i)).n ≤ a.d.n ∧ RowsEq (devCrash a.d a.klen fun (i : Nat) => a.keep (a.kr + i)).n 129 (rowsD (crashTo a.d a.klen (fun (i : Nat) => a.keep (a.kr + i)) a_4)) (rowsD (devCrash a.d a.klen fun (i : Nat) => a.keep (a.kr + i)))) ∧ True ∧ True)) (by kernel_rfl) (by
 intro a h
 obtain ⟨h1, h2, h3, h4⟩ := h
 have ed : (devNew (a.d.n : Int)).n = a.d.n := by simp only [devNew]; omega
 refine ⟨(a.d.n : Int), rfl, trivial, fun _ _ => ⟨⟨0, ?_⟩, fun k hk => ⟨fun c1 => ?_, fun c1 => ?_⟩⟩⟩
 ·simp only [ed, Nat.zero_add]
  refine ⟨rfl, rfl, ?_⟩
  have e0 : RowsEq a.d.n 129 (rowsD (devNew a.d.n)) (rowsD (crashTo a.d a.klen (fun i => a.keep (a.kr + i)) 0)) := ⟨fun i hi j hj => by simp only [rowsD, devNew, crashTo, Nat.not_lt_zero, if_false]⟩
  (repeat' apply And.intro) <;> first | exact trivial | exact e0 | exact RowsEq.refl _ _ _ | exact Nat.le_refl _ | omega
 ·have hk : k < a.d.n := by simpa using c1
  have hc : cntL a.d k ≤ k := by
   clear c1 hk
   induction k with
   | zero => exact Nat.le_refl _
   | succ k ih => have := ih (by omega); simp only [cntL]; split <;> omega
  simp only [ed, Nat.zero_add, Int.toNat_natCast, InR]
  refine ⟨by omega, by omega, fun c2 => ⟨fun c3 => ⟨by simp at c3; omega, by simp at c3; omega, fun c4 => ?_, fun c4 => ?_⟩, fun c3 => ?_⟩, fun c2 => ?_⟩
  ·refine ⟨by omega, by omega, by omega, by omega, k + 1, by simp only [cntL, c2, if_true]; omega, by omega, ?_⟩
   have e1 := crash_step (d := a.d) (klen := a.klen) (k := k) (keep := fun i => a.keep (a.kr + i)) (fun j => a.d.now k j) (fun j => by simp at c3; simp [crashNow, c2, c3, c4])
   (repeat' apply And.intro) <;> first | exact trivial | exact e1 | exact RowsEq.refl _ _ _ | exact Nat.le_refl _ | omega
  ·refine ⟨by omega, by omega, by omega, by omega, k + 1, by simp only [cntL, c2, if_true]; omega, by omega, ?_⟩
   have e1 := crash_step (d := a.d) (klen := a.klen) (k := k) (keep := fun i => a.keep (a.kr + i)) (fun j => a.d.lasts k j) (fun j => by simp at c3; simp [crashNow, c4])
   (repeat' apply And.intro) <;> first | exact trivial | exact e1 | exact RowsEq.refl _ _ _ | exact Nat.le_refl _ | omega
  ·refine ⟨by omega, by omega, by omega, by omega, k + 1, by simp only [cntL, c2, if_true]; omega, by omega, ?_⟩
   have e1 := crash_step (d := a.d) (klen := a.klen) (k := k) (keep := fun i => a.keep (a.kr + i)) (fun j => a.d.lasts k j) (fun j => by simp at c3; simp [crashNow, show ¬ (cntL a.d k < a.klen) by omega])
   (repeat' apply And.intro) <;> first | exact trivial | exact e1 | exact RowsEq.refl _ _ _ | exact Nat.le_refl _ | omega
  ·refine ⟨by omega, by omega, by omega, k + 1, by simp only [cntL, c2]; simp, by omega, ?_⟩
   have e1 := crash_step (d := a.d) (klen := a.klen) (k := k) (keep := fun i => a.keep (a.kr + i)) (fun j => a.d.lasts k j) (fun j => by simp [crashNow, c2])
   (repeat' apply And.intro) <;> first | exact trivial | exact e1 | exact RowsEq.refl _ _ _ | exact Nat.le_refl _ | omega
 ·have hk : k = a.d.n := by simp at c1; omega
  subst hk
  simp only [ed]
  refine ⟨(), (by trivial), ⟨(by trivial), (by trivial), (by trivial)⟩, (by trivial), ⟨Nat.le_refl _, ⟨fun i hi j hj => ?_⟩⟩, trivial, trivial⟩
  have hi : i < a.d.n := hi
  simp only [rowsD, crashTo, devCrash, hi, if_true])
theorem callDevNew : CallsBy (Y Tryz.prog).G.X 9 cDevNew := fn_ok okY (tab := []) trivial bodyDevNew
theorem callDevWrite : CallsBy (Y Tryz.prog).G.X 101 cDevWrite := fn_ok okY (tab := []) trivial bodyDevWrite
theorem callDevFlush : CallsBy (Y Tryz.prog).G.X 64 cDevFlush := fn_ok okY (tab := []) trivial bodyDevFlush
theorem callDevRead : CallsBy (Y Tryz.prog).G.X 69 cDevRead := fn_ok okY (tab := []) trivial bodyDevRead
theorem callDevCrash : CallsBy (Y Tryz.prog).G.X 21 cDevCrash := fn_ok okY (tab := [(9, cDevNew)]) ⟨callDevNew, trivial⟩ bodyDevCrash
end Go.Proofs.YtfobhkibkdmglaaGreat

namespace Go.Proofs.YtfobhkibkdmglaaGreat
open Go.Sx
set_option maxRecDepth 100000
set_option linter.unusedVariables false
set_option linter.unusedSimpArgs false

/-- bytes as rows -/
def encB (x : Int) : List Value := [.int .u8 x]
/-- a number's groups of seven bits, so many at most -/
def vbF : Nat → Nat → List Int
 | 0, u => [(u : Int)]
 | k + 1, u => if u < 128 then [(u : Int)] else ((u % 128 + 128 : Nat) : Int) :: vbF k (u / 128)
theorem vbF_len : ∀ (k u : Nat), 1 ≤ (vbF k u).length ∧ (vbF k u).length ≤ k + 1
 | 0, u => by simp [vbF]
 | k + 1, u => by
  unfold vbF
  split
  ·simp
  ·have := vbF_len k (u / 128)
   simp only [List.length_cons]; omega
theorem or128 (x : Nat) : ibits .or .u8 (uw .u8 x) 128 = ((x % 128 + 128 : Nat) : Int) := by
 have h : ∀ y : Fin 256, ibits .or .u8 (y.1 : Int) 128 = ((y.1 % 128 + 128 : Nat) : Int) := by decide +kernel
 have e : uw .u8 (x : Int) = ((x % 256 : Nat) : Int) := by simp only [uw]; omega
 have := h ⟨x % 256, by omega⟩
 rw [e, this]
 simp only; omega
def vi (n : Int) : List Int := vbF 9 (2 * n.toNat)
def byteHp (t : Nat) (l : List Int) : List (Nat × Chunk) := [(t, .arr 5 [.int .u8] l.length (encRows encB l))]
def S.bytes (s : S) (slot : Nat) (l : List Int) (cap : Nat) : S := ((s.put (s.hp.del (s.tg slot))).new (.arr 5 [.int .u8] l.length (encRows encB l))).set slot (.a (.slc s.nx 0 1 l.length cap))

structure NPutA where
 l : List Int
 cap : Nat
 n : Int
noncomputable def cNPut : Con where
 α := NPutA
 β := Nat
 m := 1
 m' := 2
 pre := fun a => a.l.length < 100000 ∧ 0 ≤ a.n ∧ a.n < 4611686018427387904
 args := fun a => [.a (.slc 0 0 1 a.l.length a.cap), .a (.int .i64 a.n)]
 hp := fun a => byteHp 0 a.l
 ro := fun _ => []
 post := fun _ _ => True
 res := fun a c => .a (.slc 1 0 1 (a.l ++ vi a.n).length c)
 hp' := fun a c => byteHp 1 (a.l ++ vi a.n)
structure NPutS where
 l : List Int
 u : Nat
 k : Nat
 cap : Nat
def iNPut (a : NPutA) : An := .flat 4 NPutS (fun s x => (S.bytes s 0 x.l x.cap).set 5 (.a (.int .u64 x.u))) (fun _ x => x.l ++ vbF x.k x.u = a.l ++ vi a.n ∧ x.u < 128 ^ (x.k + 1) ∧ x.k ≤ 9) (fun _ x => x.u)
set_option maxHeartbeats 4000000 in
theorem bodyNPut : fnBody (Y Tryz.prog) [] 83 cNPut fun a => [(83, [iNPut a], [])] := fnBody.of (p :=
 ∀ a : NPutA, a.l.length < 100000 ∧ (0 : Int) ≤ a.n ∧ a.n < (4611686018427387904 : Int) → (0 : Int) ≤ 1 ∧ (decide (a.n < (0 : Int)) = true → (∃ a_3 : NPutS, ibits Go.BinOp.xor IntKind.u64 (18446744073709551615 : Int) (uw .u64 (uw .u64 a.n * (2 : Int))) = (↑a_3.u : Int) ∧ (0 = 0 ∧ a.l.length = a_3.l.length ∧ a.cap = a_3.cap) ∧ decide (a.n < (0 : Int)) = decide (a.n < (0 : Int)) ∧ a.n = a.n ∧ (a_3.l.length ≤ a.l.length ∧ RowsEq a_3.l.length 1 (encRows encB a.l) (encRows encB a_3.l)) ∧ (a_3.l ++ vbF a_3.k a_3.u = a.l ++ vi a.n ∧ a_3.u < 128 ^ (a_3.k + 1) ∧ a_3.k ≤ 9) ∧ True) ∧ ∀ a_3 : NPutS, a_3.l ++ vbF a_3.k a_3.u = a.l ++ vi a.n ∧ a_3.u < 128 ^ (a_3.k + 1) ∧ a_3.k ≤ 9 → (decide (127 < (↑a_3.u : Int)) = true → 0 + a_3.l.length ≤ a_3.l.length ∧ 1 ≤ 1 ∧ (a_3.l.length + 1) * 1 ≤ 140737488355328 ∧ ∀ cap : Nat, a_3.l.length + 1 ≤ cap → cap ≤ lenMax → (a_3.l.length + 1 ≤ a_3.cap → cap = a_3.cap) → (0 : Int) ≤ 7 ∧ ∃ (a' : NPutS), (↑a_3.u : Int) / 128 = (↑a'.u : Int) ∧ (0 = 0 ∧ a_3.l.length + 1 = a'.l.length ∧ cap = a'.cap) ∧ decide (a.n < (0 : Int)) = decide (a.n < (0 : Int)) ∧ a.n = a.n ∧ (a'.l.length ≤ a_3.l.length + 1 ∧ RowsEq a'.l.length 1 (appRows (encRows encB a_3.l) 0 a_3.l.length fun (i j : Nat) => flatRows 1 [Value.int IntKind.u8 (ibits Go.BinOp.or IntKind.u8 (uw .u8 (↑a_3.u : Int)) (128 : Int))] (0 + i) j) (encRows encB a'.l)) ∧ (a'.l ++ vbF a'.k a'.u = a.l ++ vi a.n ∧ a'.u < 128 ^ (a'.k + 1) ∧ a'.k ≤ 9) ∧ a'.u < a_3.u) ∧ (decide (127 < (↑a_3.u : Int)) = false → 0 + a_3.l.length ≤ a_3.l.length ∧ 
 1 ≤ 1 ∧ (a_3.l.length + 1) * 1 ≤ 140737488355328 ∧ ∀ cap : Nat, a_3.l.length + 1 ≤ cap → cap ≤ lenMax → (a_3.l.length + 1 ≤ a_3.cap → cap = a_3.cap) → ∃ b : Nat, (0 = 0 ∧ a_3.l.length + 1 = (a.l ++ vi a.n).length ∧ cap = b) ∧ ((a.l ++ vi a.n).length ≤ a_3.l.length + 1 ∧ RowsEq (a.l ++ vi a.n).length 1 (appRows (encRows encB a_3.l) 0 a_3.l.length fun (i j : Nat) => flatRows 1 [Value.int IntKind.u8 (uw .u8 (↑a_3.u : Int))] (0 + i) j) (encRows encB (a.l ++ vi a.n))) ∧ True ∧ True)) ∧ (decide (a.n < (0 : Int)) = false → (∃ a_3 : NPutS, uw .u64 (uw .u64 a.n * (2 : Int)) = (↑a_3.u : Int) ∧ (0 = 0 ∧ a.l.length = a_3.l.length ∧ a.cap = a_3.cap) ∧ decide (a.n < (0 : Int)) = decide (a.n < (0 : Int)) ∧ a.n = a.n ∧ (a_3.l.length ≤ a.l.length ∧ RowsEq a_3.l.length 1 (encRows encB a.l) (encRows encB a_3.l)) ∧ (a_3.l ++ vbF a_3.k a_3.u = a.l ++ vi a.n ∧ a_3.u < 128 ^ (a_3.k + 1) ∧ a_3.k ≤ 9) ∧ True) ∧ ∀ a_3 : NPutS, a_3.l ++ vbF a_3.k a_3.u = a.l ++ vi a.n ∧ a_3.u < 128 ^ (a_3.k + 1) ∧ a_3.k ≤ 9 → (decide (127 < (↑a_3.u : Int)) = true → 0 + a_3.l.length ≤ a_3.l.length ∧ 1 ≤ 1 ∧ (a_3.l.length + 1) * 1 ≤ 140737488355328 ∧ ∀ cap : Nat, a_3.l.length + 1 ≤ cap → cap ≤ lenMax → (a_3.l.length + 1 ≤ a_3.cap → cap = a_3.cap) → (0 : Int) ≤ 7 ∧ ∃ (a' : NPutS), (↑a_3.u : Int) / 128 = (↑a'.u : Int) ∧ (0 = 0 ∧ a_3.l.length + 1 = a'.l.length ∧ cap = a'.cap) ∧ decide (a.n < (0 : Int)) = decide (a.n < (0 : Int)) ∧ a.n = a.n ∧ (a'.l.length ≤ a_3.l.length + 1 ∧ RowsEq a'.l.length 1 (appRows (encRows encB a_3.l) 0 a_3.l.length fun (i j : Nat) => flatRows 1 [Value.int IntKind.u8 (ibits Go.BinOp.or IntKind.u8 (uw .u8 (↑a_3.u : Int)) (128 : Int))] (0 + i) j) (encRows encB a'.l)) ∧ 
 (a'.l ++ vbF a'.k a'.u = a.l ++ vi a.n ∧ a'.u < 128 ^ (a'.k + 1) ∧ a'.k ≤ 9) ∧ a'.u < a_3.u) ∧ (decide (127 < (↑a_3.u : Int)) = false → 0 + a_3.l.length ≤ a_3.l.length ∧ 1 ≤ 1 ∧ (a_3.l.length + 1) * 1 ≤ 140737488355328 ∧ ∀ cap : Nat, a_3.l.length + 1 ≤ cap → cap ≤ lenMax → (a_3.l.length + 1 ≤ a_3.cap → cap = a_3.cap) → ∃ b : Nat, (0 = 0 ∧ a_3.l.length + 1 = (a.l ++ vi a.n).length ∧ cap = b) ∧ ((a.l ++ vi a.n).length ≤ a_3.l.length + 1 ∧ RowsEq (a.l ++ vi a.n).length 1 (appRows (encRows encB a_3.l) 0 a_3.l.length fun (i j : Nat) => flatRows 1 [Value.int IntKind.u8 (uw .u8 (↑a_3.u : Int))] (0 + i) j) (encRows encB (a.l ++ vi a.n))) ∧ True ∧ True))) (by kernel_rfl) (by
 rintro ⟨l, cap, n⟩ ⟨h1, h2, h3⟩
 dsimp only at h1 h2 h3 ⊢
 have e0 : decide (n < 0) = false := by simp; omega
 have e1 : uw .u64 (uw .u64 n * 2) = ((2 * n.toNat : Nat) : Int) := by simp only [uw]; omega
 have hv := vbF_len 9 (2 * n.toNat)
 rw [e0, e1]
 refine ⟨by omega, fun e => (by cases e), fun _ => ⟨⟨⟨l, 2 * n.toNat, 9, cap⟩, ?_⟩, fun x hx => ?_⟩⟩
 ·dsimp only
  (repeat' apply And.intro) <;> first | trivial | exact RowsEq.refl _ _ _ | exact Nat.le_refl _ | (simp only [vi]) | omega | skip
 ·obtain ⟨l', u, k, cap'⟩ := x
  obtain ⟨g1, g2, g3⟩ := hx
  dsimp only at g1 g2 g3 ⊢
  have hl := congrArg List.length g1
  have hv2 := vbF_len k u
  simp only [List.length_append, vi] at hl
  refine ⟨fun c1 => ⟨by omega, by omega, by omega, fun c hc1 hc2 hc3 => ⟨by omega, ⟨l' ++ [((u % 128 + 128 : Nat) : Int)], u / 128, k - 1, c⟩, ?_⟩⟩, fun c1 => ⟨by omega, by omega, by omega, fun c hc1 hc2 hc3 => ⟨c, ?_⟩⟩⟩
  ·have c1 : 127 < u := by simp at c1; omega
   obtain ⟨k', rfl⟩ : ∃ k', k = k' + 1 := ⟨k - 1, by
    by_cases hk : k = 0
    ·subst hk; simp at g2; omega
    ·omega⟩
   have g1' : (l' ++ [((u % 128 + 128 : Nat) : Int)]) ++ vbF k' (u / 128) = l ++ vi n := by
    rw [← g1, List.append_assoc]
    congr 1
    rw [show vbF (k' + 1) u = ((u % 128 + 128 : Nat) : Int) :: vbF k' (u / 128) from if_neg (by omega)]; rfl
   have g4 : u / 128 < 128 ^ (k' + 1) := by
    rw [Nat.pow_succ] at g2
    exact Nat.div_lt_of_lt_mul (by rw [Nat.mul_comm]; exact g2)
   simp only [Nat.add_sub_cancel]
   (repeat' apply And.intro) <;> first | trivial | with_reducible rfl | exact g1' | exact g4 | omega | (simp; done) | skip
   refine .push rfl (by simp) ?_
   show [_] = [_]
   simp only [flatRows, encB, Nat.add_zero, Nat.zero_mul, List.getD_cons_zero, or128]
  ·have c1 : u < 128 := by simp at c1; omega
   have e5 : vbF k u = [(u : Int)] := by
    cases k with
    | zero => rfl
    | succ k => exact if_pos (by simp at c1; omega)
   rw [e5] at g1
   rw [← g1]
   (repeat' apply And.intro) <;> first | trivial | with_reducible rfl | omega | (simp; done) | skip
   refine .push rfl (by simp) ?_
   show [_] = [_]
   simp only [flatRows, encB, Nat.add_zero, Nat.zero_mul, List.getD_cons_zero, uw]
   rw [Int.emod_eq_of_lt (by omega) (by omega)])
theorem vi_len (n : Int) : 1 ≤ (vi n).length ∧ (vi n).length ≤ 10 := vbF_len 9 _
theorem callNPut : CallsBy (Y Tryz.prog).G.X 83 cNPut := fn_ok okY (tab := []) trivial bodyNPut

/-! ### entries -/

structure ItemM where
 key : ByteArray
 val : ByteArray
 e : Int
 gone : Bool
 deriving Inhabited
def ksItem : List CK := [.str, .str, .int .i64, .bool]
def encItem (x : ItemM) : List Value := [.string x.key, .string x.val, .int .i64 x.e, .bool x.gone]
def itemA (x : ItemM) : List A := [.str x.key, .str x.val, .int .i64 x.e, .bool x.gone]
def keyB (k : ByteArray) : Bool := !decide (k = ByteArray.mk #[]) && decide (k.size ≤ 40)
def mayB (x : ItemM) : Bool := keyB x.key && decide (x.val.size ≤ 200) && decide (0 ≤ x.e) && decide (x.e ≤ 1099511627776) && (!x.gone || decide (x.val = ByteArray.mk #[]) && decide (x.e = 0))
def liveB (x : ItemM) (now : Int) : Bool := mayB x && !x.gone && (decide (x.e = 0) || decide (now < x.e))
noncomputable def cKey : Con where
 α := ByteArray
 β := Unit
 m := 0
 m' := 0
 pre := fun _ => True
 args := fun k => [.a (.str k)]
 hp := fun _ => []
 ro := fun _ => []
 post := fun _ _ => True
 res := fun k _ => .a (.bool (keyB k))
 hp' := fun _ _ => []
set_option maxHeartbeats 4000000 in
theorem bodyKey : fnBody (Y Tryz.prog) [] 38 cKey fun _ => [] := fnBody.of (p :=
 ∀ a : ByteArray, True → ((!decide (a = (ByteArray.mk #[]))) = true → ∃ b : Unit, decide ((↑a.size : Int) ≤ 40) = keyB a ∧ True ∧ True) ∧ ((!decide (a = (ByteArray.mk #[]))) = false → ∃ b : Unit, false = keyB a ∧ True ∧ True)) (by kernel_rfl) (by
 intro k _
 refine ⟨fun h => ⟨(), ?_, trivial, trivial⟩, fun h => ⟨(), ?_, trivial, trivial⟩⟩
 ·simp only [keyB, h, Bool.true_and]
  exact decide_eq_decide.2 (by omega)
 ·simp only [keyB, h]; rfl)
noncomputable def cMay : Con where
 α := ItemM
 β := Unit
 m := 0
 m' := 0
 pre := fun _ => True
 args := fun x => [.agg (itemA x)]
 hp := fun _ => []
 ro := fun _ => []
 post := fun _ _ => True
 res := fun x _ => .a (.bool (mayB x))
 hp' := fun _ _ => []
set_option maxHeartbeats 4000000 in
theorem bodyMay : fnBody (Y Tryz.prog) [(38, cKey)] 34 cMay fun _ => [] := fnBody.of (p :=
 ∀ a : ItemM, True → ∃ a_2 : ByteArray, a.key = a_2 ∧ True ∧ ∀ b : Unit, True → ((!keyB a_2) = true → ∃ b : Unit, false = mayB a ∧ True ∧ True) ∧ ((!keyB a_2) = false → (decide (200 < (↑a.val.size : Int)) = true → ∃ b : Unit, false = mayB a ∧ True ∧ True) ∧ (decide (200 < (↑a.val.size : Int)) = false → InR .i64 a.e → (decide (a.e < (0 : Int)) = true → ∃ b : Unit, false = mayB a ∧ True ∧ True) ∧ (decide (a.e < (0 : Int)) = false → InR .i64 a.e → (decide ((1099511627776 : Int) < a.e) = true → ∃ b : Unit, false = mayB a ∧ True ∧ True) ∧ (decide ((1099511627776 : Int) < a.e) = false → ((!a.gone) = true → ∃ b : Unit, true = mayB a ∧ True ∧ True) ∧ ((!a.gone) = false → (decide (a.val = (ByteArray.mk #[])) = true → InR .i64 a.e → ∃ b : Unit, (a.e == (0 : Int)) = mayB a ∧ True ∧ True) ∧ (decide (a.val = (ByteArray.mk #[])) = false → ∃ b : Unit, false = mayB a ∧ True ∧ True))))))) (by kernel_rfl) (by
 intro x _
 have hv : x.val = ByteArray.mk #[] → x.val.size = 0 := fun e => by rw [e]; rfl
 refine ⟨x.key, rfl, trivial, fun _ _ => ?_⟩
 repeat' (first | intro _ | apply And.intro | apply Exists.intro ())
 all_goals (try exact trivial)
 all_goals (try simp only [Bool.not_eq_true', Bool.not_eq_false', decide_eq_true_eq, decide_eq_false_iff_not] at *)
 all_goals (simp only [mayB]; rw [Bool.eq_iff_iff]; simp only [Bool.and_eq_true, Bool.or_eq_true, Bool.not_eq_true', decide_eq_true_eq, beq_iff_eq]; grind))
structure LiveA where
 x : ItemM
 now : Int
noncomputable def cLive : Con where
 α := LiveA
 β := Unit
 m := 0
 m' := 0
 pre := fun _ => True
 args := fun a => [.agg (itemA a.x), .a (.int .i64 a.now)]
 hp := fun _ => []
 ro := fun _ => []
 post := fun _ _ => True
 res := fun a _ => .a (.bool (liveB a.x a.now))
 hp' := fun _ _ => []
set_option maxHeartbeats 4000000 in
theorem bodyLive : fnBody (Y Tryz.prog) [(34, cMay)] 48 cLive fun _ => [] := fnBody.of (p :=
 ∀ a : LiveA, True → ∃ a_2 : ItemM, a.x.key = a_2.key ∧ a.x.val = a_2.val ∧ a.x.e = a_2.e ∧ a.x.gone = a_2.gone ∧ True ∧ ∀ b : Unit, True → (mayB a_2 = true → ((!a.x.gone) = true → InR .i64 a.x.e → ((a.x.e == (0 : Int)) = true → ∃ b : Unit, true = liveB a.x a.now ∧ True ∧ True) ∧ ((a.x.e == (0 : Int)) = false → InR .i64 a.x.e → ∃ b : Unit, decide (a.now < a.x.e) = liveB a.x a.now ∧ True ∧ True)) ∧ ((!a.x.gone) = false → ∃ b : Unit, false = liveB a.x a.now ∧ True ∧ True)) ∧ (mayB a_2 = false → ∃ b : Unit, false = liveB a.x a.now ∧ True ∧ True)) (by kernel_rfl) (by
 rintro ⟨x, now⟩ _
 refine ⟨x, rfl, rfl, rfl, rfl, trivial, fun _ _ => ?_⟩
 dsimp only
 repeat' (first | intro _ | apply And.intro | apply Exists.intro ())
 all_goals (try exact trivial)
 all_goals (try simp only [Bool.not_eq_true', Bool.not_eq_false', decide_eq_true_eq, decide_eq_false_iff_not] at *)
 all_goals (simp only [liveB]; rw [Bool.eq_iff_iff]; simp only [Bool.and_eq_true, Bool.or_eq_true, Bool.not_eq_true', decide_eq_true_eq, beq_iff_eq]; (try simp only [Bool.not_eq_true'] at *); grind))
theorem take_push {α : Type} [Inhabited α] {l : List α} {i : Nat} (h : i < l.length) : l.take (i + 1) = l.take i ++ [gl l i] := by
 rw [gl_eq h, List.take_add_one, List.getElem?_eq_getElem h]; rfl
theorem flatMap_push {α β : Type} [Inhabited α] {l : List α} {f : α → List β} {i : Nat} (h : i < l.length) : (l.take (i + 1)).flatMap f = (l.take i).flatMap f ++ f (gl l i) := by
 rw [take_push h, List.flatMap_append]; simp
theorem flatMap_all {α β : Type} {l : List α} {f : α → List β} {i : Nat} (h : ¬ i < l.length) : (l.take i).flatMap f = l.flatMap f := by
 rw [List.take_of_length_le (by omega)]
theorem flatMap_len {α β : Type} [Inhabited α] {l : List α} {f : α → List β} {m : Nat} (h : ∀ i, i < l.length → (f (gl l i)).length ≤ m) : (l.flatMap f).length ≤ l.length * m := by
 induction l with
 | nil => simp
 | cons x r ih =>
  have h0 := h 0 (by simp)
  have := ih fun i hi => h (i + 1) (by simp; omega)
  simp only [List.flatMap_cons, List.length_append, List.length_cons, Nat.succ_mul] at *
  simp only [gl, List.getD_cons_zero] at h0
  omega
theorem flatMap_take_len {α β : Type} [Inhabited α] {l : List α} {f : α → List β} {m : Nat} (h : ∀ i, i < l.length → (f (gl l i)).length ≤ m) (k : Nat) (hk : k ≤ l.length) : ((l.take k).flatMap f).length ≤ k * m := by
 have := flatMap_len (l := l.take k) (f := f) (m := m) fun i hi => by
  simp at hi
  have e : gl (l.take k) i = gl l i := by unfold gl; rw [List.getD_eq_getElem?_getD, List.getElem?_take_of_lt (by omega), List.getD_eq_getElem?_getD]
  rw [e]; exact h i (by omega)
 simpa [Nat.min_eq_left hk] using this
/-- a text's bytes -/
def txB (t : ByteArray) : List Int := t.data.toList.map fun b => (b.toNat : Int)
def encI (x : Int) : List Value := [.int .i64 x]
def encT (x : ByteArray) : List Value := [.string x]
def putsB (ns : List Int) : List Int := ns.flatMap vi
def textsB (ts : List ByteArray) : List Int := ts.flatMap fun t => vi t.size ++ txB t
theorem txB_len (t : ByteArray) : (txB t).length = t.size := by rw [txB, List.length_map]; rfl
theorem bytes_rows (t : ByteArray) {m : Nat} (h : m ≤ t.size) : RowsEq m 1 (bytesRows t) (encRows encB (txB t)) := by
 refine ⟨fun i hi j hj => ?_⟩
 have hj : j = 0 := by omega
 have hs : t.size = t.data.size := rfl
 have hi' : i < t.data.size := by omega
 subst hj
 simp only [bytesRows, encRows, encB, List.getD_cons_zero, txB, gl]
 congr 1
 simp [List.getD_eq_getElem?_getD, Array.getD_eq_getD_getElem?, Array.getElem?_eq_getElem hi']
structure NPutsA where
 l : List Int
 cap : Nat
 ns : List Int
 ncap : Nat
noncomputable def cNPuts : Con where
 α := NPutsA
 β := Nat
 m := 2
 m' := 3
 pre := fun a => a.l.length < 10000 ∧ a.ns.length < 100 ∧ ∀ i, i < a.ns.length → 0 ≤ gl a.ns i ∧ gl a.ns i < 4611686018427387904
 args := fun a => [.a (.slc 0 0 1 a.l.length a.cap), .a (.slc 1 0 1 a.ns.length a.ncap)]
 hp := fun a => byteHp 0 a.l
 ro := fun a => [(1, .arr 2 [.int .i64] a.ns.length (encRows encI a.ns))]
 post := fun _ _ => True
 res := fun a c => .a (.slc 2 0 1 (a.l ++ putsB a.ns).length c)
 hp' := fun a c => byteHp 2 (a.l ++ putsB a.ns)
def iNPuts (a : NPutsA) : An := .flat 2 (Nat × Nat) (fun s x => (S.bytes s 0 (a.l ++ putsB (a.ns.take x.1)) x.2).int 9 x.1) (fun _ x => x.1 ≤ a.ns.length) (fun _ x => a.ns.length - x.1)
set_option maxHeartbeats 4000000 in
theorem bodyNPuts : fnBody (Y Tryz.prog) [(83, cNPut)] 62 cNPuts fun a => [(62, [iNPuts a], [])] := fnBody.of (p :=
 ∀ a : NPutsA, (a.l.length < 10000 ∧ a.ns.length < 100 ∧ ∀ i : Nat, i < a.ns.length → (0 : Int) ≤ gl a.ns i ∧ gl a.ns i < (4611686018427387904 : Int)) → (∃ a_2 : Nat × Nat, 0 = (↑a_2.fst : Int) ∧ (0 = 0 ∧ a.l.length = (a.l ++ putsB (List.take a_2.fst a.ns)).length ∧ a.cap = a_2.snd) ∧ (↑a.ns.length : Int) = (↑a.ns.length : Int) ∧ (0 = 0 ∧ a.ns.length = a.ns.length ∧ a.ncap = a.ncap) ∧ (0 = 0 ∧ a.ns.length = a.ns.length ∧ a.ncap = a.ncap) ∧ ((a.l ++ putsB (List.take a_2.fst a.ns)).length ≤ a.l.length ∧ RowsEq (a.l ++ putsB (List.take a_2.fst a.ns)).length 1 (encRows encB a.l) (encRows encB (a.l ++ putsB (List.take a_2.fst a.ns)))) ∧ (a.ns.length ≤ a.ns.length ∧ RowsEq a.ns.length 1 (encRows encI a.ns) (encRows encI a.ns)) ∧ a_2.fst ≤ a.ns.length ∧ True) ∧ ∀ a_2 : Nat × Nat, a_2.fst ≤ a.ns.length → (decide ((↑a_2.fst : Int) < (↑a.ns.length : Int)) = true → (0 ≤ (↑a_2.fst : Int) ∧ (↑a_2.fst : Int) < (↑a.ns.length : Int)) ∧ 0 + (↑a_2.fst : Int).toNat < a.ns.length ∧ (InR .i64 (gl a.ns (0 + (↑a_2.fst : Int).toNat)) → ∃ a_6 : NPutA, (0 = 0 ∧ (a.l ++ putsB (List.take a_2.fst a.ns)).length = a_6.l.length ∧ a_2.snd = a_6.cap) ∧ gl a.ns (0 + (↑a_2.fst : Int).toNat) = a_6.n ∧ (a_6.l.length ≤ (a.l ++ putsB (List.take a_2.fst a.ns)).length ∧ RowsEq a_6.l.length 1 (encRows encB (a.l ++ putsB (List.take a_2.fst a.ns))) (encRows encB a_6.l)) ∧ (a_6.l.length < 100000 ∧ (0 : Int) ≤ a_6.n ∧ a_6.n < (4611686018427387904 : Int)) ∧ ∀ b : Nat, True → InR .i64 ((↑a_2.fst : Int) + 1) ∧ ∃ (a' : Nat × Nat), (↑a_2.fst : Int) + 1 = (↑a'.fst : Int) ∧ 
 (0 = 0 ∧ (a_6.l ++ vi a_6.n).length = (a.l ++ putsB (List.take a'.fst a.ns)).length ∧ b = a'.snd) ∧ (↑a.ns.length : Int) = (↑a.ns.length : Int) ∧ (0 = 0 ∧ a.ns.length = a.ns.length ∧ a.ncap = a.ncap) ∧ (0 = 0 ∧ a.ns.length = a.ns.length ∧ a.ncap = a.ncap) ∧ ((a.l ++ putsB (List.take a'.fst a.ns)).length ≤ (a_6.l ++ vi a_6.n).length ∧ RowsEq (a.l ++ putsB (List.take a'.fst a.ns)).length 1 (encRows encB (a_6.l ++ vi a_6.n)) (encRows encB (a.l ++ putsB (List.take a'.fst a.ns)))) ∧ (a.ns.length ≤ a.ns.length ∧ RowsEq a.ns.length 1 (encRows encI a.ns) (encRows encI a.ns)) ∧ a'.fst ≤ a.ns.length ∧ a.ns.length - a'.fst < a.ns.length - a_2.fst)) ∧ (decide ((↑a_2.fst : Int) < (↑a.ns.length : Int)) = false → ∃ b : Nat, (0 = 0 ∧ (a.l ++ putsB (List.take a_2.fst a.ns)).length = (a.l ++ putsB a.ns).length ∧ a_2.snd = b) ∧ ((a.l ++ putsB a.ns).length ≤ (a.l ++ putsB (List.take a_2.fst a.ns)).length ∧ RowsEq (a.l ++ putsB a.ns).length 1 (encRows encB (a.l ++ putsB (List.take a_2.fst a.ns))) (encRows encB (a.l ++ putsB a.ns))) ∧ True ∧ True)) (by kernel_rfl) (by
 rintro ⟨l, cap, ns, ncap⟩ ⟨h1, h2, h3⟩
 dsimp only at h1 h2 h3 ⊢
 have e0 : putsB (ns.take 0) = [] := rfl
 refine ⟨⟨(0, cap), ?_⟩, fun x hx => ?_⟩
 ·dsimp only
  rw [e0, List.append_nil]
  (repeat' apply And.intro) <;> first | trivial | with_reducible rfl | exact RowsEq.refl _ _ _ | exact Nat.le_refl _ | omega
 ·obtain ⟨i, c⟩ := x
  have hx : i ≤ ns.length := hx
  have ln : (putsB (ns.take i)).length ≤ i * 10 := flatMap_take_len (fun j _ => (vi_len _).2) i hx
  dsimp only
  simp only [Nat.zero_add, Int.toNat_natCast, InR]
  refine ⟨fun c1 => ?_, fun c1 => ?_⟩
  ·have hi : i < ns.length := by simpa using c1
   have hs : putsB (ns.take (i + 1)) = putsB (ns.take i) ++ vi (gl ns i) := flatMap_push hi
   have h3 := h3 i hi
   refine ⟨by omega, by omega, fun _ => ⟨⟨l ++ putsB (ns.take i), c, gl ns i⟩, ?_⟩⟩
   dsimp only
   rw [List.append_assoc, ← hs]
   (repeat' (first | apply And.intro | (intro _))) <;> first | trivial | with_reducible rfl | exact RowsEq.refl _ _ _ | exact Nat.le_refl _ | omega | (simp; omega) | skip
   apply Exists.intro ((i + 1, _) : Nat × Nat)
   (repeat' (first | apply And.intro | (intro _))) <;> first | trivial | with_reducible rfl | exact RowsEq.refl _ _ _ | exact Nat.le_refl _ | omega
  ·have hi : ¬ i < ns.length := by simpa using c1
   rw [show putsB (ns.take i) = putsB ns from flatMap_all hi]
   refine ⟨c, ?_⟩
   (repeat' (first | apply And.intro | (intro _))) <;> first | trivial | with_reducible rfl | exact RowsEq.refl _ _ _ | exact Nat.le_refl _ | omega)
structure NTextsA where
 l : List Int
 cap : Nat
 ts : List ByteArray
 tcap : Nat
noncomputable def cNTexts : Con where
 α := NTextsA
 β := Nat
 m := 2
 m' := 3
 pre := fun a => a.l.length < 10000 ∧ a.ts.length < 20 ∧ ∀ i, i < a.ts.length → (gl a.ts i).size ≤ 1000
 args := fun a => [.a (.slc 0 0 1 a.l.length a.cap), .a (.slc 1 0 1 a.ts.length a.tcap)]
 hp := fun a => byteHp 0 a.l
 ro := fun a => [(1, .arr 9 [.str] a.ts.length (encRows encT a.ts))]
 post := fun _ _ => True
 res := fun a c => .a (.slc 2 0 1 (a.l ++ textsB a.ts).length c)
 hp' := fun a c => byteHp 2 (a.l ++ textsB a.ts)
def iNTexts (a : NTextsA) : An := .flat 2 (Nat × Nat) (fun s x => (S.bytes s 0 (a.l ++ textsB (a.ts.take x.1)) x.2).int 9 x.1) (fun _ x => x.1 ≤ a.ts.length) (fun _ x => a.ts.length - x.1)
set_option maxHeartbeats 4000000 in
theorem bodyNTexts : fnBody (Y Tryz.prog) [(83, cNPut)] 63 cNTexts fun a => [(63, [iNTexts a], [])] := fnBody.of (p :=
 ∀ a : NTextsA, (a.l.length < 10000 ∧ a.ts.length < 20 ∧ ∀ i : Nat, i < a.ts.length → (gl a.ts i).size ≤ 1000) → (∃ a_2 : Nat × Nat, 0 = (↑a_2.fst : Int) ∧ (0 = 0 ∧ a.l.length = (a.l ++ textsB (List.take a_2.fst a.ts)).length ∧ a.cap = a_2.snd) ∧ (↑a.ts.length : Int) = (↑a.ts.length : Int) ∧ (0 = 0 ∧ a.ts.length = a.ts.length ∧ a.tcap = a.tcap) ∧ (0 = 0 ∧ a.ts.length = a.ts.length ∧ a.tcap = a.tcap) ∧ ((a.l ++ textsB (List.take a_2.fst a.ts)).length ≤ a.l.length ∧ RowsEq (a.l ++ textsB (List.take a_2.fst a.ts)).length 1 (encRows encB a.l) (encRows encB (a.l ++ textsB (List.take a_2.fst a.ts)))) ∧ (a.ts.length ≤ a.ts.length ∧ RowsEq a.ts.length 1 (encRows encT a.ts) (encRows encT a.ts)) ∧ a_2.fst ≤ a.ts.length ∧ True) ∧ ∀ a_2 : Nat × Nat, a_2.fst ≤ a.ts.length → (decide ((↑a_2.fst : Int) < (↑a.ts.length : Int)) = true → (0 ≤ (↑a_2.fst : Int) ∧ (↑a_2.fst : Int) < (↑a.ts.length : Int)) ∧ 0 + (↑a_2.fst : Int).toNat < a.ts.length ∧ ∃ a_5 : NPutA, (0 = 0 ∧ (a.l ++ textsB (List.take a_2.fst a.ts)).length = a_5.l.length ∧ a_2.snd = a_5.cap) ∧ (↑(gl a.ts (0 + (↑a_2.fst : Int).toNat)).size : Int) = a_5.n ∧ (a_5.l.length ≤ (a.l ++ textsB (List.take a_2.fst a.ts)).length ∧ RowsEq a_5.l.length 1 (encRows encB (a.l ++ textsB (List.take a_2.fst a.ts))) (encRows encB a_5.l)) ∧ (a_5.l.length < 100000 ∧ (0 : Int) ≤ a_5.n ∧ a_5.n < (4611686018427387904 : Int)) ∧ ∀ b : Nat, True → 0 + (a_5.l ++ vi a_5.n).length ≤ (a_5.l ++ vi a_5.n).length ∧ ((a_5.l ++ vi a_5.n).length + (gl a.ts (0 + (↑a_2.fst : Int).toNat)).size) * 1 ≤ 140737488355328 ∧ 
 ∀ cap : Nat, (a_5.l ++ vi a_5.n).length + (gl a.ts (0 + (↑a_2.fst : Int).toNat)).size ≤ cap → cap ≤ lenMax → ((a_5.l ++ vi a_5.n).length + (gl a.ts (0 + (↑a_2.fst : Int).toNat)).size ≤ b → cap = b) → InR .i64 ((↑a_2.fst : Int) + 1) ∧ ∃ (a' : Nat × Nat), (↑a_2.fst : Int) + 1 = (↑a'.fst : Int) ∧ (0 = 0 ∧ (a_5.l ++ vi a_5.n).length + (gl a.ts (0 + (↑a_2.fst : Int).toNat)).size = (a.l ++ textsB (List.take a'.fst a.ts)).length ∧ cap = a'.snd) ∧ (↑a.ts.length : Int) = (↑a.ts.length : Int) ∧ (0 = 0 ∧ a.ts.length = a.ts.length ∧ a.tcap = a.tcap) ∧ (0 = 0 ∧ a.ts.length = a.ts.length ∧ a.tcap = a.tcap) ∧ ((a.l ++ textsB (List.take a'.fst a.ts)).length ≤ (a_5.l ++ vi a_5.n).length + (gl a.ts (0 + (↑a_2.fst : Int).toNat)).size ∧ RowsEq (a.l ++ textsB (List.take a'.fst a.ts)).length 1 (appRows (encRows encB (a_5.l ++ vi a_5.n)) 0 (a_5.l ++ vi a_5.n).length (bytesRows (gl a.ts (0 + (↑a_2.fst : Int).toNat)))) (encRows encB (a.l ++ textsB (List.take a'.fst a.ts)))) ∧ (a.ts.length ≤ a.ts.length ∧ RowsEq a.ts.length 1 (encRows encT a.ts) (encRows encT a.ts)) ∧ a'.fst ≤ a.ts.length ∧ a.ts.length - a'.fst < a.ts.length - a_2.fst) ∧ (decide ((↑a_2.fst : Int) < (↑a.ts.length : Int)) = false → ∃ b : Nat, (0 = 0 ∧ (a.l ++ textsB (List.take a_2.fst a.ts)).length = (a.l ++ textsB a.ts).length ∧ a_2.snd = b) ∧ ((a.l ++ textsB a.ts).length ≤ (a.l ++ textsB (List.take a_2.fst a.ts)).length ∧ RowsEq (a.l ++ textsB a.ts).length 1 (encRows encB (a.l ++ textsB (List.take a_2.fst a.ts))) (encRows encB (a.l ++ textsB a.ts))) ∧ 
 True ∧ True)) (by kernel_rfl) (by
 rintro ⟨l, cap, ts, tcap⟩ ⟨h1, h2, h3⟩
 dsimp only at h1 h2 h3 ⊢
 have e0 : textsB (ts.take 0) = [] := rfl
 refine ⟨⟨(0, cap), ?_⟩, fun x hx => ?_⟩
 ·dsimp only
  rw [e0, List.append_nil]
  (repeat' apply And.intro) <;> first | trivial | with_reducible rfl | exact RowsEq.refl _ _ _ | exact Nat.le_refl _ | omega
 ·obtain ⟨i, c⟩ := x
  have hx : i ≤ ts.length := hx
  have ln : (textsB (ts.take i)).length ≤ i * 1010 := flatMap_take_len (fun j hj => by
   have := h3 j hj
   have := (vi_len ((gl ts j).size : Nat)).2
   rw [List.length_append, txB_len]; omega) i hx
  dsimp only
  simp only [Nat.zero_add, Int.toNat_natCast, InR]
  refine ⟨fun c1 => ?_, fun c1 => ?_⟩
  ·have hi : i < ts.length := by simpa using c1
   have hs : textsB (ts.take (i + 1)) = textsB (ts.take i) ++ (vi (gl ts i).size ++ txB (gl ts i)) := flatMap_push hi
   have h3 := h3 i hi
   have hv := vi_len ((gl ts i).size : Nat)
   refine ⟨by omega, by omega, ⟨⟨l ++ textsB (ts.take i), c, (gl ts i).size⟩, ?_⟩⟩
   dsimp only
   have hl2 : (l ++ textsB (ts.take i) ++ vi (gl ts i).size).length + (gl ts i).size = (l ++ textsB (ts.take (i + 1))).length := by
    rw [hs]; simp only [List.length_append, txB_len]; omega
   have hr2 : RowsEq (l ++ textsB (ts.take (i + 1))).length 1 (appRows (encRows encB (l ++ textsB (ts.take i) ++ vi (gl ts i).size)) 0 (l ++ textsB (ts.take i) ++ vi (gl ts i).size).length (bytesRows (gl ts i))) (encRows encB (l ++ textsB (ts.take (i + 1)))) := by
    rw [hs, ← List.append_assoc, ← List.append_assoc]
    refine .app rfl (.of_eq (by funext i; simp)) (bytes_rows _ (by simp only [List.length_append, txB_len]; omega))
   (repeat' (first | apply And.intro | (intro _) | apply Exists.intro ((i + 1, _) : Nat × Nat))) <;> first | trivial | with_reducible rfl | exact RowsEq.refl _ _ _ | exact Nat.le_refl _ | exact hr2 | exact hl2 | exact Nat.le_of_eq hl2.symm | omega | (dsimp only; omega) | (simp only [List.length_append]; omega)
  ·have hi : ¬ i < ts.length := by simpa using c1
   rw [show textsB (ts.take i) = textsB ts from flatMap_all hi]
   refine ⟨c, ?_⟩
   (repeat' (first | apply And.intro | (intro _))) <;> first | trivial | with_reducible rfl | exact RowsEq.refl _ _ _ | exact Nat.le_refl _ | omega)
def itemB (x : ItemM) : List Int := textsB [x.key, x.val] ++ putsB [x.e, if x.gone then 1 else 0]
def itemsB (xs : List ItemM) : List Int := xs.flatMap itemB
theorem may_out {x : ItemM} (h : mayB x = true) : x.key.size ≤ 40 ∧ x.val.size ≤ 200 ∧ 0 ≤ x.e ∧ x.e ≤ 1099511627776 := by
 simp only [mayB, keyB, Bool.and_eq_true, decide_eq_true_eq] at h
 exact ⟨h.1.1.1.1.2, h.1.1.1.2, h.1.1.2, h.1.2⟩
theorem itemB_len {x : ItemM} (h : mayB x = true) : (itemB x).length ≤ 300 := by
 obtain ⟨k1, k2, k3, k4⟩ := may_out h
 have a1 := (vi_len (x.key.size : Nat)).2
 have a2 := (vi_len (x.val.size : Nat)).2
 have a3 := (vi_len x.e).2
 have a4 := (vi_len (if x.gone then 1 else 0)).2
 simp only [itemB, textsB, putsB, List.flatMap_cons, List.flatMap_nil, List.length_append, txB_len, List.length_nil]; omega
structure EncA where
 xs : List ItemM
 cap : Nat
noncomputable def cEnc : Con where
 α := EncA
 β := Nat
 m := 1
 m' := 2
 pre := fun a => 1 ≤ a.xs.length ∧ a.xs.length < 20 ∧ ∀ i, i < a.xs.length → mayB (gl a.xs i) = true
 args := fun a => [.a (.slc 0 0 4 a.xs.length a.cap)]
 hp := fun _ => []
 ro := fun a => [(0, .arr 35 ksItem a.xs.length (encRows encItem a.xs))]
 post := fun _ _ => True
 res := fun a c => .a (.slc 1 0 1 (itemsB a.xs).length c)
 hp' := fun a c => byteHp 1 (itemsB a.xs)
def iEnc (a : EncA) : An := .flat 3 (Nat × Nat) (fun s x => ((s.new (.arr 5 [.int .u8] (itemsB (a.xs.take x.1)).length (encRows encB (itemsB (a.xs.take x.1))))).set 3 (.a (.slc s.nx 0 1 (itemsB (a.xs.take x.1)).length x.2))).int 9 x.1) (fun _ x => x.1 ≤ a.xs.length) (fun _ x => a.xs.length - x.1)
set_option maxHeartbeats 4000000 in
theorem bodyEnc : fnBody (Y Tryz.prog) [(34, cMay), (62, cNPuts), (63, cNTexts)] 36 cEnc fun a => [(36, [iEnc a], [])] := fnBody.of (p :=
 ∀ a : EncA, (1 ≤ a.xs.length ∧ a.xs.length < 20 ∧ ∀ i : Nat, i < a.xs.length → mayB (gl a.xs i) = true) → (∃ a_2 : Nat × Nat, 0 = (↑a_2.fst : Int) ∧ (0 = (itemsB (List.take a_2.fst a.xs)).length ∧ 0 = a_2.snd) ∧ (↑a.xs.length : Int) = (↑a.xs.length : Int) ∧ (0 = 0 ∧ a.xs.length = a.xs.length ∧ a.cap = a.cap) ∧ (0 = 0 ∧ a.xs.length = a.xs.length ∧ a.cap = a.cap) ∧ (itemsB (List.take a_2.fst a.xs)).length = 0 ∧ (a.xs.length ≤ a.xs.length ∧ RowsEq a.xs.length 4 (encRows encItem a.xs) (encRows encItem a.xs)) ∧ a_2.fst ≤ a.xs.length ∧ True) ∧ ∀ a_2 : Nat × Nat, a_2.fst ≤ a.xs.length → (decide ((↑a_2.fst : Int) < (↑a.xs.length : Int)) = true → (0 ≤ (↑a_2.fst : Int) ∧ (↑a_2.fst : Int) < (↑a.xs.length : Int)) ∧ 0 + (↑a_2.fst : Int).toNat < a.xs.length ∧ ∃ a_5 : ItemM, (gl a.xs (0 + (↑a_2.fst : Int).toNat)).key = a_5.key ∧ (gl a.xs (0 + (↑a_2.fst : Int).toNat)).val = a_5.val ∧ (gl a.xs (0 + (↑a_2.fst : Int).toNat)).e = a_5.e ∧ (gl a.xs (0 + (↑a_2.fst : Int).toNat)).gone = a_5.gone ∧ True ∧ ∀ b : Unit, True → ((!mayB a_5) = true → ∃ b : Nat, (0 = (itemsB a.xs).length ∧ 0 = b) ∧ (itemsB a.xs).length = 0 ∧ True ∧ True) ∧ ((!mayB a_5) = false → ((gl a.xs (0 + (↑a_2.fst : Int).toNat)).gone = true → InR .i64 (gl a.xs (0 + (↑a_2.fst : Int).toNat)).e → ((∃ a_10 : NTextsA, (0 = 0 ∧ (itemsB (List.take a_2.fst a.xs)).length = a_10.l.length ∧ a_2.snd = a_10.cap) ∧ (0 = 0 ∧ 2 = a_10.ts.length ∧ 2 = a_10.tcap) ∧ (a_10.l.length ≤ (itemsB (List.take a_2.fst a.xs)).length ∧ RowsEq a_10.l.length 1 (encRows encB (itemsB (List.take a_2.fst a.xs))) (encRows encB a_10.l)) ∧ 
 (a_10.ts.length ≤ 2 ∧ RowsEq a_10.ts.length 1 (flatRows 1 [Value.string (gl a.xs (0 + (↑a_2.fst : Int).toNat)).key, Value.string (gl a.xs (0 + (↑a_2.fst : Int).toNat)).val]) (encRows encT a_10.ts)) ∧ (a_10.l.length < 10000 ∧ a_10.ts.length < 20 ∧ ∀ i : Nat, i < a_10.ts.length → (gl a_10.ts i).size ≤ 1000) ∧ ∀ b : Nat, True → ∃ a_12 : NPutsA, (0 = 0 ∧ (a_10.l ++ textsB a_10.ts).length = a_12.l.length ∧ b = a_12.cap) ∧ (0 = 0 ∧ 2 = a_12.ns.length ∧ 2 = a_12.ncap) ∧ (a_12.l.length ≤ (a_10.l ++ textsB a_10.ts).length ∧ RowsEq a_12.l.length 1 (encRows encB (a_10.l ++ textsB a_10.ts)) (encRows encB a_12.l)) ∧ (a_12.ns.length ≤ 2 ∧ RowsEq a_12.ns.length 1 (flatRows 1 [Value.int IntKind.i64 (gl a.xs (0 + (↑a_2.fst : Int).toNat)).e, Value.int IntKind.i64 (1 : Int)]) (encRows encI a_12.ns)) ∧ (a_12.l.length < 10000 ∧ a_12.ns.length < 100 ∧ ∀ i : Nat, i < a_12.ns.length → (0 : Int) ≤ gl a_12.ns i ∧ gl a_12.ns i < (4611686018427387904 : Int)) ∧ ∀ b : Nat, True → InR .i64 ((↑a_2.fst : Int) + 1) ∧ ∃ (a' : Nat × Nat), (↑a_2.fst : Int) + 1 = (↑a'.fst : Int) ∧ (0 = 0 ∧ (a_12.l ++ putsB a_12.ns).length = (itemsB (List.take a'.fst a.xs)).length ∧ b = a'.snd) ∧ (↑a.xs.length : Int) = (↑a.xs.length : Int) ∧ (0 = 0 ∧ a.xs.length = a.xs.length ∧ a.cap = a.cap) ∧ (0 = 0 ∧ a.xs.length = a.xs.length ∧ a.cap = a.cap) ∧ ((itemsB (List.take a'.fst a.xs)).length ≤ (a_12.l ++ putsB a_12.ns).length ∧ RowsEq (itemsB (List.take a'.fst a.xs)).length 1 (encRows encB (a_12.l ++ putsB a_12.ns)) (encRows encB (itemsB (List.take a'.fst a.xs)))) ∧ 
 (a.xs.length ≤ a.xs.length ∧ RowsEq a.xs.length 4 (encRows encItem a.xs) (encRows encItem a.xs)) ∧ a'.fst ≤ a.xs.length ∧ a.xs.length - a'.fst < a.xs.length - a_2.fst) ∧ ∃ a_10 : NTextsA, (0 = 0 ∧ (itemsB (List.take a_2.fst a.xs)).length = a_10.l.length ∧ a_2.snd = a_10.cap) ∧ (0 = 0 ∧ 2 = a_10.ts.length ∧ 2 = a_10.tcap) ∧ (a_10.l.length ≤ (itemsB (List.take a_2.fst a.xs)).length ∧ RowsEq a_10.l.length 1 (encRows encB (itemsB (List.take a_2.fst a.xs))) (encRows encB a_10.l)) ∧ (a_10.ts.length ≤ 2 ∧ RowsEq a_10.ts.length 1 (flatRows 1 [Value.string (gl a.xs (0 + (↑a_2.fst : Int).toNat)).key, Value.string (gl a.xs (0 + (↑a_2.fst : Int).toNat)).val]) (encRows encT a_10.ts)) ∧ (a_10.l.length < 10000 ∧ a_10.ts.length < 20 ∧ ∀ i : Nat, i < a_10.ts.length → (gl a_10.ts i).size ≤ 1000) ∧ ∀ b : Nat, True → ∃ a_12 : NPutsA, (0 = 0 ∧ (a_10.l ++ textsB a_10.ts).length = a_12.l.length ∧ b = a_12.cap) ∧ (0 = 0 ∧ 2 = a_12.ns.length ∧ 2 = a_12.ncap) ∧ (a_12.l.length ≤ (a_10.l ++ textsB a_10.ts).length ∧ RowsEq a_12.l.length 1 (encRows encB (a_10.l ++ textsB a_10.ts)) (encRows encB a_12.l)) ∧ (a_12.ns.length ≤ 2 ∧ RowsEq a_12.ns.length 1 (flatRows 1 [Value.int IntKind.i64 (gl a.xs (0 + (↑a_2.fst : Int).toNat)).e, Value.int IntKind.i64 (1 : Int)]) (encRows encI a_12.ns)) ∧ (a_12.l.length < 10000 ∧ a_12.ns.length < 100 ∧ ∀ i : Nat, i < a_12.ns.length → (0 : Int) ≤ gl a_12.ns i ∧ gl a_12.ns i < (4611686018427387904 : Int)) ∧ ∀ b : Nat, True → InR .i64 ((↑a_2.fst : Int) + 1) ∧ ∃ (a' : Nat × Nat), (↑a_2.fst : Int) + 1 = (↑a'.fst : Int) ∧ 
 (0 = 0 ∧ (a_12.l ++ putsB a_12.ns).length = (itemsB (List.take a'.fst a.xs)).length ∧ b = a'.snd) ∧ (↑a.xs.length : Int) = (↑a.xs.length : Int) ∧ (0 = 0 ∧ a.xs.length = a.xs.length ∧ a.cap = a.cap) ∧ (0 = 0 ∧ a.xs.length = a.xs.length ∧ a.cap = a.cap) ∧ ((itemsB (List.take a'.fst a.xs)).length ≤ (a_12.l ++ putsB a_12.ns).length ∧ RowsEq (itemsB (List.take a'.fst a.xs)).length 1 (encRows encB (a_12.l ++ putsB a_12.ns)) (encRows encB (itemsB (List.take a'.fst a.xs)))) ∧ (a.xs.length ≤ a.xs.length ∧ RowsEq a.xs.length 4 (encRows encItem a.xs) (encRows encItem a.xs)) ∧ a'.fst ≤ a.xs.length ∧ a.xs.length - a'.fst < a.xs.length - a_2.fst) ∧ ∃ a_10 : NTextsA, (0 = 0 ∧ (itemsB (List.take a_2.fst a.xs)).length = a_10.l.length ∧ a_2.snd = a_10.cap) ∧ (0 = 0 ∧ 2 = a_10.ts.length ∧ 2 = a_10.tcap) ∧ (a_10.l.length ≤ (itemsB (List.take a_2.fst a.xs)).length ∧ RowsEq a_10.l.length 1 (encRows encB (itemsB (List.take a_2.fst a.xs))) (encRows encB a_10.l)) ∧ (a_10.ts.length ≤ 2 ∧ RowsEq a_10.ts.length 1 (flatRows 1 [Value.string (gl a.xs (0 + (↑a_2.fst : Int).toNat)).key, Value.string (gl a.xs (0 + (↑a_2.fst : Int).toNat)).val]) (encRows encT a_10.ts)) ∧ (a_10.l.length < 10000 ∧ a_10.ts.length < 20 ∧ ∀ i : Nat, i < a_10.ts.length → (gl a_10.ts i).size ≤ 1000) ∧ ∀ b : Nat, True → ∃ a_12 : NPutsA, (0 = 0 ∧ (a_10.l ++ textsB a_10.ts).length = a_12.l.length ∧ b = a_12.cap) ∧ (0 = 0 ∧ 2 = a_12.ns.length ∧ 2 = a_12.ncap) ∧ (a_12.l.length ≤ (a_10.l ++ textsB a_10.ts).length ∧ RowsEq a_12.l.length 1 (encRows encB (a_10.l ++ textsB a_10.ts)) (encRows encB a_12.l)) ∧ 
 (a_12.ns.length ≤ 2 ∧ RowsEq a_12.ns.length 1 (flatRows 1 [Value.int IntKind.i64 (gl a.xs (0 + (↑a_2.fst : Int).toNat)).e, Value.int IntKind.i64 (1 : Int)]) (encRows encI a_12.ns)) ∧ (a_12.l.length < 10000 ∧ a_12.ns.length < 100 ∧ ∀ i : Nat, i < a_12.ns.length → (0 : Int) ≤ gl a_12.ns i ∧ gl a_12.ns i < (4611686018427387904 : Int)) ∧ ∀ b : Nat, True → InR .i64 ((↑a_2.fst : Int) + 1) ∧ ∃ (a' : Nat × Nat), (↑a_2.fst : Int) + 1 = (↑a'.fst : Int) ∧ (0 = 0 ∧ (a_12.l ++ putsB a_12.ns).length = (itemsB (List.take a'.fst a.xs)).length ∧ b = a'.snd) ∧ (↑a.xs.length : Int) = (↑a.xs.length : Int) ∧ (0 = 0 ∧ a.xs.length = a.xs.length ∧ a.cap = a.cap) ∧ (0 = 0 ∧ a.xs.length = a.xs.length ∧ a.cap = a.cap) ∧ ((itemsB (List.take a'.fst a.xs)).length ≤ (a_12.l ++ putsB a_12.ns).length ∧ RowsEq (itemsB (List.take a'.fst a.xs)).length 1 (encRows encB (a_12.l ++ putsB a_12.ns)) (encRows encB (itemsB (List.take a'.fst a.xs)))) ∧ (a.xs.length ≤ a.xs.length ∧ RowsEq a.xs.length 4 (encRows encItem a.xs) (encRows encItem a.xs)) ∧ a'.fst ≤ a.xs.length ∧ a.xs.length - a'.fst < a.xs.length - a_2.fst) ∧ ((gl a.xs (0 + (↑a_2.fst : Int).toNat)).gone = false → InR .i64 (gl a.xs (0 + (↑a_2.fst : Int).toNat)).e → ((∃ a_10 : NTextsA, (0 = 0 ∧ (itemsB (List.take a_2.fst a.xs)).length = a_10.l.length ∧ a_2.snd = a_10.cap) ∧ (0 = 0 ∧ 2 = a_10.ts.length ∧ 2 = a_10.tcap) ∧ (a_10.l.length ≤ (itemsB (List.take a_2.fst a.xs)).length ∧ RowsEq a_10.l.length 1 (encRows encB (itemsB (List.take a_2.fst a.xs))) (encRows encB a_10.l)) ∧ 
 (a_10.ts.length ≤ 2 ∧ RowsEq a_10.ts.length 1 (flatRows 1 [Value.string (gl a.xs (0 + (↑a_2.fst : Int).toNat)).key, Value.string (gl a.xs (0 + (↑a_2.fst : Int).toNat)).val]) (encRows encT a_10.ts)) ∧ (a_10.l.length < 10000 ∧ a_10.ts.length < 20 ∧ ∀ i : Nat, i < a_10.ts.length → (gl a_10.ts i).size ≤ 1000) ∧ ∀ b : Nat, True → ∃ a_12 : NPutsA, (0 = 0 ∧ (a_10.l ++ textsB a_10.ts).length = a_12.l.length ∧ b = a_12.cap) ∧ (0 = 0 ∧ 2 = a_12.ns.length ∧ 2 = a_12.ncap) ∧ (a_12.l.length ≤ (a_10.l ++ textsB a_10.ts).length ∧ RowsEq a_12.l.length 1 (encRows encB (a_10.l ++ textsB a_10.ts)) (encRows encB a_12.l)) ∧ (a_12.ns.length ≤ 2 ∧ RowsEq a_12.ns.length 1 (flatRows 1 [Value.int IntKind.i64 (gl a.xs (0 + (↑a_2.fst : Int).toNat)).e, Value.int IntKind.i64 (0 : Int)]) (encRows encI a_12.ns)) ∧ (a_12.l.length < 10000 ∧ a_12.ns.length < 100 ∧ ∀ i : Nat, i < a_12.ns.length → (0 : Int) ≤ gl a_12.ns i ∧ gl a_12.ns i < (4611686018427387904 : Int)) ∧ ∀ b : Nat, True → InR .i64 ((↑a_2.fst : Int) + 1) ∧ ∃ (a' : Nat × Nat), (↑a_2.fst : Int) + 1 = (↑a'.fst : Int) ∧ (0 = 0 ∧ (a_12.l ++ putsB a_12.ns).length = (itemsB (List.take a'.fst a.xs)).length ∧ b = a'.snd) ∧ (↑a.xs.length : Int) = (↑a.xs.length : Int) ∧ (0 = 0 ∧ a.xs.length = a.xs.length ∧ a.cap = a.cap) ∧ (0 = 0 ∧ a.xs.length = a.xs.length ∧ a.cap = a.cap) ∧ ((itemsB (List.take a'.fst a.xs)).length ≤ (a_12.l ++ putsB a_12.ns).length ∧ RowsEq (itemsB (List.take a'.fst a.xs)).length 1 (encRows encB (a_12.l ++ putsB a_12.ns)) (encRows encB (itemsB (List.take a'.fst a.xs)))) ∧ 
 (a.xs.length ≤ a.xs.length ∧ RowsEq a.xs.length 4 (encRows encItem a.xs) (encRows encItem a.xs)) ∧ a'.fst ≤ a.xs.length ∧ a.xs.length - a'.fst < a.xs.length - a_2.fst) ∧ ∃ a_10 : NTextsA, (0 = 0 ∧ (itemsB (List.take a_2.fst a.xs)).length = a_10.l.length ∧ a_2.snd = a_10.cap) ∧ (0 = 0 ∧ 2 = a_10.ts.length ∧ 2 = a_10.tcap) ∧ (a_10.l.length ≤ (itemsB (List.take a_2.fst a.xs)).length ∧ RowsEq a_10.l.length 1 (encRows encB (itemsB (List.take a_2.fst a.xs))) (encRows encB a_10.l)) ∧ (a_10.ts.length ≤ 2 ∧ RowsEq a_10.ts.length 1 (flatRows 1 [Value.string (gl a.xs (0 + (↑a_2.fst : Int).toNat)).key, Value.string (gl a.xs (0 + (↑a_2.fst : Int).toNat)).val]) (encRows encT a_10.ts)) ∧ (a_10.l.length < 10000 ∧ a_10.ts.length < 20 ∧ ∀ i : Nat, i < a_10.ts.length → (gl a_10.ts i).size ≤ 1000) ∧ ∀ b : Nat, True → ∃ a_12 : NPutsA, (0 = 0 ∧ (a_10.l ++ textsB a_10.ts).length = a_12.l.length ∧ b = a_12.cap) ∧ (0 = 0 ∧ 2 = a_12.ns.length ∧ 2 = a_12.ncap) ∧ (a_12.l.length ≤ (a_10.l ++ textsB a_10.ts).length ∧ RowsEq a_12.l.length 1 (encRows encB (a_10.l ++ textsB a_10.ts)) (encRows encB a_12.l)) ∧ (a_12.ns.length ≤ 2 ∧ RowsEq a_12.ns.length 1 (flatRows 1 [Value.int IntKind.i64 (gl a.xs (0 + (↑a_2.fst : Int).toNat)).e, Value.int IntKind.i64 (0 : Int)]) (encRows encI a_12.ns)) ∧ (a_12.l.length < 10000 ∧ a_12.ns.length < 100 ∧ ∀ i : Nat, i < a_12.ns.length → (0 : Int) ≤ gl a_12.ns i ∧ gl a_12.ns i < (4611686018427387904 : Int)) ∧ ∀ b : Nat, True → InR .i64 ((↑a_2.fst : Int) + 1) ∧ ∃ (a' : Nat × Nat), (↑a_2.fst : Int) + 1 = (↑a'.fst : Int) ∧ 
 (0 = 0 ∧ (a_12.l ++ putsB a_12.ns).length = (itemsB (List.take a'.fst a.xs)).length ∧ b = a'.snd) ∧ (↑a.xs.length : Int) = (↑a.xs.length : Int) ∧ (0 = 0 ∧ a.xs.length = a.xs.length ∧ a.cap = a.cap) ∧ (0 = 0 ∧ a.xs.length = a.xs.length ∧ a.cap = a.cap) ∧ ((itemsB (List.take a'.fst a.xs)).length ≤ (a_12.l ++ putsB a_12.ns).length ∧ RowsEq (itemsB (List.take a'.fst a.xs)).length 1 (encRows encB (a_12.l ++ putsB a_12.ns)) (encRows encB (itemsB (List.take a'.fst a.xs)))) ∧ (a.xs.length ≤ a.xs.length ∧ RowsEq a.xs.length 4 (encRows encItem a.xs) (encRows encItem a.xs)) ∧ a'.fst ≤ a.xs.length ∧ a.xs.length - a'.fst < a.xs.length - a_2.fst) ∧ ∃ a_10 : NTextsA, (0 = 0 ∧ (itemsB (List.take a_2.fst a.xs)).length = a_10.l.length ∧ a_2.snd = a_10.cap) ∧ (0 = 0 ∧ 2 = a_10.ts.length ∧ 2 = a_10.tcap) ∧ (a_10.l.length ≤ (itemsB (List.take a_2.fst a.xs)).length ∧ RowsEq a_10.l.length 1 (encRows encB (itemsB (List.take a_2.fst a.xs))) (encRows encB a_10.l)) ∧ (a_10.ts.length ≤ 2 ∧ RowsEq a_10.ts.length 1 (flatRows 1 [Value.string (gl a.xs (0 + (↑a_2.fst : Int).toNat)).key, Value.string (gl a.xs (0 + (↑a_2.fst : Int).toNat)).val]) (encRows encT a_10.ts)) ∧ (a_10.l.length < 10000 ∧ a_10.ts.length < 20 ∧ ∀ i : Nat, i < a_10.ts.length → (gl a_10.ts i).size ≤ 1000) ∧ ∀ b : Nat, True → ∃ a_12 : NPutsA, (0 = 0 ∧ (a_10.l ++ textsB a_10.ts).length = a_12.l.length ∧ b = a_12.cap) ∧ (0 = 0 ∧ 2 = a_12.ns.length ∧ 2 = a_12.ncap) ∧ (a_12.l.length ≤ (a_10.l ++ textsB a_10.ts).length ∧ RowsEq a_12.l.length 1 (encRows encB (a_10.l ++ textsB a_10.ts)) (encRows encB a_12.l)) ∧ 
 (a_12.ns.length ≤ 2 ∧ RowsEq a_12.ns.length 1 (flatRows 1 [Value.int IntKind.i64 (gl a.xs (0 + (↑a_2.fst : Int).toNat)).e, Value.int IntKind.i64 (0 : Int)]) (encRows encI a_12.ns)) ∧ (a_12.l.length < 10000 ∧ a_12.ns.length < 100 ∧ ∀ i : Nat, i < a_12.ns.length → (0 : Int) ≤ gl a_12.ns i ∧ gl a_12.ns i < (4611686018427387904 : Int)) ∧ ∀ b : Nat, True → InR .i64 ((↑a_2.fst : Int) + 1) ∧ ∃ (a' : Nat × Nat), (↑a_2.fst : Int) + 1 = (↑a'.fst : Int) ∧ (0 = 0 ∧ (a_12.l ++ putsB a_12.ns).length = (itemsB (List.take a'.fst a.xs)).length ∧ b = a'.snd) ∧ (↑a.xs.length : Int) = (↑a.xs.length : Int) ∧ (0 = 0 ∧ a.xs.length = a.xs.length ∧ a.cap = a.cap) ∧ (0 = 0 ∧ a.xs.length = a.xs.length ∧ a.cap = a.cap) ∧ ((itemsB (List.take a'.fst a.xs)).length ≤ (a_12.l ++ putsB a_12.ns).length ∧ RowsEq (itemsB (List.take a'.fst a.xs)).length 1 (encRows encB (a_12.l ++ putsB a_12.ns)) (encRows encB (itemsB (List.take a'.fst a.xs)))) ∧ (a.xs.length ≤ a.xs.length ∧ RowsEq a.xs.length 4 (encRows encItem a.xs) (encRows encItem a.xs)) ∧ a'.fst ≤ a.xs.length ∧ a.xs.length - a'.fst < a.xs.length - a_2.fst))) ∧ (decide ((↑a_2.fst : Int) < (↑a.xs.length : Int)) = false → ∃ b : Nat, (0 = 0 ∧ (itemsB (List.take a_2.fst a.xs)).length = (itemsB a.xs).length ∧ a_2.snd = b) ∧ ((itemsB a.xs).length ≤ (itemsB (List.take a_2.fst a.xs)).length ∧ RowsEq (itemsB a.xs).length 1 (encRows encB (itemsB (List.take a_2.fst a.xs))) (encRows encB (itemsB a.xs))) ∧ True ∧ True)) (by kernel_rfl) (by
 rintro ⟨xs, cap⟩ ⟨h1, h2, h3⟩
 dsimp only at h1 h2 h3 ⊢
 have ei : ∀ k : Nat, List.flatMap itemB (xs.take k) = itemsB (xs.take k) := fun _ => rfl
 have ea : List.flatMap itemB xs = itemsB xs := rfl
 simp only [ei, ea]
 have e0 : itemsB (xs.take 0) = [] := rfl
 refine ⟨⟨(0, 0), ?_⟩, fun x hx => ?_⟩
 ·dsimp only
  rw [e0]
  (repeat' apply And.intro) <;> first | trivial | with_reducible rfl | exact RowsEq.refl _ _ _ | exact Nat.le_refl _ | omega
 ·obtain ⟨i, c⟩ := x
  have hx : i ≤ xs.length := hx
  have ln : (itemsB (xs.take i)).length ≤ i * 300 := flatMap_take_len (fun j hj => itemB_len (h3 j hj)) i hx
  dsimp only
  simp only [Nat.zero_add, Int.toNat_natCast, InR]
  refine ⟨fun c1 => ?_, fun c1 => ?_⟩
  ·have hi : i < xs.length := by simpa using c1
   have hs : itemsB (xs.take (i + 1)) = itemsB (xs.take i) ++ itemB (gl xs i) := flatMap_push hi
   have h3 := h3 i hi
   obtain ⟨k1, k2, k3, k4⟩ := may_out h3
   refine ⟨by omega, by omega, ⟨gl xs i, rfl, rfl, rfl, rfl, trivial, fun _ _ => ?_⟩⟩
   rw [h3]
   have eg : ∀ g : Bool, (gl xs i).gone = g → itemsB (xs.take i) ++ textsB [(gl xs i).key, (gl xs i).val] ++ putsB [(gl xs i).e, if g then 1 else 0] = itemsB (xs.take (i + 1)) := fun g e => by
    rw [hs, List.append_assoc]; unfold itemB; rw [e]
   have tl : (textsB [(gl xs i).key, (gl xs i).val]).length ≤ 300 := by
    have a1 := (vi_len ((gl xs i).key.size : Nat)).2
    have a2 := (vi_len ((gl xs i).val.size : Nat)).2
    simp only [textsB, List.flatMap_cons, List.flatMap_nil, List.length_append, txB_len, List.length_nil]; omega
   have t2 : ∀ k, k < [(gl xs i).key, (gl xs i).val].length → (gl [(gl xs i).key, (gl xs i).val] k).size ≤ 1000 := fun k hk => by
    match k, hk with
    | 0, _ => show (gl xs i).key.size ≤ 1000; omega
    | 1, _ => show (gl xs i).val.size ≤ 1000; omega
   have n2 : ∀ g : Int, 0 ≤ g → g ≤ 1 → ∀ k, k < [(gl xs i).e, g].length → 0 ≤ gl [(gl xs i).e, g] k ∧ gl [(gl xs i).e, g] k < 4611686018427387904 := fun g g0 g1 k hk => by
    match k, hk with
    | 0, _ => show 0 ≤ (gl xs i).e ∧ (gl xs i).e < 4611686018427387904; exact ⟨k3, by omega⟩
    | 1, _ => show 0 ≤ g ∧ g < 4611686018427387904; omega
   have r1 : RowsEq 2 1 (flatRows 1 [Value.string (gl xs i).key, Value.string (gl xs i).val]) (encRows encT [(gl xs i).key, (gl xs i).val]) := .of_cells fun k hk => by
    match k, hk with
    | 0, _ => rfl
    | 1, _ => rfl
   have r2 : ∀ g : Int, RowsEq 2 1 (flatRows 1 [Value.int .i64 (gl xs i).e, Value.int .i64 g]) (encRows encI [(gl xs i).e, g]) := fun g => .of_cells fun k hk => by
    match k, hk with
    | 0, _ => rfl
    | 1, _ => rfl
   refine ⟨fun e => (by cases e), fun _ => ⟨fun eg1 => ?_, fun eg1 => ?_⟩⟩
   ·have eg := eg _ eg1
    rw [if_pos rfl] at eg
    intro _
    have main : ∀ (P : NTextsA → Nat → Prop), True := fun _ => trivial
    repeat' (first
     | apply And.intro
     | (intro _)
     | apply Exists.intro (NTextsA.mk (itemsB (xs.take i)) _ [(gl xs i).key, (gl xs i).val] 2)
     | apply Exists.intro (NPutsA.mk (itemsB (xs.take i) ++ textsB [(gl xs i).key, (gl xs i).val]) _ [(gl xs i).e, 1] 2)
     | apply Exists.intro ((i + 1, _) : Nat × Nat))
    all_goals first | with_reducible (first | rfl | trivial | assumption) | omega | with_reducible (first | exact RowsEq.refl _ _ _ | exact Nat.le_refl _) | (dsimp only [List.length_cons, List.length_nil] <;> omega) | exact r1 | exact r2 _ | exact t2 _ (by assumption) | exact (n2 1 (by omega) (by omega) _ (by assumption)).1 | exact (n2 1 (by omega) (by omega) _ (by assumption)).2 | omega | (simp only [List.length_append]; omega) | (dsimp only; rw [eg]; done) | (dsimp only; rw [eg]; exact RowsEq.refl _ _ _) | (dsimp only; rw [eg]; exact Nat.le_refl _) | skip
   ·have eg := eg _ eg1
    rw [if_neg (by decide)] at eg
    intro _
    repeat' (first
     | apply And.intro
     | (intro _)
     | apply Exists.intro (NTextsA.mk (itemsB (xs.take i)) _ [(gl xs i).key, (gl xs i).val] 2)
     | apply Exists.intro (NPutsA.mk (itemsB (xs.take i) ++ textsB [(gl xs i).key, (gl xs i).val]) _ [(gl xs i).e, 0] 2)
     | apply Exists.intro ((i + 1, _) : Nat × Nat))
    all_goals first | with_reducible (first | rfl | trivial | assumption) | omega | with_reducible (first | exact RowsEq.refl _ _ _ | exact Nat.le_refl _) | (dsimp only [List.length_cons, List.length_nil] <;> omega) | exact r1 | exact r2 _ | exact t2 _ (by assumption) | exact (n2 0 (by omega) (by omega) _ (by assumption)).1 | exact (n2 0 (by omega) (by omega) _ (by assumption)).2 | omega | (simp only [List.length_append]; omega) | (dsimp only; rw [eg]; done) | (dsimp only; rw [eg]; exact RowsEq.refl _ _ _) | (dsimp only; rw [eg]; exact Nat.le_refl _) | skip
  ·have hi : ¬ i < xs.length := by simpa using c1
   rw [show itemsB (xs.take i) = itemsB xs from flatMap_all hi]
   refine ⟨c, ?_⟩
   (repeat' (first | apply And.intro | (intro _))) <;> first | trivial | with_reducible rfl | exact RowsEq.refl _ _ _ | exact Nat.le_refl _ | omega)
theorem callKey : CallsBy (Y Tryz.prog).G.X 38 cKey := fn_ok okY (tab := []) trivial bodyKey
theorem callMay : CallsBy (Y Tryz.prog).G.X 34 cMay := fn_ok okY (tab := [(38, cKey)]) ⟨callKey, trivial⟩ bodyMay
theorem callLive : CallsBy (Y Tryz.prog).G.X 48 cLive := fn_ok okY (tab := [(34, cMay)]) ⟨callMay, trivial⟩ bodyLive
theorem callNPuts : CallsBy (Y Tryz.prog).G.X 62 cNPuts := fn_ok okY (tab := [(83, cNPut)]) ⟨callNPut, trivial⟩ bodyNPuts
theorem callNTexts : CallsBy (Y Tryz.prog).G.X 63 cNTexts := fn_ok okY (tab := [(83, cNPut)]) ⟨callNPut, trivial⟩ bodyNTexts
theorem callEnc : CallsBy (Y Tryz.prog).G.X 36 cEnc := fn_ok okY (tab := [(34, cMay), (62, cNPuts), (63, cNTexts)]) ⟨callMay, callNPuts, callNTexts, trivial⟩ bodyEnc

end Go.Proofs.YtfobhkibkdmglaaGreat

namespace Go.Proofs.YtfobhkibkdmglaaGreat
open Go.Sx
set_option maxRecDepth 100000
set_option linter.unusedVariables false
set_option linter.unusedSimpArgs false

theorem ibits_or (a b : Nat) (ha : a < 2 ^ 64) (hb : b < 2 ^ 64) : ibits .or .u64 a b = ((a ||| b : Nat) : Int) := by
 have h := Nat.or_lt_two_pow ha hb
 have e : (BitVec.ofInt 64 (a : Int) ||| BitVec.ofInt 64 (b : Int)).toNat = a ||| b := by
  rw [BitVec.toNat_or, BitVec.ofInt_natCast, BitVec.ofInt_natCast, BitVec.toNat_ofNat, BitVec.toNat_ofNat, Nat.mod_eq_of_lt ha, Nat.mod_eq_of_lt hb]
 show IntKind.u64.wrap ((BitVec.ofInt 64 (a : Int) ||| BitVec.ofInt 64 (b : Int)).toNat : Int) = _
 rw [e]
 exact wrap_of_InR (by simp only [InR]; omega)
theorem ibits_and1 (a : Nat) (ha : a < 2 ^ 64) : ibits .and .u64 a 1 = ((a % 2 : Nat) : Int) := by
 have e : (BitVec.ofInt 64 (a : Int) &&& BitVec.ofInt 64 ((1 : Nat) : Int)).toNat = a % 2 := by
  rw [BitVec.toNat_and, BitVec.ofInt_natCast, BitVec.ofInt_natCast, BitVec.toNat_ofNat, BitVec.toNat_ofNat, Nat.mod_eq_of_lt ha, Nat.mod_eq_of_lt (by decide), Nat.and_one_is_mod]
 show IntKind.u64.wrap ((BitVec.ofInt 64 (a : Int) &&& BitVec.ofInt 64 ((1 : Nat) : Int)).toNat : Int) = _
 rw [e]
 exact wrap_of_InR (by simp only [InR]; omega)
theorem and127 (c : Nat) (h : c < 256) : ibits .and .u8 c 127 = ((c % 128 : Nat) : Int) := by
 have h' : ∀ y : Fin 256, ibits .and .u8 (y.1 : Int) 127 = ((y.1 % 128 : Nat) : Int) := by decide +kernel
 exact h' ⟨c, h⟩
theorem vbF_short : ∀ (k m u : Nat), u < 128 ^ (m + 1) → (vbF k u).length ≤ m + 1
 | 0, _, _, _ => by simp [vbF]
 | k + 1, m, u, h => by
  unfold vbF
  split
  ·simp
  ·cases m with
   | zero => simp at h; omega
   | succ m =>
    have := vbF_short k m (u / 128) (Nat.div_lt_of_lt_mul (by rw [Nat.mul_comm, ← Nat.pow_succ]; exact h))
    simp only [List.length_cons]; omega
theorem vbF_at : ∀ (k u i : Nat), u < 128 ^ (k + 1) → i < (vbF k u).length →
 (i + 1 < (vbF k u).length → 128 ≤ u / 128 ^ i ∧ gl (vbF k u) i = ((u / 128 ^ i % 128 + 128 : Nat) : Int)) ∧ (i + 1 = (vbF k u).length → u / 128 ^ i < 128 ∧ gl (vbF k u) i = ((u / 128 ^ i : Nat) : Int) ∧ (0 < i → 0 < u / 128 ^ i))
 | 0, u, i, h, hi => by
  simp [vbF] at hi
  subst hi
  simp [vbF, gl] at h ⊢; omega
 | k + 1, u, i, h, hi => by
  unfold vbF at hi ⊢
  by_cases hu : u < 128
  ·rw [if_pos hu] at hi ⊢
   simp at hi
   subst hi
   simp [gl]; omega
  ·rw [if_neg hu] at hi ⊢
   cases i with
   | zero =>
    have := (vbF_len k (u / 128)).1
    rw [Nat.pow_zero, Nat.div_one]
    refine ⟨fun _ => ⟨by omega, rfl⟩, fun hh => ?_⟩
    simp only [List.length_cons] at hh; omega
   | succ i =>
    have e : u / 128 ^ (i + 1) = u / 128 / 128 ^ i := by rw [Nat.pow_succ, Nat.mul_comm, Nat.div_div_eq_div_mul]
    have hi' : i < (vbF k (u / 128)).length := by simpa using hi
    obtain ⟨h1, h2⟩ := vbF_at k (u / 128) i (Nat.div_lt_of_lt_mul (by rw [Nat.mul_comm, ← Nat.pow_succ]; exact h)) hi'
    have eg : ∀ x : Int, gl (x :: vbF k (u / 128)) (i + 1) = gl (vbF k (u / 128)) i := fun x => by simp [gl]
    rw [e, eg]
    simp only [List.length_cons, Nat.add_lt_add_iff_right, Nat.add_right_cancel_iff]
    refine ⟨h1, fun hh => ⟨(h2 hh).1, (h2 hh).2.1, fun _ => ?_⟩⟩
    by_cases h0 : 0 < i
    ·exact (h2 hh).2.2 h0
    ·have : i = 0 := by omega
     subst this
     simp; omega
/-- one group more -/
theorem or_step {U i c : Nat} (hU : U < 2 ^ 63) (hi : i ≤ 8) (hc : c < 256) (hx : c % 128 = U / 128 ^ i % 128) :
 ibits .or .u64 ((U % 128 ^ i : Nat) : Int) (uw .u64 (ibits .and .u8 (c : Int) 127 * 2 ^ min (7 * (i : Int)).toNat 64)) = ((U % 128 ^ (i + 1) : Nat) : Int) := by
 have e1 : (7 * (i : Int)).toNat = 7 * i := by omega
 have e2 : min (7 * i) 64 = 7 * i := by omega
 have e3 : (128 : Nat) ^ i = 2 ^ (7 * i) := by rw [Nat.pow_mul]
 rw [and127 c hc, e1, e2, hx, Nat.pow_succ, Nat.mod_mul, e3]
 have hlt : U % 2 ^ (7 * i) < 2 ^ (7 * i) := Nat.mod_lt _ (Nat.pow_pos (by decide))
 have hp : (2 : Nat) ^ (7 * i) ≤ 2 ^ 56 := Nat.pow_le_pow_right (by decide) (by omega)
 obtain ⟨x, hx2⟩ : ∃ x, x = U / 2 ^ (7 * i) % 128 := ⟨_, rfl⟩
 have hxl : x < 128 := by rw [hx2]; exact Nat.mod_lt _ (by decide)
 rw [← hx2]
 have hb : 2 ^ (7 * i) * x < 2 ^ 64 := by
  have := Nat.mul_le_mul hp (Nat.le_of_lt_succ (show x < 127 + 1 by omega))
  omega
 have e5 : uw .u64 ((x : Int) * 2 ^ (7 * i)) = ((2 ^ (7 * i) * x : Nat) : Int) := by
  have : (x : Int) * 2 ^ (7 * i) = ((2 ^ (7 * i) * x : Nat) : Int) := by push_cast; rw [Int.mul_comm]
  rw [this]; simp only [uw]; omega
 rw [e5, ibits_or _ _ (by omega) hb, Nat.or_comm, ← Nat.two_pow_add_eq_or_of_lt hlt, Nat.add_comm]
structure NGetA where
 l : List Int
 r : Nat
 len : Nat
 cap : Nat
 n : Int
noncomputable def cNGet : Con where
 α := NGetA
 β := Unit
 m := 1
 m' := 1
 pre := fun a => a.r + a.len ≤ a.l.length ∧ a.len < 100000 ∧ a.len ≤ a.cap ∧ 0 ≤ a.n ∧ a.n < 4611686018427387904 ∧ (vi a.n).length ≤ a.len ∧ ∀ i, i < (vi a.n).length → gl a.l (a.r + i) = gl (vi a.n) i
 args := fun a => [.a (.slc 0 a.r 1 a.len a.cap)]
 hp := fun _ => []
 ro := fun a => byteHp 0 a.l
 post := fun _ _ => True
 res := fun a _ => .tup [.a (.int .i64 a.n), .a (.int .i64 (vi a.n).length), .a (.int .i64 0)]
 hp' := fun _ _ => []
def iNGet (a : NGetA) : An := .flat 3 Nat (fun s i => (s.set 5 (.a (.int .u64 ((2 * a.n.toNat % 128 ^ i : Nat) : Int)))).int 11 i) (fun _ i => i < (vi a.n).length) (fun _ i => (vi a.n).length - i)
set_option maxHeartbeats 4000000 in
theorem bodyNGet : fnBody (Y Tryz.prog) [] 99 cNGet fun a => [(99, [iNGet a], [])] := fnBody.of (p :=
 ∀ a : NGetA, (a.r + a.len ≤ a.l.length ∧ a.len < 100000 ∧ a.len ≤ a.cap ∧ (0 : Int) ≤ a.n ∧ a.n < (4611686018427387904 : Int) ∧ (vi a.n).length ≤ a.len ∧ ∀ i : Nat, i < (vi a.n).length → gl a.l (a.r + i) = gl (vi a.n) i) → (∃ a_2 : Nat, 0 = (↑a_2 : Int) ∧ 0 = (↑(2 * a.n.toNat % 128 ^ a_2) : Int) ∧ (↑a.len : Int) = (↑a.len : Int) ∧ (a.r = a.r ∧ a.len = a.len ∧ a.cap = a.cap) ∧ (0 : Int) = 0 ∧ (0 : Int) = 0 ∧ (0 : Int) = 0 ∧ (a.r = a.r ∧ a.len = a.len ∧ a.cap = a.cap) ∧ (a.l.length ≤ a.l.length ∧ RowsEq a.l.length 1 (encRows encB a.l) (encRows encB a.l)) ∧ a_2 < (vi a.n).length ∧ True) ∧ ∀ a_2 : Nat, a_2 < (vi a.n).length → (decide ((↑a_2 : Int) < (↑a.len : Int)) = true → (0 ≤ (↑a_2 : Int) ∧ (↑a_2 : Int) < (↑a.len : Int)) ∧ a.r + (↑a_2 : Int).toNat < a.l.length ∧ (InR .u8 (gl a.l (a.r + (↑a_2 : Int).toNat)) → (((↑a_2 : Int) == 9) = true → (decide ((1 : Int) < gl a.l (a.r + (↑a_2 : Int).toNat)) = true → ∃ b : Unit, (0 : Int) = a.n ∧ 0 = (↑(vi a.n).length : Int) ∧ (1 : Int) = 0 ∧ True ∧ True) ∧ (decide ((1 : Int) < gl a.l (a.r + (↑a_2 : Int).toNat)) = false → InR .i64 ((7 : Int) * (↑a_2 : Int)) ∧ (0 : Int) ≤ 7 * (↑a_2 : Int) ∧ (decide ((127 : Int) < gl a.l (a.r + (↑a_2 : Int).toNat)) = true → InR .i64 ((↑a_2 : Int) + 1) ∧ ∃ (a' : Nat), (↑a_2 : Int) + 1 = (↑a' : Int) ∧ ibits Go.BinOp.or IntKind.u64 (↑(2 * a.n.toNat % 128 ^ a_2) : Int) (uw .u64 (ibits Go.BinOp.and IntKind.u8 (gl a.l (a.r + (↑a_2 : Int).toNat)) (127 : Int) * 2 ^ min ((7 : Int) * (↑a_2 : Int)).toNat 64)) = (↑(2 * a.n.toNat % 128 ^ a') : Int) ∧ 
 (↑a.len : Int) = (↑a.len : Int) ∧ (a.r = a.r ∧ a.len = a.len ∧ a.cap = a.cap) ∧ (0 : Int) = 0 ∧ (0 : Int) = 0 ∧ (0 : Int) = 0 ∧ (a.r = a.r ∧ a.len = a.len ∧ a.cap = a.cap) ∧ (a.l.length ≤ a.l.length ∧ RowsEq a.l.length 1 (encRows encB a.l) (encRows encB a.l)) ∧ a' < (vi a.n).length ∧ (vi a.n).length - a' < (vi a.n).length - a_2) ∧ (decide ((127 : Int) < gl a.l (a.r + (↑a_2 : Int).toNat)) = false → (decide (0 < (↑a_2 : Int)) = true → ((gl a.l (a.r + (↑a_2 : Int).toNat) == (0 : Int)) = true → ∃ b : Unit, (0 : Int) = a.n ∧ 0 = (↑(vi a.n).length : Int) ∧ (1 : Int) = 0 ∧ True ∧ True) ∧ ((gl a.l (a.r + (↑a_2 : Int).toNat) == (0 : Int)) = false → (0 : Int) ≤ 1 ∧ ((ibits Go.BinOp.and IntKind.u64 (ibits Go.BinOp.or IntKind.u64 (↑(2 * a.n.toNat % 128 ^ a_2) : Int) (uw .u64 (ibits Go.BinOp.and IntKind.u8 (gl a.l (a.r + (↑a_2 : Int).toNat)) (127 : Int) * 2 ^ min ((7 : Int) * (↑a_2 : Int)).toNat 64))) (1 : Int) == 1) = true → InR .i64 ((↑a_2 : Int) + 1) ∧ ∃ b : Unit, ibits Go.BinOp.xor IntKind.i64 (-1 : Int) (uw .i64 (ibits Go.BinOp.or IntKind.u64 (↑(2 * a.n.toNat % 128 ^ a_2) : Int) (uw .u64 (ibits Go.BinOp.and IntKind.u8 (gl a.l (a.r + (↑a_2 : Int).toNat)) (127 : Int) * 2 ^ min ((7 : Int) * (↑a_2 : Int)).toNat 64)) / (2 : Int))) = a.n ∧ (↑a_2 : Int) + 1 = (↑(vi a.n).length : Int) ∧ (0 : Int) = 0 ∧ True ∧ True) ∧ ((ibits Go.BinOp.and IntKind.u64 (ibits Go.BinOp.or IntKind.u64 (↑(2 * a.n.toNat % 128 ^ a_2) : Int) (uw .u64 (ibits Go.BinOp.and IntKind.u8 (gl a.l (a.r + (↑a_2 : Int).toNat)) (127 : Int) * 2 ^ min ((7 : Int) * (↑a_2 : Int)).toNat 64))) (1 : Int) == 1) = false → 
 InR .i64 ((↑a_2 : Int) + 1) ∧ ∃ b : Unit, uw .i64 (ibits Go.BinOp.or IntKind.u64 (↑(2 * a.n.toNat % 128 ^ a_2) : Int) (uw .u64 (ibits Go.BinOp.and IntKind.u8 (gl a.l (a.r + (↑a_2 : Int).toNat)) (127 : Int) * 2 ^ min ((7 : Int) * (↑a_2 : Int)).toNat 64)) / (2 : Int)) = a.n ∧ (↑a_2 : Int) + 1 = (↑(vi a.n).length : Int) ∧ (0 : Int) = 0 ∧ True ∧ True))) ∧ (decide (0 < (↑a_2 : Int)) = false → (0 : Int) ≤ 1 ∧ ((ibits Go.BinOp.and IntKind.u64 (ibits Go.BinOp.or IntKind.u64 (↑(2 * a.n.toNat % 128 ^ a_2) : Int) (uw .u64 (ibits Go.BinOp.and IntKind.u8 (gl a.l (a.r + (↑a_2 : Int).toNat)) (127 : Int) * 2 ^ min ((7 : Int) * (↑a_2 : Int)).toNat 64))) (1 : Int) == 1) = true → InR .i64 ((↑a_2 : Int) + 1) ∧ ∃ b : Unit, ibits Go.BinOp.xor IntKind.i64 (-1 : Int) (uw .i64 (ibits Go.BinOp.or IntKind.u64 (↑(2 * a.n.toNat % 128 ^ a_2) : Int) (uw .u64 (ibits Go.BinOp.and IntKind.u8 (gl a.l (a.r + (↑a_2 : Int).toNat)) (127 : Int) * 2 ^ min ((7 : Int) * (↑a_2 : Int)).toNat 64)) / (2 : Int))) = a.n ∧ (↑a_2 : Int) + 1 = (↑(vi a.n).length : Int) ∧ (0 : Int) = 0 ∧ True ∧ True) ∧ ((ibits Go.BinOp.and IntKind.u64 (ibits Go.BinOp.or IntKind.u64 (↑(2 * a.n.toNat % 128 ^ a_2) : Int) (uw .u64 (ibits Go.BinOp.and IntKind.u8 (gl a.l (a.r + (↑a_2 : Int).toNat)) (127 : Int) * 2 ^ min ((7 : Int) * (↑a_2 : Int)).toNat 64))) (1 : Int) == 1) = false → InR .i64 ((↑a_2 : Int) + 1) ∧ ∃ b : Unit, uw .i64 (ibits Go.BinOp.or IntKind.u64 (↑(2 * a.n.toNat % 128 ^ a_2) : Int) (uw .u64 (ibits Go.BinOp.and IntKind.u8 (gl a.l (a.r + (↑a_2 : Int).toNat)) (127 : Int) * 2 ^ min ((7 : Int) * (↑a_2 : Int)).toNat 64)) / (2 : Int)) = a.n ∧ 
 (↑a_2 : Int) + 1 = (↑(vi a.n).length : Int) ∧ (0 : Int) = 0 ∧ True ∧ True))))) ∧ (((↑a_2 : Int) == 9) = false → InR .i64 ((7 : Int) * (↑a_2 : Int)) ∧ (0 : Int) ≤ 7 * (↑a_2 : Int) ∧ (decide ((127 : Int) < gl a.l (a.r + (↑a_2 : Int).toNat)) = true → InR .i64 ((↑a_2 : Int) + 1) ∧ ∃ (a' : Nat), (↑a_2 : Int) + 1 = (↑a' : Int) ∧ ibits Go.BinOp.or IntKind.u64 (↑(2 * a.n.toNat % 128 ^ a_2) : Int) (uw .u64 (ibits Go.BinOp.and IntKind.u8 (gl a.l (a.r + (↑a_2 : Int).toNat)) (127 : Int) * 2 ^ min ((7 : Int) * (↑a_2 : Int)).toNat 64)) = (↑(2 * a.n.toNat % 128 ^ a') : Int) ∧ (↑a.len : Int) = (↑a.len : Int) ∧ (a.r = a.r ∧ a.len = a.len ∧ a.cap = a.cap) ∧ (0 : Int) = 0 ∧ (0 : Int) = 0 ∧ (0 : Int) = 0 ∧ (a.r = a.r ∧ a.len = a.len ∧ a.cap = a.cap) ∧ (a.l.length ≤ a.l.length ∧ RowsEq a.l.length 1 (encRows encB a.l) (encRows encB a.l)) ∧ a' < (vi a.n).length ∧ (vi a.n).length - a' < (vi a.n).length - a_2) ∧ (decide ((127 : Int) < gl a.l (a.r + (↑a_2 : Int).toNat)) = false → (decide (0 < (↑a_2 : Int)) = true → ((gl a.l (a.r + (↑a_2 : Int).toNat) == (0 : Int)) = true → ∃ b : Unit, (0 : Int) = a.n ∧ 0 = (↑(vi a.n).length : Int) ∧ (1 : Int) = 0 ∧ True ∧ True) ∧ ((gl a.l (a.r + (↑a_2 : Int).toNat) == (0 : Int)) = false → (0 : Int) ≤ 1 ∧ ((ibits Go.BinOp.and IntKind.u64 (ibits Go.BinOp.or IntKind.u64 (↑(2 * a.n.toNat % 128 ^ a_2) : Int) (uw .u64 (ibits Go.BinOp.and IntKind.u8 (gl a.l (a.r + (↑a_2 : Int).toNat)) (127 : Int) * 2 ^ min ((7 : Int) * (↑a_2 : Int)).toNat 64))) (1 : Int) == 1) = true → InR .i64 ((↑a_2 : Int) + 1) ∧ 
 ∃ b : Unit, ibits Go.BinOp.xor IntKind.i64 (-1 : Int) (uw .i64 (ibits Go.BinOp.or IntKind.u64 (↑(2 * a.n.toNat % 128 ^ a_2) : Int) (uw .u64 (ibits Go.BinOp.and IntKind.u8 (gl a.l (a.r + (↑a_2 : Int).toNat)) (127 : Int) * 2 ^ min ((7 : Int) * (↑a_2 : Int)).toNat 64)) / (2 : Int))) = a.n ∧ (↑a_2 : Int) + 1 = (↑(vi a.n).length : Int) ∧ (0 : Int) = 0 ∧ True ∧ True) ∧ ((ibits Go.BinOp.and IntKind.u64 (ibits Go.BinOp.or IntKind.u64 (↑(2 * a.n.toNat % 128 ^ a_2) : Int) (uw .u64 (ibits Go.BinOp.and IntKind.u8 (gl a.l (a.r + (↑a_2 : Int).toNat)) (127 : Int) * 2 ^ min ((7 : Int) * (↑a_2 : Int)).toNat 64))) (1 : Int) == 1) = false → InR .i64 ((↑a_2 : Int) + 1) ∧ ∃ b : Unit, uw .i64 (ibits Go.BinOp.or IntKind.u64 (↑(2 * a.n.toNat % 128 ^ a_2) : Int) (uw .u64 (ibits Go.BinOp.and IntKind.u8 (gl a.l (a.r + (↑a_2 : Int).toNat)) (127 : Int) * 2 ^ min ((7 : Int) * (↑a_2 : Int)).toNat 64)) / (2 : Int)) = a.n ∧ (↑a_2 : Int) + 1 = (↑(vi a.n).length : Int) ∧ (0 : Int) = 0 ∧ True ∧ True))) ∧ (decide (0 < (↑a_2 : Int)) = false → (0 : Int) ≤ 1 ∧ ((ibits Go.BinOp.and IntKind.u64 (ibits Go.BinOp.or IntKind.u64 (↑(2 * a.n.toNat % 128 ^ a_2) : Int) (uw .u64 (ibits Go.BinOp.and IntKind.u8 (gl a.l (a.r + (↑a_2 : Int).toNat)) (127 : Int) * 2 ^ min ((7 : Int) * (↑a_2 : Int)).toNat 64))) (1 : Int) == 1) = true → InR .i64 ((↑a_2 : Int) + 1) ∧ ∃ b : Unit, ibits Go.BinOp.xor IntKind.i64 (-1 : Int) (uw .i64 (ibits Go.BinOp.or IntKind.u64 (↑(2 * a.n.toNat % 128 ^ a_2) : Int) (uw .u64 (ibits Go.BinOp.and IntKind.u8 (gl a.l (a.r + (↑a_2 : Int).toNat)) (127 : Int) * 2 ^ min ((7 : Int) * (↑a_2 : Int)).toNat 64)) / (2 : Int))) = a.n ∧ 
 (↑a_2 : Int) + 1 = (↑(vi a.n).length : Int) ∧ (0 : Int) = 0 ∧ True ∧ True) ∧ ((ibits Go.BinOp.and IntKind.u64 (ibits Go.BinOp.or IntKind.u64 (↑(2 * a.n.toNat % 128 ^ a_2) : Int) (uw .u64 (ibits Go.BinOp.and IntKind.u8 (gl a.l (a.r + (↑a_2 : Int).toNat)) (127 : Int) * 2 ^ min ((7 : Int) * (↑a_2 : Int)).toNat 64))) (1 : Int) == 1) = false → InR .i64 ((↑a_2 : Int) + 1) ∧ ∃ b : Unit, uw .i64 (ibits Go.BinOp.or IntKind.u64 (↑(2 * a.n.toNat % 128 ^ a_2) : Int) (uw .u64 (ibits Go.BinOp.and IntKind.u8 (gl a.l (a.r + (↑a_2 : Int).toNat)) (127 : Int) * 2 ^ min ((7 : Int) * (↑a_2 : Int)).toNat 64)) / (2 : Int)) = a.n ∧ (↑a_2 : Int) + 1 = (↑(vi a.n).length : Int) ∧ (0 : Int) = 0 ∧ True ∧ True)))))) ∧ (decide ((↑a_2 : Int) < (↑a.len : Int)) = false → ∃ b : Unit, (0 : Int) = a.n ∧ 0 = (↑(vi a.n).length : Int) ∧ (2 : Int) = 0 ∧ True ∧ True)) (by kernel_rfl) (by
 rintro ⟨l, r, len, cap, n⟩ ⟨h1, h2, h3, h4, h5, h6, h7⟩
 dsimp only at *
 obtain ⟨U, hU⟩ : ∃ U, U = 2 * n.toNat := ⟨_, rfl⟩
 have hUlt : U < 2 ^ 63 := by omega
 have hv : vi n = vbF 9 U := by rw [hU]; rfl
 have hv0 := vbF_len 9 U
 have hvs := vbF_short 9 8 U (by have : (2 : Nat) ^ 63 = 128 ^ 9 := by decide
                                 omega)
 rw [← hU]
 rw [hv] at h6 h7 ⊢
 refine ⟨⟨0, ?_⟩, fun i hi => ?_⟩
 ·(repeat' apply And.intro) <;> first | with_reducible (first | rfl | trivial | assumption) | omega | with_reducible (first | exact RowsEq.refl _ _ _ | exact Nat.le_refl _) | (dsimp only [List.length_cons, List.length_nil] <;> omega) | simp [Nat.mod_one]
 ·obtain ⟨b1, b2⟩ := vbF_at 9 U i (by have : (2 : Nat) ^ 63 ≤ 128 ^ (9 + 1) := by decide
                                      omega) hi
  have hgi := h7 i hi
  simp only [Int.toNat_natCast, InR, hgi]
  obtain ⟨c, hc, hc1⟩ : ∃ c : Nat, gl (vbF 9 U) i = (c : Int) ∧ c < 256 := by
   by_cases hl : i + 1 < (vbF 9 U).length
   ·exact ⟨_, (b1 hl).2, by omega⟩
   ·exact ⟨_, (b2 (by omega)).2.1, by have := (b2 (by omega)).1; omega⟩
  have hx : c % 128 = U / 128 ^ i % 128 := by
   by_cases hl : i + 1 < (vbF 9 U).length
   ·have := (b1 hl).2; rw [hc] at this; omega
   ·have := (b2 (by omega)).2.1; rw [hc] at this; omega
  have hor := or_step (c := c) hUlt (by omega : i ≤ 8) hc1 hx
  rw [hc] at b1 b2
  simp only [hc, hor]
  -- the last one
  have last : ¬ (127 < (c : Int)) → i + 1 = (vbF 9 U).length ∧ U % 128 ^ (i + 1) = U ∧ (0 < i → 0 < c) := fun h => by
   have hl : ¬ (i + 1 < (vbF 9 U).length) := fun hl => by have := (b1 hl).2; omega
   obtain ⟨g1, g2, g3⟩ := b2 (by omega)
   refine ⟨by omega, Nat.mod_eq_of_lt ?_, fun h0 => by have := g3 h0; omega⟩
   have := (Nat.div_lt_iff_lt_mul (Nat.pow_pos (n := i) (show 0 < 128 by decide))).1 g1
   rw [Nat.pow_succ, Nat.mul_comm]; exact this
  have more : 127 < (c : Int) → i + 1 < (vbF 9 U).length := fun h => by
   rcases Nat.lt_or_ge (i + 1) (vbF 9 U).length with hl | hl
   ·exact hl
   ·have := b2 (by omega); omega
  have fin : ∀ w, w = U → (ibits .and .u64 (w : Int) 1 == 1) = true → False := fun w hw h => by
   rw [hw, ibits_and1 U (by omega)] at h
   simp at h; omega
  have fin2 : ∀ w : Nat, w = U → uw .i64 ((w : Int) / 2) = n := fun w hw => by
   subst hw
   show IntKind.i64.wrap ((w : Int) / 2) = n
   rw [wrap_of_InR (by simp only [InR]; omega)]
   omega
  have h9 : ((i : Int) == 9) = false := by simp; omega
  rw [h9]
  refine ⟨fun c1 => ⟨by omega, by omega, fun _ => ⟨fun e => (by cases e), fun _ => ⟨by omega, by omega, fun c2 => ?_, fun c2 => ⟨fun c3 => ?_, fun c3 => ?_⟩⟩⟩⟩, fun c1 => ?_⟩
  ·have hm := more (by simpa using c2)
   refine ⟨by omega, i + 1, ?_⟩
   (repeat' apply And.intro) <;> first | with_reducible (first | rfl | trivial | assumption) | omega | with_reducible (first | exact RowsEq.refl _ _ _ | exact Nat.le_refl _) | (dsimp only [List.length_cons, List.length_nil] <;> omega)
  ·obtain ⟨l1, l2, l3⟩ := last (by simpa using c2)
   have l3 := l3 (by simpa using c3)
   refine ⟨fun e => ?_, fun _ => ⟨by omega, fun e => (fin _ l2 e).elim, fun e => ⟨by omega, (), ?_⟩⟩⟩
   ·simp at e; omega
   ·(repeat' apply And.intro) <;> first | with_reducible (first | rfl | trivial | assumption) | omega | with_reducible (first | exact RowsEq.refl _ _ _ | exact Nat.le_refl _) | (dsimp only [List.length_cons, List.length_nil] <;> omega) | exact fin2 _ l2
  ·obtain ⟨l1, l2, l3⟩ := last (by simpa using c2)
   refine ⟨by omega, fun e => (fin _ l2 e).elim, fun e => ⟨by omega, (), ?_⟩⟩
   (repeat' apply And.intro) <;> first | with_reducible (first | rfl | trivial | assumption) | omega | with_reducible (first | exact RowsEq.refl _ _ _ | exact Nat.le_refl _) | (dsimp only [List.length_cons, List.length_nil] <;> omega) | exact fin2 _ l2
  ·simp at c1; omega)
theorem foldl_push : ∀ (l : List UInt8) (b : ByteArray), List.foldl (fun (s : ByteArray) (n : Int) => s.push (UInt8.ofNat n.toNat)) b (l.map fun x => (x.toNat : Int)) = ⟨b.data ++ l.toArray⟩
 | [], b => by simp
 | x :: l, b => by
  rw [List.map_cons, List.foldl_cons, foldl_push l]
  congr 1
  simp [ByteArray.push]
theorem fold_tx {t : ByteArray} {n : Nat} {f : Nat → Int} (hn : n = t.size) (h : ∀ i, i < t.size → f i = gl (txB t) i) : List.foldl (fun (s : ByteArray) (n : Int) => s.push (UInt8.ofNat n.toNat)) ByteArray.empty (List.map f (List.range n)) = t := by
 have e : List.map f (List.range n) = txB t := by
  refine List.ext_getElem (by rw [List.length_map, List.length_range, txB_len, hn]) fun i h1 h2 => ?_
  rw [List.getElem_map, List.getElem_range, h i (by rw [txB_len] at h2; exact h2), gl_eq h2]
 rw [e, txB, foldl_push]
 cases t with
 | mk d => show ByteArray.mk (#[] ++ d.toList.toArray) = ByteArray.mk d; simp
theorem gl_append_right {α : Type} [Inhabited α] {l m : List α} {i : Nat} : gl (l ++ m) (l.length + i) = gl m i := by
 simp [gl, List.getD_eq_getElem?_getD, List.getElem?_append_right]
structure NTextA where
 l : List Int
 r : Nat
 len : Nat
 cap : Nat
 t : ByteArray
noncomputable def cNText : Con where
 α := NTextA
 β := Unit
 m := 1
 m' := 1
 pre := fun a => a.r + a.len ≤ a.l.length ∧ a.len < 100000 ∧ a.len ≤ a.cap ∧ a.t.size ≤ 1000 ∧ (vi a.t.size ++ txB a.t).length ≤ a.len ∧ ∀ i, i < (vi a.t.size ++ txB a.t).length → gl a.l (a.r + i) = gl (vi a.t.size ++ txB a.t) i
 args := fun a => [.a (.slc 0 a.r 1 a.len a.cap)]
 hp := fun _ => []
 ro := fun a => byteHp 0 a.l
 post := fun _ _ => True
 res := fun a _ => .tup [.a (.str a.t), .a (.int .i64 (vi a.t.size ++ txB a.t).length), .a (.int .i64 0)]
 hp' := fun _ _ => []
set_option maxHeartbeats 4000000 in
theorem bodyNText : fnBody (Y Tryz.prog) [(99, cNGet)] 76 cNText fun _ => [] := fnBody.of (p :=
 ∀ a : NTextA, (a.r + a.len ≤ a.l.length ∧ a.len < 100000 ∧ a.len ≤ a.cap ∧ a.t.size ≤ 1000 ∧ (vi (↑a.t.size : Int) ++ txB a.t).length ≤ a.len ∧ ∀ i : Nat, i < (vi (↑a.t.size : Int) ++ txB a.t).length → gl a.l (a.r + i) = gl (vi (↑a.t.size : Int) ++ txB a.t) i) → ∃ a_2 : NGetA, (a.r = a_2.r ∧ a.len = a_2.len ∧ a.cap = a_2.cap) ∧ (a_2.l.length ≤ a.l.length ∧ RowsEq a_2.l.length 1 (encRows encB a.l) (encRows encB a_2.l)) ∧ (a_2.r + a_2.len ≤ a_2.l.length ∧ a_2.len < 100000 ∧ a_2.len ≤ a_2.cap ∧ (0 : Int) ≤ a_2.n ∧ a_2.n < (4611686018427387904 : Int) ∧ (vi a_2.n).length ≤ a_2.len ∧ ∀ i : Nat, i < (vi a_2.n).length → gl a_2.l (a_2.r + i) = gl (vi a_2.n) i) ∧ ∀ b : Unit, True → (false = true → ∃ b : Unit, (ByteArray.mk #[]) = a.t ∧ 0 = (↑(vi (↑a.t.size : Int) ++ txB a.t).length : Int) ∧ (0 : Int) = 0 ∧ True ∧ True) ∧ (false = false → (decide (a_2.n < (0 : Int)) = true → ∃ b : Unit, (ByteArray.mk #[]) = a.t ∧ 0 = (↑(vi (↑a.t.size : Int) ++ txB a.t).length : Int) ∧ (1 : Int) = 0 ∧ True ∧ True) ∧ (decide (a_2.n < (0 : Int)) = false → (decide ((65536 : Int) < a_2.n) = true → ∃ b : Unit, (ByteArray.mk #[]) = a.t ∧ 0 = (↑(vi (↑a.t.size : Int) ++ txB a.t).length : Int) ∧ (1 : Int) = 0 ∧ True ∧ True) ∧ (decide ((65536 : Int) < a_2.n) = false → InR .i64 ((↑a.len : Int) - (↑(vi a_2.n).length : Int)) ∧ (decide ((↑a.len : Int) - (↑(vi a_2.n).length : Int) < a_2.n) = true → ∃ b : Unit, (ByteArray.mk #[]) = a.t ∧ 0 = (↑(vi (↑a.t.size : Int) ++ txB a.t).length : Int) ∧ (2 : Int) = 0 ∧ True ∧ True) ∧ 
 (decide ((↑a.len : Int) - (↑(vi a_2.n).length : Int) < a_2.n) = false → InR .i64 ((↑(vi a_2.n).length : Int) + a_2.n) ∧ (0 ≤ (↑(vi a_2.n).length : Int) + a_2.n ∧ (↑(vi a_2.n).length : Int) + a_2.n ≤ (↑a.cap : Int)) ∧ (0 ≤ (↑(vi a_2.n).length : Int) ∧ (↑(vi a_2.n).length : Int) ≤ (↑((↑(vi a_2.n).length : Int) + a_2.n).toNat : Int)) ∧ a.r + (↑(vi a_2.n).length : Int).toNat + (((↑(vi a_2.n).length : Int) + a_2.n).toNat - (↑(vi a_2.n).length : Int).toNat) ≤ a.l.length ∧ InR .i64 ((↑(vi a_2.n).length : Int) + a_2.n) ∧ ∃ b : Unit, List.foldl (fun (s : ByteArray) (n : Int) => s.push (UInt8.ofNat n.toNat)) ByteArray.empty (List.map (fun (i : Nat) => gl a.l (a.r + (↑(vi a_2.n).length : Int).toNat + i)) (List.range (((↑(vi a_2.n).length : Int) + a_2.n).toNat - (↑(vi a_2.n).length : Int).toNat))) = a.t ∧ (↑(vi a_2.n).length : Int) + a_2.n = (↑(vi (↑a.t.size : Int) ++ txB a.t).length : Int) ∧ (0 : Int) = 0 ∧ True ∧ True))))) (by kernel_rfl) (by
 rintro ⟨l, r, len, cap, t⟩ ⟨h1, h2, h3, h4, h5, h6⟩
 dsimp only at *
 have hv := vi_len (t.size : Nat)
 rw [List.length_append, txB_len] at h5 h6 ⊢
 have g1 : ∀ i, i < (vi (t.size : Nat)).length → gl l (r + i) = gl (vi (t.size : Nat)) i := fun i hi => by rw [h6 i (by omega), gl_append_left hi]
 refine ⟨⟨l, r, len, cap, t.size⟩, ?_⟩
 (repeat' (first | apply And.intro | (intro _) | apply Exists.intro ())) <;> first | with_reducible (first | rfl | trivial | assumption) | omega | with_reducible (first | exact RowsEq.refl _ _ _ | exact Nat.le_refl _) | (dsimp only [List.length_cons, List.length_nil] <;> omega) | (exact g1 _ (by assumption)) | (exfalso; (try dsimp only at *); (try simp only [decide_eq_true_eq, decide_eq_false_iff_not, Bool.false_eq_true] at *); omega) | skip
 refine fold_tx (by dsimp only; omega) fun i hi => ?_
 dsimp only
 rw [show r + (((vi (t.size : Nat)).length : Int)).toNat + i = r + ((vi (t.size : Nat)).length + i) by omega, h6 _ (by omega), gl_append_right])
theorem callNGet : CallsBy (Y Tryz.prog).G.X 99 cNGet := fn_ok okY (tab := []) trivial bodyNGet
theorem callNText : CallsBy (Y Tryz.prog).G.X 76 cNText := fn_ok okY (tab := [(99, cNGet)]) ⟨callNGet, trivial⟩ bodyNText
structure DecA where
 l : List Int
 r : Nat
 cap : Nat
 x : ItemM
noncomputable def cDec : Con where
 α := DecA
 β := Nat
 m := 1
 m' := 2
 pre := fun a => mayB a.x = true ∧ a.r + (itemB a.x).length ≤ a.l.length ∧ (itemB a.x).length ≤ a.cap ∧ ∀ i, i < (itemB a.x).length → gl a.l (a.r + i) = gl (itemB a.x) i
 args := fun a => [.a (.slc 0 a.r 1 (itemB a.x).length a.cap)]
 hp := fun _ => []
 ro := fun a => byteHp 0 a.l
 post := fun _ _ => True
 res := fun a c => .tup [.a (.slc 1 0 4 1 c), .a (.int .i64 0)]
 hp' := fun a _ => [(1, .arr 35 ksItem 1 (encRows encItem [a.x]))]
def iDec (a : DecA) : An := .flat 3 (Nat × Nat) (fun s k => ((s.new (.arr 35 ksItem k.1 (encRows encItem ([a.x].take k.1)))).set 4 (.a (.slc s.nx 0 4 k.1 k.2))).int 5 ((k.1 * (itemB a.x).length : Nat) : Int)) (fun _ k => k.1 ≤ 1) (fun _ k => 1 - k.1)
set_option maxHeartbeats 4000000 in
theorem bodyDec : fnBody (Y Tryz.prog) [(99, cNGet), (76, cNText), (36, cEnc)] 56 cDec fun a => [(56, [iDec a], [])] := fnBody.of (p :=
 ∀ a : DecA, (mayB a.x = true ∧ a.r + (itemB a.x).length ≤ a.l.length ∧ (itemB a.x).length ≤ a.cap ∧ ∀ i : Nat, i < (itemB a.x).length → gl a.l (a.r + i) = gl (itemB a.x) i) → (∃ a_2 : Nat × Nat, 0 = (↑(a_2.fst * (itemB a.x).length) : Int) ∧ (0 = a_2.fst ∧ 0 = a_2.snd) ∧ (0 : Int) = 0 ∧ (a.r = a.r ∧ (itemB a.x).length = (itemB a.x).length ∧ a.cap = a.cap) ∧ a_2.fst = 0 ∧ (a.l.length ≤ a.l.length ∧ RowsEq a.l.length 1 (encRows encB a.l) (encRows encB a.l)) ∧ a_2.fst ≤ 1 ∧ True) ∧ ∀ a_2 : Nat × Nat, a_2.fst ≤ 1 → (decide ((↑(a_2.fst * (itemB a.x).length) : Int) < (↑(itemB a.x).length : Int)) = true → (0 ≤ (↑(a_2.fst * (itemB a.x).length) : Int) ∧ (↑(a_2.fst * (itemB a.x).length) : Int) ≤ (↑(itemB a.x).length : Int)) ∧ ∃ a_5 : NTextA, (a.r + (↑(a_2.fst * (itemB a.x).length) : Int).toNat = a_5.r ∧ (itemB a.x).length - (↑(a_2.fst * (itemB a.x).length) : Int).toNat = a_5.len ∧ a.cap - (↑(a_2.fst * (itemB a.x).length) : Int).toNat = a_5.cap) ∧ (a_5.l.length ≤ a.l.length ∧ RowsEq a_5.l.length 1 (encRows encB a.l) (encRows encB a_5.l)) ∧ (a_5.r + a_5.len ≤ a_5.l.length ∧ a_5.len < 100000 ∧ a_5.len ≤ a_5.cap ∧ a_5.t.size ≤ 1000 ∧ (vi (↑a_5.t.size : Int) ++ txB a_5.t).length ≤ a_5.len ∧ ∀ i : Nat, i < (vi (↑a_5.t.size : Int) ++ txB a_5.t).length → gl a_5.l (a_5.r + i) = gl (vi (↑a_5.t.size : Int) ++ txB a_5.t) i) ∧ ∀ b : Unit, True → (false = true → ∃ b : Nat, (0 = 1 ∧ 0 = b) ∧ (1 : Int) = 0 ∧ 1 = 0 ∧ True ∧ True) ∧ (false = false → InR .i64 ((↑(a_2.fst * (itemB a.x).length) : Int) + (↑(vi (↑a_5.t.size : Int) ++ txB a_5.t).length : Int)) ∧ 
 (0 ≤ (↑(a_2.fst * (itemB a.x).length) : Int) + (↑(vi (↑a_5.t.size : Int) ++ txB a_5.t).length : Int) ∧ (↑(a_2.fst * (itemB a.x).length) : Int) + (↑(vi (↑a_5.t.size : Int) ++ txB a_5.t).length : Int) ≤ (↑(itemB a.x).length : Int)) ∧ ∃ a_8 : NTextA, (a.r + ((↑(a_2.fst * (itemB a.x).length) : Int) + (↑(vi (↑a_5.t.size : Int) ++ txB a_5.t).length : Int)).toNat = a_8.r ∧ (itemB a.x).length - ((↑(a_2.fst * (itemB a.x).length) : Int) + (↑(vi (↑a_5.t.size : Int) ++ txB a_5.t).length : Int)).toNat = a_8.len ∧ a.cap - ((↑(a_2.fst * (itemB a.x).length) : Int) + (↑(vi (↑a_5.t.size : Int) ++ txB a_5.t).length : Int)).toNat = a_8.cap) ∧ (a_8.l.length ≤ a.l.length ∧ RowsEq a_8.l.length 1 (encRows encB a.l) (encRows encB a_8.l)) ∧ (a_8.r + a_8.len ≤ a_8.l.length ∧ a_8.len < 100000 ∧ a_8.len ≤ a_8.cap ∧ a_8.t.size ≤ 1000 ∧ (vi (↑a_8.t.size : Int) ++ txB a_8.t).length ≤ a_8.len ∧ ∀ i : Nat, i < (vi (↑a_8.t.size : Int) ++ txB a_8.t).length → gl a_8.l (a_8.r + i) = gl (vi (↑a_8.t.size : Int) ++ txB a_8.t) i) ∧ ∀ b : Unit, True → (false = true → ∃ b : Nat, (0 = 1 ∧ 0 = b) ∧ (1 : Int) = 0 ∧ 1 = 0 ∧ True ∧ True) ∧ (false = false → InR .i64 ((↑(a_2.fst * (itemB a.x).length) : Int) + (↑(vi (↑a_5.t.size : Int) ++ txB a_5.t).length : Int)) ∧ InR .i64 ((↑(a_2.fst * (itemB a.x).length) : Int) + (↑(vi (↑a_5.t.size : Int) ++ txB a_5.t).length : Int) + (↑(vi (↑a_8.t.size : Int) ++ txB a_8.t).length : Int)) ∧ (0 ≤ (↑(a_2.fst * (itemB a.x).length) : Int) + (↑(vi (↑a_5.t.size : Int) ++ txB a_5.t).length : Int) + (↑(vi (↑a_8.t.size : Int) ++ txB a_8.t).length : Int) ∧ 
 (↑(a_2.fst * (itemB a.x).length) : Int) + (↑(vi (↑a_5.t.size : Int) ++ txB a_5.t).length : Int) + (↑(vi (↑a_8.t.size : Int) ++ txB a_8.t).length : Int) ≤ (↑(itemB a.x).length : Int)) ∧ ((0 : Int) ≤ 0 ∧ (0 : Int) < 2) ∧ ((0 : Int) ≤ 0 ∧ 0 ≤ (↑((itemB a.x).length - ((↑(a_2.fst * (itemB a.x).length) : Int) + (↑(vi (↑a_5.t.size : Int) ++ txB a_5.t).length : Int) + (↑(vi (↑a_8.t.size : Int) ++ txB a_8.t).length : Int)).toNat) : Int)) ∧ ∃ a_11 : NGetA, (a.r + ((↑(a_2.fst * (itemB a.x).length) : Int) + (↑(vi (↑a_5.t.size : Int) ++ txB a_5.t).length : Int) + (↑(vi (↑a_8.t.size : Int) ++ txB a_8.t).length : Int)).toNat + 0 = a_11.r ∧ (itemB a.x).length - ((↑(a_2.fst * (itemB a.x).length) : Int) + (↑(vi (↑a_5.t.size : Int) ++ txB a_5.t).length : Int) + (↑(vi (↑a_8.t.size : Int) ++ txB a_8.t).length : Int)).toNat - 0 = a_11.len ∧ a.cap - ((↑(a_2.fst * (itemB a.x).length) : Int) + (↑(vi (↑a_5.t.size : Int) ++ txB a_5.t).length : Int) + (↑(vi (↑a_8.t.size : Int) ++ txB a_8.t).length : Int)).toNat - 0 = a_11.cap) ∧ (a_11.l.length ≤ a.l.length ∧ RowsEq a_11.l.length 1 (encRows encB a.l) (encRows encB a_11.l)) ∧ (a_11.r + a_11.len ≤ a_11.l.length ∧ a_11.len < 100000 ∧ a_11.len ≤ a_11.cap ∧ (0 : Int) ≤ a_11.n ∧ a_11.n < (4611686018427387904 : Int) ∧ (vi a_11.n).length ≤ a_11.len ∧ ∀ i : Nat, i < (vi a_11.n).length → gl a_11.l (a_11.r + i) = gl (vi a_11.n) i) ∧ ∀ b : Unit, True → (false = true → (false = true → ∃ b : Nat, (0 = 1 ∧ 0 = b) ∧ (1 : Int) = 0 ∧ 1 = 0 ∧ True ∧ True) ∧ (false = false → 
 0 + a_2.fst ≤ a_2.fst ∧ 1 ≤ 1 ∧ (a_2.fst + 1) * 48 ≤ 140737488355328 ∧ ∀ cap : Nat, a_2.fst + 1 ≤ cap → cap ≤ lenMax → (a_2.fst + 1 ≤ a_2.snd → cap = a_2.snd) → InR .i64 ((↑(vi (↑a_5.t.size : Int) ++ txB a_5.t).length : Int) + (↑(vi (↑a_8.t.size : Int) ++ txB a_8.t).length : Int)) ∧ InR .i64 ((↑(vi (↑a_5.t.size : Int) ++ txB a_5.t).length : Int) + (↑(vi (↑a_8.t.size : Int) ++ txB a_8.t).length : Int) + 0) ∧ InR .i64 ((↑(a_2.fst * (itemB a.x).length) : Int) + ((↑(vi (↑a_5.t.size : Int) ++ txB a_5.t).length : Int) + (↑(vi (↑a_8.t.size : Int) ++ txB a_8.t).length : Int) + 0)) ∧ ∃ (a' : Nat × Nat), (↑(a_2.fst * (itemB a.x).length) : Int) + ((↑(vi (↑a_5.t.size : Int) ++ txB a_5.t).length : Int) + (↑(vi (↑a_8.t.size : Int) ++ txB a_8.t).length : Int) + 0) = (↑(a'.fst * (itemB a.x).length) : Int) ∧ (0 = 0 ∧ a_2.fst + 1 = a'.fst ∧ cap = a'.snd) ∧ (0 : Int) = 0 ∧ (a.r = a.r ∧ (itemB a.x).length = (itemB a.x).length ∧ a.cap = a.cap) ∧ (a'.fst ≤ a_2.fst + 1 ∧ RowsEq a'.fst 4 (appRows (encRows encItem (List.take a_2.fst [a.x])) 0 a_2.fst fun (i j : Nat) => flatRows 4 [Value.string a_5.t, Value.string a_8.t, Value.int IntKind.i64 (0 : Int), Value.bool false] (0 + i) j) (encRows encItem (List.take a'.fst [a.x]))) ∧ (a.l.length ≤ a.l.length ∧ RowsEq a.l.length 1 (encRows encB a.l) (encRows encB a.l)) ∧ a'.fst ≤ 1 ∧ 1 - a'.fst < 1 - a_2.fst)) ∧ (false = false → InR .i64 ((0 : Int) + (↑(vi a_11.n).length : Int)) ∧ ((0 : Int) ≤ 1 ∧ (1 : Int) < 2) ∧ ((0 : Int) ≤ 0 + (↑(vi a_11.n).length : Int) ∧ 
 (0 : Int) + (↑(vi a_11.n).length : Int) ≤ (↑((itemB a.x).length - ((↑(a_2.fst * (itemB a.x).length) : Int) + (↑(vi (↑a_5.t.size : Int) ++ txB a_5.t).length : Int) + (↑(vi (↑a_8.t.size : Int) ++ txB a_8.t).length : Int)).toNat) : Int)) ∧ ∃ a_14 : NGetA, (a.r + ((↑(a_2.fst * (itemB a.x).length) : Int) + (↑(vi (↑a_5.t.size : Int) ++ txB a_5.t).length : Int) + (↑(vi (↑a_8.t.size : Int) ++ txB a_8.t).length : Int)).toNat + ((0 : Int) + (↑(vi a_11.n).length : Int)).toNat = a_14.r ∧ (itemB a.x).length - ((↑(a_2.fst * (itemB a.x).length) : Int) + (↑(vi (↑a_5.t.size : Int) ++ txB a_5.t).length : Int) + (↑(vi (↑a_8.t.size : Int) ++ txB a_8.t).length : Int)).toNat - ((0 : Int) + (↑(vi a_11.n).length : Int)).toNat = a_14.len ∧ a.cap - ((↑(a_2.fst * (itemB a.x).length) : Int) + (↑(vi (↑a_5.t.size : Int) ++ txB a_5.t).length : Int) + (↑(vi (↑a_8.t.size : Int) ++ txB a_8.t).length : Int)).toNat - ((0 : Int) + (↑(vi a_11.n).length : Int)).toNat = a_14.cap) ∧ (a_14.l.length ≤ a.l.length ∧ RowsEq a_14.l.length 1 (encRows encB a.l) (encRows encB a_14.l)) ∧ (a_14.r + a_14.len ≤ a_14.l.length ∧ a_14.len < 100000 ∧ a_14.len ≤ a_14.cap ∧ (0 : Int) ≤ a_14.n ∧ a_14.n < (4611686018427387904 : Int) ∧ (vi a_14.n).length ≤ a_14.len ∧ ∀ i : Nat, i < (vi a_14.n).length → gl a_14.l (a_14.r + i) = gl (vi a_14.n) i) ∧ ∀ b : Unit, True → (false = true → (false = true → ∃ b : Nat, (0 = 1 ∧ 0 = b) ∧ (1 : Int) = 0 ∧ 1 = 0 ∧ True ∧ True) ∧ (false = false → 0 + a_2.fst ≤ a_2.fst ∧ 1 ≤ 1 ∧ (a_2.fst + 1) * 48 ≤ 140737488355328 ∧ 
 ∀ cap : Nat, a_2.fst + 1 ≤ cap → cap ≤ lenMax → (a_2.fst + 1 ≤ a_2.snd → cap = a_2.snd) → InR .i64 ((↑(vi (↑a_5.t.size : Int) ++ txB a_5.t).length : Int) + (↑(vi (↑a_8.t.size : Int) ++ txB a_8.t).length : Int)) ∧ InR .i64 ((↑(vi (↑a_5.t.size : Int) ++ txB a_5.t).length : Int) + (↑(vi (↑a_8.t.size : Int) ++ txB a_8.t).length : Int) + 0) ∧ InR .i64 ((↑(a_2.fst * (itemB a.x).length) : Int) + ((↑(vi (↑a_5.t.size : Int) ++ txB a_5.t).length : Int) + (↑(vi (↑a_8.t.size : Int) ++ txB a_8.t).length : Int) + 0)) ∧ ∃ (a' : Nat × Nat), (↑(a_2.fst * (itemB a.x).length) : Int) + ((↑(vi (↑a_5.t.size : Int) ++ txB a_5.t).length : Int) + (↑(vi (↑a_8.t.size : Int) ++ txB a_8.t).length : Int) + 0) = (↑(a'.fst * (itemB a.x).length) : Int) ∧ (0 = 0 ∧ a_2.fst + 1 = a'.fst ∧ cap = a'.snd) ∧ (0 : Int) = 0 ∧ (a.r = a.r ∧ (itemB a.x).length = (itemB a.x).length ∧ a.cap = a.cap) ∧ (a'.fst ≤ a_2.fst + 1 ∧ RowsEq a'.fst 4 (appRows (encRows encItem (List.take a_2.fst [a.x])) 0 a_2.fst fun (i j : Nat) => flatRows 4 [Value.string a_5.t, Value.string a_8.t, Value.int IntKind.i64 a_11.n, Value.bool false] (0 + i) j) (encRows encItem (List.take a'.fst [a.x]))) ∧ (a.l.length ≤ a.l.length ∧ RowsEq a.l.length 1 (encRows encB a.l) (encRows encB a.l)) ∧ a'.fst ≤ 1 ∧ 1 - a'.fst < 1 - a_2.fst)) ∧ (false = false → InR .i64 ((0 : Int) + (↑(vi a_11.n).length : Int) + (↑(vi a_14.n).length : Int)) ∧ (InR .i64 a_14.n → 0 + a_2.fst ≤ a_2.fst ∧ 1 ≤ 1 ∧ (a_2.fst + 1) * 48 ≤ 140737488355328 ∧ ∀ cap : Nat, a_2.fst + 1 ≤ cap → cap ≤ lenMax → 
 (a_2.fst + 1 ≤ a_2.snd → cap = a_2.snd) → InR .i64 ((↑(vi (↑a_5.t.size : Int) ++ txB a_5.t).length : Int) + (↑(vi (↑a_8.t.size : Int) ++ txB a_8.t).length : Int)) ∧ InR .i64 ((↑(vi (↑a_5.t.size : Int) ++ txB a_5.t).length : Int) + (↑(vi (↑a_8.t.size : Int) ++ txB a_8.t).length : Int) + ((0 : Int) + (↑(vi a_11.n).length : Int) + (↑(vi a_14.n).length : Int))) ∧ InR .i64 ((↑(a_2.fst * (itemB a.x).length) : Int) + ((↑(vi (↑a_5.t.size : Int) ++ txB a_5.t).length : Int) + (↑(vi (↑a_8.t.size : Int) ++ txB a_8.t).length : Int) + ((0 : Int) + (↑(vi a_11.n).length : Int) + (↑(vi a_14.n).length : Int)))) ∧ ∃ (a' : Nat × Nat), (↑(a_2.fst * (itemB a.x).length) : Int) + ((↑(vi (↑a_5.t.size : Int) ++ txB a_5.t).length : Int) + (↑(vi (↑a_8.t.size : Int) ++ txB a_8.t).length : Int) + ((0 : Int) + (↑(vi a_11.n).length : Int) + (↑(vi a_14.n).length : Int))) = (↑(a'.fst * (itemB a.x).length) : Int) ∧ (0 = 0 ∧ a_2.fst + 1 = a'.fst ∧ cap = a'.snd) ∧ (0 : Int) = 0 ∧ (a.r = a.r ∧ (itemB a.x).length = (itemB a.x).length ∧ a.cap = a.cap) ∧ (a'.fst ≤ a_2.fst + 1 ∧ RowsEq a'.fst 4 (appRows (encRows encItem (List.take a_2.fst [a.x])) 0 a_2.fst fun (i j : Nat) => flatRows 4 [Value.string a_5.t, Value.string a_8.t, Value.int IntKind.i64 a_11.n, Value.bool (a_14.n == (1 : Int))] (0 + i) j) (encRows encItem (List.take a'.fst [a.x]))) ∧ (a.l.length ≤ a.l.length ∧ RowsEq a.l.length 1 (encRows encB a.l) (encRows encB a.l)) ∧ a'.fst ≤ 1 ∧ 1 - a'.fst < 1 - a_2.fst)))))) ∧ (decide ((↑(a_2.fst * (itemB a.x).length) : Int) < (↑(itemB a.x).length : Int)) = false → 
 ∃ a_5 : EncA, (0 = 0 ∧ a_2.fst = a_5.xs.length ∧ a_2.snd = a_5.cap) ∧ (a_5.xs.length ≤ a_2.fst ∧ RowsEq a_5.xs.length 4 (encRows encItem (List.take a_2.fst [a.x])) (encRows encItem a_5.xs)) ∧ (1 ≤ a_5.xs.length ∧ a_5.xs.length < 20 ∧ ∀ i : Nat, i < a_5.xs.length → mayB (gl a_5.xs i) = true) ∧ ∀ b : Nat, True → ∀ b : Bool, (b = true → (itemsB a_5.xs).length = 0) → (b = true → ∃ b : Nat, (0 = 1 ∧ 0 = b) ∧ (1 : Int) = 0 ∧ 1 = 0 ∧ True ∧ True) ∧ (b = false → 0 + (itemsB a_5.xs).length ≤ (itemsB a_5.xs).length ∧ a.r + (itemB a.x).length ≤ a.l.length ∧ ((!decide (List.foldl (fun (s : ByteArray) (n : Int) => s.push (UInt8.ofNat n.toNat)) ByteArray.empty (List.map (fun (i : Nat) => gl (itemsB a_5.xs) (0 + i)) (List.range (itemsB a_5.xs).length)) = List.foldl (fun (s : ByteArray) (n : Int) => s.push (UInt8.ofNat n.toNat)) ByteArray.empty (List.map (fun (i : Nat) => gl a.l (a.r + i)) (List.range (itemB a.x).length)))) = true → ∃ b : Nat, (0 = 1 ∧ 0 = b) ∧ (1 : Int) = 0 ∧ 1 = 0 ∧ True ∧ True) ∧ ((!decide (List.foldl (fun (s : ByteArray) (n : Int) => s.push (UInt8.ofNat n.toNat)) ByteArray.empty (List.map (fun (i : Nat) => gl (itemsB a_5.xs) (0 + i)) (List.range (itemsB a_5.xs).length)) = List.foldl (fun (s : ByteArray) (n : Int) => s.push (UInt8.ofNat n.toNat)) ByteArray.empty (List.map (fun (i : Nat) => gl a.l (a.r + i)) (List.range (itemB a.x).length)))) = false → ∃ b : Nat, (0 = 0 ∧ a_2.fst = 1 ∧ a_2.snd = b) ∧ (0 : Int) = 0 ∧ (1 ≤ a_2.fst ∧ RowsEq 1 4 (encRows encItem (List.take a_2.fst [a.x])) (encRows encItem [a.x])) ∧ 
 True ∧ True)))) (by kernel_rfl) (by
 rintro ⟨l, r, cap, x⟩ ⟨h1, h2, h3, h4⟩
 dsimp only at *
 obtain ⟨k1, k2, k3, k4⟩ := may_out h1
 obtain ⟨P, hP⟩ : ∃ P, P = vi (x.key.size : Nat) ++ txB x.key := ⟨_, rfl⟩
 obtain ⟨Q, hQ⟩ : ∃ Q, Q = vi (x.val.size : Nat) ++ txB x.val := ⟨_, rfl⟩
 obtain ⟨E, hE⟩ : ∃ E, E = vi x.e := ⟨_, rfl⟩
 obtain ⟨g, hg⟩ : ∃ g : Int, g = if x.gone then 1 else 0 := ⟨_, rfl⟩
 obtain ⟨G, hG⟩ : ∃ G, G = vi g := ⟨_, rfl⟩
 have hg0 : 0 ≤ g ∧ g ≤ 1 := by rw [hg]; split <;> omega
 have hI : itemB x = P ++ (Q ++ (E ++ G)) := by
  simp only [itemB, textsB, putsB, List.flatMap_cons, List.flatMap_nil, List.append_nil, hP, hQ, hE, hG, hg, List.append_assoc]
 have hPl : 1 ≤ P.length := by have := vi_len (x.key.size : Nat); rw [hP, List.length_append]; omega
 have hlen := itemB_len h1
 have hL : (itemB x).length = P.length + (Q.length + (E.length + G.length)) := by rw [hI]; simp only [List.length_append]
 have fP : ∀ i, i < P.length → gl l (r + i) = gl P i := fun i hi => by rw [h4 i (by omega), hI, gl_append_left hi]
 have fQ : ∀ i, i < Q.length → gl l (r + P.length + i) = gl Q i := fun i hi => by
  rw [Nat.add_assoc, h4 _ (by omega), hI, gl_append_right, gl_append_left hi]
 have fE : ∀ i, i < E.length → gl l (r + (P.length + Q.length) + i) = gl E i := fun i hi => by
  rw [Nat.add_assoc, h4 _ (by omega), hI, Nat.add_assoc, gl_append_right, gl_append_right, gl_append_left hi]
 have fG : ∀ i, i < G.length → gl l (r + (P.length + Q.length) + E.length + i) = gl G i := fun i hi => by
  rw [Nat.add_assoc, Nat.add_assoc, h4 _ (by omega), hI, Nat.add_assoc, gl_append_right, gl_append_right, gl_append_right]
 have hall : List.map (fun (i : Nat) => gl l (r + i)) (List.range (itemB x).length) = List.map (fun (i : Nat) => gl (itemB x) (0 + i)) (List.range (itemB x).length) := by
  refine List.map_congr_left fun i hi => ?_
  rw [h4 i (List.mem_range.1 hi), Nat.zero_add]
 obtain ⟨L, hLL⟩ : ∃ L, (itemB x).length = L := ⟨_, rfl⟩
 rw [hLL] at h2 h3 h4 hlen hL hall ⊢
 refine ⟨⟨(0, 0), ?_⟩, fun k hk => ?_⟩
 ·dsimp only
  (repeat' apply And.intro) <;> first | with_reducible (first | rfl | trivial | assumption) | omega | with_reducible (first | exact RowsEq.refl _ _ _ | exact Nat.le_refl _) | (dsimp only [List.length_cons, List.length_nil] <;> omega) | simp
 ·obtain ⟨k, c⟩ := k
  have hk : k ≤ 1 := hk
  dsimp only
  refine ⟨fun c1 => ?_, fun c1 => ?_⟩
  ·have hk0 : k = 0 := by
    rcases Nat.lt_or_ge k 1 with h | h
    ·omega
    ·have : k = 1 := by omega
     subst this
     simp at c1
   subst hk0
   simp only [Nat.zero_mul, Int.natCast_zero, Int.zero_add, Int.toNat_zero, Nat.add_zero, Nat.sub_zero]
   refine ⟨by omega, ⟨NTextA.mk l r L cap x.key, ?_⟩⟩
   simp only [← hP]
   (repeat' apply And.intro) <;> first | with_reducible (first | rfl | trivial | assumption) | omega | with_reducible (first | exact RowsEq.refl _ _ _ | exact Nat.le_refl _) | (dsimp only [List.length_cons, List.length_nil] <;> omega) | exact fP | skip
   intro _ _
   refine ⟨fun e => (by cases e), fun _ => ?_⟩
   refine ⟨by simp only [InR]; omega, by omega, ⟨NTextA.mk l (r + P.length) (L - P.length) (cap - P.length) x.val, ?_⟩⟩
   simp only [← hQ]
   (repeat' apply And.intro) <;> first | with_reducible (first | rfl | trivial | assumption) | omega | with_reducible (first | exact RowsEq.refl _ _ _ | exact Nat.le_refl _) | (dsimp only [List.length_cons, List.length_nil] <;> omega) | exact fQ | skip
   intro _ _
   refine ⟨fun e => (by cases e), fun _ => ?_⟩
   (repeat' apply And.intro) <;> first | with_reducible (first | rfl | trivial | assumption) | omega | with_reducible (first | exact RowsEq.refl _ _ _ | exact Nat.le_refl _) | (dsimp only [List.length_cons, List.length_nil] <;> omega) | (simp only [InR]; omega) | skip
   refine ⟨NGetA.mk l (r + (P.length + Q.length)) (L - (P.length + Q.length)) (cap - (P.length + Q.length)) x.e, ?_⟩
   simp only [← hE]
   (repeat' apply And.intro) <;> first | with_reducible (first | rfl | trivial | assumption) | omega | with_reducible (first | exact RowsEq.refl _ _ _ | exact Nat.le_refl _) | (dsimp only [List.length_cons, List.length_nil] <;> omega) | exact fE | skip
   intro _ _
   refine ⟨fun e => (by cases e), fun _ => ?_⟩
   (repeat' apply And.intro) <;> first | with_reducible (first | rfl | trivial | assumption) | omega | with_reducible (first | exact RowsEq.refl _ _ _ | exact Nat.le_refl _) | (dsimp only [List.length_cons, List.length_nil] <;> omega) | (simp only [InR]; omega) | skip
   refine ⟨NGetA.mk l (r + (P.length + Q.length) + E.length) (L - (P.length + Q.length) - E.length) (cap - (P.length + Q.length) - E.length) g, ?_⟩
   simp only [← hG]
   (repeat' apply And.intro) <;> first | with_reducible (first | rfl | trivial | assumption) | omega | with_reducible (first | exact RowsEq.refl _ _ _ | exact Nat.le_refl _) | (dsimp only [List.length_cons, List.length_nil] <;> omega) | exact fG | skip
   intro _ _
   refine ⟨fun e => (by cases e), fun _ => ?_⟩
   (repeat' (first | apply And.intro | (intro _))) <;> first | with_reducible (first | rfl | trivial | assumption) | omega | with_reducible (first | exact RowsEq.refl _ _ _ | exact Nat.le_refl _) | (dsimp only [List.length_cons, List.length_nil] <;> omega) | (simp only [InR]; omega) | skip
   apply Exists.intro ((1, _) : Nat × Nat)
   have hgo : (g == 1) = x.gone := by
    rw [hg]; cases x.gone <;> rfl
   have hr : RowsEq 1 4 (appRows (encRows encItem (List.take 0 [x])) 0 0 fun (i j : Nat) => flatRows 4 [Value.string x.key, Value.string x.val, Value.int .i64 x.e, Value.bool (g == 1)] (0 + i) j) (encRows encItem (List.take 1 [x])) := .of_cells fun i hi => by
    have : i = 0 := by omega
    subst this
    rw [hgo]; rfl
   (repeat' apply And.intro) <;> first | with_reducible (first | rfl | trivial | assumption) | omega | with_reducible (first | exact RowsEq.refl _ _ _ | exact Nat.le_refl _) | (dsimp only [List.length_cons, List.length_nil] <;> omega) | exact hr | skip
  ·have hk1 : k = 1 := by
    rcases Nat.lt_or_ge k 1 with h | h
    ·have : k = 0 := by omega
     subst this
     simp at c1; omega
    ·omega
   subst hk1
   have hx1 : List.take 1 [x] = [x] := rfl
   have hI1 : itemsB [x] = itemB x := by simp [itemsB]
   rw [hx1]
   refine ⟨⟨[x], c⟩, ?_⟩
   simp only [hI1, hLL, hall]
   have hm : ∀ i, i < [x].length → mayB (gl [x] i) = true := fun i hi => by
    have : i = 0 := by simp at hi; omega
    subst this
    exact h1
   (repeat' (first | apply And.intro | (intro _) | apply Exists.intro (c : Nat))) <;> first | with_reducible (first | rfl | trivial | assumption) | omega | with_reducible (first | exact RowsEq.refl _ _ _ | exact Nat.le_refl _) | (dsimp only [List.length_cons, List.length_nil] <;> omega) | (exact hm _ (by assumption)) | (exfalso; simp at *; done) | (exfalso; clear h4 hall fP fQ fE fG; grind) | skip)
theorem callDec : CallsBy (Y Tryz.prog).G.X 56 cDec := fn_ok okY (tab := [(99, cNGet), (76, cNText), (36, cEnc)]) ⟨callNGet, callNText, callEnc, trivial⟩ bodyDec

end Go.Proofs.YtfobhkibkdmglaaGreat

namespace Go.Sx
section

/-- what is done to an atom and the heap is sound -/
def AtOk (f : A → S → (A → S → Prop) → Prop) : Prop := ∀ x s K, f x s K → ∀ w0 M ρ w, ρ.n = s.nx → HeapSat w0 M ρ s.hp w → ∀ u, x.Rep ρ u → HView w0 M ρ w s u K
theorem absA_at (n : Nat) : AtOk (absA n) := absA_ok n

/-- of a slot -/
def onSlot (f : A → S → (A → S → Prop) → Prop) (slot : Nat) (s : S) (K : S → Prop) : Prop :=
 match look s.fr slot with
 | .a x => f x s fun y s' => K (s'.set slot (.a y))
 | _ => False
theorem onSlot_ok {f : A → S → (A → S → Prop) → Prop} (hf : AtOk f) (slot : Nat) : ∀ s K, onSlot f slot s K → ViewOk s K := by
 intro s K h w0 M ρ a w hs
 unfold onSlot at h
 split at h <;> try exact h.elim
 rename_i x hx
 have hr := hs.frame slot
 rw [hx] at hr
 obtain ⟨y, s', ρ', hK, h1, h2, h3, h4, h5, h6⟩ := hf x s _ h w0 M ρ w hs.n hs.heap _ hr
 refine ⟨_, ρ', hK, h4, ⟨hs.defers, by rw [hs.size]; exact h1.symm, h3, ?_, h6⟩⟩
 intro j
 show (look ((slot, .a y) :: s'.fr) j).Rep ρ' _
 simp only [look]
 by_cases hj : slot = j
 ·subst hj
  simp only [beq_self', cond_true]; exact h5
 ·simp only [beq_ne hj, cond_false]
  rw [h2]; exact (hs.frame j).mono h4

/-- of a cell of a slot's struct -/
def onCell (f : A → S → (A → S → Prop) → Prop) (slot cell : Nat) (s : S) (K : S → Prop) : Prop :=
 match look s.fr slot with
 | .a (.ptr t _ _ _) => match s.hp.find t with
  | some (_, .obj _ cs) => match cs[cell]? with
   | some x => f x s fun y s' => match s'.hp.find t with
    | some (true, .obj ty cs') => bif Nat.blt cell cs'.length then K (s'.put (s'.hp.upd t (.obj ty (cs'.set cell y)))) else False
    | _ => False
   | none => False
  | _ => False
 | _ => False
theorem onCell_ok {f : A → S → (A → S → Prop) → Prop} (hf : AtOk f) (slot cell : Nat) : ∀ s K, onCell f slot cell s K → ViewOk s K := by
 intro s K h w0 M ρ a w hs
 unfold onCell at h
 split at h <;> try exact h.elim
 rename_i t r e c hsl
 split at h <;> try exact h.elim
 rename_i m0 ty0 cs hfd
 split at h <;> try exact h.elim
 rename_i x hx
 have he := hs.heap.ent _ (Heap.find_mem hfd)
 obtain ⟨vs, fr, a1, a2, ⟨us, xs, a3, a4⟩, a5⟩ := he.ch
 obtain ⟨u, hu, hru⟩ := a4.get hx
 obtain ⟨y, s', ρ', hK, h1, h2, h3, h4, h5, h6⟩ := hf x s _ h w0 M ρ w hs.n hs.heap u hru
 split at hK <;> try exact hK.elim
 rename_i ty1 cs' hf'
 cases hl : Nat.blt cell cs'.length with
 | false => rw [hl] at hK; exact hK.elim
 | true =>
  rw [hl] at hK
  simp only [cond_true] at hK
  have hl := Nat.le_of_ble_eq_true hl
  have htn : t < ρ.n := he.tag
  have hpl : ρ'.pl t = ρ.pl t := h4.pl t htn
  have h7 := h6.upd hf' (Keeps.refl _ w) (ch' := .obj ty1 (cs'.set cell y)) (by
   obtain ⟨vs', fr', b1, b2, ⟨us', xs', b3, b4⟩, b5⟩ := (h6.ent _ (Heap.find_mem hf')).ch
   refine ⟨vs', fr', b1, b2, ⟨us', xs', b3, ?_⟩, b5⟩
   simp only [hpl] at b1
   rw [a1] at b1
   have hvv : vs = vs' := by injection b1 with b1; injection b1
   subst hvv
   have hlu := b4.length
   have e1 : us'[cell]? = some u := by
    have g1 : vs.toList[cell]? = us'[cell]? := by rw [b3, List.getElem?_append_left (by omega)]
    have g2 : vs.toList[cell]? = us[cell]? := by
     obtain ⟨hlt, _⟩ := List.getElem?_eq_some_iff.1 hu
     rw [a3, List.getElem?_append_left hlt]
    rw [← g1, g2, hu]
   have := b4.set cell (v := u) (x := y) h5
   have e : us'.set cell u = us' := by
    obtain ⟨hlt, he⟩ := List.getElem?_eq_some_iff.1 e1
    subst he
    exact List.set_getElem_self hlt
   rwa [e] at this)
  exact ⟨_, ρ', hK, h4, ⟨hs.defers, by rw [hs.size]; exact h1.symm, h3, by show FrameSat ρ' s'.fr _; rw [h2]; exact hs.frame.mono h4, h7⟩⟩

def An.absSlot (key slot : Nat) (next : LH) : An := .view key (onSlot (absA 3) slot) (onSlot_ok (absA_at 3) slot) next
def An.absCell (key slot cell : Nat) (next : LH) : An := .view key (onCell (absA 3) slot cell) (onCell_ok (absA_at 3) slot cell) next
end
end Go.Sx
