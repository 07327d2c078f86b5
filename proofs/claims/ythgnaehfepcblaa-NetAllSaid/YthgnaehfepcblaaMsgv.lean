/-
  Whole messages, their lists told by their slices' values: cut, looked at, copied, told apart; no condition but that lists are short.
-/
import Derived.Test.YthgnaehfepcblaaMsgmd
import Derived.Test.YthgnaehfepcblaaSxAb
namespace Go.Proofs.Ythgnaehfepcblaa
open Go.Sx
set_option maxRecDepth 100000
set_option linter.unusedVariables false

/-- the values of a message's lists -/
structure Vs where
  i : Value
  m : Value
  n : Value
  o : Value
  deriving Inhabited
def msgV (m : MR) (v : Vs) : List A := msgA m (.val v.i) (.val v.m) (.val v.n) (.val v.o)
def In2 (g1 g2 : Pool) (v : Value) (ks : List CK) (n cap : Nat) (rows : Nat → Nat → Value) : Prop := IsSl g1 v ks n cap rows ∨ IsSl g2 v ks n cap rows
theorem In2.ext {g1 g2 g : Pool} {v : Value} {ks : List CK} {n cap : Nat} {rows : Nat → Nat → Value} (h : In2 g1 g2 v ks n cap rows) (e : g1.Ext g) : In2 g g2 v ks n cap rows := h.imp (fun h => h.ext e) id
theorem In2.le {g1 g2 : Pool} {v : Value} {ks : List CK} {n cap : Nat} {rows : Nat → Nat → Value} (h : In2 g1 g2 v ks n cap rows) : n ≤ cap := by rcases h with h | h <;> exact h.le
/-- the lists are there -/
structure Has (g1 g2 : Pool) (v : Vs) (a : MsgA) : Prop where
  i : In2 g1 g2 v.i ksItem a.il.length a.ci (encRows encItem a.il)
  m : In2 g1 g2 v.m ksMark a.ml.length a.cm (encRows encMark a.ml)
  n : In2 g1 g2 v.n [.int .i64] a.nl.length a.cn (encRows encI a.nl)
  o : In2 g1 g2 v.o [.int .i64] a.ol.length a.co (encRows encI a.ol)
theorem Has.ext {g1 g2 g : Pool} {v : Vs} {a : MsgA} (h : Has g1 g2 v a) (e : g1.Ext g) : Has g g2 v a := ⟨h.i.ext e, h.m.ext e, h.n.ext e, h.o.ext e⟩

theorem msgA_swap {ρ : Env} {m : MR} {a b c d : A} {us : List Value} (h : RepL ρ (msgA m a b c d) us) : ∃ va vb vc vd, a.Rep ρ va ∧ b.Rep ρ vb ∧ c.Rep ρ vc ∧ d.Rep ρ vd ∧
    ∀ (ρ' : Env) (a' b' c' d' : A), a'.Rep ρ' va → b'.Rep ρ' vb → c'.Rep ρ' vc → d'.Rep ρ' vd → RepL ρ' (msgA m a' b' c' d') us := by
  obtain ⟨_, _, rfl, h0, _, _, rfl, h1, _, _, rfl, h2, _, _, rfl, h3, _, _, rfl, h4, _, _, rfl, h5, _, _, rfl, h6, _, _, rfl, h7, _, _, rfl, h8, _, _, rfl, h9, _, _, rfl, h10, _, _, rfl, h11, _, _, rfl, h12, _, _, rfl, h13, _, _, rfl, h14, _, _, rfl, h15, va, _, rfl, ha, vb, _, rfl, hb, vc, _, rfl, hc, _, _, rfl, h19, vd, _, rfl, hd, h⟩ := h
  exact ⟨va, vb, vc, vd, ha, hb, hc, hd, fun ρ' a' b' c' d' ga gb gc gd => ⟨_, _, rfl, h0, _, _, rfl, h1, _, _, rfl, h2, _, _, rfl, h3, _, _, rfl, h4, _, _, rfl, h5, _, _, rfl, h6, _, _, rfl, h7, _, _, rfl, h8, _, _, rfl, h9, _, _, rfl, h10, _, _, rfl, h11, _, _, rfl, h12, _, _, rfl, h13, _, _, rfl, h14, _, _, rfl, h15, va, _, rfl, ga, vb, _, rfl, gb, vc, _, rfl, gc, _, _, rfl, h19, vd, _, rfl, gd, h⟩⟩

/-- a message's lists, each with its pool -/
def its (a : MsgA) (v : Vs) (gi gm gn go : Pool) : List Sli := [⟨v.i, 31, ksItem, a.il.length, a.ci, encRows encItem a.il, gi⟩, ⟨v.m, 56, ksMark, a.ml.length, a.cm, encRows encMark a.ml, gm⟩, ⟨v.n, 3, [.int .i64], a.nl.length, a.cn, encRows encI a.nl, gn⟩, ⟨v.o, 3, [.int .i64], a.ol.length, a.co, encRows encI a.ol, go⟩]
theorem in2_pick {g1 g2 : Pool} {v : Value} {ks : List CK} {n cap : Nat} {rows : Nat → Nat → Value} (h : In2 g1 g2 v ks n cap rows) : ∃ g, (g = g1 ∨ g = g2) ∧ IsSl g v ks n cap rows := by
  rcases h with h | h
  · exact ⟨g1, .inl rfl, h⟩
  · exact ⟨g2, .inr rfl, h⟩
theorem Has.its {g1 g2 : Pool} {v : Vs} {a : MsgA} (h : Has g1 g2 v a) : ∃ gi gm gn go, ((gi = g1 ∨ gi = g2) ∧ (gm = g1 ∨ gm = g2) ∧ (gn = g1 ∨ gn = g2) ∧ (go = g1 ∨ go = g2)) ∧ ∀ {w : World}, g1.In w → g2.In w → ∀ x ∈ its a v gi gm gn go, x.g.In w ∧ IsSl x.g x.v x.ks x.n x.cap x.rows := by
  obtain ⟨gi, e1, h1⟩ := in2_pick h.i
  obtain ⟨gm, e2, h2⟩ := in2_pick h.m
  obtain ⟨gn, e3, h3⟩ := in2_pick h.n
  obtain ⟨go, e4, h4⟩ := in2_pick h.o
  refine ⟨gi, gm, gn, go, ⟨e1, e2, e3, e4⟩, fun hw1 hw2 x hx => ?_⟩
  have pk : ∀ {g}, (g = g1 ∨ g = g2) → g.In _ := fun h => by rcases h with rfl | rfl <;> assumption
  simp only [Go.Proofs.Ythgnaehfepcblaa.its, List.mem_cons, List.not_mem_nil, or_false] at hx
  rcases hx with rfl | rfl | rfl | rfl
  · exact ⟨pk e1, h1⟩
  · exact ⟨pk e2, h2⟩
  · exact ⟨pk e3, h3⟩
  · exact ⟨pk e4, h4⟩

/-- at a call: a message by values, a message by tags -/
theorem args_tags {ρ ρ' : Env} {a : MsgA} {v : Vs} {gi gm gn go : Pool} {t : Nat} {us : List Value} (h : RepL ρ (msgV a.m v) us) (r : itemsRep ρ' t (its a v gi gm gn go)) : RepL ρ' (a.atoms t) us := by
  obtain ⟨va, vb, vc, vd, ha, hb, hc, hd, k⟩ := msgA_swap h
  obtain ⟨⟨r1, _⟩, ⟨r2, _⟩, ⟨r3, _⟩, ⟨r4, _⟩, _⟩ := r
  obtain ⟨rfl, _⟩ := ha
  obtain ⟨rfl, _⟩ := hb
  obtain ⟨rfl, _⟩ := hc
  obtain ⟨rfl, _⟩ := hd
  exact k ρ' _ _ _ _ r1 r2 r3 r4

theorem slc_one {ρ : Env} {t r e l c : Nat} {v : Value} (h : (A.slc t r e l c).Rep ρ v) : v.oneCell' = true := A.st_one rfl h

/-! ### copies -/

structure ValA where
  a : MsgA
  v : Vs
  gO : Pool
  gA : Pool
structure ValB where
  v : Vs
  c : Caps
  g : Pool
def MsgA.caps (a : MsgA) (c : Caps) : MsgA := ⟨a.m, a.il, a.ml, a.nl, a.ol, c.i, c.m, c.n, c.o⟩
noncomputable def cOwnV : Con where
  α := ValA
  β := ValB
  m := 2
  m' := 3
  pre := fun x => (x.a.il.length < 100000 ∧ x.a.ml.length < 100000 ∧ x.a.nl.length < 100000 ∧ x.a.ol.length < 100000) ∧ Has x.gO x.gA x.v x.a
  args := fun x => [.agg (msgV x.a.m x.v)]
  hp := fun x => [(0, .abs (Snap x.gO))]
  ro := fun x => [(1, .abs (Snap x.gA))]
  post := fun x b => x.gO.Ext b.g ∧ Has b.g x.gA b.v (x.a.caps b.c)
  res := fun x b => .agg (msgV x.a.m b.v)
  hp' := fun _ b => [(2, .abs (Snap b.g))]
theorem semOwnM : ConSem (Y Try.prog).G.X cOwnM 29 := con_sem okY (fun _ => CHof_ok okY (tab := tabOwn) ⟨callCloneItem, callCloneMark, callClone, trivial⟩) bodyOwnM.body
theorem semOwnV : ConSem (Y Try.prog).G.X cOwnV 29 := by
  rintro ⟨a, v, gO, gA⟩ ⟨hlen, hhas⟩ M ρ w vs hn hh hargs
  obtain ⟨hO, _⟩ := pool_in (g := gO) (t := 0) (wr := true) hh (by simp [wrs, cOwnV])
  obtain ⟨hA, _⟩ := pool_in (g := gA) (t := 1) (wr := false) hh (by simp [wrs, ros, cOwnV])
  obtain ⟨gi, gm, gn, go, _, hits⟩ := hhas.its
  obtain ⟨_, _, rfl, ⟨us, rfl, hus⟩, rfl⟩ := hargs
  refine (val_call semOwnM a hlen (its a v gi gm gn go) rfl rfl rfl (hits hO hA) (vs := [.agg us.toArray]) fun ρ1 hr => ⟨_, _, rfl, ⟨us, rfl, args_tags hus hr⟩, rfl⟩).mono ?_
  rintro e w' ⟨u, rfl, hk, c, ρ1, ρ2, _, _, _, hn2, _, hres, hnew⟩
  refine ⟨u, rfl, ?_⟩
  obtain ⟨g', ρ', hext, hfp, _, hn', hpl', hh'⟩ := pool_back (g := gO) (m := 2) hh (by simp [wrs, cOwnV]) hk hnew
  obtain ⟨us', rfl, hus'⟩ := hres
  obtain ⟨va, vb, vc, vd, ha, hb, hc, hd, k⟩ := msgA_swap hus'
  have ent : ∀ (T : Nat) (ch : Chunk), (T, ch) ∈ (cOwnM.hp' a c) → ch.Sat ρ2 (ρ2.pl T) w' ∧ ∀ b, (ρ2.pl T).fp b → g'.F b ∧ w'.heap[b]? = g'.W.heap[b]? := fun T ch hm => by
    have he : (⟨T, true, ch⟩ : Ent) ∈ wrs (cOwnM.hp' a c) := List.mem_map.2 ⟨_, hm, rfl⟩
    exact ⟨(hnew.ent _ he).ch, hfp _ he⟩
  have e4 := ent 4 _ (by exact List.mem_cons_self)
  have e5 := ent 5 _ (by exact List.mem_cons_of_mem _ List.mem_cons_self)
  have e6 := ent 6 _ (by exact List.mem_cons_of_mem _ (List.mem_cons_of_mem _ List.mem_cons_self))
  have e7 := ent 7 _ (by exact List.mem_cons_of_mem _ (List.mem_cons_of_mem _ (List.mem_cons_of_mem _ List.mem_cons_self)))
  refine ⟨⟨⟨va, vb, vc, vd⟩, c, g'⟩, ρ', ⟨hext, ⟨.inl (.of ha e4.1 e4.2), .inl (.of hb e5.1 e5.2), .inl (.of hc e6.1 e6.2), .inl (.of hd e7.1 e7.2)⟩⟩, hn', hpl', ⟨us', rfl, k ρ' _ _ _ _ ⟨rfl, slc_one ha⟩ ⟨rfl, slc_one hb⟩ ⟨rfl, slc_one hc⟩ ⟨rfl, slc_one hd⟩⟩, hh'⟩
theorem callOwnV : CallsBy (Y Try.prog).G.X 29 cOwnV := fun _ _ _ h => con_okS semOwnV h

/-! ### Cut -/

theorem sat_take {ρ : Env} {p : Sx.Place} {w : World} {ty : Nat} {ks : List CK} {n n' : Nat} {rows rows' : Nat → Nat → Value} (h : (Chunk.arr ty ks n rows).Sat ρ p w) (hn : n' ≤ n) (hr : RowsEq n' ks.length rows rows') : (Chunk.arr ty ks n' rows').Sat ρ p w := by
  rcases h with ⟨a, b, c⟩ | ⟨vs, ty', fr, a, b, c, d, e, f⟩
  · exact .inl ⟨by omega, b, c⟩
  · refine .inr ⟨vs, ty', fr, a, b, by omega, d, e, fun i hi j k hk => ?_⟩
    rw [← hr.at_ i hi j (List.getElem?_eq_some_iff.1 hk).1]
    exact f i (by omega) j k hk
structure CutB where
  v : Vs
  b1 : Nat
  b2 : Nat
  g : Pool
def cutA (a : MsgA) (b1 b2 : Nat) : MsgA := ⟨cutMR a.m, cutIL a.il 6, cutML a.ml 6, a.nl.take 7, a.ol.take 7, b1, b2, a.cn, a.co⟩
noncomputable def cCutV : Con where
  α := ValA
  β := CutB
  m := 2
  m' := 3
  pre := fun x => Has x.gO x.gA x.v x.a
  args := fun x => [.agg (msgV x.a.m x.v)]
  hp := fun x => [(0, .abs (Snap x.gO))]
  ro := fun x => [(1, .abs (Snap x.gA))]
  post := fun x b => x.gO.Ext b.g ∧ Has b.g x.gA b.v (cutA x.a b.b1 b.b2)
  res := fun x b => .agg (msgV (cutMR x.a.m) b.v)
  hp' := fun _ b => [(2, .abs (Snap b.g))]
theorem semCutM : ConSem (Y Try.prog).G.X cCutM 10 := con_sem okY (fun _ => CHof_ok okY (tab := tabCutM) ⟨callCut, callItems, trivial⟩) bodyCutM.body
theorem takeRows (l : List Int) (k : Nat) : RowsEq (l.take k).length 1 (encRows encI l) (encRows encI (l.take k)) := by
  refine ⟨fun i hi j _ => ?_⟩
  have : i < k := by simp at hi; omega
  unfold encRows; rw [gl_take this]
theorem semCutV : ConSem (Y Try.prog).G.X cCutV 10 := by
  rintro ⟨a, v, gO, gA⟩ hhas M ρ w vs hn hh hargs
  obtain ⟨hO, _⟩ := pool_in (g := gO) (t := 0) (wr := true) hh (by simp [wrs, cCutV])
  obtain ⟨hA, _⟩ := pool_in (g := gA) (t := 1) (wr := false) hh (by simp [wrs, ros, cCutV])
  have hhas : Has gO gA v a := hhas
  obtain ⟨gi, gm, gn, go, ⟨_, _, en, eo⟩, hits⟩ := hhas.its
  obtain ⟨_, _, rfl, ⟨us, rfl, hus⟩, rfl⟩ := hargs
  refine (val_call semCutM a ⟨hhas.n.le, hhas.o.le⟩ (its a v gi gm gn go) rfl rfl rfl (hits hO hA) (vs := [.agg us.toArray]) fun ρ1 hr => ⟨_, _, rfl, ⟨us, rfl, args_tags hus hr⟩, rfl⟩).mono ?_
  rintro e w' ⟨u, rfl, hk, ⟨b1, b2⟩, ρ1, ρ2, _, hrep1, hsat1, hn2, hpl2, hres, hnew⟩
  refine ⟨u, rfl, ?_⟩
  obtain ⟨g', ρ', hext, hfp, _, hn', hpl', hh'⟩ := pool_back (g := gO) (m := 2) hh (by simp [wrs, cCutV]) hk hnew
  obtain ⟨us', rfl, hus'⟩ := hres
  obtain ⟨va, vb, vc, vd, ha, hb, hc, hd, k⟩ := msgA_swap hus'
  have ent : ∀ (T : Nat) (ch : Chunk), (T, ch) ∈ (cCutM.hp' a (b1, b2)) → ch.Sat ρ2 (ρ2.pl T) w' ∧ ∀ b, (ρ2.pl T).fp b → g'.F b ∧ w'.heap[b]? = g'.W.heap[b]? := fun T ch hm => by
    have he : (⟨T, true, ch⟩ : Ent) ∈ wrs (cCutM.hp' a (b1, b2)) := List.mem_map.2 ⟨_, hm, rfl⟩
    exact ⟨(hnew.ent _ he).ch, hfp _ he⟩
  have e4 := ent 4 _ (by exact List.mem_cons_self)
  have e5 := ent 5 _ (by exact List.mem_cons_of_mem _ List.mem_cons_self)
  obtain ⟨_, _, ⟨_, f2⟩, ⟨_, f3⟩, _⟩ := hrep1
  have s2 := (hsat1.ent ⟨2, false, .arr 3 [.int .i64] a.nl.length (encRows encI a.nl)⟩ (by simp [ros, itemChs, its])).ch
  have s3 := (hsat1.ent ⟨3, false, .arr 3 [.int .i64] a.ol.length (encRows encI a.ol)⟩ (by simp [ros, itemChs, its])).ch
  have pk : ∀ {g : Pool}, (g = gO ∨ g = gA) → g.In w := fun h => by rcases h with rfl | rfl <;> assumption
  have p2 : ρ2.pl 2 = ρ1.pl 2 := hpl2 2 (by decide)
  have p3 : ρ2.pl 3 = ρ1.pl 3 := hpl2 3 (by decide)
  have k2 : IsSl gn vc [.int .i64] (a.nl.take 7).length a.cn (encRows encI (a.nl.take 7)) := .of (w := w) hc (ty := 3) (by rw [p2]; exact (sat_take s2 (by simp; omega) (takeRows _ _))) (fun b hb => by
    rw [p2] at hb
    exact ⟨f2 b hb, ((pk en).at_ b (f2 b hb)).2⟩)
  have k3 : IsSl go vd [.int .i64] (a.ol.take 7).length a.co (encRows encI (a.ol.take 7)) := .of (w := w) hd (ty := 3) (by rw [p3]; exact (sat_take s3 (by simp; omega) (takeRows _ _))) (fun b hb => by
    rw [p3] at hb
    exact ⟨f3 b hb, ((pk eo).at_ b (f3 b hb)).2⟩)
  have q2 : In2 g' gA vc [.int .i64] (a.nl.take 7).length a.cn (encRows encI (a.nl.take 7)) := by
    rcases en with rfl | rfl
    · exact .inl (k2.ext hext)
    · exact .inr k2
  have q3 : In2 g' gA vd [.int .i64] (a.ol.take 7).length a.co (encRows encI (a.ol.take 7)) := by
    rcases eo with rfl | rfl
    · exact .inl (k3.ext hext)
    · exact .inr k3
  refine ⟨⟨⟨va, vb, vc, vd⟩, b1, b2, g'⟩, ρ', ⟨hext, ⟨.inl (.of ha e4.1 e4.2), .inl (.of hb e5.1 e5.2), q2, q3⟩⟩, hn', hpl', ⟨us', rfl, k ρ' _ _ _ _ ⟨rfl, slc_one ha⟩ ⟨rfl, slc_one hb⟩ ⟨rfl, slc_one hc⟩ ⟨rfl, slc_one hd⟩⟩, hh'⟩
theorem callCutV : CallsBy (Y Try.prog).G.X 10 cCutV := fun _ _ _ h => con_okS semCutV h

/-! ### which may be -/

noncomputable def cMsgV : Con where
  α := ValA
  β := Bool
  m := 2
  m' := 2
  pre := fun x => (x.a.nl.length < 100000 ∧ x.a.ol.length < 100000) ∧ Has x.gO x.gA x.v x.a
  args := fun x => [.agg (msgV x.a.m x.v)]
  hp := fun x => [(0, .abs (Snap x.gO))]
  ro := fun x => [(1, .abs (Snap x.gA))]
  post := fun x b => b = true ↔ okMR x.a
  res := fun _ b => .a (.bool b)
  hp' := fun x _ => [(0, .abs (Snap x.gO))]
theorem msgV_of {f : Nat} (sem : ConSem (Y Try.prog).G.X cMsg f) : ConSem (Y Try.prog).G.X cMsgV f := by
  rintro ⟨a, v, gO, gA⟩ ⟨hlen, hhas⟩ M ρ w vs hn hh hargs
  obtain ⟨hO, _⟩ := pool_in (g := gO) (t := 0) (wr := true) hh (by simp [wrs, cMsgV])
  obtain ⟨hA, _⟩ := pool_in (g := gA) (t := 1) (wr := false) hh (by simp [wrs, ros, cMsgV])
  obtain ⟨gi, gm, gn, go, _, hits⟩ := hhas.its
  obtain ⟨_, _, rfl, ⟨us, rfl, hus⟩, rfl⟩ := hargs
  refine (val_call sem a hlen (its a v gi gm gn go) rfl rfl rfl (hits hO hA) (vs := [.agg us.toArray]) fun ρ1 hr => ⟨_, _, rfl, ⟨us, rfl, args_tags hus hr⟩, rfl⟩).mono ?_
  rintro e w' ⟨u, rfl, hk, b, ρ1, ρ2, hpost, _, _, hn2, _, hres, hnew⟩
  exact ⟨u, rfl, b, ρ, hpost, hn, fun _ _ => rfl, hres, pool_same (ro := [(1, .abs (Snap gA))]) hh hk⟩
theorem semMsg : ConSem (Y Try.prog).G.X cMsg 11 := con_sem okY (fun _ => CHof_ok okY (tab := tabMsg) ⟨callEqI, callRMayI, callRKey, callNodes, trivial⟩) bodyMsg.body
theorem callMsgV : CallsBy (Y Try.prog).G.X 11 cMsgV := fun _ _ _ h => con_okS (msgV_of semMsg) h

/-! ### the same -/

structure EqVA where
  a : MsgA
  c : Caps
  v : Vs
  v2 : Vs
  gO : Pool
  gA : Pool
noncomputable def cEqV : Con where
  α := EqVA
  β := Unit
  m := 2
  m' := 2
  pre := fun x => (x.a.il.length < 100000 ∧ x.a.ml.length < 100000 ∧ x.a.nl.length < 100000 ∧ x.a.ol.length < 100000) ∧ Has x.gO x.gA x.v x.a ∧ Has x.gO x.gA x.v2 (x.a.caps x.c)
  args := fun x => [.agg (msgV x.a.m x.v), .agg (msgV x.a.m x.v2)]
  hp := fun x => [(0, .abs (Snap x.gO))]
  ro := fun x => [(1, .abs (Snap x.gA))]
  post := fun _ _ => True
  res := fun _ _ => .a .tt
  hp' := fun x _ => [(0, .abs (Snap x.gO))]
theorem itemsRep_app {ρ : Env} : ∀ {L1 L2 : List Sli} {t : Nat}, itemsRep ρ t (L1 ++ L2) → itemsRep ρ t L1 ∧ itemsRep ρ (t + L1.length) L2
  | [], _, _, h => ⟨trivial, h⟩
  | x :: r, L2, t, ⟨h1, h2⟩ => by
    obtain ⟨h3, h4⟩ := itemsRep_app h2
    exact ⟨⟨h1, h3⟩, by simpa [Nat.add_assoc, Nat.add_comm 1] using h4⟩
theorem semEqM : ConSem (Y Try.prog).G.X cEqM 15 := con_sem okY (fun _ => CHof_ok okY (tab := tabEqM) ⟨callEqI, callEqItem, callEqMark, callEqInts, trivial⟩) bodyEqM.body
theorem semEqV : ConSem (Y Try.prog).G.X cEqV 15 := by
  rintro ⟨a, c, v, v2, gO, gA⟩ ⟨hlen, hhas, hhas2⟩ M ρ w vs hn hh hargs
  obtain ⟨hO, _⟩ := pool_in (g := gO) (t := 0) (wr := true) hh (by simp [wrs, cEqV])
  obtain ⟨hA, _⟩ := pool_in (g := gA) (t := 1) (wr := false) hh (by simp [wrs, ros, cEqV])
  obtain ⟨gi, gm, gn, go, _, hits⟩ := hhas.its
  obtain ⟨hi, hm, hn', ho, _, hits2⟩ := hhas2.its
  obtain ⟨_, _, rfl, ⟨us, rfl, hus⟩, _, _, rfl, ⟨us2, rfl, hus2⟩, rfl⟩ := hargs
  refine (val_call semEqM ⟨a, c⟩ hlen (its a v gi gm gn go ++ its (a.caps c) v2 hi hm hn' ho) rfl rfl rfl (fun x hx => ?_) (vs := [.agg us.toArray, .agg us2.toArray]) fun ρ1 hr => ⟨_, _, rfl, ⟨us, rfl, args_tags hus (itemsRep_app hr).1⟩, _, _, rfl, ⟨us2, rfl, args_tags (a := a.caps c) hus2 (itemsRep_app hr).2⟩, rfl⟩).mono ?_
  · rcases List.mem_append.1 hx with h | h
    · exact hits hO hA x h
    · exact hits2 hO hA x h
  rintro e w' ⟨u, rfl, hk, b, ρ1, ρ2, hpost, _, _, hn2, _, hres, hnew⟩
  exact ⟨u, rfl, (), ρ, trivial, hn, fun _ _ => rfl, hres, pool_same (ro := [(1, .abs (Snap gA))]) hh hk⟩
theorem callEqV : CallsBy (Y Try.prog).G.X 15 cEqV := fun _ _ _ h => con_okS semEqV h
end Go.Proofs.Ythgnaehfepcblaa
