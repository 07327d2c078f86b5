/-
  A region that draws its order: what one order shows serves every order.
-/
import Derived.Test.YthgnaehfepcblaaSxN
namespace Go.Sx
section
variable {P : Program} {ops : Array Oper} {Q : Exit → Act → World → Prop}

/-- i must come ahead of j -/
def Dep (ops : Array Oper) (i j : Nat) : Prop := ∃ o, ops[j]? = some o ∧ ∃ e ∈ o.after, Region.binds .any e = true ∧ e.on = i

inductive Anc (ops : Array Oper) : Nat → Nat → Prop where
  | one {i j : Nat} : Dep ops i j → Anc ops i j
  | step {i j k : Nat} : Anc ops i j → Dep ops j k → Anc ops i k

theorem Anc.trans {i j k : Nat} (h : Anc ops i j) (h' : Anc ops j k) : Anc ops i k := by
  induction h' with
  | one d => exact .step h d
  | step _ d ih => exact .step ih d

/-- the operations with what they yielded, not yet carried out by the machine -/
structure DE where
  i : Nat
  o : Oper
  v : Value
  m : Sem Next
  wanted : Bool

def puts (a : Act) (D : List DE) : Act := D.foldl (fun a d => a.put d.o.dst d.v) a
theorem puts_append (a : Act) (D D' : List DE) : puts a (D ++ D') = puts (puts a D) D' := by simp [puts]
theorem puts_cons (a : Act) (d : DE) (D : List DE) : puts a (d :: D) = puts (a.put d.o.dst d.v) D := rfl

/-- a store, an append, a call: what it leaves -/
def Loud (P : Program) (m : Sem Next) (w : World) (R : Value → World → Prop) : Prop :=
  (∃ v w', (m.run P w = .ok (.value v) w' ∨ (m.run P w = .ok .skip w' ∧ v = undef)) ∧ R v w') ∨
  (∃ f args, m.run P w = .ok (.enter f args) w ∧ Calls P f args w fun e w' => ∃ v, e = .returned v ∧ R v w')

theorem Loud.wp {o : Oper} {a : Act} {w : World} {R : Value → World → Prop} (h : Loud P (execOp a.eval o) w R) {next : Act → World → Prop} (hn : ∀ v w', R v w' → next (a.put o.dst v) w') : o.wp P a w next Q := by
  unfold Oper.wp
  rcases h with ⟨v, w', h | ⟨h, rfl⟩, hr⟩ | ⟨f, args, h, hc⟩
  · rw [h]; exact hn _ _ hr
  · rw [h]; exact hn _ _ hr
  · rw [h]
    refine hc.mono ?_
    rintro e w' ⟨v, rfl, hr⟩
    exact hn _ _ hr

/-- one order: 'pi' lists the operations, each with whether it is loud; 'E': what the quiet ones yielded -/
def nrun (P : Program) (ops : Array Oper) (anc : Nat → Nat → Bool) (Q : Act → World → Prop) : List (Nat × Bool) → List (Nat × Sem Next × Value) → Act → World → Prop
  | [], _, a, w => Q a w
  | (i, loud) :: r, E, a, w =>
    match ops[i]? with
    | none => False
    | some o =>
      if Region.wanted o (yielded ops a.tmps) = true then
        if loud = true then Loud P (execOp a.eval o) w fun v w' => (∀ e ∈ E, anc e.1 i = false → e.2.1.run P w' = .ok (.value e.2.2) w') ∧ nrun P ops anc Q r E (a.put o.dst v) w'
        else ∃ v, (execOp a.eval o).run P w = .ok (.value v) w ∧ nrun P ops anc Q r ((i, execOp a.eval o, v) :: E) (a.put o.dst v) w
      else nrun P ops anc Q r E (a.put o.dst undef) w

def noSel (o : Oper) : Bool := match o.op with | .select _ _ => false | _ => true
theorem noSel_spec {o : Oper} (h : noSel o = true) : ∀ cs b, o.op ≠ .select cs b := by
  intro cs b e; simp [noSel, e] at h

/-- evaluation is the same behind puts of operations that are apart -/
theorem evalSame {o : Oper} (hs : noSel o = true) : ∀ (D : List DE) (a : Act), (∀ d ∈ D, d.o.apart ops o = true) → execOp (puts a D).eval o = execOp a.eval o ∧ Region.wanted o (yielded ops (puts a D).tmps) = Region.wanted o (yielded ops a.tmps)
  | [], _, _ => ⟨rfl, rfl⟩
  | d :: D, a, h => by
    obtain ⟨h1, _, _⟩ := Oper.apart_spec (h d List.mem_cons_self)
    obtain ⟨e1, e2⟩ := evalSame hs D (a.put d.o.dst d.v) fun x hx => h x (List.mem_cons_of_mem _ hx)
    rw [puts_cons]
    exact ⟨e1.trans (execOp_put o (noSel_spec hs) a d.o.dst d.v h1), e2.trans (wanted_put o a d.o.dst d.v h1)⟩

theorem putOut {o : Oper} (u : Value) : ∀ (D : List DE) (a : Act), (∀ d ∈ D, d.o.apart ops o = true) → puts (a.put o.dst u) D = (puts a D).put o.dst u
  | [], _, _ => rfl
  | d :: D, a, h => by
    obtain ⟨_, h2, _⟩ := Oper.apart_spec (h d List.mem_cons_self)
    rw [puts_cons, puts_cons, ← putOut u D _ fun x hx => h x (List.mem_cons_of_mem _ hx)]
    rw [Act.put_comm a d.v u h2]

/-- what is known of each operation that is promised -/
def Promised (P : Program) (ops : Array Oper) (w : World) : Act → List DE → Prop
  | _, [] => True
  | a, d :: D => Region.wanted d.o (yielded ops a.tmps) = d.wanted ∧ (d.wanted = true → execOp a.eval d.o = d.m ∧ d.m.run P w = .ok (.value d.v) w) ∧ (d.wanted = false → d.v = undef) ∧ Promised P ops w (a.put d.o.dst d.v) D

theorem Promised.append {w : World} : ∀ {D D' : List DE} {a : Act}, Promised P ops w a D → Promised P ops w (puts a D) D' → Promised P ops w a (D ++ D')
  | [], _, _, _, h => h
  | _ :: _, _, _, ⟨h1, h2, h3, h4⟩, h => ⟨h1, h2, h3, Promised.append h4 h⟩

theorem Promised.right {w : World} : ∀ {D D' : List DE} {a : Act}, Promised P ops w a (D ++ D') → Promised P ops w (puts a D) D'
  | [], _, _, h => h
  | d :: _, D', a, ⟨_, _, _, h4⟩ => by rw [puts_cons]; exact Promised.right h4
theorem Promised.left {w : World} : ∀ {D D' : List DE} {a : Act}, Promised P ops w a (D ++ D') → Promised P ops w a D
  | [], _, _, _ => trivial
  | _ :: _, _, _, ⟨h1, h2, h3, h4⟩ => ⟨h1, h2, h3, Promised.left h4⟩

/-- another operation, apart from all of them, makes no difference -/
theorem Promised.other {w : World} {o : Oper} {u : Value} : ∀ {D : List DE} {a : Act}, (∀ d ∈ D, d.o.apart ops o = true ∧ noSel d.o = true) → Promised P ops w a D → Promised P ops w (a.put o.dst u) D
  | [], _, _, _ => trivial
  | d :: D, a, h, ⟨h1, h2, h3, h4⟩ => by
    obtain ⟨hap, hs⟩ := h d List.mem_cons_self
    obtain ⟨_, g2, g3⟩ := Oper.apart_spec hap
    refine ⟨(wanted_put d.o a o.dst u g3).trans h1, fun hw => ?_, h3, ?_⟩
    · obtain ⟨q1, q2⟩ := h2 hw
      exact ⟨(execOp_put d.o (noSel_spec hs) a o.dst u g3).trans q1, q2⟩
    · have e : (a.put o.dst u).put d.o.dst d.v = (a.put d.o.dst d.v).put o.dst u := Act.put_comm a u d.v fun x hx hd => g2 x hd hx
      rw [e]
      exact Promised.other (fun x hx => h x (List.mem_cons_of_mem _ hx)) h4

/-- the world has turned, and what was yielded would be yielded again -/
theorem Promised.world {w w' : World} : ∀ {D : List DE} {a : Act}, (∀ d ∈ D, d.wanted = true → d.m.run P w' = .ok (.value d.v) w') → Promised P ops w a D → Promised P ops w' a D
  | [], _, _, _ => trivial
  | d :: _, _, h, ⟨h1, h2, h3, h4⟩ => ⟨h1, fun hw => ⟨(h2 hw).1, h d List.mem_cons_self hw⟩, h3, Promised.world (fun x hx => h x (List.mem_cons_of_mem _ hx)) h4⟩

/-- the standing of the two runs: what the machine has carried out ('listed'), what is to come ('xs') -/
structure Stand (ops : Array Oper) (listed : Array Bool) (xs : List Nat) : Prop where
  size : listed.size = ops.size
  lt : ∀ x ∈ xs, x < ops.size
  un : ∀ x ∈ xs, listed.getD x true = false
  nodup : xs.Nodup
  all : ∀ k, k < ops.size → listed.getD k true = true ∨ k ∈ xs
  real : ∀ i j, Dep ops i j → listed.getD j false = true → listed.getD i false = true
  topo : xs.Pairwise fun x y => ¬ Anc ops y x

structure Fine (ops : Array Oper) (anc : Nat → Nat → Bool) : Prop where
  apart : ∀ (i j : Nat) (oi oj : Oper), ops[i]? = some oi → ops[j]? = some oj → i ≠ j → Anc ops i j ∨ Anc ops j i ∨ oi.apart ops oj = true
  sel : ∀ (i : Nat) (o : Oper), ops[i]? = some o → noSel o = true
  anc : ∀ i j, j < ops.size → anc i j = true → Anc ops i j
  lt : ∀ i j, Dep ops i j → i ≠ j ∧ i < ops.size

theorem apart_symm {x y : Oper} (h : x.apart ops y = true) : y.apart ops x = true := by
  obtain ⟨h1, h2, h3⟩ := Oper.apart_spec h
  unfold Oper.apart
  cases hx : x.dst with
  | none =>
    cases hy : y.dst with
    | none => rfl
    | some d =>
      have := h3 d hy
      simp_all
  | some e =>
    have g1 := h1 e hx
    cases hy : y.dst with
    | none => simp_all
    | some d =>
      have g2 := h2 e hx
      have g3 := h3 d hy
      rw [hy] at g2
      have : e ≠ d := fun h => g2 (by rw [h])
      simp_all

theorem getD_tf {listed : Array Bool} {n i : Nat} (hs : listed.size = n) (hi : i < n) (b : Bool) : listed.getD i true = b ↔ listed.getD i false = b := by
  simp [Array.getD, hs, hi]

/-- what is ready for the machine -/
theorem ready_spec {listed : Array Bool} {i : Nat} (h : i ∈ Region.ready .any ops listed) : i < ops.size ∧ listed.getD i true = false ∧ ∀ j, Dep ops j i → listed.getD j false = true := by
  obtain ⟨h2, o, ho, hall⟩ := mem_ready.1 h
  refine ⟨(Array.getElem?_eq_some_iff.1 ho).1, h2, ?_⟩
  rintro j ⟨o', ho', e, he, hb, rfl⟩
  rw [ho] at ho'; cases ho'
  exact hall e he hb

theorem ready_intro {listed : Array Bool} {i : Nat} (h1 : i < ops.size) (h2 : listed.getD i true = false) (h3 : ∀ j, Dep ops j i → listed.getD j false = true) : i ∈ Region.ready .any ops listed :=
  mem_ready.2 ⟨h2, ops[i], Array.getElem?_eq_getElem h1, fun e he hb => h3 e.on ⟨_, Array.getElem?_eq_getElem h1, e, he, hb, rfl⟩⟩

theorem Stand.realAnc {listed : Array Bool} {xs : List Nat} (h : Stand ops listed xs) {i j : Nat} (ha : Anc ops i j) (hj : listed.getD j false = true) : listed.getD i false = true := by
  induction ha with
  | one d => exact h.real _ _ d hj
  | step _ d ih => exact ih (h.real _ _ d hj)

theorem ready_anc {listed : Array Bool} {xs : List Nat} (h : Stand ops listed xs) {i j : Nat} (hr : i ∈ Region.ready .any ops listed) (ha : Anc ops j i) : listed.getD j false = true := by
  obtain ⟨_, _, h3⟩ := ready_spec hr
  cases ha with
  | one d => exact h3 _ d
  | step ha d => exact h.realAnc ha (h3 _ d)

/-- nothing to come is ahead of what is ready -/
theorem ready_not {listed : Array Bool} {xs : List Nat} (h : Stand ops listed xs) {i j : Nat} (hr : i ∈ Region.ready .any ops listed) (hj : j ∈ xs) : ¬ Anc ops j i := by
  intro ha
  have h1 := ready_anc h hr ha
  have h2 := h.un j hj
  rw [getD_tf h.size (h.lt j hj)] at h2
  rw [h2] at h1; cases h1

theorem Stand.take {listed : Array Bool} {L R : List Nat} {i : Nat} (h : Stand ops listed (L ++ i :: R)) (hr : i ∈ Region.ready .any ops listed) : Stand ops (listed.setIfInBounds i true) (L ++ R) := by
  obtain ⟨hlt, hun, hdep⟩ := ready_spec hr
  have hsub : (L ++ R).Sublist (L ++ i :: R) := List.Sublist.append (List.Sublist.refl L) (List.sublist_cons_self i R)
  have hne : ∀ x ∈ L ++ R, x ≠ i := by
    intro x hx e
    subst e
    have := h.nodup
    rw [List.nodup_append] at this
    obtain ⟨_, h2, h3⟩ := this
    rcases List.mem_append.1 hx with hx | hx
    · exact h3 x hx x List.mem_cons_self rfl
    · exact (List.nodup_cons.1 h2).1 hx
  have setf : ∀ k, listed.getD k false = true → (listed.setIfInBounds i true).getD k false = true := by
    intro k hk
    by_cases hki : i = k
    · subst hki; simp [Array.getD, h.size, hlt]
    · rw [getD_set_ne false hki]; exact hk
  refine ⟨by simpa using h.size, fun x hx => h.lt x (hsub.subset hx), ?_, h.nodup.sublist hsub, ?_, ?_, h.topo.sublist hsub⟩
  · intro x hx
    rw [getD_set_ne true (Ne.symm (hne x hx))]
    exact h.un x (hsub.subset hx)
  · intro k hk
    by_cases hki : i = k
    · subst hki; left; simp [Array.getD, h.size, hlt]
    · rw [getD_set_ne true hki]
      rcases h.all k hk with h' | h'
      · exact .inl h'
      · right
        simp only [List.mem_append, List.mem_cons] at h' ⊢
        rcases h' with h' | h' | h'
        · exact .inl h'
        · exact absurd h'.symm hki
        · exact .inr h'
  · intro k j hd hj
    apply setf
    by_cases hji : i = j
    · subst hji; exact hdep k hd
    · rw [getD_set_ne false hji] at hj
      exact h.real k j hd hj

/-- the first of them is ready -/
theorem Stand.head {anc : Nat → Nat → Bool} (hf : Fine ops anc) {listed : Array Bool} {x : Nat} {xs : List Nat} (h : Stand ops listed (x :: xs)) : x ∈ Region.ready .any ops listed := by
  refine ready_intro (h.lt x List.mem_cons_self) (h.un x List.mem_cons_self) fun j hd => ?_
  obtain ⟨hne, hlt⟩ := hf.lt _ _ hd
  rw [← getD_tf h.size hlt]
  rcases h.all j hlt with h' | h'
  · exact h'
  · rcases List.mem_cons.1 h' with rfl | h'
    · exact absurd rfl hne
    · exact absurd (.one hd) ((List.pairwise_cons.1 h.topo).1 j h')

/-- what lies ahead of a ready one is apart from it -/
theorem ahead_apart {anc : Nat → Nat → Bool} (hf : Fine ops anc) {listed : Array Bool} {L R : List Nat} {i : Nat} (h : Stand ops listed (L ++ i :: R)) (hr : i ∈ Region.ready .any ops listed) {j : Nat} (hj : j ∈ L) {oi oj : Oper} (hoi : ops[i]? = some oi) (hoj : ops[j]? = some oj) : oj.apart ops oi = true := by
  have hne : j ≠ i := by
    rintro rfl
    exact (List.nodup_append.1 h.nodup).2.2 j hj j List.mem_cons_self rfl
  rcases hf.apart j i oj oi hoj hoi hne with h' | h' | h'
  · exact absurd h' (ready_not h hr (List.mem_append_left _ hj))
  · exact absurd h' ((List.pairwise_append.1 h.topo).2.2 j hj i List.mem_cons_self)
  · exact h'

def LoudOk (ops : Array Oper) (pi : List (Nat × Bool)) : Prop := ∀ (L R : List (Nat × Bool)) (h : Nat), pi = L ++ (h, true) :: R → ∀ q ∈ R, Anc ops h q.1
theorem LoudOk.drop {L R : List (Nat × Bool)} (h : LoudOk ops (L ++ R)) : LoudOk ops R := fun L' R' x e => h (L ++ L') R' x (by rw [e]; simp)

/-- quiet ones are carried out ahead -/
theorem advance {anc : Nat → Nat → Bool} {Q : Act → World → Prop} : ∀ (L R : List (Nat × Bool)) (E : List (Nat × Sem Next × Value)) (a : Act) (w : World), (∀ p ∈ L, p.2 = false) → nrun P ops anc Q (L ++ R) E a w →
    ∃ D E', D.map (·.i) = L.map (·.1) ∧ (∀ d ∈ D, ops[d.i]? = some d.o) ∧ Promised P ops w a D ∧ (∀ e ∈ E, e ∈ E') ∧ (∀ d ∈ D, d.wanted = true → (d.i, d.m, d.v) ∈ E') ∧ nrun P ops anc Q R E' (puts a D) w
  | [], R, E, a, w, _, h => ⟨[], E, rfl, fun d hd => (by cases hd), trivial, fun e he => he, fun d hd => (by cases hd), h⟩
  | (i, b) :: L, R, E, a, w, hq, h => by
    have hb : b = false := hq (i, b) List.mem_cons_self
    subst hb
    simp only [List.cons_append, nrun] at h
    cases ho : ops[i]? with
    | none => rw [ho] at h; exact h.elim
    | some o =>
      rw [ho] at h
      simp only at h
      by_cases hw : Region.wanted o (yielded ops a.tmps) = true
      · rw [if_pos hw] at h
        simp only [Bool.false_eq_true, if_false] at h
        obtain ⟨v, hv, h⟩ := h
        obtain ⟨D, E', e1, e2, e3, e4, e5, e6⟩ := advance L R _ _ w (fun p hp => hq p (List.mem_cons_of_mem _ hp)) h
        refine ⟨⟨i, o, v, execOp a.eval o, true⟩ :: D, E', by simp [e1], ?_, ⟨hw, fun _ => ⟨rfl, hv⟩, fun h => (by cases h), e3⟩, fun e he => e4 e (List.mem_cons_of_mem _ he), ?_, e6⟩
        · intro d hd
          rcases List.mem_cons.1 hd with rfl | hd
          · exact ho
          · exact e2 d hd
        · intro d hd hw
          rcases List.mem_cons.1 hd with rfl | hd
          · exact e4 _ List.mem_cons_self
          · exact e5 d hd hw
      · rw [if_neg hw] at h
        obtain ⟨D, E', e1, e2, e3, e4, e5, e6⟩ := advance L R _ _ w (fun p hp => hq p (List.mem_cons_of_mem _ hp)) h
        refine ⟨⟨i, o, undef, .pure .skip, false⟩ :: D, E', by simp [e1], ?_, ⟨by simpa using hw, fun h => (by cases h), fun _ => rfl, e3⟩, e4, ?_, e6⟩
        · intro d hd
          rcases List.mem_cons.1 hd with rfl | hd
          · exact ho
          · exact e2 d hd
        · intro d hd hw
          rcases List.mem_cons.1 hd with rfl | hd
          · cases hw
          · exact e5 d hd hw

/-- **one order serves every order** -/
theorem any_of_one {anc : Nat → Nat → Bool} (hf : Fine ops anc) {Q : Act → World → Prop} {Q' : Exit → Act → World → Prop} (hQ : ∀ a w, Q a w → Q' .normal a w) : ∀ (fuel : Nat) (D : List DE) (pi : List (Nat × Bool)) (E : List (Nat × Sem Next × Value)) (listed : Array Bool) (a : Act) (w : World),
    D.length + pi.length = fuel → Stand ops listed (D.map (·.i) ++ pi.map (·.1)) → (∀ d ∈ D, ops[d.i]? = some d.o) → LoudOk ops pi → Promised P ops w a D → (∀ d ∈ D, d.wanted = true → (d.i, d.m, d.v) ∈ E) →
    nrun P ops anc Q pi E (puts a D) w → wpAny P .any ops Q' fuel listed a w := by
  intro fuel
  induction fuel with
  | zero =>
    intro D pi E listed a w hlen hst hop hlo hpr hE hrun
    have hD : D = [] := by cases D <;> simp_all
    have hp : pi = [] := by cases pi <;> simp_all
    subst hD hp
    refine ⟨?_, hQ _ _ hrun⟩
    apply List.eq_nil_iff_forall_not_mem.2
    intro i hi
    obtain ⟨h1, h2, _⟩ := ready_spec hi
    rcases hst.all i h1 with h | h
    · rw [h] at h2; cases h2
    · cases h
  | succ fuel ih =>
    intro D pi E listed a w hlen hst hop hlo hpr hE hrun
    refine ⟨?_, ?_⟩
    · intro h0
      cases hx : D.map (·.i) ++ pi.map (·.1) with
      | nil =>
        have := congrArg List.length hx
        simp only [List.length_append, List.length_map, List.length_nil] at this
        omega
      | cons x xs =>
        rw [hx] at hst
        have := hst.head hf
        rw [h0] at this; cases this
    · intro i hi
      obtain ⟨hilt, hiun, _⟩ := ready_spec hi
      -- what lies ahead of i is moved into D
      have key : ∀ (D : List DE) (b : Bool) (R : List (Nat × Bool)) (E : List (Nat × Sem Next × Value)), D.length + R.length = fuel → Stand ops listed (D.map (·.i) ++ i :: R.map (·.1)) → (∀ d ∈ D, ops[d.i]? = some d.o) → LoudOk ops ((i, b) :: R) → Promised P ops w a D → (∀ d ∈ D, d.wanted = true → (d.i, d.m, d.v) ∈ E) →
          nrun P ops anc Q ((i, b) :: R) E (puts a D) w → wpOp P ops Q' i (wpAny P .any ops Q' fuel (listed.setIfInBounds i true)) a w := by
        intro D b R E hlen hst hop hlo hpr hE hrun
        have hst' := hst.take hi
        simp only [nrun] at hrun
        unfold wpOp
        cases ho : ops[i]? with
        | none => rw [ho] at hrun; exact hrun.elim
        | some o =>
          rw [ho] at hrun
          simp only at hrun ⊢
          have hap : ∀ d ∈ D, d.o.apart ops o = true := fun d hd => ahead_apart hf hst hi (List.mem_map_of_mem hd) ho (hop d hd)
          have hap' : ∀ d ∈ D, o.apart ops d.o = true := fun d hd => apart_symm (hap d hd)
          have hselo := hf.sel i o ho
          have hseld : ∀ d ∈ D, d.o.apart ops o = true ∧ noSel d.o = true := fun d hd => ⟨hap d hd, hf.sel d.i d.o (hop d hd)⟩
          obtain ⟨e1, e2⟩ := evalSame hselo D a hap
          rw [e1, e2] at hrun
          have hlo' : LoudOk ops R := LoudOk.drop (L := [(i, b)]) hlo
          by_cases hw : Region.wanted o (yielded ops a.tmps) = true
          · rw [if_pos hw] at hrun ⊢
            refine .inl ?_
            cases b with
            | true =>
              simp only [if_true] at hrun
              refine hrun.wp fun v w' ⟨hst2, hr⟩ => ?_
              rw [← putOut v D a hap] at hr
              refine ih D R E _ _ w' hlen hst' hop hlo' ?_ hE hr
              refine Promised.world (fun d hd hdw => ?_) (Promised.other hseld hpr)
              refine hst2 (d.i, d.m, d.v) (hE d hd hdw) ?_
              cases hc : anc d.i i with
              | false => rfl
              | true => exact absurd (hf.anc _ _ hilt hc) (ready_not hst hi (List.mem_append_left _ (List.mem_map_of_mem hd)))
            | false =>
              simp only [Bool.false_eq_true, if_false] at hrun
              obtain ⟨v, hv, hr⟩ := hrun
              unfold Oper.wp
              rw [hv]
              rw [← putOut v D a hap] at hr
              exact ih D R _ _ _ w hlen hst' hop hlo' (Promised.other hseld hpr) (fun d hd hdw => List.mem_cons_of_mem _ (hE d hd hdw)) hr
          · rw [if_neg hw] at hrun ⊢
            rw [← putOut undef D a hap] at hrun
            exact ih D R E _ _ w hlen hst' hop hlo' (Promised.other hseld hpr) hE hrun
      have hmem : i ∈ D.map (·.i) ++ pi.map (·.1) := by
        rcases hst.all i hilt with h | h
        · rw [h] at hiun; cases hiun
        · exact h
      rcases List.mem_append.1 hmem with hm | hm
      · obtain ⟨d, hd, hdi⟩ := List.mem_map.1 hm
        obtain ⟨D1, D2, rfl⟩ := List.append_of_mem hd
        have hdo : ops[i]? = some d.o := by rw [← hdi]; exact hop d hd
        have hst2 : Stand ops listed (D1.map (·.i) ++ i :: (D2.map (·.i) ++ pi.map (·.1))) := by
          have e : (D1 ++ d :: D2).map (·.i) ++ pi.map (·.1) = D1.map (·.i) ++ i :: (D2.map (·.i) ++ pi.map (·.1)) := by simp [hdi]
          rw [e] at hst; exact hst
        have hap : ∀ x ∈ D1, x.o.apart ops d.o = true := fun x hx => ahead_apart hf hst2 hi (List.mem_map_of_mem hx) hdo (hop x (List.mem_append_left _ hx))
        have hseld : ∀ x ∈ D1, x.o.apart ops d.o = true ∧ noSel x.o = true := fun x hx => ⟨hap x hx, hf.sel x.i x.o (hop x (List.mem_append_left _ hx))⟩
        obtain ⟨e1, e2⟩ := evalSame (hf.sel i d.o hdo) D1 a hap
        have hr := Promised.right hpr
        have hl := Promised.left hpr
        obtain ⟨g1, g2, g3, g4⟩ := hr
        rw [e2] at g1
        rw [e1] at g2
        have hnew : Promised P ops w (a.put d.o.dst d.v) (D1 ++ D2) := by
          refine Promised.append (Promised.other hseld hl) ?_
          rw [putOut d.v D1 a hap]; exact g4
        have hputs : puts a (D1 ++ d :: D2) = puts (a.put d.o.dst d.v) (D1 ++ D2) := by
          rw [puts_append, puts_cons, puts_append, putOut d.v D1 a hap]
        have hst3 : Stand ops (listed.setIfInBounds i true) ((D1 ++ D2).map (·.i) ++ pi.map (·.1)) := by
          have := hst2.take hi
          simpa using this
        have hnext : wpAny P .any ops Q' fuel (listed.setIfInBounds i true) (a.put d.o.dst d.v) w := by
          refine ih (D1 ++ D2) pi E _ _ w (by simp at hlen ⊢; omega) hst3 ?_ hlo hnew ?_ (by rw [← hputs]; exact hrun)
          · intro x hx; refine hop x ?_
            simp only [List.mem_append, List.mem_cons] at hx ⊢
            rcases hx with h | h
            · exact .inl h
            · exact .inr (.inr h)
          · intro x hx; refine hE x ?_
            simp only [List.mem_append, List.mem_cons] at hx ⊢
            rcases hx with h | h
            · exact .inl h
            · exact .inr (.inr h)
        unfold wpOp
        rw [hdo]
        simp only
        cases hdw : d.wanted with
        | true =>
          rw [hdw] at g1
          rw [if_pos g1]
          obtain ⟨q1, q2⟩ := g2 hdw
          refine .inl ?_
          unfold Oper.wp
          rw [q1, q2]
          exact hnext
        | false =>
          rw [hdw] at g1
          rw [if_neg (by simp [g1])]
          rw [g3 hdw] at hnext
          exact hnext
      · obtain ⟨p, hp, hpi⟩ := List.mem_map.1 hm
        obtain ⟨L, R, rfl⟩ := List.append_of_mem hp
        obtain ⟨i', b⟩ := p
        simp only at hpi
        subst hpi
        have hq : ∀ p ∈ L, p.2 = false := by
          intro p hpL
          cases hb : p.2 with
          | false => rfl
          | true =>
            obtain ⟨L1, L2, rfl⟩ := List.append_of_mem hpL
            have : Anc ops p.1 i' := hlo L1 (L2 ++ (i', b) :: R) p.1 (by rw [← hb]; simp) (i', b) (by simp)
            exact absurd this (ready_not hst hi (List.mem_append_right _ (List.mem_map_of_mem (List.mem_append_left _ hpL))))
        obtain ⟨D', E', f1, f2, f3, f4, f5, f6⟩ := advance L ((i', b) :: R) E _ w hq hrun
        refine key (D ++ D') b R E' ?_ ?_ ?_ (LoudOk.drop hlo) (Promised.append hpr f3) ?_ ?_
        · have := congrArg List.length f1
          simp at this hlen ⊢; omega
        · have e : (D ++ D').map (·.i) ++ i' :: R.map (·.1) = D.map (·.i) ++ (L ++ (i', b) :: R).map (·.1) := by simp [f1]
          rw [e]; exact hst
        · intro d hd
          rcases List.mem_append.1 hd with h | h
          · exact hop d h
          · exact f2 d h
        · intro d hd hdw
          rcases List.mem_append.1 hd with h | h
          · exact f4 _ (hE d h hdw)
          · exact f5 d h hdw
        · rw [puts_append]; exact f6

end
end Go.Sx
