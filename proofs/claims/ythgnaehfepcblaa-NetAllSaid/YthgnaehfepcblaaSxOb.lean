/-
  A region that draws its order, where two that make memory may come in either order, and nothing else that is loud is ahead of them.
-/
import Derived.Test.YthgnaehfepcblaaSxO
namespace Go.Sx
section
variable {P : Program} {ops : Array Oper}

theorem pick_head {anc : Nat → Nat → Bool} (hf : Fine ops anc) {Q : Act → World → Prop} {Q' : Exit → Act → World → Prop} {fuel : Nat} {listed : Array Bool} {a : Act} {w : World} {i : Nat} (hi : i ∈ Region.ready .any ops listed)
    {D : List DE} {b : Bool} {R : List (Nat × Bool)} {E : List (Nat × Sem Next × Value)}
    (ih : ∀ (E : List (Nat × Sem Next × Value)) (listed : Array Bool) (a : Act) (w : World), Stand ops listed (D.map (·.i) ++ R.map (·.1)) → Promised P ops w a D → (∀ d ∈ D, d.wanted = true → (d.i, d.m, d.v) ∈ E) → nrun P ops anc Q R E (puts a D) w → wpAny P .any ops Q' fuel listed a w)
    (hst : Stand ops listed (D.map (·.i) ++ i :: R.map (·.1))) (hop : ∀ d ∈ D, ops[d.i]? = some d.o) (hpr : Promised P ops w a D) (hE : ∀ d ∈ D, d.wanted = true → (d.i, d.m, d.v) ∈ E)
    (hrun : nrun P ops anc Q ((i, b) :: R) E (puts a D) w) : wpOp P ops Q' i (wpAny P .any ops Q' fuel (listed.setIfInBounds i true)) a w := by
  obtain ⟨hilt, hiun, _⟩ := ready_spec hi
  have hst' := hst.take hi
  simp only [nrun] at hrun
  unfold wpOp
  cases ho : ops[i]? with
  | none => rw [ho] at hrun; exact hrun.elim
  | some o =>
    rw [ho] at hrun
    simp only at hrun ⊢
    have hap : ∀ d ∈ D, d.o.apart ops o = true := fun d hd => ahead_apart hf hst hi (List.mem_map_of_mem hd) ho (hop d hd)
    have hap' : ∀ d ∈ D, o.apart ops d.o = true := fun d hd => apart_symm (hap d hd)
    have hselo := hf.sel i o ho
    have hseld : ∀ d ∈ D, d.o.apart ops o = true ∧ noSel d.o = true := fun d hd => ⟨hap d hd, hf.sel d.i d.o (hop d hd)⟩
    obtain ⟨e1, e2⟩ := evalSame hselo D a hap
    rw [e1, e2] at hrun
    by_cases hw : Region.wanted o (yielded ops a.tmps) = true
    · rw [if_pos hw] at hrun ⊢
      refine .inl ?_
      cases b with
      | true =>
        simp only [if_true] at hrun
        refine hrun.wp fun v w' ⟨hst2, hr⟩ => ?_
        rw [← putOut v D a hap] at hr
        refine ih E _ _ w' hst' ?_ hE hr
        refine Promised.world (fun d hd hdw => ?_) (Promised.other hseld hpr)
        refine hst2 (d.i, d.m, d.v) (hE d hd hdw) ?_
        cases hc : anc d.i i with
        | false => rfl
        | true => exact absurd (hf.anc _ _ hilt hc) (ready_not hst hi (List.mem_append_left _ (List.mem_map_of_mem hd)))
      | false =>
        simp only [Bool.false_eq_true, if_false] at hrun
        obtain ⟨v, hv, hr⟩ := hrun
        unfold Oper.wp
        rw [hv]
        rw [← putOut v D a hap] at hr
        exact ih _ _ _ w hst' (Promised.other hseld hpr) (fun d hd hdw => List.mem_cons_of_mem _ (hE d hd hdw)) hr
    · rw [if_neg hw] at hrun ⊢
      rw [← putOut undef D a hap] at hrun
      exact ih E _ _ w hst' (Promised.other hseld hpr) hE hrun

theorem pick_quiet {anc : Nat → Nat → Bool} (hf : Fine ops anc) {Q' : Exit → Act → World → Prop} {fuel : Nat} {listed : Array Bool} {a : Act} {w : World} {i : Nat} (hi : i ∈ Region.ready .any ops listed)
    {D : List DE} {X : List Nat} {E : List (Nat × Sem Next × Value)} {C : List (Nat × Sem Next × Value) → Act → Prop}
    (ih : ∀ (E : List (Nat × Sem Next × Value)) (a : Act), Promised P ops w a D → (∀ d ∈ D, d.wanted = true → (d.i, d.m, d.v) ∈ E) → C E (puts a D) → wpAny P .any ops Q' fuel (listed.setIfInBounds i true) a w)
    (hst : Stand ops listed (D.map (·.i) ++ i :: X)) (hop : ∀ d ∈ D, ops[d.i]? = some d.o) (hpr : Promised P ops w a D) (hE : ∀ d ∈ D, d.wanted = true → (d.i, d.m, d.v) ∈ E) {o : Oper} (ho : ops[i]? = some o)
    (hrun : if Region.wanted o (yielded ops (puts a D).tmps) = true then ∃ v, (execOp (puts a D).eval o).run P w = .ok (.value v) w ∧ C ((i, execOp (puts a D).eval o, v) :: E) ((puts a D).put o.dst v) else C E ((puts a D).put o.dst undef)) :
    wpOp P ops Q' i (wpAny P .any ops Q' fuel (listed.setIfInBounds i true)) a w := by
  unfold wpOp
  rw [ho]
  simp only
  have hap : ∀ d ∈ D, d.o.apart ops o = true := fun d hd => ahead_apart hf hst hi (List.mem_map_of_mem hd) ho (hop d hd)
  have hselo := hf.sel i o ho
  have hseld : ∀ d ∈ D, d.o.apart ops o = true ∧ noSel d.o = true := fun d hd => ⟨hap d hd, hf.sel d.i d.o (hop d hd)⟩
  obtain ⟨e1, e2⟩ := evalSame hselo D a hap
  rw [e1, e2] at hrun
  by_cases hw : Region.wanted o (yielded ops a.tmps) = true
  · rw [if_pos hw] at hrun ⊢
    refine .inl ?_
    obtain ⟨v, hv, hr⟩ := hrun
    unfold Oper.wp
    rw [hv]
    rw [← putOut v D a hap] at hr
    exact ih _ _ (Promised.other hseld hpr) (fun d hd hdw => List.mem_cons_of_mem _ (hE d hd hdw)) hr
  · rw [if_neg hw] at hrun ⊢
    rw [← putOut undef D a hap] at hrun
    exact ih E _ (Promised.other hseld hpr) hE hrun

theorem pick_promised {anc : Nat → Nat → Bool} (hf : Fine ops anc) {Q' : Exit → Act → World → Prop} {fuel : Nat} {listed : Array Bool} {a : Act} {w : World} {i : Nat} (hi : i ∈ Region.ready .any ops listed)
    {D : List DE} {X : List Nat} {d : DE} (hd : d ∈ D) (hdi : d.i = i) (hst : Stand ops listed (D.map (·.i) ++ X)) (hop : ∀ d ∈ D, ops[d.i]? = some d.o) (hpr : Promised P ops w a D)
    (next : ∀ (D1 D2 : List DE) (a' : Act), D = D1 ++ d :: D2 → Promised P ops w a' (D1 ++ D2) → puts a D = puts a' (D1 ++ D2) → wpAny P .any ops Q' fuel (listed.setIfInBounds i true) a' w) :
    wpOp P ops Q' i (wpAny P .any ops Q' fuel (listed.setIfInBounds i true)) a w := by
  obtain ⟨D1, D2, rfl⟩ := List.append_of_mem hd
  have hdo : ops[i]? = some d.o := by rw [← hdi]; exact hop d hd
  have hst2 : Stand ops listed (D1.map (·.i) ++ i :: (D2.map (·.i) ++ X)) := by
    have e : (D1 ++ d :: D2).map (·.i) ++ X = D1.map (·.i) ++ i :: (D2.map (·.i) ++ X) := by simp [hdi]
    rw [e] at hst; exact hst
  have hap : ∀ x ∈ D1, x.o.apart ops d.o = true := fun x hx => ahead_apart hf hst2 hi (List.mem_map_of_mem hx) hdo (hop x (List.mem_append_left _ hx))
  have hseld : ∀ x ∈ D1, x.o.apart ops d.o = true ∧ noSel x.o = true := fun x hx => ⟨hap x hx, hf.sel x.i x.o (hop x (List.mem_append_left _ hx))⟩
  obtain ⟨e1, e2⟩ := evalSame (hf.sel i d.o hdo) D1 a hap
  have hr := Promised.right hpr
  have hl := Promised.left hpr
  obtain ⟨g1, g2, g3, g4⟩ := hr
  rw [e2] at g1
  rw [e1] at g2
  have hnew : Promised P ops w (a.put d.o.dst d.v) (D1 ++ D2) := by
    refine Promised.append (Promised.other hseld hl) ?_
    rw [putOut d.v D1 a hap]; exact g4
  have hputs : puts a (D1 ++ d :: D2) = puts (a.put d.o.dst d.v) (D1 ++ D2) := by
    rw [puts_append, puts_cons, puts_append, putOut d.v D1 a hap]
  have hnext : wpAny P .any ops Q' fuel (listed.setIfInBounds i true) (a.put d.o.dst d.v) w := next D1 D2 _ rfl hnew hputs
  unfold wpOp
  rw [hdo]
  simp only
  cases hdw : d.wanted with
  | true =>
    rw [hdw] at g1
    rw [if_pos g1]
    obtain ⟨q1, q2⟩ := g2 hdw
    refine .inl ?_
    unfold Oper.wp
    rw [q1, q2]
    exact hnext
  | false =>
    rw [hdw] at g1
    rw [if_neg (by simp [g1])]
    rw [g3 hdw] at hnext
    exact hnext

/-- the quiet ones ahead; what is behind them is asked of what they leave -/
def nrunL (P : Program) (ops : Array Oper) (K : List (Nat × Sem Next × Value) → Act → World → Prop) : List Nat → List (Nat × Sem Next × Value) → Act → World → Prop
  | [], E, a, w => K E a w
  | i :: r, E, a, w =>
    match ops[i]? with
    | none => False
    | some o =>
      if Region.wanted o (yielded ops a.tmps) = true then ∃ v, (execOp a.eval o).run P w = .ok (.value v) w ∧ nrunL P ops K r ((i, execOp a.eval o, v) :: E) (a.put o.dst v) w
      else nrunL P ops K r E (a.put o.dst undef) w

theorem nrunL_both {anc : Nat → Nat → Bool} {Q : Act → World → Prop} {R1 R2 : List (Nat × Bool)} : ∀ (L : List Nat) (E : List (Nat × Sem Next × Value)) (a : Act) (w : World),
    nrun P ops anc Q (L.map (fun i => (i, false)) ++ R1) E a w → nrun P ops anc Q (L.map (fun i => (i, false)) ++ R2) E a w → nrunL P ops (fun E a w => nrun P ops anc Q R1 E a w ∧ nrun P ops anc Q R2 E a w) L E a w
  | [], _, _, _, h1, h2 => ⟨h1, h2⟩
  | i :: L, E, a, w, h1, h2 => by
    simp only [List.map_cons, List.cons_append, nrun, nrunL] at h1 h2 ⊢
    cases ho : ops[i]? with
    | none => rw [ho] at h1; exact h1.elim
    | some o =>
      rw [ho] at h1 h2
      simp only at h1 h2 ⊢
      by_cases hw : Region.wanted o (yielded ops a.tmps) = true
      · rw [if_pos hw] at h1 h2 ⊢
        simp only [Bool.false_eq_true, if_false] at h1 h2
        obtain ⟨v, hv, h1⟩ := h1
        obtain ⟨v', hv', h2⟩ := h2
        rw [hv] at hv'
        cases hv'
        exact ⟨v, hv, nrunL_both L _ _ w h1 h2⟩
      · rw [if_neg hw] at h1 h2 ⊢
        exact nrunL_both L _ _ w h1 h2

theorem advanceL {K : List (Nat × Sem Next × Value) → Act → World → Prop} : ∀ (L R : List Nat) (E : List (Nat × Sem Next × Value)) (a : Act) (w : World), nrunL P ops K (L ++ R) E a w →
    ∃ D E', D.map (·.i) = L ∧ (∀ d ∈ D, ops[d.i]? = some d.o) ∧ Promised P ops w a D ∧ (∀ e ∈ E, e ∈ E') ∧ (∀ d ∈ D, d.wanted = true → (d.i, d.m, d.v) ∈ E') ∧ nrunL P ops K R E' (puts a D) w
  | [], R, E, a, w, h => ⟨[], E, rfl, fun d hd => (by cases hd), trivial, fun e he => he, fun d hd => (by cases hd), h⟩
  | i :: L, R, E, a, w, h => by
    simp only [List.cons_append, nrunL] at h
    cases ho : ops[i]? with
    | none => rw [ho] at h; exact h.elim
    | some o =>
      rw [ho] at h
      simp only at h
      by_cases hw : Region.wanted o (yielded ops a.tmps) = true
      · rw [if_pos hw] at h
        obtain ⟨v, hv, h⟩ := h
        obtain ⟨D, E', e1, e2, e3, e4, e5, e6⟩ := advanceL L R _ _ w h
        refine ⟨⟨i, o, v, execOp a.eval o, true⟩ :: D, E', by simp [e1], ?_, ⟨hw, fun _ => ⟨rfl, hv⟩, fun h => (by cases h), e3⟩, fun e he => e4 e (List.mem_cons_of_mem _ he), ?_, e6⟩
        · intro d hd
          rcases List.mem_cons.1 hd with rfl | hd
          · exact ho
          · exact e2 d hd
        · intro d hd hw
          rcases List.mem_cons.1 hd with rfl | hd
          · exact e4 _ List.mem_cons_self
          · exact e5 d hd hw
      · rw [if_neg hw] at h
        obtain ⟨D, E', e1, e2, e3, e4, e5, e6⟩ := advanceL L R _ _ w h
        refine ⟨⟨i, o, undef, .pure .skip, false⟩ :: D, E', by simp [e1], ?_, ⟨by simpa using hw, fun h => (by cases h), fun _ => rfl, e3⟩, e4, ?_, e6⟩
        · intro d hd
          rcases List.mem_cons.1 hd with rfl | hd
          · exact ho
          · exact e2 d hd
        · intro d hd hw
          rcases List.mem_cons.1 hd with rfl | hd
          · cases hw
          · exact e5 d hd hw

/-- **either of two may come first** -/
theorem any_of_two {anc : Nat → Nat → Bool} (hf : Fine ops anc) {Q : Act → World → Prop} {Q' : Exit → Act → World → Prop} (hQ : ∀ a w, Q a w → Q' .normal a w) {x y : Nat} {R : List (Nat × Bool)} (hR : LoudOk ops R) (hx : ∀ q ∈ R, Anc ops x q.1) (hy : ∀ q ∈ R, Anc ops y q.1) :
    ∀ (fuel : Nat) (D : List DE) (L : List Nat) (E : List (Nat × Sem Next × Value)) (listed : Array Bool) (a : Act) (w : World),
    D.length + (L.length + 2 + R.length) = fuel → Stand ops listed (D.map (·.i) ++ (L ++ x :: y :: R.map (·.1))) → Stand ops listed (D.map (·.i) ++ (L ++ y :: x :: R.map (·.1))) → (∀ d ∈ D, ops[d.i]? = some d.o) → Promised P ops w a D → (∀ d ∈ D, d.wanted = true → (d.i, d.m, d.v) ∈ E) →
    nrunL P ops (fun E a w => nrun P ops anc Q ((x, true) :: (y, true) :: R) E a w ∧ nrun P ops anc Q ((y, true) :: (x, true) :: R) E a w) L E (puts a D) w → wpAny P .any ops Q' fuel listed a w := by
  have lo1 : ∀ z, (∀ q ∈ R, Anc ops z q.1) → LoudOk ops ((z, true) :: R) := by
    intro z hz L' R' h e q hq
    cases L' with
    | nil => simp at e; obtain ⟨rfl, rfl⟩ := e; exact hz q hq
    | cons p L' => simp at e; exact hR L' R' h e.2 q hq
  intro fuel
  induction fuel with
  | zero => intro D L E listed a w hlen; omega
  | succ fuel ih =>
    intro D L E listed a w hlen hst1 hst2 hop hpr hE hrun
    refine ⟨?_, ?_⟩
    · intro h0
      cases hX : D.map (·.i) ++ (L ++ x :: y :: R.map (·.1)) with
      | nil => have := congrArg List.length hX; simp at this
      | cons z zs =>
        rw [hX] at hst1
        have := hst1.head hf
        rw [h0] at this; cases this
    · intro i hi
      obtain ⟨hilt, hiun, _⟩ := ready_spec hi
      have hmem : i ∈ D.map (·.i) ++ (L ++ x :: y :: R.map (·.1)) := by
        rcases hst1.all i hilt with h | h
        · rw [h] at hiun; cases hiun
        · exact h
      -- one of the two
      have two : ∀ (x y : Nat), i = x → (∀ q ∈ R, Anc ops y q.1) → Stand ops listed (D.map (·.i) ++ (L ++ x :: y :: R.map (·.1))) → nrunL P ops (fun E a w => nrun P ops anc Q ((x, true) :: (y, true) :: R) E a w) L E (puts a D) w →
          D.length + (L.length + 2 + R.length) = fuel + 1 → wpOp P ops Q' i (wpAny P .any ops Q' fuel (listed.setIfInBounds i true)) a w := by
        rintro x y rfl hy hst hrun hlen
        obtain ⟨D', E', f1, f2, f3, f4, f5, f6⟩ := advanceL L [] E _ w (by simpa using hrun)
        refine pick_head (Q := Q) (D := D ++ D') (b := true) (R := (y, true) :: R) (E := E') hf hi ?_ ?_ ?_ (Promised.append hpr f3) ?_ ?_
        · intro E2 listed2 a2 w2 h1 h2 h3 h4
          refine any_of_one hf hQ fuel (D ++ D') ((y, true) :: R) E2 listed2 a2 w2 ?_ h1 ?_ (lo1 y hy) h2 h3 h4
          · have := congrArg List.length f1
            simp at this hlen ⊢; omega
          · intro d hd
            rcases List.mem_append.1 hd with h | h
            · exact hop d h
            · exact f2 d h
        · have e : (D ++ D').map (·.i) ++ i :: ((y, true) :: R).map (·.1) = D.map (·.i) ++ (L ++ i :: y :: R.map (·.1)) := by simp [f1]
          rw [e]; exact hst
        · intro d hd
          rcases List.mem_append.1 hd with h | h
          · exact hop d h
          · exact f2 d h
        · intro d hd hdw
          rcases List.mem_append.1 hd with h | h
          · exact f4 _ (hE d h hdw)
          · exact f5 d h hdw
        · rw [puts_append]; exact f6
      have mono : ∀ {K K' : List (Nat × Sem Next × Value) → Act → World → Prop}, (∀ E a w, K E a w → K' E a w) → ∀ (L : List Nat) (E : List (Nat × Sem Next × Value)) (a : Act), nrunL P ops K L E a w → nrunL P ops K' L E a w := by
        intro K K' hk L
        induction L with
        | nil => intro E a h; exact hk _ _ _ h
        | cons j L ihL =>
          intro E a h
          simp only [nrunL] at h ⊢
          cases ho : ops[j]? with
          | none => rw [ho] at h; exact h.elim
          | some o =>
            rw [ho] at h
            simp only at h ⊢
            by_cases hw : Region.wanted o (yielded ops a.tmps) = true
            · rw [if_pos hw] at h ⊢
              obtain ⟨v, hv, h⟩ := h
              exact ⟨v, hv, ihL _ _ h⟩
            · rw [if_neg hw] at h ⊢
              exact ihL _ _ h
      rcases List.mem_append.1 hmem with hm | hm
      · obtain ⟨d, hd, hdi⟩ := List.mem_map.1 hm
        refine pick_promised hf hi hd hdi hst1 hop hpr ?_
        rintro D1 D2 a' rfl h3 h4
        have sub : ∀ z ∈ D1 ++ D2, z ∈ D1 ++ d :: D2 := by
          intro z hz
          simp only [List.mem_append, List.mem_cons] at hz ⊢
          rcases hz with h | h
          · exact .inl h
          · exact .inr (.inr h)
        have st : ∀ X : List Nat, Stand ops listed ((D1 ++ d :: D2).map (·.i) ++ X) → Stand ops (listed.setIfInBounds i true) ((D1 ++ D2).map (·.i) ++ X) := by
          intro X h
          have e : (D1 ++ d :: D2).map (·.i) ++ X = D1.map (·.i) ++ i :: (D2.map (·.i) ++ X) := by simp [hdi]
          rw [e] at h
          simpa using h.take hi
        refine ih (D1 ++ D2) L E _ a' w (by simp at hlen ⊢; omega) (st _ hst1) (st _ hst2) (fun d hd => hop d (sub d hd)) h3 (fun d hd => hE d (sub d hd)) (by rw [← h4]; exact hrun)
      · rcases List.mem_append.1 hm with hm | hm
        · obtain ⟨L1, L2, rfl⟩ := List.append_of_mem hm
          obtain ⟨D', E', f1, f2, f3, f4, f5, f6⟩ := advanceL L1 (i :: L2) E _ w hrun
          simp only [nrunL] at f6
          cases ho : ops[i]? with
          | none => rw [ho] at f6; exact f6.elim
          | some o =>
            rw [ho] at f6
            simp only at f6
            rw [← puts_append] at f6
            have hop' : ∀ d ∈ D ++ D', ops[d.i]? = some d.o := by
              intro d hd
              rcases List.mem_append.1 hd with h | h
              · exact hop d h
              · exact f2 d h
            have st : ∀ X : List Nat, Stand ops listed (D.map (·.i) ++ ((L1 ++ i :: L2) ++ X)) → Stand ops listed ((D ++ D').map (·.i) ++ i :: (L2 ++ X)) := by
              intro X h
              have e : (D ++ D').map (·.i) ++ i :: (L2 ++ X) = D.map (·.i) ++ ((L1 ++ i :: L2) ++ X) := by simp [f1]
              rw [e]; exact h
            refine pick_quiet (D := D ++ D') (X := L2 ++ x :: y :: R.map (·.1)) (E := E') (C := fun E a => nrunL P ops (fun E a w => nrun P ops anc Q ((x, true) :: (y, true) :: R) E a w ∧ nrun P ops anc Q ((y, true) :: (x, true) :: R) E a w) L2 E a w) hf hi ?_ (st _ hst1) hop' (Promised.append hpr f3) ?_ ho f6
            · intro E2 a2 g1 g2 g3
              refine ih (D ++ D') L2 E2 _ a2 w ?_ ((st _ hst1).take hi) ((st _ hst2).take hi) hop' g1 g2 g3
              have := congrArg List.length f1
              simp at this hlen ⊢; omega
            · intro d hd hdw
              rcases List.mem_append.1 hd with h | h
              · exact f4 _ (hE d h hdw)
              · exact f5 d h hdw
        · rcases List.mem_cons.1 hm with rfl | hm
          · exact two i y rfl hy hst1 (mono (fun _ _ _ h => h.1) L E _ hrun) hlen
          · rcases List.mem_cons.1 hm with rfl | hm
            · exact two i x rfl hx hst2 (mono (fun _ _ _ h => h.2) L E _ hrun) hlen
            · obtain ⟨q, hq, rfl⟩ := List.mem_map.1 hm
              exact absurd (hx q hq) (ready_not hst1 hi (by simp))
end
end Go.Sx
