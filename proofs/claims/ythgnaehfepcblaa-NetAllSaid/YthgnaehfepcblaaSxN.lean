/-
  Regions, code, calls.
-/
import Derived.Test.YthgnaehfepcblaaSxM
import Derived.Deep.Quiet
namespace Go.Sx
section

/-! ### calls -/

def RepArgs (ρ : Env) : List SV → List Value → Prop
  | [], vs => vs = []
  | x :: xs, vs => ∃ v r, vs = v :: r ∧ x.Rep ρ v ∧ RepArgs ρ xs r

/-- a call of function f returns, and K holds of what it leaves -/
def CallOk (X : Cx) (f : Nat) (args : List SV) (s : S) (K : KV) : Prop :=
  ∀ w0 M (ρ : Env) (w : World) vs, ρ.n = s.nx → HeapSat w0 M ρ s.hp w → RepArgs ρ args vs → Calls X.P f vs.toArray w fun e w' => ∃ v, e = .returned v ∧ Out w0 M ρ s w' v K

abbrev CallH := Nat → List SV → S → KV → Prop
def HOk (X : Cx) (ch : CallH) : Prop := ∀ f args s K, ch f args s K → CallOk X f args s K

/-- the functions that may be called: each has a body -/
structure FnOk (P : Program) (f : Nat) (fn : Func) : Prop where
  at_ : P.funcs[f]? = some fn
  body : fn.body.isSome = true
  name : (fn.name == "runtime.NumGoroutine") = false

structure Fx where
  X : Cx
  F : List (Nat × Func)
  I : List (Nat × List Nat)
structure Fx.Ok (G : Fx) : Prop where
  cx : G.X.Ok
  fns : ∀ p ∈ G.F, FnOk G.X.P p.1 p.2

def fnAt : List (Nat × Func) → Nat → Option Func
  | [], _ => none
  | (j, i) :: r, t => bif Nat.beq j t then some i else fnAt r t
theorem fnAt_mem : ∀ {l : List (Nat × Func)} {t : Nat} {i : Func}, fnAt l t = some i → (t, i) ∈ l
  | [], _, _, h => by simp [fnAt] at h
  | (j, i') :: r, t, i, h => by
    simp only [fnAt] at h
    by_cases hj : j = t
    · subst hj
      simp only [beq_self', cond_true, Option.some.injEq] at h
      subst h; exact List.mem_cons_self
    · simp only [beq_ne hj, cond_false] at h
      exact List.mem_cons_of_mem _ (fnAt_mem h)
def keepAt : List (Nat × List Nat) → Nat → Option (List Nat)
  | [], _ => none
  | (j, i) :: r, t => bif Nat.beq j t then some i else keepAt r t

/-! ### one operation, with its guard -/

/-- an operation is run -/
def xrun (G : Fx) (ch : CallH) (o : Oper) (s : S) (K : KV) : Prop :=
  match o.op with
  | .call c => match c.callee with
    | .value f => match s.ev f with
      | .a (.fn g) => match fnAt G.F g with
        | some _ => ch g (c.args.toList.map s.ev) s K
        | none => False
      | _ => False
    | .builtin _ => xop G.X o s K
    | .invoke _ _ => False
  | _ => xop G.X o s K

/-- its value is laid -/
def xput (o : Oper) (v : SV) (s : S) (K : S → Prop) : Prop :=
  match o.dst with
  | none => K s
  | some d => bif Nat.blt d s.nt then forceV v fun v => K (s.set d v) else False

/-- the guard: 'run' if it says yes, 'skip' if it says no -/
def xguard (X : Cx) (all : List Oper) (o : Oper) (s : S) (run skip : S → Prop) : Prop :=
  mark X.dbg (match o.dst with | some d => d | none => 99999) <| match o.guard with
  | none => run s
  | some (j, want) =>
    match (all[j]?).bind (·.dst) with
    | some d => match look s.fr d with
      | .a .tt => bif want then run s else skip s
      | .a .ff => bif want then skip s else run s
      | .a (.bool b) => splitB X.force b (bif want then run (s.set d (.a .tt)) else skip (s.set d (.a .tt))) (bif want then skip (s.set d (.a .ff)) else run (s.set d (.a .ff)))
      | .tup [] => skip s
      | _ => False
    | none => False

/-- the operations of a region, one behind the other -/
def xops (G : Fx) (ch : CallH) (all : List Oper) : List Oper → S → (S → Prop) → Prop
  | [], s, K => K s
  | o :: r, s, K => xguard G.X all o s
      (fun s => xrun G ch o s fun v s => xput o v s fun s => xops G ch all r s K)
      (fun s => xput o (.tup []) s fun s => xops G ch all r s K)

/-! ### it is right -/

theorem SatE.set {w0 : World} {M : Nat → Prop} {ρ : Env} {s : S} {a : Act} {w : World} (h : SatE w0 M ρ s a w) {d : Nat} (hd : d < s.nt) {sv : SV} {v : Value} (hv : sv.Rep ρ v) :
    SatE w0 M ρ (s.set d sv) (a.put (some d) v) w where
  defers := h.defers
  size := by simpa [Act.put, S.set] using h.size
  n := h.n
  frame := h.frame.set (by rw [h.size]; exact hd) hv
  heap := h.heap

/-- what is known of a slot may be said otherwise -/
theorem SatE.know {w0 : World} {M : Nat → Prop} {ρ : Env} {s : S} {a : Act} {w : World} (h : SatE w0 M ρ s a w) {d : Nat} {sv : SV} (hv : sv.Rep ρ (a.tmps.getD d undef)) :
    SatE w0 M ρ (s.set d sv) a w where
  defers := h.defers
  size := h.size
  n := h.n
  frame := by
    intro j
    simp only [S.set, look]
    by_cases hj : d = j
    · subst hj; simp only [beq_self', cond_true]; exact hv
    · simp only [beq_ne hj, cond_false]
      exact h.frame j
  heap := h.heap

theorem xput_ok {o : Oper} {sv : SV} {s : S} {K : S → Prop} (h : xput o sv s K) {w0 : World} {M : Nat → Prop} {ρ : Env} {a : Act} {w : World} (hs : SatE w0 M ρ s a w) {v : Value} (hv : sv.Rep ρ v) :
    ∃ s', K s' ∧ SatE w0 M ρ s' (a.put o.dst v) w := by
  unfold xput at h
  split at h
  · rename_i hd; rw [hd]; exact ⟨s, h, hs⟩
  · rename_i d hd
    cases hb : Nat.blt d s.nt
    · simp [hb] at h
    · simp only [hb, cond_true, forceV_eq] at h
      rw [hd]
      exact ⟨_, h, hs.set (by simp [Nat.blt] at hb; omega) hv⟩

theorem RepArgs_ev {ρ : Env} {s : S} {a : Act} (h : FrameSat ρ s.fr a.tmps) : ∀ l : List Operand, RepArgs ρ (l.map s.ev) (l.map a.eval)
  | [] => rfl
  | x :: l => ⟨a.eval x, l.map a.eval, rfl, h.ev x, RepArgs_ev h l⟩

/-- an operation of the region, as the machine's rule wants it -/
theorem xrun_wp {G : Fx} (hG : G.Ok) {ch : CallH} (hch : HOk G.X ch) {o : Oper} {s : S} {K : KV} (h : xrun G ch o s K) {w0 : World} {M : Nat → Prop} {ρ : Env} {a : Act} {w : World} (hs : SatE w0 M ρ s a w)
    {next : Act → World → Prop} {Q : Exit → Act → World → Prop} (hn : ∀ v w', Out w0 M ρ s w' v K → next (a.put o.dst v) w') : o.wp G.X.P a w next Q := by
  have plain : ∀ K, xop G.X o s K → (∀ v w', Out w0 M ρ s w' v K → next (a.put o.dst v) w') → o.wp G.X.P a w next Q := by
    intro K h hn
    obtain ⟨r, w', hr, v, hv, hout⟩ := xop_ok hG.cx h w0 M ρ a w hs
    unfold Oper.wp
    rw [hr]
    rcases hv with rfl | ⟨rfl, rfl⟩
    · exact hn v w' hout
    · exact hn _ w' hout
  unfold xrun at h
  split at h
  · rename_i c hc
    split at h
    · rename_i f hf
      split at h
      · rename_i g hg
        split at h
        · rename_i fn hfn
          have hok := hG.fns _ (fnAt_mem hfn)
          have hev : a.eval f = .func (.func g) #[] #[] := by have := hs.frame.ev f; rw [hg] at this; exact this
          have hcall := hch _ _ _ _ h w0 M ρ w (c.args.toList.map a.eval) hs.n hs.heap (RepArgs_ev hs.frame _)
          have hrun : (execOp a.eval o).run G.X.P w = .ok (.enter g (c.args.map a.eval)) w := by
            obtain ⟨callee, args, ts⟩ := c
            simp only at hf
            have hb : fn.body ≠ none := by have := hok.body; cases hh : fn.body <;> simp [hh] at this ⊢
            have hne : fn.name ≠ "runtime.NumGoroutine" := by have := hok.name; simpa using this
            simp [execOp, hc, hf, resolve, hev, Deferred.ofValue, invoke, callFunc, hok.at_, hne, hb]
          unfold Oper.wp
          rw [hrun]
          show Calls G.X.P g _ w _
          have e : (c.args.toList.map a.eval).toArray = c.args.map a.eval := by apply Array.toList_inj.1; simp
          rw [e] at hcall
          refine hcall.mono ?_
          rintro e w' ⟨v, rfl, hout⟩
          exact hn v w' hout
        · exact h.elim
      · exact h.elim
    · exact plain K h hn
    · exact h.elim
  · exact plain K h hn

/-- what the guard says -/
theorem xguard_ok {X : Cx} {all : List Oper} {o : Oper} {s : S} {run skip : S → Prop} (h : xguard X all o s run skip) {w0 : World} {M : Nat → Prop} {ρ : Env} {a : Act} {w : World} (hs : SatE w0 M ρ s a w) :
    ∃ s', s'.nt = s.nt ∧ SatE w0 M ρ s' a w ∧ s'.hp = s.hp ∧ ((Region.wanted o (yielded all.toArray a.tmps) = true ∧ run s') ∨ (Region.wanted o (yielded all.toArray a.tmps) = false ∧ skip s')) := by
  unfold xguard at h
  have h := mark_ok h
  split at h
  · rename_i hg
    exact ⟨s, rfl, hs, rfl, .inl ⟨by simp [Region.wanted, hg], h⟩⟩
  · rename_i j want hg
    split at h
    · rename_i d hd
      have hy : ∀ b, a.tmps.getD d undef = .bool b → d < a.tmps.size → yielded all.toArray a.tmps j = some b := by
        intro b hb hlt
        unfold yielded
        have : (all.toArray[j]?).bind (·.dst) = some d := by simpa using hd
        rw [this]
        have e : a.tmps[d]? = some (.bool b) := by
          rw [Array.getElem?_eq_getElem hlt]; congr 1
          simpa [Array.getD, hlt] using hb
        simp [e]
      have hlt : ∀ b, a.tmps.getD d undef = .bool b → d < a.tmps.size := by
        intro b hb
        rcases Nat.lt_or_ge d a.tmps.size with h | h
        · exact h
        · simp [Array.getD, Nat.not_lt.2 h, undef] at hb
      have wn : ∀ b, a.tmps.getD d undef = .bool b → Region.wanted o (yielded all.toArray a.tmps) = (b == want) := by
        intro b hb
        simp [Region.wanted, hg, hy b hb (hlt b hb)]
      have hf := hs.frame d
      split at h
      · rename_i e
        rw [e] at hf
        have hb : a.tmps.getD d undef = .bool true := hf
        refine ⟨s, rfl, hs, rfl, ?_⟩
        rw [wn true hb]
        cases want
        · exact .inr ⟨rfl, h⟩
        · exact .inl ⟨rfl, h⟩
      · rename_i e
        rw [e] at hf
        have hb : a.tmps.getD d undef = .bool false := hf
        refine ⟨s, rfl, hs, rfl, ?_⟩
        rw [wn false hb]
        cases want
        · exact .inl ⟨rfl, h⟩
        · exact .inr ⟨rfl, h⟩
      · rename_i b e
        rw [e] at hf
        have hb : a.tmps.getD d undef = .bool b := hf
        rw [wn b hb]
        have h := splitB_ok h
        cases b
        · refine ⟨s.set d (.a .ff), rfl, hs.know (d := d) (sv := .a .ff) hb, rfl, ?_⟩
          have h := h.2 rfl
          cases want
          · exact .inl ⟨rfl, h⟩
          · exact .inr ⟨rfl, h⟩
        · refine ⟨s.set d (.a .tt), rfl, hs.know (d := d) (sv := .a .tt) hb, rfl, ?_⟩
          have h := h.1 rfl
          cases want
          · exact .inr ⟨rfl, h⟩
          · exact .inl ⟨rfl, h⟩
      · rename_i e
        rw [e] at hf
        obtain ⟨vs, hv, hvs⟩ := hf
        have hvs : vs = [] := hvs
        subst hvs
        refine ⟨s, rfl, hs, rfl, .inr ⟨?_, h⟩⟩
        have hy : yielded all.toArray a.tmps j = none := by
          unfold yielded
          have : (all.toArray[j]?).bind (·.dst) = some d := by simpa using hd
          rw [this]
          by_cases hlt : d < a.tmps.size
          · have e : a.tmps[d]? = some (.tuple #[]) := by
              rw [Array.getElem?_eq_getElem hlt]; congr 1
              simpa [Array.getD, hlt] using hv
            simp [e]
          · simp [Array.getElem?_eq_none (Nat.not_lt.1 hlt)]
        simp [Region.wanted, hg, hy]
      · exact h.elim
    · exact h.elim

theorem Out.sat {w0 : World} {M : Nat → Prop} {ρ : Env} {s : S} {a : Act} {w w' : World} {v : Value} {K : KV} (hs : SatE w0 M ρ s a w) (h : Out w0 M ρ s w' v K) :
    ∃ sv s' ρ', K sv s' ∧ ρ.le ρ' ∧ sv.Rep ρ' v ∧ SatE w0 M ρ' s' a w' := by
  obtain ⟨sv, s', ρ', h1, h2, h3, h4, h5, h6, h7⟩ := h
  exact ⟨sv, s', ρ', h1, h4, h6, hs.defers, hs.size.trans h2.symm, h5, by rw [h3]; exact hs.frame.mono h4, h7⟩

/-- the region in the order of its text -/
theorem xops_wp {G : Fx} (hG : G.Ok) {ch : CallH} (hch : HOk G.X ch) {all : List Oper} {w0 : World} {M : Nat → Prop} {Q : Exit → Act → World → Prop} {K : S → Prop} : ∀ (l : List Oper) (s : S) (ρ : Env) (a : Act) (w : World), xops G ch all l s K → SatE w0 M ρ s a w →
    (∀ s' ρ' a' w', K s' → ρ.le ρ' → SatE w0 M ρ' s' a' w' → Q .normal a' w') → wpList G.X.P all.toArray Q l a w
  | [], s, ρ, a, w, h, hs, hQ => hQ s ρ a w h (Env.le.refl ρ) hs
  | o :: r, s, ρ, a, w, h, hs, hQ => by
    simp only [xops] at h
    obtain ⟨s', _, hs', _, hcase⟩ := xguard_ok h hs
    unfold wpList
    rcases hcase with ⟨hw, h⟩ | ⟨hw, h⟩
    · rw [if_pos hw]
      refine .inl (xrun_wp hG hch h hs' fun v w' hout => ?_)
      obtain ⟨sv, s'', ρ', hK, hle, hv, hs''⟩ := hout.sat hs'
      obtain ⟨s3, h3, hs3⟩ := xput_ok hK hs'' hv
      exact xops_wp hG hch r s3 ρ' _ w' h3 hs3 fun s4 ρ4 a4 w4 k hl hs4 => hQ s4 ρ4 a4 w4 k (hle.trans hl) hs4
    · rw [if_neg (by simp [hw])]
      obtain ⟨s3, h3, hs3⟩ := xput_ok h hs' (v := undef) ⟨[], rfl, rfl⟩
      exact xops_wp hG hch r s3 ρ _ w h3 hs3 hQ

end
end Go.Sx
