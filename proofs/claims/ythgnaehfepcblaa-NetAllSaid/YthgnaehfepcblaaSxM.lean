/-
  One function for all operations that call no function of the program; that it is right.
-/
import Derived.Test.YthgnaehfepcblaaSxL
import Derived.Test.YthgnaehfepcblaaSxKb
import Derived.Test.YthgnaehfepcblaaSxIo
namespace Go.Sx
section

/-- a string or a slice -/
def isSeq : D → Bool
  | .str => true
  | .slc _ => true
  | _ => false

def xbuiltin (X : Cx) (b : Builtin) (args : List Operand) (ts : List Nat) (s : S) (K : KV) : Prop :=
  match b, args, ts with
  | .len, [x], [t] => xlen X t (s.ev x) fun r => K (.a r) s
  | .append, [x, y], [t, xt] => match X.ti xt with
    | some tx => bif isSeq tx.d then (bif objSrc s (s.ev y) then xappObj X t (s.ev x) (s.ev y) s K else xappend X t (s.ev x) (s.ev y) s K) else (match tx.d with | .int _ => xappz X t (s.ev x) (s.ev y) s K | _ => False)
    | none => False
  | .min, [x, y], _ => match s.ev x, s.ev y with
    | .a x, .a y => xmin2 false x y fun r => K (.a r) s
    | _, _ => False
  | .max, [x, y], _ => match s.ev x, s.ev y with
    | .a x, .a y => xmin2 true x y fun r => K (.a r) s
    | _, _ => False
  | .clear, [x], [t] => xclear X t (s.ev x) s K
  | .cap, [x], [t] => xcap X t (s.ev x) fun r => K (.a r) s
  | _, _, _ => False

def xun (op : UnOp) (x : SV) (s : S) (K : KV) : Prop :=
  match op, x with
  | .not, .a .tt => K (.a .ff) s
  | .not, .a .ff => K (.a .tt) s
  | .not, .a (.bool b) => K (.a (.bool (!b))) s
  | .neg, .a (.lit k n) => K (.a (.lit k (k.wrap (0 - n)))) s
  | .neg, .a (.int k n) => bif k.signed then InR k (0 - n) ∧ K (.a (.int k (0 - n))) s else False
  | _, _ => False

def xextract (x : SV) (i : Nat) (s : S) (K : KV) : Prop :=
  match x with
  | .tup xs => match xs[i]? with
    | some c => K c.sv s
    | none => False
  | _ => False

/-- a part of a struct value -/
def xpart (X : Cx) (t : Nat) (x : SV) (f : Nat) (s : S) (K : KV) : Prop :=
  match X.ti t, x with
  | some ti, .agg cs =>
    match ti.d with
    | .struct fs => match fs[f]? with
      | some (off, _) => match cs[off]? with
        | some a => K (.a a) s
        | none => False
      | none => False
    | _ => False
  | _, _ => False

def xop (X : Cx) (o : Oper) (s : S) (K : KV) : Prop :=
  match o.op with
  | .move x => K (s.ev x) s
  | .assign x => K (s.ev x) s
  | .pick c a b => match s.ev c with
    | .a .tt => K (s.ev a) s
    | .a .ff => K (s.ev b) s
    | .a (.bool c) => splitB X.force c (K (s.ev a) s) (K (s.ev b) s)
    | _ => False
  | .alloc t => xalloc X t s K
  | .box t v => xbox t (s.ev v) s K
  | .build t ps => xbuild X t ps.toList s K
  | .buildSlice t n ps => xbuildSlice X t n ps.toList s K
  | .load t a => xload X t (s.ev a) s K
  | .store t a v => xstore X t (s.ev a) (s.ev v) s K
  | .nilCheck x => match s.ev x with
    | .a (.ptr t r e c) => K (.a (.ptr t r e c)) s
    | .a (.fn f) => K (.a (.fn f)) s
    | _ => False
  | .binOp op t x y _ => match s.ev x, s.ev y with
    | .a x, .a y => xbinA X op t x y fun r => K (.a r) s
    | .agg xs, .agg ys => xbinG X op t xs ys fun r => K (.a r) s
    | _, _ => False
  | .unOp op _ x => xun op (s.ev x) s K
  | .convert a b x => xconvS X a b (s.ev x) s K
  | .makeFunc fn first captured => match fn, first.toList, captured.toList with
    | .func f, [], [] => K (.a (.fn f)) s
    | _, _, _ => False
  | .makeSlice t l c => xmake X t (s.ev l) (s.ev c) s K
  | .slice t x lo hi mx => xslice X t (s.ev x) lo hi mx s K
  | .fieldAddr t x f => xfield X t (s.ev x) f s K
  | .indexAddr t x i => xidx X t (s.ev x) (s.ev i) s K
  | .index t x i => xsidx X t (s.ev x) (s.ev i) s K
  | .extract x i => xextract (s.ev x) i s K
  | .call c => match c.callee with
    | .builtin b => xbuiltin X b c.args.toList c.argTypes.toList s K
    | _ => False
  | _ => False

/-- operations that leave the world alone -/
def isQuiet (o : Oper) : Bool :=
  match o.op with
  | .alloc _ => false
  | .box _ _ => false
  | .buildSlice _ _ _ => false
  | .store _ _ _ => false
  | .makeSlice _ _ _ => false
  | .call c => match c.callee with
    | .builtin .len => true
    | .builtin .cap => true
    | .builtin .min => true
    | .builtin .max => true
    | _ => false
  | _ => true

theorem Good.makes {X : Cx} {o : Oper} {s : S} {K : KV}
    (h : ∀ ρ : Env, ρ.n = s.nx → ∀ (a : Act) (w w0 : World) (M : Nat → Prop), FrameSat ρ s.fr a.tmps → HeapSat w0 M ρ s.hp w →
      ∃ v w' ρ', (execOp a.eval o).run X.P w = .ok (.value v) w' ∧ ρ.le ρ' ∧ ∃ sv s', K sv s' ∧ s'.nt = s.nt ∧ s'.fr = s.fr ∧ ρ'.n = s'.nx ∧ sv.Rep ρ' v ∧ HeapSat w0 M ρ' s'.hp w') : Good X o s K := by
  intro w0 M ρ a w hs
  obtain ⟨v, w', ρ', hr, hle, sv, s', hK, h1, h2, h3, h4, h5⟩ := h ρ hs.n a w w0 M hs.frame hs.heap
  exact ⟨_, w', hr, v, .inl rfl, sv, s', ρ', hK, h1, h2, hle, h3, h4, h5⟩

theorem QGood.still {X : Cx} {o : Oper} {s : S} {K : KV}
    (h : ∀ ρ : Env, ρ.n = s.nx → ∀ (a : Act) (w w0 : World) (M : Nat → Prop), FrameSat ρ s.fr a.tmps → HeapSat w0 M ρ s.hp w →
      ∃ sv v, K sv s ∧ sv.Rep ρ v ∧ ∀ w' : World, (∀ t, rtag o s = some t → ∀ b, (ρ.pl t).fp b → w'.heap[b]? = w.heap[b]?) → (execOp a.eval o).run X.P w' = .ok (.value v) w') : QGood X o s K := by
  intro w0 M ρ a w hs
  obtain ⟨sv, v, h1, h2, h3⟩ := h ρ hs.n a w w0 M hs.frame hs.heap
  exact ⟨v, sv, h1, h2, h3⟩

theorem run_v {P : Program} {m : Sem Value} {v : Value} {w w' : World} (h : m.run P w = .ok v w') : (do Pure.pure (Next.value (← m)) : Sem Next).run P w = .ok (.value v) w' := by
  simp [h]

theorem xop_quiet {X : Cx} (hX : X.Ok) {o : Oper} {s : S} {K : KV} (hq : isQuiet o = true) (h : xop X o s K) : QGood X o s K := by
  obtain ⟨dst, op, type, pos, after, guard⟩ := o
  unfold xop at h
  cases op <;> simp only at h <;> first | (exact h.elim) | (simp [isQuiet] at hq; done) | skip
  case move x => exact QGood.still fun ρ hρ a w w0 M hf hh => ⟨_, _, h, hf.ev x, fun _ _ => rfl⟩
  case assign x => exact QGood.still fun ρ hρ a w w0 M hf hh => ⟨_, _, h, hf.ev x, fun _ _ => rfl⟩
  case pick c x y =>
    refine QGood.still fun ρ hρ a w w0 M hf hh => ?_
    have hc := hf.ev c
    split at h
    · rename_i e
      rw [e] at hc
      have hc' : a.eval c = .bool true := hc
      exact ⟨_, _, h, hf.ev x, fun w' hw => by simp [execOp, hc', asBool]⟩
    · rename_i e
      rw [e] at hc
      have hc' : a.eval c = .bool false := hc
      exact ⟨_, _, h, hf.ev y, fun w' hw => by simp [execOp, hc', asBool]⟩
    · rename_i b e
      rw [e] at hc
      have hc' : a.eval c = .bool b := hc
      have h := splitB_ok h
      cases b with
      | true => exact ⟨_, _, h.1 rfl, hf.ev x, fun w' hw => by simp [execOp, hc', asBool]⟩
      | false => exact ⟨_, _, h.2 rfl, hf.ev y, fun w' hw => by simp [execOp, hc', asBool]⟩
    · exact h.elim
  case build t ps =>
    refine QGood.still fun ρ hρ a w w0 M hf hh => ?_
    obtain ⟨u, sv, h1, h2, h3⟩ := build_ok hX h hf
    exact ⟨sv, u, h3, h2, fun w' hw => run_v (h1 w')⟩
  case load t x =>
    refine QGood.still fun ρ hρ a w w0 M hf hh => ?_
    obtain ⟨b, off, e, u, sv, h1, h2, h3⟩ := load_ok hX h (hf.ev x) hh
    refine ⟨sv, u, h3, h2, fun w' hw => run_v ?_⟩
    have h4 := h1 w' hw
    simp [Instr.loadAt, e, Instr.sureAddr, h4]
  case nilCheck x =>
    refine QGood.still fun ρ hρ a w w0 M hf hh => ?_
    have hc := hf.ev x
    split at h
    · rename_i t r e c eq
      rw [eq] at hc
      obtain ⟨h1, h2⟩ := hc
      exact ⟨_, _, h, ⟨h1, h2⟩, fun w' hw => by simp [execOp, h2]⟩
    · rename_i f eq
      rw [eq] at hc
      have hc' : a.eval x = .func (.func f) #[] #[] := hc
      exact ⟨_, _, h, hc', fun w' hw => by simp [execOp, hc']⟩
    · exact h.elim
  case binOp op t x y yt =>
    refine QGood.still fun ρ hρ a w w0 M hf hh => ?_
    split at h
    · rename_i p q hp hq
      have h1 := hf.ev x
      have h2 := hf.ev y
      rw [hp] at h1
      rw [hq] at h2
      obtain ⟨z, r, g1, g2, g3⟩ := xbinA_ok hX h h1 h2
      refine ⟨.a z, r, g1, g2, fun w' hw => run_v ?_⟩
      simp [eqGuard_plain op t x y h1 (xbinA_plain h), g3]
    · rename_i p q hp hq
      have h1 := hf.ev x
      have h2 := hf.ev y
      rw [hp] at h1
      rw [hq] at h2
      obtain ⟨us, e1, h1⟩ := h1
      obtain ⟨vs, e2, h2⟩ := h2
      obtain ⟨z, r, g1, g2, g3⟩ := xbinG_ok h h1 h2 x y
      refine ⟨.a z, r, g1, g2, fun w' hw => run_v ?_⟩
      have := g3 w'
      simp only [e1, e2]
      simpa using this
    · exact h.elim
  case unOp op t x =>
    refine QGood.still fun ρ hρ a w w0 M hf hh => ?_
    have hc := hf.ev x
    unfold xun at h
    split at h
    · rename_i e; rw [e] at hc
      have hc' : a.eval x = .bool true := hc
      exact ⟨_, .bool false, h, rfl, fun w' hw => by simp [execOp, Op.unary, hc']⟩
    · rename_i e; rw [e] at hc
      have hc' : a.eval x = .bool false := hc
      exact ⟨_, .bool true, h, rfl, fun w' hw => by simp [execOp, Op.unary, hc']⟩
    · rename_i b e; rw [e] at hc
      have hc' : a.eval x = .bool b := hc
      exact ⟨_, .bool (!b), h, rfl, fun w' hw => by simp [execOp, Op.unary, hc']⟩
    · rename_i k n e; rw [e] at hc
      obtain ⟨hc', _⟩ := hc
      exact ⟨_, .int k (k.wrap (0 - n)), h, ⟨rfl, InR_wrap _ _⟩, fun w' hw => by simp [execOp, Op.unary, Op.intArith, hc']⟩
    · rename_i k n e; rw [e] at hc
      obtain ⟨hc', _⟩ := hc
      cases hs : k.signed
      · rw [hs] at h; exact h.elim
      · rw [hs] at h
        exact ⟨_, .int k (0 - n), h.2, ⟨rfl, h.1⟩, fun w' hw => by rw [← wrap_of_InR h.1]; simp [execOp, Op.unary, Op.intArith, hc']⟩
    · exact h.elim
  case convert t d x =>
    refine QGood.still fun ρ hρ a w w0 M hf hh => ?_
    obtain ⟨sv, r, h1, h2, h3⟩ := convS_ok hX h hh (hf.ev x)
    exact ⟨sv, r, h1, h2, fun w' hw => run_v (h3 w' hw)⟩
  case makeFunc fn first captured =>
    refine QGood.still fun ρ hρ a w w0 M hf hh => ?_
    split at h
    · rename_i f h1 h2
      have e1 : first = #[] := by cases first; simpa using h1
      have e2 : captured = #[] := by cases captured; simpa using h2
      subst e1 e2
      exact ⟨_, .func (.func f) #[] #[], h, rfl, fun w' hw => by simp [execOp, Instr.makeFunc]⟩
    · exact h.elim
  case slice t x lo hi mx =>
    refine QGood.still fun ρ hρ a w w0 M hf hh => ?_
    obtain ⟨v, sv, h1, h2, h3⟩ := slice_ok hX h hf (hf.ev x)
    exact ⟨sv, v, h3, h2, fun w' hw => run_v (h1 w')⟩
  case fieldAddr t x f =>
    refine QGood.still fun ρ hρ a w w0 M hf hh => ?_
    obtain ⟨sv, r, h1, h2, h3⟩ := field_ok hX h (hf.ev x)
    exact ⟨sv, r, h1, h2, fun w' hw => run_v (h3 w')⟩
  case indexAddr t x i =>
    refine QGood.still fun ρ hρ a w w0 M hf hh => ?_
    obtain ⟨sv, r, h1, h2, h3⟩ := idx_ok hX h (hf.ev x) (hf.ev i)
    exact ⟨sv, r, h1, h2, fun w' hw => run_v (h3 w')⟩
  case index t x i =>
    refine QGood.still fun ρ hρ a w w0 M hf hh => ?_
    obtain ⟨sv, r, h1, h2, h3⟩ := sidx_ok hX h (hf.ev x) (hf.ev i)
    exact ⟨sv, r, h1, h2, fun w' hw => run_v (h3 w')⟩
  case extract x i =>
    refine QGood.still fun ρ hρ a w w0 M hf hh => ?_
    have hc := hf.ev x
    unfold xextract at h
    split at h
    · rename_i xs e
      rw [e] at hc
      obtain ⟨vs, hv, hr⟩ := hc
      split at h
      · rename_i c hc
        obtain ⟨v, h1, h2⟩ := hr.get hc
        exact ⟨_, v, h, h2.sv, fun w' hw => by simp [execOp, Instr.extract, hv, h1]⟩
      · exact h.elim
    · exact h.elim
  case call c =>
    obtain ⟨callee, args, ts⟩ := c
    split at h
    · rename_i b hb
      simp only at hb
      subst hb
      unfold xbuiltin at h
      split at h
      · rename_i x t ha ht
        have e1 : args = #[x] := by cases args; simpa using ha
        have e2 : ts = #[t] := by cases ts; simpa using ht
        subst e1 e2
        refine QGood.still fun ρ hρ a w w0 M hf hh => ?_
        obtain ⟨z, r, g1, g2, g3⟩ := len_ok (rt := type) hX h (hf.ev x)
        exact ⟨.a z, r, g1, g2, fun w' hw => by simp [execOp, resolve, invoke, builtin, g3]⟩
      · simp [isQuiet] at hq
      · rename_i x y ha
        have e1 : args = #[x, y] := by cases args; simpa using ha
        subst e1
        split at h
        · rename_i p q hp hq
          refine QGood.still fun ρ hρ a w w0 M hf hh => ?_
          have h1 := hf.ev x
          have h2 := hf.ev y
          rw [hp] at h1
          rw [hq] at h2
          obtain ⟨z, r, g1, g2, g3⟩ := min2_ok (P := X.P) h h1 h2
          refine ⟨.a z, r, g1, g2, fun w' hw => ?_⟩
          have g4 : (Builtin.min_ ts type #[a.eval x, a.eval y]).run X.P w' = .ok r w' := g3 w'
          simp [execOp, resolve, invoke, builtin, g4]
        · exact h.elim
      · rename_i x y ha
        have e1 : args = #[x, y] := by cases args; simpa using ha
        subst e1
        split at h
        · rename_i p q hp hq
          refine QGood.still fun ρ hρ a w w0 M hf hh => ?_
          have h1 := hf.ev x
          have h2 := hf.ev y
          rw [hp] at h1
          rw [hq] at h2
          obtain ⟨z, r, g1, g2, g3⟩ := min2_ok (P := X.P) h h1 h2
          refine ⟨.a z, r, g1, g2, fun w' hw => ?_⟩
          have g4 : (Builtin.max_ ts type #[a.eval x, a.eval y]).run X.P w' = .ok r w' := g3 w'
          simp [execOp, resolve, invoke, builtin, g4]
        · exact h.elim
      · simp [isQuiet] at hq
      · rename_i x t ha ht
        have e1 : args = #[x] := by cases args; simpa using ha
        have e2 : ts = #[t] := by cases ts; simpa using ht
        subst e1 e2
        refine QGood.still fun ρ hρ a w w0 M hf hh => ?_
        obtain ⟨z, r, g1, g2, g3⟩ := cap_ok (rt := type) hX h (hf.ev x)
        exact ⟨.a z, r, g1, g2, fun w' hw => by simp [execOp, resolve, invoke, builtin, g3]⟩
      · exact h.elim
    · exact h.elim

theorem xop_ok {X : Cx} (hX : X.Ok) {o : Oper} {s : S} {K : KV} (h : xop X o s K) : Good X o s K := by
  cases hq : isQuiet o
  case true => exact (xop_quiet hX hq h).good
  obtain ⟨dst, op, type, pos, after, guard⟩ := o
  unfold xop at h
  cases op <;> simp only at h <;> first | (exact h.elim) | (simp [isQuiet] at hq; done) | skip
  case alloc t =>
    refine Good.makes fun ρ hρ a w w0 M hf hh => ?_
    obtain ⟨u, w', ρ', h1, h2⟩ := alloc_ok hX h hρ hh
    exact ⟨u, w', ρ', run_v h1, h2⟩
  case box t v =>
    refine Good.makes fun ρ hρ a w w0 M hf hh => ?_
    obtain ⟨u, w', ρ', h1, h2⟩ := box_ok (P := X.P) h hρ hh (hf.ev v)
    exact ⟨u, w', ρ', run_v h1, h2⟩
  case buildSlice t n ps =>
    refine Good.makes fun ρ hρ a w w0 M hf hh => ?_
    obtain ⟨u, w', ρ', h1, h2⟩ := buildSlice_ok hX h hρ hf hh
    exact ⟨u, w', ρ', run_v h1, h2⟩
  case store t x v =>
    intro w0 M ρ a w hs
    obtain ⟨b, off, e, w', hp', h1, h2, h3⟩ := store_ok hX h (hs.frame.ev x) (hs.frame.ev v) hs.heap
    refine ⟨.skip, w', ?_, undef, .inr ⟨rfl, rfl⟩, .a .any, s.put hp', ρ, h3, rfl, rfl, Env.le.refl ρ, hs.n, trivial, h2⟩
    simp [execOp, Instr.storeAt, e, Instr.sureAddr, h1]
  case makeSlice t l c =>
    refine Good.makes fun ρ hρ a w w0 M hf hh => ?_
    obtain ⟨u, w', ρ', h1, h2⟩ := make_ok hX h hρ hh (hf.ev l) (hf.ev c)
    exact ⟨u, w', ρ', run_v h1, h2⟩
  case call c =>
    obtain ⟨callee, args, ts⟩ := c
    split at h
    · rename_i b hb
      simp only at hb
      subst hb
      unfold xbuiltin at h
      split at h
      · simp [isQuiet] at hq
      · rename_i x y t xt ha ht
        have e1 : args = #[x, y] := by cases args; simpa using ha
        have e2 : ts = #[t, xt] := by cases ts; simpa using ht
        subst e1 e2
        split at h
        · rename_i tx htx
          cases hs : isSeq tx.d
          · rw [hs] at h
            simp only [cond_false] at h
            split at h
            · rename_i ik hik
              have hx1 := desc_int ((hX.ty htx).desc.trans hik)
              refine Good.makes fun ρ hρ a w w0 M hf hh => ?_
              obtain ⟨u, w', ρ', h1, h2⟩ := appz_ok (rt := type) hX hx1 h hρ hh (hf.ev x) (hf.ev y)
              exact ⟨u, w', ρ', by simp [execOp, resolve, invoke, builtin, h1], h2⟩
            · exact h.elim
          rw [hs] at h
          simp only [cond_true] at h
          have hxd : ∃ xd, X.P.underlying xt = some xd ∧ (xd = .string ∨ ∃ e', xd = .slice e') := by
            have ty := hX.ty htx
            cases hd : tx.d <;> rw [hd] at hs <;> simp [isSeq] at hs
            · exact ⟨_, desc_str (ty.desc.trans hd), .inl rfl⟩
            · exact ⟨_, desc_slc (ty.desc.trans hd), .inr ⟨_, rfl⟩⟩
          obtain ⟨xd, hx1, hx2⟩ := hxd
          refine Good.makes fun ρ hρ a w w0 M hf hh => ?_
          cases ho : objSrc s (s.ev y) with
          | true =>
            rw [ho] at h
            obtain ⟨u, w', ρ', h1, h2⟩ := appObj_ok (rt := type) hX hx1 hx2 h hρ hh (hf.ev x) (hf.ev y)
            exact ⟨u, w', ρ', by simp [execOp, resolve, invoke, builtin, h1], h2⟩
          | false =>
            rw [ho] at h
            obtain ⟨u, w', ρ', h1, h2⟩ := append_ok (rt := type) hX hx1 hx2 h hρ hh (hf.ev x) (hf.ev y)
            exact ⟨u, w', ρ', by simp [execOp, resolve, invoke, builtin, h1], h2⟩
        · exact h.elim
      · simp [isQuiet] at hq
      · simp [isQuiet] at hq
      · rename_i x t ha ht
        have e1 : args = #[x] := by cases args; simpa using ha
        have e2 : ts = #[t] := by cases ts; simpa using ht
        subst e1 e2
        intro w0 M ρ a w hs
        obtain ⟨w', hp', h1, h2, h3⟩ := clear_ok (rt := type) hX h hs.heap (hs.frame.ev x)
        exact ⟨.value (.tuple #[]), w', by simp [execOp, resolve, invoke, builtin, h1], .tuple #[], .inl rfl, .a .any, s.put hp', ρ, h3, rfl, rfl, Env.le.refl ρ, hs.n, trivial, h2⟩
      · simp [isQuiet] at hq
      · exact h.elim
    · exact h.elim

end
end Go.Sx
