/-
  
-/
import Derived.Test.YtfhkbihcfmbbcaaGreatStoreNoneP1
import Derived.Deep.Quiet
import Derived.Test.YtfhkbihcfmbbcaaGreatProg
namespace Go.Sx
section
def isSeq:D->Bool
 | .str=>true
 | .slc _=>true
 | _=>false
def srcLen:SV->Nat
 | .a (.slc _ _ _ m _)=>m
 | _=>1
def xapp (X:Cx) (t:Nat) (x y:SV) (s:S) (K:KV):Prop :=
 match x with
 | .a (.val v)=>absSrc s y fun s'=>pappend X t v y s' K
 | .a (.slc a b c d e)=>bif objSrc s y then (bif Nat.beq (srcLen y) 0 then xappObj X t (.a (.slc a b c d e)) y s K else absSrc s y fun s'=>xappend X t (.a (.slc a b c d e)) y s' K) else xappend X t (.a (.slc a b c d e)) y s K
 | x=>bif objSrc s y then xappObj X t x y s K else xappend X t x y s K
theorem xapp_ok {X:Cx} (hX:X.Ok) {t xt rt:Nat} {xd:TypeDesc} (hxt:X.P.underlying xt=some xd) (hxd:xd = .string\/∃ e',xd = .slice e') {x y:SV} {s:S} {K:KV} (h:xapp X t x y s K) {w0:World} {M:Nat->Prop} {ρ:Env} (hρ:ρ.n=s.nx)
 {w:World} (hh:HeapSat w0 M ρ s.hp w) {u v:Value} (hu:x.Rep ρ u) (hv:y.Rep ρ v) :
 ∃ r w' ρ',(Builtin.append_ #[t,xt] rt #[u,v]).run X.P w = .ok r w'/\ρ.le ρ'/\∃ sv s',K sv s'/\s'.nt=s.nt/\s'.fr=s.fr/\ρ'.n=s'.nx/\sv.Rep ρ' r/\HeapSat w0 M ρ' s'.hp w':=by
 unfold xapp at h;split at h
 ·obtain ⟨s1,ρ1,k1,a1,a2,a3,a4,a5⟩:=absSrc_ok h hρ hh;obtain ⟨r,w',ρ',hr,hle,sv,s2,k2,b1,b2,b3,b4,b5⟩:=pappend_ok (rt:=rt) hX hxt hxd k1 a3 a5 (A.Rep.mono a4 hu) (hv.mono a4);exact ⟨r,w',ρ',hr,a4.trans hle,sv,s2,k2,b1.trans a1,b2.trans a2,b3,b4,b5⟩
 ·cases ho:objSrc s y with
  | false=>rw [ho] at h;simp only [cond_false] at h;exact append_ok hX hxt hxd h hρ hh hu hv
  | true =>
   rw [ho] at h;simp only [cond_true] at h;cases hm:Nat.beq (srcLen y) 0 with
   | true=>rw [hm] at h;simp only [cond_true] at h;exact appObj_ok hX hxt hxd h hρ hh hu hv
   | false =>
    rw [hm] at h;simp only [cond_false] at h;obtain ⟨s1,ρ1,k1,a1,a2,a3,a4,a5⟩:=absSrc_ok h hρ hh;obtain ⟨r,w',ρ',hr,hle,sv,s2,k2,b1,b2,b3,b4,b5⟩:=append_ok (rt:=rt) hX hxt hxd k1 a3 a5 (hu.mono a4) (hv.mono a4);exact ⟨r,w',ρ',hr,a4.trans hle,sv,s2,k2,b1.trans a1,b2.trans a2,b3,b4,b5⟩
 ·cases ho:objSrc s y with
  | false=>rw [ho] at h;simp only [cond_false] at h;exact append_ok hX hxt hxd h hρ hh hu hv
  | true=>rw [ho] at h;simp only [cond_true] at h;exact appObj_ok hX hxt hxd h hρ hh hu hv
def overObj (s:S):SV->Bool
 | .a (.slc t _ _ _ _)=>match s.hp.find t with|some (_,.obj _ _)=>true|_=>false
 | .a (.sub t _ _ _ _ _)=>match s.hp.find t with|some (_,.obj _ _)=>true|_=>false
 | _=>false
def litOf (b:Bool) (x:A):A:=bif b then (match x with | .int k n=>.lit k n|x=>x) else x
theorem litOf_rep {b:Bool} {x:A} {ρ:Env} {v:Value} (h:x.Rep ρ v):(litOf b x).Rep ρ v:=by
 cases b
 ·exact h
 ·cases x<;>exact h
def xbuiltin (X:Cx) (b:Builtin) (args:List Operand) (ts:List Nat) (s:S) (K:KV):Prop :=
 match b,args,ts with
 | .len,[x],[t]=>match s.ev x with
  | .a (.val v)=>plen X t v fun r=>K (.a r) s
  | y=>xlen X t y fun r=>K (.a (litOf (overObj s y) r)) s
 | .append,[x,y],[t,xt]=>match X.ti xt with
  | some tx=>bif isSeq tx.d then xapp X t (s.ev x) (s.ev y) s K else (match tx.d with | .int _=>xappz X t (s.ev x) (s.ev y) s K|_=>False)
  | none=>False
 | .min,[x,y],_=>match s.ev x,s.ev y with
  | .a x,.a y=>xmin2 false x y fun r=>K (.a r) s
  | _,_=>False
 | .max,[x,y],_=>match s.ev x,s.ev y with
  | .a x,.a y=>xmin2 true x y fun r=>K (.a r) s
  | _,_=>False
 | .clear,[x],[t]=>xclear X t (s.ev x) s K
 | .cap,[x],[t]=>xcap X t (s.ev x) fun r=>K (.a r) s
 | .copy,[x,y],[t,_]=>xcopy X t (s.ev x) (s.ev y) s K
 | _,_,_=>False
def xun (op:UnOp) (x:SV) (s:S) (K:KV):Prop :=
 match op,x with
 | .not,.a .tt=>K (.a .ff) s
 | .not,.a .ff=>K (.a .tt) s
 | .not,.a (.bool b)=>K (.a (.bool (!b))) s
 | .neg,.a (.lit k n)=>K (.a (.lit k (k.wrap (0 - n)))) s
 | .neg,.a (.int k n)=>bif k.signed then InR k (0 - n)/\K (.a (.int k (0 - n))) s else K (.a (.int k (uw k (0 - n)))) s
 | .xor,.a (.lit k n)=>K (.a (.lit k (ibits .xor k (if k.signed=true then -1 else k.max) n))) s
 | .xor,.a (.int k n)=>K (.a (.int k (ibits .xor k (if k.signed=true then -1 else k.max) n))) s
 | _,_=>False
def xextract (x:SV) (i:Nat) (s:S) (K:KV):Prop :=
 match x with
 | .tup xs=>match xs[i]? with
  | some c=>K c.sv s
  | none=>False
 | _=>False
def xpart (X:Cx) (t:Nat) (x:SV) (f:Nat) (s:S) (K:KV):Prop :=
 match x with
 | .agg cs=>match X.P.underlying t with
  | some (.struct fs)=>match fs[f]? with
   | some g=>match X.ti g.type with
    | some ti=>bif ti.agg then K (.agg ((cs.drop g.offset).take ti.sz)) s else (match cs[g.offset]? with
     | some a=>K (.a a) s
     | none=>False)
    | none=>False
   | none=>False
  | _=>False
 | _=>False
theorem part_ok {X:Cx} (hX:X.Ok) {t:Nat} {x:SV} {f:Nat} {s:S} {K:KV} (h:xpart X t x f s K) {ρ:Env} {u:Value} (hu:x.Rep ρ u) :
 ∃ sv r,K sv s/\sv.Rep ρ r/\∀ w:World,(Instr.field t u f).run X.P w = .ok r w:=by
 unfold xpart at h;split at h
 ·rename_i cs;obtain ⟨vs,rfl,hr⟩:=hu;split at h
  ·rename_i fs he;split at h
   ·rename_i g hg;split at h
    ·rename_i ti hti;have ty:=hX.ty hti;cases ha:ti.agg
     ·rw [ha,cond_false] at h;split at h
      ·rename_i a hc;obtain ⟨v,h1,h2⟩:=hr.get hc;exact ⟨.a a,v,h,h2,fun w=>by simp [Instr.field,run_underlying he,hg,part,asAgg,run_isAgg' ty,ha,h1]⟩
      ·exact h.elim
     ·rw [ha,cond_true] at h;refine ⟨_,.agg ((vs.drop g.offset).take ti.sz).toArray,h,⟨_,rfl,(hr.drop g.offset).take ti.sz⟩,fun w=>?_⟩;simp [Instr.field,run_underlying he,hg,part,asAgg,run_isAgg' ty,ha,run_sizeOf' ty,List.extract]
    ·exact h.elim
   ·exact h.elim
  ·exact h.elim
 ·exact h.elim
def atomsOf:List SV->Option (List A)
 | []=>some []
 | .a x::r=>(atomsOf r).map (x::·)
 | _=>none
theorem atomsOf_rep {ρ:Env} {s:S} {a:Act} (h:FrameSat ρ s.fr a.tmps):∀ {l:List Operand} {xs:List A},atomsOf (l.map s.ev)=some xs->RepL ρ xs (l.map a.eval)
 | [],xs,e=>by simp [atomsOf] at e;subst e;rfl
 | o::r,xs,e=>by
  simp only [List.map_cons] at e;have ho:=h.ev o;unfold atomsOf at e;split at e
  ·rename_i e';cases e'
  ·rename_i x t e';simp only [List.cons.injEq] at e';obtain ⟨e1,rfl⟩:=e';rw [e1] at ho;simp only [Option.map_eq_some_iff] at e;obtain ⟨ys,hy,rfl⟩:=e;exact ⟨_,_,rfl,ho,atomsOf_rep h hy⟩
  ·cases e
def xop (X:Cx) (o:Oper) (s:S) (K:KV):Prop :=
 match o.op with
 | .move x=>K (s.ev x) s
 | .assign x=>K (s.ev x) s
 | .pick c a b=>match s.ev c with
  | .a .tt=>K (s.ev a) s
  | .a .ff=>K (s.ev b) s
  | .a (.bool c)=>splitB X.force c (K (s.ev a) s) (K (s.ev b) s)
  | _=>False
 | .alloc t=>xalloc X t s K
 | .box t v=>xbox t (s.ev v) s K
 | .build t ps=>xbuild X t ps.toList s K
 | .buildSlice t n ps=>xbuildSlice X t n ps.toList s K
 | .load t a=>match s.ev a with
  | .a (.val v)=>pload X t v s K
  | y=>xload X t y s K
 | .store t a v=>match s.ev a with
  | .a (.val p)=>pstore X t p (s.ev v) s K
  | y=>xstore X t y (s.ev v) s K
 | .nilCheck x=>match s.ev x with
  | .a (.ptr t r e c)=>K (.a (.ptr t r e c)) s
  | .a (.fn f)=>K (.a (.fn f)) s
  | .a (.val v)=>∃ b o,v=pv b o/\K (.a (.val (pv b o))) s
  | .clo f xs=>K (.clo f xs) s
  | _=>False
 | .binOp op t x y _=>match s.ev x,s.ev y with
  | .a (.val v),.a z=>pnil X op t v z fun r=>K (.a r) s
  | .a x,.a y=>xbinA X op t x y fun r=>K (.a r) s
  | .agg xs,.agg ys=>xbinG X op t xs ys fun r=>K (.a r) s
  | _,_=>False
 | .unOp op _ x=>xun op (s.ev x) s K
 | .convert a b x=>match s.ev x with
  | .a (.val v)=>pconv X a b v s K
  | y=>xconvS X a b y s K
 | .makeFunc fn first captured=>match fn,first.toList with
  | .func f,[]=>match captured.toList with
   | []=>K (.a (.fn f)) s
   | cs=>match atomsOf (cs.map s.ev) with
    | some xs=>K (.clo f xs) s
    | none=>False
  | _,_=>False
 | .makeSlice t l c=>xmake X t (s.ev l) (s.ev c) s K
 | .slice t x lo hi mx=>match s.ev x with
  | .a (.val v)=>pslice X t v lo hi mx s K
  | y=>xslice X t y lo hi mx s K
 | .fieldAddr t x f=>match s.ev x with
  | .a (.val v)=>pfield X t v f s K
  | y=>xfield X t y f s K
 | .indexAddr t x i=>match s.ev x with
  | .a (.val v)=>pidx X t v (s.ev i) s K
  | y=>xidx X t y (s.ev i) s K
 | .field t x f=>xpart X t (s.ev x) f s K
 | .index t x i=>xsidx X t (s.ev x) (s.ev i) s K
 | .extract x i=>xextract (s.ev x) i s K
 | .call c=>match c.callee with
  | .builtin b=>xbuiltin X b c.args.toList c.argTypes.toList s K
  | _=>False
 | _=>False
def isQuiet (o:Oper):Bool :=
 match o.op with
 | .alloc _=>false
 | .box _ _=>false
 | .buildSlice _ _ _=>false
 | .store _ _ _=>false
 | .makeSlice _ _ _=>false
 | .call c=>match c.callee with
  | .builtin .len=>true
  | .builtin .cap=>true
  | .builtin .min=>true
  | .builtin .max=>true
  | _=>false
 | _=>true
theorem Good.makes {X:Cx} {o:Oper} {s:S} {K:KV}
 (h:∀ ρ:Env,ρ.n=s.nx->∀ (a:Act) (w w0:World) (M:Nat->Prop),FrameSat ρ s.fr a.tmps->HeapSat w0 M ρ s.hp w ->
  ∃ v w' ρ',(execOp a.eval o).run X.P w = .ok (.value v) w'/\ρ.le ρ'/\∃ sv s',K sv s'/\s'.nt=s.nt/\s'.fr=s.fr/\ρ'.n=s'.nx/\sv.Rep ρ' v/\HeapSat w0 M ρ' s'.hp w'):Good X o s K:=by
 intro w0 M ρ a w hs;obtain ⟨v,w',ρ',hr,hle,sv,s',hK,h1,h2,h3,h4,h5⟩:=h ρ hs.n a w w0 M hs.frame hs.heap;exact ⟨_,w',hr,v,.inl rfl,sv,s',ρ',hK,h1,h2,hle,h3,h4,h5⟩
theorem QGood.still {X:Cx} {o:Oper} {s:S} {K:KV}
 (h:∀ ρ:Env,ρ.n=s.nx->∀ (a:Act) (w w0:World) (M:Nat->Prop),FrameSat ρ s.fr a.tmps->HeapSat w0 M ρ s.hp w ->
  ∃ sv v,K sv s/\sv.Rep ρ v/\∀ w':World,(∀ t,rtag o s=some t->∀ b,(ρ.pl t).fp b->w'.heap[b]? = w.heap[b]?)->(execOp a.eval o).run X.P w' = .ok (.value v) w'):QGood X o s K:=by
 intro w0 M ρ a w hs;obtain ⟨sv,v,h1,h2,h3⟩:=h ρ hs.n a w w0 M hs.frame hs.heap;exact ⟨v,sv,h1,h2,h3⟩
theorem run_v {P:Program} {m:Sem Value} {v:Value} {w w':World} (h:m.run P w = .ok v w'):(do Pure.pure (Next.value (<- m)):Sem Next).run P w = .ok (.value v) w':=by
 simp [h]
theorem xop_quiet {X:Cx} (hX:X.Ok) {o:Oper} {s:S} {K:KV} (hq:isQuiet o=true) (h:xop X o s K):QGood X o s K:=by
 obtain ⟨dst,op,type,pos,after,guard⟩:=o;unfold xop at h;cases op<;>simp only at h<;>first|(exact h.elim)|(simp [isQuiet] at hq;done)|skip
 case move x=>exact QGood.still fun ρ hρ a w w0 M hf hh=>⟨_,_,h,hf.ev x,fun _ _=>rfl⟩
 case assign x=>exact QGood.still fun ρ hρ a w w0 M hf hh=>⟨_,_,h,hf.ev x,fun _ _=>rfl⟩
 case pick c x y =>
  refine QGood.still fun ρ hρ a w w0 M hf hh=>?_;have hc:=hf.ev c;split at h
  ·rename_i e;rw [e] at hc;have hc':a.eval c = .bool true:=hc;exact ⟨_,_,h,hf.ev x,fun w' hw=>by simp [execOp,hc',asBool]⟩
  ·rename_i e;rw [e] at hc;have hc':a.eval c = .bool false:=hc;exact ⟨_,_,h,hf.ev y,fun w' hw=>by simp [execOp,hc',asBool]⟩
  ·rename_i b e;rw [e] at hc;have hc':a.eval c = .bool b:=hc;have h:=splitB_ok h;cases b with
   | true=>exact ⟨_,_,h.1 rfl,hf.ev x,fun w' hw=>by simp [execOp,hc',asBool]⟩
   | false=>exact ⟨_,_,h.2 rfl,hf.ev y,fun w' hw=>by simp [execOp,hc',asBool]⟩
  ·exact h.elim
 case build t ps =>
  refine QGood.still fun ρ hρ a w w0 M hf hh=>?_;obtain ⟨u,sv,h1,h2,h3⟩:=build_ok hX h hf;exact ⟨sv,u,h3,h2,fun w' hw=>run_v (h1 w')⟩
 case load t x =>
  refine QGood.still fun ρ hρ a w w0 M hf hh=>?_;split at h
  ·rename_i v hx;have hc:=hf.ev x;rw [hx] at hc;obtain ⟨b,off,e,u,sv,h1,h2,h3⟩:=pload_ok hX h hc hh;refine ⟨sv,u,h3,h2,fun w' hw=>run_v ?_⟩;have h4:=h1 w' fun t' ht'=>hw t' (by simp only [rtag,hx,vtag];exact ht');simp [Instr.loadAt,e,Instr.sureAddr,h4]
  ·obtain ⟨b,off,e,u,sv,h1,h2,h3⟩:=load_ok hX h (hf.ev x) hh;refine ⟨sv,u,h3,h2,fun w' hw=>run_v ?_⟩;have h4:=h1 w' fun t' ht'=>hw t' (vtag_of_ptag ht');simp [Instr.loadAt,e,Instr.sureAddr,h4]
 case nilCheck x =>
  refine QGood.still fun ρ hρ a w w0 M hf hh=>?_;have hc:=hf.ev x;split at h
  ·rename_i t r e c eq;rw [eq] at hc;obtain ⟨h1,h2⟩:=hc;exact ⟨_,_,h,⟨h1,h2⟩,fun w' hw=>by simp [execOp,h2]⟩
  ·rename_i f eq;rw [eq] at hc;have hc':a.eval x = .func (.func f) #[] #[]:=hc;exact ⟨_,_,h,hc',fun w' hw=>by simp [execOp,hc']⟩
  ·rename_i v eq;rw [eq] at hc;obtain ⟨b,o,rfl,h⟩:=h;obtain ⟨hc',h2⟩:=hc;exact ⟨_,_,h,⟨hc',h2⟩,fun w' hw=>by simp [execOp,hc',pv]⟩
  ·rename_i f xs eq;rw [eq] at hc;obtain ⟨vs,hc',h2⟩:=hc;exact ⟨_,_,h,⟨vs,rfl,h2⟩,fun w' hw=>by simp [execOp,hc']⟩
  ·exact h.elim
 case binOp op t x y yt =>
  refine QGood.still fun ρ hρ a w w0 M hf hh=>?_;split at h
  ·rename_i p q hp hq;have h1:=hf.ev x;have h2:=hf.ev y;rw [hp] at h1;rw [hq] at h2;obtain ⟨z,r,g1,g2,g3⟩:=pnil_ok hX h h1 h2 x y;refine ⟨.a z,r,g1,g2,fun w' hw=>run_v ?_⟩;simp [(g3 w').1,(g3 w').2]
  ·rename_i p q _ hp hq;have h1:=hf.ev x;have h2:=hf.ev y;rw [hp] at h1;rw [hq] at h2;obtain ⟨z,r,g1,g2,g3⟩:=xbinA_ok hX h h1 h2;refine ⟨.a z,r,g1,g2,fun w' hw=>run_v ?_⟩;simp [eqGuard_plain op t x y h1 (xbinA_plain h),g3]
  ·rename_i p q hp hq;have h1:=hf.ev x;have h2:=hf.ev y;rw [hp] at h1;rw [hq] at h2;obtain ⟨us,e1,h1⟩:=h1;obtain ⟨vs,e2,h2⟩:=h2;obtain ⟨z,r,g1,g2,g3⟩:=xbinG_ok h h1 h2 x y;refine ⟨.a z,r,g1,g2,fun w' hw=>run_v ?_⟩;have:=g3 w';simp only [e1,e2];simpa using this
  ·exact h.elim
 case unOp op t x =>
  refine QGood.still fun ρ hρ a w w0 M hf hh=>?_;have hc:=hf.ev x;unfold xun at h;split at h
  ·rename_i e;rw [e] at hc;have hc':a.eval x = .bool true:=hc;exact ⟨_,.bool false,h,rfl,fun w' hw=>by simp [execOp,Op.unary,hc']⟩
  ·rename_i e;rw [e] at hc;have hc':a.eval x = .bool false:=hc;exact ⟨_,.bool true,h,rfl,fun w' hw=>by simp [execOp,Op.unary,hc']⟩
  ·rename_i b e;rw [e] at hc;have hc':a.eval x = .bool b:=hc;exact ⟨_,.bool (!b),h,rfl,fun w' hw=>by simp [execOp,Op.unary,hc']⟩
  ·rename_i k n e;rw [e] at hc;obtain ⟨hc',_⟩:=hc;exact ⟨_,.int k (k.wrap (0 - n)),h,⟨rfl,InR_wrap _ _⟩,fun w' hw=>by simp [execOp,Op.unary,Op.intArith,hc']⟩
  ·rename_i k n e;rw [e] at hc;obtain ⟨hc',_⟩:=hc;cases hs:k.signed
   ·rw [hs] at h;exact ⟨_,.int k (k.wrap (0 - n)),h,⟨by rw [uw_eq],InR_uw _ _⟩,fun w' hw=>by simp [execOp,Op.unary,Op.intArith,hc']⟩
   ·rw [hs] at h;exact ⟨_,.int k (0 - n),h.2,⟨rfl,h.1⟩,fun w' hw=>by rw [<- wrap_of_InR h.1];simp [execOp,Op.unary,Op.intArith,hc']⟩
  ·rename_i k n e;rw [e] at hc;obtain ⟨hc',_⟩:=hc;exact ⟨_,.int k (ibits .xor k (if k.signed=true then -1 else k.max) n),h,⟨rfl,InR_wrap _ _⟩,fun w' hw=>by simp [execOp,Op.unary,Op.intBits,ibits,hc']⟩
  ·rename_i k n e;rw [e] at hc;obtain ⟨hc',_⟩:=hc;exact ⟨_,.int k (ibits .xor k (if k.signed=true then -1 else k.max) n),h,⟨rfl,InR_wrap _ _⟩,fun w' hw=>by simp [execOp,Op.unary,Op.intBits,ibits,hc']⟩
  ·exact h.elim
 case convert t d x =>
  refine QGood.still fun ρ hρ a w w0 M hf hh=>?_;split at h
  ·rename_i v hx;have hc:=hf.ev x;rw [hx] at hc;obtain ⟨sv,r,h1,h2,h3⟩:=pconv_ok hX h hc hh;exact ⟨sv,r,h1,h2,fun w' hw=>run_v (h3 w' fun t' ht'=>hw t' (by simp only [rtag,hx,vtag];exact ht'))⟩
  ·obtain ⟨sv,r,h1,h2,h3⟩:=convS_ok hX h hh (hf.ev x);exact ⟨sv,r,h1,h2,fun w' hw=>run_v (h3 w' fun t' ht'=>hw t' (vtag_of_ptag ht'))⟩
 case makeFunc fn first captured =>
  refine QGood.still fun ρ hρ a w w0 M hf hh=>?_;split at h
  ·rename_i f h1;have e1:first = #[]:=by cases first;simpa using h1
   subst e1;split at h
   ·rename_i h2;have e2:captured = #[]:=by cases captured;simpa using h2
    subst e2;exact ⟨_,.func (.func f) #[] #[],h,rfl,fun w' hw=>by simp [execOp,Instr.makeFunc]⟩
   ·split at h
    ·rename_i xs hxs;refine ⟨_,.func (.func f) #[] (captured.map a.eval),h,⟨captured.toList.map a.eval,by congr 1;apply Array.toList_inj.1;simp,atomsOf_rep hf hxs⟩,fun w' hw=>by simp [execOp,Instr.makeFunc]⟩
    ·exact h.elim
  ·exact h.elim
 case slice t x lo hi mx =>
  refine QGood.still fun ρ hρ a w w0 M hf hh=>?_;split at h
  ·rename_i v hx;have hc:=hf.ev x;rw [hx] at hc;obtain ⟨v,sv,h1,h2,h3⟩:=pslice_ok hX h hf hc;exact ⟨sv,v,h3,h2,fun w' hw=>run_v (h1 w')⟩
  ·obtain ⟨v,sv,h1,h2,h3⟩:=slice_ok hX h hf (hf.ev x);exact ⟨sv,v,h3,h2,fun w' hw=>run_v (h1 w')⟩
 case field t x f =>
  refine QGood.still fun ρ hρ a w w0 M hf hh=>?_;obtain ⟨sv,r,h1,h2,h3⟩:=part_ok hX h (hf.ev x);exact ⟨sv,r,h1,h2,fun w' hw=>run_v (h3 w')⟩
 case fieldAddr t x f =>
  refine QGood.still fun ρ hρ a w w0 M hf hh=>?_;split at h
  ·rename_i v hx;have hc:=hf.ev x;rw [hx] at hc;obtain ⟨sv,r,h1,h2,h3⟩:=pfield_ok hX h hc;exact ⟨sv,r,h1,h2,fun w' hw=>run_v (h3 w')⟩
  ·obtain ⟨sv,r,h1,h2,h3⟩:=field_ok hX h (hf.ev x);exact ⟨sv,r,h1,h2,fun w' hw=>run_v (h3 w')⟩
 case indexAddr t x i =>
  refine QGood.still fun ρ hρ a w w0 M hf hh=>?_;split at h
  ·rename_i v hx;have hc:=hf.ev x;rw [hx] at hc;obtain ⟨sv,r,h1,h2,h3⟩:=pidx_ok hX h hc (hf.ev i);exact ⟨sv,r,h1,h2,fun w' hw=>run_v (h3 w')⟩
  ·obtain ⟨sv,r,h1,h2,h3⟩:=idx_ok hX h (hf.ev x) (hf.ev i);exact ⟨sv,r,h1,h2,fun w' hw=>run_v (h3 w')⟩
 case index t x i =>
  refine QGood.still fun ρ hρ a w w0 M hf hh=>?_;obtain ⟨sv,r,h1,h2,h3⟩:=sidx_ok hX h (hf.ev x) (hf.ev i);exact ⟨sv,r,h1,h2,fun w' hw=>run_v (h3 w')⟩
 case extract x i =>
  refine QGood.still fun ρ hρ a w w0 M hf hh=>?_;have hc:=hf.ev x;unfold xextract at h;split at h
  ·rename_i xs e;rw [e] at hc;obtain ⟨vs,hv,hr⟩:=hc;split at h
   ·rename_i c hc;obtain ⟨v,h1,h2⟩:=hr.get hc;exact ⟨_,v,h,h2.sv,fun w' hw=>by simp [execOp,Instr.extract,hv,h1]⟩
   ·exact h.elim
  ·exact h.elim
 case call c =>
  obtain ⟨callee,args,ts⟩:=c;split at h
  ·rename_i b hb;simp only at hb;subst hb;unfold xbuiltin at h;split at h
   ·rename_i x t ha ht;have e1:args = #[x]:=by cases args;simpa using ha
    have e2:ts = #[t]:=by cases ts;simpa using ht
    subst e1 e2;refine QGood.still fun ρ hρ a w w0 M hf hh=>?_;split at h
    ·rename_i v hx;have hc:=hf.ev x;rw [hx] at hc;obtain ⟨z,r,g1,g2,g3⟩:=plen_ok (rt:=type) hX h hc;exact ⟨.a z,r,g1,g2,fun w' hw=>by simp [execOp,resolve,invoke,builtin,g3]⟩
    ·obtain ⟨z,r,g1,g2,g3⟩:=len_ok (rt:=type) hX h (hf.ev x);exact ⟨.a (litOf _ z),r,g1,litOf_rep g2,fun w' hw=>by simp [execOp,resolve,invoke,builtin,g3]⟩
   ·simp [isQuiet] at hq
   ·rename_i x y ha;have e1:args = #[x,y]:=by cases args;simpa using ha
    subst e1;split at h
    ·rename_i p q hp hq;refine QGood.still fun ρ hρ a w w0 M hf hh=>?_;have h1:=hf.ev x;have h2:=hf.ev y;rw [hp] at h1;rw [hq] at h2;obtain ⟨z,r,g1,g2,g3⟩:=min2_ok (P:=X.P) h h1 h2;refine ⟨.a z,r,g1,g2,fun w' hw=>?_⟩;have g4:(Builtin.min_ ts type #[a.eval x,a.eval y]).run X.P w' = .ok r w':=g3 w';simp [execOp,resolve,invoke,builtin,g4]
    ·exact h.elim
   ·rename_i x y ha;have e1:args = #[x,y]:=by cases args;simpa using ha
    subst e1;split at h
    ·rename_i p q hp hq;refine QGood.still fun ρ hρ a w w0 M hf hh=>?_;have h1:=hf.ev x;have h2:=hf.ev y;rw [hp] at h1;rw [hq] at h2;obtain ⟨z,r,g1,g2,g3⟩:=min2_ok (P:=X.P) h h1 h2;refine ⟨.a z,r,g1,g2,fun w' hw=>?_⟩;have g4:(Builtin.max_ ts type #[a.eval x,a.eval y]).run X.P w' = .ok r w':=g3 w';simp [execOp,resolve,invoke,builtin,g4]
    ·exact h.elim
   ·simp [isQuiet] at hq
   ·rename_i x t ha ht;have e1:args = #[x]:=by cases args;simpa using ha
    have e2:ts = #[t]:=by cases ts;simpa using ht
    subst e1 e2;refine QGood.still fun ρ hρ a w w0 M hf hh=>?_;obtain ⟨z,r,g1,g2,g3⟩:=cap_ok (rt:=type) hX h (hf.ev x);exact ⟨.a z,r,g1,g2,fun w' hw=>by simp [execOp,resolve,invoke,builtin,g3]⟩
   ·simp [isQuiet] at hq
   ·exact h.elim
  ·exact h.elim
theorem xop_ok {X:Cx} (hX:X.Ok) {o:Oper} {s:S} {K:KV} (h:xop X o s K):Good X o s K:=by
 cases hq:isQuiet o
 case true=>exact (xop_quiet hX hq h).good
 obtain ⟨dst,op,type,pos,after,guard⟩:=o;unfold xop at h;cases op<;>simp only at h<;>first|(exact h.elim)|(simp [isQuiet] at hq;done)|skip
 case alloc t =>
  refine Good.makes fun ρ hρ a w w0 M hf hh=>?_;obtain ⟨u,w',ρ',h1,h2⟩:=alloc_ok hX h hρ hh;exact ⟨u,w',ρ',run_v h1,h2⟩
 case box t v =>
  refine Good.makes fun ρ hρ a w w0 M hf hh=>?_;obtain ⟨u,w',ρ',h1,h2⟩:=box_ok (P:=X.P) h hρ hh (hf.ev v);exact ⟨u,w',ρ',run_v h1,h2⟩
 case buildSlice t n ps =>
  refine Good.makes fun ρ hρ a w w0 M hf hh=>?_;obtain ⟨u,w',ρ',h1,h2⟩:=buildSlice_ok hX h hρ hf hh;exact ⟨u,w',ρ',run_v h1,h2⟩
 case store t x v =>
  intro w0 M ρ a w hs;split at h
  ·rename_i p hx;have hc:=hs.frame.ev x;rw [hx] at hc;obtain ⟨b,off,e,w',hp',h1,h2,h3⟩:=pstore_ok hX h hc (hs.frame.ev v) hs.heap;refine ⟨.skip,w',?_,undef,.inr ⟨rfl,rfl⟩,.a .any,s.put hp',ρ,h3,rfl,rfl,Env.le.refl ρ,hs.n,trivial,h2⟩;simp [execOp,Instr.storeAt,e,Instr.sureAddr,h1]
  obtain ⟨b,off,e,w',hp',h1,h2,h3⟩:=store_ok hX h (hs.frame.ev x) (hs.frame.ev v) hs.heap;refine ⟨.skip,w',?_,undef,.inr ⟨rfl,rfl⟩,.a .any,s.put hp',ρ,h3,rfl,rfl,Env.le.refl ρ,hs.n,trivial,h2⟩;simp [execOp,Instr.storeAt,e,Instr.sureAddr,h1]
 case makeSlice t l c =>
  refine Good.makes fun ρ hρ a w w0 M hf hh=>?_;obtain ⟨u,w',ρ',h1,h2⟩:=make_ok hX h hρ hh (hf.ev l) (hf.ev c);exact ⟨u,w',ρ',run_v h1,h2⟩
 case call c =>
  obtain ⟨callee,args,ts⟩:=c;split at h
  ·rename_i b hb;simp only at hb;subst hb;unfold xbuiltin at h;split at h
   ·simp [isQuiet] at hq
   ·rename_i x y t xt ha ht;have e1:args = #[x,y]:=by cases args;simpa using ha
    have e2:ts = #[t,xt]:=by cases ts;simpa using ht
    subst e1 e2;split at h
    ·rename_i tx htx;cases hs:isSeq tx.d
     ·rw [hs] at h;simp only [cond_false] at h;split at h
      ·rename_i ik hik;have hx1:=desc_int ((hX.ty htx).desc.trans hik);refine Good.makes fun ρ hρ a w w0 M hf hh=>?_;obtain ⟨u,w',ρ',h1,h2⟩:=appz_ok (rt:=type) hX hx1 h hρ hh (hf.ev x) (hf.ev y);exact ⟨u,w',ρ',by simp [execOp,resolve,invoke,builtin,h1],h2⟩
      ·exact h.elim
     rw [hs] at h;simp only [cond_true] at h;have hxd:∃ xd,X.P.underlying xt=some xd/\(xd = .string\/∃ e',xd = .slice e'):=by
      have ty:=hX.ty htx;cases hd:tx.d<;>rw [hd] at hs<;>simp [isSeq] at hs
      ·exact ⟨_,desc_str (ty.desc.trans hd),.inl rfl⟩
      ·exact ⟨_,desc_slc (ty.desc.trans hd),.inr ⟨_,rfl⟩⟩
     obtain ⟨xd,hx1,hx2⟩:=hxd;refine Good.makes fun ρ hρ a w w0 M hf hh=>?_;obtain ⟨u,w',ρ',h1,h2⟩:=xapp_ok (rt:=type) hX hx1 hx2 h hρ hh (hf.ev x) (hf.ev y);exact ⟨u,w',ρ',by simp [execOp,resolve,invoke,builtin,h1],h2⟩
    ·exact h.elim
   ·simp [isQuiet] at hq
   ·simp [isQuiet] at hq
   ·rename_i x t ha ht;have e1:args = #[x]:=by cases args;simpa using ha
    have e2:ts = #[t]:=by cases ts;simpa using ht
    subst e1 e2;intro w0 M ρ a w hs;obtain ⟨w',hp',h1,h2,h3⟩:=clear_ok (rt:=type) hX h hs.heap (hs.frame.ev x);exact ⟨.value (.tuple #[]),w',by simp [execOp,resolve,invoke,builtin,h1],.tuple #[],.inl rfl,.a .any,s.put hp',ρ,h3,rfl,rfl,Env.le.refl ρ,hs.n,trivial,h2⟩
   ·simp [isQuiet] at hq
   ·rename_i x y t xt ha ht;have e1:args = #[x,y]:=by cases args;simpa using ha
    have e2:ts = #[t,xt]:=by cases ts;simpa using ht
    subst e1 e2;intro w0 M ρ a w hs;obtain ⟨z,r,w',hp',h1,h2,h3,h4⟩:=copy_ok (rt:=type) (xt:=xt) hX h hs.heap (hs.frame.ev x) (hs.frame.ev y);exact ⟨.value r,w',by simp [execOp,resolve,invoke,builtin,h1],r,.inl rfl,z,s.put hp',ρ,h4,rfl,rfl,Env.le.refl ρ,hs.n,h3,h2⟩
   ·exact h.elim
  ·exact h.elim
end
end Go.Sx

namespace Go.Sx
section
def RepArgs (ρ:Env):List SV->List Value->Prop
 | [],vs=>vs=[]
 | x::xs,vs=>∃ v r,vs=v::r/\x.Rep ρ v/\RepArgs ρ xs r
def CallOk (X:Cx) (f:Nat) (args:List SV) (s:S) (K:KV):Prop :=
 ∀ w0 M (ρ:Env) (w:World) vs,ρ.n=s.nx->HeapSat w0 M ρ s.hp w->RepArgs ρ args vs->Calls X.P f vs.toArray w fun e w'=>∃ v,e = .returned v/\Out w0 M ρ s w' v K
abbrev CallH:=Nat->List SV->S->KV->Prop
def HOk (X:Cx) (ch:CallH):Prop:=∀ f args s K,ch f args s K->CallOk X f args s K
structure FnOk (P:Program) (f:Nat) (fn:Func):Prop where
 at_:P.funcs[f]? = some fn
 body:fn.body.isSome=true
 name : (fn.name == "runtime.NumGoroutine") = false
structure Fx where
 X:Cx
 F:List (Nat × Func)
 I:List (Nat × List Nat)
structure Fx.Ok (G:Fx):Prop where
 cx:G.X.Ok
 fns:∀ p∈G.F,FnOk G.X.P p.1 p.2
def fnAt:List (Nat × Func)->Nat->Option Func
 | [],_=>none
 | (j,i)::r,t=>bif Nat.beq j t then some i else fnAt r t
theorem fnAt_mem:∀ {l:List (Nat × Func)} {t:Nat} {i:Func},fnAt l t=some i->(t,i)∈l
 | [],_,_,h=>by simp [fnAt] at h
 | (j,i')::r,t,i,h=>by
  simp only [fnAt] at h;by_cases hj:j=t
  ·subst hj;simp only [beq_self',cond_true,Option.some.injEq] at h;subst h;exact List.mem_cons_self
  ·simp only [beq_ne hj,cond_false] at h;exact List.mem_cons_of_mem _ (fnAt_mem h)
def keepAt:List (Nat × List Nat)->Nat->Option (List Nat)
 | [],_=>none
 | (j,i)::r,t=>bif Nat.beq j t then some i else keepAt r t
def xrun (G:Fx) (ch:CallH) (o:Oper) (s:S) (K:KV):Prop :=
 match o.op with
 | .call c=>match c.callee with
  | .value f=>match s.ev f with
   | .a (.fn g)=>match fnAt G.F g with
    | some _=>ch g (c.args.toList.map s.ev) s K
    | none=>False
   | .clo g xs=>match fnAt G.F g with
    | some _=>ch g (c.args.toList.map s.ev++xs.map SV.a) s K
    | none=>False
   | _=>False
  | .builtin _=>xop G.X o s K
  | .invoke _ _=>False
 | _=>xop G.X o s K
def xput (o:Oper) (v:SV) (s:S) (K:S->Prop):Prop :=
 match o.dst with
 | none=>K s
 | some d=>bif Nat.blt d s.nt then forceV v fun v=>K (s.set d v) else False
def xguard (X:Cx) (all:List Oper) (o:Oper) (s:S) (run skip:S->Prop):Prop :=
 mark X.dbg (match o.dst with|some d=>d|none=>99999) <| match o.guard with
 | none=>run s
 | some (j,want) =>
  match (all[j]?).bind (·.dst) with
  | some d=>match look s.fr d with
   | .a .tt=>bif want then run s else skip s
   | .a .ff=>bif want then skip s else run s
   | .a (.bool b)=>splitB X.force b (bif want then run (s.set d (.a .tt)) else skip (s.set d (.a .tt))) (bif want then skip (s.set d (.a .ff)) else run (s.set d (.a .ff)))
   | .tup []=>skip s
   | _=>False
  | none=>False
def xops (G:Fx) (ch:CallH) (all:List Oper):List Oper->S->(S->Prop)->Prop
 | [],s,K=>K s
 | o::r,s,K=>xguard G.X all o s
  (fun s=>xrun G ch o s fun v s=>xput o v s fun s=>xops G ch all r s K)
  (fun s=>xput o (.tup []) s fun s=>xops G ch all r s K)
theorem SatE.set {w0:World} {M:Nat->Prop} {ρ:Env} {s:S} {a:Act} {w:World} (h:SatE w0 M ρ s a w) {d:Nat} (hd:d<s.nt) {sv:SV} {v:Value} (hv:sv.Rep ρ v) :
 SatE w0 M ρ (s.set d sv) (a.put (some d) v) w where
 defers:=h.defers
 size:=by simpa [Act.put,S.set] using h.size
 n:=h.n
 frame:=h.frame.set (by rw [h.size];exact hd) hv
 heap:=h.heap
theorem SatE.know {w0:World} {M:Nat->Prop} {ρ:Env} {s:S} {a:Act} {w:World} (h:SatE w0 M ρ s a w) {d:Nat} {sv:SV} (hv:sv.Rep ρ (a.tmps.getD d undef)) :
 SatE w0 M ρ (s.set d sv) a w where
 defers:=h.defers
 size:=h.size
 n:=h.n
 frame:=by
  intro j;simp only [S.set,look];by_cases hj:d=j
  ·subst hj;simp only [beq_self',cond_true];exact hv
  ·simp only [beq_ne hj,cond_false];exact h.frame j
 heap:=h.heap
theorem xput_ok {o:Oper} {sv:SV} {s:S} {K:S->Prop} (h:xput o sv s K) {w0:World} {M:Nat->Prop} {ρ:Env} {a:Act} {w:World} (hs:SatE w0 M ρ s a w) {v:Value} (hv:sv.Rep ρ v) :
 ∃ s',K s'/\SatE w0 M ρ s' (a.put o.dst v) w:=by
 unfold xput at h;split at h
 ·rename_i hd;rw [hd];exact ⟨s,h,hs⟩
 ·rename_i d hd;cases hb:Nat.blt d s.nt
  ·simp [hb] at h
  ·simp only [hb,cond_true,forceV_eq] at h;rw [hd];exact ⟨_,h,hs.set (by simp [Nat.blt] at hb;omega) hv⟩
theorem RepArgs_ev {ρ:Env} {s:S} {a:Act} (h:FrameSat ρ s.fr a.tmps):∀ l:List Operand,RepArgs ρ (l.map s.ev) (l.map a.eval)
 | []=>rfl
 | x::l=>⟨a.eval x,l.map a.eval,rfl,h.ev x,RepArgs_ev h l⟩
theorem RepArgs_app {ρ:Env} {xs:List A} {us:List Value} (h:RepL ρ xs us):∀ {l:List SV} {vs:List Value},RepArgs ρ l vs->RepArgs ρ (l++xs.map SV.a) (vs++us)
 | [],vs,hl=>by
  have hl:vs=[]:=hl;subst hl
  induction xs generalizing us with
  | nil=>exact h
  | cons x xs ih =>
   obtain ⟨u,t,rfl,r1,r2⟩:=h;exact ⟨u,t,rfl,r1,ih r2⟩
 | x::l,vs,hl=>by
  obtain ⟨v,r,rfl,h1,h2⟩:=hl;exact ⟨v,r++us,rfl,h1,RepArgs_app h h2⟩
theorem xrun_wp {G:Fx} (hG:G.Ok) {ch:CallH} (hch:HOk G.X ch) {o:Oper} {s:S} {K:KV} (h:xrun G ch o s K) {w0:World} {M:Nat->Prop} {ρ:Env} {a:Act} {w:World} (hs:SatE w0 M ρ s a w)
 {next:Act->World->Prop} {Q:Exit->Act->World->Prop} (hn:∀ v w',Out w0 M ρ s w' v K->next (a.put o.dst v) w'):o.wp G.X.P a w next Q:=by
 have plain:∀ K,xop G.X o s K->(∀ v w',Out w0 M ρ s w' v K->next (a.put o.dst v) w')->o.wp G.X.P a w next Q:=by
  intro K h hn;obtain ⟨r,w',hr,v,hv,hout⟩:=xop_ok hG.cx h w0 M ρ a w hs;unfold Oper.wp;rw [hr];rcases hv with rfl | ⟨rfl,rfl⟩
  ·exact hn v w' hout
  ·exact hn _ w' hout
 unfold xrun at h;split at h
 ·rename_i c hc;split at h
  ·rename_i f hf;split at h
   ·rename_i g hg;split at h
    ·rename_i fn hfn;have hok:=hG.fns _ (fnAt_mem hfn);have hev:a.eval f = .func (.func g) #[] #[]:=by have:=hs.frame.ev f;rw [hg] at this;exact this
     have hcall:=hch _ _ _ _ h w0 M ρ w (c.args.toList.map a.eval) hs.n hs.heap (RepArgs_ev hs.frame _);have hrun:(execOp a.eval o).run G.X.P w = .ok (.enter g (c.args.map a.eval)) w:=by
      obtain ⟨callee,args,ts⟩:=c;simp only at hf;have hb:fn.body≠none:=by have:=hok.body;cases hh:fn.body<;>simp [hh] at this ⊢
      have hne : fn.name ≠ "runtime.NumGoroutine" := by have := hok.name; simpa using this
      simp [execOp,hc,hf,resolve,hev,Deferred.ofValue,invoke,callFunc,hok.at_,hne,hb]
     unfold Oper.wp;rw [hrun];show Calls G.X.P g _ w _;have e:(c.args.toList.map a.eval).toArray=c.args.map a.eval:=by apply Array.toList_inj.1;simp
     rw [e] at hcall;refine hcall.mono ?_;rintro e w' ⟨v,rfl,hout⟩;exact hn v w' hout
    ·exact h.elim
   ·rename_i g xs hg;split at h
    ·rename_i fn hfn;have hok:=hG.fns _ (fnAt_mem hfn);obtain ⟨us,hev,hrep⟩:∃ us:List Value,a.eval f = .func (.func g) #[] us.toArray/\RepL ρ xs us:=by have:=hs.frame.ev f;rw [hg] at this;exact this
     have hcall:=hch _ _ _ _ h w0 M ρ w (c.args.toList.map a.eval++us) hs.n hs.heap (RepArgs_app hrep (RepArgs_ev hs.frame _));have hrun:(execOp a.eval o).run G.X.P w = .ok (.enter g (c.args.map a.eval++us.toArray)) w:=by
      obtain ⟨callee,args,ts⟩:=c;simp only at hf;have hb:fn.body≠none:=by have:=hok.body;cases hh:fn.body<;>simp [hh] at this ⊢
      have hne : fn.name ≠ "runtime.NumGoroutine" := by have := hok.name; simpa using this
      simp [execOp,hc,hf,resolve,hev,Deferred.ofValue,invoke,callFunc,hok.at_,hne,hb]
     unfold Oper.wp;rw [hrun];show Calls G.X.P g _ w _;have e:(c.args.toList.map a.eval++us).toArray=c.args.map a.eval++us.toArray:=by apply Array.toList_inj.1;simp
     rw [e] at hcall;refine hcall.mono ?_;rintro e w' ⟨v,rfl,hout⟩;exact hn v w' hout
    ·exact h.elim
   ·exact h.elim
  ·exact plain K h hn
  ·exact h.elim
 ·exact plain K h hn
theorem xguard_ok {X:Cx} {all:List Oper} {o:Oper} {s:S} {run skip:S->Prop} (h:xguard X all o s run skip) {w0:World} {M:Nat->Prop} {ρ:Env} {a:Act} {w:World} (hs:SatE w0 M ρ s a w) :
 ∃ s',s'.nt=s.nt/\SatE w0 M ρ s' a w/\s'.hp=s.hp/\((Region.wanted o (yielded all.toArray a.tmps)=true/\run s')\/(Region.wanted o (yielded all.toArray a.tmps)=false/\skip s')):=by
 unfold xguard at h;have h:=mark_ok h;split at h
 ·rename_i hg;exact ⟨s,rfl,hs,rfl,.inl ⟨by simp [Region.wanted,hg],h⟩⟩
 ·rename_i j want hg;split at h
  ·rename_i d hd;have hy:∀ b,a.tmps.getD d undef = .bool b->d<a.tmps.size->yielded all.toArray a.tmps j=some b:=by
    intro b hb hlt;unfold yielded;have:(all.toArray[j]?).bind (·.dst)=some d:=by simpa using hd
    rw [this];have e:a.tmps[d]? = some (.bool b):=by
     rw [Array.getElem?_eq_getElem hlt];congr 1;simpa [Array.getD,hlt] using hb
    simp [e]
   have hlt:∀ b,a.tmps.getD d undef = .bool b->d<a.tmps.size:=by
    intro b hb;rcases Nat.lt_or_ge d a.tmps.size with h|h
    ·exact h
    ·simp [Array.getD,Nat.not_lt.2 h,undef] at hb
   have wn:∀ b,a.tmps.getD d undef = .bool b->Region.wanted o (yielded all.toArray a.tmps)=(b == want):=by
    intro b hb;simp [Region.wanted,hg,hy b hb (hlt b hb)]
   have hf:=hs.frame d;split at h
   ·rename_i e;rw [e] at hf;have hb:a.tmps.getD d undef = .bool true:=hf;refine ⟨s,rfl,hs,rfl,?_⟩;rw [wn true hb];cases want
    ·exact .inr ⟨rfl,h⟩
    ·exact .inl ⟨rfl,h⟩
   ·rename_i e;rw [e] at hf;have hb:a.tmps.getD d undef = .bool false:=hf;refine ⟨s,rfl,hs,rfl,?_⟩;rw [wn false hb];cases want
    ·exact .inl ⟨rfl,h⟩
    ·exact .inr ⟨rfl,h⟩
   ·rename_i b e;rw [e] at hf;have hb:a.tmps.getD d undef = .bool b:=hf;rw [wn b hb];have h:=splitB_ok h;cases b
    ·refine ⟨s.set d (.a .ff),rfl,hs.know (d:=d) (sv:=.a .ff) hb,rfl,?_⟩;have h:=h.2 rfl;cases want
     ·exact .inl ⟨rfl,h⟩
     ·exact .inr ⟨rfl,h⟩
    ·refine ⟨s.set d (.a .tt),rfl,hs.know (d:=d) (sv:=.a .tt) hb,rfl,?_⟩;have h:=h.1 rfl;cases want
     ·exact .inr ⟨rfl,h⟩
     ·exact .inl ⟨rfl,h⟩
   ·rename_i e;rw [e] at hf;obtain ⟨vs,hv,hvs⟩:=hf;have hvs:vs=[]:=hvs;subst hvs;refine ⟨s,rfl,hs,rfl,.inr ⟨?_,h⟩⟩;have hy:yielded all.toArray a.tmps j=none:=by
     unfold yielded;have:(all.toArray[j]?).bind (·.dst)=some d:=by simpa using hd
     rw [this];by_cases hlt:d<a.tmps.size
     ·have e:a.tmps[d]? = some (.tuple #[]):=by
       rw [Array.getElem?_eq_getElem hlt];congr 1;simpa [Array.getD,hlt] using hv
      simp [e]
     ·simp [Array.getElem?_eq_none (Nat.not_lt.1 hlt)]
    simp [Region.wanted,hg,hy]
   ·exact h.elim
  ·exact h.elim
theorem Out.sat {w0:World} {M:Nat->Prop} {ρ:Env} {s:S} {a:Act} {w w':World} {v:Value} {K:KV} (hs:SatE w0 M ρ s a w) (h:Out w0 M ρ s w' v K) :
 ∃ sv s' ρ',K sv s'/\ρ.le ρ'/\sv.Rep ρ' v/\SatE w0 M ρ' s' a w':=by
 obtain ⟨sv,s',ρ',h1,h2,h3,h4,h5,h6,h7⟩:=h;exact ⟨sv,s',ρ',h1,h4,h6,hs.defers,hs.size.trans h2.symm,h5,by rw [h3];exact hs.frame.mono h4,h7⟩
theorem xops_wp {G:Fx} (hG:G.Ok) {ch:CallH} (hch:HOk G.X ch) {all:List Oper} {w0:World} {M:Nat->Prop} {Q:Exit->Act->World->Prop} {K:S->Prop}:∀ (l:List Oper) (s:S) (ρ:Env) (a:Act) (w:World),xops G ch all l s K->SatE w0 M ρ s a w ->
 (∀ s' ρ' a' w',K s'->ρ.le ρ'->SatE w0 M ρ' s' a' w'->Q .normal a' w')->wpList G.X.P all.toArray Q l a w
 | [],s,ρ,a,w,h,hs,hQ=>hQ s ρ a w h (Env.le.refl ρ) hs
 | o::r,s,ρ,a,w,h,hs,hQ=>by
  simp only [xops] at h;obtain ⟨s',_,hs',_,hcase⟩:=xguard_ok h hs;unfold wpList;rcases hcase with ⟨hw,h⟩ | ⟨hw,h⟩
  ·rw [if_pos hw];refine .inl (xrun_wp hG hch h hs' fun v w' hout=>?_);obtain ⟨sv,s'',ρ',hK,hle,hv,hs''⟩:=hout.sat hs';obtain ⟨s3,h3,hs3⟩:=xput_ok hK hs'' hv;exact xops_wp hG hch r s3 ρ' _ w' h3 hs3 fun s4 ρ4 a4 w4 k hl hs4=>hQ s4 ρ4 a4 w4 k (hle.trans hl) hs4
  ·rw [if_neg (by simp [hw])];obtain ⟨s3,h3,hs3⟩:=xput_ok h hs' (v:=undef) ⟨[],rfl,rfl⟩;exact xops_wp hG hch r s3 ρ _ w h3 hs3 hQ
end
end Go.Sx

namespace Go.Sx
section
variable {P:Program} {ops:Array Oper} {Q:Exit->Act->World->Prop}
def Dep (ops:Array Oper) (i j:Nat):Prop:=∃ o,ops[j]? = some o/\∃ e∈o.after,Region.binds .any e=true/\e.on=i
inductive Anc (ops:Array Oper):Nat->Nat->Prop where
 | one {i j:Nat}:Dep ops i j->Anc ops i j
 | step {i j k:Nat}:Anc ops i j->Dep ops j k->Anc ops i k
structure DE where
 i:Nat
 o:Oper
 v:Value
 m:Sem Next
 wanted:Bool
def puts (a:Act) (D:List DE):Act:=D.foldl (fun a d=>a.put d.o.dst d.v) a
theorem puts_append (a:Act) (D D':List DE):puts a (D++D')=puts (puts a D) D':=by simp [puts]
theorem puts_cons (a:Act) (d:DE) (D:List DE):puts a (d::D)=puts (a.put d.o.dst d.v) D:=rfl
def Loud (P:Program) (m:Sem Next) (w:World) (R:Value->World->Prop):Prop :=
 (∃ v w',(m.run P w = .ok (.value v) w'\/(m.run P w = .ok .skip w'/\v=undef))/\R v w') \/
 (∃ f args,m.run P w = .ok (.enter f args) w/\Calls P f args w fun e w'=>∃ v,e = .returned v/\R v w')
theorem Loud.wp {o:Oper} {a:Act} {w:World} {R:Value->World->Prop} (h:Loud P (execOp a.eval o) w R) {next:Act->World->Prop} (hn:∀ v w',R v w'->next (a.put o.dst v) w'):o.wp P a w next Q:=by
 unfold Oper.wp;rcases h with ⟨v,w',h | ⟨h,rfl⟩,hr⟩ | ⟨f,args,h,hc⟩
 ·rw [h];exact hn _ _ hr
 ·rw [h];exact hn _ _ hr
 ·rw [h];refine hc.mono ?_;rintro e w' ⟨v,rfl,hr⟩;exact hn _ _ hr
def nrun (P:Program) (ops:Array Oper) (anc:Nat->Nat->Bool) (Q:Act->World->Prop):List (Nat × Bool)->List (Nat × Sem Next × Value)->Act->World->Prop
 | [],_,a,w=>Q a w
 | (i,loud)::r,E,a,w =>
  match ops[i]? with
  | none=>False
  | some o =>
   if Region.wanted o (yielded ops a.tmps)=true then
    if loud=true then Loud P (execOp a.eval o) w fun v w'=>(∀ e∈E,anc e.1 i=false->e.2.1.run P w' = .ok (.value e.2.2) w')/\nrun P ops anc Q r (E.filter fun e=>!anc e.1 i) (a.put o.dst v) w'
    else ∃ v,(execOp a.eval o).run P w = .ok (.value v) w/\nrun P ops anc Q r ((i,execOp a.eval o,v)::E) (a.put o.dst v) w
   else nrun P ops anc Q r E (a.put o.dst undef) w
def noSel (o:Oper):Bool:=match o.op with | .select _ _=>false|_=>true
theorem noSel_spec {o:Oper} (h:noSel o=true):∀ cs b,o.op≠.select cs b:=by
 intro cs b e;simp [noSel,e] at h
theorem evalSame {o:Oper} (hs:noSel o=true):∀ (D:List DE) (a:Act),(∀ d∈D,d.o.apart ops o=true)->execOp (puts a D).eval o=execOp a.eval o/\Region.wanted o (yielded ops (puts a D).tmps)=Region.wanted o (yielded ops a.tmps)
 | [],_,_=>⟨rfl,rfl⟩
 | d::D,a,h=>by
  obtain ⟨h1,_,_⟩:=Oper.apart_spec (h d List.mem_cons_self);obtain ⟨e1,e2⟩:=evalSame hs D (a.put d.o.dst d.v) fun x hx=>h x (List.mem_cons_of_mem _ hx);rw [puts_cons];exact ⟨e1.trans (execOp_put o (noSel_spec hs) a d.o.dst d.v h1),e2.trans (wanted_put o a d.o.dst d.v h1)⟩
theorem putOut {o:Oper} (u:Value):∀ (D:List DE) (a:Act),(∀ d∈D,d.o.apart ops o=true)->puts (a.put o.dst u) D=(puts a D).put o.dst u
 | [],_,_=>rfl
 | d::D,a,h=>by
  obtain ⟨_,h2,_⟩:=Oper.apart_spec (h d List.mem_cons_self);rw [puts_cons,puts_cons,<- putOut u D _ fun x hx=>h x (List.mem_cons_of_mem _ hx)];rw [Act.put_comm a d.v u h2]
def Promised (P:Program) (ops:Array Oper) (w:World):Act->List DE->Prop
 | _,[]=>True
 | a,d::D=>Region.wanted d.o (yielded ops a.tmps)=d.wanted/\(d.wanted=true->execOp a.eval d.o=d.m/\d.m.run P w = .ok (.value d.v) w)/\(d.wanted=false->d.v=undef)/\Promised P ops w (a.put d.o.dst d.v) D
theorem Promised.append {w:World}:∀ {D D':List DE} {a:Act},Promised P ops w a D->Promised P ops w (puts a D) D'->Promised P ops w a (D++D')
 | [],_,_,_,h=>h
 | _::_,_,_,⟨h1,h2,h3,h4⟩,h=>⟨h1,h2,h3,Promised.append h4 h⟩
theorem Promised.right {w:World}:∀ {D D':List DE} {a:Act},Promised P ops w a (D++D')->Promised P ops w (puts a D) D'
 | [],_,_,h=>h
 | d::_,D',a,⟨_,_,_,h4⟩=>by rw [puts_cons];exact Promised.right h4
theorem Promised.left {w:World}:∀ {D D':List DE} {a:Act},Promised P ops w a (D++D')->Promised P ops w a D
 | [],_,_,_=>trivial
 | _::_,_,_,⟨h1,h2,h3,h4⟩=>⟨h1,h2,h3,Promised.left h4⟩
theorem Promised.other {w:World} {o:Oper} {u:Value}:∀ {D:List DE} {a:Act},(∀ d∈D,d.o.apart ops o=true/\noSel d.o=true)->Promised P ops w a D->Promised P ops w (a.put o.dst u) D
 | [],_,_,_=>trivial
 | d::D,a,h,⟨h1,h2,h3,h4⟩=>by
  obtain ⟨hap,hs⟩:=h d List.mem_cons_self;obtain ⟨_,g2,g3⟩:=Oper.apart_spec hap;refine ⟨(wanted_put d.o a o.dst u g3).trans h1,fun hw=>?_,h3,?_⟩
  ·obtain ⟨q1,q2⟩:=h2 hw;exact ⟨(execOp_put d.o (noSel_spec hs) a o.dst u g3).trans q1,q2⟩
  ·have e:(a.put o.dst u).put d.o.dst d.v=(a.put d.o.dst d.v).put o.dst u:=Act.put_comm a u d.v fun x hx hd=>g2 x hd hx;rw [e];exact Promised.other (fun x hx=>h x (List.mem_cons_of_mem _ hx)) h4
theorem Promised.world {w w':World}:∀ {D:List DE} {a:Act},(∀ d∈D,d.wanted=true->d.m.run P w' = .ok (.value d.v) w')->Promised P ops w a D->Promised P ops w' a D
 | [],_,_,_=>trivial
 | d::_,_,h,⟨h1,h2,h3,h4⟩=>⟨h1,fun hw=>⟨(h2 hw).1,h d List.mem_cons_self hw⟩,h3,Promised.world (fun x hx=>h x (List.mem_cons_of_mem _ hx)) h4⟩
structure Stand (ops:Array Oper) (listed:Array Bool) (xs:List Nat):Prop where
 size:listed.size=ops.size
 lt:∀ x∈xs,x<ops.size
 un:∀ x∈xs,listed.getD x true=false
 nodup:xs.Nodup
 all:∀ k,k<ops.size->listed.getD k true=true\/k∈xs
 real:∀ i j,Dep ops i j->listed.getD j false=true->listed.getD i false=true
 topo:xs.Pairwise fun x y=>¬ Anc ops y x
structure Fine (ops:Array Oper) (anc:Nat->Nat->Bool):Prop where
 apart:∀ (i j:Nat) (oi oj:Oper),ops[i]? = some oi->ops[j]? = some oj->i≠j->Anc ops i j\/Anc ops j i\/oi.apart ops oj=true
 sel:∀ (i:Nat) (o:Oper),ops[i]? = some o->noSel o=true
 anc:∀ i j,j<ops.size->anc i j=true->Anc ops i j
 lt:∀ i j,Dep ops i j->i≠j/\i<ops.size
theorem apart_symm {x y:Oper} (h:x.apart ops y=true):y.apart ops x=true:=by
 obtain ⟨h1,h2,h3⟩:=Oper.apart_spec h;unfold Oper.apart;cases hx:x.dst with
 | none =>
  cases hy:y.dst with
  | none=>rfl
  | some d =>
   have:=h3 d hy
   simp_all
 | some e =>
  have g1:=h1 e hx;cases hy:y.dst with
  | none=>simp_all
  | some d =>
   have g2:=h2 e hx;have g3:=h3 d hy;rw [hy] at g2;have:e≠d:=fun h=>g2 (by rw [h])
   simp_all
theorem getD_tf {listed:Array Bool} {n i:Nat} (hs:listed.size=n) (hi:i<n) (b:Bool):listed.getD i true=b↔listed.getD i false=b:=by
 simp [Array.getD,hs,hi]
theorem ready_spec {listed:Array Bool} {i:Nat} (h:i∈Region.ready .any ops listed):i<ops.size/\listed.getD i true=false/\∀ j,Dep ops j i->listed.getD j false=true:=by
 obtain ⟨h2,o,ho,hall⟩:=mem_ready.1 h;refine ⟨(Array.getElem?_eq_some_iff.1 ho).1,h2,?_⟩;rintro j ⟨o',ho',e,he,hb,rfl⟩;rw [ho] at ho';cases ho';exact hall e he hb
theorem ready_intro {listed:Array Bool} {i:Nat} (h1:i<ops.size) (h2:listed.getD i true=false) (h3:∀ j,Dep ops j i->listed.getD j false=true):i∈Region.ready .any ops listed :=
 mem_ready.2 ⟨h2,ops[i],Array.getElem?_eq_getElem h1,fun e he hb=>h3 e.on ⟨_,Array.getElem?_eq_getElem h1,e,he,hb,rfl⟩⟩
theorem Stand.realAnc {listed:Array Bool} {xs:List Nat} (h:Stand ops listed xs) {i j:Nat} (ha:Anc ops i j) (hj:listed.getD j false=true):listed.getD i false=true:=by
 induction ha with
 | one d=>exact h.real _ _ d hj
 | step _ d ih=>exact ih (h.real _ _ d hj)
theorem ready_anc {listed:Array Bool} {xs:List Nat} (h:Stand ops listed xs) {i j:Nat} (hr:i∈Region.ready .any ops listed) (ha:Anc ops j i):listed.getD j false=true:=by
 obtain ⟨_,_,h3⟩:=ready_spec hr;cases ha with
 | one d=>exact h3 _ d
 | step ha d=>exact h.realAnc ha (h3 _ d)
theorem ready_not {listed:Array Bool} {xs:List Nat} (h:Stand ops listed xs) {i j:Nat} (hr:i∈Region.ready .any ops listed) (hj:j∈xs):¬ Anc ops j i:=by
 intro ha;have h1:=ready_anc h hr ha;have h2:=h.un j hj;rw [getD_tf h.size (h.lt j hj)] at h2;rw [h2] at h1;cases h1
theorem Stand.take {listed:Array Bool} {L R:List Nat} {i:Nat} (h:Stand ops listed (L++i::R)) (hr:i∈Region.ready .any ops listed):Stand ops (listed.setIfInBounds i true) (L++R):=by
 obtain ⟨hlt,hun,hdep⟩:=ready_spec hr;have hsub:(L++R).Sublist (L++i::R):=List.Sublist.append (List.Sublist.refl L) (List.sublist_cons_self i R);have hne:∀ x∈L++R,x≠i:=by
  intro x hx e;subst e;have:=h.nodup;rw [List.nodup_append] at this;obtain ⟨_,h2,h3⟩:=this;rcases List.mem_append.1 hx with hx|hx
  ·exact h3 x hx x List.mem_cons_self rfl
  ·exact (List.nodup_cons.1 h2).1 hx
 have setf:∀ k,listed.getD k false=true->(listed.setIfInBounds i true).getD k false=true:=by
  intro k hk;by_cases hki:i=k
  ·subst hki;simp [Array.getD,h.size,hlt]
  ·rw [getD_set_ne false hki];exact hk
 refine ⟨by simpa using h.size,fun x hx=>h.lt x (hsub.subset hx),?_,h.nodup.sublist hsub,?_,?_,h.topo.sublist hsub⟩
 ·intro x hx;rw [getD_set_ne true (Ne.symm (hne x hx))];exact h.un x (hsub.subset hx)
 ·intro k hk;by_cases hki:i=k
  ·subst hki;left;simp [Array.getD,h.size,hlt]
  ·rw [getD_set_ne true hki];rcases h.all k hk with h'|h'
   ·exact .inl h'
   ·right;simp only [List.mem_append,List.mem_cons] at h' ⊢;rcases h' with h'|h'|h'
    ·exact .inl h'
    ·exact absurd h'.symm hki
    ·exact .inr h'
 ·intro k j hd hj;apply setf;by_cases hji:i=j
  ·subst hji;exact hdep k hd
  ·rw [getD_set_ne false hji] at hj;exact h.real k j hd hj
theorem Stand.head {anc:Nat->Nat->Bool} (hf:Fine ops anc) {listed:Array Bool} {x:Nat} {xs:List Nat} (h:Stand ops listed (x::xs)):x∈Region.ready .any ops listed:=by
 refine ready_intro (h.lt x List.mem_cons_self) (h.un x List.mem_cons_self) fun j hd=>?_;obtain ⟨hne,hlt⟩:=hf.lt _ _ hd;rw [<- getD_tf h.size hlt];rcases h.all j hlt with h'|h'
 ·exact h'
 ·rcases List.mem_cons.1 h' with rfl|h'
  ·exact absurd rfl hne
  ·exact absurd (.one hd) ((List.pairwise_cons.1 h.topo).1 j h')
theorem ahead_apart {anc:Nat->Nat->Bool} (hf:Fine ops anc) {listed:Array Bool} {L R:List Nat} {i:Nat} (h:Stand ops listed (L++i::R)) (hr:i∈Region.ready .any ops listed) {j:Nat} (hj:j∈L) {oi oj:Oper} (hoi:ops[i]? = some oi) (hoj:ops[j]? = some oj):oj.apart ops oi=true:=by
 have hne:j≠i:=by
  rintro rfl;exact (List.nodup_append.1 h.nodup).2.2 j hj j List.mem_cons_self rfl
 rcases hf.apart j i oj oi hoj hoi hne with h'|h'|h'
 ·exact absurd h' (ready_not h hr (List.mem_append_left _ hj))
 ·exact absurd h' ((List.pairwise_append.1 h.topo).2.2 j hj i List.mem_cons_self)
 ·exact h'
def LoudOk (ops:Array Oper) (pi:List (Nat × Bool)):Prop:=∀ (L R:List (Nat × Bool)) (h:Nat),pi=L++(h,true)::R->∀ q∈R,Anc ops h q.1
theorem LoudOk.drop {L R:List (Nat × Bool)} (h:LoudOk ops (L++R)):LoudOk ops R:=fun L' R' x e=>h (L++L') R' x (by rw [e];simp)
theorem advance {anc:Nat->Nat->Bool} {Q:Act->World->Prop}:∀ (L R:List (Nat × Bool)) (E:List (Nat × Sem Next × Value)) (a:Act) (w:World),(∀ p∈L,p.2=false)->nrun P ops anc Q (L++R) E a w ->
 ∃ D E',D.map (·.i)=L.map (·.1)/\(∀ d∈D,ops[d.i]? = some d.o)/\Promised P ops w a D/\(∀ e∈E,e∈E')/\(∀ d∈D,d.wanted=true->(d.i,d.m,d.v)∈E')/\nrun P ops anc Q R E' (puts a D) w
 | [],R,E,a,w,_,h=>⟨[],E,rfl,fun d hd=>(by cases hd),trivial,fun e he=>he,fun d hd=>(by cases hd),h⟩
 | (i,b)::L,R,E,a,w,hq,h=>by
  have hb:b=false:=hq (i,b) List.mem_cons_self;subst hb;simp only [List.cons_append,nrun] at h;cases ho:ops[i]? with
  | none=>rw [ho] at h;exact h.elim
  | some o =>
   rw [ho] at h;simp only at h;by_cases hw:Region.wanted o (yielded ops a.tmps)=true
   ·rw [if_pos hw] at h;simp only [Bool.false_eq_true,if_false] at h;obtain ⟨v,hv,h⟩:=h;obtain ⟨D,E',e1,e2,e3,e4,e5,e6⟩:=advance L R _ _ w (fun p hp=>hq p (List.mem_cons_of_mem _ hp)) h;refine ⟨⟨i,o,v,execOp a.eval o,true⟩::D,E',by simp [e1],?_,⟨hw,fun _=>⟨rfl,hv⟩,fun h=>(by cases h),e3⟩,fun e he=>e4 e (List.mem_cons_of_mem _ he),?_,e6⟩
    ·intro d hd;rcases List.mem_cons.1 hd with rfl|hd
     ·exact ho
     ·exact e2 d hd
    ·intro d hd hw;rcases List.mem_cons.1 hd with rfl|hd
     ·exact e4 _ List.mem_cons_self
     ·exact e5 d hd hw
   ·rw [if_neg hw] at h;obtain ⟨D,E',e1,e2,e3,e4,e5,e6⟩:=advance L R _ _ w (fun p hp=>hq p (List.mem_cons_of_mem _ hp)) h;refine ⟨⟨i,o,undef,.pure .skip,false⟩::D,E',by simp [e1],?_,⟨by simpa using hw,fun h=>(by cases h),fun _=>rfl,e3⟩,e4,?_,e6⟩
    ·intro d hd;rcases List.mem_cons.1 hd with rfl|hd
     ·exact ho
     ·exact e2 d hd
    ·intro d hd hw;rcases List.mem_cons.1 hd with rfl|hd
     ·cases hw
     ·exact e5 d hd hw
theorem any_of_one {anc:Nat->Nat->Bool} (hf:Fine ops anc) {Q:Act->World->Prop} {Q':Exit->Act->World->Prop} (hQ:∀ a w,Q a w->Q' .normal a w):∀ (fuel:Nat) (D:List DE) (pi:List (Nat × Bool)) (E:List (Nat × Sem Next × Value)) (listed:Array Bool) (a:Act) (w:World),
 D.length+pi.length=fuel->Stand ops listed (D.map (·.i)++pi.map (·.1))->(∀ d∈D,ops[d.i]? = some d.o)->LoudOk ops pi->Promised P ops w a D->(∀ d∈D,d.wanted=true->(d.i,d.m,d.v)∈E) ->
 nrun P ops anc Q pi E (puts a D) w->wpAny P .any ops Q' fuel listed a w:=by
 intro fuel
 induction fuel with
 | zero =>
  intro D pi E listed a w hlen hst hop hlo hpr hE hrun;have hD:D=[]:=by cases D<;>simp_all
  have hp:pi=[]:=by cases pi<;>simp_all
  subst hD hp;refine ⟨?_,hQ _ _ hrun⟩;apply List.eq_nil_iff_forall_not_mem.2;intro i hi;obtain ⟨h1,h2,_⟩:=ready_spec hi;rcases hst.all i h1 with h|h
  ·rw [h] at h2;cases h2
  ·cases h
 | succ fuel ih =>
  intro D pi E listed a w hlen hst hop hlo hpr hE hrun;refine ⟨?_,?_⟩
  ·intro h0;cases hx:D.map (·.i)++pi.map (·.1) with
   | nil =>
    have:=congrArg List.length hx;simp only [List.length_append,List.length_map,List.length_nil] at this;omega
   | cons x xs =>
    rw [hx] at hst;have:=hst.head hf;rw [h0] at this;cases this
  ·intro i hi;obtain ⟨hilt,hiun,_⟩:=ready_spec hi;have key:∀ (D:List DE) (b:Bool) (R:List (Nat × Bool)) (E:List (Nat × Sem Next × Value)),D.length+R.length=fuel->Stand ops listed (D.map (·.i)++i::R.map (·.1))->(∀ d∈D,ops[d.i]? = some d.o)->LoudOk ops ((i,b)::R)->Promised P ops w a D->(∀ d∈D,d.wanted=true->(d.i,d.m,d.v)∈E) ->
    nrun P ops anc Q ((i,b)::R) E (puts a D) w->wpOp P ops Q' i (wpAny P .any ops Q' fuel (listed.setIfInBounds i true)) a w:=by
    intro D b R E hlen hst hop hlo hpr hE hrun;have hst':=hst.take hi;simp only [nrun] at hrun;unfold wpOp;cases ho:ops[i]? with
    | none=>rw [ho] at hrun;exact hrun.elim
    | some o =>
     rw [ho] at hrun;simp only at hrun ⊢;have hap:∀ d∈D,d.o.apart ops o=true:=fun d hd=>ahead_apart hf hst hi (List.mem_map_of_mem hd) ho (hop d hd);have hap':∀ d∈D,o.apart ops d.o=true:=fun d hd=>apart_symm (hap d hd);have hselo:=hf.sel i o ho;have hseld:∀ d∈D,d.o.apart ops o=true/\noSel d.o=true:=fun d hd=>⟨hap d hd,hf.sel d.i d.o (hop d hd)⟩
     obtain ⟨e1,e2⟩:=evalSame hselo D a hap;rw [e1,e2] at hrun;have hlo':LoudOk ops R:=LoudOk.drop (L:=[(i,b)]) hlo;by_cases hw:Region.wanted o (yielded ops a.tmps)=true
     ·rw [if_pos hw] at hrun ⊢;refine .inl ?_;cases b with
      | true =>
       simp only [if_true] at hrun;refine hrun.wp fun v w' ⟨hst2,hr⟩=>?_;rw [<- putOut v D a hap] at hr;have hna:∀ d∈D,anc d.i i=false:=fun d hd=>by
        cases hc:anc d.i i with
        | false=>rfl
        | true=>exact absurd (hf.anc _ _ hilt hc) (ready_not hst hi (List.mem_append_left _ (List.mem_map_of_mem hd)))
       refine ih D R _ _ _ w' hlen hst' hop hlo' ?_ (fun d hd hdw=>List.mem_filter.2 ⟨hE d hd hdw,by rw [hna d hd];rfl⟩) hr;refine Promised.world (fun d hd hdw=>?_) (Promised.other hseld hpr);exact hst2 (d.i,d.m,d.v) (hE d hd hdw) (hna d hd)
      | false =>
       simp only [Bool.false_eq_true,if_false] at hrun;obtain ⟨v,hv,hr⟩:=hrun;unfold Oper.wp;rw [hv];rw [<- putOut v D a hap] at hr;exact ih D R _ _ _ w hlen hst' hop hlo' (Promised.other hseld hpr) (fun d hd hdw=>List.mem_cons_of_mem _ (hE d hd hdw)) hr
     ·rw [if_neg hw] at hrun ⊢;rw [<- putOut undef D a hap] at hrun;exact ih D R E _ _ w hlen hst' hop hlo' (Promised.other hseld hpr) hE hrun
   have hmem:i∈D.map (·.i)++pi.map (·.1):=by
    rcases hst.all i hilt with h|h
    ·rw [h] at hiun;cases hiun
    ·exact h
   rcases List.mem_append.1 hmem with hm|hm
   ·obtain ⟨d,hd,hdi⟩:=List.mem_map.1 hm;obtain ⟨D1,D2,rfl⟩:=List.append_of_mem hd;have hdo:ops[i]? = some d.o:=by rw [<- hdi];exact hop d hd
    have hst2:Stand ops listed (D1.map (·.i)++i::(D2.map (·.i)++pi.map (·.1))):=by
     have e:(D1++d::D2).map (·.i)++pi.map (·.1)=D1.map (·.i)++i::(D2.map (·.i)++pi.map (·.1)):=by simp [hdi]
     rw [e] at hst;exact hst
    have hap:∀ x∈D1,x.o.apart ops d.o=true:=fun x hx=>ahead_apart hf hst2 hi (List.mem_map_of_mem hx) hdo (hop x (List.mem_append_left _ hx));have hseld:∀ x∈D1,x.o.apart ops d.o=true/\noSel x.o=true:=fun x hx=>⟨hap x hx,hf.sel x.i x.o (hop x (List.mem_append_left _ hx))⟩
    obtain ⟨e1,e2⟩:=evalSame (hf.sel i d.o hdo) D1 a hap;have hr:=Promised.right hpr;have hl:=Promised.left hpr;obtain ⟨g1,g2,g3,g4⟩:=hr;rw [e2] at g1;rw [e1] at g2;have hnew:Promised P ops w (a.put d.o.dst d.v) (D1++D2):=by
     refine Promised.append (Promised.other hseld hl) ?_;rw [putOut d.v D1 a hap];exact g4
    have hputs:puts a (D1++d::D2)=puts (a.put d.o.dst d.v) (D1++D2):=by
     rw [puts_append,puts_cons,puts_append,putOut d.v D1 a hap]
    have hst3:Stand ops (listed.setIfInBounds i true) ((D1++D2).map (·.i)++pi.map (·.1)):=by
     have:=hst2.take hi;simpa using this
    have hnext:wpAny P .any ops Q' fuel (listed.setIfInBounds i true) (a.put d.o.dst d.v) w:=by
     refine ih (D1++D2) pi E _ _ w (by simp at hlen ⊢;omega) hst3 ?_ hlo hnew ?_ (by rw [<- hputs];exact hrun)
     ·intro x hx;refine hop x ?_;simp only [List.mem_append,List.mem_cons] at hx ⊢;rcases hx with h|h
      ·exact .inl h
      ·exact .inr (.inr h)
     ·intro x hx;refine hE x ?_;simp only [List.mem_append,List.mem_cons] at hx ⊢;rcases hx with h|h
      ·exact .inl h
      ·exact .inr (.inr h)
    unfold wpOp;rw [hdo];simp only;cases hdw:d.wanted with
    | true =>
     rw [hdw] at g1;rw [if_pos g1];obtain ⟨q1,q2⟩:=g2 hdw;refine .inl ?_;unfold Oper.wp;rw [q1,q2];exact hnext
    | false =>
     rw [hdw] at g1;rw [if_neg (by simp [g1])];rw [g3 hdw] at hnext;exact hnext
   ·obtain ⟨p,hp,hpi⟩:=List.mem_map.1 hm;obtain ⟨L,R,rfl⟩:=List.append_of_mem hp;obtain ⟨i',b⟩:=p;simp only at hpi;subst hpi;have hq:∀ p∈L,p.2=false:=by
     intro p hpL;cases hb:p.2 with
     | false=>rfl
     | true =>
      obtain ⟨L1,L2,rfl⟩:=List.append_of_mem hpL;have:Anc ops p.1 i':=hlo L1 (L2++(i',b)::R) p.1 (by rw [<- hb];simp) (i',b) (by simp);exact absurd this (ready_not hst hi (List.mem_append_right _ (List.mem_map_of_mem (List.mem_append_left _ hpL))))
    obtain ⟨D',E',f1,f2,f3,f4,f5,f6⟩:=advance L ((i',b)::R) E _ w hq hrun;refine key (D++D') b R E' ?_ ?_ ?_ (LoudOk.drop hlo) (Promised.append hpr f3) ?_ ?_
    ·have:=congrArg List.length f1;simp at this hlen ⊢;omega
    ·have e:(D++D').map (·.i)++i'::R.map (·.1)=D.map (·.i)++(L++(i',b)::R).map (·.1):=by simp [f1]
     rw [e];exact hst
    ·intro d hd;rcases List.mem_append.1 hd with h|h
     ·exact hop d h
     ·exact f2 d h
    ·intro d hd hdw;rcases List.mem_append.1 hd with h|h
     ·exact f4 _ (hE d h hdw)
     ·exact f5 d h hdw
    ·rw [puts_append];exact f6
end
end Go.Sx

namespace Go.Sx
section
variable {P:Program} {ops:Array Oper}
theorem pick_head {anc:Nat->Nat->Bool} (hf:Fine ops anc) {Q:Act->World->Prop} {Q':Exit->Act->World->Prop} {fuel:Nat} {listed:Array Bool} {a:Act} {w:World} {i:Nat} (hi:i∈Region.ready .any ops listed)
 {D:List DE} {b:Bool} {R:List (Nat × Bool)} {E:List (Nat × Sem Next × Value)}
 (ih:∀ (E:List (Nat × Sem Next × Value)) (listed:Array Bool) (a:Act) (w:World),Stand ops listed (D.map (·.i)++R.map (·.1))->Promised P ops w a D->(∀ d∈D,d.wanted=true->(d.i,d.m,d.v)∈E)->nrun P ops anc Q R E (puts a D) w->wpAny P .any ops Q' fuel listed a w)
 (hst:Stand ops listed (D.map (·.i)++i::R.map (·.1))) (hop:∀ d∈D,ops[d.i]? = some d.o) (hpr:Promised P ops w a D) (hE:∀ d∈D,d.wanted=true->(d.i,d.m,d.v)∈E)
 (hrun:nrun P ops anc Q ((i,b)::R) E (puts a D) w):wpOp P ops Q' i (wpAny P .any ops Q' fuel (listed.setIfInBounds i true)) a w:=by
 obtain ⟨hilt,hiun,_⟩:=ready_spec hi;have hst':=hst.take hi;simp only [nrun] at hrun;unfold wpOp;cases ho:ops[i]? with
 | none=>rw [ho] at hrun;exact hrun.elim
 | some o =>
  rw [ho] at hrun;simp only at hrun ⊢;have hap:∀ d∈D,d.o.apart ops o=true:=fun d hd=>ahead_apart hf hst hi (List.mem_map_of_mem hd) ho (hop d hd);have hap':∀ d∈D,o.apart ops d.o=true:=fun d hd=>apart_symm (hap d hd);have hselo:=hf.sel i o ho;have hseld:∀ d∈D,d.o.apart ops o=true/\noSel d.o=true:=fun d hd=>⟨hap d hd,hf.sel d.i d.o (hop d hd)⟩
  obtain ⟨e1,e2⟩:=evalSame hselo D a hap;rw [e1,e2] at hrun;by_cases hw:Region.wanted o (yielded ops a.tmps)=true
  ·rw [if_pos hw] at hrun ⊢;refine .inl ?_;cases b with
   | true =>
    simp only [if_true] at hrun;refine hrun.wp fun v w' ⟨hst2,hr⟩=>?_;rw [<- putOut v D a hap] at hr;have hna:∀ d∈D,anc d.i i=false:=fun d hd=>by
     cases hc:anc d.i i with
     | false=>rfl
     | true=>exact absurd (hf.anc _ _ hilt hc) (ready_not hst hi (List.mem_append_left _ (List.mem_map_of_mem hd)))
    refine ih _ _ _ w' hst' ?_ (fun d hd hdw=>List.mem_filter.2 ⟨hE d hd hdw,by rw [hna d hd];rfl⟩) hr;refine Promised.world (fun d hd hdw=>?_) (Promised.other hseld hpr);exact hst2 (d.i,d.m,d.v) (hE d hd hdw) (hna d hd)
   | false =>
    simp only [Bool.false_eq_true,if_false] at hrun;obtain ⟨v,hv,hr⟩:=hrun;unfold Oper.wp;rw [hv];rw [<- putOut v D a hap] at hr;exact ih _ _ _ w hst' (Promised.other hseld hpr) (fun d hd hdw=>List.mem_cons_of_mem _ (hE d hd hdw)) hr
  ·rw [if_neg hw] at hrun ⊢;rw [<- putOut undef D a hap] at hrun;exact ih E _ _ w hst' (Promised.other hseld hpr) hE hrun
theorem pick_quiet {anc:Nat->Nat->Bool} (hf:Fine ops anc) {Q':Exit->Act->World->Prop} {fuel:Nat} {listed:Array Bool} {a:Act} {w:World} {i:Nat} (hi:i∈Region.ready .any ops listed)
 {D:List DE} {X:List Nat} {E:List (Nat × Sem Next × Value)} {C:List (Nat × Sem Next × Value)->Act->Prop}
 (ih:∀ (E:List (Nat × Sem Next × Value)) (a:Act),Promised P ops w a D->(∀ d∈D,d.wanted=true->(d.i,d.m,d.v)∈E)->C E (puts a D)->wpAny P .any ops Q' fuel (listed.setIfInBounds i true) a w)
 (hst:Stand ops listed (D.map (·.i)++i::X)) (hop:∀ d∈D,ops[d.i]? = some d.o) (hpr:Promised P ops w a D) (hE:∀ d∈D,d.wanted=true->(d.i,d.m,d.v)∈E) {o:Oper} (ho:ops[i]? = some o)
 (hrun:if Region.wanted o (yielded ops (puts a D).tmps)=true then ∃ v,(execOp (puts a D).eval o).run P w = .ok (.value v) w/\C ((i,execOp (puts a D).eval o,v)::E) ((puts a D).put o.dst v) else C E ((puts a D).put o.dst undef)) :
 wpOp P ops Q' i (wpAny P .any ops Q' fuel (listed.setIfInBounds i true)) a w:=by
 unfold wpOp;rw [ho];simp only;have hap:∀ d∈D,d.o.apart ops o=true:=fun d hd=>ahead_apart hf hst hi (List.mem_map_of_mem hd) ho (hop d hd);have hselo:=hf.sel i o ho;have hseld:∀ d∈D,d.o.apart ops o=true/\noSel d.o=true:=fun d hd=>⟨hap d hd,hf.sel d.i d.o (hop d hd)⟩
 obtain ⟨e1,e2⟩:=evalSame hselo D a hap;rw [e1,e2] at hrun;by_cases hw:Region.wanted o (yielded ops a.tmps)=true
 ·rw [if_pos hw] at hrun ⊢;refine .inl ?_;obtain ⟨v,hv,hr⟩:=hrun;unfold Oper.wp;rw [hv];rw [<- putOut v D a hap] at hr;exact ih _ _ (Promised.other hseld hpr) (fun d hd hdw=>List.mem_cons_of_mem _ (hE d hd hdw)) hr
 ·rw [if_neg hw] at hrun ⊢;rw [<- putOut undef D a hap] at hrun;exact ih E _ (Promised.other hseld hpr) hE hrun
theorem pick_promised {anc:Nat->Nat->Bool} (hf:Fine ops anc) {Q':Exit->Act->World->Prop} {fuel:Nat} {listed:Array Bool} {a:Act} {w:World} {i:Nat} (hi:i∈Region.ready .any ops listed)
 {D:List DE} {X:List Nat} {d:DE} (hd:d∈D) (hdi:d.i=i) (hst:Stand ops listed (D.map (·.i)++X)) (hop:∀ d∈D,ops[d.i]? = some d.o) (hpr:Promised P ops w a D)
 (next:∀ (D1 D2:List DE) (a':Act),D=D1++d::D2->Promised P ops w a' (D1++D2)->puts a D=puts a' (D1++D2)->wpAny P .any ops Q' fuel (listed.setIfInBounds i true) a' w) :
 wpOp P ops Q' i (wpAny P .any ops Q' fuel (listed.setIfInBounds i true)) a w:=by
 obtain ⟨D1,D2,rfl⟩:=List.append_of_mem hd;have hdo:ops[i]? = some d.o:=by rw [<- hdi];exact hop d hd
 have hst2:Stand ops listed (D1.map (·.i)++i::(D2.map (·.i)++X)):=by
  have e:(D1++d::D2).map (·.i)++X=D1.map (·.i)++i::(D2.map (·.i)++X):=by simp [hdi]
  rw [e] at hst;exact hst
 have hap:∀ x∈D1,x.o.apart ops d.o=true:=fun x hx=>ahead_apart hf hst2 hi (List.mem_map_of_mem hx) hdo (hop x (List.mem_append_left _ hx));have hseld:∀ x∈D1,x.o.apart ops d.o=true/\noSel x.o=true:=fun x hx=>⟨hap x hx,hf.sel x.i x.o (hop x (List.mem_append_left _ hx))⟩
 obtain ⟨e1,e2⟩:=evalSame (hf.sel i d.o hdo) D1 a hap;have hr:=Promised.right hpr;have hl:=Promised.left hpr;obtain ⟨g1,g2,g3,g4⟩:=hr;rw [e2] at g1;rw [e1] at g2;have hnew:Promised P ops w (a.put d.o.dst d.v) (D1++D2):=by
  refine Promised.append (Promised.other hseld hl) ?_;rw [putOut d.v D1 a hap];exact g4
 have hputs:puts a (D1++d::D2)=puts (a.put d.o.dst d.v) (D1++D2):=by
  rw [puts_append,puts_cons,puts_append,putOut d.v D1 a hap]
 have hnext:wpAny P .any ops Q' fuel (listed.setIfInBounds i true) (a.put d.o.dst d.v) w:=next D1 D2 _ rfl hnew hputs
 unfold wpOp;rw [hdo];simp only;cases hdw:d.wanted with
 | true =>
  rw [hdw] at g1;rw [if_pos g1];obtain ⟨q1,q2⟩:=g2 hdw;refine .inl ?_;unfold Oper.wp;rw [q1,q2];exact hnext
 | false =>
  rw [hdw] at g1;rw [if_neg (by simp [g1])];rw [g3 hdw] at hnext;exact hnext
def nrunL (P:Program) (ops:Array Oper) (K:List (Nat × Sem Next × Value)->Act->World->Prop):List Nat->List (Nat × Sem Next × Value)->Act->World->Prop
 | [],E,a,w=>K E a w
 | i::r,E,a,w =>
  match ops[i]? with
  | none=>False
  | some o =>
   if Region.wanted o (yielded ops a.tmps)=true then ∃ v,(execOp a.eval o).run P w = .ok (.value v) w/\nrunL P ops K r ((i,execOp a.eval o,v)::E) (a.put o.dst v) w
   else nrunL P ops K r E (a.put o.dst undef) w
theorem nrunL_both {anc:Nat->Nat->Bool} {Q:Act->World->Prop} {R1 R2:List (Nat × Bool)}:∀ (L:List Nat) (E:List (Nat × Sem Next × Value)) (a:Act) (w:World),
 nrun P ops anc Q (L.map (fun i=>(i,false))++R1) E a w->nrun P ops anc Q (L.map (fun i=>(i,false))++R2) E a w->nrunL P ops (fun E a w=>nrun P ops anc Q R1 E a w/\nrun P ops anc Q R2 E a w) L E a w
 | [],_,_,_,h1,h2=>⟨h1,h2⟩
 | i::L,E,a,w,h1,h2=>by
  simp only [List.map_cons,List.cons_append,nrun,nrunL] at h1 h2 ⊢;cases ho:ops[i]? with
  | none=>rw [ho] at h1;exact h1.elim
  | some o =>
   rw [ho] at h1 h2;simp only at h1 h2 ⊢;by_cases hw:Region.wanted o (yielded ops a.tmps)=true
   ·rw [if_pos hw] at h1 h2 ⊢;simp only [Bool.false_eq_true,if_false] at h1 h2;obtain ⟨v,hv,h1⟩:=h1;obtain ⟨v',hv',h2⟩:=h2;rw [hv] at hv';cases hv';exact ⟨v,hv,nrunL_both L _ _ w h1 h2⟩
   ·rw [if_neg hw] at h1 h2 ⊢;exact nrunL_both L _ _ w h1 h2
theorem advanceL {K:List (Nat × Sem Next × Value)->Act->World->Prop}:∀ (L R:List Nat) (E:List (Nat × Sem Next × Value)) (a:Act) (w:World),nrunL P ops K (L++R) E a w ->
 ∃ D E',D.map (·.i)=L/\(∀ d∈D,ops[d.i]? = some d.o)/\Promised P ops w a D/\(∀ e∈E,e∈E')/\(∀ d∈D,d.wanted=true->(d.i,d.m,d.v)∈E')/\nrunL P ops K R E' (puts a D) w
 | [],R,E,a,w,h=>⟨[],E,rfl,fun d hd=>(by cases hd),trivial,fun e he=>he,fun d hd=>(by cases hd),h⟩
 | i::L,R,E,a,w,h=>by
  simp only [List.cons_append,nrunL] at h;cases ho:ops[i]? with
  | none=>rw [ho] at h;exact h.elim
  | some o =>
   rw [ho] at h;simp only at h;by_cases hw:Region.wanted o (yielded ops a.tmps)=true
   ·rw [if_pos hw] at h;obtain ⟨v,hv,h⟩:=h;obtain ⟨D,E',e1,e2,e3,e4,e5,e6⟩:=advanceL L R _ _ w h;refine ⟨⟨i,o,v,execOp a.eval o,true⟩::D,E',by simp [e1],?_,⟨hw,fun _=>⟨rfl,hv⟩,fun h=>(by cases h),e3⟩,fun e he=>e4 e (List.mem_cons_of_mem _ he),?_,e6⟩
    ·intro d hd;rcases List.mem_cons.1 hd with rfl|hd
     ·exact ho
     ·exact e2 d hd
    ·intro d hd hw;rcases List.mem_cons.1 hd with rfl|hd
     ·exact e4 _ List.mem_cons_self
     ·exact e5 d hd hw
   ·rw [if_neg hw] at h;obtain ⟨D,E',e1,e2,e3,e4,e5,e6⟩:=advanceL L R _ _ w h;refine ⟨⟨i,o,undef,.pure .skip,false⟩::D,E',by simp [e1],?_,⟨by simpa using hw,fun h=>(by cases h),fun _=>rfl,e3⟩,e4,?_,e6⟩
    ·intro d hd;rcases List.mem_cons.1 hd with rfl|hd
     ·exact ho
     ·exact e2 d hd
    ·intro d hd hw;rcases List.mem_cons.1 hd with rfl|hd
     ·cases hw
     ·exact e5 d hd hw
theorem any_of_two {anc:Nat->Nat->Bool} (hf:Fine ops anc) {Q:Act->World->Prop} {Q':Exit->Act->World->Prop} (hQ:∀ a w,Q a w->Q' .normal a w) {x y:Nat} {R:List (Nat × Bool)} (hR:LoudOk ops R) (hx:∀ q∈R,Anc ops x q.1) (hy:∀ q∈R,Anc ops y q.1) :
 ∀ (fuel:Nat) (D:List DE) (L:List Nat) (E:List (Nat × Sem Next × Value)) (listed:Array Bool) (a:Act) (w:World),
 D.length+(L.length+2+R.length)=fuel->Stand ops listed (D.map (·.i)++(L++x::y::R.map (·.1)))->Stand ops listed (D.map (·.i)++(L++y::x::R.map (·.1)))->(∀ d∈D,ops[d.i]? = some d.o)->Promised P ops w a D->(∀ d∈D,d.wanted=true->(d.i,d.m,d.v)∈E) ->
 nrunL P ops (fun E a w=>nrun P ops anc Q ((x,true)::(y,true)::R) E a w/\nrun P ops anc Q ((y,true)::(x,true)::R) E a w) L E (puts a D) w->wpAny P .any ops Q' fuel listed a w:=by
 have lo1:∀ z,(∀ q∈R,Anc ops z q.1)->LoudOk ops ((z,true)::R):=by
  intro z hz L' R' h e q hq;cases L' with
  | nil=>simp at e;obtain ⟨rfl,rfl⟩:=e;exact hz q hq
  | cons p L'=>simp at e;exact hR L' R' h e.2 q hq
 intro fuel
 induction fuel with
 | zero=>intro D L E listed a w hlen;omega
 | succ fuel ih =>
  intro D L E listed a w hlen hst1 hst2 hop hpr hE hrun;refine ⟨?_,?_⟩
  ·intro h0;cases hX:D.map (·.i)++(L++x::y::R.map (·.1)) with
   | nil=>have:=congrArg List.length hX;simp at this
   | cons z zs =>
    rw [hX] at hst1;have:=hst1.head hf;rw [h0] at this;cases this
  ·intro i hi;obtain ⟨hilt,hiun,_⟩:=ready_spec hi;have hmem:i∈D.map (·.i)++(L++x::y::R.map (·.1)):=by
    rcases hst1.all i hilt with h|h
    ·rw [h] at hiun;cases hiun
    ·exact h
   have two:∀ (x y:Nat),i=x->(∀ q∈R,Anc ops y q.1)->Stand ops listed (D.map (·.i)++(L++x::y::R.map (·.1)))->nrunL P ops (fun E a w=>nrun P ops anc Q ((x,true)::(y,true)::R) E a w) L E (puts a D) w ->
    D.length+(L.length+2+R.length)=fuel+1->wpOp P ops Q' i (wpAny P .any ops Q' fuel (listed.setIfInBounds i true)) a w:=by
    rintro x y rfl hy hst hrun hlen;obtain ⟨D',E',f1,f2,f3,f4,f5,f6⟩:=advanceL L [] E _ w (by simpa using hrun);refine pick_head (Q:=Q) (D:=D++D') (b:=true) (R:=(y,true)::R) (E:=E') hf hi ?_ ?_ ?_ (Promised.append hpr f3) ?_ ?_
    ·intro E2 listed2 a2 w2 h1 h2 h3 h4;refine any_of_one hf hQ fuel (D++D') ((y,true)::R) E2 listed2 a2 w2 ?_ h1 ?_ (lo1 y hy) h2 h3 h4
     ·have:=congrArg List.length f1;simp at this hlen ⊢;omega
     ·intro d hd;rcases List.mem_append.1 hd with h|h
      ·exact hop d h
      ·exact f2 d h
    ·have e:(D++D').map (·.i)++i::((y,true)::R).map (·.1)=D.map (·.i)++(L++i::y::R.map (·.1)):=by simp [f1]
     rw [e];exact hst
    ·intro d hd;rcases List.mem_append.1 hd with h|h
     ·exact hop d h
     ·exact f2 d h
    ·intro d hd hdw;rcases List.mem_append.1 hd with h|h
     ·exact f4 _ (hE d h hdw)
     ·exact f5 d h hdw
    ·rw [puts_append];exact f6
   have mono:∀ {K K':List (Nat × Sem Next × Value)->Act->World->Prop},(∀ E a w,K E a w->K' E a w)->∀ (L:List Nat) (E:List (Nat × Sem Next × Value)) (a:Act),nrunL P ops K L E a w->nrunL P ops K' L E a w:=by
    intro K K' hk L
    induction L with
    | nil=>intro E a h;exact hk _ _ _ h
    | cons j L ihL =>
     intro E a h;simp only [nrunL] at h ⊢;cases ho:ops[j]? with
     | none=>rw [ho] at h;exact h.elim
     | some o =>
      rw [ho] at h;simp only at h ⊢;by_cases hw:Region.wanted o (yielded ops a.tmps)=true
      ·rw [if_pos hw] at h ⊢;obtain ⟨v,hv,h⟩:=h;exact ⟨v,hv,ihL _ _ h⟩
      ·rw [if_neg hw] at h ⊢;exact ihL _ _ h
   rcases List.mem_append.1 hmem with hm|hm
   ·obtain ⟨d,hd,hdi⟩:=List.mem_map.1 hm;refine pick_promised hf hi hd hdi hst1 hop hpr ?_;rintro D1 D2 a' rfl h3 h4;have sub:∀ z∈D1++D2,z∈D1++d::D2:=by
     intro z hz;simp only [List.mem_append,List.mem_cons] at hz ⊢;rcases hz with h|h
     ·exact .inl h
     ·exact .inr (.inr h)
    have st:∀ X:List Nat,Stand ops listed ((D1++d::D2).map (·.i)++X)->Stand ops (listed.setIfInBounds i true) ((D1++D2).map (·.i)++X):=by
     intro X h;have e:(D1++d::D2).map (·.i)++X=D1.map (·.i)++i::(D2.map (·.i)++X):=by simp [hdi]
     rw [e] at h;simpa using h.take hi
    refine ih (D1++D2) L E _ a' w (by simp at hlen ⊢;omega) (st _ hst1) (st _ hst2) (fun d hd=>hop d (sub d hd)) h3 (fun d hd=>hE d (sub d hd)) (by rw [<- h4];exact hrun)
   ·rcases List.mem_append.1 hm with hm|hm
    ·obtain ⟨L1,L2,rfl⟩:=List.append_of_mem hm;obtain ⟨D',E',f1,f2,f3,f4,f5,f6⟩:=advanceL L1 (i::L2) E _ w hrun;simp only [nrunL] at f6;cases ho:ops[i]? with
     | none=>rw [ho] at f6;exact f6.elim
     | some o =>
      rw [ho] at f6;simp only at f6;rw [<- puts_append] at f6;have hop':∀ d∈D++D',ops[d.i]? = some d.o:=by
       intro d hd;rcases List.mem_append.1 hd with h|h
       ·exact hop d h
       ·exact f2 d h
      have st:∀ X:List Nat,Stand ops listed (D.map (·.i)++((L1++i::L2)++X))->Stand ops listed ((D++D').map (·.i)++i::(L2++X)):=by
       intro X h;have e:(D++D').map (·.i)++i::(L2++X)=D.map (·.i)++((L1++i::L2)++X):=by simp [f1]
       rw [e];exact h
      refine pick_quiet (D:=D++D') (X:=L2++x::y::R.map (·.1)) (E:=E') (C:=fun E a=>nrunL P ops (fun E a w=>nrun P ops anc Q ((x,true)::(y,true)::R) E a w/\nrun P ops anc Q ((y,true)::(x,true)::R) E a w) L2 E a w) hf hi ?_ (st _ hst1) hop' (Promised.append hpr f3) ?_ ho f6
      ·intro E2 a2 g1 g2 g3;refine ih (D++D') L2 E2 _ a2 w ?_ ((st _ hst1).take hi) ((st _ hst2).take hi) hop' g1 g2 g3;have:=congrArg List.length f1;simp at this hlen ⊢;omega
      ·intro d hd hdw;rcases List.mem_append.1 hd with h|h
       ·exact f4 _ (hE d h hdw)
       ·exact f5 d h hdw
    ·rcases List.mem_cons.1 hm with rfl|hm
     ·exact two i y rfl hy hst1 (mono (fun _ _ _ h=>h.1) L E _ hrun) hlen
     ·rcases List.mem_cons.1 hm with rfl|hm
      ·exact two i x rfl hx hst2 (mono (fun _ _ _ h=>h.2) L E _ hrun) hlen
      ·obtain ⟨q,hq,rfl⟩:=List.mem_map.1 hm;exact absurd (hx q hq) (ready_not hst1 hi (by simp))
inductive RT where
 | one (pi:List (Nat × Bool))
 | two (L:List Nat) (x:Nat) (tx:RT) (y:Nat) (ty:RT)
def RT.len:RT->Nat
 | .one pi=>pi.length
 | .two L _ tx _ _=>L.length+1+tx.len
def RT.lins:RT->List (List Nat)
 | .one pi=>[pi.map (·.1)]
 | .two L x tx y ty=>(tx.lins.map fun l=>L++x::l)++ty.lins.map fun l=>L++y::l
theorem RT.lins_ne:∀ T:RT,∃ l,l∈T.lins
 | .one pi=>⟨_,List.mem_singleton.2 rfl⟩
 | .two L x tx y ty=>by
  obtain ⟨l,h⟩:=RT.lins_ne tx;exact ⟨L++x::l,List.mem_append_left _ (List.mem_map.2 ⟨l,h,rfl⟩)⟩
def RT.Ok (ops:Array Oper):RT->Prop
 | .one pi=>LoudOk ops pi
 | .two _ x tx y ty=>(tx.Ok ops/\ty.Ok ops)/\tx.len=ty.len/\(∀ l∈tx.lins,∀ z∈l,z=y\/Anc ops x z\/Anc ops y z)/\∀ l∈ty.lins,∀ z∈l,z=x\/Anc ops x z\/Anc ops y z
def nstep (P:Program) (ops:Array Oper) (anc:Nat->Nat->Bool) (x:Nat) (K:List (Nat × Sem Next × Value)->Act->World->Prop) (E:List (Nat × Sem Next × Value)) (a:Act) (w:World):Prop :=
 match ops[x]? with
 | none=>False
 | some o =>
  if Region.wanted o (yielded ops a.tmps)=true then Loud P (execOp a.eval o) w fun v w'=>(∀ e∈E,anc e.1 x=false->e.2.1.run P w' = .ok (.value e.2.2) w')/\K (E.filter fun e=>!anc e.1 x) (a.put o.dst v) w'
  else K E (a.put o.dst undef) w
def nrunT (P:Program) (ops:Array Oper) (anc:Nat->Nat->Bool) (Q:Act->World->Prop):RT->List (Nat × Sem Next × Value)->Act->World->Prop
 | .one pi,E,a,w=>nrun P ops anc Q pi E a w
 | .two L x tx y ty,E,a,w=>nrunL P ops (fun E a w=>nstep P ops anc x (nrunT P ops anc Q tx) E a w/\nstep P ops anc y (nrunT P ops anc Q ty) E a w) L E a w
theorem pick_step {anc:Nat->Nat->Bool} (hf:Fine ops anc) {Q':Exit->Act->World->Prop} {fuel:Nat} {listed:Array Bool} {a:Act} {w:World} {i:Nat} (hi:i∈Region.ready .any ops listed)
 {D:List DE} {X:List Nat} {E:List (Nat × Sem Next × Value)} {K:List (Nat × Sem Next × Value)->Act->World->Prop}
 (ih:∀ (E:List (Nat × Sem Next × Value)) (a:Act) (w:World),(∀ d∈D,d.wanted=true->(d.i,d.m,d.v)∈E)->Promised P ops w a D->K E (puts a D) w->wpAny P .any ops Q' fuel (listed.setIfInBounds i true) a w)
 (hst:Stand ops listed (D.map (·.i)++i::X)) (hop:∀ d∈D,ops[d.i]? = some d.o) (hpr:Promised P ops w a D) (hE:∀ d∈D,d.wanted=true->(d.i,d.m,d.v)∈E)
 (hrun:nstep P ops anc i K E (puts a D) w):wpOp P ops Q' i (wpAny P .any ops Q' fuel (listed.setIfInBounds i true)) a w:=by
 obtain ⟨hilt,hiun,_⟩:=ready_spec hi;unfold nstep at hrun;unfold wpOp;cases ho:ops[i]? with
 | none=>rw [ho] at hrun;exact hrun.elim
 | some o =>
  rw [ho] at hrun;simp only at hrun ⊢;have hap:∀ d∈D,d.o.apart ops o=true:=fun d hd=>ahead_apart hf hst hi (List.mem_map_of_mem hd) ho (hop d hd);have hselo:=hf.sel i o ho;have hseld:∀ d∈D,d.o.apart ops o=true/\noSel d.o=true:=fun d hd=>⟨hap d hd,hf.sel d.i d.o (hop d hd)⟩
  obtain ⟨e1,e2⟩:=evalSame hselo D a hap;rw [e1,e2] at hrun;by_cases hw:Region.wanted o (yielded ops a.tmps)=true
  ·rw [if_pos hw] at hrun ⊢;refine .inl ?_;refine hrun.wp fun v w' ⟨hst2,hr⟩=>?_;rw [<- putOut v D a hap] at hr;have hna:∀ d∈D,anc d.i i=false:=fun d hd=>by
    cases hc:anc d.i i with
    | false=>rfl
    | true=>exact absurd (hf.anc _ _ hilt hc) (ready_not hst hi (List.mem_append_left _ (List.mem_map_of_mem hd)))
   refine ih _ _ w' (fun d hd hdw=>List.mem_filter.2 ⟨hE d hd hdw,by rw [hna d hd];rfl⟩) ?_ hr;refine Promised.world (fun d hd hdw=>?_) (Promised.other hseld hpr);exact hst2 (d.i,d.m,d.v) (hE d hd hdw) (hna d hd)
  ·rw [if_neg hw] at hrun ⊢;rw [<- putOut undef D a hap] at hrun;exact ih _ _ w hE (Promised.other hseld hpr) hrun
theorem nrunL_mono {K K':List (Nat × Sem Next × Value)->Act->World->Prop} (hk:∀ E a w,K E a w->K' E a w):∀ (L:List Nat) (E:List (Nat × Sem Next × Value)) (a:Act) (w:World),nrunL P ops K L E a w->nrunL P ops K' L E a w
 | [],_,_,_,h=>hk _ _ _ h
 | j::L,E,a,w,h=>by
  simp only [nrunL] at h ⊢;cases ho:ops[j]? with
  | none=>rw [ho] at h;exact h.elim
  | some o =>
   rw [ho] at h;simp only at h ⊢;by_cases hw:Region.wanted o (yielded ops a.tmps)=true
   ·rw [if_pos hw] at h ⊢;obtain ⟨v,hv,h⟩:=h;exact ⟨v,hv,nrunL_mono hk L _ _ w h⟩
   ·rw [if_neg hw] at h ⊢;exact nrunL_mono hk L _ _ w h
theorem any_of_tree {anc:Nat->Nat->Bool} (hf:Fine ops anc) {Q:Act->World->Prop} {Q':Exit->Act->World->Prop} (hQ:∀ a w,Q a w->Q' .normal a w) :
 ∀ (fuel:Nat) (D:List DE) (T:RT) (E:List (Nat × Sem Next × Value)) (listed:Array Bool) (a:Act) (w:World),
 D.length+T.len=fuel->(∀ l∈T.lins,Stand ops listed (D.map (·.i)++l))->T.Ok ops->(∀ d∈D,ops[d.i]? = some d.o)->Promised P ops w a D->(∀ d∈D,d.wanted=true->(d.i,d.m,d.v)∈E) ->
 nrunT P ops anc Q T E (puts a D) w->wpAny P .any ops Q' fuel listed a w:=by
 intro fuel
 induction fuel with
 | zero =>
  intro D T E listed a w hlen hst hok hop hpr hE hrun;cases T with
  | one pi=>exact any_of_one hf hQ 0 D pi E listed a w hlen (hst _ (List.mem_singleton.2 rfl)) hop hok hpr hE hrun
  | two L x tx y ty=>simp only [RT.len] at hlen;omega
 | succ fuel ih =>
  intro D T E listed a w hlen hst hok hop hpr hE hrun;cases T with
  | one pi=>exact any_of_one hf hQ (fuel+1) D pi E listed a w hlen (hst _ (List.mem_singleton.2 rfl)) hop hok hpr hE hrun
  | two L x tx y ty =>
   simp only [RT.len] at hlen;obtain ⟨⟨okx,oky⟩,hxy,hx,hy⟩:=hok;obtain ⟨lx,hlx⟩:=RT.lins_ne tx;obtain ⟨ly,hly⟩:=RT.lins_ne ty;have hstx:∀ l∈tx.lins,Stand ops listed (D.map (·.i)++(L++x::l)):=fun l hl=>hst _ (List.mem_append_left _ (List.mem_map.2 ⟨l,hl,rfl⟩));have hsty:∀ l∈ty.lins,Stand ops listed (D.map (·.i)++(L++y::l)):=fun l hl=>hst _ (List.mem_append_right _ (List.mem_map.2 ⟨l,hl,rfl⟩));refine ⟨?_,?_⟩
   ·intro h0;have hst1:=hstx lx hlx;cases hX:D.map (·.i)++(L++x::lx) with
    | nil=>have:=congrArg List.length hX;simp at this
    | cons z zs =>
     rw [hX] at hst1;have:=hst1.head hf;rw [h0] at this;cases this
   ·intro i hi;obtain ⟨hilt,hiun,_⟩:=ready_spec hi;have hmem:i∈D.map (·.i)++(L++x::lx):=by
     rcases (hstx lx hlx).all i hilt with h|h
     ·rw [h] at hiun;cases hiun
     ·exact h
    have two:∀ (x:Nat) (tx:RT),i=x->tx.Ok ops->D.length+(L.length+1+tx.len)=fuel+1->(∀ l∈tx.lins,Stand ops listed (D.map (·.i)++(L++x::l)))->nrunL P ops (fun E a w=>nstep P ops anc x (nrunT P ops anc Q tx) E a w) L E (puts a D) w ->
     wpOp P ops Q' i (wpAny P .any ops Q' fuel (listed.setIfInBounds i true)) a w:=by
     rintro x tx rfl okx hlen hst hrun;obtain ⟨D',E',f1,f2,f3,f4,f5,f6⟩:=advanceL L [] E _ w (by simpa using hrun);have hE':∀ d∈D++D',d.wanted=true->(d.i,d.m,d.v)∈E':=by
      intro d hd hdw;rcases List.mem_append.1 hd with h|h
      ·exact f4 _ (hE d h hdw)
      ·exact f5 d h hdw
     have hop':∀ d∈D++D',ops[d.i]? = some d.o:=by
      intro d hd;rcases List.mem_append.1 hd with h|h
      ·exact hop d h
      ·exact f2 d h
     have hstD:∀ l∈tx.lins,Stand ops listed ((D++D').map (·.i)++i::l):=by
      intro l hl;have e:(D++D').map (·.i)++i::l=D.map (·.i)++(L++i::l):=by simp [f1]
      rw [e];exact hst l hl
     obtain ⟨lx,hlx⟩:=RT.lins_ne tx;refine pick_step (D:=D++D') (X:=lx) (E:=E') (K:=nrunT P ops anc Q tx) hf hi ?_ (hstD lx hlx) hop' (Promised.append hpr f3) hE' ?_
     ·intro E2 a2 w2 hE2 h2 h4;refine ih (D++D') tx E2 _ a2 w2 ?_ (fun l hl=>(hstD l hl).take hi) okx hop' h2 hE2 h4;have:=congrArg List.length f1;simp at this hlen ⊢;omega
     ·rw [puts_append];exact f6
    rcases List.mem_append.1 hmem with hm|hm
    ·obtain ⟨d,hd,hdi⟩:=List.mem_map.1 hm;refine pick_promised hf hi hd hdi (hstx lx hlx) hop hpr ?_;rintro D1 D2 a' rfl h3 h4;have sub:∀ z∈D1++D2,z∈D1++d::D2:=by
      intro z hz;simp only [List.mem_append,List.mem_cons] at hz ⊢;rcases hz with h|h
      ·exact .inl h
      ·exact .inr (.inr h)
     have st:∀ X:List Nat,Stand ops listed ((D1++d::D2).map (·.i)++X)->Stand ops (listed.setIfInBounds i true) ((D1++D2).map (·.i)++X):=by
      intro X h;have e:(D1++d::D2).map (·.i)++X=D1.map (·.i)++i::(D2.map (·.i)++X):=by simp [hdi]
      rw [e] at h;simpa using h.take hi
     refine ih (D1++D2) (.two L x tx y ty) E _ a' w (by simp [RT.len] at hlen ⊢;omega) (fun l hl=>st _ (hst l hl)) ⟨⟨okx,oky⟩,hxy,hx,hy⟩ (fun d hd=>hop d (sub d hd)) h3 (fun d hd=>hE d (sub d hd)) (by rw [<- h4];exact hrun)
    ·rcases List.mem_append.1 hm with hm|hm
     ·obtain ⟨L1,L2,rfl⟩:=List.append_of_mem hm;simp only [nrunT] at hrun;obtain ⟨D',E',f1,f2,f3,f4,f5,f6⟩:=advanceL L1 (i::L2) E _ w hrun;simp only [nrunL] at f6;cases ho:ops[i]? with
      | none=>rw [ho] at f6;exact f6.elim
      | some o =>
       rw [ho] at f6;simp only at f6;rw [<- puts_append] at f6;have hop':∀ d∈D++D',ops[d.i]? = some d.o:=by
        intro d hd;rcases List.mem_append.1 hd with h|h
        ·exact hop d h
        ·exact f2 d h
       have st:∀ X:List Nat,Stand ops listed (D.map (·.i)++((L1++i::L2)++X))->Stand ops listed ((D++D').map (·.i)++i::(L2++X)):=by
        intro X h;have e:(D++D').map (·.i)++i::(L2++X)=D.map (·.i)++((L1++i::L2)++X):=by simp [f1]
        rw [e];exact h
       refine pick_quiet (D:=D++D') (X:=L2++x::lx) (E:=E') (C:=fun E a=>nrunL P ops (fun E a w=>nstep P ops anc x (nrunT P ops anc Q tx) E a w/\nstep P ops anc y (nrunT P ops anc Q ty) E a w) L2 E a w) hf hi ?_ (st _ (hstx lx hlx)) hop' (Promised.append hpr f3) ?_ ho f6
       ·intro E2 a2 g1 g2 g3;refine ih (D++D') (.two L2 x tx y ty) E2 _ a2 w ?_ ?_ ⟨⟨okx,oky⟩,hxy,hx,hy⟩ hop' g1 g2 g3
        ·have:=congrArg List.length f1;simp [RT.len] at this hlen ⊢;omega
        ·intro l hl;simp only [RT.lins,List.mem_append,List.mem_map] at hl;rcases hl with ⟨l',h',rfl⟩ | ⟨l',h',rfl⟩
         ·exact (st _ (hstx l' h')).take hi
         ·exact (st _ (hsty l' h')).take hi
       ·intro d hd hdw;rcases List.mem_append.1 hd with h|h
        ·exact f4 _ (hE d h hdw)
        ·exact f5 d h hdw
     ·have toy:i=y->wpOp P ops Q' i (wpAny P .any ops Q' fuel (listed.setIfInBounds i true)) a w:=fun e=>two y ty e oky (by omega) hsty (nrunL_mono (fun _ _ _ h=>h.2) L E _ w hrun);rcases List.mem_cons.1 hm with hm|hm
      ·exact two x tx hm okx (by omega) hstx (nrunL_mono (fun _ _ _ h=>h.1) L E _ w hrun)
      ·rcases hx lx hlx i hm with h|h|h
       ·exact toy h
       ·exact absurd h (ready_not (hstx lx hlx) hi (by simp))
       ·
        have hyr:y∈D.map (·.i)++(L++x::lx):=by
         have hs:=hsty ly hly;have hylt:=hs.lt y (by simp);have hyun:=hs.un y (by simp);rcases (hstx lx hlx).all y hylt with h|h
         ·rw [h] at hyun;cases hyun
         ·exact h
        exact absurd h (ready_not (hstx lx hlx) hi hyr)
end
end Go.Sx

namespace Go.Sx
section
structure RG where
 pi:List (Nat × Bool)
 rows:List (Nat × Nat)
 two:Nat
 tr:Option RT
def nlook:List (Nat × Nat)->Nat->Nat
 | [],_=>0
 | (j,v)::r,i=>bif Nat.beq j i then v else nlook r i
def bit (n i:Nat):Bool:=Nat.beq (Nat.land (Nat.shiftRight n i) 1) 1
theorem bit_eq (n i:Nat):bit n i=n.testBit i:=by
 rw [Nat.testBit_eq_decide_div_mod_eq];unfold bit;have h:Nat.land (Nat.shiftRight n i) 1=n / 2 ^ i % 2:=by
  show (n >>> i) &&& 1=_;rw [Nat.and_one_is_mod,Nat.shiftRight_eq_div_pow]
 rw [h];by_cases h1:n / 2 ^ i % 2=1
 ·simp [h1]
 ·rw [beq_ne h1];simp [h1]
def bindE (e:Edge):Bool:=Region.binds .any e
def deps (o:Oper):List Nat:=(o.after.toList.filter bindE).map (·.on)
def rowOf (rows:List (Nat × Nat)):List Nat->Nat
 | []=>0
 | d::r=>Nat.lor (Nat.lor (Nat.shiftLeft 1 d) (nlook rows d)) (rowOf rows r)
def apartAt (all:List Oper) (ops:Array Oper) (o:Oper) (j:Nat):Bool :=
 match all[j]? with
 | none=>false
 | some p=>o.apart ops p
def rgGo (all:List Oper) (ops:Array Oper) (rows:List (Nat × Nat)):List (Nat × Bool)->Nat->Bool
 | [],seen=>Nat.beq (seen+1) (2 ^ all.length)
 | (i,b)::r,seen =>
  match all[i]? with
  | none=>false
  | some o=>!bit seen i&&noSel o&&(deps o).all (bit seen)&&Nat.beq (nlook rows i) (rowOf rows (deps o)) &&
   r.all (fun q=>bit (nlook rows q.1) i||(!b&&apartAt all ops o q.1))&&rgGo all ops rows r (Nat.lor seen (Nat.shiftLeft 1 i))
def rgOk (all:List Oper) (g:RG):Bool:=Nat.beq g.pi.length all.length&&rgGo all all.toArray g.rows g.pi 0
def RG.anc (g:RG) (e i:Nat):Bool:=bit (nlook g.rows i) e
theorem bit_lor (a b i:Nat):bit (Nat.lor a b) i=(bit a i||bit b i):=by
 rw [bit_eq,bit_eq,bit_eq];exact Nat.testBit_or a b i
theorem bit_one (d i:Nat):bit (Nat.shiftLeft 1 d) i=true↔d=i:=by
 rw [bit_eq];show (1 <<< d).testBit i=true↔_;rw [Nat.one_shiftLeft,Nat.testBit_two_pow];simp
theorem bit_zero (i:Nat):bit 0 i=false:=by rw [bit_eq];simp
theorem mem_deps {o:Oper} {d:Nat}:d∈deps o↔∃ e∈o.after,Region.binds .any e=true/\e.on=d:=by
 unfold deps bindE;simp only [List.mem_map,List.mem_filter,Array.mem_toList_iff,and_assoc]
structure Step (all:List Oper) (rows:List (Nat × Nat)) (pre:List Nat) (i:Nat) (b:Bool) (R:List (Nat × Bool)):Prop where
 at_:∃ o,all[i]? = some o/\noSel o=true/\(∀ d∈deps o,d∈pre)/\nlook rows i=rowOf rows (deps o)/\∀ q∈R,bit (nlook rows q.1) i=true\/(b=false/\apartAt all all.toArray o q.1=true)
 new:i∉pre
theorem rgGo_split {all:List Oper} {rows:List (Nat × Nat)}:∀ (pi:List (Nat × Bool)) (seen:Nat) (pre:List Nat),rgGo all all.toArray rows pi seen=true->(∀ x,bit seen x=true↔x∈pre) ->
 (∀ L i b R,pi=L++(i,b)::R->Step all rows (pre++L.map (·.1)) i b R)/\(∀ k,k<all.length->k∈pre++pi.map (·.1))
 | [],seen,pre,h,hs=>by
  refine ⟨fun L i b R e=>by simp at e,fun k hk=>?_⟩;simp only [rgGo] at h;have h1:seen=2 ^ all.length - 1:=by have:=Nat.eq_of_beq_eq_true h;omega
  have:bit seen k=true:=by rw [bit_eq,h1,Nat.testBit_two_pow_sub_one];simpa using hk
  simpa using (hs k).1 this
 | (i,b)::r,seen,pre,h,hs=>by
  simp only [rgGo] at h;cases ho:all[i]? with
  | none=>rw [ho] at h;cases h
  | some o =>
   rw [ho] at h;simp only [Bool.and_eq_true,Bool.not_eq_true',List.all_eq_true,Bool.or_eq_true] at h;obtain ⟨⟨⟨⟨⟨h1,h2⟩,h3⟩,h4⟩,h5⟩,h6⟩:=h;have ih:=rgGo_split r (Nat.lor seen (Nat.shiftLeft 1 i)) (pre++[i]) h6 (by
    intro x;rw [bit_lor,Bool.or_eq_true,hs x,bit_one];simp only [List.mem_append,List.mem_singleton];exact ⟨fun h=>h.imp id Eq.symm,fun h=>h.imp id Eq.symm⟩)
   refine ⟨?_,?_⟩
   ·intro L i' b' R e;cases L with
    | nil =>
     simp only [List.nil_append,List.cons.injEq,Prod.mk.injEq] at e;obtain ⟨⟨rfl,rfl⟩,rfl⟩:=e;refine ⟨⟨o,ho,h2,fun d hd=>by simpa using (hs d).1 (h3 d hd),Nat.eq_of_beq_eq_true h4,?_⟩,?_⟩
     ·intro q hq;rcases h5 q hq with h | ⟨h,h'⟩
      ·exact .inl h
      ·exact .inr ⟨h,h'⟩
     ·intro hm;have:=(hs i).2 (by simpa using hm);rw [this] at h1;cases h1
    | cons p L =>
     simp only [List.cons_append,List.cons.injEq] at e;obtain ⟨rfl,rfl⟩:=e;have:=ih.1 L i' b' R rfl;simpa using this
   ·intro k hk;have:=ih.2 k hk;simpa using this
theorem pairwise_split {α:Type} {R:α->α->Prop}:∀ (xs:List α),(∀ a x b y c,xs=a++x::(b++y::c)->R x y)->xs.Pairwise R
 | [],_=>.nil
 | x::xs,h=>by
  refine List.pairwise_cons.2 ⟨fun y hy=>?_,pairwise_split xs fun a x' b y c e=>h (x::a) x' b y c (by rw [e];rfl)⟩;obtain ⟨b,c,rfl⟩:=List.append_of_mem hy;exact h [] x b y c rfl
theorem rg_ok {all:List Oper} {g:RG} (h:rgOk all g=true):g.pi.length=all.length/\Fine all.toArray g.anc/\Stand all.toArray (Array.replicate all.toArray.size false) (g.pi.map (·.1))/\LoudOk all.toArray g.pi:=by
 simp only [rgOk,Bool.and_eq_true] at h;obtain ⟨hlen,h⟩:=h;obtain ⟨hsp,hcov⟩:=rgGo_split g.pi 0 [] h (fun x=>by simp [bit_zero]);simp only [List.nil_append] at hsp hcov;have hdep:∀ {d i:Nat} {o:Oper},all[i]? = some o->(Dep all.toArray d i↔d∈deps o):=by
  intro d i o ho;rw [mem_deps];constructor
  ·rintro ⟨o',ho',h⟩;have:o'=o:=by simpa [ho] using ho'.symm
   subst this;exact h
  ·intro h;exact ⟨o,by simpa using ho,h⟩
 have hahead:∀ {y x:Nat},Anc all.toArray y x->∀ L b R,g.pi=L++(x,b)::R->y∈L.map (·.1):=by
  intro y x ha
  induction ha with
  | one d =>
   intro L b R e;obtain ⟨⟨o,ho,_,hd,_⟩,_⟩:=hsp L _ b R e;exact hd _ ((hdep ho).1 d)
  | @step j k _ d ih =>
   intro L b R e;obtain ⟨⟨o,ho,_,hd,_⟩,_⟩:=hsp L _ b R e;obtain ⟨p,hp,hpj⟩:=List.mem_map.1 (hd _ ((hdep ho).1 d));obtain ⟨L1,L2,rfl⟩:=List.append_of_mem hp;obtain ⟨j',b'⟩:=p;simp only at hpj;subst hpj;have:=ih L1 b' (L2++(k,b)::R) (by rw [e];simp);simp only [List.map_append,List.mem_append];exact .inl this
 have hrow1:∀ (rs:List Nat) (e:Nat),bit (rowOf g.rows rs) e=true->∃ d∈rs,d=e\/bit (nlook g.rows d) e=true:=by
  intro rs e
  induction rs with
  | nil=>intro h;simp only [rowOf,bit_zero] at h;cases h
  | cons d rs ih =>
   intro h;simp only [rowOf,bit_lor,Bool.or_eq_true,bit_one] at h;rcases h with (h|h)|h
   ·exact ⟨d,List.mem_cons_self,.inl h⟩
   ·exact ⟨d,List.mem_cons_self,.inr h⟩
   ·obtain ⟨d',hd',h'⟩:=ih h;exact ⟨d',List.mem_cons_of_mem _ hd',h'⟩
 have hrow:∀ (n:Nat) (L:List (Nat × Bool)),L.length=n->∀ i b R,g.pi=L++(i,b)::R->∀ e,bit (nlook g.rows i) e=true->Anc all.toArray e i:=by
  intro n
  induction n using Nat.strongRecOn with
  | ind n ih =>
   intro L hL i b R e x hx;obtain ⟨⟨o,ho,_,hd,hr,_⟩,_⟩:=hsp L _ b R e;rw [hr] at hx;obtain ⟨d,hd1,hd2⟩:=hrow1 _ _ hx;have hdp:=(hdep ho).2 hd1;rcases hd2 with rfl|hd2
   ·exact .one hdp
   ·obtain ⟨p,hp,hpj⟩:=List.mem_map.1 (hd _ hd1);obtain ⟨L1,L2,rfl⟩:=List.append_of_mem hp;obtain ⟨j',b'⟩:=p;simp only at hpj;subst hpj;exact .step (ih L1.length (by simp at hL;omega) L1 rfl j' b' (L2++(i,b)::R) (by rw [e];simp) x hd2) hdp
 have hsplit:∀ x∈g.pi.map (·.1),∃ L b R,g.pi=L++(x,b)::R:=by
  intro x hx;obtain ⟨p,hp,rfl⟩:=List.mem_map.1 hx;obtain ⟨L,R,e⟩:=List.append_of_mem hp;exact ⟨L,p.2,R,e⟩
 have hanc:∀ i∈g.pi.map (·.1),∀ e,bit (nlook g.rows i) e=true->Anc all.toArray e i:=by
  intro i hi e he;obtain ⟨L,b,R,h⟩:=hsplit i hi;exact hrow _ L rfl i b R h e he
 have hlt:∀ x∈g.pi.map (·.1),x<all.length:=by
  intro x hx;obtain ⟨L,b,R,e⟩:=hsplit x hx;obtain ⟨⟨o,ho,_⟩,_⟩:=hsp L x b R e;exact (List.getElem?_eq_some_iff.1 ho).1
 have hmapsplit:∀ (a:List Nat) (x:Nat) (c:List Nat),g.pi.map (·.1)=a++x::c->∃ L b R,g.pi=L++(x,b)::R/\L.map (·.1)=a/\R.map (·.1)=c:=by
  intro a x c e;obtain ⟨l1,l2,e1,e2,e3⟩:=List.map_eq_append_iff.1 e;obtain ⟨p,l3,e4,e5,e6⟩:=List.map_eq_cons_iff.1 e3;subst e4;refine ⟨l1,p.2,l3,?_,e2,e6⟩;rw [e1,<- e5]
 have hnodup:(g.pi.map (·.1)).Nodup:=by
  refine pairwise_split _ fun a x b y c e=>?_;rintro rfl;obtain ⟨L,b',R,e1,e2,e3⟩:=hmapsplit (a++x::b) x c (by rw [e];simp);have:=(hsp L x b' R e1).new;rw [e2] at this;exact this (by simp)
 refine ⟨Nat.eq_of_beq_eq_true hlen,⟨?_,?_,?_,?_⟩,⟨by simp,fun x hx=>by simpa using hlt x hx,?_,hnodup,fun k hk=>.inr (hcov k (by simpa using hk)),?_,?_⟩,?_⟩
 ·
  have one:∀ (a:List Nat) (x:Nat) (b:List Nat) (y:Nat) (c:List Nat),g.pi.map (·.1)=a++x::(b++y::c)->∀ ox oy,all[x]? = some ox->all[y]? = some oy->Anc all.toArray x y\/ox.apart all.toArray oy=true:=by
   intro a x b y c e ox oy hx hy;obtain ⟨L,b',R,e1,e2,e3⟩:=hmapsplit a x (b++y::c) e;obtain ⟨⟨o,ho,_,_,_,hq⟩,_⟩:=hsp L x b' R e1;have hym:y∈R.map (·.1):=by rw [e3];simp
   obtain ⟨q,hqm,rfl⟩:=List.mem_map.1 hym;rcases hq q hqm with h | ⟨_,h⟩
   ·exact .inl (hanc _ (by rw [e];simp) _ h)
   ·refine .inr ?_;rw [hx] at ho;cases ho;simpa [apartAt,hy] using h
  intro i j oi oj hi hj hne;have hi':all[i]? = some oi:=by simpa using hi
  have hj':all[j]? = some oj:=by simpa using hj
  have mi:=hcov i (List.getElem?_eq_some_iff.1 hi').1;have mj:=hcov j (List.getElem?_eq_some_iff.1 hj').1;obtain ⟨a,c,e⟩:=List.append_of_mem mi;rw [e] at mj;rcases List.mem_append.1 mj with h|h
  ·obtain ⟨a1,a2,rfl⟩:=List.append_of_mem h;rcases one a1 j a2 i c (by rw [e];simp) oj oi hj' hi' with h|h
   ·exact .inr (.inl h)
   ·exact .inr (.inr (apart_symm h))
  ·rcases List.mem_cons.1 h with h|h
   ·exact absurd h.symm hne
   ·obtain ⟨c1,c2,rfl⟩:=List.append_of_mem h;rcases one a i c1 j c2 e oi oj hi' hj' with h|h
    ·exact .inl h
    ·exact .inr (.inr h)
 ·intro i o ho;have ho':all[i]? = some o:=by simpa using ho
  obtain ⟨L,b,R,e⟩:=hsplit i (hcov i (List.getElem?_eq_some_iff.1 ho').1);obtain ⟨⟨o',h1,h2,_⟩,_⟩:=hsp L i b R e;rw [ho'] at h1;cases h1;exact h2
 ·intro i j hj h;exact hanc j (hcov j (by simpa using hj)) i h
 ·intro i j hd;obtain ⟨o,ho,_⟩:=id hd;have ho':all[j]? = some o:=by simpa using ho
  obtain ⟨L,b,R,e⟩:=hsplit j (hcov j (List.getElem?_eq_some_iff.1 ho').1);have hs:=hsp L j b R e;have hm:=hahead (.one hd) L b R e;refine ⟨?_,?_⟩
  ·rintro rfl;exact hs.new hm
  ·have:i∈g.pi.map (·.1):=by rw [e];simp only [List.map_append,List.mem_append];exact .inl hm
   simpa using hlt i this
 ·intro x hx;have:=hlt x hx;simp [Array.getD,this]
 ·intro i j hd hj;simp [Array.getD] at hj
 ·refine pairwise_split _ fun a x b y c e ha=>?_;obtain ⟨L,b',R,e1,e2,e3⟩:=hmapsplit a x (b++y::c) e;have hm:=hahead ha L b' R e1;rw [e2] at hm;rw [e] at hnodup;exact (List.nodup_append.1 hnodup).2.2 y hm y (by simp) rfl
 ·intro L R x e q hq;obtain ⟨⟨o,ho,_,_,_,hq'⟩,_⟩:=hsp L x true R e;rcases hq' q hq with h | ⟨h,_⟩
  ·refine hanc q.1 ?_ _ h;rw [e];simp only [List.map_append,List.mem_append,List.map_cons,List.mem_cons];exact .inr (.inr (List.mem_map_of_mem hq))
  ·cases h
def quiets:List (Nat × Bool)->Bool
 | []=>true
 | (_,b)::r=>!b&&quiets r
theorem quiets_map:∀ {l:List (Nat × Bool)},quiets l=true->l=(l.map (·.1)).map fun i=>(i,false)
 | [],_=>rfl
 | (i,b)::r,h=>by
  simp only [quiets,Bool.and_eq_true,Bool.not_eq_true'] at h;obtain ⟨rfl,h⟩:=h;simp only [List.map_cons];rw [<- quiets_map h]
def RT.pis:RT->List (List (Nat × Bool))
 | .one pi=>[pi]
 | .two L x tx y ty=>(tx.pis.map fun p=>L.map (fun i=>(i,false))++(x,false)::p)++ty.pis.map fun p=>L.map (fun i=>(i,false))++(y,false)::p
def waits (rows:List (Nat × Nat)) (n x y:Nat) (z:Nat):Bool:=Nat.blt z n&&(bit (nlook rows z) x||bit (nlook rows z) y)
def RT.cond (rows:List (Nat × Nat)) (n:Nat):RT->Bool
 | .one _=>true
 | .two _ x tx y ty=>tx.cond rows n&&ty.cond rows n&&Nat.beq tx.len ty.len&&tx.lins.all (fun l=>l.all fun z=>Nat.beq z y||waits rows n x y z)&&ty.lins.all (fun l=>l.all fun z=>Nat.beq z x||waits rows n x y z)
def rgTree (all:List Oper) (rows:List (Nat × Nat)) (T:RT):Bool:=T.pis.all (fun pi=>rgOk all ⟨pi,rows,0,none⟩)&&T.cond rows all.length
theorem RT.lins_pis:∀ T:RT,T.lins=T.pis.map fun p=>p.map (·.1)
 | .one pi=>rfl
 | .two L x tx y ty=>by
  have e:(L.map fun i=>(i,false)).map (·.1)=L:=by simp [Function.comp_def]
  simp only [RT.lins,RT.pis,RT.lins_pis tx,RT.lins_pis ty,List.map_append,List.map_map];congr 1<;>(apply List.map_congr_left;intro p _;simp [Function.comp_def])
theorem RT.pis_ne (T:RT):∃ p,p∈T.pis:=by
 obtain ⟨l,h⟩:=RT.lins_ne T;rw [RT.lins_pis] at h;obtain ⟨p,hp,_⟩:=List.mem_map.1 h;exact ⟨p,hp⟩
theorem RT.len_pis:∀ (T:RT) (rows:List (Nat × Nat)) (n:Nat),T.cond rows n=true->∀ p∈T.pis,p.length=T.len
 | .one pi,_,_,_,p,hp=>by simp [RT.pis] at hp;subst hp;rfl
 | .two L x tx y ty,rows,n,h,p,hp=>by
  simp only [RT.cond,Bool.and_eq_true] at h;obtain ⟨⟨⟨⟨h1,h2⟩,h3⟩,_⟩,_⟩:=h;have h3:=Nat.eq_of_beq_eq_true h3;simp only [RT.pis,List.mem_append,List.mem_map] at hp;rcases hp with ⟨q,hq,rfl⟩ | ⟨q,hq,rfl⟩
  ·have:=RT.len_pis tx rows n h1 q hq;simp [RT.len,this];omega
  ·have:=RT.len_pis ty rows n h2 q hq;simp [RT.len,this];omega
theorem tree_oks {ops:Array Oper} {rows:List (Nat × Nat)} {n:Nat} (hanc:∀ i j,j<n->bit (nlook rows j) i=true->Anc ops i j):∀ (T:RT) (pre:List (Nat × Bool)),(∀ p∈T.pis,LoudOk ops (pre++p))->T.cond rows n=true->T.Ok ops
 | .one pi,pre,h,_=>LoudOk.drop (h pi (List.mem_singleton.2 rfl))
 | .two L x tx y ty,pre,h,hc=>by
  simp only [RT.cond,Bool.and_eq_true,List.all_eq_true,Bool.or_eq_true] at hc;obtain ⟨⟨⟨⟨h1,h2⟩,h3⟩,h4⟩,h5⟩:=hc;have wt:∀ z,waits rows n x y z=true->Anc ops x z\/Anc ops y z:=by
   intro z hz;simp only [waits,Bool.and_eq_true,Bool.or_eq_true] at hz;have hlt:z<n:=by have:=hz.1;simp [Nat.blt] at this;omega
   exact hz.2.imp (hanc _ _ hlt) (hanc _ _ hlt)
  refine ⟨⟨tree_oks hanc tx (pre++(L.map (fun i=>(i,false))++[(x,false)])) (fun p hp=>?_) h1,tree_oks hanc ty (pre++(L.map (fun i=>(i,false))++[(y,false)])) (fun p hp=>?_) h2⟩,Nat.eq_of_beq_eq_true h3,fun l hl z hz=>?_,fun l hl z hz=>?_⟩
  ·have:=h _ (List.mem_append_left _ (List.mem_map.2 ⟨p,hp,rfl⟩));simpa using this
  ·have:=h _ (List.mem_append_right _ (List.mem_map.2 ⟨p,hp,rfl⟩));simpa using this
  ·rcases h4 l hl z hz with h|h
   ·exact .inl (Nat.eq_of_beq_eq_true h)
   ·exact .inr (wt z h)
  ·rcases h5 l hl z hz with h|h
   ·exact .inl (Nat.eq_of_beq_eq_true h)
   ·exact .inr (wt z h)
theorem tree_ok {all:List Oper} {g:RG} {T:RT} (h:rgTree all g.rows T=true):T.len=all.length/\Fine all.toArray g.anc/\(∀ l∈T.lins,Stand all.toArray (Array.replicate all.toArray.size false) l)/\T.Ok all.toArray:=by
 simp only [rgTree,Bool.and_eq_true,List.all_eq_true] at h;obtain ⟨h1,h2⟩:=h;obtain ⟨p0,hp0⟩:=RT.pis_ne T;obtain ⟨hlen,hf,_,_⟩:=rg_ok (h1 p0 hp0);have hf:Fine all.toArray g.anc:=hf;refine ⟨by rw [<- RT.len_pis T _ _ h2 p0 hp0];exact hlen,hf,fun l hl=>?_,tree_oks (rows:=g.rows) (n:=all.length) (fun i j hj hb=>hf.anc i j (by simpa using hj) hb) T [] (fun p hp=>(rg_ok (h1 p hp)).2.2.2) h2⟩;rw [RT.lins_pis] at hl;obtain ⟨p,hp,rfl⟩:=List.mem_map.1 hl;exact (rg_ok (h1 p hp)).2.2.1
def rgOkT (all:List Oper) (g:RG):Bool :=
 match g.tr with
 | some T=>rgTree all g.rows T
 | none=>match g.two with
  | 0=>rgOk all g
  | k+1=>match g.pi.drop k with
   | (x,true)::(y,true)::R=>quiets (g.pi.take k)&&rgOk all ⟨g.pi.take k++(x,false)::(y,true)::R,g.rows,0,none⟩&&rgOk all ⟨g.pi.take k++(y,false)::(x,true)::R,g.rows,0,none⟩
   | _=>false
end
end Go.Sx

namespace Go.Sx
section
def has:List Nat->Nat->Bool
 | [],_=>false
 | j::r,i=>bif Nat.beq j i then true else has r i
theorem has_mem:∀ {l:List Nat} {i:Nat},has l i=true↔i∈l
 | [],i=>by simp [has]
 | j::r,i=>by
  simp only [has];by_cases h:j=i
  ·subst h;simp
  ·rw [beq_ne h];simp only [cond_false,List.mem_cons];rw [has_mem];exact ⟨.inr,fun h'=>h'.resolve_left fun e=>h e.symm⟩
def Heap.freeze (ts:List Nat) (hp:Heap):Heap:=hp.map fun e=>⟨e.tag,bif has ts e.tag then false else e.wr,e.ch⟩
def thaw1 (old:Heap) (ts:List Nat) (e:Ent):Option Ent :=
 match old.find e.tag with
 | some (m,_)=>bif has ts e.tag then some ⟨e.tag,m,e.ch⟩ else some e
 | none=>bif e.wr then some e else none
def Heap.thaw (old:Heap) (ts:List Nat) (hp:Heap):Heap:=hp.filterMap (thaw1 old ts)
def toFreeze (g:RG) (i:Nat):List (Nat × Option Nat)->Option (List Nat)
 | []=>some []
 | (e,x)::r=>bif g.anc e i then toFreeze g i r else
  match x,toFreeze g i r with
  | some t,some ts=>some (t::ts)
  | _,_=>none
def stale (g:RG) (i:Nat) (E:List (Nat × Option Nat)):List (Nat × Option Nat):=E.filter fun p=>!g.anc p.1 i
def xloud (G:Fx) (ch:CallH) (o:Oper) (ts:List Nat) (s:S) (K:KV):Prop :=
 match ts with
 | []=>xrun G ch o s K
 | _::_=>bif ts.all (fun t=>(s.hp.find t).isSome) then xrun G ch o (s.put (s.hp.freeze ts)) fun v s'=>K v (s'.put (Heap.thaw s.hp ts s'.hp)) else False
def xdraw (G:Fx) (ch:CallH) (all:List Oper) (g:RG):List (Nat × Bool)->List (Nat × Option Nat)->S->(S->Prop)->Prop
 | [],_,s,K=>K s
 | (i,loud)::r,E,s,K =>
  match all[i]? with
  | none=>False
  | some o=>xguard G.X all o s
   (fun s=>bif loud then
    (match toFreeze g i E with
    | none=>False
    | some ts=>xloud G ch o ts s fun v s=>xput o v s fun s=>xdraw G ch all g r (stale g i E) s K)
    else bif isQuiet o then
     xop G.X o s fun v s1=>xput o v s1 fun s2=>xdraw G ch all g r (match rtag o s with|some t=>(i,some t)::E|none=>E) s2 K
    else False)
   (fun s=>xput o (.tup []) s fun s=>xdraw G ch all g r E s K)
theorem apart_of_mem {ρ:Env}:∀ {hp:Heap},hp.Pairwise (Apart ρ)->∀ {x y:Ent},x∈hp->y∈hp->x.tag≠y.tag->(x.wr||y.wr)=true->∀ b,(ρ.pl x.tag).fp b->¬ (ρ.pl y.tag).fp b
 | [],_,_,_,hx,_,_,_=>by cases hx
 | e::r,h,x,y,hx,hy,hne,hw=>by
  obtain ⟨h1,h2⟩:=List.pairwise_cons.1 h;rcases List.mem_cons.1 hx with hx|hx
  ·rcases List.mem_cons.1 hy with hy|hy
   ·exact absurd (by rw [hx,hy]) hne
   ·rw [hx] at hw ⊢;exact (h1 y hy).2 hw
  ·rcases List.mem_cons.1 hy with hy|hy
   ·intro b hb hb';rw [hy] at hb' hw;exact (h1 x hx).2 (by rw [Bool.or_comm];exact hw) b hb' hb
   ·exact apart_of_mem h2 hx hy hne hw
theorem freeze_mem {ts:List Nat} {hp:Heap} {e:Ent} (h:e∈hp.freeze ts):∃ e0∈hp,e.tag=e0.tag/\e.ch=e0.ch/\(e.wr=true->e0.wr=true/\e.tag∉ts):=by
 obtain ⟨e0,h0,rfl⟩:=List.mem_map.1 h;refine ⟨e0,h0,rfl,rfl,?_⟩;show (bif has ts e0.tag then false else e0.wr)=true->_;cases hh:has ts e0.tag with
 | true=>intro h;cases h
 | false=>intro h;exact ⟨h,fun hm=>by rw [has_mem.2 hm] at hh;cases hh⟩
def frozenM (ρ:Env) (hp:Heap):Nat->Prop:=fun b=>∃ e∈hp,e.wr=true/\(ρ.pl e.tag).fp b
theorem HeapSat.freeze {w0:World} {M:Nat->Prop} {ρ:Env} {w:World} {hp:Heap} (h:HeapSat w0 M ρ hp w) (ts:List Nat):HeapSat w (frozenM ρ (hp.freeze ts)) ρ (hp.freeze ts) w where
 keeps:=Keeps.refl _ w
 ent:=fun e he=>by
  obtain ⟨e0,h0,h1,h2,_⟩:=freeze_mem he;have hs:=h.ent e0 h0;exact ⟨h1▸hs.tag,by rw [h1,h2];exact hs.ch,by rw [h1];exact hs.lt,fun hw b hb _=>⟨e,he,hw,hb⟩⟩
 apart:=by
  refine List.pairwise_map.2 (h.apart.imp fun {x y} hxy=>⟨hxy.1,fun hw=>hxy.2 ?_⟩);have hw':((bif has ts x.tag then false else x.wr)||(bif has ts y.tag then false else y.wr))=true:=hw;cases hx:has ts x.tag<;>cases hy:has ts y.tag<;>simp [hx,hy] at hw'<;>simp [hw']
theorem Heap.find_some {hp:Heap} {t:Nat} (h:(hp.find t).isSome=true):∃ m ch,(⟨t,m,ch⟩:Ent)∈hp:=by
 cases hf:hp.find t with
 | none=>rw [hf] at h;cases h
 | some p=>exact ⟨p.1,p.2,Heap.find_mem hf⟩
theorem thaw_mem {old:Heap} {ts:List Nat} {e e2:Ent} (h:thaw1 old ts e2=some e):e.tag=e2.tag/\e.ch=e2.ch/\(e=e2/\(e2.wr=true\/∃ m ch,(⟨e.tag,m,ch⟩:Ent)∈old)\/∃ ch,(⟨e.tag,e.wr,ch⟩:Ent)∈old):=by
 unfold thaw1 at h;cases hf:old.find e2.tag with
 | none =>
  rw [hf] at h;simp only at h;cases hw:e2.wr with
  | false=>rw [hw] at h;cases h
  | true =>
   rw [hw] at h;simp only [cond_true,Option.some.injEq] at h;subst h;exact ⟨rfl,rfl,.inl ⟨rfl,.inl rfl⟩⟩
 | some p =>
  obtain ⟨m,ch⟩:=p;rw [hf] at h;simp only at h;have hm:=Heap.find_mem hf;cases hh:has ts e2.tag with
  | true=>rw [hh] at h;cases h;exact ⟨rfl,rfl,.inr ⟨ch,hm⟩⟩
  | false=>rw [hh] at h;cases h;exact ⟨rfl,rfl,.inl ⟨rfl,.inr ⟨m,ch,hm⟩⟩⟩
theorem frozen_M {w0:World} {M:Nat->Prop} {ρ:Env} {w:World} {hp:Heap} (h:HeapSat w0 M ρ hp w) (ts:List Nat) {b:Nat} (hb:b<w0.heap.size) (hm:frozenM ρ (hp.freeze ts) b):M b:=by
 obtain ⟨e,he,hw,hf⟩:=hm;obtain ⟨e0,h0,h1,_,h3⟩:=freeze_mem he;exact (h.ent e0 h0).own (h3 hw).1 b (by rw [<- h1];exact hf) hb
theorem HeapSat.thaw {w0:World} {M:Nat->Prop} {ρ ρ':Env} {w w':World} {hp hp':Heap} {ts:List Nat} (h:HeapSat w0 M ρ hp w) (hle:ρ.le ρ') (h':HeapSat w (frozenM ρ (hp.freeze ts)) ρ' hp' w') :
 HeapSat w0 M ρ' (Heap.thaw hp ts hp') w' where
 keeps:=⟨h'.keeps.os.trans h.keeps.os,h'.keeps.tape.trans h.keeps.tape,h'.keeps.output.trans h.keeps.output,Nat.le_trans h.keeps.size h'.keeps.size,fun b hb hn =>
  (h'.keeps.block b (Nat.lt_of_lt_of_le hb h.keeps.size) fun hm=>hn (frozen_M h ts hb hm)).trans (h.keeps.block b hb hn),fun a ha=>(h'.keeps.frz a (Nat.lt_of_lt_of_le ha h.keeps.size)).trans (h.keeps.frz a ha)⟩
 ent:=fun e he=>by
  obtain ⟨e2,he2,ht⟩:=List.mem_filterMap.1 he;obtain ⟨h1,h2,h3⟩:=thaw_mem ht;have hs:=h'.ent e2 he2;refine ⟨h1▸hs.tag,by rw [h1,h2];exact hs.ch,by rw [h1];exact hs.lt,fun hw b hb hlt=>?_⟩;rcases h3 with ⟨rfl,_⟩ | ⟨ch,hm⟩
  ·exact frozen_M h ts hlt (hs.own hw b hb (Nat.lt_of_lt_of_le hlt h.keeps.size))
  ·have hs0:=h.ent _ hm;refine hs0.own hw b ?_ hlt;rw [<- hle.pl _ hs0.tag];exact hb
 apart:=by
  refine List.pairwise_filterMap.2 (List.Pairwise.imp_of_mem (fun {x y} hx hy hxy=>?_) h'.apart);intro e he e' he';obtain ⟨h1,_,h3⟩:=thaw_mem he;obtain ⟨h1',_,h3'⟩:=thaw_mem he';have hne:e.tag≠e'.tag:=by rw [h1,h1'];exact hxy.1
  refine ⟨hne,fun hw=>?_⟩;by_cases hxw:(x.wr||y.wr)=true
  ·rw [h1,h1'];exact hxy.2 hxw
  ·have hx0:x.wr=false:=by cases hh:x.wr<;>simp [hh] at hxw ⊢
   have hy0:y.wr=false:=by cases hh:y.wr<;>simp [hh] at hxw ⊢
   have gx:∃ m ch,(⟨e.tag,m,ch⟩:Ent)∈hp/\(e.wr=true->m=true):=by
    rcases h3 with ⟨rfl,h | ⟨m,ch,h⟩⟩ | ⟨ch,h⟩
    ·rw [hx0] at h;cases h
    ·exact ⟨m,ch,h,fun hh=>by rw [hx0] at hh;cases hh⟩
    ·exact ⟨_,ch,h,id⟩
   have gy:∃ m ch,(⟨e'.tag,m,ch⟩:Ent)∈hp/\(e'.wr=true->m=true):=by
    rcases h3' with ⟨rfl,h | ⟨m,ch,h⟩⟩ | ⟨ch,h⟩
    ·rw [hy0] at h;cases h
    ·exact ⟨m,ch,h,fun hh=>by rw [hy0] at hh;cases hh⟩
    ·exact ⟨_,ch,h,id⟩
   obtain ⟨m,ch,g1,g2⟩:=gx;obtain ⟨m',ch',g1',g2'⟩:=gy;have:=apart_of_mem h.apart g1 g1' hne (by
    show (m||m')=true;cases he:e.wr with
    | true=>rw [g2 he];rfl
    | false =>
     rw [he] at hw;rw [g2' (by simpa using hw)];simp)
   rw [hle.pl _ (h.ent _ g1).tag,hle.pl _ (h.ent _ g1').tag];exact this
theorem frozen_keeps {w0:World} {M:Nat->Prop} {ρ ρ':Env} {w w':World} {hp hp':Heap} {ts:List Nat} (h:HeapSat w0 M ρ hp w) (h':HeapSat w (frozenM ρ (hp.freeze ts)) ρ' hp' w') {t:Nat} (ht:t∈ts) (hf:(hp.find t).isSome=true) {b:Nat} (hb:(ρ.pl t).fp b):w'.heap[b]? = w.heap[b]?:=by
 obtain ⟨m,ch,hm⟩:=Heap.find_some hf;refine h'.keeps.block b ((h.ent _ hm).lt b hb) ?_;rintro ⟨e,he,hw,hfp⟩;obtain ⟨e0,h0,h1,_,h3⟩:=freeze_mem he;obtain ⟨h4,h5⟩:=h3 hw;have hne:e0.tag≠t:=by rintro rfl;rw [h1] at h5;exact h5 ht
 exact apart_of_mem h.apart h0 hm hne (by rw [h4];rfl) b (by rw [<- h1];exact hfp) hb
theorem xrun_loud {G:Fx} (hG:G.Ok) {ch:CallH} (hch:HOk G.X ch) {o:Oper} {s:S} {K:KV} (h:xrun G ch o s K) {w0:World} {M:Nat->Prop} {ρ:Env} {a:Act} {w:World} (hs:SatE w0 M ρ s a w) :
 Loud G.X.P (execOp a.eval o) w fun v w'=>Out w0 M ρ s w' v K:=by
 have plain:∀ K,xop G.X o s K->Loud G.X.P (execOp a.eval o) w fun v w'=>Out w0 M ρ s w' v K:=by
  intro K h;obtain ⟨r,w',hr,v,hv,hout⟩:=xop_ok hG.cx h w0 M ρ a w hs;refine .inl ⟨v,w',?_,hout⟩;rcases hv with rfl | ⟨rfl,rfl⟩
  ·exact .inl hr
  ·exact .inr ⟨hr,rfl⟩
 unfold xrun at h;split at h
 ·rename_i c hc;split at h
  ·rename_i f hf;split at h
   ·rename_i g hg;split at h
    ·rename_i fn hfn;have hok:=hG.fns _ (fnAt_mem hfn);have hev:a.eval f = .func (.func g) #[] #[]:=by have:=hs.frame.ev f;rw [hg] at this;exact this
     have hcall:=hch _ _ _ _ h w0 M ρ w (c.args.toList.map a.eval) hs.n hs.heap (RepArgs_ev hs.frame _);refine .inr ⟨g,c.args.map a.eval,?_,?_⟩
     ·obtain ⟨callee,args,ts⟩:=c;simp only at hf;have hb:fn.body≠none:=by have:=hok.body;cases hh:fn.body<;>simp [hh] at this ⊢
      have hne : fn.name ≠ "runtime.NumGoroutine" := by have := hok.name; simpa using this
      simp [execOp,hc,hf,resolve,hev,Deferred.ofValue,invoke,callFunc,hok.at_,hne,hb]
     ·have e:(c.args.toList.map a.eval).toArray=c.args.map a.eval:=by apply Array.toList_inj.1;simp
      rw [e] at hcall;exact hcall
    ·exact h.elim
   ·rename_i g xs hg;split at h
    ·rename_i fn hfn;have hok:=hG.fns _ (fnAt_mem hfn);obtain ⟨us,hev,hrep⟩:∃ us:List Value,a.eval f = .func (.func g) #[] us.toArray/\RepL ρ xs us:=by have:=hs.frame.ev f;rw [hg] at this;exact this
     have hcall:=hch _ _ _ _ h w0 M ρ w (c.args.toList.map a.eval++us) hs.n hs.heap (RepArgs_app hrep (RepArgs_ev hs.frame _));refine .inr ⟨g,c.args.map a.eval++us.toArray,?_,?_⟩
     ·obtain ⟨callee,args,ts⟩:=c;simp only at hf;have hb:fn.body≠none:=by have:=hok.body;cases hh:fn.body<;>simp [hh] at this ⊢
      have hne : fn.name ≠ "runtime.NumGoroutine" := by have := hok.name; simpa using this
      simp [execOp,hc,hf,resolve,hev,Deferred.ofValue,invoke,callFunc,hok.at_,hne,hb]
     ·have e:(c.args.toList.map a.eval++us).toArray=c.args.map a.eval++us.toArray:=by apply Array.toList_inj.1;simp
      rw [e] at hcall;exact hcall
    ·exact h.elim
   ·exact h.elim
  ·exact plain K h
  ·exact h.elim
 ·exact plain K h
theorem Loud.mono {P:Program} {m:Sem Next} {w:World} {R R':Value->World->Prop} (h:Loud P m w R) (hh:∀ v w',R v w'->R' v w'):Loud P m w R':=by
 rcases h with ⟨v,w',h1,h2⟩ | ⟨f,args,h1,h2⟩
 ·exact .inl ⟨v,w',h1,hh _ _ h2⟩
 ·refine .inr ⟨f,args,h1,h2.mono ?_⟩;rintro e w' ⟨v,rfl,h3⟩;exact ⟨v,rfl,hh _ _ h3⟩
theorem xloud_loud {G:Fx} (hG:G.Ok) {ch:CallH} (hch:HOk G.X ch) {o:Oper} {ts:List Nat} {s:S} {K:KV} (h:xloud G ch o ts s K) {w0:World} {M:Nat->Prop} {ρ:Env} {a:Act} {w:World} (hs:SatE w0 M ρ s a w) :
 Loud G.X.P (execOp a.eval o) w fun v w'=>Out w0 M ρ s w' v K/\∀ t∈ts,∀ b,(ρ.pl t).fp b->w'.heap[b]? = w.heap[b]?:=by
 unfold xloud at h;cases ts with
 | nil=>exact (xrun_loud hG hch h hs).mono fun v w' ho=>⟨ho,fun t ht=>by cases ht⟩
 | cons t0 ts =>
  simp only at h;cases ha:(t0::ts).all fun t=>(s.hp.find t).isSome with
  | false=>rw [ha] at h;exact h.elim
  | true =>
   rw [ha] at h;simp only [cond_true] at h;have hs':SatE w (frozenM ρ (s.hp.freeze (t0::ts))) ρ (s.put (s.hp.freeze (t0::ts))) a w:=⟨hs.defers,hs.size,hs.n,hs.frame,hs.heap.freeze _⟩
   refine (xrun_loud hG hch h hs').mono fun v w' ho=>?_;obtain ⟨sv,s',ρ',h1,h2,h3,h4,h5,h6,h7⟩:=ho;refine ⟨⟨sv,_,ρ',h1,h2,h3,h4,h5,h6,hs.heap.thaw h4 h7⟩,fun t ht b hb=>frozen_keeps hs.heap h7 ht ?_ hb⟩;exact List.all_eq_true.1 ha t ht
def Known (P:Program) (ρ:Env) (w:World) (E:List (Nat × Option Nat)) (e:Nat × Sem Next × Value):Prop :=
 (∀ w':World,e.2.1.run P w' = .ok (.value e.2.2) w')\/(∃ t,(e.1,some t)∈E/\t<ρ.n/\∀ w':World,(∀ b,(ρ.pl t).fp b->w'.heap[b]? = w.heap[b]?)->e.2.1.run P w' = .ok (.value e.2.2) w')\/(e.1,none)∈E
theorem toFreeze_spec {g:RG} {i:Nat}:∀ {E:List (Nat × Option Nat)} {ts:List Nat},toFreeze g i E=some ts->∀ {e x},(e,x)∈E->g.anc e i=false->∃ t∈ts,x=some t
 | [],_,_,_,_,hm,_=>by cases hm
 | (e',x')::E,ts,h,e,x,hm,ha=>by
  simp only [toFreeze] at h;cases hb:g.anc e' i with
  | true =>
   rw [hb] at h;simp only [cond_true] at h;rcases List.mem_cons.1 hm with h'|h'
   ·cases h';rw [hb] at ha;cases ha
   ·exact toFreeze_spec h h' ha
  | false =>
   rw [hb] at h;simp only [cond_false] at h;split at h
   ·rename_i t ts' h1;cases h;rcases List.mem_cons.1 hm with h'|h'
    ·cases h';exact ⟨t,List.mem_cons_self,rfl⟩
    ·obtain ⟨t',ht,e'⟩:=toFreeze_spec h1 h' ha;exact ⟨t',List.mem_cons_of_mem _ ht,e'⟩
   ·cases h
theorem xdraw_run {G:Fx} (hG:G.Ok) {ch:CallH} (hch:HOk G.X ch) {all:List Oper} {g:RG} {w0:World} {M:Nat->Prop} {Q:Act->World->Prop} {K:S->Prop}:∀ (pi:List (Nat × Bool)) (E:List (Nat × Option Nat)) (Es:List (Nat × Sem Next × Value)) (s:S) (ρ:Env) (a:Act) (w:World),
 xdraw G ch all g pi E s K->SatE w0 M ρ s a w->(∀ e∈Es,Known G.X.P ρ w E e) ->
 (∀ s' ρ' a' w',K s'->ρ.le ρ'->SatE w0 M ρ' s' a' w'->Q a' w')->nrun G.X.P all.toArray g.anc Q pi Es a w
 | [],E,Es,s,ρ,a,w,h,hs,_,hQ=>hQ s ρ a w h (Env.le.refl ρ) hs
 | (i,loud)::r,E,Es,s,ρ,a,w,h,hs,hE,hQ=>by
  simp only [xdraw] at h;simp only [nrun];cases ho:all[i]? with
  | none=>rw [ho] at h;exact h.elim
  | some o =>
   rw [ho] at h;have ho':all.toArray[i]? = some o:=by simpa using ho
   rw [ho'];simp only at h ⊢;obtain ⟨s',_,hs',_,hcase⟩:=xguard_ok h hs;rcases hcase with ⟨hw,h⟩ | ⟨hw,h⟩
   ·rw [if_pos hw];cases loud with
    | true =>
     simp only [cond_true,if_true] at h ⊢;cases hf:toFreeze g i E with
     | none=>rw [hf] at h;exact h.elim
     | some ts =>
      rw [hf] at h;simp only at h;refine (xloud_loud hG hch h hs').mono ?_;rintro v w' ⟨hout,hkeep⟩;refine ⟨?_,?_⟩
      ·intro e he hae;rcases hE e he with k | ⟨t,k1,k2,k3⟩|k
       ·exact k w'
       ·obtain ⟨t',ht',e'⟩:=toFreeze_spec hf k1 hae;cases e';exact k3 w' (hkeep t ht')
       ·obtain ⟨t',ht',e'⟩:=toFreeze_spec hf k hae;cases e'
      ·obtain ⟨sv,s2,ρ',hK,hle,hv,hs2⟩:=hout.sat hs';obtain ⟨s3,h3,hs3⟩:=xput_ok hK hs2 hv;refine xdraw_run hG hch r _ (Es.filter fun e=>!g.anc e.1 i) s3 ρ' _ w' h3 hs3 ?_ fun s4 ρ4 a4 w4 k hl hs4=>hQ s4 ρ4 a4 w4 k (hle.trans hl) hs4;intro e he;obtain ⟨he,hna⟩:=List.mem_filter.1 he;have hae:g.anc e.1 i=false:=by simpa using hna
       rcases hE e he with k | ⟨t,k1,k2,k3⟩|k
       ·exact .inl k
       ·have hm:(e.1,some t)∈stale g i E:=List.mem_filter.2 ⟨k1,by simp [hae]⟩;obtain ⟨t',ht',e'⟩:=toFreeze_spec hf k1 hae;cases e';refine .inr (.inl ⟨t,hm,Nat.lt_of_lt_of_le k2 hle.n,fun w'' hw''=>k3 w'' fun b hb=>?_⟩);exact (hw'' b (by rw [hle.pl t k2];exact hb)).trans (hkeep t ht' b hb)
       ·exact .inr (.inr (List.mem_filter.2 ⟨k,by simp [hae]⟩))
    | false =>
     simp only [cond_false,Bool.false_eq_true,if_false] at h ⊢;cases hq:isQuiet o with
     | false=>rw [hq] at h;exact h.elim
     | true =>
      rw [hq] at h;simp only [cond_true] at h;obtain ⟨v,sv,h1,h2,h3⟩:=xop_quiet hG.cx hq h w0 M ρ a w hs';refine ⟨v,h3 w fun _ _ _ _=>rfl,?_⟩;obtain ⟨s3,h4,hs3⟩:=xput_ok h1 hs' h2;refine xdraw_run hG hch r _ _ s3 ρ _ w h4 hs3 ?_ hQ;intro e he;rcases List.mem_cons.1 he with rfl|he
      ·cases hr:rtag o s' with
       | none=>exact .inl fun w'=>h3 w' fun t ht=>by rw [hr] at ht;cases ht
       | some t =>
        refine .inr (.inl ⟨t,List.mem_cons_self,?_,fun w' hw'=>h3 w' fun t' ht'=>?_⟩)
        ·have hp:∀ x,vtag s'.hp (s'.ev x)=some t->t<ρ.n:=by
          intro x hr;have:=hs'.frame.ev x;unfold vtag at hr;split at hr
          ·obtain ⟨e,he,rfl⟩:=findPl_mem hr;exact (hs'.heap.ent e he).tag
          unfold ptag at hr;split at hr
          ·rename_i e;cases hr;rw [e] at this;exact this.1
          ·rename_i e;cases hr;rw [e] at this;exact this.1
          ·cases hr
         unfold rtag at hr;split at hr
         ·exact hp _ hr
         ·exact hp _ hr
         ·cases hr
        ·rw [hr] at ht';cases ht';exact hw'
      ·rcases hE e he with k | ⟨t,k1,k2,k3⟩|k
       ·exact .inl k
       ·refine .inr (.inl ⟨t,?_,k2,k3⟩);split
        ·exact List.mem_cons_of_mem _ k1
        ·exact k1
       ·refine .inr (.inr ?_);split
        ·exact List.mem_cons_of_mem _ k
        ·exact k
   ·rw [if_neg (by simp [hw])];obtain ⟨s3,h3,hs3⟩:=xput_ok h hs' (v:=undef) ⟨[],rfl,rfl⟩;exact xdraw_run hG hch r E Es s3 ρ _ w h3 hs3 hE hQ
theorem SatE.draw {w0:World} {M:Nat->Prop} {ρ:Env} {s:S} {a:Act} {w:World} (h:SatE w0 M ρ s a w):SatE w0 M ρ s a { w with drawn:=w.drawn+1 } :=
 ⟨h.defers,h.size,h.n,h.frame,h.heap.world (M':=fun _=>False) ⟨rfl,rfl,rfl,Nat.le_refl _,fun _ _ _=>rfl,fun _ _=>rfl⟩ (fun _ _ h=>h.elim) fun _ _ _ _=>rfl⟩
theorem xdraw_wp {G:Fx} (hG:G.Ok) {ch:CallH} (hch:HOk G.X ch) {all:List Oper} {g:RG} (hg:rgOk all g=true) {w0:World} {M:Nat->Prop} {Q:Exit->Act->World->Prop} {K:S->Prop} {id:Nat} {s:S} {ρ:Env} {a:Act} {w:World}
 (h:xdraw G ch all g g.pi [] s K) (hs:SatE w0 M ρ s a w) (hQ:∀ s' ρ' a' w',K s'->ρ.le ρ'->SatE w0 M ρ' s' a' w'->Q .normal a' w'):(Code.region id all.toArray true).wp G.X.P Q a w:=by
 obtain ⟨hlen,hf,hst,hlo⟩:=rg_ok hg;refine wp_region_any hG.cx.mixed ?_;refine any_of_one hf (Q:=fun a' w'=>Q .normal a' w') (fun _ _ h=>h) _ [] g.pi [] _ a _ ?_ hst (fun d hd=>by cases hd) hlo trivial (fun d hd=>by cases hd) ?_
 ·simpa using hlen
 ·exact xdraw_run hG hch g.pi [] [] s ρ a _ h hs.draw (fun e he=>by cases he) hQ
def xone (G:Fx) (ch:CallH) (all:List Oper) (g:RG) (i:Nat) (loud:Bool) (E:List (Nat × Option Nat)) (s:S) (K:List (Nat × Option Nat)->S->Prop):Prop :=
 match all[i]? with
 | none=>False
 | some o=>xguard G.X all o s
  (fun s=>bif loud then
   (match toFreeze g i E with
   | none=>False
   | some ts=>xloud G ch o ts s fun v s=>xput o v s fun s=>K (stale g i E) s)
   else bif isQuiet o then
    xop G.X o s fun v s1=>xput o v s1 fun s2=>K (match rtag o s with|some t=>(i,some t)::E|none=>E) s2
   else False)
  (fun s=>xput o (.tup []) s fun s=>K E s)
def xquiets (G:Fx) (ch:CallH) (all:List Oper) (g:RG):List Nat->List (Nat × Option Nat)->S->(List (Nat × Option Nat)->S->Prop)->Prop
 | [],E,s,K=>K E s
 | i::r,E,s,K=>xone G ch all g i false E s fun E s=>xquiets G ch all g r E s K
def xdrawR (G:Fx) (ch:CallH) (all:List Oper) (g:RG):RT->List (Nat × Option Nat)->S->(S->Prop)->Prop
 | .one pi,E,s,K=>xdraw G ch all g pi E s K
 | .two L x tx y ty,E,s,K=>xquiets G ch all g L E s fun E s=>xone G ch all g x true E s (fun E s=>xdrawR G ch all g tx E s K)/\xone G ch all g y true E s (fun E s=>xdrawR G ch all g ty E s K)
def After (P:Program) (w0:World) (M:Nat->Prop) (ρ:Env) (Kc:List (Nat × Option Nat)->S->Prop) (Es:List (Nat × Sem Next × Value)) (a:Act) (w:World):Prop :=
 ∃ E' s' ρ',Kc E' s'/\ρ.le ρ'/\SatE w0 M ρ' s' a w/\∀ e∈Es,Known P ρ' w E' e
theorem xone_loud {G:Fx} (hG:G.Ok) {ch:CallH} (hch:HOk G.X ch) {all:List Oper} {g:RG} {i:Nat} {E:List (Nat × Option Nat)} {s:S} {Kc:List (Nat × Option Nat)->S->Prop} (h:xone G ch all g i true E s Kc) {w0:World} {M:Nat->Prop} {ρ:Env} {a:Act} {w:World} {Es:List (Nat × Sem Next × Value)}
 (hs:SatE w0 M ρ s a w) (hE:∀ e∈Es,Known G.X.P ρ w E e):nstep G.X.P all.toArray g.anc i (After G.X.P w0 M ρ Kc) Es a w:=by
 unfold xone at h;unfold nstep;cases ho:all[i]? with
 | none=>rw [ho] at h;exact h.elim
 | some o =>
  rw [ho] at h;have ho':all.toArray[i]? = some o:=by simpa using ho
  rw [ho'];simp only at h ⊢;obtain ⟨s',_,hs',_,hcase⟩:=xguard_ok h hs;rcases hcase with ⟨hw,h⟩ | ⟨hw,h⟩
  ·rw [if_pos hw];simp only [cond_true] at h;cases hf:toFreeze g i E with
   | none=>rw [hf] at h;exact h.elim
   | some ts =>
    rw [hf] at h;simp only at h;refine (xloud_loud hG hch h hs').mono ?_;rintro v w' ⟨hout,hkeep⟩;refine ⟨?_,?_⟩
    ·intro e he hae;rcases hE e he with k | ⟨t,k1,k2,k3⟩|k
     ·exact k w'
     ·obtain ⟨t',ht',e'⟩:=toFreeze_spec hf k1 hae;cases e';exact k3 w' (hkeep t ht')
     ·obtain ⟨t',ht',e'⟩:=toFreeze_spec hf k hae;cases e'
    ·obtain ⟨sv,s2,ρ',hK,hle,hv,hs2⟩:=hout.sat hs';obtain ⟨s3,h3,hs3⟩:=xput_ok hK hs2 hv;refine ⟨_,s3,ρ',h3,hle,hs3,?_⟩;intro e he;obtain ⟨he,hna⟩:=List.mem_filter.1 he;have hae:g.anc e.1 i=false:=by simpa using hna
     rcases hE e he with k | ⟨t,k1,k2,k3⟩|k
     ·exact .inl k
     ·have hm:(e.1,some t)∈stale g i E:=List.mem_filter.2 ⟨k1,by simp [hae]⟩;obtain ⟨t',ht',e'⟩:=toFreeze_spec hf k1 hae;cases e';refine .inr (.inl ⟨t,hm,Nat.lt_of_lt_of_le k2 hle.n,fun w'' hw''=>k3 w'' fun b hb=>?_⟩);exact (hw'' b (by rw [hle.pl t k2];exact hb)).trans (hkeep t ht' b hb)
     ·exact .inr (.inr (List.mem_filter.2 ⟨k,by simp [hae]⟩))
  ·rw [if_neg (by simp [hw])];obtain ⟨s3,h3,hs3⟩:=xput_ok h hs' (v:=undef) ⟨[],rfl,rfl⟩;exact ⟨_,s3,ρ,h3,Env.le.refl ρ,hs3,hE⟩
theorem xquiets_run {G:Fx} (hG:G.Ok) {ch:CallH} {all:List Oper} {g:RG} {Kc:List (Nat × Option Nat)->S->Prop} {w0:World} {M:Nat->Prop} {ρ:Env} {w:World}:∀ (L:List Nat) (E:List (Nat × Option Nat)) (s:S) (a:Act) (Es:List (Nat × Sem Next × Value)),xquiets G ch all g L E s Kc ->
 SatE w0 M ρ s a w->(∀ e∈Es,Known G.X.P ρ w E e)->nrunL G.X.P all.toArray (After G.X.P w0 M ρ Kc) L Es a w
 | [],E,s,a,Es,h,hs,hE=>⟨E,s,ρ,h,Env.le.refl ρ,hs,hE⟩
 | i::L,E,s,a,Es,h,hs,hE=>by
  simp only [xquiets,xone] at h;simp only [nrunL];cases ho:all[i]? with
  | none=>rw [ho] at h;exact h.elim
  | some o =>
   rw [ho] at h;have ho':all.toArray[i]? = some o:=by simpa using ho
   rw [ho'];simp only at h ⊢;obtain ⟨s',_,hs',_,hcase⟩:=xguard_ok h hs;rcases hcase with ⟨hw,h⟩ | ⟨hw,h⟩
   ·rw [if_pos hw];simp only [cond_false] at h;cases hq:isQuiet o with
    | false=>rw [hq] at h;exact h.elim
    | true =>
     rw [hq] at h;simp only [cond_true] at h;obtain ⟨v,sv,h1,h2,h3⟩:=xop_quiet hG.cx hq h w0 M ρ a w hs';refine ⟨v,h3 w fun _ _ _ _=>rfl,?_⟩;obtain ⟨s3,h4,hs3⟩:=xput_ok h1 hs' h2;refine xquiets_run hG L _ s3 _ _ h4 hs3 ?_;intro e he;rcases List.mem_cons.1 he with rfl|he
     ·cases hr:rtag o s' with
      | none=>exact .inl fun w'=>h3 w' fun t ht=>by rw [hr] at ht;cases ht
      | some t =>
       refine .inr (.inl ⟨t,List.mem_cons_self,?_,fun w' hw'=>h3 w' fun t' ht'=>?_⟩)
       ·have hp:∀ x,vtag s'.hp (s'.ev x)=some t->t<ρ.n:=by
         intro x hr;have:=hs'.frame.ev x;unfold vtag at hr;split at hr
         ·obtain ⟨e,he,rfl⟩:=findPl_mem hr;exact (hs'.heap.ent e he).tag
         unfold ptag at hr;split at hr
         ·rename_i e;cases hr;rw [e] at this;exact this.1
         ·rename_i e;cases hr;rw [e] at this;exact this.1
         ·cases hr
        unfold rtag at hr;split at hr
        ·exact hp _ hr
        ·exact hp _ hr
        ·cases hr
       ·rw [hr] at ht';cases ht';exact hw'
     ·rcases hE e he with k | ⟨t,k1,k2,k3⟩|k
      ·exact .inl k
      ·refine .inr (.inl ⟨t,?_,k2,k3⟩);split
       ·exact List.mem_cons_of_mem _ k1
       ·exact k1
      ·refine .inr (.inr ?_);split
       ·exact List.mem_cons_of_mem _ k
       ·exact k
   ·rw [if_neg (by simp [hw])];obtain ⟨s3,h3,hs3⟩:=xput_ok h hs' (v:=undef) ⟨[],rfl,rfl⟩;exact xquiets_run hG L _ s3 _ _ h3 hs3 hE
theorem nstep_mono {P:Program} {ops:Array Oper} {anc:Nat->Nat->Bool} {x:Nat} {K K':List (Nat × Sem Next × Value)->Act->World->Prop} (hk:∀ E a w,K E a w->K' E a w) {E:List (Nat × Sem Next × Value)} {a:Act} {w:World} (h:nstep P ops anc x K E a w):nstep P ops anc x K' E a w:=by
 unfold nstep at h ⊢;cases ho:ops[x]? with
 | none=>rw [ho] at h;exact h.elim
 | some o =>
  rw [ho] at h;simp only at h ⊢;by_cases hw:Region.wanted o (yielded ops a.tmps)=true
  ·rw [if_pos hw] at h ⊢;exact h.mono fun v w' ⟨h1,h2⟩=>⟨h1,hk _ _ _ h2⟩
  ·rw [if_neg hw] at h ⊢;exact hk _ _ _ h
theorem xdrawR_run {G:Fx} (hG:G.Ok) {ch:CallH} (hch:HOk G.X ch) {all:List Oper} {g:RG} {w0:World} {M:Nat->Prop} {Q:Act->World->Prop} {K:S->Prop}:∀ (T:RT) (E:List (Nat × Option Nat)) (Es:List (Nat × Sem Next × Value)) (s:S) (ρ:Env) (a:Act) (w:World),
 xdrawR G ch all g T E s K->SatE w0 M ρ s a w->(∀ e∈Es,Known G.X.P ρ w E e) ->
 (∀ s' ρ' a' w',K s'->ρ.le ρ'->SatE w0 M ρ' s' a' w'->Q a' w')->nrunT G.X.P all.toArray g.anc Q T Es a w
 | .one pi,E,Es,s,ρ,a,w,h,hs,hE,hQ=>xdraw_run hG hch pi E Es s ρ a w h hs hE hQ
 | .two L x tx y ty,E,Es,s,ρ,a,w,h,hs,hE,hQ=>by
  simp only [xdrawR] at h;simp only [nrunT];refine nrunL_mono ?_ L Es a w (xquiets_run hG L E s a Es h hs hE);rintro Es1 a1 w1 ⟨E1,s1,ρ1,⟨h1,h2⟩,hle,hs1,hE1⟩;refine ⟨nstep_mono ?_ (xone_loud hG hch h1 hs1 hE1),nstep_mono ?_ (xone_loud hG hch h2 hs1 hE1)⟩
  ·rintro Es2 a2 w2 ⟨E2,s2,ρ2,h3,hle2,hs2,hE2⟩;exact xdrawR_run hG hch tx E2 Es2 s2 ρ2 a2 w2 h3 hs2 hE2 fun s' ρ' a' w' k hl hs'=>hQ s' ρ' a' w' k (hle.trans (hle2.trans hl)) hs'
  ·rintro Es2 a2 w2 ⟨E2,s2,ρ2,h3,hle2,hs2,hE2⟩;exact xdrawR_run hG hch ty E2 Es2 s2 ρ2 a2 w2 h3 hs2 hE2 fun s' ρ' a' w' k hl hs'=>hQ s' ρ' a' w' k (hle.trans (hle2.trans hl)) hs'
def xdrawT (G:Fx) (ch:CallH) (all:List Oper) (g:RG) (s:S) (K:S->Prop):Prop :=
 match g.tr with
 | some T=>xdrawR G ch all g T [] s K
 | none=>match g.two with
  | 0=>xdraw G ch all g g.pi [] s K
  | k+1=>match g.pi.drop k with
   | p::q::R=>xdraw G ch all g (g.pi.take k++p::q::R) [] s K/\xdraw G ch all g (g.pi.take k++q::p::R) [] s K
   | _=>False
theorem xdrawT_wp {G:Fx} (hG:G.Ok) {ch:CallH} (hch:HOk G.X ch) {all:List Oper} {g:RG} (hg:rgOkT all g=true) {w0:World} {M:Nat->Prop} {Q:Exit->Act->World->Prop} {K:S->Prop} {id:Nat} {s:S} {ρ:Env} {a:Act} {w:World}
 (h:xdrawT G ch all g s K) (hs:SatE w0 M ρ s a w) (hQ:∀ s' ρ' a' w',K s'->ρ.le ρ'->SatE w0 M ρ' s' a' w'->Q .normal a' w'):(Code.region id all.toArray true).wp G.X.P Q a w:=by
 unfold xdrawT at h;unfold rgOkT at hg;cases htr:g.tr with
 | some T =>
  rw [htr] at h hg;obtain ⟨hlen,hf,hst,hok⟩:=tree_ok hg;refine wp_region_any hG.cx.mixed ?_;refine any_of_tree hf (Q:=fun a' w'=>Q .normal a' w') (fun _ _ h=>h) _ [] T [] _ a _ ?_ (by simpa using hst) hok (fun d hd=>by cases hd) trivial (fun d hd=>by cases hd) ?_
  ·simpa using hlen
  ·exact xdrawR_run hG hch T [] [] s ρ a _ h hs.draw (fun e he=>by cases he) hQ
 | none =>
 rw [htr] at h hg;simp only at h hg;cases ht:g.two with
 | zero=>rw [ht] at h hg;exact xdraw_wp hG hch hg h hs hQ
 | succ k =>
  rw [ht] at h hg;simp only at h hg;split at hg
  ·rename_i x y R e;rw [e] at h;simp only [Bool.and_eq_true] at hg;obtain ⟨⟨hq,h1⟩,h2⟩:=hg;obtain ⟨hlen,hf,hst1,hlo1⟩:=rg_ok h1;obtain ⟨_,_,hst2,hlo2⟩:=rg_ok h2;have hqm:=quiets_map hq;refine wp_region_any hG.cx.mixed ?_;have r1:=xdraw_run (Q:=fun a' w'=>Q .normal a' w') hG hch _ [] [] s ρ a _ h.1 hs.draw (fun e he=>by cases he) hQ;have r2:=xdraw_run (Q:=fun a' w'=>Q .normal a' w') hG hch _ [] [] s ρ a _ h.2 hs.draw (fun e he=>by cases he) hQ;rw [hqm] at r1 r2;have rr:=nrunL_both _ _ _ _ r1 r2;refine any_of_two (anc:=g.anc) (x:=x) (y:=y) (R:=R) hf (Q:=fun a' w'=>Q .normal a' w') (fun _ _ h=>h) ?_ ?_ ?_ _ [] ((g.pi.take k).map (·.1)) [] _ a _ ?_ ?_ ?_ (fun d hd=>by cases hd) trivial (fun d hd=>by cases hd) rr
   ·intro L' R' z ez q hq;exact hlo1 (g.pi.take k++(x,false)::(y,true)::L') R' z (by rw [ez];simp) q hq
   ·exact hlo2 (g.pi.take k++[(y,false)]) R x (by simp)
   ·exact hlo1 (g.pi.take k++[(x,false)]) R y (by simp)
   ·have:(g.pi.take k++(x,false)::(y,true)::R).length=all.length:=hlen;simp only [List.length_append,List.length_cons,List.length_map,List.length_nil,Nat.zero_add] at this ⊢;show _=all.toArray.size;simp only [List.size_toArray];omega
   ·simpa using hst1
   ·simpa using hst2
  ·cases hg
end
end Go.Sx

namespace Go.Sx
section
abbrev Sub:=List (Nat × Option Nat)
def subAt:Sub->Nat->Option (Option Nat)
 | [],_=>none
 | (j,v)::r,t=>bif Nat.beq j t then some v else subAt r t
def oeq:Option Nat->Option Nat->Bool
 | none,none=>true
 | some a,some b=>Nat.beq a b
 | _,_=>false
theorem oeq_eq {a b:Option Nat} (h:oeq a b=true):a=b:=by
 cases a<;>cases b<;>simp [oeq] at h<;>simp [h]
def bindT (n0 N:Nat) (σ:Sub) (T:Nat) (x:Option Nat) (K:Sub->Prop):Prop :=
 match subAt σ T with
 | some y=>bif oeq y x then K σ else False
 | none=>bif Nat.blt T N&&(Nat.ble n0 T||oeq x (some T)) then K ((T,x)::σ) else False
def nilPlace:Place:=⟨0,0,0,fun _=>False⟩
def placeOf (ρ:Env):Option Nat->Place
 | some t=>ρ.pl t
 | none=>nilPlace
structure Ext (σ σ':Sub):Prop where
 at_:∀ T x,subAt σ T=some x->subAt σ' T=some x
theorem Ext.refl (σ:Sub):Ext σ σ:=⟨fun _ _ h=>h⟩
theorem Ext.trans {a b c:Sub} (h:Ext a b) (k:Ext b c):Ext a c:=⟨fun T x e=>k.at_ T x (h.at_ T x e)⟩
structure Wf (n0 N:Nat) (σ:Sub):Prop where
 lt:∀ T x,subAt σ T=some x->T<N
 id:∀ T x,subAt σ T=some x->T<n0->x=some T
theorem Wf.nil (n0 N:Nat):Wf n0 N []:=⟨fun _ _ h=>(by cases h),fun _ _ h=>(by cases h)⟩
def Fits (ρ ρ':Env) (σ:Sub):Prop:=∀ T x,subAt σ T=some x->T<ρ'.n/\ρ'.pl T=placeOf ρ x
theorem Fits.ext {ρ ρ':Env} {σ σ':Sub} (h:Fits ρ ρ' σ') (k:Ext σ σ'):Fits ρ ρ' σ:=fun T x e=>h T x (k.at_ T x e)
theorem bindT_ok {n0 N:Nat} {σ:Sub} {T:Nat} {x:Option Nat} {K:Sub->Prop} (h:bindT n0 N σ T x K) (hw:Wf n0 N σ):∃ σ',K σ'/\Ext σ σ'/\Wf n0 N σ'/\subAt σ' T=some x:=by
 unfold bindT at h;split at h
 ·rename_i y hy;cases hb:oeq y x
  ·rw [hb] at h;exact h.elim
  ·rw [hb] at h;have:=oeq_eq hb;subst this;exact ⟨σ,h,Ext.refl σ,hw,hy⟩
 ·rename_i hn;cases hb:(Nat.blt T N&&(Nat.ble n0 T||oeq x (some T)))
  ·rw [hb] at h;exact h.elim
  ·rw [hb] at h;simp only [Bool.and_eq_true,Bool.or_eq_true] at hb;obtain ⟨h1,h2⟩:=hb;have hlt:T<N:=by simp [Nat.blt] at h1;omega
   have hself:subAt ((T,x)::σ) T=some x:=by simp [subAt]
   refine ⟨_,h,⟨fun T' x' e=>?_⟩,⟨fun T' x' e=>?_,fun T' x' e hl=>?_⟩,hself⟩
   ·simp only [subAt];by_cases he:T=T'
    ·subst he;rw [hn] at e;cases e
    ·rw [beq_ne he];exact e
   ·simp only [subAt] at e;by_cases he:T=T'
    ·subst he;exact hlt
    ·rw [beq_ne he] at e;exact hw.lt _ _ e
   ·simp only [subAt] at e;by_cases he:T=T'
    ·subst he;simp only [beq_self',cond_true,Option.some.injEq] at e;subst e;rcases h2 with h2|h2
     ·have:=Nat.le_of_ble_eq_true h2;omega
     ·exact oeq_eq h2
    ·rw [beq_ne he] at e;exact hw.id _ _ e hl
def matchI (x:A) (k:IntKind) (n:Int) (K:Prop):Prop :=
 match x.i? with
 | some (j,m)=>bif keq j k then m=n/\K else False
 | none=>False
def matchB (x:A) (b:Bool) (K:Prop):Prop :=
 match x.b? with
 | some c=>c=b/\K
 | none=>False
def matchA (n0 N:Nat) (σ:Sub) (x y:A) (K:Sub->Prop):Prop :=
 match y with
 | .any=>K σ
 | .lit k n=>matchI x k n (K σ)
 | .int k n=>matchI x k n (K σ)
 | .tt=>matchB x true (K σ)
 | .ff=>matchB x false (K σ)
 | .bool b=>matchB x b (K σ)
 | .str t=>match x with
  | .str s=>s=t/\K σ
  | _=>False
 | .nil=>match x with
  | .nil=>K σ
  | _=>False
 | .snil=>match x with
  | .snil=>K σ
  | _=>False
 | .fn g=>match x with
  | .fn f=>bif Nat.beq f g then K σ else False
  | _=>False
 | .val u=>match x with
  | .val v=>v=u/\K σ
  | .snil=>Value.slice none 0 0=u/\K σ
  | .nil=>Value.pointer none=u/\K σ
  | _=>False
 | .ptr T R E C=>match x with
  | .ptr t r e c=>bif Nat.beq e E&&Nat.beq c C then r=R/\bindT n0 N σ T (some t) K else False
  | _=>False
 | .slc T R E L C=>match x with
  | .slc t r e l c=>bif Nat.beq e E then (r=R/\l=L/\c=C)/\bindT n0 N σ T (some t) K else False
  | .snil=>(0=L/\0=C)/\bindT n0 N σ T none K
  | _=>False
 | .sub T R E O L C=>match x with
  | .sub t r e o l c=>bif Nat.beq e E&&Nat.beq o O then (r=R/\l=L/\c=C)/\bindT n0 N σ T (some t) K else False
  | _=>False
theorem matchI_ok {x:A} {k:IntKind} {n:Int} {K:Prop} (h:matchI x k n K):K/\∀ (ρ:Env) v,x.Rep ρ v->v = .int k n/\InR k n:=by
 unfold matchI at h;split at h
 ·rename_i j m hi;cases hk:keq j k
  ·rw [hk] at h;exact h.elim
  ·rw [hk] at h;obtain ⟨rfl,h⟩:=h;have:=keq_eq hk;subst this;exact ⟨h,fun ρ v r=>A.i?_rep hi r⟩
 ·exact h.elim
theorem matchB_ok {x:A} {b:Bool} {K:Prop} (h:matchB x b K):K/\∀ (ρ:Env) v,x.Rep ρ v->v = .bool b:=by
 unfold matchB at h;split at h
 ·rename_i c hc;obtain ⟨rfl,h⟩:=h;exact ⟨h,fun ρ v r=>A.b?_rep hc r⟩
 ·exact h.elim
theorem matchA_ok {n0 N:Nat} {σ:Sub} {x y:A} {K:Sub->Prop} (h:matchA n0 N σ x y K) (hw:Wf n0 N σ) :
 ∃ σ',K σ'/\Ext σ σ'/\Wf n0 N σ'/\∀ ρ ρ' v,Fits ρ ρ' σ'->x.Rep ρ v->y.Rep ρ' v:=by
 cases y with
 | any=>exact ⟨σ,h,Ext.refl σ,hw,fun _ _ _ _ _=>trivial⟩
 | lit k n=>obtain ⟨h,hr⟩:=matchI_ok h;exact ⟨σ,h,Ext.refl σ,hw,fun ρ _ v _ r=>hr ρ v r⟩
 | int k n=>obtain ⟨h,hr⟩:=matchI_ok h;exact ⟨σ,h,Ext.refl σ,hw,fun ρ _ v _ r=>hr ρ v r⟩
 | tt=>obtain ⟨h,hr⟩:=matchB_ok h;exact ⟨σ,h,Ext.refl σ,hw,fun ρ _ v _ r=>hr ρ v r⟩
 | ff=>obtain ⟨h,hr⟩:=matchB_ok h;exact ⟨σ,h,Ext.refl σ,hw,fun ρ _ v _ r=>hr ρ v r⟩
 | bool b=>obtain ⟨h,hr⟩:=matchB_ok h;exact ⟨σ,h,Ext.refl σ,hw,fun ρ _ v _ r=>hr ρ v r⟩
 | str t =>
  cases x<;>simp only [matchA] at h<;>try exact h.elim
  obtain ⟨rfl,h⟩:=h;exact ⟨σ,h,Ext.refl σ,hw,fun ρ _ v _ r=>r⟩
 | nil =>
  cases x<;>simp only [matchA] at h<;>try exact h.elim
  exact ⟨σ,h,Ext.refl σ,hw,fun ρ _ v _ r=>r⟩
 | snil =>
  cases x<;>simp only [matchA] at h<;>try exact h.elim
  exact ⟨σ,h,Ext.refl σ,hw,fun ρ _ v _ r=>r⟩
 | fn g =>
  cases x<;>simp only [matchA] at h<;>try exact h.elim
  rename_i f;cases hb:Nat.beq f g
  ·rw [hb] at h;exact h.elim
  ·rw [hb] at h;have:=Nat.eq_of_beq_eq_true hb;subst this;exact ⟨σ,h,Ext.refl σ,hw,fun ρ _ v _ r=>r⟩
 | val u =>
  cases x<;>simp only [matchA] at h<;>try exact h.elim
  ·obtain ⟨rfl,h⟩:=h;exact ⟨σ,h,Ext.refl σ,hw,fun ρ _ v _ r=>⟨r,rfl⟩⟩
  ·obtain ⟨rfl,h⟩:=h;exact ⟨σ,h,Ext.refl σ,hw,fun ρ _ v _ r=>⟨r,rfl⟩⟩
  ·obtain ⟨rfl,h⟩:=h;exact ⟨σ,h,Ext.refl σ,hw,fun ρ _ v _ r=>r⟩
 | ptr T R E C =>
  cases x<;>simp only [matchA] at h<;>try exact h.elim
  rename_i t r e c;cases hb:(Nat.beq e E&&Nat.beq c C)
  ·rw [hb] at h;exact h.elim
  ·rw [hb] at h;simp only [Bool.and_eq_true] at hb;have h1:=Nat.eq_of_beq_eq_true hb.1;have h2:=Nat.eq_of_beq_eq_true hb.2;subst h1;subst h2;obtain ⟨rfl,h⟩:=h;obtain ⟨σ',hk,he,hw',hs⟩:=bindT_ok h hw;refine ⟨σ',hk,he,hw',fun ρ ρ' v hf r=>?_⟩;obtain ⟨h1,h2⟩:=hf _ _ hs;obtain ⟨_,rfl⟩:=r;exact ⟨h1,by rw [h2];rfl⟩
 | slc T R E L C =>
  cases x<;>simp only [matchA] at h<;>try exact h.elim
  ·obtain ⟨⟨rfl,rfl⟩,h⟩:=h;obtain ⟨σ',hk,he,hw',hs⟩:=bindT_ok h hw;refine ⟨σ',hk,he,hw',fun ρ ρ' v hf r=>?_⟩;obtain ⟨h1,h2⟩:=hf _ _ hs;exact ⟨h1,Nat.le_refl _,by unfold lenMax;omega,.inl ⟨rfl,rfl,r⟩⟩
  ·rename_i t r e l c;cases hb:Nat.beq e E
   ·rw [hb] at h;exact h.elim
   ·rw [hb] at h;have h1:=Nat.eq_of_beq_eq_true hb;subst h1;obtain ⟨⟨rfl,rfl,rfl⟩,h⟩:=h;obtain ⟨σ',hk,he,hw',hs⟩:=bindT_ok h hw;refine ⟨σ',hk,he,hw',fun ρ ρ' v hf r=>?_⟩;obtain ⟨h1,h2⟩:=hf _ _ hs;obtain ⟨_,h3,h4,h5⟩:=r;exact ⟨h1,h3,h4,by rw [h2];exact h5⟩
 | sub T R E O L C =>
  cases x<;>simp only [matchA] at h<;>try exact h.elim
  rename_i t r e o l c;cases hb:(Nat.beq e E&&Nat.beq o O)
  ·rw [hb] at h;exact h.elim
  ·rw [hb] at h;simp only [Bool.and_eq_true] at hb;have h1:=Nat.eq_of_beq_eq_true hb.1;have h2:=Nat.eq_of_beq_eq_true hb.2;subst h1;subst h2;obtain ⟨⟨rfl,rfl,rfl⟩,h⟩:=h;obtain ⟨σ',hk,he,hw',hs⟩:=bindT_ok h hw;refine ⟨σ',hk,he,hw',fun ρ ρ' v hf r=>?_⟩;obtain ⟨h1,h2⟩:=hf _ _ hs;obtain ⟨_,h3,h4,rfl⟩:=r;exact ⟨h1,h3,h4,by rw [h2];rfl⟩
def matchL (n0 N:Nat):Sub->List A->List A->(Sub->Prop)->Prop
 | σ,[],[],K=>K σ
 | σ,x::xs,y::ys,K=>matchA n0 N σ x y fun σ=>matchL n0 N σ xs ys K
 | _,_,_,_=>False
theorem matchL_ok {n0 N:Nat} {K:Sub->Prop}:∀ {σ:Sub} {xs ys:List A},matchL n0 N σ xs ys K->Wf n0 N σ ->
 ∃ σ',K σ'/\Ext σ σ'/\Wf n0 N σ'/\∀ ρ ρ' vs,Fits ρ ρ' σ'->RepL ρ xs vs->RepL ρ' ys vs
 | σ,[],[],h,hw=>⟨σ,h,Ext.refl σ,hw,fun _ _ _ _ r=>r⟩
 | σ,x::xs,y::ys,h,hw=>by
  obtain ⟨σ1,h1,e1,w1,r1⟩:=matchA_ok h hw;obtain ⟨σ2,h2,e2,w2,r2⟩:=matchL_ok h1 w1;refine ⟨σ2,h2,e1.trans e2,w2,fun ρ ρ' vs hf r=>?_⟩;obtain ⟨v,t,e,ra,rb⟩:=r;exact ⟨v,t,e,r1 ρ ρ' v (hf.ext e2) ra,r2 ρ ρ' t hf rb⟩
 | _,[],_::_,h,_=>h.elim
 | _,_::_,[],h,_=>h.elim
def matchCV (n0 N:Nat) (σ:Sub) (x y:CV) (K:Sub->Prop):Prop :=
 match x,y with
 | .a x,.a y=>matchA n0 N σ x y K
 | .agg xs,.agg ys=>matchL n0 N σ xs ys K
 | _,_=>False
theorem matchCV_ok {n0 N:Nat} {K:Sub->Prop} {σ:Sub} {x y:CV} (h:matchCV n0 N σ x y K) (hw:Wf n0 N σ) :
 ∃ σ',K σ'/\Ext σ σ'/\Wf n0 N σ'/\∀ ρ ρ' v,Fits ρ ρ' σ'->x.Rep ρ v->y.Rep ρ' v:=by
 cases x<;>cases y<;>simp only [matchCV] at h
 ·exact matchA_ok h hw
 ·obtain ⟨σ',h1,h2,h3,h4⟩:=matchL_ok h hw;refine ⟨σ',h1,h2,h3,fun ρ ρ' v hf r=>?_⟩;obtain ⟨vs,e,r⟩:=r;exact ⟨vs,e,h4 ρ ρ' vs hf r⟩
def matchCs (n0 N:Nat):Sub->List CV->List CV->(Sub->Prop)->Prop
 | σ,[],[],K=>K σ
 | σ,x::xs,y::ys,K=>matchCV n0 N σ x y fun σ=>matchCs n0 N σ xs ys K
 | _,_,_,_=>False
theorem matchCs_ok {n0 N:Nat} {K:Sub->Prop}:∀ {σ:Sub} {xs ys:List CV},matchCs n0 N σ xs ys K->Wf n0 N σ ->
 ∃ σ',K σ'/\Ext σ σ'/\Wf n0 N σ'/\∀ ρ ρ' vs,Fits ρ ρ' σ'->RepC ρ xs vs->RepC ρ' ys vs
 | σ,[],[],h,hw=>⟨σ,h,Ext.refl σ,hw,fun _ _ _ _ r=>r⟩
 | σ,x::xs,y::ys,h,hw=>by
  obtain ⟨σ1,h1,e1,w1,r1⟩:=matchCV_ok h hw;obtain ⟨σ2,h2,e2,w2,r2⟩:=matchCs_ok h1 w1;refine ⟨σ2,h2,e1.trans e2,w2,fun ρ ρ' vs hf r=>?_⟩;obtain ⟨v,t,e,ra,rb⟩:=r;exact ⟨v,t,e,r1 ρ ρ' v (hf.ext e2) ra,r2 ρ ρ' t hf rb⟩
 | _,[],_::_,h,_=>h.elim
 | _,_::_,[],h,_=>h.elim
def isAny:SV->Bool
 | .a .any=>true
 | _=>false
def matchV (n0 N:Nat) (σ:Sub) (x y:SV) (K:Sub->Prop):Prop :=
 bif isAny y then K σ else
 match x,y with
 | .a x,.a y=>matchA n0 N σ x y K
 | .agg xs,.agg ys=>matchL n0 N σ xs ys K
 | .tup xs,.tup ys=>matchCs n0 N σ xs ys K
 | .clo f xs,.clo g ys=>bif Nat.beq f g then matchL n0 N σ xs ys K else False
 | _,_=>False
theorem matchV_ok {n0 N:Nat} {K:Sub->Prop} {σ:Sub} {x y:SV} (h:matchV n0 N σ x y K) (hw:Wf n0 N σ) :
 ∃ σ',K σ'/\Ext σ σ'/\Wf n0 N σ'/\∀ ρ ρ' v,Fits ρ ρ' σ'->x.Rep ρ v->y.Rep ρ' v:=by
 unfold matchV at h;cases hb:isAny y
 ·rw [hb] at h;simp only [cond_false] at h;split at h
  ·exact matchA_ok h hw
  ·obtain ⟨σ',h1,h2,h3,h4⟩:=matchL_ok h hw;refine ⟨σ',h1,h2,h3,fun ρ ρ' v hf r=>?_⟩;obtain ⟨vs,e,r⟩:=r;exact ⟨vs,e,h4 ρ ρ' vs hf r⟩
  ·obtain ⟨σ',h1,h2,h3,h4⟩:=matchCs_ok h hw;refine ⟨σ',h1,h2,h3,fun ρ ρ' v hf r=>?_⟩;obtain ⟨vs,e,r⟩:=r;exact ⟨vs,e,h4 ρ ρ' vs hf r⟩
  ·rename_i f xs g ys;cases hb:Nat.beq f g
   ·rw [hb] at h;exact h.elim
   rw [hb] at h;have:=Nat.eq_of_beq_eq_true hb;subst this;obtain ⟨σ',h1,h2,h3,h4⟩:=matchL_ok h hw;refine ⟨σ',h1,h2,h3,fun ρ ρ' v hf r=>?_⟩;obtain ⟨vs,e,r⟩:=r;exact ⟨vs,e,h4 ρ ρ' vs hf r⟩
  ·exact h.elim
 ·rw [hb] at h;simp only [cond_true] at h;refine ⟨σ,h,Ext.refl σ,hw,fun _ _ _ _ _=>?_⟩;unfold isAny at hb;split at hb
  ·trivial
  ·cases hb
def matchArgs (n0 N:Nat):Sub->List SV->List SV->(Sub->Prop)->Prop
 | σ,[],[],K=>K σ
 | σ,x::xs,y::ys,K=>matchV n0 N σ x y fun σ=>matchArgs n0 N σ xs ys K
 | _,_,_,_=>False
theorem matchArgs_ok {n0 N:Nat} {K:Sub->Prop}:∀ {σ:Sub} {xs ys:List SV},matchArgs n0 N σ xs ys K->Wf n0 N σ ->
 ∃ σ',K σ'/\Ext σ σ'/\Wf n0 N σ'/\∀ ρ ρ' vs,Fits ρ ρ' σ'->RepArgs ρ xs vs->RepArgs ρ' ys vs
 | σ,[],[],h,hw=>⟨σ,h,Ext.refl σ,hw,fun _ _ _ _ r=>r⟩
 | σ,x::xs,y::ys,h,hw=>by
  obtain ⟨σ1,h1,e1,w1,r1⟩:=matchV_ok h hw;obtain ⟨σ2,h2,e2,w2,r2⟩:=matchArgs_ok h1 w1;refine ⟨σ2,h2,e1.trans e2,w2,fun ρ ρ' vs hf r=>?_⟩;obtain ⟨v,t,e,ra,rb⟩:=r;exact ⟨v,t,e,r1 ρ ρ' v (hf.ext e2) ra,r2 ρ ρ' t hf rb⟩
 | _,[],_::_,h,_=>h.elim
 | _,_::_,[],h,_=>h.elim
def matchFr (n0 N:Nat) (fr:List (Nat × SV)):List Nat->Sub->List (Nat × SV)->(Sub->Prop)->Prop
 | _,σ,[],K=>K σ
 | seen,σ,(i,v)::r,K=>bif memN seen i then matchFr n0 N fr seen σ r K else matchV n0 N σ (look fr i) v fun σ=>matchFr n0 N fr (i::seen) σ r K
theorem matchFr_ok {n0 N:Nat} {K:Sub->Prop} {fr:List (Nat × SV)}:∀ {seen:List Nat} {σ:Sub} {ys:List (Nat × SV)},matchFr n0 N fr seen σ ys K->Wf n0 N σ ->
 ∃ σ',K σ'/\Ext σ σ'/\Wf n0 N σ'/\∀ (ρ ρ':Env) (tmps:Array Value),Fits ρ ρ' σ'->FrameSat ρ fr tmps->∀ j,memN seen j=false->(look ys j).Rep ρ' (tmps.getD j undef)
 | _,σ,[],h,hw=>⟨σ,h,Ext.refl σ,hw,fun _ _ _ _ _ _ _=>trivial⟩
 | seen,σ,(i,y)::ys,h,hw=>by
  simp only [matchFr] at h;cases hs:memN seen i
  ·rw [hs] at h;simp only [cond_false] at h;obtain ⟨σ1,h1,e1,w1,r1⟩:=matchV_ok h hw;obtain ⟨σ2,h2,e2,w2,r2⟩:=matchFr_ok h1 w1;refine ⟨σ2,h2,e1.trans e2,w2,fun ρ ρ' vs hf r=>?_⟩;intro j hj;simp only [look];by_cases hij:i=j
   ·subst hij;simp only [beq_self',cond_true];exact r1 ρ ρ' _ (hf.ext e2) (r i)
   ·rw [beq_ne hij];refine r2 ρ ρ' vs hf r j ?_;simp only [memN,beq_ne hij,cond_false];exact hj
  ·rw [hs] at h;simp only [cond_true] at h;obtain ⟨σ2,h2,e2,w2,r2⟩:=matchFr_ok h hw;refine ⟨σ2,h2,e2,w2,fun ρ ρ' vs hf r=>?_⟩;intro j hj;simp only [look];by_cases hij:i=j
   ·subst hij;rw [hs] at hj;cases hj
   ·rw [beq_ne hij];exact r2 ρ ρ' vs hf r j hj
structure RowsEq (n m:Nat) (rows rows':Nat->Nat->Value):Prop where
 at_:∀ i,i<n->∀ j,j<m->rows i j=rows' i j
@[simp] theorem RowsEq.refl (n m:Nat) (rows:Nat->Nat->Value):RowsEq n m rows rows:=⟨fun _ _ _ _=>rfl⟩
def matchCh (n0 N:Nat) (σ:Sub) (c d:Chunk) (K:Sub->Prop):Prop :=
 match c,d with
 | .obj ty cs,.obj ty' cs'=>bif Nat.beq ty ty' then matchL n0 N σ cs cs' K else False
 | .arr ty ks n rows,.arr ty' ks' n' rows'=>bif Nat.beq ty ty'&&cksEq ks ks' then (n'<=n/\RowsEq n' ks'.length rows rows')/\K σ else False
 | .abs R,.abs R'=>R=R'/\K σ
 | .pool H,.pool H'=>H=H'/\K σ
 | _,_=>False
theorem matchCh_ok {n0 N:Nat} {K:Sub->Prop} {σ:Sub} {c d:Chunk} (h:matchCh n0 N σ c d K) (hw:Wf n0 N σ) :
 ∃ σ',K σ'/\Ext σ σ'/\Wf n0 N σ'/\∀ ρ ρ' p w,Fits ρ ρ' σ'->c.Sat ρ p w->d.Sat ρ' p w:=by
 unfold matchCh at h;split at h
 ·rename_i ty cs ty' cs';cases hb:Nat.beq ty ty'
  ·rw [hb] at h;exact h.elim
  ·rw [hb] at h;have:=Nat.eq_of_beq_eq_true hb;subst this;obtain ⟨σ',h1,h2,h3,h4⟩:=matchL_ok h hw;refine ⟨σ',h1,h2,h3,fun ρ ρ' p w hf r=>?_⟩;obtain ⟨vs,fr,a,b,⟨us,xs,e,c⟩,d⟩:=r;exact ⟨vs,fr,a,b,⟨us,xs,e,h4 ρ ρ' _ hf c⟩,d⟩
 ·rename_i ty ks n rows ty' ks' n' rows';cases hb:(Nat.beq ty ty'&&cksEq ks ks')
  ·rw [hb] at h;exact h.elim
  ·rw [hb] at h;simp only [Bool.and_eq_true] at hb;have e1:=Nat.eq_of_beq_eq_true hb.1;have e2:=cksEq_eq hb.2;subst e1;subst e2;obtain ⟨⟨hn,hr⟩,h⟩:=h;refine ⟨σ,h,Ext.refl σ,hw,fun ρ ρ' p w hf r=>?_⟩;rcases r with ⟨a,b,c⟩ | ⟨vs,ty',fr,a,b,c,d,e,f⟩
   ·exact .inl ⟨by omega,b,c⟩
   ·refine .inr ⟨vs,ty',fr,a,b,by omega,d,e,fun i hi j k hk=>?_⟩;rw [<- hr.at_ i hi j (List.getElem?_eq_some_iff.1 hk).1];exact f i (by omega) j k hk
 ·obtain ⟨rfl,h⟩:=h;exact ⟨σ,h,Ext.refl σ,hw,fun ρ ρ' p w hf r=>r⟩
 ·obtain ⟨rfl,h⟩:=h;exact ⟨σ,h,Ext.refl σ,hw,fun ρ ρ' p w hf r=>r⟩
 ·exact h.elim
def noTag (T:Nat):Heap->Bool
 | []=>true
 | e::r=>bif Nat.beq e.tag T then false else noTag T r
theorem noTag_spec {T:Nat}:∀ {hp:Heap},noTag T hp=true->∀ e∈hp,T≠e.tag
 | [],_,_,h=>by cases h
 | x::r,h,e,he=>by
  simp only [noTag] at h;by_cases hx:x.tag=T
  ·rw [hx,beq_self'] at h;cases h
  ·rw [beq_ne hx] at h;rcases List.mem_cons.1 he with rfl|he
   ·exact fun hh=>hx hh.symm
   ·exact noTag_spec h e he
def isNo:Chunk->Prop->Prop
 | .arr _ _ n _,K=>n=0/\K
 | _,_=>False
def findAbs (wr:Bool):Heap->Option Nat
 | []=>none
 | e::r=>match e.ch with
  | .abs _=>bif (bif wr then e.wr else !e.wr) then some e.tag else findAbs wr r
  | _=>findAbs wr r
def absTag (wr:Bool) (c:Chunk) (hp:Heap):Option Nat:=match c with
 | .abs _=>findAbs wr hp
 | .pool _=>findPl hp
 | _=>none
def matchHp (n0 N:Nat):Nat->Nat->Sub->Heap->Heap->(Sub->Heap->Prop)->Prop
 | 0,_,_,_,_,_=>False
 | _+1,_,σ,hp,[],K=>K σ hp
 | n+1,d,σ,hp,e::r,K=>bif noTag e.tag r then
  (match subAt σ e.tag with
  | some none=>isNo e.ch (matchHp n0 N n r.length σ hp r K)
  | some (some t)=>match hp.find t with
   | some (wr,ch)=>bif !e.wr||wr then matchCh n0 N σ ch e.ch fun σ=>matchHp n0 N n r.length σ (hp.del t) r K else False
   | none=>False
  | none=>match absTag e.wr e.ch hp with
   | some t=>(match hp.find t with
    | some (wr,ch)=>bif !e.wr||wr then bindT n0 N σ e.tag (some t) fun σ=>matchCh n0 N σ ch e.ch fun σ=>matchHp n0 N n r.length σ (hp.del t) r K else False
    | none=>False)
   | none=>match d with
    | d+1=>matchHp n0 N n d σ hp (r++[e]) K
    | 0=>match hp.find e.tag with
     | some (wr,ch)=>bif !e.wr||wr then bindT n0 N σ e.tag (some e.tag) fun σ=>matchCh n0 N σ ch e.ch fun σ=>matchHp n0 N n r.length σ (hp.del e.tag) r K else False
     | none=>False) else False
inductive Got (σ:Sub):Heap->Heap->Heap->Prop where
 | nil (hp:Heap):Got σ hp [] hp
 | later {hp r rest:Heap} {e:Ent}:Got σ hp (r++[e]) rest->Got σ hp (e::r) rest
 | skip {hp r rest:Heap} {T:Nat} {wr:Bool} {ty:TypeId} {ks:List CK} {rows:Nat->Nat->Value}:subAt σ T=some none->(∀ e∈r,T≠e.tag)->Got σ hp r rest->Got σ hp (⟨T,wr,.arr ty ks 0 rows⟩::r) rest
 | take {hp r rest:Heap} {T t:Nat} {wr wr':Bool} {ch ch':Chunk}:subAt σ T=some (some t)->hp.find t=some (wr',ch')->(wr=true->wr'=true) ->
  (∀ ρ ρ' p w,Fits ρ ρ' σ->ch'.Sat ρ p w->ch.Sat ρ' p w)->(∀ e∈r,T≠e.tag)->Got σ (hp.del t) r rest->Got σ hp (⟨T,wr,ch⟩::r) rest
theorem matchHp_ok {n0 N:Nat} {K:Sub->Heap->Prop}:∀ {n d:Nat} {J:Heap} {σ:Sub} {hp:Heap},matchHp n0 N n d σ hp J K->Wf n0 N σ->∃ σ' rest,K σ' rest/\Ext σ σ'/\Wf n0 N σ'/\Got σ' hp J rest
 | 0,_,_,_,_,h,_=>h.elim
 | _+1,_,[],σ,hp,h,hw=>⟨σ,hp,h,Ext.refl σ,hw,.nil hp⟩
 | n+1,d,⟨T,wr,ch⟩::r,σ,hp,h,hw=>by
  simp only [matchHp] at h;cases hn:noTag T r
  ·rw [hn] at h;exact h.elim
  rw [hn] at h;simp only [cond_true] at h;have hne:=noTag_spec hn;split at h
  ·rename_i hs;cases ch<;>simp only [isNo] at h<;>try exact h.elim
   obtain ⟨rfl,h⟩:=h;obtain ⟨σ',rest,h1,h2,h3,h4⟩:=matchHp_ok h hw;exact ⟨σ',rest,h1,h2,h3,.skip (h2.at_ _ _ hs) hne h4⟩
  ·rename_i t hs;split at h
   ·rename_i wr' ch' hf;cases hb:(!wr||wr')
    ·rw [hb] at h;exact h.elim
    rw [hb] at h;simp only [cond_true] at h;obtain ⟨σ1,k1,e1,w1,r1⟩:=matchCh_ok h hw;obtain ⟨σ',rest,h1,h2,h3,h4⟩:=matchHp_ok k1 w1;refine ⟨σ',rest,h1,e1.trans h2,h3,.take ((e1.trans h2).at_ _ _ hs) hf (fun hw=>?_) (fun ρ ρ' p w hf=>r1 ρ ρ' p w (hf.ext h2)) hne h4⟩;subst hw;simpa using hb
   ·exact h.elim
  ·split at h
   ·split at h
    ·rename_i wr' ch' hf;cases hb:(!wr||wr')
     ·rw [hb] at h;exact h.elim
     rw [hb] at h;simp only [cond_true] at h;obtain ⟨σ0,k0,e0,w0,s0⟩:=bindT_ok h hw;obtain ⟨σ1,k1,e1,w1,r1⟩:=matchCh_ok k0 w0;obtain ⟨σ',rest,h1,h2,h3,h4⟩:=matchHp_ok k1 w1;refine ⟨σ',rest,h1,e0.trans (e1.trans h2),h3,.take ((e1.trans h2).at_ _ _ s0) hf (fun hw=>?_) (fun ρ ρ' p w hf=>r1 ρ ρ' p w (hf.ext h2)) hne h4⟩;subst hw;simpa using hb
    ·exact h.elim
   ·split at h
    ·obtain ⟨σ',rest,h1,h2,h3,h4⟩:=matchHp_ok h hw;exact ⟨σ',rest,h1,h2,h3,.later h4⟩
    ·split at h
     ·rename_i wr' ch' hf;cases hb:(!wr||wr')
      ·rw [hb] at h;exact h.elim
      rw [hb] at h;simp only [cond_true] at h;obtain ⟨σ0,k0,e0,w0,s0⟩:=bindT_ok h hw;obtain ⟨σ1,k1,e1,w1,r1⟩:=matchCh_ok k0 w0;obtain ⟨σ',rest,h1,h2,h3,h4⟩:=matchHp_ok k1 w1;refine ⟨σ',rest,h1,e0.trans (e1.trans h2),h3,.take ((e1.trans h2).at_ _ _ s0) hf (fun hw=>?_) (fun ρ ρ' p w hf=>r1 ρ ρ' p w (hf.ext h2)) hne h4⟩;subst hw;simpa using hb
     ·exact h.elim
theorem Got.rest {σ:Sub} {hp J rest:Heap} (h:Got σ hp J rest):rest.Sublist hp:=by
 induction h with
 | nil=>exact List.Sublist.refl _
 | later _ ih=>exact ih
 | skip _ _ _ ih=>exact ih
 | take _ _ _ _ _ _ ih=>exact ih.trans Heap.del_sub
theorem Got.src {σ:Sub} {hp J rest:Heap} (h:Got σ hp J rest) {ρ ρ':Env} (hf:Fits ρ ρ' σ):∀ e∈J,(∀ b,¬ (ρ'.pl e.tag).fp b)\/∃ e'∈hp,ρ'.pl e.tag=ρ.pl e'.tag/\(e.wr=true->e'.wr=true):=by
 induction h with
 | nil=>intro e he;cases he
 | later _ ih=>intro e he;exact ih e (by simp only [List.mem_cons,List.mem_append,List.not_mem_nil,or_false] at he ⊢;exact he.symm)
 | skip hs _ _ ih =>
  intro e he;rcases List.mem_cons.1 he with rfl|he
  ·left;intro b;rw [(hf _ _ hs).2];exact id
  ·exact ih e he
 | take hs hfd hw _ _ _ ih =>
  intro e he;rcases List.mem_cons.1 he with rfl|he
  ·exact .inr ⟨_,Heap.find_mem hfd,(hf _ _ hs).2,hw⟩
  ·rcases ih e he with h | ⟨e',h1,h2⟩
   ·exact .inl h
   ·exact .inr ⟨e',Heap.del_sub.subset h1,h2⟩
theorem Apart.symm {ρ:Env} {x y:Ent} (h:Apart ρ x y):Apart ρ y x:=⟨h.1.symm,fun hw b hb hb'=>h.2 (by rw [Bool.or_comm];exact hw) b hb' hb⟩
theorem HeapSat.perm {w0:World} {M:Nat->Prop} {ρ:Env} {w:World} {hp hp':Heap} (h:HeapSat w0 M ρ hp w) (hq:hp.Perm hp'):HeapSat w0 M ρ hp' w :=
 ⟨h.keeps,fun e he=>h.ent e (hq.mem_iff.2 he),hq.pairwise h.apart fun h=>h.symm⟩
theorem Got.sat {σ:Sub} {hp J rest:Heap} (h:Got σ hp J rest) {ρ ρ':Env} (hf:Fits ρ ρ' σ) {w0:World} {M:Nat->Prop} {w:World} (hh:HeapSat w0 M ρ hp w):HeapSat w0 M ρ' J w:=by
 induction h with
 | nil=>exact ⟨hh.keeps,fun _ h=>(by cases h),.nil⟩
 | later _ ih=>exact (ih hh).perm (List.perm_append_singleton _ _)
 | skip hs hne _ ih =>
  refine (ih hh).cons ⟨(hf _ _ hs).1,?_,?_,?_⟩ fun x hx=>⟨hne x hx,fun _ b hb=>?_⟩
  ·refine .inl ⟨rfl,?_,fun b hb=>?_⟩
   ·rw [(hf _ _ hs).2];rfl
   ·rw [(hf _ _ hs).2] at hb;exact hb
  ·intro b hb;rw [(hf _ _ hs).2] at hb;exact hb.elim
  ·intro _ b hb;rw [(hf _ _ hs).2] at hb;exact hb.elim
  ·rw [(hf _ _ hs).2] at hb;exact hb.elim
 | @take hp r rest T t wr wr' ch ch' hs hfd hw hc hne hg ih =>
  have hp1:=(hf _ _ hs).2;have he:=hh.ent _ (Heap.find_mem hfd);refine (ih (hh.sub Heap.del_sub)).cons ⟨(hf _ _ hs).1,?_,?_,?_⟩ fun x hx=>⟨hne x hx,fun hwr b hb hb'=>?_⟩
  ·rw [hp1];exact hc ρ ρ' _ w hf he.ch
  ·rw [hp1];exact he.lt
  ·intro h1;rw [hp1];exact he.own (hw h1)
  ·rw [hp1] at hb;rcases hg.src hf x hx with h | ⟨e',h1,h2,h3⟩
   ·exact h b hb'
   ·rw [h2] at hb';refine (hh.del_ne hfd e' h1).2 ?_ b hb hb';simp only [Bool.or_eq_true] at hwr ⊢;exact hwr.imp hw h3
theorem Got.apart {σ:Sub} {hp J rest:Heap} (h:Got σ hp J rest) {ρ ρ':Env} (hf:Fits ρ ρ' σ) {w0:World} {M:Nat->Prop} {w:World} (hh:HeapSat w0 M ρ hp w) :
 ∀ e∈J,∀ f∈rest,(e.wr||f.wr)=true->∀ b,(ρ'.pl e.tag).fp b->¬ (ρ.pl f.tag).fp b:=by
 induction h with
 | nil=>intro e he;cases he
 | later _ ih=>intro e he;exact ih hh e (by simp only [List.mem_cons,List.mem_append,List.not_mem_nil,or_false] at he ⊢;exact he.symm)
 | skip hs _ _ ih =>
  intro e he f hfm;rcases List.mem_cons.1 he with rfl|he
  ·intro _ b hb;rw [(hf _ _ hs).2] at hb;exact hb.elim
  ·exact ih hh e he f hfm
 | take hs hfd hw _ _ hg ih =>
  intro e he f hfm;rcases List.mem_cons.1 he with rfl|he
  ·intro hwr b hb;rw [(hf _ _ hs).2] at hb;refine (hh.del_ne hfd f (hg.rest.subset hfm)).2 ?_ b hb;simp only [Bool.or_eq_true] at hwr ⊢;exact hwr.imp hw id
  ·exact ih (hh.sub Heap.del_sub) e he f hfm
structure Env.upto (m:Nat) (ρ ρ':Env):Prop where
 n:m<=ρ'.n
 pl:∀ t:Nat,t<m->ρ'.pl t=ρ.pl t
theorem Env.le.upto {ρ ρ':Env} (h:ρ.le ρ') {n:Nat} (hn:n<=ρ.n):Env.upto n ρ ρ':=⟨Nat.le_trans hn h.n,fun t ht=>h.pl t (Nat.lt_of_lt_of_le ht hn)⟩
theorem Env.upto.trans {n:Nat} {a b c:Env} (h:Env.upto n a b) (k:Env.upto n b c):Env.upto n a c:=⟨k.n,fun t ht=>(k.pl t ht).trans (h.pl t ht)⟩
def subEnv (ρ:Env) (σ:Sub) (N:Nat):Env:=⟨N,fun T=>match subAt σ T with|some x=>placeOf ρ x|none=>ρ.pl T⟩
theorem subEnv_fits {ρ:Env} {σ:Sub} {n0 N:Nat} (h:Wf n0 N σ):Fits ρ (subEnv ρ σ N) σ:=fun T x e=>⟨h.lt T x e,by simp [subEnv,e]⟩
theorem subEnv_upto {ρ:Env} {σ:Sub} {n0 N:Nat} (h:Wf n0 N σ) (hN:n0<=N):Env.upto n0 ρ (subEnv ρ σ N):=⟨hN,fun t ht=>by
 show (match subAt σ t with|some x=>placeOf ρ x|none=>ρ.pl t)=ρ.pl t;split
 ·rename_i x e;rw [h.id t x e ht];rfl
 ·rfl⟩
def stMatch (n0:Nat) (s J:S) (p:Prop):Prop :=
 bif Nat.beq s.nt J.nt&&Nat.ble n0 J.nx then matchFr n0 J.nx s.fr [] [] J.fr (fun σ=>matchHp n0 J.nx 1000 J.hp.length σ s.hp J.hp fun _ _=>p) else False
theorem stMatch_ok {n0:Nat} {s J:S} {p:Prop} (h:stMatch n0 s J p):p/\∀ w0 M ρ a w,SatE w0 M ρ s a w->∃ ρ',Env.upto n0 ρ ρ'/\SatE w0 M ρ' J a w:=by
 unfold stMatch at h;cases hb:(Nat.beq s.nt J.nt&&Nat.ble n0 J.nx)
 ·rw [hb] at h;exact h.elim
 rw [hb] at h;simp only [cond_true] at h;simp only [Bool.and_eq_true] at hb;have hnt:=Nat.eq_of_beq_eq_true hb.1;have hnx:=Nat.le_of_ble_eq_true hb.2;obtain ⟨σ1,h1,e1,w1,f1⟩:=matchFr_ok h (Wf.nil _ _);obtain ⟨σ2,rest,h2,e2,w2,g⟩:=matchHp_ok h1 w1;refine ⟨h2,fun w0 M ρ a w hs=>⟨subEnv ρ σ2 J.nx,subEnv_upto w2 hnx,⟨hs.defers,hs.size.trans hnt,rfl,?_,g.sat (subEnv_fits w2) hs.heap⟩⟩⟩;exact fun j=>f1 ρ _ _ ((subEnv_fits w2).ext e2) hs.frame j rfl
end
end Go.Sx

namespace Go.Sx
section
inductive XE where
 | normal
 | ret
 | exit (i:Nat)
def XE.toE:XE->Exit
 | .normal=>.normal
 | .ret=>.ret
 | .exit i=>.exit i
abbrev KX:=XE->S->Prop
def XQ (K:KX) (n0:Nat) (w0:World) (M:Nat->Prop) (ρ:Env):Exit->Act->World->Prop:=fun e a w=>∃ xe s' ρ',e=xe.toE/\K xe s'/\Env.upto n0 ρ ρ'/\SatE w0 M ρ' s' a w
theorem XQ.up {K:KX} {n0:Nat} {w0:World} {M:Nat->Prop} {ρ ρ':Env} (h:Env.upto n0 ρ ρ') {e:Exit} {a:Act} {w:World} (q:XQ K n0 w0 M ρ' e a w):XQ K n0 w0 M ρ e a w :=
 let ⟨xe,s',ρ'',h1,h2,h3,h4⟩:=q
 ⟨xe,s',ρ'',h1,h2,h.trans h3,h4⟩
def CodeOk (P:Program) (n0:Nat) (c:Code) (s:S) (K:KX):Prop :=
 ∀ w0 M ρ a w,n0<=ρ.n->SatE w0 M ρ s a w->c.wp P (XQ K n0 w0 M ρ) a w
def ViewOk (s:S) (K:S->Prop):Prop:=∀ w0 M ρ a w,SatE w0 M ρ s a w->∃ s' ρ',K s'/\ρ.le ρ'/\SatE w0 M ρ' s' a w
mutual
inductive LH:Type 1 where
 | mk (fuel:Nat) (loop cut:List An)
inductive An:Type 1 where
 | mk (key:Nat) (α:Type) (J:S->α->S) (p:S->α->Prop) (μ:S->α->Nat) (next:α->LH)
 | view (key:Nat) (V:S->(S->Prop)->Prop) (ok:∀ s K,V s K->ViewOk s K) (next:LH)
end
def An.key:An->Nat
 | .mk k _ _ _ _ _=>k
 | .view k _ _ _=>k
def findAn:List An->Nat->Option An
 | [],_=>none
 | a::r,k=>bif Nat.beq a.key k then some a else findAn r k
def LH.at_:LH->Nat->Option An
 | .mk _ l _,k=>findAn l k
def LH.cut_:LH->Nat->Option An
 | .mk _ _ c,k=>findAn c k
def LH.fuel:LH->Nat
 | .mk n _ _=>n
def firstReg:Code->Nat
 | .region id _ _=>id
 | .seq a _=>firstReg a
 | .block _ b=>firstReg b
 | .loop b=>firstReg b
 | _=>0
def seqK (F:S->Prop) (K:KX):KX:=fun xe s=>match xe with | .normal=>F s|xe=>K xe s
def blockK (i:Nat) (K:KX):KX:=fun xe s=>match xe with | .exit j=>bif Nat.beq j i then K .normal s else K (.exit j) s|xe=>K xe s
def unrollGo (xb:S->KX->Prop) (K:KX):Nat->S->Prop
 | 0,_=>False
 | n+1,s=>xb s (seqK (unrollGo xb K n) K)
def aTags:List A->List Nat->List Nat
 | [],acc=>acc
 | .ptr t _ _ _::r,acc=>aTags r (t::acc)
 | .slc t _ _ _ _::r,acc=>aTags r (t::acc)
 | .sub t _ _ _ _ _::r,acc=>aTags r (t::acc)
 | _::r,acc=>aTags r acc
def svTags (v:SV) (acc:List Nat):List Nat :=
 match v with
 | .a x=>aTags [x] acc
 | .agg xs=>aTags xs acc
 | .tup cs=>cs.foldr (fun c acc=>match c with | .a x=>aTags [x] acc | .agg xs=>aTags xs acc) acc
 | .clo _ xs=>aTags xs acc
def frTags:List (Nat × SV)->List Nat->List Nat
 | [],acc=>acc
 | (_,v)::r,acc=>frTags r (svTags v acc)
def reach (hp:Heap):Nat->List Nat->List Nat->List Nat
 | 0,work,seen=>work++seen
 | _+1,[],seen=>seen
 | n+1,t::work,seen=>bif has seen t then reach hp n work seen else
  match hp.find t with
  | some (_,.obj _ cs)=>reach hp n (aTags cs work) (t::seen)
  | some _=>reach hp n work (t::seen)
  | none=>reach hp n work seen
def isAbs:Chunk->Bool
 | .abs _=>true
 | .pool _=>true
 | _=>false
def sweep (hp:Heap) (seen:List Nat):Heap:=hp.filter fun e=>has seen e.tag||isAbs e.ch
def S.tidy (s:S):S :=
 let fr:=only s.fr s.kp
 ⟨s.nt,fr,sweep s.hp (reach s.hp 400 (frTags fr s.rt) []),s.nx,s.kp,s.rt⟩
theorem SatE.tidy {w0:World} {M:Nat->Prop} {ρ:Env} {s:S} {a:Act} {w:World} (h:SatE w0 M ρ s a w):SatE w0 M ρ s.tidy a w :=
 ⟨h.defers,h.size,h.n,h.frame.only s.kp,h.heap.sub List.filter_sublist⟩
def forceF:List (Nat × SV)->(List (Nat × SV)->Prop)->Prop
 | [],K=>K []
 | (i,v)::r,K=>forceV v fun v=>forceF r fun r=>K ((i,v)::r)
theorem forceF_eq:∀ (l:List (Nat × SV)) (K:List (Nat × SV)->Prop),forceF l K=K l
 | [],_=>rfl
 | (i,v)::r,K=>by simp only [forceF,forceV_eq,forceF_eq r]
def forceC (c:Chunk) (K:Chunk->Prop):Prop:=match c with
 | .obj ty cs=>forceL cs fun cs=>K (.obj ty cs)
 | .arr ty ks n rows=>K (.arr ty ks n rows)
 | .abs R=>K (.abs R)
 | .pool H=>K (.pool H)
theorem forceC_eq (c:Chunk) (K:Chunk->Prop):forceC c K=K c:=by cases c<;>simp only [forceC,forceL_eq]
def forceB (b:Bool) (K:Bool->Prop):Prop:=match b with
 | true=>K true
 | false=>K false
theorem forceB_eq (b:Bool) (K:Bool->Prop):forceB b K=K b:=by cases b<;>rfl
def forceH:Heap->(Heap->Prop)->Prop
 | [],K=>K []
 | e::r,K=>forceN e.tag fun t=>forceB e.wr fun w=>forceC e.ch fun c=>forceH r fun r=>K (⟨t,w,c⟩::r)
theorem forceH_eq:∀ (l:Heap) (K:Heap->Prop),forceH l K=K l
 | [],_=>rfl
 | e::r,K=>by simp only [forceH,forceN_eq,forceB_eq,forceC_eq,forceH_eq r]
def S.force (s:S) (K:S->Prop):Prop:=forceF s.fr fun fr=>forceH s.hp fun hp=>forceN s.nt fun nt=>forceN s.nx fun nx=>K ⟨nt,fr,hp,nx,s.kp,s.rt⟩
theorem S.force_eq (s:S) (K:S->Prop):s.force K=K s:=by simp only [S.force,forceF_eq,forceH_eq,forceN_eq]
def rgAt:List (Nat × RG)->Nat->Option RG
 | [],_=>none
 | (j,g)::r,i=>bif Nat.beq j i then some g else rgAt r i
def xcode (G:Fx) (ch:CallH) (tab:List (Nat × RG)) (n0:Nat):Code->LH->S->KX->Prop
 | .skip,_,s,K=>K .normal s
 | .region id ops d,_,s,K=>bif d then
  (match rgAt tab id with
  | some g=>xdrawT G ch ops.toList g s fun s=>s.tidy.force (K .normal)
  | none=>False)
  else xops G ch ops.toList ops.toList s fun s=>s.tidy.force (K .normal)
 | .seq x y,lh,s,K=>match lh.cut_ (firstReg y) with
  | none=>xcode G ch tab n0 x lh s (seqK (fun s=>xcode G ch tab n0 y lh s K) K)
  | some (.mk _ α J p _ next)=>xcode G ch tab n0 x lh s (seqK (fun s'=>∃ a:α,stMatch n0 s' (J s a) (p s a/\True)) K)/\∀ a:α,p s a->(J s a).force fun s=>xcode G ch tab n0 y (next a) s K
  | some (.view _ V _ next)=>xcode G ch tab n0 x lh s (seqK (fun s'=>V s' fun s=>s.force fun s=>xcode G ch tab n0 y next s K) K)
 | .cond c x y,lh,s,K =>
  match s.ev c with
  | .a .tt=>xcode G ch tab n0 x lh s K
  | .a .ff=>xcode G ch tab n0 y lh s K
  | .a (.bool b)=>splitB G.X.force b (xcode G ch tab n0 x lh s K) (xcode G ch tab n0 y lh s K)
  | _=>False
 | .block i b,lh,s,K=>xcode G ch tab n0 b lh s (blockK i K)
 | .loop b,lh,s,K=>match lh.at_ (firstReg b) with
  | none=>unrollGo (fun s K=>xcode G ch tab n0 b lh s K) K lh.fuel s
  | some (.mk _ α J p μ next)=>(∃ a:α,stMatch n0 s (J s a) (p s a/\True))/\∀ a:α,p s a->(J s a).force fun s1=>xcode G ch tab n0 b (next a) s1 fun xe s'=>match xe with
   | .normal=>∃ a':α,stMatch n0 s' (J s a') (p s a'/\μ s a'<μ s a)
   | xe=>K xe s'
  | some (.view ..)=>False
 | .exit i,_,s,K=>K (.exit i) s
 | .ret,_,s,K=>K .ret s
 | _,_,_,_=>False
def regOk (tab:List (Nat × RG)):Code->Bool
 | .region id ops d=>bif d then (match rgAt tab id with|some g=>rgOkT ops.toList g|none=>true) else true
 | .seq x y=>regOk tab x&&regOk tab y
 | .cond _ x y=>regOk tab x&&regOk tab y
 | .block _ b=>regOk tab b
 | .loop b=>regOk tab b
 | _=>true
theorem CodeOk.mono {P:Program} {n0:Nat} {c:Code} {s:S} {K K':KX} (h:CodeOk P n0 c s K) (hk:∀ xe s,K xe s->K' xe s):CodeOk P n0 c s K' :=
 fun w0 M ρ a w hn hs=>wp_mono (h w0 M ρ a w hn hs) fun _ _ _ ⟨xe,s',ρ',h1,h2,h3,h4⟩=>⟨xe,s',ρ',h1,hk _ _ h2,h3,h4⟩
def Unr (P:Program) (b:Code) (Q:Exit->Act->World->Prop):Nat->Act->World->Prop
 | 0,_,_=>False
 | n+1,a,w=>b.wp P (Exit.then (Unr P b Q n) Q) a w
theorem least {p:Nat->Prop}:∀ n,p n->∃ m,p m/\∀ k,p k->m<=k:=by
 intro n
 induction n using Nat.strongRecOn with
 | ind n ih =>
  intro h;by_cases hx:∃ k,k<n/\p k
  ·obtain ⟨k,hk,hp⟩:=hx;exact ih k hk hp
  ·exact ⟨n,h,fun k hk=>Nat.le_of_not_lt fun hlt=>hx ⟨k,hlt,hk⟩⟩
theorem Unr.loop {P:Program} {b:Code} {Q:Exit->Act->World->Prop} {a:Act} {w:World} (h:∃ n,Unr P b Q n a w):(Code.loop b).wp P Q a w:=by
 classical
 have hl:∀ a w,(∃ n,Unr P b Q n a w)->∃ m,Unr P b Q m a w/\∀ k,Unr P b Q k a w->m<=k:=fun a w ⟨n,hn⟩=>least n hn;refine wp_loop (fun a w=>∃ n,Unr P b Q n a w) (fun a w=>if h:∃ n,Unr P b Q n a w then Classical.choose (hl a w h) else 0) h ?_;intro a w hI;obtain ⟨h1,h2⟩:=Classical.choose_spec (hl a w hI);simp only [dif_pos hI];generalize Classical.choose (hl a w hI)=m at h1 h2 ⊢;cases m with
 | zero=>exact h1.elim
 | succ m =>
  refine wp_mono h1 ?_;intro e a' w' hq;cases e with
  | normal =>
   have hI':∃ n,Unr P b Q n a' w':=⟨m,hq⟩
   refine ⟨hI',?_⟩;simp only [dif_pos hI'];exact Nat.lt_succ_of_le ((Classical.choose_spec (hl a' w' hI')).2 m hq)
  | exit i=>exact hq
  | goto l=>exact hq
  | ret=>exact hq
  | panic c=>exact hq
  | outgrown=>exact hq
def LoopN (P:Program) (n0:Nat) (b:Code) (K:KX):Nat->S->Prop
 | 0,_=>False
 | n+1,s=>CodeOk P n0 b s (seqK (LoopN P n0 b K n) K)
theorem LoopN.unr {P:Program} {n0:Nat} {b:Code} {K:KX} {w0:World} {M:Nat->Prop} {ρ:Env}:∀ (n:Nat) (s:S) (ρ':Env) (a:Act) (w:World),LoopN P n0 b K n s->Env.upto n0 ρ ρ'->SatE w0 M ρ' s a w->Unr P b (XQ K n0 w0 M ρ) n a w
 | 0,_,_,_,_,h,_,_=>h
 | n+1,s,ρ',a,w,h,hu,hs=>by
  refine wp_mono (h w0 M ρ' a w hu.n hs) ?_;rintro e a' w' ⟨xe,s',ρ'',rfl,hk,hu',hs'⟩;cases xe with
  | normal=>exact LoopN.unr n s' ρ'' a' w' hk (hu.trans hu') hs'
  | ret=>exact ⟨.ret,s',ρ'',rfl,hk,hu.trans hu',hs'⟩
  | exit i=>exact ⟨.exit i,s',ρ'',rfl,hk,hu.trans hu',hs'⟩
theorem LoopN.ok {P:Program} {n0:Nat} {b:Code} {K:KX} {n:Nat} {s:S} (h:LoopN P n0 b K n s):CodeOk P n0 (.loop b) s K :=
 fun _ _ ρ _ _ hn hs=>Unr.loop ⟨n,LoopN.unr n s ρ _ _ h ((Env.le.refl ρ).upto hn) hs⟩
theorem unroll_ok {P:Program} {n0:Nat} {b:Code} {xb:S->KX->Prop} (hb:∀ s K,xb s K->CodeOk P n0 b s K) {K:KX} {n:Nat} {s:S} (h:unrollGo xb K n s):CodeOk P n0 (.loop b) s K:=by
 refine LoopN.ok (n:=n) ?_
 induction n generalizing s with
 | zero=>exact h
 | succ n ih =>
  refine CodeOk.mono (hb _ _ h) fun xe s' hk=>?_;cases xe with
  | normal=>exact ih hk
  | ret=>exact hk
  | exit i=>exact hk
theorem xcode_ok {G:Fx} (hG:G.Ok) {ch:CallH} (hch:HOk G.X ch) {tab:List (Nat × RG)} {n0:Nat}:∀ (c:Code) (lh:LH) (s:S) (K:KX),regOk tab c=true->xcode G ch tab n0 c lh s K->CodeOk G.X.P n0 c s K:=by
 intro c
 induction c with
 | skip=>exact fun _ s K _ h w0 M ρ a w hn hs=>wp_skip ⟨.normal,s,ρ,rfl,h,(Env.le.refl ρ).upto hn,hs⟩
 | region id ops d =>
  intro lh s K hr h w0 M ρ a w hn hs;simp only [xcode] at h;cases d with
  | true =>
   simp only [cond_true] at h;simp only [regOk,cond_true] at hr;cases hg:rgAt tab id with
   | none=>rw [hg] at h;exact h.elim
   | some g =>
    rw [hg] at h hr;simp only at h hr;have:=xdrawT_wp (id:=id) (Q:=XQ K n0 w0 M ρ) hG hch hr h hs fun s' ρ' a' w' hk hle hs'=>⟨.normal,s'.tidy,ρ',rfl,(S.force_eq s'.tidy (K .normal)).mp hk,hle.upto hn,hs'.tidy⟩
    simpa using this
  | false =>
   simp only [cond_false] at h;refine wp_region_list ?_;have:=xops_wp (Q:=XQ K n0 w0 M ρ) hG hch ops.toList s ρ a w h hs fun s' ρ' a' w' hk hle hs'=>⟨.normal,s'.tidy,ρ',rfl,(S.force_eq s'.tidy (K .normal)).mp hk,hle.upto hn,hs'.tidy⟩
   simpa using this
 | seq x y ihx ihy =>
  intro lh s K hr h w0 M ρ a w hn hs;simp only [regOk,Bool.and_eq_true] at hr;simp only [xcode] at h;cases hcut:lh.cut_ (firstReg y) with
  | none =>
   rw [hcut] at h;refine wp_seq (wp_mono (ihx lh s _ hr.1 h w0 M ρ a w hn hs) ?_);rintro e a' w' ⟨xe,s',ρ',rfl,hk,hu,hs'⟩;cases xe with
   | normal=>exact wp_mono (ihy lh s' K hr.2 hk w0 M ρ' a' w' hu.n hs') fun e a w q=>q.up hu
   | ret=>exact ⟨.ret,s',ρ',rfl,hk,hu,hs'⟩
   | exit i=>exact ⟨.exit i,s',ρ',rfl,hk,hu,hs'⟩
  | some an =>
   cases an with
   | view key V ok next =>
    rw [hcut] at h;refine wp_seq (wp_mono (ihx lh s _ hr.1 h w0 M ρ a w hn hs) ?_);rintro e a' w' ⟨xe,s',ρ',rfl,hk,hu,hs'⟩;cases xe with
    | normal =>
     obtain ⟨s2,ρ2,hk2,hle2,hs2⟩:=ok _ _ hk w0 M ρ' a' w' hs';have hu2:Env.upto n0 ρ' ρ2:=hle2.upto hu.n;exact wp_mono (ihy _ _ K hr.2 ((S.force_eq _ _).mp hk2) w0 M ρ2 a' w' hu2.n hs2) fun e a w q=>q.up (hu.trans hu2)
    | ret=>exact ⟨.ret,s',ρ',rfl,hk,hu,hs'⟩
    | exit i=>exact ⟨.exit i,s',ρ',rfl,hk,hu,hs'⟩
   | mk key α J p μ next =>
    rw [hcut] at h;obtain ⟨h1,h2⟩:=h;refine wp_seq (wp_mono (ihx lh s _ hr.1 h1 w0 M ρ a w hn hs) ?_);rintro e a' w' ⟨xe,s',ρ',rfl,hk,hu,hs'⟩;cases xe with
    | normal =>
     obtain ⟨x,hx⟩:=hk;obtain ⟨⟨hp,_⟩,hm⟩:=stMatch_ok hx;obtain ⟨ρ2,hu2,hs2⟩:=hm w0 M ρ' a' w' hs';exact wp_mono (ihy _ _ K hr.2 ((S.force_eq _ _).mp (h2 x hp)) w0 M ρ2 a' w' hu2.n hs2) fun e a w q=>q.up (hu.trans hu2)
    | ret=>exact ⟨.ret,s',ρ',rfl,hk,hu,hs'⟩
    | exit i=>exact ⟨.exit i,s',ρ',rfl,hk,hu,hs'⟩
 | cond c x y ihx ihy =>
  intro lh s K hr h w0 M ρ a w hn hs;simp only [regOk,Bool.and_eq_true] at hr;have hc:=hs.frame.ev c;simp only [xcode] at h;split at h
  ·rename_i e;rw [e] at hc;exact wp_cond_true hc (ihx lh s K hr.1 h w0 M ρ a w hn hs)
  ·rename_i e;rw [e] at hc;exact wp_cond_false hc (ihy lh s K hr.2 h w0 M ρ a w hn hs)
  ·rename_i b e;rw [e] at hc;have h:=splitB_ok h;exact wp_cond_split hc (fun hb=>ihx lh s K hr.1 (h.1 hb) w0 M ρ a w hn hs) fun hb=>ihy lh s K hr.2 (h.2 hb) w0 M ρ a w hn hs
  ·exact h.elim
 | block i b ih =>
  intro lh s K hr h w0 M ρ a w hn hs;refine wp_block (wp_mono (ih lh s _ hr h w0 M ρ a w hn hs) ?_);rintro e a' w' ⟨xe,s',ρ',rfl,hk,hu,hs'⟩;cases xe with
  | normal=>exact ⟨.normal,s',ρ',rfl,hk,hu,hs'⟩
  | ret=>exact ⟨.ret,s',ρ',rfl,hk,hu,hs'⟩
  | exit j =>
   simp only [blockK] at hk;simp only [XE.toE,Exit.inBlock];by_cases hj:j=i
   ·subst hj;simp only [beq_self',cond_true] at hk;rw [if_pos rfl];exact ⟨.normal,s',ρ',rfl,hk,hu,hs'⟩
   ·simp only [beq_ne hj,cond_false] at hk;rw [if_neg hj];exact ⟨.exit j,s',ρ',rfl,hk,hu,hs'⟩
 | loop b ih =>
  intro lh s K hr h;simp only [xcode] at h;cases hat:lh.at_ (firstReg b) with
  | none =>
   rw [hat] at h;exact unroll_ok (fun s K h=>ih lh s K hr h) h
  | some an =>
   cases an with
   | view key V ok next=>rw [hat] at h;exact h.elim
   | mk key α J p μ next =>
    rw [hat] at h;obtain ⟨⟨a0,h0⟩,hrd⟩:=h;obtain ⟨⟨hp0,_⟩,hs0⟩:=stMatch_ok h0;intro w0 M ρ a w hn hs;have key:∀ (m:Nat) (x:α),p s x->μ s x<m->∀ (ρ':Env) (a:Act) (w:World),Env.upto n0 ρ ρ'->SatE w0 M ρ' (J s x) a w->Unr G.X.P b (XQ K n0 w0 M ρ) m a w:=by
     intro m
     induction m with
     | zero=>intro x _ h;omega
     | succ m ihm =>
      intro x hx hm ρ' a w hu hs;refine wp_mono (ih (next x) _ _ hr ((S.force_eq _ _).mp (hrd x hx)) w0 M ρ' a w hu.n hs) ?_;rintro e a' w' ⟨xe,s',ρ'',rfl,hk,hu',hs'⟩;cases xe with
      | normal =>
       obtain ⟨x',hx'⟩:=hk;obtain ⟨⟨h1,h2⟩,h3⟩:=stMatch_ok hx';obtain ⟨ρ3,h4,h5⟩:=h3 w0 M ρ'' a' w' hs';exact ihm x' h1 (by omega) ρ3 a' w' ((hu.trans hu').trans h4) h5
      | ret=>exact ⟨.ret,s',ρ'',rfl,hk,hu.trans hu',hs'⟩
      | exit i=>exact ⟨.exit i,s',ρ'',rfl,hk,hu.trans hu',hs'⟩
    obtain ⟨ρ1,h1,h2⟩:=hs0 w0 M ρ a w hs;exact Unr.loop ⟨_,key (μ s a0+1) a0 hp0 (Nat.lt_succ_self _) ρ1 a w h1 h2⟩
 | exit i=>exact fun _ s K _ h w0 M ρ a w hn hs=>wp_exit ⟨.exit i,s,ρ,rfl,h,(Env.le.refl ρ).upto hn,hs⟩
 | ret=>exact fun _ s K _ h w0 M ρ a w hn hs=>wp_ret ⟨.ret,s,ρ,rfl,h,(Env.le.refl ρ).upto hn,hs⟩
 | _=>exact fun _ s K _ h=>h.elim
def SV.cv:SV->Option CV
 | .a x=>some (.a x)
 | .agg xs=>some (.agg xs)
 | .tup _=>none
 | .clo _ _=>none
def xres1 (X:Cx) (s:S) (r:ResultVar) (K:SV->Prop):Prop :=
 match r with
 | .tmp t=>K (look s.fr t)
 | .cell a t=>xload X t (look s.fr a) s fun v _=>K v
def xresL (X:Cx) (s:S):List ResultVar->(List CV->Prop)->Prop
 | [],K=>K []
 | r::rs,K=>xres1 X s r fun v=>match v.cv with|some c=>xresL X s rs fun cs=>K (c::cs)|none=>False
def xresults (X:Cx) (s:S) (fn:Func) (K:SV->Prop):Prop :=
 match fn.results.toList with
 | [r]=>xres1 X s r K
 | rs=>xresL X s rs fun cs=>K (.tup cs)
theorem SV.cv_rep {v:SV} {c:CV} (h:v.cv=some c) {ρ:Env} {x:Value} (r:v.Rep ρ x):c.Rep ρ x:=by
 cases v<;>simp [SV.cv] at h<;>subst h<;>exact r
def resM (tmps:Array Value):ResultVar->Sem Value
 | .tmp t=>pure (tmps.getD t undef)
 | .cell a t=>do loadVar t (<- asAddr (tmps.getD a undef))
theorem xres1_ok {X:Cx} (hX:X.Ok) {s:S} {r:ResultVar} {K:SV->Prop} (h:xres1 X s r K) {w0:World} {M:Nat->Prop} {ρ:Env} {a:Act} {w:World} (hs:SatE w0 M ρ s a w) :
 ∃ u sv,(resM a.tmps r).run X.P w = .ok u w/\sv.Rep ρ u/\K sv:=by
 cases r with
 | tmp t=>exact ⟨_,_,rfl,hs.frame t,h⟩
 | cell ad t =>
  obtain ⟨b,o,e,u,sv,h1,h2,h3⟩:=load_ok hX h (hs.frame ad) hs.heap;refine ⟨u,sv,?_,h2,h3⟩;have:=h1 w fun _ _ _ _=>rfl;simp [resM,e,asAddr,this]
theorem xresL_ok {X:Cx} (hX:X.Ok) {s:S} {w0:World} {M:Nat->Prop} {ρ:Env} {a:Act} {w:World} (hs:SatE w0 M ρ s a w):∀ {rs:List ResultVar} {K:List CV->Prop},xresL X s rs K ->
 ∃ us cs,(rs.mapM (resM a.tmps)).run X.P w = .ok us w/\us.length=rs.length/\RepC ρ cs us/\K cs
 | [],K,h=>⟨[],[],by simp,rfl,rfl,h⟩
 | r::rs,K,h=>by
  obtain ⟨u,sv,h1,h2,h3⟩:=xres1_ok hX h hs;cases hc:sv.cv with
  | none=>rw [hc] at h3;exact h3.elim
  | some c =>
   rw [hc] at h3;obtain ⟨us,cs,g1,g2,g3,g4⟩:=xresL_ok hX hs h3;exact ⟨u::us,c::cs,by simp [List.mapM_cons,h1,g1],by simp [g2],⟨u,us,rfl,SV.cv_rep hc h2,g3⟩,g4⟩
theorem results_eq (fn:Func) (tmps:Array Value):results fn tmps=(do
 let vs <- fn.results.mapM (resM tmps)
 pure (if h:vs.size=1 then vs[0] else .tuple vs)):=rfl
theorem xresults_ok {X:Cx} (hX:X.Ok) {s:S} {fn:Func} {K:SV->Prop} (h:xresults X s fn K) {w0:World} {M:Nat->Prop} {ρ:Env} {a:Act} {w:World} (hs:SatE w0 M ρ s a w) :
 ∃ u sv,(results fn a.tmps).run X.P w = .ok u w/\sv.Rep ρ u/\K sv:=by
 rw [results_eq];unfold xresults at h;have hm:∀ us:List Value,(fn.results.toList.mapM (resM a.tmps)).run X.P w = .ok us w->(fn.results.mapM (resM a.tmps)).run X.P w = .ok us.toArray w:=by
  intro us hu;rw [Array.mapM_eq_mapM_toList,<- bind_pure_comp];simp [hu]
 split at h
 ·rename_i r hr;obtain ⟨u,sv,h1,h2,h3⟩:=xres1_ok hX h hs;refine ⟨u,sv,?_,h2,h3⟩;have:=hm [u] (by rw [hr];simp [List.mapM_cons,h1]);simp [this]
 ·rename_i rs hne;obtain ⟨us,cs,h1,h2,h3,h4⟩:=xresL_ok hX hs h;have:=hm us h1;refine ⟨.tuple us.toArray,.tup cs,?_,⟨us,rfl,h3⟩,h4⟩;have hl:us.length≠1:=by
   intro e;rw [h2] at e
   match hh:fn.results.toList,e with
   | [r],_=>exact hne r hh
  simp [this,hl]
def parFr:Nat->List SV->List (Nat × SV)
 | _,[]=>[]
 | i,v::vs=>(i,v)::parFr (i+1) vs
theorem look_parFr:∀ (vs:List SV) (i j:Nat),look (parFr i vs) j=if i<=j then (vs[j - i]?).getD (.a .any) else .a .any
 | [],i,j=>by simp [parFr,look]
 | v::vs,i,j=>by
  simp only [parFr,look];by_cases h:i=j
  ·subst h;simp
  ·rw [beq_ne h,cond_false,look_parFr vs (i+1) j];by_cases h1:i<=j
   ·have h2:i+1<=j:=by omega
    have h3:j - i=(j - (i+1))+1:=by omega
    simp [h1,h2,h3]
   ·have h2:¬ i+1<=j:=by omega
    simp [h1,h2]
theorem RepArgs.get {ρ:Env}:∀ {xs:List SV} {vs:List Value},RepArgs ρ xs vs->vs.length=xs.length/\∀ (i:Nat) (x:SV),xs[i]? = some x->∃ v,vs[i]? = some v/\x.Rep ρ v
 | [],vs,h=>by simp [RepArgs] at h;subst h;simp
 | x::xs,vs,⟨v,r,e,h1,h2⟩=>by
  subst e;obtain ⟨g1,g2⟩:=RepArgs.get h2;refine ⟨by simp [g1],fun i y hy=>?_⟩;cases i with
  | zero=>simp at hy;subst hy;exact ⟨v,by simp,h1⟩
  | succ i=>simp at hy;obtain ⟨u,hu,hr⟩:=g2 i y hy;exact ⟨u,by simpa using hu,hr⟩
theorem parFr_sat {ρ:Env} {xs:List SV} {vs:List Value} (h:RepArgs ρ xs vs) (n:Nat):FrameSat ρ (parFr 0 xs) (vs.toArray++Array.replicate n undef):=by
 intro j;rw [look_parFr];obtain ⟨h1,h2⟩:=h.get;simp only [Nat.zero_le,if_true,Nat.sub_zero];cases hx:xs[j]? with
 | none=>exact trivial
 | some x =>
  obtain ⟨v,hv,hr⟩:=h2 j x hx;have hj:=(List.getElem?_eq_some_iff.1 hv).1;have e:(vs.toArray++Array.replicate n undef).getD j undef=v:=by
   rw [Array.getD_eq_getD_getElem?,Array.getElem?_append_left (by simpa using hj)];simp [hv]
  rw [e];exact hr
structure Gx where
 G:Fx
 R:List (Nat × List (Nat × RG))
def tabAt:List (Nat × List (Nat × RG))->Nat->List (Nat × RG)
 | [],_=>[]
 | (j,t)::r,f=>bif Nat.beq j f then t else tabAt r f
structure Gx.Ok (Y:Gx):Prop where
 g:Y.G.Ok
 reg:∀ p∈Y.G.F,∀ c,p.2.body=some c->regOk (tabAt Y.R p.1) c=true
abbrev Spec:=Nat->Option (List SV->S->KV->Prop)
def SpOk (X:Cx) (sp:Spec):Prop:=∀ f h,sp f=some h->∀ args s K,h args s K->CallOk X f args s K
def xbody (Y:Gx) (ch:CallH) (lh:Nat->LH) (f:Nat) (args:List SV) (s:S) (K:KV):Prop :=
 match fnAt Y.G.F f with
 | some fn=>match fn.body with
  | some c=>mark Y.G.X.dbg (100000+f) <| xcode Y.G ch (tabAt Y.R f) s.nx c (lh f) ⟨args.length+(fn.ntmps - args.length),parFr 0 args,s.hp,s.nx,(keepAt Y.G.I f).getD [],frTags s.fr s.rt⟩ fun xe s' =>
   match xe with
   | .exit _=>False
   | _=>xresults Y.G.X s' fn fun v=>K v ⟨s.nt,s.fr,s'.hp,s'.nx,s.kp,s.rt⟩
  | none=>False
 | none=>False
def anySub:List SV->Bool
 | []=>false
 | .a (.sub _ _ _ _ _ _)::_=>true
 | _::r=>anySub r
def xcall (Y:Gx) (sp:Spec) (lh:Nat->LH):Nat->CallH
 | 0=>fun _ _ _ _=>False
 | n+1=>fun f args s K =>
  match sp f with
  | some h=>bif anySub args then xbody Y (xcall Y sp lh n) lh f args s K else h args s K
  | none=>xbody Y (xcall Y sp lh n) lh f args s K
theorem xbody_ok {Y:Gx} (hY:Y.Ok) {ch:CallH} (hch:HOk Y.G.X ch) {lh:Nat->LH} {f:Nat} {args:List SV} {s:S} {K:KV} (h:xbody Y ch lh f args s K):CallOk Y.G.X f args s K:=by
 unfold xbody at h;split at h
 ·rename_i fn hfn;split at h
  ·rename_i c hc;have h:=mark_ok h;intro w0 M ρ w vs hn hh hargs;have hm:=fnAt_mem hfn;have hok:=hY.g.fns _ hm;refine calls_of_wp hok.at_ hc ?_;have hl:=hargs.get.1;refine wp_mono (xcode_ok hY.g hch c _ _ _ (hY.reg _ hm c hc) h w0 M ρ _ w (by rw [hn];exact Nat.le_refl _) ⟨rfl,?_,hn,?_,hh⟩) ?_
   ·simp [hl]
   ·have:=parFr_sat hargs (fn.ntmps - args.length);simpa [hl] using this
   ·rintro e a' w' ⟨xe,s',ρ',rfl,hk,hu,hs'⟩;have fin:∀ (e':Exit),(e' = .normal\/e' = .ret)->(xresults Y.G.X s' fn fun v=>K v ⟨s.nt,s.fr,s'.hp,s'.nx,s.kp,s.rt⟩)->bodyPost Y.G.X.P fn (fun e w'=>∃ v,e = .returned v/\Out w0 M ρ s w' v K) e' a' w':=by
     intro e' he' hk;obtain ⟨u,sv,h1,h2,h3⟩:=xresults_ok hY.g.cx hk hs';have hout:Out w0 M ρ s w' u K:=⟨sv,_,ρ',h3,rfl,rfl,⟨by rw [hn];exact hu.n,fun t ht=>hu.pl t (by rw [<- hn];exact ht)⟩,hs'.n,h2,hs'.heap⟩
     rcases he' with rfl|rfl
     ·exact ⟨hs'.defers,u,h1,u,rfl,hout⟩
     ·exact ⟨hs'.defers,u,h1,u,rfl,hout⟩
    cases xe with
    | normal=>exact fin .normal (.inl rfl) hk
    | ret=>exact fin .ret (.inr rfl) hk
    | exit i=>exact hk.elim
  ·exact h.elim
 ·exact h.elim
theorem xcall_ok {Y:Gx} (hY:Y.Ok) {sp:Spec} (hsp:SpOk Y.G.X sp) {lh:Nat->LH}:∀ n,HOk Y.G.X (xcall Y sp lh n)
 | 0=>fun f args s K h=>h.elim
 | n+1=>fun f args s K h=>by
  simp only [xcall] at h;split at h
  ·rename_i g hg;cases hs:anySub args
   ·rw [hs] at h;exact hsp f g hg args s K h
   ·rw [hs] at h;exact xbody_ok hY (xcall_ok hY hsp n) h
  ·exact xbody_ok hY (xcall_ok hY hsp n) h
end
end Go.Sx

namespace Go.Sx
section
def fnTab (P:Program) (ts:List Nat):List (Nat × Func):=ts.filterMap fun t=>(P.funcs[t]?).map fun i=>(t,i)
theorem fnTab_ok (P:Program):∀ ts,(fnTab P ts).map (fun p=>P.funcs[p.1]?)=(fnTab P ts).map fun p=>some p.2
 | []=>rfl
 | t::ts=>by
  unfold fnTab;simp only [List.filterMap_cons];cases h:P.funcs[t]? with
  | none=>exact fnTab_ok P ts
  | some i =>
   simp only [Option.map_some,List.map_cons,h];congr 1;exact fnTab_ok P ts
def fnB (R:List (Nat × List (Nat × RG))) (p:Nat × Func):Bool :=
 p.2.body.isSome && !(p.2.name == "runtime.NumGoroutine") && (match p.2.body with | some c => regOk (tabAt R p.1) c | none => true)
theorem gx_okd {P:Program} {T:List (Nat × TI)} {F:List (Nat × Func)} {I:List (Nat × List Nat)} {R:List (Nat × List (Nat × RG))} {force dbg dp:Bool} (ht:T.map (fun p=>mkTId dp P p.1)=T.map fun p=>some p.2) (hm:P.follows .mixedOrders=true)
 (hF:F.map (fun p=>P.funcs[p.1]?)=F.map fun p=>some p.2) (hB:F.all (fnB R)=true):(⟨⟨⟨P,T,force,dbg⟩,F,I⟩,R⟩:Gx).Ok:=by
 have hb:∀ p∈F,fnB R p=true:=List.all_eq_true.1 hB;refine ⟨⟨⟨⟨dp,ht⟩,hm⟩,fun p hp=>?_⟩,fun p hp c hc=>?_⟩
 ·have h:=hb p hp;simp only [fnB,Bool.and_eq_true,Bool.not_eq_true'] at h;refine ⟨?_,h.1.1,h.1.2⟩;obtain ⟨n,hn,e⟩:=List.getElem_of_mem hp;have:=congrArg (fun l=>l[n]?) hF;simp only [List.getElem?_map] at this;rw [List.getElem?_eq_getElem hn,e] at this;simpa using this
 ·have h:=hb p hp;have hp2:p.2.body=some c:=hc;simp only [fnB,Bool.and_eq_true,hp2] at h;exact h.2
theorem gx_ok {P:Program} {T:List (Nat × TI)} {F:List (Nat × Func)} {I:List (Nat × List Nat)} {R:List (Nat × List (Nat × RG))} {force dbg:Bool} (ht:T.map (fun p=>mkTI P p.1)=T.map fun p=>some p.2) (hm:P.follows .mixedOrders=true)
 (hF:F.map (fun p=>P.funcs[p.1]?)=F.map fun p=>some p.2) (hB:F.all (fnB R)=true):(⟨⟨⟨P,T,force,dbg⟩,F,I⟩,R⟩:Gx).Ok:=gx_okd (dp:=false) ht hm hF hB
end
end Go.Sx

namespace Go.Sx
section
def wrs (l:List (Nat × Chunk)):Heap:=l.map fun p=>⟨p.1,true,p.2⟩
def ros (l:List (Nat × Chunk)):Heap:=l.map fun p=>⟨p.1,false,p.2⟩
structure Con where
 α:Type
 β:Type
 m:Nat
 m':Nat
 pre:α->Prop
 args:α->List SV
 hp:α->List (Nat × Chunk)
 ro:α->List (Nat × Chunk)
 post:α->β->Prop
 res:α->β->SV
 hp':α->β->List (Nat × Chunk)
def conK (C:Con) (a:C.α):KV:=fun v s'=>∃ b,matchV C.m C.m' [] v (C.res a b) fun σ=>matchHp C.m C.m' 1000 (C.hp' a b).length σ s'.hp (wrs (C.hp' a b)) fun _ _=>C.post a b/\True
def conS (C:Con) (a:C.α):S:=⟨0,[],wrs (C.hp a)++ros (C.ro a),C.m,[],List.range C.m⟩
def conBody (Y:Gx) (C:Con) (ch:C.α->CallH) (lh:C.α->Nat->LH) (f:Nat):Prop:=∀ a,C.pre a->xbody Y (ch a) (lh a) f (C.args a) (conS C a) (conK C a)
def matchRo (n0 N:Nat):Nat->Nat->Sub->Heap->Heap->(Sub->Prop)->Prop
 | 0,_,_,_,_,_=>False
 | _+1,_,σ,_,[],K=>K σ
 | n+1,d,σ,hp,e::r,K=>bif noTag e.tag r then
  (match subAt σ e.tag with
  | some none=>isNo e.ch (matchRo n0 N n r.length σ hp r K)
  | some (some t)=>match hp.find t with
   | some (_,ch)=>matchCh n0 N σ ch e.ch fun σ=>matchRo n0 N n r.length σ hp r K
   | none=>False
  | none=>match absTag false e.ch hp with
   | some t=>(match hp.find t with
    | some (_,ch)=>bindT n0 N σ e.tag (some t) fun σ=>matchCh n0 N σ ch e.ch fun σ=>matchRo n0 N n r.length σ hp r K
    | none=>False)
   | none=>match d with
    | d+1=>matchRo n0 N n d σ hp (r++[e]) K
    | 0=>False) else False
inductive GotR (σ:Sub) (hp:Heap):Heap->Prop where
 | nil:GotR σ hp []
 | later {r:Heap} {e:Ent}:GotR σ hp (r++[e])->GotR σ hp (e::r)
 | skip {r:Heap} {T:Nat} {wr:Bool} {ty:TypeId} {ks:List CK} {rows:Nat->Nat->Value}:subAt σ T=some none->(∀ e∈r,T≠e.tag)->GotR σ hp r->GotR σ hp (⟨T,wr,.arr ty ks 0 rows⟩::r)
 | take {r:Heap} {T t:Nat} {wr wr':Bool} {ch ch':Chunk}:subAt σ T=some (some t)->hp.find t=some (wr',ch') ->
  (∀ ρ ρ' p w,Fits ρ ρ' σ->ch'.Sat ρ p w->ch.Sat ρ' p w)->(∀ e∈r,T≠e.tag)->GotR σ hp r->GotR σ hp (⟨T,wr,ch⟩::r)
theorem matchRo_ok {n0 N:Nat} {hp:Heap} {K:Sub->Prop}:∀ {n d:Nat} {J:Heap} {σ:Sub},matchRo n0 N n d σ hp J K->Wf n0 N σ->∃ σ',K σ'/\Ext σ σ'/\Wf n0 N σ'/\GotR σ' hp J
 | 0,_,_,_,h,_=>h.elim
 | _+1,_,[],σ,h,hw=>⟨σ,h,Ext.refl σ,hw,.nil⟩
 | n+1,d,⟨T,wr,ch⟩::r,σ,h,hw=>by
  simp only [matchRo] at h;cases hn:noTag T r
  ·rw [hn] at h;exact h.elim
  rw [hn] at h;simp only [cond_true] at h;have hne:=noTag_spec hn;split at h
  ·rename_i hs;cases ch<;>simp only [isNo] at h<;>try exact h.elim
   obtain ⟨rfl,h⟩:=h;obtain ⟨σ',h1,h2,h3,h4⟩:=matchRo_ok h hw;exact ⟨σ',h1,h2,h3,.skip (h2.at_ _ _ hs) hne h4⟩
  ·rename_i t hs;split at h
   ·rename_i wr' ch' hf;obtain ⟨σ1,k1,e1,w1,r1⟩:=matchCh_ok h hw;obtain ⟨σ',h1,h2,h3,h4⟩:=matchRo_ok k1 w1;exact ⟨σ',h1,e1.trans h2,h3,.take ((e1.trans h2).at_ _ _ hs) hf (fun ρ ρ' p w hf=>r1 ρ ρ' p w (hf.ext h2)) hne h4⟩
   ·exact h.elim
  ·split at h
   ·split at h
    ·rename_i wr' ch' hf;obtain ⟨σ0,k0,e0,w0,s0⟩:=bindT_ok h hw;obtain ⟨σ1,k1,e1,w1,r1⟩:=matchCh_ok k0 w0;obtain ⟨σ',h1,h2,h3,h4⟩:=matchRo_ok k1 w1;exact ⟨σ',h1,e0.trans (e1.trans h2),h3,.take ((e1.trans h2).at_ _ _ s0) hf (fun ρ ρ' p w hf=>r1 ρ ρ' p w (hf.ext h2)) hne h4⟩
    ·exact h.elim
   ·split at h
    ·obtain ⟨σ',h1,h2,h3,h4⟩:=matchRo_ok h hw;exact ⟨σ',h1,h2,h3,.later h4⟩
    ·exact h.elim
theorem GotR.src {σ:Sub} {hp J:Heap} (h:GotR σ hp J) {ρ ρ':Env} (hf:Fits ρ ρ' σ):∀ e∈J,(∀ b,¬ (ρ'.pl e.tag).fp b)\/∃ e'∈hp,ρ'.pl e.tag=ρ.pl e'.tag:=by
 induction h with
 | nil=>intro e he;cases he
 | later _ ih=>intro e he;exact ih e (by simp only [List.mem_cons,List.mem_append,List.not_mem_nil,or_false] at he ⊢;exact he.symm)
 | skip hs _ _ ih =>
  intro e he;rcases List.mem_cons.1 he with rfl|he
  ·left;intro b;rw [(hf _ _ hs).2];exact id
  ·exact ih e he
 | take hs hfd _ _ _ ih =>
  intro e he;rcases List.mem_cons.1 he with rfl|he
  ·exact .inr ⟨_,Heap.find_mem hfd,(hf _ _ hs).2⟩
  ·exact ih e he
theorem GotR.sat {σ:Sub} {hp J:Heap} (h:GotR σ hp J) {ρ ρ':Env} (hf:Fits ρ ρ' σ) {w0:World} {M:Nat->Prop} {w:World} (hh:HeapSat w0 M ρ hp w) (hr:∀ e∈J,e.wr=false) {w1:World} {M1:Nat->Prop} (hk:Keeps M1 w1 w):HeapSat w1 M1 ρ' J w:=by
 induction h with
 | nil=>exact ⟨hk,fun _ h=>(by cases h),.nil⟩
 | later _ ih=>exact (ih fun e he=>hr e (by simp only [List.mem_cons,List.mem_append,List.not_mem_nil,or_false] at he ⊢;exact he.symm)).perm (List.perm_append_singleton _ _)
 | skip hs hne _ ih =>
  refine (ih fun e he=>hr e (List.mem_cons_of_mem _ he)).cons ⟨(hf _ _ hs).1,?_,?_,?_⟩ fun x hx=>⟨hne x hx,fun _ b hb=>?_⟩
  ·refine .inl ⟨rfl,?_,fun b hb=>?_⟩
   ·rw [(hf _ _ hs).2];rfl
   ·rw [(hf _ _ hs).2] at hb;exact hb
  ·intro b hb;rw [(hf _ _ hs).2] at hb;exact hb.elim
  ·intro _ b hb;rw [(hf _ _ hs).2] at hb;exact hb.elim
  ·rw [(hf _ _ hs).2] at hb;exact hb.elim
 | take hs hfd hc hne _ ih =>
  have hp1:=(hf _ _ hs).2;have he:=hh.ent _ (Heap.find_mem hfd);refine (ih fun e he=>hr e (List.mem_cons_of_mem _ he)).cons ⟨(hf _ _ hs).1,?_,?_,?_⟩ fun x hx=>⟨hne x hx,fun hwr=>?_⟩
  ·rw [hp1];exact hc ρ ρ' _ w hf he.ch
  ·rw [hp1];exact he.lt
  ·intro h1;have:=hr _ List.mem_cons_self;simp only at this h1;rw [this] at h1;cases h1
  ·have h1:=hr _ List.mem_cons_self;have h2:=hr x (List.mem_cons_of_mem _ hx);simp only at h1;rw [h1,h2] at hwr;cases hwr
def renT (σ:Sub) (nx m T:Nat):Nat:=bif Nat.blt T m then (match subAt σ T with|some (some t)=>bif Nat.blt t nx then t else nx+T|_=>nx+T) else nx+T
def renA (f:Nat->Nat):A->A
 | .ptr T r e c=>.ptr (f T) r e c
 | .slc T r e l c=>.slc (f T) r e l c
 | .sub T r e o l c=>.sub (f T) r e o l c
 | x=>x
def renCV (f:Nat->Nat):CV->CV
 | .a x=>.a (renA f x)
 | .agg xs=>.agg (xs.map (renA f))
def renV (f:Nat->Nat):SV->SV
 | .a x=>.a (renA f x)
 | .agg xs=>.agg (xs.map (renA f))
 | .tup xs=>.tup (xs.map (renCV f))
 | .clo g xs=>.clo g (xs.map (renA f))
def renCh (f:Nat->Nat):Chunk->Chunk
 | .obj ty cs=>.obj ty (cs.map (renA f))
 | c=>c
def Moves (f:Nat->Nat) (ρ ρ':Env):Prop:=∀ T,T<ρ.n->f T<ρ'.n/\ρ'.pl (f T)=ρ.pl T
theorem renA_rep {f:Nat->Nat} {ρ ρ':Env} (h:Moves f ρ ρ') {x:A} {v:Value} (r:x.Rep ρ v):(renA f x).Rep ρ' v:=by
 cases x<;>simp only [renA,A.Rep] at r ⊢<;>try exact r
 ·obtain ⟨h1,rfl⟩:=r;obtain ⟨h2,h3⟩:=h _ h1;exact ⟨h2,by rw [h3]⟩
 ·obtain ⟨h1,h4,h5,h6⟩:=r;obtain ⟨h2,h3⟩:=h _ h1;exact ⟨h2,h4,h5,by rw [h3];exact h6⟩
 ·obtain ⟨h1,h4,h5,rfl⟩:=r;obtain ⟨h2,h3⟩:=h _ h1;exact ⟨h2,h4,h5,by rw [h3]⟩
theorem renL_rep {f:Nat->Nat} {ρ ρ':Env} (h:Moves f ρ ρ'):∀ {xs:List A} {vs:List Value},RepL ρ xs vs->RepL ρ' (xs.map (renA f)) vs
 | [],_,r=>r
 | _::_,_,⟨v,t,e,r1,r2⟩=>⟨v,t,e,renA_rep h r1,renL_rep h r2⟩
theorem renCV_rep {f:Nat->Nat} {ρ ρ':Env} (h:Moves f ρ ρ'):∀ {x:CV} {v:Value},x.Rep ρ v->(renCV f x).Rep ρ' v
 | .a _,_,r=>renA_rep h r
 | .agg _,_,⟨vs,e,r⟩=>⟨vs,e,renL_rep h r⟩
theorem renC_rep {f:Nat->Nat} {ρ ρ':Env} (h:Moves f ρ ρ'):∀ {xs:List CV} {vs:List Value},RepC ρ xs vs->RepC ρ' (xs.map (renCV f)) vs
 | [],_,r=>r
 | _::_,_,⟨v,t,e,r1,r2⟩=>⟨v,t,e,renCV_rep h r1,renC_rep h r2⟩
theorem renV_rep {f:Nat->Nat} {ρ ρ':Env} (h:Moves f ρ ρ'):∀ {x:SV} {v:Value},x.Rep ρ v->(renV f x).Rep ρ' v
 | .a _,_,r=>renA_rep h r
 | .agg _,_,⟨vs,e,r⟩=>⟨vs,e,renL_rep h r⟩
 | .tup _,_,⟨vs,e,r⟩=>⟨vs,e,renC_rep h r⟩
 | .clo _ _,_,⟨vs,e,r⟩=>⟨vs,e,renL_rep h r⟩
theorem renCh_sat {f:Nat->Nat} {ρ ρ':Env} (h:Moves f ρ ρ') {c:Chunk} {p:Place} {w:World} (r:c.Sat ρ p w):(renCh f c).Sat ρ' p w:=by
 cases c with
 | obj ty cs=>obtain ⟨vs,fr,a,b,⟨us,xs,e,c⟩,d⟩:=r;exact ⟨vs,fr,a,b,⟨us,xs,e,renL_rep h c⟩,d⟩
 | arr ty ks n rows=>exact r
 | abs R=>exact r
 | pool H=>exact r
def renHp (f:Nat->Nat) (l:List (Nat × Chunk)):Heap:=l.map fun p=>⟨f p.1,true,renCh f p.2⟩
def distinct:Heap->Bool
 | []=>true
 | e::r=>noTag e.tag r&&distinct r
theorem distinct_spec:∀ {hp:Heap},distinct hp=true->hp.Pairwise fun x y=>x.tag≠y.tag
 | [],_=>.nil
 | e::r,h=>by
  simp only [distinct,Bool.and_eq_true] at h;exact List.pairwise_cons.2 ⟨fun y hy=>noTag_spec h.1 y hy,distinct_spec h.2⟩
def conCall (C:Con) (args:List SV) (s:S) (K:KV):Prop :=
 ∃ a,matchArgs 0 C.m [] args (C.args a) fun σ=>matchHp 0 C.m 1000 (C.hp a).length σ s.hp (wrs (C.hp a)) fun σ rest=>matchRo 0 C.m 1000 (C.ro a).length σ rest (ros (C.ro a)) fun σ =>
  bif distinct (wrs (C.hp a)++ros (C.ro a)) then C.pre a /\
  ∀ b,C.post a b->bif distinct (renHp (renT σ s.nx C.m) (C.hp' a b)++rest) then
   K (renV (renT σ s.nx C.m) (C.res a b)) ⟨s.nt,s.fr,renHp (renT σ s.nx C.m) (C.hp' a b)++rest,s.nx+C.m',s.kp,s.rt⟩ else False else False
theorem HeapSat.local {w0:World} {M:Nat->Prop} {ρ:Env} {hp:Heap} {w:World} (h:HeapSat w0 M ρ hp w):HeapSat w (frozenM ρ hp) ρ hp w where
 keeps:=Keeps.refl _ w
 ent:=fun e he=>⟨(h.ent e he).tag,(h.ent e he).ch,(h.ent e he).lt,fun hw _ hb _=>⟨e,he,hw,hb⟩⟩
 apart:=h.apart
theorem HeapSat.app {w0:World} {M:Nat->Prop} {ρ:Env} {w:World}:∀ {h1 h2:Heap},HeapSat w0 M ρ h1 w->HeapSat w0 M ρ h2 w->(∀ x∈h1,∀ y∈h2,Apart ρ x y)->HeapSat w0 M ρ (h1++h2) w
 | [],_,_,h,_=>h
 | e::r,h2,h,h',ha=>by
  have hr:=HeapSat.app (h.sub (List.sublist_cons_self e r)) h' fun x hx=>ha x (List.mem_cons_of_mem _ hx);refine hr.cons (h.ent e List.mem_cons_self) fun x hx=>?_;rcases List.mem_append.1 hx with hx|hx
  ·exact (List.pairwise_cons.1 h.apart).1 x hx
  ·exact ha e List.mem_cons_self x hx
theorem wrs_wr {l:List (Nat × Chunk)} {e:Ent} (h:e∈wrs l):e.wr=true:=by
 obtain ⟨p,_,rfl⟩:=List.mem_map.1 h;rfl
theorem ros_wr {l:List (Nat × Chunk)} {e:Ent} (h:e∈ros l):e.wr=false:=by
 obtain ⟨p,_,rfl⟩:=List.mem_map.1 h;rfl
def ConSem (X:Cx) (C:Con) (f:Nat):Prop:=∀ a,C.pre a->∀ (M:Nat->Prop) (ρ:Env) (w:World) (vs:List Value),ρ.n=C.m->HeapSat w M ρ (wrs (C.hp a)++ros (C.ro a)) w->RepArgs ρ (C.args a) vs ->
 Calls X.P f vs.toArray w fun e w'=>∃ v,e = .returned v/\∃ o ρ2,C.post a o/\ρ2.n=C.m'/\(∀ T,T<C.m->ρ2.pl T=ρ.pl T)/\(C.res a o).Rep ρ2 v/\HeapSat w M ρ2 (wrs (C.hp' a o)) w'
theorem con_okS {X:Cx} {C:Con} {f:Nat} (hb:ConSem X C f) {args:List SV} {s:S} {K:KV} (h:conCall C args s K):CallOk X f args s K:=by
 obtain ⟨a,h⟩:=h;obtain ⟨σ1,h1,e1,w1,r1⟩:=matchArgs_ok h (Wf.nil _ _);obtain ⟨σ2,rest,h2,e2,w2,g⟩:=matchHp_ok h1 w1;obtain ⟨σ,hcont,e3,w3,gr⟩:=matchRo_ok h2 w2;cases hd0:distinct (wrs (C.hp a)++ros (C.ro a)) with
 | false=>rw [hd0] at hcont;exact hcont.elim
 | true =>
 rw [hd0] at hcont;obtain ⟨hpre,hpost⟩:=hcont;intro w0 M ρ w vs hn hh hargs;have hf:Fits ρ (subEnv ρ σ C.m) σ:=subEnv_fits w3;have hfw:=hf.ext e3;have hW:HeapSat w0 M (subEnv ρ σ C.m) (wrs (C.hp a)) w:=g.sat hfw hh;have hrest:HeapSat w0 M ρ rest w:=hh.sub g.rest;have hWl:=hW.local;have hRo:HeapSat w (frozenM (subEnv ρ σ C.m) (wrs (C.hp a))) (subEnv ρ σ C.m) (ros (C.ro a)) w:=gr.sat hf hrest (fun e he=>ros_wr he) (Keeps.refl _ w);have hapW:∀ g0∈wrs (C.hp a),∀ f∈rest,∀ b,((subEnv ρ σ C.m).pl g0.tag).fp b->¬ (ρ.pl f.tag).fp b:=fun g0 hg0 f hf0=>g.apart hfw hh g0 hg0 f hf0 (by rw [wrs_wr hg0];rfl);have hM1:∀ f∈rest,∀ b,(ρ.pl f.tag).fp b->¬ frozenM (subEnv ρ σ C.m) (wrs (C.hp a)) b:=by
  rintro f hf0 b hb ⟨g0,hg0,_,hfp⟩;exact hapW g0 hg0 f hf0 b hfp hb
 have hM:∀ b,b<w0.heap.size->frozenM (subEnv ρ σ C.m) (wrs (C.hp a)) b->M b:=by
  rintro b hb ⟨g0,hg0,hw,hfp⟩;exact (hW.ent g0 hg0).own hw b hfp hb
 have hdist:=List.pairwise_append.1 (distinct_spec hd0);have hJ:HeapSat w (frozenM (subEnv ρ σ C.m) (wrs (C.hp a))) (subEnv ρ σ C.m) (wrs (C.hp a)++ros (C.ro a)) w:=by
  refine hWl.app hRo fun x hx y hy=>⟨hdist.2.2 x hx y hy,fun _ b hb hb'=>?_⟩
  rcases gr.src hf y hy with h | ⟨y',h1,h2⟩
  ·exact h b hb'
  ·rw [h2] at hb';exact hapW x hx y' h1 b hb hb'
 have hargs':RepArgs (subEnv ρ σ C.m) (C.args a) vs:=r1 ρ _ vs (hf.ext (e2.trans e3)) hargs;refine (hb a hpre _ (subEnv ρ σ C.m) w vs rfl hJ hargs').mono ?_;rintro e w' ⟨v,rfl,o,ρ2,hpo,hn2,hpl2,hres,hnew⟩;refine ⟨v,rfl,?_⟩;have hcont:=hpost o hpo;cases hd:distinct (renHp (renT σ s.nx C.m) (C.hp' a o)++rest) with
 | false=>rw [hd] at hcont;exact hcont.elim
 | true =>
 rw [hd] at hcont;simp only [cond_true] at hcont;have hds:=List.pairwise_append.1 (distinct_spec hd)
 let ρ3:Env:=⟨s.nx+C.m',fun t=>if t<s.nx then ρ.pl t else ρ2.pl (t - s.nx)⟩
 have hle:ρ.le ρ3:=⟨by show ρ.n<=s.nx+C.m';omega,fun t ht=>by show (if t<s.nx then _ else _)=_;rw [if_pos (by omega)]⟩
 have hmv:Moves (renT σ s.nx C.m) ρ2 ρ3:=by
  intro T hT;have hT':T<C.m':=by rw [<- hn2];exact hT
  have fresh:s.nx+T<ρ3.n/\ρ3.pl (s.nx+T)=ρ2.pl T:=⟨by show s.nx+T<s.nx+C.m';omega,by show (if s.nx+T<s.nx then _ else _)=_;rw [if_neg (by omega),Nat.add_sub_cancel_left]⟩
  unfold renT;cases hlt:Nat.blt T C.m with
  | false=>exact fresh
  | true =>
   have hTm:T<C.m:=by simp [Nat.blt] at hlt;omega
   simp only [cond_true];split
   ·rename_i t hst;cases hlt2:Nat.blt t s.nx with
    | false=>exact fresh
    | true =>
     have htn:t<s.nx:=by simp [Nat.blt] at hlt2;omega
     refine ⟨by show t<s.nx+C.m';omega,?_⟩;show (if t<s.nx then _ else _)=_;rw [if_pos htn];rw [hpl2 T hTm,(hf T _ hst).2];rfl
   ·exact fresh
 have hkeep:Keeps (frozenM (subEnv ρ σ C.m) (wrs (C.hp a))) w w':=hnew.keeps;have hfix:∀ f∈rest,∀ b,(ρ.pl f.tag).fp b->w'.heap[b]? = w.heap[b]?:=fun f hf0 b hb=>hkeep.block b ((hrest.ent f hf0).lt b hb) (hM1 f hf0 b hb);have hrest3:HeapSat w0 M ρ3 rest w':=(hrest.world hkeep hM hfix).mono hle;have hown:∀ g0∈wrs (C.hp' a o),∀ b,(ρ2.pl g0.tag).fp b->b<w.heap.size->frozenM (subEnv ρ σ C.m) (wrs (C.hp a)) b:=fun g0 hg0 b hb hlt=>(hnew.ent g0 hg0).own (wrs_wr hg0) b hb hlt;refine ⟨_,_,ρ3,hcont,rfl,rfl,hle,rfl,renV_rep hmv hres,?_⟩;have hren:HeapSat w0 M ρ3 (renHp (renT σ s.nx C.m) (C.hp' a o)) w':=by
  refine ⟨hrest3.keeps,fun e he=>?_,?_⟩
  ·obtain ⟨p,hp,rfl⟩:=List.mem_map.1 he;have hg:=hnew.ent ⟨p.1,true,p.2⟩ (List.mem_map.2 ⟨p,hp,rfl⟩);obtain ⟨m1,m2⟩:=hmv _ hg.tag;refine ⟨m1,?_,?_,fun _ b hb hlt=>?_⟩
   ·show (renCh _ p.2).Sat ρ3 (ρ3.pl _) w';rw [m2];exact renCh_sat hmv hg.ch
   ·show ∀ b,(ρ3.pl _).fp b->_;rw [m2];exact hg.lt
   ·have hb':(ρ2.pl p.1).fp b:=by have:(ρ3.pl (renT σ s.nx C.m p.1)).fp b:=hb;rw [m2] at this;exact this
    exact hM b hlt (hown ⟨p.1,true,p.2⟩ (List.mem_map.2 ⟨p,hp,rfl⟩) b hb' (Nat.lt_of_lt_of_le hlt hh.keeps.size))
  ·have hd1:=List.pairwise_map.1 hds.1;have ha1:=List.pairwise_map.1 hnew.apart;refine List.pairwise_map.2 (List.Pairwise.imp_of_mem (fun {x y} hx hy hxy=>?_) (hd1.and ha1));obtain ⟨hne,hap⟩:=hxy;have gx:=hmv _ (hnew.ent ⟨x.1,true,x.2⟩ (List.mem_map.2 ⟨x,hx,rfl⟩)).tag;have gy:=hmv _ (hnew.ent ⟨y.1,true,y.2⟩ (List.mem_map.2 ⟨y,hy,rfl⟩)).tag;refine ⟨hne,fun _ b hb hb'=>?_⟩;have hb1:(ρ3.pl (renT σ s.nx C.m x.1)).fp b:=hb;have hb2:(ρ3.pl (renT σ s.nx C.m y.1)).fp b:=hb';rw [gx.2] at hb1;rw [gy.2] at hb2;exact hap.2 rfl b hb1 hb2
 refine hren.app hrest3 fun x hx y hy=>⟨hds.2.2 x hx y hy,fun _ b hb hb'=>?_⟩
 obtain ⟨p,hp,rfl⟩:=List.mem_map.1 hx;have hmem:(⟨p.1,true,p.2⟩:Ent)∈wrs (C.hp' a o):=List.mem_map.2 ⟨p,hp,rfl⟩;have gx:=hmv _ (hnew.ent _ hmem).tag;have hb1:(ρ3.pl (renT σ s.nx C.m p.1)).fp b:=hb;rw [gx.2] at hb1;have hb2:(ρ.pl y.tag).fp b:=by rw [<- hle.pl _ (hrest.ent y hy).tag];exact hb'
 have hlt:=(hrest.ent y hy).lt b hb2;exact hM1 y hy b hb2 (hown _ hmem b hb1 hlt)
theorem con_sem {Y:Gx} (hY:Y.Ok) {C:Con} {ch:C.α->CallH} (hch:∀ a,HOk Y.G.X (ch a)) {lh:C.α->Nat->LH} {f:Nat} (hb:conBody Y C ch lh f):ConSem Y.G.X C f:=by
 intro a hpre M ρ w vs hn hJ hargs;refine (xbody_ok hY (hch a) (hb a hpre) w M ρ w vs hn hJ hargs).mono ?_;rintro e w' ⟨v,rfl,sv,s',ρ1,hK,_,_,hle1,hn1,hrep1,hh1⟩;refine ⟨v,rfl,?_⟩;obtain ⟨o,hK⟩:=hK;obtain ⟨τ1,k1,f1,v1,q1⟩:=matchV_ok hK (Wf.nil _ _);obtain ⟨τ,rest',⟨hpo,_⟩,f2,v2,gt⟩:=matchHp_ok k1 v1;have hft:Fits ρ1 (subEnv ρ1 τ C.m') τ:=subEnv_fits v2;refine ⟨o,subEnv ρ1 τ C.m',hpo,rfl,fun T hTm=>?_,q1 ρ1 _ v (hft.ext f2) hrep1,gt.sat hft hh1⟩;rw [<- hle1.pl T (by rw [hn];exact hTm)];show (match subAt τ T with|some x=>placeOf ρ1 x|none=>ρ1.pl T)=_;split
 ·rename_i x hx;rw [v2.id T x hx hTm];rfl
 ·rfl
theorem con_ok {Y:Gx} (hY:Y.Ok) {C:Con} {ch:C.α->CallH} (hch:∀ a,HOk Y.G.X (ch a)) {lh:C.α->Nat->LH} {f:Nat} (hb:conBody Y C ch lh f) {args:List SV} {s:S} {K:KV} (h:conCall C args s K):CallOk Y.G.X f args s K :=
 con_okS (con_sem hY hch hb) h
def cons (tab:Nat->Option Con):Sx.Spec:=fun f=>(tab f).map conCall
theorem cons_ok {X:Cx} {tab:Nat->Option Con} (h:∀ f C,tab f=some C->∀ args s K,conCall C args s K->CallOk X f args s K):SpOk X (cons tab):=by
 intro f g hg args s K hK;unfold cons at hg;cases ht:tab f with
 | none=>rw [ht] at hg;cases hg
 | some C=>rw [ht] at hg;cases hg;exact h f C ht args s K hK
end
end Go.Sx

namespace Go.Sx
section
def gl {α:Type} [Inhabited α] (l:List α) (i:Nat):α:=l.getD i default
theorem gl_eq {α:Type} [Inhabited α] {l:List α} {i:Nat} (h:i<l.length):gl l i=l[i]:=by simp [gl,List.getD,h]
theorem gl_append_left {α:Type} [Inhabited α] {l m:List α} {i:Nat} (h:i<l.length):gl (l++m) i=gl l i:=by simp [gl,List.getD,List.getElem?_append_left h]
theorem gl_append_right {α:Type} [Inhabited α] {l m:List α} {i:Nat} (h:l.length<=i):gl (l++m) i=gl m (i - l.length):=by simp [gl,List.getD,List.getElem?_append_right h]
theorem gl_set_self {α:Type} [Inhabited α] {l:List α} {i:Nat} {x:α} (h:i<l.length):gl (l.set i x) i=x:=by simp [gl,List.getD,h]
theorem gl_set_ne {α:Type} [Inhabited α] {l:List α} {i j:Nat} {x:α} (h:i≠j):gl (l.set i x) j=gl l j:=by simp [gl,List.getD,List.getElem?_set_ne h]
theorem gl_map {α β:Type} [Inhabited α] [Inhabited β] {l:List α} {f:α->β} {i:Nat} (h:i<l.length):gl (l.map f) i=f (gl l i):=by simp [gl,List.getD,h]
theorem gl_take {α:Type} [Inhabited α] {l:List α} {i k:Nat} (h:i<k):gl (l.take k) i=gl l i:=by simp [gl,List.getD,h]
theorem take_succ_gl {α:Type} [Inhabited α] {l:List α} {i:Nat} (h:i<l.length):l.take (i+1)=l.take i++[gl l i]:=by
 rw [List.take_succ_eq_append_getElem h,gl_eq h]
theorem gl_mem {α:Type} [Inhabited α] {l:List α} {i:Nat} (h:i<l.length):gl l i∈l:=by rw [gl_eq h];exact List.getElem_mem h
def encRows {α:Type} [Inhabited α] (enc:α->List Value) (l:List α):Nat->Nat->Value:=fun i j=>(enc (gl l i)).getD j undef
theorem updR_other {rows:Nat->Nat->Value} {row c i:Nat} {vs:List Value} (h:i≠row):updR rows row c vs i=rows i:=by
 funext j;simp [updR,h]
theorem updR_self {rows:Nat->Nat->Value} {row c:Nat} {vs:List Value}:updR rows row c vs row=fun j=>bif Nat.ble c j&&Nat.blt j (c+vs.length) then vs.getD (j - c) undef else rows row j:=by
 funext j;simp [updR]
def cellsOf (m:Nat) (r:Nat->Value):List Value:=(List.range m).map r
theorem RowsEq.of_cells {n m:Nat} {rows rows':Nat->Nat->Value} (h:∀ i,i<n->cellsOf m (rows i)=cellsOf m (rows' i)):RowsEq n m rows rows':=by
 refine ⟨fun i hi j hj=>?_⟩;have:=congrArg (fun l=>l[j]?) (h i hi);simpa [cellsOf,hj] using this
theorem RowsEq.of_eq {n m:Nat} {a b:Nat->Nat->Value} (h:a=b):RowsEq n m a b:=h▸.refl n m a
theorem RowsEq.set {α:Type} [Inhabited α] {enc:α->List Value} {n m:Nat} {l:List α} {x:α} (i0:Nat) {rows:Nat->Nat->Value} (h0:i0<l.length)
 (h1:∀ i,i≠i0->rows i=encRows enc l i) (h2:cellsOf m (rows i0)=cellsOf m fun j=>(enc x).getD j undef):RowsEq n m rows (encRows enc (l.set i0 x)):=by
 refine .of_cells fun i _=>?_;by_cases hi:i=i0
 ·subst hi;rw [h2];unfold encRows;rw [gl_set_self h0]
 ·rw [h1 i hi];unfold encRows;rw [gl_set_ne fun h=>hi h.symm]
theorem appRows_left {r0 r1:Nat->Nat->Value} {s l i:Nat} (h:i<l):appRows r0 s l r1 i=r0 (s+i):=by funext j;simp [appRows,h]
theorem appRows_right {r0 r1:Nat->Nat->Value} {s l i:Nat} (h:l<=i):appRows r0 s l r1 i=r1 (i - l):=by funext j;simp [appRows,Nat.not_lt.2 h]
theorem RowsEq.app {α:Type} [Inhabited α] {enc:α->List Value} {n m s:Nat} {l q:List α} {r0 r1:Nat->Nat->Value} {k:Nat} (hk:l.length=k) (h0:RowsEq k m (fun i=>r0 (s+i)) (encRows enc l)) (h1:RowsEq (n - k) m r1 (encRows enc q)) :
 RowsEq n m (appRows r0 s k r1) (encRows enc (l++q)):=by
 refine ⟨fun i hi j hj=>?_⟩;by_cases h:i<k
 ·rw [appRows_left h];refine (h0.at_ i h j hj).trans ?_;unfold encRows;rw [gl_append_left (by omega)]
 ·rw [appRows_right (by omega)];refine (h1.at_ (i - k) (by omega) j hj).trans ?_;unfold encRows;rw [gl_append_right (by omega),hk]
theorem RowsEq.one {α:Type} [Inhabited α] {enc:α->List Value} {n m:Nat} {x:α} {rows:Nat->Nat->Value} (hn:n<=1) (h:cellsOf m (rows 0)=cellsOf m fun j=>(enc x).getD j undef):RowsEq n m rows (encRows enc [x]):=by
 refine .of_cells fun i hi=>?_;have:i=0:=by omega
 subst this;rw [h];rfl
theorem RowsEq.push {α:Type} [Inhabited α] {enc:α->List Value} {n m:Nat} {l:List α} {x:α} {r1:Nat->Nat->Value} {k:Nat} (hk:l.length=k) (hn:n<=k+1) (h:cellsOf m (r1 0)=cellsOf m fun j=>(enc x).getD j undef) :
 RowsEq n m (appRows (encRows enc l) 0 k r1) (encRows enc (l++[x])) :=
 .app hk (.of_eq (by funext i;simp)) (.one (by omega) h)
def CallsBy (X:Cx) (f:Nat) (C:Con):Prop:=∀ args s K,conCall C args s K->CallOk X f args s K
def conTab:List (Nat × Con)->Nat->Option Con
 | [],_=>none
 | (j,c)::r,f=>bif Nat.beq j f then some c else conTab r f
def TabOk (X:Cx):List (Nat × Con)->Prop
 | []=>True
 | p::r=>CallsBy X p.1 p.2/\TabOk X r
theorem TabOk.at_ {X:Cx}:∀ {l:List (Nat × Con)},TabOk X l->∀ f C,conTab l f=some C->CallsBy X f C
 | [],_,_,_,h=>by cases h
 | (j,c)::r,h,f,C,hc=>by
  simp only [conTab] at hc;by_cases hj:j=f
  ·subst hj;simp only [beq_self',cond_true,Option.some.injEq] at hc;subst hc;exact h.1
  ·rw [beq_ne hj] at hc;exact TabOk.at_ h.2 f C hc
def lhTab (n:Nat):List (Nat × List An × List An)->Nat->LH
 | [],_=>.mk n [] []
 | (j,l,c)::r,f=>bif Nat.beq j f then .mk n l c else lhTab n r f
def CHof (Y:Gx) (tab:List (Nat × Con)) (lh:Nat->LH) (n:Nat):CallH:=xcall Y (cons (conTab tab)) lh n
theorem CHof_ok {Y:Gx} (hY:Y.Ok) {tab:List (Nat × Con)} (ht:TabOk Y.G.X tab) {lh:Nat->LH} {n:Nat}:HOk Y.G.X (CHof Y tab lh n) :=
 xcall_ok hY (cons_ok fun f C h=>ht.at_ f C h) n
def fnBodyP (Y:Gx) (tab:List (Nat × Con)) (f:Nat) (C:Con) (l:C.α->List (Nat × List An × List An)):Prop :=
 conBody Y C (fun a=>CHof Y tab (lhTab 1000 (l a)) 20) (fun a=>lhTab 1000 (l a)) f
structure fnBody (Y:Gx) (tab:List (Nat × Con)) (f:Nat) (C:Con) (l:C.α->List (Nat × List An × List An)):Prop where
 body:fnBodyP Y tab f C l
theorem fnBody.of {Y:Gx} {tab:List (Nat × Con)} {f:Nat} {C:Con} {l:C.α->List (Nat × List An × List An)} {p:Prop} (h:fnBodyP Y tab f C l=p) (hp:p):fnBody Y tab f C l:=⟨h.mpr hp⟩
theorem fn_ok {Y:Gx} (hY:Y.Ok) {tab:List (Nat × Con)} (ht:TabOk Y.G.X tab) {f:Nat} {C:Con} {l:C.α->List (Nat × List An × List An)} (hb:fnBody Y tab f C l):CallsBy Y.G.X f C :=
 fun _ _ _ h=>con_ok hY (fun _=>CHof_ok hY ht) hb.body h
def An.flat (key:Nat) (α:Type) (J:S->α->S) (p:S->α->Prop) (μ:S->α->Nat):An:=.mk key α J p μ fun _=>.mk 60 [] []
def tagOf:SV->Nat
 | .a (.ptr t _ _ _)=>t
 | .a (.slc t _ _ _ _)=>t
 | _=>0
def S.tg (s:S) (i:Nat):Nat:=tagOf (look s.fr i)
def S.iv (s:S) (i:Nat):Int:=match look s.fr i with
 | .a (.int _ n)=>n
 | .a (.lit _ n)=>n
 | _=>0
def S.in_ (s:S) (t c:Nat):Nat:=match s.hp.find t with
 | some (_,.obj _ cs)=>match cs[c]? with|some x=>tagOf (.a x)|none=>0
 | _=>0
def S.at_ (s:S) (t:Nat) (ch:Chunk):S:=s.put (s.hp.upd t ch)
def S.int (s:S) (i:Nat) (n:Int):S:=s.set i (.a (.int .i64 n))
end
end Go.Sx

namespace Go.Proofs.YtfhkbihcfmbbcaaGreat
open Go.Sx
set_option maxRecDepth 100000
namespace Tab
def Tf:List (Nat × TI):=[(2,⟨1,8,false,.int .i64,[.lit .i64 0],[.int .i64]⟩),
 (3,⟨1,8,false,.int .i64,[.lit .i64 0],[.int .i64]⟩),
 (4,⟨1,1,false,.bool,[.ff],[.bool]⟩),
 (5,⟨1,1,false,.int .u8,[.lit .u8 0],[.int .u8]⟩),
 (9,⟨1,16,false,.str,[.str ⟨#[]⟩],[.str]⟩),
 (22,⟨1,8,false,.ptr,[.nil],[.other]⟩),
 (23,⟨1,8,false,.int .i64,[.lit .i64 0],[.int .i64]⟩),
 (28,⟨1,8,false,.ptr,[.nil],[.other]⟩),
 (32,⟨1,24,false,.slc 4,[.snil],[.other]⟩),
 (35,⟨4,32,true,.struct [(0,1),(1,1),(2,1),(3,1)],[.lit .i64 0,.lit .i64 0,.lit .i64 0,.ff],[.int .i64,.int .i64,.int .i64,.bool]⟩),
 (37,⟨1,8,false,.ptr,[.nil],[.other]⟩),
 (38,⟨1,8,false,.ptr,[.nil],[.other]⟩),
 (39,⟨1,8,false,.ptr,[.nil],[.other]⟩),
 (41,⟨4,32,true,.struct [(0,1),(1,1),(2,1),(3,1)],[.nil,.nil,.nil,.lit .i64 0],[.other,.other,.other,.int .i64]⟩),
 (43,⟨1,24,false,.slc 48,[.snil],[.other]⟩),
 (44,⟨1,24,false,.slc 9,[.snil],[.other]⟩),
 (46,⟨4,48,true,.struct [(0,1),(1,1),(2,1),(3,1)],[.str ⟨#[]⟩,.str ⟨#[]⟩,.lit .i64 0,.ff],[.str,.str,.int .i64,.bool]⟩),
 (48,⟨11,136,true,.struct [(0,1),(1,4),(5,1),(6,4),(10,1)],[.lit .i64 0,.str ⟨#[]⟩,.str ⟨#[]⟩,.lit .i64 0,.ff,.snil,.lit .i64 0,.lit .i64 0,.lit .i64 0,.ff,.snil],[.int .i64,.str,.str,.int .i64,.bool,.other,.int .i64,.int .i64,.int .i64,.bool,.other]⟩),
 (59,⟨1,24,false,.slc 3,[.snil],[.other]⟩),
 (60,⟨1,24,false,.slc 5,[.snil],[.other]⟩),
 (61,⟨1,8,false,.func,[.val .nilFunc],[.other]⟩),
 (62,⟨1,24,false,.slc 66,[.snil],[.other]⟩),
 (66,⟨2,24,true,.struct [(0,1),(1,1)],[.lit .i64 0,.str ⟨#[]⟩],[.int .i64,.str]⟩),
 (81,⟨1,24,false,.slc 86,[.snil],[.other]⟩),
 (83,⟨2,32,true,.struct [(0,1),(1,1)],[.snil,.lit .i64 0],[.other,.int .i64]⟩),
 (84,⟨64,64,true,.arr 64 5,[.lit .u8 0,.lit .u8 0,.lit .u8 0,.lit .u8 0,.lit .u8 0,.lit .u8 0,.lit .u8 0,.lit .u8 0,.lit .u8 0,.lit .u8 0,.lit .u8 0,.lit .u8 0,.lit .u8 0,.lit .u8 0,.lit .u8 0,.lit .u8 0,.lit .u8 0,.lit .u8 0,.lit .u8 0,.lit .u8 0,.lit .u8 0,.lit .u8 0,.lit .u8 0,.lit .u8 0,.lit .u8 0,.lit .u8 0,.lit .u8 0,.lit .u8 0,.lit .u8 0,.lit .u8 0,.lit .u8 0,.lit .u8 0,.lit .u8 0,.lit .u8 0,.lit .u8 0,.lit .u8 0,.lit .u8 0,.lit .u8 0,.lit .u8 0,.lit .u8 0,.lit .u8 0,.lit .u8 0,.lit .u8 0,.lit .u8 0,.lit .u8 0,.lit .u8 0,.lit .u8 0,.lit .u8 0,.lit .u8 0,.lit .u8 0,.lit .u8 0,.lit .u8 0,.lit .u8 0,.lit .u8 0,.lit .u8 0,.lit .u8 0,.lit .u8 0,.lit .u8 0,.lit .u8 0,.lit .u8 0,.lit .u8 0,.lit .u8 0,.lit .u8 0,.lit .u8 0],[.int .u8,.int .u8,.int .u8,.int .u8,.int .u8,.int .u8,.int .u8,.int .u8,.int .u8,.int .u8,.int .u8,.int .u8,.int .u8,.int .u8,.int .u8,.int .u8,.int .u8,.int .u8,.int .u8,.int .u8,.int .u8,.int .u8,.int .u8,.int .u8,.int .u8,.int .u8,.int .u8,.int .u8,.int .u8,.int .u8,.int .u8,.int .u8,.int .u8,.int .u8,.int .u8,.int .u8,.int .u8,.int .u8,.int .u8,.int .u8,.int .u8,.int .u8,.int .u8,.int .u8,.int .u8,.int .u8,.int .u8,.int .u8,.int .u8,.int .u8,.int .u8,.int .u8,.int .u8,.int .u8,.int .u8,.int .u8,.int .u8,.int .u8,.int .u8,.int .u8,.int .u8,.int .u8,.int .u8,.int .u8]⟩),
 (86,⟨129,129,true,.struct [(0,64),(64,64),(128,1)],[.lit .u8 0,.lit .u8 0,.lit .u8 0,.lit .u8 0,.lit .u8 0,.lit .u8 0,.lit .u8 0,.lit .u8 0,.lit .u8 0,.lit .u8 0,.lit .u8 0,.lit .u8 0,.lit .u8 0,.lit .u8 0,.lit .u8 0,.lit .u8 0,.lit .u8 0,.lit .u8 0,.lit .u8 0,.lit .u8 0,.lit .u8 0,.lit .u8 0,.lit .u8 0,.lit .u8 0,.lit .u8 0,.lit .u8 0,.lit .u8 0,.lit .u8 0,.lit .u8 0,.lit .u8 0,.lit .u8 0,.lit .u8 0,.lit .u8 0,.lit .u8 0,.lit .u8 0,.lit .u8 0,.lit .u8 0,.lit .u8 0,.lit .u8 0,.lit .u8 0,.lit .u8 0,.lit .u8 0,.lit .u8 0,.lit .u8 0,.lit .u8 0,.lit .u8 0,.lit .u8 0,.lit .u8 0,.lit .u8 0,.lit .u8 0,.lit .u8 0,.lit .u8 0,.lit .u8 0,.lit .u8 0,.lit .u8 0,.lit .u8 0,.lit .u8 0,.lit .u8 0,.lit .u8 0,.lit .u8 0,.lit .u8 0,.lit .u8 0,.lit .u8 0,.lit .u8 0,.lit .u8 0,.lit .u8 0,.lit .u8 0,.lit .u8 0,.lit .u8 0,.lit .u8 0,.lit .u8 0,.lit .u8 0,.lit .u8 0,.lit .u8 0,.lit .u8 0,.lit .u8 0,.lit .u8 0,.lit .u8 0,.lit .u8 0,.lit .u8 0,.lit .u8 0,.lit .u8 0,.lit .u8 0,.lit .u8 0,.lit .u8 0,.lit .u8 0,.lit .u8 0,.lit .u8 0,.lit .u8 0,.lit .u8 0,.lit .u8 0,.lit .u8 0,.lit .u8 0,.lit .u8 0,.lit .u8 0,.lit .u8 0,.lit .u8 0,.lit .u8 0,.lit .u8 0,.lit .u8 0,.lit .u8 0,.lit .u8 0,.lit .u8 0,.lit .u8 0,.lit .u8 0,.lit .u8 0,.lit .u8 0,.lit .u8 0,.lit .u8 0,.lit .u8 0,.lit .u8 0,.lit .u8 0,.lit .u8 0,.lit .u8 0,.lit .u8 0,.lit .u8 0,.lit .u8 0,.lit .u8 0,.lit .u8 0,.lit .u8 0,.lit .u8 0,.lit .u8 0,.lit .u8 0,.lit .u8 0,.lit .u8 0,.lit .u8 0,.lit .u8 0,.lit .u8 0,.ff],[.int .u8,.int .u8,.int .u8,.int .u8,.int .u8,.int .u8,.int .u8,.int .u8,.int .u8,.int .u8,.int .u8,.int .u8,.int .u8,.int .u8,.int .u8,.int .u8,.int .u8,.int .u8,.int .u8,.int .u8,.int .u8,.int .u8,.int .u8,.int .u8,.int .u8,.int .u8,.int .u8,.int .u8,.int .u8,.int .u8,.int .u8,.int .u8,.int .u8,.int .u8,.int .u8,.int .u8,.int .u8,.int .u8,.int .u8,.int .u8,.int .u8,.int .u8,.int .u8,.int .u8,.int .u8,.int .u8,.int .u8,.int .u8,.int .u8,.int .u8,.int .u8,.int .u8,.int .u8,.int .u8,.int .u8,.int .u8,.int .u8,.int .u8,.int .u8,.int .u8,.int .u8,.int .u8,.int .u8,.int .u8,.int .u8,.int .u8,.int .u8,.int .u8,.int .u8,.int .u8,.int .u8,.int .u8,.int .u8,.int .u8,.int .u8,.int .u8,.int .u8,.int .u8,.int .u8,.int .u8,.int .u8,.int .u8,.int .u8,.int .u8,.int .u8,.int .u8,.int .u8,.int .u8,.int .u8,.int .u8,.int .u8,.int .u8,.int .u8,.int .u8,.int .u8,.int .u8,.int .u8,.int .u8,.int .u8,.int .u8,.int .u8,.int .u8,.int .u8,.int .u8,.int .u8,.int .u8,.int .u8,.int .u8,.int .u8,.int .u8,.int .u8,.int .u8,.int .u8,.int .u8,.int .u8,.int .u8,.int .u8,.int .u8,.int .u8,.int .u8,.int .u8,.int .u8,.int .u8,.int .u8,.int .u8,.int .u8,.int .u8,.int .u8,.bool]⟩),
 (87,⟨1,8,false,.ptr,[.nil],[.other]⟩),
 (89,⟨5,40,true,.struct [(0,1),(1,4)],[.nil,.lit .i64 0,.lit .i64 0,.lit .i64 0,.ff],[.other,.int .i64,.int .i64,.int .i64,.bool]⟩),
 (93,⟨1,8,false,.ptr,[.nil],[.other]⟩),
 (94,⟨1,8,false,.ptr,[.nil],[.other]⟩),
 (96,⟨2,16,true,.struct [(0,1),(1,1)],[.nil,.nil],[.other,.other]⟩),
 (101,⟨1,24,false,.slc 105,[.snil],[.other]⟩),
 (103,⟨2,32,true,.struct [(0,1),(1,1)],[.nil,.snil],[.other,.other]⟩),
 (105,⟨3,32,true,.struct [(0,2),(2,1)],[.lit .i64 0,.str ⟨#[]⟩,.lit .i64 0],[.int .i64,.str,.int .i64]⟩),
 (110,⟨1,8,false,.func,[.val .nilFunc],[.other]⟩),
 (122,⟨1,8,false,.ptr,[.nil],[.other]⟩),
 (124,⟨1,24,false,.slc 46,[.snil],[.other]⟩),
 (126,⟨1,24,false,.slc 132,[.snil],[.other]⟩),
 (128,⟨3,40,true,.struct [(0,1),(1,1),(2,1)],[.snil,.lit .i64 0,.lit .i64 0],[.other,.int .i64,.int .i64]⟩),
 (132,⟨4,32,true,.struct [(0,1),(1,1),(2,1),(3,1)],[.str ⟨#[]⟩,.lit .i64 0,.ff,.ff],[.str,.int .i64,.bool,.bool]⟩),
 (133,⟨1,24,false,.slc 2,[.snil],[.other]⟩),
 (136,⟨5,56,true,.struct [(0,1),(1,1),(2,1),(3,1),(4,1)],[.nil,.lit .i64 0,.lit .i64 0,.snil,.lit .i64 0],[.other,.int .i64,.int .i64,.other,.int .i64]⟩),
 (137,⟨1,24,false,.slc 148,[.snil],[.other]⟩),
 (139,⟨7,72,true,.struct [(0,1),(1,1),(2,1),(3,1),(4,1),(5,1),(6,1)],[.nil,.lit .i64 0,.lit .i64 0,.snil,.lit .i64 0,.lit .i64 0,.ff],[.other,.int .i64,.int .i64,.other,.int .i64,.int .i64,.bool]⟩),
 (145,⟨1,24,false,.slc 156,[.snil],[.other]⟩),
 (147,⟨5,72,true,.struct [(0,1),(1,1),(2,1),(3,1),(4,1)],[.lit .i64 0,.lit .i64 0,.lit .i64 0,.snil,.snil],[.int .i64,.int .i64,.int .i64,.other,.other]⟩),
 (148,⟨1,8,false,.ptr,[.nil],[.other]⟩),
 (149,⟨8,8,true,.arr 8 5,[.lit .u8 0,.lit .u8 0,.lit .u8 0,.lit .u8 0,.lit .u8 0,.lit .u8 0,.lit .u8 0,.lit .u8 0],[.int .u8,.int .u8,.int .u8,.int .u8,.int .u8,.int .u8,.int .u8,.int .u8]⟩),
 (151,⟨1,8,false,.int .u64,[.lit .u64 0],[.int .u64]⟩),
 (156,⟨2,32,true,.struct [(0,1),(1,1)],[.lit .i64 0,.snil],[.int .i64,.other]⟩),
 (169,⟨1,4,false,.int .u32,[.lit .u32 0],[.int .u32]⟩),
 (171,⟨1,24,false,.slc 122,[.snil],[.other]⟩),
 (175,⟨1,8,false,.func,[.val .nilFunc],[.other]⟩),
 (179,⟨1,8,false,.func,[.val .nilFunc],[.other]⟩),
 (181,⟨1,8,false,.int .u64,[.lit .u64 0],[.int .u64]⟩),
 (186,⟨1,8,false,.func,[.val .nilFunc],[.other]⟩),
 (187,⟨1,24,false,.slc 60,[.snil],[.other]⟩),
 (194,⟨1,8,false,.int .i64,[.lit .i64 0],[.int .i64]⟩),
 (205,⟨1,8,false,.int .u64,[.lit .u64 0],[.int .u64]⟩),
 (209,⟨1,8,false,.ptr,[.nil],[.other]⟩),
 (216,⟨1,8,false,.ptr,[.nil],[.other]⟩)]
def T:List (Nat × TI):=[(2,⟨1,8,false,.int .i64,[.lit .i64 0],[.int .i64]⟩),
 (3,⟨1,8,false,.int .i64,[.lit .i64 0],[.int .i64]⟩),
 (4,⟨1,1,false,.bool,[.ff],[.bool]⟩),
 (5,⟨1,1,false,.int .u8,[.lit .u8 0],[.int .u8]⟩),
 (9,⟨1,16,false,.str,[.str ⟨#[]⟩],[.str]⟩),
 (22,⟨1,8,false,.ptr,[.nil],[.deep]⟩),
 (23,⟨1,8,false,.int .i64,[.lit .i64 0],[.int .i64]⟩),
 (28,⟨1,8,false,.ptr,[.nil],[.deep]⟩),
 (32,⟨1,24,false,.slc 4,[.snil],[.deep]⟩),
 (35,⟨4,32,true,.struct [(0,1),(1,1),(2,1),(3,1)],[.lit .i64 0,.lit .i64 0,.lit .i64 0,.ff],[.int .i64,.int .i64,.int .i64,.bool]⟩),
 (37,⟨1,8,false,.ptr,[.nil],[.deep]⟩),
 (38,⟨1,8,false,.ptr,[.nil],[.deep]⟩),
 (39,⟨1,8,false,.ptr,[.nil],[.deep]⟩),
 (41,⟨4,32,true,.struct [(0,1),(1,1),(2,1),(3,1)],[.nil,.nil,.nil,.lit .i64 0],[.deep,.deep,.deep,.int .i64]⟩),
 (43,⟨1,24,false,.slc 48,[.snil],[.deep]⟩),
 (44,⟨1,24,false,.slc 9,[.snil],[.deep]⟩),
 (46,⟨4,48,true,.struct [(0,1),(1,1),(2,1),(3,1)],[.str ⟨#[]⟩,.str ⟨#[]⟩,.lit .i64 0,.ff],[.str,.str,.int .i64,.bool]⟩),
 (48,⟨11,136,true,.struct [(0,1),(1,4),(5,1),(6,4),(10,1)],[.lit .i64 0,.str ⟨#[]⟩,.str ⟨#[]⟩,.lit .i64 0,.ff,.snil,.lit .i64 0,.lit .i64 0,.lit .i64 0,.ff,.snil],[.int .i64,.str,.str,.int .i64,.bool,.deep,.int .i64,.int .i64,.int .i64,.bool,.deep]⟩),
 (59,⟨1,24,false,.slc 3,[.snil],[.deep]⟩),
 (60,⟨1,24,false,.slc 5,[.snil],[.deep]⟩),
 (61,⟨1,8,false,.func,[.val .nilFunc],[.other]⟩),
 (62,⟨1,24,false,.slc 66,[.snil],[.deep]⟩),
 (66,⟨2,24,true,.struct [(0,1),(1,1)],[.lit .i64 0,.str ⟨#[]⟩],[.int .i64,.str]⟩),
 (81,⟨1,24,false,.slc 86,[.snil],[.deep]⟩),
 (83,⟨2,32,true,.struct [(0,1),(1,1)],[.snil,.lit .i64 0],[.deep,.int .i64]⟩),
 (84,⟨64,64,true,.arr 64 5,[.lit .u8 0,.lit .u8 0,.lit .u8 0,.lit .u8 0,.lit .u8 0,.lit .u8 0,.lit .u8 0,.lit .u8 0,.lit .u8 0,.lit .u8 0,.lit .u8 0,.lit .u8 0,.lit .u8 0,.lit .u8 0,.lit .u8 0,.lit .u8 0,.lit .u8 0,.lit .u8 0,.lit .u8 0,.lit .u8 0,.lit .u8 0,.lit .u8 0,.lit .u8 0,.lit .u8 0,.lit .u8 0,.lit .u8 0,.lit .u8 0,.lit .u8 0,.lit .u8 0,.lit .u8 0,.lit .u8 0,.lit .u8 0,.lit .u8 0,.lit .u8 0,.lit .u8 0,.lit .u8 0,.lit .u8 0,.lit .u8 0,.lit .u8 0,.lit .u8 0,.lit .u8 0,.lit .u8 0,.lit .u8 0,.lit .u8 0,.lit .u8 0,.lit .u8 0,.lit .u8 0,.lit .u8 0,.lit .u8 0,.lit .u8 0,.lit .u8 0,.lit .u8 0,.lit .u8 0,.lit .u8 0,.lit .u8 0,.lit .u8 0,.lit .u8 0,.lit .u8 0,.lit .u8 0,.lit .u8 0,.lit .u8 0,.lit .u8 0,.lit .u8 0,.lit .u8 0],[.int .u8,.int .u8,.int .u8,.int .u8,.int .u8,.int .u8,.int .u8,.int .u8,.int .u8,.int .u8,.int .u8,.int .u8,.int .u8,.int .u8,.int .u8,.int .u8,.int .u8,.int .u8,.int .u8,.int .u8,.int .u8,.int .u8,.int .u8,.int .u8,.int .u8,.int .u8,.int .u8,.int .u8,.int .u8,.int .u8,.int .u8,.int .u8,.int .u8,.int .u8,.int .u8,.int .u8,.int .u8,.int .u8,.int .u8,.int .u8,.int .u8,.int .u8,.int .u8,.int .u8,.int .u8,.int .u8,.int .u8,.int .u8,.int .u8,.int .u8,.int .u8,.int .u8,.int .u8,.int .u8,.int .u8,.int .u8,.int .u8,.int .u8,.int .u8,.int .u8,.int .u8,.int .u8,.int .u8,.int .u8]⟩),
 (86,⟨129,129,true,.struct [(0,64),(64,64),(128,1)],[.lit .u8 0,.lit .u8 0,.lit .u8 0,.lit .u8 0,.lit .u8 0,.lit .u8 0,.lit .u8 0,.lit .u8 0,.lit .u8 0,.lit .u8 0,.lit .u8 0,.lit .u8 0,.lit .u8 0,.lit .u8 0,.lit .u8 0,.lit .u8 0,.lit .u8 0,.lit .u8 0,.lit .u8 0,.lit .u8 0,.lit .u8 0,.lit .u8 0,.lit .u8 0,.lit .u8 0,.lit .u8 0,.lit .u8 0,.lit .u8 0,.lit .u8 0,.lit .u8 0,.lit .u8 0,.lit .u8 0,.lit .u8 0,.lit .u8 0,.lit .u8 0,.lit .u8 0,.lit .u8 0,.lit .u8 0,.lit .u8 0,.lit .u8 0,.lit .u8 0,.lit .u8 0,.lit .u8 0,.lit .u8 0,.lit .u8 0,.lit .u8 0,.lit .u8 0,.lit .u8 0,.lit .u8 0,.lit .u8 0,.lit .u8 0,.lit .u8 0,.lit .u8 0,.lit .u8 0,.lit .u8 0,.lit .u8 0,.lit .u8 0,.lit .u8 0,.lit .u8 0,.lit .u8 0,.lit .u8 0,.lit .u8 0,.lit .u8 0,.lit .u8 0,.lit .u8 0,.lit .u8 0,.lit .u8 0,.lit .u8 0,.lit .u8 0,.lit .u8 0,.lit .u8 0,.lit .u8 0,.lit .u8 0,.lit .u8 0,.lit .u8 0,.lit .u8 0,.lit .u8 0,.lit .u8 0,.lit .u8 0,.lit .u8 0,.lit .u8 0,.lit .u8 0,.lit .u8 0,.lit .u8 0,.lit .u8 0,.lit .u8 0,.lit .u8 0,.lit .u8 0,.lit .u8 0,.lit .u8 0,.lit .u8 0,.lit .u8 0,.lit .u8 0,.lit .u8 0,.lit .u8 0,.lit .u8 0,.lit .u8 0,.lit .u8 0,.lit .u8 0,.lit .u8 0,.lit .u8 0,.lit .u8 0,.lit .u8 0,.lit .u8 0,.lit .u8 0,.lit .u8 0,.lit .u8 0,.lit .u8 0,.lit .u8 0,.lit .u8 0,.lit .u8 0,.lit .u8 0,.lit .u8 0,.lit .u8 0,.lit .u8 0,.lit .u8 0,.lit .u8 0,.lit .u8 0,.lit .u8 0,.lit .u8 0,.lit .u8 0,.lit .u8 0,.lit .u8 0,.lit .u8 0,.lit .u8 0,.lit .u8 0,.lit .u8 0,.lit .u8 0,.lit .u8 0,.ff],[.int .u8,.int .u8,.int .u8,.int .u8,.int .u8,.int .u8,.int .u8,.int .u8,.int .u8,.int .u8,.int .u8,.int .u8,.int .u8,.int .u8,.int .u8,.int .u8,.int .u8,.int .u8,.int .u8,.int .u8,.int .u8,.int .u8,.int .u8,.int .u8,.int .u8,.int .u8,.int .u8,.int .u8,.int .u8,.int .u8,.int .u8,.int .u8,.int .u8,.int .u8,.int .u8,.int .u8,.int .u8,.int .u8,.int .u8,.int .u8,.int .u8,.int .u8,.int .u8,.int .u8,.int .u8,.int .u8,.int .u8,.int .u8,.int .u8,.int .u8,.int .u8,.int .u8,.int .u8,.int .u8,.int .u8,.int .u8,.int .u8,.int .u8,.int .u8,.int .u8,.int .u8,.int .u8,.int .u8,.int .u8,.int .u8,.int .u8,.int .u8,.int .u8,.int .u8,.int .u8,.int .u8,.int .u8,.int .u8,.int .u8,.int .u8,.int .u8,.int .u8,.int .u8,.int .u8,.int .u8,.int .u8,.int .u8,.int .u8,.int .u8,.int .u8,.int .u8,.int .u8,.int .u8,.int .u8,.int .u8,.int .u8,.int .u8,.int .u8,.int .u8,.int .u8,.int .u8,.int .u8,.int .u8,.int .u8,.int .u8,.int .u8,.int .u8,.int .u8,.int .u8,.int .u8,.int .u8,.int .u8,.int .u8,.int .u8,.int .u8,.int .u8,.int .u8,.int .u8,.int .u8,.int .u8,.int .u8,.int .u8,.int .u8,.int .u8,.int .u8,.int .u8,.int .u8,.int .u8,.int .u8,.int .u8,.int .u8,.int .u8,.int .u8,.bool]⟩),
 (87,⟨1,8,false,.ptr,[.nil],[.deep]⟩),
 (89,⟨5,40,true,.struct [(0,1),(1,4)],[.nil,.lit .i64 0,.lit .i64 0,.lit .i64 0,.ff],[.deep,.int .i64,.int .i64,.int .i64,.bool]⟩),
 (93,⟨1,8,false,.ptr,[.nil],[.deep]⟩),
 (94,⟨1,8,false,.ptr,[.nil],[.deep]⟩),
 (96,⟨2,16,true,.struct [(0,1),(1,1)],[.nil,.nil],[.deep,.deep]⟩),
 (101,⟨1,24,false,.slc 105,[.snil],[.deep]⟩),
 (103,⟨2,32,true,.struct [(0,1),(1,1)],[.nil,.snil],[.deep,.deep]⟩),
 (105,⟨3,32,true,.struct [(0,2),(2,1)],[.lit .i64 0,.str ⟨#[]⟩,.lit .i64 0],[.int .i64,.str,.int .i64]⟩),
 (110,⟨1,8,false,.func,[.val .nilFunc],[.other]⟩),
 (122,⟨1,8,false,.ptr,[.nil],[.deep]⟩),
 (124,⟨1,24,false,.slc 46,[.snil],[.deep]⟩),
 (126,⟨1,24,false,.slc 132,[.snil],[.deep]⟩),
 (128,⟨3,40,true,.struct [(0,1),(1,1),(2,1)],[.snil,.lit .i64 0,.lit .i64 0],[.deep,.int .i64,.int .i64]⟩),
 (132,⟨4,32,true,.struct [(0,1),(1,1),(2,1),(3,1)],[.str ⟨#[]⟩,.lit .i64 0,.ff,.ff],[.str,.int .i64,.bool,.bool]⟩),
 (133,⟨1,24,false,.slc 2,[.snil],[.deep]⟩),
 (136,⟨5,56,true,.struct [(0,1),(1,1),(2,1),(3,1),(4,1)],[.nil,.lit .i64 0,.lit .i64 0,.snil,.lit .i64 0],[.deep,.int .i64,.int .i64,.deep,.int .i64]⟩),
 (137,⟨1,24,false,.slc 148,[.snil],[.deep]⟩),
 (139,⟨7,72,true,.struct [(0,1),(1,1),(2,1),(3,1),(4,1),(5,1),(6,1)],[.nil,.lit .i64 0,.lit .i64 0,.snil,.lit .i64 0,.lit .i64 0,.ff],[.deep,.int .i64,.int .i64,.deep,.int .i64,.int .i64,.bool]⟩),
 (145,⟨1,24,false,.slc 156,[.snil],[.deep]⟩),
 (147,⟨5,72,true,.struct [(0,1),(1,1),(2,1),(3,1),(4,1)],[.lit .i64 0,.lit .i64 0,.lit .i64 0,.snil,.snil],[.int .i64,.int .i64,.int .i64,.deep,.deep]⟩),
 (148,⟨1,8,false,.ptr,[.nil],[.deep]⟩),
 (149,⟨8,8,true,.arr 8 5,[.lit .u8 0,.lit .u8 0,.lit .u8 0,.lit .u8 0,.lit .u8 0,.lit .u8 0,.lit .u8 0,.lit .u8 0],[.int .u8,.int .u8,.int .u8,.int .u8,.int .u8,.int .u8,.int .u8,.int .u8]⟩),
 (151,⟨1,8,false,.int .u64,[.lit .u64 0],[.int .u64]⟩),
 (156,⟨2,32,true,.struct [(0,1),(1,1)],[.lit .i64 0,.snil],[.int .i64,.deep]⟩),
 (169,⟨1,4,false,.int .u32,[.lit .u32 0],[.int .u32]⟩),
 (171,⟨1,24,false,.slc 122,[.snil],[.deep]⟩),
 (175,⟨1,8,false,.func,[.val .nilFunc],[.other]⟩),
 (179,⟨1,8,false,.func,[.val .nilFunc],[.other]⟩),
 (181,⟨1,8,false,.int .u64,[.lit .u64 0],[.int .u64]⟩),
 (186,⟨1,8,false,.func,[.val .nilFunc],[.other]⟩),
 (187,⟨1,24,false,.slc 60,[.snil],[.deep]⟩),
 (194,⟨1,8,false,.int .i64,[.lit .i64 0],[.int .i64]⟩),
 (205,⟨1,8,false,.int .u64,[.lit .u64 0],[.int .u64]⟩),
 (209,⟨1,8,false,.ptr,[.nil],[.deep]⟩),
 (216,⟨1,8,false,.ptr,[.nil],[.deep]⟩)]
def ids:List Nat:=[3,4,5,6,7,8,9,11,10,12,13,14,15,16,17,18,19,20,21,22,23,24,25,26,27,28,29,30,32,31,33,34,35,36,37,38,39,40,41,42,43,45,44,46,47,49,48,50,51,52,54,53,56,55,58,59,60,61,62,63,64,65,66,68,57,67,69,70,71,72,73,74,75,81,76,77,78,79,80,82,83,84,85,86,87,88,89,90,91,92,93,94,95,96,98,97,99,101,100,102,103,104,105,106,107,108,109,119,120,110,111,112,113,114,115,116,117,118,121,122,123,124,125,126,127,128,129,130,131,132,133,134,135,136,137,138,139,140,141,142,143]
def I:List (Nat × List Nat):=[(3,[0,1,3,5,7]),(4,[0,1,4,5,6,7,8,9,12,23,36,39,69]),(5,[0,2,3,4,5,6,7,8,9,10,11,12,13,14,15,16,17,18,19,20,22,25,33,46,54,57,61,84,87,98,103,111,129,135,149,150,159,164,171,210,214,229]),(6,[0,1,4,5,6,7,8,9,10,11,12,13,14,15,16,17,18,20,23,29,36,39,60,114,118,140,143,162]),(7,[0,1,2,4,5,6,7,8,9,10,11,12,13,14,17,28]),(8,[0,2,3,4,5,6,7,8,11,17,25,28]),(9,[0,1,4,5,7,8,9,10,12,13,14,15,16,21,33,42]),(11,[0,2]),(10,[0,2,3,4,5,6,7,8,12,15,16,17,24,33]),(12,[0,2,3,4,5,6,10,18]),(13,[0,1,2,3,4,5,6,7,8,10,11,12,45]),(14,[0,2,4]),(15,[0,1,4,5,6,7,8,9,11,21,22,23,24,31,41]),(16,[0,2,4]),(17,[0,1,2]),(18,[0,1,3,4,5,6,7,10,29]),(19,[0,1,4,5,6,10,18]),(20,[0,1,2,6,7,8,17]),(21,[0,2]),(22,[0,1,3,4,5,6,9,41]),(23,[0,2,4]),(24,[0,2,12]),(25,[0,1,2,6,7,8,9,11,26]),(26,[0,2]),(27,[0,1,2,6,7,8,10,24,28,29,30,31,44]),(28,[0,1,2,4,5,7,9,10,11,12,13,15,16,17,18,19,28,30,31,32,33,53,81,88]),(29,[0,1,2]),(30,[0,1,2,3,4]),(32,[0,2,4]),(31,[0,1,4,5,10,14,25]),(33,[0,2,12]),(34,[0,2]),(35,[0,1,4,6,8,10,12,13,14,15,16,21,23,24,25,26,41]),(36,[0,2,3,6]),(37,[0,2,4]),(38,[0,1,2,6,7,12,16]),(39,[0,1,4,5,6,7,17]),(40,[0,1,4,5,6,7,8,9,10,21,29,42]),(41,[0,1,4,5,6,7,8,9,10,11,19,65]),(42,[0,1,4,8]),(43,[0,1,2,22]),(45,[0,2,3,5,6,7,8,9,10,15,17]),(44,[0,1,4,5,6,7]),(46,[0,1,2,6,7,8,9,11,22,32,58]),(47,[0,1,2,4,11,12,13,14,22]),(49,[0,1,2,3,5]),(48,[0,1,4,5,8]),(50,[0,2,4]),(51,[0,1,4,5,6,7,8,9,20,32]),(52,[0,1,2,4]),(54,[0,1,4,6,7,8,9,10]),(53,[0,1,4,5,6,7,8,9,10,11,12,13,16,49,53,95,96,112,118,147]),(56,[0,1,2,3]),(55,[0,1,4,5,6,7,12,19,29]),(58,[0,2,3,5,7,11,12,13,14,18]),(59,[0,1,4,5,8,16]),(60,[0,1,4,5,8]),(61,[0,1,2,6,7,8,9,10,11,12,15,20,24,25,34,40]),(62,[0,1,2,6,7,8,9,10,12,13,14,15,16,19,30,36,37,38,39,65]),(63,[0,1,2,6,7,8,9,10,12,13,14,23,30,31,32,33,42,58,71]),(64,[0,1,4,5,6,7,8,9,10,11,14,23,24,35,63,88]),(65,[0,2,4]),(66,[0,1,4,5,6,8,9,10,11,12,13,14,15,27,30]),(68,[0,1,4,6,7,8,9,10]),(57,[0,2,4,6,10,11,12,13,21]),(67,[0,1,4,5,6,7,9,13,14,15,16,27]),(69,[0,2,4,19,20,21,22,26]),(70,[0,1,4,5,6,7,8,24,25,26,34,45,61]),(71,[0,1,2,3,8,9,10,11,48,56]),(72,[0,2,3,5,10,11,12]),(73,[0,1,4,5,6,9,17]),(74,[0,1,4,5,7,8,9,11,15,16,17,18,30]),(75,[0,2,3,4,5,14,28]),(81,[0,1,4,5,10,14]),(76,[0,1,2,3,4,5,18,38]),(77,[0,1,4,6,7,8]),(78,[0,2]),(79,[0,1,2,6,7]),(80,[0,2,4]),(82,[0,1,4,5,7,8,9,16]),(83,[0,2]),(84,[0,1,4]),(85,[0,1,2,5,6,7,8,9,10,11,12,13,14,17,42,43,44,50,73,105]),(86,[0,2,3,5,7,9,13,14,15,16,22,23,24,25]),(87,[0,2,3,4,5,6,7,8,9,10,11,12,21,31,37,43]),(88,[0]),(89,[0,1,4,5,6,11]),(90,[0,2,3,5,6,7,8,9]),(91,[0,2,3,5,7,8,9,10,11,14,15,16,17,24,25]),(92,[0,2,3,5,6,7,8,9,10,14,15,16]),(93,[0,1,4,6,7,8]),(94,[0,1,2,6,7,8,9,10,11,17,31]),(95,[0,1,2,4]),(96,[0,2,3,4,5,6,7,8,9,10,11,12,13,14,18,28,40,55,83]),(98,[0,1,2,4]),(97,[0,1,4,5,6,7,12,19,29]),(99,[0,1,2,6,7,8,30]),(101,[0,2]),(100,[0,1,2,3,8,9,10,11,12,13,14,15,16,17,18,23,29,35,50,68,72,87,113]),(102,[0,1,4,5,6,7,8,9,12,13,33,59,82]),(103,[0,1,4]),(104,[0,1,4]),(105,[0,1,2,4]),(106,[0,2]),(107,[0,2,3,4,5,6,7,14,18,25]),(108,[0,1,4]),(109,[0,1,4,5,7,8,9,16]),(119,[0,2,4,8]),(120,[0,2,4,8,14]),(110,[0,1,2,6,7,12,30]),(111,[0,1,2,6,7,8,9,10,19,30]),(112,[0,1,2,6,7,8,9,10,15,33,43]),(113,[0,1,2,6,7,8,9,10,11,12,32,34,49,51,54]),(114,[0,1,2,6,7,13]),(115,[0,1,2,6,7,8,9,10,14,32,37,41,61,65,78,98,103,116]),(116,[0,1,4]),(117,[0,1,2,3,8,9,10,43,59,64]),(118,[0,1,2,3,8,9,10,11,43,60,65,112,129,134]),(121,[0,2,3,5,6,7,8,9]),(122,[0,1,2,6,7,8,12,87]),(123,[0,2,3,4,12,51]),(124,[0,1,2,3,4,10,11,12,13,14,15,16,17,18,19,20,25,32,39,56,75,80,97,125]),(125,[0,1,2,3,8,9,16,36,52]),(126,[0,2]),(127,[0,2]),(128,[0,1,2,6]),(129,[0,1,2,3,4,10]),(130,[0,2]),(131,[0,1,2,3,8,9,14,34]),(132,[0,1,2,3,8,9,10,11,12,21,33]),(133,[0,1,2,8,9,10,11,12,17,35,45]),(134,[0,1,2,3,8,9,10,11,12,13,14,34,36,55,57,60]),(135,[0,1,2,8,9,15]),(136,[0,1,2,3,8,9,10,11,12,16,36,41,45,65,69,84,104,109,124]),(137,[0,1,2,3,4,10,11,12,47,65,70]),(138,[0,1,2,3,4,10,11,12,13,47,66,71,120,139,144]),(139,[0,1,2,3,8,9,18]),(140,[0,1,2,3,4,10,11,18,40,58]),(141,[0,1,2,3,8]),(142,[0,1,2,3,4,5,12]),(143,[0,1,2,3,4,10,11,22])]
def pgo (l:List Nat):Nat->Nat->List (Nat × Bool)
| 0,_=>[]
| n+1,i=>(i,l.any (Nat.beq i))::pgo l n (i+1)
def rgo:Nat->List Nat->List (Nat × Nat)
| _,[]=>[]
| n,v::r=>(n,v)::rgo (n - 1) r
def R:List (Nat × List (Nat × RG)):=[(3,[]),
 (4,[]),
 (5,[(28,⟨pgo [5] 7 0,rgo 6 [63,31,0,7,3,1,0],0,none⟩),
  (46,⟨pgo [6] 8 0,rgo 7 [127,63,16,0,7,3,1,0],0,none⟩),
  (58,⟨pgo [8,12,13] 15 0,rgo 14 [16383,6143,0,1023,1023,511,255,112,48,0,0,7,3,1,0],0,some (.two [0,1,2,3,4,5,6,7] 8 (.one [(9,false),(10,false),(11,false),(12,true),(13,true),(14,false)]) 12 (.one [(8,true),(9,false),(10,false),(11,false),(13,true),(14,false)]))⟩)]),
 (6,[(13,⟨pgo [6,8] 9 0,rgo 8 [255,112,48,0,0,7,3,1,0],0,none⟩),
  (29,⟨pgo [] 20 0,rgo 19 [524287,262143,67583,2047,32767,16383,8191,2047,2047,1023,511,224,96,0,0,15,7,3,0,0],0,none⟩),
  (34,⟨pgo [6,7,11,12] 14 0,rgo 13 [8191,3071,0,511,511,255,127,48,0,0,7,3,1,0],0,some (.two [0,1,2,3,4,5] 6 (.two [] 7 (.one [(8,false),(9,false),(10,false),(11,true),(12,true),(13,false)]) 11 (.one [(7,true),(8,false),(9,false),(10,false),(12,true),(13,false)])) 11 (.one [(6,true),(7,true),(8,false),(9,false),(10,false),(12,true),(13,false)]))⟩)]),
 (7,[(8,⟨pgo [5] 7 0,rgo 6 [63,31,0,7,3,1,0],0,none⟩),
  (9,⟨pgo [6,10,11] 13 0,rgo 12 [4095,1535,0,255,255,127,63,16,0,7,3,1,0],0,some (.two [0,1,2,3,4,5] 6 (.one [(7,false),(8,false),(9,false),(10,true),(11,true),(12,false)]) 10 (.one [(6,true),(7,false),(8,false),(9,false),(11,true),(12,false)]))⟩),
  (10,⟨pgo [6,10,11] 13 0,rgo 12 [4095,1535,0,255,255,127,63,16,0,7,3,1,0],0,some (.two [0,1,2,3,4,5] 6 (.one [(7,false),(8,false),(9,false),(10,true),(11,true),(12,false)]) 10 (.one [(6,true),(7,false),(8,false),(9,false),(11,true),(12,false)]))⟩),
  (12,⟨[(0,false),(1,false),(2,false),(3,true),(4,false),(5,false),(6,false),(7,false),(8,false),(9,false),(10,false),(11,false),(12,false),(13,false),(14,false),(15,false),(16,false),(17,false),(18,true),(19,false),(20,false),(21,false),(22,false),(23,false),(24,false),(26,false),(27,false),(28,false),(29,false),(25,true),(30,true),(31,true),(32,false),(33,false),(34,false),(35,false),(36,false),(37,false),(39,false),(40,false),(41,false),(42,false),(38,true),(43,true),(44,false),(45,false),(46,false),(47,false),(48,false),(49,false),(50,false),(52,false),(53,false),(54,false),(55,false),(51,true),(56,true),(57,false),(58,false),(59,false),(60,false),(61,false),(62,false),(63,false),(66,false),(67,false),(68,false),(69,false),(64,true),(65,false),(70,true),(71,false),(72,false),(73,false),(74,false),(75,false),(76,false),(77,false),(78,false),(79,false),(80,false),(81,false),(82,false),(83,true),(84,false),(85,false),(86,false),(87,false),(88,false),(89,false),(90,false),(91,false),(92,false),(93,false),(94,true),(95,false),(96,false),(97,false),(98,false),(99,false)],[(99,633825300114114700748351602687),(98,316912650057057350374175801343),(97,158456325028528675187087900671),(96,79228162514264337593543950335),(95,39614081257132168796771975167),(94,19807040628566084398385987583),(93,9903520314283042199192993791),(92,4951760157141521099596496895),(91,2475880078570760549798248447),(90,1237940039285380274899124223),(89,618970019642690137449562111),(88,309485009821345068724781055),(87,154742504910672534362390527),(86,77371252455336267181195263),(85,38685626227668133590597631),(84,19342813113834066795298815),(83,9369175102013376103972863),(82,4533471823554859405148159),(81,2115620184325601055735807),(80,906694364710971881029631),(79,302231454903657293676543),(78,302231454903657293676543),(77,151115727451828646838271),(76,75557863725914323419135),(75,37778931862957161709567),(74,18889465931478580854783),(73,9444732965739290427391),(72,4722366482869645213695),(71,2324289753287403503615),(70,1143698132569992200191),(65,36893488147419103231),(64,18446744073709551615),(69,517661755568474292223),(68,222513850389121466367),(67,74939897799445053439),(66,1152921504606846975),(63,9223372036854775807),(62,4611686018427387903),(61,2305843009213693951),(60,1152921504606846975),(59,576460752303423487),(58,288230376151711743),(57,144115188075855871),(56,72057594037927935),(51,2251799813685247),(55,31665934879948799),(54,13651536370466815),(53,4644337115725823),(52,140737488355327),(50,1125899906842623),(49,562949953421311),(48,281474976710655),(47,140737488355327),(46,70368744177663),(45,35184372088831),(44,17592186044415),(43,8796093022207),(38,274877906943),(42,3865470566399),(41,1666447310847),(40,566935683071),(39,17179869183),(37,137438953471),(36,68719476735),(35,34359738367),(34,17179869183),(33,8589934591),(32,4294967295),(31,2147483647),(30,1073741823),(25,33554431),(29,471859199),(28,203423743),(27,69206015),(26,2097151),(24,16777215),(23,8388607),(22,4194303),(21,2097151),(20,1048575),(19,524287),(18,262143),(17,65535),(16,65535),(15,32767),(14,16383),(13,8191),(12,2047),(11,2047),(10,1023),(9,511),(8,252),(7,124),(6,60),(5,28),(4,12),(3,4),(2,0),(1,1),(0,0)],0,none⟩)]),
 (8,[(13,⟨pgo [7,10] 11 0,rgo 10 [1023,496,240,112,48,16,0,7,3,1,0],0,none⟩)]),
 (9,[]),
 (11,[]),
 (10,[]),
 (12,[]),
 (13,[]),
 (14,[]),
 (15,[(13,⟨pgo [9] 10 0,rgo 9 [511,255,96,0,0,0,7,3,1,0],0,none⟩)]),
 (16,[]),
 (17,[(1,⟨[(0,false),(1,false),(3,false),(4,false),(2,true),(6,false),(5,true),(7,true),(8,false),(9,true)],[(9,511),(8,255),(7,127),(5,31),(6,31),(2,3),(4,8),(3,0),(1,1),(0,0)],0,none⟩)]),
 (18,[(7,⟨pgo [7] 8 0,rgo 7 [127,0,16,0,7,3,1,0],0,none⟩)]),
 (19,[]),
 (20,[]),
 (21,[]),
 (22,[(3,⟨pgo [1] 24 0,rgo 23 [8388607,4194303,2097151,999423,475135,212991,81919,16383,32767,16383,8191,4095,2047,975,463,207,79,15,31,15,7,3,1,0],0,none⟩),
  (5,⟨pgo [5,6] 8 0,rgo 7 [127,63,16,0,7,3,1,0],0,none⟩)]),
 (23,[]),
 (24,[(3,⟨pgo [] 15 0,rgo 14 [16383,8191,4095,2047,1023,496,240,112,48,16,0,7,3,1,0],0,none⟩)]),
 (25,[]),
 (26,[]),
 (27,[]),
 (28,[(13,⟨[(0,false),(1,false),(2,false),(3,false),(4,false),(7,false),(5,true),(6,true),(8,true),(9,true),(10,false),(11,false),(12,false),(13,false),(14,false)],[(14,16383),(13,4095),(12,2047),(11,2047),(10,1023),(9,511),(8,240),(6,48),(5,16),(7,0),(4,0),(3,7),(2,3),(1,1),(0,0)],0,none⟩),
  (16,⟨pgo [10,11,14] 15 0,rgo 14 [16383,8191,4095,2046,992,480,0,96,0,0,14,6,2,0,0],0,none⟩),
  (18,⟨pgo [6,9] 10 0,rgo 9 [511,255,127,62,0,14,6,2,0,0],0,none⟩)]),
 (29,[]),
 (30,[]),
 (32,[]),
 (31,[(6,⟨pgo [] 9 0,rgo 8 [255,112,48,0,0,7,3,0,0],0,none⟩)]),
 (33,[]),
 (34,[]),
 (35,[]),
 (36,[]),
 (37,[]),
 (38,[]),
 (39,[]),
 (40,[]),
 (41,[(7,⟨pgo [13,14] 20 0,rgo 19 [524287,131071,65535,65535,32767,16383,8190,3584,1536,512,0,224,96,32,0,14,6,2,0,0],0,none⟩)]),
 (42,[]),
 (43,[]),
 (45,[(10,⟨[(0,false),(1,false),(2,false),(3,false),(4,false),(7,false),(8,false),(9,false),(5,true),(6,true),(10,true),(11,true),(12,false)],[(12,4095),(11,2047),(10,896),(6,63),(5,30),(9,0),(8,128),(7,0),(4,8),(3,0),(2,2),(1,0),(0,0)],0,some (.two [0,1,2,3,4,7,8,9] 5 (.two [] 6 (.one [(10,true),(11,true),(12,false)]) 10 (.one [(6,true),(11,true),(12,false)])) 10 (.one [(5,true),(6,true),(11,true),(12,false)]))⟩)]),
 (44,[(2,⟨pgo [8,9] 10 0,rgo 9 [511,240,112,48,16,0,7,3,1,0],0,none⟩)]),
 (46,[(3,⟨pgo [] 11 0,rgo 10 [1023,480,224,96,32,0,15,7,3,1,0],0,none⟩)]),
 (47,[]),
 (49,[]),
 (48,[(5,⟨pgo [12] 14 0,rgo 13 [8191,4095,0,960,448,192,64,0,30,14,6,2,0,0],0,none⟩)]),
 (50,[]),
 (51,[]),
 (52,[]),
 (54,[]),
 (53,[(10,⟨pgo [] 13 0,rgo 12 [4095,2047,1023,496,240,112,48,16,0,7,3,1,0],0,none⟩),
  (13,⟨pgo [6] 7 0,rgo 6 [63,30,14,6,2,0,0],0,none⟩),
  (15,⟨[(0,false),(1,false),(2,false),(3,false),(4,false),(5,false),(7,false),(6,true),(8,true),(9,false),(10,false),(11,true)],[(11,2047),(10,1023),(9,511),(8,254),(6,62),(7,0),(5,0),(4,14),(3,6),(2,2),(1,0),(0,0)],0,none⟩),
  (19,⟨[(0,false),(1,false),(3,false),(2,true),(4,false),(5,false),(6,false),(8,false),(9,false),(10,false),(11,false),(12,false),(7,true),(13,false),(14,false)],[(14,16383),(13,8191),(7,127),(12,3903),(11,1855),(10,831),(9,319),(8,63),(6,63),(5,31),(4,15),(2,3),(3,0),(1,1),(0,0)],0,none⟩),
  (24,⟨pgo [10,12,13,16] 17 0,rgo 16 [65535,32767,16383,8190,4064,2016,512,0,224,96,32,0,14,6,2,0,0],0,none⟩),
  (28,⟨pgo [9] 12 0,rgo 11 [2047,1023,480,224,96,32,0,15,7,3,1,0],0,none⟩)]),
 (56,[(1,⟨pgo [6] 9 0,rgo 8 [255,127,60,28,12,4,0,1,0],0,none⟩)]),
 (55,[]),
 (58,[]),
 (59,[]),
 (60,[]),
 (61,[]),
 (62,[(14,⟨pgo [15,16,19] 20 0,rgo 19 [524287,262143,131071,65534,32736,16352,4096,0,2016,960,448,0,64,0,0,14,6,2,0,0],0,none⟩)]),
 (63,[(12,⟨pgo [6] 7 0,rgo 6 [63,16,0,7,3,1,0],0,none⟩),
  (14,⟨pgo [8] 9 0,rgo 8 [255,64,0,16,0,7,3,1,0],0,none⟩)]),
 (64,[(13,⟨[(0,false),(1,false),(5,false),(6,false),(2,true),(3,true),(4,false),(7,true),(8,false),(9,false),(10,false),(11,false),(12,false),(13,false),(14,false),(15,false),(16,false),(17,false),(18,false),(19,false),(20,false),(21,false),(22,false)],[(22,4194303),(21,2097151),(20,1048575),(19,524287),(18,262143),(17,131071),(16,65535),(15,32767),(14,15359),(13,7167),(12,3071),(11,1023),(10,1023),(9,511),(8,255),(7,111),(4,15),(3,7),(2,3),(6,32),(5,0),(1,1),(0,0)],0,none⟩)]),
 (65,[]),
 (66,[]),
 (68,[]),
 (57,[]),
 (67,[]),
 (69,[]),
 (70,[(2,⟨[(0,false),(3,false),(4,false),(5,false),(6,false),(7,false),(8,false),(1,true),(2,true),(9,false),(10,false),(11,false)],[(11,2047),(10,1023),(9,511),(2,3),(1,1),(8,248),(7,120),(6,56),(5,24),(4,8),(3,0),(0,0)],0,none⟩)]),
 (71,[(5,⟨pgo [4,5,7] 8 0,rgo 7 [127,60,28,12,4,0,1,0],0,none⟩),
  (6,⟨pgo [11] 13 0,rgo 12 [4095,2047,0,496,0,112,48,16,0,7,3,1,0],0,none⟩)]),
 (72,[(6,⟨pgo [20,23] 24 0,rgo 23 [8388607,4194303,2097151,1048063,523775,261631,130048,64512,31744,0,7168,3072,1024,0,0,224,96,32,0,0,7,3,1,0],0,none⟩)]),
 (73,[]),
 (74,[]),
 (75,[]),
 (81,[]),
 (76,[(4,⟨pgo [15] 16 0,rgo 15 [32767,16383,8191,4094,2046,1022,510,254,126,32,0,14,6,2,0,0],0,none⟩),
  (8,⟨pgo [6,9] 10 0,rgo 9 [511,255,127,62,0,14,6,2,0,0],0,none⟩),
  (9,⟨pgo [6,7,10] 11 0,rgo 10 [1023,511,255,126,32,0,14,6,2,0,0],0,none⟩)]),
 (77,[]),
 (78,[]),
 (79,[(1,⟨pgo [] 11 0,rgo 10 [1023,511,224,96,32,0,15,7,3,1,0],0,none⟩),
  (2,⟨pgo [19,20] 22 0,rgo 21 [2097151,1048575,516096,229376,98304,32768,0,0,0,4080,0,1008,256,0,112,48,16,0,7,3,1,0],0,none⟩)]),
 (80,[]),
 (82,[]),
 (83,[]),
 (84,[]),
 (85,[(3,⟨[(0,false),(1,false),(2,false),(3,false),(4,false),(5,false),(6,false),(7,false),(8,false),(9,false),(10,false),(11,false),(12,false),(14,false),(15,false),(13,true),(16,false),(17,false),(18,false),(19,false)],[(19,524287),(18,262143),(17,131071),(16,63487),(13,6143),(15,18431),(14,2047),(12,2047),(11,2047),(10,1023),(9,511),(8,255),(7,127),(6,63),(5,31),(4,15),(3,7),(2,3),(1,1),(0,0)],0,none⟩)]),
 (86,[(10,⟨pgo [5,7,8] 10 0,rgo 9 [511,255,126,62,24,8,0,2,0,0],0,none⟩)]),
 (87,[]),
 (88,[]),
 (89,[]),
 (90,[]),
 (91,[]),
 (92,[]),
 (93,[]),
 (94,[]),
 (95,[]),
 (96,[]),
 (98,[(1,⟨pgo [] 15 0,rgo 14 [16383,8191,4080,1792,768,256,0,112,48,16,0,7,3,1,0],0,none⟩)]),
 (97,[]),
 (99,[(2,⟨pgo [7] 8 0,rgo 7 [127,60,28,12,4,0,1,0],0,none⟩),
  (7,⟨pgo [7] 8 0,rgo 7 [127,60,28,12,4,0,1,0],0,none⟩),
  (9,⟨[(0,false),(1,false),(2,false),(3,false),(4,false),(5,false),(6,false),(8,false),(9,false),(10,false),(11,false),(12,false),(7,true),(13,false),(14,false),(15,true),(16,false),(17,false),(18,true)],[(18,262143),(17,131071),(16,65534),(15,32766),(14,16380),(13,8128),(7,64),(12,3840),(11,1792),(10,768),(9,256),(8,0),(6,0),(5,28),(4,12),(3,4),(2,0),(1,0),(0,0)],0,none⟩),
  (10,⟨pgo [4,5,7] 8 0,rgo 7 [127,60,28,12,4,0,1,0],0,none⟩)]),
 (101,[]),
 (100,[(17,⟨pgo [12] 15 0,rgo 14 [16383,8191,4095,1799,775,7,7,127,63,23,7,7,3,1,0],0,none⟩)]),
 (102,[(6,⟨pgo [13] 19 0,rgo 18 [262143,65535,32767,32767,16383,8191,4080,0,1008,256,0,112,48,16,0,7,3,1,0],0,none⟩),
  (9,⟨pgo [7,13] 14 0,rgo 13 [8191,4095,2047,1022,480,224,96,32,0,14,6,2,0,0],0,none⟩),
  (14,⟨pgo [] 19 0,rgo 18 [262143,131071,63,32767,14399,6207,2111,63,1023,511,255,127,63,31,15,7,3,1,0],0,none⟩)]),
 (103,[]),
 (104,[(1,⟨pgo [] 12 0,rgo 11 [2047,1023,511,255,112,48,16,0,7,3,1,0],0,none⟩)]),
 (105,[(1,⟨pgo [] 12 0,rgo 11 [2047,1023,496,0,112,48,16,0,7,3,1,0],0,none⟩)]),
 (106,[]),
 (107,[]),
 (108,[]),
 (109,[]),
 (119,[]),
 (120,[]),
 (110,[(4,⟨pgo [13] 15 0,rgo 14 [16383,8191,3855,1807,527,15,15,127,63,15,15,7,3,0,0],0,none⟩),
  (6,⟨pgo [15,17] 18 0,rgo 17 [131071,65535,32739,16355,7168,3072,0,0,480,224,64,0,0,8,0,0,0,0],0,none⟩)]),
 (111,[(10,⟨pgo [17,19] 20 0,rgo 19 [524287,262143,131011,65475,28672,12288,0,0,1984,960,384,0,0,0,24,0,0,0,0,0],0,none⟩)]),
 (112,[(10,⟨pgo [17,19] 20 0,rgo 19 [524287,262143,131011,65475,28672,12288,0,0,1984,960,384,0,0,0,24,0,0,0,0,0],0,none⟩)]),
 (113,[]),
 (114,[(3,⟨pgo [13,15] 16 0,rgo 15 [32767,16383,8179,4083,1792,768,0,0,112,48,0,0,0,0,0,0],0,none⟩)]),
 (115,[(5,⟨pgo [13] 16 0,rgo 15 [32767,16383,8191,3855,1807,527,15,15,127,63,15,15,7,3,0,0],0,none⟩),
  (11,⟨pgo [15,17] 18 0,rgo 17 [131071,65535,32739,16355,7168,3072,0,0,480,224,64,0,0,8,0,0,0,0],0,none⟩),
  (16,⟨pgo [9] 11 0,rgo 10 [1023,511,240,112,32,0,0,7,3,0,0],0,none⟩),
  (17,⟨pgo [15,17] 18 0,rgo 17 [131071,65535,32739,16355,7168,3072,0,0,480,224,64,0,0,8,0,0,0,0],0,none⟩),
  (22,⟨pgo [9] 11 0,rgo 10 [1023,511,240,112,32,0,0,7,3,0,0],0,none⟩),
  (23,⟨pgo [15,17] 18 0,rgo 17 [131071,65535,32739,16355,7168,3072,0,0,480,224,64,0,0,8,0,0,0,0],0,none⟩)]),
 (116,[]),
 (117,[(1,⟨pgo [13,15] 16 0,rgo 15 [32767,16383,8179,4083,1792,768,0,0,112,48,0,0,0,0,0,0],0,none⟩),
  (3,⟨pgo [12] 15 0,rgo 14 [16383,8191,4095,1807,783,15,15,127,63,15,15,7,3,0,0],0,none⟩),
  (5,⟨pgo [12] 14 0,rgo 13 [8191,4095,1807,783,15,15,127,63,15,15,7,3,0,0],0,none⟩),
  (8,⟨pgo [13,15] 16 0,rgo 15 [32767,16383,8179,4083,1792,768,0,0,112,48,0,0,0,0,0,0],0,none⟩)]),
 (118,[(1,⟨pgo [13,15] 16 0,rgo 15 [32767,16383,8179,4083,1792,768,0,0,112,48,0,0,0,0,0,0],0,none⟩),
  (3,⟨pgo [12] 14 0,rgo 13 [8191,4095,1807,783,15,15,127,63,15,15,7,3,0,0],0,none⟩),
  (5,⟨pgo [12] 15 0,rgo 14 [16383,8191,4095,1807,783,15,15,127,63,15,15,7,3,0,0],0,none⟩),
  (8,⟨pgo [13,15] 16 0,rgo 15 [32767,16383,8179,4083,1792,768,0,0,112,48,0,0,0,0,0,0],0,none⟩),
  (10,⟨pgo [13,15] 16 0,rgo 15 [32767,16383,8179,4083,1792,768,0,0,112,48,0,0,0,0,0,0],0,none⟩),
  (13,⟨pgo [12] 14 0,rgo 13 [8191,4095,1807,783,15,15,127,63,15,15,7,3,0,0],0,none⟩),
  (15,⟨pgo [12] 15 0,rgo 14 [16383,8191,4095,1807,783,15,15,127,63,15,15,7,3,0,0],0,none⟩),
  (18,⟨pgo [13,15] 16 0,rgo 15 [32767,16383,8179,4083,1792,768,0,0,112,48,0,0,0,0,0,0],0,none⟩),
  (21,⟨pgo [13,15] 16 0,rgo 15 [32767,16383,8179,4083,1792,768,0,0,112,48,0,0,0,0,0,0],0,none⟩)]),
 (121,[]),
 (122,[(3,⟨[(0,false),(1,false),(2,false),(3,false),(6,false),(7,false),(4,true),(5,false),(8,true),(9,false),(10,false),(11,false),(12,true),(13,false),(14,false),(15,true)],[(15,32767),(14,16383),(13,8191),(12,3581),(11,1533),(10,509),(9,476),(8,220),(5,28),(4,12),(7,64),(6,0),(3,4),(2,0),(1,0),(0,0)],0,none⟩),
  (6,⟨[(0,false),(1,false),(5,false),(6,false),(2,true),(3,true),(4,false),(7,true),(8,false),(9,false),(10,false),(11,false),(14,false),(15,false),(16,false),(17,false),(12,true),(13,false),(18,false),(19,false),(20,false),(21,false),(22,false),(23,false),(24,false),(25,false),(26,false),(27,false),(28,false),(29,false),(30,false),(31,false),(32,false),(33,false),(34,false),(35,false),(36,false),(37,false),(38,false),(39,false),(40,false),(41,false),(42,false),(43,false),(44,false),(45,false),(46,false),(47,false),(48,false),(49,false),(50,false),(51,false),(52,true),(53,false),(54,false)],[(54,18014398509481983),(53,9007199254740991),(52,2322168557862911),(51,70368744177663),(50,1125899906842623),(49,562949953421311),(48,281474976710655),(47,140737488355327),(46,70368744177663),(45,35184372088831),(44,17592186044415),(43,8796093022207),(42,2336462209023),(41,137438953471),(40,1099511627775),(39,549755813887),(38,274877906943),(37,137438953471),(36,68719476735),(35,34359738367),(34,17179869183),(33,536870911),(32,4294967295),(31,2147483647),(30,1073741823),(29,536870911),(28,268435455),(27,134217727),(26,67108863),(25,31457279),(24,14680063),(23,6291455),(22,2097151),(21,2097151),(20,1048575),(19,524287),(18,262143),(13,8191),(12,4095),(17,115711),(16,50175),(15,17407),(14,1023),(11,2047),(10,1023),(9,511),(8,255),(7,111),(4,15),(3,7),(2,3),(6,32),(5,0),(1,1),(0,0)],0,none⟩),
  (9,⟨pgo [10,13] 14 0,rgo 13 [8191,4095,2047,1022,480,192,64,0,0,14,6,2,0,0],0,none⟩)]),
 (123,[(5,⟨pgo [17,19,20,23] 24 0,rgo 23 [8388607,4194303,2097151,1048574,524256,262112,131008,65472,28672,0,4096,0,1024,0,448,192,64,0,0,14,6,2,0,0],0,none⟩)]),
 (124,[(17,⟨pgo [13] 17 0,rgo 16 [65535,32767,16383,8191,3591,1543,7,7,247,119,39,7,7,7,3,1,0],0,none⟩)]),
 (125,[(3,⟨pgo [18] 20 0,rgo 19 [524287,262143,129055,63519,28703,12319,31,31,31,1023,511,223,31,31,31,15,7,0,1,0],0,none⟩),
  (5,⟨pgo [12] 14 0,rgo 13 [8191,4095,1984,960,384,0,0,0,31,15,6,0,0,0],0,none⟩),
  (6,⟨pgo [21,23] 24 0,rgo 23 [8388607,4194303,2096911,1048335,507904,245760,98304,0,0,0,7936,3840,1536,0,0,0,96,0,0,0,6,0,0,0],0,none⟩)]),
 (126,[]),
 (127,[(1,⟨pgo [9] 10 0,rgo 9 [511,255,127,56,24,8,0,3,1,0],0,none⟩),
  (2,⟨pgo [9] 10 0,rgo 9 [511,255,127,56,24,8,0,3,1,0],0,none⟩),
  (3,⟨pgo [9] 10 0,rgo 9 [511,255,127,56,24,8,0,3,1,0],0,none⟩)]),
 (128,[]),
 (129,[]),
 (130,[]),
 (131,[(4,⟨pgo [14] 17 0,rgo 16 [65535,32767,16383,7695,3599,1039,15,15,239,111,15,15,15,7,3,0,0],0,none⟩),
  (6,⟨pgo [15,17] 18 0,rgo 17 [131071,65535,32739,16355,7168,3072,0,0,480,224,64,0,0,8,0,0,0,0],0,none⟩)]),
 (132,[(10,⟨pgo [17,19] 20 0,rgo 19 [524287,262143,131011,65475,28672,12288,0,0,1984,960,384,0,0,0,24,0,0,0,0,0],0,none⟩)]),
 (133,[(10,⟨pgo [17,19] 20 0,rgo 19 [524287,262143,131011,65475,28672,12288,0,0,1984,960,384,0,0,0,24,0,0,0,0,0],0,none⟩)]),
 (134,[]),
 (135,[(3,⟨pgo [13,15] 16 0,rgo 15 [32767,16383,8179,4083,1792,768,0,0,112,48,0,0,0,0,0,0],0,none⟩)]),
 (136,[(5,⟨pgo [14] 18 0,rgo 17 [131071,65535,32767,16383,7695,3599,1039,15,15,239,111,15,15,15,7,3,0,0],0,none⟩),
  (11,⟨pgo [15,17] 18 0,rgo 17 [131071,65535,32739,16355,7168,3072,0,0,480,224,64,0,0,8,0,0,0,0],0,none⟩),
  (16,⟨pgo [10] 13 0,rgo 12 [4095,2047,1023,480,224,64,0,0,14,6,0,0,0],0,none⟩),
  (17,⟨pgo [15,17] 18 0,rgo 17 [131071,65535,32739,16355,7168,3072,0,0,480,224,64,0,0,8,0,0,0,0],0,none⟩),
  (22,⟨pgo [10] 13 0,rgo 12 [4095,2047,1023,480,224,64,0,0,14,6,0,0,0],0,none⟩),
  (23,⟨pgo [15,17] 18 0,rgo 17 [131071,65535,32739,16355,7168,3072,0,0,480,224,64,0,0,8,0,0,0,0],0,none⟩)]),
 (137,[(1,⟨pgo [13,15] 16 0,rgo 15 [32767,16383,8179,4083,1792,768,0,0,112,48,0,0,0,0,0,0],0,none⟩),
  (3,⟨pgo [13] 17 0,rgo 16 [65535,32767,16383,8191,3599,1551,15,15,239,111,15,15,15,7,3,0,0],0,none⟩),
  (5,⟨pgo [13] 16 0,rgo 15 [32767,16383,8191,3599,1551,15,15,239,111,15,15,15,7,3,0,0],0,none⟩),
  (8,⟨pgo [13,15] 16 0,rgo 15 [32767,16383,8179,4083,1792,768,0,0,112,48,0,0,0,0,0,0],0,none⟩)]),
 (138,[(1,⟨pgo [13,15] 16 0,rgo 15 [32767,16383,8179,4083,1792,768,0,0,112,48,0,0,0,0,0,0],0,none⟩),
  (3,⟨pgo [13] 16 0,rgo 15 [32767,16383,8191,3599,1551,15,15,239,111,15,15,15,7,3,0,0],0,none⟩),
  (5,⟨pgo [13] 17 0,rgo 16 [65535,32767,16383,8191,3599,1551,15,15,239,111,15,15,15,7,3,0,0],0,none⟩),
  (8,⟨pgo [13,15] 16 0,rgo 15 [32767,16383,8179,4083,1792,768,0,0,112,48,0,0,0,0,0,0],0,none⟩),
  (10,⟨pgo [13,15] 16 0,rgo 15 [32767,16383,8179,4083,1792,768,0,0,112,48,0,0,0,0,0,0],0,none⟩),
  (13,⟨pgo [13] 16 0,rgo 15 [32767,16383,8191,3599,1551,15,15,239,111,15,15,15,7,3,0,0],0,none⟩),
  (15,⟨pgo [13] 17 0,rgo 16 [65535,32767,16383,8191,3599,1551,15,15,239,111,15,15,15,7,3,0,0],0,none⟩),
  (18,⟨pgo [13,15] 16 0,rgo 15 [32767,16383,8179,4083,1792,768,0,0,112,48,0,0,0,0,0,0],0,none⟩),
  (21,⟨pgo [13,15] 16 0,rgo 15 [32767,16383,8179,4083,1792,768,0,0,112,48,0,0,0,0,0,0],0,none⟩)]),
 (139,[(1,⟨pgo [8] 9 0,rgo 8 [255,112,48,0,0,7,3,0,0],0,none⟩)]),
 (140,[(3,⟨pgo [19] 22 0,rgo 21 [2097151,1048575,524287,258079,127007,57375,24607,31,31,31,2015,991,415,31,31,31,31,15,7,0,1,0],0,none⟩),
  (5,⟨pgo [13] 16 0,rgo 15 [32767,16383,8191,3968,1920,768,0,0,0,62,30,12,0,0,0,0],0,none⟩),
  (6,⟨pgo [21,23] 24 0,rgo 23 [8388607,4194303,2096911,1048335,507904,245760,98304,0,0,0,7936,3840,1536,0,0,0,96,0,0,0,6,0,0,0],0,none⟩)]),
 (141,[]),
 (142,[]),
 (143,[(1,⟨pgo [9] 11 0,rgo 10 [1023,511,224,96,0,0,14,6,0,0,0],0,none⟩)])]
end Tab
def Y (P:Program):Gx:=⟨⟨⟨P,Tab.T,false,false⟩,fnTab P Tab.ids,Tab.I⟩,Tab.R⟩
theorem okT:Tab.T.map (fun p=>mkTId true Tryz.prog p.1)=Tab.T.map fun p=>some p.2:=by kernel_rfl
theorem okB:(fnTab Tryz.prog Tab.ids).all (fnB Tab.R)=true:=by kernel_rfl
theorem mixed:Tryz.prog.follows .mixedOrders=true:=by kernel_rfl
theorem okY:(Y Tryz.prog).Ok:=gx_okd (dp:=true) okT mixed (fnTab_ok _ _) okB
def Yf (P:Program):Gx:=⟨⟨⟨P,Tab.Tf,true,false⟩,fnTab P Tab.ids,Tab.I⟩,Tab.R⟩
theorem okTf:Tab.Tf.map (fun p=>mkTI Tryz.prog p.1)=Tab.Tf.map fun p=>some p.2:=by kernel_rfl
theorem okYf:(Yf Tryz.prog).Ok:=gx_ok okTf mixed (fnTab_ok _ _) okB
end Go.Proofs.YtfhkbihcfmbbcaaGreat

namespace Go.Sx
section
end
end Go.Sx
