/-
  
-/
import Derived.WalkKit
import Derived.Laws.BytesString
set_option maxRecDepth 100000
set_option maxHeartbeats 4000000
set_option linter.unusedVariables false
set_option linter.unusedSimpArgs false
namespace Go.Sx
def bR:IntKind->Int->Prop
 |.i8,n=>-128<=n/\n<=127
 |.i16,n=>-32768<=n/\n<=32767
 |.i32,n=>-2147483648<=n/\n<=2147483647
 |.i64,n=>-9223372036854775808<=n/\n<=9223372036854775807
 |.u8,n=>0<=n/\n<=255
 |.u16,n=>0<=n/\n<=65535
 |.u32,n=>0<=n/\n<=4294967295
 |.u64,n=>0<=n/\n<=18446744073709551615
theorem G8(k:IntKind)(n:Int):bR k n↔k.min<=n/\n<=k.max:=by
 cases k<;>simp[bR,IntKind.min,IntKind.max,IntKind.signed,IntKind.bits]
theorem fM{k:IntKind}{n:Int}(h:bR k n):k.wrap n=n:=by
 cases k<;>simp[bR]at h<;>simp[IntKind.wrap,IntKind.signed,IntKind.bits]<;>omega
theorem iW(k:IntKind)(n:Int):bR k (k.wrap n):=by
 cases k<;>simp[bR,IntKind.wrap,IntKind.signed,IntKind.bits]<;>omega
def aq:Nat:=9223372036854775807
structure Place where
 blk:Nat
 off:Nat
 N:Nat
 fp:Nat->Prop
structure Env where
 n:Nat
 pl:Nat->Place
structure Env.le(a b:Env):Prop where
 n:a.n<=b.n
 pl:∀t,t<a.n->b.pl t=a.pl t
theorem Env.le.refl(a:Env):a.le a:=⟨Nat.le_refl _,fun _ _=>rfl⟩
theorem Env.le.trans{a b c:Env}(h:a.le b)(k:b.le c):a.le c :=
 ⟨Nat.le_trans h.n k.n,fun t ht=>(k.pl t (Nat.lt_of_lt_of_le ht h.n)).trans (h.pl t ht)⟩
inductive A where
 |any
 |lit (k:IntKind) (n:Int)
 |int (k:IntKind) (n:Int)
 |tt
 |ff
 |bool (b:Bool)
 |str (s:ByteArray)
 |nil
 |ptr (t:Nat) (row esz c:Nat)
 |cc
 |slc (t:Nat) (row esz len cap:Nat)
 |sub (t:Nat) (row esz c len cap:Nat)
 |fn (f:Nat)
 |val (v:Value)
inductive CV where
 |a (x:A)
 |agg (xs:List A)
inductive SV where
 |a (x:A)
 |agg (xs:List A)
 |ng (xs:List CV)
 |Cg (f:Nat) (xs:List A)
def A.cz(ρ:Env):A->Value->Prop
 |.any,_=>True
 |.lit k n,v=>v = .int k n/\bR k n
 |.int k n,v=>v = .int k n/\bR k n
 |.tt,v=>v = .bool true
 |.ff,v=>v = .bool false
 |.bool b,v=>v = .bool b
 |.str s,v=>v = .string s/\s.size<=aq
 |.nil,v=>v = .pointer none
 |.ptr t row esz c,v=>t<ρ.n/\v = .pointer (some ⟨(ρ.pl t).blk,(ρ.pl t).off+row*esz+c,none⟩)
 |.cc,v=>v = .slice none 0 0
 |.slc t row esz len cap,v=>t<ρ.n/\len<=cap/\cap<=aq /\
  ((len=0/\cap=0/\v = .slice none 0 0) \/
   ∃a:Addr,v = .slice (some a) len cap/\(cap≠0->a=⟨(ρ.pl t).blk,(ρ.pl t).off+row*esz,none⟩/\row+cap<=(ρ.pl t).N))
 |.sub t row esz c len cap,v=>t<ρ.n/\len<=cap/\cap<=aq/\v = .slice (some ⟨(ρ.pl t).blk,(ρ.pl t).off+row*esz+c,none⟩) len cap
 |.fn f,v=>v = .func (.func f) #[] #[]
 |.val x,v=>v=x/\x.oneCell'=true
theorem A.cz.mono{ρ ρ':Env}(h:ρ.le ρ'){x:A}{v:Value}(r:x.cz ρ v):x.cz ρ' v:=by
 cases x<;>simp only[A.cz]at r ⊢<;>try exact r
 case ptr t row esz c =>
  obtain⟨ht,rfl⟩:=r;exact⟨Nat.lt_of_lt_of_le ht h.n,by rw[h.pl t ht]⟩
 case slc t row esz len cap =>
  obtain⟨ht,h1,h2,h3⟩:=r;refine⟨Nat.lt_of_lt_of_le ht h.n,h1,h2,?_⟩;rw[h.pl t ht];exact h3
 case sub t row esz c len cap =>
  obtain⟨ht,h1,h2,rfl⟩:=r;exact⟨Nat.lt_of_lt_of_le ht h.n,h1,h2,by rw[h.pl t ht]⟩
def cE(ρ:Env):List A->List Value->Prop
 |[],vs=>vs=[]
 |x::xs,vs=>∃v r,vs=v::r/\x.cz ρ v/\cE ρ xs r
theorem cE.mono{ρ ρ':Env}(h:ρ.le ρ'):∀ {xs:List A} {vs:List Value},cE ρ xs vs->cE ρ' xs vs
 |[],_,r=>r
 |_::_,_,⟨v,t,e,r1,r2⟩=>⟨v,t,e,r1.mono h,cE.mono h r2⟩
theorem cE.length{ρ:Env}:∀ {xs:List A} {vs:List Value},cE ρ xs vs->vs.length=xs.length
 |[],_,r=>by simp[cE]at r;simp[r]
 |_::_,_,⟨_,_,e,_,r2⟩=>by subst e;simp[cE.length r2]
theorem cE.get{ρ:Env}:∀ {xs:List A} {vs:List Value},cE ρ xs vs->∀ {i:Nat} {x:A},xs[i]? = some x->∃v,vs[i]? = some v/\x.cz ρ v
 |[],_,_,i,x,h=>by simp at h
 |y::ys,_,⟨v,t,e,r1,r2⟩,i,x,h=>by
  subst e;cases i with
  |zero=>simp at h;subst h;exact⟨v,by simp,r1⟩
  |succ i=>simp at h;obtain⟨u,hu,hr⟩:=cE.get r2 h;exact⟨u,by simpa using hu,hr⟩
theorem cE.set{ρ:Env}:∀ {xs:List A} {vs:List Value},cE ρ xs vs->∀(i:Nat) {x:A} {v:Value},x.cz ρ v->cE ρ (xs.set i x) (vs.set i v)
 |[],_,r,i,x,v,_=>by simp[cE]at r;subst r;simp[cE]
 |y::ys,_,⟨u,t,e,r1,r2⟩,i,x,v,hx=>by
  subst e;cases i with
  |zero=>exact⟨v,t,by simp,hx,r2⟩
  |succ i=>exact⟨u,t.set i v,by simp,r1,cE.set r2 i hx⟩
theorem cE.append{ρ:Env}:∀ {xs ys:List A} {vs us:List Value},cE ρ xs vs->cE ρ ys us->cE ρ (xs++ys) (vs++us)
 |[],_,_,_,r,s=>by simp[cE]at r;subst r;simpa using s
 |_::_,_,_,_,⟨u,t,e,r1,r2⟩,s=>by subst e;exact⟨u,t++_,by simp,r1,cE.append r2 s⟩
theorem cE.drop{ρ:Env}:∀(n:Nat) {xs:List A} {vs:List Value},cE ρ xs vs->cE ρ (xs.drop n) (vs.drop n)
 |0,_,_,r=>by simpa using r
 |n+1,[],_,r=>by simp[cE]at r;subst r;simp[cE]
 |n+1,_::_,_,⟨_,_,e,_,r2⟩=>by subst e;simpa using cE.drop n r2
theorem cE.take{ρ:Env}:∀(n:Nat) {xs:List A} {vs:List Value},cE ρ xs vs->cE ρ (xs.take n) (vs.take n)
 |0,_,_,_=>by simp[cE]
 |n+1,[],_,r=>by simp[cE]at r;subst r;simp[cE]
 |n+1,_::_,_,⟨u,t,e,r1,r2⟩=>by subst e;exact⟨u,t.take n,by simp,r1,cE.take n r2⟩
def CV.cz(ρ:Env):CV->Value->Prop
 |.a x,v=>x.cz ρ v
 |.agg xs,v=>∃vs:List Value,v = .agg vs.toArray/\cE ρ xs vs
theorem CV.cz.mono{ρ ρ':Env}(h:ρ.le ρ'):∀ {x:CV} {v:Value},x.cz ρ v->x.cz ρ' v
 |.a _,_,r=>A.cz.mono h r
 |.agg _,_,⟨vs,e,r⟩=>⟨vs,e,r.mono h⟩
def tG(ρ:Env):List CV->List Value->Prop
 |[],vs=>vs=[]
 |x::xs,vs=>∃v r,vs=v::r/\x.cz ρ v/\tG ρ xs r
theorem tG.mono{ρ ρ':Env}(h:ρ.le ρ'):∀ {xs:List CV} {vs:List Value},tG ρ xs vs->tG ρ' xs vs
 |[],_,r=>r
 |_::_,_,⟨v,t,e,r1,r2⟩=>⟨v,t,e,r1.mono h,tG.mono h r2⟩
theorem tG.get{ρ:Env}:∀ {xs:List CV} {vs:List Value},tG ρ xs vs->∀ {i:Nat} {x:CV},xs[i]? = some x->∃v,vs[i]? = some v/\x.cz ρ v
 |[],_,_,i,x,h=>by simp at h
 |y::ys,_,⟨v,t,e,r1,r2⟩,i,x,h=>by
  subst e;cases i with
  |zero=>simp at h;subst h;exact⟨v,by simp,r1⟩
  |succ i=>simp at h;obtain⟨u,hu,hr⟩:=tG.get r2 h;exact⟨u,by simpa using hu,hr⟩
def CV.sv:CV->SV
 |.a x=>.a x
 |.agg xs=>.agg xs
def SV.cz(ρ:Env):SV->Value->Prop
 |.a x,v=>x.cz ρ v
 |.agg xs,v=>∃vs:List Value,v = .agg vs.toArray/\cE ρ xs vs
 |.ng xs,v=>∃vs:List Value,v = .tuple vs.toArray/\tG ρ xs vs
 |.Cg f xs,v=>∃vs:List Value,v = .func (.func f) #[] vs.toArray/\cE ρ xs vs
theorem SV.cz.mono{ρ ρ':Env}(h:ρ.le ρ'):∀ {x:SV} {v:Value},x.cz ρ v->x.cz ρ' v
 |.a _,_,r=>A.cz.mono h r
 |.agg _,_,⟨vs,e,r⟩=>⟨vs,e,r.mono h⟩
 |.ng _,_,⟨vs,e,r⟩=>⟨vs,e,r.mono h⟩
 |.Cg _ _,_,⟨vs,e,r⟩=>⟨vs,e,r.mono h⟩
theorem CV.cz.sv{ρ:Env}:∀ {x:CV} {v:Value},x.cz ρ v->x.sv.cz ρ v
 |.a _,_,r=>r
 |.agg _,_,r=>r
inductive CK where
 |int (k:IntKind)
 |bool
 |str
 |other
 |deep
 deriving DecidableEq
def CK.ok:CK->Value->Prop
 |.int k,v=>∃n,v = .int k n/\bR k n
 |.bool,v=>∃b,v = .bool b
 |.str,v=>∃s,v = .string s/\s.size<=aq
 |.other,v=>v.oneCell'=true
 |.deep,v=>v.oneCell'=true
theorem CK.ok.one{k:CK}{v:Value}(h:k.ok v):v.oneCell'=true:=by
 cases k<;>simp only[CK.ok]at h<;>first|exact h|(obtain⟨_,rfl⟩:=h;rfl)|(obtain⟨_,rfl,_⟩:=h;rfl)
inductive Chunk where
 |obj (ty:TypeId) (cs:List A)
 |arr (ty:TypeId) (ks:List CK) (n:Nat) (rows:Nat->Nat->Value)
 |abs (R:Place->World->Prop)
 |cI (H:Nat->Option (Nat×List Value))
structure Ch where
 tag:Nat
 wr:Bool
 ch:Chunk
abbrev aJ:=List Ch
def tH(lo hi:Nat)(fr:Nat×Nat):Prop:=∀o,lo<=o->o<hi->¬(fr.1<=o/\o<fr.2)
def vn(n:Nat)(fr:Nat×Nat):Prop:=∀o,o<n->¬(fr.1<=o/\o<fr.2)
def Chunk.Sat(ρ:Env)(p:Place)(w:World):Chunk->Prop
 |.obj ty cs=>∃vs fr,w.heap[p.blk]? = some (.cells vs ty fr)/\p.off=0/\(∃us xs,vs.toList=us++xs/\cE ρ cs us)/\vn vs.size fr/\(∀b,p.fp b↔b=p.blk)
 |.arr _ ks n rows=>(n=0/\p.N=0/\∀b,¬p.fp b) \/
  ∃vs ty' fr,w.heap[p.blk]? = some (.cells vs ty' fr)/\p.off+p.N*ks.length<=vs.size/\n<=p.N/\tH p.off (p.off+p.N*ks.length) fr/\(∀b,p.fp b↔b=p.blk) /\
   ∀i,i<n->∀j k,ks[j]? = some k->vs[p.off+i*ks.length+j]? = some (rows i j)/\k.ok (rows i j)
 |.abs R=>∀w':World,(∀b,p.fp b->w'.heap[b]? = w.heap[b]?)->R p w'
 |.cI H=>∀b lo cs,H b=some (lo,cs)->p.fp b/\∃vs ty fr,w.heap[b]? = some (.cells vs ty fr)/\lo+cs.length<=vs.size/\(∀i,i<cs.length->vs[lo+i]? = cs[i]?)/\tH lo (lo+cs.length) fr
structure eZ(M:Nat->Prop)(w w':World):Prop where
 os:w'.os=w.os
 tape:w'.tape=w.tape
 output:w'.output=w.output
 size:w.heap.size<=w'.heap.size
 block:∀b,b<w.heap.size->¬M b->w'.heap[b]? = w.heap[b]?
 frz:∀a:Addr,a.block<w.heap.size->w'.frozen? a=w.frozen? a
theorem eZ.refl(M:Nat->Prop)(w:World):eZ M w w:=⟨rfl,rfl,rfl,Nat.le_refl _,fun _ _ _=>rfl,fun _ _=>rfl⟩
theorem eZ.mono{M M':Nat->Prop}{a b:World}(h:eZ M a b)(hm:∀x,x<a.heap.size->M x->M' x):eZ M' a b :=
 ⟨h.os,h.tape,h.output,h.size,fun x hx hn=>h.block x hx fun hx'=>hn (hm x hx hx'),h.frz⟩
structure Ch.Sat(w0:World)(M:Nat->Prop)(ρ:Env)(w:World)(e:Ch):Prop where
 tag:e.tag<ρ.n
 ch:e.ch.Sat ρ (ρ.pl e.tag) w
 lt:∀b,(ρ.pl e.tag).fp b->b<w.heap.size
 own:e.wr=true->∀b,(ρ.pl e.tag).fp b->b<w0.heap.size->M b
def qC(ρ:Env)(x y:Ch):Prop:=x.tag≠y.tag/\((x.wr||y.wr)=true->∀b,(ρ.pl x.tag).fp b->¬(ρ.pl y.tag).fp b)
structure aj(w0:World)(M:Nat->Prop)(ρ:Env)(hp:aJ)(w:World):Prop where
 keeps:eZ M w0 w
 iq:∀e∈hp,e.Sat w0 M ρ w
 apart:hp.Pairwise (qC ρ)
def look:List (Nat×SV)->Nat->SV
 |[],_=>.a .any
 |(j,v)::r,i=>bif Nat.beq j i then v else look r i
def rem:List Nat->Nat->List Nat
 |[],_=>[]
 |x::r,j=>bif Nat.beq x j then rem r j else x::rem r j
def Ab:List Nat->Nat->Bool
 |[],_=>false
 |x::r,j=>bif Nat.beq x j then true else Ab r j
def only:List (Nat×SV)->List Nat->List (Nat×SV)
 |[],_=>[]
 |(j,v)::r,ks=>bif Ab ks j then(j,v)::only r (rem ks j)else only r ks
structure S where
 nt:Nat
 fr:List (Nat×SV)
 hp:aJ
 nx:Nat
 kp:List Nat
 rt:List Nat
def S.set(s:S)(i:Nat)(v:SV):S:=⟨s.nt,(i,v)::s.fr,s.hp,s.nx,s.kp,s.rt⟩
theorem CQ{i j:Nat}:∀ {ks:List Nat},Ab ks i=false->Ab (rem ks j) i=false
 |[],_=>rfl
 |x::r,h=>by
  simp only[Ab]at h;have hx:Nat.beq x i=false:=by cases hb:Nat.beq x i<;>simp[hb]at h ⊢
  rw[hx]at h;simp only[rem];cases Nat.beq x j
  ·simp only[cond_false,Ab,hx];exact CQ h
  ·exact CQ h
theorem qD{j:Nat}:∀ {l:List (Nat×SV)} {ks:List Nat},Ab ks j=false->look (only l ks) j = .a .any
 |[],_,_=>rfl
 |(k,v)::r,ks,h=>by
  simp only[only];cases hk:Ab ks k
  ·exact qD h
  ·simp only[cond_true,look];have hne:Nat.beq k j=false:=by
    rw[Bool.eq_false_iff];intro hh;have:=Nat.eq_of_beq_eq_true hh;subst this;rw[h]at hk;cases hk
   rw[hne];exact qD (CQ h)
theorem Qw(l:List (Nat×SV))(ks:List Nat)(j:Nat):look (only l ks) j=look l j\/look (only l ks) j = .a .any:=by
 induction l generalizing ks with
 |nil=>exact .inl rfl
 |cons p l ih =>
  obtain⟨k,v⟩:=p;simp only[only];cases hk:Ab ks k
  ·simp only[cond_false,look];cases hb:Nat.beq k j
   ·simpa using ih ks
   ·have:=Nat.eq_of_beq_eq_true hb;subst this;exact .inr (qD hk)
  ·simp only[cond_true,look];cases Nat.beq k j
   ·simpa using ih (rem ks k)
   ·exact .inl rfl
def dK(ρ:Env)(fr:List (Nat×SV))(tmps:Array Value):Prop:=∀i,(look fr i).cz ρ (tmps.getD i undef)
theorem dK.mono{ρ ρ':Env}(h:ρ.le ρ'){fr:List (Nat×SV)}{tmps:Array Value}(r:dK ρ fr tmps):dK ρ' fr tmps:=fun i=>(r i).mono h
theorem dK.set{ρ:Env}{fr:List (Nat×SV)}{tmps:Array Value}(r:dK ρ fr tmps){i:Nat}(hi:i<tmps.size){sv:SV}{v:Value}(h:sv.cz ρ v) :
 dK ρ ((i,sv)::fr) (tmps.setIfInBounds i v):=by
 intro j;simp only[look];by_cases hj:i=j
 ·subst hj;have:Nat.beq i i=true:=by simp
  simp only[this,cond_true];simpa[Array.getD,hi]using h
 ·have:Nat.beq i j=false:=by
   rw[Bool.eq_false_iff];intro hh;exact hj (Nat.eq_of_beq_eq_true hh)
  simp only[this,cond_false];have:=r j;simpa[Array.getD_eq_getD_getElem?,Array.getElem?_setIfInBounds_ne hj]using this
theorem dK.only{ρ:Env}{fr:List (Nat×SV)}{tmps:Array Value}(r:dK ρ fr tmps)(ks:List Nat):dK ρ (only fr ks) tmps:=by
 intro i;rcases Qw fr ks i with h|h<;>rw[h]
 ·exact r i
 ·exact trivial
def Env.ext(ρ:Env)(p:Place):Env:=⟨ρ.n+1,fun t=>if t=ρ.n then p else ρ.pl t⟩
theorem Env.eE(ρ:Env)(p:Place):ρ.le (ρ.ext p):=⟨Nat.le_succ _,fun t ht=>by simp[Env.ext,Nat.ne_of_lt ht]⟩
theorem Env.dH(ρ:Env)(p:Place):(ρ.ext p).pl ρ.n=p:=by simp[Env.ext]
theorem Env.wS(ρ:Env)(p:Place){t:Nat}(h:t<ρ.n):(ρ.ext p).pl t=ρ.pl t:=by simp[Env.ext,Nat.ne_of_lt h]
theorem Chunk.Sat.mono{ρ ρ':Env}(h:ρ.le ρ'){p:Place}{w:World}{ch:Chunk}(r:ch.Sat ρ p w):ch.Sat ρ' p w:=by
 cases ch with
 |obj ty cs=>obtain⟨vs,fr,h1,h2,⟨us,xs,h5,h3⟩,h4⟩:=r;exact⟨vs,fr,h1,h2,⟨us,xs,h5,h3.mono h⟩,h4⟩
 |arr ty ks n rows=>exact r
 |abs R=>exact r
 |cI H=>exact r
theorem Chunk.Sat.world{ρ:Env}{p:Place}{w w':World}{ch:Chunk}(h:∀b,p.fp b->w'.heap[b]? = w.heap[b]?)(r:ch.Sat ρ p w):ch.Sat ρ p w':=by
 cases ch with
 |obj ty cs =>
  obtain⟨vs,fr,h1,h2,h3,h4,h5⟩:=r;exact⟨vs,fr,(h _ ((h5 _).2 rfl)).trans h1,h2,h3,h4,h5⟩
 |arr ty ks n rows =>
  rcases r with r | ⟨vs,ty',fr,h1,h2,h3,h4,h5,h6⟩
  ·exact .inl r
  ·exact .inr ⟨vs,ty',fr,(h _ ((h5 _).2 rfl)).trans h1,h2,h3,h4,h5,h6⟩
 |abs R=>exact fun w'' hw=>r w'' fun b hb=>(hw b hb).trans (h b hb)
 |cI H =>
  intro b lo cs hb;obtain⟨h1,vs,ty,fr,h2,h3⟩:=r b lo cs hb;exact⟨h1,vs,ty,fr,(h b h1).trans h2,h3⟩
theorem Ch.Sat.mono{w0:World}{M:Nat->Prop}{ρ ρ':Env}(h:ρ.le ρ'){w:World}{e:Ch}(r:e.Sat w0 M ρ w):e.Sat w0 M ρ' w where
 tag:=Nat.lt_of_lt_of_le r.tag h.n
 ch:=by rw[h.pl _ r.tag];exact r.ch.mono h
 lt:=by rw[h.pl _ r.tag];exact r.lt
 own:=by rw[h.pl _ r.tag];exact r.own
theorem aj.mono{w0:World}{M:Nat->Prop}{ρ ρ':Env}(h:ρ.le ρ'){w:World}{hp:aJ}(r:aj w0 M ρ hp w):aj w0 M ρ' hp w where
 keeps:=r.keeps
 iq:=fun e he=>(r.iq e he).mono h
 apart:=List.Pairwise.imp_of_mem (fun {x y} hx hy hxy=>by
  obtain⟨h1,h2⟩:=hxy;refine⟨h1,?_⟩;rw[h.pl _ (r.iq x hx).tag,h.pl _ (r.iq y hy).tag];exact h2) r.apart
theorem aj.world{w0:World}{M M':Nat->Prop}{ρ:Env}{w w':World}{hp:aJ}(r:aj w0 M ρ hp w)(hk:eZ M' w w')(hM:∀b,b<w0.heap.size->M' b->M b)
 (hs:∀e∈hp,∀b,(ρ.pl e.tag).fp b->w'.heap[b]? = w.heap[b]?):aj w0 M ρ hp w' where
 keeps:=⟨hk.os.trans r.keeps.os,hk.tape.trans r.keeps.tape,hk.output.trans r.keeps.output,Nat.le_trans r.keeps.size hk.size,fun b hb hn =>
  (hk.block b (Nat.lt_of_lt_of_le hb r.keeps.size) fun hm=>hn (hM b hb hm)).trans (r.keeps.block b hb hn),fun a ha=>(hk.frz a (Nat.lt_of_lt_of_le ha r.keeps.size)).trans (r.keeps.frz a ha)⟩
 iq:=fun e he=>⟨(r.iq e he).tag,(r.iq e he).ch.world (hs e he),fun b hb=>Nat.lt_of_lt_of_le ((r.iq e he).lt b hb) hk.size,(r.iq e he).own⟩
 apart:=r.apart
def aJ.find:aJ->Nat->Option (Bool×Chunk)
 |[],_=>none
 |e::r,t=>bif Nat.beq e.tag t then some (e.wr,e.ch)else aJ.find r t
def aJ.vb:aJ->Nat->Chunk->aJ
 |[],_,_=>[]
 |e::r,t,ch=>bif Nat.beq e.tag t then⟨e.tag,e.wr,ch⟩::r else e::aJ.vb r t ch
def aJ.del:aJ->Nat->aJ
 |[],_=>[]
 |e::r,t=>bif Nat.beq e.tag t then r else e::aJ.del r t
theorem fh{a b:Nat}(h:a≠b):Nat.beq a b=false:=by
 rw[Bool.eq_false_iff];intro hh;exact h (Nat.eq_of_beq_eq_true hh)
theorem dz(a:Nat):Nat.beq a a=true:=by simp
theorem aJ.bu{hp:aJ}{t:Nat}{m:Bool}{ch:Chunk}(h:hp.find t=some (m,ch)):(⟨t,m,ch⟩:Ch)∈hp:=by
 induction hp with
 |nil=>simp[aJ.find]at h
 |cons e r ih =>
  simp only[aJ.find]at h;by_cases he:e.tag=t
  ·subst he;simp only[dz,cond_true,Option.some.injEq,Prod.mk.injEq]at h;obtain⟨rfl,rfl⟩:=h;exact List.mem_cons_self
  ·simp only[fh he,cond_false]at h;exact List.mem_cons_of_mem _ (ih h)
theorem aJ.js{hp:aJ}{t:Nat}:(hp.del t).Sublist hp:=by
 induction hp with
 |nil=>exact List.Sublist.slnil
 |cons e r ih =>
  simp only[aJ.del];by_cases he:e.tag=t
  ·subst he;simp only[dz,cond_true];exact List.sublist_cons_self _ _
  ·simp only[fh he,cond_false];exact ih.cons_cons _
theorem aj.sub{w0:World}{M:Nat->Prop}{ρ:Env}{w:World}{hp cR:aJ}(r:aj w0 M ρ hp w)(h:cR.Sublist hp):aj w0 M ρ cR w :=
 ⟨r.keeps,fun e he=>r.iq e (h.subset he),r.apart.sublist h⟩
theorem aj.vo{w0:World}{M:Nat->Prop}{ρ:Env}{w:World}{hp:aJ}{t:Nat}{m:Bool}{ch:Chunk}(r:aj w0 M ρ hp w)(h:hp.find t=some (m,ch)) :
 ∀e∈hp.del t,e.tag≠t/\((m||e.wr)=true->∀b,(ρ.pl t).fp b->¬(ρ.pl e.tag).fp b):=by
 have hap:=r.apart;clear r
 induction hp with
 |nil=>simp[aJ.find]at h
 |cons x l ih =>
  simp only[aJ.find]at h;rw[List.pairwise_cons]at hap;by_cases he:x.tag=t
  ·subst he;simp only[dz,cond_true,Option.some.injEq,Prod.mk.injEq]at h;obtain⟨rfl,rfl⟩:=h;intro e hm;simp only[aJ.del,dz,cond_true]at hm;exact⟨(hap.1 e hm).1.symm,(hap.1 e hm).2⟩
  ·simp only[fh he,cond_false]at h;intro e hm;simp only[aJ.del,fh he,cond_false,List.mem_cons]at hm;rcases hm with rfl|hm
   ·have hmem:=aJ.bu h;have:=hap.1 _ hmem;refine⟨he,fun hw b hb hb'=>this.2 (by rw[Bool.or_comm];exact hw) b hb' hb⟩
   ·exact ih h hap.2 e hm
theorem aj.cons{w0:World}{M:Nat->Prop}{ρ:Env}{w:World}{hp:aJ}(r:aj w0 M ρ hp w){e:Ch}(he:e.Sat w0 M ρ w)(ha:∀x∈hp,qC ρ e x):aj w0 M ρ (e::hp) w :=
 ⟨r.keeps,fun x hx=>by rcases List.mem_cons.1 hx with rfl|h<;>first|exact he|exact r.iq x h,List.pairwise_cons.2 ⟨ha,r.apart⟩⟩
theorem aJ.W4{hp:aJ}{t:Nat}{m:Bool}{ch ch':Chunk}(h:hp.find t=some (m,ch)):∀e∈hp.vb t ch',e=⟨t,m,ch'⟩\/e∈hp.del t:=by
 induction hp with
 |nil=>simp[aJ.find]at h
 |cons x l ih =>
  simp only[aJ.find]at h;by_cases he:x.tag=t
  ·subst he;simp only[dz,cond_true,Option.some.injEq,Prod.mk.injEq]at h;obtain⟨rfl,rfl⟩:=h;intro e hm;simp only[aJ.vb,dz,cond_true,List.mem_cons]at hm;simp only[aJ.del,dz,cond_true];exact hm
  ·simp only[fh he,cond_false]at h;intro e hm;simp only[aJ.vb,fh he,cond_false,List.mem_cons]at hm;simp only[aJ.del,fh he,cond_false,List.mem_cons];rcases hm with rfl|hm
   ·exact .inr (.inl rfl)
   ·rcases ih h e hm with h'|h'
    ·exact .inl h'
    ·exact .inr (.inr h')
theorem qC.same{ρ:Env}{x y x' y':Ch}(h:qC ρ x y)(h1:x'.tag=x.tag)(h2:x'.wr=x.wr)(h3:y'.tag=y.tag)(h4:y'.wr=y.wr):qC ρ x' y':=by
 unfold qC at *;rw[h1,h2,h3,h4];exact h
theorem aJ.Qx{ρ:Env}{hp:aJ}{t:Nat}{ch':Chunk}(h:hp.Pairwise (qC ρ)):(hp.vb t ch').Pairwise (qC ρ):=by
 induction hp with
 |nil=>simp[aJ.vb]
 |cons x l ih =>
  rw[List.pairwise_cons]at h;by_cases he:x.tag=t
  ·subst he;simp only[aJ.vb,dz,cond_true,List.pairwise_cons];exact⟨fun y hy=>(h.1 y hy).same rfl rfl rfl rfl,h.2⟩
  ·simp only[aJ.vb,fh he,cond_false,List.pairwise_cons];refine⟨?_,ih h.2⟩;have:∀(l:aJ),(∀y∈l,qC ρ x y)->∀y∈l.vb t ch',qC ρ x y:=by
    intro l
    induction l with
    |nil=>intro _ y hy;simp[aJ.vb]at hy
    |cons z r ihr =>
     intro hl y hy;by_cases hz:z.tag=t
     ·subst hz;simp only[aJ.vb,dz,cond_true,List.mem_cons]at hy;rcases hy with rfl|hy
      ·exact(hl z List.mem_cons_self).same rfl rfl rfl rfl
      ·exact hl y (List.mem_cons_of_mem _ hy)
     ·simp only[aJ.vb,fh hz,cond_false,List.mem_cons]at hy;rcases hy with rfl|hy
      ·exact hl y List.mem_cons_self
      ·exact ihr (fun y hy=>hl y (List.mem_cons_of_mem _ hy)) y hy
   exact this l h.1
theorem aj.vb{w0:World}{M:Nat->Prop}{ρ:Env}{w w':World}{hp:aJ}{t:Nat}{ch ch':Chunk}(r:aj w0 M ρ hp w)(h:hp.find t=some (true,ch))
 (hk:eZ (ρ.pl t).fp w w') (hch:ch'.Sat ρ (ρ.pl t) w'):aj w0 M ρ (hp.vb t ch') w':=by
 have he:=r.iq _ (aJ.bu h);have hd:aj w0 M ρ (hp.del t) w':=(r.sub aJ.js).world hk (fun b hb hf=>he.own rfl b hf hb) (fun e hm b hb=>by
  have:=r.vo h e hm;refine hk.block b ((r.iq e (aJ.js.subset hm)).lt b hb) fun hf=>this.2 rfl b hf hb)
 refine⟨hd.keeps,fun e hm=>?_,aJ.Qx r.apart⟩;rcases aJ.W4 h e hm with rfl|hm
 ·exact⟨he.tag,hch,fun b hb=>Nat.lt_of_lt_of_le (he.lt b hb) hk.size,he.own⟩
 ·exact hd.iq e hm
theorem wT(w:World)(vs:Array Value)(t:TypeId)(fr:Nat×Nat)(h:fr.2<=fr.1)(a:Addr):(w.alloc (.cells vs t fr)).frozen? a=w.frozen? a:=by
 by_cases hb:a.block=w.heap.size
 ·have e1:(w.alloc (.cells vs t fr)).heap[a.block]? = some (.cells vs t fr):=by rw[hb];show(w.heap.push _)[w.heap.size]? = _;simp
  have e2:w.heap[a.block]? = none:=by rw[hb];simp
  obtain⟨lo,hi⟩:=fr;simp only at h;simp only[World.frozen?,e1,e2];simp;omega
 ·have e:(w.alloc (.cells vs t fr)).heap[a.block]? = w.heap[a.block]?:=by
   show(w.heap.push _)[a.block]? = _;rw[Array.getElem?_push,if_neg hb]
  simp[World.frozen?,e]
theorem aj.alloc{w0:World}{M:Nat->Prop}{ρ:Env}{w:World}{hp:aJ}(r:aj w0 M ρ hp w)(o:Obj)(p:Place)(hp0:∀b,p.fp b↔b=w.heap.size)(hfz:∀a,(w.alloc o).frozen? a=w.frozen? a){ch:Chunk}(hch:ch.Sat (ρ.ext p) p (w.alloc o)) :
 aj w0 M (ρ.ext p) (⟨ρ.n,true,ch⟩::hp) (w.alloc o):=by
 have hk:eZ (fun _=>False) w (w.alloc o):=⟨rfl,rfl,rfl,by simp,fun b hb _=>by
  show(w.heap.push o)[b]? = _;rw[Array.getElem?_push,if_neg (by omega)],fun a _=>hfz a⟩
 have h1:aj w0 M (ρ.ext p) hp (w.alloc o):=(r.world hk (fun _ _ h=>h.elim) fun e he b hb=>hk.block b ((r.iq e he).lt b hb) id).mono (ρ.eE p);refine h1.cons ⟨Nat.lt_succ_self _,by simpa only[ρ.dH p]using hch,fun b hb=>?_,fun _ b hb hb0=>?_⟩ fun x hx=>?_
 ·simp only[ρ.dH p]at hb;rw[(hp0 b).1 hb];simp
 ·simp only[ρ.dH p]at hb;have:=r.keeps.size;rw[(hp0 b).1 hb]at hb0;omega
 ·have ht:=(r.iq x hx).tag;refine⟨Nat.ne_of_gt ht,fun _ b hb hb'=>?_⟩;simp only[ρ.dH p]at hb;rw[ρ.wS p ht]at hb';have:=(r.iq x hx).lt b hb';rw[(hp0 b).1 hb]at this;omega
inductive D where
 |bool
 |int (k:IntKind)
 |str
 |ptr
 |slc (e:TypeId)
 |struct (fs:List (Nat×Nat))
 |arr (n:Nat) (e:TypeId)
 |func
 |other
structure TI where
 sz:Nat
 bytes:Nat
 agg:Bool
 d:D
 zero:List A
 ks:List CK
def Ci:Value->A
 |.int k n=>.lit k n
 |.bool true=>.tt
 |.bool false=>.ff
 |.string s=>.str s
 |.pointer none=>.nil
 |.slice none 0 0=>.cc
 |.func (.func f) ⟨[]⟩ ⟨[]⟩=>.fn f
 |v=>.val v
def Zc(k:IntKind)(n:Int):Bool:=decide (k.min<=n)&&decide (n<=k.max)
theorem SN{k:IntKind}{n:Int}:Zc k n=true↔bR k n:=by simp[Zc,G8]
def vOk:Value->Bool
 |.int k n=>Zc k n
 |.string s=>Nat.ble s.size aq
 |.agg _=>false
 |.tuple _=>false
 |_=>true
theorem O9{v:Value}(h:vOk v=true):v.oneCell'=true:=by
 cases v<;>first|rfl|(simp[vOk]at h;done)
theorem Ku(ρ:Env){v:Value}(h:vOk v=true):(Ci v).cz ρ v:=by
 unfold Ci;split
 ·exact⟨rfl,SN.1 h⟩
 ·rfl
 ·rfl
 ·exact⟨rfl,Nat.le_of_ble_eq_true h⟩
 ·rfl
 ·rfl
 ·rfl
 ·exact⟨rfl,O9 h⟩
def uT:List Value->Bool
 |[]=>true
 |v::r=>vOk v&&uT r
theorem kn(ρ:Env):∀ {vs:List Value},uT vs=true->cE ρ (vs.map Ci) vs
 |[],_=>rfl
 |v::r,h=>by
  simp only[uT,Bool.and_eq_true]at h;exact⟨v,r,rfl,Ku ρ h.1,kn ρ h.2⟩
def SO:Value->SV
 |.agg cs=>bif uT cs.toList then .agg (cs.toList.map Ci)else .a .any
 |v=>bif vOk v then .a (Ci v)else .a .any
theorem Qy(ρ:Env)(v:Value):(SO v).cz ρ v:=by
 unfold SO;split
 ·rename_i cs;cases h:uT cs.toList
  ·exact trivial
  ·exact⟨cs.toList,by simp,kn ρ h⟩
 ·cases h:vOk v
  ·exact trivial
  ·exact Ku ρ h
def abm:A->CK
 |.lit k _=>.int k
 |.int k _=>.int k
 |.tt=>.bool
 |.ff=>.bool
 |.str _=>.str
 |_=>.other
def aal(dp:Bool):A->CK
 |.cc=>bif dp then .deep else .other
 |.nil=>bif dp then .deep else .other
 |x=>abm x
def descOf(P:Program)(t:TypeId):D :=
 match P.underlying t with
 |some .bool=>.bool
 |some (.int k)=>.int k
 |some .string=>.str
 |some (.pointer _)=>.ptr
 |some (.slice e)=>.slc e
 |some (.struct fs)=>.struct (fs.toList.map fun f=>(f.offset,P.cellsOf f.type))
 |some (.array n e)=>.arr n e
 |some (.func ..)=>.func
 |_=>.other
def D.isAgg:D->Bool
 |.struct _=>true
 |.arr _ _=>true
 |_=>false
def Ac:Value->Bool
 |.agg _=>true
 |_=>false
def mR(P:Program)(t:TypeId):Bool :=
 match P.underlying t with
 |some (.struct fs)=>fs.toList.all fun f=>(P.info? f.type).isSome
 |some (.array _ e)=>(P.info? e).isSome
 |some (.slice e)=>(P.info? e).isSome
 |_=>true
def CR(dp:Bool)(P:Program)(t:TypeId):Option TI :=
 match P.info? t with
 |some i =>
  match i.zero,P.underlying t with
  |some z,some _ =>
   bif uT z.cells.toList&&(Nat.beq z.cells.size i.size&&((bif (descOf P t).isAgg then Ac z else !Ac z)&&mR P t))
   then some ⟨i.size,i.bytes,(descOf P t).isAgg,descOf P t,z.cells.toList.map Ci,z.cells.toList.map fun v=>aal dp (Ci v)⟩
   else none
  |_,_=>none
 |none=>none
def abn(P:Program)(t:TypeId):Option TI:=CR false P t
structure Cx where
 P:Program
 T:List (Nat×TI)
 force:Bool
 SP:Bool
def need(force:Bool)(p:Prop)[Decidable p](k:Prop):Prop:=bif force then(bif decide p then k else False)else p/\k
theorem kD{force:Bool}{p:Prop}[Decidable p]{k:Prop}(h:need force p k):p/\k:=by
 cases force with
 |false=>exact h
 |true =>
  by_cases hp:p
  ·simp[need,hp]at h;exact⟨hp,h⟩
  ·simp[need,hp]at h
inductive Mark(n:Nat):Prop where
 |mk
def mark(SP:Bool)(n:Nat)(p:Prop):Prop:=bif SP then(Mark n->p)else p
theorem Pa{SP:Bool}{n:Nat}{p:Prop}(h:mark SP n p):p:=by
 cases SP with
 |true=>exact h .mk
 |false=>exact h
def CS(force b:Bool)(t e:Prop):Prop:=bif force then(bif b then t else e)else(b=true->t)/\(b=false->e)
theorem Ad{force b:Bool}{t e:Prop}(h:CS force b t e):(b=true->t)/\(b=false->e):=by
 cases force<;>cases b<;>simp[CS]at h<;>simp[h]
def SQ:List (Nat×TI)->Nat->Option TI
 |[],_=>none
 |(j,i)::r,t=>bif Nat.beq j t then some i else SQ r t
def Cx.ti(X:Cx)(t:Nat):Option TI:=SQ X.T t
structure Cx.Ok(X:Cx):Prop where
 jK:∃dp,X.T.map (fun p=>CR dp X.P p.1)=X.T.map fun p=>some p.2
 mixed:X.P.follows .mixedOrders=true
theorem Kv:∀ {l:List (Nat×TI)} {t:Nat} {i:TI},SQ l t=some i->(t,i)∈l
 |[],_,_,h=>by simp[SQ]at h
 |(j,i')::r,t,i,h=>by
  simp only[SQ]at h;by_cases hj:j=t
  ·subst hj;simp only[dz,cond_true,Option.some.injEq]at h;subst h;exact List.mem_cons_self
  ·simp only[fh hj,cond_false]at h;exact List.mem_cons_of_mem _ (Kv h)
theorem Cx.Ok.ti{X:Cx}(h:X.Ok){t:Nat}{i:TI}(ht:X.ti t=some i):∃dp,CR dp X.P t=some i:=by
 have hm:=Kv ht;obtain⟨n,hn,e⟩:=List.getElem_of_mem hm;obtain⟨dp,htab⟩:=h.jK;refine⟨dp,?_⟩;have:=congrArg (fun l=>l[n]?) htab;simp[hn,e]at this;exact this
structure CT(P:Program)(t:Nat)(i:TI):Prop where
 size:P.cellsOf t=i.sz
 info:∃j,P.info? t=some j/\j.size=i.sz/\j.bytes=i.bytes/\∃z,j.zero=some z/\z.cells.toList.length=i.sz/\i.zero=z.cells.toList.map Ci/\uT z.cells.toList=true/\i.ks.length=i.sz /\
  (i.agg=true->z = .agg z.cells)/\(i.agg=false->z.oneCell'=true\/∃vs,z = .tuple vs)
 desc:descOf P t=i.d
 under:∃d,P.underlying t=some d
 agg:i.agg=i.d.isAgg
 known:mR P t=true
theorem W5{P:Program}{dp:Bool}{t:Nat}{i:TI}(h:CR dp P t=some i):CT P t i:=by
 unfold CR at h;split at h
 ·rename_i j hj;split at h
  ·rename_i z d hz hd;cases hb:(uT z.cells.toList&&(Nat.beq z.cells.size j.size&&((bif (descOf P t).isAgg then Ac z else !Ac z)&&mR P t)))
   ·rw[hb]at h;simp at h
   ·rw[hb]at h;simp only[cond_true,Option.some.injEq]at h;subst h;simp only[Bool.and_eq_true]at hb;obtain⟨h1,h2,h3,h4⟩:=hb;have h2':=Nat.eq_of_beq_eq_true h2;refine⟨by simp[Program.cellsOf,hj],⟨j,hj,rfl,rfl,z,hz,by simpa using h2',rfl,h1,by simpa using h2',?_,?_⟩,rfl,⟨d,hd⟩,rfl,h4⟩
    ·intro hagg;replace hagg:(descOf P t).isAgg=true:=hagg;rw[hagg]at h3;cases z<;>first|rfl|(simp[Ac]at h3;done)
    ·intro hagg;replace hagg:(descOf P t).isAgg=false:=hagg;rw[hagg]at h3;cases z<;>first|exact .inl rfl|exact .inr ⟨_,rfl⟩|(simp[Ac]at h3;done)
  ·simp at h
 ·simp at h
theorem Cx.Ok.ty{X:Cx}(h:X.Ok){t:Nat}{i:TI}(ht:X.ti t=some i):CT X.P t i :=
 let ⟨_,h⟩:=h.ti ht
 W5 h
abbrev KV:=SV->S->Prop
def S.ev(s:S):Operand->SV
 |.tmp t=>look s.fr t
 |.const v=>SO v
 |.global _=>.a .any
 |.func f=>.a (.fn f)
theorem dK.ev{ρ:Env}{s:S}{a:Act}(h:dK ρ s.fr a.tmps)(x:Operand):(s.ev x).cz ρ (a.eval x):=by
 cases x with
 |tmp t=>exact h t
 |const v=>exact Qy ρ v
 |global g=>exact trivial
 |func f=>rfl
structure ir(w0:World)(M:Nat->Prop)(ρ:Env)(s:S)(a:Act)(w:World):Prop where
 defers:a.defers=[]
 size:a.tmps.size=s.nt
 n:ρ.n=s.nx
 frame:dK ρ s.fr a.tmps
 heap:aj w0 M ρ s.hp w
def Out(w0:World)(M:Nat->Prop)(ρ:Env)(s:S)(w:World)(v:Value)(K:KV):Prop :=
 ∃sv s' ρ',K sv s'/\s'.nt=s.nt/\s'.fr=s.fr/\ρ.le ρ'/\ρ'.n=s'.nx/\sv.cz ρ' v/\aj w0 M ρ' s'.hp w
def Good(X:Cx)(o:Oper)(s:S)(K:KV):Prop :=
 ∀w0 M ρ a w,ir w0 M ρ s a w->∃r w',(execOp a.eval o).run X.P w = .ok r w'/\∃v,(r = .value v\/(r = .skip/\v=undef))/\Out w0 M ρ s w' v K
def Mj:SV->Option Nat
 |.a (.ptr t _ _ _)=>some t
 |.a (.slc t _ _ _ _)=>some t
 |_=>none
def tI:aJ->Option Nat
 |[]=>none
 |e::r=>match e.ch with
  |.cI _=>some e.tag
  |_=>tI r
theorem x9{t:Nat}:∀ {hp:aJ},tI hp=some t->∃e∈hp,e.tag=t
 |[],h=>by cases h
 |e::r,h=>by
  unfold tI at h;split at h
  ·cases h;exact⟨e,List.mem_cons_self,rfl⟩
  ·obtain⟨x,hx,h⟩:=x9 h;exact⟨x,List.mem_cons_of_mem _ hx,h⟩
def Fj(hp:aJ)(v:SV):Option Nat :=
 match v with
 |.a (.val _)=>tI hp
 |v=>Mj v
theorem zh{hp:aJ}{v:SV}{t:Nat}(h:Mj v=some t):Fj hp v=some t:=by
 unfold Fj;split
 ·simp[Mj]at h
 ·exact h
def Fk(o:Oper)(s:S):Option Nat :=
 match o.op with
 |.load _ x=>Fj s.hp (s.ev x)
 |.convert _ _ x=>Fj s.hp (s.ev x)
 |_=>none
def jV(X:Cx)(o:Oper)(s:S)(K:KV):Prop :=
 ∀w0 M ρ a w,ir w0 M ρ s a w->∃v sv,K sv s/\sv.cz ρ v/\∀w':World,(∀t,Fk o s=some t->∀b,(ρ.pl t).fp b->w'.heap[b]? = w.heap[b]?)->(execOp a.eval o).run X.P w' = .ok (.value v) w'
theorem jV.good{X:Cx}{o:Oper}{s:S}{K:KV}(h:jV X o s K):Good X o s K:=by
 intro w0 M ρ a w hs;obtain⟨v,sv,h1,h2,h3⟩:=h w0 M ρ a w hs;exact⟨_,w,h3 w (fun _ _ _ _=>rfl),v,.inl rfl,sv,s,ρ,h1,rfl,rfl,Env.le.refl ρ,hs.n,h2,hs.heap⟩
def A.i? : A->Option (IntKind×Int)
 |.lit k n=>some (k,n)
 |.int k n=>some (k,n)
 |_=>none
theorem A.kq{x:A}{k:IntKind}{n:Int}(h:x.i? = some (k,n)){ρ:Env}{v:Value}(r:x.cz ρ v):v = .int k n/\bR k n:=by
 cases x<;>simp[A.i?]at h<;>obtain⟨rfl,rfl⟩:=h<;>exact r
def A.b? : A->Option Bool
 |.tt=>some true
 |.ff=>some false
 |.bool b=>some b
 |_=>none
theorem A.ya{x:A}{b:Bool}(h:x.b? = some b){ρ:Env}{v:Value}(r:x.cz ρ v):v = .bool b:=by
 cases x<;>simp[A.b?]at h<;>subst h<;>exact r
def YQ(b:Bool):A:=bif b then .tt else .ff
theorem tJ(b:Bool)(ρ:Env):(YQ b).cz ρ (.bool b):=by cases b<;>rfl
def uw:IntKind->Int->Int
 |.u8,n=>n%256
 |.u16,n=>n%65536
 |.u32,n=>n%4294967296
 |.u64,n=>n%18446744073709551616
 |k,n=>k.wrap n
theorem FI(k:IntKind)(n:Int):k.wrap n=uw k n:=by
 cases k<;>simp[uw,IntKind.wrap,IntKind.signed,IntKind.bits]
theorem tK(k:IntKind)(n:Int):bR k (uw k n):=FI k n▸iW k n
def dL(op:BinOp)(k:IntKind)(x y:Int):Int :=
 let a:=BitVec.ofInt k.bits x
 let b:=BitVec.ofInt k.bits y
 match op with
 |.and=>k.wrap (a &&& b).toNat
 |.or=>k.wrap (a ||| b).toNat
 |.xor=>k.wrap (a ^^^ b).toNat
 |_=>k.wrap (a &&& ~~~b).toNat
def pq(j k:IntKind):Bool:=match j,k with
 |.i8,.i8=>true | .i16,.i16=>true | .i32,.i32=>true | .i64,.i64=>true
 |.u8,.u8=>true | .u16,.u16=>true | .u32,.u32=>true | .u64,.u64=>true
 |_,_=>false
theorem mw{j k:IntKind}(h:pq j k=true):j=k:=by cases j<;>cases k<;>simp[pq]at h<;>rfl
def arith(k:IntKind)(n:Int)(K:A->Prop):Prop:=bif k.signed then bR k n/\K (.int k n)else K (.int k (uw k n))
def Mk(op:BinOp)(k:IntKind)(a:Int)(j:IntKind)(b:Int)(K:A->Prop):Prop :=
 match op with
 |.shl=>0<=b/\(bif k.signed then K (.int k (k.wrap (a*2^min b.toNat k.bits)))else K (.int k (uw k (a*2^min b.toNat k.bits))))
 |.shr=>0<=b/\K (.int k (a/2^min b.toNat k.bits))
 |.add=>bif pq k j then arith k (a+b) K else False
 |.sub=>bif pq k j then arith k (a-b) K else False
 |.mul=>bif pq k j then arith k (a*b) K else False
 |.quo=>bif pq k j then b≠0/\(bif k.signed then bR k (a.tdiv b)/\K (.int k (a.tdiv b))else K (.int k (a/b)))else False
 |.rem=>bif pq k j then b≠0/\(bif k.signed then K (.int k (a.tmod b))else K (.int k (a%b)))else False
 |.eql=>bif pq k j then K (.bool (a == b))else False
 |.neq=>bif pq k j then K (.bool (a != b))else False
 |.lss=>bif pq k j then K (.bool (decide (a<b)))else False
 |.leq=>bif pq k j then K (.bool (decide (a<=b)))else False
 |.gtr=>bif pq k j then K (.bool (decide (b<a)))else False
 |.geq=>bif pq k j then K (.bool (decide (b<=a)))else False
 |op=>bif pq k j then K (.int k (dL op k a b))else False
def Ae(op:BinOp)(k:IntKind)(a:Int)(j:IntKind)(b:Int)(K:A->Prop):Prop :=
 match op with
 |.shl=>bif decide (0<=b)then K (.lit k (k.wrap (a*2^min b.toNat k.bits)))else False
 |.shr=>bif decide (0<=b)then K (.lit k (a/2^min b.toNat k.bits))else False
 |.add=>bif pq k j then K (.lit k (k.wrap (a+b)))else False
 |.sub=>bif pq k j then K (.lit k (k.wrap (a-b)))else False
 |.mul=>bif pq k j then K (.lit k (k.wrap (a*b)))else False
 |.quo=>bif pq k j&&b != 0 then K (.lit k (k.wrap (a.tdiv b)))else False
 |.rem=>bif pq k j&&b != 0 then K (.lit k (a.tmod b))else False
 |.eql=>bif pq k j then K (YQ (a == b))else False
 |.neq=>bif pq k j then K (YQ (a != b))else False
 |.lss=>bif pq k j then K (YQ (decide (a<b)))else False
 |.leq=>bif pq k j then K (YQ (decide (a<=b)))else False
 |.gtr=>bif pq k j then K (YQ (decide (b<a)))else False
 |.geq=>bif pq k j then K (YQ (decide (b<=a)))else False
 |op=>bif pq k j then K (.lit k (dL op k a b))else False
theorem CU{k:IntKind}{a b:Int}(h:bR k a):bR k (a.tmod b):=by
 have h1:(a.tmod b).natAbs<=a.natAbs:=by rw[Int.natAbs_tmod];exact Nat.mod_le _ _
 have h2:0<=a->0<=a.tmod b:=fun h=>Int.tmod_nonneg _ h;have h3:a<=0->a.tmod b<=0:=fun h=>by
  have:=Int.tmod_nonneg b (show 0<=-a by omega);rw[Int.neg_tmod]at this;omega
 cases k<;>simp only[bR]at h ⊢<;>omega
theorem CW{k:IntKind}{a b:Int}(h:bR k a)(hb:0<b):bR k (a/b):=by
 have h0:0<=a->0<=a/b:=fun h=>Int.ediv_nonneg h (Int.le_of_lt hb);have h1:0<=a->a/b<=a:=fun h=>Int.ediv_le_self _ h;have h2:a<0->a<=a/b:=fun h=>by
  rw[Int.le_ediv_iff_mul_le hb];have:a*b<=a*1:=Int.mul_le_mul_of_nonpos_left (Int.le_of_lt h) hb;omega
 have h3:a<0->a/b<0:=fun h=>Int.ediv_neg_of_neg_of_pos h hb;cases k<;>simp only[bR]at h ⊢<;>omega
theorem pz{k:IntKind}{a:Int}(hk:k.signed=false)(h:bR k a):0<=a:=by
 cases k<;>simp[IntKind.signed]at hk<;>exact h.1
theorem Fl{k:IntKind}{a b:Int}(hk:k.signed=false)(ha:bR k a)(hb:bR k b):a.tdiv b=a/b/\bR k (a/b):=by
 have h1:=pz hk ha;have h2:=pz hk hb;refine⟨Int.tdiv_eq_ediv_of_nonneg h1,?_⟩;by_cases h0:b=0
 ·subst h0;rw[Int.ediv_zero];cases k<;>simp only[bR]at ha ⊢<;>omega
 ·exact CW ha (by omega)
theorem Qz(P:Program)(op:BinOp)(k j:IntKind)(a b:Int)(t:TypeId)(ha:bR k a)(hb:bR j b){K:A->Prop}(h:Mk op k a j b K) :
 ∃x v,K x/\(∀ρ:Env,x.cz ρ v)/\∀w:World,(binOp op t (.int k a) (.int j b)).run P w = .ok v w:=by
 have hwr:∀n,bR k (k.wrap n):=iW k;have ar:∀n,arith k n K->∃x v,K x/\(∀ρ:Env,x.cz ρ v)/\v = .int k (k.wrap n):=by
  intro n hn;unfold arith at hn;cases hs:k.signed
  ·rw[hs]at hn;exact⟨_,_,hn,fun ρ=>⟨by rw[FI],tK k n⟩,rfl⟩
  ·rw[hs]at hn;exact⟨_,_,hn.2,fun ρ=>⟨by rw[fM hn.1],hn.1⟩,rfl⟩
 cases op
 case shl =>
  obtain⟨h0,h⟩:=h;have hlt:¬b<0:=by omega
  cases hs:k.signed
  ·rw[hs]at h;exact⟨_,_,h,fun ρ=>⟨rfl,tK _ _⟩,fun w=>by simp[binOp,Op.shift,hlt,FI]⟩
  ·rw[hs]at h;exact⟨_,_,h,fun ρ=>⟨rfl,iW _ _⟩,fun w=>by simp[binOp,Op.shift,hlt]⟩
 case shr =>
  obtain⟨h0,h⟩:=h;have hlt:¬b<0:=by omega
  have hp:(0:Int)<2^min b.toNat k.bits:=Int.pow_pos (by omega);exact⟨_,_,h,fun ρ=>⟨rfl,CW ha hp⟩,fun w=>by simp[binOp,Op.shift,hlt,Int.fdiv_eq_ediv_of_nonneg _ (Int.le_of_lt hp)]⟩
 all_goals
  simp only[Mk]at h;cases hk:pq k j
  ·rw[hk]at h;exact h.elim
  rw[hk]at h;have:=mw hk;subst this;simp only[cond_true]at h
 case add=>obtain⟨x,v,h1,h2,rfl⟩:=ar _ h;exact⟨x,_,h1,h2,fun w=>by simp[binOp,Op.intArith]⟩
 case sub=>obtain⟨x,v,h1,h2,rfl⟩:=ar _ h;exact⟨x,_,h1,h2,fun w=>by simp[binOp,Op.intArith]⟩
 case mul=>obtain⟨x,v,h1,h2,rfl⟩:=ar _ h;exact⟨x,_,h1,h2,fun w=>by simp[binOp,Op.intArith]⟩
 case quo =>
  obtain⟨h0,h⟩:=h;cases hs:k.signed
  ·rw[hs]at h;obtain⟨e1,e2⟩:=Fl hs ha hb;exact⟨_,_,h,fun ρ=>⟨rfl,e2⟩,fun w=>by simp[binOp,Op.intDiv,h0,e1,fM e2]⟩
  ·rw[hs]at h;exact⟨_,_,h.2,fun ρ=>⟨rfl,h.1⟩,fun w=>by simp[binOp,Op.intDiv,h0,fM h.1]⟩
 case rem =>
  obtain⟨h0,h⟩:=h;cases hs:k.signed
  ·rw[hs]at h;have e:a.tmod b=a%b:=Int.tmod_eq_emod_of_nonneg (pz hs ha);exact⟨_,_,h,fun ρ=>⟨rfl,e▸CU ha⟩,fun w=>by simp[binOp,Op.intDiv,h0,e]⟩
  ·rw[hs]at h;exact⟨_,_,h,fun ρ=>⟨rfl,CU ha⟩,fun w=>by simp[binOp,Op.intDiv,h0]⟩
 case eql=>exact⟨_,_,h,fun ρ=>rfl,fun w=>by simp[binOp,Op.intCmp]⟩
 case neq=>exact⟨_,_,h,fun ρ=>rfl,fun w=>by simp[binOp,Op.intCmp]⟩
 case lss=>exact⟨_,_,h,fun ρ=>rfl,fun w=>by simp[binOp,Op.intCmp]⟩
 case leq=>exact⟨_,_,h,fun ρ=>rfl,fun w=>by simp[binOp,Op.intCmp]⟩
 case gtr=>exact⟨_,_,h,fun ρ=>rfl,fun w=>by simp[binOp,Op.intCmp]⟩
 case geq=>exact⟨_,_,h,fun ρ=>rfl,fun w=>by simp[binOp,Op.intCmp]⟩
 all_goals exact⟨_,_,h,fun ρ=>⟨rfl,iW _ _⟩,fun w=>by simp[binOp,Op.intBits,dL]⟩
theorem FJ(P:Program)(op:BinOp)(k j:IntKind)(a b:Int)(t:TypeId)(ha:bR k a)(hb:bR j b){K:A->Prop}(h:Ae op k a j b K) :
 ∃x v,K x/\(∀ρ:Env,x.cz ρ v)/\∀w:World,(binOp op t (.int k a) (.int j b)).run P w = .ok v w:=by
 cases op
 case shl =>
  simp only[Ae]at h;by_cases h0:0<=b
  ·simp only[h0,decide_true,cond_true]at h;have hlt:¬b<0:=by omega
   exact⟨_,_,h,fun ρ=>⟨rfl,iW _ _⟩,fun w=>by simp[binOp,Op.shift,hlt]⟩
  ·simp[h0]at h
 case shr =>
  simp only[Ae]at h;by_cases h0:0<=b
  ·simp only[h0,decide_true,cond_true]at h;have hlt:¬b<0:=by omega
   have hp:(0:Int)<2^min b.toNat k.bits:=Int.pow_pos (by omega);exact⟨_,_,h,fun ρ=>⟨rfl,CW ha hp⟩,fun w=>by simp[binOp,Op.shift,hlt,Int.fdiv_eq_ediv_of_nonneg _ (Int.le_of_lt hp)]⟩
  ·simp[h0]at h
 all_goals
  simp only[Ae]at h;cases hk:pq k j
  ·simp[hk]at h
  simp only[hk,Bool.true_and,cond_true]at h;have:=mw hk;subst this
 case add=>exact⟨_,_,h,fun ρ=>⟨rfl,iW _ _⟩,fun w=>by simp[binOp,Op.intArith]⟩
 case sub=>exact⟨_,_,h,fun ρ=>⟨rfl,iW _ _⟩,fun w=>by simp[binOp,Op.intArith]⟩
 case mul=>exact⟨_,_,h,fun ρ=>⟨rfl,iW _ _⟩,fun w=>by simp[binOp,Op.intArith]⟩
 case quo =>
  cases h0:(b != 0)
  ·simp[h0]at h
  ·simp only[h0,cond_true]at h;have h0':b≠0:=by simpa using h0
   exact⟨_,_,h,fun ρ=>⟨rfl,iW _ _⟩,fun w=>by simp[binOp,Op.intDiv,h0']⟩
 case rem =>
  cases h0:(b != 0)
  ·simp[h0]at h
  ·simp only[h0,cond_true]at h;have h0':b≠0:=by simpa using h0
   exact⟨_,_,h,fun ρ=>⟨rfl,CU ha⟩,fun w=>by simp[binOp,Op.intDiv,h0']⟩
 case eql=>exact⟨_,_,h,fun ρ=>tJ _ ρ,fun w=>by simp[binOp,Op.intCmp]⟩
 case neq=>exact⟨_,_,h,fun ρ=>tJ _ ρ,fun w=>by simp[binOp,Op.intCmp]⟩
 case lss=>exact⟨_,_,h,fun ρ=>tJ _ ρ,fun w=>by simp[binOp,Op.intCmp]⟩
 case leq=>exact⟨_,_,h,fun ρ=>tJ _ ρ,fun w=>by simp[binOp,Op.intCmp]⟩
 case gtr=>exact⟨_,_,h,fun ρ=>tJ _ ρ,fun w=>by simp[binOp,Op.intCmp]⟩
 case geq=>exact⟨_,_,h,fun ρ=>tJ _ ρ,fun w=>by simp[binOp,Op.intCmp]⟩
 all_goals exact⟨_,_,h,fun ρ=>⟨rfl,iW _ _⟩,fun w=>by simp[binOp,Op.intBits,dL]⟩
section
variable {P:Program}
theorem tL{t:Nat}{i:TI}(ty:CT P t i)(w:World):(isAgg t).run P w = .ok i.agg w:=by
 obtain⟨d,hd⟩:=ty.under;simp only[isAgg,Sem.run_bind,run_underlying hd,Result.andThen_ok];rw[ty.agg,<- ty.desc];unfold descOf;rw[hd];cases d<;>rfl
theorem cu{t:Nat}{i:TI}(ty:CT P t i)(w:World):(sizeOf t).run P w = .ok i.sz w:=by
 obtain⟨j,hj,h1,_⟩:=ty.info;simp[sizeOf,typeInfo,hj,h1]
theorem iw{t:Nat}{i:TI}(ty:CT P t i):∃z,(∀w,(zeroValue t).run P w = .ok z w)/\z.cells.toList.length=i.sz/\i.zero=z.cells.toList.map Ci/\uT z.cells.toList=true/\i.ks.length=i.sz /\
 (i.agg=true->z = .agg z.cells)/\(i.agg=false->z.oneCell'=true\/∃vs,z = .tuple vs):=by
 obtain⟨j,hj,_,_,z,hz,h⟩:=ty.info;exact⟨z,fun w=>by simp[zeroValue,typeInfo,hj,hz],h⟩
theorem Addr.add_plain(b o n:Nat):(⟨b,o,none⟩:Addr).add n=⟨b,o+n,none⟩:=by
 unfold Addr.add;split<;>simp_all
theorem cell_of{w:World}{b:Nat}{vs:Array Value}{ty:TypeId}{fr:Nat×Nat}(h:w.heap[b]? = some (.cells vs ty fr))(o:Nat):w.cell? ⟨b,o,none⟩=vs[o]?:=by
 simp[World.cell?,h]
theorem QA{w:World}{b:Nat}{vs:Array Value}{ty:TypeId}{fr:Nat×Nat}(h:w.heap[b]? = some (.cells vs ty fr)){o:Nat}(hu:¬(fr.1<=o/\o<fr.2)):w.frozen? ⟨b,o,none⟩=false:=by
 obtain⟨lo,hi⟩:=fr;have:=hu;simp only[World.frozen?,h];simpa using this
theorem vn.size{n m:Nat}{fr:Nat×Nat}(h:vn n fr)(e:m=n):vn m fr:=e▸h
theorem eO(g o:Nat)(t:TypeId)(fz:Nat×Nat):∀(vs:List Value) (i:Nat) (cur:Array Value) (w:World),w.heap[g]? = some (.cells cur t fz)->tH (o+i) (o+i+vs.length) fz->o+i+vs.length<=cur.size->(∀v∈vs,v.oneCell'=true) ->
 (storeCells ⟨g,o,none⟩ vs i).run P w = .ok () (w.setRow g (cur.toList.take (o+i)++vs++cur.toList.drop (o+i+vs.length)).toArray)
 |[],i,cur,w,hg,_,_,_=>by
  simp only[storeCells,List.append_nil,List.length_nil,Nat.add_zero,List.take_append_drop,Array.toArray_toList];rw[setRow_self w g cur t fz hg];rfl
 |v::rest,i,cur,w,hg,hfz,hl,h1=>by
  have hi:o+i<cur.size:=by simp at hl;omega
  have hadd:(⟨g,o,none⟩:Addr).add i=⟨g,o+i,none⟩:=Addr.add_plain _ _ _;have hcell:w.cell? ⟨g,o+i,none⟩=some cur[o+i]:=by simp[World.cell?,hg,hi]
  have hfro:w.frozen? ⟨g,o+i,none⟩=false:=QA hg (hfz (o+i) (Nat.le_refl _) (by simp));have hst:(store ((⟨g,o,none⟩:Addr).add i) v).run P w = .ok () (w.setRow g (cur.setIfInBounds (o+i) v)):=by
   rw[hadd,run_store P w _ v _ (h1 v (by simp)),hcell];simp[hfro,setCell_eq_setRow w g (o+i) cur t fz v hg]
  have ih:=eO g o t fz rest (i+1) (cur.setIfInBounds (o+i) v) (w.setRow g (cur.setIfInBounds (o+i) v)) (setRow_heap w g cur _ t _ hg) (fun x h1 h2=>hfz x (by omega) (by simp at h2 ⊢;omega)) (by simp at hl ⊢;omega) (fun x hx=>h1 x (by simp[hx]));simp only[storeCells,Sem.run_bind,hst,Result.andThen_ok,ih,setRow_setRow];congr 3;have e:=list_seg_step cur.toList (o+i) v rest (by simp at hl ⊢;omega);simpa[Array.toList_setIfInBounds,Nat.add_assoc]using e
theorem eZ.setRow(w:World)(g:Nat)(cs:Array Value):eZ (fun b=>b=g) w (w.setRow g cs) :=
 ⟨rfl,rfl,rfl,by simp,fun b _ hb=>setRow_other w g b cs hb,fun a _=>by
  by_cases hb:a.block=g
  ·subst hb;cases ho:w.heap[a.block]? with
   |none =>
    have:(w.setRow a.block cs).heap[a.block]? = none:=by
     have h1:=Array.getElem?_eq_none_iff.1 ho;exact Array.getElem?_eq_none_iff.2 (by simpa using h1)
    simp[World.frozen?,ho,this]
   |some o =>
    cases o with
    |cells vs ty fr=>simp only[World.frozen?,ho,setRow_heap w a.block vs cs ty fr ho]
    |_=>simp[World.frozen?,ho,World.setRow,Array.getElem?_modify]
  ·simp only[World.frozen?,setRow_other w g a.block cs hb]⟩
def jW:Value->Int | .int _ n=>n|_=>0
def toB:Value->Bool | .bool b=>b|_=>false
def toS:Value->ByteArray | .string s=>s|_=>.empty
def mz:CK->Value->A
 |.int k,v=>.int k (jW v)
 |.bool,v=>.bool (toB v)
 |.str,v=>.str (toS v)
 |.other,v=>match v with
  |.slice none 0 0=>.cc
  |.pointer none=>.nil
  |v=>.val v
 |.deep,v=>.val v
theorem ob{k:CK}{v:Value}(h:k.ok v)(ρ:Env):(mz k v).cz ρ v:=by
 cases k with
 |int k=>obtain⟨n,rfl,hn⟩:=h;exact⟨rfl,hn⟩
 |bool=>obtain⟨b,rfl⟩:=h;rfl
 |str=>obtain⟨s,rfl,hs⟩:=h;exact⟨rfl,hs⟩
 |other =>
  unfold mz;split
  ·rename_i e;cases e
  ·rename_i e;cases e
  ·rename_i e;cases e
  ·split
   ·rfl
   ·rfl
   ·exact⟨rfl,h⟩
  ·rename_i e;cases e
 |deep=>exact⟨rfl,h⟩
def atoms(row:Nat->Value):List CK->Nat->List A
 |[],_=>[]
 |k::ks,c=>mz k (row c)::atoms row ks (c+1)
def Cj(force:Bool)(x:A)(p:Prop):Prop:=match x with
 |.int k n=>bif force then p else bR k n->p
 |_=>p
theorem G9{force:Bool}{x:A}{p:Prop}(h:Cj force x p){ρ:Env}{v:Value}(r:x.cz ρ v):p:=by
 cases x<;>simp only[Cj]at h<;>first|exact h|(cases force<;>first|exact h r.2|exact h)
def Ml(force:Bool)(ti:TI)(ch:Chunk)(row esz c:Nat)(s:S)(K:KV):Prop :=
 match ch with
 |.obj _ cs =>
  (bif ti.agg then(bif Nat.ble (row*esz+c+ti.sz) cs.length then K (.agg ((cs.drop (row*esz+c)).take ti.sz)) s else False)
   else match cs[row*esz+c]? with|some x=>Cj force x (K (.a x) s)|none=>False)
 |.arr _ ks n rows=>bif Nat.beq esz ks.length then
  (bif ti.agg then(bif Nat.ble (c+ti.sz) ks.length then need force (row<n) (K (.agg (atoms (rows row) ((ks.drop c).take ti.sz) c)) s)else False)
   else match ks[c]? with|some k=>need force (row<n) (Cj force (mz k (rows row c)) (K (.a (mz k (rows row c))) s))|none=>False)else False
 |.abs _=>False
 |.cI _=>False
def Pb(X:Cx)(t:Nat)(x:SV)(s:S)(K:KV):Prop :=
 match x with
 |.a (.ptr tg row esz c) =>
  match X.ti t,s.hp.find tg with
  |some ti,some (_,ch)=>Ml X.force ti ch row esz c s K
  |_,_=>False
 |_=>False
theorem vp{t:Nat}{i:TI}(ty:CT P t i)(w:World)(b o:Nat)(vs:List Value)(ha:i.agg=true)(hl:vs.length=i.sz)(h:∀j v,vs[j]? = some v->w.cell? ⟨b,o+j,none⟩=some v) :
 (loadVar t ⟨b,o,none⟩).run P w = .ok (.agg vs.toArray) w:=by
 have:=run_loadCells_list (P:=P) w ⟨b,o,none⟩ vs (fun j v hj=>by rw[Addr.add_plain];exact h j v hj);rw[hl]at this;simp[loadVar,tL ty,ha,cu ty,this]
theorem vq{t:Nat}{i:TI}(ty:CT P t i)(w:World)(a:Addr)(v:Value)(ha:i.agg=false)(h:w.cell? a=some v):(loadVar t a).run P w = .ok v w:=by
 simp[loadVar,tL ty,ha,h]
theorem wU(ρ:Env)(row:Nat->Value):∀(ks:List CK) (c:Nat),(∀(j:Nat) (k:CK),ks[j]? = some k->k.ok (row (c+j)))->cE ρ (atoms row ks c) ((List.range' c ks.length).map row)
 |[],_,_=>rfl
 |k::ks,c,h=>by
  refine⟨row c,(List.range' (c+1) ks.length).map row,by simp[List.range'_succ],ob (h 0 k rfl) ρ,wU ρ row ks (c+1) fun j k' hj=>?_⟩;have:=h (j+1) k' (by simpa using hj);rwa[show c+(j+1)=c+1+j from by omega]at this
theorem Pc{X:Cx}(hX:X.Ok){t:Nat}{x:SV}{s:S}{K:KV}(h:Pb X t x s K){w0:World}{M:Nat->Prop}{ρ:Env}{w:World}{v:Value}(hv:x.cz ρ v)(hh:aj w0 M ρ s.hp w) :
 ∃b o,v = .pointer (some ⟨b,o,none⟩)/\∃u sv,(∀w':World,(∀t',Mj x=some t'->∀b,(ρ.pl t').fp b->w'.heap[b]? = w.heap[b]?)->(loadVar t ⟨b,o,none⟩).run X.P w' = .ok u w')/\sv.cz ρ u/\K sv s:=by
 unfold Pb at h;split at h
 ·rename_i tg row esz c;obtain⟨_,rfl⟩:=hv;refine⟨_,_,rfl,?_⟩;split at h
  ·rename_i ti m ch hti hfind;have ty:=hX.ty hti;have he:=(hh.iq _ (aJ.bu hfind)).ch;simp only at he;cases ch with
   |abs R=>exact h.elim
   |cI H=>exact h.elim
   |obj cty cs =>
    obtain⟨vs,fr,hb,hoff,⟨us,xs,hus,hrep⟩,hu,hfp⟩:=he;have hvs:∀(j:Nat) (v:Value),us[j]? = some v->vs[j]? = some v:=fun j v hj=>by
     rw[<- Array.getElem?_toList,hus,List.getElem?_append_left (List.getElem?_eq_some_iff.1 hj).1];exact hj
    simp only[Ml]at h;have hadd:(ρ.pl tg).off+row*esz+c=row*esz+c:=by omega
    rw[hadd];clear hadd;generalize row*esz+c=c' at *;cases ha:ti.agg
    ·simp only[ha,cond_false]at h;split at h
     ·rename_i x hx;obtain⟨u,hu1,hu2⟩:=hrep.get hx;exact⟨u,.a x,fun w' hw=>vq ty w' _ u ha (by rw[cell_of (by rw[hw tg rfl _ ((hfp _).2 rfl)];exact hb)];exact hvs _ _ hu1),hu2,G9 h hu2⟩
     ·exact h.elim
    ·simp only[ha,cond_true]at h;cases hlen:Nat.ble (c'+ti.sz) cs.length
     ·simp[hlen]at h
     ·simp only[hlen,cond_true]at h;have hle:=Nat.le_of_ble_eq_true hlen;have hl:=hrep.length;refine⟨_,.agg _,fun w' hw=>vp ty w' _ _ ((us.drop c').take ti.sz) ha (by simp at hl ⊢;omega) ?_,⟨_,rfl,(hrep.drop c').take ti.sz⟩,h⟩;intro j v hj;rw[cell_of (by rw[hw tg rfl _ ((hfp _).2 rfl)];exact hb)];rw[List.getElem?_take]at hj;split at hj
      ·exact hvs _ _ (by simpa using hj)
      ·cases hj
   |arr cty ks n rows =>
    simp only[Ml]at h;cases h0:Nat.beq esz ks.length
    ·simp[h0]at h
    simp only[h0,cond_true]at h;have h0':=Nat.eq_of_beq_eq_true h0;subst h0';have key:∀(hr:row<n),∃vs ty' fr,w.heap[(ρ.pl tg).blk]? = some (.cells vs ty' fr)/\(∀b,(ρ.pl tg).fp b↔b=(ρ.pl tg).blk)/\∀j k,ks[j]? = some k->vs[(ρ.pl tg).off+row*ks.length+j]? = some (rows row j)/\k.ok (rows row j):=by
     intro hr;rcases he with⟨hn,_⟩ | ⟨vs,ty',fr,hb,_,_,_,hfp,hrow⟩
     ·omega
     ·exact⟨vs,ty',fr,hb,hfp,hrow row hr⟩
    cases ha:ti.agg
    ·simp only[ha,cond_false]at h;split at h
     ·rename_i k hk;obtain⟨hr,h⟩:=kD h;obtain⟨vs,ty',fr,hb,hfp,hrow⟩:=key hr;obtain⟨e1,e2⟩:=hrow c k hk;exact⟨_,.a _,fun w' hw=>vq ty w' _ _ ha (by rw[cell_of (by rw[hw tg rfl _ ((hfp _).2 rfl)];exact hb)];exact e1),ob e2 ρ,G9 h (ob e2 ρ)⟩
     ·exact h.elim
    ·simp only[ha,cond_true]at h;cases hlen:Nat.ble (c+ti.sz) ks.length
     ·simp[hlen]at h
     ·simp only[hlen,cond_true]at h;obtain⟨hr,h⟩:=kD h;have hle:=Nat.le_of_ble_eq_true hlen;obtain⟨vs,ty',fr,hb,hfp,hrow⟩:=key hr;have hks:((ks.drop c).take ti.sz).length=ti.sz:=by simp;omega
      have hget:∀(j:Nat) (k:CK),((ks.drop c).take ti.sz)[j]? = some k->j<ti.sz/\ks[c+j]? = some k:=by
       intro j k hj;rw[List.getElem?_take]at hj;split at hj
       ·exact⟨‹_›,by simpa using hj⟩
       ·cases hj
      have hat:=wU ρ (rows row) ((ks.drop c).take ti.sz) c fun j k hj=>(hrow (c+j) k (hget j k hj).2).2;rw[hks]at hat;refine⟨_,.agg _,fun w' hw=>vp ty w' _ _ ((List.range' c ti.sz).map (rows row)) ha (by simp) ?_,⟨_,rfl,hat⟩,h⟩;intro j v hj;rw[cell_of (by rw[hw tg rfl _ ((hfp _).2 rfl)];exact hb)];have hjl:j<ti.sz:=by
       rcases Nat.lt_or_ge j ti.sz with h|h
       ·exact h
       ·rw[List.getElem?_eq_none (by simpa using h)]at hj;cases hj
      have hkj:∃k,ks[c+j]? = some k:=⟨ks[c+j]'(by omega),List.getElem?_eq_getElem _⟩
      obtain⟨k,hk⟩:=hkj;have e:=(hrow (c+j) k hk).1;rw[<- Nat.add_assoc]at e;rw[e];simp[hjl]at hj;rw[<- hj]
  ·exact h.elim
 ·exact h.elim
end
section
variable {P:Program}
def A.st:A->Bool
 |.any=>false
 |_=>true
theorem A.SR{x:A}(h:x.st=true){ρ:Env}{v:Value}(r:x.cz ρ v):v.oneCell'=true:=by
 cases x<;>simp only[A.st,A.cz]at h r
 case any=>cases h
 case val=>rw[r.1];exact r.2
 case slc =>
  obtain⟨_,_,_,⟨_,_,rfl⟩ | ⟨_,rfl,_⟩⟩:=r<;>rfl
 case sub =>
  obtain⟨_,_,_,rfl⟩:=r;rfl
 all_goals first|(rw[r];rfl)|(rw[r.1];rfl)|(rw[r.2];rfl)
def sZ:List A->Bool
 |[]=>true
 |x::r=>x.st&&sZ r
theorem FK{ρ:Env}:∀ {xs:List A} {vs:List Value},sZ xs=true->cE ρ xs vs->∀v∈vs,v.oneCell'=true
 |[],_,_,r,v,hv=>by simp[cE]at r;subst r;cases hv
 |x::xs,_,h,⟨u,t,e,r1,r2⟩,v,hv=>by
  subst e;simp only[sZ,Bool.and_eq_true]at h;rcases List.mem_cons.1 hv with rfl|hv
  ·exact A.SR h.1 r1
  ·exact FK h.2 r2 v hv
theorem gI(l:List Value)(o:Nat)(vs:List Value)(h:o+vs.length<=l.length)(p:Nat) :
 (l.take o++vs++l.drop (o+vs.length))[p]? = if o<=p/\p<o+vs.length then vs[p-o]? else l[p]?:=by
 have ht:(l.take o).length=o:=by simp;omega
 by_cases h1:p<o
 ·rw[List.append_assoc,List.getElem?_append_left (by omega),List.getElem?_take,if_pos h1,if_neg (by omega)]
 ·by_cases h2:p<o+vs.length
  ·rw[if_pos ⟨by omega,h2⟩,List.getElem?_append_left (by simp;omega),List.getElem?_append_right (by omega),ht]
  ·rw[if_neg (by omega),List.getElem?_append_right (by simp;omega),List.getElem?_drop];congr 1;simp[ht];omega
theorem cE.splice{ρ:Env}{cs xs:List A}{vs us:List Value}(h:cE ρ cs vs)(k:cE ρ xs us)(c:Nat):cE ρ (cs.take c++xs++cs.drop (c+xs.length)) (vs.take c++us++vs.drop (c+us.length)):=by
 rw[k.length];exact(((h.take c).append k).append (h.drop _))
def W6:CK->A->Bool
 |.int k,.lit k' _=>pq k k'
 |.int k,.int k' _=>pq k k'
 |.bool,.tt=>true
 |.bool,.ff=>true
 |.bool,.bool _=>true
 |.str,.str _=>true
 |.other,.nil=>true
 |.other,.cc=>true
 |.other,.fn _=>true
 |.other,.val _=>true
 |.deep,.cc=>true
 |.deep,.nil=>true
 |.deep,.val _=>true
 |_,_=>false
def A.Af:A->Value
 |.lit k n=>.int k n
 |.int k n=>.int k n
 |.tt=>.bool true
 |.ff=>.bool false
 |.bool b=>.bool b
 |.str s=>.string s
 |.nil=>.pointer none
 |.cc=>.slice none 0 0
 |.fn f=>.func (.func f) #[] #[]
 |.val v=>v
 |_=>undef
theorem W7{k:CK}{x:A}(h:W6 k x=true){ρ:Env}{v:Value}(r:x.cz ρ v):v=x.Af/\k.ok v:=by
 cases k<;>cases x<;>simp only[W6,A.cz]at h r<;>first|(cases h;done)|skip
 case int.lit=>obtain⟨rfl,hr⟩:=r;have:=mw h;subst this;exact⟨rfl,_,rfl,hr⟩
 case int.int=>obtain⟨rfl,hr⟩:=r;have:=mw h;subst this;exact⟨rfl,_,rfl,hr⟩
 case bool.tt=>subst r;exact⟨rfl,_,rfl⟩
 case bool.ff=>subst r;exact⟨rfl,_,rfl⟩
 case bool.bool=>subst r;exact⟨rfl,_,rfl⟩
 case str.str=>obtain⟨rfl,hr⟩:=r;exact⟨rfl,_,rfl,hr⟩
 case other.nil=>subst r;exact⟨rfl,rfl⟩
 case other.cc=>subst r;exact⟨rfl,rfl⟩
 case other.fn=>subst r;exact⟨rfl,rfl⟩
 case other.val=>obtain⟨rfl,hr⟩:=r;exact⟨rfl,hr⟩
 case deep.cc=>subst r;exact⟨rfl,rfl⟩
 case deep.nil=>subst r;exact⟨rfl,rfl⟩
 case deep.val=>obtain⟨rfl,hr⟩:=r;exact⟨rfl,hr⟩
def lS:List CK->List A->Bool
 |_,[]=>true
 |[],_::_=>false
 |k::ks,x::xs=>W6 k x&&lS ks xs
theorem qE{ρ:Env}:∀ {ks:List CK} {xs:List A} {vs:List Value},lS ks xs=true->cE ρ xs vs->vs=xs.map A.Af/\∀(j:Nat) (v:Value) (k:CK),vs[j]? = some v->ks[j]? = some k->k.ok v
 |_,[],_,_,r=>by simp[cE]at r;subst r;exact⟨rfl,fun j v k hv=>by simp at hv⟩
 |[],_::_,_,h,_=>by simp[lS]at h
 |k::ks,x::xs,_,h,⟨u,t,e,r1,r2⟩=>by
  subst e;simp only[lS,Bool.and_eq_true]at h;obtain⟨e1,h1⟩:=W7 h.1 r1;obtain⟨e2,h2⟩:=qE h.2 r2;refine⟨by rw[e1,e2];rfl,fun j v k' hv hk=>?_⟩;cases j with
  |zero=>simp at hv hk;subst hv;subst hk;exact h1
  |succ j=>simp at hv hk;exact h2 j v k' hv hk
def kQ(rows:Nat->Nat->Value)(row c:Nat)(vs:List Value):Nat->Nat->Value :=
 fun i j=>bif Nat.ble c j&&Nat.blt j (c+vs.length)then(if i=row then vs.getD (j-c) undef else rows i j)else rows i j
def tM:List A->(List Value->Prop)->Prop
 |[],K=>K []
 |x::r,K=>tM r fun r=>K (x.Af::r)
theorem qF:∀(l:List A) (K:List Value->Prop),tM l K=K (l.map A.Af)
 |[],_=>rfl
 |x::r,K=>by simp only[tM,qF r,List.map_cons]
def He(force:Bool)(ch:Chunk)(row esz c:Nat)(xs:List A)(K:Chunk->Prop):Prop :=
 match ch with
 |.obj ty cs=>bif Nat.beq esz 0&&Nat.ble (c+xs.length) cs.length then K (.obj ty (cs.take c++xs++cs.drop (c+xs.length)))else False
 |.arr ty ks n rows=>bif Nat.beq esz ks.length&&(Nat.ble (c+xs.length) ks.length&&lS (ks.drop c) xs)then need force (row<n) (tM xs fun vs=>K (.arr ty ks n (kQ rows row c vs)))else False
 |.abs _=>False
 |.cI _=>False
def S.put(s:S)(hp:aJ):S:=⟨s.nt,s.fr,hp,s.nx,s.kp,s.rt⟩
def qm:SV->Option (List A)
 |.a x=>some [x]
 |.agg xs=>some xs
 |.ng _=>none
 |.Cg _ _=>none
def Mm(X:Cx)(t:Nat)(x v:SV)(s:S)(K:KV):Prop :=
 match x,qm v with
 |.a (.ptr tg row esz c),some xs =>
  match X.ti t,s.hp.find tg with
  |some ti,some (true,ch)=>bif Nat.beq xs.length ti.sz&&sZ xs then He X.force ch row esz c xs fun ch'=>K (.a .any) (s.put (s.hp.vb tg ch'))else False
  |_,_=>False
 |_,_=>False
theorem FL{off i row esz j c len:Nat}(hj:j<esz)(hc:c+len<=esz):(off+row*esz+c<=off+i*esz+j/\off+i*esz+j<off+row*esz+c+len)↔(i=row/\c<=j/\j<c+len):=by
 constructor
 ·rintro⟨h1,h2⟩;rcases Nat.lt_trichotomy i row with h|h|h
  ·have:=Nat.mul_le_mul_right esz h;rw[Nat.succ_mul]at this;omega
  ·subst h;omega
  ·have:=Nat.mul_le_mul_right esz h;rw[Nat.succ_mul]at this;omega
 ·rintro⟨rfl,h1,h2⟩;omega
theorem rJ{v:SV}{xs:List A}(h:qm v=some xs){ρ:Env}{u:Value}(r:v.cz ρ u)(hs:sZ xs=true):cE ρ xs u.cells.toList:=by
 cases v with
 |a x =>
  simp[qm]at h;subst h;simp only[sZ,Bool.and_true]at hs;have:=A.SR hs r;cases u<;>first|exact⟨_,_,rfl,r,rfl⟩|(simp[Value.oneCell']at this;done)
 |agg ys=>simp[qm]at h;subst h;obtain⟨vs,rfl,hr⟩:=r;simpa[Value.cells]using hr
 |ng ys=>simp[qm]at h
 |Cg f ys=>simp[qm]at h
theorem SS{X:Cx}(hX:X.Ok){t:Nat}{x v:SV}{s:S}{K:KV}(h:Mm X t x v s K){w0:World}{M:Nat->Prop}{ρ:Env}{w:World}{p u:Value}(hp:x.cz ρ p)(hv:v.cz ρ u)(hh:aj w0 M ρ s.hp w) :
 ∃b o,p = .pointer (some ⟨b,o,none⟩)/\∃w' cR,(storeVar t ⟨b,o,none⟩ u).run X.P w = .ok () w'/\aj w0 M ρ cR w'/\K (.a .any) (s.put cR):=by
 unfold Mm at h;split at h
 ·rename_i tg row esz c xs hxs;obtain⟨_,rfl⟩:=hp;refine⟨_,_,rfl,?_⟩;split at h
  ·rename_i ti ch hti hfind;have ty:=hX.ty hti;have hent:=hh.iq _ (aJ.bu hfind);have he:=hent.ch;simp only at he;cases hb0:(Nat.beq xs.length ti.sz&&sZ xs)
   ·simp[hb0]at h
   simp only[hb0,cond_true]at h;simp only[Bool.and_eq_true]at hb0;obtain⟨hsz,hst⟩:=hb0;have hsz':=Nat.eq_of_beq_eq_true hsz;have hr:=rJ hxs hv hst;have hone:=FK hst hr;have hlen:=hr.length;have hsize:u.cells.size=ti.sz:=by rw[<- hsz',<- hlen];simp
   have run:∀w',(storeCells ⟨(ρ.pl tg).blk,(ρ.pl tg).off+row*esz+c,none⟩ u.cells.toList).run X.P w = .ok () w'->(storeVar t ⟨(ρ.pl tg).blk,(ρ.pl tg).off+row*esz+c,none⟩ u).run X.P w = .ok () w':=by
    intro w' hw;simp[storeVar,cu ty,hsize,hw]
   cases ch with
   |abs R=>exact h.elim
   |cI H=>exact h.elim
   |obj cty cs =>
    obtain⟨vs,fr,hb,hoff,⟨us,ys,hus,hrep⟩,hu,hfp⟩:=he;simp only[He]at h;cases h0:(Nat.beq esz 0&&Nat.ble (c+xs.length) cs.length)
    ·simp[h0]at h
    simp only[h0,cond_true]at h;simp only[Bool.and_eq_true]at h0;have h0':=Nat.eq_of_beq_eq_true h0.1;have hle:=Nat.le_of_ble_eq_true h0.2;subst h0';have hadd:(ρ.pl tg).off+row*0+c=c:=by omega
    rw[hadd]at run ⊢;have hl:=hrep.length;have hvl:vs.size=us.length+ys.length:=by rw[<- Array.length_toList,hus,List.length_append]
    have hcur0:c+u.cells.toList.length<=us.length:=by simp at hl hlen ⊢;omega
    have hcur:c+0+u.cells.toList.length<=vs.size:=by omega
    have hs:=eO (P:=X.P) (ρ.pl tg).blk c cty fr u.cells.toList 0 vs w hb (fun x _ h2=>hu x (by simp at hcur h2;omega)) hcur hone;refine⟨_,_,run _ hs,hh.vb hfind ((eZ.setRow w _ _).mono fun b _ hb=>(hfp b).2 hb) ?_,h⟩;refine⟨_,fr,setRow_heap w _ _ _ cty fr hb,hoff,⟨_,ys,?_,hrep.splice hr c⟩,hu.size ?_,hfp⟩
    ·rw[hus,List.take_append_of_le_length (by omega),List.drop_append_of_le_length (by omega)];simp
    ·simp at hcur ⊢;omega
   |arr cty ks n rows =>
    simp only[He]at h;cases h0:(Nat.beq esz ks.length&&(Nat.ble (c+xs.length) ks.length&&lS (ks.drop c) xs))
    ·simp[h0]at h
    simp only[h0,cond_true]at h;simp only[Bool.and_eq_true]at h0;obtain⟨h1,h2,h3⟩:=h0;have h1':=Nat.eq_of_beq_eq_true h1;have hle:=Nat.le_of_ble_eq_true h2;subst h1';obtain⟨hrow,h⟩:=kD h;rw[qF]at h;obtain⟨ev,hok⟩:=qE h3 hr;rcases he with⟨hn,_⟩ | ⟨vs,cty,fr,hb,hfit,hnN,hu,hfp,hrows⟩
    ·omega
    have hmul:row*ks.length+ks.length<=(ρ.pl tg).N*ks.length:=by
     have:=Nat.mul_le_mul_right ks.length (show row+1<=(ρ.pl tg).N by omega);rw[Nat.succ_mul]at this;exact this
    have hcur:(ρ.pl tg).off+row*ks.length+c+0+u.cells.toList.length<=vs.size:=by omega
    have hs:=eO (P:=X.P) (ρ.pl tg).blk ((ρ.pl tg).off+row*ks.length+c) cty fr u.cells.toList 0 vs w hb (fun x h1 h2=>hu x (by omega) (by omega)) hcur hone;refine⟨_,_,run _ hs,hh.vb hfind ((eZ.setRow w _ _).mono fun b _ hb=>(hfp b).2 hb) ?_,h⟩;have hsz2:(vs.toList.take ((ρ.pl tg).off+row*ks.length+c+0)++u.cells.toList++vs.toList.drop ((ρ.pl tg).off+row*ks.length+c+0+u.cells.toList.length)).toArray.size=vs.size:=by simp at hcur ⊢;omega
    refine .inr ⟨_,cty,fr,setRow_heap w _ _ _ cty fr hb,by rw[hsz2];exact hfit,hnN,hu,hfp,fun i hi j k hk=>?_⟩;have hj:j<ks.length:=(List.getElem?_eq_some_iff.1 hk).1;obtain⟨e1,e2⟩:=hrows i hi j k hk;rw[List.getElem?_toArray,gI _ _ _ (by simpa using hcur)];have hiff:=FL (off:=(ρ.pl tg).off) (i:=i) (row:=row) (c:=c) (len:=u.cells.toList.length) hj (by omega);have hxl:(xs.map A.Af).length=u.cells.toList.length:=by rw[<- ev]
    simp only[Nat.add_zero];by_cases hin:i=row/\c<=j/\j<c+u.cells.toList.length
    ·rw[if_pos (hiff.2 hin)];obtain⟨rfl,hc1,hc2⟩:=hin;have hv2:kQ rows i c (xs.map A.Af) i j=u.cells.toList.getD (j-c) undef:=by
      unfold kQ;rw[show(Nat.ble c j&&Nat.blt j (c+(xs.map A.Af).length))=true by rw[hxl];simp[Nat.blt];omega];simp[ev]
     rw[hv2];have hidx:(ρ.pl tg).off+i*ks.length+j-((ρ.pl tg).off+i*ks.length+c)=j-c:=by omega
     rw[hidx];have hlt:j-c<u.cells.toList.length:=by omega
     have hge:u.cells.toList[j-c]? = some (u.cells.toList.getD (j-c) undef):=by simp[List.getD,List.getElem?_eq_getElem hlt]
     exact⟨hge,hok (j-c) _ k hge (by rw[List.getElem?_drop];rwa[show c+(j-c)=j by omega])⟩
    ·rw[if_neg fun h=>hin (hiff.1 h)];have hv2:kQ rows row c (xs.map A.Af) i j=rows i j:=by
      unfold kQ;cases hb:(Nat.ble c j&&Nat.blt j (c+(xs.map A.Af).length))
      ·rfl
      ·rw[hxl]at hb;simp[Nat.blt]at hb;simp only[cond_true];rw[if_neg];intro hi';exact hin ⟨hi',hb.1,by have:=hb.2;simp at this ⊢;omega⟩
     rw[hv2];exact⟨by simpa using e1,e2⟩
  ·exact h.elim
 ·exact h.elim
end
section
def vr(n:Nat)(K:Nat->Prop):Prop:=Nat.rec (motive:=fun _=>Prop) (K 0) (fun m _=>K (m+1)) n
theorem Ag(n:Nat)(K:Nat->Prop):vr n K=K n:=by cases n<;>rfl
def CX(x:A)(K:A->Prop):Prop:=match x with
 |.any=>K .any
 |.lit k n=>K (.lit k n)
 |.int k n=>K (.int k n)
 |.tt=>K .tt
 |.ff=>K .ff
 |.bool b=>K (.bool b)
 |.str s=>K (.str s)
 |.nil=>K .nil
 |.ptr t r e c=>vr t fun t=>vr c fun c=>K (.ptr t r e c)
 |.cc=>K .cc
 |.slc t r e l c=>vr t fun t=>K (.slc t r e l c)
 |.sub t r e o l c=>vr t fun t=>K (.sub t r e o l c)
 |.fn f=>K (.fn f)
 |.val v=>K (.val v)
theorem Ah(x:A)(K:A->Prop):CX x K=K x:=by cases x<;>simp only[CX,Ag]
def yb:List A->(List A->Prop)->Prop
 |[],K=>K []
 |x::r,K=>CX x fun x=>yb r fun r=>K (x::r)
theorem wV:∀(l:List A) (K:List A->Prop),yb l K=K l
 |[],_=>rfl
 |x::r,K=>by simp only[yb,Ah,wV r]
def Hf(v:CV)(K:CV->Prop):Prop:=match v with
 |.a x=>CX x fun x=>K (.a x)
 |.agg xs=>yb xs fun xs=>K (.agg xs)
theorem Mn(v:CV)(K:CV->Prop):Hf v K=K v:=by cases v<;>simp only[Hf,Ah,wV]
def Ct:List CV->(List CV->Prop)->Prop
 |[],K=>K []
 |x::r,K=>Hf x fun x=>Ct r fun r=>K (x::r)
theorem CY:∀(l:List CV) (K:List CV->Prop),Ct l K=K l
 |[],_=>rfl
 |x::r,K=>by simp only[Ct,Mn,CY r]
def Hg(v:SV)(K:SV->Prop):Prop:=match v with
 |.a x=>CX x fun x=>K (.a x)
 |.agg xs=>yb xs fun xs=>K (.agg xs)
 |.ng xs=>Ct xs fun xs=>K (.ng xs)
 |.Cg f xs=>yb xs fun xs=>K (.Cg f xs)
theorem FM(v:SV)(K:SV->Prop):Hg v K=K v:=by cases v<;>simp only[Hg,Ah,wV,CY]
variable {P:Program}
def S.new(s:S)(ch:Chunk):S:=⟨s.nt,s.fr,⟨s.nx,true,ch⟩::s.hp,s.nx+1,s.kp,s.rt⟩
theorem BE(w:World)(t:TypeId)(v:Value):(newVar t v).run P w = .ok ⟨w.heap.size,0,none⟩ (w.alloc (.cells v.cells t)):=by
 simp[newVar,newRow]
theorem heap_alloc(w:World)(o:Obj):(w.alloc o).heap[w.heap.size]? = some o:=by
 show(w.heap.push o)[w.heap.size]? = _;simp
theorem aj.newObj{w0:World}{M:Nat->Prop}{ρ:Env}{w:World}{hp:aJ}(r:aj w0 M ρ hp w)(t:TypeId){cs:List A}{vs:Array Value}(h:cE ρ cs vs.toList) :
 ∃ρ':Env,ρ.le ρ'/\ρ'.n=ρ.n+1/\ρ'.pl ρ.n=⟨w.heap.size,0,0,fun b=>b=w.heap.size⟩/\aj w0 M ρ' (⟨ρ.n,true,.obj t cs⟩::hp) (w.alloc (.cells vs t)):=by
 refine⟨ρ.ext ⟨w.heap.size,0,0,fun b=>b=w.heap.size⟩,ρ.eE _,rfl,ρ.dH _,r.alloc _ _ (fun _=>Iff.rfl) (wT w _ _ _ (Nat.le_refl _)) ?_⟩;exact⟨vs,(0,0),heap_alloc w _,rfl,⟨vs.toList,[],by simp,h.mono (ρ.eE _)⟩,fun o _ ho=>by omega,fun _=>Iff.rfl⟩
theorem aj.W8{w0:World}{M:Nat->Prop}{ρ:Env}{w:World}{hp:aJ}(r:aj w0 M ρ hp w)(t:TypeId)(N:Nat){cs:List A}{vs:Array Value}(h:cE ρ cs vs.toList) :
 ∃ρ':Env,ρ.le ρ'/\ρ'.n=ρ.n+1/\ρ'.pl ρ.n=⟨w.heap.size,0,N,fun b=>b=w.heap.size⟩/\aj w0 M ρ' (⟨ρ.n,true,.obj t cs⟩::hp) (w.alloc (.cells vs t)):=by
 refine⟨ρ.ext ⟨w.heap.size,0,N,fun b=>b=w.heap.size⟩,ρ.eE _,rfl,ρ.dH _,r.alloc _ _ (fun _=>Iff.rfl) (wT w _ _ _ (Nat.le_refl _)) ?_⟩;exact⟨vs,(0,0),heap_alloc w _,rfl,⟨vs.toList,[],by simp,h.mono (ρ.eE _)⟩,fun o _ ho=>by omega,fun _=>Iff.rfl⟩
theorem aj.W9{w0:World}{M:Nat->Prop}{ρ:Env}{w:World}{hp:aJ}(r:aj w0 M ρ hp w)(t:TypeId)(N:Nat){cs:List A}{vs:Array Value}{us xs:List Value}(hvs:vs.toList=us++xs)(h:cE ρ cs us) :
 ∃ρ':Env,ρ.le ρ'/\ρ'.n=ρ.n+1/\ρ'.pl ρ.n=⟨w.heap.size,0,N,fun b=>b=w.heap.size⟩/\aj w0 M ρ' (⟨ρ.n,true,.obj t cs⟩::hp) (w.alloc (.cells vs t)):=by
 refine⟨ρ.ext ⟨w.heap.size,0,N,fun b=>b=w.heap.size⟩,ρ.eE _,rfl,ρ.dH _,r.alloc _ _ (fun _=>Iff.rfl) (wT w _ _ _ (Nat.le_refl _)) ?_⟩;exact⟨vs,(0,0),heap_alloc w _,rfl,⟨us,xs,hvs,h.mono (ρ.eE _)⟩,fun o _ ho=>by omega,fun _=>Iff.rfl⟩
theorem aj.CZ{w0:World}{M:Nat->Prop}{ρ:Env}{w:World}{hp:aJ}(r:aj w0 M ρ hp w)(t:TypeId){ks:List CK}{n N:Nat}{rows:Nat->Nat->Value}{vs:Array Value}(fr:Nat×Nat)(hu:vn vs.size fr)(hfr:fr.2<=fr.1)
 (hN:N*ks.length<=vs.size) (hn:n<=N) (h:∀i,i<n->∀(j:Nat) (k:CK),ks[j]? = some k->vs[i*ks.length+j]? = some (rows i j)/\k.ok (rows i j)) :
 ∃ρ':Env,ρ.le ρ'/\ρ'.n=ρ.n+1/\ρ'.pl ρ.n=⟨w.heap.size,0,N,fun b=>b=w.heap.size⟩/\aj w0 M ρ' (⟨ρ.n,true,.arr t ks n rows⟩::hp) (w.alloc (.cells vs t fr)):=by
 refine⟨ρ.ext ⟨w.heap.size,0,N,fun b=>b=w.heap.size⟩,ρ.eE _,rfl,ρ.dH _,r.alloc _ _ (fun _=>Iff.rfl) (wT w _ _ _ hfr) ?_⟩;refine .inr ⟨vs,t,fr,heap_alloc w _,by simpa using hN,hn,fun x _ h2=>hu x (by simp only at h2;omega),fun _=>Iff.rfl,fun i hi j k hk=>?_⟩;simpa using h i hi j k hk
def Mo(X:Cx)(t:Nat)(s:S)(K:KV):Prop :=
 match X.ti t with
 |some ti=>K (.a (.ptr s.nx 0 0 0)) (s.new (.obj t ti.zero))
 |none=>False
theorem SU{X:Cx}(hX:X.Ok){t:Nat}{s:S}{K:KV}(h:Mo X t s K){w0:World}{M:Nat->Prop}{ρ:Env}(hρ:ρ.n=s.nx){w:World}(hh:aj w0 M ρ s.hp w) :
 ∃u w' ρ',(Instr.alloc t true (.tuple #[])).run X.P w = .ok u w'/\ρ.le ρ'/\∃sv s',K sv s'/\s'.nt=s.nt/\s'.fr=s.fr/\ρ'.n=s'.nx/\sv.cz ρ' u/\aj w0 M ρ' s'.hp w':=by
 unfold Mo at h;split at h
 ·rename_i ti hti;have ty:=hX.ty hti;obtain⟨z,hz,_,hzero,hok,_⟩:=iw ty;obtain⟨ρ',h1,h2,h3,h4⟩:=hh.newObj t (cs:=ti.zero) (vs:=z.cells) (by rw[hzero];exact kn ρ hok);refine⟨.pointer (some ⟨w.heap.size,0,none⟩),w.alloc (.cells z.cells t),ρ',by simp[Instr.alloc,hz,BE],h1,_,_,h,rfl,rfl,?_,?_,?_⟩
  ·rw[h2,hρ];rfl
  ·refine⟨by rw[h2,hρ];omega,?_⟩;rw[<- hρ,h3]
  ·rw[hρ]at h4;exact h4
 ·exact h.elim
def Zd(t:Nat)(v:SV)(s:S)(K:KV):Prop :=
 match qm v with
 |some xs=>bif sZ xs then K (.a (.ptr s.nx 0 0 0)) (s.new (.obj t xs))else False
 |none=>False
theorem Ze{P:Program}{t:Nat}{v:SV}{s:S}{K:KV}(h:Zd t v s K){w0:World}{M:Nat->Prop}{ρ:Env}(hρ:ρ.n=s.nx){w:World}(hh:aj w0 M ρ s.hp w){x:Value}(hv:v.cz ρ x) :
 ∃u w' ρ',(Instr.box t x).run P w = .ok u w'/\ρ.le ρ'/\∃sv s',K sv s'/\s'.nt=s.nt/\s'.fr=s.fr/\ρ'.n=s'.nx/\sv.cz ρ' u/\aj w0 M ρ' s'.hp w':=by
 unfold Zd at h;split at h
 ·rename_i xs hxs;cases hst:sZ xs
  ·simp[hst]at h
  simp only[hst,cond_true]at h;have hr:=rJ hxs hv hst;obtain⟨ρ',h1,h2,h3,h4⟩:=hh.newObj t (vs:=x.cells) hr;refine⟨.pointer (some ⟨w.heap.size,0,none⟩),w.alloc (.cells x.cells t),ρ',by simp[Instr.box,BE],h1,_,_,h,rfl,rfl,?_,?_,?_⟩
  ·rw[h2,hρ];rfl
  ·refine⟨by rw[h2,hρ];omega,?_⟩;rw[<- hρ,h3]
  ·rw[hρ]at h4;exact h4
 ·exact h.elim
def lay:List A->List (Nat×Nat×SV)->Option (List A)
 |cs,[]=>some cs
 |cs,(off,sz,v)::r =>
  match qm v with
  |some xs=>bif Nat.beq xs.length sz&&(sZ xs&&Nat.ble (off+sz) cs.length)then lay (cs.take off++xs++cs.drop (off+xs.length)) r else none
  |none=>none
theorem FN(off:Nat):∀(us:List Value) (k:Nat) (cells:Array Value),off+k+us.length<=cells.size ->
 ((us.zipIdx k).foldl (fun cs (c,j)=>cs.setIfInBounds (off+j) c) cells).toList=cells.toList.take (off+k)++us++cells.toList.drop (off+k+us.length)
 |[],k,cells,_=>by simp
 |u::us,k,cells,h=>by
  simp only[List.zipIdx_cons,List.foldl_cons];rw[FN off us (k+1) _ (by simp at h ⊢;omega)];have e:=list_seg_step cells.toList (off+k) u us (by simp at h ⊢;omega);simpa[Array.toList_setIfInBounds,Nat.add_assoc]using e
theorem QB(place:Nat->Option (Nat×Nat))(cells:Array Value)(i:Nat)(v:Value)(r:List (Nat×Value))(off size:Nat)(hp:place i=some (off,size))(hs:v.cells.size=size)(hle:off+size<=cells.size) :
 Instr.fill place cells ((i,v)::r)=Instr.fill place (cells.toList.take off++v.cells.toList++cells.toList.drop (off+v.cells.toList.length)).toArray r:=by
 simp only[Instr.fill,hp];rw[if_neg (by simp[hs];omega)];congr 1;have:=FN off v.cells.toList 0 cells (by simp;omega);apply Array.toList_inj.1;simp only[Nat.add_zero]at this;rw[<- this,<- Array.foldl_toList];simp
theorem zi(place:Nat->Option (Nat×Nat)){ρ:Env}:∀(parts:List (Nat×Nat×SV)) (vals:List (Nat×Value)) (cs:List A) (cells:Array Value) (out:List A),
 cE ρ cs cells.toList->lay cs parts=some out->parts.length=vals.length ->
 (∀(i off sz:Nat) (sv:SV),parts[i]? = some (off,sz,sv)->∃k v,vals[i]? = some (k,v)/\place k=some (off,sz)/\sv.cz ρ v) ->
 ∃res,Instr.fill place cells vals=some res/\cE ρ out res.toList/\res.size=cells.size
 |[],[],cs,cells,out,h,ho,_,_=>by simp[lay]at ho;subst ho;exact⟨cells,rfl,h,rfl⟩
 |[],_::_,_,_,_,_,_,hl,_=>by simp at hl
 |_::_,[],_,_,_,_,_,hl,_=>by simp at hl
 |(off,sz,sv)::parts,(k,v)::vals,cs,cells,out,h,ho,hl,hp=>by
  obtain⟨k',v',e,hpl,hrep⟩:=hp 0 off sz sv rfl;simp at e;obtain⟨rfl,rfl⟩:=e;simp only[lay]at ho;split at ho
  ·rename_i xs hxs;cases hb:(Nat.beq xs.length sz&&(sZ xs&&Nat.ble (off+sz) cs.length))
   ·simp[hb]at ho
   simp only[hb,cond_true]at ho;simp only[Bool.and_eq_true]at hb;obtain⟨h1,h2,h3⟩:=hb;have h1':=Nat.eq_of_beq_eq_true h1;have h3':=Nat.le_of_ble_eq_true h3;have hr:=rJ hxs hrep h2;have hlen:=hr.length;have hcl:=h.length;have hsz:v.cells.size=sz:=by rw[<- h1',<- hlen];simp
   have hle:off+sz<=cells.size:=by simpa using(show off+sz<=cells.toList.length by omega)
   have step:=QB place cells k v vals off sz hpl hsz hle;have hs:=h.splice hr off;obtain⟨res,r1,r2,r3⟩:=zi place parts vals _ (cells.toList.take off++v.cells.toList++cells.toList.drop (off+v.cells.toList.length)).toArray out (by simpa using hs) ho (by simpa using hl)
    (fun i off sz sv hi=>by
     obtain⟨k,v,a,b,c⟩:=hp (i+1) off sz sv (by simpa using hi);exact⟨k,v,by simpa using a,b,c⟩)
   refine⟨res,by rw[step];exact r1,r2,?_⟩;rw[r3];simp;omega
  ·cases ho
end
section
variable {P:Program}
def partsOf(pl:Nat->Option (Nat×Nat))(s:S):List (Nat×Operand)->Option (List (Nat×Nat×SV))
 |[]=>some []
 |(i,x)::r =>
  match pl i,partsOf pl s r with
  |some (o,z),some l=>some ((o,z,s.ev x)::l)
  |_,_=>none
theorem tN(pl:Nat->Option (Nat×Nat))(s:S):∀ {ps:List (Nat×Operand)} {l:List (Nat×Nat×SV)},partsOf pl s ps=some l ->
 l.length=ps.length/\∀(i off sz:Nat) (sv:SV),l[i]? = some (off,sz,sv)->∃k x,ps[i]? = some (k,x)/\pl k=some (off,sz)/\sv=s.ev x
 |[],l,h=>by simp[partsOf]at h;subst h;exact⟨rfl,fun i off sz sv hi=>by simp at hi⟩
 |(k,x)::r,l,h=>by
  simp only[partsOf]at h;split at h
  ·rename_i o z l' hpl hr;simp only[Option.some.injEq]at h;subst h;obtain⟨h1,h2⟩:=tN pl s hr;refine⟨by simp[h1],fun i off sz sv hi=>?_⟩;cases i with
   |zero=>simp at hi;obtain⟨rfl,rfl,rfl⟩:=hi;exact⟨k,x,rfl,hpl,rfl⟩
   |succ i=>obtain⟨k',x',a,b⟩:=h2 i off sz sv (by simpa using hi);exact⟨k',x',by simpa using a,b⟩
  ·cases h
theorem xK{α β:Type}(f:α->Sem β)(g:α->β)(w:World):∀(l:List α),(∀x∈l,(f x).run P w = .ok (g x) w)->(l.mapM f).run P w = .ok (l.map g) w
 |[],_=>rfl
 |x::l,h=>by
  rw[List.mapM_cons];simp[h x (by simp),xK f g w l fun y hy=>h y (by simp[hy])]
theorem C0{α β:Type}(f:α->Sem β)(g:α->β)(w:World)(l:Array α)(h:∀x∈l.toList,(f x).run P w = .ok (g x) w):(l.mapM f).run P w = .ok (l.map g) w:=by
 rw[Array.mapM_eq_mapM_toList];simp only[Sem.run_map,xK f g w l.toList h,Result.andThen_ok];congr 1;apply Array.toList_inj.1;simp
theorem vt{t:TypeId}{fs:List (Nat×Nat)}(h:descOf P t = .struct fs):∃gs,P.underlying t=some (.struct gs)/\fs=gs.toList.map fun f=>(f.offset,P.cellsOf f.type):=by
 unfold descOf at h;split at h<;>first|(cases h;done)|skip
 rename_i gs hg;cases h;exact⟨gs,hg,rfl⟩
theorem Kw{t:TypeId}{n e:Nat}(h:descOf P t = .arr n e):P.underlying t=some (.array n e):=by
 unfold descOf at h;split at h<;>first|(cases h;done)|skip
 rename_i n' e' hg;cases h;exact hg
theorem cF{t:TypeId}{e:Nat}(h:descOf P t = .slc e):P.underlying t=some (.slice e):=by
 unfold descOf at h;split at h<;>first|(cases h;done)|skip
 rename_i e' hg;cases h;exact hg
theorem oO{t:TypeId}(h:descOf P t = .str):P.underlying t=some .string:=by
 unfold descOf at h;split at h<;>first|(cases h;done)|assumption
theorem qG{t:TypeId}{k:IntKind}(h:descOf P t = .int k):P.underlying t=some (.int k):=by
 unfold descOf at h;split at h<;>first|(cases h;done)|skip
 rename_i k' hg;cases h;exact hg
theorem wW{t:TypeId}(h:descOf P t = .bool):P.underlying t=some .bool:=by
 unfold descOf at h;split at h<;>first|(cases h;done)|assumption
theorem s8{t:TypeId}(h:descOf P t = .ptr):∃e,P.underlying t=some (.pointer e):=by
 unfold descOf at h;split at h<;>first|(cases h;done)|skip
 rename_i e' hg;exact⟨e',hg⟩
def Mp(X:Cx)(t:Nat)(parts:List (Nat×Operand))(s:S)(K:KV):Prop :=
 match X.ti t with
 |some ti =>
  match ti.d with
  |.struct fs =>
   match partsOf (fun i=>fs[i]?) s parts with
   |some ps=>match lay ti.zero ps with
    |some out=>K (.agg out) s
    |none=>False
   |none=>False
  |.arr _ e =>
   match X.ti e with
   |some te =>
    match partsOf (fun i=>some (i*te.sz,te.sz)) s parts with
    |some ps=>match lay ti.zero ps with
     |some out=>K (.agg out) s
     |none=>False
    |none=>False
   |none=>False
  |_=>False
 |none=>False
theorem SX{X:Cx}(hX:X.Ok){t:Nat}{parts:Array (Nat×Operand)}{s:S}{K:KV}(h:Mp X t parts.toList s K){ρ:Env}{a:Act}(hf:dK ρ s.fr a.tmps) :
 ∃u sv,(∀w:World,(Instr.build t (parts.map fun(i,x)=>(i,a.eval x))).run X.P w = .ok u w)/\sv.cz ρ u/\K sv s:=by
 unfold Mp at h;split at h
 ·rename_i ti hti;have ty:=hX.ty hti;obtain⟨z,hz,_,hzero,hok,_⟩:=iw ty;have hzr:cE ρ ti.zero z.cells.toList:=by rw[hzero];exact kn ρ hok
  have hmap:∀i:Nat,(parts.map fun((i,x):Nat×Operand)=>(i,a.eval x)).toList[i]? = (parts.toList[i]?).map fun((i,x):Nat×Operand)=>(i,a.eval x):=by intro i;simp
  split at h
  ·rename_i fs hd;split at h
   ·rename_i ps hps;split at h
    ·rename_i out hout;obtain⟨gs,hu,e⟩:=vt (ty.desc.trans hd);have hk:=ty.known;simp only[mR,hu,List.all_eq_true]at hk;have hm:=fun w=>C0 (P:=X.P) (fun f:Field=>do pure (f.offset,<- sizeOf f.type)) (fun f=>(f.offset,X.P.cellsOf f.type)) w gs (fun f hfm=>by
      have:=hk f hfm;obtain⟨i,hi⟩:=Option.isSome_iff_exists.1 this;simp[sizeOf,typeInfo,hi,Program.cellsOf])
     obtain⟨hl,hget⟩:=tN _ s hps;obtain⟨res,r1,r2,_⟩:=zi (fun i=>(gs.map fun f=>(f.offset,X.P.cellsOf f.type))[i]?) ps (parts.map fun((i,x):Nat×Operand)=>(i,a.eval x)).toList ti.zero z.cells out hzr hout (by simp[hl])
      (fun i off sz sv hi=>by
       obtain⟨k,x,h1,h2,rfl⟩:=hget i off sz sv hi;refine⟨k,a.eval x,by rw[hmap,h1];rfl,?_,hf.ev x⟩;rw[e]at h2;simpa using h2)
     refine⟨.agg res,.agg out,fun w=>?_,⟨res.toList,by simp,r2⟩,h⟩;unfold Instr.build;simp only[Sem.run_bind,hz,Result.andThen_ok,run_underlying hu,hm];rw[show Instr.fill _ _ _=some res from r1];rfl
    ·exact h.elim
   ·exact h.elim
  ·rename_i n e hd;split at h
   ·rename_i te hte;have tye:=hX.ty hte;split at h
    ·rename_i ps hps;split at h
     ·rename_i out hout;have hu:=Kw (ty.desc.trans hd);obtain⟨hl,hget⟩:=tN _ s hps;obtain⟨res,r1,r2,_⟩:=zi (fun i=>some (i*te.sz,te.sz)) ps (parts.map fun((i,x):Nat×Operand)=>(i,a.eval x)).toList ti.zero z.cells out hzr hout (by simp[hl])
       (fun i off sz sv hi=>by
        obtain⟨k,x,h1,h2,rfl⟩:=hget i off sz sv hi;exact⟨k,a.eval x,by rw[hmap,h1];rfl,h2,hf.ev x⟩)
      refine⟨.agg res,.agg out,fun w=>?_,⟨res.toList,by simp,r2⟩,h⟩;simp[Instr.build,hz,run_underlying hu,cu tye]at r1 ⊢;simp[r1]
     ·exact h.elim
    ·exact h.elim
   ·exact h.elim
  ·exact h.elim
 ·exact h.elim
def rep{α:Type}:Nat->List α->List α
 |0,_=>[]
 |n+1,l=>l++rep n l
theorem qH{α:Type}(n:Nat)(l:List α):(rep n l).length=n*l.length:=by
 induction n with
 |zero=>simp[rep]
 |succ n ih=>simp[rep,ih,Nat.succ_mul,Nat.add_comm]
theorem wX{α:Type}(l:List α):∀(n i:Nat),i<n*l.length->(rep n l)[i]? = l[i%l.length]?
 |0,i,h=>by simp at h
 |n+1,i,h=>by
  rw[rep];by_cases hi:i<l.length
  ·rw[List.getElem?_append_left hi,Nat.mod_eq_of_lt hi]
  ·rw[List.getElem?_append_right (by omega),wX l n (i-l.length) (by rw[Nat.succ_mul]at h;omega)];congr 1;exact(Nat.mod_eq_sub_mod (by omega)).symm
theorem cE.rep{ρ:Env}{xs:List A}{vs:List Value}(h:cE ρ xs vs):∀n,cE ρ (Sx.rep n xs) (Sx.rep n vs)
 |0=>rfl
 |n+1=>h.append (cE.rep h n)
theorem qI(z:Array Value)(n sz:Nat)(hs:z.size=sz):((Array.range (n*sz)).map (z[· % z.size]!)).toList=rep n z.toList:=by
 subst hs;apply List.ext_getElem?;intro i;by_cases hi:i<n*z.size
 ·rw[wX z.toList n i (by simpa using hi)];have hz:0<z.size:=by rcases Nat.eq_zero_or_pos z.size with h|h;(rw[h]at hi;simp at hi);exact h
  have hm:i%z.size<z.size:=Nat.mod_lt _ hz;simp[hi,getElem!_pos,hm]
 ·rw[List.getElem?_eq_none (by simpa using Nat.le_of_not_lt hi),List.getElem?_eq_none (by rw[qH];simpa using Nat.le_of_not_lt hi)]
def aF(esz:Nat)(l:List Value):Nat->Nat->Value:=fun i j=>l.getD (i*esz+j) undef
def vu(X:Cx)(t len:Nat)(parts:List (Nat×Operand))(s:S)(K:KV):Prop :=
 match X.ti t with
 |some ti =>
  match ti.d with
  |.slc e =>
   match X.ti e with
   |some te =>
    match partsOf (fun i=>some (i*te.sz,te.sz)) s parts with
    |some ps=>match lay (rep len te.zero) ps with
     |some out=>bif lS (rep len te.ks) out&&(Nat.ble (len*te.sz) 16777216&&Nat.ble len aq)then
      tM out (fun vs=>K (.a (.slc s.nx 0 te.sz len len)) (s.new (.arr e te.ks len (aF te.sz vs))))
      else bif Nat.ble (len*te.sz) 16777216&&Nat.ble len aq then K (.a (.slc s.nx 0 te.sz len len)) (s.new (.obj e out))else False
     |none=>False
    |none=>False
   |none=>False
  |_=>False
 |none=>False
theorem lK{t:Nat}{i:TI}(ty:CT P t i):i.ks.length=i.sz:=by
 obtain⟨j,_,_,_,z,_,h1,_,_,h2,_⟩:=ty.info;exact h2
theorem Zf(ks:List CK)(n i j:Nat)(k:CK)(hi:i<n)(hj:ks[j]? = some k):(rep n ks)[i*ks.length+j]? = some k:=by
 have hjl:j<ks.length:=(List.getElem?_eq_some_iff.1 hj).1;have hlt:i*ks.length+j<n*ks.length:=by
  have:=Nat.mul_le_mul_right ks.length hi;rw[Nat.succ_mul]at this;omega
 rw[wX ks n _ hlt,Nat.mul_comm,Nat.mul_add_mod,Nat.mod_eq_of_lt hjl,hj]
theorem Fm{X:Cx}(hX:X.Ok){t len:Nat}{parts:Array (Nat×Operand)}{s:S}{K:KV}(h:vu X t len parts.toList s K){w0:World}{M:Nat->Prop}{ρ:Env}(hρ:ρ.n=s.nx){a:Act}(hf:dK ρ s.fr a.tmps){w:World}
 (hh:aj w0 M ρ s.hp w) :
 ∃u w' ρ',(Instr.buildSlice t len (parts.map fun(i,x)=>(i,a.eval x))).run X.P w = .ok u w'/\ρ.le ρ'/\∃sv s',K sv s'/\s'.nt=s.nt/\s'.fr=s.fr/\ρ'.n=s'.nx/\sv.cz ρ' u/\aj w0 M ρ' s'.hp w':=by
 unfold vu at h;split at h
 ·rename_i ti hti;have ty:=hX.ty hti;split at h
  ·rename_i e hd;split at h
   ·rename_i te hte;have tye:=hX.ty hte;split at h
    ·rename_i ps hps;split at h
     ·rename_i out hout;have small:(Nat.ble (len*te.sz) 16777216&&Nat.ble len aq)=true:=by
       cases hs:(Nat.ble (len*te.sz) 16777216&&Nat.ble len aq)
       ·simp[hs]at h
       ·rfl
      simp only[small,Bool.and_true,cond_true]at h;simp only[Bool.and_eq_true]at small;obtain⟨hb2,hb3⟩:=small;have hsz:=Nat.le_of_ble_eq_true hb2;have hlm:=Nat.le_of_ble_eq_true hb3;have hu:=cF (ty.desc.trans hd);obtain⟨z,hz,hzl,hzero,hok,_⟩:=iw tye;have hzr:cE ρ te.zero z.cells.toList:=by rw[hzero];exact kn ρ hok
      obtain⟨hl,hget⟩:=tN _ s hps;have hmap:∀i:Nat,(parts.map fun((i,x):Nat×Operand)=>(i,a.eval x)).toList[i]? = (parts.toList[i]?).map fun((i,x):Nat×Operand)=>(i,a.eval x):=by intro i;simp
      have hcells:∃c0:Array Value,(len*te.sz=0->c0 = #[])/\(¬len*te.sz=0->c0=z.cells)/\((Array.range (len*te.sz)).map (c0[· % c0.size]!)).toList=rep len z.cells.toList:=by
       by_cases h0:len*te.sz=0
       ·refine⟨#[],fun _=>rfl,fun h=>absurd h0 h,?_⟩;have:(rep len z.cells.toList).length=0:=by rw[qH,hzl,h0]
        rw[List.eq_nil_of_length_eq_zero this,h0];simp
       ·refine⟨z.cells,fun h=>absurd h h0,fun _=>rfl,qI _ _ _ (by simpa using hzl)⟩
      obtain⟨c0,hc0,hc0',hc1⟩:=hcells;obtain⟨res,r1,r2,_⟩:=zi (fun i=>some (i*te.sz,te.sz)) ps (parts.map fun((i,x):Nat×Operand)=>(i,a.eval x)).toList (rep len te.zero) ((Array.range (len*te.sz)).map (c0[· % c0.size]!)) out (by rw[hc1];exact hzr.rep len) hout (by simp[hl])
       (fun i off sz sv hi=>by
        obtain⟨k,x,h1,h2,rfl⟩:=hget i off sz sv hi;exact⟨k,a.eval x,by rw[hmap,h1];rfl,h2,hf.ev x⟩)
      have hks:=lK tye;have hrl:res.size=len*te.sz:=by
       have h1:=r2.length;have:res.size=(Array.map (fun x=>c0[x%c0.size]!) (Array.range (len*te.sz))).size:=by
        obtain⟨res',q1,q2,q3⟩:=zi (fun i=>some (i*te.sz,te.sz)) ps (parts.map fun((i,x):Nat×Operand)=>(i,a.eval x)).toList (rep len te.zero) ((Array.range (len*te.sz)).map (c0[· % c0.size]!)) out (by rw[hc1];exact hzr.rep len) hout (by simp[hl])
         (fun i off sz sv hi=>by
          obtain⟨k,x,h1,h2,rfl⟩:=hget i off sz sv hi;exact⟨k,a.eval x,by rw[hmap,h1];rfl,h2,hf.ev x⟩)
        rw[r1]at q1;cases q1;exact q3
       simpa using this
      have hrun:(Instr.buildSlice t len (parts.map fun(i,x)=>(i,a.eval x))).run X.P w = .ok (.slice (some ⟨w.heap.size,0,none⟩) len len) (w.alloc (.cells res e)):=by
       unfold Instr.buildSlice;simp only[Sem.run_bind,run_underlying hu,Result.andThen_ok,cu tye];rw[if_neg (by omega)];by_cases h0:len*te.sz=0
       ·rw[if_pos h0];have e0:=hc0 h0;simp only[Sem.run_bind,Sem.run_pure,Result.andThen_ok,<- e0];rw[show Instr.fill _ _ _=some res from r1];rfl
       ·rw[if_neg h0];have e0:=hc0' h0;simp only[Sem.run_bind,Sem.run_pure,Result.andThen_ok,hz,<- e0];rw[show Instr.fill _ _ _=some res from r1];rfl
      cases hfit:lS (rep len te.ks) out
      ·simp only[hfit,cond_false]at h;obtain⟨ρ',p1,p2,p3,p4⟩:=hh.W8 e len r2;refine⟨.slice (some ⟨w.heap.size,0,none⟩) len len,w.alloc (.cells res e),ρ',hrun,p1,_,_,h,rfl,rfl,?_,?_,?_⟩
       ·rw[p2,hρ];rfl
       ·refine⟨by rw[p2,hρ];omega,Nat.le_refl _,hlm,.inr ⟨⟨w.heap.size,0,none⟩,rfl,fun _=>?_⟩⟩;rw[<- hρ,p3];simp
       ·rw[hρ]at p4;exact p4
      simp only[hfit,cond_true,qF]at h;obtain⟨ev,hck⟩:=qE hfit r2;obtain⟨ρ',p1,p2,p3,p4⟩:=hh.CZ e (ks:=te.ks) (n:=len) (N:=len) (rows:=aF te.sz (out.map A.Af)) (vs:=res) (0,0) (fun o _ ho=>by omega) (Nat.le_refl _) (by rw[hks,hrl];exact Nat.le_refl _) (Nat.le_refl _)
       (fun i hi j k hk=>by
        have hjl:j<te.ks.length:=(List.getElem?_eq_some_iff.1 hk).1;have hlt:i*te.ks.length+j<res.toList.length:=by
         have:=Nat.mul_le_mul_right te.ks.length hi;rw[Nat.succ_mul]at this;simp only[Array.length_toList,hrl];rw[hks]at this hjl ⊢;omega
        have hge:res.toList[i*te.ks.length+j]? = some (aF te.sz (out.map A.Af) i j):=by
         unfold aF;rw[<- hks,<- ev];simp[List.getD,List.getElem?_eq_getElem hlt]
        exact⟨by simpa using hge,hck _ _ k hge (Zf te.ks len i j k hi hk)⟩)
      refine⟨.slice (some ⟨w.heap.size,0,none⟩) len len,w.alloc (.cells res e),ρ',hrun,p1,_,_,h,rfl,rfl,?_,?_,?_⟩
      ·rw[p2,hρ];rfl
      ·refine⟨by rw[p2,hρ];omega,Nat.le_refl _,hlm,.inr ⟨⟨w.heap.size,0,none⟩,rfl,fun _=>?_⟩⟩;rw[<- hρ,p3];simp
      ·rw[hρ]at p4;exact p4
     ·exact h.elim
    ·exact h.elim
   ·exact h.elim
  ·exact h.elim
 ·exact h.elim
end
section
abbrev PH:=Nat->Option (Nat×List Value)
def pv(b o:Nat):Value:=.pointer (some ⟨b,o,none⟩)
def fC(b o l c:Nat):Value:=.slice (some ⟨b,o,none⟩) l c
def aO(H:PH)(b lo:Nat)(cs:List Value):PH:=fun x=>bif Nat.beq x b then some (lo,cs)else H x
def tO(H:PH)(b:Nat):PH:=fun x=>bif Nat.beq x b then none else H x
@[simp] theorem dP(H:PH)(b lo:Nat)(cs:List Value):aO H b lo cs b=some (lo,cs):=by simp[aO]
theorem cN{H:PH}{b x lo:Nat}{cs:List Value}(h:x≠b):aO H b lo cs x=H x:=by simp[aO,fh h]
@[simp] theorem BF(H:PH)(b:Nat):tO H b b=none:=by simp[tO]
theorem Ai{H:PH}{b x:Nat}(h:x≠b):tO H b x=H x:=by simp[tO,fh h]
def di:Value->Nat
 |.slice _ l _=>l
 |_=>0
def jX:Value->Nat
 |.slice _ _ c=>c
 |_=>0
def Hh(v:Value):Prop:=v = .slice none 0 0\/∃b o l c,v=fC b o l c/\l<=c/\c<=aq
def nW(sz:Nat)(v:Value)(l h m:Nat):Value :=
 match v with
 |.slice (some ⟨b,o,p⟩) _ _=>.slice (some ⟨b,bif Nat.beq m l then o else o+l*sz,p⟩) (h-l) (m-l)
 |_=>.slice none 0 0
def aM(H:PH)(v:Value):PH :=
 match v with
 |.slice (some ⟨b,_,_⟩) _ _=>tO H b
 |_=>H
@[simp] theorem QC(b o l c:Nat):di (fC b o l c)=l:=rfl
@[simp] theorem aah(b o l c:Nat):jX (fC b o l c)=c:=rfl
@[simp] theorem YR(H:PH)(b o l c:Nat):aM H (fC b o l c)=tO H b:=rfl
@[simp] theorem aai:di (.slice none 0 0)=0:=rfl
@[simp] theorem aaj:jX (.slice none 0 0)=0:=rfl
@[simp] theorem YS(H:PH):aM H (.slice none 0 0)=H:=rfl
@[simp] theorem aak(sz l h m:Nat):nW sz (.slice none 0 0) l h m = .slice none 0 0:=rfl
theorem Aj(sz b o L C l h m:Nat):nW sz (fC b o L C) l h m=fC b (if m=l then o else o+l*sz) (h-l) (m-l):=by
 by_cases e:m=l
 ·subst e;simp[nW,fC]
 ·have:Nat.beq m l=false:=by
   rw[Bool.eq_false_iff];intro hh;exact e (Nat.eq_of_beq_eq_true hh)
  simp[nW,fC,e,this]
theorem Mq(sz b o L C h m:Nat):nW sz (fC b o L C) 0 h m=fC b o h m:=by
 rw[Aj];simp
def pE(s:S)(K:Nat->Bool->PH->Prop):Prop :=
 match tI s.hp with
 |some tp=>match s.hp.find tp with
  |some (wr,.cI H)=>K tp wr H
  |_=>False
 |none=>False
theorem qv{s:S}{K:Nat->Bool->PH->Prop}(h:pE s K):∃tp wr H,K tp wr H/\s.hp.find tp=some (wr,.cI H):=by
 unfold pE at h;split at h
 ·rename_i tp htp;split at h
  ·rename_i wr H hf;exact⟨tp,wr,H,h,hf⟩
  ·exact h.elim
 ·exact h.elim
def Hi:List CK->List Value->Nat->Prop
 |[],_,_=>True
 |k::r,cs,o=>(∃v,cs[o]? = some v/\k.ok v)/\Hi r cs (o+1)
theorem C1:∀ {ks:List CK} {cs:List Value} {o:Nat},Hi ks cs o->∀ {j:Nat} {k:CK},ks[j]? = some k->cs[o+j]? = some (cs.getD (o+j) undef)/\k.ok (cs.getD (o+j) undef)
 |[],_,_,_,j,k,h=>by simp at h
 |k'::r,cs,o,⟨⟨v,h1,h2⟩,h3⟩,j,k,h=>by
  cases j with
  |zero=>simp at h;subst h;simp[List.getD,h1,h2]
  |succ j =>
   have:=C1 h3 (j:=j) (k:=k) (by simpa using h);rwa[show o+1+j=o+(j+1)from by omega]at this
structure BG(cs:List Value)(o:Nat)(ks:List CK)(n:Nat)(rows:Nat->Nat->Value):Prop where
 at_:∀i,i<n->∀(j:Nat) (k:CK),ks[j]? = some k->cs[o+i*ks.length+j]? = some (rows i j)/\k.ok (rows i j)
def kR(H:PH)(v:Value)(ks:List CK)(l c:Nat)(rows:Nat->Nat->Value):Prop :=
 (v = .slice none 0 0/\l=0/\c=0)\/∃b lo o cs,v=fC b (lo+o) l c/\(l<=c/\c<=aq)/\H b=some (lo,cs)/\o+c*ks.length<=cs.length/\BG cs o ks l rows
theorem C2{P:Program}{ks:List CK}{w:World}{p:Place}{H:PH}{ρ:Env}(hc:(Chunk.cI H).Sat ρ p w){b lo o:Nat}{cs:List Value}(hH:H b=some (lo,cs)){n:Nat}{rows:Nat->Nat->Value}(hr:BG cs o ks n rows)(hfit:o+n*ks.length<=cs.length){k:Nat}(hk:k<=n) :
 ∃cells:Array Value,(∀w':World,w'.heap=w.heap->(loadCells ⟨b,lo+o,none⟩ (k*ks.length)).run P w' = .ok cells w')/\cells.size=k*ks.length /\
  ∀i,i<k->∀(j:Nat) (c:CK),ks[j]? = some c->cells[i*ks.length+j]? = some (rows i j)/\c.ok (rows i j):=by
 obtain⟨_,vs,ty,fr,hb,hvl,hvs,_⟩:=hc b lo cs hH;have hkm:=Nat.mul_le_mul_right ks.length hk;have hld:=fun(w':World) (hw:w'.heap=w.heap)=>run_loadCells (P:=P) w' ⟨b,lo+o,none⟩ (k*ks.length) (fun i=>vs.getD (lo+o+i) undef) (fun j hj=>by
  rw[Addr.add_plain,cell_of (by rw[hw];exact hb)];have:lo+o+j<vs.size:=by omega
  simp[Array.getD,this])
 refine⟨_,hld,by simp,fun i hi j c hc=>?_⟩;obtain⟨a,b⟩:=hr.at_ i (by omega) j c hc;refine⟨?_,b⟩;have hjl:j<ks.length:=(List.getElem?_eq_some_iff.1 hc).1;have hlt:i*ks.length+j<k*ks.length:=by
  have:=Nat.mul_le_mul_right ks.length hi;rw[Nat.succ_mul]at this;omega
 rw[List.getElem?_toArray,List.getElem?_map,List.getElem?_range hlt];have e3:=hvs (o+(i*ks.length+j)) (by omega);rw[<- Nat.add_assoc o,a]at e3;have e4:lo+(o+i*ks.length+j)=lo+o+(i*ks.length+j):=by omega
 rw[e4]at e3;simp[Array.getD_eq_getD_getElem?,e3]
end
section
variable {P:Program}
def Xa:CK->CK->Bool
 |.int j,.int k=>pq j k
 |.bool,.bool=>true
 |.str,.str=>true
 |.other,.other=>true
 |.deep,.deep=>true
 |_,_=>false
def nh:List CK->List CK->Bool
 |[],[]=>true
 |a::r,b::t=>Xa a b&&nh r t
 |_,_=>false
theorem Pd{a b:CK}(h:Xa a b=true):a=b:=by
 cases a<;>cases b<;>simp only[Xa]at h<;>first|(cases h;done)|rfl|(rw[mw h])
theorem oP:∀ {a b:List CK},nh a b=true->a=b
 |[],[],_=>rfl
 |a::r,b::t,h=>by
  simp only[nh,Bool.and_eq_true]at h;rw[Pd h.1,oP h.2]
 |[],_::_,h=>by simp[nh]at h
 |_::_,[],h=>by simp[nh]at h
def oc(b:ByteArray):Nat->Nat->Value:=fun i _=>.int .u8 ((b.data.getD i 0).toNat:Int)
def rK(k:CK):List CK->Bool
 |[]=>true
 |j::r=>Xa j k&&rK k r
theorem C3{k:CK}:∀ {l:List CK},rK k l=true->∀ {i:Nat},i<l.length->l[i]? = some k
 |[],_,i,h=>by simp at h
 |j::r,h,i,hi=>by
  simp only[rK,Bool.and_eq_true]at h;have:=Pd h.1;subst this;cases i with
  |zero=>rfl
  |succ i=>simpa using C3 h.2 (i:=i) (by simpa using hi)
def lM(cs:List A)(m:Nat):Nat->Nat->Value:=fun i j=>(cs.getD (i*m+j) .any).Af
def Kx(ks:List CK):Nat->List A->Bool
 |0,_=>true
 |n+1,cs=>Nat.ble ks.length cs.length&&(lS ks (cs.take ks.length)&&Kx ks n (cs.drop ks.length))
theorem Pe{ks:List CK}{ρ:Env}:∀ {n:Nat} {cs:List A} {us:List Value},Kx ks n cs=true->cE ρ cs us->n*ks.length<=cs.length/\∀i,i<n->∀(j:Nat) (k:CK),ks[j]? = some k->us[i*ks.length+j]? = some (lM cs ks.length i j)/\k.ok (lM cs ks.length i j)
 |0,cs,us,_,_=>⟨by omega,fun i hi=>absurd hi (Nat.not_lt_zero i)⟩
 |n+1,cs,us,h,r=>by
  simp only[Kx,Bool.and_eq_true]at h;obtain⟨h0,h1,h2⟩:=h;have hle:=Nat.le_of_ble_eq_true h0;obtain⟨g1,g2⟩:=Pe h2 (r.drop ks.length);obtain⟨e1,e2⟩:=qE h1 (r.take ks.length);have hl:=r.length;refine⟨by rw[List.length_drop]at g1;rw[Nat.succ_mul];omega,fun i hi j k hk=>?_⟩;have hjl:j<ks.length:=(List.getElem?_eq_some_iff.1 hk).1;cases i with
  |zero =>
   have hju:j<us.length:=by omega
   have hjc:j<cs.length:=by omega
   have ev:us[j]? = some ((cs.getD j .any).Af):=by
    have:(us.take ks.length)[j]? = ((cs.take ks.length).map A.Af)[j]?:=by rw[e1]
    rw[List.getElem?_take,if_pos hjl,List.getElem?_map,List.getElem?_take,if_pos hjl,List.getElem?_eq_getElem hjc]at this;rw[this];simp[List.getD,List.getElem?_eq_getElem hjc]
   refine⟨by simpa[lM]using ev,?_⟩;have:=e2 j _ k (by rw[List.getElem?_take,if_pos hjl];exact ev) hk;simpa[lM]using this
  |succ i =>
   obtain⟨a,b⟩:=g2 i (by omega) j k hk;have e:(i+1)*ks.length+j=ks.length+(i*ks.length+j):=by rw[Nat.succ_mul];omega
   have er:lM cs ks.length (i+1) j=lM (cs.drop ks.length) ks.length i j:=by
    simp only[lM,e,List.getD_eq_getElem?_getD,List.getElem?_drop]
   rw[er,e];refine⟨?_,b⟩;rw[<- a,List.getElem?_drop]
theorem FO{ks:List CK}{w:World}{p:Place}{ty:TypeId}{cs:List A}{ρ:Env}(hc:(Chunk.obj ty cs).Sat ρ p w){q n:Nat}(hf:Kx ks n (cs.drop q)=true){k:Nat}(hk:k<=n) :
 ∃cells:Array Value,(∀w':World,w'.heap=w.heap->(loadCells ⟨p.blk,q,none⟩ (k*ks.length)).run P w' = .ok cells w')/\cells.size=k*ks.length /\
  ∀i,i<k->∀(j:Nat) (c:CK),ks[j]? = some c->cells[i*ks.length+j]? = some (lM (cs.drop q) ks.length i j)/\c.ok (lM (cs.drop q) ks.length i j):=by
 obtain⟨vs,fr,hb,hoff,⟨us,xs,hus,hrep⟩,hu,hfp⟩:=hc;obtain⟨g1,g2⟩:=Pe hf (hrep.drop q);have hl:=hrep.length;have hvl:vs.size=us.length+xs.length:=by rw[<- Array.length_toList,hus,List.length_append]
 have hkm:=Nat.mul_le_mul_right ks.length hk;rw[List.length_drop]at g1;have hld:=fun(w':World) (hw:w'.heap=w.heap)=>run_loadCells (P:=P) w' ⟨p.blk,q,none⟩ (k*ks.length) (fun i=>vs.getD (q+i) undef) (fun j hj=>by
  rw[Addr.add_plain,cell_of (by rw[hw];exact hb)];have:q+j<vs.size:=by omega
  simp[Array.getD,this])
 refine⟨_,hld,by simp,fun i hi j c hc=>?_⟩;obtain⟨a,b⟩:=g2 i (by omega) j c hc;refine⟨?_,b⟩;have hjl:j<ks.length:=(List.getElem?_eq_some_iff.1 hc).1;have hlt:i*ks.length+j<k*ks.length:=by
  have:=Nat.mul_le_mul_right ks.length hi;rw[Nat.succ_mul]at this;omega
 rw[List.getElem?_toArray,List.getElem?_map,List.getElem?_range hlt];have hin:q+(i*ks.length+j)<us.length:=by omega
 have e3:vs[q+(i*ks.length+j)]? = us[q+(i*ks.length+j)]?:=by rw[<- Array.getElem?_toList,hus,List.getElem?_append_left hin]
 rw[List.getElem?_drop]at a;simp[Array.getD_eq_getD_getElem?,e3,a]
def FP(force:Bool)(s:S)(ks:List CK)(v:SV)(K:Nat->(Nat->Nat->Value)->Prop):Prop :=
 match v with
 |.a .cc=>K 0 fun _ _=>undef
 |.a (.slc tg r e len _) =>
  match s.hp.find tg with
  |some (_,.arr _ ks' n rows)=>bif Nat.beq e ks'.length&&nh ks' ks then need force (r+len<=n) (K len fun i j=>rows (r+i) j)else False
  |some (_,.obj _ cs)=>bif Nat.beq e ks.length&&Kx ks len (cs.drop (r*e))then K len (lM (cs.drop (r*e)) ks.length)else False
  |_=>False
 |.a (.str b)=>bif nh ks [.int .u8]then K b.size (oc b)else False
 |.a (.sub tg r e c len _) =>
  match s.hp.find tg,ks with
  |some (_,.arr _ ks' n rows),[k]=>bif Nat.beq e ks'.length&&(Nat.ble (c+len) ks'.length&&rK k ((ks'.drop c).take len))then need force (r<n) (K len fun i _=>rows r (c+i))else False
  |some (_,.obj _ cs),[k]=>bif Kx [k] len (cs.drop (r*e+c))then K len (lM (cs.drop (r*e+c)) 1)else False
  |_,_=>False
 |.a (.val v)=>pE s fun _ _ H=>∃l c rows,kR H v ks l c rows/\K l rows
 |_=>False
structure YT(P:Program)(ks:List CK)(w:World)(v:Value)(n:Nat)(rows:Nat->Nat->Value)(cells:Array Value):Prop where
 len:(Builtin.lenOf v).run P w = .ok n w
 run:∀w':World,w'.heap=w.heap->(Builtin.firstCells ks.length n v).run P w' = .ok cells w'
 pre:∀k,k<=n->∃cs:Array Value,(∀w':World,w'.heap=w.heap->(Builtin.firstCells ks.length k v).run P w' = .ok cs w')/\cs.size=k*ks.length/\∀i,i<k->∀(j:Nat) (c:CK),ks[j]? = some c->cs[i*ks.length+j]? = some (rows i j)/\c.ok (rows i j)
 size:cells.size=n*ks.length
 row:∀i,i<n->∀(j:Nat) (k:CK),ks[j]? = some k->cells[i*ks.length+j]? = some (rows i j)/\k.ok (rows i j)
 kind:(∃o l c,v = .slice o l c)\/∃s,v = .string s
theorem Ak{ks:List CK}{w:World}{p:Place}{ty:TypeId}{n:Nat}{rows:Nat->Nat->Value}{ρ:Env}(hc:(Chunk.arr ty ks n rows).Sat ρ p w){r len:Nat}(hr:r+len<=n)(hl:len≠0) :
 ∃cells:Array Value,(∀w':World,w'.heap=w.heap->(loadCells ⟨p.blk,p.off+r*ks.length,none⟩ (len*ks.length)).run P w' = .ok cells w')/\cells.size=len*ks.length /\
  ∀i,i<len->∀(j:Nat) (k:CK),ks[j]? = some k->cells[i*ks.length+j]? = some (rows (r+i) j)/\k.ok (rows (r+i) j):=by
 rcases hc with⟨hn,_⟩ | ⟨vs,ty',fr,hb,hfit,hnN,hu,hfp,hrows⟩
 ·omega
 have hsz:p.off+(r+len)*ks.length<=vs.size:=by
  have:=Nat.mul_le_mul_right ks.length (show r+len<=p.N by omega);omega
 rw[Nat.add_mul]at hsz;have hld:=fun(w':World) (hw:w'.heap=w.heap)=>run_loadCells (P:=P) w' ⟨p.blk,p.off+r*ks.length,none⟩ (len*ks.length) (fun i=>vs.getD (p.off+r*ks.length+i) undef) (fun j hj=>by
  rw[Addr.add_plain,cell_of (by rw[hw];exact hb)];have:p.off+r*ks.length+j<vs.size:=by omega
  simp[Array.getD,this])
 refine⟨_,hld,by simp,fun i hi j k hk=>?_⟩;have hjl:j<ks.length:=(List.getElem?_eq_some_iff.1 hk).1;obtain⟨e1,e2⟩:=hrows (r+i) (by omega) j k hk;have hlt:i*ks.length+j<len*ks.length:=by
  have:=Nat.mul_le_mul_right ks.length hi;rw[Nat.succ_mul]at this;omega
 refine⟨?_,e2⟩;rw[List.getElem?_toArray,List.getElem?_map,List.getElem?_range hlt];rw[Nat.add_mul]at e1;have e3:vs[p.off+r*ks.length+(i*ks.length+j)]? = some (rows (r+i) j):=by rw[<- e1];congr 1;omega
 simp[Array.getD_eq_getD_getElem?,e3]
theorem QD{ks:List CK}{k:CK}{w:World}{p:Place}{ty:TypeId}{n:Nat}{rows:Nat->Nat->Value}{ρ:Env}(hc:(Chunk.arr ty ks n rows).Sat ρ p w){r c len:Nat}(hr:r<n)(hcl:c+len<=ks.length)(hk:rK k ((ks.drop c).take len)=true) :
 ∃cells:Array Value,(∀w':World,w'.heap=w.heap->(loadCells ⟨p.blk,p.off+r*ks.length+c,none⟩ len).run P w' = .ok cells w')/\cells.size=len/\∀i,i<len->cells[i]? = some (rows r (c+i))/\k.ok (rows r (c+i)):=by
 rcases hc with⟨hn,_⟩ | ⟨vs,ty',fr,hb,hfit,hnN,hu,hfp,hrows⟩
 ·omega
 have hat:∀i,i<len->vs[p.off+r*ks.length+c+i]? = some (rows r (c+i))/\k.ok (rows r (c+i)):=by
  intro i hi;have hki:ks[c+i]? = some k:=by
   have:=C3 hk (i:=i) (by simp;omega);rw[List.getElem?_take,if_pos hi,List.getElem?_drop]at this;exact this
  have:=hrows r hr (c+i) k hki;rwa[<- Nat.add_assoc]at this
 have hld:=fun(w':World) (hw:w'.heap=w.heap)=>run_loadCells (P:=P) w' ⟨p.blk,p.off+r*ks.length+c,none⟩ len (fun i=>rows r (c+i)) (fun j hj=>by
  rw[Addr.add_plain,cell_of (by rw[hw];exact hb)];exact(hat j hj).1)
 refine⟨_,hld,by simp,fun i hi=>⟨?_,(hat i hi).2⟩⟩;rw[List.getElem?_toArray,List.getElem?_map,List.getElem?_range hi];rfl
theorem Hj{force:Bool}{s:S}{ks:List CK}{v:SV}{K:Nat->(Nat->Nat->Value)->Prop}(h:FP force s ks v K){w0:World}{M:Nat->Prop}{ρ:Env}{w:World}(hh:aj w0 M ρ s.hp w){u:Value}(hu:v.cz ρ u) :
 ∃n rows cells,K n rows/\YT P ks w u n rows cells:=by
 have fin:∀(n:Nat) (rows:Nat->Nat->Value) (v:Value),K n rows->(Builtin.lenOf v).run P w = .ok n w->((∃o l c,v = .slice o l c)\/∃s,v = .string s) ->
  (∀k,k<=n->∃cs:Array Value,(∀w':World,w'.heap=w.heap->(Builtin.firstCells ks.length k v).run P w' = .ok cs w')/\cs.size=k*ks.length/\∀i,i<k->∀(j:Nat) (c:CK),ks[j]? = some c->cs[i*ks.length+j]? = some (rows i j)/\c.ok (rows i j)) ->
  ∃n rows cells,K n rows/\YT P ks w v n rows cells:=by
  intro n rows v hK hl hkind hpre;obtain⟨cells,c1,c2,c3⟩:=hpre n (Nat.le_refl _);exact⟨n,rows,cells,hK,hl,c1,hpre,c2,c3,hkind⟩
 unfold FP at h;split at h
 ·have hu':u = .slice none 0 0:=hu;subst hu';refine fin 0 _ _ h rfl (.inl ⟨_,_,_,rfl⟩) fun k hk=>?_;have:k=0:=by omega
  subst this;exact⟨#[],fun _ _=>rfl,by simp,fun i hi=>absurd hi (Nat.not_lt_zero i)⟩
 ·rename_i tg r e len cap;split at h
  ·rename_i m ty ks' n rows hfind;cases hb:(Nat.beq e ks'.length&&nh ks' ks)
   ·simp[hb]at h
   simp only[hb,cond_true]at h;simp only[Bool.and_eq_true]at hb;have he:=Nat.eq_of_beq_eq_true hb.1;have hk:=oP hb.2;subst he;subst hk;obtain⟨hr,h⟩:=kD h;have hc:=(hh.iq _ (aJ.bu hfind)).ch;simp only at hc;obtain⟨_,hlc,_,hv⟩:=hu;have hlen:(Builtin.lenOf u).run P w = .ok len w:=by
    rcases hv with⟨rfl,_,rfl⟩ | ⟨o,rfl,_⟩<;>rfl
   have hkind:(∃o l c,u = .slice o l c)\/∃s,u = .string s:=by
    rcases hv with⟨_,_,rfl⟩ | ⟨o,rfl,_⟩<;>exact .inl ⟨_,_,_,rfl⟩
   refine fin len _ _ h hlen hkind fun k hk=>?_;by_cases h0:k=0
   ·subst h0;refine⟨#[],fun _ _=>?_,by simp,fun i hi=>absurd hi (Nat.not_lt_zero i)⟩;rcases hv with⟨_,_,rfl⟩ | ⟨o,rfl,_⟩<;>simp[Builtin.firstCells,loadCells,loadCellsFrom]
   ·rcases hv with⟨h1,_,_⟩ | ⟨o,rfl,ho⟩
    ·omega
    obtain⟨rfl,_⟩:=ho (by omega);obtain⟨cells,c1,c2,c3⟩:=Ak (P:=P) (r:=r) (len:=k) hc (by omega) h0;exact⟨cells,fun w' hw=>by simpa[Builtin.firstCells]using c1 w' hw,c2,c3⟩
  ·rename_i m ty cs hfind;cases hb:(Nat.beq e ks.length&&Kx ks len (cs.drop (r*e)))
   ·simp[hb]at h
   simp only[hb,cond_true]at h;simp only[Bool.and_eq_true]at hb;have he:=Nat.eq_of_beq_eq_true hb.1;have hfn:=hb.2;subst he;have hc:=(hh.iq _ (aJ.bu hfind)).ch;simp only at hc;obtain⟨_,hlc,_,hv⟩:=hu;have hlen:(Builtin.lenOf u).run P w = .ok len w:=by
    rcases hv with⟨rfl,_,rfl⟩ | ⟨o,rfl,_⟩<;>rfl
   have hkind:(∃o l c,u = .slice o l c)\/∃s,u = .string s:=by
    rcases hv with⟨_,_,rfl⟩ | ⟨o,rfl,_⟩<;>exact .inl ⟨_,_,_,rfl⟩
   refine fin len _ _ h hlen hkind fun k hk=>?_;by_cases h0:k=0
   ·subst h0;refine⟨#[],fun _ _=>?_,by simp,fun i hi=>absurd hi (Nat.not_lt_zero i)⟩;rcases hv with⟨_,_,rfl⟩ | ⟨o,rfl,_⟩<;>simp[Builtin.firstCells,loadCells,loadCellsFrom]
   ·rcases hv with⟨h1,_,_⟩ | ⟨o,rfl,ho⟩
    ·omega
    obtain⟨rfl,_⟩:=ho (by omega);have hoff:(ρ.pl tg).off=0:=by obtain⟨_,_,_,h0,_⟩:=hc;exact h0
    obtain⟨cells,c1,c2,c3⟩:=FO (P:=P) hc hfn hk;refine⟨cells,fun w' hw=>?_,c2,c3⟩;have:=c1 w' hw;simp only[hoff,Nat.zero_add];simpa[Builtin.firstCells]using this
  ·exact h.elim
 ·rename_i b;cases hb:nh ks [.int .u8]
  ·simp[hb]at h
  simp only[hb,cond_true]at h;have hk:=oP hb;subst hk;obtain⟨rfl,hs⟩:=hu;refine fin b.size _ _ h rfl (.inr ⟨_,rfl⟩) fun m hm=>?_;have hext:(b.extract 0 m).data=b.data.extract 0 m:=ByteArray.data_extract ..;refine⟨(b.data.extract 0 m).map fun x=>.int .u8 x.toNat,fun _ _=>by simp[Builtin.firstCells,hext],?_,fun i hi j k hj=>?_⟩
  ·show(Array.map _ _).size=m*1;have:b.data.size=b.size:=rfl;rw[Array.size_map,Nat.mul_one,Array.size_extract];omega
  ·cases j with
   |zero =>
    simp at hj;subst hj;have hi':i<b.data.size:=Nat.lt_of_lt_of_le hi hm;have hie:i<(b.data.extract 0 m).size:=by rw[Array.size_extract];omega
    refine⟨?_,_,rfl,?_⟩
    ·show(Array.map _ _)[i*1+0]? = _;rw[Nat.mul_one,Nat.add_zero,Array.getElem?_map,Array.getElem?_eq_getElem hie];simp[oc,Array.getD_eq_getD_getElem?,Array.getElem?_eq_getElem hi']
    have:=(b.data.getD i 0).toNat_lt;exact⟨by omega,by omega⟩
   |succ j=>simp at hj
 ·rename_i tg r e c len cap;split at h
  ·rename_i m ty ks' n rows k hfind;cases hb:(Nat.beq e ks'.length&&(Nat.ble (c+len) ks'.length&&rK k ((ks'.drop c).take len)))
   ·simp[hb]at h
   simp only[hb,cond_true]at h;simp only[Bool.and_eq_true]at hb;have he:=Nat.eq_of_beq_eq_true hb.1;have hcl:=Nat.le_of_ble_eq_true hb.2.1;have hak:=hb.2.2;subst he;obtain⟨hr,h⟩:=kD h;have hc:=(hh.iq _ (aJ.bu hfind)).ch;simp only at hc;obtain⟨_,hlc,_,rfl⟩:=hu;refine fin len _ _ h rfl (.inl ⟨_,_,_,rfl⟩) fun m hm=>?_;have hak':rK k ((ks'.drop c).take m)=true:=by
    have key:∀(l:List CK) (a b:Nat),b<=a->rK k (l.take a)=true->rK k (l.take b)=true:=by
     intro l
     induction l with
     |nil=>intro a b _ _;simp[rK]
     |cons x l ih =>
      intro a b hab h;cases b with
      |zero=>simp[rK]
      |succ b =>
       cases a with
       |zero=>omega
       |succ a =>
        simp only[List.take_succ_cons,rK,Bool.and_eq_true]at h ⊢;exact⟨h.1,ih a b (by omega) h.2⟩
    exact key _ len m hm hak
   obtain⟨cells,c1,c2,c3⟩:=QD (P:=P) (r:=r) (c:=c) (len:=m) hc hr (by omega) hak';refine⟨cells,fun w' hw=>by simpa[Builtin.firstCells]using c1 w' hw,by simp[c2],fun i hi j q hj=>?_⟩;cases j with
   |zero=>simp at hj;subst hj;simpa using c3 i hi
   |succ j=>simp at hj
  ·rename_i m ty cs k hfind;cases hfn:Kx [k] len (cs.drop (r*e+c))
   ·simp[hfn]at h
   simp only[hfn,cond_true]at h;have hc:=(hh.iq _ (aJ.bu hfind)).ch;simp only at hc;obtain⟨_,hlc,_,rfl⟩:=hu;refine fin len _ _ h rfl (.inl ⟨_,_,_,rfl⟩) fun m hm=>?_;have hoff:(ρ.pl tg).off=0:=by obtain⟨_,_,_,h0,_⟩:=hc;exact h0
   obtain⟨cells,c1,c2,c3⟩:=FO (P:=P) hc hfn hm;refine⟨cells,fun w' hw=>?_,c2,c3⟩;have:=c1 w' hw;simp only[hoff,Nat.zero_add];simpa[Builtin.firstCells]using this
  ·exact h.elim
 ·rename_i v;obtain⟨tp,wr,H,h,hf⟩:=qv h;obtain⟨l,c,rows,hat,h9⟩:=h;obtain⟨rfl,_⟩:=hu;have hc:=(hh.iq _ (aJ.bu hf)).ch;simp only at hc;rcases hat with⟨rfl,rfl,rfl⟩ | ⟨b,lo,o,cs,rfl,⟨hlc,_⟩,hH,hfit,hr⟩
  ·refine fin 0 _ _ h9 rfl (.inl ⟨_,_,_,rfl⟩) fun k hk=>?_;have:k=0:=by omega
   subst this;exact⟨#[],fun _ _=>rfl,by simp,fun i hi=>absurd hi (Nat.not_lt_zero i)⟩
  ·refine fin l rows _ h9 rfl (.inl ⟨_,_,_,rfl⟩) fun k hk=>?_;have:=Nat.mul_le_mul_right ks.length hlc;obtain⟨cells,c1,c2,c3⟩:=C2 (P:=P) hc hH hr (by omega) hk;exact⟨cells,fun w' hw=>by simpa[Builtin.firstCells,fC]using c1 w' hw,c2,c3⟩
 ·exact h.elim
def bg(rows0:Nat->Nat->Value)(r0 l0:Nat)(jm:Nat->Nat->Value):Nat->Nat->Value:=fun i j=>if i<l0 then rows0 (r0+i) j else jm (i-l0) j
def tP(X:Cx)(t:Nat)(x y:SV)(s:S)(K:KV):Prop :=
 match X.ti t with
 |some ti =>
  match ti.d with
  |.slc e =>
   match X.ti e with
   |some te =>
    bif Nat.ble 1 te.bytes then
     match x with
     |.a .cc=>FP X.force s te.ks y fun m jm=>need X.force (m*te.bytes<=140737488355328) (∀cap,m<=cap->cap<=aq->K (.a (.slc s.nx 0 te.sz m cap)) (s.new (.arr e te.ks m jm)))
     |.a (.slc t0 r0 e0 l0 c0) =>
      match s.hp.find t0 with
      |some (true,.arr ty ks n rows) =>
       bif Nat.beq ty e&&(Nat.beq e0 te.sz&&nh ks te.ks)then need X.force (r0+l0<=n) (FP X.force s te.ks y fun m jm=>need X.force ((l0+m)*te.bytes<=140737488355328)
        (∀cap,l0+m<=cap->cap<=aq->(l0+m<=c0->cap=c0)->K (.a (.slc s.nx 0 te.sz (l0+m) cap)) ((s.put (s.hp.del t0)).new (.arr e te.ks (l0+m) (bg rows r0 l0 jm)))))
       else False
      |_=>False
     |_=>False
    else False
   |none=>False
  |_=>False
 |none=>False
theorem od{t xt ty e:TypeId}{te:TI}(tye:CT P e te)(ht:P.underlying t=some (.slice e)){xd:TypeDesc}(hx:P.underlying xt=some xd)(hxd:xd = .string\/∃e',xd = .slice e')
 {w:World} {base:Option Addr} {sLen sCap:Nat} {x:Value} {n:Nat} {old new:Array Value} (hn:(Builtin.lenOf x).run P w = .ok n w)
 (hnew:(Builtin.firstCells te.sz n x).run P w.drew = .ok new w.drew) (hold:(Builtin.firstCells te.sz sLen (.slice base sLen sCap)).run P w.drew = .ok old w.drew)
 (hgrow:sCap<sLen+n) (hlen:sLen+n<=aq) (hb:(sLen+n)*te.bytes<=140737488355328) (hb1:1<=te.bytes) :
 ∃z:Value,∃cap,sLen+n<=cap/\cap<=aq/\z.cells.toList.length=te.sz/\(Builtin.append_ #[t,xt] ty #[.slice base sLen sCap,x]).run P w =
  .ok (.slice (some ⟨w.heap.size,0,none⟩) (sLen+n) cap) (w.drew.alloc (.cells (old++new++Builtin.zeroCells z.cells (cap-(sLen+n))) e)):=by
 obtain⟨j,hj,hj1,hj2,z,hz,hzl,_⟩:=tye.info;refine⟨z,grownCap w (sLen+n) sCap e,grownCap_ge w _ _ _,grownCap_le_maxLen w _ _ _ hlen,hzl,?_⟩;have h2:¬(Builtin.nextslicecap (sLen+n) sCap*j.bytes > 2^48):=by
  have:=growslice_fits (bytes:=j.bytes) hgrow (by rw[hj2];exact hb);omega
 have h3:¬(sLen+n<=sCap):=by omega
 have hq:(Question.appendCap (sLen+n) sCap e).forced=false:=rfl;have hti:∀w',(typeInfo e).run P w' = .ok j w':=by intro w';simp[typeInfo,hj]
 have hb0:j.bytes≠0:=by omega
 rcases hxd with rfl | ⟨e',rfl⟩
 all_goals
  simp[Builtin.append_,run_underlying ht,run_underlying hx,cu tye,hn,h3,h2,hti,hb0,hq,hold,hnew,zeroValue,hz,newRow,grownCap]
theorem gd{t xt ty e:TypeId}{te:TI}(tye:CT P e te)(ht:P.underlying t=some (.slice e)){xd:TypeDesc}(hx:P.underlying xt=some xd)(hxd:xd = .string\/∃e',xd = .slice e')
 {w w':World} {base:Option Addr} {sLen sCap:Nat} {x:Value} {n:Nat} {new:Array Value} (hn:(Builtin.lenOf x).run P w = .ok n w)
 (hnew:(Builtin.firstCells te.sz n x).run P w = .ok new w) (hroom:sLen+n<=sCap)
 (hst:match base with|some a=>(storeCells (a.add (sLen*te.sz)) new.toList).run P w = .ok () w'|none=>w'=w) :
 (Builtin.append_ #[t,xt] ty #[.slice base sLen sCap,x]).run P w = .ok (.slice base (sLen+n) sCap) w':=by
 rcases hxd with rfl | ⟨e',rfl⟩
 all_goals
  cases base with
  |none =>
   simp only at hst;subst hst;simp[Builtin.append_,run_underlying ht,run_underlying hx,cu tye,hn,hroom,hnew]
  |some a =>
   simp only at hst;simp[Builtin.append_,run_underlying ht,run_underlying hx,cu tye,hn,hroom,hnew,hst]
theorem aj.drew{w0:World}{M:Nat->Prop}{ρ:Env}{hp:aJ}{w:World}(h:aj w0 M ρ hp w):aj w0 M ρ hp w.drew :=
 h.world (M':=fun _=>False) ⟨rfl,rfl,rfl,Nat.le_refl _,fun _ _ _=>rfl,fun _ _=>rfl⟩ (fun _ _ h=>h.elim) fun _ _ _ _=>rfl
theorem Pf{ks:List CK}{old new rest:Array Value}{l m:Nat}{rows0 jm:Nat->Nat->Value}{r0:Nat}(ho:old.size=l*ks.length)(hn:new.size=m*ks.length)
 (h0:∀i,i<l->∀(j:Nat) (k:CK),ks[j]? = some k->old[i*ks.length+j]? = some (rows0 (r0+i) j)/\k.ok (rows0 (r0+i) j))
 (h1:∀i,i<m->∀(j:Nat) (k:CK),ks[j]? = some k->new[i*ks.length+j]? = some (jm i j)/\k.ok (jm i j)) :
 ∀i,i<l+m->∀(j:Nat) (k:CK),ks[j]? = some k->(old++new++rest)[i*ks.length+j]? = some (bg rows0 r0 l jm i j)/\k.ok (bg rows0 r0 l jm i j):=by
 intro i hi j k hk;have hjl:j<ks.length:=(List.getElem?_eq_some_iff.1 hk).1;unfold bg;by_cases hil:i<l
 ·rw[if_pos hil];have hlt:i*ks.length+j<old.size:=by
   have:=Nat.mul_le_mul_right ks.length hil;rw[Nat.succ_mul]at this;omega
  rw[Array.append_assoc,Array.getElem?_append_left hlt];exact h0 i hil j k hk
 ·rw[if_neg hil];have hge:old.size<=i*ks.length+j:=by
   have:=Nat.mul_le_mul_right ks.length (Nat.le_of_not_lt hil);omega
  have hsub:(i-l)*ks.length=i*ks.length-l*ks.length:=Nat.sub_mul _ _ _;have hlt2:(i-l)*ks.length+j<new.size:=by
   have:=Nat.mul_le_mul_right ks.length (show i-l+1<=m by omega);rw[Nat.succ_mul]at this;omega
  rw[Array.append_assoc,Array.getElem?_append_right hge,Array.getElem?_append_left (by omega)];have:=h1 (i-l) (by omega) j k hk;rw[show i*ks.length+j-old.size=(i-l)*ks.length+j by
   have:=Nat.mul_le_mul_right ks.length (Nat.le_of_not_lt hil);omega]
  exact this
theorem wY{X:Cx}(hX:X.Ok){t xt rt:Nat}{xd:TypeDesc}(hxt:X.P.underlying xt=some xd)(hxd:xd = .string\/∃e',xd = .slice e'){x y:SV}{s:S}{K:KV}(h:tP X t x y s K){w0:World}{M:Nat->Prop}{ρ:Env}(hρ:ρ.n=s.nx)
 {w:World} (hh:aj w0 M ρ s.hp w) {u v:Value} (hu:x.cz ρ u) (hv:y.cz ρ v) :
 ∃r w' ρ',(Builtin.append_ #[t,xt] rt #[u,v]).run X.P w = .ok r w'/\ρ.le ρ'/\∃sv s',K sv s'/\s'.nt=s.nt/\s'.fr=s.fr/\ρ'.n=s'.nx/\sv.cz ρ' r/\aj w0 M ρ' s'.hp w':=by
 unfold tP at h;split at h
 ·rename_i ti hti;have ty:=hX.ty hti;split at h
  ·rename_i e hd;split at h
   ·rename_i te hte;have tye:=hX.ty hte;have hks:=lK tye;have hut:=cF (ty.desc.trans hd);cases hb1:Nat.ble 1 te.bytes
    ·simp[hb1]at h
    simp only[hb1,cond_true]at h;have hby:=Nat.le_of_ble_eq_true hb1;have small:∀n,n*te.bytes<=140737488355328->n<=aq:=by
     intro n hn;have:n*1<=n*te.bytes:=Nat.mul_le_mul_left n hby;unfold aq;omega
    split at h
    ·
     have hu':u = .slice none 0 0:=hu;subst hu';obtain⟨m,jm,cells,hneed,hsrc⟩:=Hj (P:=X.P) h hh hv;obtain⟨hmb,hK⟩:=kD hneed;have hml:=small m hmb;by_cases h0:m=0
     ·subst h0;have hsz:cells.toList=[]:=List.eq_nil_of_length_eq_zero (by simpa using hsrc.size);refine⟨_,w,ρ.ext ⟨0,0,0,fun _=>False⟩,gd tye hut hxt hxd hsrc.len (by rw[<- hks];exact hsrc.run w rfl) (Nat.le_refl _) rfl,ρ.eE _,_,_,hK 0 (Nat.le_refl _) (Nat.zero_le _),rfl,rfl,?_,?_,?_⟩
      ·show ρ.n+1=s.nx+1;rw[hρ]
      ·exact⟨by show s.nx<ρ.n+1;omega,Nat.le_refl _,Nat.zero_le _,.inl ⟨rfl,rfl,rfl⟩⟩
      ·have h1:=hh.mono (ρ.eE ⟨0,0,0,fun _=>False⟩);refine h1.cons ⟨by show s.nx<ρ.n+1;omega,?_,?_,?_⟩ ?_
       ·rw[<- hρ,ρ.dH];exact .inl ⟨rfl,rfl,fun _ h=>h⟩
       ·rw[<- hρ,ρ.dH];exact fun _ h=>h.elim
       ·rw[<- hρ,ρ.dH];exact fun _ _ h=>h.elim
       ·intro z hz;have ht:=(hh.iq z hz).tag;refine⟨by show s.nx≠z.tag;omega,fun _ b hb=>?_⟩;rw[<- hρ,ρ.dH]at hb;exact hb.elim
     ·obtain⟨z,cap,hc1,hc2,hz,hrun⟩:=od (ty:=rt) tye hut hxt hxd (base:=none) (sLen:=0) (sCap:=0) (old:=#[]) hsrc.len (by rw[<- hks];exact hsrc.run w.drew rfl) (by simp[Builtin.firstCells]) (by omega) (by omega) (by simpa using hmb) hby;simp only[Nat.zero_add]at hrun hc1;obtain⟨ρ',p1,p2,p3,p4⟩:=hh.drew.CZ e (ks:=te.ks) (n:=m) (N:=cap) (rows:=bg (fun _ _=>undef) 0 0 jm) (vs:=#[]++cells++Builtin.zeroCells z.cells (cap-m)) (0,0) (fun o _ ho=>by omega) (Nat.le_refl _)
       (by
        have:=hsrc.size;simp only[Array.size_append,size_zeroCells,Array.size_empty];rw[this,show z.cells.size=te.ks.length by rw[hks];simpa using hz,Nat.zero_add,<- Nat.add_mul];exact Nat.le_of_eq (by congr 1;omega)) hc1
       (by simpa using Pf (l:=0) (r0:=0) (rows0:=fun _ _=>undef) (old:=#[]) (rest:=Builtin.zeroCells z.cells (cap-m)) (by simp) hsrc.size (fun i hi=>absurd hi (Nat.not_lt_zero i)) hsrc.row)
      have hrows:bg (fun _ _=>undef) 0 0 jm=jm:=by funext i j;simp[bg]
      rw[hrows]at p4;refine⟨_,_,ρ',hrun,p1,_,_,hK cap hc1 hc2,rfl,rfl,?_,?_,?_⟩
      ·rw[p2,hρ];rfl
      ·refine⟨by rw[p2,hρ];omega,hc1,hc2,.inr ⟨_,rfl,fun _=>?_⟩⟩
       ·rw[<- hρ,p3];exact⟨by simp only[Nat.zero_mul,Nat.add_zero]<;>rfl,by simp⟩
      ·rw[hρ]at p4;exact p4
    ·
     rename_i t0 r0 e0 l0 c0;split at h
     ·rename_i ty0 ks n rows hfind;cases hb:(Nat.beq ty0 e&&(Nat.beq e0 te.sz&&nh ks te.ks))
      ·simp[hb]at h
      simp only[hb,cond_true]at h;simp only[Bool.and_eq_true]at hb;have e1:=Nat.eq_of_beq_eq_true hb.1;have e2:=Nat.eq_of_beq_eq_true hb.2.1;have e3:=oP hb.2.2;subst e1;subst e3;obtain⟨hr0,h⟩:=kD h;obtain⟨m,jm,cells,hneed,hsrc⟩:=Hj (P:=X.P) h hh hv;obtain⟨hmb,hK⟩:=kD hneed;have hml:=small (l0+m) hmb;have hent:=hh.iq _ (aJ.bu hfind);have hc:=hent.ch;have hne:=hh.vo hfind;have hsub:aj w0 M ρ (s.hp.del t0) w:=hh.sub aJ.js;simp only at hc;obtain⟨ht0,hlc,hcm,hval⟩:=hu;have he0:e0=te.ks.length:=by rw[e2,hks]
      subst he0;have place:∀(p:Place) (w':World) (hk:eZ (ρ.pl t0).fp w w') (hfp:∀b,p.fp b->(ρ.pl t0).fp b) (ch':Chunk) (hch:ch'.Sat (ρ.ext p) p w'),aj w0 M (ρ.ext p) (⟨s.nx,true,ch'⟩::s.hp.del t0) w':=by
       intro p w' hk hfp ch' hch;have h1:aj w0 M (ρ.ext p) (s.hp.del t0) w':=(hsub.world hk (fun b hb hf=>hent.own rfl b hf hb) (fun z hz b hb=>by
        have:=hne z hz;refine hk.block b ((hh.iq z (aJ.js.subset hz)).lt b hb) fun hf=>this.2 rfl b hf hb)).mono (ρ.eE p)
       refine h1.cons ⟨by show s.nx<ρ.n+1;omega,?_,?_,?_⟩ ?_
       ·rw[<- hρ,ρ.dH];exact hch
       ·rw[<- hρ,ρ.dH];exact fun b hb=>Nat.lt_of_lt_of_le (hent.lt b (hfp b hb)) hk.size
       ·rw[<- hρ,ρ.dH];exact fun _ b hb hb0=>hent.own rfl b (hfp b hb) hb0
       ·intro z hz;have htz:=(hh.iq z (aJ.js.subset hz)).tag;refine⟨by show s.nx≠z.tag;omega,fun _ b hb hb'=>?_⟩;rw[<- hρ,ρ.dH]at hb;rw[ρ.wS p htz]at hb';exact(hne z hz).2 rfl b (hfp b hb) hb'
      by_cases hroom:l0+m<=c0
      ·by_cases hc0:c0=0
       ·
        subst hc0;obtain rfl:l0=0:=by omega
        obtain rfl:m=0:=by omega
        have hsz:cells.toList=[]:=List.eq_nil_of_length_eq_zero (by simpa using hsrc.size);have hnull:aj w0 M (ρ.ext ⟨(ρ.pl t0).blk,0,0,fun _=>False⟩) (⟨s.nx,true,.arr ty0 te.ks (0+0) (bg rows r0 0 jm)⟩::s.hp.del t0) w :=
         place ⟨(ρ.pl t0).blk,0,0,fun _=>False⟩ w (eZ.refl _ _) (fun _ h=>h.elim) (.arr ty0 te.ks (0+0) (bg rows r0 0 jm)) (Or.inl ⟨rfl,rfl,fun _ h=>h⟩)
        have hst:∀(base:Option Addr),(match base with|some a=>(storeCells (a.add (0*te.sz)) cells.toList).run X.P w = .ok () w|none=>w=w):=by
         intro base;cases base with
         |none=>rfl
         |some a=>simp only;rw[hsz];rfl
        have hnew:(Builtin.firstCells te.sz 0 v).run X.P w = .ok cells w:=by rw[<- hks];exact hsrc.run w rfl
        rcases hval with⟨_,_,rfl⟩ | ⟨o,rfl,_⟩
        ·refine⟨_,w,_,gd tye hut hxt hxd hsrc.len hnew (Nat.le_refl _) (hst none),ρ.eE _,_,_,hK 0 (Nat.le_refl _) (Nat.zero_le _) (fun _=>rfl),rfl,rfl,?_,?_,hnull⟩
         ·show ρ.n+1=s.nx+1;rw[hρ]
         ·exact⟨by show s.nx<ρ.n+1;omega,Nat.le_refl _,Nat.zero_le _,.inl ⟨rfl,rfl,rfl⟩⟩
        ·refine⟨_,w,_,gd tye hut hxt hxd hsrc.len hnew (Nat.le_refl _) (hst (some o)),ρ.eE _,_,_,hK 0 (Nat.le_refl _) (Nat.zero_le _) (fun _=>rfl),rfl,rfl,?_,?_,hnull⟩
         ·show ρ.n+1=s.nx+1;rw[hρ]
         ·refine⟨by show s.nx<ρ.n+1;omega,Nat.le_refl _,Nat.zero_le _,.inr ⟨o,rfl,fun h=>absurd rfl h⟩⟩
       ·
        rcases hval with⟨_,h1,_⟩ | ⟨o,rfl,ho⟩
        ·exact absurd h1 hc0
        obtain⟨rfl,hN⟩:=ho hc0;rcases hc with⟨_,hN0,_⟩ | ⟨vs,ty0,fr,hbk,hfit,hnN,hun,hfp,hrows⟩
        ·omega
        have hcap:(ρ.pl t0).off+(r0+c0)*te.ks.length<=vs.size:=by
         have:=Nat.mul_le_mul_right te.ks.length hN;omega
        have hlm:(l0+m)*te.ks.length<=c0*te.ks.length:=Nat.mul_le_mul_right _ hroom;rw[Nat.add_mul]at hcap hlm;have hcl:cells.toList.length=m*te.ks.length:=by simpa using hsrc.size
        have hone:∀z∈cells.toList,z.oneCell'=true:=by
         intro z hz;obtain⟨q,hq,e⟩:=List.getElem_of_mem hz;have hpos:0<te.ks.length:=by
          rcases Nat.eq_zero_or_pos te.ks.length with h|h
          ·rw[h]at hcl;omega
          ·exact h
         have hqm:q/te.ks.length<m:=by rw[Nat.div_lt_iff_lt_mul hpos];omega
         have hqr:q%te.ks.length<te.ks.length:=Nat.mod_lt _ hpos;obtain⟨g1,g2⟩:=hsrc.row (q/te.ks.length) hqm (q%te.ks.length) (te.ks[q%te.ks.length]) (List.getElem?_eq_getElem hqr);rw[show q/te.ks.length*te.ks.length+q%te.ks.length=q from by rw[Nat.mul_comm];exact Nat.div_add_mod q te.ks.length]at g1;have:cells[q]? = some z:=by
          have hq':q<cells.size:=by simpa using hq
          rw[Array.getElem?_eq_getElem hq'];congr 1
         rw[this]at g1;cases g1;exact g2.one
        have hs:=eO (P:=X.P) (ρ.pl t0).blk ((ρ.pl t0).off+r0*te.ks.length+l0*te.ks.length) ty0 fr cells.toList 0 vs w hbk (fun x h1 h2=>hun x (by omega) (by have:=Nat.mul_le_mul_right te.ks.length hN;rw[Nat.add_mul]at this;omega)) (by omega) hone;have hadd:(⟨(ρ.pl t0).blk,(ρ.pl t0).off+r0*te.ks.length,none⟩:Addr).add (l0*te.sz)=⟨(ρ.pl t0).blk,(ρ.pl t0).off+r0*te.ks.length+l0*te.ks.length,none⟩:=by rw[<- hks];exact Addr.add_plain _ _ _
        have hsz2:∀(L:List Value),L=vs.toList.take ((ρ.pl t0).off+r0*te.ks.length+l0*te.ks.length+0)++cells.toList++vs.toList.drop ((ρ.pl t0).off+r0*te.ks.length+l0*te.ks.length+0+cells.toList.length)->L.toArray.size=vs.size:=by
         rintro L rfl;simp at hcl ⊢;omega
        refine⟨_,_,ρ.ext ⟨(ρ.pl t0).blk,(ρ.pl t0).off+r0*te.ks.length,(ρ.pl t0).N-r0,(ρ.pl t0).fp⟩,gd tye hut hxt hxd hsrc.len (by rw[<- hks];exact hsrc.run w rfl) hroom (by simp only;rw[hadd];exact hs),ρ.eE _,_,_,hK c0 hroom hcm (fun _=>rfl),rfl,rfl,?_,?_,?_⟩
        ·show ρ.n+1=s.nx+1;rw[hρ]
        ·refine⟨by show s.nx<ρ.n+1;omega,hroom,hcm,.inr ⟨_,rfl,fun _=>⟨?_,?_⟩⟩⟩
         ·rw[<- hρ,ρ.dH];simp
         ·rw[<- hρ,ρ.dH];simp only;omega
        ·refine place ⟨(ρ.pl t0).blk,(ρ.pl t0).off+r0*te.ks.length,(ρ.pl t0).N-r0,(ρ.pl t0).fp⟩ _ ((eZ.setRow w _ _).mono fun b _ hb=>(hfp b).2 hb) (fun _ h=>h) (.arr _ te.ks (l0+m) (bg rows r0 l0 jm)) (Or.inr ⟨_,ty0,fr,setRow_heap w _ _ _ ty0 fr hbk,?_,?_,fun x h1 h2=>hun x (by simp only at h1;omega) (by simp only[Nat.sub_mul]at h1 h2;have:=Nat.mul_le_mul_right te.ks.length (show r0<=(ρ.pl t0).N by omega);omega),hfp,fun i hi j k hk=>?_⟩)
         ·rw[hsz2 _ rfl];simp only;rw[Nat.sub_mul];have:=Nat.mul_le_mul_right te.ks.length (show r0<=(ρ.pl t0).N by omega);omega
         ·simp only;omega
         ·have hjl:j<te.ks.length:=(List.getElem?_eq_some_iff.1 hk).1;rw[List.getElem?_toArray,gI _ _ _ (by simp at hcl ⊢;omega)];simp only[Nat.add_zero];unfold bg;by_cases hil:i<l0
          ·have hlt:i*te.ks.length+j<l0*te.ks.length:=by
            have:=Nat.mul_le_mul_right te.ks.length hil;rw[Nat.succ_mul]at this;omega
           rw[if_neg (by omega),if_pos hil];obtain⟨g1,g2⟩:=hrows (r0+i) (by omega) j k hk;refine⟨?_,g2⟩;rw[<- g1,Nat.add_mul];simp only[Array.getElem?_toList];congr 1;omega
          ·have hsub2:(i-l0)*te.ks.length=i*te.ks.length-l0*te.ks.length:=Nat.sub_mul _ _ _;have hle2:=Nat.mul_le_mul_right te.ks.length (Nat.le_of_not_lt hil);have hlt2:(i-l0)*te.ks.length+j<m*te.ks.length:=by
            have:=Nat.mul_le_mul_right te.ks.length (show i-l0+1<=m by omega);rw[Nat.succ_mul]at this;omega
           rw[if_pos (by omega),if_neg hil];obtain⟨g1,g2⟩:=hsrc.row (i-l0) (by omega) j k hk;refine⟨?_,g2⟩;rw[<- g1];simp only[Array.getElem?_toList];congr 1;omega
      ·
       have hold:∃old:Array Value,(∀w':World,w'.heap=w.heap->(Builtin.firstCells te.sz l0 u).run X.P w' = .ok old w')/\old.size=l0*te.ks.length /\
        ∀i,i<l0->∀(j:Nat) (k:CK),te.ks[j]? = some k->old[i*te.ks.length+j]? = some (rows (r0+i) j)/\k.ok (rows (r0+i) j):=by
        by_cases hl0:l0=0
        ·subst hl0;refine⟨#[],fun w' _=>?_,by simp,fun i hi=>absurd hi (Nat.not_lt_zero i)⟩;rcases hval with⟨_,_,rfl⟩ | ⟨o,rfl,_⟩<;>simp[Builtin.firstCells,loadCells,loadCellsFrom]
        ·rcases hval with⟨h1,_,_⟩ | ⟨o,rfl,ho⟩
         ·exact absurd h1 hl0
         obtain⟨rfl,_⟩:=ho (by omega);obtain⟨old,c1,c2,c3⟩:=Ak (P:=X.P) hc hr0 hl0;exact⟨old,fun w' hw=>by rw[<- hks];simpa[Builtin.firstCells]using c1 w' hw,c2,c3⟩
       obtain⟨old,ho1,ho2,ho3⟩:=hold;have hslice:∃base,u = .slice base l0 c0:=by
        rcases hval with⟨rfl,rfl,rfl⟩ | ⟨o,rfl,_⟩<;>exact⟨_,rfl⟩
       obtain⟨base,rfl⟩:=hslice;obtain⟨z,cap,hc1,hc2,hz,hrun⟩:=od (ty:=rt) tye hut hxt hxd (base:=base) (sLen:=l0) (sCap:=c0) (old:=old) hsrc.len (by rw[<- hks];exact hsrc.run w.drew rfl) (ho1 w.drew rfl) (by omega) hml hmb hby;obtain⟨ρ',p1,p2,p3,p4⟩:=hsub.drew.CZ ty0 (ks:=te.ks) (n:=l0+m) (N:=cap) (rows:=bg rows r0 l0 jm) (vs:=old++cells++Builtin.zeroCells z.cells (cap-(l0+m))) (0,0) (fun o _ ho=>by omega) (Nat.le_refl _)
        (by
         simp only[Array.size_append,size_zeroCells];rw[hsrc.size,ho2,show z.cells.size=te.ks.length by rw[hks];simpa using hz,<- Nat.add_mul,<- Nat.add_mul];exact Nat.le_of_eq (by congr 1;omega)) hc1 (Pf ho2 hsrc.size ho3 hsrc.row)
       refine⟨_,_,ρ',hrun,p1,_,_,hK cap hc1 hc2 (fun h=>absurd h hroom),rfl,rfl,?_,?_,?_⟩
       ·rw[p2,hρ];rfl
       ·refine⟨by rw[p2,hρ];omega,hc1,hc2,.inr ⟨_,rfl,fun _=>?_⟩⟩
        ·rw[<- hρ,p3];exact⟨by simp only[Nat.zero_mul,Nat.add_zero]<;>rfl,by simp⟩
       ·rw[hρ]at p4;exact p4
     ·exact h.elim
    ·exact h.elim
   ·exact h.elim
  ·exact h.elim
 ·exact h.elim
end
section
variable {P:Program}
def SY(X:Cx)(t:Nat)(x y:SV)(s:S)(K:KV):Prop :=
 match X.ti t,x,y with
 |some ti,.a x,.a y =>
  match ti.d,x.i?,y.i? with
  |.slc e,some (k1,l),some (k2,c) =>
   match X.ti e with
   |some te=>bif pq k1 .i64&&(pq k2 .i64&&lS te.ks te.zero)then
    0<=l/\l<=c/\(te.bytes:Int)*c<=281474976710656/\K (.a (.slc s.nx 0 te.sz l.toNat c.toNat)) (s.new (.arr e te.ks c.toNat fun _ j=>(te.zero.map A.Af).getD j undef))else False
   |none=>False
  |_,_,_=>False
 |_,_,_=>False
theorem yc{ρ:Env}{te:TI}(h:lS te.ks te.zero=true){z:Value}(hz:te.zero=z.cells.toList.map Ci)(hok:uT z.cells.toList=true) :
 z.cells.toList=te.zero.map A.Af/\∀(j:Nat) (v:Value) (k:CK),z.cells.toList[j]? = some v->te.ks[j]? = some k->k.ok v :=
 qE (ρ:=ρ) h (by rw[hz];exact kn ρ hok)
theorem zj{X:Cx}(hX:X.Ok){t:Nat}{x y:SV}{s:S}{K:KV}(h:SY X t x y s K){w0:World}{M:Nat->Prop}{ρ:Env}(hρ:ρ.n=s.nx){w:World}(hh:aj w0 M ρ s.hp w){u v:Value}(hu:x.cz ρ u)(hv:y.cz ρ v) :
 ∃r w' ρ',(Instr.makeSlice t u v).run X.P w = .ok r w'/\ρ.le ρ'/\∃sv s',K sv s'/\s'.nt=s.nt/\s'.fr=s.fr/\ρ'.n=s'.nx/\sv.cz ρ' r/\aj w0 M ρ' s'.hp w':=by
 unfold SY at h;split at h
 ·rename_i ti x y hti;have ty:=hX.ty hti;split at h
  ·rename_i e k1 l k2 c hd hx hy;split at h
   ·rename_i te hte;have tye:=hX.ty hte;cases hb:(pq k1 .i64&&(pq k2 .i64&&lS te.ks te.zero))
    ·simp[hb]at h
    simp only[hb,cond_true]at h;simp only[Bool.and_eq_true]at hb;obtain⟨hk1,hk2,hfit⟩:=hb;have:=mw hk1;subst this;have:=mw hk2;subst this;obtain⟨h0,h1,h2,hK⟩:=h;obtain⟨rfl,hlr⟩:=A.kq hx hu;obtain⟨rfl,hcr⟩:=A.kq hy hv;have hut:=cF (ty.desc.trans hd);obtain⟨j,hj,hj1,hj2,_⟩:=tye.info;obtain⟨z,hz,hzl,hzero,hok,_⟩:=iw tye;obtain⟨hzc,hzk⟩:=yc (ρ:=ρ) hfit hzero hok;have hks:=lK tye;have hti:(typeInfo e).run X.P w = .ok j w:=by simp[typeInfo,hj]
    have hwl:IntKind.i64.wrap l=l:=fM hlr;have hwc:IntKind.i64.wrap c=c:=fM hcr;have hcells:∃c0:Array Value,(c.toNat*te.sz=0->c0 = #[])/\(¬c.toNat*te.sz=0->c0=z.cells)/\((Array.range (c.toNat*te.sz)).map (c0[· % c0.size]!)).toList=rep c.toNat z.cells.toList:=by
     by_cases h0:c.toNat*te.sz=0
     ·refine⟨#[],fun _=>rfl,fun h=>absurd h0 h,?_⟩;have:(rep c.toNat z.cells.toList).length=0:=by rw[qH,hzl,h0]
      rw[List.eq_nil_of_length_eq_zero this,h0];simp
     ·exact⟨z.cells,fun h=>absurd h h0,fun _=>rfl,qI _ _ _ (by simpa using hzl)⟩
    obtain⟨c0,hc0,hc0',hc1⟩:=hcells;obtain⟨ρ',p1,p2,p3,p4⟩:=hh.CZ e (ks:=te.ks) (n:=c.toNat) (N:=c.toNat) (rows:=fun _ j=>(te.zero.map A.Af).getD j undef) (vs:=(Array.range (c.toNat*te.sz)).map (c0[· % c0.size]!)) (0,0) (fun o _ ho=>by omega) (Nat.le_refl _) (by rw[hks];simp) (Nat.le_refl _)
     (fun i hi j k hk=>by
      have hjl:j<te.ks.length:=(List.getElem?_eq_some_iff.1 hk).1;have hlt:i*te.ks.length+j<c.toNat*z.cells.toList.length:=by
       have:=Nat.mul_le_mul_right te.ks.length hi;rw[Nat.succ_mul]at this;rw[hzl];rw[hks]at this hjl ⊢;omega
      have e1:(rep c.toNat z.cells.toList)[i*te.ks.length+j]? = z.cells.toList[j]?:=by
       rw[wX _ _ _ hlt,hzl,<- hks,Nat.mul_comm,Nat.mul_add_mod,Nat.mod_eq_of_lt hjl]
      have hjz:j<z.cells.toList.length:=by rw[hzl,<- hks];exact hjl
      have e2:z.cells.toList[j]? = some ((te.zero.map A.Af).getD j undef):=by
       rw[<- hzc];simp only[List.getD,List.getElem?_eq_getElem hjz,Option.getD_some]
      have e3:((Array.range (c.toNat*te.sz)).map (c0[· % c0.size]!))[i*te.ks.length+j]? = some ((te.zero.map A.Af).getD j undef):=by
       rw[<- Array.getElem?_toList,hc1,e1,e2]
      exact⟨e3,hzk j _ k e2 hk⟩)
    refine⟨.slice (some ⟨w.heap.size,0,none⟩) l.toNat c.toNat,w.alloc (.cells ((Array.range (c.toNat*te.sz)).map (c0[· % c0.size]!)) e (0,0)),ρ',?_,p1,_,_,hK,rfl,rfl,?_,?_,?_⟩
    ·have hcond:¬((decide (c<0)||decide ((j.bytes:Int)*c > 2^48)||decide (l<0)||decide (l > c))=true):=by
      rw[hj2];simp;omega
     unfold Instr.makeSlice;simp only[Sem.run_bind,run_underlying hut,Result.andThen_ok,asInt,asIntOf,Sem.run_pure,hti,hwl,hwc];rw[if_neg (by simpa using hcond)];simp only[Sem.run_bind,run_askRoom,Result.andThen_ok,cu tye];by_cases h0:c.toNat*te.sz=0
     ·rw[if_pos h0];have e0:=hc0 h0;simp only[Sem.run_bind,Sem.run_pure,Result.andThen_ok,<- e0];rfl
     ·rw[if_neg h0];have e0:=hc0' h0;simp only[Sem.run_bind,Sem.run_pure,Result.andThen_ok,hz,<- e0];rfl
    ·rw[p2,hρ];rfl
    ·refine⟨by rw[p2,hρ];omega,by omega,?_,.inr ⟨_,rfl,fun _=>?_⟩⟩
     ·have:=hcr.2;unfold aq;omega
     ·rw[<- hρ,p3];exact⟨by simp only[Nat.zero_mul,Nat.add_zero]<;>rfl,by simp⟩
    ·rw[hρ]at p4;exact p4
   ·exact h.elim
  ·exact h.elim
 ·exact h.elim
def lU(s:S)(o:Option Operand)(d top:Nat)(K:Nat->Prop):Prop :=
 match o with
 |none=>K d
 |some x =>
  match s.ev x with
  |.a y=>match y.i? with
   |some (_,n)=>(0<=n/\n<=(top:Int))/\K n.toNat
   |none=>False
  |_=>False
theorem iX{s:S}{o:Option Operand}{d top:Nat}{K:Nat->Prop}(h:lU s o d top K){ρ:Env}{a:Act}(hf:dK ρ s.fr a.tmps) :
 ∃n,K n/\(o=none->n=d)/\(∀x,o=some x->n<=top/\∀code (w:World),(Instr.sliceBound (a.eval x) top code).run P w = .ok n w):=by
 unfold lU at h;split at h
 ·exact⟨d,h,fun _=>rfl,fun x hx=>(by cases hx)⟩
 ·rename_i x;split at h
  ·rename_i y hy;split at h
   ·rename_i k n hn;have hr:=hf.ev x;rw[hy]at hr;obtain⟨e,hin⟩:=A.kq hn hr;refine⟨n.toNat,h.2,fun h=>(by cases h),fun x' hx'=>?_⟩;cases hx';refine⟨by have:=h.1;omega,fun code w=>?_⟩;rw[e];exact run_sliceBound w k n top code h.1.1 h.1.2
   ·exact h.elim
  ·exact h.elim
def Mr(X:Cx)(t:Nat)(x:SV)(lo hi mx:Option Operand)(s:S)(K:KV):Prop :=
 match X.ti t,x with
 |some ti,.a (.str b) =>
  match ti.d,mx with
  |.str,none=>lU s hi b.size b.size fun h=>lU s lo 0 h fun l=>K (.a (.str (b.extract l h))) s
  |_,_=>False
 |some ti,.a (.slc tg r e len cap) =>
  match ti.d with
  |.slc el =>
   match X.ti el with
   |some te=>bif Nat.beq e te.sz&&(mx.isNone||hi.isSome)then
    lU s mx cap cap fun m=>lU s hi len m fun h=>lU s lo 0 h fun l=>K (.a (.slc tg (r+l) e (h-l) (m-l))) s else False
   |none=>False
  |_=>False
 |some ti,.a .cc =>
  match ti.d with
  |.slc el =>
   match X.ti el with
   |some _=>bif mx.isNone||hi.isSome then lU s mx 0 0 fun m=>lU s hi 0 m fun h=>lU s lo 0 h fun _=>K (.a .cc) s else False
   |none=>False
  |_=>False
 |some ti,.a (.ptr tg r e c) =>
  match ti.d with
  |.arr n el =>
   match X.ti el with
   |some te=>bif (Nat.beq te.sz 1&&Nat.ble n aq)&&(mx.isNone||hi.isSome)then
    lU s mx n n fun m=>lU s hi n m fun h=>lU s lo 0 h fun l=>l<m/\K (.a (.sub tg r e (c+l) (h-l) (m-l))) s else False
   |none=>False
  |_=>False
 |_,_=>False
theorem oe{isSlice:Bool}{len cap:Nat}{lo hi mx:Option Operand}{a:Act}{w:World}{m h l:Nat}(hmx:mx=none\/hi≠none)
 (hm:(mx=none->m=cap)/\∀x,mx=some x->m<=cap/\∀code (w:World),(Instr.sliceBound (a.eval x) cap code).run P w = .ok m w)
 (hh:(hi=none->h=len)/\∀x,hi=some x->h<=m/\∀code (w:World),(Instr.sliceBound (a.eval x) m code).run P w = .ok h w)
 (hl:(lo=none->l=0)/\∀x,lo=some x->l<=h/\∀code (w:World),(Instr.sliceBound (a.eval x) h code).run P w = .ok l w) :
 (Instr.sliceBounds isSlice len cap (lo.map a.eval) (hi.map a.eval) (mx.map a.eval)).run P w = .ok (l,h,m) w:=by
 unfold Instr.sliceBounds;cases mx with
 |none =>
  have:=hm.1 rfl;subst this;cases hi with
  |none =>
   have:=hh.1 rfl;subst this;cases lo with
   |none=>have:=hl.1 rfl;subst this;simp
   |some x=>simp[(hl.2 x rfl).2]
  |some y =>
   cases lo with
   |none=>have:=hl.1 rfl;subst this;simp[(hh.2 y rfl).2]
   |some x=>simp[(hl.2 x rfl).2,(hh.2 y rfl).2]
 |some z =>
  cases hi with
  |none=>rcases hmx with h|h<;>first|(cases h;done)|exact absurd rfl h
  |some y =>
   cases lo with
   |none=>have:=hl.1 rfl;subst this;simp[(hh.2 y rfl).2,(hm.2 z rfl).2]
   |some x=>simp[(hl.2 x rfl).2,(hh.2 y rfl).2,(hm.2 z rfl).2]
theorem SZ{X:Cx}(hX:X.Ok){t:Nat}{x:SV}{lo hi mx:Option Operand}{s:S}{K:KV}(h:Mr X t x lo hi mx s K){ρ:Env}{a:Act}(hf:dK ρ s.fr a.tmps){u:Value}(hu:x.cz ρ u) :
 ∃v sv,(∀w:World,(Instr.sliceAt t u (lo.map a.eval) (hi.map a.eval) (mx.map a.eval)).run X.P w = .ok v w)/\sv.cz ρ v/\K sv s:=by
 unfold Mr at h;split at h
 ·
  rename_i ti b hti;have ty:=hX.ty hti;split at h
  ·rename_i hd;have hut:=oO (ty.desc.trans hd);obtain⟨rfl,hs⟩:=hu;obtain⟨hN,h,h1,h2⟩:=iX (P:=X.P) h hf;obtain⟨lN,h,h3,h4⟩:=iX (P:=X.P) h hf;have hb:=fun w=>oe (P:=X.P) (isSlice:=false) (len:=b.size) (cap:=b.size) (lo:=lo) (hi:=hi) (mx:=none) (a:=a) (w:=w) (m:=b.size) (h:=hN) (l:=lN) (.inl rfl) ⟨fun _=>rfl,fun x hx=>by cases hx⟩ ⟨h1,h2⟩ ⟨h3,h4⟩;refine⟨_,.a (.str (b.extract lN hN)),fun w=>?_,⟨rfl,?_⟩,h⟩
   ·have hb:=hb w;simp only[Instr.sliceAt,Sem.run_bind,run_underlying hut,Result.andThen_ok,Instr.slice,Option.map_none,Option.isSome_none,Bool.false_eq_true,if_false,Sem.run_pure]at hb ⊢;simp[hb]
   ·have hhN:hN<=b.size:=by
     cases hi with
     |none=>rw[h1 rfl];exact Nat.le_refl _
     |some y=>exact(h2 y rfl).1
    simp only[ByteArray.size_extract];omega
  ·exact h.elim
 ·
  rename_i ti tg r e len cap hti;have ty:=hX.ty hti;split at h
  ·rename_i el hd;have hut:=cF (ty.desc.trans hd);split at h
   ·rename_i te hte;have tye:=hX.ty hte;cases hb0:(Nat.beq e te.sz&&(mx.isNone||hi.isSome))
    ·simp[hb0]at h
    simp only[hb0,cond_true]at h;simp only[Bool.and_eq_true,Bool.or_eq_true]at hb0;have he:=Nat.eq_of_beq_eq_true hb0.1;have hmx:mx=none\/hi≠none:=by
     rcases hb0.2 with h|h
     ·exact .inl (by simpa using h)
     ·exact .inr (by intro h';rw[h']at h;cases h)
    subst he;obtain⟨mN,h,g1,g2⟩:=iX (P:=X.P) h hf;obtain⟨hN,h,h1,h2⟩:=iX (P:=X.P) h hf;obtain⟨lN,h,h3,h4⟩:=iX (P:=X.P) h hf;have hb:=fun w=>oe (P:=X.P) (isSlice:=true) (len:=len) (cap:=cap) (lo:=lo) (hi:=hi) (mx:=mx) (a:=a) (w:=w) (m:=mN) (h:=hN) (l:=lN) hmx ⟨g1,g2⟩ ⟨h1,h2⟩ ⟨h3,h4⟩;obtain⟨htg,hlc,hcm,hv⟩:=hu;have e1:mN<=cap:=by cases mx with|none=>rw[g1 rfl];exact Nat.le_refl _|some y=>exact(g2 y rfl).1
    have e2:hN<=mN:=by
     cases hi with
     | none => rcases hmx with h | h
               ·rw[h1 rfl,g1 h];exact hlc
               ·exact absurd rfl h
     |some y=>exact(h2 y rfl).1
    have e3:lN<=hN:=by cases lo with|none=>rw[h3 rfl];exact Nat.zero_le _|some y=>exact(h4 y rfl).1
    have hrun:∀(base:Option Addr) (w:World),(Instr.sliceAt t (.slice base len cap) (lo.map a.eval) (hi.map a.eval) (mx.map a.eval)).run X.P w = .ok (.slice (if mN=lN then base else base.map (·.add (lN*te.sz))) (hN-lN) (mN-lN)) w:=by
     intro base w;simp only[Instr.sliceAt,Sem.run_bind,run_underlying hut,Result.andThen_ok,Instr.slice,hb,cu tye,Sem.run_pure]
    rcases hv with⟨hl0,hc0,rfl⟩ | ⟨o,rfl,ho⟩
    ·refine⟨_,.a (.slc tg (r+lN) te.sz (hN-lN) (mN-lN)),by have:=hrun none;rw[hl0,hc0]at this;exact this,⟨htg,by omega,by omega,.inl ⟨by omega,by omega,?_⟩⟩,h⟩;have:mN=lN:=by omega
     rw[if_pos this];congr 1<;>omega
    ·refine⟨_,.a (.slc tg (r+lN) te.sz (hN-lN) (mN-lN)),hrun _,⟨htg,by omega,by omega,?_⟩,h⟩;by_cases hml:mN=lN
     ·refine .inr ⟨o,by rw[if_pos hml],fun hne=>absurd (by omega) hne⟩
     ·obtain⟨rfl,hN'⟩:=ho (by omega);refine .inr ⟨⟨(ρ.pl tg).blk,(ρ.pl tg).off+r*te.sz+lN*te.sz,none⟩,?_,fun _=>⟨by rw[Nat.add_mul,Nat.add_assoc],by omega⟩⟩;rw[if_neg hml];simp only[Option.map_some,Addr.add_plain]
   ·exact h.elim
  ·exact h.elim
 ·
  rename_i ti hti;have ty:=hX.ty hti;split at h
  ·rename_i el hd;have hut:=cF (ty.desc.trans hd);split at h
   ·rename_i te hte;have tye:=hX.ty hte;cases hb0:(mx.isNone||hi.isSome)
    ·simp[hb0]at h
    simp only[hb0,cond_true]at h;simp only[Bool.or_eq_true]at hb0;have hmx:mx=none\/hi≠none:=by
     rcases hb0 with h|h
     ·exact .inl (by simpa using h)
     ·exact .inr (by intro h';rw[h']at h;cases h)
    obtain⟨mN,h,g1,g2⟩:=iX (P:=X.P) h hf;obtain⟨hN,h,h1,h2⟩:=iX (P:=X.P) h hf;obtain⟨lN,h,h3,h4⟩:=iX (P:=X.P) h hf;have hb:=fun w=>oe (P:=X.P) (isSlice:=true) (len:=0) (cap:=0) (lo:=lo) (hi:=hi) (mx:=mx) (a:=a) (w:=w) (m:=mN) (h:=hN) (l:=lN) hmx ⟨g1,g2⟩ ⟨h1,h2⟩ ⟨h3,h4⟩;have hu':u = .slice none 0 0:=hu;subst hu';have e1:mN<=0:=by cases mx with|none=>rw[g1 rfl];exact Nat.le_refl _|some y=>exact(g2 y rfl).1
    have e2:hN<=mN:=by
     cases hi with
     |none=>rw[h1 rfl];exact Nat.zero_le _
     |some y=>exact(h2 y rfl).1
    have e3:lN<=hN:=by cases lo with|none=>rw[h3 rfl];exact Nat.zero_le _|some y=>exact(h4 y rfl).1
    refine⟨.slice none 0 0,.a .cc,fun w=>?_,rfl,h⟩;obtain rfl:mN=0:=by omega
    obtain rfl:hN=0:=by omega
    obtain rfl:lN=0:=by omega
    simp only[Instr.sliceAt,Sem.run_bind,run_underlying hut,Result.andThen_ok,Instr.slice,hb,cu tye,Sem.run_pure];simp
   ·exact h.elim
  ·exact h.elim
 ·
  rename_i ti tg r e c hti;have ty:=hX.ty hti;split at h
  ·rename_i n el hd;have hut:=Kw (ty.desc.trans hd);split at h
   ·rename_i te hte;have tye:=hX.ty hte;cases hb0:((Nat.beq te.sz 1&&Nat.ble n aq)&&(mx.isNone||hi.isSome))
    ·simp[hb0]at h
    simp only[hb0,cond_true]at h;simp only[Bool.and_eq_true,Bool.or_eq_true]at hb0;have hsz:=Nat.eq_of_beq_eq_true hb0.1.1;have hnm:=Nat.le_of_ble_eq_true hb0.1.2;have hmx:mx=none\/hi≠none:=by
     rcases hb0.2 with h|h
     ·exact .inl (by simpa using h)
     ·exact .inr (by intro h';rw[h']at h;cases h)
    obtain⟨mN,h,g1,g2⟩:=iX (P:=X.P) h hf;obtain⟨hN,h,h1,h2⟩:=iX (P:=X.P) h hf;obtain⟨lN,h,h3,h4⟩:=iX (P:=X.P) h hf;obtain⟨hlm,h⟩:=h;have hb:=fun w=>oe (P:=X.P) (isSlice:=false) (len:=n) (cap:=n) (lo:=lo) (hi:=hi) (mx:=mx) (a:=a) (w:=w) (m:=mN) (h:=hN) (l:=lN) hmx ⟨g1,g2⟩ ⟨h1,h2⟩ ⟨h3,h4⟩;obtain⟨htg,rfl⟩:=hu;have e1:mN<=n:=by cases mx with|none=>rw[g1 rfl];exact Nat.le_refl _|some y=>exact(g2 y rfl).1
    have e2:hN<=mN:=by
     cases hi with
     |none =>
      rw[h1 rfl];rcases hmx with h|h
      ·rw[g1 h];exact Nat.le_refl _
      ·exact absurd rfl h
     |some y=>exact(h2 y rfl).1
    have hne:mN≠lN:=by omega
    have hadd:(⟨(ρ.pl tg).blk,(ρ.pl tg).off+r*e+c,none⟩:Addr).add (lN*te.sz)=⟨(ρ.pl tg).blk,(ρ.pl tg).off+r*e+(c+lN),none⟩:=by rw[Addr.add_plain,hsz,Nat.mul_one,Nat.add_assoc]
    refine⟨.slice (some ⟨(ρ.pl tg).blk,(ρ.pl tg).off+r*e+(c+lN),none⟩) (hN-lN) (mN-lN),.a (.sub tg r e (c+lN) (hN-lN) (mN-lN)),fun w=>?_,⟨htg,by omega,by omega,rfl⟩,h⟩;rw[<- hadd];simp only[Instr.sliceAt,Instr.sureAddr,Sem.run_bind,run_underlying hut,Result.andThen_ok,hb,cu tye,Sem.run_pure,if_neg hne]
   ·exact h.elim
  ·exact h.elim
 ·exact h.elim
def S0(X:Cx)(t:Nat)(x y:SV)(s:S)(K:KV):Prop :=
 match X.ti t,x,y with
 |some ti,.a .cc,.a y =>
  match ti.d,y.i? with
  |.slc e,some (k,n) =>
   match X.ti e with
   |some te=>bif pq k .i64&&(lS te.ks te.zero&&(Nat.ble 1 te.bytes&&Nat.ble 1 te.sz))then
    (1<=n/\n*(te.bytes:Int)<=140737488355328)/\∀cap,n.toNat<=cap->cap<=aq->K (.a (.slc s.nx 0 te.sz n.toNat cap)) (s.new (.arr e te.ks n.toNat fun _ j=>(te.zero.map A.Af).getD j undef))else False
   |none=>False
  |_,_=>False
 |_,_,_=>False
theorem Xb{X:Cx}(hX:X.Ok){t xt rt:Nat}{ik:IntKind}(hxt:X.P.underlying xt=some (.int ik)){x y:SV}{s:S}{K:KV}(h:S0 X t x y s K){w0:World}{M:Nat->Prop}{ρ:Env}(hρ:ρ.n=s.nx)
 {w:World} (hh:aj w0 M ρ s.hp w) {u v:Value} (hu:x.cz ρ u) (hv:y.cz ρ v) :
 ∃r w' ρ',(Builtin.append_ #[t,xt] rt #[u,v]).run X.P w = .ok r w'/\ρ.le ρ'/\∃sv s',K sv s'/\s'.nt=s.nt/\s'.fr=s.fr/\ρ'.n=s'.nx/\sv.cz ρ' r/\aj w0 M ρ' s'.hp w':=by
 unfold S0 at h;split at h
 ·rename_i ti y hti;have ty:=hX.ty hti;split at h
  ·rename_i e k n hd hy;split at h
   ·rename_i te hte;have tye:=hX.ty hte;cases hb:(pq k .i64&&(lS te.ks te.zero&&(Nat.ble 1 te.bytes&&Nat.ble 1 te.sz)))
    ·simp[hb]at h
    simp only[hb,cond_true]at h;simp only[Bool.and_eq_true]at hb;obtain⟨hk,hfit,hby,hsz⟩:=hb;have:=mw hk;subst this;have hby:=Nat.le_of_ble_eq_true hby;have hsz:=Nat.le_of_ble_eq_true hsz;obtain⟨⟨h1,h2⟩,hK⟩:=h;have hu':u = .slice none 0 0:=hu;subst hu';obtain⟨rfl,hnr⟩:=A.kq hy hv;have hut:=cF (ty.desc.trans hd);obtain⟨j,hj,hj1,hj2,z,hz,hzl,hzero,hok,_⟩:=tye.info;obtain⟨hzc,hzk⟩:=yc (ρ:=ρ) hfit hzero hok;have hks:=lK tye;obtain⟨m,rfl⟩:∃m:Nat,n=m:=⟨n.toNat,by omega⟩
    simp only[Int.toNat_natCast]at hK;have hmb:m*te.bytes<=140737488355328:=by
     have:((m*te.bytes:Nat):Int)<=140737488355328:=by rw[Int.natCast_mul];exact h2
     omega
    have hm1:1<=m:=by omega
    have hml:m<=aq:=by
     have:m*1<=m*te.bytes:=Nat.mul_le_mul_left m hby;unfold aq;omega
    have hrun:(Builtin.append_ #[t,xt] rt #[.slice none 0 0,.int .i64 (m:Int)]).run X.P w =
     .ok (.slice (some ⟨w.heap.size,0,none⟩) m (grownCap w m 0 e)) (w.drew.alloc (.cells (Builtin.zeroCells z.cells m++Builtin.zeroCells z.cells (grownCap w m 0 e-m)) e)):=by
     have g2:¬(281474976710656<Builtin.nextslicecap m 0*j.bytes):=by
      have:=growslice_fits (bytes:=j.bytes) (show 0<m by omega) (by rw[hj2];exact hmb);omega
     have g3:¬(m=0):=by omega
     have hq:(Question.appendCap m 0 e).forced=false:=rfl;have hti:∀w',(typeInfo e).run X.P w' = .ok j w':=by intro w';simp[typeInfo,hj]
     have hw:IntKind.i64.wrap (m:Int)=(m:Int):=fM hnr;have g5:¬(281474976710656<(m:Int)*(j.bytes:Int)):=by
      rw[hj2];generalize (m:Int)*(te.bytes:Int)=q at *;omega
     have g4:¬((m:Int)<0):=by omega
     have g6:¬(m*te.sz=0):=by
      have:0<m*te.sz:=Nat.mul_pos (by omega) (by omega);omega
     have g7:¬(9223372036854775807<(m:Int)):=by
      simp only[bR]at hnr;omega
     simp[Builtin.append_,run_underlying hut,run_underlying hxt,cu tye,asInt,asIntOf,hw,g2,g3,g4,g5,g6,g7,hti,hq,zeroValue,hz,newRow,grownCap,Builtin.firstCells]
    have hzs:z.cells.size=te.ks.length:=by rw[hks];simpa using hzl
    have hcap:=grownCap_ge w m 0 e;have hcap2:=grownCap_le_maxLen w m 0 e hml;obtain⟨ρ',p1,p2,p3,p4⟩:=hh.drew.CZ e (ks:=te.ks) (n:=m) (N:=grownCap w m 0 e) (rows:=fun _ j=>(te.zero.map A.Af).getD j undef) (vs:=Builtin.zeroCells z.cells m++Builtin.zeroCells z.cells (grownCap w m 0 e-m)) (0,0) (fun o _ ho=>by omega) (Nat.le_refl _)
     (by
      simp only[Array.size_append,size_zeroCells,hzs,<- Nat.add_mul];exact Nat.le_of_eq (by congr 1;omega)) hcap
     (fun i hi j k hk=>by
      have hjl:j<te.ks.length:=(List.getElem?_eq_some_iff.1 hk).1;have hcl:(Builtin.zeroCells z.cells m).toList=rep m z.cells.toList:=by
       have:=qI z.cells m te.ks.length hzs;rw[<- this,Builtin.zeroCells,hzs]
      have hlt:i*te.ks.length+j<m*z.cells.toList.length:=by
       have:=Nat.mul_le_mul_right te.ks.length hi;rw[Nat.succ_mul]at this;rw[hzl];rw[hks]at this hjl ⊢;omega
      have hlt2:i*te.ks.length+j<(Builtin.zeroCells z.cells m).size:=by
       rw[size_zeroCells];simpa using hlt
      have e1:(rep m z.cells.toList)[i*te.ks.length+j]? = z.cells.toList[j]?:=by
       rw[wX _ _ _ hlt,hzl,<- hks,Nat.mul_comm,Nat.mul_add_mod,Nat.mod_eq_of_lt hjl]
      have hjz:j<z.cells.toList.length:=by rw[hzl,<- hks];exact hjl
      have e2:z.cells.toList[j]? = some ((te.zero.map A.Af).getD j undef):=by
       rw[<- hzc];simp only[List.getD,List.getElem?_eq_getElem hjz,Option.getD_some]
      rw[Array.getElem?_append_left hlt2,<- Array.getElem?_toList,hcl,e1,e2];exact⟨rfl,hzk j _ k e2 hk⟩)
    refine⟨_,_,ρ',hrun,p1,_,_,hK _ hcap hcap2,rfl,rfl,?_,?_,?_⟩
    ·rw[p2,hρ];rfl
    ·refine⟨by rw[p2,hρ];omega,hcap,hcap2,.inr ⟨_,rfl,fun _=>?_⟩⟩
     ·rw[<- hρ,p3];exact⟨by simp only[Nat.zero_mul,Nat.add_zero]<;>rfl,by simp⟩
    ·rw[hρ]at p4;exact p4
   ·exact h.elim
  ·exact h.elim
 ·exact h.elim
end
section
variable {P:Program}
def Xc(force:Bool)(len:Nat)(K:Bool->Prop)(no:Prop):Prop:=bif force then(bif Nat.beq len 0 then False else no)else ∀b:Bool,(b=true->len=0)->K b
theorem Cu{force:Bool}{len:Nat}{K:Bool->Prop}{no:Prop}(h:Xc force len K no):(len=0->K true\/(False))/\(K false\/(no/\len≠0)):=by
 cases force with
 |false=>exact⟨fun h0=>.inl (h true fun _=>h0),.inl (h false fun h=>by cases h)⟩
 |true =>
  simp only[Xc,cond_true]at h;cases hb:Nat.beq len 0 with
  |true=>rw[hb]at h;exact h.elim
  |false =>
   rw[hb]at h;have h0:len≠0:=fun e=>by subst e;cases hb
   exact⟨fun e=>absurd e h0,.inr ⟨h,h0⟩⟩
def zk(X:Cx)(op:BinOp)(t:Nat)(x y:A)(K:A->Prop):Prop :=
 match x,y with
 |.str a,.str b =>
  match op with
  |.eql=>K (.bool (decide (a=b)))
  |.neq=>K (.bool (!decide (a=b)))
  |.lss=>K (.bool (Op.bytesLess a.toList b.toList))
  |.gtr=>K (.bool (!(Op.bytesLess a.toList b.toList||decide (a=b))))
  |.leq=>K (.bool (Op.bytesLess a.toList b.toList||decide (a=b)))
  |.geq=>K (.bool (!Op.bytesLess a.toList b.toList))
  |.add=>a.size+b.size<=aq/\K (.str (a++b))
  |_=>False
 |.nil,.nil=>match X.ti t,op with
  |some ti,.eql=>match ti.d with | .ptr=>K .tt|_=>False
  |some ti,.neq=>match ti.d with | .ptr=>K .ff|_=>False
  |_,_=>False
 |.ptr _ _ _ _,.nil=>match X.ti t,op with
  |some ti,.eql=>match ti.d with | .ptr=>K .ff|_=>False
  |some ti,.neq=>match ti.d with | .ptr=>K .tt|_=>False
  |_,_=>False
 |.cc,.cc=>match X.ti t,op with
  |some ti,.eql=>match ti.d with | .slc _=>K .tt|_=>False
  |some ti,.neq=>match ti.d with | .slc _=>K .ff|_=>False
  |_,_=>False
 |.slc _ _ _ len _,.cc=>match X.ti t,op with
  |some ti,.eql=>match ti.d with | .slc _=>Xc X.force len (fun b=>K (.bool b)) (K .ff)|_=>False
  |some ti,.neq=>match ti.d with | .slc _=>Xc X.force len (fun b=>K (.bool (!b))) (K .tt)|_=>False
  |_,_=>False
 |.sub _ _ _ _ _ _,.cc=>match X.ti t,op with
  |some ti,.eql=>match ti.d with | .slc _=>K .ff|_=>False
  |some ti,.neq=>match ti.d with | .slc _=>K .tt|_=>False
  |_,_=>False
 |x,y =>
  match x.b?,y.b?,X.ti t,op with
  |some a,some b,some ti,.eql=>match ti.d with | .bool=>K (.bool (a == b))|_=>False
  |some a,some b,some ti,.neq=>match ti.d with | .bool=>K (.bool (!(a == b)))|_=>False
  |_,_,_,_=>False
def Ky(X:Cx)(op:BinOp)(t:Nat)(x y:A)(K:A->Prop):Prop :=
 match x,y with
 |.lit k a,.lit j b=>Ae op k a j b K
 |x,y =>
  match x.i?,y.i? with
  |some (k,a),some (j,b)=>bif X.force then Ae op k a j b K else Mk op k a j b K
  |none,none=>zk X op t x y K
  |_,_=>False
theorem toList_inj(a b:ByteArray):(a.toList == b.toList)=decide (a=b):=by
 by_cases h:a=b
 ·subst h;simp
 ·have:a.toList≠b.toList:=by
   intro hh;apply h;have e:a.data.toList=b.data.toList:=by rw[<- ByteArray.toList_eq,<- ByteArray.toList_eq,hh]
   cases a;cases b;simp at e;rw[e]
  simp[h,this]
theorem FQ{t:TypeId}{x y:Value}{b:Bool}{w:World}(h:∀d,(Op.equalIn (d+1) t x y).run P w = .ok b w):(Op.equal t x y).run P w = .ok b w:=h 9999
theorem oK{t:TypeId}{x y:Value}{b:Bool}{w:World}(h:∀d,(Op.equalIn (d+1) t x y).run P w = .ok b w):(do Pure.pure (Value.bool (<- Op.equal t x y)):Sem Value).run P w = .ok (.bool b) w:=by
 simp[FQ h]
theorem oL{t:TypeId}{x y:Value}{b:Bool}{w:World}(h:∀d,(Op.equalIn (d+1) t x y).run P w = .ok b w):(do Pure.pure (Value.bool (!(<- Op.equal t x y))):Sem Value).run P w = .ok (.bool (!b)) w:=by
 simp[FQ h]
theorem Kz{X:Cx}(hX:X.Ok){op:BinOp}{t:Nat}{x y:A}{K:A->Prop}(h:zk X op t x y K){ρ:Env}{u v:Value}(hu:x.cz ρ u)(hv:y.cz ρ v) :
 ∃z r,K z/\z.cz ρ r/\∀w:World,(binOp op t u v).run X.P w = .ok r w:=by
 unfold zk at h;split at h
 ·rename_i a b;obtain⟨rfl,ha⟩:=hu;obtain⟨rfl,hb⟩:=hv;split at h
  ·exact⟨_,_,h,rfl,fun w=>by simp[binOp,Op.stringOp,toList_inj]⟩
  ·exact⟨_,_,h,rfl,fun w=>by simp[binOp,Op.stringOp,toList_inj]⟩
  ·exact⟨_,_,h,rfl,fun w=>by simp[binOp,Op.stringOp]⟩
  ·exact⟨_,_,h,rfl,fun w=>by simp[binOp,Op.stringOp,toList_inj]⟩
  ·exact⟨_,_,h,rfl,fun w=>by simp[binOp,Op.stringOp,toList_inj]⟩
  ·exact⟨_,_,h,rfl,fun w=>by simp[binOp,Op.stringOp]⟩
  ·obtain⟨h1,h⟩:=h;refine⟨_,_,h,⟨rfl,by simpa using h1⟩,fun w=>?_⟩;unfold aq at h1;simp[binOp,Op.stringOp];omega
  ·exact h.elim
 ·have hu':u = .pointer none:=hu;have hv':v = .pointer none:=hv;subst hu' hv';split at h
  ·rename_i ti hti;split at h
   ·rename_i hd;obtain⟨e,he⟩:=s8 ((hX.ty hti).desc.trans hd);exact⟨_,.bool true,h,rfl,fun w=>by simp only[binOp];exact oK fun d=>by simp[Op.equalIn,run_underlying he]⟩
   ·exact h.elim
  ·rename_i ti hti;split at h
   ·rename_i hd;obtain⟨e,he⟩:=s8 ((hX.ty hti).desc.trans hd);exact⟨_,.bool (!true),h,rfl,fun w=>by simp only[binOp];exact oL fun d=>by simp[Op.equalIn,run_underlying he]⟩
   ·exact h.elim
  ·exact h.elim
 ·obtain⟨_,rfl⟩:=hu;have hv':v = .pointer none:=hv;subst hv';split at h
  ·rename_i ti hti;split at h
   ·rename_i hd;obtain⟨e,he⟩:=s8 ((hX.ty hti).desc.trans hd);exact⟨_,.bool false,h,rfl,fun w=>by simp only[binOp];exact oK fun d=>by simp[Op.equalIn,run_underlying he]⟩
   ·exact h.elim
  ·rename_i ti hti;split at h
   ·rename_i hd;obtain⟨e,he⟩:=s8 ((hX.ty hti).desc.trans hd);exact⟨_,.bool (!false),h,rfl,fun w=>by simp only[binOp];exact oL fun d=>by simp[Op.equalIn,run_underlying he]⟩
   ·exact h.elim
  ·exact h.elim
 ·have hu':u = .slice none 0 0:=hu;have hv':v = .slice none 0 0:=hv;subst hu' hv';split at h
  ·rename_i ti hti;split at h
   ·rename_i e hd;have he:=cF ((hX.ty hti).desc.trans hd);exact⟨_,.bool true,h,rfl,fun w=>by simp only[binOp];exact oK fun d=>by simp[Op.equalIn,run_underlying he]⟩
   ·exact h.elim
  ·rename_i ti hti;split at h
   ·rename_i e hd;have he:=cF ((hX.ty hti).desc.trans hd);exact⟨_,.bool (!true),h,rfl,fun w=>by simp only[binOp];exact oL fun d=>by simp[Op.equalIn,run_underlying he]⟩
   ·exact h.elim
  ·exact h.elim
 ·have hv':v = .slice none 0 0:=hv;subst hv';obtain⟨_,_,_,hcase⟩:=hu;split at h
  ·rename_i ti hti;split at h
   ·rename_i e hd;have he:=cF ((hX.ty hti).desc.trans hd);rcases hcase with⟨h0,_,rfl⟩ | ⟨o,rfl,_⟩
    ·exact⟨_,.bool true,((Cu h).1 h0).resolve_right id,rfl,fun w=>by simp only[binOp];exact oK fun d=>by simp[Op.equalIn,run_underlying he]⟩
    ·rcases(Cu h).2 with h | ⟨h,_⟩
     ·exact⟨_,.bool false,h,rfl,fun w=>by simp only[binOp];exact oK fun d=>by simp[Op.equalIn,run_underlying he]⟩
     ·exact⟨_,.bool false,h,rfl,fun w=>by simp only[binOp];exact oK fun d=>by simp[Op.equalIn,run_underlying he]⟩
   ·exact h.elim
  ·rename_i ti hti;split at h
   ·rename_i e hd;have he:=cF ((hX.ty hti).desc.trans hd);rcases hcase with⟨h0,_,rfl⟩ | ⟨o,rfl,_⟩
    ·exact⟨_,.bool (!true),((Cu h).1 h0).resolve_right id,rfl,fun w=>by simp only[binOp];exact oL fun d=>by simp[Op.equalIn,run_underlying he]⟩
    ·rcases(Cu h).2 with h | ⟨h,_⟩
     ·exact⟨_,.bool (!false),h,rfl,fun w=>by simp only[binOp];exact oL fun d=>by simp[Op.equalIn,run_underlying he]⟩
     ·exact⟨_,.bool (!false),h,rfl,fun w=>by simp only[binOp];exact oL fun d=>by simp[Op.equalIn,run_underlying he]⟩
   ·exact h.elim
  ·exact h.elim
 ·have hv':v = .slice none 0 0:=hv;subst hv';obtain⟨_,_,_,rfl⟩:=hu;split at h
  ·rename_i ti hti;split at h
   ·rename_i e hd;have he:=cF ((hX.ty hti).desc.trans hd);exact⟨_,.bool false,h,rfl,fun w=>by simp only[binOp];exact oK fun d=>by simp[Op.equalIn,run_underlying he]⟩
   ·exact h.elim
  ·rename_i ti hti;split at h
   ·rename_i e hd;have he:=cF ((hX.ty hti).desc.trans hd);exact⟨_,.bool (!false),h,rfl,fun w=>by simp only[binOp];exact oL fun d=>by simp[Op.equalIn,run_underlying he]⟩
   ·exact h.elim
  ·exact h.elim
 ·split at h
  ·rename_i a b ti ha hb hti;split at h
   ·rename_i hd;have he:=wW ((hX.ty hti).desc.trans hd);have:=A.ya ha hu;subst this;have:=A.ya hb hv;subst this;exact⟨_,.bool (a == b),h,rfl,fun w=>by simp only[binOp];exact oK fun d=>by simp[Op.equalIn,run_underlying he]⟩
   ·exact h.elim
  ·rename_i a b ti ha hb hti;split at h
   ·rename_i hd;have he:=wW ((hX.ty hti).desc.trans hd);have:=A.ya ha hu;subst this;have:=A.ya hb hv;subst this;exact⟨_,.bool (!(a == b)),h,rfl,fun w=>by simp only[binOp];exact oL fun d=>by simp[Op.equalIn,run_underlying he]⟩
   ·exact h.elim
  ·exact h.elim
theorem S1{X:Cx}(hX:X.Ok){op:BinOp}{t:Nat}{x y:A}{K:A->Prop}(h:Ky X op t x y K){ρ:Env}{u v:Value}(hu:x.cz ρ u)(hv:y.cz ρ v) :
 ∃z r,K z/\z.cz ρ r/\∀w:World,(binOp op t u v).run X.P w = .ok r w:=by
 unfold Ky at h;split at h
 ·rename_i k a j b;obtain⟨rfl,h1⟩:=hu;obtain⟨rfl,h2⟩:=hv;obtain⟨z,r,a,b,c⟩:=FJ X.P op k j a b t h1 h2 h;exact⟨z,r,a,b ρ,c⟩
 ·split at h
  ·rename_i k a j b h1 h2;obtain⟨rfl,h1⟩:=A.kq h1 hu;obtain⟨rfl,h2⟩:=A.kq h2 hv;cases hf:X.force with
   |true =>
    rw[hf]at h;obtain⟨z,r,a,b,c⟩:=FJ X.P op k j a b t h1 h2 h;exact⟨z,r,a,b ρ,c⟩
   |false =>
    rw[hf]at h;obtain⟨z,r,a,b,c⟩:=Qz X.P op k j a b t h1 h2 h;exact⟨z,r,a,b ρ,c⟩
  ·exact Kz hX h hu hv
  ·exact h.elim
def A.plain:A->Bool
 |.any=>false
 |.val _=>false
 |_=>true
theorem KA{X:Cx}{op:BinOp}{t:Nat}{x y:A}{K:A->Prop}(h:Ky X op t x y K):x.plain=true:=by
 cases x<;>first|rfl|(exfalso;cases y<;>simp[Ky,zk,A.i?,A.b?]at h)
theorem Fo(op:BinOp)(t:TypeId)(x y:Operand){ρ:Env}{a:A}{u:Value}(hu:a.cz ρ u)(ha:a.plain=true)(v:Value)(w:World):(eqGuard op t x y u v).run P w = .ok () w:=by
 have:u≠.nilIface/\(∀cs,u≠.agg cs):=by
  cases a<;>simp only[A.plain]at ha<;>first|(cases ha;done)|skip
  case slc=>obtain⟨_,_,_,⟨_,_,rfl⟩ | ⟨_,rfl,_⟩⟩:=hu<;>exact⟨by simp,by simp⟩
  case sub=>obtain⟨_,_,_,rfl⟩:=hu;exact⟨by simp,by simp⟩
  all_goals first|(have hu':u=_:=hu;subst hu';exact⟨by simp,by simp⟩)|(have hu':u=_:=hu.1;subst hu';exact⟨by simp,by simp⟩)|(have hu':u=_:=hu.2;subst hu';exact⟨by simp,by simp⟩)
 unfold eqGuard;cases op<;>first|rfl|skip
 all_goals
  simp only;cases u<;>first|rfl|exact absurd rfl this.1|exact absurd rfl (this.2 _)
def Zg(X:Cx)(t:Nat)(x:SV)(K:A->Prop):Prop :=
 match X.ti t,x with
 |some ti,.a (.str s)=>match ti.d with | .str=>K (.int .i64 s.size)|_=>False
 |some ti,.a (.slc _ _ _ len _)=>match ti.d with | .slc _=>K (.int .i64 len)|_=>False
 |some ti,.a .cc=>match ti.d with | .slc _=>K (.lit .i64 0)|_=>False
 |some ti,.a (.sub _ _ _ _ len _)=>match ti.d with | .slc _=>K (.int .i64 len)|_=>False
 |_,_=>False
theorem Zh{X:Cx}(hX:X.Ok){t rt:Nat}{x:SV}{K:A->Prop}(h:Zg X t x K){ρ:Env}{u:Value}(hu:x.cz ρ u) :
 ∃z r,K z/\z.cz ρ r/\∀w:World,(Builtin.len_ #[t] rt #[u]).run X.P w = .ok r w:=by
 unfold Zg at h;split at h
 ·rename_i ti s hti;split at h
  ·rename_i hd;have he:=oO ((hX.ty hti).desc.trans hd);obtain⟨rfl,hs⟩:=hu;refine⟨_,_,h,⟨rfl,by constructor<;>unfold aq at hs<;>omega⟩,fun w=>by simp[Builtin.len_,run_underlying he,goInt]⟩
  ·exact h.elim
 ·rename_i ti tg r e len cap hti;split at h
  ·rename_i el hd;have he:=cF ((hX.ty hti).desc.trans hd);obtain⟨_,h1,h2,hc⟩:=hu;refine⟨_,.int .i64 len,h,⟨rfl,by constructor<;>unfold aq at h2<;>omega⟩,fun w=>?_⟩;rcases hc with⟨rfl,_,rfl⟩ | ⟨o,rfl,_⟩<;>simp[Builtin.len_,run_underlying he,goInt]
  ·exact h.elim
 ·rename_i ti hti;split at h
  ·rename_i el hd;have he:=cF ((hX.ty hti).desc.trans hd);have hu':u = .slice none 0 0:=hu;subst hu';exact⟨_,.int .i64 0,h,⟨rfl,by constructor<;>omega⟩,fun w=>by simp[Builtin.len_,run_underlying he,goInt]⟩
  ·exact h.elim
 ·rename_i ti tg r e o len cap hti;split at h
  ·rename_i el hd;have he:=cF ((hX.ty hti).desc.trans hd);obtain⟨_,h1,h2,rfl⟩:=hu;exact⟨_,.int .i64 len,h,⟨rfl,by constructor<;>unfold aq at h2<;>omega⟩,fun w=>by simp[Builtin.len_,run_underlying he,goInt]⟩
  ·exact h.elim
 ·exact h.elim
def Zi(X:Cx)(t:Nat)(x:SV)(K:A->Prop):Prop :=
 match X.ti t,x with
 |some ti,.a (.slc _ _ _ _ cap)=>match ti.d with | .slc _=>K (.int .i64 cap)|_=>False
 |some ti,.a .cc=>match ti.d with | .slc _=>K (.lit .i64 0)|_=>False
 |_,_=>False
theorem Zj{X:Cx}(hX:X.Ok){t rt:Nat}{x:SV}{K:A->Prop}(h:Zi X t x K){ρ:Env}{u:Value}(hu:x.cz ρ u) :
 ∃z r,K z/\z.cz ρ r/\∀w:World,(Builtin.cap_ #[t] rt #[u]).run X.P w = .ok r w:=by
 unfold Zi at h;split at h
 ·rename_i ti tg r e len cap hti;split at h
  ·rename_i el hd;have he:=cF ((hX.ty hti).desc.trans hd);obtain⟨_,h1,h2,hc⟩:=hu;refine⟨_,.int .i64 cap,h,⟨rfl,by constructor<;>unfold aq at h2<;>omega⟩,fun w=>?_⟩;rcases hc with⟨_,rfl,rfl⟩ | ⟨o,rfl,_⟩<;>simp[Builtin.cap_,run_underlying he,goInt]
  ·exact h.elim
 ·rename_i ti hti;split at h
  ·rename_i el hd;have he:=cF ((hX.ty hti).desc.trans hd);have hu':u = .slice none 0 0:=hu;subst hu';exact⟨_,.int .i64 0,h,⟨rfl,by constructor<;>omega⟩,fun w=>by simp[Builtin.cap_,run_underlying he,goInt]⟩
  ·exact h.elim
 ·exact h.elim
def Pg(mx:Bool)(x y:A)(K:A->Prop):Prop :=
 match x,y with
 |.lit k a,.lit j b=>bif pq k j then K (.lit k (if(bif mx then decide (a<b)else decide (b<a))=true then b else a))else False
 |x,y =>
  match x.i?,y.i? with
  |some (k,a),some (j,b)=>bif pq k j then K (.int k (bif mx then max a b else min a b))else False
  |_,_=>False
theorem Ph{P:Program}{mx:Bool}{x y:A}{K:A->Prop}(h:Pg mx x y K){ρ:Env}{u v:Value}(hu:x.cz ρ u)(hv:y.cz ρ v) :
 ∃z r,K z/\z.cz ρ r/\∀w:World,((bif mx then Builtin.max_ #[] 0 #[u,v]else Builtin.min_ #[] 0 #[u,v]):Sem Value).run P w = .ok r w:=by
 have key:∀(k:IntKind) (a b:Int) (w:World),((bif mx then Builtin.max_ #[] 0 #[.int k a,.int k b]else Builtin.min_ #[] 0 #[.int k a,.int k b]):Sem Value).run P w = .ok (.int k (if(bif mx then decide (a<b)else decide (b<a))=true then b else a)) w:=by
  intro k a b w;cases mx<;>simp[Builtin.max_,Builtin.min_,Builtin.min2,Builtin.max2]
 unfold Pg at h;split at h
 ·rename_i k a j b;cases hk:pq k j
  ·simp[hk]at h
  simp only[hk,cond_true]at h;have:=mw hk;subst this;obtain⟨rfl,h1⟩:=hu;obtain⟨rfl,h2⟩:=hv;refine⟨_,_,h,⟨rfl,?_⟩,key k a b⟩;split<;>assumption
 ·split at h
  ·rename_i k a j b h1 h2;obtain⟨rfl,h1⟩:=A.kq h1 hu;obtain⟨rfl,h2⟩:=A.kq h2 hv;cases hk:pq k j
   ·simp[hk]at h
   simp only[hk,cond_true]at h;have:=mw hk;subst this;have e:(bif mx then max a b else min a b)=(if(bif mx then decide (a<b)else decide (b<a))=true then b else a):=by
    cases mx<;>simp<;>omega
   refine⟨_,_,h,⟨?_,?_⟩,key k a b⟩
   ·rw[e]
   ·rw[e];split<;>assumption
  ·exact h.elim
def fits(j k:IntKind):Bool:=match j,k with
 |.u8,.u8=>true | .u8,.u16=>true | .u8,.u32=>true | .u8,.u64=>true | .u8,.i16=>true | .u8,.i32=>true | .u8,.i64=>true
 |.u16,.u16=>true | .u16,.u32=>true | .u16,.u64=>true | .u16,.i32=>true | .u16,.i64=>true
 |.u32,.u32=>true | .u32,.u64=>true | .u32,.i64=>true
 |.u64,.u64=>true
 |.i8,.i8=>true | .i8,.i16=>true | .i8,.i32=>true | .i8,.i64=>true
 |.i16,.i16=>true | .i16,.i32=>true | .i16,.i64=>true
 |.i32,.i32=>true | .i32,.i64=>true
 |.i64,.i64=>true
 |_,_=>false
theorem Xd{j k:IntKind}(h:fits j k=true){n:Int}(hn:bR j n):bR k n:=by
 cases j<;>cases k<;>simp only[fits]at h<;>first|(cases h;done)|(simp only[bR]at hn ⊢;omega)
def S2(X:Cx)(src dst:Nat)(x:SV)(s:S)(K:KV):Prop :=
 match X.ti src,X.ti dst,x with
 |some _,some td,.a (.lit _ n)=>match td.d with
  |.int k=>K (.a (.lit k (k.wrap n))) s
  |_=>False
 |some _,some td,.a (.int j n)=>match td.d with
  |.int k=>bif fits j k then K (.a (.int k n)) s else K (.a (.int k (uw k n))) s
  |_=>False
 |_,_,_=>False
theorem Xe{X:Cx}(hX:X.Ok){src dst:Nat}{x:SV}{s:S}{K:KV}(h:S2 X src dst x s K){ρ:Env}{u:Value}(hu:x.cz ρ u) :
 ∃sv r,K sv s/\sv.cz ρ r/\∀w:World,(convert src dst u).run X.P w = .ok r w:=by
 unfold S2 at h;split at h
 ·rename_i ts td k n hs hd;split at h
  ·rename_i k' hdd;have he:=qG ((hX.ty hd).desc.trans hdd);obtain⟨d,hsd⟩:=(hX.ty hs).under;obtain⟨rfl,h1⟩:=hu;refine⟨_,.int k' (k'.wrap n),h,⟨rfl,iW _ _⟩,fun w=>?_⟩;simp only[convert,Sem.run_bind,run_underlying hsd,run_underlying he,Result.andThen_ok];cases d<;>rfl
  ·exact h.elim
 ·rename_i ts td j n hs hd;split at h
  ·rename_i k' hdd;have he:=qG ((hX.ty hd).desc.trans hdd);obtain⟨d,hsd⟩:=(hX.ty hs).under;obtain⟨rfl,h1⟩:=hu;have hrun:∀w:World,(convert src dst (.int j n)).run X.P w = .ok (.int k' (k'.wrap n)) w:=by
    intro w;simp only[convert,Sem.run_bind,run_underlying hsd,run_underlying he,Result.andThen_ok];cases d<;>rfl
   cases hf:fits j k'
   ·rw[hf]at h;exact⟨_,_,h,⟨rfl,tK _ _⟩,by simp only[<- FI];exact hrun⟩
   ·rw[hf]at h;have:=Xd hf h1;exact⟨_,_,h,⟨rfl,this⟩,by simp only[fM this]at hrun;exact hrun⟩
  ·exact h.elim
 ·exact h.elim
def iY(rows:Nat->Nat->Value)(r l:Nat):ByteArray:=((List.range l).map fun i=>jW (rows (r+i) 0)).foldl (fun s n=>s.push (UInt8.ofNat n.toNat)) .empty
theorem uU:∀(ns:List Int) (s:ByteArray),(ns.foldl (fun s n=>s.push (UInt8.ofNat n.toNat)) s).size=s.size+ns.length
 |[],_=>rfl
 |n::ns,s=>by
  rw[List.foldl_cons,uU ns,ByteArray.size_push,List.length_cons];omega
theorem si(rows:Nat->Nat->Value)(r l:Nat):(iY rows r l).size=l:=by
 unfold iY;rw[uU,List.length_map,List.length_range];show 0+l=l;omega
def Ms(X:Cx)(src dst:Nat)(x:SV)(s:S)(K:KV):Prop :=
 match x with
 |.a (.slc tg r e len _) =>
  match X.ti src,X.ti dst,s.hp.find tg with
  |some ts,some td,some (_,.arr _ ks n rows) =>
   match ts.d,td.d with
   |.slc et,.str=>match X.ti et with
    |some te=>match te.d with
     |.int .u8=>bif Nat.beq e 1&&nh ks [.int .u8]then need X.force (r+len<=n) (K (.a (.str (iY rows r len))) s)else False
     |_=>False
    |none=>False
   |_,_=>False
  |_,_,_=>False
 |x=>S2 X src dst x s K
theorem S3{X:Cx}(hX:X.Ok){src dst:Nat}{x:SV}{s:S}{K:KV}(h:Ms X src dst x s K){w0:World}{M:Nat->Prop}{ρ:Env}{w:World}(hh:aj w0 M ρ s.hp w){u:Value}(hu:x.cz ρ u) :
 ∃sv r,K sv s/\sv.cz ρ r/\∀w':World,(∀t',Mj x=some t'->∀b,(ρ.pl t').fp b->w'.heap[b]? = w.heap[b]?)->(convert src dst u).run X.P w' = .ok r w':=by
 unfold Ms at h;split at h
 ·rename_i tg r e len cap;split at h
  ·rename_i ts td m ty ks n rows hs hd hfind;split at h
   ·rename_i et hsd hdd;split at h
    ·rename_i te hte;split at h
     ·rename_i hed;cases hb:(Nat.beq e 1&&nh ks [.int .u8])
      ·simp[hb]at h
      simp only[hb,cond_true]at h;simp only[Bool.and_eq_true]at hb;have he:=Nat.eq_of_beq_eq_true hb.1;have hk:=oP hb.2;subst he;subst hk;obtain⟨hr,h⟩:=kD h;have e1:=cF ((hX.ty hs).desc.trans hsd);have e2:=oO ((hX.ty hd).desc.trans hdd);have e3:=qG ((hX.ty hte).desc.trans hed);have hc:=(hh.iq _ (aJ.bu hfind)).ch;simp only at hc;obtain⟨_,hlc,hcm,hv⟩:=hu;refine⟨_,.string (iY rows r len),h,⟨rfl,by rw[si];omega⟩,fun w' hw=>?_⟩;by_cases h0:len=0
      ·subst h0;rcases hv with⟨_,_,rfl⟩ | ⟨o,rfl,_⟩
       ·rw[run_convert_bytes_string w' src dst et none _ _ e1 e3 e2];rfl
       ·rw[run_convert_bytes_string w' src dst et (some _) _ _ e1 e3 e2];rw[run_bytesToString w' _ 0 cap [] (by simp[loadCells,loadCellsFrom])];rfl
      ·rcases hv with⟨h1,_,_⟩ | ⟨o,rfl,ho⟩
       ·exact absurd h1 h0
       obtain⟨rfl,_⟩:=ho (by omega);have hc':(Chunk.arr ty [.int .u8] n rows).Sat ρ (ρ.pl tg) w':=by
        rcases hc with hc | ⟨vs,ty',fr,hb,h2,h3,h4,h5,h6⟩
        ·exact .inl hc
        ·exact .inr ⟨vs,ty',fr,by rw[hw tg rfl _ ((h5 _).2 rfl)];exact hb,h2,h3,h4,h5,h6⟩
       obtain⟨cells,c1,c2,c3⟩:=Ak (P:=X.P) hc' hr h0;rw[run_convert_bytes_string w' src dst et (some _) _ _ e1 e3 e2];have hcells:cells=(((List.range len).map fun i=>jW (rows (r+i) 0)).map (Value.int .u8)).toArray:=by
        apply Array.ext
        ·simp[c2]
        ·intro i hi1 hi2;have hi:i<len:=by simpa[c2]using hi1
         obtain⟨g1,k,g2,g3⟩:=c3 i hi 0 (.int .u8) rfl;simp only[List.length_singleton,Nat.mul_one,Nat.add_zero]at g1;have g4:cells[i]? = some cells[i]:=Array.getElem?_eq_getElem hi1;rw[g4]at g1;rw[Option.some.inj g1,g2];simp[g2,jW]
       have hl:=c1 w' rfl;simp only[List.length_singleton,Nat.mul_one]at hl;rw[hcells]at hl;simp only[Nat.mul_one];exact run_bytesToString w' _ len cap _ hl
     ·exact h.elim
    ·exact h.elim
   ·exact h.elim
  ·exact h.elim
 ·obtain⟨sv,r,h1,h2,h3⟩:=Xe hX h hu;exact⟨sv,r,h1,h2,fun w' _=>h3 w'⟩
end
section
variable {P:Program}
def Mt(X:Cx)(t:Nat)(x:SV)(f:Nat)(s:S)(K:KV):Prop :=
 match X.ti t,x with
 |some ti,.a (.ptr tg r e c) =>
  match ti.d with
  |.struct fs=>match fs[f]? with
   |some (off,sz)=>bif Nat.ble 1 sz then K (.a (.ptr tg r e (c+off))) s else False
   |none=>False
  |_=>False
 |_,_=>False
theorem S4{X:Cx}(hX:X.Ok){t:Nat}{x:SV}{f:Nat}{s:S}{K:KV}(h:Mt X t x f s K){ρ:Env}{u:Value}(hu:x.cz ρ u) :
 ∃sv r,K sv s/\sv.cz ρ r/\∀w:World,(Instr.fieldAt t u f).run X.P w = .ok r w:=by
 unfold Mt at h;split at h
 ·rename_i ti tg r e c hti;split at h
  ·rename_i fs hd;split at h
   ·rename_i off sz hf;cases hb:Nat.ble 1 sz
    ·simp[hb]at h
    simp only[hb,cond_true]at h;have hsz:=Nat.le_of_ble_eq_true hb;have ty:=hX.ty hti;obtain⟨gs,he,rfl⟩:=vt (ty.desc.trans hd);have hk:=ty.known;simp only[mR,he,List.all_eq_true]at hk;obtain⟨htg,rfl⟩:=hu;simp only[List.getElem?_map,Option.map_eq_some_iff]at hf;obtain⟨g,hg,e1⟩:=hf;cases e1;have hg':gs[f]? = some g:=by simpa using hg
    obtain⟨j,hj⟩:=Option.isSome_iff_exists.1 (hk g (List.mem_of_getElem? hg));refine⟨_,.pointer (some ⟨(ρ.pl tg).blk,(ρ.pl tg).off+r*e+c+g.offset,none⟩),h,⟨htg,by rw[Nat.add_assoc _ c]⟩,fun w=>?_⟩;have hne:j.size≠0:=by simp[Program.cellsOf,hj]at hsz;omega
    simp[Instr.fieldAt,run_underlying he,hg',Instr.sureAddr,fieldPlace,sizeOf,typeInfo,hj,hne,Addr.add_plain]
   ·exact h.elim
  ·exact h.elim
 ·exact h.elim
def Zk(X:Cx)(t:Nat)(x i:SV)(s:S)(K:KV):Prop :=
 match X.ti t,x,i with
 |some ti,.a (.slc tg r e len _),.a i =>
  match ti.d,i.i? with
  |.slc el,some (_,n)=>match X.ti el with
   |some te=>bif Nat.beq e te.sz then need X.force (0<=n/\n<(len:Int)) (K (.a (.ptr tg (r+n.toNat) e 0)) s)else False
   |none=>False
  |_,_=>False
 |some ti,.a (.sub tg r e c len _),.a i =>
  match ti.d,i.i? with
  |.slc el,some (_,n)=>match X.ti el with
   |some te=>bif Nat.beq te.sz 1 then need X.force (0<=n/\n<(len:Int)) (K (.a (.ptr tg r e (c+n.toNat))) s)else False
   |none=>False
  |_,_=>False
 |_,_,_=>False
theorem Zl{X:Cx}(hX:X.Ok){t:Nat}{x i:SV}{s:S}{K:KV}(h:Zk X t x i s K){ρ:Env}{u v:Value}(hu:x.cz ρ u)(hv:i.cz ρ v) :
 ∃sv r,K sv s/\sv.cz ρ r/\∀w:World,(Instr.indexAt t u v).run X.P w = .ok r w:=by
 unfold Zk at h;split at h
 ·rename_i ti tg r e len cap i hti;split at h
  ·rename_i el k n hd hi;split at h
   ·rename_i te hte;cases hb:Nat.beq e te.sz
    ·simp[hb]at h
    simp only[hb,cond_true]at h;have:=Nat.eq_of_beq_eq_true hb;subst this;obtain⟨⟨h0,h1⟩,h⟩:=kD h;have he:=cF ((hX.ty hti).desc.trans hd);obtain⟨rfl,_⟩:=A.kq hi hv;obtain⟨htg,hlc,hcm,hc⟩:=hu;rcases hc with⟨hl,_,_⟩ | ⟨o,rfl,ho⟩
    ·omega
    obtain⟨rfl,_⟩:=ho (by omega);refine⟨_,.pointer (some ⟨(ρ.pl tg).blk,(ρ.pl tg).off+r*te.sz+n.toNat*te.sz,none⟩),h,⟨htg,by rw[Nat.add_mul];simp only[Nat.add_zero,Nat.add_assoc]⟩,fun w=>?_⟩;have hlt:n<(len:Int):=h1;simp[Instr.indexAt,asIntOf,run_underlying he,h0,hlt,cu (hX.ty hte),Addr.add_plain]
   ·exact h.elim
  ·exact h.elim
 ·rename_i ti tg r e c len cap i hti;split at h
  ·rename_i el k n hd hi;split at h
   ·rename_i te hte;cases hb:Nat.beq te.sz 1
    ·simp[hb]at h
    simp only[hb,cond_true]at h;have hsz:=Nat.eq_of_beq_eq_true hb;obtain⟨⟨h0,h1⟩,h⟩:=kD h;have he:=cF ((hX.ty hti).desc.trans hd);obtain⟨rfl,_⟩:=A.kq hi hv;obtain⟨htg,hlc,hcm,rfl⟩:=hu;refine⟨_,.pointer (some ⟨(ρ.pl tg).blk,(ρ.pl tg).off+r*e+c+n.toNat*te.sz,none⟩),h,⟨htg,by rw[hsz,Nat.mul_one];simp only[Nat.add_assoc]⟩,fun w=>?_⟩;have hlt:n<(len:Int):=h1;simp[Instr.indexAt,asIntOf,run_underlying he,h0,hlt,cu (hX.ty hte),Addr.add_plain]
   ·exact h.elim
  ·exact h.elim
 ·exact h.elim
def S5(X:Cx)(t:Nat)(x i:SV)(s:S)(K:KV):Prop :=
 match X.ti t,x,i with
 |some ti,.a (.str b),.a i =>
  match ti.d,i.i? with
  |.str,some (_,n)=>need X.force (0<=n/\n<(b.size:Int)) (K (.a (.int .u8 ((b.data.getD n.toNat 0).toNat:Int))) s)
  |_,_=>False
 |_,_,_=>False
theorem Xf{X:Cx}(hX:X.Ok){t:Nat}{x i:SV}{s:S}{K:KV}(h:S5 X t x i s K){ρ:Env}{u v:Value}(hu:x.cz ρ u)(hv:i.cz ρ v) :
 ∃sv r,K sv s/\sv.cz ρ r/\∀w:World,(Instr.index t u v).run X.P w = .ok r w:=by
 unfold S5 at h;split at h
 ·rename_i ti b i hti;split at h
  ·rename_i k n hd hi;obtain⟨⟨h0,h1⟩,h⟩:=kD h;have he:=oO ((hX.ty hti).desc.trans hd);obtain⟨rfl,_⟩:=A.kq hi hv;obtain⟨rfl,_⟩:=hu;have hlt:n.toNat<b.size:=by omega
   have hlt':n.toNat<b.data.size:=hlt;refine⟨_,_,h,⟨rfl,?_⟩,fun w=>?_⟩
   ·have:=(b.data.getD n.toNat 0).toNat_lt;exact⟨by omega,by omega⟩
   ·have hg:b[n.toNat]? = some (b.data.getD n.toNat 0):=by
     rw[getElem?_pos b n.toNat hlt];simp only[Array.getD_eq_getD_getElem?,Array.getElem?_eq_getElem hlt',Option.getD_some];rfl
    simp[Instr.index,asIntOf,run_underlying he,h0,hg]
  ·exact h.elim
 ·exact h.elim
def Mu(X:Cx)(t:Nat)(x:SV)(s:S)(K:KV):Prop :=
 match X.ti t,x with
 |some ti,.a (.slc tg r e len _) =>
  match ti.d with
  |.slc el=>match X.ti el,s.hp.find tg with
   |some te,some (true,.arr ty ks n rows)=>bif Nat.beq e te.sz&&(nh ks te.ks&&lS te.ks te.zero)then
    K (.a .any) (s.put (s.hp.vb tg (.arr ty ks n fun i j=>if r<=i/\i<r+len then(te.zero.map A.Af).getD j undef else rows i j)))else False
   |some te,some (true,.obj _ cs)=>bif Nat.beq e te.sz&&Nat.ble ((r+len)*te.sz) cs.length then K (.a .any) (s.put (s.hp.del tg))else False
   |_,_=>False
  |_=>False
 |_,_=>False
theorem aj.forget{w0:World}{M:Nat->Prop}{ρ:Env}{w w':World}{hp:aJ}{t:Nat}{ch:Chunk}(r:aj w0 M ρ hp w)(h:hp.find t=some (true,ch))
 (hk:eZ (ρ.pl t).fp w w'):aj w0 M ρ (hp.del t) w':=by
 have he:=r.iq _ (aJ.bu h);exact(r.sub aJ.js).world hk (fun b hb hf=>he.own rfl b hf hb) (fun e hm b hb=>by
  have:=r.vo h e hm;refine hk.block b ((r.iq e (aJ.js.subset hm)).lt b hb) fun hf=>this.2 rfl b hf hb)
theorem S6{X:Cx}(hX:X.Ok){t rt:Nat}{x:SV}{s:S}{K:KV}(h:Mu X t x s K){w0:World}{M:Nat->Prop}{ρ:Env}{w:World}(hh:aj w0 M ρ s.hp w){u:Value}(hu:x.cz ρ u) :
 ∃w' cR,(Builtin.clear_ #[t] rt #[u]).run X.P w = .ok (.tuple #[]) w'/\aj w0 M ρ cR w'/\K (.a .any) (s.put cR):=by
 unfold Mu at h;split at h
 ·rename_i ti tg r e len cap hti;split at h
  ·rename_i el hd;split at h
   ·rename_i te ty ks n rows hte hfind;cases hb:(Nat.beq e te.sz&&(nh ks te.ks&&lS te.ks te.zero))
    ·simp[hb]at h
    simp only[hb,cond_true]at h;simp only[Bool.and_eq_true]at hb;obtain⟨hb1,hb2,hfit⟩:=hb;have:=Nat.eq_of_beq_eq_true hb1;subst this;have:=oP hb2;subst this;have tye:=hX.ty hte;have he:=cF ((hX.ty hti).desc.trans hd);have hks:=lK tye;have hent:=hh.iq _ (aJ.bu hfind);have hc:=hent.ch;simp only at hc;obtain⟨htg,hlc,hcm,hv⟩:=hu;by_cases h0:len=0
    ·subst h0;refine⟨w,_,?_,hh.vb hfind (eZ.refl _ _) ?_,h⟩
     ·rcases hv with⟨_,rfl,rfl⟩ | ⟨o,rfl,_⟩<;>simp[Builtin.clear_,run_underlying he]
     ·have:(fun i j=>if r<=i/\i<r+0 then(te.zero.map A.Af).getD j undef else rows i j)=rows:=by
       funext i j;rw[if_neg (by omega)]
      rw[this];exact hc
    ·rcases hv with⟨h1,_,_⟩ | ⟨o,rfl,ho⟩
     ·exact absurd h1 h0
     obtain⟨rfl,hN⟩:=ho (by omega);rcases hc with⟨_,hN0,_⟩ | ⟨vs,ty,fr,hbk,hfitN,hnN,hun,hfp,hrows⟩
     ·omega
     obtain⟨z,hz,hzl,hzero,hok,_⟩:=iw tye;obtain⟨hzc,hzk⟩:=yc (ρ:=ρ) hfit hzero hok;have hzs:z.cells.size=te.ks.length:=by rw[hks];simpa using hzl
     have hcl:(Builtin.zeroCells z.cells len).toList=rep len z.cells.toList:=by
      have:=qI z.cells len te.ks.length hzs;rw[<- this,Builtin.zeroCells,hzs]
     have hlen:(rep len z.cells.toList).length=len*te.ks.length:=by rw[qH];simp[hzs]
     have hcap:(ρ.pl tg).off+(r+len)*te.ks.length<=vs.size:=by
      have:=Nat.mul_le_mul_right te.ks.length (show r+len<=(ρ.pl tg).N by omega);omega
     rw[Nat.add_mul]at hcap;have hone:∀v∈rep len z.cells.toList,v.oneCell'=true:=by
      have h1:∀v∈z.cells.toList,v.oneCell'=true:=by
       intro v hv;obtain⟨q,hq,e⟩:=List.getElem_of_mem hv;have hql:q<te.ks.length:=by rw[hks,<- hzl];exact hq
       exact(hzk q v _ (by rw[List.getElem?_eq_getElem hq,e]) (List.getElem?_eq_getElem hql)).one
      intro v hv;have:∀m,v∈rep m z.cells.toList->v∈z.cells.toList:=by
       intro m
       induction m with
       |zero=>intro h;cases h
       |succ m ih=>intro h;exact(List.mem_append.1 h).elim id ih
      exact h1 v (this len hv)
     have hs:=eO (P:=X.P) (ρ.pl tg).blk ((ρ.pl tg).off+r*te.sz) ty fr (rep len z.cells.toList) 0 vs w hbk (fun x h1 h2=>hun x (by omega) (by have:=Nat.mul_le_mul_right te.ks.length (show r+len<=(ρ.pl tg).N by omega);rw[Nat.add_mul]at this;rw[hlen,<- hks]at h2;omega)) (by rw[hlen,<- hks];omega) hone;refine⟨w.setRow (ρ.pl tg).blk (vs.toList.take ((ρ.pl tg).off+r*te.sz+0)++rep len z.cells.toList++vs.toList.drop ((ρ.pl tg).off+r*te.sz+0+(rep len z.cells.toList).length)).toArray,_,?_,hh.vb hfind ((eZ.setRow w _ _).mono fun b _ hb=>(hfp b).2 hb) ?_,h⟩
     ·have hl0:len≠0:=h0;cases len with
      |zero=>exact absurd rfl h0
      |succ m=>simp[Builtin.clear_,run_underlying he,hz,hcl,hs]
     ·have hsz2:∀(L:List Value),L=vs.toList.take ((ρ.pl tg).off+r*te.sz+0)++rep len z.cells.toList++vs.toList.drop ((ρ.pl tg).off+r*te.sz+0+(rep len z.cells.toList).length)->L.toArray.size=vs.size:=by
       rintro L rfl;rw[<- hks];simp[hlen];omega
      refine .inr ⟨_,ty,fr,setRow_heap w _ _ _ ty fr hbk,by rw[hsz2 _ rfl];exact hfitN,hnN,hun,hfp,fun i hi j k hk=>?_⟩;have hjl:j<te.ks.length:=(List.getElem?_eq_some_iff.1 hk).1;obtain⟨g1,g2⟩:=hrows i hi j k hk;rw[List.getElem?_toArray,gI _ _ _ (by rw[hlen,<- hks];simp;omega)];simp only[Nat.add_zero];rw[hlen,<- hks];by_cases hin:r<=i/\i<r+len
      ·have hle2:=Nat.mul_le_mul_right te.ks.length hin.1;have hsub2:(i-r)*te.ks.length=i*te.ks.length-r*te.ks.length:=Nat.sub_mul _ _ _;have hlt2:(i-r)*te.ks.length+j<len*te.ks.length:=by
        have:=Nat.mul_le_mul_right te.ks.length (show i-r+1<=len by omega);rw[Nat.succ_mul]at this;omega
       rw[if_pos (by omega),if_pos hin];have hidx:(ρ.pl tg).off+i*te.ks.length+j-((ρ.pl tg).off+r*te.ks.length)=(i-r)*te.ks.length+j:=by omega
       rw[hidx,wX _ _ _ (by simpa[hzs]using hlt2)];have hmod:((i-r)*te.ks.length+j)%z.cells.toList.length=j:=by
        rw[show z.cells.toList.length=te.ks.length by simpa using hzs,Nat.mul_comm,Nat.mul_add_mod,Nat.mod_eq_of_lt hjl]
       rw[hmod];have hjz:j<z.cells.toList.length:=by rw[hzl,<- hks];exact hjl
       have e2:z.cells.toList[j]? = some ((te.zero.map A.Af).getD j undef):=by
        rw[<- hzc];simp only[List.getD,List.getElem?_eq_getElem hjz,Option.getD_some]
       exact⟨e2,hzk j _ k e2 hk⟩
      ·rw[if_neg hin,if_neg]
       ·exact⟨by simpa using g1,g2⟩
       ·rintro⟨q1,q2⟩;apply hin;constructor
        ·rcases Nat.lt_or_ge i r with h|h
         ·have:=Nat.mul_le_mul_right te.ks.length h;rw[Nat.succ_mul]at this;omega
         ·exact h
        ·rcases Nat.lt_or_ge i (r+len)with h|h
         ·exact h
         ·have:=Nat.mul_le_mul_right te.ks.length h;rw[Nat.add_mul]at this;omega
   ·rename_i te ty cs hte hfind;cases hb:(Nat.beq e te.sz&&Nat.ble ((r+len)*te.sz) cs.length)
    ·simp[hb]at h
    simp only[hb,cond_true]at h;simp only[Bool.and_eq_true]at hb;have:=Nat.eq_of_beq_eq_true hb.1;subst this;have hfit:=Nat.le_of_ble_eq_true hb.2;have tye:=hX.ty hte;have he:=cF ((hX.ty hti).desc.trans hd);have hc:=(hh.iq _ (aJ.bu hfind)).ch;simp only at hc;obtain⟨vs,fr,hbk,hoff,⟨us,xs,hus,hrep⟩,hun,hfp⟩:=hc;obtain⟨htg,hlc,hcm,hv⟩:=hu;by_cases h0:len=0
    ·subst h0;refine⟨w,_,?_,hh.forget hfind (eZ.refl _ _),h⟩;rcases hv with⟨_,rfl,rfl⟩ | ⟨o,rfl,_⟩<;>simp[Builtin.clear_,run_underlying he]
    ·rcases hv with⟨h1,_,_⟩ | ⟨o,rfl,ho⟩
     ·exact absurd h1 h0
     obtain⟨rfl,hN⟩:=ho (by omega);obtain⟨z,hz,hzl,hzero,hok,_⟩:=iw tye;have hcl:(Builtin.zeroCells z.cells len).toList=rep len z.cells.toList:=by
      have hzs:z.cells.size=te.sz:=by simpa using hzl
      have:=qI z.cells len te.sz hzs;rw[<- this,Builtin.zeroCells,hzs]
     have hlen:(rep len z.cells.toList).length=len*te.sz:=by rw[qH,hzl]
     have hul:=hrep.length;have hvl:vs.size=us.length+xs.length:=by rw[<- Array.length_toList,hus,List.length_append]
     rw[Nat.add_mul]at hfit;have hone:∀v∈rep len z.cells.toList,v.oneCell'=true:=by
      have h1:∀v∈z.cells.toList,v.oneCell'=true:=by
       have:∀(l:List Value),uT l=true->∀v∈l,v.oneCell'=true:=by
        intro l
        induction l with
        |nil=>intro _ v hv;cases hv
        |cons a l ih =>
         intro h v hv;simp only[uT,Bool.and_eq_true]at h;rcases List.mem_cons.1 hv with rfl|hv
         ·exact O9 h.1
         ·exact ih h.2 v hv
       exact this _ hok
      intro v hv;have:∀m,v∈rep m z.cells.toList->v∈z.cells.toList:=by
       intro m
       induction m with
       |zero=>intro h;cases h
       |succ m ih=>intro h;exact(List.mem_append.1 h).elim id ih
      exact h1 v (this len hv)
     have hs:=eO (P:=X.P) (ρ.pl tg).blk ((ρ.pl tg).off+r*te.sz) ty fr (rep len z.cells.toList) 0 vs w hbk (fun x _ h2=>hun x (by rw[hlen]at h2;omega)) (by rw[hlen];omega) hone;refine⟨w.setRow (ρ.pl tg).blk (vs.toList.take ((ρ.pl tg).off+r*te.sz+0)++rep len z.cells.toList++vs.toList.drop ((ρ.pl tg).off+r*te.sz+0+(rep len z.cells.toList).length)).toArray,_,?_,hh.forget hfind ((eZ.setRow w (ρ.pl tg).blk _).mono fun b _ hb=>(hfp b).2 hb),h⟩;cases len with
     |zero=>exact absurd rfl h0
     |succ m=>simp[Builtin.clear_,run_underlying he,hz,hcl,hs]
   ·exact h.elim
  ·exact h.elim
 ·exact h.elim
end
section
variable {P:Program}
def pF(rows:Nat->Nat->Value)(r n:Nat)(src:Nat->Nat->Value):Nat->Nat->Value:=fun i j=>if r<=i/\i<r+n then src (i-r) j else rows i j
def Cv(rows:Nat->Nat->Value)(row c n:Nat)(src:Nat->Nat->Value):Nat->Nat->Value:=fun i j=>if i=row/\(c<=j/\j<c+n)then src (j-c) 0 else rows i j
def S7(X:Cx)(t:Nat)(x y:SV)(s:S)(K:KV):Prop :=
 match X.ti t with
 |some ti=>match ti.d with
  |.slc e=>match X.ti e with
   |some te=>match x with
    |.a (.slc tg r e0 len _)=>match s.hp.find tg with
     |some (true,.arr ty ks n rows)=>bif Nat.beq e0 te.sz&&nh ks te.ks then need X.force (r+len<=n) (FP X.force s te.ks y fun m jm =>
      K (.a (.int .i64 (min m len:Nat))) (s.put (s.hp.vb tg (.arr ty ks n (pF rows r (min m len) jm)))))else False
     |_=>False
    |.a (.sub tg r e0 c len _)=>match s.hp.find tg,te.ks with
     |some (true,.arr ty ks n rows),[k]=>bif Nat.beq e0 ks.length&&(Nat.ble (c+len) ks.length&&(Nat.beq te.sz 1&&rK k ((ks.drop c).take len)))then need X.force (r<n) (FP X.force s te.ks y fun m jm =>
      K (.a (.int .i64 (min m len:Nat))) (s.put (s.hp.vb tg (.arr ty ks n (Cv rows r c (min m len) jm)))))else False
     |_,_=>False
    |_=>False
   |none=>False
  |_=>False
 |none=>False
theorem Xg{X:Cx}(hX:X.Ok){t xt rt:Nat}{x y:SV}{s:S}{K:KV}(h:S7 X t x y s K){w0:World}{M:Nat->Prop}{ρ:Env}{w:World}(hh:aj w0 M ρ s.hp w){u v:Value}(hu:x.cz ρ u)(hv:y.cz ρ v) :
 ∃z r w' cR,(Builtin.copy_ #[t,xt] rt #[u,v]).run X.P w = .ok r w'/\aj w0 M ρ cR w'/\z.cz ρ r/\K z (s.put cR):=by
 unfold S7 at h;split at h
 ·rename_i ti hti;split at h
  ·rename_i e hd;split at h
   ·rename_i te hte;have tye:=hX.ty hte;have he:=cF ((hX.ty hti).desc.trans hd);have hks:=lK tye;split at h
    ·
     rename_i tg r e0 len cap;split at h
     ·rename_i ty ks n rows hfind;cases hb:(Nat.beq e0 te.sz&&nh ks te.ks)
      ·simp[hb]at h
      simp only[hb,cond_true]at h;simp only[Bool.and_eq_true]at hb;have:=Nat.eq_of_beq_eq_true hb.1;subst this;have:=oP hb.2;subst this;obtain⟨hrl,h⟩:=kD h;obtain⟨m,jm,cells0,hK,hsrc⟩:=Hj (P:=X.P) h hh hv;have hc:=(hh.iq _ (aJ.bu hfind)).ch;simp only at hc;obtain⟨htg,hlc,hcm,hval⟩:=hu;obtain⟨cells,c1,c2,c3⟩:=hsrc.pre (min m len) (Nat.min_le_left _ _);have hml:min m len<=aq:=by omega
      have hrep:(SV.a (.int .i64 (min m len:Nat))).cz ρ (.int .i64 (min m len:Nat)):=⟨rfl,by constructor<;>unfold aq at hml<;>omega⟩
      by_cases h0:min m len=0
      ·refine⟨_,.int .i64 (min m len:Nat),w,_,?_,hh.vb hfind (eZ.refl _ _) ?_,hrep,hK⟩
       ·have hcl:cells.toList=[]:=List.eq_nil_of_length_eq_zero (by simp[c2,h0]);have hrun:=c1 w rfl;rw[hks]at hrun;rcases hval with⟨_,_,rfl⟩ | ⟨o,rfl,_⟩<;>simp_all [Builtin.copy_,run_underlying he,hsrc.len,cu tye,goInt,storeCells,Nat.min_def]
       ·have:pF rows r (min m len) jm=rows:=by funext i j;unfold pF;rw[if_neg (by omega)]
        rw[this];exact hc
      ·rcases hval with⟨h1,_,_⟩ | ⟨o,rfl,ho⟩
       ·omega
       obtain⟨rfl,hN⟩:=ho (by omega);rcases hc with⟨_,hN0,_⟩ | ⟨vs,ty',fr,hbk,hfitN,hnN,hun,hfp,hrows⟩
       ·omega
       have hcap:(ρ.pl tg).off+(r+min m len)*te.ks.length<=vs.size:=by
        have:=Nat.mul_le_mul_right te.ks.length (show r+min m len<=(ρ.pl tg).N by omega);omega
       rw[Nat.add_mul]at hcap;have hcl:cells.toList.length=min m len*te.ks.length:=by simpa using c2
       have hone:∀z∈cells.toList,z.oneCell'=true:=by
        intro z hz;obtain⟨q,hq,e⟩:=List.getElem_of_mem hz;have hpos:0<te.ks.length:=by
         rcases Nat.eq_zero_or_pos te.ks.length with h|h
         ·rw[h]at hcl;omega
         ·exact h
        have hqm:q/te.ks.length<min m len:=by rw[Nat.div_lt_iff_lt_mul hpos];omega
        have hqr:q%te.ks.length<te.ks.length:=Nat.mod_lt _ hpos;obtain⟨g1,g2⟩:=c3 (q/te.ks.length) hqm (q%te.ks.length) (te.ks[q%te.ks.length]) (List.getElem?_eq_getElem hqr);rw[show q/te.ks.length*te.ks.length+q%te.ks.length=q from by rw[Nat.mul_comm];exact Nat.div_add_mod q te.ks.length]at g1;have:cells[q]? = some z:=by
         have hq':q<cells.size:=by simpa using hq
         rw[Array.getElem?_eq_getElem hq'];congr 1
        rw[this]at g1;cases g1;exact g2.one
       have hs:=eO (P:=X.P) (ρ.pl tg).blk ((ρ.pl tg).off+r*te.sz) ty' fr cells.toList 0 vs w hbk (fun x h1 h2=>hun x (by omega) (by have:=Nat.mul_le_mul_right te.ks.length (show r+min m len<=(ρ.pl tg).N by omega);rw[Nat.add_mul]at this;rw[hcl,<- hks]at h2;omega)) (by rw[hcl,<- hks];omega) hone;refine⟨_,.int .i64 (min m len:Nat),w.setRow (ρ.pl tg).blk (vs.toList.take ((ρ.pl tg).off+r*te.sz+0)++cells.toList++vs.toList.drop ((ρ.pl tg).off+r*te.sz+0+cells.toList.length)).toArray,_,?_,hh.vb hfind ((eZ.setRow w _ _).mono fun b _ hb=>(hfp b).2 hb) ?_,hrep,hK⟩
       ·have hrun:=c1 w rfl;rw[hks]at hrun;have hmin:Nat.min m len=min m len:=rfl;simp[Builtin.copy_,run_underlying he,hsrc.len,cu tye,goInt,hmin,hrun,hs]
       ·have hsz2:∀(L:List Value),L=vs.toList.take ((ρ.pl tg).off+r*te.sz+0)++cells.toList++vs.toList.drop ((ρ.pl tg).off+r*te.sz+0+cells.toList.length)->L.toArray.size=vs.size:=by
         rintro L rfl;rw[<- hks];simp at hcl ⊢;omega
        refine .inr ⟨_,ty',fr,setRow_heap w _ _ _ ty' fr hbk,by rw[hsz2 _ rfl];exact hfitN,hnN,hun,hfp,fun i hi j k hk=>?_⟩;have hjl:j<te.ks.length:=(List.getElem?_eq_some_iff.1 hk).1;obtain⟨g1,g2⟩:=hrows i hi j k hk;rw[List.getElem?_toArray,gI _ _ _ (by rw[hcl,<- hks];simp;omega)];simp only[Nat.add_zero];rw[hcl,<- hks];unfold pF;by_cases hin:r<=i/\i<r+min m len
        ·have hle2:=Nat.mul_le_mul_right te.ks.length hin.1;have hsub2:(i-r)*te.ks.length=i*te.ks.length-r*te.ks.length:=Nat.sub_mul _ _ _;have hlt2:(i-r)*te.ks.length+j<min m len*te.ks.length:=by
          have:=Nat.mul_le_mul_right te.ks.length (show i-r+1<=min m len by omega);rw[Nat.succ_mul]at this;omega
         rw[if_pos (by omega),if_pos hin];have hidx:(ρ.pl tg).off+i*te.ks.length+j-((ρ.pl tg).off+r*te.ks.length)=(i-r)*te.ks.length+j:=by omega
         rw[hidx,Array.getElem?_toList];exact c3 (i-r) (by omega) j k hk
        ·rw[if_neg hin,if_neg]
         ·exact⟨by simpa using g1,g2⟩
         ·rintro⟨q1,q2⟩;apply hin;constructor
          ·rcases Nat.lt_or_ge i r with h|h
           ·have:=Nat.mul_le_mul_right te.ks.length (show i+1<=r by omega);rw[Nat.succ_mul]at this;omega
           ·exact h
          ·rcases Nat.lt_or_ge i (r+min m len)with h|h
           ·exact h
           ·have:=Nat.mul_le_mul_right te.ks.length h;rw[Nat.add_mul]at this;omega
     ·exact h.elim
    ·
     rename_i tg r e0 c len cap;split at h
     ·rename_i ty ks n rows k hfind hk1;cases hb:(Nat.beq e0 ks.length&&(Nat.ble (c+len) ks.length&&(Nat.beq te.sz 1&&rK k ((ks.drop c).take len))))
      ·simp[hb]at h
      simp only[hb,cond_true]at h;simp only[Bool.and_eq_true]at hb;obtain⟨hb1,hb2,hb3,hb4⟩:=hb;have:=Nat.eq_of_beq_eq_true hb1;subst this;have hcl:=Nat.le_of_ble_eq_true hb2;have hsz:=Nat.eq_of_beq_eq_true hb3;obtain⟨hrn,h⟩:=kD h;obtain⟨m,jm,cells0,hK,hsrc⟩:=Hj (P:=X.P) h hh hv;have hc:=(hh.iq _ (aJ.bu hfind)).ch;simp only at hc;obtain⟨htg,hlc,hcm,rfl⟩:=hu;obtain⟨cells,c1,c2,c3⟩:=hsrc.pre (min m len) (Nat.min_le_left _ _);rw[hk1]at c1 c2 c3;have hml:min m len<=aq:=by omega
      have hrep:(SV.a (.int .i64 (min m len:Nat))).cz ρ (.int .i64 (min m len:Nat)):=⟨rfl,by constructor<;>unfold aq at hml<;>omega⟩
      rcases hc with⟨hn0,_⟩ | ⟨vs,ty',fr,hbk,hfitN,hnN,hun,hfp,hrows⟩
      ·omega
      have hcl2:cells.toList.length=min m len:=by simpa using c2
      have hone:∀z∈cells.toList,z.oneCell'=true:=by
       intro z hz;obtain⟨q,hq,e⟩:=List.getElem_of_mem hz;obtain⟨g1,g2⟩:=c3 q (by omega) 0 k rfl;have:cells[q]? = some z:=by
        have hq':q<cells.size:=by simpa using hq
        rw[Array.getElem?_eq_getElem hq'];congr 1
       simp only[List.length_cons,List.length_nil,Nat.zero_add,Nat.mul_one,Nat.add_zero]at g1;rw[this]at g1;cases g1;exact g2.one
      have hbound:(ρ.pl tg).off+r*ks.length+ks.length<=(ρ.pl tg).off+(ρ.pl tg).N*ks.length:=by
       have:=Nat.mul_le_mul_right ks.length (show r+1<=(ρ.pl tg).N by omega);rw[Nat.succ_mul]at this;omega
      have hs:=eO (P:=X.P) (ρ.pl tg).blk ((ρ.pl tg).off+r*ks.length+c) ty' fr cells.toList 0 vs w hbk (fun x h1 h2=>hun x (by omega) (by rw[hcl2]at h2;omega)) (by rw[hcl2];omega) hone;refine⟨_,.int .i64 (min m len:Nat),w.setRow (ρ.pl tg).blk (vs.toList.take ((ρ.pl tg).off+r*ks.length+c+0)++cells.toList++vs.toList.drop ((ρ.pl tg).off+r*ks.length+c+0+cells.toList.length)).toArray,_,?_,hh.vb hfind ((eZ.setRow w _ _).mono fun b _ hb=>(hfp b).2 hb) ?_,hrep,hK⟩
      ·have hrun:=c1 w rfl;simp only[List.length_cons,List.length_nil,Nat.zero_add]at hrun;have hmin:Nat.min m len=min m len:=rfl;simp[Builtin.copy_,run_underlying he,hsrc.len,cu tye,hsz,goInt,hmin,hrun,hs]
      ·have hsz2:∀(L:List Value),L=vs.toList.take ((ρ.pl tg).off+r*ks.length+c+0)++cells.toList++vs.toList.drop ((ρ.pl tg).off+r*ks.length+c+0+cells.toList.length)->L.toArray.size=vs.size:=by
        rintro L rfl;simp at hcl2 ⊢;omega
       refine .inr ⟨_,ty',fr,setRow_heap w _ _ _ ty' fr hbk,by rw[hsz2 _ rfl];exact hfitN,hnN,hun,hfp,fun i hi j q hq=>?_⟩;have hjl:j<ks.length:=(List.getElem?_eq_some_iff.1 hq).1;obtain⟨g1,g2⟩:=hrows i hi j q hq;rw[List.getElem?_toArray,gI _ _ _ (by rw[hcl2];simp;omega)];simp only[Nat.add_zero];rw[hcl2];unfold Cv;by_cases hin:i=r/\(c<=j/\j<c+min m len)
       ·obtain⟨rfl,h1,h2⟩:=hin;rw[if_pos (by omega),if_pos ⟨rfl,h1,h2⟩];have hidx:(ρ.pl tg).off+i*ks.length+j-((ρ.pl tg).off+i*ks.length+c)=j-c:=by omega
        rw[hidx,Array.getElem?_toList];have hqk:q=k:=by
         have:=C3 hb4 (i:=j-c) (by simp;omega);rw[List.getElem?_take,if_pos (by omega),List.getElem?_drop,show c+(j-c)=j by omega,hq]at this;cases this;rfl
        subst hqk;have:=c3 (j-c) (by omega) 0 q rfl;simpa using this
       ·rw[if_neg hin,if_neg]
        ·exact⟨by simpa using g1,g2⟩
        ·rintro⟨q1,q2⟩;apply hin;have:=(FL (off:=(ρ.pl tg).off) (i:=i) (row:=r) (esz:=ks.length) (j:=j) (c:=c) (len:=min m len) hjl (by omega)).1 ⟨q1,q2⟩;exact⟨this.1,this.2⟩
     ·exact h.elim
    ·exact h.elim
   ·exact h.elim
  ·exact h.elim
 ·exact h.elim
end
section
variable {P:Program}
def eq1(P:Program)(t:TypeId)(x y:A):Option Bool :=
 match descOf P t with
 |.bool=>match x.b?,y.b? with
  |some a,some b=>some (a == b)
  |_,_=>none
 |.int _=>match x.i?,y.i? with
  |some (k,a),some (j,b)=>bif pq k j then some (a == b)else none
  |_,_=>none
 |.str=>match x,y with
  |.str a,.str b=>some (decide (a=b))
  |_,_=>none
 |_=>none
def S8(P:Program):List Field->List A->List A->Option Bool
 |[],_,_=>some true
 | f :: r, xs, ys => bif f.name == "_" then none else match xs[f.offset]?, ys[f.offset]? with
  |some x,some y=>match eq1 P f.type x y,S8 P r xs ys with
   |some a,some b=>some (a&&b)
   |_,_=>none
  |_,_=>none
def S9(P:Program)(t:TypeId)(xs ys:List A):Option Bool :=
 match P.underlying t with
 |some (.struct fs)=>bif P.stoodInHeld t||P.eqGuardType P.depth t then none else S8 P fs.toList xs ys
 |_=>none
def Ta(X:Cx)(op:BinOp)(t:Nat)(xs ys:List A)(K:A->Prop):Prop :=
 match op,S9 X.P t xs ys with
 |.eql,some b=>K (.bool b)
 |.neq,some b=>K (.bool (!b))
 |_,_=>False
theorem Tb(a b:ByteArray):(a == b)=decide (a=b):=by
 cases a with|mk x=>cases b with|mk y =>
  show(x == y)=_;rw[Bool.eq_iff_iff];simp
theorem Zm{t:TypeId}{x y:A}{b:Bool}(h:eq1 P t x y=some b){ρ:Env}{u v:Value}(hu:x.cz ρ u)(hv:y.cz ρ v)(d:Nat)(w:World) :
 (Op.equalIn (d+1) t u v).run P w = .ok b w:=by
 unfold eq1 at h;split at h
 ·rename_i hd;have he:=wW hd;split at h
  ·rename_i a b ha hb;have:=A.ya ha hu;subst this;have:=A.ya hb hv;subst this;cases h;simp[Op.equalIn,run_underlying he]
  ·cases h
 ·rename_i k hd;have he:=qG hd;split at h
  ·rename_i k1 a k2 b hx hy;obtain⟨rfl,_⟩:=A.kq hx hu;obtain⟨rfl,_⟩:=A.kq hy hv;cases hk:pq k1 k2 with
   |false=>rw[hk]at h;cases h
   |true =>
    rw[hk]at h;have:=mw hk;subst this;cases h;simp[Op.equalIn,run_underlying he]
  ·cases h
 ·rename_i hd;have he:=oO hd;split at h
  ·rename_i a b;obtain⟨rfl,_⟩:=hu;obtain⟨rfl,_⟩:=hv;cases h;simp[Op.equalIn,run_underlying he,Tb]
  ·cases h
 ·cases h
theorem zl{t:TypeId}{x y:A}{b:Bool}(h:eq1 P t x y=some b){cs:List Value}{o:Nat}{u:Value}(hu:cs[o]? = some u)(w:World):(part t cs.toArray o).run P w = .ok u w:=by
 unfold eq1 at h;split at h
 ·rename_i hd;simp[part,isAgg,run_underlying (wW hd),hu]
 ·rename_i hd;simp[part,isAgg,run_underlying (qG hd),hu]
 ·rename_i hd;simp[part,isAgg,run_underlying (oO hd),hu]
 ·cases h
theorem C4{ρ:Env}:∀ {xs:List A} {vs:List Value} {o:Nat} {x:A},cE ρ xs vs->xs[o]? = some x->∃u,vs[o]? = some u/\x.cz ρ u
 |a::r,vs,o,x,h,hx=>by
  obtain⟨v,l,rfl,h1,h2⟩:=h;cases o with
  |zero=>cases hx;exact⟨v,rfl,h1⟩
  |succ o=>exact C4 (o:=o) h2 hx
 |[],_,o,x,_,hx=>by cases o<;>cases hx
theorem Pj{d:Nat}{ρ:Env}{xs ys:List A}{us vs:List Value}(hu:cE ρ xs us)(hv:cE ρ ys vs)(w:World):∀ {fs:List Field} {b:Bool},S8 P fs xs ys=some b ->
 (forIn (m:=Sem) fs ((none,()):Option Bool×Unit) fun f _ =>
  if f.name = "_" then pure (.yield (none, ()))
  else do
   let x <- part f.type us.toArray f.offset
   let y <- part f.type vs.toArray f.offset
   let z <- Op.equalIn (d+1) f.type x y
   if z=false then pure (.done (some false,()))else pure (.yield (none,()))).run P w = .ok (bif b then(none,())else(some false,())) w
 |[],b,h=>by cases h;simp
 |f::r,b,h=>by
  unfold S8 at h;cases hn : f.name == "_" with
  |true=>rw[hn]at h;cases h
  |false =>
   rw[hn]at h;simp only[cond_false]at h;split at h
   ·rename_i x y hx hy;split at h
    ·rename_i a c ha hc;cases h;obtain ⟨u,hu1,hu2⟩:=C4 hu hx;obtain ⟨v,hv1,hv2⟩:=C4 hv hy;have rec_:=Pj (d:=d) hu hv w hc;have hne : f.name ≠ "_" := by simpa using hn
     have e1:=Zm ha hu2 hv2 d w;rw[List.forIn_cons];cases a with
     |false=>simp[hne,zl ha hu1,zl ha hv1,e1]
     |true=>simpa[hne,zl ha hu1,zl ha hv1,e1]using rec_
    ·cases h
   ·cases h
theorem KB{t:TypeId}{xs ys:List A}{b:Bool}(h:S9 P t xs ys=some b){ρ:Env}{us vs:List Value}(hu:cE ρ xs us)(hv:cE ρ ys vs)(w:World) :
 (Op.equal t (.agg us.toArray) (.agg vs.toArray)).run P w = .ok b w/\P.eqGuardType P.depth t=false:=by
 unfold S9 at h;split at h
 ·rename_i fs hf;cases hs:P.stoodInHeld t with
  |true=>rw[hs]at h;cases h
  |false =>
   cases hg:P.eqGuardType P.depth t with
   |true=>rw[hs,hg]at h;cases h
   |false =>
    rw[hs,hg]at h;have h':S8 P fs.toList xs ys=some b:=h;refine⟨?_,rfl⟩;have:=Pj (d:=9998) hu hv w h';show(Op.equalIn 10000 t _ _).run P w=_;unfold Op.equalIn;simp[run_underlying hf,hs];rw[<- Array.forIn_toList,this];cases b<;>simp
 ·cases h
theorem Tc{X:Cx}{op:BinOp}{t:Nat}{xs ys:List A}{K:A->Prop}(h:Ta X op t xs ys K){ρ:Env}{us vs:List Value}(hu:cE ρ xs us)(hv:cE ρ ys vs)(p q:Operand) :
 ∃z r,K z/\z.cz ρ r/\∀w:World,(do eqGuard op t p q (.agg us.toArray) (.agg vs.toArray);binOp op t (.agg us.toArray) (.agg vs.toArray):Sem Value).run X.P w = .ok r w:=by
 unfold Ta at h;split at h
 ·rename_i b hb;refine⟨_,.bool b,h,rfl,fun w=>?_⟩;obtain⟨h1,h2⟩:=KB hb hu hv w;simp[eqGuard,h2,binOp,h1]
 ·rename_i b hb;refine⟨_,.bool (!b),h,rfl,fun w=>?_⟩;obtain⟨h1,h2⟩:=KB hb hu hv w;simp[eqGuard,h2,binOp,h1]
 ·exact h.elim
end
section
variable {P:Program}
def Hl(s:S)(y:SV):Bool :=
 match y with
 |.a (.slc t _ _ _ _)=>match s.hp.find t with
  |some (_,.obj _ _)=>true
  |_=>false
 |_=>false
def Cw(X:Cx)(t:Nat)(x y:SV)(s:S)(K:KV):Prop :=
 match X.ti t with
 |some ti =>
  match ti.d with
  |.slc e =>
   match X.ti e with
   |some te =>
    bif Nat.ble 1 te.bytes then
     match y with
     |.a (.slc tY rY eY m _) =>
      bif Nat.beq m 0 then(match x with
       |.a (.slc tX rX eX lX cX)=>K (.a (.slc tX rX eX lX cX)) s
       |.a .cc=>K (.a .cc) s
       |_=>False)
      else(match x,s.hp.find tY with
       |.a .cc,some (_,.obj ety out)=>bif Nat.beq ety e&&(Nat.beq eY te.sz&&(Nat.beq rY 0&&Nat.ble (m*te.sz) out.length))then
        m*te.bytes<=140737488355328/\∀cap,m<=cap->cap<=aq->K (.a (.slc s.nx 0 te.sz m cap)) (s.new (.obj e (out.take (m*te.sz))))else False
       |_,_=>False)
     |_=>False
    else False
   |none=>False
  |_=>False
 |none=>False
theorem FR{X:Cx}(hX:X.Ok){t xt rt:Nat}{xd:TypeDesc}(hxt:X.P.underlying xt=some xd)(hxd:xd = .string\/∃e',xd = .slice e'){x y:SV}{s:S}{K:KV}(h:Cw X t x y s K){w0:World}{M:Nat->Prop}{ρ:Env}(hρ:ρ.n=s.nx)
 {w:World} (hh:aj w0 M ρ s.hp w) {u v:Value} (hu:x.cz ρ u) (hv:y.cz ρ v) :
 ∃r w' ρ',(Builtin.append_ #[t,xt] rt #[u,v]).run X.P w = .ok r w'/\ρ.le ρ'/\∃sv s',K sv s'/\s'.nt=s.nt/\s'.fr=s.fr/\ρ'.n=s'.nx/\sv.cz ρ' r/\aj w0 M ρ' s'.hp w':=by
 unfold Cw at h;split at h
 ·rename_i ti hti;have ty:=hX.ty hti;split at h
  ·rename_i e hd;split at h
   ·rename_i te hte;have tye:=hX.ty hte;have hut:=cF (ty.desc.trans hd);cases hb1:Nat.ble 1 te.bytes
    ·simp[hb1]at h
    simp only[hb1,cond_true]at h;have hby:=Nat.le_of_ble_eq_true hb1;split at h
    ·rename_i tY rY eY m cY;obtain⟨_,hmc,hcm,hval⟩:=hv;cases hm:Nat.beq m 0 with
     |true =>
      simp only[hm,cond_true]at h;have hm0:=Nat.eq_of_beq_eq_true hm;subst hm0;have hlen:(Builtin.lenOf v).run X.P w = .ok 0 w:=by
       rcases hval with⟨_,_,rfl⟩ | ⟨o,rfl,_⟩<;>rfl
      have hnew:(Builtin.firstCells te.sz 0 v).run X.P w = .ok #[] w:=by
       rcases hval with⟨_,_,rfl⟩ | ⟨o,rfl,_⟩<;>simp[Builtin.firstCells,loadCells,loadCellsFrom]
      split at h
      ·rename_i tX rX eX lX cX;obtain⟨g1,g2,g3,g4⟩:=hu;have hrep:(A.slc tX rX eX lX cX).cz ρ u:=⟨g1,g2,g3,g4⟩
       rcases g4 with⟨rfl,rfl,rfl⟩ | ⟨o,rfl,ho⟩
       ·exact⟨_,w,ρ,gd tye hut hxt hxd hlen hnew (Nat.le_refl _) rfl,Env.le.refl _,_,_,h,rfl,rfl,hρ,hrep,hh⟩
       ·exact⟨_,w,ρ,gd tye hut hxt hxd hlen hnew (by omega) rfl,Env.le.refl _,_,_,h,rfl,rfl,hρ,hrep,hh⟩
      ·have hu':u = .slice none 0 0:=hu;subst hu';exact⟨_,w,ρ,gd tye hut hxt hxd hlen hnew (Nat.le_refl _) rfl,Env.le.refl _,_,_,h,rfl,rfl,hρ,rfl,hh⟩
      ·exact h.elim
     |false =>
      simp only[hm,cond_false]at h;have hm0:m≠0:=fun e=>by subst e;cases hm
      split at h
      ·rename_i wr ety out hfind;have hu':u = .slice none 0 0:=hu;subst hu';cases hb:(Nat.beq ety e&&(Nat.beq eY te.sz&&(Nat.beq rY 0&&Nat.ble (m*te.sz) out.length)))
       ·simp[hb]at h
       simp only[hb,cond_true]at h;simp only[Bool.and_eq_true]at hb;obtain⟨e1,e2,e3,e4⟩:=hb;have:=Nat.eq_of_beq_eq_true e1;subst this;have:=Nat.eq_of_beq_eq_true e2;subst this;have:=Nat.eq_of_beq_eq_true e3;subst this;have hfit:=Nat.le_of_ble_eq_true e4;obtain⟨hmb,hK⟩:=h;have he:=(hh.iq _ (aJ.bu hfind)).ch;simp only at he;obtain⟨vs,fr,hbk,hoff,⟨us,xs,hus,hrep⟩,_,_⟩:=he;rcases hval with⟨h1,_,_⟩ | ⟨o,rfl,ho⟩
       ·exact absurd h1 hm0
       obtain⟨rfl,_⟩:=ho (by omega);have hul:=hrep.length;have hml:m<=aq:=by
        have:m*1<=m*te.bytes:=Nat.mul_le_mul_left m hby;unfold aq;omega
       have hcl:(us.take (m*te.sz)).length=m*te.sz:=by simp;omega
       have hnew:(Builtin.firstCells te.sz m (.slice (some ⟨(ρ.pl tY).blk,(ρ.pl tY).off+0*te.sz,none⟩) m cY)).run X.P w.drew = .ok (us.take (m*te.sz)).toArray w.drew:=by
        have:=run_loadCells_list (P:=X.P) w.drew ⟨(ρ.pl tY).blk,(ρ.pl tY).off+0*te.sz,none⟩ (us.take (m*te.sz)) (fun j v hj=>by
         rw[Addr.add_plain,cell_of (show w.drew.heap[(ρ.pl tY).blk]? = _ from hbk),hoff];have hjl:=(List.getElem?_eq_some_iff.1 hj).1;rw[List.getElem?_take,if_pos (by rw[hcl]at hjl;exact hjl)]at hj;have hju:=(List.getElem?_eq_some_iff.1 hj).1;rw[show 0+0*te.sz+j=j by omega,<- Array.getElem?_toList,hus,List.getElem?_append_left hju];exact hj)
        rw[hcl]at this;simpa[Builtin.firstCells]using this
       obtain⟨z,cap,hc1,hc2,hz,hrun⟩:=od (ty:=rt) tye hut hxt hxd (base:=none) (sLen:=0) (sCap:=0) (old:=#[]) (w:=w) rfl hnew (by simp[Builtin.firstCells]) (by omega) (by omega) (by simpa using hmb) hby;simp only[Nat.zero_add]at hrun hc1;obtain⟨ρ',p1,p2,p3,p4⟩:=hh.drew.W9 ety cap (cs:=out.take (m*te.sz)) (vs:=#[]++(us.take (m*te.sz)).toArray++Builtin.zeroCells z.cells (cap-m)) (us:=us.take (m*te.sz)) (xs:=(Builtin.zeroCells z.cells (cap-m)).toList) (by simp) (hrep.take _);refine⟨_,_,ρ',hrun,p1,_,_,hK cap hc1 hc2,rfl,rfl,?_,?_,?_⟩
       ·rw[p2,hρ];rfl
       ·refine⟨by rw[p2,hρ];omega,hc1,hc2,.inr ⟨_,rfl,fun _=>?_⟩⟩
        ·rw[<- hρ,p3];exact⟨by simp only[Nat.zero_mul,Nat.add_zero]<;>rfl,by simp⟩
       ·rw[hρ]at p4;exact p4
      ·exact h.elim
    ·exact h.elim
   ·exact h.elim
  ·exact h.elim
 ·exact h.elim
end
section
variable {P:Program}
def Mv(X:Cx)(t:Nat)(v:Value)(f:Nat)(s:S)(K:KV):Prop :=
 match X.ti t with
 |some ti =>
  match ti.d with
  |.struct fs=>match fs[f]? with
   |some (off,sz)=>bif Nat.ble 1 sz then ∃b o,v=pv b o/\K (.a (.val (pv b (o+off)))) s else False
   |none=>False
  |_=>False
 |_=>False
theorem QE{X:Cx}(hX:X.Ok){t:Nat}{v:Value}{f:Nat}{s:S}{K:KV}(h:Mv X t v f s K){ρ:Env}{u:Value}(hu:(A.val v).cz ρ u) :
 ∃sv r,K sv s/\sv.cz ρ r/\∀w:World,(Instr.fieldAt t u f).run X.P w = .ok r w:=by
 unfold Mv at h;split at h
 ·rename_i ti hti;split at h
  ·rename_i fs hd;split at h
   ·rename_i off sz hf;cases hb:Nat.ble 1 sz
    ·simp[hb]at h
    simp only[hb,cond_true]at h;obtain⟨b,o,rfl,h⟩:=h;have hsz:=Nat.le_of_ble_eq_true hb;have ty:=hX.ty hti;obtain⟨gs,he,rfl⟩:=vt (ty.desc.trans hd);have hk:=ty.known;simp only[mR,he,List.all_eq_true]at hk;obtain⟨rfl,_⟩:=hu;simp only[List.getElem?_map,Option.map_eq_some_iff]at hf;obtain⟨g,hg,e1⟩:=hf;cases e1;have hg':gs[f]? = some g:=by simpa using hg
    obtain⟨j,hj⟩:=Option.isSome_iff_exists.1 (hk g (List.mem_of_getElem? hg));refine⟨_,pv b (o+g.offset),h,⟨rfl,rfl⟩,fun w=>?_⟩;have hne:j.size≠0:=by simp[Program.cellsOf,hj]at hsz;omega
    simp[Instr.fieldAt,run_underlying he,hg',Instr.sureAddr,fieldPlace,sizeOf,typeInfo,hj,hne,Addr.add_plain,pv]
   ·exact h.elim
  ·exact h.elim
 ·exact h.elim
def Zn(X:Cx)(t:Nat)(v:Value)(i:SV)(s:S)(K:KV):Prop :=
 match X.ti t,i with
 |some ti,.a i =>
  match ti.d,i.i? with
  |.slc el,some (_,n)=>match X.ti el with
   |some te=>∃b o l c,v=fC b o l c/\(0<=n/\n<(l:Int))/\K (.a (.val (pv b (o+n.toNat*te.sz)))) s
   |none=>False
  |_,_=>False
 |_,_=>False
theorem Xh{X:Cx}(hX:X.Ok){t:Nat}{v:Value}{i:SV}{s:S}{K:KV}(h:Zn X t v i s K){ρ:Env}{u x:Value}(hu:(A.val v).cz ρ u)(hv:i.cz ρ x) :
 ∃sv r,K sv s/\sv.cz ρ r/\∀w:World,(Instr.indexAt t u x).run X.P w = .ok r w:=by
 unfold Zn at h;split at h
 ·rename_i ti i hti;split at h
  ·rename_i el k n hd hi;split at h
   ·rename_i te hte;obtain⟨b,o,l,c,rfl,⟨h0,h1⟩,h⟩:=h;have he:=cF ((hX.ty hti).desc.trans hd);obtain⟨rfl,_⟩:=A.kq hi hv;obtain⟨rfl,_⟩:=hu;refine⟨_,pv b (o+n.toNat*te.sz),h,⟨rfl,rfl⟩,fun w=>?_⟩;have hlt:n<(l:Int):=h1;simp[Instr.indexAt,asIntOf,run_underlying he,h0,hlt,cu (hX.ty hte),Addr.add_plain,fC,pv]
   ·exact h.elim
  ·exact h.elim
 ·exact h.elim
def Zo(X:Cx)(t:Nat)(v:Value)(K:A->Prop):Prop :=
 match X.ti t with
 |some ti=>match ti.d with | .slc _=>(∃a l c,v = .slice a l c/\l<=aq)/\K (.int .i64 (di v))|_=>False
 |_=>False
theorem Xi{X:Cx}(hX:X.Ok){t rt:Nat}{v:Value}{K:A->Prop}(h:Zo X t v K){ρ:Env}{u:Value}(hu:(A.val v).cz ρ u) :
 ∃z r,K z/\z.cz ρ r/\∀w:World,(Builtin.len_ #[t] rt #[u]).run X.P w = .ok r w:=by
 unfold Zo at h;split at h
 ·rename_i ti hti;split at h
  ·rename_i el hd;have he:=cF ((hX.ty hti).desc.trans hd);obtain⟨⟨a,l,c,rfl,hl⟩,h⟩:=h;obtain⟨rfl,_⟩:=hu;exact⟨_,.int .i64 l,h,⟨rfl,by constructor<;>unfold aq at hl<;>simp only[di]<;>omega⟩,fun w=>by simp[Builtin.len_,run_underlying he,goInt]⟩
  ·exact h.elim
 ·exact h.elim
def KC:Value->Bool
 |.pointer none=>true
 |_=>false
def Fp:Value->Bool
 |.slice none _ _=>true
 |_=>false
def Zp(X:Cx)(op:BinOp)(t:Nat)(v:Value)(y:A)(K:A->Prop):Prop :=
 match X.ti t with
 |some ti=>match ti.d,op,y with
  |.ptr,.eql,.nil=>(∃p,v = .pointer p)/\K (.bool (KC v))
  |.ptr,.neq,.nil=>(∃p,v = .pointer p)/\K (.bool (!KC v))
  |.slc _,.eql,.cc=>(∃a l c,v = .slice a l c)/\K (.bool (Fp v))
  |.slc _,.neq,.cc=>(∃a l c,v = .slice a l c)/\K (.bool (!Fp v))
  |_,_,_=>False
 |none=>False
theorem Xj{X:Cx}(hX:X.Ok){op:BinOp}{t:Nat}{x:Value}{y:A}{K:A->Prop}(h:Zp X op t x y K){ρ:Env}{u v:Value}(hu:(A.val x).cz ρ u)(hv:y.cz ρ v)(ox oy:Operand) :
 ∃z r,K z/\z.cz ρ r/\∀w:World,(eqGuard op t ox oy u v).run X.P w = .ok () w/\(binOp op t u v).run X.P w = .ok r w:=by
 unfold Zp at h;obtain⟨rfl,_⟩:=hu;split at h
 ·rename_i ti hti;split at h
  ·rename_i hd;obtain⟨e,he⟩:=s8 ((hX.ty hti).desc.trans hd);obtain⟨⟨p,rfl⟩,h⟩:=h;have hv':v = .pointer none:=hv;subst hv';refine⟨_,.bool (KC (.pointer p)),h,rfl,fun w=>⟨by simp[eqGuard],?_⟩⟩;simp only[binOp];exact oK fun d=>by cases p<;>simp[Op.equalIn,run_underlying he,KC]
  ·rename_i hd;obtain⟨e,he⟩:=s8 ((hX.ty hti).desc.trans hd);obtain⟨⟨p,rfl⟩,h⟩:=h;have hv':v = .pointer none:=hv;subst hv';refine⟨_,.bool (!KC (.pointer p)),h,rfl,fun w=>⟨by simp[eqGuard],?_⟩⟩;simp only[binOp];exact oL fun d=>by cases p<;>simp[Op.equalIn,run_underlying he,KC]
  ·rename_i hd;have he:=cF ((hX.ty hti).desc.trans hd);obtain⟨⟨a,l,c,rfl⟩,h⟩:=h;have hv':v = .slice none 0 0:=hv;subst hv';refine⟨_,.bool (Fp (.slice a l c)),h,rfl,fun w=>⟨by simp[eqGuard],?_⟩⟩;simp only[binOp];exact oK fun d=>by cases a<;>simp[Op.equalIn,run_underlying he,Fp]
  ·rename_i hd;have he:=cF ((hX.ty hti).desc.trans hd);obtain⟨⟨a,l,c,rfl⟩,h⟩:=h;have hv':v = .slice none 0 0:=hv;subst hv';refine⟨_,.bool (!Fp (.slice a l c)),h,rfl,fun w=>⟨by simp[eqGuard],?_⟩⟩;simp only[binOp];exact oL fun d=>by cases a<;>simp[Op.equalIn,run_underlying he,Fp]
  ·exact h.elim
 ·exact h.elim
def Td(X:Cx)(t:Nat)(v:Value)(s:S)(K:KV):Prop :=
 match X.ti t with
 |some ti=>pE s fun _ _ H=>∃b lo o cs,v=pv b (lo+o)/\H b=some (lo,cs)/\Hi ti.ks cs o /\
  (bif ti.agg then K (.agg (atoms (fun j=>cs.getD j undef) ti.ks o)) s else
   match ti.ks with
   |[k]=>Cj X.force (mz k (cs.getD o undef)) (K (.a (mz k (cs.getD o undef))) s)
   |_=>False)
 |none=>False
theorem Te{X:Cx}(hX:X.Ok){t:Nat}{x:Value}{s:S}{K:KV}(h:Td X t x s K){w0:World}{M:Nat->Prop}{ρ:Env}{w:World}{v:Value}(hv:(A.val x).cz ρ v)(hh:aj w0 M ρ s.hp w) :
 ∃b o,v = .pointer (some ⟨b,o,none⟩)/\∃u sv,(∀w':World,(∀t',tI s.hp=some t'->∀b,(ρ.pl t').fp b->w'.heap[b]? = w.heap[b]?)->(loadVar t ⟨b,o,none⟩).run X.P w' = .ok u w')/\sv.cz ρ u/\K sv s:=by
 unfold Td at h;split at h
 ·rename_i ti hti;have ty:=hX.ty hti;obtain⟨rfl,_⟩:=hv;unfold pE at h;split at h
  ·rename_i tp htp;split at h
   ·rename_i wr H hf;obtain⟨b,lo,o,cs,rfl,hH,hc,h⟩:=h;refine⟨b,lo+o,rfl,?_⟩;have he:=(hh.iq _ (aJ.bu hf)).ch;obtain⟨hfp,vs,vty,fr,hb,hvl,hvs,_⟩:=he b lo cs hH;have hat:∀j k,ti.ks[j]? = some k->vs[lo+o+j]? = some (cs.getD (o+j) undef)/\k.ok (cs.getD (o+j) undef):=by
     intro j k hk;obtain⟨h1,h2⟩:=C1 hc hk;exact⟨by rw[Nat.add_assoc,hvs _ (List.getElem?_eq_some_iff.1 h1).1];exact h1,h2⟩
    have hks:=lK ty;cases ha:ti.agg
    ·simp only[ha,cond_false]at h;split at h
     ·rename_i k hk;obtain⟨e1,e2⟩:=hat 0 k (by rw[hk];rfl);simp only[Nat.add_zero]at e1 e2;exact⟨_,.a _,fun w' hw=>vq ty w' _ _ ha (by rw[cell_of (by rw[hw tp htp _ hfp];exact hb)];exact e1),ob e2 ρ,G9 h (ob e2 ρ)⟩
     ·exact h.elim
    ·simp only[ha,cond_true]at h;have hrep:=wU ρ (fun j=>cs.getD j undef) ti.ks o fun j k hk=>(hat j k hk).2;refine⟨_,.agg _,fun w' hw=>vp ty w' _ _ ((List.range' o ti.ks.length).map fun j=>cs.getD j undef) ha (by simp[hks]) ?_,⟨_,rfl,hrep⟩,h⟩;intro j v hj;rw[cell_of (by rw[hw tp htp _ hfp];exact hb)];have hjl:j<ti.ks.length:=by
      rcases Nat.lt_or_ge j ti.ks.length with h|h
      ·exact h
      ·rw[List.getElem?_eq_none (by simpa using h)]at hj;cases hj
     rw[(hat j _ (List.getElem?_eq_getElem hjl)).1];simp[hjl]at hj;rw[<- hj];simp
   ·exact h.elim
  ·exact h.elim
 ·exact h.elim
def Mw(X:Cx)(t:Nat)(p:Value)(v:SV)(s:S)(K:KV):Prop :=
 match X.ti t,qm v with
 |some ti,some xs=>pE s fun tp wr H=>bif wr&&(Nat.beq xs.length ti.sz&&lS ti.ks xs)then
  ∃b lo o cs,p=pv b (lo+o)/\H b=some (lo,cs)/\o+xs.length<=cs.length/\tM xs fun vs=>K (.a .any) (s.put (s.hp.vb tp (.cI (aO H b lo (cs.take o++vs++cs.drop (o+vs.length))))))else False
 |_,_=>False
theorem QF{ρ:Env}{ks:List CK}{xs:List A}{vs:List Value}(h:lS ks xs=true)(hl:xs.length<=ks.length)(r:cE ρ xs vs):∀v∈vs,v.oneCell'=true:=by
 obtain⟨_,hk⟩:=qE h r;intro v hv;obtain⟨j,hj,rfl⟩:=List.getElem_of_mem hv;have hlen:=r.length;exact(hk j _ (ks[j]'(by omega)) (List.getElem?_eq_getElem hj) (List.getElem?_eq_getElem _)).one
theorem KD:∀ {ks:List CK} {xs:List A},lS ks xs=true->sZ xs=true
 |_,[],_=>rfl
 |[],_::_,h=>by simp[lS]at h
 |k::ks,x::xs,h=>by
  simp only[lS,Bool.and_eq_true]at h;simp only[sZ,Bool.and_eq_true];refine⟨?_,KD h.2⟩;have h1:=h.1;cases k<;>cases x<;>first|rfl|(simp[W6]at h1;done)
theorem QG{X:Cx}(hX:X.Ok){t:Nat}{x:Value}{v:SV}{s:S}{K:KV}(h:Mw X t x v s K){w0:World}{M:Nat->Prop}{ρ:Env}{w:World}{p u:Value}(hp:(A.val x).cz ρ p)(hv:v.cz ρ u)(hh:aj w0 M ρ s.hp w) :
 ∃b o,p = .pointer (some ⟨b,o,none⟩)/\∃w' cR,(storeVar t ⟨b,o,none⟩ u).run X.P w = .ok () w'/\aj w0 M ρ cR w'/\K (.a .any) (s.put cR):=by
 unfold Mw at h;split at h
 ·rename_i ti xs hti hxs;have ty:=hX.ty hti;replace h:=qv h;obtain⟨tp,wr,H,h,hf⟩:=h;cases hb0:(wr&&(Nat.beq xs.length ti.sz&&lS ti.ks xs))
  ·simp[hb0]at h
  simp only[hb0,cond_true]at h;simp only[Bool.and_eq_true]at hb0;obtain⟨hwr,hsz,hfit⟩:=hb0;subst hwr;obtain⟨b,lo,o,cs,rfl,hH,hle,h⟩:=h;rw[qF]at h;obtain⟨rfl,_⟩:=hp;refine⟨b,lo+o,rfl,?_⟩;have hsz':=Nat.eq_of_beq_eq_true hsz;have hr:=rJ hxs hv (KD hfit);have hks:=lK ty;have hone:=QF hfit (by omega) hr;obtain⟨ev,_⟩:=qE hfit hr;have hlen:=hr.length;have hsize:u.cells.size=ti.sz:=by rw[<- hsz',<- hlen];simp
  have hent:=hh.iq _ (aJ.bu hf);have he:=hent.ch;obtain⟨hfp,vs,vty,fr,hb,hvl,hvs,hu⟩:=he b lo cs hH;have hcl:u.cells.toList.length=xs.length:=hlen;have hs:=eO (P:=X.P) b (lo+o) vty fr u.cells.toList 0 vs w hb (fun x h1 h2=>hu x (by omega) (by omega)) (by omega) hone;have run:∀w',(storeCells ⟨b,lo+o,none⟩ u.cells.toList).run X.P w = .ok () w'->(storeVar t ⟨b,lo+o,none⟩ u).run X.P w = .ok () w':=by
   intro w' hw;simp[storeVar,cu ty,hsize,hw]
  refine⟨_,_,run _ hs,hh.vb hf ((eZ.setRow w _ _).mono fun x _ hb=>by subst hb;exact hfp) ?_,h⟩;intro b' lo' cs' hb';by_cases hbb:b'=b
  ·subst hbb;rw[dP]at hb';cases hb';have hvsz:vs.toList.length=vs.size:=by simp
   rw[<- ev];have hcsl:(cs.take o++u.cells.toList++cs.drop (o+u.cells.toList.length)).length=cs.length:=by simp only[List.length_append,List.length_take,List.length_drop];omega
   refine⟨hfp,_,vty,fr,setRow_heap w _ _ _ vty fr hb,?_,fun i hi=>?_,by rw[hcsl];exact hu⟩
   ·rw[hcsl];simp only[List.size_toArray,List.length_append,List.length_take,List.length_drop];omega
   ·rw[hcsl]at hi;rw[List.getElem?_toArray,gI _ _ _ (by omega),gI _ _ _ (by omega)];by_cases hin:o<=i/\i<o+u.cells.toList.length
    ·rw[if_pos (by omega),if_pos hin];congr 1;omega
    ·rw[if_neg (by omega),if_neg hin];have:=hvs i hi;simpa using this
  ·rw[cN hbb]at hb';obtain⟨g1,vs',ty',fr',g2,g3⟩:=he b' lo' cs' hb';exact⟨g1,vs',ty',fr',(setRow_other w b b' _ hbb).trans g2,g3⟩
 ·exact h.elim
def Mx(X:Cx)(t:Nat)(v:Value)(lo hi mx:Option Operand)(s:S)(K:KV):Prop :=
 match X.ti t with
 |some ti =>
  match ti.d with
  |.slc el =>
   match X.ti el with
   |some te=>bif mx.isNone||hi.isSome then Hh v /\
    lU s mx (jX v) (jX v) fun m=>lU s hi (di v) m fun h=>lU s lo 0 h fun l=>K (.a (.val (nW te.sz v l h m))) s else False
   |none=>False
  |_=>False
 |none=>False
theorem QH{X:Cx}(hX:X.Ok){t:Nat}{v:Value}{lo hi mx:Option Operand}{s:S}{K:KV}(h:Mx X t v lo hi mx s K){ρ:Env}{a:Act}(hf:dK ρ s.fr a.tmps){u:Value}(hu:(A.val v).cz ρ u) :
 ∃r sv,(∀w:World,(Instr.sliceAt t u (lo.map a.eval) (hi.map a.eval) (mx.map a.eval)).run X.P w = .ok r w)/\sv.cz ρ r/\K sv s:=by
 unfold Mx at h;split at h
 ·rename_i ti hti;have ty:=hX.ty hti;split at h
  ·rename_i el hd;have hut:=cF (ty.desc.trans hd);split at h
   ·rename_i te hte;have tye:=hX.ty hte;cases hb0:(mx.isNone||hi.isSome)
    ·simp[hb0]at h
    simp only[hb0,cond_true]at h;simp only[Bool.or_eq_true]at hb0;have hmx:mx=none\/hi≠none:=by
     rcases hb0 with h|h
     ·exact .inl (by simpa using h)
     ·exact .inr (by intro h';rw[h']at h;cases h)
    obtain⟨hok,h⟩:=h;obtain⟨rfl,_⟩:=hu;obtain⟨mN,h,g1,g2⟩:=iX (P:=X.P) h hf;obtain⟨hN,h,h1,h2⟩:=iX (P:=X.P) h hf;obtain⟨lN,h,h3,h4⟩:=iX (P:=X.P) h hf;rcases hok with rfl | ⟨b,o,len,cap,rfl,hlc,hcm⟩
    ·have hb:=fun w=>oe (P:=X.P) (isSlice:=true) (len:=0) (cap:=0) (lo:=lo) (hi:=hi) (mx:=mx) (a:=a) (w:=w) (m:=mN) (h:=hN) (l:=lN) hmx ⟨g1,g2⟩ ⟨h1,h2⟩ ⟨h3,h4⟩;have e1:mN<=0:=by cases mx with|none=>rw[g1 rfl];exact Nat.le_refl _|some y=>exact(g2 y rfl).1
     have e2:hN<=mN:=by
      cases hi with
      |none=>rw[h1 rfl];exact Nat.zero_le _
      |some y=>exact(h2 y rfl).1
     have e3:lN<=hN:=by cases lo with|none=>rw[h3 rfl];exact Nat.zero_le _|some y=>exact(h4 y rfl).1
     obtain rfl:mN=0:=by omega
     obtain rfl:hN=0:=by omega
     obtain rfl:lN=0:=by omega
     refine⟨_,.a (.val (.slice none 0 0)),fun w=>?_,⟨rfl,rfl⟩,h⟩;simp only[Instr.sliceAt,Sem.run_bind,run_underlying hut,Result.andThen_ok,Instr.slice,hb,cu tye,Sem.run_pure];simp
    ·have hb:=fun w=>oe (P:=X.P) (isSlice:=true) (len:=len) (cap:=cap) (lo:=lo) (hi:=hi) (mx:=mx) (a:=a) (w:=w) (m:=mN) (h:=hN) (l:=lN) hmx ⟨g1,g2⟩ ⟨h1,h2⟩ ⟨h3,h4⟩;refine⟨_,.a (.val (nW te.sz (fC b o len cap) lN hN mN)),fun w=>?_,⟨rfl,rfl⟩,h⟩;rw[Aj];simp only[fC,Instr.sliceAt,Sem.run_bind,run_underlying hut,Result.andThen_ok,Instr.slice,hb,cu tye,Sem.run_pure];by_cases hml:mN=lN
     ·subst hml;simp
     ·simp[hml,Addr.add_plain]
   ·exact h.elim
  ·exact h.elim
 ·exact h.elim
def Tf(X:Cx)(src dst:Nat)(v:Value)(s:S)(K:KV):Prop :=
 match X.ti src,X.ti dst with
 |some ts,some td =>
  match ts.d,td.d with
  |.slc et,.str=>match X.ti et with
   |some te=>match te.d with
    |.int .u8=>pE s fun _ _ H=>∃l c rows,kR H v [.int .u8] l c rows/\K (.a (.str (iY rows 0 l))) s
    |_=>False
   |none=>False
  |_,_=>False
 |_,_=>False
theorem Tg{X:Cx}(hX:X.Ok){src dst:Nat}{x:Value}{s:S}{K:KV}(h:Tf X src dst x s K){w0:World}{M:Nat->Prop}{ρ:Env}{w:World}{v:Value}(hv:(A.val x).cz ρ v)(hh:aj w0 M ρ s.hp w) :
 ∃sv r,K sv s/\sv.cz ρ r/\∀w':World,(∀t',tI s.hp=some t'->∀b,(ρ.pl t').fp b->w'.heap[b]? = w.heap[b]?)->(convert src dst v).run X.P w' = .ok r w':=by
 unfold Tf at h;split at h
 ·rename_i ts td hs hd;split at h
  ·rename_i et hsd hdd;split at h
   ·rename_i te hte;split at h
    ·rename_i hed;have e1:=cF ((hX.ty hs).desc.trans hsd);have e2:=oO ((hX.ty hd).desc.trans hdd);have e3:=qG ((hX.ty hte).desc.trans hed);obtain⟨rfl,_⟩:=hv;unfold pE at h;split at h
     ·rename_i tp htp;split at h
      ·rename_i wr H hf;obtain⟨l,c,rows,hsl,h⟩:=h;have hc:=(hh.iq _ (aJ.bu hf)).ch;rcases hsl with⟨rfl,rfl,rfl⟩ | ⟨b,lo,o,cs,rfl,⟨h1,h2⟩,hH,hfit,hrow⟩
       ·refine⟨_,.string (iY rows 0 0),h,⟨rfl,by rw[si];omega⟩,fun w' _=>?_⟩;rw[run_convert_bytes_string w' src dst et none _ _ e1 e3 e2];rfl
       ·refine⟨_,.string (iY rows 0 l),h,⟨rfl,by rw[si];omega⟩,fun w' hw=>?_⟩;have hc':(Chunk.cI H).Sat ρ (ρ.pl tp) w':=fun b lo cs hb=>by
         obtain⟨hfp,vs,vty,fr,hb1,hr⟩:=hc b lo cs hb;exact⟨hfp,vs,vty,fr,by rw[hw tp htp b hfp];exact hb1,hr⟩
        simp only[List.length_singleton,Nat.mul_one]at hfit;obtain⟨cells,c1,c2,c3⟩:=C2 (P:=X.P) hc' hH hrow (by simp only[List.length_singleton,Nat.mul_one];omega) (Nat.le_refl l);rw[fC,run_convert_bytes_string w' src dst et (some _) _ _ e1 e3 e2];have hcells:cells=(((List.range l).map fun i=>jW (rows (0+i) 0)).map (Value.int .u8)).toArray:=by
         apply Array.ext
         ·simp[c2]
         ·intro i hi1 hi2;have hi:i<l:=by simpa[c2]using hi1
          obtain⟨g1,k,g2,g3⟩:=c3 i hi 0 (.int .u8) rfl;simp only[List.length_singleton,Nat.mul_one,Nat.add_zero]at g1;have g4:cells[i]? = some cells[i]:=Array.getElem?_eq_getElem hi1;rw[g4]at g1;rw[Option.some.inj g1,g2];simp[g2,jW]
        have hl:=c1 w' rfl;simp only[List.length_singleton,Nat.mul_one]at hl;rw[hcells]at hl;exact run_bytesToString w' _ l c _ hl
      ·exact h.elim
     ·exact h.elim
    ·exact h.elim
   ·exact h.elim
  ·exact h.elim
 ·exact h.elim
end
section
variable {P:Program}
theorem aJ.Th{hp:aJ}{t u:Nat}(h:t≠u):(hp.del u).find t=hp.find t:=by
 induction hp with
 |nil=>rfl
 |cons e r ih =>
  simp only[aJ.del];by_cases he:e.tag=u
  ·subst he;simp only[dz,cond_true,aJ.find,fh (Ne.symm h),cond_false]
  ·simp only[fh he,cond_false,aJ.find,ih]
theorem aj.YU{w0:World}{M:Nat->Prop}{ρ:Env}{w:World}{hp:aJ}{tp t:Nat}{c1 c2:Chunk}(hh:aj w0 M ρ hp w)(hf:hp.find tp=some (true,c1))(ht:hp.find t=some (true,c2))(hne:t≠tp)
 (p:Place) (hp1:∀b,p.fp b->(ρ.pl tp).fp b\/(ρ.pl t).fp b) {ch:Chunk} (hch:ch.Sat (ρ.ext p) p w) :
 aj w0 M (ρ.ext p) (⟨ρ.n,true,ch⟩::(hp.del tp).del t) w/\∀b,(ρ.pl t).fp b->¬(ρ.pl tp).fp b:=by
 have h1:=hh.vo hf;have hh1:aj w0 M ρ (hp.del tp) w:=hh.sub aJ.js;have ht1:(hp.del tp).find t=some (true,c2):=by rw[aJ.Th hne];exact ht
 have h2:=hh1.vo ht1;have hh2:aj w0 M ρ ((hp.del tp).del t) w:=hh1.sub aJ.js;have e1:=hh.iq _ (aJ.bu hf);have e2:=hh.iq _ (aJ.bu ht);refine⟨(hh2.mono (ρ.eE p)).cons ⟨Nat.lt_succ_self _,?_,?_,?_⟩ ?_,?_⟩
 ·simp only[ρ.dH];exact hch
 ·simp only[ρ.dH];intro b hb;rcases hp1 b hb with h|h
  ·exact e1.lt b h
  ·exact e2.lt b h
 ·simp only[ρ.dH];intro _ b hb hb0;rcases hp1 b hb with h|h
  ·exact e1.own rfl b h hb0
  ·exact e2.own rfl b h hb0
 ·intro z hz;have hz1:=aJ.js.subset hz;have htz:=(hh.iq z (aJ.js.subset hz1)).tag;refine⟨Nat.ne_of_gt htz,fun _ b hb hb'=>?_⟩;simp only[ρ.dH]at hb;rw[ρ.wS p htz]at hb';rcases hp1 b hb with h|h
  ·exact(h1 z hz1).2 rfl b h hb'
  ·exact(h2 z hz).2 rfl b h hb'
 ·intro b hb hb';exact(h1 _ (aJ.bu ht1)).2 rfl b hb' hb
def KE(w0:World)(M:Nat->Prop)(ρ:Env)(w:World)(s:S)(u:Value)(K:A->S->Prop):Prop :=
 ∃x s' ρ',K x s'/\s'.nt=s.nt/\s'.fr=s.fr/\ρ'.n=s'.nx/\ρ.le ρ'/\x.cz ρ' u/\aj w0 M ρ' s'.hp w
def Cy(s:S)(t r e l c:Nat)(K:A->S->Prop):Prop :=
 pE s fun tp wr H=>match s.hp.find t with
  |some (true,.arr _ ks n rows)=>bif wr&&(Nat.beq e ks.length&&!Nat.beq t tp)then
   (c≠0/\r+l<=n)/\∀b lo cs,H b=none->cs.length=c*ks.length->BG cs 0 ks l (fun i j=>rows (r+i) j) ->
    K (.val (fC b lo l c)) ⟨s.nt,s.fr,⟨s.nx,true,.cI (aO H b lo cs)⟩::(s.hp.del tp).del t,s.nx+1,s.kp,s.rt⟩else False
  |_=>False
theorem C5{s:S}{t r e l c:Nat}{K:A->S->Prop}(h:Cy s t r e l c K){w0:World}{M:Nat->Prop}{ρ:Env}(hρ:ρ.n=s.nx){w:World}(hh:aj w0 M ρ s.hp w){u:Value}(hu:(A.slc t r e l c).cz ρ u):KE w0 M ρ w s u K:=by
 unfold Cy at h;replace h:=qv h;obtain⟨tp,wr,H,h,hf⟩:=h;split at h
 ·rename_i ty ks n rows ht;cases hb:(wr&&(Nat.beq e ks.length&&!Nat.beq t tp))
  ·simp[hb]at h
  simp only[hb,cond_true]at h;simp only[Bool.and_eq_true,Bool.not_eq_true']at hb;obtain⟨hwr,he,hne⟩:=hb;subst hwr;have he:=Nat.eq_of_beq_eq_true he;subst he;have hne:t≠tp:=fun e=>by rw[e,dz]at hne;cases hne
  obtain⟨⟨hc0,hrl⟩,h⟩:=h;obtain⟨htn,hlc,hcm,hv⟩:=hu;rcases hv with⟨_,h0,_⟩ | ⟨o,rfl,ho⟩
  ·exact absurd h0 hc0
  obtain⟨rfl,hN⟩:=ho hc0;have ea:=hh.iq _ (aJ.bu ht);have ep:=hh.iq _ (aJ.bu hf);have hca:=ea.ch;have hcp:=ep.ch;simp only at hca hcp;rcases hca with⟨_,hN0,_⟩ | ⟨vs,vty,fr,hbk,hfit,hnN,hun,hfp,hrows⟩
  ·omega
  have hmul:=Nat.mul_le_mul_right ks.length hN;rw[Nat.add_mul]at hmul
  let lo:=(ρ.pl t).off+r*ks.length
  let cs:=(vs.toList.drop lo).take (c*ks.length)
  have hvl:vs.toList.length=vs.size:=by simp
  have hcl:cs.length=c*ks.length:=by
   simp only[cs,List.length_take,List.length_drop,lo];omega
  have hcat:∀i,i<c*ks.length->cs[i]? = vs[lo+i]?:=by
   intro i hi;simp only[cs];rw[List.getElem?_take,if_pos hi,List.getElem?_drop];simp
  have hfpt:(ρ.pl t).fp (ρ.pl t).blk:=(hfp _).2 rfl;obtain⟨g1,g2⟩:=hh.YU hf ht hne ⟨0,0,0,fun b=>(ρ.pl tp).fp b\/(ρ.pl t).fp b⟩ (fun b hb=>hb) (ch:=.cI (aO H (ρ.pl t).blk lo cs)) (by
   intro b lo' cs' hb;by_cases hbb:b=(ρ.pl t).blk
   ·subst hbb;rw[dP]at hb;cases hb;refine⟨.inr hfpt,vs,vty,fr,hbk,by rw[hcl];simp only[lo];omega,fun i hi=>(hcat i (by omega)).symm,fun x h1 h2=>hun x (by simp only[lo]at h1;omega) (by rw[hcl]at h2;simp only[lo]at h2;omega)⟩
   ·rw[cN hbb]at hb;obtain⟨a1,a2⟩:=hcp b lo' cs' hb;exact⟨.inl a1,a2⟩)
  have hnone:H (ρ.pl t).blk=none:=by
   cases hH:H (ρ.pl t).blk with
   |none=>rfl
   |some q=>exact absurd (hcp _ q.1 q.2 hH).1 (g2 _ hfpt)
  refine⟨_,_,_,h (ρ.pl t).blk lo cs hnone hcl ⟨fun i hi j k hk=>?_⟩,rfl,rfl,by show ρ.n+1=s.nx+1;rw[hρ],ρ.eE _,⟨rfl,rfl⟩,by rw[<- hρ];exact g1⟩;have hjl:j<ks.length:=(List.getElem?_eq_some_iff.1 hk).1;obtain⟨a,b⟩:=hrows (r+i) (by omega) j k hk;have hlt:i*ks.length+j<c*ks.length:=by
   have:=Nat.mul_le_mul_right ks.length (show i+1<=c by omega);rw[Nat.succ_mul]at this;omega
  refine⟨?_,b⟩;rw[Nat.zero_add,hcat _ hlt,<- a,Nat.add_mul];congr 1;simp only[lo];omega
 ·exact h.elim
def A.flat:A->Bool
 |.lit _ _=>true
 |.int _ _=>true
 |.tt=>true
 |.ff=>true
 |.bool _=>true
 |.str _=>true
 |.nil=>true
 |.cc=>true
 |.fn _=>true
 |.val _=>true
 |_=>false
def tQ:List A->Bool
 |[]=>true
 |x::r=>x.flat&&tQ r
theorem Ti{x:A}(h:x.flat=true){ρ:Env}{v:Value}(r:x.cz ρ v):v=x.Af:=by
 cases x<;>simp only[A.flat,A.cz]at h r<;>first|(cases h;done)|exact r|exact r.1
theorem BH{ρ:Env}:∀ {xs:List A} {vs:List Value},tQ xs=true->cE ρ xs vs->vs=xs.map A.Af
 |[],_,_,r=>r
 |x::xs,_,h,⟨u,t,e,r1,r2⟩=>by
  subst e;simp only[tQ,Bool.and_eq_true]at h;rw[Ti h.1 r1,BH h.2 r2];rfl
def FT:List A->Prop->Prop
 |[],p=>p
 |.int k n::r,p=>bR k n->FT r p
 |.str b::r,p=>b.size<=aq->FT r p
 |_::r,p=>FT r p
theorem Al{ρ:Env}{p:Prop}:∀ {xs:List A} {vs:List Value},FT xs p->cE ρ xs vs->p
 |[],_,h,_=>h
 |x::xs,_,h,⟨u,t,e,r1,r2⟩=>by
  cases x<;>simp only[FT]at h<;>first|exact Al (h r1.2) r2|exact Al h r2
def Ho(s:S)(t:Nat)(cs:List A)(K:A->S->Prop):Prop :=
 pE s fun tp wr H=>match s.hp.find t with
  |some (true,.obj _ cs0)=>bif wr&&(Nat.beq cs.length cs0.length&&(tQ cs&&!Nat.beq t tp))then
   FT cs (tM cs fun vs=>∀b,H b=none->K (.val (pv b 0)) ⟨s.nt,s.fr,⟨s.nx,true,.cI (aO H b 0 vs)⟩::(s.hp.del tp).del t,s.nx+1,s.kp,s.rt⟩)else False
  |_=>False
theorem My{s:S}{t:Nat}{cs:List A}{K:A->S->Prop}(h:Ho s t cs K){w0:World}{M:Nat->Prop}{ρ:Env}(hρ:ρ.n=s.nx){w:World}(hh:aj w0 M ρ s.hp w){u:Value}{e:Nat}(hu:(A.ptr t 0 e 0).cz ρ u)
 (hcs:∀vs ty fr,w.heap[(ρ.pl t).blk]? = some (.cells vs ty fr)->∃us xs,vs.toList=us++xs/\cE ρ cs us):KE w0 M ρ w s u K:=by
 unfold Ho at h;replace h:=qv h;obtain⟨tp,wr,H,h,hf⟩:=h;split at h
 ·rename_i ty cs0 ht;cases hb:(wr&&(Nat.beq cs.length cs0.length&&(tQ cs&&!Nat.beq t tp)))
  ·simp[hb]at h
  simp only[hb,cond_true]at h;simp only[Bool.and_eq_true,Bool.not_eq_true']at hb;obtain⟨hwr,hlen,hfl,hne⟩:=hb;subst hwr;have hne:t≠tp:=fun e=>by rw[e,dz]at hne;cases hne
  obtain⟨_,rfl⟩:=hu;have ea:=hh.iq _ (aJ.bu ht);have ep:=hh.iq _ (aJ.bu hf);have hca:=ea.ch;have hcp:=ep.ch;simp only at hca hcp;obtain⟨vs,fr,hbk,hoff,_,hun,hfp⟩:=hca;obtain⟨us,xs,hus,hrep⟩:=hcs vs ty fr hbk;have h:=Al h hrep;rw[qF,<- BH hfl hrep]at h;have hvl:us.length+xs.length=vs.size:=by rw[<- Array.length_toList,hus,List.length_append]
  have hfpt:(ρ.pl t).fp (ρ.pl t).blk:=(hfp _).2 rfl;obtain⟨g1,g2⟩:=hh.YU hf ht hne ⟨0,0,0,fun b=>(ρ.pl tp).fp b\/(ρ.pl t).fp b⟩ (fun b hb=>hb) (ch:=.cI (aO H (ρ.pl t).blk 0 us)) (by
   intro b lo' cs' hb;by_cases hbb:b=(ρ.pl t).blk
   ·subst hbb;rw[dP]at hb;cases hb;refine⟨.inr hfpt,vs,ty,fr,hbk,by omega,fun i hi=>?_,fun x h1 h2=>hun x (by omega)⟩;rw[Nat.zero_add,<- Array.getElem?_toList,hus,List.getElem?_append_left hi]
   ·rw[cN hbb]at hb;obtain⟨a1,a2⟩:=hcp b lo' cs' hb;exact⟨.inl a1,a2⟩)
  have hnone:H (ρ.pl t).blk=none:=by
   cases hH:H (ρ.pl t).blk with
   |none=>rfl
   |some q=>exact absurd (hcp _ q.1 q.2 hH).1 (g2 _ hfpt)
  refine⟨_,_,_,h (ρ.pl t).blk hnone,rfl,rfl,by show ρ.n+1=s.nx+1;rw[hρ],ρ.eE _,⟨?_,rfl⟩,by rw[<- hρ];exact g1⟩;simp[pv,hoff]
 ·exact h.elim
def Xk(f:A->S->(A->S->Prop)->Prop):List A->S->(List A->S->Prop)->Prop
 |[],s,K=>K [] s
 |x::r,s,K=>f x s fun x s=>Xk f r s fun r s=>K (x::r) s
def KF:Nat->A->S->(A->S->Prop)->Prop
 |0,_,_,_=>False
 |n+1,x,s,K=>match x with
  |.slc t r e l c=>Cy s t r e l c K
  |.ptr t 0 _ 0=>match s.hp.find t with
   |some (true,.obj _ cs)=>Xk (KF n) cs s fun cs s=>Ho s t cs K
   |_=>False
  |.ptr _ _ _ _=>False
  |.sub _ _ _ _ _ _=>False
  |.any=>False
  |x=>K x s
theorem Hp{f:A->S->(A->S->Prop)->Prop}(hf:∀x s K,f x s K->∀w0 M ρ w,ρ.n=s.nx->aj w0 M ρ s.hp w->∀u,x.cz ρ u->KE w0 M ρ w s u K) :
 ∀(l:List A) (s:S) (K:List A->S->Prop),Xk f l s K->∀w0 M ρ w,ρ.n=s.nx->aj w0 M ρ s.hp w->∀us,cE ρ l us ->
  ∃xs s' ρ',K xs s'/\s'.nt=s.nt/\s'.fr=s.fr/\ρ'.n=s'.nx/\ρ.le ρ'/\cE ρ' xs us/\aj w0 M ρ' s'.hp w
 |[],s,K,h,w0,M,ρ,w,hρ,hh,us,hu=>⟨[],s,ρ,h,rfl,rfl,hρ,Env.le.refl ρ,hu,hh⟩
 |x::r,s,K,h,w0,M,ρ,w,hρ,hh,us,hu=>by
  obtain⟨u,t,rfl,r1,r2⟩:=hu;obtain⟨y,s1,ρ1,k1,a1,a2,a3,a4,a5,a6⟩:=hf _ _ _ h w0 M ρ w hρ hh u r1;obtain⟨ys,s2,ρ2,k2,b1,b2,b3,b4,b5,b6⟩:=Hp hf r s1 _ k1 w0 M ρ1 w a3 a6 t (r2.mono a4);exact⟨y::ys,s2,ρ2,k2,b1.trans a1,b2.trans a2,b3,a4.trans b4,⟨u,t,rfl,a5.mono b4,b5⟩,b6⟩
theorem Cz:∀(n:Nat) (x:A) (s:S) (K:A->S->Prop),KF n x s K->∀w0 M ρ w,ρ.n=s.nx->aj w0 M ρ s.hp w->∀u,x.cz ρ u->KE w0 M ρ w s u K
 |0,_,_,_,h,_,_,_,_,_,_,_,_=>h.elim
 |n+1,x,s,K,h,w0,M,ρ,w,hρ,hh,u,hu=>by
  unfold KF at h;split at h
  ·exact C5 h hρ hh hu
  ·rename_i t e;split at h
   ·rename_i ty cs ht;have he:=(hh.iq _ (aJ.bu ht)).ch;have htag:=(hh.iq _ (aJ.bu ht)).tag;simp only at he htag;obtain⟨vs,fr,hbk,hoff,⟨us,xs,hus,hrep⟩,_⟩:=he;obtain⟨ys,s1,ρ1,k1,a1,a2,a3,a4,a5,a6⟩:=Hp (Cz n) cs s _ h w0 M ρ w hρ hh us hrep;have hpl:=a4.pl t htag;obtain⟨y,s2,ρ2,k2,b1,b2,b3,b4,b5,b6⟩:=My k1 a3 a6 (hu.mono a4) (fun vs' ty' fr' hb'=>by
     rw[hpl]at hb';rw[hbk]at hb';cases hb';exact⟨us,xs,hus,a5⟩)
    exact⟨y,s2,ρ2,k2,b1.trans a1,b2.trans a2,b3,a4.trans b4,b5,b6⟩
   ·exact h.elim
  ·exact h.elim
  ·exact h.elim
  ·exact h.elim
  ·exact⟨x,s,ρ,h,rfl,rfl,hρ,Env.le.refl ρ,hu,hh⟩
theorem aj.Hq{w0:World}{M:Nat->Prop}{ρ:Env}{w:World}{hp:aJ}{tp:Nat}{c0:Chunk}(hh:aj w0 M ρ hp w)(hf:hp.find tp=some (true,c0))(p1 p2:Place)(h1:∀b,p1.fp b->(ρ.pl tp).fp b)(h2:∀b,p2.fp b->(ρ.pl tp).fp b)
 (h12:∀b,p1.fp b->¬p2.fp b) {c1 c2:Chunk} (hc1:∀ρ':Env,c1.Sat ρ' p1 w) (hc2:∀ρ':Env,c2.Sat ρ' p2 w):aj w0 M ((ρ.ext p1).ext p2) (⟨ρ.n,true,c1⟩::⟨ρ.n+1,true,c2⟩::hp.del tp) w:=by
 have hd:=hh.vo hf;have hsub:aj w0 M ρ (hp.del tp) w:=hh.sub aJ.js;have e0:=hh.iq _ (aJ.bu hf);have hle:=(ρ.eE p1).trans ((ρ.ext p1).eE p2);have q1:((ρ.ext p1).ext p2).pl ρ.n=p1:=by rw[(ρ.ext p1).wS p2 (Nat.lt_succ_self _)];exact ρ.dH p1
 have q2:((ρ.ext p1).ext p2).pl (ρ.n+1)=p2:=(ρ.ext p1).dH p2;have hn:((ρ.ext p1).ext p2).n=ρ.n+2:=rfl;have old:∀z∈hp.del tp,z.tag<ρ.n/\((ρ.ext p1).ext p2).pl z.tag=ρ.pl z.tag:=fun z hz=>⟨(hsub.iq z hz).tag,hle.pl _ (hsub.iq z hz).tag⟩
 refine((hsub.mono hle).cons (e:=⟨ρ.n+1,true,c2⟩) ⟨by rw[hn];exact Nat.lt_succ_self _,by simp only[q2];exact hc2 _,by simp only[q2];exact fun b hb=>e0.lt b (h2 b hb),by simp only[q2];exact fun _ b hb hb0=>e0.own rfl b (h2 b hb) hb0⟩ ?_).cons
  ⟨by rw[hn];show ρ.n<ρ.n+2;omega,by simp only[q1];exact hc1 _,by simp only[q1];exact fun b hb=>e0.lt b (h1 b hb),by simp only[q1];exact fun _ b hb hb0=>e0.own rfl b (h1 b hb) hb0⟩ ?_
 ·intro z hz;obtain⟨a,b⟩:=old z hz;refine⟨by show ρ.n+1≠z.tag;omega,fun _ x hx hx'=>?_⟩;simp only[q2]at hx;rw[b]at hx';exact(hd z hz).2 rfl x (h2 x hx) hx'
 ·intro z hz;rcases List.mem_cons.1 hz with rfl|hz
  ·exact⟨by show ρ.n≠ρ.n+1;omega,fun _ x hx hx'=>by simp only[q1]at hx;simp only[q2]at hx';exact h12 x hx hx'⟩
  ·obtain⟨a,b⟩:=old z hz;refine⟨by show ρ.n≠z.tag;omega,fun _ x hx hx'=>?_⟩;simp only[q1]at hx;rw[b]at hx';exact(hd z hz).2 rfl x (h1 x hx) hx'
def Zq(K:KV):KV:=fun r s=>match r with
 |.a (.slc t r e l c)=>Cy s t r e l c fun x s=>K (.a x) s
 |_=>False
def Hr(X:Cx)(t:Nat)(v:Value)(y:SV)(s:S)(K:KV):Prop :=
 match X.ti t with
 |some ti =>
  match ti.d with
  |.slc e =>
   match X.ti e with
   |some te=>pE s fun tp wr H=>bif wr then
    ∃l c rows,kR H v te.ks l c rows /\
     tP X t (.a (.slc s.nx 0 te.sz l c)) y ⟨s.nt,s.fr,⟨s.nx,true,.arr e te.ks l rows⟩::⟨s.nx+1,true,.cI (aM H v)⟩::s.hp.del tp,s.nx+2,s.kp,s.rt⟩ (Zq K)else False
   |none=>False
  |_=>False
 |none=>False
theorem Mz{X:Cx}(hX:X.Ok){t xt rt:Nat}{xd:TypeDesc}(hxt:X.P.underlying xt=some xd)(hxd:xd = .string\/∃e',xd = .slice e'){x:Value}{y:SV}{s:S}{K:KV}(h:Hr X t x y s K){w0:World}{M:Nat->Prop}{ρ:Env}(hρ:ρ.n=s.nx)
 {w:World} (hh:aj w0 M ρ s.hp w) {u v:Value} (hu:(A.val x).cz ρ u) (hv:y.cz ρ v) :
 ∃r w' ρ',(Builtin.append_ #[t,xt] rt #[u,v]).run X.P w = .ok r w'/\ρ.le ρ'/\∃sv s',K sv s'/\s'.nt=s.nt/\s'.fr=s.fr/\ρ'.n=s'.nx/\sv.cz ρ' r/\aj w0 M ρ' s'.hp w':=by
 unfold Hr at h;split at h
 ·rename_i ti hti;split at h
  ·rename_i e hd;split at h
   ·rename_i te hte;have tye:=hX.ty hte;have hks:=lK tye;replace h:=qv h;obtain⟨tp,wr,H,h,hf⟩:=h;cases wr with
    |false=>exact h.elim
    |true =>
    simp only[cond_true]at h;obtain⟨rfl,_⟩:=hu;have fin:∀(s1:S) (ρ1:Env) (xv:SV),s1.nt=s.nt->s1.fr=s.fr->ρ1.n=s1.nx->ρ.le ρ1->aj w0 M ρ1 s1.hp w->xv.cz ρ1 u->tP X t xv y s1 (Zq K) ->
     ∃r w' ρ',(Builtin.append_ #[t,xt] rt #[u,v]).run X.P w = .ok r w'/\ρ.le ρ'/\∃sv s',K sv s'/\s'.nt=s.nt/\s'.fr=s.fr/\ρ'.n=s'.nx/\sv.cz ρ' r/\aj w0 M ρ' s'.hp w':=by
     intro s1 ρ1 xv a1 a2 a3 a4 a5 a6 hx;obtain⟨r,w',ρ2,hr,hle,sv,s2,k2,b1,b2,b3,b4,b5⟩:=wY (rt:=rt) hX hxt hxd hx a3 a5 a6 (hv.mono a4);unfold Zq at k2;split at k2
     ·obtain⟨y,s3,ρ3,k3,c1,c2,c3,c4,c5,c6⟩:=C5 k2 b3 b5 b4;exact⟨r,w',ρ3,hr,a4.trans (hle.trans c4),.a y,s3,k3,c1.trans (b1.trans a1),c2.trans (b2.trans a2),c3,c5,c6⟩
     ·exact k2.elim
    obtain⟨l,c,rows,hat,h⟩:=h;rcases hat with⟨rfl,rfl,rfl⟩ | ⟨b,lo,o,cs,rfl,⟨hlc,hcm⟩,hH,hfit,hrows⟩
    ·have hcp:=(hh.iq _ (aJ.bu hf)).ch;simp only at hcp;have hsp:=hh.Hq hf ⟨0,0,0,fun _=>False⟩ ⟨0,0,0,fun x=>(ρ.pl tp).fp x⟩ (fun x hx=>hx.elim) (fun x hx=>hx) (fun x hx _=>hx)
      (c1:=.arr e te.ks 0 rows) (c2:=.cI H) (fun ρ'=>.inl ⟨rfl,rfl,fun _ h=>h⟩) (fun ρ' x lo' cs' hx=>hcp x lo' cs' hx)
     rw[hρ]at hsp;exact fin ⟨s.nt,s.fr,⟨s.nx,true,.arr e te.ks 0 rows⟩::⟨s.nx+1,true,.cI H⟩::s.hp.del tp,s.nx+2,s.kp,s.rt⟩ _ (.a (.slc s.nx 0 te.sz 0 0)) rfl rfl (by show ρ.n+1+1=s.nx+2;rw[hρ]) ((ρ.eE _).trans ((ρ.ext _).eE _)) hsp
      ⟨by show s.nx<ρ.n+2;omega,Nat.le_refl _,by unfold aq;omega,.inl ⟨rfl,rfl,rfl⟩⟩ h
    ·have hcp:=(hh.iq _ (aJ.bu hf)).ch;simp only at hcp;obtain⟨hfp,vs,vty,fr,hb,hvl,hvs,hun⟩:=hcp b lo cs hH;have hsp:=hh.Hq hf ⟨b,lo+o,c,fun x=>x=b⟩ ⟨0,0,0,fun x=>(ρ.pl tp).fp x/\x≠b⟩ (fun x hx=>by simp only at hx;subst hx;exact hfp) (fun x hx=>hx.1) (fun x hx hx'=>hx'.2 hx)
      (c1:=.arr e te.ks l rows) (c2:=.cI (tO H b)) (fun ρ'=>.inr ⟨vs,vty,fr,hb,by simp only;omega,hlc,fun x h1 h2=>hun x (by simp only at h1;omega) (by simp only at h2;omega),fun _=>Iff.rfl,fun i hi j k hk=>by
       obtain⟨g1,g2⟩:=hrows.at_ i hi j k hk;refine⟨?_,g2⟩;have hlt:o+i*te.ks.length+j<cs.length:=(List.getElem?_eq_some_iff.1 g1).1;rw[<- g1,<- hvs _ hlt];congr 1;simp only;omega⟩)
      (fun ρ' x lo' cs' hx=>by
       by_cases hxb:x=b
       ·subst hxb;rw[BF]at hx;cases hx
       ·rw[Ai hxb]at hx;obtain⟨g1,g2⟩:=hcp x lo' cs' hx;exact⟨⟨g1,hxb⟩,g2⟩)
     rw[hρ]at hsp;refine fin ⟨s.nt,s.fr,⟨s.nx,true,.arr e te.ks l rows⟩::⟨s.nx+1,true,.cI (tO H b)⟩::s.hp.del tp,s.nx+2,s.kp,s.rt⟩ _ (.a (.slc s.nx 0 te.sz l c)) rfl rfl (by show ρ.n+1+1=s.nx+2;rw[hρ]) ((ρ.eE _).trans ((ρ.ext _).eE _)) hsp ?_ h;refine⟨by show s.nx<ρ.n+2;omega,hlc,hcm,.inr ⟨_,rfl,fun _=>?_⟩⟩;have hpl:((ρ.ext ⟨b,lo+o,c,fun x=>x=b⟩).ext ⟨0,0,0,fun x=>(ρ.pl tp).fp x/\x≠b⟩).pl s.nx=⟨b,lo+o,c,fun x=>x=b⟩:=by
      rw[<- hρ,(ρ.ext _).wS _ (Nat.lt_succ_self _)];exact ρ.dH _
     rw[hpl];simp
   ·exact h.elim
  ·exact h.elim
 ·exact h.elim
def Hs(s:S)(y:SV)(K:S->Prop):Prop :=
 match y with
 |.a (.slc tY _ _ _ _)=>match s.hp.find tY with
  |some (true,.obj _ out)=>bif tQ out then K s else Xk (KF 3) out s fun out' s'=>match s'.hp.find tY with
   |some (true,.obj ty0 out0)=>bif Nat.beq out'.length out0.length then K (s'.put (s'.hp.vb tY (.obj ty0 out')))else False
   |_=>False
  |_=>K s
 |_=>K s
theorem FU{s:S}{y:SV}{K:S->Prop}(h:Hs s y K){w0:World}{M:Nat->Prop}{ρ:Env}(hρ:ρ.n=s.nx){w:World}(hh:aj w0 M ρ s.hp w) :
 ∃s' ρ',K s'/\s'.nt=s.nt/\s'.fr=s.fr/\ρ'.n=s'.nx/\ρ.le ρ'/\aj w0 M ρ' s'.hp w:=by
 have same:K s->∃s' ρ',K s'/\s'.nt=s.nt/\s'.fr=s.fr/\ρ'.n=s'.nx/\ρ.le ρ'/\aj w0 M ρ' s'.hp w:=fun h=>⟨s,ρ,h,rfl,rfl,hρ,Env.le.refl ρ,hh⟩
 unfold Hs at h;split at h
 ·rename_i tY _ _ _ _;split at h
  ·rename_i ty out ht;cases hfl:tQ out
   ·rw[hfl]at h;simp only[cond_false]at h;have he:=(hh.iq _ (aJ.bu ht)).ch;have htag:=(hh.iq _ (aJ.bu ht)).tag;simp only at he htag;obtain⟨vs,fr,hbk,hoff,⟨us,xs,hus,hrep⟩,_⟩:=he;obtain⟨ys,s1,ρ1,k1,a1,a2,a3,a4,a5,a6⟩:=Hp (Cz 3) out s _ h w0 M ρ w hρ hh us hrep;split at k1
    ·rename_i ty0 out0 hf2;cases hl:Nat.beq ys.length out0.length
     ·rw[hl]at k1;exact k1.elim
     rw[hl]at k1;have he2:=(a6.iq _ (aJ.bu hf2)).ch;simp only at he2;obtain⟨vs2,fr2,hb2,hoff2,_,hu2,hfp2⟩:=he2;have hpl:=a4.pl tY htag;have hvv:vs2=vs:=by rw[hpl]at hb2;rw[hbk]at hb2;cases hb2;rfl
     subst hvv;exact⟨_,ρ1,k1,a1,a2,a3,a4,a6.vb hf2 (eZ.refl _ _) ⟨vs2,fr2,hb2,hoff2,⟨us,xs,hus,a5⟩,hu2,hfp2⟩⟩
    ·exact k1.elim
   ·rw[hfl]at h;exact same h
  ·exact same h
 ·exact same h
end
end Go.Sx
