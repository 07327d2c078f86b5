/-
  
-/
import Derived.Test.YtfjgoonelcaggaaGreatNodeForeignP5
import Derived.Test.YtfjgoonelcaggaaGreatNodeForeignP3
set_option maxRecDepth 100000
set_option maxHeartbeats 4000000
set_option linter.unusedVariables false
set_option linter.unusedSimpArgs false
namespace Go.Proofs.YtfjgoonelcaggaaGreat
open Go.Sx
def BV(n:cw)(r:Rg.ef):Prop:=∀k,fK n r k=true
theorem Pf{L:List (Int×Int)}{i:Int}(h0:0<L.length)(h:∀e∈L,e.2=i)(x:Int):Rg.xV L x=i:=by
 unfold Rg.xV;cases hf:L.find? (fun e=>decide (x<=e.1))with
 |some e=>exact h e (List.mem_of_find?_eq_some hf)
 |none=>exact h _ (by rw[bT h0];exact List.getElem_mem _)
theorem yX{i:Int}(h:1<=i/\i<=5):(Rg.nw [i]).length=8/\∀e∈Rg.nw [i],e.2=i:=by
 have hm:=Rg.U5 h.1 h.2;refine⟨Rg.IT hm,fun e he=>?_⟩;have he:=(Rg.D3 hm).mem_iff.1 he;unfold Rg.fV at he;rw[List.flatMap_cons,List.flatMap_nil,List.append_nil]at he;exact Rg.U3 he
theorem Pg{ep:Int}{i:Int}{c1 c2:Nat}(h:1<=i/\i<=5):(pQ ep [i] c1 c2).L.length<100000/\0<(pQ ep [i] c1 c2).L.length:=by
 have:=(yX h).1;show(Rg.nw [i]).length<100000/\0<(Rg.nw [i]).length;omega
theorem BV.alone{n:cw}{ep:Int}{c1 c2:Nat}(h:1<=n.id/\n.id<=5)(hg:Ea n.le n.now n.s.k.m.aQ=true):BV n (pQ ep [n.id] c1 c2):=fun k=>by
 have e:tK (pQ ep [n.id] c1 c2) k=n.id:=Pf (by show 0<(Rg.nw [n.id]).length;rw[(yX h).1];decide) (yX h).2 _;unfold fK;rw[e,hg];simp
theorem K4{now tick ep:Int}(h1:1<=ep)(h2:0<=tick)(h3:tick<=now)(h4:now-tick<20):ri now ⟨0,0,0⟩ tick ep=⟨ep,tick+20,ep⟩:=by
 have e:xX now ⟨0,0,0⟩ tick ep=false:=by
  simp only[xX,Bool.or_eq_false_iff,decide_eq_false_iff_not];omega
 unfold ri;rw[e,if_neg (by decide),if_neg (by dsimp only;omega)]
theorem Vp{now tick ep:Int}(h1:1<=ep)(h4:now-tick<20):Ea ⟨ep,tick+20,ep⟩ now ep=true:=by
 simp only[Ea,Bool.and_eq_true,decide_eq_true_eq];refine⟨by omega,trivial,by omega⟩
theorem BV.gr{n:cw}{ep tick:Int}{c1 c2:Nat}(h:1<=n.id/\n.id<=5)(h1:1<=ep)(h2:0<=tick)(h3:tick<=n.now)(h4:n.now-tick<20)(he:(Rr n ep tick).s.k.m.aQ=ep):BV (Rr n ep tick) (pQ ep [n.id] c1 c2) :=
 BV.alone (n:=Rr n ep tick) h (by
  rw[he];show Ea (ri n.now ⟨0,0,0⟩ tick ep) n.now ep=true;rw[K4 h1 h2 h3 h4];exact Vp h1 h4)
theorem BV.own{n:cw}{r:Rg.ef}(h:BV n r)(k:ByteArray):¬tK r k≠n.id:=by
 have:=h k;unfold fK at this;simp only[Bool.and_eq_true,decide_eq_true_eq]at this;exact fun hn=>hn this.1
theorem BV.same{n m:cw}{r:Rg.ef}(h:BV n r)(h1:m.id=n.id)(h2:m.le=n.le)(h3:m.now=n.now)(h4:m.s.k.m.aQ=n.s.k.m.aQ):BV m r:=fun k=>by
 have:=h k;unfold fK at this ⊢;rw[h1,h2,h3,h4];exact this
theorem W5{n:cw}{r:Rg.ef}{w:lq}{g:Option aB}{b:Nat}(hb:oQ w=true):jD n r w g b=jJ n w 1 pX false:=if_pos hb
theorem yY{n:cw}{r:Rg.ef}{w:lq}{g:Option aB}{b:Nat}(hs:BV n r)(hb:oQ w=false)(ho:w.op=1)(hg:nY g n.now=none):jD n r w g b=⟨e9 n w b,[],[]⟩:=by
 unfold jD;rw[if_neg (by rw[hb];decide),if_neg (hs.own _),if_neg (by rw[hs];decide),if_neg (by omega),hg]
theorem Ph{n:cw}{r:Rg.ef}{w:lq}{g:Option aB}{b:Nat}{x:aB}(hs:BV n r)(hb:oQ w=false)(ho:w.op=1)(hg:nY g n.now=some x):jD n r w g b=jJ n w 0 x.val true:=by
 unfold jD;rw[if_neg (by rw[hb];decide),if_neg (hs.own _),if_neg (by rw[hs];decide),if_neg (by omega),hg]
theorem K5{n:cw}{r:Rg.ef}{w:lq}{g:Option aB}{b:Nat}(hs:BV n r)(hb:oQ w=false)(ho:w.op=2):jD n r w g b=jJ (q9 n w.key) w 0 pX false:=by
 unfold jD;rw[if_neg (by rw[hb];decide),if_neg (hs.own _),if_neg (by rw[hs];decide),if_pos ho]
theorem K6{x:iP}{v:ByteArray}(now:Int)(hk:cN x.w.key=true)(hv:v.size<=200):nY (some (ig x v)) now=some (ig x v):=by
 have:uQ (ig x v) now=true:=by simp[uQ,gf,ig,hk,hv]
 simp[nY,this]
theorem Vq{H:PH}{t:jU}(h:gC H t)(key:ByteArray)(b:Nat):vp (qY t key b) (t.last+1)=some ⟨t.last+1,b,key,true,t.dQ⟩:=by
 unfold vp qY;dsimp only;rw[List.find?_append,List.find?_eq_none.2 fun e he=>by
  have:=(h.id e he).2.1;simp;omega]
 simp
theorem EK{n:cw}{p:fI}(hat:dB n p)(w:lq)(b:Nat):Pc (e9 n w b) ⟨w,n.t.last+1⟩=true:=by
 unfold Pc e9;dsimp only;rw[Vq hat.tok]
theorem K7{n:cw}{p:fI}{r:Rg.ef}(hat:dB n p)(hs:BV n r)(w:lq)(b:Nat){v:ByteArray}(hv:v.size<=200):nB (e9 n w b) r ⟨w,n.t.last+1⟩ v true=true:=by
 have hs2:BV (e9 n w b) r:=hs.same rfl rfl rfl rfl;unfold nB;rw[EK hat,hs2,show ic v true=v from rfl,decide_eq_true hv];rfl
theorem AL{w:lq}(ho:w.op=1\/w.op=2)(hk:cN w.key=true):oQ w=false:=by
 unfold oQ;rcases ho with ho|ho<;>simp[ho,hk]
theorem Ru{ep:Int}{i:Int}{c1 c2:Nat}(h:1<=i/\i<=5)(k:ByteArray):tK (pQ ep [i] c1 c2) k=i:=Pf (by show 0<(Rg.nw [i]).length;rw[(yX h).1];decide) (yX h).2 _
theorem Rv{n:cw}{r:Rg.ef}{k:ByteArray}(h:tK r k=n.id):fK n r k=Ea n.le n.now n.s.k.m.aQ:=by
 unfold fK;rw[h];simp
end Go.Proofs.YtfjgoonelcaggaaGreat
namespace Go.Sx
section
structure Pk where
 f:Nat
 pick:List SV->S->Nat
 cs:List cE
def W6:List Pk->Nat->Option Pk
 |[],_=>none
 |p::r,f=>bif Nat.beq p.f f then some p else W6 r f
def W7:List cE->Nat->Option cE
 |[],_=>none
 |c::_,0=>some c
 |_::r,n+1=>W7 r n
def Vr(jk:Nat->Option cE)(pk:List Pk):Sx.Spec:=fun f=>match W6 pk f with
 |some p=>some fun args s K=>match W7 p.cs (p.pick args s)with
  |some C=>qP C args s K
  |none=>False
 |none=>(jk f).map qP
def F0(X:Cx)(f:Nat):List cE->Prop
 |[]=>True
 |c::r=>au X f c/\F0 X f r
def I9(X:Cx):List Pk->Prop
 |[]=>True
 |p::r=>F0 X p.f p.cs/\I9 X r
theorem F0.at_{X:Cx}{f:Nat}:∀ {l:List cE},F0 X f l->∀n C,W7 l n=some C->au X f C
 |[],_,_,_,h=>by cases h
 |c::_,h,0,C,hc=>by simp only[W7,Option.some.injEq]at hc;subst hc;exact h.1
 |_::r,h,n+1,C,hc=>F0.at_ (l:=r) h.2 n C hc
theorem I9.at_{X:Cx}:∀ {l:List Pk},I9 X l->∀f p,W6 l f=some p->F0 X f p.cs
 |[],_,_,_,h=>by cases h
 |q::r,h,f,p,hp=>by
  simp only[W6]at hp;by_cases hq:q.f=f
  ·subst hq;simp only[dy,cond_true,Option.some.injEq]at hp;subst hp;exact h.1
  ·rw[eU hq]at hp;exact I9.at_ h.2 f p hp
theorem Vs{X:Cx}{jk:Nat->Option cE}(h:∀f C,jk f=some C->∀args s K,qP C args s K->uC X f args s K){pk:List Pk}(hp:I9 X pk):XY X (Vr jk pk):=by
 intro f g hg args s K hK;unfold Vr at hg;split at hg
 ·rename_i p hpk;cases hg;split at hK
  ·rename_i C hC;exact(hp.at_ f p hpk).at_ _ C hC args s K hK
  ·exact hK.elim
 ·exact Oj h f g hg args s K hK
def Xx(Y:Gx)(jk:List (Nat×cE))(pk:List Pk)(lh:Nat->LH)(n:Nat):gT:=E7 Y (Vr (CC jk) pk) lh n
theorem K8{Y:Gx}(hY:Y.Ok){jk:List (Nat×cE)}(ht:uI Y.G.X jk){pk:List Pk}(hp:I9 Y.G.X pk){lh:Nat->LH}{n:Nat}:Jf Y.G.X (Xx Y jk pk lh n) :=
 yq hY (Vs (fun f C h=>ht.at_ f C h) hp) n
def K9(Y:Gx)(jk:List (Nat×cE))(pk:List Pk)(f:Nat)(C:cE)(l:C.α->List (Nat×List An×List An)):Prop :=
 vQ Y C (fun a=>Xx Y jk pk (JN 1000 (l a)) 20) (fun a=>JN 1000 (l a)) f
structure rj(Y:Gx)(jk:List (Nat×cE))(pk:List Pk)(f:Nat)(C:cE)(l:C.α->List (Nat×List An×List An)):Prop where
 body:K9 Y jk pk f C l
theorem rj.of{Y:Gx}{jk:List (Nat×cE)}{pk:List Pk}{f:Nat}{C:cE}{l:C.α->List (Nat×List An×List An)}{p:Prop}(h:K9 Y jk pk f C l=p)(hp:p):rj Y jk pk f C l:=⟨h.mpr hp⟩
theorem YX{Y:Gx}(hY:Y.Ok){jk:List (Nat×cE)}(ht:uI Y.G.X jk){pk:List Pk}(hp:I9 Y.G.X pk){f:Nat}{C:cE}{l:C.α->List (Nat×List An×List An)}(hb:rj Y jk pk f C l):au Y.G.X f C :=
 fun _ _ _ h=>SO hY (fun _=>K8 hY ht hp) hb.body h
theorem W8{Y:Gx}(hY:Y.Ok){jk:List (Nat×cE)}{pk:List Pk}(ht:uI Y.G.X jk/\I9 Y.G.X pk){f:Nat}{C:cE}{l:C.α->List (Nat×List An×List An)}(hb:rj Y jk pk f C l){ts:List TypeId}{aks:List AK}{d:Nat}(hk:DK Y.G.X.P d ts=some aks)(hhp:∀a,C.hp a=[])(hres:∀a o,C.res a o = .a .tt)
 {H:Type} (hinst:∀ads,KE aks ads->∃a,C.pre a/\C.args a=Xs 0 ads/\C.ro a=Nf 0 aks ads/\C.m=Iv ads) {W:World} {args:Array Value} {ds:List (DataW H)} {ps:List MemPlace} {r:Reach} {b0:Nat} {enc:TypeId×Value->H} {held:Bool}
 (hA:DataW.TrodAll enc Y.G.X.P W 0 (fun _=>true) held ts args.toList ds ps) (hval:∀(j:Nat) (t:TypeId) (v:Value),ts[j]? = some t->args.toList[j]? = some v->Value.okWide Y.G.X.P W r b0 t v)
 (hz:∀b off,MemPlace.cell b off∈ps->W.frozen? ⟨b,off,none⟩=false):Calls Y.G.X.P f args W fun e w'=>e = .returned (.bool true)/\eR (fun _=>False) W w' :=
 WU hY (fun _=>K8 hY ht.1 ht.2) hb.body hk hhp hres hinst hA hval hz
def W9(c:Nat)(args:List SV)(s:S):Nat:=match args with
 |.a (.ptr t _ _ _)::_=>match s.hp.find t with
  |some (_,.obj _ cs)=>match cs[c]? with
   |some .nil=>0
   |_=>1
  |_=>1
 |_=>1
def Xa(n:Int)(args:List SV)(_:S):Nat:=match args with
 |_::.agg (.lit _ k::_)::_=>bif decide (k=n)then 0 else 1
 |_=>1
end
end Go.Sx
namespace Go.Proofs.YtfjgoonelcaggaaGreat
open Go.Sx
noncomputable def Ja:cE where
 α:=Unit
 β:=Unit
 m:=0
 m':=0
 pre:=fun _=>True
 args:=fun _=>[]
 hp:=fun _=>[]
 ro:=fun _=>[]
 post:=fun _ _=>True
 res:=fun _ _=>.a .tt
 cZ:=fun _ _=>[]
noncomputable def Xy:List Pk:=[⟨13,W9 3,[Nt,I3]⟩]
noncomputable def Vt:List (Nat×cE):=[(12,BL),(11,DU),(15,IL),(16,K3),(17,O8),(25,Pd),(19,KY),(50,Rg.U7)]
def kB:ByteArray:=⟨#[107]⟩
def vB:ByteArray:=⟨#[118]⟩
theorem iI:ak 1 1 (aO 1 [Value.int .i64 1]) (aa Rg.encI [1]):=.eo fun i hi=>by
 have:i=0:=by omega
 subst this;rfl
def AM(y:dx)(z:ko)(u:vu->Prop):vu->Prop:=fun(x:vu)=>ax (eC (y.n.id=x.n.id) (oN y.n x.n z.p x.p (kV x.n.rs y.n.rs) (cu x.n.rs<1000/\∀v:Nat,True->u x)))
def tN(x:UInt8):ByteArray:={ data:=#[x] }
def xY(z u:Int)(v:ByteArray)(s:fI)(t f g:cw)(h:Rg.ef)(i:tL->ko->Prop):tL->Prop:=fun(x:tL)=>ag (z=x.w.id/\u=x.w.op/\v=x.w.key/\yW s x.p t x.n f g h x.r (nM x/\x.w.node=(0:Int)) (fun y=>cI x y) fun y=>i x y)
def Jb(y:EI)(x:pP)(u:fI)(v:NS->Prop):=(p9 y).le.aQ=x.n.le.aQ/\(p9 y).le.end_=x.n.le.end_/\(p9 y).le.top=x.n.le.top/\om (p9 y) x.n u x.p ((p9 y).now=x.n.now/\aK (ai x.l) 1 1 (aO 1 (bx 1 [])) (aa Rg.encI x.l)/\Pe x/\∀z:NS,dB x.q z.p->v z)
def vD(x:ByteArray)(y:Prop):=aV (bN (cO=x/\cO=x/\aV (bN y)))
def Jc(y z:Int)(u:fI)(v:EI)(w:cw)(s:pP->Prop):pP->Prop:=fun(x:pP)=>ag (aD 2/\(0:Int)=x.ob/\(1:Int)=x.n.id/\y=x.ep/\z=x.tick/\s8 (aV (cO=pX/\vD pX (ag (1=ai x.l/\1=x.cap)/\aV (lQ u x.p (p9 v) x.n (ax (w.id=x.n.id/\s x)))))))
def vE(x:dx):Int:=af x.rs.length
def NU(z:Nat)(u:Bool)(x:dx)(y v:Int)(w:Prop):=cV 0 z 0 (o6 u (vE x == (1:Int)) (cV 0 x.rs.length 0 (ah y->az (y == v) w (Exists (bI (aC false))))) (Exists (bI (aC false))))
theorem NV:rj (Y Tryz.prog) Vt Xy 14 Ja fun _=>[(14,[],[An.yA 1 (.mk 1000 [] [])])]:=rj.of (p :=
 aI (∃C:Int,(400:Int)=C/\cQ (∃y:EI,(1:Int)=y.id/\ax (iY (lH C) y.d ((fun g=>none)=y.H/\(0:Int)=y.now/\Ax y/\∀g:fI,dB (p9 y) g->∃v:FR,ag ((1:Int)=v.id/\(1:Int)=v.op/\tN 107=v.key/\ax ((p9 y).id=v.n.id/\oN (p9 y) v.n g v.p (bh v.key<=aq) (∀E:Nat,True->∃z:IK,ax (ag (v.n.id=z.n.id/\oN v.n z.n v.p z.p (0=0) (nA (p9 y) z.n (p9 y) (ax (eC ((p9 y).s.bK=z.n.s.bK) (tC (p9 y).s.k.m z.n.s.k.m (z.n.ws=[]/\∀F:Nat,True->Exists (Jc 2 0 g y z.n fun x=>ag (jC (pO VG x.n 0 x.p) z.n x.n z.p x.p z.n.asked ((p9 y).t.last=x.n.t.last/\iz g.mb x.p.mb/\aK x.n.ws.length 0 7 (aa iQ VG) (aa iQ x.n.ws)/\kV x.n.rs (p9 y).rs/\ag (Jb y x g fun w=>Exists (xY 2 1 (tN 107) w.p x.q x.q (p9 y) (pJ x w) fun A h=>Exists (AM (cI A h) h fun B=>∃u:mA,ag (aF u.k (tN 118=u.val/\true=u.has/\yW h.p u.p (dx.n (cI A h)) u.n x.q (p9 y) (pJ x w) u.r (Eg u) (fun D=>u.q) fun D=>Exists (xY 3 1 (tN 107) D.p u.q.n x.q (p9 y) (pJ x w) fun c i=>Exists (xY 4 2 (tN 107) i.p (dx.n (cI c i)) x.q (p9 y) (pJ x w) fun e j=>az true (bq 0 1/\0<1/\(ah (gl [Q3 v] 0).err->o6 ((gl [Q3 v] 0).err == (6:Int)) true (bq 0 1/\0<1/\(ah (gl (vr (tI z.n)) 0).kind->wP ((gl (vr (tI z.n)) 0).kind == (1:Int)) (vE (cI A h) == (0:Int)) (af (aR (fq B.n.rs)) == (1:Int)) (NU (aR (fq B.n.rs)) (iA (gl (fq B.n.rs) 0) (tN 107)) u.q (gl u.q.rs 0).id 2 (cV 0 u.q.rs.length 0 (o6 (iA (gl u.q.rs 0).val (tN 118)) (vE (cI c i) == (1:Int)) (NU (dx.rs (cI c i)).length (gl (dx.rs (cI c i)) 0).has (cI e j) (gl (dx.rs (cI e j)) 0).err 0 (∃f:yU,ag (tN 107=f.key /\
 iW (dx.n (cI e j)) f.n j.p f.p (0=0) (AI x.q f (p9 y) (dx.n (cI e j)) (pJ x w) (az (fK f.n f.r f.key) (∃o:Rg.O5,ag ((1:Int)=o.n/\oO (pJ x w) o.r (ai o.r.l<100000) (aI (Exists (bI (aC (decide (o.n∈o.r.l)))))))) (Exists (bI (aC false)))))))) (Exists (bI (aC false)))))) (Exists (bI (aC false))))) (Exists (bI (aC false))))) (Exists (bI (aC false)))))))))))))))))))))))))))) (by kernel_rfl) (by
 delta o6 oN az oO yV ai bZ aK dW ah bx b8 cI aD bE cO cF af aR bh iz ua kU cu aC dV bq eC bV cS pO nL aW oM ct yW wP bN aI bI dL AI kV iW cD aV ay tC AM aF tN xY ag lQ cV xQ pJ Jb cT Jc ax rT jC NU vw bl vD om iA Ax cQ rR s8 iE od nA vE vr
 try dsimp -iota -proj only
 intro _ _;have hkB:cN kB=true:=by decide
 have hks:kB.size<=aq:=by decide
 obtain⟨mpre,hok0⟩:=jK.make (id:=1) (now:=0) (d:=lH 400) (by omega) (by omega) (by decide) rfl (fun _=>none);refine⟨400,rfl,trivial,fun _ _=>⟨EI.mk 1 0 (lH 400) fun _=>none,?_⟩⟩
 and_intros<;>first|exact bW|exact mpre.1|exact mpre.2.1|exact mpre.2.2.1|exact mpre.2.2.2.1|exact mpre.2.2.2.2.1|exact mpre.2.2.2.2.2|(intro h_;revert h_)|exact bX|skip
 obtain⟨n0,hn0⟩:∃n0,n0=p9 ⟨1,0,lH 400,fun _=>none⟩:=⟨_,rfl⟩
 rw[<- hn0]at hok0 ⊢;have hw0:n0.ws=[]:=by rw[hn0];rfl
 have hr0:n0.rs=[]:=by rw[hn0];rfl
 have hi0:n0.id=1:=by rw[hn0];rfl
 have hnow0:n0.now=0:=by rw[hn0];rfl
 have he0:n0.s.k.m.aQ=0:=by
  have:=(x7 (d:=lH 400) (c:=0) (by decide) (Nat.le_refl 0) (by omega) (fun _=>none)).2.2.1;rw[hn0];show(ki (rM ⟨lH 400,fun _=>none⟩)).k.m.aQ=0;rw[this]
 intro b hat0;refine⟨FR.mk n0 b 1 1 kB,?_⟩
 and_intros<;>first|exact bW|exact hks|(intro h_;revert h_)|exact bX|skip
 intro c1 _;refine⟨IK.mk n0 b,?_⟩
 and_intros<;>first|exact bW|exact hw0|(intro h_;revert h_)|exact bX|skip
 intro c2 _;obtain⟨n1,hn1⟩:∃n1,n1={ n0 with ws:=VG }:=⟨_,rfl⟩
 have e1:n1=n0:=by rw[hn1];cases n0;simp only at hw0;subst hw0;rfl
 have hok1:jK n1 0 (fun _=>none) 0 0:=by rw[e1];exact hok0
 have hat1:dB n1 { b with wc:=0 }:=by rw[hn1];exact⟨hat0.st,hat0.tok,hat0.sep,Nat.le_refl 0,hat0.rc⟩
 have hi1:n1.id=1:=by rw[e1];exact hi0
 have hnow1:n1.now=0:=by rw[e1];exact hnow0
 obtain⟨gr0,hok2,hep2⟩:=hok1.gr hat1 (ob:=0) (ep:=2) (tick:=0) (l:=[1]) (cap:=1) (by rw[hi1];omega) (by rw[e1,he0];omega) (by omega) (by decide) (by rw[e1];exact hw0) (by omega) (by omega);have hrw:ak n1.ws.length 7 (aa iQ VG) (aa iQ n1.ws):=by rw[e1,hw0];exact ak.refl _ _ _
 have hwl:VG.length=n1.ws.length/\n1.ws.length<=0:=by rw[e1,hw0];exact⟨rfl,Nat.le_refl 0⟩
 have hwz:n1.ws.length=0:=hwl.1.symm;refine⟨pP.mk n1 { b with wc:=0 } 0 2 0 [1] 1,?_⟩;rw[<- e1]
 and_intros<;>first|exact bW|exact gr0|exact iI|exact hrw|exact hwl.1|exact hwl.2|exact hi1.symm|exact Nat.le_refl 1|(intro h_;revert h_)|exact bX|skip
 rintro⟨p2,rc1,rc2⟩ hat2;obtain⟨n2,hn2⟩:∃n2,n2=Rr n1 2 0:=⟨_,rfl⟩
 have eq2:pP.q ⟨n1,{ b with wc:=0 },0,2,0,[1],1⟩=n2:=hn2.symm;have hsv2:BV (Rr n1 2 0) (pQ 2 [n1.id] rc1 rc2):=BV.gr hok1.id (by omega) (by omega) (by omega) (by omega) hep2;rw[hi1]at hsv2;have hr2:n2.rs=[]:=by rw[hn2];show n1.rs=[];rw[e1];exact hr0
 have hnow2:n1.now=n2.now:=by rw[hn2];rfl
 have hnz2:n2.now=0:=by rw[<- hnow2];exact hnow1
 rw[eq2]at hat2 ⊢;rw[<- hn2]at hsv2 hok2;have hrg:(pQ 2 [1] rc1 rc2).L.length<100000/\0<(pQ 2 [1] rc1 rc2).L.length:=Pg (by omega);have hrl:(pQ 2 [1] rc1 rc2).l=[1]:=rfl;dsimp only;generalize pQ 2 [1] rc1 rc2=r at *;have ok3:nM ⟨n2,p2,r,⟨0,2,1,kB⟩,none⟩:=hok2.ask hat2 hrg hks fun h=>absurd h (by decide);refine⟨⟨n2,p2,r,⟨0,2,1,kB⟩,none⟩,?_⟩
 and_intros<;>first|exact bW|exact ok3|exact hnow2|(intro h_;revert h_)|exact bX|skip
 rintro b3 hat3;have e3:∀b,jD n2 r ⟨0,2,1,kB⟩ none b=⟨e9 n2 ⟨0,2,1,kB⟩ b,[],[]⟩:=fun b=>yY hsv2 (AL (.inl rfl) hkB) rfl rfl;dsimp only at hat3 ⊢;rw[e3]at hat3 ⊢;have hok3:jK (e9 n2 ⟨0,2,1,kB⟩ b3.b) 2 (fun _=>none) 9 0:=hok2.read (w:=⟨0,2,1,kB⟩) hkB (by omega);have hg3:gl (e9 n2 ⟨0,2,1,kB⟩ b3.b).rs 0=⟨⟨0,2,1,kB⟩,n2.t.last+1⟩:=by
  show gl (n2.rs++[_]) 0=_;rw[hr2];rfl
 have hl3:(e9 n2 ⟨0,2,1,kB⟩ b3.b).rs.length=1:=by
  show(n2.rs++[_]).length=1;rw[hr2];rfl
 have hsv3:BV (e9 n2 ⟨0,2,1,kB⟩ b3.b) r:=hsv2.same rfl rfl rfl rfl;have hf3:=K7 hat2 hsv2 ⟨0,2,1,kB⟩ b3.b (v:=vB) (by decide);have hle3:(e9 n2 ⟨0,2,1,kB⟩ b3.b).le=n2.le:=rfl;have hnow3:n1.now=(e9 n2 ⟨0,2,1,kB⟩ b3.b).now:=hnow2;have hkey3:(gl (fq (e9 n2 ⟨0,2,1,kB⟩ b3.b).rs) 0)=kB:=by
  show gl (fq (n2.rs++[_])) 0=_;rw[hr2];rfl
 generalize e9 n2 ⟨0,2,1,kB⟩ b3.b=n3 at *;dsimp only at hat3 ⊢;have hlt3:n3.rs.length<1000:=by omega
 refine⟨vu.mk n3 b3.p,?_⟩
 and_intros<;>first|exact bW|exact hlt3|(intro h_;revert h_)|exact bX|skip
 intro c4 _;obtain⟨ro3,hok4,hk4⟩:=hok3.red hat3 hrg (i:=0) (val:=vB) (has:=true) (by omega) (by decide) (by rw[hg3];show 9+(kB.size+vB.size+13)<=378;decide) (by omega);rw[hg3,if_pos hf3]at hok4;refine⟨mA.mk n3 b3.p r 0 vB true,?_⟩
 and_intros<;>first|exact bW|exact ro3|exact hle3.symm▸rfl|exact hnow3|(intro h_;revert h_)|exact bX|skip
 rintro b5 hat5;have e5:mA.q ⟨n3,b3.p,r,0,vB,true⟩=⟨jt n3 r 0 vB true,[],[⟨2,1,kB,0,vB,true⟩]⟩:=by
  unfold mA.q Rq;rw[hg3];rfl
 rw[e5]at hat5 ⊢;have hsv5:BV (jt n3 r 0 vB true) r:=hsv3.same rfl rfl rfl (by rw[hk4]);have hle5:n2.le=(jt n3 r 0 vB true).le:=hle3.symm;have hnow5:n1.now=(jt n3 r 0 vB true).now:=hnow3;generalize jt n3 r 0 vB true=n5 at *;dsimp only at hat5 ⊢;have hget:yL (fun _=>none) kB (some (ig ⟨⟨0,2,1,kB⟩,n2.t.last+1⟩ vB)) kB=some (ig ⟨⟨0,2,1,kB⟩,n2.t.last+1⟩ vB):=if_pos rfl;have ok5:nM ⟨n5,b5.p,r,⟨0,3,1,kB⟩,some (ig ⟨⟨0,2,1,kB⟩,n2.t.last+1⟩ vB)⟩:=by
  have:=hok4.ask (w:=⟨0,3,1,kB⟩) hat5 hrg hks fun h=>absurd h (by decide);dsimp only[ic]at this;exact hget▸this
 refine⟨⟨n5,b5.p,r,⟨0,3,1,kB⟩,some (ig ⟨⟨0,2,1,kB⟩,n2.t.last+1⟩ vB)⟩,?_⟩
 and_intros<;>first|exact bW|exact ok5|exact hle5▸rfl|exact hnow5|(intro h_;revert h_)|exact bX|skip
 rintro b6 hat6;have e6:∀b,jD n5 r ⟨0,3,1,kB⟩ (some (ig ⟨⟨0,2,1,kB⟩,n2.t.last+1⟩ vB)) b=⟨n5,[],[⟨3,1,kB,0,vB,true⟩]⟩:=fun b=>Ph hsv5 (AL (.inl rfl) hkB) rfl (K6 _ hkB (by decide));dsimp only at hat6 ⊢;rw[e6]at hat6 ⊢;dsimp only at hat6 ⊢;have ok6:nM ⟨n5,b6.p,r,⟨0,4,2,kB⟩,some (ig ⟨⟨0,2,1,kB⟩,n2.t.last+1⟩ vB)⟩:=by
  have:=hok4.ask (w:=⟨0,4,2,kB⟩) hat6 hrg hks fun _ _=>⟨by show 9+(kB.size+vB.size+13)+(kB.size+13)<=378;decide,by show 0+(kB.size+9)<=378;decide⟩
  dsimp only[ic]at this;exact hget▸this
 obtain⟨hok7,hk7⟩:=hok4.kill (key:=kB) hkB (by show 9+(kB.size+vB.size+13)+(kB.size+13)<=378;decide) (by decide) (by omega);refine⟨⟨n5,b6.p,r,⟨0,4,2,kB⟩,some (ig ⟨⟨0,2,1,kB⟩,n2.t.last+1⟩ vB)⟩,?_⟩
 and_intros<;>first|exact bW|exact ok6|exact hle5▸rfl|exact hnow5|(intro h_;revert h_)|exact bX|skip
 rintro b7 hat7;have e7:∀b,jD n5 r ⟨0,4,2,kB⟩ (some (ig ⟨⟨0,2,1,kB⟩,n2.t.last+1⟩ vB)) b=⟨q9 n5 kB,[],[⟨4,2,kB,0,pX,false⟩]⟩:=fun b=>K5 hsv5 (AL (.inr rfl) hkB) rfl;dsimp only at hat7 ⊢;rw[e7]at hat7 ⊢;have hsv7:BV (q9 n5 kB) r:=hsv5.same rfl rfl rfl (by rw[hk7]);have hle7:n2.le=(q9 n5 kB).le:=hle5;have hnow7:n1.now=(q9 n5 kB).now:=hnow5;generalize q9 n5 kB=n7 at *;dsimp only at hat7 ⊢;have q1:((gl [Q3 ⟨n0,b,1,1,kB⟩] 0).err == 6)=true:=by show(Ay 1 kB 6 == 6)=true;decide
 have q2:(((fq n3.rs).length:Int) == 1)=true:=by
  have:(fq n3.rs).length=n3.rs.length:=by simp[fq]
  rw[this,hl3];rfl
 have q3:decide (gl (fq n3.rs) 0=kB)=true:=decide_eq_true hkey3;have hkl:(fq n3.rs).length=1:=by simp[fq,hl3]
 have q0:((gl [tI n0] 0).kind == 1)=true:=rfl;have q4:((gl [(⟨4,2,kB,0,pX,false⟩:xT)] 0).err == 0)=true:=rfl;have q5:(gl [(⟨3,1,kB,0,vB,true⟩:xT)] 0).has=true:=rfl;have q6:decide ((gl [(⟨2,1,kB,0,vB,true⟩:xT)] 0).val=vB)=true:=decide_eq_true rfl;have q7:((gl [(⟨2,1,kB,0,vB,true⟩:xT)] 0).id == 2)=true:=rfl;refine⟨fun _=>⟨⟨by decide,by decide⟩,by decide,fun _=>⟨fun _=>⟨fun _=>⟨⟨by decide,by decide⟩,by decide,fun _=>⟨fun _=>⟨fun _=>⟨fun _=>⟨⟨by omega,by rw[hkl];decide⟩,by rw[hkl];decide,fun _=>⟨fun _=>⟨⟨by decide,by decide⟩,by decide,fun _=>⟨fun _=>⟨⟨by decide,by decide⟩,by decide,fun _=>⟨fun _=>⟨⟨by decide,by decide⟩,by decide,fun _=>⟨fun _=>⟨⟨by decide,by decide⟩,by decide,fun _=>⟨fun _=>⟨yU.mk n7 b7.p r kB,?_⟩,fun c=>absurd (q4.symm.trans c) (by decide)⟩⟩,fun c=>absurd c (by decide)⟩,fun c=>absurd (q5.symm.trans c) (by decide)⟩,fun c=>absurd c (by decide)⟩,fun c=>absurd (q6.symm.trans c) (by decide)⟩,fun c=>absurd (q7.symm.trans c) (by decide)⟩⟩,fun c=>absurd c (by decide)⟩,fun c=>absurd (q3.symm.trans c) (by decide)⟩,fun c=>absurd (q2.symm.trans c) (by decide)⟩,fun c=>absurd c (by decide)⟩,fun c=>absurd (q0.symm.trans c) (by decide)⟩⟩,fun c=>absurd c (by decide)⟩,fun c=>absurd (q1.symm.trans c) (by decide)⟩⟩,fun c=>absurd c (by decide)⟩;have hfz:=hok7.met.2.1
 and_intros<;>first|exact bW|exact hrg.1|exact hrg.2|exact hks|exact hfz|exact hle7▸rfl|exact hnow7|(intro h_;revert h_)|exact bX|skip
 intro _ _;refine⟨fun _=>⟨Rg.O5.mk r 1,?_⟩,fun c=>absurd ((hsv7 kB).symm.trans c) (by decide)⟩;have hrl2:r.l.length<100000:=by rw[hrl];decide
 have hin:decide ((1:Int)∈r.l)=true:=by rw[hrl];decide
 and_intros<;>first|exact bW|exact hrl2|(intro h_;revert h_)|exact bX|skip
 intro _ _;refine⟨(),?_⟩
 and_intros<;>first|exact bW|exact hin|(intro h_;revert h_)|exact bX|skip)
theorem NW:au (Y Tryz.prog).G.X 14 Ja:=YX fL (jk:=Vt) ⟨CI,FQ,Nw,Ei,KZ,K2,Eb,Rg.U9,trivial⟩ (pk:=Xy) ⟨⟨Q5,FX,trivial⟩,trivial⟩ NV
def qI(s:ByteArray)(n:Int):ByteArray:=if n<s.size then s.extract 0 n.toNat else s
theorem AN(s:ByteArray){n:Nat}:(qI s n).size<=n:=by
 unfold qI;split
 ·rw[ByteArray.size_extract];omega
 ·omega
noncomputable def YY:cE where
 α:=ByteArray×Int
 β:=Unit
 m:=0
 m':=0
 pre:=fun a=>0<=a.2
 args:=fun a=>[.a (.str a.1),.a (.int .i64 a.2)]
 hp:=fun _=>[]
 ro:=fun _=>[]
 post:=fun _ _=>True
 res:=fun a _=>.a (.str (qI a.1 a.2))
 cZ:=fun _ _=>[]
theorem Xb:fnBody (Y Tryz.prog) [] 20 YY fun _=>[]:=fnBody.of (p :=
 ∀x:ByteArray×Int,(0:Int)<=x.snd->aY x.snd (bh x.fst) (dc x.snd (bh x.fst)/\Exists (bI (x.fst.extract 0 (aX x.snd)=qI x.fst x.snd))) (Exists (bI (x.fst=qI x.fst x.snd)))) (by kernel_rfl) (by
 delta az aH af bh aC aX aW dS bI ay aY bl dc
 intro a h;refine⟨fun h1=>?_,fun h1=>⟨(),?_,trivial,trivial⟩⟩
 ·have h2:a.2<a.1.size:=by simpa using h1
  exact⟨by omega,(),by simp[qI,h2],trivial,trivial⟩
 ·have h2:¬a.2<a.1.size:=by simpa using h1
  simp[qI,h2])
theorem Xc:au (Y Tryz.prog).G.X 20 YY:=aU fL Xb trivial
structure NX where
 n:cw
 p:fI
 r:Rg.ef
structure Alo(b:NX):Prop where
 ok:jK b.n 1 (fun _=>none) 9 0
 at_:dB b.n b.p
 Za:BV b.n b.r
 ring:b.r.L.length<100000/\0<b.r.L.length
 own:∀k,tK b.r k=1
 id:b.n.id=1
 now:b.n.now=0
 ws:b.n.ws=[]
 rs:b.n.rs=[]
 le:b.n.le=⟨1,20,1⟩
 ep:b.n.s.k.m.aQ=1
 tl:b.n.t.l=[]/\b.n.t.last=0
noncomputable def NY:cE where
 α:=PH
 β:=NX
 m:=2
 m':=30
 pre:=fun _=>True
 args:=fun _=>[.a (.ptr 0 0 0 0)]
 hp:=fun H=>[(0,WX 0),(1,.cA H)]
 ro:=fun _=>[]
 post:=fun _ b=>Alo b
 res:=fun _ _=>.mG [.a (.ptr 4 0 0 0),.a (.ptr 13 0 0 0)]
 cZ:=fun _ b=>Xu (.ptr 22 0 0 0) 4 5 0 6 7 8 9 10 11 12 13 14 15 16 17 18 19 20 21 23 24 b.n b.p++O7 22 25 26 b.r
noncomputable def YZ:List (Nat×cE):=[(12,BL),(11,DU),(16,K3)]
theorem Rw:fnBody (Y Tryz.prog) YZ 21 NY fun _=>[(21,[],[.Pb 0 15 false Ld])]:=fnBody.of (p :=
 ∀s:PH,True->∃w:Int,(800:Int)=w/\cQ (∃x:EI,(1:Int)=x.id/\ax (iY (lH w) x.d (s=x.H/\(0:Int)=x.now/\Ax x/\∀u:fI,dB (p9 x) u->ah (p9 x).now->Exists (Jc 1 (p9 x).now u x (p9 x) fun y=>oN (p9 x) y.n u y.p ((p9 x).t.last=y.n.t.last) (yV u.mb y.p y.n (p9 x) (p9 x).rs (0=0) (Jb x y u fun v=>∃z:NX,ax (iW y.q z.n v.p z.p (0=0) (nA y.q z.n (p9 x) (tM y.q z.n.t v.p z.p.mb (rT z.n y.q) (kV z.n.rs y.q.rs) (om y.q z.n v.p z.p (v.p.p.H=z.p.p.H/\oO (pJ y v) z.r (Alo z) True)))))))))))) (by kernel_rfl) (by
 delta oN oO yV ai bZ aK dW ah bx b8 aD bE cO iz ua kU cu dV bV cS pO nL oM ct bN aI dL kV iW cD aV ag lQ xQ pJ Jb cT Jc ax rT tM jC vD om Ax cQ s8 iE od nA
 try dsimp -iota -proj only
 intro H _;obtain⟨mpre,hok0⟩:=jK.make (id:=1) (now:=0) (d:=lH 800) (by omega) (by omega) (by decide) rfl H;refine⟨800,rfl,trivial,fun _ _=>⟨EI.mk 1 0 (lH 800) H,?_⟩⟩
 and_intros<;>first|exact bW|exact mpre.1|exact mpre.2.1|exact mpre.2.2.1|exact mpre.2.2.2.1|exact mpre.2.2.2.2.1|exact mpre.2.2.2.2.2|(intro h_;revert h_)|exact bX|skip
 obtain⟨n0,hn0⟩:∃n0,n0=p9 ⟨1,0,lH 800,H⟩:=⟨_,rfl⟩
 rw[<- hn0]at hok0 ⊢;have hw0:n0.ws=[]:=by rw[hn0];rfl
 have hr0:n0.rs=[]:=by rw[hn0];rfl
 have hi0:n0.id=1:=by rw[hn0];rfl
 have hnow0:n0.now=0:=by rw[hn0];rfl
 have ht0:n0.t=t00:=by rw[hn0];rfl
 have he0:n0.s.k.m.aQ=0:=by
  have:=(x7 (d:=lH 800) (c:=0) (by decide) (Nat.le_refl 0) (by omega) H).2.2.1;rw[hn0];show(ki (rM ⟨lH 800,H⟩)).k.m.aQ=0;rw[this]
 intro b hat0 _;obtain⟨gr0,hok2,hep2⟩:=hok0.gr hat0 (ob:=0) (ep:=1) (tick:=0) (l:=[1]) (cap:=1) (by rw[hi0];omega) (by rw[he0];omega) (by omega) (by decide) hw0 (by omega) (by omega);refine⟨pP.mk n0 b 0 1 0 [1] 1,?_⟩
 and_intros<;>first|exact bW|exact gr0|exact iI|exact hi0.symm|exact hnow0|exact Nat.le_refl 1|(intro h_;revert h_)|exact bX|skip
 rintro⟨p2,rc1,rc2⟩ hat2;obtain⟨n2,hn2⟩:∃n2,n2=Rr n0 1 0:=⟨_,rfl⟩
 have eq2:pP.q ⟨n0,b,0,1,0,[1],1⟩=n2:=hn2.symm;have hsv2:BV (Rr n0 1 0) (pQ 1 [n0.id] rc1 rc2):=BV.gr hok0.id (by omega) (by omega) (by omega) (by omega) hep2;rw[hi0]at hsv2;have hnow2:n0.now=n2.now:=by rw[hn2];rfl
 have hle2:n2.le=⟨1,0+20,1⟩:=by
  rw[hn2];show ri n0.now ⟨0,0,0⟩ 0 1=_;rw[hnow0];exact K4 (by omega) (by omega) (by omega) (by omega)
 have ht2:n2.t.l=[]/\n2.t.last=0:=by
  rw[hn2];show(gN n0.t wv).l=[]/\(gN n0.t wv).last=0;rw[ht0];exact⟨rfl,rfl⟩
 rw[eq2]at hat2 ⊢;rw[<- hn2]at hsv2 hok2 hep2;have hA:Alo ⟨n2,p2,pQ 1 [1] rc1 rc2⟩:=⟨hok2,hat2,hsv2,Pg (by omega),Ru (by omega),by rw[hn2];exact hi0,by rw[<- hnow2];exact hnow0,by rw[hn2];rfl,by rw[hn2];exact hr0,hle2,hep2,ht2⟩
 refine⟨⟨n2,p2,pQ 1 [1] rc1 rc2⟩,?_⟩
 and_intros<;>first|exact bW|exact hA|exact hnow2|(intro h_;revert h_)|exact bX|skip)
theorem Rx:au (Y Tryz.prog).G.X 21 NY:=aU fL Rw ⟨CI,FQ,Ei,trivial⟩
def S.st(s:S)(c:Nat)(m:lT)(p:tZ):S :=
 (fun(s3:S)=>(s3.put (s3.hp.del (Ff s3))).new (.cA p.H))
 ((((((((((((((s.at_ c (stO (s.fu c 0) (s.fu c 1) (s.fu c 2) m.bK)).at_
  (s.fu (s.fu c 0) 0) (fF (s.fu (s.fu (s.fu c 0) 0) 0) m.cL p.cy.lv)).at_
  (s.fu (s.fu (s.fu c 0) 0) 0) (.obj 116 [.slc (s.fu (s.fu (s.fu (s.fu c 0) 0) 0) 0) 0 129 m.d.n m.d.n,.int .i64 m.d.calls])).at_
  (s.fu (s.fu (s.fu (s.fu c 0) 0) 0) 0) (.arr 158 AX m.d.n (fe m.d))).at_
  (s.fu (s.fu c 0) 1) (.obj 247 [.slc (s.fu (s.fu (s.fu c 0) 1) 0) 0 4 p.x.t.length p.xc,.int .i64 p.x.n,.int .i64 p.x.used])).at_
  (s.fu (s.fu (s.fu c 0) 1) 0) (.arr 251 Ix.Yq p.x.t.length (aa Ix.Bw p.x.t))).at_
  (s.fu c 1) (WB (s.fu (s.fu c 1) 0) (s.fu (s.fu c 1) 1) m.ms.length p.jc)).at_
  (s.fu (s.fu c 1) 1) (.arr 228 qC m.ms.length (aa cR m.ms))).at_
  (s.fu (s.fu c 1) 0) (fF (s.fu (s.fu (s.fu c 0) 0) 0) m.jL p.jy.lv)).at_
  (s.fu c 2) (.obj 155 (.ptr (s.fu (s.fu c 2) 0) 0 0 0::Dv m.k.m))).at_
  (s.fu (s.fu c 2) 0) (.obj 262 (ZK (s.fu (s.fu (s.fu c 0) 0) 0) (s.fu (s.fu (s.fu c 2) 0) 3) m.k.s p.kc))).at_
  (s.fu (s.fu (s.fu c 2) 0) 3) (.arr 5 [.int .u8] m.k.s.text.length (aa cH m.k.s.text)))))
def Z5(s:S):Nat:=match yl true s.hp with
 |some t=>t
 |none=>0
def S.nod(s:S)(c:Nat)(n:cw)(p:fI):S :=
 (fun(s1:S)=>(s1.put (s1.hp.del (Z5 s1))).new (vo p.mb n.t))
 (((((((S.st s (s.fu c 0) n.s p.p).at_ c (ID (.ptr (s.fu c 3) 0 0 0) (s.fu c 0) (s.fu c 1) (s.fu c 4) (s.fu c 9) (s.fu c 10) n p)).at_
  (s.fu c 1) (WW (s.fu (s.fu c 1) 0) n.le)).at_ (s.fu (s.fu c 1) 0) (WX n.now)).at_ (s.fu c 4) (DN p.mb n.t)).at_
  (s.fu c 9) (.arr 125 IC n.ws.length (aa iQ n.ws))).at_ (s.fu c 10) (.arr 134 Aw n.rs.length (aa fZ n.rs)))
structure Pj where
 i:Nat
 n:cw
 p:fI
structure Xz(k:Nat)(get:ByteArray->Option aB)(cb jb:Nat)(x:Pj):Prop where
 ok:jK x.n k get cb jb
 at_:dB x.n x.p
 id:x.n.id=1
 now:x.n.now=0
 le:x.n.le=⟨1,20,1⟩
 ep:x.n.s.k.m.aQ=1
theorem dF.Z6{s:lT}{n:Nat}{es:List (Option aB)}{cb jb:Nat}(h:dF s n es cb jb){jb':Nat}(hj:jb<=jb'):dF s n es cb jb':=⟨h.fl,h.jl,by have:=h.jb;omega,h.ms,h.nx,h.Xp,h.dn,h.keep,h.bK⟩
theorem jK.Y0{n:cw}{k:Nat}{get:ByteArray->Option aB}{cb jb:Nat}(h:jK n k get cb jb){jb':Nat}(hc:jb<=jb'):jK n k get cb jb':=by
 obtain⟨c,es,o1,o2,o3⟩:=h.one;exact⟨⟨c,es,o1.Z6 hc,o2,o3⟩,h.lt,h.met,h.id,h.now,h.num,h.rs⟩
theorem Xz.Za{k:Nat}{get:ByteArray->Option aB}{cb jb:Nat}{x:Pj}{r:Rg.ef}(h:Xz k get cb jb x)(hr:∀k,tK r k=1):BV x.n r:=fun q=>by
 rw[Rv ((hr q).trans h.id.symm),h.le,h.now,h.ep];decide
theorem aao{α:Type}(x:α):(([x].length:Int) == 1)=true:=rfl
theorem lt1{α:Type}(x:α):(0:Int)<=0/\(0:Int)<([x].length:Int):=⟨Int.le_refl 0,by show(0:Int)<((1:Nat):Int);omega⟩
theorem aap{α:Type}(x:α):0 < [x].length:=Nat.one_pos
noncomputable def Vu:cE where
 α:=ByteArray
 β:=Unit
 m:=0
 m':=0
 pre:=fun _=>True
 args:=fun k=>[.a (.str k)]
 hp:=fun _=>[]
 ro:=fun _=>[]
 post:=fun _ _=>True
 res:=fun k _=>.a (.bool (cN k))
 cZ:=fun _ _=>[]
theorem Vv:fnBody (Y Tryz.prog) [] 22 Vu fun _=>[]:=fnBody.of (p :=
 ∀x:ByteArray,True->az (cC 1 (af (bh x))) (Exists (bI (cC (af (bh x)) 40=cN x))) (Exists (fD (cN x)))) (by kernel_rfl) (by
 delta az af bh aC fC aW bI ay cC fD bl
 intro k _;refine⟨fun c=>⟨(),?_,trivial,trivial⟩,fun c=>⟨(),?_,trivial,trivial⟩⟩
 ·have c:1<=k.size:=by have:=of_decide_eq_true c;omega
  have:¬k=ByteArray.mk #[]:=fun h=>by rw[h]at c;exact absurd c (by decide)
  simp[cN,this];omega
 ·have c:k.size=0:=by have:=of_decide_eq_false c;omega
  have:k=ByteArray.mk #[]:=ByteArray.ext (Array.eq_empty_of_size_eq_zero c);rw[this];rfl)
theorem Vw:au (Y Tryz.prog).G.X 22 Vu:=aU fL Vv trivial
structure F5 where
 ep:Int
 op:Int
 key:ByteArray
noncomputable def Vx:cE where
 α:=F5
 β:=Unit
 m:=0
 m':=0
 pre:=fun a=>0<=a.ep/\a.ep<=3/\0<=a.op/\a.op<=2
 args:=fun a=>[.agg (YT 13 (.lit .i64 4) (.lit .i64 1) (.int .i64 a.ep) (.lit .i64 0) (.lit .i64 77) (.int .i64 a.op) a.key .bS)]
 hp:=fun _=>[]
 ro:=fun _=>[]
 post:=fun _ _=>True
 res:=fun a _=>.a (.bool (decide (a.key.size<=40)))
 cZ:=fun _ _=>[]
theorem Vy:fnBody (Y Tryz.prog) [] 24 Vx fun _=>[]:=fnBody.of (p :=
 ∀x:F5,(0:Int)<=x.ep/\x.ep<=(3:Int)/\dS x.op 2->ah x.ep->az (cC 0 x.ep) (az (bg (cC x.ep 1099511627776)) (Exists (oe x.key)) (rA x.op 0 (Exists (oe x.key)) (iM (aH 2 x.op) (Exists (oe x.key)) (aH 40 (af (bh x.key))) (o6 true true (az false (wP false true true (mg (lP x.key)) (Exists (oe x.key))) (mg (lP x.key))) (wP false true true (mg (lP x.key)) (Exists (oe x.key))))))) (Exists (oe x.key))) (by kernel_rfl) (by
 delta o6 az ah aH af bh aC fC aW wP iM dS bI oe ay cC lP fD bg bl rA mg
 rintro⟨ep,op,key⟩ ⟨h1,h2,h3,h4⟩;dsimp only at *;have g1:decide (0<=ep)=true:=decide_eq_true h1;have g2:(!decide (ep<=1099511627776))=false:=by rw[decide_eq_true (by omega)];rfl
 have g3:decide (op<0)=false:=decide_eq_false (by omega);have g4:decide (2<op)=false:=decide_eq_false (by omega);rw[g1,g2,g3,g4];by_cases hk:key.size<=40
 ·have g5:decide (40<(key.size:Int))=false:=decide_eq_false (by omega);have g6:decide (key.size<=40)=true:=decide_eq_true hk;rw[g5,g6];simp[bR]
 ·have g5:decide (40<(key.size:Int))=true:=decide_eq_true (by omega);have g6:decide (key.size<=40)=false:=decide_eq_false hk;rw[g5,g6];simp[bR])
theorem Vz:au (Y Tryz.prog).G.X 24 Vx:=aU fL Vy trivial
structure pK where
 key:ByteArray
 val:ByteArray
 ep:Int
 op:Int
 has:Bool
noncomputable def La:cE where
 α:=pK
 β:=Unit
 m:=0
 m':=0
 pre:=fun a=>a.key.size<=aq/\a.val.size<=aq/\bR .i64 a.ep/\bR .i64 a.op
 args:=fun a=>[.a (.str a.key),.a (.str a.val),.a (.int .i64 a.ep),.a (.int .i64 a.op),.a (.bool a.has)]
 hp:=fun _=>[]
 ro:=fun _=>[]
 post:=fun _ _=>True
 res:=fun _ _=>.a .tt
 cZ:=fun _ _=>[]
def pK.k(a:pK):ByteArray:=qI a.key 45
def pK.v(a:pK):ByteArray:=qI a.val 60
def wQ(a:pK):aB:=⟨a.k,a.v,0,false⟩
structure Ry(a:pK)(n:cw)(p:fI)(g:Option aB):Prop where
 is:∃k get cb,Xz k get cb 0 ⟨0,n,p⟩/\k<=5/\cb<=200/\get a.k=g
 rs:n.rs=[]
structure Rz where
 n:cw
 p:fI
 m:gi
 mc:Nat
 rc:Nat
 has:Bool
structure VA(a:pK)(x:Rz):Prop where
 kind:x.m.kind=14/\x.m.ob=1/\x.m.to=4/\x.m.id=77
 key:a.k.size<=40
 JE:a.ep≠1->x.m.err=7
 form:a.ep=1->(cN a.k=false\/a.op=0)->x.m.err=1
 kill:a.ep=1->cN a.k=true->a.op=2->x.m.err=0/\∃k get cb,Xz k get cb 60 ⟨0,x.n,x.p⟩/\k<=10/\cb<=300/\get a.k=none
 get:a.ep=1->cN a.k=true->a.op=1->x.m.err=0/\x.m.item=wQ a
noncomputable def XA:List Pk:=[⟨16,Xa 2,[K3,Vf]⟩]
noncomputable def Pm:List (Nat×cE):=[(14,Ja),(20,YY),(21,NY),(22,Vu),(24,Vx),(13,I3),(17,O8),(25,Pd)]
theorem NZ:uI (Y Tryz.prog).G.X Pm/\I9 (Y Tryz.prog).G.X XA:=⟨⟨NW,Xc,Rx,Vw,Vz,FX,KZ,K2,trivial⟩,⟨Ei,Vh,trivial⟩,trivial⟩
def gF(a:pK):Option aB:=if(a.has&&cN a.k)=true then some (wQ a)else none
def S.Sc(s:S)(t:Nat)(m:gi)(mc rc:Nat):S:=((s.new (.arr 45 IF 1 (aa dZ [m]))).new (.arr 61 UT 0 (aa qH []))).at_ t (.obj 34 [.slc s.nx 0 21 1 mc,.slc (s.nx+1) 0 6 0 rc])
def S.out(s:S)(t:Nat)(m:gi)(mc rc:Nat):S:=S.Sc (s.put ((s.hp.del (s.fu t 0)).del (s.fu t 1))) t m mc rc
def bF(a:pK):Bool:=decide (a.ep=1)&&(cN a.k&&(decide (a.op=1)&&!a.has))
def Z7(a:pK):An:=.mk 23 Rz (fun s x=>(S.out (S.nod s (s.tg 13) x.n x.p) (s.tg 17) x.m x.mc x.rc).set 4 (.a (.bool x.has))) (fun _ x=>VA a x) (fun _ _=>0) fun _=>.mk 1000 [] [.YR 0 [(109,false),(131,false)] Ld]
def Z8(a:pK):An:=.mk 0 Bool (fun s b=>s.set 86 (.a (.bool b))) (fun _ b=>b=bF a) (fun _ _=>0) fun _=>.mk 1000 [] [.Pb 0 96 false Ld]
def Z9(a:pK):An:=.mk 0 Pj (fun s x=>(S.nod s (s.tg 13) x.n x.p).set 59 (.a .ff)) (fun _ x=>x.i=0/\Ry a x.n x.p (gF a)) (fun _ _=>0) fun _=>Ld
def aa0(a:pK):LH:=.mk 1000 [] [.Pb 12 999 true (.mk 1000 [] [Z9 a,.Pb 14 999 true (.mk 1000 [] [.Pb 18 999 true (.mk 1000 [] [Z8 a,Z7 a])])])]
theorem VB{a:pK}(h:(a.has&&cN a.k)=true):gF a=some (wQ a):=if_pos h
theorem Jd{a:pK}(h:(a.has&&cN a.k)=false):gF a=none:=if_neg (by rw[h];decide)
def lS(a:pK):lq:=⟨4,77,a.op,a.k⟩
theorem yZ(n:cw)(a:pK)(err:Int)(val:ByteArray)(has:Bool):jJ n (lS a) err val has=⟨n,[⟨14,n.id,4,0,0,0,0,77,0,pX,err,false,oP (lS a) err val has,0⟩],[]⟩:=rfl
theorem VC{a:pK}{n:cw}{p:fI}{r:Rg.ef}(hG:Ry a n p (gF a))(ho:∀k,tK r k=1)(h40:a.k.size<=40)(hop:0<=a.op/\a.op<=2)(hb:bF a=false)(b:Nat) :
 ∃n' m,sD n r (lS a) a.ep (gF a) b=⟨n',[m],[]⟩/\(∀p mc rc has,dB n' p->VA a ⟨n',p,m,mc,rc,has⟩)/\n'.le=n.le/\n'.now=n.now:=by
 obtain⟨⟨k,get,cb,I,hk,hcb,hget⟩,hrs⟩:=hG;have hsv:=I.Za ho;have hid:n.id=1:=I.id;have hep:n.s.k.m.aQ=1:=I.ep;have hn1:¬ ¬(lS a).key.size<=40:=fun h=>h h40;by_cases he:a.ep=1
 ·have hn2:¬a.ep≠n.s.k.m.aQ:=fun h=>h (by rw[hep];exact he);have eF:sD n r (lS a) a.ep (gF a) b=jD n r (lS a) (gF a) b:=by unfold sD;rw[if_neg hn1,if_neg hn2]
  rw[eF];by_cases hbad:oQ (lS a)=true
  ·have hb2:cN a.k=false\/a.op=0:=by
    unfold oQ lS at hbad;dsimp only at hbad;cases hkk:cN a.k with
    |false=>exact .inl rfl
    |true =>
     rw[hkk]at hbad;simp at hbad;exact .inr (by omega)
   rw[W5 hbad,yZ];refine⟨_,_,rfl,fun p mc rc has hat=>⟨⟨rfl,hid,rfl,rfl⟩,h40,fun h=>absurd he h,fun _ _=>rfl,fun _ h1 h2=>?_,fun _ h1 h2=>?_⟩,rfl,rfl⟩
   ·rcases hb2 with hb2|hb2
    ·rw[h1]at hb2;cases hb2
    ·omega
   ·rcases hb2 with hb2|hb2
    ·rw[h1]at hb2;cases hb2
    ·omega
  ·have hbf:oQ (lS a)=false:=by simpa using hbad
   have hkB:cN a.k=true:=by
    cases hkk:cN a.k with
    |true=>rfl
    |false=>exfalso;apply hbad;unfold oQ lS;dsimp only;rw[hkk];simp
   have ho12:a.op=1\/a.op=2:=by
    have h0:¬a.op=0:=fun h0=>by apply hbad;unfold oQ lS;dsimp only;rw[h0];rfl
    omega
   have hks:=kS hkB;rcases ho12 with h1|h2
   ·have hhas:a.has=true:=by
     unfold bF at hb;rw[decide_eq_true he,hkB,decide_eq_true h1]at hb;cases hh:a.has with
     |true=>rfl
     |false=>rw[hh]at hb;cases hb
    have hg:gF a=some (wQ a):=VB (by rw[hhas,hkB];rfl);have hlive:nY (some (wQ a)) n.now=some (wQ a):=K6 (x:=⟨lS a,0⟩) n.now hkB (by have:a.v.size<=60:=AN a.val (n:=60);omega);rw[hg,Ph hsv hbf h1 hlive,yZ];refine⟨_,_,rfl,fun p mc rc has hat=>⟨⟨rfl,hid,rfl,rfl⟩,h40,fun h=>absurd he h,fun _ h=>?_,fun _ _ h2=>by omega,fun _ _ _=>⟨rfl,if_pos ⟨h1,rfl⟩⟩⟩,rfl,rfl⟩;rcases h with h|h
    ·rw[hkB]at h;cases h
    ·omega
   ·rw[K5 hsv hbf h2,yZ];obtain⟨k1,k2⟩:=I.ok.kill hkB (by omega) (by omega) (by omega);have e:(lS a).key=a.k:=rfl;rw[e];refine⟨_,_,rfl,fun p mc rc has hat=>⟨⟨rfl,hid,rfl,rfl⟩,h40,fun h=>absurd he h,fun _ h=>?_,fun _ _ _=>⟨rfl,k+1,yL get a.k none,cb+(a.k.size+13),⟨?_,hat,hid,I.now,I.le,?_⟩,by omega,by omega,if_pos rfl⟩,fun _ _ h1=>by omega⟩,rfl,rfl⟩
    ·rcases h with h|h
     ·rw[hkB]at h;cases h
     ·omega
    ·exact k1.Y0 (by omega)
    ·show(q9 n a.k).s.k.m.aQ=1;rw[k2];exact hep
 ·have eF:sD n r (lS a) a.ep (gF a) b=jJ n (lS a) 7 pX false:=by unfold sD;rw[if_neg hn1,if_pos (by rw[hep];exact he)]
  rw[eF,yZ];exact⟨_,_,rfl,fun p mc rc has hat=>⟨⟨rfl,hid,rfl,rfl⟩,h40,fun _=>rfl,fun h=>absurd h he,fun h=>absurd h he,fun h=>absurd h he⟩,rfl,rfl⟩
theorem Xz.fill{x:Pj}{r:Rg.ef}{k cb:Nat}{get:ByteArray->Option aB}(I:Xz k get cb 0 x)(ho:∀k,tK r k=1)(hring:r.L.length<100000/\0<r.L.length)(hrs:x.n.rs=[])(w:lq)(hkB:cN w.key=true)(hop:w.op=1)(b:Nat){v:ByteArray}(hv:v.size<=60)(hcb:cb<=200)(hk:k<=20){p:fI}(hat:dB (e9 x.n w b) p) :
 gl (e9 x.n w b).rs 0=⟨w,x.n.t.last+1⟩/\(e9 x.n w b).rs.length=1/\Eg ⟨e9 x.n w b,p,r,0,v,true⟩/\∀q,dB (jt (e9 x.n w b) r 0 v true) q->Xz (k+2) (yL get w.key (some (ig ⟨w,0⟩ v))) (cb+(w.key.size+v.size+13)) 0 ⟨0,jt (e9 x.n w b) r 0 v true,q⟩/\(jt (e9 x.n w b) r 0 v true).rs=[]:=by
 have hsv:=I.Za ho;have hks:=kS hkB;have hok3:=I.ok.read (w:=w) (b:=b) hkB (by omega);have hg:gl (e9 x.n w b).rs 0=⟨w,x.n.t.last+1⟩:=by
  show gl (x.n.rs++[_]) 0=_;rw[hrs];rfl
 have hl:(e9 x.n w b).rs.length=1:=by
  show(x.n.rs++[_]).length=1;rw[hrs];rfl
 have hf:=K7 I.at_ hsv w b (v:=v) (by omega);obtain⟨q1,q2,q3⟩:=hok3.red hat hring (i:=0) (val:=v) (has:=true) (by omega) (by omega) (by rw[hg];dsimp only;omega) (by omega);rw[hg,if_pos hf]at q2;refine⟨hg,hl,q1,fun q hq=>⟨⟨q2,hq,I.id,I.now,I.le,?_⟩,?_⟩⟩
 ·show(jt (e9 x.n w b) r 0 v true).s.k.m.aQ=1;rw[q3];exact I.ep
 ·show(x.n.rs++[_]).eraseIdx 0=[]
  rw[hrs];rfl
def Je(y:pK)(u:fI)(z:cw)(x:Pj)(v:NX):=bZ y.ep y.op (y.has=y.has) (dW u.mb z.t=dW x.p.mb x.n.t/\u.p.H=x.p.p.H/\iW z x.n u x.p (0=0) (nA v.n x.n v.n (z.t.last=x.n.t.last/\yV u.mb x.p x.n z z.rs (0=0) (ax (pG z.s x.n.s u.p x.p.p (oO v.r v.r (x.i=0/\Ry y x.n x.p (gF y)) True))))))
def Ek(x:ByteArray×Int):=qI x.fst x.snd=qI x.fst x.snd
def AO(x:ByteArray)(y:pK)(z u:ByteArray×Int)(v:Prop):=bE (cN x) (bN (ax (bE (aH 2 y.op) (Ek z/\Ek u/\bN (bE true (bN v))))))
def N0(f:Bool)(g:F5)(h:ByteArray)(z:pK)(i v:ByteArray×Int)(u:ko)(y:dx)(w:Pj)(s:NX):Rz->Prop:=fun(x:Rz)=>f=x.has/\bE (bg (lP g.key)) (ax (bN (AO h z i v (bZ z.ep z.op (dW u.p.mb y.n.t=dW x.p.mb x.n.t) (u.p.p.H=x.p.p.H/\ag (bC y.ms=1/\u.mc=x.mc)/\ag (y.rs.length=0/\u.rc=x.rc)/\vw y.n x.n u.p x.p (aD 13) (bZ 4 1 (aD z.ep) (s8 (bZ 77 z.op (Ek v) (vD cO (aV (ag (nA w.n x.n w.n (oO s.r s.r (vv 0 y.rs []) (aK 1 (bC y.ms) 21 (aa dZ y.ms) (aa dZ (vr x.m))/\om y.n x.n u.p x.p (VA z x/\True)))))))))))))))
def N1(t:Bool)(f:F5)(g:ByteArray)(y:pK)(h u:ByteArray×Int)(z:vz)(x:ko)(i:Pj)(v:NX):=∃w:Bool,t=w/\bE (bg (lP f.key)) (ax (bN (AO g y h u (bZ y.ep y.op (y.has=y.has) (bG (bC (dx.ms (js z x))) x.mc/\bG (dx.rs (js z x)).length x.rc/\IY x.p (dx.n (js z x)) (vq (dx.ms (js z x))) (dU (dx.rs (js z x)).length 6 (aa qH (dx.rs (js z x)))/\bZ 13 4 (aD 1) (bZ y.ep 0 (aD 0) (bZ 0 77 (aD y.op) (Ek u/\vD cO (aV (ag (rP i.n (oO v.r v.r (0=0) (ax (pG (dx.n (js z x)).s (dx.n (js z x)).s x.p.p x.p.p (w=bF y/\True))))))))))))))))
def jj(x:Rz):gi:=gl (vr x.m) 0
theorem VD:rj (Y Tryz.prog) Pm XA 4 La fun a=>[(4,[],[An.yA 8 (aa0 a)]),(23,[],[.Pb 0 21 false Ld])]:=rj.of (p :=
 ∀x:pK,bh x.key<=aq/\bh x.val<=aq/\ah x.ep/\ah x.op->Exists (ay (cQ (∃u:ByteArray×Int,x.key=u.fst/\(45:Int)=u.snd/\(0:Int)<=u.snd/\aI (∃f:ByteArray×Int,x.val=f.fst/\(60:Int)=f.snd/\(0:Int)<=f.snd/\aI (kG x.ep 0 D6 3 (kG x.op 0 D6 2 (∃c:PH,ag (aV ((fun v=>none)=c/\True/\∀v:NX,Alo v->∃h:ByteArray,qI u.fst u.snd=h/\cQ (o6 x.has (cN h) (Exists (xY 1 1 (qI u.fst u.snd) v.p v.n v.n v.n v.r fun s l=>az (vE (cI s l) != (0:Int)) False (Exists (AM (cI s l) l fun t=>aW (af (aR (fq t.n.rs)) == (0:Int))/\Exists (AM (cI s l) l fun g=>ah (eu (aR (fq g.n.rs)))/\∃z:mA,ag (eu (aR (fq g.n.rs))=af z.k/\qI f.fst f.snd=z.val/\true=z.has/\yW l.p z.p (dx.n (cI s l)) z.n v.n v.n v.r z.r (Eg z) (fun y=>z.q) fun y=>az (vE z.q == (1:Int)) (cV 0 z.q.rs.length 0 (∃m:Pj,aW (bg (iA (gl z.q.rs 0).val (qI f.fst f.snd)))/\AO h x f u (Je x y.p z.q.n m v))) (∃m:Pj,aW true/\AO h x f u (Je x y.p z.q.n m v)))))))) (∃s:Pj,bN (AO h x f u (Je x v.p v.n s v)))/\∀s:Pj,s.i=0/\Ry x s.n s.p (gF x)->∃t:vz,ag (aD 13/\(4:Int)=t.w.node/\(1:Int)=t.n.id/\x.ep=t.ep/\s8 ((77:Int)=t.w.id/\x.op=t.w.op/\qI u.fst u.snd=t.w.key/\vD pX (aV (yW s.p t.p s.n t.n s.n s.n v.r t.r (I7 t) (fun g=>js t g) fun g=>∃z:F5,bZ 13 4 (aD 1) (x.ep=z.ep /\
 s8 (aD 77/\x.op=z.op/\qI u.fst u.snd=z.key/\vD pX (aV (((0:Int)<=z.ep/\z.ep<=(3:Int)/\dS z.op 2)/\aI (az (bg (lP z.key)) (Exists (bI (aC (af (bC (dx.ms (js t g))) == (0:Int))))) ((wP (x.ep == (1:Int)) (cN h) (x.op == (1:Int)) (N1 (bg x.has) z h x f u t g s v) (N1 false z h x f u t g s v)/\∀y:Bool,y=bF x->az y (az (af (bC (dx.ms (js t g))) != (0:Int)) False (Exists (AM (js t g) g fun d=>aW (af (aR (fq d.n.rs)) != (1:Int))/\∃j:mA,ag (aF j.k (qI f.fst f.snd=j.val/\true=j.has/\yW g.p j.p (dx.n (js t g)) j.n s.n s.n v.r j.r (Eg j) (fun o=>j.q) fun o=>Exists (N0 true z h x f u o j.q s v)))))) (Exists (N0 x.has z h x f u g (js t g) s v)))/\∀y:Rz,VA x y->az false False (bN (bq 0 1/\0<1/\(ah (gi.kind (jj y))->az (gi.kind (jj y) != (14:Int)) False (ah (gi.to (jj y))->az (gi.to (jj y) != (4:Int)) False (ah (gi.ob (jj y))->az (gi.ob (jj y) != (1:Int)) False (ah (gi.id (jj y))->aW (gi.id (jj y) != (77:Int))/\az (x.ep != (1:Int)) (ah (gi.err (jj y))->Exists (bI (aC (gi.err (jj y) == (7:Int))))) (iM (bg (cN h)) (ah (gi.err (jj y))->Exists (bI (aC (gi.err (jj y) == (1:Int))))) (x.op == (0:Int)) (az (x.op == (2:Int)) (Exists (xY 9 1 (qI u.fst u.snd) y.p y.n y.n y.n v.r fun e A=>ah (gi.err (jj y)) ->
 az (gi.err (jj y) == (0:Int)) (Exists (bI (aC (vE (cI e A) == (0:Int))))) (Exists (bI (aC false))))) (ah (gi.err (jj y))->wP (gi.err (jj y) == (0:Int)) (iA (gi.item (jj y)).key (qI u.fst u.snd)) (iA (gi.item (jj y)).val (qI f.fst f.snd)) (Exists (bI (aC (bg (gi.item (jj y)).gone)))) (Exists (bI (aC false))))))))))))))))))))))))))))))))) (by kernel_rfl) (by
 delta o6 oN az oO yV ai bZ aK dW ah b8 cI js aD bE cO cF aH af aR bh iz ua kU cu aC bq eC cS pO nL aW oM ct dU yW wP iM dS bN aI bC bI bG dL IY Je N0 N1 kV AO iW jj cD aV ay AM rP aF xY ag lQ lP cV cT ax bg rT jC vw bl vD rS om iA cQ vq s8 eu Ek od kG nA vE vv D6 I7 vr
 try dsimp -iota -proj only
 rintro a ⟨hk,hv,he,ho⟩;have hvs:a.v.size<=60:=AN a.val (n:=60);have hks:a.k.size<=45:=AN a.key (n:=45);have hkm:a.k.size<=aq:=by unfold aq;omega
 refine⟨(),trivial,fun _ _=>⟨(a.key,45),rfl,rfl,by show(0:Int)<=45;omega,fun _ _=>⟨(a.val,60),rfl,rfl,by show(0:Int)<=60;omega,fun _ _=>?_⟩⟩⟩;dsimp only;rw[show qI a.key 45=a.k from rfl,show qI a.val 60=a.v from rfl];refine⟨fun _=>⟨(),rfl,trivial,trivial⟩,fun c1=>⟨fun _=>⟨(),rfl,trivial,trivial⟩,fun c2=>⟨fun _=>⟨(),rfl,trivial,trivial⟩,fun c3=>⟨fun _=>⟨(),rfl,trivial,trivial⟩,fun c4=>⟨(fun _=>none:PH),?_⟩⟩⟩⟩⟩;have c1:¬a.ep<0:=of_decide_eq_false c1;have c2:¬3<a.ep:=of_decide_eq_false c2;have c3:¬a.op<0:=of_decide_eq_false c3;have c4:¬2<a.op:=of_decide_eq_false c4
 and_intros<;>first|exact bW|(intro h_;revert h_)|exact bX|skip
 intro b hb;have hring:=hb.ring;have hown:=hb.own;have I0:Xz 1 (fun _=>none) 9 0 ⟨0,b.n,b.p⟩:=⟨hb.ok,hb.at_,hb.id,hb.now,hb.le,hb.ep⟩
 have G0:gF a=none->Ry a b.n b.p (gF a):=fun h=>⟨⟨1,fun _=>none,9,I0,by omega,by omega,h.symm⟩,hb.rs⟩
 refine⟨a.k,rfl,trivial,fun _ _=>⟨⟨fun hh=>⟨fun hm=>?_,fun hm=>?_⟩,fun hh=>?_⟩,fun x hx=>?_⟩⟩
 ·have ok3:nM ⟨b.n,b.p,b.r,⟨0,1,1,a.k⟩,none⟩:=hb.ok.ask hb.at_ hring hkm fun h=>absurd (show(1:Int)=2 from h) (by decide);refine⟨⟨b.n,b.p,b.r,⟨0,1,1,a.k⟩,none⟩,?_⟩
  and_intros<;>first|exact bW|exact ok3|(intro h_;revert h_)|exact bX|skip
  rintro b3 hat3;have e3:∀q,jD b.n b.r ⟨0,1,1,a.k⟩ none q=⟨e9 b.n ⟨0,1,1,a.k⟩ q,[],[]⟩:=fun q=>yY hb.Za (AL (.inl rfl) hm) rfl rfl;dsimp only at hat3 ⊢;rw[e3]at hat3 ⊢;dsimp only at hat3 ⊢;obtain⟨g3,l3,ro3,st3⟩:=I0.fill (v:=a.v) hown hring hb.rs ⟨0,1,1,a.k⟩ hm rfl b3.b hvs (by omega) (by omega) hat3;have hle3:(e9 b.n ⟨0,1,1,a.k⟩ b3.b).le=b.n.le:=rfl;have hnow3:b.n.now=(e9 b.n ⟨0,1,1,a.k⟩ b3.b).now:=rfl;dsimp only at g3 l3 ro3 st3;generalize e9 b.n ⟨0,1,1,a.k⟩ b3.b=n3 at *;have hlt3:n3.rs.length<1000:=by omega
  have hkl:(fq n3.rs).length=1:=by simp[fq,l3]
  refine⟨fun c=>absurd c (by decide),fun _=>⟨vu.mk n3 b3.p,?_⟩⟩
  and_intros<;>first|exact bW|exact hlt3|(intro h_;revert h_)|exact bX|skip
  intro _ _;refine⟨by dsimp only;rw[hkl];rfl,vu.mk n3 b3.p,?_⟩
  and_intros<;>first|exact bW|exact hlt3|(intro h_;revert h_)|exact bX|skip
  intro _ _;have hk0:((fq n3.rs).length:Int)-1=((0:Nat):Int):=by rw[hkl];rfl
  refine⟨by dsimp only;rw[hkl];simp only[bR];omega,mA.mk n3 b3.p b.r 0 a.v true,?_⟩
  and_intros<;>first|exact bW|exact ro3|exact hk0|exact hle3▸rfl|exact hnow3|(intro h_;revert h_)|exact bX|skip
  rintro b5 hat5;have e5:mA.q ⟨n3,b3.p,b.r,0,a.v,true⟩=⟨jt n3 b.r 0 a.v true,[],[⟨1,1,a.k,0,a.v,true⟩]⟩:=by
   unfold mA.q Rq;rw[g3];rfl
  rw[e5]at hat5 ⊢;obtain⟨J,jrs⟩:=st3 _ hat5;have hle5:b.n.le=(jt n3 b.r 0 a.v true).le:=hle3.symm;have hnow5:b.n.now=(jt n3 b.r 0 a.v true).now:=hnow3;generalize jt n3 b.r 0 a.v true=n5 at *;dsimp only at hat5 ⊢;have G5:Ry a n5 b5.p (gF a):=⟨⟨3,_,_,J,by omega,by omega,by rw[VB (by rw[hh,hm];rfl)];exact if_pos rfl⟩,jrs⟩
  refine⟨fun _=>⟨lt1 _,aap _,Pj.mk 0 n5 b5.p,?_⟩,fun c=>absurd ((aao _).symm.trans c) (by decide)⟩;have hq:(!decide ((gl [(⟨1,1,a.k,0,a.v,true⟩:xT)] 0).val=a.v))=false:=by rw[show decide ((gl [(⟨1,1,a.k,0,a.v,true⟩:xT)] 0).val=a.v)=true from decide_eq_true rfl];rfl
  and_intros<;>first|exact bW|exact hq|exact G5|exact hle5▸rfl|exact hnow5|(intro h_;revert h_)|exact bX|skip
 ·have G:=G0 (Jd (by rw[hm];simp));refine⟨Pj.mk 0 b.n b.p,?_⟩
  and_intros<;>first|exact bW|exact G|(intro h_;revert h_)|exact bX|skip
 ·have G:=G0 (Jd (by rw[hh];rfl));refine⟨Pj.mk 0 b.n b.p,?_⟩
  and_intros<;>first|exact bW|exact G|(intro h_;revert h_)|exact bX|skip
 obtain⟨hx0,G⟩:=hx;have G1:=G;obtain⟨⟨k,get,cb,I,hkk,hcb,hget⟩,hrs⟩:=G1;have hid:x.n.id=1:=I.id;have okA:nM ⟨x.n,x.p,b.r,lS a,gF a⟩:=by
  have:=I.ok.ask (w:=lS a) I.at_ hring hkm fun _ h2=>by
   have:=kS (k:=a.k) h2;show cb+(a.k.size+13)<=378/\0+(a.k.size+9)<=378;omega
  rw[show get (lS a).key=gF a from hget]at this;exact this
 have hmo:D7 (vA x.n (lS a) a.ep):=⟨(show(1:Int)<=13/\(13:Int)<=14 by omega),(show(4:Int)≠x.n.id by omega),(show(0:Int)<=4/\(4:Int)<=5 by omega),(show 0<=x.n.id/\x.n.id<=5 by omega),(show 0<=a.ep/\a.ep<=_ by omega),Rt,Rt,(show(0:Int)<=77/\(77:Int)<=_ by omega),Rt,(show(0:Int)<=0/\(0:Int)<=1073741824 by omega),(show 0<=a.op/\a.op<=2 by omega),(show(0:Int)<=0/\(0:Int)<=10 by omega),.inl rfl⟩
 have hrdy:x.n.s.k.m.ready=0:=I.ok.met.1;refine⟨vz.mk x.n x.p b.r (lS a) a.ep (gF a),?_⟩;have okA2:nM (vz.ask ⟨x.n,x.p,b.r,lS a,a.ep,gF a⟩):=okA
 and_intros<;>first|exact bW|exact okA2|exact hmo|exact hrdy|exact hid.symm|(intro h_;revert h_)|exact bX|skip
 intro b2 hat2;have c5:0<=a.ep:=by omega
 have c6:a.ep<=3:=by omega
 have c7:0<=a.op:=by omega
 have c8:a.op<=2:=by omega
 refine⟨F5.mk a.ep a.op a.k,?_⟩
 and_intros<;>first|exact bW|exact c5|exact c6|exact c7|exact c8|(intro h_;revert h_)|exact bX|skip
 intro _ _;dsimp only;refine⟨fun c9=>⟨(),?_,trivial,trivial⟩,fun c9=>⟨⟨⟨fun d1=>⟨fun d2=>⟨fun d3=>⟨!a.has,?_⟩,fun d3=>⟨false,?_⟩⟩,fun d2=>⟨false,?_⟩⟩,fun d1=>⟨false,?_⟩⟩,fun bb hbb=>⟨fun hbt=>?_,fun hbt=>?_⟩⟩,fun y hy=>?_⟩⟩
 ·have hn:¬(lS a).key.size<=40:=by
   have:¬a.k.size<=40:=by simpa using c9
   exact this
  have e:∀q,sD x.n b.r (lS a) a.ep (gF a) q=⟨x.n,[],[]⟩:=fun q=>if_pos hn;rw[e];rfl
 ·have h:(!a.has)=bF a:=by
   unfold bF;rw[d2,decide_eq_true (show a.ep=1 by simpa using d1),decide_eq_true (show a.op=1 by simpa using d3)];rfl
  and_intros<;>first|exact bW|exact h|(intro h_;revert h_)|exact bX|skip
 ·have h:false=bF a:=by
   unfold bF;rw[decide_eq_false (show ¬a.op=1 by simpa using d3)];simp
  and_intros<;>first|exact bW|exact h|(intro h_;revert h_)|exact bX|skip
 ·have h:false=bF a:=by
   unfold bF;rw[d2];simp
  and_intros<;>first|exact bW|exact h|(intro h_;revert h_)|exact bX|skip
 ·have h:false=bF a:=by
   unfold bF;rw[decide_eq_false (show ¬a.ep=1 by simpa using d1)];rfl
  and_intros<;>first|exact bW|exact h|(intro h_;revert h_)|exact bX|skip
 ·have h40:a.k.size<=40:=by simpa using c9
  have hbF:bF a=true:=by rw[<- hbb,hbt]
  have h1:a.ep=1/\cN a.k=true/\a.op=1/\a.has=false:=by
   unfold bF at hbF;simp only[Bool.and_eq_true,decide_eq_true_eq,Bool.not_eq_true']at hbF;exact hbF
  obtain⟨h1,h2,h3,h4⟩:=h1;have hgn:gF a=none:=Jd (by rw[h4];rfl);have hbf:oQ (lS a)=false:=AL (.inl h3) h2;have e:∀q,sD x.n b.r (lS a) a.ep (gF a) q=⟨e9 x.n (lS a) q,[],[]⟩:=fun q=>by
   unfold sD;rw[if_neg (fun h=>h h40),if_neg (fun h=>h (by rw[show x.n.s.k.m.aQ=1 from I.ep];exact h1)),hgn];exact yY (I.Za hown) hbf h3 rfl
  rw[e]at hat2 ⊢;dsimp only at hat2 ⊢;obtain⟨g3,l3,ro3,st3⟩:=I.fill (v:=a.v) hown hring hrs (lS a) h2 h3 b2.b hvs (by omega) (by omega) hat2;have hle3:(e9 x.n (lS a) b2.b).le=x.n.le:=rfl;have hnow3:x.n.now=(e9 x.n (lS a) b2.b).now:=rfl;have hid3:(e9 x.n (lS a) b2.b).id=1:=hid;dsimp only at g3 l3 ro3 st3;generalize e9 x.n (lS a) b2.b=n3 at *;have hlt3:n3.rs.length<1000:=by omega
  have hkl:(fq n3.rs).length=1:=by simp[fq,l3]
  refine⟨fun c=>absurd c (by decide),fun _=>⟨vu.mk n3 b2.p,?_⟩⟩
  and_intros<;>first|exact bW|exact hlt3|(intro h_;revert h_)|exact bX|skip
  intro _ _;refine⟨by dsimp only;rw[hkl];rfl,mA.mk n3 b2.p b.r 0 a.v true,?_⟩
  and_intros<;>first|exact bW|exact ro3|exact hle3▸rfl|exact hnow3|(intro h_;revert h_)|exact bX|skip
  rintro b5 hat5;have e5:mA.q ⟨n3,b2.p,b.r,0,a.v,true⟩=⟨jt n3 b.r 0 a.v true,[⟨14,1,4,0,0,0,0,77,0,pX,0,false,wQ a,0⟩],[]⟩:=by
   unfold mA.q Rq;rw[g3,yZ];show dx.mk _ [⟨14,n3.id,4,0,0,0,0,77,0,pX,0,false,oP (lS a) 0 (ic a.v true) true,0⟩] []=_;rw[hid3,show oP (lS a) 0 (ic a.v true) true=wQ a from if_pos ⟨h3,rfl⟩]
  rw[e5]at hat5 ⊢;have hle5:x.n.le=(jt n3 b.r 0 a.v true).le:=hle3.symm;have hnow5:x.n.now=(jt n3 b.r 0 a.v true).now:=hnow3;generalize jt n3 b.r 0 a.v true=n5 at *;dsimp only at hat5 ⊢;have hR:VA a ⟨n5,b5.p,⟨14,1,4,0,0,0,0,77,0,pX,0,false,wQ a,0⟩,b5.mc,b5.rc,true⟩:=⟨⟨rfl,rfl,rfl,rfl⟩,h40,fun h=>absurd h1 h,fun _ h=>by
   rcases h with h|h
   ·rw[h2]at h;cases h
   ·omega,fun _ _ h=>by omega,fun _ _ _=>⟨rfl,rfl⟩⟩
  refine⟨⟨n5,b5.p,⟨14,1,4,0,0,0,0,77,0,pX,0,false,wQ a,0⟩,b5.mc,b5.rc,true⟩,?_⟩
  and_intros<;>first|exact bW|exact hR|exact hle5▸rfl|exact hnow5|(intro h_;revert h_)|exact bX|skip
 ·have h40:a.k.size<=40:=by simpa using c9
  have hbF:bF a=false:=by rw[<- hbb,hbt]
  obtain⟨n',m,e,hR,hle',hnow'⟩:=VC (r:=b.r) G hown h40 ⟨c7,c8⟩ hbF b2.b;rw[e]at hat2 ⊢;dsimp only at hat2 ⊢;have hR:=hR b2.p b2.mc b2.rc a.has hat2;refine⟨⟨n',b2.p,m,b2.mc,b2.rc,a.has⟩,?_⟩
  and_intros<;>first|exact bW|exact hR|exact hle'▸rfl|exact hnow'.symm|(intro h_;revert h_)|exact bX|skip
 ·obtain⟨⟨r1,r2,r3,r4⟩,h40,rst,rfo,rki,rge⟩:=hy;rw[show gl [y.m] 0=y.m from rfl,r1,r2,r3,r4];refine⟨fun c=>absurd c (by decide),fun _=>⟨rfl,⟨by omega,by omega⟩,by omega,fun _=>⟨fun c=>absurd c (by decide),fun _ _=>⟨fun c=>absurd c (by decide),fun _ _=>⟨fun c=>absurd c (by decide),fun _ _=>⟨rfl,fun d1 _=>⟨(),?_,trivial,trivial⟩,fun d1=>⟨fun d2 _=>⟨(),?_,trivial,trivial⟩,fun d2=>⟨fun d3 _=>⟨(),?_,trivial,trivial⟩,fun d3=>⟨fun d4=>?_,fun d4 _=>?_⟩⟩⟩⟩⟩⟩⟩⟩⟩
  ·rw[rst (by simpa using d1)];rfl
  ·rw[rfo (by simpa using d1) (.inl (by simpa using d2))];rfl
  ·rw[rfo (by simpa using d1) (.inr (by simpa using d3))];rfl
  ·have h1:a.ep=1:=by simpa using d1
   have h2:cN a.k=true:=by simpa using d2
   have h3:a.op=2:=by simpa using d4
   obtain⟨q1,k4,get4,cb4,J,hk4,hcb4,hg4⟩:=rki h1 h2 h3;have ok5:nM ⟨y.n,y.p,b.r,⟨0,9,1,a.k⟩,none⟩:=by
    have:=J.ok.ask (w:=⟨0,9,1,a.k⟩) J.at_ hring hkm fun h=>absurd (show(1:Int)=2 from h) (by decide);rw[show get4 (lq.mk 0 9 1 a.k).key=none from hg4]at this;exact this
   refine⟨⟨y.n,y.p,b.r,⟨0,9,1,a.k⟩,none⟩,?_⟩
   and_intros<;>first|exact bW|exact ok5|(intro h_;revert h_)|exact bX|skip
   intro b6 _ _;have e6:∀q,jD y.n b.r ⟨0,9,1,a.k⟩ none q=⟨e9 y.n ⟨0,9,1,a.k⟩ q,[],[]⟩:=fun q=>yY (J.Za hown) (AL (.inl rfl) h2) rfl rfl;dsimp only;rw[e6,q1];exact⟨fun _=>⟨(),rfl,trivial,trivial⟩,fun c=>absurd c (by decide)⟩
  ·have h1:a.ep=1:=by simpa using d1
   have h2:cN a.k=true:=by simpa using d2
   have h3:¬a.op=0:=by simpa using d3
   have h4:¬a.op=2:=by simpa using d4
   obtain⟨q1,q2⟩:=rge h1 h2 (by omega);rw[q1,q2];refine⟨fun _=>⟨fun _=>⟨fun _=>⟨(),rfl,trivial,trivial⟩,fun c=>absurd rfl (of_decide_eq_false c)⟩,fun c=>absurd rfl (of_decide_eq_false c)⟩,fun c=>absurd c (by decide)⟩)
theorem instForL:∀ads,KE [.str,.str,.int .i64,.int .i64,.bool] ads->∃a:pK,La.pre a/\La.args a=Xs 0 ads/\La.ro a=Nf 0 [.str,.str,.int .i64,.int .i64,.bool] ads/\La.m=Iv ads:=by
 rintro ads ⟨d1,r1,rfl,⟨s1,rfl,h1⟩,d2,r2,rfl,⟨s2,rfl,h2⟩,d3,r3,rfl,⟨n3,rfl,h3⟩,d4,r4,rfl,⟨n4,rfl,h4⟩,d5,r5,rfl,⟨b5,rfl⟩,rfl⟩;exact⟨⟨s1,s2,n3,n4,b5⟩,⟨h1,h2,h3,h4⟩,rfl,rfl,rfl⟩
end Go.Proofs.YtfjgoonelcaggaaGreat
