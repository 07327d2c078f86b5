/-
  
-/
import Derived.Test.YtfjgoonelcaggaaGreatNodeLeaseP5
import Derived.Test.YtfjgoonelcaggaaGreatNodeLeaseP3
set_option maxRecDepth 100000
set_option maxHeartbeats 4000000
set_option linter.unusedVariables false
set_option linter.unusedSimpArgs false
namespace Go.Sx
section
structure Pk where
 f:Nat
 pick:List SV->S->Nat
 cs:List cC
def Wm:List Pk->Nat->Option Pk
 |[],_=>none
 |p::r,f=>bif Nat.beq p.f f then some p else Wm r f
def Wn:List cC->Nat->Option cC
 |[],_=>none
 |c::_,0=>some c
 |_::r,n+1=>Wn r n
def UQ(je:Nat->Option cC)(pk:List Pk):Sx.Spec:=fun f=>match Wm pk f with
 |some p=>some fun args s K=>match Wn p.cs (p.pick args s)with
  |some C=>qC C args s K
  |none=>False
 |none=>(je f).map qC
def FH(X:Cx)(f:Nat):List cC->Prop
 |[]=>True
 |c::r=>ak X f c/\FH X f r
def IF(X:Cx):List Pk->Prop
 |[]=>True
 |p::r=>FH X p.f p.cs/\IF X r
theorem FH.at_{X:Cx}{f:Nat}:∀ {l:List cC},FH X f l->∀n C,Wn l n=some C->ak X f C
 |[],_,_,_,h=>by cases h
 |c::_,h,0,C,hc=>by simp only[Wn,Option.some.injEq]at hc;subst hc;exact h.1
 |_::r,h,n+1,C,hc=>FH.at_ (l:=r) h.2 n C hc
theorem IF.at_{X:Cx}:∀ {l:List Pk},IF X l->∀f p,Wm l f=some p->FH X f p.cs
 |[],_,_,_,h=>by cases h
 |q::r,h,f,p,hp=>by
  simp only[Wm]at hp;by_cases hq:q.f=f
  ·subst hq;simp only[dm,cond_true,Option.some.injEq]at hp;subst hp;exact h.1
  ·rw[eH hq]at hp;exact IF.at_ h.2 f p hp
theorem UR{X:Cx}{je:Nat->Option cC}(h:∀f C,je f=some C->∀args s K,qC C args s K->ue X f args s K){pk:List Pk}(hp:IF X pk):Xd X (UQ je pk):=by
 intro f g hg args s K hK;unfold UQ at hg;split at hg
 ·rename_i p hpk;cases hg;split at hK
  ·rename_i C hC;exact(hp.at_ f p hpk).at_ _ C hC args s K hK
  ·exact hK.elim
 ·exact NM h f g hg args s K hK
def WN(Y:Gx)(je:List (Nat×cC))(pk:List Pk)(lh:Nat->LH)(n:Nat):gN:=EL Y (UQ (Cg je) pk) lh n
theorem KK{Y:Gx}(hY:Y.Ok){je:List (Nat×cC)}(ht:uq Y.G.X je){pk:List Pk}(hp:IF Y.G.X pk){lh:Nat->LH}{n:Nat}:IK Y.G.X (WN Y je pk lh n) :=
 xZ hY (UR (fun f C h=>ht.at_ f C h) hp) n
def KL(Y:Gx)(je:List (Nat×cC))(pk:List Pk)(f:Nat)(C:cC)(l:C.α->List (Nat×List An×List An)):Prop :=
 vq Y C (fun a=>WN Y je pk (Jl 1000 (l a)) 20) (fun a=>Jl 1000 (l a)) f
structure qM(Y:Gx)(je:List (Nat×cC))(pk:List Pk)(f:Nat)(C:cC)(l:C.α->List (Nat×List An×List An)):Prop where
 body:KL Y je pk f C l
theorem qM.of{Y:Gx}{je:List (Nat×cC)}{pk:List Pk}{f:Nat}{C:cC}{l:C.α->List (Nat×List An×List An)}{p:Prop}(h:KL Y je pk f C l=p)(hp:p):qM Y je pk f C l:=⟨h.mpr hp⟩
theorem Ye{Y:Gx}(hY:Y.Ok){je:List (Nat×cC)}(ht:uq Y.G.X je){pk:List Pk}(hp:IF Y.G.X pk){f:Nat}{C:cC}{l:C.α->List (Nat×List An×List An)}(hb:qM Y je pk f C l):ak Y.G.X f C :=
 fun _ _ _ h=>Sb hY (fun _=>KK hY ht hp) hb.body h
theorem Wo{Y:Gx}(hY:Y.Ok){je:List (Nat×cC)}{pk:List Pk}(ht:uq Y.G.X je/\IF Y.G.X pk){f:Nat}{C:cC}{l:C.α->List (Nat×List An×List An)}(hb:qM Y je pk f C l){ts:List TypeId}{aks:List AK}{d:Nat}(hk:Dp Y.G.X.P d ts=some aks)(hhp:∀a,C.hp a=[])(hres:∀a o,C.res a o = .a .tt)
 {H:Type} (hinst:∀ads,Ke aks ads->∃a,C.pre a/\C.args a=WI 0 ads/\C.ro a=ML 0 aks ads/\C.m=HY ads) {W:World} {args:Array Value} {ds:List (DataW H)} {ps:List MemPlace} {r:Reach} {b0:Nat} {enc:TypeId×Value->H} {held:Bool}
 (hA:DataW.TrodAll enc Y.G.X.P W 0 (fun _=>true) held ts args.toList ds ps) (hval:∀(j:Nat) (t:TypeId) (v:Value),ts[j]? = some t->args.toList[j]? = some v->Value.okWide Y.G.X.P W r b0 t v)
 (hz:∀b off,MemPlace.cell b off∈ps->W.frozen? ⟨b,off,none⟩=false):Calls Y.G.X.P f args W fun e w'=>e = .returned (.bool true)/\ey (fun _=>False) W w' :=
 Wc hY (fun _=>KK hY ht.1 ht.2) hb.body hk hhp hres hinst hA hval hz
def ON(c:Nat)(args:List SV)(s:S):Nat:=match args with
 |.a (.ptr t _ _ _)::_=>match s.hp.find t with
  |some (_,.obj _ cs)=>match cs[c]? with
   |some .nil=>0
   |_=>1
  |_=>1
 |_=>1
end
end Go.Sx
namespace Go.Proofs.YtfjgoonelcaggaaGreat
open Go.Sx
noncomputable def IG:cC where
 α:=Unit
 β:=Unit
 m:=0
 m':=0
 pre:=fun _=>True
 args:=fun _=>[]
 hp:=fun _=>[]
 ro:=fun _=>[]
 post:=fun _ _=>True
 res:=fun _ _=>.a .tt
 cW:=fun _ _=>[]
noncomputable def WO:List Pk:=[⟨13,ON 3,[M0,Iv]⟩]
noncomputable def US:List (Nat×cC):=[(12,Bq),(11,Dz),(15,Ig),(16,OK),(17,OE),(25,OH),(19,Kv),(50,Rg.Uv)]
def kB:ByteArray:=⟨#[107]⟩
def vB:ByteArray:=⟨#[118]⟩
theorem ia:aj 1 1 (aM 1 [Value.int .i64 1]) (aa Rg.encI [1]):=.dR fun i hi=>by
 have:i=0:=by omega
 subst this;rfl
def tA(x:UInt8):ByteArray:={ data:=#[x] }
def DT(u v:iy)(y x:cG)(w:o8)(f:Int)(g:ID)(h:Rg.fL)(i:Prop)(j:mV->di)(k:mV->Prop):=DM u v y x (y.id=x.id) (y.t.last=x.t.last) (jo y.s x.s u.p v.p (ag (o7 w.q.le x.le (f=x.now) (pH (wA w g) h i (∀z:mV,dI (j z).n z.p->k z)))))
def Aq(x:rZ)(z:iy)(u:cG)(v:o8)(s:Int)(t:ID)(f:mV->Prop):=tA 107=x.w.key/\DT z x.p u x.n v s t x.r (qL x/\x.w.node=(0:Int)) (fun y=>bt x y) fun y=>f y
def rD(x:di)(y:Prop):=eO 0 x.rs.length 0 y
def xH(x:Bool)(y:Prop):=aD x y (bL (aB false))
def DU(x:di)(y z:Int)(u:Prop):=rD x (ah y->xH (y == z) (rD x u))
def DV(z:rZ)(y:mV)(u:wu->Prop):wu->Prop:=fun(x:wu)=>az (eo ((di.n (bt z y)).id=x.n.id) (pF (di.n (bt z y)) x.n y.p x.p (mW x.n.rs (di.n (bt z y)).rs) (cz x.n.rs<1000/\∀v:Nat,True->u x)))
def Ar(y:Int)(z:rZ->Prop):rZ->Prop:=fun(x:rZ)=>ag (y=x.w.id/\(1:Int)=x.w.op/\z x)
def II(y:Kk)(x:o8)(v:iy)(w:Int)(t:ID->rZ->mV->Prop):=ag ((pP y).le.aQ=x.n.le.aQ/\(pP y).le.end_=x.n.le.end_/\(pP y).le.top=x.n.le.top/\jo (pP y).s x.n.s v.p x.p.p ((pP y).now=x.n.now/\aK (av x.l) 1 1 (aM 1 (bq 1 [])) (aa Rg.encI x.l)/\OJ x/\∀z:ID,dI x.q z.p->Exists (Ar w fun u=>Aq u z.p x.q x (pP y).now z fun f=>t z u f)))
def DW(x:Int)(y:cG)(z u v w:Int)(s:List Int)(t:Nat)(f:Prop):=ag (aC 2/\(0:Int)=x/\(1:Int)=y.id/\z=u/\v=w/\cF 0 0 (aC 0) (aW (cR=tj/\aW (bT (cR=tj/\cR=tj/\aW (bT (ag (1=av s/\1=t)/\aW f)))))))
def IJ(u:Int)(v:Kk->iy->Prop):=∃z:Int,u=z/\cS (∃x:Kk,(1:Int)=x.id/\az (gz (lP z) x.d ((fun y=>none)=x.H/\(0:Int)=x.now/\((1:Int)<=x.id/\x.id<=(5:Int)/\uY x.d { d:=x.d,H:=x.H })/\∀y:iy,dI (pP x) y->v x y)))
def rE(x:di):Int:=af x.rs.length
theorem Nq:qM (Y Tryz.prog) US WO 14 IG fun _=>[(14,[],[An.yb 1 (.mk 1000 [] [])])]:=qM.of (p :=
 aI (IJ 400 fun y o=>∃u:FA,ag ((1:Int)=u.id/\(1:Int)=u.op/\tA 107=u.key/\iz (pP y) u.n (pF (pP y) u.n o u.p (bp u.key<=aq) (∀B:Nat,True->∃v:Ie,az (ag (u.n.id=v.n.id/\pF u.n v.n u.p v.p (0=0) (tu (pP y) v.n (pP y).now (pP y) (v.n.ws=[]/\∀C:Nat,True->∃x:o8,DW x.l9 x.n 2 x.ep 0 x.tick x.l x.cap (nO o x.p (pP y) x.n (iz v.n x.n (ag (jd (ou U2 x.n 0 x.p) v.n.rs x.n v.p.rc x.p v.n.asked ((pP y).t.last=x.n.t.last/\iQ o.mb x.p.mb/\vb x.n 0 U2/\mW x.n.rs (pP y).rs/\II y x o 2 fun h d c=>Exists (DV d c fun e=>∃z:nP,ag (aA z.k (tA 118=z.val/\true=z.has/\DT c.p z.p (di.n (bt d c)) z.n x (pP y).now h z.r (KB z) (fun A=>z.q) fun A=>Exists (Ar 3 fun i=>Aq i A.p z.q.n x (pP y).now h fun j=>∃s:rZ,ag ((4:Int)=s.w.id/\(2:Int)=s.w.op/\Aq s j.p (di.n (bt i j)) x (pP y).now h fun g=>xH true (aX 0 1/\0<1/\(ah (gl [Qu u] 0).err->qu ((gl [Qu u] 0).err == (6:Int)) true (aX 0 1/\0<1/\(ah (gl [tn v.n] 0).kind->OI ((gl [tn v.n] 0).kind == (1:Int)) (rE (bt d c) == (0:Int)) (af (aT (fM e.n.rs)) == (1:Int)) (eO 0 (aT (fM e.n.rs)) 0 (qu (gP (gl (fM e.n.rs) 0) (tA 107)) (rE z.q == (1:Int)) (DU z.q (gl z.q.rs 0).id 2 (qu (gP (gl z.q.rs 0).val (tA 118)) (rE (bt i j) == (1:Int)) (rD (bt i j) (qu (gl (di.rs (bt i j)) 0).has (rE (bt s g) == (1:Int)) (rD (bt s g) (ah (gl (di.rs (bt s g)) 0).err ->
 xH ((gl (di.rs (bt s g)) 0).err == (0:Int)) (∃f:yB,ag (tA 107=f.key/\lz (di.n (bt s g)) f.n g.p f.p (0=0) (tu x.q f.n (pP y).now (di.n (bt s g)) (pH (wA x h) f.r (va f) (aI (xH (eF f.n f.r f.key) (∃m:Rg.OA,ag ((1:Int)=m.n/\pH (wA x h) m.r (av m.r.l<100000) (aI (bL (aB (decide (m.n∈m.r.l))))))))))))))) (bL (aB false)))) (bL (aB false)))) (bL (aB false)))) (bL (aB false)))) (bL (aB false))))))))))))))))))))))) (by kernel_rfl) (by
 delta qu aD pF pH av aK cF ah bq bt eV bW aC iQ eO o7 af aT bK cR kT cz aX aB dO wA eo bS cV ou qq DM cq aI bT bp bL wv OI tu dP Aq mW cw ax lz aA aW ag tA DU s8 va DV II DT DW jd uY nO cN az rD bl gP IJ rE jo vb cS iu qs xH Ar iz
 try dsimp -iota -proj only
 intro _ _;have hkB:dS kB=true:=by decide
 have hks:kB.size<=aq:=by decide
 obtain⟨mpre,hok0⟩:=jg.make (id:=1) (now:=0) (d:=lP 400) (by omega) (by omega) (by decide) rfl (fun _=>none);refine⟨400,rfl,trivial,fun _ _=>⟨Kk.mk 1 0 (lP 400) fun _=>none,?_⟩⟩
 and_intros<;>first|exact cm|exact mpre.1|exact mpre.2.1|exact mpre.2.2.1|exact mpre.2.2.2.1|exact mpre.2.2.2.2.1|exact mpre.2.2.2.2.2|(intro h_;revert h_)|exact cn|skip
 obtain⟨n0,hn0⟩:∃n0,n0=pP ⟨1,0,lP 400,fun _=>none⟩:=⟨_,rfl⟩
 rw[<- hn0]at hok0 ⊢;have hw0:n0.ws=[]:=by rw[hn0];rfl
 have hr0:n0.rs=[]:=by rw[hn0];rfl
 have hi0:n0.id=1:=by rw[hn0];rfl
 have hnow0:n0.now=0:=by rw[hn0];rfl
 have he0:n0.s.k.m.aQ=0:=by
  have:=(xK (d:=lP 400) (c:=0) (by decide) (Nat.le_refl 0) (by omega) (fun _=>none)).2.2.1;rw[hn0];show(jU (ru ⟨lP 400,fun _=>none⟩)).k.m.aQ=0;rw[this]
 intro b hat0;refine⟨FA.mk n0 b 1 1 kB,?_⟩
 and_intros<;>first|exact cm|exact hks|(intro h_;revert h_)|exact cn|skip
 intro c1 _;refine⟨Ie.mk n0 b,?_⟩
 and_intros<;>first|exact cm|exact hw0|(intro h_;revert h_)|exact cn|skip
 intro c2 _;obtain⟨n1,hn1⟩:∃n1,n1={ n0 with ws:=U2 }:=⟨_,rfl⟩
 have e1:n1=n0:=by rw[hn1];cases n0;simp only at hw0;subst hw0;rfl
 have hok1:jg n1 0 (fun _=>none) 0 0:=by rw[e1];exact hok0
 have hat1:dI n1 { b with wc:=0 }:=by rw[hn1];exact⟨hat0.st,hat0.tok,hat0.sep,Nat.le_refl 0,hat0.rc⟩
 have hi1:n1.id=1:=by rw[e1];exact hi0
 have hnow1:n1.now=0:=by rw[e1];exact hnow0
 obtain⟨gr0,hok2,hep2⟩:=hok1.gr hat1 (l9:=0) (ep:=2) (tick:=0) (l:=[1]) (cap:=1) (by rw[hi1];omega) (by rw[e1,he0];omega) (by omega) (by decide) (by rw[e1];exact hw0) (by omega) (by omega);have hrw:aj n1.ws.length 7 (aa jW U2) (aa jW n1.ws):=by rw[e1,hw0];exact aj.refl _ _ _
 have hwl:U2.length=n1.ws.length/\n1.ws.length<=0:=by rw[e1,hw0];exact⟨rfl,Nat.le_refl 0⟩
 have hwz:n1.ws.length=0:=hwl.1.symm;refine⟨o8.mk n1 { b with wc:=0 } 0 2 0 [1] 1,?_⟩;rw[<- e1]
 and_intros<;>first|exact cm|exact gr0|exact ia|exact hrw|exact hwl.1|exact hwl.2|exact hi1.symm|exact Nat.le_refl 1|(intro h_;revert h_)|exact cn|skip
 rintro⟨p2,rc1,rc2⟩ hat2;obtain⟨n2,hn2⟩:∃n2,n2=QT n1 2 0:=⟨_,rfl⟩
 have eq2:o8.q ⟨n1,{ b with wc:=0 },0,2,0,[1],1⟩=n2:=hn2.symm;have hsv2:BA (QT n1 2 0) (nq 2 [n1.id] rc1 rc2):=BA.gr hok1.id (by omega) (by omega) (by omega) (by omega) hep2;rw[hi1]at hsv2;have hr2:n2.rs=[]:=by rw[hn2];show n1.rs=[];rw[e1];exact hr0
 have hnow2:n1.now=n2.now:=by rw[hn2];rfl
 have hnz2:n2.now=0:=by rw[<- hnow2];exact hnow1
 rw[eq2]at hat2 ⊢;rw[<- hn2]at hsv2 hok2;have hrg:(nq 2 [1] rc1 rc2).L.length<100000/\0<(nq 2 [1] rc1 rc2).L.length:=OM (by omega);have hrl:(nq 2 [1] rc1 rc2).l=[1]:=rfl;dsimp only;generalize nq 2 [1] rc1 rc2=r at *;have ok3:qL ⟨n2,p2,r,⟨0,2,1,kB⟩,none⟩:=hok2.ask hat2 hrg hks fun h=>absurd h (by decide);refine⟨⟨n2,p2,r,⟨0,2,1,kB⟩,none⟩,?_⟩
 and_intros<;>first|exact cm|exact ok3|exact hnow2|(intro h_;revert h_)|exact cn|skip
 rintro b3 hat3;have e3:∀b,jA n2 r ⟨0,2,1,kB⟩ none b=⟨iJ n2 ⟨0,2,1,kB⟩ b,[],[]⟩:=fun b=>KH hsv2 (xG (.inl rfl) hkB) rfl rfl;dsimp only at hat3 ⊢;rw[e3]at hat3 ⊢;have hok3:jg (iJ n2 ⟨0,2,1,kB⟩ b3.b) 2 (fun _=>none) 9 0:=hok2.read (w:=⟨0,2,1,kB⟩) hkB (by omega);have hg3:gl (iJ n2 ⟨0,2,1,kB⟩ b3.b).rs 0=⟨⟨0,2,1,kB⟩,n2.t.last+1⟩:=by
  show gl (n2.rs++[_]) 0=_;rw[hr2];rfl
 have hl3:(iJ n2 ⟨0,2,1,kB⟩ b3.b).rs.length=1:=by
  show(n2.rs++[_]).length=1;rw[hr2];rfl
 have hsv3:BA (iJ n2 ⟨0,2,1,kB⟩ b3.b) r:=hsv2.same rfl rfl rfl rfl;have hf3:=KJ hat2 hsv2 ⟨0,2,1,kB⟩ b3.b (v:=vB) (by decide);have hle3:(iJ n2 ⟨0,2,1,kB⟩ b3.b).le=n2.le:=rfl;have hnow3:n1.now=(iJ n2 ⟨0,2,1,kB⟩ b3.b).now:=hnow2;have hkey3:(gl (fM (iJ n2 ⟨0,2,1,kB⟩ b3.b).rs) 0)=kB:=by
  show gl (fM (n2.rs++[_])) 0=_;rw[hr2];rfl
 generalize iJ n2 ⟨0,2,1,kB⟩ b3.b=n3 at *;dsimp only at hat3 ⊢;have hlt3:n3.rs.length<1000:=by omega
 refine⟨wu.mk n3 b3.p,?_⟩
 and_intros<;>first|exact cm|exact hlt3|(intro h_;revert h_)|exact cn|skip
 intro c4 _;obtain⟨ro3,hok4,hk4⟩:=hok3.red hat3 hrg (i:=0) (val:=vB) (has:=true) (by omega) (by decide) (by rw[hg3];show 9+(kB.size+vB.size+13)<=378;decide) (by omega);rw[hg3,if_pos hf3]at hok4;refine⟨nP.mk n3 b3.p r 0 vB true,?_⟩
 and_intros<;>first|exact cm|exact ro3|exact hle3.symm▸rfl|exact hnow3|(intro h_;revert h_)|exact cn|skip
 rintro b5 hat5;have e5:nP.q ⟨n3,b3.p,r,0,vB,true⟩=⟨mY n3 r 0 vB true,[],[⟨2,1,kB,0,vB,true⟩]⟩:=by
  unfold nP.q UK;rw[hg3];rfl
 rw[e5]at hat5 ⊢;have hsv5:BA (mY n3 r 0 vB true) r:=hsv3.same rfl rfl rfl (by rw[hk4]);have hle5:n2.le=(mY n3 r 0 vB true).le:=hle3.symm;have hnow5:n1.now=(mY n3 r 0 vB true).now:=hnow3;generalize mY n3 r 0 vB true=n5 at *;dsimp only at hat5 ⊢;have hget:vP (fun _=>none) kB (some (gu ⟨⟨0,2,1,kB⟩,n2.t.last+1⟩ vB)) kB=some (gu ⟨⟨0,2,1,kB⟩,n2.t.last+1⟩ vB):=if_pos rfl;have ok5:qL ⟨n5,b5.p,r,⟨0,3,1,kB⟩,some (gu ⟨⟨0,2,1,kB⟩,n2.t.last+1⟩ vB)⟩:=by
  have:=hok4.ask (w:=⟨0,3,1,kB⟩) hat5 hrg hks fun h=>absurd h (by decide);dsimp only[iA]at this;exact hget▸this
 refine⟨⟨n5,b5.p,r,⟨0,3,1,kB⟩,some (gu ⟨⟨0,2,1,kB⟩,n2.t.last+1⟩ vB)⟩,?_⟩
 and_intros<;>first|exact cm|exact ok5|exact hle5▸rfl|exact hnow5|(intro h_;revert h_)|exact cn|skip
 rintro b6 hat6;have e6:∀b,jA n5 r ⟨0,3,1,kB⟩ (some (gu ⟨⟨0,2,1,kB⟩,n2.t.last+1⟩ vB)) b=⟨n5,[],[⟨3,1,kB,0,vB,true⟩]⟩:=fun b=>IE hsv5 (xG (.inl rfl) hkB) rfl (KI _ hkB (by decide));dsimp only at hat6 ⊢;rw[e6]at hat6 ⊢;dsimp only at hat6 ⊢;have ok6:qL ⟨n5,b6.p,r,⟨0,4,2,kB⟩,some (gu ⟨⟨0,2,1,kB⟩,n2.t.last+1⟩ vB)⟩:=by
  have:=hok4.ask (w:=⟨0,4,2,kB⟩) hat6 hrg hks fun _ _=>⟨by show 9+(kB.size+vB.size+13)+(kB.size+13)<=378;decide,by show 0+(kB.size+9)<=378;decide⟩
  dsimp only[iA]at this;exact hget▸this
 obtain⟨hok7,hk7⟩:=hok4.kill (key:=kB) hkB (by show 9+(kB.size+vB.size+13)+(kB.size+13)<=378;decide) (by decide) (by omega);refine⟨⟨n5,b6.p,r,⟨0,4,2,kB⟩,some (gu ⟨⟨0,2,1,kB⟩,n2.t.last+1⟩ vB)⟩,?_⟩
 and_intros<;>first|exact cm|exact ok6|exact hle5▸rfl|exact hnow5|(intro h_;revert h_)|exact cn|skip
 rintro b7 hat7;have e7:∀b,jA n5 r ⟨0,4,2,kB⟩ (some (gu ⟨⟨0,2,1,kB⟩,n2.t.last+1⟩ vB)) b=⟨r5 n5 kB,[],[⟨4,2,kB,0,tj,false⟩]⟩:=fun b=>UN hsv5 (xG (.inr rfl) hkB) rfl;dsimp only at hat7 ⊢;rw[e7]at hat7 ⊢;have hsv7:BA (r5 n5 kB) r:=hsv5.same rfl rfl rfl (by rw[hk7]);have hle7:n2.le=(r5 n5 kB).le:=hle5;have hnow7:n1.now=(r5 n5 kB).now:=hnow5;generalize r5 n5 kB=n7 at *;dsimp only at hat7 ⊢;have q1:((gl [Qu ⟨n0,b,1,1,kB⟩] 0).err == 6)=true:=by show(Ae 1 kB 6 == 6)=true;decide
 have q2:(((fM n3.rs).length:Int) == 1)=true:=by
  have:(fM n3.rs).length=n3.rs.length:=by simp[fM]
  rw[this,hl3];rfl
 have q3:decide (gl (fM n3.rs) 0=kB)=true:=decide_eq_true hkey3;have hkl:(fM n3.rs).length=1:=by simp[fM,hl3]
 have q0:((gl [tn n0] 0).kind == 1)=true:=rfl;have q4:((gl [(⟨4,2,kB,0,tj,false⟩:qx)] 0).err == 0)=true:=rfl;have q5:(gl [(⟨3,1,kB,0,vB,true⟩:qx)] 0).has=true:=rfl;have q6:decide ((gl [(⟨2,1,kB,0,vB,true⟩:qx)] 0).val=vB)=true:=decide_eq_true rfl;have q7:((gl [(⟨2,1,kB,0,vB,true⟩:qx)] 0).id == 2)=true:=rfl;refine⟨fun _=>⟨⟨by decide,by decide⟩,by decide,fun _=>⟨fun _=>⟨fun _=>⟨⟨by decide,by decide⟩,by decide,fun _=>⟨fun _=>⟨fun _=>⟨fun _=>⟨⟨by omega,by rw[hkl];decide⟩,by rw[hkl];decide,fun _=>⟨fun _=>⟨⟨by decide,by decide⟩,by decide,fun _=>⟨fun _=>⟨⟨by decide,by decide⟩,by decide,fun _=>⟨fun _=>⟨⟨by decide,by decide⟩,by decide,fun _=>⟨fun _=>⟨⟨by decide,by decide⟩,by decide,fun _=>⟨fun _=>⟨yB.mk n7 b7.p r kB,?_⟩,fun c=>absurd (q4.symm.trans c) (by decide)⟩⟩,fun c=>absurd c (by decide)⟩,fun c=>absurd (q5.symm.trans c) (by decide)⟩,fun c=>absurd c (by decide)⟩,fun c=>absurd (q6.symm.trans c) (by decide)⟩,fun c=>absurd (q7.symm.trans c) (by decide)⟩⟩,fun c=>absurd c (by decide)⟩,fun c=>absurd (q3.symm.trans c) (by decide)⟩,fun c=>absurd (q2.symm.trans c) (by decide)⟩,fun c=>absurd c (by decide)⟩,fun c=>absurd (q0.symm.trans c) (by decide)⟩⟩,fun c=>absurd c (by decide)⟩,fun c=>absurd (q1.symm.trans c) (by decide)⟩⟩,fun c=>absurd c (by decide)⟩;have hfz:=hok7.met.2.1
 and_intros<;>first|exact cm|exact hrg.1|exact hrg.2|exact hks|exact hfz|exact hle7▸rfl|exact hnow7|(intro h_;revert h_)|exact cn|skip
 intro _ _;refine⟨fun _=>⟨Rg.OA.mk r 1,?_⟩,fun c=>absurd ((hsv7 kB).symm.trans c) (by decide)⟩;have hrl2:r.l.length<100000:=by rw[hrl];decide
 have hin:decide ((1:Int)∈r.l)=true:=by rw[hrl];decide
 and_intros<;>first|exact cm|exact hrl2|(intro h_;revert h_)|exact cn|skip
 intro _ _;refine⟨(),?_⟩
 and_intros<;>first|exact cm|exact hin|(intro h_;revert h_)|exact cn|skip)
theorem Nr:ak (Y Tryz.prog).G.X 14 IG:=Ye fF (je:=US) ⟨Cn,Fz,M6,KD,Kw,KC,DK,Rg.Ux,trivial⟩ (pk:=WO) ⟨⟨Qw,FE,trivial⟩,trivial⟩ Nq
def Bc(s:ByteArray)(n:Int):ByteArray:=if n<s.size then s.extract 0 n.toNat else s
theorem QW(s:ByteArray){n:Nat}:(Bc s n).size<=n:=by
 unfold Bc;split
 ·rw[ByteArray.size_extract];omega
 ·omega
noncomputable def Yg:cC where
 α:=ByteArray×Int
 β:=Unit
 m:=0
 m':=0
 pre:=fun a=>0<=a.2
 args:=fun a=>[.a (.str a.1),.a (.int .i64 a.2)]
 hp:=fun _=>[]
 ro:=fun _=>[]
 post:=fun _ _=>True
 res:=fun a _=>.a (.str (Bc a.1 a.2))
 cW:=fun _ _=>[]
theorem Wp:fnBody (Y Tryz.prog) [] 20 Yg fun _=>[]:=fnBody.of (p :=
 ∀x:ByteArray×Int,(0:Int)<=x.snd->aY x.snd (bp x.fst) (cU x.snd (bp x.fst)/\bL (x.fst.extract 0 (aV x.snd)=Bc x.fst x.snd)) (bL (x.fst=Bc x.fst x.snd))) (by kernel_rfl) (by
 delta aD aF af dX aB aV bp bL ax aY bl cU
 intro a h;refine⟨fun h1=>?_,fun h1=>⟨(),?_,trivial,trivial⟩⟩
 ·have h2:a.2<a.1.size:=by simpa using h1
  exact⟨by omega,(),by simp[Bc,h2],trivial,trivial⟩
 ·have h2:¬a.2<a.1.size:=by simpa using h1
  simp[Bc,h2])
theorem Wq:ak (Y Tryz.prog).G.X 20 Yg:=aU fF Wp trivial
structure Ns where
 now:Int
 w:Int
noncomputable def UT:cC where
 α:=Ns
 β:=Unit
 m:=2
 m':=2
 pre:=fun a=>0<=a.now/\a.now<1000/\0<=a.w/\a.w<1000
 args:=fun a=>[.a (.ptr 0 0 0 0),.a (.slc 1 0 1 1 1)]
 hp:=fun a=>[(0,Ui a.now)]
 ro:=fun a=>[(1,.arr 2 [.int .i64] 1 (aa Rg.encI [a.w]))]
 post:=fun _ _=>True
 res:=fun a _=>.a .any
 cW:=fun a _=>[(0,Ui (a.now+a.w))]
def Zn(a:Ns):An:=.flat 6 Nat (fun s i=>(s.at_ 0 (Ui (if i=0 then a.now else a.now+a.w))).int 15 i) (fun _ i=>i<=1) (fun _ i=>1-i)
def rF(y:Nat)(x:Ns):Int:=if y=0 then x.now else x.now+x.w
def DX(y:Int)(z:Nat)(x:Ns)(u:Prop):=aC 1/\bC 1 1/\bT (kY (bC 1 1/\y=rF z x/\dN 1 1 (aa Rg.encI (nK x.w))/\u))
theorem UU:fnBody (Y Tryz.prog) [] 29 UT fun a=>[(29,[Zn a],[.QM 0 11 false KA])]:=fnBody.of (p :=
 ∀y:Ns,(0:Int)<=y.now/\y.now<(1000:Int)/\aX y.w 1000->bT ((∃x:Nat,aA x (DX y.now x y (x<=1/\True)))/\∀x:Nat,x<=1->aD (aF (af x) 1) (aX (af x) 1/\0+ay x<1/\(ah (gl (nK y.w) (0+ay x))->aD (cM 0 (gl (nK y.w) (0+ay x))) (ah (rF x y)->mG ((1099511627776:Int)-rF x y) (gl (nK y.w) (0+ay x)) (ah (rF x y)->ah (rF x y+gl (nK y.w) (0+ay x))/\cO x fun z=>DX (rF x y+gl (nK y.w) (0+ay x)) z y (bF z 1 x)) (cO x fun u=>DX (rF x y) u y (bF u 1 x))) (cO x fun v=>DX (rF x y) v y (bF v 1 x)))) (qX (rF x y) (y.now+y.w)))) (by kernel_rfl) (by
 delta aD aK ah bW ay aC aF af bK aX aB aV dN bT bC bL cO bF ax aS DX aA cM aW ag mG bx qX bl rF nK kY
 try dsimp -iota -proj only
 rintro⟨now,w⟩ ⟨h1,h2,h3,h4⟩;dsimp only at *;have hg:∀i:Nat,i<1->gl [w] (0+(i:Int).toNat)=w:=fun i hi=>by
  have:i=0:=by omega
  subst this;rfl
 refine⟨rfl,⟨0,?_⟩,fun i hi=>⟨fun c1=>?_,fun c1 _=>⟨(),?_⟩⟩⟩
 ·have e:now=(if(0:Nat)=0 then now else now+w):=(if_pos rfl).symm
  and_intros<;>first|exact cm|exact e|(intro h_;revert h_)|exact cn|skip
 ·have hi:i<1:=by have:=of_decide_eq_true c1;omega
  have h0:i=0:=by omega
  subst h0;rw[hg 0 hi,if_pos rfl];refine⟨by omega,by decide,fun _=>⟨fun _ _=>⟨by simp only[bQ];omega,fun _ _=>⟨by simp only[bQ];omega,by simp only[bQ];omega,1,?_⟩,fun c=>(by exfalso;have:=of_decide_eq_false c;omega)⟩,fun c=>(by exfalso;have:=of_decide_eq_false c;omega)⟩⟩;have e:now+w=(if(1:Nat)=0 then now else now+w):=(if_neg (by decide)).symm
  and_intros<;>first|exact cm|exact e|(intro h_;revert h_)|exact cn|skip
 ·have h1:i=1:=by have:=of_decide_eq_false c1;omega
  subst h1;have e:(if(1:Nat)=0 then now else now+w)=now+w:=if_neg (by decide)
  and_intros<;>first|exact cm|exact e|(intro h_;revert h_)|exact cn|skip)
theorem UW:ak (Y Tryz.prog).G.X 29 UT:=aU fF UU trivial
theorem l1(x:qx):(([x].length:Int) == 1)=true:=rfl
theorem Z1(x:qx):(([x].length:Int) != 1)=false:=rfl
theorem p1(x:qx):(0:Int)<=0/\(0:Int)<([x].length:Int):=⟨Int.le_refl 0,by show(0:Int)<((1:Nat):Int);omega⟩
theorem WQ(x:qx):0 < [x].length:=Nat.one_pos
structure Yh where
 wait:Int
 val:ByteArray
noncomputable def UX:cC where
 α:=Yh
 β:=Unit
 m:=0
 m':=0
 pre:=fun a=>bQ .i64 a.wait/\a.val.size<=aq
 args:=fun a=>[.a (.int .i64 a.wait),.a (.str a.val)]
 hp:=fun _=>[]
 ro:=fun _=>[]
 post:=fun _ _=>True
 res:=fun _ _=>.a .tt
 cW:=fun _ _=>[]
noncomputable def WR:List Pk:=[⟨16,ON 3,[OK,UD]⟩]
noncomputable def UY:List (Nat×cC):=[(14,IG),(20,Yg),(12,Bq),(11,Dz),(13,Iv),(17,OE),(25,OH),(29,UT)]
theorem QX:uq (Y Tryz.prog).G.X UY/\IF (Y Tryz.prog).G.X WR:=⟨⟨Nr,Wq,Cn,Fz,FE,Kw,KC,UW,trivial⟩,⟨KD,UF,trivial⟩,trivial⟩
theorem Wr:qM (Y Tryz.prog) UY WR 7 UX fun _=>[(7,[],[An.yb 8 (.mk 1000 [] [.Wl 0 [(33,false),(72,false)] (.mk 1000 [] [.Wl 0 [(33,false),(72,false)] KA])])]),(21,[],[.QM 0 15 false KA]),(23,[],[.QM 0 21 false KA])]:=qM.of (p :=
 ∀m:Yh,ah m.wait/\bp m.val<=aq->Exists (ax (cS (∃h:ByteArray×Int,m.val=h.fst/\(60:Int)=h.snd/\(0:Int)<=h.snd/\aI (lp m.wait 0 (Exists (ax (bK true (True/\True)))) 60 (IJ 800 fun i c=>ah (pP i).now->∃y:o8,DW y.l9 y.n 1 y.ep (pP i).now y.tick y.l y.cap (nO c y.p (pP i) y.n (iz (pP i) y.n (pF (pP i) y.n c y.p ((pP i).t.last=y.n.t.last) (wv c.mb y.p y.n (pP i) (pP i).rs (II i y c 1 fun d e o=>aD (rE (bt e o) != (0:Int)) False (Exists (DV e o fun C=>(af (aT (fM C.n.rs)) == (0:Int))=false/\Exists (DV e o fun A=>ah (dW (aT (fM A.n.rs)))/\∃g:nP,ag (dW (aT (fM A.n.rs))=af g.k/\Bc h.fst h.snd=g.val/\true=g.has/\DT o.p g.p (di.n (bt e o)) g.n y (pP i).now d g.r (KB g) (fun B=>g.q) fun B=>aD (rE g.q == (1:Int)) (rD g.q (bn (gP (gl g.q.rs 0).val (Bc h.fst h.snd))=false/\∃f:Ns,ag (bC 1 1/\(pP i).now=f.now/\aK 1 1 1 (aM 1 (bq m.wait [])) (aa Rg.encI (nK f.w))/\((0:Int)<=f.now/\f.now<(1000:Int)/\aX f.w 1000)/\aI (Exists (Ar 5 fun v=>Aq v B.p g.q.n y (f.now+f.w) d fun z=>ah (f.now+f.w)->∃u:QS,DW u.l9 u.n 1 u.ep (f.now+f.w) u.tick u.l u.cap (lz (di.n (bt v z)) u.n z.p u.p (0=0) (tu y.q u.n (f.now+f.w) (di.n (bt v z)) (aK (av u.l) 1 1 (aM 1 (bq 1 [])) (aa Rg.encI u.l) /\
 pH (wA y d) u.r (IB u) (aI (Exists (Ar 6 fun x=>tA 107=x.w.key/\nO z.p x.p (di.n (bt v z)) x.n (lz u.n x.n u.p x.p ((di.n (bt v z)).t.last=x.n.t.last) (wv z.p.mb x.p x.n (di.n (bt v z)) (di.n (bt v z)).rs (jo (di.n (bt v z)).s x.n.s z.p.p x.p.p (ag (o7 (ov u.n.now u.n.le u.tick u.ep) x.n.le (f.now+f.w=x.n.now) (pH (wA y d) x.r (qL x/\x.w.node=(0:Int)) (∀j:mV,dI (di.n (bt x j)) j.p->iY (rE (bt v z) != (1:Int)) False (rE (bt x j) != (1:Int)) (rD (bt x j) (ah (gl (di.rs (bt x j)) 0).err->aD ((gl (di.rs (bt x j)) 0).err != (0:Int)) False (rD (bt x j) (bn (gP (gl (di.rs (bt x j)) 0).val (Bc h.fst h.snd))=false/\aD (aF m.wait 20) (DU (bt v z) (gl (di.rs (bt v z)) 0).err 0 (bL (aB (gP (gl (di.rs (bt v z)) 0).val (Bc h.fst h.snd))))) (DU (bt v z) (gl (di.rs (bt v z)) 0).err 6 (xH (gP (gl (di.rs (bt v z)) 0).val cR) (rD (bt v z) (bL (aB (bn (gl (di.rs (bt v z)) 0).has)))))))))))))))))))))))))))) False))))))))))))))) (by kernel_rfl) (by
 delta aD pF pH av aK cF ah bq bt eV bW aC iQ eO aF o7 af aT bK cR kT cz aX aB dO wA eo bS cV ou qq DM cq iY aI bT bp bC bL wv tu dP Aq mW cw ax lz aW ag tA DU s8 DV II DT DW jd uY nO cN az rD bn bl IB gP nK IJ rE dW jo vb cS iu qs xH Ar lp iz
 try dsimp -iota -proj only
 rintro⟨wait,val⟩ ⟨hw,hval⟩;have hkB:dS kB=true:=by decide
 have hks:kB.size<=aq:=by decide
 obtain⟨v,hv⟩:∃v,v=Bc val 60:=⟨_,rfl⟩
 have hvs:v.size<=60:=by rw[hv];exact QW val (n:=60)
 refine⟨(),trivial,fun _ _=>⟨(val,60),rfl,rfl,by show(0:Int)<=60;omega,fun _ _=>⟨fun _=>⟨(),rfl,trivial,trivial⟩,fun w1=>⟨fun _=>⟨(),rfl,trivial,trivial⟩,fun w2=>?_⟩⟩⟩⟩;dsimp only at w1 w2 ⊢;have w1:0<=wait:=by have:=of_decide_eq_false w1;omega
 have w2:wait<=60:=by have:=of_decide_eq_false w2;omega
 rw[<- hv];obtain⟨mpre,hok0⟩:=jg.make (id:=1) (now:=0) (d:=lP 800) (by omega) (by omega) (by decide) rfl (fun _=>none);refine⟨800,rfl,trivial,fun _ _=>⟨Kk.mk 1 0 (lP 800) fun _=>none,?_⟩⟩
 and_intros<;>first|exact cm|exact mpre.1|exact mpre.2.1|exact mpre.2.2.1|exact mpre.2.2.2.1|exact mpre.2.2.2.2.1|exact mpre.2.2.2.2.2|(intro h_;revert h_)|exact cn|skip
 obtain⟨n0,hn0⟩:∃n0,n0=pP ⟨1,0,lP 800,fun _=>none⟩:=⟨_,rfl⟩
 rw[<- hn0]at hok0 ⊢;have hw0:n0.ws=[]:=by rw[hn0];rfl
 have hr0:n0.rs=[]:=by rw[hn0];rfl
 have hi0:n0.id=1:=by rw[hn0];rfl
 have hnow0:n0.now=0:=by rw[hn0];rfl
 have he0:n0.s.k.m.aQ=0:=by
  have:=(xK (d:=lP 800) (c:=0) (by decide) (Nat.le_refl 0) (by omega) (fun _=>none)).2.2.1;rw[hn0];show(jU (ru ⟨lP 800,fun _=>none⟩)).k.m.aQ=0;rw[this]
 intro b hat0 _;obtain⟨gr0,hok2,hep2⟩:=hok0.gr hat0 (l9:=0) (ep:=1) (tick:=0) (l:=[1]) (cap:=1) (by rw[hi0];omega) (by rw[he0];omega) (by omega) (by decide) hw0 (by omega) (by omega);refine⟨o8.mk n0 b 0 1 0 [1] 1,?_⟩
 and_intros<;>first|exact cm|exact gr0|exact ia|exact hi0.symm|exact hnow0|exact Nat.le_refl 1|(intro h_;revert h_)|exact cn|skip
 rintro⟨p2,rc1,rc2⟩ hat2;obtain⟨n2,hn2⟩:∃n2,n2=QT n0 1 0:=⟨_,rfl⟩
 have eq2:o8.q ⟨n0,b,0,1,0,[1],1⟩=n2:=hn2.symm;have hsv2:BA (QT n0 1 0) (nq 1 [n0.id] rc1 rc2):=BA.gr hok0.id (by omega) (by omega) (by omega) (by omega) hep2;rw[hi0]at hsv2;have hr2:n2.rs=[]:=by rw[hn2];exact hr0
 have hi2:n2.id=1:=by rw[hn2];exact hi0
 have hnow2:n0.now=n2.now:=by rw[hn2];rfl
 have hnz2:n2.now=0:=by rw[<- hnow2];exact hnow0
 have hle2:n2.le=⟨1,0+20,1⟩:=by
  rw[hn2];show ov n0.now ⟨0,0,0⟩ 0 1=_;rw[hnow0];exact KF (by omega) (by omega) (by omega) (by omega)
 rw[eq2]at hat2 ⊢;rw[<- hn2]at hsv2 hok2 hep2;have hrg:(nq 1 [1] rc1 rc2).L.length<100000/\0<(nq 1 [1] rc1 rc2).L.length:=OM (by omega);have hown:∀k,u9 (nq 1 [1] rc1 rc2) k=1:=QV (by omega);dsimp only;generalize nq 1 [1] rc1 rc2=r at *;have ok3:qL ⟨n2,p2,r,⟨0,1,1,kB⟩,none⟩:=hok2.ask hat2 hrg hks fun h=>absurd h (by decide);refine⟨⟨n2,p2,r,⟨0,1,1,kB⟩,none⟩,?_⟩
 and_intros<;>first|exact cm|exact ok3|exact hnow2|(intro h_;revert h_)|exact cn|skip
 rintro b3 hat3;have e3:∀b,jA n2 r ⟨0,1,1,kB⟩ none b=⟨iJ n2 ⟨0,1,1,kB⟩ b,[],[]⟩:=fun b=>KH hsv2 (xG (.inl rfl) hkB) rfl rfl;dsimp only at hat3 ⊢;rw[e3]at hat3 ⊢;have hok3:jg (iJ n2 ⟨0,1,1,kB⟩ b3.b) 2 (fun _=>none) 9 0:=hok2.read (w:=⟨0,1,1,kB⟩) hkB (by omega);have hg3:gl (iJ n2 ⟨0,1,1,kB⟩ b3.b).rs 0=⟨⟨0,1,1,kB⟩,n2.t.last+1⟩:=by
  show gl (n2.rs++[_]) 0=_;rw[hr2];rfl
 have hl3:(iJ n2 ⟨0,1,1,kB⟩ b3.b).rs.length=1:=by
  show(n2.rs++[_]).length=1;rw[hr2];rfl
 have hf3:=KJ hat2 hsv2 ⟨0,1,1,kB⟩ b3.b (v:=v) (by omega);have hle3:(iJ n2 ⟨0,1,1,kB⟩ b3.b).le=n2.le:=rfl;have hi3:(iJ n2 ⟨0,1,1,kB⟩ b3.b).id=1:=hi2;have hep3:(iJ n2 ⟨0,1,1,kB⟩ b3.b).s.k.m.aQ=1:=hep2;have hnow3:n0.now=(iJ n2 ⟨0,1,1,kB⟩ b3.b).now:=hnow2;generalize iJ n2 ⟨0,1,1,kB⟩ b3.b=n3 at *;dsimp only at hat3 ⊢;have hlt3:n3.rs.length<1000:=by omega
 have hkl:(fM n3.rs).length=1:=by simp[fM,hl3]
 refine⟨fun c=>absurd c (by decide),fun _=>⟨wu.mk n3 b3.p,?_⟩⟩
 and_intros<;>first|exact cm|exact hlt3|(intro h_;revert h_)|exact cn|skip
 intro c4 _;refine⟨by dsimp only;rw[hkl];rfl,wu.mk n3 b3.p,?_⟩
 and_intros<;>first|exact cm|exact hlt3|(intro h_;revert h_)|exact cn|skip
 intro c5 _;obtain⟨ro3,hok4,hk4⟩:=hok3.red hat3 hrg (i:=0) (val:=v) (has:=true) (by omega) (by omega) (by rw[hg3];show 9+(kB.size+v.size+13)<=378;have:kB.size=1:=rfl;omega) (by omega);rw[hg3,if_pos hf3]at hok4;have hk0:((fM n3.rs).length:Int)-1=((0:Nat):Int):=by rw[hkl];rfl
 refine⟨by dsimp only;rw[hkl];simp only[bQ];omega,nP.mk n3 b3.p r 0 v true,?_⟩
 and_intros<;>first|exact cm|exact ro3|exact hk0|exact hle3.symm▸rfl|exact hnow3|(intro h_;revert h_)|exact cn|skip
 rintro b5 hat5;have e5:nP.q ⟨n3,b3.p,r,0,v,true⟩=⟨mY n3 r 0 v true,[],[⟨1,1,kB,0,v,true⟩]⟩:=by
  unfold nP.q UK;rw[hg3];rfl
 rw[e5]at hat5 ⊢;have hle5:n2.le=(mY n3 r 0 v true).le:=hle3.symm;have hi5:(mY n3 r 0 v true).id=1:=hi3;have hep5:(mY n3 r 0 v true).s.k.m.aQ=1:=by rw[hk4];exact hep3
 generalize mY n3 r 0 v true=n5 at *;dsimp only at hat5 ⊢;have hq1:(!decide ((gl [(⟨1,1,kB,0,v,true⟩:qx)] 0).val=v))=false:=by rw[show decide ((gl [(⟨1,1,kB,0,v,true⟩:qx)] 0).val=v)=true from decide_eq_true rfl];rfl
 have hrw:aj 1 1 (aM 1 [Value.int .i64 wait]) (aa Rg.encI [wait]):=.dR fun i hi=>by
  have:i=0:=by omega
  subst this;rfl
 have hwt:wait<1000:=by omega
 refine⟨fun _=>⟨p1 _,WQ _,hq1,Ns.mk 0 wait,?_⟩,fun c=>absurd ((l1 _).symm.trans c) (by decide)⟩
 and_intros<;>first|exact cm|exact hrw|exact hnow0|exact w1|exact hwt|exact Nat.le_refl 1|(intro h_;revert h_)|exact cn|skip
 intro _ _;have hget:vP (fun _=>none) kB (some (gu ⟨⟨0,1,1,kB⟩,n2.t.last+1⟩ v)) kB=some (gu ⟨⟨0,1,1,kB⟩,n2.t.last+1⟩ v):=if_pos rfl;obtain⟨it,hit⟩:∃it,it=gu ⟨⟨0,1,1,kB⟩,n2.t.last+1⟩ v:=⟨_,rfl⟩
 have hlive:∀now,nH (some it) now=some it:=fun now=>by rw[hit];exact KI now hkB (by omega)
 have hitv:it.val=v:=by rw[hit];rfl
 have hok6:=hok4.tick (w:=0+wait) (by omega) n5.le;have hat6:=hat5.tick (0+wait) n5.le;have hok6:jg { n5 with now:=0+wait } 3 (vP (fun _=>none) kB (some it)) (9+(kB.size+v.size+13)) 0:=by rw[hit];exact hok6
 have hat6:dI { n5 with now:=0+wait } b5.p:=hat6;have hgets:vP (fun _=>none) kB (some it) kB=some it:=if_pos rfl;have ok6:qL ⟨{ n5 with now:=0+wait },b5.p,r,⟨0,5,1,kB⟩,some it⟩:=hgets▸hok6.ask (w:=⟨0,5,1,kB⟩) hat6 hrg hks fun h=>absurd h (by decide);have hle6:n5.le=⟨1,0+20,1⟩:=hle5.symm.trans hle2;have hs6:eF { n5 with now:=0+wait } r kB=decide (wait<20):=by
  rw[vJ (n:={ n5 with now:=0+wait }) ((hown kB).trans hi5.symm)];show wq n5.le (0+wait) n5.s.k.m.aQ=_;rw[hle6,hep5];unfold wq;simp
 obtain⟨rep,hrep⟩:∃rep:qx,rep=if wait<20 then⟨5,1,kB,0,v,true⟩else⟨5,1,kB,6,tj,false⟩:=⟨_,rfl⟩
 have e6:∀b,jA { n5 with now:=0+wait } r ⟨0,5,1,kB⟩ (some it) b=⟨{ n5 with now:=0+wait },[],[rep]⟩:=fun b=>by
  by_cases h20:wait<20
  ·have hsv:BA { n5 with now:=0+wait } r:=fun k=>by
    rw[vJ (n:={ n5 with now:=0+wait }) ((hown k).trans hi5.symm),<- vJ (n:={ n5 with now:=0+wait }) ((hown kB).trans hi5.symm),hs6,decide_eq_true h20]
   rw[IE hsv (xG (.inl rfl) hkB) rfl (hlive _),hrep,if_pos h20,hitv];rfl
  ·rw[UP (n:={ n5 with now:=0+wait }) (w:=⟨0,5,1,kB⟩) ((hown kB).trans hi5.symm) (by rw[hs6,decide_eq_false h20]) (xG (.inl rfl) hkB),hrep,if_neg h20];rfl
 refine⟨⟨{ n5 with now:=0+wait },b5.p,r,⟨0,5,1,kB⟩,some it⟩,?_⟩
 and_intros<;>first|exact cm|exact ok6|exact hle5▸rfl|(intro h_;revert h_)|exact cn|skip
 rintro b6 hat7;dsimp only at hat7 ⊢;rw[e6]at hat7 ⊢;dsimp only at hat7 ⊢;intro _;have hgm:AZ (tw { n5 with now:=0+wait } 0 1 (0+wait)):=KE (by show(0:Int)<=0/\(0:Int)<=5/\(0:Int)≠n5.id;rw[hi5];omega) (by show 1<=n5.id/\n5.id<=5;rw[hi5];omega) (by omega) (by omega);have hm1:Rg.jK [1]=true:=by decide
 have hnw:(0:Int)+wait<1000000000000000:=by omega
 have hrdy:n5.s.k.m.ready=0:=hok4.met.1;refine⟨QS.mk { n5 with now:=0+wait } b6.p r 0 1 (0+wait) [1] 1,?_⟩
 and_intros<;>first|exact cm|exact hgm|exact hm1|exact hnw|exact hrdy|exact hep5.symm|exact ia|exact hle5▸rfl|exact hi5.symm|exact Nat.le_refl 1|(intro h_;revert h_)|exact cn|skip
 intro _ _;obtain⟨le8,hle8⟩:∃le,le=ov (0+wait) n5.le (0+wait) 1:=⟨_,rfl⟩
 have hlv:le8=⟨1,0+wait+20,1⟩:=by
  rw[hle8,hle6];have e:tv (0+wait) ⟨1,0+20,1⟩ (0+wait) 1=false:=by
   simp only[tv,Bool.or_eq_false_iff,decide_eq_false_iff_not];omega
  unfold ov;rw[e,if_neg (by decide)];by_cases h0:wait=0
  ·subst h0;rfl
  ·rw[if_neg (by dsimp only;omega)]
 have hok8:=hok4.tick (w:=0+wait) (by omega) le8;have hok8:jg { n5 with now:=0+wait,le:=le8 } 3 (vP (fun _=>none) kB (some it)) (9+(kB.size+v.size+13)) 0:=by rw[hit];exact hok8
 have hat8:dI { n5 with now:=0+wait,le:=le8 } b6.p:=dI.tick (n:={ n5 with now:=0+wait }) hat7 (0+wait) le8;have ok8:qL ⟨{ n5 with now:=0+wait,le:=le8 },b6.p,r,⟨0,6,1,kB⟩,some it⟩:=hgets▸hok8.ask (w:=⟨0,6,1,kB⟩) hat8 hrg hks fun h=>absurd h (by decide);have hsv8:BA { n5 with now:=0+wait,le:=le8 } r:=fun k=>by
  rw[vJ (n:={ n5 with now:=0+wait,le:=le8 }) ((hown k).trans hi5.symm)];show wq le8 (0+wait) n5.s.k.m.aQ=true;rw[hlv,hep5];exact KG (by omega) (by omega)
 have e8:∀b,jA { n5 with now:=0+wait,le:=le8 } r ⟨0,6,1,kB⟩ (some it) b=⟨{ n5 with now:=0+wait,le:=le8 },[],[⟨6,1,kB,0,v,true⟩]⟩:=fun b=>by
  rw[IE hsv8 (xG (.inl rfl) hkB) rfl (hlive _),hitv];rfl
 refine⟨⟨{ n5 with now:=0+wait,le:=le8 },b6.p,r,⟨0,6,1,kB⟩,some it⟩,?_⟩;dsimp only;rw[<- hle8]
 and_intros<;>first|exact cm|exact ok8|(intro h_;revert h_)|exact cn|skip
 rintro b8 hat9;rw[e8]at hat9 ⊢;have q1:((gl [(⟨6,1,kB,0,v,true⟩:qx)] 0).err != 0)=false:=rfl;have q2:(!decide ((gl [(⟨6,1,kB,0,v,true⟩:qx)] 0).val=v))=false:=by rw[show decide ((gl [(⟨6,1,kB,0,v,true⟩:qx)] 0).val=v)=true from decide_eq_true rfl];rfl
 have hg6:gl [rep] 0=rep:=rfl;simp only[hg6];refine⟨fun c=>absurd ((Z1 _).symm.trans c) (by decide),fun _=>⟨fun c=>absurd ((Z1 _).symm.trans c) (by decide),fun _=>⟨p1 _,WQ _,fun _=>⟨fun c=>absurd (q1.symm.trans c) (by decide),fun _=>⟨p1 _,WQ _,q2,fun c=>?_,fun c=>?_⟩⟩⟩⟩⟩
 ·have h20:wait<20:=of_decide_eq_true c;rw[if_pos h20]at hrep;subst hrep;exact⟨p1 _,WQ _,fun _=>⟨fun _=>⟨p1 _,WQ _,(),decide_eq_true rfl,trivial,trivial⟩,fun c=>absurd (show((0:Int) == 0)=false from c) (by decide)⟩⟩
 ·have h20:¬wait<20:=of_decide_eq_false c;rw[if_neg h20]at hrep;subst hrep;exact⟨p1 _,WQ _,fun _=>⟨fun _=>⟨p1 _,WQ _,fun _=>⟨p1 _,WQ _,(),rfl,trivial,trivial⟩,fun c=>absurd (show decide (tj=ByteArray.mk #[])=false from c) (by decide)⟩,fun c=>absurd (show((6:Int) == 6)=false from c) (by decide)⟩⟩)
theorem instLes:∀ads,Ke [.int .i64,.str] ads->∃a:Yh,UX.pre a/\UX.args a=WI 0 ads/\UX.ro a=ML 0 [.int .i64,.str] ads/\UX.m=HY ads:=by
 rintro ads ⟨d,r,rfl,⟨n,rfl,hn⟩,d2,r2,rfl,⟨st,rfl,hs⟩,rfl⟩;exact⟨⟨n,st⟩,⟨hn,hs⟩,rfl,rfl,rfl⟩
end Go.Proofs.YtfjgoonelcaggaaGreat
