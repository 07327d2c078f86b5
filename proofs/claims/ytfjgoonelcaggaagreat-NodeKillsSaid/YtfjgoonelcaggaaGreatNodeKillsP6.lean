/-
  
-/
import Derived.Test.YtfjgoonelcaggaaGreatNodeKillsP5
import Derived.Test.YtfjgoonelcaggaaGreatNodeKillsP3
set_option maxRecDepth 100000
set_option maxHeartbeats 4000000
set_option linter.unusedVariables false
set_option linter.unusedSimpArgs false
namespace Go.Proofs.YtfjgoonelcaggaaGreat
open Go.Sx
noncomputable def IG:cD where
 α:=Unit
 β:=Unit
 m:=0
 m':=0
 pre:=fun _=>True
 args:=fun _=>[]
 hp:=fun _=>[]
 ro:=fun _=>[]
 post:=fun _ _=>True
 res:=fun _ _=>.a .tt
 cT:=fun _ _=>[]
noncomputable def W8:List Pk:=[⟨13,WJ 3,[MZ,IC]⟩]
noncomputable def U8:List (Nat×cD):=[(12,Bo),(11,Dw),(15,Ik),(16,OQ),(17,OL),(25,ON),(19,KA),(50,Rg.UJ)]
def kB:ByteArray:=⟨#[107]⟩
def vB:ByteArray:=⟨#[118]⟩
theorem iC:aj 1 1 (aN 1 [Value.int .i64 1]) (af Rg.encI [1]):=.dW fun i hi=>by
 have:i=0:=by omega
 subst this;rfl
def DQ(y z:fT)(u x w s:cF)(t f:Rg.ew)(g:Prop)(h:mW->dm)(i:mW->Prop):=pq y z u x (xJ u x y z (mT u x y z (ag (nO w x s (pK t f g (∀v:mW,dB (h v).n v.p->i v))))))
def vk(z u:Int)(v:ByteArray)(s:fT)(t f g:cF)(h:Rg.ew)(i:tZ->mW->Prop):tZ->Prop:=fun(x:tZ)=>ag (z=x.w.id/\u=x.w.op/\v=x.w.key/\DQ s x.p t x.n f g h x.r (rZ x/\x.w.node=(0:Int)) (fun y=>bC x y) fun y=>i x y)
def o6(x:UInt8):ByteArray:={ data:=#[x] }
def II(y:Ei)(x:pz)(u:fT)(v:Ns->Prop):=ag ((pR y).le.aT=x.n.le.aT/\(pR y).le.end_=x.n.le.end_/\(pR y).le.top=x.n.le.top/\mT (pR y) x.n u x.p ((pR y).now=x.n.now/\aL (av x.l) 1 1 (aN 1 (bu 1 [])) (af Rg.encI x.l)/\OP x/\∀z:Ns,dB x.q z.p->v z))
def DR(y:cF)(z:fT)(u:yI->Prop):=∃x:yI,ax (dY (y.id=x.n.id) (oU y x.n z x.p (kZ x.n.rs y.rs) (cE x.n.rs<1000/\∀v:Nat,True->u x)))
def IJ(y z:Int)(u:fT)(v:Ei)(w:cF)(s:pz->Prop):pz->Prop:=fun(x:pz)=>ag (aG 2/\(0:Int)=x.ow/\(1:Int)=x.n.id/\y=x.ep/\z=x.tick/\cz 0 0 (aG 0) (aW (dc=va/\aW (ig (bB false) (dc=va) (aW (cH (ag (1=av x.l/\1=x.cap)/\aW (pq u x.p (pR v) x.n (ax (w.id=x.n.id/\s x))))))))))
def xM(x:dm)(y:Prop):=eF 0 x.rs.length 0 y
def vl(x:dm):Int:=aa x.rs.length
def Nv(z:Nat)(u:Bool)(x:dm)(y v:Int)(w:Prop):=eF 0 z 0 (qT u (vl x == (1:Int)) (xM x (ah y->aO (y == v) w (bQ (aD false)))) (bQ (aD false)))
theorem Nw:yK (Y Tryz.prog) U8 W8 14 IG fun _=>[(14,[],[An.yj 1 (.mk 1000 [] [])])]:=yK.of (p :=
 aI (∃C:Int,(400:Int)=C/\cO (∃y:Ei,(1:Int)=y.id/\ax (iR (kV C) y.d ((fun g=>none)=y.H/\(0:Int)=y.now/\Af y/\∀g:fT,dB (pR y) g->∃v:Fu,ag ((1:Int)=v.id/\(1:Int)=v.op/\o6 107=v.key/\ax ((pR y).id=v.n.id/\oU (pR y) v.n g v.p (bA v.key<=aq) (∀E:Nat,True->∃z:Ij,ax (ag (v.n.id=z.n.id/\oU v.n z.n v.p z.p (0=0) (nO (pR y) z.n (pR y) (ax (dY ((pR y).s.bK=z.n.s.bK) (sY (pR y).s.k.m z.n.s.k.m (z.n.ws=[]/\∀F:Nat,True->Exists (IJ 2 0 g y z.n fun x=>ag (jd (ov Vi x.n 0 x.p) z.n.rs x.n z.p.rc x.p z.n.asked ((pR y).t.last=x.n.t.last) (iH g.mb x.p.mb/\aL x.n.ws.length 0 7 (af iI Vi) (af iI x.n.ws)/\kZ x.n.rs (pR y).rs/\II y x g fun w=>Exists (vk 2 1 (o6 107) w.p x.q x.q (pR y) (o5 x w) fun A h=>DR (dm.n (bC A h)) h.p fun B=>∃u:mX,ag (aC u.k (o6 118=u.val/\true=u.has/\DQ h.p u.p (dm.n (bC A h)) u.n x.q (pR y) (o5 x w) u.r (FC u) (fun D=>u.q) fun D=>Exists (vk 3 1 (o6 107) D.p u.q.n x.q (pR y) (o5 x w) fun c i=>Exists (vk 4 2 (o6 107) i.p (dm.n (bC c i)) x.q (pR y) (o5 x w) fun e j=>aO true (bg 0 1/\0<1/\(ah (gl [QB v] 0).err->qT ((gl [QB v] 0).err == (6:Int)) true (bg 0 1/\0<1/\(ah (gl [tj z.n] 0).kind->OO ((gl [tj z.n] 0).kind == (1:Int)) (vl (bC A h) == (0:Int)) (aa (aU (fm B.n.rs)) == (1:Int)) (Nv (aU (fm B.n.rs)) (iZ (gl (fm B.n.rs) 0) (o6 107)) u.q (gl u.q.rs 0).id 2 (xM u.q (qT (iZ (gl u.q.rs 0).val (o6 118)) (vl (bC c i) == (1:Int)) (Nv (dm.rs (bC c i)).length (gl (dm.rs (bC c i)) 0).has (bC e j) (gl (dm.rs (bC e j)) 0).err 0 (∃f:yH,ag (o6 107=f.key /\
 mR (dm.n (bC e j)) f.n j.p f.p (0=0) (Al x.q f (pR y) (dm.n (bC e j)) (o5 x w) (aO (fB f.n f.r f.key) (∃o:Rg.OI,ag ((1:Int)=o.n/\pK (o5 x w) o.r (av o.r.l<100000) (aI (bQ (aD (decide (o.n∈o.r.l))))))) (bQ (aD false))))))) (bQ (aD false))))) (bQ (aD false)))) (bQ (aD false)))) (bQ (aD false))))))))))))))))))))))))) (by kernel_rfl) (by
 delta qT aO oU pK av cz aL ah bC e8 bu bW aG iH bB eF aa aU vg nk cE bg aD dO dQ ig dY bM cM ov ot pn tN cn dc aI bA mR cH bQ pq OO dJ vk sY kZ o6 ay Al aC DQ jd aW ag xC o5 II DR IJ mT cW xJ tA Nv ax bp Af rC iZ cO iy oZ xM nO vl
 try dsimp -iota -proj only
 intro _ _;have hkB:dS kB=true:=by decide
 have hks:kB.size<=aq:=by decide
 obtain⟨mpre,hok0⟩:=iQ.make (id:=1) (now:=0) (d:=kV 400) (by omega) (by omega) (by decide) rfl (fun _=>none);refine⟨400,rfl,trivial,fun _ _=>⟨Ei.mk 1 0 (kV 400) fun _=>none,?_⟩⟩
 and_intros<;>first|exact cc|exact mpre.1|exact mpre.2.1|exact mpre.2.2.1|exact mpre.2.2.2.1|exact mpre.2.2.2.2.1|exact mpre.2.2.2.2.2|(intro h_;revert h_)|exact cm|skip
 obtain⟨n0,hn0⟩:∃n0,n0=pR ⟨1,0,kV 400,fun _=>none⟩:=⟨_,rfl⟩
 rw[<- hn0]at hok0 ⊢;have hw0:n0.ws=[]:=by rw[hn0];rfl
 have hr0:n0.rs=[]:=by rw[hn0];rfl
 have hi0:n0.id=1:=by rw[hn0];rfl
 have hnow0:n0.now=0:=by rw[hn0];rfl
 have he0:n0.s.k.m.aT=0:=by
  have:=(xP (d:=kV 400) (c:=0) (by decide) (Nat.le_refl 0) (by omega) (fun _=>none)).2.2.1;rw[hn0];show(jR (rz ⟨kV 400,fun _=>none⟩)).k.m.aT=0;rw[this]
 intro b hat0;refine⟨Fu.mk n0 b 1 1 kB,?_⟩
 and_intros<;>first|exact cc|exact hks|(intro h_;revert h_)|exact cm|skip
 intro c1 _;refine⟨Ij.mk n0 b,?_⟩
 and_intros<;>first|exact cc|exact hw0|(intro h_;revert h_)|exact cm|skip
 intro c2 _;obtain⟨n1,hn1⟩:∃n1,n1={ n0 with ws:=Vi }:=⟨_,rfl⟩
 have e1:n1=n0:=by rw[hn1];cases n0;simp only at hw0;subst hw0;rfl
 have hok1:iQ n1 0 (fun _=>none) 0 0:=by rw[e1];exact hok0
 have hat1:dB n1 { b with wc:=0 }:=by rw[hn1];exact⟨hat0.st,hat0.tok,hat0.sep,Nat.le_refl 0,hat0.rc⟩
 have hi1:n1.id=1:=by rw[e1];exact hi0
 have hnow1:n1.now=0:=by rw[e1];exact hnow0
 obtain⟨gr0,hok2,hep2⟩:=hok1.gr hat1 (ow:=0) (ep:=2) (tick:=0) (l:=[1]) (cap:=1) (by rw[hi1];omega) (by rw[e1,he0];omega) (by omega) (by decide) (by rw[e1];exact hw0) (by omega) (by omega);have hrw:aj n1.ws.length 7 (af iI Vi) (af iI n1.ws):=by rw[e1,hw0];exact aj.refl _ _ _
 have hwl:Vi.length=n1.ws.length/\n1.ws.length<=0:=by rw[e1,hw0];exact⟨rfl,Nat.le_refl 0⟩
 have hwz:n1.ws.length=0:=hwl.1.symm;refine⟨pz.mk n1 { b with wc:=0 } 0 2 0 [1] 1,?_⟩;rw[<- e1]
 and_intros<;>first|exact cc|exact gr0|exact iC|exact hrw|exact hwl.1|exact hwl.2|exact hi1.symm|exact Nat.le_refl 1|(intro h_;revert h_)|exact cm|skip
 rintro⟨p2,rc1,rc2⟩ hat2;obtain⟨n2,hn2⟩:∃n2,n2=QZ n1 2 0:=⟨_,rfl⟩
 have eq2:pz.q ⟨n1,{ b with wc:=0 },0,2,0,[1],1⟩=n2:=hn2.symm;have hsv2:By (QZ n1 2 0) (pE 2 [n1.id] rc1 rc2):=By.gr hok1.id (by omega) (by omega) (by omega) (by omega) hep2;rw[hi1]at hsv2;have hr2:n2.rs=[]:=by rw[hn2];show n1.rs=[];rw[e1];exact hr0
 have hnow2:n1.now=n2.now:=by rw[hn2];rfl
 have hnz2:n2.now=0:=by rw[<- hnow2];exact hnow1
 rw[eq2]at hat2 ⊢;rw[<- hn2]at hsv2 hok2;have hrg:(pE 2 [1] rc1 rc2).L.length<100000/\0<(pE 2 [1] rc1 rc2).L.length:=OS (by omega);have hrl:(pE 2 [1] rc1 rc2).l=[1]:=rfl;dsimp only;generalize pE 2 [1] rc1 rc2=r at *;have ok3:rZ ⟨n2,p2,r,⟨0,2,1,kB⟩,none⟩:=hok2.ask hat2 hrg hks fun h=>absurd h (by decide);refine⟨⟨n2,p2,r,⟨0,2,1,kB⟩,none⟩,?_⟩
 and_intros<;>first|exact cc|exact ok3|exact hnow2|(intro h_;revert h_)|exact cm|skip
 rintro b3 hat3;have e3:∀b,je n2 r ⟨0,2,1,kB⟩ none b=⟨jT n2 ⟨0,2,1,kB⟩ b,[],[]⟩:=fun b=>DP hsv2 (xL (.inl rfl) hkB) rfl rfl;dsimp only at hat3 ⊢;rw[e3]at hat3 ⊢;have hok3:iQ (jT n2 ⟨0,2,1,kB⟩ b3.b) 2 (fun _=>none) 9 0:=hok2.read (w:=⟨0,2,1,kB⟩) hkB (by omega);have hg3:gl (jT n2 ⟨0,2,1,kB⟩ b3.b).rs 0=⟨⟨0,2,1,kB⟩,n2.t.last+1⟩:=by
  show gl (n2.rs++[_]) 0=_;rw[hr2];rfl
 have hl3:(jT n2 ⟨0,2,1,kB⟩ b3.b).rs.length=1:=by
  show(n2.rs++[_]).length=1;rw[hr2];rfl
 have hsv3:By (jT n2 ⟨0,2,1,kB⟩ b3.b) r:=hsv2.same rfl rfl rfl rfl;have hf3:=U4 hat2 hsv2 ⟨0,2,1,kB⟩ b3.b (v:=vB) (by decide);have hle3:(jT n2 ⟨0,2,1,kB⟩ b3.b).le=n2.le:=rfl;have hnow3:n1.now=(jT n2 ⟨0,2,1,kB⟩ b3.b).now:=hnow2;have hkey3:(gl (fm (jT n2 ⟨0,2,1,kB⟩ b3.b).rs) 0)=kB:=by
  show gl (fm (n2.rs++[_])) 0=_;rw[hr2];rfl
 generalize jT n2 ⟨0,2,1,kB⟩ b3.b=n3 at *;dsimp only at hat3 ⊢;have hlt3:n3.rs.length<1000:=by omega
 refine⟨yI.mk n3 b3.p,?_⟩
 and_intros<;>first|exact cc|exact hlt3|(intro h_;revert h_)|exact cm|skip
 intro c4 _;obtain⟨ro3,hok4,hk4⟩:=hok3.red hat3 hrg (i:=0) (val:=vB) (has:=true) (by omega) (by decide) (by rw[hg3];show 9+(kB.size+vB.size+13)<=378;decide) (by omega);rw[hg3,if_pos hf3]at hok4;refine⟨mX.mk n3 b3.p r 0 vB true,?_⟩
 and_intros<;>first|exact cc|exact ro3|exact hle3.symm▸rfl|exact hnow3|(intro h_;revert h_)|exact cm|skip
 rintro b5 hat5;have e5:mX.q ⟨n3,b3.p,r,0,vB,true⟩=⟨lD n3 r 0 vB true,[],[⟨2,1,kB,0,vB,true⟩]⟩:=by
  unfold mX.q UZ;rw[hg3];rfl
 rw[e5]at hat5 ⊢;have hsv5:By (lD n3 r 0 vB true) r:=hsv3.same rfl rfl rfl (by rw[hk4]);have hle5:n2.le=(lD n3 r 0 vB true).le:=hle3.symm;have hnow5:n1.now=(lD n3 r 0 vB true).now:=hnow3;generalize lD n3 r 0 vB true=n5 at *;dsimp only at hat5 ⊢;have hget:s9 (fun _=>none) kB (some (gp ⟨⟨0,2,1,kB⟩,n2.t.last+1⟩ vB)) kB=some (gp ⟨⟨0,2,1,kB⟩,n2.t.last+1⟩ vB):=if_pos rfl;have ok5:rZ ⟨n5,b5.p,r,⟨0,3,1,kB⟩,some (gp ⟨⟨0,2,1,kB⟩,n2.t.last+1⟩ vB)⟩:=by
  have:=hok4.ask (w:=⟨0,3,1,kB⟩) hat5 hrg hks fun h=>absurd h (by decide);dsimp only[gY]at this;exact hget▸this
 refine⟨⟨n5,b5.p,r,⟨0,3,1,kB⟩,some (gp ⟨⟨0,2,1,kB⟩,n2.t.last+1⟩ vB)⟩,?_⟩
 and_intros<;>first|exact cc|exact ok5|exact hle5▸rfl|exact hnow5|(intro h_;revert h_)|exact cm|skip
 rintro b6 hat6;have e6:∀b,je n5 r ⟨0,3,1,kB⟩ (some (gp ⟨⟨0,2,1,kB⟩,n2.t.last+1⟩ vB)) b=⟨n5,[],[⟨3,1,kB,0,vB,true⟩]⟩:=fun b=>OT hsv5 (xL (.inl rfl) hkB) rfl (KJ _ hkB (by decide));dsimp only at hat6 ⊢;rw[e6]at hat6 ⊢;dsimp only at hat6 ⊢;have ok6:rZ ⟨n5,b6.p,r,⟨0,4,2,kB⟩,some (gp ⟨⟨0,2,1,kB⟩,n2.t.last+1⟩ vB)⟩:=by
  have:=hok4.ask (w:=⟨0,4,2,kB⟩) hat6 hrg hks fun _ _=>⟨by show 9+(kB.size+vB.size+13)+(kB.size+13)<=378;decide,by show 0+(kB.size+9)<=378;decide⟩
  dsimp only[gY]at this;exact hget▸this
 obtain⟨hok7,hk7⟩:=hok4.kill (key:=kB) hkB (by show 9+(kB.size+vB.size+13)+(kB.size+13)<=378;decide) (by decide) (by omega);refine⟨⟨n5,b6.p,r,⟨0,4,2,kB⟩,some (gp ⟨⟨0,2,1,kB⟩,n2.t.last+1⟩ vB)⟩,?_⟩
 and_intros<;>first|exact cc|exact ok6|exact hle5▸rfl|exact hnow5|(intro h_;revert h_)|exact cm|skip
 rintro b7 hat7;have e7:∀b,je n5 r ⟨0,4,2,kB⟩ (some (gp ⟨⟨0,2,1,kB⟩,n2.t.last+1⟩ vB)) b=⟨lB n5 kB,[],[⟨4,2,kB,0,va,false⟩]⟩:=fun b=>KI hsv5 (xL (.inr rfl) hkB) rfl;dsimp only at hat7 ⊢;rw[e7]at hat7 ⊢;have hsv7:By (lB n5 kB) r:=hsv5.same rfl rfl rfl (by rw[hk7]);have hle7:n2.le=(lB n5 kB).le:=hle5;have hnow7:n1.now=(lB n5 kB).now:=hnow5;generalize lB n5 kB=n7 at *;dsimp only at hat7 ⊢;have q1:((gl [QB ⟨n0,b,1,1,kB⟩] 0).err == 6)=true:=by show(Ag 1 kB 6 == 6)=true;decide
 have q2:(((fm n3.rs).length:Int) == 1)=true:=by
  have:(fm n3.rs).length=n3.rs.length:=by simp[fm]
  rw[this,hl3];rfl
 have q3:decide (gl (fm n3.rs) 0=kB)=true:=decide_eq_true hkey3;have hkl:(fm n3.rs).length=1:=by simp[fm,hl3]
 have q0:((gl [tj n0] 0).kind == 1)=true:=rfl;have q4:((gl [(⟨4,2,kB,0,va,false⟩:Ej)] 0).err == 0)=true:=rfl;have q5:(gl [(⟨3,1,kB,0,vB,true⟩:Ej)] 0).has=true:=rfl;have q6:decide ((gl [(⟨2,1,kB,0,vB,true⟩:Ej)] 0).val=vB)=true:=decide_eq_true rfl;have q7:((gl [(⟨2,1,kB,0,vB,true⟩:Ej)] 0).id == 2)=true:=rfl;refine⟨fun _=>⟨⟨by decide,by decide⟩,by decide,fun _=>⟨fun _=>⟨fun _=>⟨⟨by decide,by decide⟩,by decide,fun _=>⟨fun _=>⟨fun _=>⟨fun _=>⟨⟨by omega,by rw[hkl];decide⟩,by rw[hkl];decide,fun _=>⟨fun _=>⟨⟨by decide,by decide⟩,by decide,fun _=>⟨fun _=>⟨⟨by decide,by decide⟩,by decide,fun _=>⟨fun _=>⟨⟨by decide,by decide⟩,by decide,fun _=>⟨fun _=>⟨⟨by decide,by decide⟩,by decide,fun _=>⟨fun _=>⟨yH.mk n7 b7.p r kB,?_⟩,fun c=>absurd (q4.symm.trans c) (by decide)⟩⟩,fun c=>absurd c (by decide)⟩,fun c=>absurd (q5.symm.trans c) (by decide)⟩,fun c=>absurd c (by decide)⟩,fun c=>absurd (q6.symm.trans c) (by decide)⟩,fun c=>absurd (q7.symm.trans c) (by decide)⟩⟩,fun c=>absurd c (by decide)⟩,fun c=>absurd (q3.symm.trans c) (by decide)⟩,fun c=>absurd (q2.symm.trans c) (by decide)⟩,fun c=>absurd c (by decide)⟩,fun c=>absurd (q0.symm.trans c) (by decide)⟩⟩,fun c=>absurd c (by decide)⟩,fun c=>absurd (q1.symm.trans c) (by decide)⟩⟩,fun c=>absurd c (by decide)⟩;have hfz:=hok7.met.2.1
 and_intros<;>first|exact cc|exact hrg.1|exact hrg.2|exact hks|exact hfz|exact hle7▸rfl|exact hnow7|(intro h_;revert h_)|exact cm|skip
 intro _ _;refine⟨fun _=>⟨Rg.OI.mk r 1,?_⟩,fun c=>absurd ((hsv7 kB).symm.trans c) (by decide)⟩;have hrl2:r.l.length<100000:=by rw[hrl];decide
 have hin:decide ((1:Int)∈r.l)=true:=by rw[hrl];decide
 and_intros<;>first|exact cc|exact hrl2|(intro h_;revert h_)|exact cm|skip
 intro _ _;refine⟨(),?_⟩
 and_intros<;>first|exact cc|exact hin|(intro h_;revert h_)|exact cm|skip)
theorem Nx:ak (Y Tryz.prog).G.X 14 IG:=Yy fK (jf:=U8) ⟨Cl,Ft,M5,KG,KB,KF,DJ,Rg.UL,trivial⟩ (pk:=W8) ⟨⟨QD,FA,trivial⟩,trivial⟩ Nw
structure Q3 where
 n:cF
 p:fT
 r:Rg.ew
structure ZR(b:Q3):Prop where
 ok:iQ b.n 1 (fun _=>none) 9 0
 at_:dB b.n b.p
 ZG:By b.n b.r
 ring:b.r.L.length<100000/\0<b.r.L.length
 own:∀k,tv b.r k=1
 id:b.n.id=1
 now:b.n.now=0
 ws:b.n.ws=[]
 rs:b.n.rs=[]
 le:b.n.le=⟨1,20,1⟩
 ep:b.n.s.k.m.aT=1
 tl:b.n.t.l=[]/\b.n.t.last=0
noncomputable def Ny:cD where
 α:=PH
 β:=Q3
 m:=2
 m':=30
 pre:=fun _=>True
 args:=fun _=>[.a (.ptr 0 0 0 0)]
 hp:=fun H=>[(0,Wy 0),(1,.cu H)]
 ro:=fun _=>[]
 post:=fun _ b=>ZR b
 res:=fun _ _=>.l8 [.a (.ptr 4 0 0 0),.a (.ptr 13 0 0 0)]
 cT:=fun _ b=>W3 (.ptr 22 0 0 0) 4 5 0 6 7 8 9 10 11 12 13 14 15 16 17 18 19 20 21 23 24 b.n b.p++OK 22 25 26 b.r
noncomputable def Yz:List (Nat×cD):=[(12,Bo),(11,Dw),(16,OQ)]
theorem Q4:fnBody (Y Tryz.prog) Yz 21 Ny fun _=>[(21,[],[.WG 0 15 false UT])]:=fnBody.of (p :=
 ∀s:PH,True->∃w:Int,(800:Int)=w/\cO (∃x:Ei,(1:Int)=x.id/\ax (iR (kV w) x.d (s=x.H/\(0:Int)=x.now/\Af x/\∀u:fT,dB (pR x) u->ah (pR x).now->Exists (IJ 1 (pR x).now u x (pR x) fun y=>oU (pR x) y.n u y.p ((pR x).t.last=y.n.t.last) (tN u.mb y.p y.n (pR x) (pR x).rs (II x y u fun v=>∃z:Q3,ax (mR y.q z.n v.p z.p (0=0) (nO y.q z.n (pR x) (tB y.q z.n.t v.p z.p.mb (tA z.n y.q) (kZ z.n.rs y.q.rs) (mT y.q z.n v.p z.p (v.p.p.H=z.p.p.H/\pK (o5 y v) z.r (ZR z) True)))))))))))) (by kernel_rfl) (by
 delta oU pK av cz aL ah e8 bu bW aG iH bB vg nk cE dO dQ ig bM cM ov ot pn tN cn dc aI mR cH pq dJ kZ jd aW ag xC o5 II IJ mT cW tA tB ax Af cO iy oZ nO
 try dsimp -iota -proj only
 intro H _;obtain⟨mpre,hok0⟩:=iQ.make (id:=1) (now:=0) (d:=kV 800) (by omega) (by omega) (by decide) rfl H;refine⟨800,rfl,trivial,fun _ _=>⟨Ei.mk 1 0 (kV 800) H,?_⟩⟩
 and_intros<;>first|exact cc|exact mpre.1|exact mpre.2.1|exact mpre.2.2.1|exact mpre.2.2.2.1|exact mpre.2.2.2.2.1|exact mpre.2.2.2.2.2|(intro h_;revert h_)|exact cm|skip
 obtain⟨n0,hn0⟩:∃n0,n0=pR ⟨1,0,kV 800,H⟩:=⟨_,rfl⟩
 rw[<- hn0]at hok0 ⊢;have hw0:n0.ws=[]:=by rw[hn0];rfl
 have hr0:n0.rs=[]:=by rw[hn0];rfl
 have hi0:n0.id=1:=by rw[hn0];rfl
 have hnow0:n0.now=0:=by rw[hn0];rfl
 have ht0:n0.t=t00:=by rw[hn0];rfl
 have he0:n0.s.k.m.aT=0:=by
  have:=(xP (d:=kV 800) (c:=0) (by decide) (Nat.le_refl 0) (by omega) H).2.2.1;rw[hn0];show(jR (rz ⟨kV 800,H⟩)).k.m.aT=0;rw[this]
 intro b hat0 _;obtain⟨gr0,hok2,hep2⟩:=hok0.gr hat0 (ow:=0) (ep:=1) (tick:=0) (l:=[1]) (cap:=1) (by rw[hi0];omega) (by rw[he0];omega) (by omega) (by decide) hw0 (by omega) (by omega);refine⟨pz.mk n0 b 0 1 0 [1] 1,?_⟩
 and_intros<;>first|exact cc|exact gr0|exact iC|exact hi0.symm|exact hnow0|exact Nat.le_refl 1|(intro h_;revert h_)|exact cm|skip
 rintro⟨p2,rc1,rc2⟩ hat2;obtain⟨n2,hn2⟩:∃n2,n2=QZ n0 1 0:=⟨_,rfl⟩
 have eq2:pz.q ⟨n0,b,0,1,0,[1],1⟩=n2:=hn2.symm;have hsv2:By (QZ n0 1 0) (pE 1 [n0.id] rc1 rc2):=By.gr hok0.id (by omega) (by omega) (by omega) (by omega) hep2;rw[hi0]at hsv2;have hnow2:n0.now=n2.now:=by rw[hn2];rfl
 have hle2:n2.le=⟨1,0+20,1⟩:=by
  rw[hn2];show qO n0.now ⟨0,0,0⟩ 0 1=_;rw[hnow0];exact KH (by omega) (by omega) (by omega) (by omega)
 have ht2:n2.t.l=[]/\n2.t.last=0:=by
  rw[hn2];show(fS n0.t vW).l=[]/\(fS n0.t vW).last=0;rw[ht0];exact⟨rfl,rfl⟩
 rw[eq2]at hat2 ⊢;rw[<- hn2]at hsv2 hok2 hep2;have hA:ZR ⟨n2,p2,pE 1 [1] rc1 rc2⟩:=⟨hok2,hat2,hsv2,OS (by omega),Q1 (by omega),by rw[hn2];exact hi0,by rw[<- hnow2];exact hnow0,by rw[hn2];rfl,by rw[hn2];exact hr0,hle2,hep2,ht2⟩
 refine⟨⟨n2,p2,pE 1 [1] rc1 rc2⟩,?_⟩
 and_intros<;>first|exact cc|exact hA|exact hnow2|(intro h_;revert h_)|exact cm|skip)
theorem Q5:ak (Y Tryz.prog).G.X 21 Ny:=aV fK Q4 ⟨Cl,Ft,KG,trivial⟩
def S.st(s:S)(c:Nat)(m:lu)(p:sZ):S :=
 (fun(s3:S)=>(s3.put (s3.hp.del (EO s3))).new (.cu p.H))
 ((((((((((((((s.at_ c (ZP (s.fh c 0) (s.fh c 1) (s.fh c 2) m.bK)).at_
  (s.fh (s.fh c 0) 0) (fo (s.fh (s.fh (s.fh c 0) 0) 0) m.cL p.cy.lv)).at_
  (s.fh (s.fh (s.fh c 0) 0) 0) (.obj 116 [.slc (s.fh (s.fh (s.fh (s.fh c 0) 0) 0) 0) 0 129 m.d.n m.d.n,.int .i64 m.d.calls])).at_
  (s.fh (s.fh (s.fh (s.fh c 0) 0) 0) 0) (.arr 158 AA m.d.n (eO m.d))).at_
  (s.fh (s.fh c 0) 1) (.obj 247 [.slc (s.fh (s.fh (s.fh c 0) 1) 0) 0 4 p.x.t.length p.xc,.int .i64 p.x.n,.int .i64 p.x.used])).at_
  (s.fh (s.fh (s.fh c 0) 1) 0) (.arr 251 Ix.XR p.x.t.length (af Ix.Ba p.x.t))).at_
  (s.fh c 1) (Wd (s.fh (s.fh c 1) 0) (s.fh (s.fh c 1) 1) m.ms.length p.jc)).at_
  (s.fh (s.fh c 1) 1) (.arr 228 qq m.ms.length (af cG m.ms))).at_
  (s.fh (s.fh c 1) 0) (fo (s.fh (s.fh (s.fh c 0) 0) 0) m.jL p.jy.lv)).at_
  (s.fh c 2) (.obj 155 (.ptr (s.fh (s.fh c 2) 0) 0 0 0::C7 m.k.m))).at_
  (s.fh (s.fh c 2) 0) (.obj 262 (Zl (s.fh (s.fh (s.fh c 0) 0) 0) (s.fh (s.fh (s.fh c 2) 0) 3) m.k.s p.kc))).at_
  (s.fh (s.fh (s.fh c 2) 0) 3) (.arr 5 [.int .u8] m.k.s.text.length (af cA m.k.s.text)))))
def ZH(s:S):Nat:=match x7 true s.hp with
 |some t=>t
 |none=>0
def S.nod(s:S)(c:Nat)(n:cF)(p:fT):S :=
 (fun(s1:S)=>(s1.put (s1.hp.del (ZH s1))).new (u9 p.mb n.t))
 (((((((S.st s (s.fh c 0) n.s p.p).at_ c (Ic (.ptr (s.fh c 3) 0 0 0) (s.fh c 0) (s.fh c 1) (s.fh c 4) (s.fh c 9) (s.fh c 10) n p)).at_
  (s.fh c 1) (Wx (s.fh (s.fh c 1) 0) n.le)).at_ (s.fh (s.fh c 1) 0) (Wy n.now)).at_ (s.fh c 4) (Dp p.mb n.t)).at_
  (s.fh c 9) (.arr 125 Ib n.ws.length (af iI n.ws))).at_ (s.fh c 10) (.arr 134 Ae n.rs.length (af fN n.rs)))
structure vX where
 i:Nat
 n:cF
 p:fT
structure ZI(k:Nat)(get:ByteArray->Option aB)(cb jb:Nat)(x:vX):Prop where
 ok:iQ x.n k get cb jb
 at_:dB x.n x.p
 id:x.n.id=1
 now:x.n.now=0
 le:x.n.le=⟨1,20,1⟩
 ep:x.n.s.k.m.aT=1
theorem iQ.wider{n:cF}{k:Nat}{get:ByteArray->Option aB}{cb jb:Nat}(h:iQ n k get cb jb){cb':Nat}(hc:cb<=cb'):iQ n k get cb' jb:=by
 obtain⟨c,es,o1,o2,o3⟩:=h.one;exact⟨⟨c,es,o1.wide hc,o2,o3⟩,h.lt,h.met,h.id,h.now,h.num,h.rs⟩
theorem ZI.ZG{k:Nat}{get:ByteArray->Option aB}{cb jb:Nat}{x:vX}{r:Rg.ew}(h:ZI k get cb jb x)(hr:∀k,tv r k=1):By x.n r:=fun q=>by
 rw[Q2 ((hr q).trans h.id.symm),h.le,h.now,h.ep];decide
theorem W9{α:Type}(x:α):(([x].length:Int) != 1)=false:=rfl
theorem lt1{α:Type}(x:α):(0:Int)<=0/\(0:Int)<([x].length:Int):=⟨Int.le_refl 0,by show(0:Int)<((1:Nat):Int);omega⟩
theorem YA{α:Type}(x:α):0 < [x].length:=Nat.one_pos
def cq(i:Nat):ByteArray:=(ByteArray.empty.push 107).push (UInt8.ofNat (97+i))
theorem Ap{i j:Nat}(hi:i<20)(hj:j<20)(h:cq i=cq j):i=j:=by
 have h2:(cq i).data.toList=(cq j).data.toList:=by rw[h]
 have e:∀i,(cq i).data.toList=[107,UInt8.ofNat (97+i)]:=fun _=>rfl;rw[e,e]at h2;have h3:UInt8.ofNat (97+i)=UInt8.ofNat (97+j):=(List.cons.inj (List.cons.inj h2).2).1;have h4:=congrArg UInt8.toNat h3;simp only[UInt8.toNat_ofNat']at h4;omega
theorem l7(i:Nat):dS (cq i)=true:=rfl
theorem tC(i:Nat):(cq i).size=2:=rfl
theorem Aq(i:Nat):(cq i).size<=aq:=by show 2<=aq;decide
def YB(n v:Int):Nat:=((v.tmod n+n).tmod n).toNat
theorem U9{n:Int}(h:1<=n)(hb:n<=10)(v:Int):(v.tmod n+n).tmod n=(YB n v:Nat)/\YB n v<n.toNat/\bL .i64 (v.tmod n+n):=by
 have h1:=Int.lt_tmod_of_pos v (show(0:Int)<n by omega);have h2:=Int.tmod_lt_of_pos v (show(0:Int)<n by omega);have h3:=Int.tmod_nonneg n (show 0<=v.tmod n+n by omega);have h4:=Int.tmod_lt_of_pos (v.tmod n+n) (show(0:Int)<n by omega);exact⟨by unfold YB;omega,by unfold YB;omega,by simp only[bL];omega⟩
noncomputable def Nz:cD where
 α:=Nat
 β:=Unit
 m:=0
 m':=0
 pre:=fun i=>i<20
 args:=fun i=>[.a (.int .i64 i)]
 hp:=fun _=>[]
 ro:=fun _=>[]
 post:=fun _ _=>True
 res:=fun i _=>.a (.str (cq i))
 cT:=fun _ _=>[]
theorem Q6:fnBody (Y Tryz.prog) [] 26 Nz fun _=>[]:=fnBody.of (p :=
 ∀x:Nat,x<20->ah ((97:Int)+aa x)/\2<=2/\bQ (gL (aN 1 (bM (fk 107) (nA ((97:Int)+aa x)))) 0 2=cq x)) (by kernel_rfl) (by
 delta ah aa bH fk bM bQ ay nA bp
 intro i h;have hu:uw .u8 (97+(i:Int))=((97+i:Nat):Int):=by simp only[uw];omega
 rw[hu];exact⟨by simp only[bL];omega,by omega,(),rfl,trivial,trivial⟩)
theorem Q7:ak (Y Tryz.prog).G.X 26 Nz:=aV fK Q6 trivial
structure vm where
 n:Int
 kill:Int
def vm.N(a:vm):Nat:=YB 8 a.n+1
def vm.K(a:vm):Nat:=YB (a.N:Int) a.kill
noncomputable def Va:cD where
 α:=vm
 β:=Unit
 m:=0
 m':=0
 pre:=fun a=>bL .i64 a.n/\bL .i64 a.kill
 args:=fun a=>[.a (.int .i64 a.n),.a (.int .i64 a.kill)]
 hp:=fun _=>[]
 ro:=fun _=>[]
 post:=fun _ _=>True
 res:=fun _ _=>.a .tt
 cT:=fun _ _=>[]
noncomputable def Vb:List (Nat×cD):=[(14,IG),(21,Ny),(26,Nz),(13,IC),(17,OL),(25,ON)]
theorem Q8:uy (Y Tryz.prog).G.X Vb:=⟨Nx,Q5,Q7,FA,KB,KF,trivial⟩
def Q9(j:Nat):gX:=⟨⟨0,(j:Int)+1,1,cq j⟩,(j:Int)+1⟩
def Vj(i:Nat):List gX:=(List.range i).map Q9
def ZJ(t:jq)(lo hi:Nat)(good:Nat->Bool):Prop:=∀j,lo<=j->j<hi->∃e,kQ t ((j:Int)+1)=some e/\e.good=good j/\e.key=cq j
def gK(K:Nat):Nat->ByteArray->Option aB
 |0=>s9 (fun _=>none) (cq K) none
 |i+1=>if i=K then gK K i else s9 (gK K i) (cq i) (some (gp (Q9 i) vB))
structure IK(x:vX):Prop where
 is:ZI (1+x.i) (fun _=>none) 9 0 x
 rs:x.n.rs=Vj x.i
 last:x.n.t.last=x.i
 tok:ZJ x.n.t 0 x.i fun _=>true
structure KM(N K:Nat)(x:vX):Prop where
 is:ZI (20+x.i) (gK K x.i) (24+16*x.i) 11 x
 rs:x.n.rs=(Vj N).drop x.i
 tok:ZJ x.n.t x.i N fun j=>decide (j≠K)
structure KN(N K:Nat)(x:vX):Prop where
 is:ZI (30+x.i) (gK K N) 160 11 x
 rs:x.n.rs.length=if K<x.i then 1 else 0
def ZS(loops:List An)(l:List (Nat×Bool)):Nat->LH
 |0=>.mk 1000 loops []
 |k+1=>.mk 1000 loops [.Yu 0 l (ZS loops l k)]
def ZK(a:vm):An:=.flat 12 vX (fun s x=>(S.nod s (s.tg 7) x.n x.p).int 10 x.i) (fun _ x=>x.i<=a.N/\IK x) (fun _ x=>a.N-x.i)
def ZL(a:vm):An:=.mk 19 vX (fun s x=>(S.nod s (s.tg 7) x.n x.p).int 12 x.i) (fun _ x=>x.i<=a.N/\KM a.N a.K x) (fun _ x=>a.N-x.i) fun _=>ZS [] [(101,false)] 4
def ZM(a:vm):An:=.mk 25 vX (fun s x=>(S.nod s (s.tg 7) x.n x.p).int 14 x.i) (fun _ x=>x.i<=a.N/\KN a.N a.K x) (fun _ x=>a.N-x.i) fun _=>ZS [] [(121,false)] 4
theorem Vc{t:jq}{key:ByteArray}{b:Nat}{id:Int}{e:gm}(h:kQ t id=some e):kQ (pg t key b) id=some e:=by
 unfold kQ pg at *;dsimp only;rw[List.find?_append,h];rfl
theorem Ra{t:jq}{f:ByteArray->Bool}{id:Int}{e:gm}(h:kQ t id=some e):kQ (fS t f) id=some { e with good:=e.good&&!f e.key }:=by
 unfold kQ fS at *;dsimp only;rw[List.find?_map];show Option.map _ (List.find? (fun e=>e.id == id) t.l)=_;rw[h];rfl
theorem Vd{t:jq}{id id':Int}(hne:id≠id'):kQ (nM t id') id=kQ t id:=by
 unfold kQ nM;dsimp only;rw[List.find?_filter];congr 1;funext e;by_cases h:e.id=id
 ·have:¬e.id=id':=fun h2=>hne (h.symm.trans h2);simp[h,this,hne]
 ·simp[h]
theorem Bz(i:Nat):(Vj i).length=i:=by simp[Vj]
theorem Ve(i:Nat):Vj (i+1)=Vj i++[Q9 i]:=by simp[Vj,List.range_succ]
theorem WK{i n:Nat}(h:i<n):(Vj n)[i]? = some (Q9 i):=by simp[Vj,h]
theorem IK.step{x:vX}{i:Nat}(h:IK x)(hi:x.i=i)(h8:i<8)(b:Nat){p:fT}(hat:dB (jT x.n ⟨0,(i:Int)+1,1,cq i⟩ b) p):IK ⟨i+1,jT x.n ⟨0,(i:Int)+1,1,cq i⟩ b,p⟩:=by
 obtain⟨⟨ok,at_,hid,hnow,hle,hep⟩,rs,last,tok⟩:=h;rw[hi]at ok rs last tok;refine⟨⟨by have:=ok.read (w:=⟨0,(i:Int)+1,1,cq i⟩) (b:=b) (l7 i) (by omega);rw[show 1+(i+1)=1+i+1 by omega];exact this,hat,hid,hnow,hle,hep⟩,?_,?_,?_⟩
 ·show x.n.rs++[_]=_;rw[rs,Ve,last];rfl
 ·show x.n.t.last+1=_;rw[last];push_cast;rfl
 ·intro j h0 hj;by_cases e:j=i
  ·subst e;refine⟨⟨x.n.t.last+1,b,cq j,true,x.n.t.dG⟩,?_,rfl,rfl⟩;have:=KK at_.tok (cq j) b;rw[last]at this ⊢;exact this
  ·obtain⟨y,y1,y2⟩:=tok j h0 (by dsimp only at hj;omega);exact⟨y,Vc y1,y2⟩
theorem IK.kill{x:vX}{N K:Nat}(h:IK x)(hi:x.i=N)(hN:N<=8)(hK:K<N){p:fT}(hat:dB (lB x.n (cq K)) p):KM N K ⟨0,lB x.n (cq K),p⟩:=by
 obtain⟨⟨ok,at_,hid,hnow,hle,hep⟩,rs,last,tok⟩:=h;rw[hi]at ok rs last tok;obtain⟨k1,k2⟩:=ok.kill (l7 K) (by rw[tC];omega) (by rw[tC];omega) (by omega);refine⟨⟨k1.up (by dsimp only;omega) (by dsimp only;omega),hat,hid,hnow,hle,by show(lB x.n (cq K)).s.k.m.aT=1;rw[k2];exact hep⟩,rs,?_⟩;intro j _ hj;obtain⟨y,y1,y2,y3⟩:=tok j (Nat.zero_le _) hj;refine⟨_,Ra y1,?_,y3⟩;dsimp only;rw[y2,y3];unfold hasB;by_cases e:j=K
 ·subst e;simp
 ·have:¬cq j=cq K:=fun h2=>e (Ap (by omega) (by omega) h2);simp[e,this]
theorem KM.red{x:vX}{r:Rg.ew}{N K i:Nat}(h:KM N K x)(hi:x.i=i)(hN:N<=8)(hiN:i<N)(ho:∀k,tv r k=1)(hr:r.L.length<100000/\0<r.L.length) :
 gl x.n.rs 0=Q9 i/\FC ⟨x.n,x.p,r,0,vB,true⟩/\∀p,dB (lD x.n r 0 vB true) p->KM N K ⟨i+1,lD x.n r 0 vB true,p⟩:=by
 have hsv:=h.is.ZG ho;obtain⟨⟨ok,at_,hid,hnow,hle,hep⟩,rs,tok⟩:=h;rw[hi]at ok rs tok;have hd:x.n.rs=Q9 i::(Vj N).drop (i+1):=by
  rw[rs,List.drop_eq_getElem_cons (by rw[Bz];exact hiN)];congr 1;have:=WK hiN;rw[List.getElem?_eq_getElem (by rw[Bz];exact hiN)]at this;exact Option.some.inj this
 have hg:gl x.n.rs 0=Q9 i:=by rw[hd];rfl
 obtain⟨q1,q2,q3⟩:=ok.red at_ hr (i:=0) (val:=vB) (has:=true) (by rw[hd];exact Nat.succ_pos _) (by decide) (by rw[hg];show 24+16*i+(2+1+13)<=378;omega) (by omega);rw[hg]at q2;obtain⟨y,y1,y2,y3⟩:=tok i (Nat.le_refl _) hiN;have y2:y.good=decide (i≠K):=y2;have hf:lC x.n r (Q9 i) vB true=decide (i≠K):=by
  unfold lC KE;rw[show(Q9 i).tok=(i:Int)+1 from rfl,y1,hsv];dsimp only;rw[y2,show gY vB true=vB from rfl];cases decide (i≠K)<;>rfl
 rw[hf]at q2;refine⟨hg,q1,fun p hat=>⟨⟨?_,hat,hid,hnow,hle,by show(lD x.n r 0 vB true).s.k.m.aT=1;rw[q3];exact hep⟩,?_,?_⟩⟩
 ·have e:(if decide (i≠K)=true then s9 (gK K i) (Q9 i).w.key (some (gp (Q9 i) (gY vB true)))else gK K i)=gK K (i+1):=by
   unfold gK;by_cases e:i=K
   ·rw[if_pos e,if_neg (by simp[e])];cases i<;>rfl
   ·rw[if_neg e,if_pos (by simp[e])];cases i<;>rfl
  rw[e]at q2;have e2:24+16*i+((Q9 i).w.key.size+vB.size+13)=24+16*(i+1):=by show 24+16*i+(2+1+13)=_;omega
  rw[e2]at q2;exact q2
 ·show x.n.rs.eraseIdx 0=_;rw[hd];rfl
 ·intro j h1 hj;obtain⟨z,z1,z2⟩:=tok j (by dsimp only at h1;omega) hj;refine⟨z,?_,z2⟩;show kQ (nM x.n.t (gl x.n.rs 0).tok) _=_;rw[hg,Vd (by show(j:Int)+1≠(i:Int)+1;dsimp only at h1;omega)];exact z1
theorem Vf(K:Nat):∀N i,N<=8->i<N->K<16->gK K N (cq i)=if i=K then none else some (gp (Q9 i) vB)
 |0,i,_,h,_=>by omega
 |N+1,i,hN,h,hK=>by
  unfold gK;have base:∀M j,M<=8->M<=j->j<20->K<16->gK K M (cq j)=none:=by
   intro M
   induction M with
   |zero =>
    intro j _ _ _ _;unfold gK s9;split<;>rfl
   |succ M ih =>
    intro j h1 h2 h3 h4;unfold gK;split
    ·exact ih j (by omega) (by omega) h3 h4
    ·unfold s9;rw[if_neg fun h=>by have:=Ap (i:=j) (j:=M) (by omega) (by omega) (by first|exact h|exact h.symm);omega];exact ih j (by omega) (by omega) h3 h4
  by_cases e:i=N
  ·subst e;by_cases e2:i=K
   ·rw[if_pos e2,if_pos e2];exact base i i (by omega) (Nat.le_refl _) (by omega) (by omega)
   ·rw[if_neg e2,if_neg e2];unfold s9;rw[if_pos rfl]
  ·have ih:=Vf K N i (by omega) (by omega);by_cases e2:N=K
   ·rw[if_pos e2];exact ih (by omega)
   ·rw[if_neg e2];unfold s9;rw[if_neg fun h=>by have:=Ap (i:=i) (j:=N) (by omega) (by omega) (by first|exact h|exact h.symm);exact e this];exact ih (by omega)
theorem KN.ask{x:vX}{r:Rg.ew}{N K i:Nat}(h:KN N K x)(hi:x.i=i)(hN:N<=8)(hiN:i<N)(hK:K<N)(ho:∀k,tv r k=1)(hr:r.L.length<100000/\0<r.L.length) :
 rZ ⟨x.n,x.p,r,⟨0,60+(i:Int),1,cq i⟩,gK K N (cq i)⟩/\∀b,((je x.n r ⟨0,60+(i:Int),1,cq i⟩ (gK K N (cq i)) b).rs.length=if i=K then 0 else 1)/\∀p,dB (je x.n r ⟨0,60+(i:Int),1,cq i⟩ (gK K N (cq i)) b).n p->KN N K ⟨i+1,(je x.n r ⟨0,60+(i:Int),1,cq i⟩ (gK K N (cq i)) b).n,p⟩/\(je x.n r ⟨0,60+(i:Int),1,cq i⟩ (gK K N (cq i)) b).n.le=x.n.le/\(je x.n r ⟨0,60+(i:Int),1,cq i⟩ (gK K N (cq i)) b).n.now=x.n.now:=by
 have hsv:=h.is.ZG ho;obtain⟨⟨ok,at_,hid,hnow,hle,hep⟩,rs⟩:=h;rw[hi]at ok rs;have hA:=ok.ask (w:=⟨0,60+(i:Int),1,cq i⟩) at_ hr (Aq i) fun h=>absurd (show(1:Int)=2 from h) (by decide);refine⟨hA,fun b=>?_⟩;have hg:=Vf K N i hN hiN (by omega);by_cases e:i=K
 ·rw[if_pos e]at hg ⊢;rw[hg,DP hsv (xL (.inl rfl) (l7 i)) rfl rfl];refine⟨rfl,fun p hat=>⟨⟨⟨(ok.read (w:=⟨0,60+(i:Int),1,cq i⟩) (b:=b) (l7 i) (by omega)),hat,hid,hnow,hle,hep⟩,?_⟩,rfl,rfl⟩⟩;show(x.n.rs++[_]).length=_;rw[List.length_append,rs,if_neg (by omega),if_pos (by dsimp only;omega)];rfl
 ·rw[if_neg e]at hg ⊢;rw[hg,OT hsv (xL (.inl rfl) (l7 i)) rfl (KJ _ (l7 i) (by decide))];refine⟨rfl,fun p hat=>⟨⟨⟨(ok.up (by dsimp only;omega) (by dsimp only;omega)),hat,hid,hnow,hle,hep⟩,?_⟩,rfl,rfl⟩⟩;show x.n.rs.length=_;rw[rs];by_cases h2:K<i
  ·rw[if_pos h2,if_pos (by dsimp only;omega)]
  ·rw[if_neg h2,if_neg (by dsimp only;omega)]
def qx(y x:Int):Int:=(y.tmod x+x).tmod x
def NA(x:vm)(z:fT)(u:cF)(y:vX)(v:Prop):=cH (ax (cz (qx x.kill ((1:Int)+qx x.n 8)) ((1:Int)+qx x.n 8) (bB false) (bB true/\cH (e8 z.mb u.t=e8 y.p.mb y.n.t/\z.p.H=y.p.p.H/\v))))
def IL(x:vX)(y:vm)(z:Prop):=bB (aQ (aa x.i) ((1:Int)+qx y.n 8))/\bh x.i/\z
def DS(g:vX)(w:vm)(u:fT)(v:cF)(y:vX)(z:tZ)(x:mW)(t:vX)(f:Q3)(h:Prop):=cH (ag (IL g w (NA w u v y (bD (bG (dm.ms (bC z x))) x.mc/\bD (dm.rs (bC z x)).length x.rc/\xJ v y.n u y.p (vb (dm.ms (bC z x))/\dN (dm.rs (bC z x)).length 6 (af oT (dm.rs (bC z x)))/\ag (nO t.n y.n t.n (pK f.r f.r (0=0) (ax (ry v.s y.n.s u.p y.p.p h)))))))))
def NB(s:Int)(u:vm)(z:fT)(y v:cF)(w:Q3)(f:vX->Prop):vX->Prop:=fun(x:vX)=>s=aa x.i/\NA u z y x (mR y x.n z x.p (0=0) (nO v x.n v (y.t.last=x.n.t.last/\tN z.mb x.p x.n y y.rs (mT y x.n z x.p (pK w.r w.r (x.i<=u.N/\IK x) (f x))))))
def NC(x y:Int)(z:Prop):=x≠(0:Int)/\ah (y.tmod x+x)/\x≠(0:Int)/\z
theorem WL:fnBody (Y Tryz.prog) Vb 5 Va fun a=>[(5,[],[An.yj 7 (ZS [ZK a,ZL a,ZM a] [(72,false)] 6)])]:=fnBody.of (p :=
 ∀x:vm,ah x.n/\ah x.kill->ay (cO (NC 8 x.n (ah ((1:Int)+qx x.n 8)/\NC ((1:Int)+qx x.n 8) x.kill (∃o:PH,ag (aW ((fun v=>none)=o/\True/\∀v:Q3,ZR v->Exists (NB 0 x v.p v.n v.n v fun z=>True)/\∀z:vX,z.i<=x.N/\IK z->aA (aa z.i) ((1:Int)+qx x.n 8) (aP z.i (∃t:Nat,bq z.i t/\t<20/\aI (Exists (vk (aY z.i) 1 (cq t) z.p z.n z.n z.n v.r fun s w=>aP z.i (Exists (NB (aY z.i) x w.p (dm.n (bC s w)) z.n v fun j=>x.N-j.i<x.N-z.i)))))) (∃t:Nat,qx x.kill ((1:Int)+qx x.n 8)=aa t/\t<20/\aI (Exists (vk 50 2 (cq t) z.p z.n z.n z.n v.r fun s w=>DR (dm.n (bC s w)) w.p fun j=>gC (aa (aU (fm j.n.rs)) != (1:Int)+qx x.n 8) False (vl (bC s w) != (1:Int)) (xM (bC s w) (ah (gl (dm.rs (bC s w)) 0).err->((gl (dm.rs (bC s w)) 0).err != (0:Int))=false/\(∃u:vX,aC u.i (DS z x w.p (dm.n (bC s w)) u s w z v ((u.i<=x.N/\KM x.N x.K u)/\True)))/\∀u:vX,u.i<=x.N/\KM x.N x.K u->aA (aa u.i) ((1:Int)+qx x.n 8) (∃y:mX,ag (aC y.k (o6 118=y.val/\true=y.has/\DQ u.p y.p u.n y.n u.n u.n v.r y.r (FC y) (fun m=>y.q) fun m=>aO (vl y.q != (1:Int)) False (xM y.q (ah (gl y.q.rs 0).id->aP u.i (aO ((gl y.q.rs 0).id != aY u.i) False (xM y.q (bx (iZ (gl y.q.rs 0).val (o6 118))=false /\
 aP u.i (∃f:vX,aY u.i=aa f.i/\DS z x m.p y.q.n f s w u v (dP f.i x.N (KM x.N x.K f) u.i)))))))))) ((∃y:vX,aC y.i (IL u x (DS z x u.p u.n y s w u v ((y.i<=x.N/\KN x.N x.K y)/\True))))/\∀y:vX,y.i<=x.N/\KN x.N x.K y->aA (aa y.i) ((1:Int)+qx x.n 8) (ah ((60:Int)+aa y.i)/\∃g:Nat,bq y.i g/\g<20/\aI (Exists (vk ((60:Int)+aa y.i) 1 (cq g) y.p y.n y.n y.n v.r fun f l=>bx ((vl (bC f l) == (1:Int)) == (aa y.i != qx x.kill ((1:Int)+qx x.n 8)))=false/\aP y.i (∃h:vX,aY y.i=aa h.i/\IL u x (DS z x l.p (dm.n (bC f l)) h s w y v (dP h.i x.N (KN x.N x.K h) y.i)))))) (DR y.n y.p fun g=>bQ (aD (aa (aU (fm g.n.rs)) == (1:Int))))))))))))))))) (by kernel_rfl) (by
 delta aO oU pK av cz aL ah bC e8 bW aG iH bB eF aQ aY qx aa aU vg nk cE dP bg aD dQ ig dY cM ov ot pn tN cn dN gC aI bG bD mR cH bQ pq dJ DS vk kZ NB o6 ay aC DQ jd aW ag aA DR aP bh mT cW xJ tA bq ax bp NA bx vb iZ cO oZ NC xM nO vl IL
 try dsimp -iota -proj only
 rintro a ⟨hn,hk⟩;obtain⟨e1,e2,e3⟩:=U9 (n:=8) (by omega) (by omega) a.n;have eN:(1:Int)+(a.n.tmod 8+8).tmod 8=(a.N:Int):=by rw[e1];unfold vm.N;push_cast;omega
 have hN8:a.N<=8:=by have e2:YB 8 a.n<8:=e2;unfold vm.N;omega
 have hN1:1<=a.N:=by unfold vm.N;omega
 obtain⟨f1,f2,f3⟩:=U9 (n:=(a.N:Int)) (by omega) (by omega) a.kill;have eK:(a.kill.tmod (a.N:Int)+(a.N:Int)).tmod (a.N:Int)=(a.K:Int):=f1;have hKN:a.K<a.N:=f2;rw[eN,eK];generalize a.N=N at *;generalize a.K=K at *;refine⟨(),trivial,fun _ _=>⟨by decide,e3,by decide,by simp only[bL];omega,by omega,f3,by omega,(fun _=>none:PH),?_⟩⟩
 and_intros<;>first|exact cc|(intro h_;revert h_)|exact cm|skip
 intro b hb;have hring:=hb.ring;have hown:=hb.own;have I0:IK ⟨0,b.n,b.p⟩:=⟨⟨hb.ok,hb.at_,hb.id,hb.now,hb.le,hb.ep⟩,hb.rs,hb.tl.2,fun j _ h=>absurd h (Nat.not_lt_zero _)⟩
 refine⟨⟨vX.mk 0 b.n b.p,?_⟩,fun x hx=>⟨fun c=>?_,fun c=>?_⟩⟩
 ·and_intros<;>first|exact cc|exact I0|exact Nat.zero_le _|(intro h_;revert h_)|exact cm|skip
 ·obtain⟨hxN,hI⟩:=hx;have hi:x.i<N:=by have:=of_decide_eq_true c;omega
  have ok:rZ ⟨x.n,x.p,b.r,⟨0,(x.i:Int)+1,1,cq x.i⟩,none⟩:=hI.is.ok.ask hI.is.at_ hring (Aq x.i) fun h=>absurd (show(1:Int)=2 from h) (by decide);refine⟨by simp only[bL];omega,x.i,rfl,by omega,fun _ _=>⟨⟨x.n,x.p,b.r,⟨0,(x.i:Int)+1,1,cq x.i⟩,none⟩,?_⟩⟩
  and_intros<;>first|exact cc|exact ok|(intro h_;revert h_)|exact cm|skip
  rintro b2 hat;have e4:∀q,je x.n b.r ⟨0,(x.i:Int)+1,1,cq x.i⟩ none q=⟨jT x.n ⟨0,(x.i:Int)+1,1,cq x.i⟩ q,[],[]⟩:=fun q=>DP (hI.is.ZG hown) (xL (.inl rfl) (l7 x.i)) rfl rfl;dsimp only at hat ⊢;rw[e4]at hat ⊢;dsimp only at hat ⊢;have I1:=hI.step (b:=b2.b) rfl (by omega) hat;have hm:N-(x.i+1)<N-x.i:=by omega
  refine⟨by simp only[bL];omega,vX.mk (x.i+1) (jT x.n ⟨0,(x.i:Int)+1,1,cq x.i⟩ b2.b) b2.p,?_⟩
  and_intros<;>first|exact cc|exact I1|exact hm|(intro h_;revert h_)|exact cm|skip
 ·obtain⟨hxN,hI⟩:=hx;have hi:x.i=N:=by have:=of_decide_eq_false c;omega
  have ok:rZ ⟨x.n,x.p,b.r,⟨0,50,2,cq K⟩,none⟩:=hI.is.ok.ask (w:=⟨0,50,2,cq K⟩) hI.is.at_ hring (Aq K) fun _ _=>⟨by rw[tC];omega,by rw[tC];omega⟩
  refine⟨K,rfl,by omega,fun _ _=>⟨⟨x.n,x.p,b.r,⟨0,50,2,cq K⟩,none⟩,?_⟩⟩
  and_intros<;>first|exact cc|exact ok|(intro h_;revert h_)|exact cm|skip
  rintro b2 hat;have e4:∀q,je x.n b.r ⟨0,50,2,cq K⟩ none q=⟨lB x.n (cq K),[],[⟨50,2,cq K,0,va,false⟩]⟩:=fun q=>KI (hI.is.ZG hown) (xL (.inr rfl) (l7 K)) rfl;dsimp only at hat ⊢;rw[e4]at hat ⊢;dsimp only at hat ⊢;have I2:=hI.kill hi hN8 hKN hat;have hkl:(fm (lB x.n (cq K)).rs).length=N:=by
   show(fm x.n.rs).length=N;rw[hI.rs,fm,List.length_map,Bz,hi]
  have hle4:x.n.le=(lB x.n (cq K)).le:=rfl;have hnow4:x.n.now=(lB x.n (cq K)).now:=rfl;generalize lB x.n (cq K)=n4 at *;have hlt:n4.rs.length<1000:=by simp[fm]at hkl;omega
  refine⟨yI.mk n4 b2.p,?_⟩
  and_intros<;>first|exact cc|exact hlt|(intro h_;revert h_)|exact cm|skip
  intro c3 _;dsimp only;rw[hkl];refine⟨fun h=>by simp at h,fun _=>⟨fun h=>absurd ((W9 _).symm.trans h) (by decide),fun _=>⟨lt1 _,YA _,fun _=>⟨rfl,⟨vX.mk 0 n4 b2.p,?_⟩,fun y hy=>⟨fun d=>?_,fun d=>?_⟩⟩⟩⟩⟩
  ·and_intros<;>first|exact cc|exact I2|exact Nat.zero_le _|exact hle4▸rfl|exact hnow4|(intro h_;revert h_)|exact cm|skip
  ·obtain⟨hyN,hJ⟩:=hy;have hj:y.i<N:=by have:=of_decide_eq_true d;omega
   obtain⟨g,ro,step⟩:=hJ.red rfl hN8 hj hown hring;refine⟨mX.mk y.n y.p b.r 0 vB true,?_⟩
   and_intros<;>first|exact cc|exact ro|(intro h_;revert h_)|exact cm|skip
   rintro b4 hat4;have e5:mX.q ⟨y.n,y.p,b.r,0,vB,true⟩=⟨lD y.n b.r 0 vB true,[],[⟨(y.i:Int)+1,1,cq y.i,0,vB,true⟩]⟩:=by
    unfold mX.q UZ;rw[g];rfl
   rw[e5]at hat4 ⊢;have I3:=step _ hat4;have hle5:y.n.le=(lD y.n b.r 0 vB true).le:=rfl;have hnow5:y.n.now=(lD y.n b.r 0 vB true).now:=rfl;generalize lD y.n b.r 0 vB true=n5 at *;have hm:N-(y.i+1)<N-y.i:=by omega
   have hid:gl [(⟨(y.i:Int)+1,1,cq y.i,0,vB,true⟩:Ej)] 0=⟨(y.i:Int)+1,1,cq y.i,0,vB,true⟩:=rfl;dsimp only;rw[hid];refine⟨fun h=>absurd ((W9 _).symm.trans h) (by decide),fun _=>⟨lt1 _,YA _,fun _=>⟨by simp only[bL];omega,fun h=>by simp at h,fun _=>⟨lt1 _,YA _,rfl,by simp only[bL];omega,vX.mk (y.i+1) n5 b4.p,?_⟩⟩⟩⟩
   and_intros<;>first|exact cc|exact I3|exact hm|exact hle5▸rfl|exact hnow5|(intro h_;revert h_)|exact cm|skip
  ·obtain⟨hyN,hJ⟩:=hy;have hj:y.i=N:=by have:=of_decide_eq_false d;omega
   have I4:KN N K ⟨0,y.n,y.p⟩:=by
    obtain⟨⟨ok,at_,hid,hnow,hle,hep⟩,rs,tok⟩:=hJ;rw[hj]at ok rs;refine⟨⟨(ok.wider (by omega)).up (by dsimp only;omega) (by dsimp only;omega),at_,hid,hnow,hle,hep⟩,?_⟩;show y.n.rs.length=if K<0 then 1 else 0;rw[rs,if_neg (by omega),List.length_drop,Bz,Nat.sub_self]
   refine⟨⟨vX.mk 0 y.n y.p,?_⟩,fun z hz=>⟨fun f=>?_,fun f=>?_⟩⟩
   ·and_intros<;>first|exact cc|exact I4|exact Nat.zero_le _|(intro h_;revert h_)|exact cm|skip
   ·obtain⟨hzN,hL⟩:=hz;have hq:z.i<N:=by have:=of_decide_eq_true f;omega
    obtain⟨ok,st⟩:=hL.ask rfl hN8 hq hKN hown hring;refine⟨by simp only[bL];omega,z.i,rfl,by omega,fun _ _=>⟨⟨z.n,z.p,b.r,⟨0,60+(z.i:Int),1,cq z.i⟩,gK K N (cq z.i)⟩,?_⟩⟩
    and_intros<;>first|exact cc|exact ok|(intro h_;revert h_)|exact cm|skip
    rintro b5 hat5;obtain⟨s1,s2⟩:=st b5.b;obtain⟨I5,hle5,hnow5⟩:=s2 _ hat5;dsimp only at hat5 ⊢;generalize je z.n b.r ⟨0,60+(z.i:Int),1,cq z.i⟩ (gK K N (cq z.i)) b5.b=q at *;have hm:N-(z.i+1)<N-z.i:=by omega
    have hres:(!((q.rs.length:Int) == 1) == ((z.i:Int) != (K:Int)))=false:=by
     rw[s1];by_cases e:z.i=K
     ·rw[if_pos e,e];simp
     ·rw[if_neg e];have:¬(z.i:Int)=(K:Int):=by omega
      simp[this]
    refine⟨hres,by simp only[bL];omega,vX.mk (z.i+1) q.n b5.p,?_⟩
    and_intros<;>first|exact cc|exact I5|exact hm|exact hle5▸rfl|exact hnow5.symm|(intro h_;revert h_)|exact cm|skip
   ·obtain⟨hzN,hL⟩:=hz;have hq:z.i=N:=by have:=of_decide_eq_false f;omega
    have hl:z.n.rs.length=1:=by rw[hL.rs,if_pos (by omega)]
    have hlt:z.n.rs.length<1000:=by omega
    have hkl:(fm z.n.rs).length=1:=by simp[fm,hl]
    refine⟨yI.mk z.n z.p,?_⟩
    and_intros<;>first|exact cc|exact hlt|(intro h_;revert h_)|exact cm|skip
    intro _ _;dsimp only;rw[hkl];exact⟨(),rfl,trivial,trivial⟩)
theorem instKil:∀ads,Kj [.int .i64,.int .i64] ads->∃a:vm,Va.pre a/\Va.args a=W1 0 ads/\Va.ro a=MM 0 [.int .i64,.int .i64] ads/\Va.m=HZ ads:=by
 rintro ads ⟨d,r,rfl,⟨n,rfl,hn⟩,d2,r2,rfl,⟨st,rfl,hs⟩,rfl⟩;exact⟨⟨n,st⟩,⟨hn,hs⟩,rfl,rfl,rfl⟩
end Go.Proofs.YtfjgoonelcaggaaGreat
