/-
  
-/
import Derived.Test.YtfjgoonelcaggaaGreatNodeNoneP5
import Derived.Test.YtfjgoonelcaggaaGreatNodeNoneP3
set_option maxRecDepth 100000
set_option maxHeartbeats 4000000
set_option linter.unusedVariables false
set_option linter.unusedSimpArgs false
namespace Go.Proofs.YtfjgoonelcaggaaGreat
open Go.Sx
noncomputable def HX:cF where
 α:=Unit
 β:=Unit
 m:=0
 m':=0
 pre:=fun _=>True
 args:=fun _=>[]
 hp:=fun _=>[]
 ro:=fun _=>[]
 post:=fun _ _=>True
 res:=fun _ _=>.a .tt
 cS:=fun _ _=>[]
noncomputable def Wg:List Pk:=[⟨13,VP 3,[Mj,MC]⟩]
noncomputable def Um:List (Nat×cF):=[(12,AZ),(11,Hy),(15,HE),(16,T8),(17,TW),(25,T4),(19,JR),(50,Rg.TN)]
def kB:ByteArray:=⟨#[107]⟩
def vB:ByteArray:=⟨#[118]⟩
theorem iJ:aj 1 1 (aN 1 [Value.int .i64 1]) (aa Rg.encI [1]):=.dQ fun i hi=>by
 have:i=0:=by omega
 subst this;rfl
def xk(x:UInt8):ByteArray:={ data:=#[x] }
def MM(t f:Int)(z:iV)(u:de)(v:rE)(g:Mi)(h:JW)(i:uT->oN->Prop):uT->Prop:=fun(x:uT)=>ag (t=x.w.id/\f=x.w.op/\xk 107=x.w.key/\Dn z x.p u x.n (CN u.s x.n.s z.p x.p.p (sP v.q.le x.n (uL g).now x.n.now (kV (Aw v h) x.r (vT x/\x.w.node=(0:Int)) (∀y:oN,dX (ew.n (cE x y)) y.p->i x y)))))
def MN(x:de)(y:iV)(z u:Int)(v:rE)(w:Mi)(s:JW)(t:uT->oN->Prop):=dX x y->Exists (MM z u y x v w s fun f g=>t f g)
def MO(z:Nat)(u:Bool)(x:ew)(y v:Int)(w:Prop):=uD z (qA u (af x.rs.length == (1:Int)) (uD x.rs.length (ai y->aG (y == v) w (Exists (bV (aF false))))) (Exists (bV (aF false))))
theorem MP:ye (Y Tryz.prog) Um Wg 14 HX fun _=>[(14,[],[An.A2 1 (.mk 1000 [] [])])]:=ye.of (p :=
 aI (∃B:Int,(400:Int)=B/\cH (∃y:Mi,(1:Int)=y.id/\ax (fV (qy B) y.d ((fun h=>none)=y.H/\(0:Int)=y.now/\((1:Int)<=y.id/\y.id<=(5:Int)/\wU y.d { d:=y.d,H:=y.H })/\∀h:iV,dX (uL y) h->∃v:ET,ag ((1:Int)=v.id/\(1:Int)=v.op/\xk 107=v.key/\ax ((uL y).id=v.n.id/\p5 (uL y) v.n h v.p (bA v.key<=aq) (∀D:Nat,True->∃u:HD,ax (ag (v.n.id=u.n.id/\p5 v.n u.n v.p u.p (0=0) (JU (uL y).le u.n.le ((uL y).now=u.n.now) (w9 (uL y) u.n (u.n.ws=[]/\∀E:Nat,True->∃x:rE,ag (aH 2/\(0:Int)=x.oC/\(1:Int)=x.n.id/\(2:Int)=x.ep/\(0:Int)=x.tick/\cC 0 0 (aH 0) (aR (cV=uN/\aR (bp (cV=uN/\cV=uN/\aR (bp (ag (1=av x.l/\1=x.cap)/\aR (uU h.p.H x.p h.mb (uL y).t x.n u.n (ag (jI (pZ Uq x.n 0 x.p) u.n.rs x.n u.p.rc x.p u.n.asked ((uL y).t.last=x.n.t.last/\iC h.mb x.p.mb/\bB x.n.ws.length 0 7 (aa jm Uq) (aa jm x.n.ws)/\p7 x.n.rs (uL y).rs/\ag ((uL y).le.aS=x.n.le.aS/\(uL y).le.end_=x.n.le.end_/\(uL y).le.top=x.n.le.top/\kz (uL y).s x.n.s h.p x.p.p ((uL y).now=x.n.now/\bB (av x.l) 1 1 (aN 1 (bt 1 [])) (aa Rg.encI x.l)/\N3 x/\∀i:JW,MN x.q i.p 2 1 x y i fun j f=>∃g:EY,ax (eo ((ew.n (cE j f)).id=g.n.id) (p5 (ew.n (cE j f)) g.n f.p g.p (p7 g.n.rs (ew.n (cE j f)).rs) (cD g.n.rs<1000 /\
 ∀F:Nat,True->∃z:p8,ag (aK z.k (xk 118=z.val/\true=z.has/\Dn f.p z.p (ew.n (cE j f)) z.n (CN (ew.n (cE j f)).s z.n.s f.p.p z.p.p (sP x.q.le z.n (uL y).now z.n.now (kV (Aw x i) z.r (N1 z) (∀C:oN,MN z.q.n C.p 3 1 x y i fun e m=>Exists (MM 4 2 m.p (ew.n (cE e m)) x y i fun A o=>aG true (bn 0 1/\0<1/\(ai (gl [PM v] 0).err->qA ((gl [PM v] 0).err == (6:Int)) true (bn 0 1/\0<1/\(ai (gl [sK u.n] 0).kind->N2 ((gl [sK u.n] 0).kind == (1:Int)) (af (ew.rs (cE j f)).length == (0:Int)) (af (aZ (gY g.n.rs)) == (1:Int)) (MO (aZ (gY g.n.rs)) (jF (gl (gY g.n.rs) 0) (xk 107)) z.q (gl z.q.rs 0).id 2 (uD z.q.rs.length (qA (jF (gl z.q.rs 0).val (xk 118)) (af (ew.rs (cE e m)).length == (1:Int)) (MO (ew.rs (cE e m)).length (gl (ew.rs (cE e m)) 0).has (cE A o) (gl (ew.rs (cE A o)) 0).err 0 (∃w:yd,ag (xk 107=w.key/\p6 (ew.n (cE A o)) w.n o.p w.p (0=0) (JU x.q.le w.n.le ((uL y).now=w.n.now) (w9 (ew.n (cE A o)) w.n (kV (Aw x i) w.r (uR w) (aI (aG (fN w.n w.r w.key) (∃c:Rg.NY,ag ((1:Int)=c.n/\kV (Aw x i) c.r (av c.r.l<100000) (aI (Exists (bV (aF (decide (c.n∈c.r.l)))))))) (Exists (bV (aF false))))))))))) (Exists (bV (aF false)))))) (Exists (bV (aF false))))) (Exists (bV (aF false))))) (Exists (bV (aF false))))))))))))))))))))))))))))))))))))))) (by kernel_rfl) (by
 delta qA aG p5 av bB cC ai bt bR gO cE aH iC cn af aZ bO bA cV lT uM cD aF dL bn bP eo cQ pZ JU qt bW Dm gp aI N2 Aw bV cq bp cG kV Dn ay uH MN p7 aK xk aR uR jI MO ag uU sP wU w9 bg w8 ax MM p6 cH iH sM uD jF kz
 try dsimp -iota -proj only
 intro _ _;have hkB:dM kB=true:=by decide
 have hks:kB.size<=aq:=by decide
 obtain⟨mpre,hok0⟩:=mJ.make (id:=1) (now:=0) (d:=qy 400) (by omega) (by omega) (by decide) rfl (fun _=>none);refine⟨400,rfl,trivial,fun _ _=>⟨Mi.mk 1 0 (qy 400) fun _=>none,?_⟩⟩
 and_intros<;>first|exact cz|exact mpre.1|exact mpre.2.1|exact mpre.2.2.1|exact mpre.2.2.2.1|exact mpre.2.2.2.2.1|exact mpre.2.2.2.2.2|(intro h_;revert h_)|exact cA|skip
 obtain⟨n0,hn0⟩:∃n0,n0=uL ⟨1,0,qy 400,fun _=>none⟩:=⟨_,rfl⟩
 rw[<- hn0]at hok0 ⊢;have hw0:n0.ws=[]:=by rw[hn0];rfl
 have hr0:n0.rs=[]:=by rw[hn0];rfl
 have hi0:n0.id=1:=by rw[hn0];rfl
 have hnow0:n0.now=0:=by rw[hn0];rfl
 have he0:n0.s.k.m.aS=0:=by
  have:=(AO (d:=qy 400) (c:=0) (by decide) (Nat.le_refl 0) (by omega) (fun _=>none)).2.2.1;rw[hn0];show(ku (ry ⟨qy 400,fun _=>none⟩)).k.m.aS=0;rw[this]
 intro b hat0;refine⟨ET.mk n0 b 1 1 kB,?_⟩
 and_intros<;>first|exact cz|exact hks|(intro h_;revert h_)|exact cA|skip
 intro c1 _;refine⟨HD.mk n0 b,?_⟩
 and_intros<;>first|exact cz|exact hw0|(intro h_;revert h_)|exact cA|skip
 intro c2 _;obtain⟨n1,hn1⟩:∃n1,n1={ n0 with ws:=Uq }:=⟨_,rfl⟩
 have e1:n1=n0:=by rw[hn1];cases n0;simp only at hw0;subst hw0;rfl
 have hok1:mJ n1 0 (fun _=>none) 0 0:=by rw[e1];exact hok0
 have hat1:dX n1 { b with wc:=0 }:=by rw[hn1];exact⟨hat0.st,hat0.tok,hat0.sep,Nat.le_refl 0,hat0.rc⟩
 have hi1:n1.id=1:=by rw[e1];exact hi0
 have hnow1:n1.now=0:=by rw[e1];exact hnow0
 obtain⟨gr0,hok2,hep2⟩:=hok1.gr hat1 (oC:=0) (ep:=2) (tick:=0) (l:=[1]) (cap:=1) (by rw[hi1];omega) (by rw[e1,he0];omega) (by omega) (by decide) (by rw[e1];exact hw0) (by omega) (by omega);have hrw:aj n1.ws.length 7 (aa jm Uq) (aa jm n1.ws):=by rw[e1,hw0];exact aj.refl _ _ _
 have hwl:Uq.length=n1.ws.length/\n1.ws.length<=0:=by rw[e1,hw0];exact⟨rfl,Nat.le_refl 0⟩
 have hwz:n1.ws.length=0:=hwl.1.symm;refine⟨rE.mk n1 { b with wc:=0 } 0 2 0 [1] 1,?_⟩;rw[<- e1]
 and_intros<;>first|exact cz|exact gr0|exact iJ|exact hrw|exact hwl.1|exact hwl.2|exact hi1.symm|exact Nat.le_refl 1|(intro h_;revert h_)|exact cA|skip
 rintro⟨p2,rc1,rc2⟩ hat2;obtain⟨n2,hn2⟩:∃n2,n2=T7 n1 2 0:=⟨_,rfl⟩
 have eq2:rE.q ⟨n1,{ b with wc:=0 },0,2,0,[1],1⟩=n2:=hn2.symm;have hsv2:E4 (T7 n1 2 0) (s8 2 [n1.id] rc1 rc2):=E4.gr hok1.id (by omega) (by omega) (by omega) (by omega) hep2;rw[hi1]at hsv2;have hr2:n2.rs=[]:=by rw[hn2];show n1.rs=[];rw[e1];exact hr0
 have hnow2:n1.now=n2.now:=by rw[hn2];rfl
 have hnz2:n2.now=0:=by rw[<- hnow2];exact hnow1
 rw[eq2]at hat2 ⊢;rw[<- hn2]at hsv2 hok2;have hrg:(s8 2 [1] rc1 rc2).L.length<100000/\0<(s8 2 [1] rc1 rc2).L.length:=VL (by omega);have hrl:(s8 2 [1] rc1 rc2).l=[1]:=rfl;dsimp only;generalize s8 2 [1] rc1 rc2=r at *;have ok3:vT ⟨n2,p2,r,⟨0,2,1,kB⟩,none⟩:=hok2.ask hat2 hrg hks fun h=>absurd h (by decide);refine⟨⟨n2,p2,r,⟨0,2,1,kB⟩,none⟩,?_⟩
 and_intros<;>first|exact cz|exact ok3|exact hnow2|(intro h_;revert h_)|exact cA|skip
 rintro b3 hat3;have e3:∀b,kW n2 r ⟨0,2,1,kB⟩ none b=⟨lU n2 ⟨0,2,1,kB⟩ b,[],[]⟩:=fun b=>Ue hsv2 (MK (.inl rfl) hkB) rfl rfl;dsimp only at hat3 ⊢;rw[e3]at hat3 ⊢;have hok3:mJ (lU n2 ⟨0,2,1,kB⟩ b3.b) 2 (fun _=>none) 9 0:=hok2.read (w:=⟨0,2,1,kB⟩) hkB (by omega);have hg3:gl (lU n2 ⟨0,2,1,kB⟩ b3.b).rs 0=⟨⟨0,2,1,kB⟩,n2.t.last+1⟩:=by
  show gl (n2.rs++[_]) 0=_;rw[hr2];rfl
 have hl3:(lU n2 ⟨0,2,1,kB⟩ b3.b).rs.length=1:=by
  show(n2.rs++[_]).length=1;rw[hr2];rfl
 have hsv3:E4 (lU n2 ⟨0,2,1,kB⟩ b3.b) r:=hsv2.same rfl rfl rfl rfl;have hf3:=Ui hat2 hsv2 ⟨0,2,1,kB⟩ b3.b (v:=vB) (by decide);have hle3:(lU n2 ⟨0,2,1,kB⟩ b3.b).le=n2.le:=rfl;have hnow3:n1.now=(lU n2 ⟨0,2,1,kB⟩ b3.b).now:=hnow2;have hkey3:(gl (gY (lU n2 ⟨0,2,1,kB⟩ b3.b).rs) 0)=kB:=by
  show gl (gY (n2.rs++[_])) 0=_;rw[hr2];rfl
 generalize lU n2 ⟨0,2,1,kB⟩ b3.b=n3 at *;dsimp only at hat3 ⊢;have hlt3:n3.rs.length<1000:=by omega
 refine⟨EY.mk n3 b3.p,?_⟩
 and_intros<;>first|exact cz|exact hlt3|(intro h_;revert h_)|exact cA|skip
 intro c4 _;obtain⟨ro3,hok4,hk4⟩:=hok3.red hat3 hrg (i:=0) (val:=vB) (has:=true) (by omega) (by decide) (by rw[hg3];show 9+(kB.size+vB.size+13)<=378;decide) (by omega);rw[hg3,if_pos hf3]at hok4;refine⟨p8.mk n3 b3.p r 0 vB true,?_⟩
 and_intros<;>first|exact cz|exact ro3|exact hle3.symm▸rfl|exact hnow3|(intro h_;revert h_)|exact cA|skip
 rintro b5 hat5;have e5:p8.q ⟨n3,b3.p,r,0,vB,true⟩=⟨qu n3 r 0 vB true,[],[⟨2,1,kB,0,vB,true⟩]⟩:=by
  unfold p8.q VJ;rw[hg3];rfl
 rw[e5]at hat5 ⊢;have hsv5:E4 (qu n3 r 0 vB true) r:=hsv3.same rfl rfl rfl (by rw[hk4]);have hle5:n2.le=(qu n3 r 0 vB true).le:=hle3.symm;have hnow5:n1.now=(qu n3 r 0 vB true).now:=hnow3;generalize qu n3 r 0 vB true=n5 at *;dsimp only at hat5 ⊢;have hget:AJ (fun _=>none) kB (some (gZ ⟨⟨0,2,1,kB⟩,n2.t.last+1⟩ vB)) kB=some (gZ ⟨⟨0,2,1,kB⟩,n2.t.last+1⟩ vB):=if_pos rfl;have ok5:vT ⟨n5,b5.p,r,⟨0,3,1,kB⟩,some (gZ ⟨⟨0,2,1,kB⟩,n2.t.last+1⟩ vB)⟩:=by
  have:=hok4.ask (w:=⟨0,3,1,kB⟩) hat5 hrg hks fun h=>absurd h (by decide);dsimp only[ij]at this;exact hget▸this
 refine⟨⟨n5,b5.p,r,⟨0,3,1,kB⟩,some (gZ ⟨⟨0,2,1,kB⟩,n2.t.last+1⟩ vB)⟩,?_⟩
 and_intros<;>first|exact cz|exact ok5|exact hle5▸rfl|exact hnow5|(intro h_;revert h_)|exact cA|skip
 rintro b6 hat6;have e6:∀b,kW n5 r ⟨0,3,1,kB⟩ (some (gZ ⟨⟨0,2,1,kB⟩,n2.t.last+1⟩ vB)) b=⟨n5,[],[⟨3,1,kB,0,vB,true⟩]⟩:=fun b=>VM hsv5 (MK (.inl rfl) hkB) rfl (Ug _ hkB (by decide));dsimp only at hat6 ⊢;rw[e6]at hat6 ⊢;dsimp only at hat6 ⊢;have ok6:vT ⟨n5,b6.p,r,⟨0,4,2,kB⟩,some (gZ ⟨⟨0,2,1,kB⟩,n2.t.last+1⟩ vB)⟩:=by
  have:=hok4.ask (w:=⟨0,4,2,kB⟩) hat6 hrg hks fun _ _=>⟨by show 9+(kB.size+vB.size+13)+(kB.size+13)<=378;decide,by show 0+(kB.size+9)<=378;decide⟩
  dsimp only[ij]at this;exact hget▸this
 obtain⟨hok7,hk7⟩:=hok4.kill (key:=kB) hkB (by show 9+(kB.size+vB.size+13)+(kB.size+13)<=378;decide) (by decide) (by omega);refine⟨⟨n5,b6.p,r,⟨0,4,2,kB⟩,some (gZ ⟨⟨0,2,1,kB⟩,n2.t.last+1⟩ vB)⟩,?_⟩
 and_intros<;>first|exact cz|exact ok6|exact hle5▸rfl|exact hnow5|(intro h_;revert h_)|exact cA|skip
 rintro b7 hat7;have e7:∀b,kW n5 r ⟨0,4,2,kB⟩ (some (gZ ⟨⟨0,2,1,kB⟩,n2.t.last+1⟩ vB)) b=⟨rC n5 kB,[],[⟨4,2,kB,0,uN,false⟩]⟩:=fun b=>Uf hsv5 (MK (.inr rfl) hkB) rfl;dsimp only at hat7 ⊢;rw[e7]at hat7 ⊢;have hsv7:E4 (rC n5 kB) r:=hsv5.same rfl rfl rfl (by rw[hk7]);have hle7:n2.le=(rC n5 kB).le:=hle5;have hnow7:n1.now=(rC n5 kB).now:=hnow5;generalize rC n5 kB=n7 at *;dsimp only at hat7 ⊢;have q1:((gl [PM ⟨n0,b,1,1,kB⟩] 0).err == 6)=true:=by show(zJ 1 kB 6 == 6)=true;decide
 have q2:(((gY n3.rs).length:Int) == 1)=true:=by
  have:(gY n3.rs).length=n3.rs.length:=by simp[gY]
  rw[this,hl3];rfl
 have q3:decide (gl (gY n3.rs) 0=kB)=true:=decide_eq_true hkey3;have hkl:(gY n3.rs).length=1:=by simp[gY,hl3]
 have q0:((gl [sK n0] 0).kind == 1)=true:=rfl;have q4:((gl [(⟨4,2,kB,0,uN,false⟩:AL)] 0).err == 0)=true:=rfl;have q5:(gl [(⟨3,1,kB,0,vB,true⟩:AL)] 0).has=true:=rfl;have q6:decide ((gl [(⟨2,1,kB,0,vB,true⟩:AL)] 0).val=vB)=true:=decide_eq_true rfl;have q7:((gl [(⟨2,1,kB,0,vB,true⟩:AL)] 0).id == 2)=true:=rfl;refine⟨fun _=>⟨⟨by decide,by decide⟩,by decide,fun _=>⟨fun _=>⟨fun _=>⟨⟨by decide,by decide⟩,by decide,fun _=>⟨fun _=>⟨fun _=>⟨fun _=>⟨⟨by omega,by rw[hkl];decide⟩,by rw[hkl];decide,fun _=>⟨fun _=>⟨⟨by decide,by decide⟩,by decide,fun _=>⟨fun _=>⟨⟨by decide,by decide⟩,by decide,fun _=>⟨fun _=>⟨⟨by decide,by decide⟩,by decide,fun _=>⟨fun _=>⟨⟨by decide,by decide⟩,by decide,fun _=>⟨fun _=>⟨yd.mk n7 b7.p r kB,?_⟩,fun c=>absurd (q4.symm.trans c) (by decide)⟩⟩,fun c=>absurd c (by decide)⟩,fun c=>absurd (q5.symm.trans c) (by decide)⟩,fun c=>absurd c (by decide)⟩,fun c=>absurd (q6.symm.trans c) (by decide)⟩,fun c=>absurd (q7.symm.trans c) (by decide)⟩⟩,fun c=>absurd c (by decide)⟩,fun c=>absurd (q3.symm.trans c) (by decide)⟩,fun c=>absurd (q2.symm.trans c) (by decide)⟩,fun c=>absurd c (by decide)⟩,fun c=>absurd (q0.symm.trans c) (by decide)⟩⟩,fun c=>absurd c (by decide)⟩,fun c=>absurd (q1.symm.trans c) (by decide)⟩⟩,fun c=>absurd c (by decide)⟩;have hfz:=hok7.met.2.1
 and_intros<;>first|exact cz|exact hrg.1|exact hrg.2|exact hks|exact hfz|exact hle7▸rfl|exact hnow7|(intro h_;revert h_)|exact cA|skip
 intro _ _;refine⟨fun _=>⟨Rg.NY.mk r 1,?_⟩,fun c=>absurd ((hsv7 kB).symm.trans c) (by decide)⟩;have hrl2:r.l.length<100000:=by rw[hrl];decide
 have hin:decide ((1:Int)∈r.l)=true:=by rw[hrl];decide
 and_intros<;>first|exact cz|exact hrl2|(intro h_;revert h_)|exact cA|skip
 intro _ _;refine⟨(),?_⟩
 and_intros<;>first|exact cz|exact hin|(intro h_;revert h_)|exact cA|skip)
theorem MQ:ak (Y Tryz.prog).G.X 14 HX:=Xw fF (iW:=Um) ⟨BW,PL,Mo,Ua,TY,T6,Dh,Rg.TP,trivial⟩ (pk:=Wg) ⟨⟨PO,P9,trivial⟩,trivial⟩ MP
noncomputable def JY:cF where
 α:=Unit
 β:=Unit
 m:=0
 m':=0
 pre:=fun _=>True
 args:=fun _=>[]
 hp:=fun _=>[]
 ro:=fun _=>[]
 post:=fun _ _=>True
 res:=fun _ _=>.a .tt
 cS:=fun _ _=>[]
noncomputable def N4:List (Nat×cF):=[(14,HX),(12,AZ)]
theorem MR:tL (Y Tryz.prog).G.X N4:=⟨MQ,BW,trivial⟩
theorem Un:fnBody (Y Tryz.prog) N4 3 JY fun _=>[]:=fnBody.of (p :=
 aI (∃x:Int,(400:Int)=x/\cH (∃y:Int,(400:Int)=y/\cH (Exists (ay (cH (Exists (ay (bO true (True/\True)))))))))) (by kernel_rfl) (by
 delta bO aI ay cH
 exact fun _ _=>⟨400,rfl,trivial,fun _ _=>⟨400,rfl,trivial,fun _ _=>⟨(),trivial,fun _ _=>⟨(),rfl,trivial,trivial⟩⟩⟩⟩)
theorem instNonN:∀ads,Jy [] ads->∃a:Unit,JY.pre a/\JY.args a=V7 0 ads/\JY.ro a=L3 0 [] ads/\JY.m=Ht ads:=by
 rintro ads rfl;exact⟨(),trivial,rfl,rfl,rfl⟩
end Go.Proofs.YtfjgoonelcaggaaGreat
