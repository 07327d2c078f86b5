/-
  
-/
import Derived.Test.YtfjgoonelcaggaaGreatNodeKillsP3
import Derived.Test.YtfjgoonelcaggaaGreatNodeKillsP2
import Derived.Shelf.Sort.Plain
import Derived.Shelf.Slices.In.SortNone
import Derived.Test.YtfjgoonelcaggaaGreatProg
import Derived.Sort.Grow
set_option maxRecDepth 100000
set_option maxHeartbeats 4000000
set_option linter.unusedVariables false
set_option linter.unusedSimpArgs false
namespace Go.Proofs.YtfjgoonelcaggaaGreat
open Go.Sx
def pJ(from_ au:Nat)(d:bw):Nat->bP
 |0=>⟨from_,au,[],1,1,true⟩
 |k+1=>{ pJ from_ au d k with l:=(pJ from_ au d k).l++(nh (pJ from_ au d k) d k).toList,run:=(kL (pJ from_ au d k) d k 8).run }
def G3(l:List dx):Int:=match l.getLast? with
 |none=>1
 |some g=>match g.aR.getLast? with
  |none=>g.base+64
  |some r=>r.pos+65
def cN(from_ au:Nat)(d:bw):bP:={ pJ from_ au d au with next:=G3 (pJ from_ au d au).l }
structure rj(from_ au:Nat)(d:bw):Prop where
 ye:3<=au/\au<=200
 room:from_+au*8<=d.n
 size:d.n<100000
 rd:∀k,k<au->S0 (pJ from_ au d k) d k
 one:(pJ from_ au d au).l.length<=1
 A4:∀i,i<(pJ from_ au d au).l.length->1<=(gl (pJ from_ au d au).l i).gen/\0<=(gl (pJ from_ au d au).l i).base/\(gl (pJ from_ au d au).l i).base<100000000000 /\
  ∀j,j<(gl (pJ from_ au d au).l i).aR.length->0<=(gl (gl (pJ from_ au d au).l i).aR j).pos/\(gl (gl (pJ from_ au d au).l i).aR j).pos<100000000000
theorem JR(from_ au:Nat)(d:bw):∀k,(pJ from_ au d k).from_=from_/\(pJ from_ au d k).au=au/\(pJ from_ au d k).next=1/\(pJ from_ au d k).fresh=true
 |0=>⟨rfl,rfl,rfl,rfl⟩
 |k+1=>JR from_ au d k
theorem Oa{from_ au:Nat}{d:bw}(h:rj from_ au d):∀k,k<=au->0<=(pJ from_ au d k).run/\(pJ from_ au d k).run<200000000000
 |0,_=>⟨by simp[pJ],by simp[pJ]⟩
 |k+1,hk=>(CJ (h.rd k (by omega)) (Oa h k (by omega)) 8 (Nat.le_refl _)).run
structure IS where
 H:PH
 d:bw
 from_:Nat
 au:Nat
structure V6 where
 k:Nat
 H:PH
 y:gP
noncomputable def G4:cD where
 α:=IS
 β:=mE
 m:=3
 m':=5
 pre:=fun a=>rj a.from_ a.au a.d
 args:=fun a=>[.a (.ptr 0 0 0 0),.a (.int .i64 a.from_),.a (.int .i64 a.au)]
 hp:=fun a=>[(2,.cu a.H)]
 ro:=fun a=>gA 0 1 a.d
 post:=fun a b=>bT b.H b.y (cN a.from_ a.au a.d)/\∀x,a.H x≠none->b.H x=a.H x/\x∉br b.y
 res:=fun a _=>.l8 [.a (.ptr 3 0 0 0),.a (.lit .i64 0)]
 cT:=fun a b=>[(3,fo 0 (cN a.from_ a.au a.d) b.y.lv),(4,.cu b.H)]
def XL(a:IS):An:=.flat 7 V6 (fun s x=>S.cu ((s.at_ (s.tg 8) (fo (s.fh (s.tg 8) 0) (pJ a.from_ a.au a.d x.k) x.y.lv)).int 43 x.k) x.H)
 (fun _ x=>x.k<=a.au/\bT x.H x.y (pJ a.from_ a.au a.d x.k)/\∀z,a.H z≠none->x.H z=a.H z/\z∉br x.y) (fun _ x=>a.au-x.k)
def sW(x:IS)(y:V6):bP:=pJ x.from_ x.au x.d y.k
def G5(x:V6)(u:IS):=bT x.H x.y (sW u x)/\∀z:Nat,oN (u.H z) (x.H z) (br x.y) z
def Mc(x:IS)(u:PH)(z:V6)(v w:Nat)(s:Value)(t f:Int)(g:Bool)(h:Prop):=bh x.au/\ag (bB (aQ (aa x.d.n-aa x.au*(8:Int)) (aa x.from_))/\cH (aW (ax (cz (aa x.from_) (aa x.au) (u=z.H) (ag (Cz v (sW x z) w s z.y t f g (bh x.au/\iR x.d x.d h)))))))
def Md(z:V6)(u:IS)(v:PH)(x:rS)(w:Value):=aP z.k (∃y:V6,aY z.k=aa y.k/\Mc u v y x.L.from_ x.L.au w x.L.next (kL x.L x.d x.k 8).run x.L.fresh (dP y.k u.au (G5 y u) z.k))
def xm(x:mE)(z:IS):=bT x.H x.y (cN z.from_ z.au z.d)/\∀u:Nat,oN (z.H u) (x.H u) (br x.y) u
def Me(x:IS)(z:V6)(v:wk)(w:Int):mE->Prop:=fun(u:mE)=>dY (aG 0) (Cz (bP.from_ (sW x z)) (cN x.from_ x.au x.d) (bP.au (sW x z)) v.y.lv u.y (w+(64:Int)) (bP.run (sW x z)) (bP.fresh (sW x z)) (z.H=u.H/\xm u x/\True))
theorem PO:fnBody (Y Tryz.prog) [(205,L6),(206,L7),(208,vG)] 175 G4 fun a=>[(175,[XL a],[])]:=fnBody.of (p :=
 ∀x:IS,rj x.from_ x.au x.d->ah (aa x.au)->aA (aa x.au) 3 (∃A:mE,False) (ah (aa x.au)->gC (aQ 200 (aa x.au)) (∃B:mE,False) (aQ (aa x.from_) 0) (ah (aa x.au)->ah (aa x.au*(8:Int))/\ah (aa x.d.n-aa x.au*(8:Int))/\aA (aa x.d.n-aa x.au*(8:Int)) (aa x.from_) (∃C:mE,False) (ah (aa x.au)->ah (aa x.au)->(∃z:V6,aC z.k (Mc x x.H z x.from_ x.au gd 1 1 true ((z.k<=x.au/\G5 z x)/\True)))/\∀z:V6,z.k<=x.au/\G5 z x->aA (aa z.k) (aa x.au) (∃u:rS,dY (bq z.k u.k) (qW (sW x z) u.L z.y.lv u.lv (z.H=u.H/\iR x.d u.d (G0 u/\∀w:JO,CL u.H w (nh u.L u.d u.k)->(∃t:Option Go.Addr,w.v=Value.pointer t)/\aO (bx (I9 w.v)) (Exists (GJ w.H u.lv w.v fun t h j f i=>Md z x (aM (aJ w.H u.lv) j f i) u (eM j f (t+1) h))) (Md z x w.H u u.lv))))) (∃u:JQ,z.y.lv=u.v/\CM u.v u.n/\aI (wZ z.y.lv (wY z.y (fun w=>z.H w) fun w l=>∃t:wk,z.y.lv=t.y.lv/\ax (aS l w=pv t.gb 0/\aa x.au=t.s/\z.H=t.H/\xl t/\aI (iw (aS l w) 1 (fun h=>z.H h) fun h j=>ah (jD (aS j h)+(64:Int))/\ga (aS l w) 4 (fun f=>z.H f) fun f i=>wZ (aS i f) (ga (aS l w) 4 (fun o=>z.H o) fun o r=>ah (aa (di (aS i f))-(1:Int))/\iM (aS r o) (aa (di (aS i f))-(1:Int)) fun c e=>∃p q:Nat,pv c (e+aX (aa (di (aS i f))-(1:Int))*2)=pv p q /\
 Exists (mF p q 0 (fun g=>z.H g) (fun g=>Exists (jj g)) (fun g m=>True) fun g m=>ah (jD (aS m g))->nB (jD (aS m g)+(1:Int)) 64 (Exists (Me x z t (jD (aS m g)+(1:Int)))))) (Exists (Me x z t (jD (aS j h))))))) (∃w:mE,dY (aG 0) (qW (sW x z) (cN x.from_ x.au x.d) z.y.lv w.y.lv (z.H=w.H/\xm w x/\True))))))))) (by kernel_rfl) (by
 delta aO aS cz kr ah bu bW aG gF bB aQ aY aa kq mF dP bH bg aD dO aX dY bM gC fD aI cH bz gO gu Cz iw xl gd wY jG Md xm iM aC aW ag aA sW nB ga oN GJ aP bh G0 iN bq ax Me G5 bx iy Mc jj jF wZ
 try dsimp -iota -proj only
 rintro⟨H,d,fr,sg⟩ ok;dsimp only at *;have ok:rj fr sg d:=ok;obtain⟨s1,s2⟩:=ok.ye;have s3:=ok.room;have s4:=ok.size;refine fun _=>⟨fun c=>by exfalso;have:=of_decide_eq_true c;omega,fun _ _=>⟨fun c=>by exfalso;have:=of_decide_eq_true c;omega,fun _=>⟨fun c=>by exfalso;have:=of_decide_eq_true c;omega,fun _ _=>⟨by simp only[bL];omega,by simp only[bL];omega,fun c=>by exfalso;have:=of_decide_eq_true c;omega,fun _ _ _=>⟨⟨⟨0,H,⟨.slice none 0 0,[]⟩⟩,?_⟩,?_⟩⟩⟩⟩⟩
 ·have h0:bT H ⟨.slice none 0 0,[]⟩ (pJ fr sg d 0):=⟨⟨0,.inl ⟨rfl,rfl,rfl⟩⟩,rfl,fun i hi=>absurd hi (Nat.not_lt_zero i),by simp[fC]⟩
  have h1:∀z,H z≠none->H z=H z/\¬z∈br ⟨.slice none 0 0,[]⟩:=fun z _=>⟨rfl,by simp[br,fC]⟩
  and_intros<;>first|exact cV|exact h0|exact h1|rfl|exact fun _ _=>⟨trivial,by simp[br,fC]⟩
 ·rintro⟨k,X,Y⟩ ⟨hk,hX,hfr⟩;dsimp only at *;obtain⟨e1,_,⟨ea,ec,e2⟩,e3,e5⟩:=hX.qX;obtain⟨m1,m2,m3,m4⟩:=JR fr sg d k;refine⟨fun c1=>?_,fun c1=>?_⟩
  ·have hk':k<sg:=by have:=of_decide_eq_true c1;omega
   have hrd:=ok.rd k hk';obtain⟨hr1,hr2⟩:=Oa ok k (by omega);have hstep:pJ fr sg d (k+1)={ pJ fr sg d k with l:=(pJ fr sg d k).l++(nh (pJ fr sg d k) d k).toList,run:=(kL (pJ fr sg d k) d k 8).run }:=rfl;obtain⟨L,hL⟩:∃L,L=pJ fr sg d k:=⟨_,rfl⟩
   rw[<- hL]at hX e1 e2 e3 m1 m2 m3 m4 hrd hr1 hr2 hstep ⊢;refine⟨rS.mk X L Y.lv d k,?_⟩
   and_intros<;>first|exact cV|exact hrd|(dsimp only;omega)|skip
   rintro⟨X1,sl,v⟩ hpost;dsimp only at hpost ⊢;cases hseg:nh L d k with
   |none =>
    rw[hseg]at hpost;obtain⟨hv,hf⟩:=hpost;dsimp only at hv hf;subst hv;have hX1:bT X1 Y (pJ fr sg d (k+1)):=(hX.frame fun x hx=>hf x (hX.dom x hx)).congr (by rw[hstep,hseg];simp);have hz:∀z,H z≠none->X1 z=H z/\¬z∈br Y:=fun z hz=>by
     obtain⟨a1,a2⟩:=hfr z hz;exact⟨(hf z (by rw[a1];exact hz)).trans a1,a2⟩
    refine⟨⟨_,rfl⟩,fun c=>absurd c (by decide),fun _=>⟨by simp only[bL];omega,⟨k+1,X1,Y⟩,?_⟩⟩
    and_intros<;>first|exact cV|exact hX1|exact hz|(rw[hstep];done)|rfl|skip
   |some g =>
    rw[hseg]at hpost;obtain⟨hv,hs,hf⟩:=hpost;dsimp only at hv hs hf;subst hv;have hXf:bT X1 Y L:=hX.frame fun x hx=>(hf x (hX.dom x hx)).1;refine⟨⟨_,rfl⟩,fun _=>?_,fun c=>absurd c (show ¬(true=false)by decide)⟩;obtain⟨c0,hsl⟩:=hXf.IQ;refine⟨_,c0,_,hsl,?_⟩;have hone:L.l.length<=100000:=by
     have:=ok.ye;have:∀j,(pJ fr sg d j).l.length<=j:=fun j=>by
      induction j with
      |zero=>exact Nat.le_refl _
      |succ j ih =>
       show((pJ fr sg d j).l++(nh (pJ fr sg d j) d j).toList).length<=_;rw[List.length_append];have:(nh (pJ fr sg d j) d j).toList.length<=1:=by cases nh (pJ fr sg d j) d j<;>simp
       omega
     have:=this k;rw[<- hL]at this;omega
    repeat refine kO ?_
    intro cap q1 q2 q3
    repeat refine kO ?_
    intro p1 lo1 cs1 hp1 hl1 hr1;have hpush:=GG (lo:=lo1) (L':=pJ fr sg d (k+1)) hXf hs (fun x hx=>(hf x (hX.dom x hx)).2) hp1 hl1 q1 q2 hr1 (by
     intro i hi;simp only[Nat.zero_add,aZ,zm];rw[kA (by rw[hX.len];exact hi),hX.len];by_cases hin:i<L.l.length
     ·rw[if_pos hin,if_pos hin]
     ·rw[if_neg hin,if_neg hin,show i-L.l.length=0 by omega];rfl) (by rw[hstep,hseg];rfl)
    have hz:∀z,H z≠none->aM (aJ X1 Y.lv) p1 lo1 cs1 z=H z/\¬z∈br ⟨eM p1 lo1 (L.l.length+1) cap,Y.ys++[sl]⟩:=fun z hz=>by
     obtain⟨a1,a2⟩:=hfr z hz;obtain⟨b1,b2⟩:=hf z (by rw[a1];exact hz);obtain⟨c1,c2⟩:=hpush.2 z (by rw[b1,a1];exact hz) a2 b2;exact⟨c1.trans (b1.trans a1),c2⟩
    refine⟨by simp only[bL];omega,⟨k+1,aM (aJ X1 Y.lv) p1 lo1 cs1,⟨eM p1 lo1 (L.l.length+1) cap,Y.ys++[sl]⟩⟩,?_⟩
    and_intros<;>first|exact cV|exact hpush.1|exact hz|(rw[hstep];done)|rfl|skip
  ·have hk':k=sg:=by have:=of_decide_eq_false c1;omega
   subst hk';have hone:=ok.one;have hrng:=ok.A4;have hM:(cN fr k d).l=(pJ fr k d k).l:=rfl;have hM2:(cN fr k d).next=G3 (pJ fr k d k).l:=rfl
   have hM3:(cN fr k d).from_=fr/\(cN fr k d).au=k/\(cN fr k d).run=(pJ fr k d k).run/\(cN fr k d).fresh=true:=⟨m1,m2,rfl,m4⟩
   obtain⟨L,hL⟩:∃L,L=pJ fr k d k:=⟨_,rfl⟩
   rw[<- hL]at hX e1 e2 e3 m1 m2 m3 m4 hone hrng hM hM2 hM3 ⊢;obtain⟨M,hMM⟩:∃M,M=cN fr k d:=⟨_,rfl⟩
   rw[<- hMM]at hM hM2 hM3 ⊢;obtain⟨n1,n2,n3,n4⟩:=hM3;have hXM:bT X Y M:=hX.congr hM;refine⟨JQ.mk Y.lv L.l.length,rfl,⟨hone,⟨ea,ec,e2⟩,e5⟩,fun _ _=>⟨⟨ea,_,ec,e2,e3⟩,fun c2=>?_,fun c2=>⟨⟨X,Y⟩,?_⟩⟩⟩
   ·rw[e1]at c2;have hn:0<L.l.length:=by have:=of_decide_eq_true c2;omega
    have hk1:L.l.length-1<L.l.length:=by omega
    obtain⟨b,lo,o,c,cs,g1,g2,g3,g4⟩:=hX.at_ hk1;have hs:=hX.seg _ hk1;obtain⟨r1,r2,r3⟩:=hs.A4;obtain⟨u1,u2,u3,u4⟩:=hrng _ hk1;have hlast:L.l.getLast? = some (gl L.l (L.l.length-1)):=by rw[bR hk1,List.getLast?_eq_getElem?,List.getElem?_eq_getElem hk1]
    have hall:∀i,i<L.l.length->(gl L.l (L.l.length-1)).gen-(k:Int)<(gl L.l i).gen:=fun i hi=>by
     have:i=L.l.length-1:=by omega
     rw[this];omega
    obtain⟨sl,hsl⟩:∃sl,sl=gl Y.ys (L.l.length-1):=⟨_,rfl⟩
    obtain⟨g,hg⟩:∃g,g=gl L.l (L.l.length-1):=⟨_,rfl⟩
    rw[<- hg]at hs r1 r2 r3 u1 u2 u3 u4 hlast hall;rw[<- hsl]at g3 g4 hs;have e6:((L.l.length:Int)-1).toNat=L.l.length-1:=by omega
    rw[e1];refine⟨by simp only[bL];omega,_,_,_,_,g1,by omega,b,lo,o+(L.l.length-1)*1,cs,by rw[e6,Nat.add_assoc],g2,⟨⟨_,g3,rfl⟩,trivial⟩,wk.mk X Y L sl.b g.gen k,?_⟩
    and_intros<;>first|exact cV|exact g4|exact hX|exact r1.1|exact r1.2|exact hall|exact⟨_,hs.cell⟩|(dsimp only;omega)|skip
    intro _ _;obtain⟨c9,hrec⟩:=hs.aR;obtain⟨w1,w2,w3,w4,w5,⟨wa,w7⟩,w6⟩:=eU hrec;refine⟨_,_,g4,?_⟩;refine⟨_,_,rfl,?_⟩;refine⟨_,0,_,_,rfl,hs.cell,?_⟩;refine⟨⟨⟨_,rfl,_,rfl,r2⟩,trivial⟩,fun _=>?_⟩;simp only[show jD ((cU g sl.bv sl.rv).getD 1 (Value.tuple #[]))=g.base from rfl];refine⟨by simp only[bL];omega,_,_,g4,?_⟩;refine⟨_,_,rfl,?_⟩;refine⟨_,0,_,_,rfl,hs.cell,?_⟩;refine⟨⟨⟨_,rfl,w6⟩,trivial⟩,⟨wa,_,_,w7,by omega⟩,?_⟩;simp only[show(cU g sl.bv sl.rv).getD 4 (Value.tuple #[])=sl.rv from rfl,w1];refine⟨fun c3=>?_,fun c3=>⟨⟨X,Y⟩,?_⟩⟩
    ·have hq:0<g.aR.length:=by have:=of_decide_eq_true c3;omega
     have hq1:g.aR.length-1<g.aR.length:=by omega
     have hrl:g.aR.getLast? = some (gl g.aR (g.aR.length-1)):=by rw[bR hq1,List.getLast?_eq_getElem?,List.getElem?_eq_getElem hq1]
     have hnx:M.next=(gl g.aR (g.aR.length-1)).pos+65:=by rw[hM2];simp only[G3,hlast,hrl]
     obtain⟨b',lo',o',cs',q1,q2,q3,q4,q5,q6,q7,q8⟩:=uN hrec (k:=g.aR.length-1) hq1;obtain⟨p1,p2⟩:=u4 _ hq1;have e7:((g.aR.length:Int)-1).toNat=g.aR.length-1:=by omega
     refine⟨_,_,g4,?_⟩;refine⟨_,_,rfl,?_⟩;refine⟨_,0,_,_,rfl,hs.cell,?_⟩;refine⟨⟨⟨_,rfl,w6⟩,trivial⟩,by simp only[bL,aq]at *;omega,?_⟩;simp only[show(cU g sl.bv sl.rv).getD 4 (Value.tuple #[])=sl.rv from rfl];refine⟨_,_,_,_,q1,by omega,_,_,rfl,b',lo',o'+(g.aR.length-1)*2,cs',by rw[e7];congr 1;omega,q2,⟨⟨_,q3,_,rfl,q6⟩,trivial⟩,fun _=>?_⟩;rw[q7];simp only[jD];refine⟨by simp only[bL];omega,by simp only[bL];omega,⟨X,Y⟩,?_⟩
     and_intros<;>first|exact cV|exact hXM|exact hfr|(rw[n3];done)|(rw[n4,m4];done)|(dsimp only;omega)|skip
    ·have hq:g.aR.length=0:=by have:=of_decide_eq_false c3;omega
     have hrl:g.aR.getLast? = none:=by rw[List.eq_nil_of_length_eq_zero hq];rfl
     have hnx:M.next=g.base+64:=by rw[hM2];simp only[G3,hlast,hrl]
     and_intros<;>first|exact cV|exact hXM|exact hfr|(rw[n3];done)|(rw[n4,m4];done)|(dsimp only;omega)|skip
   ·rw[e1]at c2;have hn:L.l=[]:=List.eq_nil_of_length_eq_zero (by have:=of_decide_eq_false c2;omega);have hnx:M.next=1:=by rw[hM2,hn];rfl
    and_intros<;>first|exact cV|exact hXM|exact hfr|(rw[n3];done)|(rw[n4,m4];done)|(rw[hnx,m3];done)|(dsimp only;omega)|skip)
theorem ES:ak (Y Tryz.prog).G.X 175 G4:=aV fK PO ⟨PL,PN,Mb,trivial⟩
structure AJ(H:PH)(v:Value)(vs:List Value)(rs:List RecM):Prop where
 rows:∃c,jW H v rP rs.length c (uH rs vs)
 len:vs.length=rs.length
 body:∀i,i<rs.length->fA H (vs.getD i undef) (gl rs i).body
 sep:∀x∈fC v,x∉vs.flatMap fC
theorem XM{vs:List Value}{i x:Nat}(hi:i<vs.length)(hx:x∈fC (vs.getD i undef)):x∈vs.flatMap fC:=by
 refine List.mem_flatMap.2 ⟨_,?_,hx⟩;rw[List.getD_eq_getElem?_getD,List.getElem?_eq_getElem hi];exact List.getElem_mem _
theorem AJ.dom{H:PH}{v:Value}{vs:List Value}{rs:List RecM}(h:AJ H v vs rs):∀x,x∈fC v\/x∈vs.flatMap fC->H x≠none:=by
 rintro x (hx|hx)
 ·obtain⟨c,hr⟩:=h.rows;exact mD hr x hx
 ·obtain⟨u,hu,hx⟩:=List.mem_flatMap.1 hx;obtain⟨i,hi,rfl⟩:=List.getElem_of_mem hu;obtain⟨c,hb⟩:=h.body i (by rw[<- h.len];exact hi);rw[List.getD_eq_getElem?_getD,List.getElem?_eq_getElem hi]at hb;exact mD hb x hx
theorem AJ.push{H:PH}{v:Value}{vs:List Value}{rs:List RecM}{r:RecM}{p3 lo3 p4 lo4 cap3 cap4 n:Nat}{cs3 cs4:List Value}(h:AJ H v vs rs)(hn:n=r.body.length)(hp3:H p3=none)
 (hb:fA (aM H p3 lo3 cs3) (eM p3 lo3 n cap3) r.body) (hp4:aJ (aM H p3 lo3 cs3) v p4=none)
 (hr:jW (aM (aJ (aM H p3 lo3 cs3) v) p4 lo4 cs4) (eM p4 lo4 (rs.length+1) cap4) rP (rs.length+1) cap4 (uH (rs++[r]) (vs++[eM p3 lo3 n cap3]))) :
 AJ (aM (aJ (aM H p3 lo3 cs3) v) p4 lo4 cs4) (eM p4 lo4 (rs.length+1) cap4) (vs++[eM p3 lo3 n cap3]) (rs++[r]) /\
 ∀z,H z≠none->z∉fC v->z∉vs.flatMap fC->aM (aJ (aM H p3 lo3 cs3) v) p4 lo4 cs4 z=H z/\z∉fC (eM p4 lo4 (rs.length+1) cap4)/\z∉(vs++[eM p3 lo3 n cap3]).flatMap fC:=by
 have hd:=h.dom;have h3:∀z,H z≠none->z≠p3:=fun z hz e=>hz (by rw[e];exact hp3);have h3v:p3∉fC v:=fun e=>hd p3 (.inl e) hp3;have h34:p4≠p3:=fun e=>by rw[e,kz h3v,dF]at hp4;cases hp4
 have hz4:∀z,H z≠none->z∉fC v->z≠p4:=fun z hz hv e=>by
  rw[<- e,kz hv,cC (h3 z hz)]at hp4;exact hz hp4
 have same:∀z,H z≠none->z∉fC v->aM (aJ (aM H p3 lo3 cs3) v) p4 lo4 cs4 z=H z:=fun z hz hv=>by
  rw[cC (hz4 z hz hv),kz hv,cC (h3 z hz)]
 have hvs:∀z∈vs.flatMap fC,z∉fC v:=fun z hz e=>h.sep z e hz;refine⟨⟨⟨cap4,by simpa using hr⟩,by simp[h.len],fun i hi=>?_,fun x hx=>?_⟩,fun z hz hv hs=>⟨same z hz hv,?_,?_⟩⟩
 ·rw[List.length_append,List.length_singleton]at hi;rw[kA hi];by_cases hin:i<rs.length
  ·rw[if_pos hin,List.getD_eq_getElem?_getD,List.getElem?_append_left (by rw[h.len];exact hin),<- List.getD_eq_getElem?_getD];refine(h.body i hin).frame fun x hx=>?_;have hm:=XM (by rw[h.len];exact hin) hx;exact same x (hd x (.inr hm)) (hvs x hm)
  ·rw[if_neg hin];have e1:(vs++[eM p3 lo3 n cap3]).getD i undef=eM p3 lo3 n cap3:=by
    rw[List.getD_eq_getElem?_getD,List.getElem?_append_right (by rw[h.len];omega),show i-vs.length=0 by rw[h.len];omega];rfl
   rw[e1];refine hb.frame fun x hx=>?_;simp only[fC,eM,List.mem_singleton]at hx;rw[hx,cC h34.symm,kz h3v]
 ·simp only[fC,eM,List.mem_singleton]at hx;subst hx;simp only[List.flatMap_append,List.mem_append,not_or];refine⟨fun e=>?_,by simpa[fC,eM]using h34⟩;exact hz4 x (hd x (.inr e)) (hvs x e) rfl
 ·simp only[fC,eM,List.mem_singleton];exact hz4 z hz hv
 ·simp only[List.flatMap_append,List.mem_append,not_or];exact⟨hs,by simpa[fC,eM]using h3 z hz⟩
def fV(l:List dx):List RecM:=l.flatMap (·.aR)
def nE(l:List dx)(i j:Nat):List RecM:=fV (l.take i)++(gl l i).aR.take j
theorem PR{l:List dx}{i j:Nat}(hj:j<(gl l i).aR.length):nE l i (j+1)=nE l i j++[gl (gl l i).aR j]:=by
 unfold nE;rw[pO hj,List.append_assoc]
theorem PS{l:List dx}{i j:Nat}(hi:i<l.length)(hj:(gl l i).aR.length<=j):nE l i j=fV (l.take (i+1)):=by
 unfold nE fV;rw[flatMap_push hi,List.take_of_length_le hj]
structure tL where
 H:PH
 y:gP
 L:bP
structure wm where
 H:PH
 v:Value
 vs:List Value
structure rT where
 i:Nat
 j:Nat
 H:PH
 v:Value
 vs:List Value
noncomputable def Ob:cD where
 α:=tL
 β:=wm
 m:=3
 m':=4
 pre:=fun a=>bT a.H a.y a.L/\a.L.l.length<1000/\∀i,i<a.L.l.length->(gl a.L.l i).aR.length<=400/\∀k,k<(gl a.L.l i).aR.length->1<=(gl (gl a.L.l i).aR k).body.length/\(gl (gl a.L.l i).aR k).body.length<=1000
 args:=fun a=>[.a (.ptr 0 0 0 0)]
 hp:=fun a=>[(1,.cu a.H)]
 ro:=fun a=>[(0,fo 2 a.L a.y.lv)]
 post:=fun a b=>AJ b.H b.v b.vs (fV a.L.l)/\∀z,a.H z≠none->b.H z=a.H z/\z∉fC b.v/\z∉b.vs.flatMap fC
 res:=fun _ b=>.a (.val b.v)
 cT:=fun _ b=>[(3,.cu b.H)]
structure A9(a:tL)(x:rT)(rs:List RecM):Prop where
 out:AJ x.H x.v x.vs rs
 fr:∀z,a.H z≠none->x.H z=a.H z/\z∉fC x.v/\z∉x.vs.flatMap fC
def XN(a:tL)(i:Nat):An:=.flat 8 rT (fun s x=>S.cu ((s.set 3 (.a (.val x.v))).int 24 x.j) x.H) (fun _ x=>x.j<=(gl a.L.l i).aR.length/\A9 a x (nE a.L.l i x.j)) (fun _ x=>(gl a.L.l i).aR.length-x.j)
def Ze(a:tL):An:=.mk 5 rT (fun s x=>S.cu ((s.set 3 (.a (.val x.v))).int 15 x.i) x.H) (fun _ x=>x.i<=a.L.l.length/\A9 a x (fV (a.L.l.take x.i))) (fun _ x=>a.L.l.length-x.i) fun x=>.mk 60 [XN a x.i] []
noncomputable def zz(x:wm)(z:tL):=AJ x.H x.v x.vs (fV z.L.l)/\∀y:Nat,z.H y≠none->x.H y=z.H y/\¬y∈fC x.v/\¬y∈List.flatMap fC x.vs
def zA(x:tL):=bT x.H x.y x.L/\bz x.L<1000/\∀z:Nat,z<bz x.L->xh x.L z
def Mf(u:rT)(x:tL)(s:PH)(w:rT)(t f:Nat)(g:List Value)(z:rT):=oH u.i (di x.y.lv) (cM x.y.lv) (cH (dY (aM (aJ s w.v) t f g=z.H) (fq x.L x.y (dP z.j (oM x.L u.i) (A9 x z (nE x.L.l u.i z.j)) w.j))))
theorem Tc:fnBody (Y Tryz.prog) [] 176 Ob fun a=>[(176,[Ze a],[])]:=fnBody.of (p :=
 ∀x:tL,zA x->fD x.y.lv/\(∃z:rT,aC z.i (gd=z.v/\jk x.y.lv (cH (dY (x.H=z.H) (fq x.L x.y ((z.i<=bz x.L/\A9 x z (fV (List.take z.i x.L.l)))/\True))))))/\∀z:rT,z.i<=bz x.L/\A9 x z (fV (List.take z.i x.L.l))->qh z.i x.y.lv 1 (fun w=>z.H w) (fun w=>gO w) (fun w g=>True) (fun w g=>ga (aS g w) 4 (fun t=>z.H t) fun t h=>fD (aS h t)/\(∃u:rT,aC u.j (z.v=u.v/\jk (aS h t) (cM (aS g w)/\oH z.i (di x.y.lv) (cM x.y.lv) (cH (dY (z.H=u.H) (fq x.L x.y ((u.j<=oM x.L z.i/\A9 x u (nE x.L.l z.i u.j))/\True)))))))/\∀u:rT,u.j<=oM x.L z.i/\A9 x u (nE x.L.l z.i u.j)->uO u.j (aS h t) (fun s=>u.H s) (fun s o=>ah (jD (aS o s))->GV (aS o (s+1)) u.H u.v (jD (aS o s)) (fun k p m n q=>aP u.j (∃f:rT,aY u.j=aa f.j/\eM m n (k+1) p=f.v/\jk (aS h t) (cM (aS g w)/\Mf z x u.H u m n q f))) (fun k=>u.H k) fun k p m n q f c d=>aP u.j (∃r:rT,aY u.j=aa r.j/\eM f c (n+1) q=r.v/\jk (aS h t) (cM (aS g w)/\Mf z x (aM u.H k p m) u f c d r))) (aP z.i (∃s:rT,aY z.i=aa s.i/\u.v=s.v/\jk x.y.lv (cH (dY (u.H=s.H) (fq x.L x.y (dP s.i (bz x.L) (A9 x s (fV (List.take s.i x.L.l))) z.i))))))) (∃w:wm,z.v=w.v/\z.H=w.H/\zz w x/\True)) (by kernel_rfl) (by
 delta aO aS av cz kr ah bu az aG gF bB aQ aY aa kq mF dP bH bg aD dO aX dY bM cM AF fD qh cH bz gO fq xh GV gd jG iM aC oH uM jk zz ag aA CB uO ga aP bh gR iN zA Mf oM jj CF
 try dsimp -iota -proj only
 rintro⟨H,y,L⟩ ⟨hl,h1,h2⟩;dsimp only at *;obtain⟨e1,_,⟨ea,ec,e2⟩,e3,_⟩:=hl.qX;refine⟨⟨ea,_,ec,e2,e3⟩,⟨⟨0,0,H,.slice none 0 0,[]⟩,?_⟩,fun x hx=>?_⟩
 ·have h0:A9 ⟨H,y,L⟩ ⟨0,0,H,.slice none 0 0,[]⟩ (fV (L.l.take 0)):=⟨⟨⟨0,.inl ⟨rfl,rfl,rfl⟩⟩,rfl,fun i hi=>absurd hi (Nat.not_lt_zero i),fun x hx=>by cases hx⟩,fun z _=>⟨rfl,by simp[fC],by simp⟩⟩
  and_intros<;>first|exact cV|exact h0
 ·obtain⟨i,j0,X,v,vs⟩:=x;obtain⟨hi,hI⟩:=hx;dsimp only at hi hI ⊢;rw[e1];refine⟨fun c1=>?_,fun c1=>?_⟩
  ·have hi':i<L.l.length:=by have:=of_decide_eq_true c1;omega
   have hX:bT X y L:=hl.frame fun x hx=>(hI.fr x (hl.dom x hx)).1;obtain⟨b,lo,o,c,cs,g1,g2,g3,g4⟩:=hX.at_ hi';have hs:=hX.seg i hi';obtain⟨c9,hrec⟩:=hs.aR;obtain⟨m1,m2,m3,m4,m5,⟨ma,m7⟩,m6⟩:=eU hrec;obtain⟨hrl,hbl⟩:=h2 i hi';refine⟨_,_,_,_,g1,by omega,b,lo,o+i*1,cs,by rw[Int.toNat_natCast,Nat.add_assoc],g2,⟨⟨_,g3,rfl⟩,trivial⟩,?_⟩;refine⟨_,_,g4,?_⟩;refine⟨_,_,rfl,?_⟩;refine⟨_,0,_,_,rfl,hs.cell,?_⟩;refine⟨⟨⟨_,rfl,m6⟩,trivial⟩,⟨ma,_,_,m7,by omega⟩,?_⟩;simp only[show(cU (gl L.l i) (gl y.ys i).bv (gl y.ys i).rv).getD 4 (Value.tuple #[])=(gl y.ys i).rv from rfl,m1];refine⟨⟨⟨i,0,X,v,vs⟩,?_⟩,fun x2 hx2=>?_⟩
   ·have h0:A9 ⟨H,y,L⟩ ⟨i,0,X,v,vs⟩ (nE L.l i 0):=by
     have:nE L.l i 0=fV (L.l.take i):=by simp[nE]
     rw[this];exact⟨hI.out,hI.fr⟩
    and_intros<;>first|exact cV|exact h0
   ·obtain⟨i2,j,X,v,vs⟩:=x2;obtain⟨hj,hJ⟩:=hx2;dsimp only at hj hJ ⊢;have hX:bT X y L:=hl.frame fun x hx=>(hJ.fr x (hl.dom x hx)).1;have hs:=hX.seg i hi';obtain⟨c9,hrec⟩:=hs.aR;have hlen:(nE L.l i j).length<=400400:=by
     have a1:=kK (l:=L.l) (f:=fun g:dx=>g.aR) (m:=400) (fun q hq=>(h2 q hq).1) i (by omega);unfold nE fV;rw[List.length_append,List.length_take];omega
    refine⟨fun c2=>?_,fun c2=>⟨by simp only[bL];omega,⟨i+1,0,X,v,vs⟩,?_⟩⟩
    ·have hj':j<(gl L.l i).aR.length:=by have:=of_decide_eq_true c2;omega
     obtain⟨b',lo',o',cs',q1,q2,q3,q4,q5,q6,q7,q8⟩:=uN hrec (k:=j) hj';obtain⟨cb,hbody⟩:=hs.body j hj';obtain⟨w1,w2,w3,w4,w5,⟨wa,w7⟩,w6⟩:=eU hbody;obtain⟨hb1,hb2⟩:=hbl j hj';have hnil:DY ((gl y.ys i).vs.getD j undef)=false:=by
      rcases hbody with⟨_,h0,_⟩ | ⟨b9,lo9,o9,cs9,h9,_⟩
      ·omega
      ·rw[h9];rfl
     refine⟨_,_,_,_,q1,by omega,b',lo',o'+j*2,cs',by rw[Int.toNat_natCast];congr 1;omega,q2,⟨⟨_,q3,_,rfl,q6⟩,⟨_,q4,q5⟩,trivial⟩,fun _=>?_⟩;rw[q7,q8];refine⟨⟨wa,_,_,w7⟩,fun c4=>absurd c4 (by rw[hnil];decide),fun _=>?_⟩
     repeat refine kO ?_
     refine⟨_,cb,_,hbody,?_⟩;simp only[Nat.zero_add]
     repeat refine kO ?_
     intro cap3 u1 u2 u3
     repeat refine kO ?_
     intro p3 lo3 cs3 hp3 hl3 hr3;obtain⟨r,hr⟩:∃r,r=gl (gl L.l i).aR j:=⟨_,rfl⟩
     rw[<- hr]at hbody hb1 hb2 hr3 u1 u3 ⊢;have hCb:fA (aM X p3 lo3 cs3) (eM p3 lo3 r.body.length cap3) r.body:=by
      refine⟨cap3,mH hl3 u1 u2 hr3 fun q hq j hj=>?_⟩;have hj0:j=0:=by simpa using hj
      subst hj0;simp only[aZ,Nat.not_lt_zero,if_false,Nat.sub_zero]
     obtain⟨c8,hout⟩:=hJ.out.rows;have hx3:∀x,X x≠none->x≠p3:=fun x hx e=>hx (by rw[e];exact hp3);have hout4:jW (aM X p3 lo3 cs3) v rP (nE L.l i j).length c8 (uH (nE L.l i j) vs):=iL hout fun x hx=>cC (hx3 x (mD hout x hx));refine⟨_,c8,_,hout4,?_⟩
     repeat refine kO ?_
     intro cap4 v1 v2 v3
     repeat refine kO ?_
     intro p4 lo4 cs4 hp4 hl4 hr4;have hvl:vs.length=(nE L.l i j).length:=hJ.out.len;have hr5:jW (aM (aJ (aM X p3 lo3 cs3) v) p4 lo4 cs4) (eM p4 lo4 ((nE L.l i j).length+1) cap4) rP ((nE L.l i j).length+1) cap4 (uH (nE L.l i j++[r]) (vs++[eM p3 lo3 r.body.length cap3])):=by
      refine mH hl4 v1 v2 hr4 fun q hq j' hj2=>?_;simp only[aZ,uH,Nat.zero_add];by_cases hin:q<(nE L.l i j).length
      ·rw[if_pos hin,bN hin];by_cases hj0:j'=0
       ·rw[if_pos hj0,if_pos hj0]
       ·rw[if_neg hj0,if_neg hj0,List.getD_eq_getElem?_getD,List.getD_eq_getElem?_getD,List.getElem?_append_left (by omega)]
      ·rw[if_neg hin];obtain rfl:q=(nE L.l i j).length:=by omega
       rw[Nat.sub_self];have hj2:j'<2:=hj2
       match j',hj2 with
       |0,_=>rw[if_pos rfl,show(nE L.l i j).length=(nE L.l i j).length+0 from rfl,bf];rfl
       |1,_=>rw[if_neg (by decide),List.getD_eq_getElem?_getD,List.getElem?_append_right (by omega),hvl,Nat.sub_self];rfl
     obtain⟨hO,hF⟩:=hJ.out.push (r:=r) rfl hp3 hCb hp4 hr5;have hN:A9 ⟨H,y,L⟩ ⟨i,j+1,aM (aJ (aM X p3 lo3 cs3) v) p4 lo4 cs4,eM p4 lo4 ((nE L.l i j).length+1) cap4,vs++[eM p3 lo3 r.body.length cap3]⟩ (nE L.l i (j+1)):=by
      refine⟨by rw[PR hj',<- hr];exact hO,fun z hz=>?_⟩;obtain⟨a1,a2,a3⟩:=hJ.fr z hz;obtain⟨b1,b2,b3⟩:=hF z (by rw[a1];exact hz) a2 a3;exact⟨b1.trans a1,b2,b3⟩
     refine⟨by simp only[bL];omega,⟨i,j+1,aM (aJ (aM X p3 lo3 cs3) v) p4 lo4 cs4,eM p4 lo4 ((nE L.l i j).length+1) cap4,vs++[eM p3 lo3 r.body.length cap3]⟩,?_⟩
     and_intros<;>first|exact cV|exact hN
    ·have hj':¬j<(gl L.l i).aR.length:=by have:=of_decide_eq_false c2;omega
     have hN:A9 ⟨H,y,L⟩ ⟨i+1,0,X,v,vs⟩ (fV (L.l.take (i+1))):=by
      rw[<- PS hi' (Nat.le_of_not_lt hj')];exact⟨hJ.out,hJ.fr⟩
     and_intros<;>first|exact cV|exact hN
  ·have hi':i=L.l.length:=by have:=of_decide_eq_false c1;omega
   subst hi';rw[List.take_length]at hI;refine⟨⟨X,v,vs⟩,?_⟩
   and_intros<;>first|exact cV|exact hI.out|exact hI.fr|rfl)
theorem JS:ak (Y Tryz.prog).G.X 176 Ob:=aV fK Tc trivial
end Go.Proofs.YtfjgoonelcaggaaGreat
namespace Go.Proofs.YtfjgoonelcaggaaGreat.Ix
open Go.Sx
def Oc(a b:Int):Int:=dz .xor .u64 a b
def Rc(a:Int):Int:=uw .u64 a
def Td(x:Int):Int:=Rc (Oc x (x/1073741824)*13787848793156543929)
def Te(x:Int):Int:=Rc (Oc x (x/134217728)*10723151780598845931)
def Tf(x:Int):Int:=Oc x (x/2147483648)
def qn(x:Int):Int:=Tf (Te (Td x))
noncomputable def AL:cD where
 α:=Int
 β:=Unit
 m:=0
 m':=0
 pre:=fun _=>True
 args:=fun a=>[.a (.int .u64 a)]
 hp:=fun _=>[]
 ro:=fun _=>[]
 post:=fun _ _=>True
 res:=fun a _=>.a (.int .u64 (qn a))
 cT:=fun _ _=>[]
def _root_.Tg(x y z u:Int):Int:=mw (cQ (mw x (x/y)*z)) (cQ (mw x (x/y)*z)/u)
def _root_.G6(x y:Int):=True->(0:Int)<=30/\(0:Int)<=27/\(0:Int)<=31/\bQ (Tg (cQ (mw x (x/(1073741824:Int))*(13787848793156543929:Int))) 134217728 10723151780598845931 2147483648=y)
theorem CN:fnBody (Y Tryz.prog) [] 120 AL fun _=>[]:=fnBody.of (p :=
 ∀x:Int,G6 x (Ix.qn x)) (by kernel_rfl) (by
 delta Tg bQ cQ ay mw G6 bp
 intro a _;exact⟨by decide,by decide,by decide,(),rfl,trivial,trivial⟩)
theorem yl:ak (Y Tryz.prog).G.X 120 AL:=aV fK CN trivial
def lR(h:Int)(b:ByteArray):Nat->Int
 |0=>h
 |i+1=>Rc (qn (Oc (lR h b i) ((b.data.getD i 0).toNat:Int))+1)
def Th(h:Int)(b:ByteArray):Int:=qn (Oc (lR h b b.size) (Rc (256+Rc b.size)))
def fF(g:Nat->ByteArray):Nat->Int
 |0=>11400714819323198485
 |i+1=>Th (fF g i) (g i)
structure PT where
 g:Nat->ByteArray
 n:Nat
 cap:Nat
noncomputable def uU:cD where
 α:=PT
 β:=Unit
 m:=1
 m':=1
 pre:=fun a=>a.n<100000/\∀i,i<a.n->(a.g i).size<=aq
 args:=fun a=>[.a (.slc 0 0 1 a.n a.cap)]
 hp:=fun _=>[]
 ro:=fun a=>[(0,.arr 9 [.str] a.n (fun i _=>.string (a.g i)))]
 post:=fun _ _=>True
 res:=fun a _=>.a (.int .u64 (fF a.g a.n))
 cT:=fun _ _=>[]
def XO(a:PT)(i:Nat):An:=.flat 6 Nat (fun s j=>(s.int 15 j).set 3 (.a (.int .u64 (lR (fF a.g i) (a.g i) j)))) (fun _ j=>j<=(a.g i).size) (fun _ j=>(a.g i).size-j)
def XP(a:PT):An:=.mk 3 Nat (fun s i=>(s.int 9 i).set 3 (.a (.int .u64 (fF a.g i)))) (fun _ i=>i<=a.n) (fun _ i=>a.n-i) (fun i=>.mk 60 [XO a i] [])
def _root_.dK(x y:Nat)(z:Prop):=bh x/\bD x y/\z
def _root_.zB(y:ByteArray)(u x z:Nat)(v:Nat->ByteArray)(w:Prop):=bh (bA y)/\y=y/\oH u x (bD x z) (aW (bD x z/\(dN x 1 fun s t=>bE (v s))/\w))
def _root_.zC(x y:Nat)(z:Nat->ByteArray)(u:Prop):=dK x y (aW (bD x y/\(dN x 1 fun v w=>bE (z v))/\u))
theorem zD:fnBody (Y Tryz.prog) [(120,AL)] 66 uU fun a=>[(66,[XP a],[])]:=fnBody.of (p :=
 ∀x:Ix.PT,(x.n<100000/\∀s:Nat,s<x.n->bA (x.g s)<=aq)->(∃y:Nat,(11400714819323198485:Int)=Ix.fF x.g y/\aC y (zC x.n x.cap (fun t=>x.g t) (y<=x.n/\True)))/\∀y:Nat,y<=x.n->gD y x.n ((∃z:Nat,Ix.fF x.g y=Ix.lR (Ix.fF x.g y) (x.g y) z/\aC z (zB (x.g (0+az y)) y x.n x.cap (fun f=>x.g f) (z<=bA (x.g y)/\True)))/\∀z:Nat,z<=bA (x.g y)->mq (aa z) (bA (x.g (0+az y))) (∃v:Int,mw (Ix.lR (Ix.fF x.g y) (x.g y) z) (aa ((x.g (0+az y)).data.getD (az z) (0:UInt8)).toNat)=v/\cO (aP z (∃u:Nat,cQ (Ix.qn v+(1:Int))=Ix.lR (Ix.fF x.g y) (x.g y) u/\aY z=aa u/\zB (x.g (0+az y)) y x.n x.cap (fun w=>x.g w) (bS u (bA (x.g y)) z)))) (∃v:Int,mw (Ix.lR (Ix.fF x.g y) (x.g y) z) (cQ ((256:Int)+cQ (aa (bA (x.g (0+az y))))))=v/\cO (aP y (∃u:Nat,Ix.qn v=Ix.fF x.g u/\aY y=aa u/\zC x.n x.cap (fun w=>x.g w) (bS u x.n y))))) (bQ (Ix.fF x.g y=Ix.fF x.g x.n))) (by kernel_rfl) (by
 delta aO cz aL ah bW az aG bB eF aQ aY aa bg aD aX dN aI gD bA bD bQ bE bS dK zB cQ ay aC oH aW ag aA mw mq aP bh bp zC dR cO
 try dsimp -iota -proj only
 intro a h;obtain⟨hn,hs⟩:=h;simp only[Nat.zero_add,Int.toNat_natCast];refine⟨⟨0,by and_intros<;>(first|exact trivial|rfl|omega|assumption|exact aj.refl _ _ _|(simp only[bL];omega)|(simp;done)|(simp;omega)|grind)⟩,fun i hi=>⟨fun h1=>?_,fun h1=>?_⟩⟩
 ·have hi':i<a.n:=by simpa using h1
  have hsz:=hs i hi';refine⟨by omega,hi',⟨0,by and_intros<;>(first|exact trivial|rfl|omega|assumption|exact aj.refl _ _ _|(simp only[bL];omega)|(simp;done)|(simp;omega)|grind)⟩,fun j hj=>⟨fun h2=>?_,fun h2=>?_⟩⟩
  ·have hj':j<(a.g i).size:=by simpa using h2
   refine⟨by omega,_,rfl,trivial,fun _ _=>⟨by simp only[bL,aq]at *;omega,j+1,?_⟩⟩
   and_intros<;>(first|exact trivial|rfl|omega|assumption|exact aj.refl _ _ _|(simp only[bL];omega)|(simp;done)|(simp;omega)|grind)
  ·have hj' : j = (a.g i).size := by have : ¬ j < (a.g i).size := by simpa using h2
                                     omega
   subst hj';refine⟨_,rfl,trivial,fun _ _=>⟨by simp only[bL];omega,i+1,?_⟩⟩
   and_intros<;>(first|exact trivial|rfl|omega|assumption|exact aj.refl _ _ _|(simp only[bL];omega)|(simp;done)|(simp;omega)|grind)
 ·have hi' : i = a.n := by have : ¬ i < a.n := by simpa using h1
                           omega
  subst hi';exact⟨(),rfl,trivial,trivial⟩)
theorem vH:ak (Y Tryz.prog).G.X 66 uU:=aV fK zD ⟨yl,trivial⟩
structure bn where
 key:ByteArray
 pos:Int
 has:Bool
 gone:Bool
 deriving Inhabited
def Ba(p:bn):List Value:=[.string p.key,.int .i64 p.pos,.bool p.has,.bool p.gone]
def XR:List CK:=[.str,.int .i64,.bool,.bool]
def G7(key:ByteArray):Int:=fF (fun _=>key) 1
def dA(L:Nat)(key:ByteArray):Nat:=(G7 key).toNat%L
def hit(key:ByteArray)(p:bn):Bool:=p.has&&decide (p.key=key)
def bare(p:bn):Bool:=!p.has&&!p.gone
def eW(t:List bn)(key:ByteArray):Nat->Nat->Int->Int×Int
 |0,_,free=>(-1,free)
 |k+1,i,free=>if hit key (gl t i)then((i:Int),(i:Int))else
  let f:=if !(gl t i).has&&decide (free<0)then(i:Int)else free
  if bare (gl t i)then(-1,f)else eW t key k ((i+1)%t.length) f
def bF(t:List bn)(key:ByteArray):Int×Int:=eW t key t.length (dA t.length key) (-1)
def o8(o a:Nat)(t:List bn)(cap n used:Nat):List (Nat×Chunk):=[(o,.obj 247 [.slc a 0 4 t.length cap,.int .i64 n,.int .i64 used]),(a,.arr 251 XR t.length (af Ba t))]
theorem V7{k:IntKind}{n:Int}(h:bL k n):k.wrap n=n:=by
 cases k<;>simp only[bL]at h<;>simp[IntKind.wrap,IntKind.bits,IntKind.signed,Int.emod_def]<;>omega
theorem PU(a b:Int):0<=Oc a b/\Oc a b<18446744073709551616:=by
 unfold Oc dz;simp only[El,uw];omega
theorem Eb(key:ByteArray):0<=G7 key:=(PU _ _).1
theorem qo{L:Nat}(key:ByteArray)(h:1<=L):dA L key<L:=Nat.mod_lt _ h
theorem start_eq{L:Nat}(key:ByteArray)(h:1<=L)(h2:L<100000):uw .i64 (fF (fun _=>key) 1%uw .u64 (L:Int))=(dA L key:Int):=by
 have e1:uw .u64 (L:Int)=L:=by simp only[uw];omega
 have h0:=Eb key;have h3:=qo key h;have e2:G7 key%(L:Int)=(dA L key:Int):=by
  unfold dA;rw[Int.natCast_emod,Int.toNat_of_nonneg h0]
 rw[e1];show uw .i64 (G7 key%(L:Int))=_;rw[e2];exact V7 (by simp only[bL];omega)
theorem V8{i L:Nat}:((i:Int)+1).tmod (L:Int)=(((i+1)%L:Nat):Int):=by
 rw[Int.tmod_eq_emod_of_nonneg (by omega),Int.natCast_emod];rfl
theorem zF{t:List bn}{key:ByteArray}{i at_:Nat}{free:Int}{r:Int×Int}(hi:i<t.length)(h:eW t key (t.length-i) at_ free=r) :
 (if hit key (gl t at_)then((at_:Int),(at_:Int))else
 if bare (gl t at_)then(-1,if !(gl t at_).has&&decide (free<0)then(at_:Int)else free)else eW t key (t.length-(i+1)) ((at_+1)%t.length) (if !(gl t at_).has&&decide (free<0)then(at_:Int)else free))=r:=by
 rw[<- h,show t.length-i=(t.length-(i+1))+1 by omega];rfl
structure oa where
 t:List bn
 cap:Nat
 n:Nat
 used:Nat
 key:ByteArray
noncomputable def ET:cD where
 α:=oa
 β:=Unit
 m:=2
 m':=2
 pre:=fun a=>1<=a.t.length/\a.t.length<100000/\a.key.size<=aq
 args:=fun a=>[.a (.ptr 0 0 0 0),.a (.str a.key)]
 hp:=fun _=>[]
 ro:=fun a=>o8 0 1 a.t a.cap a.n a.used
 post:=fun _ _=>True
 res:=fun a _=>.l8 [.a (.int .i64 (bF a.t a.key).1),.a (.int .i64 (bF a.t a.key).2)]
 cT:=fun _ _=>[]
def Zf(a:oa):An:=.flat 4 (Nat×Nat×Int) (fun s x=>((s.int 25 x.1).int 7 x.2.1).set 6 (.a (.int .i64 x.2.2)))
 (fun _ x=>x.1<=a.t.length/\x.2.1<a.t.length/\-1<=x.2.2/\x.2.2<a.t.length/\eW a.t a.key (a.t.length-x.1) x.2.1 x.2.2=bF a.t a.key) (fun _ x=>a.t.length-x.1)
def _root_.G8(y:Nat×Nat×Int)(x:Ix.oa):=y.snd.fst<x.t.length/\(-1:Int)<=y.snd.snd/\y.snd.snd<aa x.t.length/\Ix.eW x.t x.key (x.t.length-y.fst) y.snd.fst y.snd.snd=Ix.bF x.t x.key
def _root_.cZ(x:List Ix.bn):Nat->Nat->Value:=af Ix.Ba x
def _root_.Mg(x:Ix.oa)(y:Prop):=cz (aa x.t.length) 0 (aG 0) (ag (x.key=x.key/\bD x.t.length x.cap/\cz (aa x.n) (aa x.used) (dN x.t.length 4 (cZ x.t)) y))
def _root_.G9(y:Int)(x:Ix.oa)(z:Int):=ay (y=(Ix.bF x.t x.key).fst/\bp (z=(Ix.bF x.t x.key).snd))
def _root_.jH(x:List Ix.bn)(y:Nat):Ix.bn:=gl x (0+az y)
def _root_.Mh(x:Ix.oa)(y:Nat×Nat×Int)(u:Int):=qT (bx (Ix.bn.has (jH x.t y.snd.fst))) (bx (Ix.bn.gone (jH x.t y.snd.fst))) (G9 (-1:Int) x u) (aP y.snd.fst (aa x.t.length≠(0:Int)/\aP y.fst (∃z:Nat×Nat×Int,u=z.snd.snd/\Int.tmod (aY y.snd.fst) (aa x.t.length)=aa z.snd.fst/\aY y.fst=aa z.fst/\Mg x (dP z.fst x.t.length (G8 z x) y.fst))))
def _root_.He(x:Ix.PT)(z:ByteArray)(u:Prop):=iu 1 x.n 1 x.cap 1 (aN 1 (bH (bE z))) (fun y v=>bE (x.g y)) (x.n<100000/\∀y:Nat,y<x.n->bA (x.g y)<=aq) (aI u)
theorem Ti:fnBody (Y Tryz.prog) [(66,uU)] 168 ET fun a=>[(168,[Zf a],[])]:=fnBody.of (p :=
 ∀y:Ix.oa,iy 1 y.t.length (bA y.key<=aq)->∃z:Ix.PT,He z y.key (cQ (aa y.t.length)≠(0:Int)/\(∃x:Nat×Nat×Int,(-1:Int)=x.snd.snd/\oJ (Ix.fF z.g z.n%cQ (aa y.t.length))=aa x.snd.fst/\aC x.fst (Mg y ((x.fst<=y.t.length/\G8 x y)/\True)))/\∀x:Nat×Nat×Int,x.fst<=y.t.length/\G8 x y->aA (aa x.fst) (aa y.t.length) (dR x.snd.fst y.t.length (qT (Ix.bn.has (jH y.t x.snd.fst)) (iZ (Ix.bn.key (jH y.t x.snd.fst)) y.key) (G9 (aa x.snd.fst) y (aa x.snd.fst)) (qT (bx (Ix.bn.has (jH y.t x.snd.fst))) (aQ x.snd.snd 0) (Mh y x (aa x.snd.fst)) (Mh y x x.snd.snd)))) (G9 (-1:Int) y x.snd.snd))) (by kernel_rfl) (by
 delta qT aO cz aL ah bW az aG eF aQ aY aa dP bH bg aD aX bM dN aI bA bD bE Mh cQ ay G8 aC iu ag aA aP Mg bp He dR bx iZ iy cZ G9 jH oJ
 try dsimp -iota -proj only
 intro a h;obtain⟨h1,h2,h3⟩:=h;have hst:=qo a.key h1;refine⟨⟨fun _=>a.key,1,1⟩,?_⟩;simp only[Nat.zero_add,Int.toNat_natCast,start_eq a.key h1 h2,V8];refine⟨⟨trivial,trivial,trivial⟩,⟨Nat.le_refl _,.dW fun j hj=>?_⟩,⟨by omega,fun _ _=>h3⟩,fun _ _=>⟨by simp only[uw];omega,⟨(0,dA a.t.length a.key,-1),?_⟩,fun x hx=>?_⟩⟩
 ·have:j=0:=by omega
  subst this;rfl
 ·dsimp only
  and_intros<;>(first|exact trivial|rfl|omega|assumption|exact aj.refl _ _ _|(simp only[bL];omega)|(simp;done)|(simp;omega)|grind)
 ·obtain⟨i,at_,free⟩:=x;obtain⟨i1,i2,i3,i4,i5⟩:=hx;dsimp only at *;have hmod:(at_+1)%a.t.length<a.t.length:=Nat.mod_lt _ h1;have stop:i=a.t.length->bF a.t a.key=(-1,free):=by
   intro e;rw[<- i5,e,Nat.sub_self];rfl
  have step:=fun hi=>zF (i:=i) hi i5;simp only[bL]
  repeat' (first|intro _|apply And.intro|apply Exists.intro ()|apply Exists.intro ((i+1,(at_+1)%a.t.length,_):Nat×Nat×Int))
  all_goals(try with_reducible rfl)
  all_goals(try exact aj.refl _ _ _)
  all_goals(try dsimp only)
  all_goals(try simp only[decide_eq_true_eq,decide_eq_false_iff_not]at *)
  all_goals(try omega)
  all_goals(try(have h9:=step (by omega);grind [hit,bare]))
  all_goals(try(have h9:=stop (by omega);rw[h9])))
theorem ym:ak (Y Tryz.prog).G.X 168 ET:=aV fK Ti ⟨vH,trivial⟩
structure cK where
 t:List bn
 n:Nat
 used:Nat
def nF(x:cK)(key:ByteArray):Int:=if 0<=(bF x.t key).1 then(gl x.t (bF x.t key).1.toNat).pos else 0
def me(x:cK)(key:ByteArray)(pos:Int):cK :=
 if 0<=(bF x.t key).1 then { x with t:=x.t.set (bF x.t key).1.toNat { gl x.t (bF x.t key).1.toNat with pos:=pos } }
 else⟨x.t.set (bF x.t key).2.toNat ⟨key,pos,true,false⟩,x.n+1,if(gl x.t (bF x.t key).2.toNat).gone then x.used else x.used+1⟩
theorem ob(x:cK)(key:ByteArray)(pos:Int):(me x key pos).t.length=x.t.length:=by unfold me;split<;>simp
theorem AM(t:List bn)(key:ByteArray)(h:1<=t.length):∀(k i:Nat) (f:Int),i<t.length->f<t.length->(eW t key k i f).1<t.length/\(eW t key k i f).2<t.length
 |0,i,f,hi,hf=>by simp only[eW];omega
 |k+1,i,f,hi,hf=>by
  have h1:(if !(gl t i).has&&decide (f<0)then(i:Int)else f)<t.length:=by split<;>omega
  unfold eW;by_cases hh:hit key (gl t i)=true
  ·rw[if_pos hh];exact⟨by simp only;omega,by simp only;omega⟩
  ·rw[if_neg hh];dsimp only;by_cases hb:bare (gl t i)=true
   ·rw[if_pos hb];exact⟨by simp only;omega,h1⟩
   ·rw[if_neg hb];exact AM t key h k _ _ (Nat.mod_lt _ h) h1
theorem uV{t:List bn}(key:ByteArray)(h:1<=t.length):(bF t key).1<t.length/\(bF t key).2<t.length :=
 AM t key h _ _ _ (qo key h) (by omega)
structure l9 where
 x:cK
 cap:Nat
 key:ByteArray
 pos:Int
noncomputable def Tj:cD where
 α:=l9
 β:=Unit
 m:=2
 m':=2
 pre:=fun a=>1<=a.x.t.length/\a.x.t.length<100000/\a.key.size<=aq/\2*a.x.used<a.x.t.length/\a.x.n<100000/\((bF a.x.t a.key).1<0->0<=(bF a.x.t a.key).2)
 args:=fun a=>[.a (.ptr 0 0 0 0),.a (.str a.key),.a (.int .i64 a.pos)]
 hp:=fun a=>o8 0 1 a.x.t a.cap a.x.n a.x.used
 ro:=fun _=>[]
 post:=fun _ _=>True
 res:=fun a _=>.a (.int .i64 (nF a.x a.key))
 cT:=fun a _=>o8 0 1 (me a.x a.key a.pos).t a.cap (me a.x a.key a.pos).n (me a.x a.key a.pos).used
noncomputable def Tk:cD where
 α:=Unit
 β:=Unit
 m:=1
 m':=1
 pre:=fun _=>False
 args:=fun _=>[.a (.ptr 0 0 0 0)]
 hp:=fun _=>[]
 ro:=fun _=>[]
 post:=fun _ _=>True
 res:=fun _ _=>.a .any
 cT:=fun _ _=>[]
theorem PV(f:Nat):ak (Y Tryz.prog).G.X f Tk:=aV fK (jf:=[]) (l:=fun _=>[]) ⟨fun a h=>False.elim h⟩ trivial
def _root_.bI(x:Ix.cK):Nat:=x.t.length
def _root_.nG(x:Int)(y:Nat)(z:Prop):=eF x y (0+aX x) z
def _root_.xo(z:ByteArray)(x:Ix.oa)(y:Ix.cK)(u:Nat)(v:Bool)(w:Prop)(s:Int)(f:Prop):=ag (z=x.key/\ag (bI y=x.t.length/\u=x.cap)/\bq y.n x.n/\bq y.used x.used/\aL x.t.length (bI y) 4 (cZ y.t) (cZ x.t)/\iy 1 x.t.length (bA x.key<=aq)/\aI (aO v w (nG s (bI y) f)))
def _root_.rq(x:Ix.oa):Nat:=0+aX (Ix.bF x.t x.key).fst
def _root_.Od(z:Ix.l9)(x:Ix.oa)(y:Ix.cK)(u:Nat)(v w s:Prop):=xo z.key x y u (cR 0 (Ix.bF x.t x.key).fst) (nG (Ix.bF x.t x.key).fst (bI y) (ah (gl y.t (rq x)).pos->nG (Ix.bF x.t x.key).fst (bI y) v)) (Ix.bF x.t x.key).snd (aO (bx (gl y.t (0+aX (Ix.bF x.t x.key).snd)).gone) (ah (aa y.used)->aP y.used (nG (Ix.bF x.t x.key).snd (bI y) (ah (aa y.n)->aP y.n w))) (nG (Ix.bF x.t x.key).snd (bI y) (ah (aa y.n)->aP y.n s)))
def _root_.nH(y:Nat)(x:Ix.cK)(z u:Nat)(v w:Int)(s:Nat->Nat->Value)(f:Prop):=ag (y=bI x/\z=u)/\v=aa x.n/\w=aa x.used/\aL (bI x) y 4 s (cZ x.t)/\f/\True
def _root_.dZ(x:ByteArray)(y:Int)(z:List Value):List Value:=bM (bE x) (bu y z)
def _root_.EU(u:Ix.cK)(x:Ix.l9)(y v:Ix.cK)(w s:Nat)(f:Int)(z:Ix.oa):=(0:Int)=Ix.nF u x.key/\nH (bI y) v w s (aY y.n) f (jV (cZ y.t) (0+aX (Ix.bF z.t z.key).snd) 0 (dZ x.key x.pos (bM (dX true) (bH fZ)))) True
def _root_.Oe(x:Ix.cK)(y:Ix.oa)(u:Ix.cK)(z:Ix.l9)(v:Ix.cK)(w s:Nat):=(gl x.t (rq y)).pos=Ix.nF u z.key/\nH (bI x) v w s (aa x.n) (aa x.used) (jV (cZ x.t) (rq y) 1 (bu z.pos [])) True
def _root_.Mi(y:Ix.l9):=∃z:Ix.oa,Od y z y.x y.cap (ay (Oe y.x z y.x y (Ix.me y.x y.key y.pos) y.cap y.cap)) (ay (EU y.x y y.x (Ix.me y.x y.key y.pos) y.cap y.cap (aY y.x.used) z)) (ay (EU y.x y y.x (Ix.me y.x y.key y.pos) y.cap y.cap (aa y.x.used) z))
def _root_.zG(x:Ix.cK)(z:Nat)(y:ByteArray):=2*x.used<z/\x.n<100000/\((Ix.bF x.t y).fst<(0:Int)->(0:Int)<=(Ix.bF x.t y).snd)
theorem Tl:fnBody (Y Tryz.prog) [(168,ET),(167,Tk)] 123 Tj fun _=>[]:=fnBody.of (p :=
 ∀y:Ix.l9,iy 1 (bI y.x) (bA y.key<=aq/\zG y.x (bI y.x) y.key)->ah (aa y.x.used)->sN ((2:Int)*aa y.x.used) (aa (bI y.x)) (ay (ag (False/\aI (Mi y)))) (Mi y)) (by kernel_rfl) (by
 delta aO aL ah bu eF bI aY aa bH bg aD dO aX bM Od EU aI bA Oe bE nH xo ay fZ cR ag Mi aP zG nG bq dZ rq bx sN iy cZ dX
 try dsimp -iota -proj only
 intro a h;obtain⟨h1,h2,h3,h4,h5,h6⟩:=h;obtain⟨l1,l2⟩:=uV a.key h1;have hl:=ob a.x a.key a.pos;have yes:0<=(bF a.x.t a.key).1->me a.x a.key a.pos={ a.x with t:=a.x.t.set (bF a.x.t a.key).1.toNat { gl a.x.t (bF a.x.t a.key).1.toNat with pos:=a.pos } }:=fun e=>if_pos e;have no:¬0<=(bF a.x.t a.key).1->me a.x a.key a.pos=⟨a.x.t.set (bF a.x.t a.key).2.toNat ⟨a.key,a.pos,true,false⟩,a.x.n+1,if(gl a.x.t (bF a.x.t a.key).2.toNat).gone then a.x.used else a.x.used+1⟩:=fun e=>if_neg e;simp only[Nat.zero_add,bL];refine fun _=>⟨by omega,fun e=>absurd e (by simp;omega),fun _=>⟨⟨a.x.t,a.cap,a.x.n,a.x.used,a.key⟩,?_⟩⟩
 dsimp only
 repeat' (first|intro _|apply And.intro|apply Exists.intro ())
 all_goals(try with_reducible rfl)
 all_goals(try simp only[decide_eq_true_eq,decide_eq_false_iff_not,Bool.not_eq_true',Bool.not_eq_false']at *)
 all_goals(try exact trivial)
 all_goals(try omega)
 all_goals(try(grind [nF]))
 all_goals(try(with_reducible exact aj.refl _ _ _))
 all_goals(first|(rw[yes (by assumption)];refine .set _ (by omega) (fun i hi=>by simp only[gN hi]) ?_;simp only[iY];rfl)|(rw[no (by assumption)];refine .set _ (by omega) (fun i hi=>by simp only[gN hi]) ?_;simp only[iY];rfl)))
theorem Tm:ak (Y Tryz.prog).G.X 123 Tj:=aV fK Tl ⟨ym,PV _,trivial⟩
def dU(t:List bn)(y:cK):Nat->cK
 |0=>y
 |i+1=>if(gl t i).has then me (dU t y i) (gl t i).key (gl t i).pos else dU t y i
def bJ(n:Nat):cK:=⟨List.replicate n ⟨.empty,0,false,false⟩,0,0⟩
theorem lp(t:List bn)(y:cK):∀i,(dU t y i).t.length=y.t.length
 |0=>rfl
 |i+1=>by
  unfold dU;split
  ·rw[ob,lp t y i]
  ·exact lp t y i
theorem sX{α:Type}[Inhabited α]{n i:Nat}{x:α}(h:i<n):gl (List.replicate n x) i=x:=by
 rw[bR (by simpa using h)];simp
def lq(x:cK):cK:=dU x.t (bJ (max 16 (4*x.n))) x.t.length
structure AN where
 x:cK
 cap:Nat
noncomputable def Tn:cD where
 α:=AN
 β:=Nat
 m:=2
 m':=3
 pre:=fun a=>1<=a.x.t.length/\a.x.t.length<100000/\a.x.n<10000/\(∀i,i<a.x.t.length->(gl a.x.t i).key.size<=aq) /\
  ∀i,i<a.x.t.length->(gl a.x.t i).has=true->2*(dU a.x.t (bJ (max 16 (4*a.x.n))) i).used<max 16 (4*a.x.n)/\(dU a.x.t (bJ (max 16 (4*a.x.n))) i).n<100000 /\
   ((bF (dU a.x.t (bJ (max 16 (4*a.x.n))) i).t (gl a.x.t i).key).1<0->0<=(bF (dU a.x.t (bJ (max 16 (4*a.x.n))) i).t (gl a.x.t i).key).2)
 args:=fun a=>[.a (.ptr 0 0 0 0)]
 hp:=fun a=>[(0,.obj 247 [.slc 1 0 4 a.x.t.length a.cap,.int .i64 a.x.n,.int .i64 a.x.used])]
 ro:=fun a=>[(1,.arr 251 XR a.x.t.length (af Ba a.x.t))]
 post:=fun _ _=>True
 res:=fun _ _=>.l8 []
 cT:=fun a cap=>o8 0 2 (lq a.x).t cap (lq a.x).n (lq a.x).used
def Zg(a:AN):An:=.flat 3 (Nat×Nat) (fun s x=>(((s.at_ (s.tg 0) (.obj 247 [.slc (s.fh (s.tg 0) 0) 0 4 (max 16 (4*a.x.n)) x.2,.int .i64 (dU a.x.t (bJ (max 16 (4*a.x.n))) x.1).n,.int .i64 (dU a.x.t (bJ (max 16 (4*a.x.n))) x.1).used])).at_ (s.fh (s.tg 0) 0) (.arr 251 XR (max 16 (4*a.x.n)) (af Ba (dU a.x.t (bJ (max 16 (4*a.x.n))) x.1).t))).int 21 x.1))
 (fun _ x=>x.1<=a.x.t.length) (fun _ x=>a.x.t.length-x.1)
def _root_.mJ(y:Ix.AN)(z:Nat):Ix.cK:=Ix.dU y.x.t (Ix.bJ (max 16 (4*y.x.n))) z
def _root_.Hf(y:Ix.AN):=iy 1 (bI y.x) (y.x.n<10000/\(∀z:Nat,z<bI y.x->bA (gl y.x.t z).key<=aq)/\∀z:Nat,z<bI y.x->aD (gl y.x.t z).has->zG (mJ y z) (max 16 (4*y.x.n)) (gl y.x.t z).key)
def _root_.Mj(v:Nat×Nat)(y:Ix.AN)(w:Nat×Nat->Prop)(u:Ix.cK)(s:Nat):=ir v fun z=>sH (bI y.x) y.cap (ag (w z/\bq u.n (Ix.cK.n (mJ y z.fst))/\bq u.used (Ix.cK.used (mJ y z.fst))/\dN (bI y.x) 4 (cZ y.x.t)/\aL (max 16 (4*y.x.n)) s 4 (cZ u.t) (cZ (Ix.cK.t (mJ y z.fst)))/\bS z.fst (bI y.x) v.fst))
def _root_.zH(y x:Ix.cK)(z:Nat)(u v:Prop):=bq y.n x.n/\bq y.used x.used/\aL (bI x) z 4 (cZ y.t) (cZ x.t)/\u/\v
def _root_.zI(y:Ix.AN):Int:=o7 true 16 ((4:Int)*aa y.x.n)
def _root_.Hg:Nat->Nat->Value:=fun(y x:Nat)=>aS (dZ dc 0 (bM fZ (bH fZ))) x
theorem To:fnBody (Y Tryz.prog) [(123,Tj)] 167 Tn fun a=>[(167,[Zg a],[])]:=fnBody.of (p :=
 ∀y:Ix.AN,Hf y->ah (aa y.x.n)->ah ((4:Int)*aa y.x.n)/\lJ (zI y) ((32:Int)*zI y) (mA (fun z=>sH (bI y.x) y.cap (ag (ag (aX (zI y)=max 16 (4*y.x.n)/\aX (zI y)=z.snd)/\aC (Ix.cK.n (mJ y z.fst)) (aC (Ix.cK.used (mJ y z.fst)) (dN (bI y.x) 4 (cZ y.x.t)/\aL (max 16 (4*y.x.n)) (aX (zI y)) 4 Hg (cZ (Ix.cK.t (mJ y z.fst)))/\z.fst<=bI y.x/\True))))) (bI y.x) (fun z=>aO (Ix.bn.has (jH y.x.t z.fst)) (ah (Ix.bn.pos (jH y.x.t z.fst))->∃u:Ix.l9,ag (Ix.bn.key (jH y.x.t z.fst)=u.key/\Ix.bn.pos (jH y.x.t z.fst)=u.pos/\ag (max 16 (4*y.x.n)=bI u.x/\z.snd=u.cap)/\zH (mJ y z.fst) u.x (max 16 (4*y.x.n)) (iy 1 (bI u.x) (bA u.key<=aq/\zG u.x (bI u.x) u.key)) (aI (Mj z y (fun w=>ag (bI (Ix.me u.x u.key u.pos)=max 16 (4*y.x.n)/\u.cap=w.snd)) (Ix.me u.x u.key u.pos) (bI (Ix.me u.x u.key u.pos)))))) (Mj z y (fun v=>bW (max 16 (4*y.x.n)) (z.snd=v.snd)) (mJ y z.fst) (max 16 (4*y.x.n)))) fun z=>∃v:Nat,nH (max 16 (4*y.x.n)) (Ix.lq y.x) z.snd v (aa (Ix.cK.n (mJ y z.fst))) (aa (Ix.cK.used (mJ y z.fst))) (cZ (Ix.cK.t (mJ y z.fst))) True)) (by kernel_rfl) (by
 delta aO aS aL ah bu bW az aG o7 eF bI aQ aY aa bH bg aD dO aX ig bM dN dc aI gD bA bD bE mJ bS nH ir lJ aC fZ Hf Mj ag aA zH aP bh zG mA bq dZ zI dR iy cZ dX sH Hg jH
 try dsimp -iota -proj only
 intro a h;obtain⟨h1,h2,h3,h4,h5⟩:=h;obtain⟨M,hM⟩:∃M,M=max 16 (4*a.x.n):=⟨_,rfl⟩
 have hMi:(max 16 (4*(a.x.n:Int)):Int)=(M:Int):=by omega
 simp only[cond_true,<- hM]at h5 ⊢;simp only[hMi,Nat.zero_add,Int.toNat_natCast];have hlen:∀i,(dU a.x.t (bJ M) i).t.length=M:=fun i=>by rw[lp];simp[bJ]
 have hg:lq a.x=dU a.x.t (bJ M) a.x.t.length:=by unfold lq;rw[<- hM]
 rw[hg,hlen];refine fun _=>⟨by simp only[bL];omega,by omega,by omega,by omega,⟨(0,M),?_⟩,fun x hx=>?_⟩
 ·dsimp only
  and_intros<;>first|exact aj.refl _ _ _|skip
  all_goals first|exact trivial|rfl|omega|skip
  refine .dW fun i hi=>?_;unfold af;rw[show gl (dU a.x.t (bJ M) 0).t i=⟨.empty,0,false,false⟩from sX hi];rfl
 ·obtain⟨i,cap⟩:=x;have hx':i<=a.x.t.length:=hx;have h6:=h5 i;have sy:(gl a.x.t i).has=true->dU a.x.t (bJ M) (i+1)=me (dU a.x.t (bJ M) i) (gl a.x.t i).key (gl a.x.t i).pos:=fun e=>if_pos e;have sn:(gl a.x.t i).has=false->dU a.x.t (bJ M) (i+1)=dU a.x.t (bJ M) i:=fun e=>if_neg (by rw[e];decide);have se:¬i<a.x.t.length->dU a.x.t (bJ M) a.x.t.length=dU a.x.t (bJ M) i:=fun e=>by rw[show a.x.t.length=i by omega]
  dsimp only at *
  repeat' (first|intro _|apply And.intro|apply Exists.intro (l9.mk (dU a.x.t (bJ M) i) cap _ _)|apply Exists.intro ((i+1,cap):Nat×Nat)|apply Exists.intro (cap:Nat))
  all_goals(try with_reducible rfl)
  all_goals(try with_reducible exact aj.refl _ _ _)
  all_goals(try dsimp only)
  all_goals(try simp only[decide_eq_true_eq,decide_eq_false_iff_not,Bool.not_eq_true',Bool.not_eq_false',bL]at *)
  all_goals(try simp only[hlen,ob])
  all_goals(try exact trivial)
  all_goals(try omega)
  all_goals first
   |exact h4 i (by omega)
   |exact(h6 (by omega) (by assumption)).1
   |exact(h6 (by omega) (by assumption)).2.1
   |exact(h6 (by omega) (by assumption)).2.2 (by assumption)
   |(rw[sy (by assumption)];done)
   |(rw[sy (by assumption)];exact aj.refl _ _ _)
   |(rw[sn (by assumption)];done)
   |(rw[sn (by assumption)];exact aj.refl _ _ _)
   |(rw[se (by omega)];done)
   |(rw[se (by omega)];exact aj.refl _ _ _))
theorem Tp:ak (Y Tryz.prog).G.X 167 Tn:=aV fK To ⟨Tm,trivial⟩
def mK(p:bn):ByteArray×Int:=(p.key,p.pos)
def en(t:List bn):List (ByteArray×Int):=(t.filter (·.has)).map mK
def busy(p:bn):Bool:=!bare p
structure Inv(x:cK):Prop where
 lo:16<=x.t.length
 hi:x.t.length<=40000
 n:x.n=(en x.t).length
 used:x.used=x.t.countP busy
 half:2*x.used<x.t.length+2
 size:∀i,i<x.t.length->(gl x.t i).key.size<=aq
 Tq:∀i j,i<x.t.length->j<x.t.length->(gl x.t i).has=true->(gl x.t j).has=true->(gl x.t i).key=(gl x.t j).key->i=j
 path:∀i,i<x.t.length->(gl x.t i).has=true->∃d,d<x.t.length/\(dA x.t.length (gl x.t i).key+d)%x.t.length=i/\∀k,k<d->bare (gl x.t ((dA x.t.length (gl x.t i).key+k)%x.t.length))=false
theorem JT{s d L:Nat}:((s+d)%L+1)%L=(s+(d+1))%L:=by rw[Nat.mod_add_mod,Nat.add_assoc]
theorem vI{key:ByteArray}{p:bn}:hit key p=true↔p.has=true/\p.key=key:=by simp[hit]
theorem CO{t:List bn}{key:ByteArray}{i0 d0:Nat}(hL:1<=t.length)(hi:i0<t.length)(hh:hit key (gl t i0)=true)(hd:d0<t.length)
 (hp:(dA t.length key+d0)%t.length=i0) (hb:∀k,k<d0->bare (gl t ((dA t.length key+k)%t.length))=false)
 (hu:∀j,j<t.length->hit key (gl t j)=true->j=i0):∀(m d:Nat) (f:Int),d+m=d0->eW t key (t.length-d) ((dA t.length key+d)%t.length) f=((i0:Int),(i0:Int))
 |0,d,f,hm=>by
  have:d=d0:=by omega
  subst this;rw[hp,show t.length-d=(t.length-d-1)+1 by omega];simp only[eW,hh,if_true]
 |m+1,d,f,hm=>by
  have hlt:(dA t.length key+d)%t.length<t.length:=Nat.mod_lt _ hL;rw[show t.length-d=(t.length-(d+1))+1 by omega];by_cases h:hit key (gl t ((dA t.length key+d)%t.length))=true
  ·have:=hu _ hlt h;rw[this]at h ⊢;simp only[eW,h,if_true]
  ·simp only[eW,h,if_false,hb d (by omega),Bool.false_eq_true];rw[JT];exact CO hL hi hh hd hp hb hu m (d+1) _ (by omega)
theorem EV{t:List bn}{key:ByteArray}(hL:1<=t.length)(hu:∀j,j<t.length->hit key (gl t j)=false):∀(k i:Nat) (f:Int),i<t.length->0<=f->eW t key k i f=(-1,f)
 |0,i,f,hi,hf=>rfl
 |k+1,i,f,hi,hf=>by
  have h1:(!(gl t i).has&&decide (f<0))=false:=by simp;omega
  simp only[eW,hu i hi,Bool.false_eq_true,if_false,h1];split
  ·rfl
  ·exact EV hL hu k _ f (Nat.mod_lt _ hL) hf
theorem EW{t:List bn}{key:ByteArray}{d0:Nat}(hL:1<=t.length)(hd:d0<t.length)(hu:∀j,j<t.length->hit key (gl t j)=false)
 (hf:(gl t ((dA t.length key+d0)%t.length)).has=false) (hb:∀k,k<d0->(gl t ((dA t.length key+k)%t.length)).has=true) :
 ∀(m d:Nat),d+m=d0->eW t key (t.length-d) ((dA t.length key+d)%t.length) (-1)=(-1,(((dA t.length key+d0)%t.length:Nat):Int))
 |0,d,hm=>by
  have:d=d0:=by omega
  subst this;have hlt:(dA t.length key+d)%t.length<t.length:=Nat.mod_lt _ hL;rw[show t.length-d=(t.length-d-1)+1 by omega];have h1:(!(gl t ((dA t.length key+d)%t.length)).has&&decide ((-1:Int)<0))=true:=by simp[hf]
  simp only[eW,hu _ hlt,Bool.false_eq_true,if_false,h1,if_true];split
  ·rfl
  ·exact EV hL hu _ _ _ (Nat.mod_lt _ hL) (by omega)
 |m+1,d,hm=>by
  have hlt:(dA t.length key+d)%t.length<t.length:=Nat.mod_lt _ hL;rw[show t.length-d=(t.length-(d+1))+1 by omega];have h0:=hb d (by omega);have h1:(!(gl t ((dA t.length key+d)%t.length)).has&&decide ((-1:Int)<0))=false:=by simp[h0]
  have h2:bare (gl t ((dA t.length key+d)%t.length))=false:=by simp[bare,h0]
  simp only[eW,hu _ hlt,Bool.false_eq_true,if_false,h1,h2];rw[JT];exact EW hL hd hu hf hb m (d+1) (by omega)
theorem EX{L:Nat}{key:ByteArray}(hL:1<=L):(dA L key+0)%L=dA L key:=by
 rw[Nat.add_zero,Nat.mod_eq_of_lt (qo key hL)]
theorem AO{x:cK}(h:Inv x){i:Nat}(hi:i<x.t.length)(hh:(gl x.t i).has=true):bF x.t (gl x.t i).key=((i:Int),(i:Int)):=by
 obtain⟨d,h1,h2,h3⟩:=h.path i hi hh;have hL:1<=x.t.length:=by have:=h.lo;omega
 have:=CO (key:=(gl x.t i).key) hL hi (vI.2 ⟨hh,rfl⟩) h1 h2 h3 (fun j hj hj2=>h.Tq j i hj hi (vI.1 hj2).1 hh (vI.1 hj2).2) d 0 (-1) (by omega);rwa[EX hL,Nat.sub_zero]at this
theorem road{L s i:Nat}(hs:s<L)(hi:i<L):∃d,d<L/\(s+d)%L=i:=by
 by_cases h:s<=i
 ·exact⟨i-s,by omega,by rw[show s+(i-s)=i by omega];exact Nat.mod_eq_of_lt hi⟩
 ·refine⟨L+i-s,by omega,?_⟩;rw[show s+(L+i-s)=i+L by omega,Nat.add_mod_right];exact Nat.mod_eq_of_lt hi
theorem EY:∀(t:List bn),t.countP busy<t.length->∃i,i<t.length/\(gl t i).has=false
 |[],h=>absurd h (Nat.not_lt_zero _)
 |p::r,h=>by
  cases hp:p.has with
  |false=>exact⟨0,by simp,hp⟩
  |true =>
   have hb:busy p=true:=by simp[busy,bare,hp]
   rw[List.countP_cons_of_pos hb]at h;obtain⟨i,h1,h2⟩:=EY r (by simpa using h);exact⟨i+1,by simp;omega,h2⟩
theorem first{p:Nat->Bool}:∀d,p d=true->∃d0,d0<=d/\p d0=true/\∀k,k<d0->p k=false:=by
 intro d
 induction d using Nat.strongRecOn with
 |ind d ih =>
  intro h;by_cases hx:∃k,k<d/\p k=true
  ·obtain⟨k,hk,hp⟩:=hx;obtain⟨d0,a,b,c⟩:=ih k hk hp;exact⟨d0,by omega,b,c⟩
  ·refine⟨d,Nat.le_refl _,h,fun k hk=>?_⟩;cases hp:p k with
   |false=>rfl
   |true=>exact absurd ⟨k,hk,hp⟩ hx
def Mk(t:List bn)(key:ByteArray):Prop:=∀j,j<t.length->hit key (gl t j)=false
theorem CP{t:List bn}{key:ByteArray}(hL:1<=t.length)(hu:Mk t key)(hr:t.countP busy<t.length) :
 ∃d i,d<t.length/\(dA t.length key+d)%t.length=i/\i<t.length/\(gl t i).has=false/\(∀k,k<d->(gl t ((dA t.length key+k)%t.length)).has=true)/\bF t key=(-1,(i:Int)):=by
 obtain⟨i,h1,h2⟩:=EY t hr;obtain⟨d,h3,h4⟩:=road (qo key hL) h1;obtain⟨d0,g1,g2,g3⟩:=first (p:=fun d=>!(gl t ((dA t.length key+d)%t.length)).has) d (by simp[h4,h2])
 simp only[Bool.not_eq_true',Bool.not_eq_false']at g2 g3;have:=EW hL (show d0<t.length by omega) hu g2 g3 d0 0 (by omega);rw[EX hL,Nat.sub_zero]at this;exact⟨d0,_,by omega,rfl,Nat.mod_lt _ hL,g2,g3,this⟩
theorem JU{t:List bn}{i:Nat}(h:i<t.length):t=t.take i++gl t i::t.drop (i+1):=by
 rw[bR h,List.getElem_cons_drop,List.take_append_drop]
theorem EZ{t:List bn}{i:Nat}{q:bn}(h:i<t.length):t.set i q=t.take i++q::t.drop (i+1):=by
 rw[List.set_eq_take_append_cons_drop,if_pos h]
theorem yo(a b:List bn):en (a++b)=en a++en b:=by simp[en]
theorem pP(p:bn)(r:List bn):en (p::r)=(if p.has then[mK p]else[])++en r:=by
 unfold en;rw[List.filter_cons];split<;>simp
theorem yp{t:List bn}{i:Nat}(h:i<t.length):en t=en (t.take i)++((if(gl t i).has then[mK (gl t i)]else[])++en (t.drop (i+1))):=by
 conv=>lhs;rw[JU h]
 rw[yo,pP]
theorem CQ{t:List bn}{i:Nat}{q:bn}(h:i<t.length):en (t.set i q)=en (t.take i)++((if q.has then[mK q]else[])++en (t.drop (i+1))):=by
 rw[EZ h,yo,pP]
theorem Ml{t:List bn}{i:Nat}(h:i<t.length):t.countP busy=(t.take i).countP busy+((t.drop (i+1)).countP busy+if busy (gl t i)then 1 else 0):=by
 conv=>lhs;rw[JU h]
 rw[List.countP_append,List.countP_cons]
theorem Hh{t:List bn}{i:Nat}{q:bn}(h:i<t.length):(t.set i q).countP busy=(t.take i).countP busy+((t.drop (i+1)).countP busy+if busy q then 1 else 0):=by
 rw[EZ h,List.countP_append,List.countP_cons]
theorem yq{t:List bn}{k:ByteArray}{p:Int}:(k,p)∈en t↔∃i,i<t.length/\(gl t i).has=true/\(gl t i).key=k/\(gl t i).pos=p:=by
 unfold en;simp only[List.mem_map,List.mem_filter,mK,Prod.mk.injEq];constructor
 ·rintro⟨q,⟨h1,h2⟩,h3,h4⟩;obtain⟨i,hi,rfl⟩:=List.getElem_of_mem h1;exact⟨i,hi,by rw[bR hi];exact h2,by rw[bR hi];exact h3,by rw[bR hi];exact h4⟩
 ·rintro⟨i,h1,h2,h3,h4⟩;exact⟨_,⟨Gf h1,h2⟩,h3,h4⟩
theorem Mm{t:List bn}{k:ByteArray}:Mk t k↔k∉(en t).map Prod.fst:=by
 constructor
 ·intro h hm;obtain⟨⟨k',p⟩,h1,rfl⟩:=List.mem_map.1 hm;obtain⟨i,h2,h3,h4,_⟩:=yq.1 h1;have:=h i h2;rw[vI.2 ⟨h3,h4⟩]at this;cases this
 ·intro h j hj;cases hh:hit k (gl t j)with
  |false=>rfl
  |true =>
   obtain⟨h1,h2⟩:=vI.1 hh;exact absurd (List.mem_map.2 ⟨(k,(gl t j).pos),yq.2 ⟨j,hj,h1,h2,rfl⟩,rfl⟩) h
structure Has(x:cK)(l:List (ByteArray×Int)):Prop where
 inv:Inv x
 perm:(en x.t).Perm l
theorem Has.yu{x:cK}{l m:List (ByteArray×Int)}(h:Has x l)(p:l.Perm m):Has x m:=⟨h.inv,h.perm.trans p⟩
theorem Has.n{x:cK}{l:List (ByteArray×Int)}(h:Has x l):x.n=l.length:=by rw[h.inv.n,h.perm.length_eq]
theorem Has.mem{x:cK}{l:List (ByteArray×Int)}(h:Has x l){k:ByteArray}{p:Int}(hm:(k,p)∈l):∃i:Nat,i<x.t.length/\(gl x.t i).has=true/\(gl x.t i).key=k/\(gl x.t i).pos=p/\bF x.t k=((i:Int),(i:Int)):=by
 obtain⟨i,h1,h2,h3,h4⟩:=yq.1 (h.perm.mem_iff.2 hm);refine⟨i,h1,h2,h3,h4,?_⟩;rw[<- h3];exact AO h.inv h1 h2
theorem Has.none{x:cK}{l:List (ByteArray×Int)}(h:Has x l){k:ByteArray}(hm:k∉l.map Prod.fst):Mk x.t k:=Mm.2 fun hk=>hm ((h.perm.map _).mem_iff.1 hk)
theorem Inv.room{x:cK}(h:Inv x):x.t.countP busy<x.t.length:=by have:=h.half;have:=h.used;have:=h.lo;omega
theorem Has.rU{x:cK}{l:List (ByteArray×Int)}(h:Has x l){k:ByteArray}(hm:k∉l.map Prod.fst):(bF x.t k).1 = -1/\0<=(bF x.t k).2:=by
 obtain⟨d,i,_,_,_,_,_,e⟩:=CP (by have:=h.inv.lo;omega) (h.none hm) h.inv.room;rw[e];exact⟨rfl,by simp⟩
theorem Inv.set{x:cK}(h:Inv x){i:Nat}(hi:i<x.t.length){q:bn}(hb:bare q=false)(hs:q.key.size<=aq)
 (hd:q.has=true->∀j,j<x.t.length->j≠i->(gl x.t j).has=true->(gl x.t j).key≠q.key)
 (hp:q.has=true->∃d,d<x.t.length/\(dA x.t.length q.key+d)%x.t.length=i/\∀k,k<d->bare (gl x.t ((dA x.t.length q.key+k)%x.t.length))=false)
 {n' u':Nat} (hn:n'=(en (x.t.set i q)).length) (hu:u'=(x.t.set i q).countP busy) (hh:2*u'<x.t.length+2):Inv ⟨x.t.set i q,n',u'⟩:=by
 have hl:(x.t.set i q).length=x.t.length:=by simp
 have key:∀j,gl (x.t.set i q) j=if i=j then q else gl x.t j:=by
  intro j;by_cases e:i=j
  ·subst e;rw[if_pos rfl,uv hi]
  ·rw[if_neg e,y7 e]
 have bb:∀j,bare (gl x.t j)=false->bare (gl (x.t.set i q) j)=false:=by
  intro j hj;rw[key];split
  ·exact hb
  ·exact hj
 refine⟨by rw[hl];exact h.lo,by rw[hl];exact h.hi,hn,hu,by rw[hl];exact hh,fun j hj=>?_,fun a b ha hb' h1 h2 h3=>?_,fun j hj hj2=>?_⟩
 ·rw[hl]at hj;rw[key];split
  ·exact hs
  ·exact h.size j hj
 ·simp only[hl]at ha hb';simp only[key]at h1 h2 h3;by_cases e1:i=a
  ·by_cases e2:i=b
   ·omega
   ·rw[if_pos e1]at h1 h3;rw[if_neg e2]at h2 h3;exact absurd h3.symm (hd h1 b hb' (fun e=>e2 e.symm) h2)
  ·by_cases e2:i=b
   ·rw[if_neg e1]at h1 h3;rw[if_pos e2]at h2 h3;exact absurd h3 (hd h2 a ha (fun e=>e1 e.symm) h1)
   ·rw[if_neg e1]at h1 h3;rw[if_neg e2]at h2 h3;exact h.Tq a b ha hb' h1 h2 h3
 ·simp only[hl]at hj ⊢;simp only[key]at hj2;by_cases e:i=j
  ·rw[if_pos e]at hj2;subst e;obtain⟨d,h1,h2,h3⟩:=hp hj2;rw[show gl (x.t.set i q) i=q by rw[key,if_pos rfl]];exact⟨d,h1,h2,fun k hk=>bb _ (h3 k hk)⟩
  ·rw[if_neg e]at hj2;obtain⟨d,h1,h2,h3⟩:=h.path j hj hj2;rw[show gl (x.t.set i q) j=gl x.t j by rw[key,if_neg e]];exact⟨d,h1,h2,fun k hk=>bb _ (h3 k hk)⟩
theorem CR{p:bn}(h:p.has=true):busy p=true:=by simp[busy,bare,h]
theorem PW{x:cK}{l:List (ByteArray×Int)}{k:ByteArray}{p q:Int}(h:Has x ((k,q)::l)):Has (me x k p) ((k,p)::l)/\nF x k=q/\0<=(bF x.t k).1:=by
 obtain⟨i,h1,h2,h3,h4,h5⟩:=h.mem List.mem_cons_self;have e:me x k p=⟨x.t.set i { gl x.t i with pos:=p },x.n,x.used⟩:=by
  unfold me;rw[h5];simp
 have hk:(en x.t).Perm ((k,q)::(en (x.t.take i)++en (x.t.drop (i+1)))):=by
  rw[yp h1,h2];have:mK (gl x.t i)=(k,q):=by simp[mK,h3,h4]
  rw[if_pos rfl,this];exact List.perm_middle
 have hk':(en (x.t.set i { gl x.t i with pos:=p })).Perm ((k,p)::(en (x.t.take i)++en (x.t.drop (i+1)))):=by
  rw[CQ h1];simp only[h2,if_true,mK,h3];exact List.perm_middle
 have hl:(en (x.t.take i)++en (x.t.drop (i+1))).Perm l:=(List.perm_cons _).1 (hk.symm.trans h.perm);refine⟨⟨?_,?_⟩,by unfold nF;rw[h5];simp[h4],by rw[h5];simp⟩
 ·rw[e];refine h.inv.set (q:={ gl x.t i with pos:=p }) h1 (by simp[bare,h2]) (h.inv.size i h1) (fun _ j hj hne hj2 he=>hne (h.inv.Tq j i hj h1 hj2 h2 he)) (fun _=>h.inv.path i h1 h2) ?_ ?_ h.inv.half
  ·rw[h.inv.n,hk.length_eq,hk'.length_eq];rfl
  ·rw[h.inv.used,Ml h1,Hh h1,CR h2,CR (p:={ gl x.t i with pos:=p }) h2]
 ·rw[e];exact hk'.trans (hl.cons _)
theorem Of{x:cK}{l:List (ByteArray×Int)}{k:ByteArray}{p:Int}(h:Has x l)(hk:k∉l.map Prod.fst)(hs:k.size<=aq)(hr:2*x.used<x.t.length) :
 Has (me x k p) ((k,p)::l)/\nF x k=0/\(bF x.t k).1<0/\0<=(bF x.t k).2/\(me x k p).used<=x.used+1/\(me x k p).n=x.n+1:=by
 obtain⟨d,i,h1,h2,h3,h4,h5,h6⟩:=CP (by have:=h.inv.lo;omega) (h.none hk) h.inv.room;have e:me x k p=⟨x.t.set i ⟨k,p,true,false⟩,x.n+1,if(gl x.t i).gone then x.used else x.used+1⟩:=by
  unfold me;rw[h6];simp
 have hp0:en x.t=en (x.t.take i)++en (x.t.drop (i+1)):=by rw[yp h3,h4];simp
 have hp1:(en (x.t.set i ⟨k,p,true,false⟩)).Perm ((k,p)::en x.t):=by
  rw[CQ h3,hp0];simp only[if_true,mK];exact List.perm_middle
 have hb:busy (gl x.t i)=(gl x.t i).gone:=by simp[busy,bare,h4]
 refine⟨⟨?_,?_⟩,by unfold nF;rw[h6];simp,by rw[h6];simp,by rw[h6];simp,by rw[e];simp only;split<;>omega,by rw[e]⟩
 ·rw[e];refine h.inv.set (q:=⟨k,p,true,false⟩) h3 rfl hs (fun _ j hj hne hj2 he=>?_) (fun _=>⟨d,h1,h2,fun k hk=>by simp[bare,h5 k hk]⟩) ?_ ?_ (by split<;>omega)
  ·have:=h.none hk j hj;rw[vI.2 ⟨hj2,he⟩]at this;cases this
  ·rw[hp1.length_eq,List.length_cons,h.inv.n]
  ·rw[Hh h3,h.inv.used,Ml h3,hb];cases hg:(gl x.t i).gone<;>simp[busy,bare]<;>omega
 ·rw[e];exact hp1.trans (h.perm.cons _)
def wo:bn:=⟨.empty,0,false,true⟩
def kF(x:cK)(k:ByteArray):cK:=if 0<=(bF x.t k).1 then⟨x.t.set (bF x.t k).1.toNat wo,x.n-1,x.used⟩else x
theorem CS{x:cK}{l:List (ByteArray×Int)}{k:ByteArray}{q:Int}(h:Has x ((k,q)::l)):Has (kF x k) l/\0<=(bF x.t k).1:=by
 obtain⟨i,h1,h2,h3,h4,h5⟩:=h.mem List.mem_cons_self;have e:kF x k=⟨x.t.set i wo,x.n-1,x.used⟩:=by unfold kF;rw[h5];simp
 have hk:(en x.t).Perm ((k,q)::(en (x.t.take i)++en (x.t.drop (i+1)))):=by
  rw[yp h1,h2];have:mK (gl x.t i)=(k,q):=by simp[mK,h3,h4]
  rw[if_pos rfl,this];exact List.perm_middle
 have hk':en (x.t.set i wo)=en (x.t.take i)++en (x.t.drop (i+1)):=by rw[CQ h1];rfl
 have hl:(en (x.t.take i)++en (x.t.drop (i+1))).Perm l:=(List.perm_cons _).1 (hk.symm.trans h.perm);refine⟨⟨?_,?_⟩,by rw[h5];simp⟩
 ·rw[e];refine h.inv.set (q:=wo) h1 rfl (by unfold aq;decide) (fun hc=>by cases hc) (fun hc=>by cases hc) ?_ ?_ h.inv.half
  ·rw[h.inv.n,hk.length_eq,hk'];rfl
  ·rw[h.inv.used,Ml h1,Hh h1,CR h2];rfl
 ·rw[e,hk'];exact hl
theorem PX{x:cK}{l:List (ByteArray×Int)}{k:ByteArray}(h:Has x l)(hk:k∉l.map Prod.fst):kF x k=x:=by
 unfold kF;rw[(h.rU hk).1];rfl
def low(p:Int)(q:bn):Bool:=q.has&&decide (q.pos<p)
def eo(t:List bn)(p:Int):Nat->List bn
 |0=>t
 |i+1=>if low p (gl t i)then(eo t p i).set i wo else eo t p i
def dL(t:List bn)(p:Int):Nat->Nat
 |0=>0
 |i+1=>dL t p i+if low p (gl t i)then 1 else 0
def uW(x:cK)(p:Int):cK:=⟨eo x.t p x.t.length,x.n-dL x.t p x.t.length,x.used⟩
theorem iO(t:List bn)(p:Int):∀i,(eo t p i).length=t.length
 |0=>rfl
 |i+1=>by unfold eo;split<;>simp[iO t p i]
theorem zJ(t:List bn)(p:Int):∀i,i<=t.length->∀j,gl (eo t p i) j=if j<i/\low p (gl t j)then wo else gl t j
 |0,_,j=>by simp[eo]
 |i+1,hi,j=>by
  have ih:=zJ t p i (by omega) j;unfold eo;by_cases h:low p (gl t i)=true
  ·rw[if_pos h];by_cases hj:i=j
   ·subst hj;rw[uv (by rw[iO];omega),if_pos ⟨by omega,h⟩]
   ·rw[y7 hj,ih]
    grind
  ·rw[if_neg h,ih];by_cases hj:i=j
   ·subst hj;rw[if_neg (by simp),if_neg (fun hc=>h hc.2)]
   ·grind
theorem AP{x:cK}{l:List (ByteArray×Int)}(h:Has x l)(p:Int):∀i,i<=x.t.length ->
 Has ⟨eo x.t p i,x.n-dL x.t p i,x.used⟩ (((x.t.take i).filter fun q=>q.has&&!low p q).map mK++en (x.t.drop i))/\dL x.t p i=((x.t.take i).filter (low p)).length
 |0,_=>⟨⟨h.inv,by simp[eo]⟩,rfl⟩
 |i+1,hi=>by
  obtain⟨⟨i1,i2⟩,i3⟩:=AP h p i (by omega);have hT:=zJ x.t p i (by omega) i;rw[if_neg (by simp)]at hT;have hLen:=iO x.t p i;rw[gq (by omega),List.filter_append,List.filter_append,List.map_append,List.length_append,<- i3];have hdrop:en (x.t.drop i)=(if(gl x.t i).has then[mK (gl x.t i)]else[])++en (x.t.drop (i+1)):=by
   rw[<- pP,bR (by omega),List.getElem_cons_drop]
  rw[hdrop]at i2;by_cases hl:low p (gl x.t i)=true
  ·have hh:(gl x.t i).has=true:=by simp[low]at hl;exact hl.1
   have e1:eo x.t p (i+1)=(eo x.t p i).set i wo:=if_pos hl;have e2:dL x.t p (i+1)=dL x.t p i+1:=by show dL x.t p i+(if low p (gl x.t i)=true then 1 else 0)=_;rw[if_pos hl]
   have h0:Has ⟨eo x.t p i,x.n-dL x.t p i,x.used⟩ ((mK (gl x.t i))::(((x.t.take i).filter fun q=>q.has&&!low p q).map mK++en (x.t.drop (i+1)))):=by
    refine⟨i1,i2.trans ?_⟩;rw[if_pos hh];exact List.perm_middle
   have h1:=CS (x:=⟨eo x.t p i,x.n-dL x.t p i,x.used⟩) h0;have hf:=AO i1 (i:=i) (by simp only;omega) (by simp only;rw[hT];exact hh);simp only at hf;rw[hT]at hf;have e3:kF ⟨eo x.t p i,x.n-dL x.t p i,x.used⟩ (gl x.t i).key=⟨(eo x.t p i).set i wo,x.n-(dL x.t p i+1),x.used⟩:=by
    unfold kF;simp only;rw[hf];simp;omega
   refine⟨?_,by rw[e2];simp[hl]⟩;rw[e1,e2,<- e3];simp only[List.filter_cons,hl,hh,Bool.not_true,Bool.and_false,List.filter_nil,List.map_nil,List.append_nil,Bool.false_eq_true,if_false];exact h1.1
  ·have e1:eo x.t p (i+1)=eo x.t p i:=if_neg hl;have e2:dL x.t p (i+1)=dL x.t p i:=by show dL x.t p i+(if low p (gl x.t i)=true then 1 else 0)=_;rw[if_neg hl];rfl
   refine⟨⟨?_,?_⟩,by rw[e2];simp[hl]⟩
   ·rw[e1,e2];exact i1
   ·rw[e1];refine i2.trans (.of_eq ?_);cases hh:(gl x.t i).has<;>simp[hl,hh]
theorem E0{α:Type}(f:α->Bool):∀l:List α,l.length=(l.filter f).length+(l.filter fun e=>!f e).length
 |[]=>rfl
 |a::r=>by
  have:=E0 f r;cases h:f a<;>simp[List.filter_cons,h]<;>omega
theorem PY{x:cK}{l:List (ByteArray×Int)}(h:Has x l)(p:Int):Has (uW x p) (l.filter fun e=>decide (p<=e.2))/\dL x.t p x.t.length=l.length-(l.filter fun e=>decide (p<=e.2)).length/\dL x.t p x.t.length<=l.length:=by
 obtain⟨h1,h2⟩:=AP h p x.t.length (Nat.le_refl _);rw[List.take_length]at h1 h2;rw[List.drop_length]at h1;have e:((x.t.filter fun q=>q.has&&!low p q).map mK++en [])=(en x.t).filter fun e=>decide (p<=e.2):=by
  unfold en;rw[List.filter_map,List.filter_filter];simp only[List.filter_nil,List.map_nil,List.append_nil];congr 1;apply List.filter_congr;intro q _;simp only[Function.comp,low,mK];by_cases hc:q.pos<p
  ·have hd:¬p<=q.pos:=by omega
   cases hq:q.has<;>simp[hc,hd]
  ·have hd:p<=q.pos:=by omega
   cases hq:q.has<;>simp[hc,hd]
 rw[e]at h1;have hp:=(h.perm.filter fun e=>decide (p<=e.2))
 have e2:(x.t.filter (low p)).length=((en x.t).filter fun e=>!decide (p<=e.2)).length:=by
  unfold en;rw[List.filter_map,List.length_map,List.filter_filter];congr 1;apply List.filter_congr;intro q _;simp only[Function.comp,low,mK];by_cases hc:q.pos<p
  ·have hd:¬p<=q.pos:=by omega
   cases hq:q.has<;>simp[hc,hd]
  ·have hd:p<=q.pos:=by omega
   cases hq:q.has<;>simp[hc,hd]
 have e3:=E0 (fun e:ByteArray×Int=>decide (p<=e.2)) (en x.t);refine⟨h1.yu hp,?_,?_⟩
 ·rw[h2,e2,<- hp.length_eq,<- h.perm.length_eq];omega
 ·rw[h2,e2,<- h.perm.length_eq];omega
theorem vJ{n:Nat}(h1:16<=n)(h2:n<=40000):Has (bJ n) []:=by
 have key:∀i,i<n->gl (List.replicate n (⟨.empty,0,false,false⟩:bn)) i=⟨.empty,0,false,false⟩:=fun i hi=>sX hi;have he:en (List.replicate n (⟨.empty,0,false,false⟩:bn))=[]:=by simp[en]
 refine⟨⟨by simpa[bJ]using h1,by simpa[bJ]using h2,?_,?_,by simp only[bJ,List.length_replicate];omega,fun i hi=>?_,fun i j hi hj h=>?_,fun i hi h=>?_⟩,by simp only[bJ];rw[he]⟩
 ·simp only[bJ];rw[he];rfl
 ·simp[bJ,List.countP_replicate,busy,bare]
 ·simp only[bJ,List.length_replicate]at hi ⊢;rw[key i hi];simp only[aq];decide
 ·simp only[bJ,List.length_replicate]at hi h;rw[key i hi]at h;cases h
 ·simp only[bJ,List.length_replicate]at hi h;rw[key i hi]at h;cases h
theorem CT{x:cK}(h:Inv x){i:Nat}(hi:i<x.t.length)(hh:(gl x.t i).has=true):(gl x.t i).key∉(en (x.t.take i)).map Prod.fst:=by
 intro hm;obtain⟨⟨k,p⟩,h1,h2⟩:=List.mem_map.1 hm;obtain⟨j,h3,h4,h5,_⟩:=yq.1 h1;rw[List.length_take]at h3;rw[NX (by omega)]at h4 h5;have:=h.Tq j i (by omega) hi h4 hh (h5.trans h2);omega
theorem grow_step{x:cK}(h:Inv x)(hn:x.n<10000):∀i,i<=x.t.length ->
 Has (dU x.t (bJ (max 16 (4*x.n))) i) (en (x.t.take i))/\(dU x.t (bJ (max 16 (4*x.n))) i).used<=(dU x.t (bJ (max 16 (4*x.n))) i).n
 |0,_=>⟨by simpa[dU,en]using vJ (n:=max 16 (4*x.n)) (by omega) (by omega),Nat.le_refl _⟩
 |i+1,hi=>by
  obtain⟨h1,h2⟩:=grow_step h hn i (by omega);have hT:=gq (l:=x.t) (i:=i) (by omega);rw[hT,yo];unfold dU;by_cases hh:(gl x.t i).has=true
  ·rw[if_pos hh];have hcount:(en (x.t.take i)).length+1<=x.n:=by
    rw[h.n,yp (show i<x.t.length by omega),if_pos hh];simp
   have hlen:(dU x.t (bJ (max 16 (4*x.n))) i).t.length=max 16 (4*x.n):=by rw[lp];simp[bJ]
   obtain⟨g1,g2,g3,g4,g5,g6⟩:=Of (p:=(gl x.t i).pos) h1 (CT h (by omega) hh) (h.size i (by omega)) (by rw[hlen];have:=h1.n;omega);refine⟨g1.yu ?_,by omega⟩;rw[pP,if_pos hh];simp only[en,List.filter_nil,List.map_nil,List.append_nil];exact(List.perm_append_singleton _ _).symm
  ·rw[if_neg hh,pP,if_neg hh];simp only[en,List.filter_nil,List.map_nil,List.append_nil];exact⟨h1,h2⟩
theorem Tr{x:cK}(h:Inv x)(hn:x.n<10000):∀i,i<x.t.length->(gl x.t i).has=true->2*(dU x.t (bJ (max 16 (4*x.n))) i).used<max 16 (4*x.n)/\(dU x.t (bJ (max 16 (4*x.n))) i).n<100000 /\
 ((bF (dU x.t (bJ (max 16 (4*x.n))) i).t (gl x.t i).key).1<0->0<=(bF (dU x.t (bJ (max 16 (4*x.n))) i).t (gl x.t i).key).2):=by
 intro i hi hh;obtain⟨h1,h2⟩:=grow_step h hn i (by omega);have hcount:(en (x.t.take i)).length+1<=x.n:=by
  rw[h.n,yp hi,if_pos hh];simp
 have:=h1.n;exact⟨by omega,by omega,fun _=>(h1.rU (CT h hi hh)).2⟩
theorem Ts{x:cK}{l:List (ByteArray×Int)}(h:Has x l)(hn:x.n<10000):Has (lq x) l/\2*(lq x).used<(lq x).t.length:=by
 obtain⟨h1,h2⟩:=grow_step h.inv hn x.t.length (Nat.le_refl _);rw[List.take_length]at h1;refine⟨h1.yu h.perm,?_⟩;have hlen:(lq x).t.length=max 16 (4*x.n):=by unfold lq;rw[lp];simp[bJ]
 have e1:=h1.n;have e2:=h.inv.n;rw[hlen];unfold lq;omega
def roomy(x:cK):cK:=if x.t.length<=2*x.used then lq x else x
def tS(x:cK)(k:ByteArray)(p:Int):cK:=me (roomy x) k p
theorem zK{x:cK}{l:List (ByteArray×Int)}(h:Has x l)(hn:x.n<10000):Has (roomy x) l/\2*(roomy x).used<(roomy x).t.length:=by
 unfold roomy;split
 ·exact Ts h hn
 ·exact⟨h,by omega⟩
theorem Mn{x:cK}{l:List (ByteArray×Int)}{k:ByteArray}{p q:Int}(h:Has x ((k,q)::l))(hn:x.n<10000):Has (tS x k p) ((k,p)::l)/\nF (roomy x) k=q :=
 let h1:=zK h hn
 let h2:=PW (p:=p) h1.1
 ⟨h2.1,h2.2.1⟩
theorem Tt{x:cK}{l:List (ByteArray×Int)}{k:ByteArray}{p:Int}(h:Has x l)(hn:x.n<10000)(hk:k∉l.map Prod.fst)(hs:k.size<=aq):Has (tS x k p) ((k,p)::l)/\nF (roomy x) k=0 :=
 let h1:=zK h hn
 let h2:=Of (p:=p) h1.1 hk hs h1.2
 ⟨h2.1,h2.2.1⟩
theorem Has.free{x:cK}{l:List (ByteArray×Int)}(h:Has x l)(k:ByteArray)(hf:(bF x.t k).1<0):0<=(bF x.t k).2:=by
 by_cases hk:k∈l.map Prod.fst
 ·obtain⟨⟨k',p⟩,h1,rfl⟩:=List.mem_map.1 hk;obtain⟨i,_,_,_,_,e⟩:=h.mem h1;rw[e]at hf;simp at hf;omega
 ·exact(h.rU hk).2
def xq(x:cK)(k:ByteArray):Int×Bool:=if 0<=(bF x.t k).1 then((gl x.t (bF x.t k).1.toNat).pos,true)else(0,false)
theorem E3{x:cK}{l:List (ByteArray×Int)}(h:Has x l){k:ByteArray}{p:Int}(hm:(k,p)∈l):xq x k=(p,true):=by
 obtain⟨i,_,_,_,h4,e⟩:=h.mem hm;unfold xq;rw[e];simp[h4]
theorem get_none{x:cK}{l:List (ByteArray×Int)}(h:Has x l){k:ByteArray}(hm:k∉l.map Prod.fst):xq x k=(0,false):=by
 unfold xq;rw[(h.rU hm).1];rfl
noncomputable def Ch:cD where
 α:=l9
 β:=Nat
 m:=2
 m':=3
 pre:=fun a=>Inv a.x/\a.x.n<9999/\a.key.size<=aq
 args:=fun a=>[.a (.ptr 0 0 0 0),.a (.str a.key),.a (.int .i64 a.pos)]
 hp:=fun a=>o8 0 1 a.x.t a.cap a.x.n a.x.used
 ro:=fun _=>[]
 post:=fun _ _=>True
 res:=fun a _=>.a (.int .i64 (nF (roomy a.x) a.key))
 cT:=fun a cap=>o8 0 2 (tS a.x a.key a.pos).t cap (tS a.x a.key a.pos).n (tS a.x a.key a.pos).used
def _root_.Mo(y:Ix.l9)(z:Ix.cK)(v:Nat):Ix.oa->Prop:=fun(w:Ix.oa)=>Od y w z v (∃u:Nat,Oe z w (Ix.roomy y.x) y (Ix.tS y.x y.key y.pos) v u) (∃u:Nat,EU (Ix.roomy y.x) y z (Ix.tS y.x y.key y.pos) v u (aY z.used) w) (∃u:Nat,EU (Ix.roomy y.x) y z (Ix.tS y.x y.key y.pos) v u (aa z.used) w)
def _root_.zL(y:Ix.l9):=Ix.Inv y.x/\y.x.n<9999/\bA y.key<=aq
theorem Gj:fnBody (Y Tryz.prog) [(168,ET),(167,Tn)] 123 Ch fun _=>[]:=fnBody.of (p :=
 ∀y:Ix.l9,zL y->ah (aa y.x.used)->sN ((2:Int)*aa y.x.used) (aa (bI y.x)) (∃z:Ix.AN,ag (ag (bI y.x=bI z.x/\y.cap=z.cap)/\zH y.x z.x (bI y.x) (Hf z) (∀u:Nat,True->Exists (Mo y (Ix.lq z.x) u)))) (Exists (Mo y y.x y.cap))) (by kernel_rfl) (by
 delta aO aL ah bu eF bI aY aa bH bg aD dO aX bM Od EU aI bA Oe bE mJ nH xo fZ Hf cR ag Mo zH aP zG nG bq dZ rq bx sN iy cZ dX zL
 try dsimp -iota -proj only
 intro a h;obtain⟨h1,h2,h3⟩:=h;obtain⟨g1,g2⟩:=zK (Has.mk h1 (List.Perm.refl _)) (show a.x.n<10000 by omega);have k1:=h1.lo;have k2:=h1.hi;have k3:=h1.half;simp only[Nat.zero_add,bL];refine fun _=>⟨by omega,fun hc=>?_,fun hc=>?_⟩
 ·have hr:roomy a.x=lq a.x:=if_pos (by simp at hc;omega);have hpx:tS a.x a.key a.pos=me (lq a.x) a.key a.pos:=by unfold tS;rw[hr]
  have hn:(lq a.x).n=a.x.n:=by rw[hr]at g1;rw[g1.n,h1.n]
  have hm:=Tr h1 (show a.x.n<10000 by omega);simp only[hr,hpx]at g1 g2 ⊢;refine⟨⟨a.x,a.cap⟩,?_⟩;dsimp only
  and_intros<;>first|exact trivial|rfl|omega|exact aj.refl _ _ _|exact h1.size|exact hm|skip
  refine fun cap _=>⟨⟨(lq a.x).t,cap,(lq a.x).n,(lq a.x).used,a.key⟩,?_⟩
  generalize lq a.x=y at *;have m1:=g1.inv.lo;have m2:=g1.inv.hi;have m3:=g1.inv.half;obtain⟨l1,l2⟩:=uV (t:=y.t) a.key (by omega);have l3:=g1.free a.key;have hl:=ob y a.key a.pos;have yes:0<=(bF y.t a.key).1->me y a.key a.pos={ y with t:=y.t.set (bF y.t a.key).1.toNat { gl y.t (bF y.t a.key).1.toNat with pos:=a.pos } }:=fun e=>if_pos e;have no:¬0<=(bF y.t a.key).1->me y a.key a.pos=⟨y.t.set (bF y.t a.key).2.toNat ⟨a.key,a.pos,true,false⟩,y.n+1,if(gl y.t (bF y.t a.key).2.toNat).gone then y.used else y.used+1⟩:=fun e=>if_neg e;dsimp only
  repeat' (first|intro _|apply And.intro|apply Exists.intro (cap:Nat))
  all_goals(try with_reducible rfl)
  all_goals(try simp only[decide_eq_true_eq,decide_eq_false_iff_not,Bool.not_eq_true',Bool.not_eq_false']at *)
  all_goals(try exact trivial)
  all_goals(try omega)
  all_goals(try(grind [nF]))
  all_goals(try(with_reducible exact aj.refl _ _ _))
  all_goals(first|(rw[yes (by assumption)];refine .set _ (by omega) (fun i hi=>by simp only[gN hi]) ?_;simp only[iY];rfl)|(rw[no (by assumption)];refine .set _ (by omega) (fun i hi=>by simp only[gN hi]) ?_;simp only[iY];rfl))
 ·have hr:roomy a.x=a.x:=if_neg (by simp at hc;omega);have hpx:tS a.x a.key a.pos=me a.x a.key a.pos:=by unfold tS;rw[hr]
  simp only[hr,hpx]at g1 g2 ⊢;refine⟨⟨a.x.t,a.cap,a.x.n,a.x.used,a.key⟩,?_⟩;have hn:a.x.n=a.x.n:=rfl;obtain⟨cap,hcap⟩:∃cap,cap=a.cap:=⟨_,rfl⟩
  rw[<- hcap];generalize hy:a.x=y at *;have m1:=g1.inv.lo;have m2:=g1.inv.hi;have m3:=g1.inv.half;obtain⟨l1,l2⟩:=uV (t:=y.t) a.key (by omega);have l3:=g1.free a.key;have hl:=ob y a.key a.pos;have yes:0<=(bF y.t a.key).1->me y a.key a.pos={ y with t:=y.t.set (bF y.t a.key).1.toNat { gl y.t (bF y.t a.key).1.toNat with pos:=a.pos } }:=fun e=>if_pos e;have no:¬0<=(bF y.t a.key).1->me y a.key a.pos=⟨y.t.set (bF y.t a.key).2.toNat ⟨a.key,a.pos,true,false⟩,y.n+1,if(gl y.t (bF y.t a.key).2.toNat).gone then y.used else y.used+1⟩:=fun e=>if_neg e;dsimp only
  repeat' (first|intro _|apply And.intro|apply Exists.intro (cap:Nat))
  all_goals(try with_reducible rfl)
  all_goals(try simp only[decide_eq_true_eq,decide_eq_false_iff_not,Bool.not_eq_true',Bool.not_eq_false']at *)
  all_goals(try exact trivial)
  all_goals(try omega)
  all_goals(try(grind [nF]))
  all_goals(try(with_reducible exact aj.refl _ _ _))
  all_goals(first|(rw[yes (by assumption)];refine .set _ (by omega) (fun i hi=>by simp only[gN hi]) ?_;simp only[iY];rfl)|(rw[no (by assumption)];refine .set _ (by omega) (fun i hi=>by simp only[gN hi]) ?_;simp only[iY];rfl)))
structure tT where
 x:cK
 cap:Nat
 key:ByteArray
noncomputable def Jt:cD where
 α:=tT
 β:=Unit
 m:=2
 m':=2
 pre:=fun a=>Inv a.x/\a.key.size<=aq
 args:=fun a=>[.a (.ptr 0 0 0 0),.a (.str a.key)]
 hp:=fun _=>[]
 ro:=fun a=>o8 0 1 a.x.t a.cap a.x.n a.x.used
 post:=fun _ _=>True
 res:=fun a _=>.l8 [.a (.int .i64 (xq a.x a.key).1),.a (.bool (xq a.x a.key).2)]
 cT:=fun _ _=>[]
theorem Gk:fnBody (Y Tryz.prog) [(168,ET)] 212 Jt fun _=>[]:=fnBody.of (p :=
 ∀y:Ix.tT,Ix.Inv y.x/\bA y.key<=aq->∃z:Ix.oa,xo y.key z y.x y.cap (aQ (Ix.bF z.t z.key).fst 0) (ay ((0:Int)=(Ix.xq y.x y.key).fst/\fL (Ix.xq y.x y.key).snd True True)) (Ix.bF z.t z.key).fst (ah (gl y.x.t (rq z)).pos->ay ((gl y.x.t (rq z)).pos=(Ix.xq y.x y.key).fst/\bp (true=(Ix.xq y.x y.key).snd)))) (by kernel_rfl) (by
 delta aO aL ah eF bI aQ aa bg aD aX fL aI bA xo ay ag nG bq bp rq iy cZ
 try dsimp -iota -proj only
 intro a h;obtain⟨h1,h2⟩:=h;have k1:=h1.lo;have k2:=h1.hi;obtain⟨l1,l2⟩:=uV (t:=a.x.t) a.key (by omega);refine⟨⟨a.x.t,a.cap,a.x.n,a.x.used,a.key⟩,?_⟩;simp only[Nat.zero_add,bL]
 repeat' (first|intro _|apply And.intro|apply Exists.intro ())
 all_goals(try with_reducible rfl)
 all_goals(try simp only[decide_eq_true_eq,decide_eq_false_iff_not]at *)
 all_goals(try exact trivial)
 all_goals(try omega)
 all_goals(try(with_reducible exact aj.refl _ _ _))
 all_goals(try(grind [xq])))
noncomputable def Og:cD where
 α:=tT
 β:=Unit
 m:=2
 m':=2
 pre:=fun a=>Inv a.x/\a.x.n<10000/\a.key.size<=aq/\(0<=(bF a.x.t a.key).1->1<=a.x.n)
 args:=fun a=>[.a (.ptr 0 0 0 0),.a (.str a.key)]
 hp:=fun a=>o8 0 1 a.x.t a.cap a.x.n a.x.used
 ro:=fun _=>[]
 post:=fun _ _=>True
 res:=fun a _=>.a (.bool (decide (0<=(bF a.x.t a.key).1)))
 cT:=fun a _=>o8 0 1 (kF a.x a.key).t a.cap (kF a.x a.key).n (kF a.x a.key).used
def _root_.zM(y:Ix.tT):=Ix.Inv y.x/\y.x.n<10000/\bA y.key<=aq/\((0:Int)<=(Ix.bF y.x.t y.key).fst->1<=y.x.n)
def _root_.Hi(x:Ix.cK)(y:Int)(u:Prop)(v:Ix.cK)(z:Nat)(w:Nat->Nat->Value):=nC (aa x.n) y (ay (u/\nH (bI x) v z z (aa x.n-y) (aa x.used) w True))
theorem Tu:fnBody (Y Tryz.prog) [(168,ET)] 180 Og fun _=>[]:=fnBody.of (p :=
 ∀y:Ix.tT,zM y->∃z:Ix.oa,xo y.key z y.x y.cap (aQ (Ix.bF z.t z.key).fst 0) (ay (fL (cR 0 (Ix.bF y.x.t y.key).fst) (ag (bI y.x=bI (Ix.kF y.x y.key)/\y.cap=y.cap)) (zH y.x (Ix.kF y.x y.key) (bI y.x) True True))) (Ix.bF z.t z.key).fst (Hi y.x 1 (true=cR 0 (Ix.bF y.x.t y.key).fst) (Ix.kF y.x y.key) y.cap (jV (cZ y.x.t) (rq z) 0 (dZ dc 0 (bM fZ qe))))) (by kernel_rfl) (by
 delta aO aL ah bu eF bI aQ aa bH bg aD dO aX fL bM dc aI bA bE nH xo ay fZ cR ag zH zM qe nG bq dZ nC rq iy cZ dX Hi
 try dsimp -iota -proj only
 intro a h;obtain⟨h1,h2,h3,h4⟩:=h;have k1:=h1.lo;have k2:=h1.hi;obtain⟨l1,l2⟩:=uV (t:=a.x.t) a.key (by omega);have yes:0<=(bF a.x.t a.key).1->kF a.x a.key=⟨a.x.t.set (bF a.x.t a.key).1.toNat wo,a.x.n-1,a.x.used⟩:=fun e=>if_pos e;have no:¬0<=(bF a.x.t a.key).1->kF a.x a.key=a.x:=fun e=>if_neg e;refine⟨⟨a.x.t,a.cap,a.x.n,a.x.used,a.key⟩,?_⟩;simp only[Nat.zero_add,bL]
 repeat' (first|intro _|apply And.intro|apply Exists.intro ())
 all_goals(try with_reducible rfl)
 all_goals(try simp only[decide_eq_true_eq,decide_eq_false_iff_not]at *)
 all_goals(try exact trivial)
 all_goals(try omega)
 all_goals(try(with_reducible exact aj.refl _ _ _))
 all_goals(try(grind))
 all_goals(first|(rw[yes (by omega)];refine .set _ (by omega) (fun i hi=>by simp only[gN hi]) ?_;simp only[iY];rfl)|(rw[no (by omega)];exact aj.refl _ _ _)|skip))
structure Mp where
 x:cK
 cap:Nat
 pos:Int
noncomputable def Mq:cD where
 α:=Mp
 β:=Unit
 m:=2
 m':=2
 pre:=fun a=>Inv a.x/\a.x.n<10000/\dL a.x.t a.pos a.x.t.length<=a.x.n
 args:=fun a=>[.a (.ptr 0 0 0 0),.a (.int .i64 a.pos)]
 hp:=fun a=>o8 0 1 a.x.t a.cap a.x.n a.x.used
 ro:=fun _=>[]
 post:=fun _ _=>True
 res:=fun a _=>.a (.int .i64 (dL a.x.t a.pos a.x.t.length))
 cT:=fun a _=>o8 0 1 (uW a.x a.pos).t a.cap (uW a.x a.pos).n (uW a.x a.pos).used
def XS(a:Mp):An:=.flat 5 Nat (fun s i=>((s.at_ (s.fh (s.tg 0) 0) (.arr 251 XR a.x.t.length (af Ba (eo a.x.t a.pos i)))).int 15 i).int 5 (dL a.x.t a.pos i))
 (fun _ i=>i<=a.x.t.length) (fun _ i=>a.x.t.length-i)
def _root_.wq(y:Bool)(z:Int)(u:Bool)(v x:Prop):=aO y (ah z->aO u v x) x
def _root_.Hj(u:Int)(y:Ix.Mp)(v:Int)(w:Nat->Nat->Value)(s:Nat->Prop):=∃z:Nat,u=aa (Ix.dL y.x.t y.pos z)/\v=aa z/\dK (bI y.x) y.cap (mu (aG y.pos/\bD (bI y.x) y.cap/\cz (aa y.x.n) (aa y.x.used) (aL (bI y.x) (bI y.x) 4 w (cZ (Ix.eo y.x.t y.pos z))) (s z)))
def _root_.Hl(y:Ix.Mp):=Ix.Inv y.x/\y.x.n<10000/\Ix.dL y.x.t y.pos (bI y.x)<=y.x.n
theorem PZ:fnBody (Y Tryz.prog) [] 163 Mq fun a=>[(163,[XS a],[])]:=fnBody.of (p :=
 ∀y:Ix.Mp,Hl y->(Hj 0 y 0 (cZ y.x.t) fun z=>z<=bI y.x/\True)/\∀z:Nat,z<=bI y.x->gD z (bI y.x) (wq (Ix.bn.has (jH (Ix.eo y.x.t y.pos z) z)) (Ix.bn.pos (jH (Ix.eo y.x.t y.pos z) z)) (aQ (Ix.bn.pos (jH (Ix.eo y.x.t y.pos z) z)) y.pos) (dR z (bI y.x) (aP (Ix.dL y.x.t y.pos z) (aP z (Hj (aY (Ix.dL y.x.t y.pos z)) y (aY z) (jV (cZ (Ix.eo y.x.t y.pos z)) (0+az z) 0 (dZ dc 0 (bM fZ qe))) fun u=>bS u (bI y.x) z)))) (aP z (Hj (aa (Ix.dL y.x.t y.pos z)) y (aY z) (cZ (Ix.eo y.x.t y.pos z)) fun u=>bS u (bI y.x) z))) (Hi y.x (aa (Ix.dL y.x.t y.pos z)) (bq (Ix.dL y.x.t y.pos z) (Ix.dL y.x.t y.pos (bI y.x))) (Ix.uW y.x y.pos) y.cap (cZ (Ix.eo y.x.t y.pos z)))) (by kernel_rfl) (by
 delta aO cz aL ah bu bW az aG bB eF bI aQ aY aa bH bg aD dO aX bM wq dc gD bD cH bE bS dK nH ay Hj fZ aW ag aA aP bh qe bq dZ nC dR cZ mu dX jH Hi Hl
 try dsimp -iota -proj only
 intro a h;obtain⟨h1,h2,h3⟩:=h;have k1:=h1.lo;have k2:=h1.hi;simp only[Nat.zero_add,bL];have hlen:=iO a.x.t a.pos;refine⟨⟨0,?_⟩,fun i hi=>?_⟩
 ·and_intros<;>(first|exact trivial|rfl|omega|assumption|exact aj.refl _ _ _|(simp only[bL];omega)|(simp;done)|(simp;omega)|grind)
 ·have hat:=zJ a.x.t a.pos i hi i;rw[if_neg (by simp)]at hat;have sy:low a.pos (gl a.x.t i)=true->eo a.x.t a.pos (i+1)=(eo a.x.t a.pos i).set i wo:=fun e=>if_pos e;have sn:¬low a.pos (gl a.x.t i)=true->eo a.x.t a.pos (i+1)=eo a.x.t a.pos i:=fun e=>if_neg e;have ny:low a.pos (gl a.x.t i)=true->dL a.x.t a.pos (i+1)=dL a.x.t a.pos i+1:=fun e=>by show _+(if _ then 1 else 0)=_;rw[if_pos e]
  have nn:¬low a.pos (gl a.x.t i)=true->dL a.x.t a.pos (i+1)=dL a.x.t a.pos i:=fun e=>by show _+(if _ then 1 else 0)=_;rw[if_neg e];rfl
  have hn:∀i,dL a.x.t a.pos i<=i:=by
   intro i
   induction i with
   |zero=>exact Nat.le_refl _
   |succ i ih=>show _+(if _ then 1 else 0)<=_;split<;>omega
  have hn1:=hn i;have hfin:¬i<a.x.t.length->uW a.x a.pos=⟨eo a.x.t a.pos i,a.x.n-dL a.x.t a.pos i,a.x.used⟩/\dL a.x.t a.pos a.x.t.length=dL a.x.t a.pos i:=fun e=>by
   have:i=a.x.t.length:=by omega
   rw[this];exact⟨rfl,rfl⟩
  have ll:∀q:bn,low a.pos q=true↔q.has=true/\q.pos<a.pos:=fun q=>by simp[low]
  simp only[Int.toNat_natCast,hat]at *;clear hlen
  repeat' (first|intro _|apply And.intro|apply Exists.intro (i+1:Nat)|apply Exists.intro ())
  all_goals(try with_reducible rfl)
  all_goals(try simp only[decide_eq_true_eq,decide_eq_false_iff_not,iO]at *)
  all_goals(try exact trivial)
  all_goals(try omega)
  all_goals(try(with_reducible exact aj.refl _ _ _))
  all_goals first
   |(rw[ny ((ll _).2 ⟨by assumption,by assumption⟩)];done)
   |(rw[ny ((ll _).2 ⟨by assumption,by assumption⟩)];rfl)
   |rfl
   |(rw[nn (fun e=>by have:=(ll _).1 e;grind)];done)
   |(rw[sy ((ll _).2 ⟨by assumption,by assumption⟩)];refine .set _ (by rw[iO];omega) (fun i hi=>by simp only[gN hi]) ?_;simp only[iY];rfl)
   |(rw[sn (fun e=>by have:=(ll _).1 e;grind)];exact aj.refl _ _ _)
   |(rw[(hfin (by omega)).2];done)
   |(have hf:=hfin (by omega);rw[hf.1];first|rfl|omega|exact aj.refl _ _ _|(simp only;omega)|(simp only[iO];first|done|exact Nat.le_refl _)))
theorem Bm:ak (Y Tryz.prog).G.X 123 Ch:=aV fK Gj ⟨ym,Tp,trivial⟩
theorem Bn:ak (Y Tryz.prog).G.X 212 Jt:=aV fK Gk ⟨ym,trivial⟩
theorem JV:ak (Y Tryz.prog).G.X 180 Og:=aV fK Tu ⟨ym,trivial⟩
theorem P0:ak (Y Tryz.prog).G.X 163 Mq:=aV fK PZ trivial
end Go.Proofs.YtfjgoonelcaggaaGreat.Ix
namespace Go.Proofs.YtfjgoonelcaggaaGreat
open Go.Sx
@[reducible] def yw(a b:Ix.cK)(v w:Nat)(p:Prop):Prop:=(0=0/\a.t.length=b.t.length/\v=w)/\(↑a.n:Int)=(↑b.n:Int)/\(↑a.used:Int)=(↑b.used:Int)/\(b.t.length<=a.t.length/\aj b.t.length 4 (af Ix.Ba a.t) (af Ix.Ba b.t))/\p
def fR:aB:=⟨.empty,.empty,0,false⟩
def aH:Option aB->List Int
 |none=>[2]
 |some x=>1::cS x
theorem uX(m:Nat)(n:Int)(h:2*n.toNat<128^(m+1)):(vi n).length<=m+1:=zh 9 m _ h
theorem E4{x:aB}(h:fU x=true):(cS x).length<=x.key.size+x.val.size+10/\1<=(cS x).length:=by
 obtain⟨k1,k2,k3,k4⟩:=qG h;have a1:=uX 0 (x.key.size:Nat) (by simp;omega);have a2:=uX 1 (x.val.size:Nat) (by simp;omega);have a3:=uX 5 x.e (by simp;omega);have a4:(vi (if x.gone then 1 else 0)).length<=1:=by split<;>exact uX 0 _ (by decide)
 have a5:=(iK (x.key.size:Nat)).1;simp only[cS,eC,ij,List.flatMap_cons,List.flatMap_nil,List.append_nil,List.length_append,iV];omega
theorem lS{o:Option aB}(h:∀x,o=some x->fU x=true):1<=(aH o).length/\(aH o).length<=251:=by
 cases o with
 |none=>simp[aH]
 |some x =>
  have h1:=h x rfl;have:=E4 h1;have:=qG h1;simp only[aH,List.length_cons];omega
structure zN where
 o:Option aB
 cap:Nat
noncomputable def uY:cD where
 α:=zN
 β:=Unit
 m:=1
 m':=1
 pre:=fun a=>(∀x,a.o=some x->fU x=true)/\(aH a.o).length<=a.cap
 args:=fun a=>[.a (.slc 0 0 1 (aH a.o).length a.cap)]
 hp:=fun _=>[]
 ro:=fun a=>ji 0 (aH a.o)
 post:=fun _ _=>True
 res:=fun a _=>.l8 [.agg (Cm (a.o.getD fR)),.a (.bool a.o.isSome)]
 cT:=fun _ _=>[]
def jm(x:Option aB):aB:=x.getD fR
def Ho(x:Option aB):=(0:Int)=aB.e (jm x)/\fL (aB.gone (jm x)) (false=x.isSome) (True/\True)
def ru(y:Bool)(x:Option aB)(z:Prop):=aO y (ay (dc=aB.key (jm x)/\dc=aB.val (jm x)/\Ho x)) z
def zO(x:Option aB)(z:Nat):=(∀y:aB,x=some y->aD (fU y))/\av (aH x)<=z
def zP(y:aB)(x:Option aB)(z:Bool):=ay (qf y (jm x) (bp (z=x.isSome)))
theorem E5:fnBody (Y Tryz.prog) [(210,VT)] 179 uY fun _=>[]:=fnBody.of (p :=
 ∀y:zN,zO y.o y.cap->ru (aQ (aa (av (aH y.o))) 1) y.o (eF 0 (av (aH y.o)) 0 (jE (gl (aH y.o) 0)->ru (gl (aH y.o) 0 != (1:Int)) y.o (cI 1 (aa (av (aH y.o)))/\∃z:Cr,(1=z.r/\av (aH y.o)-1=av (cS z.x)/\y.cap-1=z.cap)/\cn z.l (aH y.o) cA/\Gz z/\∀u:Nat,True->ru false y.o (bg 0 1/\0<1/\zP (gl [z.x] 0) y.o true))))) (by kernel_rfl) (by
 delta aO av aL eF aQ aa cI bg aD fL cn dc qf Ho ru ay jm bp Gz jE zO zP
 try dsimp -iota -proj only
 rintro⟨o,cap⟩ ⟨h1,h2⟩;dsimp only at *;have hl:=lS h1;cases o with
 |none =>
  have e0:gl (aH none) 0=2:=rfl;refine⟨fun c=>by exfalso;have:=of_decide_eq_true c;omega,fun _=>?_⟩
  repeat refine kO ?_
  rw[e0];exact fun _=>⟨fun _=>⟨(),by and_intros<;>first|trivial|rfl⟩,fun c=>absurd c (by decide)⟩
 |some x =>
  have e0:gl (aH (some x)) 0=1:=rfl;have e1:(aH (some x)).length=(cS x).length+1:=by simp[aH]
  have hm:=h1 x rfl;have e2:∀i,i<(cS x).length->gl (aH (some x)) (1+i)=gl (cS x) i:=fun i _=>by
   show gl (([1]:List Int)++cS x) (([1]:List Int).length+i)=_;rw[bf]
  refine⟨fun c=>by exfalso;have:=of_decide_eq_true c;omega,fun _=>?_⟩
  repeat refine kO ?_
  rw[e0];refine fun _=>⟨fun c=>absurd c (by decide),fun _=>?_⟩
  repeat refine kO ?_
  refine⟨Cr.mk (aH (some x)) 1 (cap-1) x,?_⟩
  (repeat' (first|apply And.intro|(intro _)|apply Exists.intro ()))<;>first|exact cV|exact hm|exact e2 _ (by assumption)|rfl|(exfalso;simp at *;done)|skip)
theorem P3:ak (Y Tryz.prog).G.X 179 uY:=aV fK E5 ⟨N2,trivial⟩
def Br(a:zN):Y9:=⟨5,[.int .u8],(aH a.o).length,a.cap,af cA (aH a.o)⟩
noncomputable def Oh:cD:=uY.V2 Br
theorem Tv:lI (Y Tryz.prog).G.X uY 179:=Bl fK (fun _=>yc fK (jf:=[(210,VT)]) ⟨N2,trivial⟩) E5.body
theorem Mr:ak (Y Tryz.prog).G.X 179 Oh:=fun _ _ _ h=>vD (JN Tv ⟨rfl,fun _=>rfl,fun _=>rfl,fun _=>rfl,fun _ _=>rfl,fun _ _ p hp=>(by cases hp)⟩) h
structure nT where
 L:bP
 d:bw
 l:List (ByteArray×Int)
structure rG where
 H:PH
 y:gP
 x:Ix.cK
 cap:Nat
def Ec(c lg dv ds ix it pl:Nat)(m:nT)(p:rG):List (Nat×Chunk) :=
 [(c,.obj 205 [.ptr lg 0 0 0,.ptr ix 0 0 0]),(lg,fo dv m.L p.y.lv)]++gA dv ds m.d++Ix.o8 ix it p.x.t p.cap p.x.n p.x.used++[(pl,.cu p.H)]
structure jg(m:nT)(p:rG):Prop where
 log:bT p.H p.y m.L
 idx:Ix.Has p.x m.l
def tU(p p':rG):Prop:=∀z,p.H z≠none->z∉br p.y->p'.H z=p.H z/\z∉br p'.y
structure tV(m:nT)(n:Nat):Prop where
 log:uL m.L m.d
 ye:m.l.length<9000
def cB(L:bP):Int:=iW L.l L.next
def iz(m:nT)(body:List Int):nT:=⟨lQ m.L body,n9 m.L m.d body,m.l.filter fun e=>decide (cB (lQ m.L body)<=e.2)⟩
theorem Tw{L:bP}{d:bw}(ok:uL L d){body:List Int}(h:body.length<=300):(lQ L body).l.length<=801:=by
 have:=(JI (n:=body.length) ok h).ye;show((dw L body.length).l.set _ _).length<=801;rw[List.length_set];exact this
theorem Bs{x:Ix.cK}{l:List (ByteArray×Int)}(h:Ix.Has x l):x.n=l.length:=h.n
structure Ed where
 m:nT
 p:rG
 body:List Int
 cap:Nat
noncomputable def Tx:cD where
 α:=Ed
 β:=rG
 m:=8
 m':=9
 pre:=fun a=>jg a.m a.p/\tV a.m a.body.length/\1<=a.body.length/\a.body.length<=300
 args:=fun a=>[.a (.ptr 0 0 0 0),.a (.slc 7 0 1 a.body.length a.cap)]
 hp:=fun a=>Ec 0 1 2 3 4 5 6 a.m a.p
 ro:=fun a=>ji 7 a.body
 post:=fun a b=>jg (iz a.m a.body) b/\tU a.p b
 res:=fun a _=>.l8 [.a (.int .i64 a.m.L.next),.a (.lit .i64 0)]
 cT:=fun a b=>Ec 0 1 2 3 4 5 8 (iz a.m a.body) b
def oc(v:bP)(u:nT)(w:gP)(z:rG)(s:bw)(t:Ix.cK)(f:Nat)(g h:Prop):=ax (gQ v u.L w z.y s u.d (yw t z.x f z.cap (g/\h)))
def oO(u x:bP)(v y:gP)(w z:PH)(s t:Prop):=qW u x v.lv y.lv (w=z/\(bT z y x/\s)/\t)
theorem V9:fnBody (Y Tryz.prog) [(162,Bq),(164,CG),(163,Ix.Mq)] 121 Tx fun _=>[]:=fnBody.of (p :=
 ∀z:Ed,jg z.m z.p/\tV z.m (av z.body)/\gR z.body 300->∃u:qZ,dY (cW z.body u.body z.cap u.cap) (qW z.m.L u.L z.p.y.lv u.y.lv (iR z.m.d u.d (z.p.H=u.H/\cn u.body z.body cA/\zv u/\∀s:mE,w9 s u->∃w:Ea,ax (oO (lQ u.L u.body) w.L s.y w.y s.H w.H (bz w.L<1000) (aI (∃v:Ix.Mp,ag (iW w.L.l w.L.next=v.pos/\yw z.p.x v.x z.p.cap v.cap (Hl v/\aI (∃t:rG,u.L.next=z.m.L.next/\aW (s.H=t.H/\oc (lQ u.L u.body) (iz z.m z.body) s.y t (n9 u.L u.d u.body) (Ix.uW v.x v.pos) v.cap (jg (iz z.m z.body) t/\tU z.p t) True))))))))))) (by kernel_rfl) (by
 delta av aL bW aG bI dY cn aI oc bz wX aW ag qi cW gR oO ax gQ zv w9 Hl
 try dsimp -iota -proj only
 rintro⟨⟨L,d,l⟩,⟨H,y,x,xc⟩,body,cap⟩ ⟨hat,hok,hb1,hb2⟩;obtain⟨hl,hx⟩:=hat;dsimp only at *;have hlen:(lQ L body).l.length<=801:=Tw hok.log hb2;have hn:=Bs hx;have hfew:=hok.ye;dsimp only at hfew;obtain⟨q1,q3,q2⟩:=Ix.PY hx (cB (lQ L body));refine⟨qZ.mk H y L d body cap,?_⟩
 and_intros<;>first|exact cV|exact hl|exact hok.log|skip
 rintro⟨H1,y1⟩ ⟨p1,p2⟩;dsimp only at p1 p2 ⊢;refine⟨Ea.mk H1 y1 (lQ L body),?_⟩
 and_intros<;>first|exact cV|exact p1|(dsimp only;omega)|skip
 intro _ _;refine⟨Ix.Mp.mk x xc (cB (lQ L body)),?_⟩;dsimp only
 and_intros<;>first|exact cV|exact hx.inv|rfl|(rw[hn];exact q2)|(rw[hn];omega)|skip
 intro _ _;refine⟨⟨H1,y1,Ix.uW x (cB (lQ L body)),xc⟩,?_⟩
 and_intros<;>first|exact cV|exact⟨p1,q1⟩|exact p1|exact q1|exact p2|rfl|exact aj.refl _ _ _|exact Nat.le_refl _|skip)
theorem Hp:ak (Y Tryz.prog).G.X 121 Tx:=aV fK V9 ⟨CD,zy,Ix.P0,trivial⟩
def l5(l:List (ByteArray×Int))(k:ByteArray):List (ByteArray×Int):=l.filter fun e=>decide (e.1≠k)
def Ee(l:List (ByteArray×Int))(k:ByteArray)(p:Int):List (ByteArray×Int):=(k,p)::l5 l k
theorem E6{x:Ix.cK}{l:List (ByteArray×Int)}(h:Ix.Has x l):(l.map Prod.fst).Nodup:=by
 refine((h.perm.map Prod.fst).nodup_iff).1 ?_;unfold Ix.en;rw[List.map_map];show List.Pairwise (·≠·) _;rw[List.pairwise_map,List.pairwise_filter,List.pairwise_iff_getElem];intro i j hi hj hij hp hq e;have:=h.inv.Tq i j hi hj (by rw[bR hi];exact hp) (by rw[bR hj];exact hq) (by rw[bR hi,bR hj];exact e);omega
theorem CU{l:List (ByteArray×Int)}{k:ByteArray}(h:k∉l.map Prod.fst):l5 l k=l:=by
 unfold l5;rw[List.filter_eq_self];intro e he;simp only[decide_eq_true_eq];exact fun e'=>h (List.mem_map.2 ⟨e,he,e'⟩)
theorem zQ:∀ {l:List (ByteArray×Int)} {k:ByteArray} {q:Int},(l.map Prod.fst).Nodup->(k,q)∈l->l.Perm ((k,q)::l5 l k)
 |[],_,_,_,h=>by cases h
 |a::l,k,q,hn,h=>by
  rw[List.map_cons,List.nodup_cons]at hn;by_cases e:a.1=k
  ·have hk:k∉l.map Prod.fst:=by rw[<- e];exact hn.1
   have ha:a=(k,q):=by
    rcases List.mem_cons.1 h with h|h
    ·exact h.symm
    ·exact absurd (List.mem_map.2 ⟨_,h,rfl⟩) hk
   have:l5 (a::l) k=l:=by
    unfold l5;rw[List.filter_cons,if_neg (by simp[e])];exact CU hk
   rw[this,ha]
  ·have hm:(k,q)∈l:=by
    rcases List.mem_cons.1 h with h|h
    ·exact absurd (by rw[<- h]) e
    ·exact h
   have:l5 (a::l) k=a::l5 l k:=by
    unfold l5;rw[List.filter_cons,if_pos (by simpa using e)]
   rw[this];exact(List.Perm.cons a (zQ hn.2 hm)).trans (List.Perm.swap _ _ _)
theorem Oi{x:Ix.cK}{l:List (ByteArray×Int)}{k:ByteArray}{p:Int}(h:Ix.Has x l)(hn:l.length<9999)(hk:k.size<=aq):Ix.Has (Ix.tS x k p) (Ee l k p):=by
 have hx:=h.n;by_cases hm:k∈l.map Prod.fst
 ·obtain⟨⟨k',q⟩,h1,h2⟩:=List.mem_map.1 hm;dsimp only at h2;subst h2;exact(Ix.Mn (h.yu (zQ (E6 h) h1)) (by omega)).1
 ·have:=(Ix.Tt (p:=p) h (by omega) hm hk).1;unfold Ee;rw[CU hm];exact this
theorem JW{x:Ix.cK}{l:List (ByteArray×Int)}{k:ByteArray}(h:Ix.Has x l):Ix.Has (Ix.kF x k) (l5 l k)/\(0<=(Ix.bF x.t k).1->1<=x.n):=by
 have hx:=h.n;by_cases hm:k∈l.map Prod.fst
 ·obtain⟨⟨k',q⟩,h1,h2⟩:=List.mem_map.1 hm;dsimp only at h2;subst h2;refine⟨(Ix.CS (h.yu (zQ (E6 h) h1))).1,fun _=>?_⟩;have:=List.length_pos_of_mem h1;omega
 ·rw[CU hm];obtain⟨e1,e2⟩:=h.rU hm;exact⟨by rw[Ix.PX h hm];exact h,fun e=>by omega⟩
theorem JX(l:List (ByteArray×Int))(k:ByteArray)(p:Int):(Ee l k p).length<=l.length+1:=by
 simp only[Ee,l5,List.length_cons];have:=List.length_filter_le (fun e:ByteArray×Int=>decide (e.1≠k)) l;omega
theorem E7(l:List (ByteArray×Int))(k:ByteArray):(l5 l k).length<=l.length:=List.length_filter_le _ _
def jQ(x:aB):Bool:=fU x&&!x.gone
def nI(m:nT)(x:aB):nT:=if jQ x then { iz m (aH (some x))with l:=Ee (iz m (aH (some x))).l x.key m.L.next }else m
structure JY where
 m:nT
 p:rG
 x:aB
noncomputable def Ty:cD where
 α:=JY
 β:=rG
 m:=7
 m':=9
 pre:=fun a=>jg a.m a.p/\(jQ a.x=true->tV a.m (aH (some a.x)).length)
 args:=fun a=>[.a (.ptr 0 0 0 0),.agg (Cm a.x)]
 hp:=fun a=>Ec 0 1 2 3 4 5 6 a.m a.p
 ro:=fun _=>[]
 post:=fun a b=>jg (nI a.m a.x) b/\tU a.p b
 res:=fun a b=>.a (.int .i64 (if jQ a.x then 0 else 1))
 cT:=fun a b=>Ec 0 1 2 3 4 7 8 (nI a.m a.x) b
def CW(w t:Nat)(s:nT)(u:rG)(f:Nat->Nat->Value)(g:Ed->rG->Prop):=∃z:Ed,ag (ag (w=av z.body/\t=z.cap)/\oc s.L z.m u.y z.p s.d u.x u.cap (u.H=z.p.H) (aL (av z.body) w 1 f (af cA z.body)/\(jg z.m z.p/\tV z.m (av z.body)/\gR z.body 300)/\∀v:rG,jg (iz z.m z.body) v/\tU z.p v->g z v))
def Hq(y z:ByteArray)(u:Int)(v:Bool)(w:nT)(s:rG)(t:Ed->rG->Prop):=∃x:D9,iu 1 x.xs.length 1 x.cap 4 (aN 4 (kP (bE y) (bE z) (bu u (bH (dX v))))) (af kJ x.xs) (wP x) (∀i:Nat,True->1<=1/\mB (dD x.xs)/\gF 1 (av (dD x.xs)) 1 1 fun f=>CW (1+av (dD x.xs)) f w s (aZ (aN 1 (bH (fk 1))) 0 1 (q9 cA (dD x.xs))) fun g h=>t g h)
def gT(x:Bool):Int:=if x=true then(0:Int)else(1:Int)
def CX(w:Int)(s:Bool)(z:rG)(t v:nT)(f:bw)(g:rG):rG->Prop:=fun(u:rG)=>w=gT s/\z.H=u.H/\oc t.L v z.y u f z.x z.cap (jg v u/\tU g u) True
def Hr(y:JY):=jg y.m y.p/\(aD (jQ y.x)->tV y.m (av (aH (some y.x))))
theorem Tz:fnBody (Y Tryz.prog) [(96,A7),(122,Sz),(121,Tx),(123,Ix.Ch)] 73 Ty fun _=>[]:=fnBody.of (p :=
 ∀z:JY,Hr z->∃t:aB,qf z.x t (cO (gC (bx (fU t)) (Exists (CX 1 (jQ z.x) z.p z.m (nI z.m z.x) z.m.d z.p)) z.x.gone (Hq z.x.key z.x.val z.x.e z.x.gone z.m z.p fun v w=>∃u:Ix.l9,ag (z.x.key=u.key/\v.m.L.next=u.pos/\yw w.x u.x w.cap u.cap (zL u/\∀f:Nat,True->∃s:rG,(0:Int)=gT (jQ z.x)/\w.H=s.H/\oc (iz v.m v.body).L (nI z.m z.x) w.y s (iz v.m v.body).d (Ix.tS u.x u.key u.pos) f (jg (nI z.m z.x) s/\tU z.p s) True)))))) (by kernel_rfl) (by
 delta aO av aL bu bW gF bH fk aD dO kP bM gC qf aI bA oc bE Hq gT iu ag wP CW gR CX ax mB q9 gQ bx cO dX zL Hr
 try dsimp -iota -proj only
 rintro⟨⟨L,d,l⟩,⟨H,y,x,xc⟩,it⟩ ⟨hat,hok⟩;dsimp only at *;have same:jQ it=false->nI ⟨L,d,l⟩ it=⟨L,d,l⟩:=fun e=>if_neg (by rw[e];decide);refine⟨it,rfl,rfl,rfl,rfl,trivial,fun _ _=>⟨fun c1=>⟨⟨H,y,x,xc⟩,?_⟩,fun c1=>⟨fun c2=>⟨⟨H,y,x,xc⟩,?_⟩,fun c2=>?_⟩⟩⟩
 ·have hn:jQ it=false:=by simp only[jQ];rw[show fU it=false by simpa using c1];rfl
  rw[same hn,hn]
  and_intros<;>first|exact cV|rfl|exact aj.refl _ _ _|exact Nat.le_refl _|exact hat|exact hat.log|exact hat.idx|exact fun z _ hn=>⟨rfl,hn⟩
 ·have hn:jQ it=false:=by simp only[jQ];rw[c2];simp
  rw[same hn,hn]
  and_intros<;>first|exact cV|rfl|exact aj.refl _ _ _|exact Nat.le_refl _|exact hat|exact hat.log|exact hat.idx|exact fun z _ hn=>⟨rfl,hn⟩
 ·have hm:fU it=true:=by simpa using c1
  have hy:jQ it=true:=by simp only[jQ];rw[c2,hm];rfl
  have hok:=hok hy;have hF:nI ⟨L,d,l⟩ it={ iz ⟨L,d,l⟩ (aH (some it))with l:=Ee (iz ⟨L,d,l⟩ (aH (some it))).l it.key L.next }:=if_pos hy;rw[hF,hy];obtain⟨hb1,hb2⟩:=lS (o:=some it) (fun x e=>by cases e;exact hm);have hI:dD [it]=cS it:=by simp[dD]
  have hB:(aH (some it)).length=1+(cS it).length:=by simp only[aH,List.length_cons];omega
  have hr1:aj 1 4 (aN 4 [Value.string it.key,Value.string it.val,Value.int .i64 it.e,Value.bool it.gone]) (af kJ [it]):=.dW fun i hi=>by
   have:i=0:=by omega
   subst this;rfl
  have hm1:∀i,i < [it].length->fU (gl [it] i)=true:=fun i hi=>by
   have:i=0:=by simp at hi;omega
   subst this;exact hm
  refine⟨D9.mk [it] 1,?_⟩
  and_intros<;>first|exact cV|exact hr1|exact hm1|exact Nat.le_refl _|decide|skip
  intro c _;rw[hI]
  repeat refine kO ?_
  intro cap q1 q2 q3;refine⟨Ed.mk ⟨L,d,l⟩ ⟨H,y,x,xc⟩ (aH (some it)) cap,?_⟩;have hr2:aj (aH (some it)).length 1 (aZ (aN 1 [Value.int .u8 1]) 0 1 fun(i j:Nat)=>af cA (cS it) (0+i) j) (af cA (aH (some it))):=⟨fun i hi j hj=>by
   have hj0:j=0:=by omega
   subst hj0;simp only[aZ,Nat.zero_add];by_cases h0:i<1
   ·have:i=0:=by omega
    subst this;rfl
   ·rw[if_neg h0];obtain⟨q,rfl⟩:∃q,i=q+1:=⟨i-1,by omega⟩
    simp only[af,aH,Nat.add_sub_cancel];congr 2⟩
  and_intros<;>first|exact cV|rfl|exact aj.refl _ _ _|exact Nat.le_refl _|exact hr2|exact hat|exact hat.log|exact hat.idx|exact hok.log|exact hok.ye|(dsimp only;omega)|skip
  rintro⟨H1,y1,x1,xc1⟩ ⟨⟨g1,g2⟩,hfr⟩;dsimp only at g1 g2 hfr ⊢;refine⟨Ix.l9.mk x1 xc1 it.key L.next,?_⟩;have hn:=Bs g2;have hln:(iz ⟨L,d,l⟩ (aH (some it))).l.length<=l.length:=List.length_filter_le _ _;have hfew:=hok.ye;dsimp only at hfew;have hks:it.key.size<=aq:=by have:=qG hm;simp only[aq];omega
  and_intros<;>first|exact cV|rfl|exact aj.refl _ _ _|exact Nat.le_refl _|exact g2.inv|exact hks|(dsimp only;omega)|skip
  intro c2' _;refine⟨⟨H1,y1,Ix.tS x1 it.key L.next,c2'⟩,?_⟩;have hp:=Oi (p:=L.next) g2 (by omega) hks
  and_intros<;>first|exact cV|rfl|exact aj.refl _ _ _|exact Nat.le_refl _|exact g1|exact hp|exact hfr|exact⟨g1,hp⟩)
theorem TA:ak (Y Tryz.prog).G.X 73 Ty:=aV fK Tz ⟨qH,Gu,Hp,Ix.Bm,trivial⟩
def CY(m:nT)(key:ByteArray):Option aB->Prop
 |some x=>∃p,(key,p)∈m.l/\gf m.L.l p=some (aH (some x))/\fU x=true
 |none=>key∉m.l.map Prod.fst\/∃p,(key,p)∈m.l/\(gf m.L.l p=none\/gf m.L.l p=some (aH none))
structure P4(m:nT):Prop where
 ye:m.L.l.length<1000
 seg:∀i,i<m.L.l.length->mI (gl m.L.l i).aR/\(gl m.L.l i).aR.length<=400/\∀k,k<(gl m.L.l i).aR.length->1<=(gl (gl m.L.l i).aR k).body.length/\(gl (gl m.L.l i).aR k).body.length<=1000
 pos:∀e∈m.l,0<=e.2/\e.2<1000000000000
structure Oj where
 m:nT
 p:rG
 key:ByteArray
 r:Option aB
noncomputable def TB:cD where
 α:=Oj
 β:=Unit
 m:=7
 m':=7
 pre:=fun a=>jg a.m a.p/\P4 a.m/\CY a.m a.key a.r/\a.key.size<=aq
 args:=fun a=>[.a (.ptr 0 0 0 0),.a (.str a.key)]
 hp:=fun _=>[]
 ro:=fun a=>Ec 0 1 2 3 4 5 6 a.m a.p
 post:=fun _ _=>True
 res:=fun a _=>.l8 [.agg (Cm (a.r.getD fR)),.a (.bool a.r.isSome)]
 cT:=fun _ _=>[]
def xu(x:nT)(z:rG)(y:ByteArray)(u:Option aB):=jg x z/\P4 x/\CY x y u/\bA y<=aq
theorem TC:fnBody (Y Tryz.prog) [(212,Ix.Jt),(213,LV),(179,uY)] 184 TB fun _=>[]:=fnBody.of (p :=
 ∀z:Oj,xu z.m z.p z.key z.r->∃u:Ix.tT,ag (z.key=u.key/\yw z.p.x u.x z.p.cap u.cap ((Ix.Inv u.x/\bA u.key<=aq)/\aI (ru (bx (Ix.xq u.x u.key).snd) z.r (∃v:JK,dY ((Ix.xq u.x u.key).fst=v.p) (oO z.m.L v.L z.p.y v.y z.p.H v.H (GO v) (∀s:Nat,av (sS v)<=s->ru (AG (gf v.L.l v.p) != (0:Int)) z.r (∃w:zN,mz (sS v) (aH w.o) s w.cap cA (zO w.o w.cap) (aI (zP (jm w.o) z.r w.o.isSome)))))))))) (by kernel_rfl) (by
 delta aO av aL aD fL dY cn dc qf aI bA bz Ho xh ru mz ay sS ag jm cW gR oO bp xu GO zO bx oM zP
 try dsimp -iota -proj only
 rintro⟨⟨L,d,l⟩,⟨H,y,x,xc⟩,key,r⟩ ⟨⟨hl,hx⟩,hrd,hr,hks⟩;dsimp only at *;refine⟨Ix.tT.mk x xc key,?_⟩
 and_intros<;>first|exact cV|rfl|exact aj.refl _ _ _|exact Nat.le_refl _|exact hx.inv|exact hks|skip
 intro _ _;dsimp only;have hcase:(r=none/\Ix.xq x key=(0,false))\/∃p,(key,p)∈l/\Ix.xq x key=(p,true)/\((r=none/\(gf L.l p=none\/gf L.l p=some (aH none)))\/∃it,r=some it/\gf L.l p=some (aH (some it))/\fU it=true):=by
  cases r with
  |none =>
   rcases hr with hr | ⟨p,h1,h2⟩
   ·exact .inl ⟨rfl,Ix.get_none hx hr⟩
   ·exact .inr ⟨p,h1,Ix.E3 hx h1,.inl ⟨rfl,h2⟩⟩
  |some it =>
   obtain⟨p,h1,h2,h3⟩:=hr;exact .inr ⟨p,h1,Ix.E3 hx h1,.inr ⟨it,rfl,h2,h3⟩⟩
 rcases hcase with⟨rfl,hg⟩ | ⟨p,hm,hg,hc⟩
 ·rw[hg];refine⟨fun _=>⟨(),?_⟩,fun c=>absurd c (by decide)⟩
  and_intros<;>first|exact cV|rfl|exact aj.refl _ _ _|exact Nat.le_refl _
 ·rw[hg];refine⟨fun c=>absurd c (show ¬((!true)=true)by decide),fun _=>⟨JK.mk H y L p,?_⟩⟩;obtain⟨hp1,hp2⟩:=hrd.pos _ hm
  and_intros<;>first|exact cV|rfl|exact aj.refl _ _ _|exact Nat.le_refl _|exact hl|exact hrd.ye|exact hp1|exact hp2|exact hrd.seg|skip
  intro c hcap;dsimp only at hcap ⊢;rcases hc with⟨rfl,hn|hn⟩ | ⟨it,rfl,hn,hmay⟩
  ·rw[hn];refine⟨fun _=>⟨(),?_⟩,fun c=>absurd c (by decide)⟩
   and_intros<;>first|exact cV|rfl|exact aj.refl _ _ _|exact Nat.le_refl _
  ·rw[hn]at hcap ⊢;refine⟨fun c=>absurd c (by decide),fun _=>⟨zN.mk none c,?_⟩⟩;have hcap:(aH none).length<=c:=hcap;have hno:∀z:aB,(none:Option aB)=some z->fU z=true:=fun z e=>by cases e
   (repeat' (first|apply And.intro|(intro _)|apply Exists.intro ()))<;>first|exact cV|rfl|exact aj.refl _ _ _|exact Nat.le_refl _|exact hcap|exact hno _ (by assumption)
  ·rw[hn]at hcap ⊢;refine⟨fun c=>absurd c (show ¬((AG (some (aH (some it))) != 0)=true)by simp[AG]),fun _=>⟨zN.mk (some it) c,?_⟩⟩;have hcap:(aH (some it)).length<=c:=hcap;have hno:∀z:aB,some it=some z->fU z=true:=fun z e=>by cases e;exact hmay
   (repeat' (first|apply And.intro|(intro _)|apply Exists.intro ()))<;>first|exact cV|rfl|exact aj.refl _ _ _|exact Nat.le_refl _|exact hcap|exact hno _ (by assumption))
theorem TD:ak (Y Tryz.prog).G.X 184 TB:=aV fK TC ⟨Ix.Bn,PE,P3,trivial⟩
def od(r:Option aB)(now:Int):Option aB:=r.bind fun x=>if uF x now then some x else none
structure CZ where
 m:nT
 p:rG
 key:ByteArray
 now:Int
 r:Option aB
noncomputable def TE:cD where
 α:=CZ
 β:=Unit
 m:=7
 m':=7
 pre:=fun a=>jg a.m a.p/\P4 a.m/\CY a.m a.key a.r/\a.key.size<=aq
 args:=fun a=>[.a (.ptr 0 0 0 0),.a (.str a.key),.a (.int .i64 a.now)]
 hp:=fun _=>[]
 ro:=fun a=>Ec 0 1 2 3 4 5 6 a.m a.p
 post:=fun _ _=>True
 res:=fun a _=>.l8 [.agg (Cm ((od a.r a.now).getD fR)),.a (.bool (od a.r a.now).isSome)]
 cT:=fun _ _=>[]
theorem TF:fnBody (Y Tryz.prog) [(184,TB),(185,Su)] 136 TE fun _=>[]:=fnBody.of (p :=
 ∀z:CZ,xu z.m z.p z.key z.r->∃u:Oj,ag (z.key=u.key/\oc z.m.L u.m z.p.y u.p z.m.d z.p.x z.p.cap (z.p.H=u.p.H) (xu u.m u.p u.key u.r/\aI (ru (bx u.r.isSome) (od z.r z.now) (∃v:N0,qf (jm u.r) v.x (z.now=v.now/\cO (ru (bx (uF v.x v.now)) (od z.r z.now) (zP (jm u.r) (od z.r z.now) true)))))))) (by kernel_rfl) (by
 delta aO bW aD fL dc qf aI bA oc Ho ru ay ag jm ax bp xu gQ bx cO zP
 rintro⟨⟨L,d,l⟩,⟨H,y,x,xc⟩,key,now,r⟩ ⟨hat,hrd,hr,hks⟩;dsimp only at *;refine⟨Oj.mk ⟨L,d,l⟩ ⟨H,y,x,xc⟩ key r,?_⟩
 and_intros<;>first|exact cV|rfl|exact aj.refl _ _ _|exact Nat.le_refl _|exact hat|exact hrd|exact hr|exact hks|skip
 intro _ _;dsimp only;cases r with
 |none =>
  refine⟨fun _=>⟨(),?_⟩,fun c=>absurd c (by decide)⟩
  and_intros<;>first|exact cV|rfl|exact aj.refl _ _ _|exact Nat.le_refl _
 |some it =>
  refine⟨fun c=>absurd c (show ¬((!true)=true)by decide),fun _=>⟨N0.mk it now,rfl,rfl,rfl,rfl,rfl,trivial,fun _ _=>⟨fun c=>⟨(),?_⟩,fun c=>⟨(),?_⟩⟩⟩⟩
  ·have:od (some it) now=none:=by
    have:uF it now=false:=by simpa using c
    simp[od,this]
   rw[this]
   and_intros<;>first|exact cV|rfl|exact aj.refl _ _ _|exact Nat.le_refl _
  ·have:od (some it) now=some it:=by
    have:uF it now=true:=by simpa using c
    simp[od,this]
   rw[this]
   and_intros<;>first|exact cV|rfl|exact aj.refl _ _ _|exact Nat.le_refl _)
theorem TG:ak (Y Tryz.prog).G.X 136 TE:=aV fK TF ⟨TD,SA,trivial⟩
def S.fl(s:S)(c:Nat)(m:nT)(p:rG):S :=
 (fun(s3:S)=>(s3.put (s3.hp.del (EO s3))).new (.cu p.H))
 ((fun(s1:S)=>((s1.put (s1.hp.del (s.fh (s.fh c 1) 0))).new (.arr 251 Ix.XR p.x.t.length (af Ix.Ba p.x.t))).at_ (s.fh c 1) (.obj 247 [.slc s.nx 0 4 p.x.t.length p.cap,.int .i64 p.x.n,.int .i64 p.x.used]))
  (((s.at_ (s.fh c 0) (fo (s.fh (s.fh c 0) 0) m.L p.y.lv)).at_ (s.fh (s.fh c 0) 0) (.obj 116 [.slc (s.fh (s.fh (s.fh c 0) 0) 0) 0 129 m.d.n m.d.n,.int .i64 m.d.calls])).at_ (s.fh (s.fh (s.fh c 0) 0) 0) (.arr 158 AA m.d.n (eO m.d))))
def iG(k:ByteArray):aB:=⟨k,.mk #[],0,true⟩
theorem zR{k:ByteArray}(h:dS k=true):fU (iG k)=true:=by
 simp only[fU,iG];rw[h];rfl
def oe(m:nT)(k:ByteArray):nT:={ iz m (aH (some (iG k)))with l:=l5 (iz m (aH (some (iG k)))).l k }
def gh(m:nT)(ks:List ByteArray):Nat->nT
 |0=>m
 |i+1=>oe (gh m ks i) (gl ks i)
def fu(ks:List ByteArray):Bool:=ks.all dS
def Hs(m:nT):nT:={ m with d:=gj m.d }
def nJ(m:nT)(ks:List ByteArray):nT:=if fu ks then Hs (gh m ks ks.length)else m
structure oP where
 m:nT
 p:rG
 ks:List ByteArray
 cap:Nat
noncomputable def Ht:cD where
 α:=oP
 β:=rG
 m:=8
 m':=10
 pre:=fun a=>jg a.m a.p/\a.ks.length<1000/\(fu a.ks=true->(∀i,i<a.ks.length->tV (gh a.m a.ks i) (aH (some (iG (gl a.ks i)))).length)/\(gh a.m a.ks a.ks.length).d.n<100000/\(gh a.m a.ks a.ks.length).d.calls<1000000000000)
 args:=fun a=>[.a (.ptr 0 0 0 0),.a (.slc 7 0 1 a.ks.length a.cap)]
 hp:=fun a=>Ec 0 1 2 3 4 5 6 a.m a.p
 ro:=fun a=>[(7,.arr 9 [.str] a.ks.length (af kj a.ks))]
 post:=fun a b=>jg (nJ a.m a.ks) b/\tU a.p b
 res:=fun a b=>.a (.int .i64 (if fu a.ks then 0 else 1))
 cT:=fun a b=>Ec 0 1 2 3 4 8 9 (nJ a.m a.ks) b
structure zS where
 i:Nat
 p:rG
def Wa(a:oP):An:=.flat 4 Nat (fun s i=>s.int 15 i) (fun _ i=>i<=a.ks.length/\∀j,j<i->dS (gl a.ks j)=true) (fun _ i=>a.ks.length-i)
def Wb(a:oP):An:=.flat 10 zS (fun s x=>(S.fl s (s.tg 0) (gh a.m a.ks x.i) x.p).int 25 x.i) (fun _ x=>x.i<=a.ks.length/\fu a.ks=true/\jg (gh a.m a.ks x.i) x.p/\tU a.p x.p) (fun _ x=>a.ks.length-x.i)
def Wc(a:oP):An:=.mk 9 Unit (fun s _=>s) (fun _ _=>fu a.ks=true) (fun _ _=>0) fun _=>.mk 1000 [Wb a] []
noncomputable def TH:List (Nat×cD):=[(86,Lu),(122,Sz),(121,Tx),(180,Ix.Og),(169,jB)]
def Ms(u:oP)(w:rG)(z:zS)(s:nT)(v:Ix.cK)(f:Nat)(g:Prop):=mu (bD (aU u.ks) u.cap/\w.H=z.p.H/\ax (gQ s.L (gh u.m u.ks z.i).L w.y z.p.y s.d (gh u.m u.ks z.i).d (ag (bI v=bI z.p.x/\f=z.p.cap)/\bq v.n z.p.x.n/\bq v.used z.p.x.used/\kW u.ks/\aL (bI z.p.x) (bI v) 4 (cZ v.t) (cZ z.p.x.t)/\g)))
def Hu(z:oP)(u:Prop):=mu (bD (aU z.ks) z.cap/\oc z.m.L z.m z.p.y z.p z.m.d z.p.x z.p.cap (z.p.H=z.p.H) (kW z.ks/\u))
def qp(y:Nat)(z:List ByteArray):=∀x:Nat,x<y->aD (dS (gl z x))
def Hv(x:oP):=jg x.m x.p/\aU x.ks<1000/\(aD (fu x.ks)->(∀y:Nat,y<aU x.ks->tV (gh x.m x.ks y) (av (aH (some (iG (gl x.ks y))))))/\ki (gh x.m x.ks (aU x.ks)).d)
def jI(x y:Nat)(z u v:Prop):=x<=y/\z->gD x y u v
def Hw(y:List ByteArray)(z:Nat)(v:Nat->Prop)(w:Prop)(s:Nat->Nat->Prop)(t f:Prop):=((∃x:Nat,aC x (dK (aU y) z (v x)))/\∀x:Nat,jI x (aU y) (qp x y) (∃u:ByteArray,gl y (0+az x)=u/\cO (aO (bx (dS u)) w (bY x fun g=>dK (aU y) z (s x g)))) (ay t))/\∀x:Unit,aD (fu y)->f
def Hx(x:oP)(y:zS):=aD (fu x.ks)/\jg (gh x.m x.ks y.i) y.p/\tU x.p y.p
theorem P5:fnBody (Y Tryz.prog) TH 135 Ht fun a=>[(135,[Wa a],[Wc a])]:=fnBody.of (p :=
 ∀y:oP,Hv y->Hw y.ks y.cap (fun z=>Hu y ((z<=aU y.ks/\qp z y.ks)/\True)) (Exists (CX 1 (fu y.ks) y.p y.m (nJ y.m y.ks) y.m.d y.p)) (fun z u=>Hu y (dP u (aU y.ks) (qp u y.ks) z)) (Hu y (aD (fu y.ks)/\True)) ((∃z:zS,aC z.i (dK (aU y.ks) y.cap (Ms y y.p z y.m y.p.x y.p.cap ((z.i<=aU y.ks/\Hx y z)/\True))))/\∀z:zS,jI z.i (aU y.ks) (Hx y z) (Hq (gl y.ks (0+az z.i)) dc 0 true (gh y.m y.ks z.i) z.p fun u s=>∃v:Ix.tT,ag (gl y.ks (0+az z.i)=v.key/\yw s.x v.x s.cap v.cap (zM v/\aI (aP z.i (∃w:zS,aY z.i=aa w.i/\dK (aU y.ks) y.cap (Ms y s w (iz u.m u.body) (Ix.kF v.x v.key) v.cap (dP w.i (aU y.ks) (Hx y w) z.i))))))) (kC (gh y.m y.ks z.i).d fun u=>Exists (CX 0 (fu y.ks) z.p (gh y.m y.ks z.i) (nJ y.m y.ks) (gj u) y.p)))) (by kernel_rfl) (by
 delta aO av aL ah bu bW az aG gF bB eF bI aQ aY aa aU dP bH fk bg aD dO aX kP bM dN dc aI gD bA bD cH oc bE dK Hq bY ki Ms ay gT aC kW iu aW ag aA Hu qp wP CW Hv aP bh zM gR kC CX bq ax Hw mB q9 Hx dR gQ bx cO cZ mu dX jI
 try dsimp -iota -proj only
 rintro⟨⟨L,d,l⟩,⟨H,y,x,xc⟩,ks,kc⟩ ⟨hat,hk1,hok⟩;dsimp only at *;obtain⟨m0,hm0⟩:∃m0:nT,m0=⟨L,d,l⟩:=⟨_,rfl⟩
 have hno:fu ks=false->nJ ⟨L,d,l⟩ ks=⟨L,d,l⟩:=fun e=>if_neg (by rw[e];decide);have hyes:fu ks=true->nJ m0 ks=Hs (gh m0 ks ks.length):=fun e=>if_pos e;refine⟨⟨⟨0,?_⟩,fun i hi=>?_⟩,fun _ hall=>⟨⟨⟨0,⟨H,y,x,xc⟩⟩,?_⟩,fun z hz=>?_⟩⟩
 ·and_intros<;>first|exact cV|rfl|exact aj.refl _ _ _|exact Nat.le_refl _|exact fun j hj=>absurd hj (Nat.not_lt_zero j)
 ·obtain⟨hi,hkb⟩:=hi;simp only[Nat.zero_add,Int.toNat_natCast];refine⟨fun c1=>?_,fun c1=>⟨(),?_⟩⟩
  ·have hi':i<ks.length:=by have:=of_decide_eq_true c1;omega
   refine⟨by omega,by omega,gl ks i,rfl,trivial,fun _ _=>⟨fun c2=>⟨⟨H,y,x,xc⟩,?_⟩,fun c2=>⟨by simp only[bL];omega,i+1,?_⟩⟩⟩
   ·have hn:fu ks=false:=by
     have c2:dS (gl ks i)=false:=by simpa using c2
     rw[Bool.eq_false_iff];intro h;have:=List.all_eq_true.1 h (gl ks i) (by rw[bR hi'];exact List.getElem_mem _);rw[c2]at this;cases this
    rw[hno hn,hn]
    and_intros<;>first|exact cV|rfl|exact aj.refl _ _ _|exact Nat.le_refl _|exact hat|exact fun z _ hn=>⟨rfl,hn⟩
   ·have c2:dS (gl ks i)=true:=by simpa using c2
    have h1:∀j,j<i+1->dS (gl ks j)=true:=fun j hj=>by
     by_cases e:j=i
     ·rw[e];exact c2
     ·exact hkb j (by omega)
    and_intros<;>first|exact cV|rfl|exact aj.refl _ _ _|exact Nat.le_refl _|exact h1
  ·have hi':i=ks.length:=by have:=of_decide_eq_false c1;omega
   have ha:fu ks=true:=List.all_eq_true.2 fun k hk=>by
    obtain⟨j,hj,rfl⟩:=List.getElem_of_mem hk;rw[<- bR hj];exact hkb j (by omega)
   and_intros<;>first|exact cV|rfl|exact aj.refl _ _ _|exact Nat.le_refl _|exact ha
 ·and_intros<;>first|exact cV|rfl|exact aj.refl _ _ _|exact Nat.le_refl _|exact hat|exact hall|exact fun z _ hn=>⟨rfl,hn⟩
 ·obtain⟨i,⟨H1,y1,x1,xc1⟩⟩:=z;obtain⟨hi,_,hat1,hfr1⟩:=hz;dsimp only at hi hat1 hfr1 ⊢;obtain⟨hok1,hok2,hok3⟩:=hok hall;rw[<- hm0]at hok1 hok2 hok3 hat1 ⊢;have hstep:gh m0 ks (i+1)=oe (gh m0 ks i) (gl ks i):=rfl;simp only[Nat.zero_add,Int.toNat_natCast];refine⟨fun c1=>?_,fun c1=>?_⟩
  ·have hi':i<ks.length:=by have:=of_decide_eq_true c1;omega
   have hok1:=hok1 i hi';have hkey:dS (gl ks i)=true:=List.all_eq_true.1 hall (gl ks i) (by rw[bR hi'];exact List.getElem_mem _);obtain⟨it,hit⟩:∃it,it=iG (gl ks i):=⟨_,rfl⟩
   have hm:fU it=true:=by rw[hit];exact zR hkey
   obtain⟨M,hM⟩:∃M,M=gh m0 ks i:=⟨_,rfl⟩
   rw[<- hM]at hok1 hat1 hstep ⊢;rw[<- hit]at hok1;have hdF:oe M (gl ks i)={ iz M (aH (some it))with l:=l5 (iz M (aH (some it))).l (gl ks i) }:=by rw[hit];rfl
   obtain⟨hb1,hb2⟩:=lS (o:=some it) (fun x e=>by cases e;exact hm);have hI:dD [it]=cS it:=by simp[dD]
   have hB:(aH (some it)).length=1+(cS it).length:=by simp only[aH,List.length_cons];omega
   have hr1:aj 1 4 (aN 4 [Value.string (gl ks i),Value.string (ByteArray.mk #[]),Value.int .i64 0,Value.bool true]) (af kJ [it]):=.dW fun i hi=>by
    have:i=0:=by omega
    subst this;rw[hit];rfl
   have hm1:∀i,i < [it].length->fU (gl [it] i)=true:=fun i hi=>by
    have:i=0:=by simp at hi;omega
    subst this;exact hm
   refine⟨by omega,by omega,D9.mk [it] 1,?_⟩
   and_intros<;>first|exact cV|exact hr1|exact hm1|exact Nat.le_refl _|decide|skip
   intro c _;rw[hI]
   repeat refine kO ?_
   intro cap q1 q2 q3;refine⟨Ed.mk M ⟨H1,y1,x1,xc1⟩ (aH (some it)) cap,?_⟩;have hr2:aj (aH (some it)).length 1 (aZ (aN 1 [Value.int .u8 1]) 0 1 fun(i j:Nat)=>af cA (cS it) (0+i) j) (af cA (aH (some it))):=⟨fun i hi j hj=>by
    have hj0:j=0:=by omega
    subst hj0;simp only[aZ,Nat.zero_add];by_cases h0:i<1
    ·have:i=0:=by omega
     subst this;rfl
    ·rw[if_neg h0];obtain⟨q,rfl⟩:∃q,i=q+1:=⟨i-1,by omega⟩
     simp only[af,aH,Nat.add_sub_cancel];congr 2⟩
   simp only[Nat.zero_add]at hr2
   and_intros<;>first|exact cV|rfl|exact aj.refl _ _ _|exact Nat.le_refl _|exact hr2|exact hat1|exact hat1.log|exact hat1.idx|exact hok1|exact hok1.log|exact hok1.ye|(dsimp only;omega)|skip
   rintro⟨H2,y2,x2,xc2⟩ ⟨⟨g1,g2⟩,hfr⟩;dsimp only at g1 g2 hfr ⊢;refine⟨Ix.tT.mk x2 xc2 (gl ks i),?_⟩;have hn:=Bs g2;have hln:(iz M (aH (some it))).l.length<=M.l.length:=List.length_filter_le _ _;have hfew:=hok1.ye;have hks:(gl ks i).size<=aq:=by
    have h40:(gl ks i).size<=40:=by have:=(qG hm).1;rw[hit]at this;exact this
    simp only[aq];omega
   obtain⟨hd1,hd2⟩:=JW (k:=gl ks i) g2
   and_intros<;>first|exact cV|rfl|exact aj.refl _ _ _|exact Nat.le_refl _|exact g2.inv|exact hks|exact hd2|(dsimp only;omega)|skip
   intro _ _;have hat2:jg (oe M (gl ks i)) ⟨H2,y2,Ix.kF x2 (gl ks i),xc2⟩:=by rw[hdF];exact⟨g1,hd1⟩
   have hfr2:tU ⟨H,y,x,xc⟩ ⟨H2,y2,Ix.kF x2 (gl ks i),xc2⟩:=fun z hz hn=>by
    obtain⟨a1,a2⟩:=hfr1 z hz hn;obtain⟨b1,b2⟩:=hfr z (by rw[a1];exact hz) a2;exact⟨b1.trans a1,b2⟩
   refine⟨by simp only[bL];omega,⟨i+1,⟨H2,y2,Ix.kF x2 (gl ks i),xc2⟩⟩,?_⟩;dsimp only;rw[hstep];rw[hdF]at hat2 ⊢
   and_intros<;>first|exact cV|rfl|exact aj.refl _ _ _|exact Nat.le_refl _|exact hat2|exact hfr2|exact hall|skip
  ·have hi':i=ks.length:=by have:=of_decide_eq_false c1;omega
   subst hi';have hat2:jg (Hs (gh m0 ks ks.length)) ⟨H1,y1,x1,xc1⟩:=⟨hat1.log,hat1.idx⟩
   refine⟨(gh m0 ks ks.length).d,?_⟩;rw[hyes hall,hall]
   and_intros<;>first|exact cV|rfl|exact aj.refl _ _ _|exact Nat.le_refl _|exact hok2|exact hok3|skip
   intro _ _;refine⟨⟨H1,y1,x1,xc1⟩,?_⟩
   and_intros<;>first|exact cV|rfl|exact aj.refl _ _ _|exact Nat.le_refl _|exact hat2|exact hfr1)
theorem P6:ak (Y Tryz.prog).G.X 135 Ht:=aV fK P5 ⟨yd,Gu,Hp,Ix.JV,iF,trivial⟩
theorem TJ{n:Nat}:aj n 4 (fun(x j:Nat)=>[Go.Value.string { data:=#[] },Go.Value.int Go.IntKind.i64 0,Go.Value.bool Bool.false,Go.Value.bool Bool.false].getD j (Go.Value.tuple #[])) (af Ix.Ba (Ix.bJ n).t):=by
 refine .dW fun i hi=>?_;unfold af;rw[show gl (Ix.bJ n).t i=⟨.empty,0,false,false⟩from Ix.sX hi];rfl
theorem P7:aj 16 4 (fun(x j:Nat)=>[Go.Value.string { data:=#[] },Go.Value.int Go.IntKind.i64 0,Go.Value.bool Bool.false,Go.Value.bool Bool.false].getD j (Go.Value.tuple #[])) (af Ix.Ba (Ix.bJ 16).t):=TJ
noncomputable def Ol:cD where
 α:=Unit
 β:=Unit
 m:=0
 m':=2
 pre:=fun _=>True
 args:=fun _=>[]
 hp:=fun _=>[]
 ro:=fun _=>[]
 post:=fun _ _=>True
 res:=fun _ _=>.a (.ptr 0 0 0 0)
 cT:=fun _ _=>Ix.o8 0 1 (Ix.bJ 16).t 16 (Ix.bJ 16).n (Ix.bJ 16).used
theorem TK:fnBody (Y Tryz.prog) [] 178 Ol fun _=>[]:=fnBody.of (p :=
 aI (lJ 16 512 (ay (ag (bD 16 16/\cz 0 0 (aL 16 16 4 Hg (cZ (Ix.bJ 16).t)) (True/\True)))))) (by kernel_rfl) (by
 delta aS cz aL bu bW bH dO bM dc aI bD bE lJ ay fZ ag dZ cZ dX Hg
 try dsimp -iota -proj only
 intro _ _;refine⟨by omega,by omega,by omega,(),?_⟩
 and_intros<;>first|exact cV|rfl|exact aj.refl _ _ _|exact Nat.le_refl _|exact P7)
theorem JZ:ak (Y Tryz.prog).G.X 178 Ol:=aV fK TK trivial
def vK(l:List (ByteArray×Int))(o:Option aB)(pos:Int):List (ByteArray×Int):=match o with
 |none=>[]
 |some x=>if x.gone then l5 l x.key else Ee l x.key pos
def ni(es:List (Option aB))(rs:List RecM):Nat->List (ByteArray×Int)
 |0=>[]
 |i+1=>vK (ni es rs i) (gl es i) (gl rs i).pos
theorem E8(es:List (Option aB))(rs:List RecM):∀i,(ni es rs i).length<=i
 |0=>Nat.le_refl _
 |i+1=>by
  have:=E8 es rs i;show(vK _ _ _).length<=_;unfold vK;split
  ·simp
  ·split
   ·have:=E7 (ni es rs i) (by assumption:aB).key;omega
   ·have:=JX (ni es rs i) (by assumption:aB).key (gl rs i).pos;omega
theorem Hy{l:List dx}{i k:Nat}(hi:i<l.length)(hk:k<(gl l i).aR.length):∃j,j<(fV l).length/\gl (fV l) j=gl (gl l i).aR k:=by
 have hm:gl (gl l i).aR k∈fV l:=List.mem_flatMap.2 ⟨gl l i,by rw[bR hi];exact List.getElem_mem _,by rw[bR hk];exact List.getElem_mem _⟩;obtain⟨j,hj,e⟩:=List.getElem_of_mem hm;exact⟨j,hj,by rw[bR hj];exact e⟩
structure kX where
 H:PH
 d:bw
 from_:Nat
 au:Nat
 es:List (Option aB)
def J1(a:kX):nT:=⟨cN a.from_ a.au a.d,a.d,ni a.es (fV (cN a.from_ a.au a.d).l) a.es.length⟩
structure XT(es:List (Option aB))(rs:List RecM):Prop where
 len:es.length=rs.length
 ye:es.length<9000
 at_:∀i,i<es.length->(gl rs i).body=aH (gl es i)/\∀x,gl es i=some x->fU x=true
noncomputable def zT:cD where
 α:=kX
 β:=rG
 m:=3
 m':=8
 pre:=fun a=>rj a.from_ a.au a.d/\XT a.es (fV (cN a.from_ a.au a.d).l)/\∀i,i<(cN a.from_ a.au a.d).l.length->(gl (cN a.from_ a.au a.d).l i).aR.length<=400
 args:=fun a=>[.a (.ptr 0 0 0 0),.a (.int .i64 a.from_),.a (.int .i64 a.au)]
 hp:=fun a=>[(2,.cu a.H)]
 ro:=fun a=>gA 0 1 a.d
 post:=fun a b=>jg (J1 a) b/\∀z,a.H z≠none->b.H z=a.H z/\z∉br b.y
 res:=fun a b=>.l8 [.a (.ptr 3 0 0 0),.a (.lit .i64 0)]
 cT:=fun a b=>[(3,.obj 205 [.ptr 4 0 0 0,.ptr 5 0 0 0]),(4,fo 0 (J1 a).L b.y.lv)]++Ix.o8 5 6 b.x.t b.cap b.x.n b.x.used++[(7,.cu b.H)]
structure uZ where
 i:Nat
 x:Ix.cK
 cap:Nat
def S.ix(s:S)(c:Nat)(x:Ix.cK)(cap:Nat):S :=
 (((s.put ((s.hp.del (s.fh (s.fh c 1) 0)).del (s.fh c 1))).new (.arr 251 Ix.XR x.t.length (af Ix.Ba x.t))).new (.obj 247 [.slc s.nx 0 4 x.t.length cap,.int .i64 x.n,.int .i64 x.used])).at_ c (.obj 205 [.ptr (s.fh c 0) 0 0 0,.ptr (s.nx+1) 0 0 0])
def XU(a:kX):An:=.flat 6 uZ (fun s z=>(S.ix s (s.tg 10) z.x z.cap).int 32 z.i) (fun _ z=>z.i<=a.es.length/\Ix.Has z.x (ni a.es (fV (cN a.from_ a.au a.d).l) z.i)) (fun _ z=>a.es.length-z.i)
noncomputable def TL:List (Nat×cD):=[(175,G4),(178,Ol),(176,Ob),(179,Oh),(180,Ix.Og),(123,Ix.Ch)]
def Hz(z:wm)(x:kX)(u:IS)(w:mE)(s:Prop):=jk z.v (ag (cH (aW (dY (aG 0) (cz (aa x.from_) (aa x.au) (z.H=z.H) (ax (ag (fq (cN u.from_ u.au u.d) w.y (iR x.d x.d s)))))))))
def C0(z:uZ)(y:kX):=Ix.Has z.x (ni y.es (fV (cN y.from_ y.au y.d).l) z.i)
def Om(z:uZ)(v:wm)(u:kX)(w:IS)(s:mE)(t:Ix.cK)(f:Nat):=aP z.i (∃y:uZ,aY z.i=aa y.i/\Hz v u w s (yw t y.x f y.cap (dP y.i u.es.length (C0 y u) z.i)))
noncomputable def Mt(v:V1 uY.α)(y:uZ)(w:wm)(s:kX)(t:IS)(f:mE)(g:List Value)(h:Nat):=qT v.a.o.isSome (aB.gone (jm v.a.o)) (∃u:Ix.tT,ag (aB.key (jm v.a.o)=u.key/\yw y.x u.x y.cap u.cap (zM u/\aI (Om y w s t f (Ix.kF u.x u.key) u.cap)))) (aO v.a.o.isSome (ah (jD (aS g h))->∃z:Ix.l9,ag (aB.key (jm v.a.o)=z.key/\jD (aS g h)=z.pos/\yw y.x z.x y.cap z.cap (zL z/\∀i:Nat,True->Om y w s t f (Ix.tS z.x z.key z.pos) i))) (Om y w s t f y.x y.cap))
def zU(x y:Nat)(z:bw)(v:Prop):=rj x y z/\v/\∀u:Nat,u<bz (cN x y z)->oM (cN x y z) u<=400
theorem P8:fnBody (Y Tryz.prog) TL 130 zT fun a=>[(130,[XU a],[])]:=fnBody.of (p :=
 ∀z:kX,zU z.from_ z.au z.d (XT z.es (fV (cN z.from_ z.au z.d).l))->∃u:IS,ag (bq z.from_ u.from_/\bq z.au u.au/\z.H=u.H/\iR z.d u.d (rj u.from_ u.au u.d/\∀k:mE,xm k u->ay (cO (∃q:tL,dY (k.H=q.H) (qW (cN u.from_ u.au u.d) q.L k.y.lv q.y.lv (zA q/\∀f:wm,zz f q->fD f.v/\(∃w:uZ,aC w.i (Hz f z u k (nH 16 w.x 16 w.cap 0 0 (cZ (Ix.bJ 16).t) (w.i<=z.es.length/\C0 w z))))/\∀w:uZ,w.i<=z.es.length/\C0 w z->uO w.i f.v (fun s=>f.H s) (fun s h=>∃g:V1 uY.α,aS h (s+1)=g.v/\f.H=g.H/\(zO g.a.o g.a.cap/\jW g.H g.v (iN (CK.int .u8)) (Br g.a).n (Br g.a).cap (Br g.a).rows)/\∀e:uY.β,True->fD (aS h (s+1))/\aO (aa (di (aS h (s+1))) == (1:Int)) (iM (aS h (s+1)) 0 fun r c=>Exists (mF r c 0 (fun m=>f.H m) (fun m=>∃p:Int,m=fk p/\jE p) (fun m p=>True) fun m p=>jE (jD (aS p m))->aO (jD (aS p m) == (2:Int)) (ay (cO (aP w.i (∃j:uZ,aY w.i=aa j.i/\Hz f z u k (ag (16=bI j.x/\16=j.cap)/\aC j.x.n (aC j.x.used (aL (bI j.x) 16 4 (cZ (Ix.bJ 16).t) (cZ j.x.t)/\dP j.i z.es.length (C0 j z) w.i))))))) (Mt g w f z u k h s))) (Mt g w f z u k h s)) (∃s:rG,ag (aW (ax (ag (qW (cN u.from_ u.au u.d) (J1 z).L k.y.lv s.y.lv (yw w.x s.x w.cap s.cap (f.H=s.H /\
 (jg (J1 z) s/\∀h:Nat,oN (z.H h) (s.H h) (br s.y) h)/\True)))))))))))))) (by kernel_rfl) (by
 delta qT aO aS av cz aL ah bW az aG bB bI aQ aY aa mF dP fk bg aD dO aX dY cM Om fD aI bA qh cH bz gO fq xh nH Mt xm ay iM aC Hz zU aW jk zz ag aA uO oN aP bh zM jm gR iN bq C0 ax zA jE zO cO oM cZ jj zL
 try dsimp -iota -proj only
 rintro⟨H,d,fr,sg,es⟩ ⟨ok,hes,hsl⟩;dsimp only at *;obtain⟨L,hL⟩:∃L,L=cN fr sg d:=⟨_,rfl⟩
 have hone:L.l.length<=1:=by rw[hL];exact ok.one
 have hopn:J1 ⟨H,d,fr,sg,es⟩=⟨L,d,ni es (fV L.l) es.length⟩:=by rw[hL];rfl
 rw[hopn];rw[<- hL]at hes hsl;refine⟨IS.mk H d fr sg,?_⟩;dsimp only;rw[<- hL]
 and_intros<;>first|exact cV|rfl|exact aj.refl _ _ _|exact Nat.le_refl _|exact ok|skip
 rintro⟨H1,y1⟩ ⟨hl1,hf1⟩;dsimp only at hl1 hf1 ⊢;refine⟨(),trivial,fun _ _=>⟨tL.mk H1 y1 L,?_⟩⟩;have hrec:∀i,i<L.l.length->(gl L.l i).aR.length<=400/\∀k,k<(gl L.l i).aR.length->1<=(gl (gl L.l i).aR k).body.length/\(gl (gl L.l i).aR k).body.length<=1000:=fun i hi=>⟨hsl i hi,fun k hk=>by
  obtain⟨j,hj,e⟩:=Hy hi hk;obtain⟨e1,e2⟩:=hes.at_ j (by rw[hes.len];exact hj);rw[<- e,e1];have:=lS e2;omega⟩
 and_intros<;>first|exact cV|rfl|exact aj.refl _ _ _|exact Nat.le_refl _|exact hl1|exact hrec|(dsimp only;omega)|skip
 rintro⟨H2,v,vs⟩ ⟨hout,hf2⟩;dsimp only at hout hf2 ⊢;obtain⟨cr,hrows⟩:=hout.rows;obtain⟨s1,s2,s3,s4,s5,⟨sa,s6⟩,s7⟩:=eU hrows;have hlen:=hes.len;have hfew:=hes.ye;have hlog:bT H2 y1 L:=hl1.frame fun z hz=>(hf2 z (hl1.dom z hz)).1;have hfin:∀z,H z≠none->H2 z=H z/\¬z∈br y1:=fun z hz=>by
  obtain⟨a1,a2⟩:=hf1 z hz;exact⟨(hf2 z (by rw[a1];exact hz)).1.trans a1,a2⟩
 refine⟨⟨sa,_,_,s6,by simp only[aq];omega⟩,⟨⟨0,Ix.bJ 16,16⟩,?_⟩,fun q hq=>?_⟩
 ·have h0:Ix.Has (Ix.bJ 16) (ni es (fV L.l) 0):=Ix.vJ (by omega) (by omega)
  and_intros<;>first|exact cV|rfl|exact aj.refl _ _ _|exact Nat.le_refl _|exact h0
 ·obtain⟨i,x,xc⟩:=q;obtain⟨hi,hx⟩:=hq;dsimp only at hi hx ⊢;have hxl:(ni es (fV L.l) i).length<=i:=E8 es (fV L.l) i;have hn:=Bs hx;have hstep:ni es (fV L.l) (i+1)=vK (ni es (fV L.l) i) (gl es i) (gl (fV L.l) i).pos:=rfl;rw[s1];refine⟨fun c1=>?_,fun c1=>⟨⟨H2,y1,x,xc⟩,?_⟩⟩
  ·have hi':i<es.length:=by have:=of_decide_eq_true c1;omega
   obtain⟨b',lo',o',cs',q1,q2,q3,q4,q5,q6,q7,q8⟩:=uN hrows (k:=i) (by omega);obtain⟨cb,hbody⟩:=hout.body i (by omega);obtain⟨e1,e2⟩:=hes.at_ i hi';rw[e1]at hbody;obtain⟨w1,w2,w3,w4,w5,⟨wa,w7⟩,w6⟩:=eU hbody;obtain⟨hb1,hb2⟩:=lS e2;refine⟨_,_,_,_,q1,by omega,b',lo',o'+i*2,cs',by rw[Int.toNat_natCast];congr 1;omega,q2,⟨⟨_,q3,_,rfl,q6⟩,⟨_,q4,q5⟩,trivial⟩,?_⟩;rw[q7,q8];refine⟨⟨⟨gl es i,cb⟩,H2,vs.getD i undef⟩,rfl,rfl,⟨⟨e2,w3⟩,hbody⟩,fun _ _=>⟨⟨wa,_,_,w7,by simp only[aq];omega⟩,?_⟩⟩;rw[w1];dsimp only[jD];cases ho:gl es i with
   |none =>
    rw[ho]at hbody hstep;refine⟨fun _=>?_,fun c=>absurd c (by simp[aH])⟩;rcases hbody with⟨_,h0,_⟩ | ⟨b9,lo9,o9,cs9,h9,h91,h92,h93,h94⟩
    ·cases h0
    obtain⟨k1,_⟩:=h94.at_ 0 (by simp[aH]) 0 (.int .u8) rfl;have k1:cs9[o9]? = some (.int .u8 2):=k1;have k2:cs9.getD o9 (Value.tuple #[]) = .int .u8 2:=by rw[List.getD_eq_getElem?_getD,k1];rfl
    refine⟨_,_,_,_,h9,by simp[aH],b9,lo9,o9,cs9,rfl,h92,⟨⟨_,k1,2,rfl,by simp only[bL];omega⟩,trivial⟩,fun _=>?_⟩;rw[k2];dsimp only[jD];refine⟨fun _=>⟨(),trivial,fun _ _=>⟨by simp only[bL];omega,⟨i+1,Ix.bJ 16,16⟩,?_⟩⟩,fun c=>absurd c (by decide)⟩;have h0:Ix.Has (Ix.bJ 16) (ni es (fV L.l) (i+1)):=by rw[hstep];exact Ix.vJ (by omega) (by omega)
    and_intros<;>first|exact cV|rfl|exact aj.refl _ _ _|exact Nat.le_refl _|exact h0|(dsimp only;omega)
   |some it =>
    rw[ho]at hbody hstep e2;have hmay:=e2 it rfl;have hks:it.key.size<=aq:=by have:=qG hmay;simp only[aq];omega
    have hl2:(aH (some it)).length≠1:=by have:=E4 hmay;simp only[aH,List.length_cons];omega
    have hl3:(((aH (some it)).length:Int) == 1)=false:=by rw[beq_eq_false_iff_ne];omega
    refine⟨fun c=>by(rw[hl3]at c;cases c),fun _=>⟨fun _=>⟨fun cg=>⟨Ix.tT.mk x xc it.key,?_⟩,fun cg=>⟨fun _ _=>⟨Ix.l9.mk x xc it.key (gl (fV L.l) i).pos,?_⟩,fun c=>absurd c (show ¬(true=false)by decide)⟩⟩,fun c=>absurd c (show ¬(true=false)by decide)⟩⟩
    ·have cg:it.gone=true:=cg;obtain⟨hd1,hd2⟩:=JW (k:=it.key) hx;have hd3:Ix.Has (Ix.kF x it.key) (ni es (fV L.l) (i+1)):=by rw[hstep];simp only[vK,cg,if_true];exact hd1
     and_intros<;>first|exact cV|rfl|exact aj.refl _ _ _|exact Nat.le_refl _|exact hx.inv|exact hks|exact hd2|(dsimp only;omega)|skip
     intro _ _;refine⟨by simp only[bL];omega,⟨i+1,Ix.kF x it.key,xc⟩,?_⟩
     and_intros<;>first|exact cV|rfl|exact aj.refl _ _ _|exact Nat.le_refl _|exact hd3|(dsimp only;omega)
    ·have cg:it.gone=false:=cg;have hp1:=Oi (p:=(gl (fV L.l) i).pos) hx (by omega) hks;have hp3:Ix.Has (Ix.tS x it.key (gl (fV L.l) i).pos) (ni es (fV L.l) (i+1)):=by rw[hstep];simp only[vK,cg];exact hp1
     and_intros<;>first|exact cV|rfl|exact aj.refl _ _ _|exact Nat.le_refl _|exact hx.inv|exact hks|(dsimp only;omega)|skip
     intro c2 _;refine⟨by simp only[bL];omega,⟨i+1,Ix.tS x it.key (gl (fV L.l) i).pos,c2⟩,?_⟩
     and_intros<;>first|exact cV|rfl|exact aj.refl _ _ _|exact Nat.le_refl _|exact hp3|(dsimp only;omega)
  ·have hi':i=es.length:=by have:=of_decide_eq_false c1;omega
   subst hi'
   and_intros<;>first|exact cV|rfl|exact aj.refl _ _ _|exact Nat.le_refl _|exact⟨hlog,hx⟩|exact hfin)
theorem P9:ak (Y Tryz.prog).G.X 130 zT:=aV fK P8 ⟨ES,JZ,JS,Mr,Ix.JV,Ix.Bm,trivial⟩
structure eH where
 seq:Int
 key:ByteArray
 pos:Int
 deriving Inhabited
def qq:List CK:=[.int .i64,.str,.int .i64]
def cG(x:eH):List Value:=[.int .i64 x.seq,.string x.key,.int .i64 x.pos]
@[reducible] def u0(a b:List eH)(v w:Nat)(p:Prop):Prop:=(0=0/\a.length=b.length/\v=w)/\(b.length<=a.length/\aj b.length 3 (af cG a) (af cG b))/\p
def dH(f:Int)(ms:List eH):List eH:=ms.filter fun x=>decide (f<=x.pos)
def Wd(lg ma:Nat)(n cap:Nat):Chunk:=.obj 226 [.ptr lg 0 0 0,.slc ma 0 3 n cap]
structure nj where
 ms:List eH
 cap:Nat
 H:PH
 y:gP
 L:bP
noncomputable def TM:cD where
 α:=nj
 β:=Int
 m:=6
 m':=6
 pre:=fun a=>bT a.H a.y a.L/\a.L.l.length<1000/\a.ms.length<100000
 args:=fun a=>[.a (.slc 0 0 3 a.ms.length a.cap),.Bd 183 [.ptr 1 0 0 0]]
 hp:=fun _=>[]
 ro:=fun a=>[(0,.arr 228 qq a.ms.length (af cG a.ms)),(1,.obj 85 [.ptr 2 0 0 0]),(2,Wd 3 0 a.ms.length a.cap),(3,fo 4 a.L a.y.lv),(5,.cu a.H)]
 post:=fun a r=>(r = -1/\∀i,i<a.ms.length->cB a.L<=(gl a.ms i).pos)\/∃i:Nat,r=i/\i<a.ms.length/\(gl a.ms i).pos<cB a.L/\∀j,j<i->cB a.L<=(gl a.ms j).pos
 res:=fun _ r=>.a (.int .i64 r)
 cT:=fun _ _=>[]
def Zh(a:nj):An:=.flat 2 Nat (fun s k=>s.int 8 k) (fun _ k=>k<=a.ms.length/\∀j,j<k->cB a.L<=(gl a.ms j).pos) (fun _ k=>a.ms.length-k)
def bX(x:List eH):Nat:=x.length
def xw(z:Nat)(x:nj):=∀y:Nat,y<z->cB x.L<=(gl x.ms y).pos
def C1(z:Int)(x:nj):=z=(-1:Int)/\xw (bX x.ms) x\/∃y:Nat,z=aa y/\y<bX x.ms/\(gl x.ms y).pos<cB x.L/\xw y x
def u5(x y:Nat)(z:Prop):=cz (aa x) 0 (bD x y) z
def Mu(x:nj)(z:Prop):=u5 (bX x.ms) x.cap (ag (dN (bX x.ms) 3 (af cG x.ms)/\ax (bD (bX x.ms) x.cap/\ag (fq x.L x.y (x.H=x.H/\z)))))
theorem TN:fnBody (Y Tryz.prog) [(164,CG)] 211 TM fun a=>[(211,[Zh a],[])]:=fnBody.of (p :=
 ∀x:nj,bT x.H x.y x.L/\bz x.L<1000/\bX x.ms<100000->(∃z:Nat,aC z (Mu x ((z<=bX x.ms/\xw z x)/\True)))/\∀z:Nat,jI z (bX x.ms) (xw z x) (ah (gl x.ms (0+az z)).pos->∃u:Ea,ax (oO x.L u.L x.y u.y x.H u.H (bz u.L<1000) (aI (aA (gl x.ms (0+az z)).pos (iW u.L.l u.L.next) (∃v:Int,aa z=v/\C1 v x/\True) (bY z fun v=>Mu x (dP v (bX x.ms) (xw v x) z)))))) (∃w:Int,(-1:Int)=w/\C1 w x/\True)) (by kernel_rfl) (by
 delta aO cz aL ah bW az eF aQ aY aa dP bg aD aX dN aI gD bD bX bz fq bY C1 aC ag aA aP oO Mu ax xw dR u5 jI
 try dsimp -iota -proj only
 rintro⟨ms,cap,H,y,L⟩ ⟨hl,hf,hn⟩;dsimp only at *;have h0:∀j,j<0->cB L<=(gl ms j).pos:=fun j hj=>absurd hj (Nat.not_lt_zero j);refine⟨⟨0,?_⟩,fun i hi=>?_⟩
 ·and_intros<;>first|exact cc|exact h0|(intro h_;revert h_)|exact cm|skip
 obtain⟨hi,hall⟩:=hi;rw[show 0+(i:Int).toNat=i by omega];refine⟨fun c1=>?_,fun c1=>⟨-1,rfl,.inl ⟨rfl,fun j hj=>hall j (by have:=of_decide_eq_false c1;omega)⟩,trivial⟩⟩;have hlt:i<ms.length:=by have:=of_decide_eq_true c1;omega
 refine⟨⟨by omega,by omega⟩,hlt,fun _=>⟨Ea.mk H y L,?_⟩⟩
 and_intros<;>first|exact cc|exact hl|exact hf|(intro h_;revert h_)|exact cm|skip
 intro _ _;refine⟨fun c2=>⟨i,rfl,.inr ⟨i,rfl,hlt,of_decide_eq_true c2,hall⟩,trivial⟩,fun c2=>⟨by simp only[bL];omega,i+1,?_⟩⟩;have c2:¬(gl ms i).pos<cB L:=of_decide_eq_false c2;have h1:∀j,j<i+1->cB L<=(gl ms j).pos:=fun j hj=>by
  by_cases e:j=i
  ·subst e;omega
  ·exact hall j (by omega)
 and_intros<;>first|exact cc|exact h1|(intro h_;revert h_)|exact cm|skip)
theorem TO:ak (Y Tryz.prog).G.X 211 TM:=aV fK TN ⟨zy,trivial⟩
def qz(f:Int)(ms:List eH)(j:Nat):List eH:=dH f (ms.take j)++ms.drop (dH f (ms.take j)).length
noncomputable def TP:cD where
 α:=nj
 β:=Unit
 m:=6
 m':=6
 pre:=fun a=>bT a.H a.y a.L/\a.L.l.length<1000/\a.ms.length<100000/\a.ms.length<=a.cap
 args:=fun a=>[.a (.slc 0 0 3 a.ms.length a.cap),.Bd 183 [.ptr 1 0 0 0]]
 hp:=fun a=>[(0,.arr 228 qq a.ms.length (af cG a.ms))]
 ro:=fun a=>[(1,.obj 85 [.ptr 2 0 0 0]),(2,Wd 3 0 a.ms.length a.cap),(3,fo 4 a.L a.y.lv),(5,.cu a.H)]
 post:=fun _ _=>True
 res:=fun a _=>.a (.slc 0 0 3 (dH (cB a.L) a.ms).length a.cap)
 cT:=fun a _=>[(0,.arr 228 qq (dH (cB a.L) a.ms).length (af cG (dH (cB a.L) a.ms)))]
theorem pQ{f:Int}{ms:List eH}{j:Nat}(hj:j<ms.length):dH f (ms.take (j+1))=if f<=(gl ms j).pos then dH f (ms.take j)++[gl ms j]else dH f (ms.take j):=by
 unfold dH;rw[pO hj,List.filter_append];by_cases h:f<=(gl ms j).pos
 ·rw[if_pos h];simp[h]
 ·rw[if_neg h];simp[h]
theorem Bt(f:Int)(ms:List eH)(j:Nat):(dH f (ms.take j)).length<=j:=Nat.le_trans (List.length_filter_le _ _) (by rw[List.length_take];omega)
theorem J2{f:Int}{ms:List eH}(h:∀i,i<ms.length->f<=(gl ms i).pos):dH f ms=ms:=by
 unfold dH;rw[List.filter_eq_self];intro x hx;obtain⟨i,hi,rfl⟩:=List.getElem_of_mem hx;rw[<- bR hi];exact decide_eq_true (h i hi)
theorem AQ{f:Int}{ms:List eH}:∀ {k:Nat},k<=ms.length->(∀i,i<k->f<=(gl ms i).pos)->dH f (ms.take k)=ms.take k
 |0,_,_=>rfl
 |k+1,hk,h=>by rw[pQ (by omega),if_pos (h k (by omega)),AQ (by omega) fun i hi=>h i (by omega),pO (by omega)]
theorem We{f:Int}{ms:List eH}{j:Nat}(hj:j<ms.length):gl (qz f ms j) j=gl ms j:=by
 have h1:=Bt f ms j;obtain⟨q,hq⟩:∃q,j=(dH f (ms.take j)).length+q:=⟨j-(dH f (ms.take j)).length,by omega⟩
 have h2:gl (qz f ms j) ((dH f (ms.take j)).length+q)=gl (ms.drop (dH f (ms.take j)).length) q:=bf;rw[<- hq]at h2;rw[h2,bR (by rw[List.length_drop];omega),bR hj,List.getElem_drop];congr 1;omega
theorem TQ{f:Int}{ms:List eH}{j:Nat}(hj:j<ms.length)(h:f<=(gl ms j).pos):qz f ms (j+1)=(qz f ms j).set (dH f (ms.take j)).length (gl ms j):=by
 have h1:=Bt f ms j;unfold qz;rw[pQ hj,if_pos h,List.length_append,List.length_singleton,List.set_append_right _ _ (Nat.le_refl _),Nat.sub_self,List.drop_eq_getElem_cons (show(dH f (ms.take j)).length<ms.length by omega),List.set_cons_zero,List.append_assoc];rfl
theorem Wg{f:Int}{ms:List eH}{j:Nat}(hj:j<ms.length)(h:¬f<=(gl ms j).pos):qz f ms (j+1)=qz f ms j:=by
 unfold qz;rw[pQ hj,if_neg h]
theorem TR(f:Int)(ms:List eH){j:Nat}(hj:j<=ms.length):(qz f ms j).length=ms.length:=by
 have h1:=Bt f ms j;unfold qz;rw[List.length_append,List.length_drop];omega
def Zi(a:nj):An:=.flat 5 Nat (fun s j=>((s.at_ 0 (.arr 228 qq a.ms.length (af cG (qz (cB a.L) a.ms j)))).int 5 ((dH (cB a.L) (a.ms.take j)).length:Nat)).int 6 j) (fun _ j=>j<=a.ms.length) (fun _ j=>a.ms.length-j)
def qs(x:nj)(y:Nat):Nat:=bX (dH (cB x.L) (List.take y x.ms))
def HA(u:Int)(x:nj)(z:Nat)(v:Int)(w:Nat->Nat->Value)(s:Prop):=u=aa (qs x z)/\bB (v == (-1:Int))/\bD (bX x.ms) x.cap/\ag (aL (bX x.ms) (bX x.ms) 3 w (af cG (qz (cB x.L) x.ms z))/\ax (bD (bX x.ms) x.cap/\ag (fq x.L x.y (x.H=x.H/\s))))
def zV(x:nj)(y:Nat):eH:=gl (qz (cB x.L) x.ms y) (0+az y)
def HB(z:List eH)(x:nj)(u:Nat)(v:bP)(w:gP)(s:PH)(t f:Prop):=dJ (bX z) (bX x.ms) u x.cap (0=0) 3 (af cG z) (af cG x.ms) (ax (ag (bX z=bX x.ms/\u=x.cap)/\ag (oO v x.L w x.y s x.H (bz x.L<1000/\t) f)))
theorem TS:fnBody (Y Tryz.prog) [(164,CG),(211,TM)] 182 TP fun a=>[(182,[Zi a],[])]:=fnBody.of (p :=
 ∀x:nj,bT x.H x.y x.L/\bz x.L<1000/\bX x.ms<100000/\bX x.ms<=x.cap->∃s:nj,HB x.ms s x.cap x.L x.y x.H (bX s.ms<100000) (∀u:Int,C1 u s->aO (u == (-1:Int)) (ay (u0 x.ms (dH (cB x.L) x.ms) x.cap x.cap (True/\True))) (ah (u+(1:Int))/\(∃z:Nat,u+(1:Int)=aa z/\HA u x z u (af cG x.ms) (z<=bX x.ms/\True))/\∀z:Nat,z<=bX x.ms->gD z (bX x.ms) (ah (eH.pos (zV x z))->∃v:Ea,ax (oO x.L v.L x.y v.y x.H v.H (bz v.L<1000) (aI (aO (bx (aQ (eH.pos (zV x z)) (iW v.L.l v.L.next))) (dR (qs x z) (bX x.ms) (aP (qs x z) (bY z fun w=>HA (aY (qs x z)) x w u (jV (af cG (qz (cB x.L) x.ms z)) (0+az (qs x z)) 0 (bu (eH.seq (zV x z)) (dZ (eH.key (zV x z)) (eH.pos (zV x z)) []))) (bS w (bX x.ms) z)))) (bY z fun w=>HA (aa (qs x z)) x w u (af cG (qz (cB x.L) x.ms z)) (bS w (bX x.ms) z)))))) (lP (qs x z) (bX x.ms)/\lP (qs x z) x.cap/\ay (ag (az (qs x z)-0=bX (dH (cB x.L) x.ms)/\x.cap-0=x.cap)/\bp (aL (bX (dH (cB x.L) x.ms)) (bX x.ms) 3 (fun t=>zn (qs x z) t (bX x.ms) (bu 0 (dZ dc 0 [])) fun v=>af cG (qz (cB x.L) x.ms z) t v) (af cG (dH (cB x.L) x.ms)))))))) (by kernel_rfl) (by
 delta aO aS aL ah bu bW az bB eF aQ aY aa cI bg aD dO aX bM dc aI gD bD bX bz dJ bE bS fq bY qs ay C1 HA ag aA aP oO zn ax bp dZ xw zV dR bx HB lP
 try dsimp -iota -proj only
 rintro⟨ms,cap,H,y,L⟩ ⟨hl,hf,hn,hcap⟩;dsimp only at *;refine⟨nj.mk ms cap H y L,?_⟩
 and_intros<;>first|exact cc|exact hl|exact hf|exact hn|(intro h_;revert h_)|exact cm|skip
 intro b hb;dsimp only at hb;obtain⟨f,hff⟩:∃f,f=cB L:=⟨_,rfl⟩
 rw[<- hff]at hb;rw[<- hff];refine⟨fun c=>⟨(),?_⟩,fun c=>?_⟩
 ·have hk:dH f ms=ms:=by
   rcases hb with⟨_,h⟩ | ⟨i,hi,_⟩
   ·exact J2 h
   ·have:=eq_of_beq c;omega
  rw[hk]
  and_intros<;>first|exact cc|(intro h_;revert h_)|exact cm|skip
 rcases hb with⟨h,_⟩ | ⟨i0,rfl,hi0,hlt,hall⟩
 ·rw[h]at c;cases c
 have hk0:dH f (ms.take i0)=ms.take i0:=AQ (by omega) hall;have hk1:dH f (ms.take (i0+1))=ms.take i0:=by rw[pQ hi0,if_neg (by omega),hk0]
 have hl0:(dH f (ms.take (i0+1))).length=i0:=by rw[hk1,List.length_take];omega
 have hd0:qz f ms (i0+1)=ms:=by unfold qz;rw[hl0,hk1,List.take_append_drop]
 refine⟨by simp only[bL];omega,⟨i0+1,?_⟩,fun j hj=>?_⟩
 ·rw[hl0,hd0]
  and_intros<;>first|exact cc|(intro h_;revert h_)|exact cm|skip
 have hcj:=Bt f ms j;obtain⟨c1,hc1⟩:∃c1,c1=(dH f (ms.take j)).length:=⟨_,rfl⟩
 rw[<- hc1]at hcj;rw[<- hc1,show 0+(j:Int).toNat=j by omega,show 0+(c1:Int).toNat=c1 by omega,show(c1:Int).toNat=c1 by omega];refine⟨fun d1=>?_,fun d1=>?_⟩
 ·have hj2:j<ms.length:=by have:=of_decide_eq_true d1;omega
  rw[We hj2];refine⟨⟨by omega,by omega⟩,hj2,fun _=>⟨Ea.mk H y L,?_⟩⟩
  and_intros<;>first|exact cc|exact hl|exact hf|(intro h_;revert h_)|exact cm|skip
  intro _ _;dsimp only;rw[show iW L.l L.next=f from hff.symm];refine⟨fun d2=>?_,fun d2=>?_⟩
  ·have hp:f<=(gl ms j).pos:=by simp only[Bool.not_eq_true',decide_eq_false_iff_not]at d2;omega
   have hk2:(dH f (ms.take (j+1))).length=c1+1:=by rw[pQ hj2,if_pos hp,List.length_append,<- hc1];rfl
   have hr:aj ms.length 3 (jV (af cG (qz f ms j)) c1 0 [Value.int .i64 (gl ms j).seq,Value.string (gl ms j).key,Value.int .i64 (gl ms j).pos]) (af cG (qz f ms (j+1))):=by
    rw[TQ hj2 hp,<- hc1];exact aj.set c1 (by rw[TR f ms (by omega)];omega) (fun i hi=>gN hi) (by rw[iY];rfl)
   refine⟨⟨by omega,by omega⟩,by omega,by simp only[bL];omega,by simp only[bL];omega,j+1,?_⟩;rw[hk2]
   and_intros<;>first|exact cc|exact hr|(intro h_;revert h_)|exact cm|skip
  ·have hp:¬f<=(gl ms j).pos:=by simp only[Bool.not_eq_false',decide_eq_true_eq]at d2;omega
   have hk2:(dH f (ms.take (j+1))).length=c1:=by rw[pQ hj2,if_neg hp,<- hc1]
   refine⟨by simp only[bL];omega,j+1,?_⟩;rw[hk2,Wg hj2 hp]
   and_intros<;>first|exact cc|(intro h_;revert h_)|exact cm|skip
 ·have hj2:j=ms.length:=by have:=of_decide_eq_false d1;omega
  subst hj2;have hk:(dH f ms).length=c1:=by rw[hc1,List.take_length]
  rw[hk];have hr:aj c1 3 (fun(i j:Nat)=>if c1<=i/\i<c1+(ms.length-c1)then[Value.int .i64 0,Value.string (ByteArray.mk #[]),Value.int .i64 0].getD j (Value.tuple #[])else af cG (qz f ms ms.length) i j) (af cG (dH f ms)):=⟨fun i hi j hj=>by
   rw[if_neg (by omega)];unfold af qz;rw[bN (by rw[List.take_length,hk];exact hi),List.take_length]⟩
  refine⟨⟨by omega,by omega⟩,⟨by omega,by omega⟩,(),?_⟩
  and_intros<;>first|exact cc|exact hr|(intro h_;revert h_)|exact cm|skip)
theorem TT:ak (Y Tryz.prog).G.X 182 TP:=aV fK TS ⟨zy,TO,trivial⟩
def gU(ms:List eH):Int:=if ms.length=0 then 0 else(gl ms (ms.length-1)).seq
structure Ef where
 ms:List eH
 cap:Nat
noncomputable def On:cD where
 α:=Ef
 β:=Unit
 m:=3
 m':=3
 pre:=fun a=>a.ms.length<100000
 args:=fun a=>[.a (.ptr 0 0 0 0)]
 hp:=fun _=>[]
 ro:=fun a=>[(0,Wd 2 1 a.ms.length a.cap),(1,.arr 228 qq a.ms.length (af cG a.ms))]
 post:=fun _ _=>True
 res:=fun a _=>.a (.int .i64 (gU a.ms))
 cT:=fun _ _=>[]
theorem TU:fnBody (Y Tryz.prog) [] 140 On fun _=>[]:=fnBody.of (p :=
 ∀x:Ef,bX x.ms<100000->aO (aa (bX x.ms) == (0:Int)) (bQ ((0:Int)=gU x.ms)) (ah (aa (bX x.ms)-(1:Int))/\nG (aa (bX x.ms)-(1:Int)) (bX x.ms) (uP (gl x.ms (0+aX (aa (bX x.ms)-(1:Int)))).seq (gU x.ms)))) (by kernel_rfl) (by
 delta aO ah eF aa bg aD aX bX bQ ay nG bp uP
 rintro⟨ms,cap⟩ hn;dsimp only at *;refine⟨fun c=>⟨(),?_,trivial,trivial⟩,fun c=>?_⟩
 ·have:=eq_of_beq c;unfold gU;rw[if_pos (by omega)]
 ·have h0:ms.length≠0:=fun e=>by rw[e]at c;cases c
  rw[show 0+((ms.length:Int)-1).toNat=ms.length-1 by omega];refine⟨by simp only[bL];omega,⟨by omega,by omega⟩,by omega,fun _=>⟨(),?_,trivial,trivial⟩⟩;unfold gU;rw[if_neg h0])
theorem J3:ak (Y Tryz.prog).G.X 140 On:=aV fK TU trivial
structure IT where
 L:bP
 d:bw
 ms:List eH
structure J4 where
 H:PH
 y:gP
 cap:Nat
def Zj(jr ma lg dv ds pl:Nat)(m:IT)(p:J4):List (Nat×Chunk):=[(jr,Wd lg ma m.ms.length p.cap),(ma,.arr 228 qq m.ms.length (af cG m.ms)),(lg,fo dv m.L p.y.lv)]++gA dv ds m.d++[(pl,.cu p.H)]
def HC(p p':J4):Prop:=∀z,p.H z≠none->z∉br p.y->p'.H z=p.H z/\z∉br p'.y
def dI(seq:Int)(k:ByteArray):List Int:=vi seq++IN k
def J5(m:IT)(k:ByteArray):IT:=⟨lQ m.L (dI (gU m.ms+1) k),n9 m.L m.d (dI (gU m.ms+1) k),m.ms++[⟨gU m.ms+1,k,m.L.next⟩]⟩
def dg(m:IT)(ks:List ByteArray):Nat->IT
 |0=>m
 |i+1=>J5 (dg m ks i) (gl ks i)
def Zk(m:IT):IT:={ m with ms:=dH (cB m.L) m.ms }
def gV(m:IT)(ks:List ByteArray):IT:=if fu ks then(if ks.length=0 then Zk m else { Zk (dg m ks ks.length)with d:=gj (dg m ks ks.length).d })else m
theorem og{k:ByteArray}(h:dS k=true):1<=k.size/\k.size<=40:=by
 simp only[dS,Bool.and_eq_true,decide_eq_true_eq,Bool.not_eq_true',decide_eq_false_iff_not]at h;refine⟨?_,h.2⟩;rcases Nat.eq_zero_or_pos k.size with e|e
 ·exact absurd (by
   obtain⟨⟨l⟩⟩:=k;have:l=[]:=List.eq_nil_of_length_eq_zero e;subst this;rfl) h.1
 ·exact e
theorem zW(m:IT)(ks:List ByteArray):∀i,(dg m ks i).ms.length=m.ms.length+i
 |0=>rfl
 |i+1=>by
  show((dg m ks i).ms++[_]).length=_;rw[List.length_append,zW m ks i];rfl
theorem E9{ms:List eH}{x:eH}:aj (ms++[x]).length 3 (aZ (af cG ms) 0 ms.length fun(i j:Nat)=>aN 3 [Value.int .i64 x.seq,Value.string x.key,Value.int .i64 x.pos] (0+i) j) (af cG (ms++[x])):=⟨fun i hi j hj=>by
 rw[List.length_append,List.length_singleton]at hi;simp only[aZ,Nat.zero_add];by_cases h:i<ms.length
 ·rw[if_pos h];unfold af;rw[bN h]
 ·rw[if_neg h];obtain rfl:i=ms.length:=by omega
  rw[Nat.sub_self];unfold af;have:gl (ms++[x]) ms.length=x:=by
   have:=bf (l:=ms) (m:=[x]) (i:=0);rw[Nat.add_zero]at this;rw[this];rfl
  rw[this];rcases(by omega:j=0\/j=1\/j=2)with rfl|rfl|rfl<;>rfl⟩
theorem HC.refl(p:J4):HC p p:=fun _ _ hn=>⟨rfl,hn⟩
structure pe where
 m:IT
 p:J4
 ks:List ByteArray
 kc:Nat
noncomputable def Fa:cD where
 α:=pe
 β:=J4
 m:=7
 m':=9
 pre:=fun a=>bT a.p.H a.p.y a.m.L/\a.m.L.l.length<800/\a.ks.length<1000/\a.m.ms.length<50000/\a.m.ms.length<=a.p.cap/\(fu a.ks=true->(∀i,i<a.ks.length->uL (dg a.m a.ks i).L (dg a.m a.ks i).d/\0<=gU (dg a.m a.ks i).ms/\gU (dg a.m a.ks i).ms<1000000000000)/\(dg a.m a.ks a.ks.length).d.n<100000/\(dg a.m a.ks a.ks.length).d.calls<1000000000000/\(dg a.m a.ks a.ks.length).L.l.length<1000)
 args:=fun a=>[.a (.ptr 0 0 0 0),.a (.slc 6 0 1 a.ks.length a.kc)]
 hp:=fun a=>Zj 0 1 2 3 4 5 a.m a.p
 ro:=fun a=>[(6,.arr 9 [.str] a.ks.length (af kj a.ks))]
 post:=fun a b=>bT b.H b.y (gV a.m a.ks).L/\HC a.p b/\(gV a.m a.ks).ms.length<=b.cap
 res:=fun a _=>.l8 [.a (.int .i64 (if fu a.ks then gU (gV a.m a.ks).ms else 0)),.a (.int .i64 (if fu a.ks then 0 else 1))]
 cT:=fun a b=>Zj 0 7 2 3 4 8 (gV a.m a.ks) b
structure AR where
 i:Nat
 p:J4
def S.jr(s:S)(c:Nat)(m:IT)(p:J4):S :=
 (fun(s1:S)=>((s1.put ((s1.hp.del (EO s1)).del (s.fh c 1))).new (.cu p.H)))
 ((fun(s0:S)=>(s0.new (.arr 228 qq m.ms.length (af cG m.ms))).at_ c (Wd (s.fh c 0) s0.nx m.ms.length p.cap))
  (((s.at_ (s.fh c 0) (fo (s.fh (s.fh c 0) 0) m.L p.y.lv)).at_ (s.fh (s.fh c 0) 0) (.obj 116 [.slc (s.fh (s.fh (s.fh c 0) 0) 0) 0 129 m.d.n m.d.n,.int .i64 m.d.calls])).at_ (s.fh (s.fh (s.fh c 0) 0) 0) (.arr 158 AA m.d.n (eO m.d))))
def XV(a:pe):An:=.flat 4 Nat (fun s i=>s.int 18 i) (fun _ i=>i<=a.ks.length/\∀j,j<i->dS (gl a.ks j)=true) (fun _ i=>a.ks.length-i)
def XW(a:pe):An:=.flat 10 AR (fun s x=>(S.jr s (s.fh (s.tg 2) 0) (dg a.m a.ks x.i) x.p).int 32 x.i) (fun _ x=>x.i<=a.ks.length/\fu a.ks=true/\bT x.p.H x.p.y (dg a.m a.ks x.i).L/\HC a.p x.p/\(dg a.m a.ks x.i).ms.length<=x.p.cap) (fun _ x=>a.ks.length-x.i)
def XX(a:pe):An:=.mk 9 Unit (fun s _=>s) (fun _ _=>fu a.ks=true) (fun _ _=>0) fun _=>.mk 1000 [XW a] []
noncomputable def Wh:List (Nat×cD):=[(140,On),(165,Co),(162,Bq),(182,TP),(169,jB)]
def C2(x:J4)(z:IT)(u:pe):=bT x.H x.y z.L/\HC u.p x/\bX z.ms<=x.cap
def xx(x:List ByteArray)(y:IT):Int:=if fu x=true then gU (gV y x).ms else(0:Int)
def Mv(v:Int)(x:pe)(w:Int)(u:J4)(s:List eH)(t:Nat)(f:IT)(g:bw):=∃z:J4,v=xx x.ks x.m/\w=gT (fu x.ks)/\u.H=z.H/\ag (u0 s (gV x.m x.ks).ms t z.cap (gQ f.L (gV x.m x.ks).L u.y z.y g (gV x.m x.ks).d (C2 z (gV x.m x.ks) x/\True)))
def HD(x:pe)(z:Prop):=qk (ag (bD (aU x.ks) x.kc/\ax (u0 x.m.ms x.m.ms x.p.cap x.p.cap (ag (fq x.m.L x.p.y (iR x.m.d x.m.d (x.p.H=x.p.H/\kW x.ks/\z)))))))
def HE(x:pe):=bT x.p.H x.p.y x.m.L/\bz x.m.L<800/\aU x.ks<1000/\bX x.m.ms<50000/\bX x.m.ms<=x.p.cap/\(aD (fu x.ks)->(∀z:Nat,z<aU x.ks->uL (dg x.m x.ks z).L (dg x.m x.ks z).d/\bg (gU (dg x.m x.ks z).ms) 1000000000000)/\(dg x.m x.ks (aU x.ks)).d.n<100000/\(dg x.m x.ks (aU x.ks)).d.calls<1000000000000/\bz (dg x.m x.ks (aU x.ks)).L<1000)
def oQ(x:pe)(y:AR):List eH:=(dg x.m x.ks y.i).ms
def Mw(x:nj)(z:pe)(u:AR)(v:bw):Ef->Prop:=fun(y:Ef)=>ax (u0 (dH (cB x.L) x.ms) y.ms x.cap y.cap (bX y.ms<100000/\aI (Mv (gU y.ms) z 0 u.p (dH (cB x.L) x.ms) x.cap (dg z.m z.ks u.i) v)))
def Mx(x:pe)(u:PH)(z:AR)(v w:Nat)(s:bP)(t:gP)(f:bw)(g h:Prop):=dK (aU x.ks) x.kc (qk (ag (bD (aU x.ks) x.kc/\u=z.p.H/\ax (ag (v=bX (oQ x z)/\w=z.p.cap)/\gQ s (dg x.m x.ks z.i).L t z.p.y f (dg x.m x.ks z.i).d (kW x.ks/\g/\h)))))
def HF(x:pe)(y:AR):=aD (fu x.ks)/\C2 y.p (dg x.m x.ks y.i) x
theorem TV:fnBody (Y Tryz.prog) Wh 134 Fa fun a=>[(134,[XV a],[XX a])]:=fnBody.of (p :=
 ∀x:pe,HE x->((∃s:Nat,aC s (dK (aU x.ks) x.kc (HD x ((s<=aU x.ks/\qp s x.ks)/\True))))/\∀s:Nat,jI s (aU x.ks) (qp s x.ks) (gC (iZ (gl x.ks (0+az s)) dc) (Mv 0 x 1 x.p x.m.ms x.p.cap x.m x.m.d) (aQ 40 (aa (sI x.ks s))) (bY s fun g=>dK (aU x.ks) x.kc (HD x (dP g (aU x.ks) (qp g x.ks) s)))) (ay (HD x (aD (fu x.ks)/\True))))/\∀s:Unit,aD (fu x.ks)->(∃z:AR,aC z.i (Mx x x.p.H z (bX x.m.ms) x.p.cap x.m.L x.p.y x.m.d (aL (bX (oQ x z)) (bX x.m.ms) 3 (af cG x.m.ms) (af cG (oQ x z))) ((z.i<=aU x.ks/\HF x z)/\True)))/\∀z:AR,jI z.i (aU x.ks) (HF x z) (∃w:Ef,ax (u0 (oQ x z) w.ms z.p.cap w.cap (bX w.ms<100000/\aI (ah (gU w.ms+(1:Int))/\∃v:lM,(0=av v.l/\0=v.cap)/\ze 1 v (av v.l=0) (gU w.ms+(1:Int)) [] fun h=>mB (v.l++ij v.ns)/\gF (av (v.l++ij v.ns)) (sI x.ks z.i) 1 h fun j=>∃u:qZ,dY (ag (av (v.l++ij v.ns)+sI x.ks z.i=av u.body/\j=u.cap)) (qW (dg x.m x.ks z.i).L u.L z.p.y.lv u.y.lv (iR (dg x.m x.ks z.i).d u.d (z.p.H=u.H/\Gs u.body v.l (ij v.ns) x.ks z.i/\zv u/\∀f:mE,w9 f u->gu (bX (oQ x z)) 32 z.p.cap fun k=>aP z.i (∃t:AR,aY z.i=aa t.i/\Mx x f.H t (bX (oQ x z)+1) k (lQ u.L u.body) f.y (n9 u.L u.d u.body) (iJ (bX (oQ x t)) (bX (oQ x z)) 3 (af cG (oQ x z)) (bu (gU w.ms+(1:Int)) (dZ (gl x.ks (0+az z.i)) u.L.next [])) (af cG (oQ x t))) (dP t.i (aU x.ks) (HF x t) z.i))))))))) (∃w:nj,HB (oQ x z) w z.p.cap (dg x.m x.ks z.i).L z.p.y z.p.H (bX w.ms<100000 /\
 bX w.ms<=w.cap) (aI (aA 0 (aa (aU x.ks)) (kC (dg x.m x.ks z.i).d fun v=>Exists (Mw w x z (gj v))) (Exists (Mw w x z (dg x.m x.ks z.i).d)))))) (by kernel_rfl) (by
 delta aO av cz aL ah bu bW az aG gF bB eF aQ aY aa aU dP bg aD dO aX dY bM dN gC dc aI gD bA bD bX cH bz dJ iJ gu bE fq dK Mv bY ki wX HD ze HE ay gT aC kW C2 ag aA qp qi oQ Gs aP bh gR xx kC oO qk ax dZ mB Mw dR gQ HB zv w9 iZ zb Mx jF HF jI sI
 try dsimp -iota -proj only
 rintro⟨m,p,ks,kc⟩ ⟨hl,hlf,hkn,hmn,hcap,hok⟩;dsimp only at *;have no:fu ks=false->gV m ks=m:=fun e=>if_neg (by rw[e];decide);have bad:∀i,i<ks.length->dS (gl ks i)=false->fu ks=false:=fun i hi h=>by
  rw[Bool.eq_false_iff];intro ha;have:=List.all_eq_true.1 ha (gl ks i) (by rw[bR hi];exact List.getElem_mem _);rw[h]at this;cases this
 have h0:∀j,j<0->dS (gl ks j)=true:=fun j hj=>absurd hj (Nat.not_lt_zero j);have hfr0:=HC.refl p;refine⟨⟨⟨0,?_⟩,fun i hi=>?_⟩,fun _ hK=>⟨⟨⟨0,p⟩,?_⟩,fun x hx=>?_⟩⟩
 ·and_intros<;>first|exact cc|exact h0|(intro h_;revert h_)|exact cm|skip
 ·obtain⟨hi,hall⟩:=hi;rw[show 0+(i:Int).toNat=i by omega];refine⟨fun c1=>?_,fun c1=>⟨(),?_⟩⟩
  ·have hlt:i<ks.length:=by have:=of_decide_eq_true c1;omega
   refine⟨⟨by omega,by omega⟩,hlt,fun c2=>?_,fun c2=>⟨fun c3=>?_,fun c3=>⟨by simp only[bL];omega,i+1,?_⟩⟩⟩
   ·have hn:=bad i hlt (by unfold dS;rw[c2];rfl);rw[no hn,hn];refine⟨p,?_⟩
    and_intros<;>first|exact cc|exact hl|exact hfr0|exact hcap|(intro h_;revert h_)|exact cm|skip
   ·have hn:=bad i hlt (by
     have c3:=of_decide_eq_true c3;unfold dS;have:decide ((gl ks i).size<=40)=false:=decide_eq_false (by omega);rw[this,Bool.and_false])
    rw[no hn,hn];refine⟨p,?_⟩
    and_intros<;>first|exact cc|exact hl|exact hfr0|exact hcap|(intro h_;revert h_)|exact cm|skip
   ·have hk:dS (gl ks i)=true:=by
     have c3:=of_decide_eq_false c3;unfold dS;rw[c2,show decide ((gl ks i).size<=40)=true from decide_eq_true (by omega)];rfl
    have h1:∀j,j<i+1->dS (gl ks j)=true:=fun j hj=>by
     by_cases e:j=i
     ·rw[e];exact hk
     ·exact hall j (by omega)
    and_intros<;>first|exact cc|exact h1|(intro h_;revert h_)|exact cm|skip
  ·have hi':i=ks.length:=by have:=of_decide_eq_false c1;omega
   have ha:fu ks=true:=List.all_eq_true.2 fun k hk=>by
    obtain⟨j,hj,rfl⟩:=List.getElem_of_mem hk;rw[<- bR hj];exact hall j (by omega)
   and_intros<;>first|exact cc|exact ha|(intro h_;revert h_)|exact cm|skip
 ·have e0:dg m ks 0=m:=rfl;dsimp only;rw[e0]
  and_intros<;>first|exact cc|exact hl|exact hfr0|exact hcap|exact hK|(intro h_;revert h_)|exact cm|skip
 obtain⟨i,q⟩:=x;obtain⟨hi,_,hq,hfr,hqc⟩:=hx;dsimp only at hi hq hfr hqc ⊢;obtain⟨hok1,hok2,hok3,hok4⟩:=hok hK;have hMn:=zW m ks i;rw[show 0+(i:Int).toNat=i by omega];refine⟨fun c1=>?_,fun c1=>?_⟩
 ·have hlt:i<ks.length:=by have:=of_decide_eq_true c1;omega
  obtain⟨ok1,s0,s1⟩:=hok1 i hlt;have hkey:dS (gl ks i)=true:=List.all_eq_true.1 hK (gl ks i) (by rw[bR hlt];exact List.getElem_mem _);obtain⟨k1,k2⟩:=og hkey;have e:dg m ks (i+1)=J5 (dg m ks i) (gl ks i):=rfl;have hMn1:=zW m ks (i+1);obtain⟨M,hM⟩:∃M,M=dg m ks i:=⟨_,rfl⟩
  rw[<- hM]at hq hqc hMn ok1 s0 s1 e;rw[<- hM];obtain⟨sq,hsq⟩:∃sq,sq=gU M.ms+1:=⟨_,rfl⟩
  have hMs:M.ms.length<100000:=by omega
  refine⟨⟨by omega,by omega⟩,hlt,Ef.mk M.ms q.cap,?_⟩
  and_intros<;>first|exact cc|exact hMs|(intro h_;revert h_)|exact cm|skip
  intro _ _;dsimp only;rw[<- hsq];have eB:[]++ij [sq]=vi sq:=by simp[ij]
  have hv:=iK sq;have hr1:aj [sq].length 1 (aN 1 [Value.int .i64 sq]) (af encI [sq]):=.dW fun i hi=>by
   have:i=0:=by simp at hi;omega
   subst this;rfl
  have hg1:∀i:Nat,i < [sq].length->0<=gl [sq] i/\gl [sq] i<4611686018427387904:=fun i hi=>by
   have:i=0:=by simp at hi;omega
   subst this;show 0<=sq/\sq<_;omega
  have hg2:[sq].length<100:=by simp
  refine⟨by simp only[bL];omega,lM.mk [] 0 [sq] 1,?_⟩;dsimp only;rw[eB]
  and_intros<;>first|exact cc|exact hr1|exact hg1|exact hg2|(intro h_;revert h_)|exact cm|skip
  intro b _;have hbl:(dI sq (gl ks i)).length=(vi sq).length+(gl ks i).size:=by unfold dI;rw[List.length_append,iV]
  have hr2:aj (dI sq (gl ks i)).length 1 (aZ (af cA (vi sq)) 0 (vi sq).length (nr (gl ks i))) (af cA (dI sq (gl ks i))):=.app rfl (.of_eq (by funext i;rw[Nat.zero_add])) (Cn _ (by omega));refine⟨by omega,by omega,fun c q1 q2 q3=>⟨qZ.mk q.H q.y M.L M.d (dI sq (gl ks i)) c,?_⟩⟩
  and_intros<;>first|exact cc|exact hq|exact ok1|exact hr2|(intro h_;revert h_)|exact cm|skip
  rintro⟨H1,y1⟩ ⟨hl1,hf1⟩;dsimp only at hl1 hf1 ⊢;have hr3:=E9 (ms:=M.ms) (x:=⟨sq,gl ks i,M.L.next⟩);have hfr1:HC p ⟨H1,y1,0⟩:=fun z hz hn=>by
   obtain⟨a1,a2⟩:=hfr z hz hn;obtain⟨b1,b2⟩:=hf1 z (by rw[a1];exact hz) a2;exact⟨b1.trans a1,b2⟩
  refine⟨by omega,by omega,by omega,fun c2 w1 w2 w3=>⟨by simp only[bL];omega,⟨i+1,⟨H1,y1,c2⟩⟩,?_⟩⟩;dsimp only;have e2:J5 M (gl ks i)=⟨lQ M.L (dI sq (gl ks i)),n9 M.L M.d (dI sq (gl ks i)),M.ms++[⟨sq,gl ks i,M.L.next⟩]⟩:=by rw[hsq];rfl
  rw[e,e2]at hMn1;dsimp only at hMn1;rw[e,e2];dsimp only;have hi2:i+1<=ks.length:=hlt;have hfr2:HC p ⟨H1,y1,c2⟩:=hfr1;have hlt2:ks.length-(i+1)<ks.length-i:=by omega
  have hcap2:(M.ms++[(⟨sq,gl ks i,M.L.next⟩:eH)]).length<=c2:=by omega
  and_intros<;>first|exact cc|exact hl1|exact hfr2|exact hK|exact hr3|exact hcap2|exact hMn1|exact hlt2|(intro h_;revert h_)|exact cm|skip
 ·have hi':i=ks.length:=by have:=of_decide_eq_false c1;omega
  subst hi';obtain⟨M,hM⟩:∃M,M=dg m ks ks.length:=⟨_,rfl⟩
  rw[<- hM]at hq hqc hMn hok2 hok3 hok4;rw[<- hM];have hMs:M.ms.length<100000:=by omega
  have hkl:(dH (cB M.L) M.ms).length<=M.ms.length:=List.length_filter_le _ _;have hks:(dH (cB M.L) M.ms).length<100000:=by omega
  have hkc:(dH (cB M.L) M.ms).length<=q.cap:=by omega
  have hfr2:HC p ⟨q.H,q.y,q.cap⟩:=hfr;refine⟨nj.mk M.ms q.cap q.H q.y M.L,?_⟩
  and_intros<;>first|exact cc|exact hq|exact hok4|exact hMs|exact hqc|(intro h_;revert h_)|exact cm|skip
  intro _ _;dsimp only;rw[hK];refine⟨fun c2=>?_,fun c2=>?_⟩
  ·have hn:ks.length≠0:=by have:=of_decide_eq_true c2;omega
   have e1:gV m ks=⟨M.L,gj M.d,dH (cB M.L) M.ms⟩:=by
    unfold gV;rw[if_pos hK,if_neg hn,<- hM];rfl
   rw[e1];refine⟨M.d,?_⟩
   and_intros<;>first|exact cc|exact hok2|exact hok3|(intro h_;revert h_)|exact cm|skip
   intro _ _;refine⟨Ef.mk (dH (cB M.L) M.ms) q.cap,?_⟩
   and_intros<;>first|exact cc|exact hks|(intro h_;revert h_)|exact cm|skip
   intro _ _;refine⟨⟨q.H,q.y,q.cap⟩,?_⟩
   and_intros<;>first|exact cc|exact hq|exact hfr2|exact hkc|(intro h_;revert h_)|exact cm|skip
  ·have hn:ks.length=0:=by have:=of_decide_eq_false c2;omega
   have e1:gV m ks=⟨M.L,M.d,dH (cB M.L) M.ms⟩:=by
    unfold gV;rw[if_pos hK,if_pos hn,hM,hn];rfl
   rw[e1];refine⟨Ef.mk (dH (cB M.L) M.ms) q.cap,?_⟩
   and_intros<;>first|exact cc|exact hks|(intro h_;revert h_)|exact cm|skip
   intro _ _;refine⟨⟨q.H,q.y,q.cap⟩,?_⟩
   and_intros<;>first|exact cc|exact hq|exact hfr2|exact hkc|(intro h_;revert h_)|exact cm|skip)
theorem TW:ak (Y Tryz.prog).G.X 134 Fa:=aV fK TV ⟨J3,zg,CD,TT,iF,trivial⟩
structure NG0 where
 l:List Int
 cap:Nat
 n:Int
noncomputable def zX:cD where
 α:=NG0
 β:=Unit
 m:=1
 m':=1
 pre:=fun a=>a.l.length<100000/\a.l.length<=a.cap/\0<=a.n/\a.n<4611686018427387904/\(vi a.n).length<=a.l.length/\∀i,i<(vi a.n).length->gl a.l (0+i)=gl (vi a.n) i
 args:=fun a=>[.a (.slc 0 0 1 a.l.length a.cap)]
 hp:=fun _=>[]
 ro:=fun a=>ji 0 a.l
 post:=fun _ _=>True
 res:=fun a _=>.l8 [.a (.int .i64 a.n),.a (.int .i64 (vi a.n).length),.a (.lit .i64 0)]
 cT:=fun _ _=>[]
theorem XY{Y:Gx}(hY:Y.Ok){jf:List (Nat×cD)}(ht:uy Y.G.X jf){f:Nat}{C:cD}{l:C.α->List (Nat×List An×List An)}(hb:fnBody Y jf f C l):lI Y.G.X C f:=Bl hY (fun _=>yc hY ht) hb.body
theorem Wi:lI (Y Tryz.prog).G.X Jz 177:=XY fK (jf:=[]) trivial JA
theorem Qa{X:Cx}{C D:cD}{f:Nat}(h:lI X C f)(g:D.α->C.α)(h1:∀a,D.pre a->C.pre (g a))(hm:D.m=C.m)(hm':D.m'=C.m')(hβ:D.β=C.β)(h2:∀a,D.hp a=C.hp (g a))(h3:∀a,D.ro a=C.ro (g a))(h4:∀a,D.args a=C.args (g a))
 (h5:∀a o,D.post a (cast hβ.symm o)=C.post (g a) o) (h6:∀a o,D.res a (cast hβ.symm o)=C.res (g a) o) (h7:∀a o,D.cT a (cast hβ.symm o)=C.cT (g a) o):lI X D f:=by
 intro a ha M ρ w vs hn hh hr;rw[h2,h3]at hh;rw[h4]at hr;refine Calls.mono (h (g a) (h1 a ha) M ρ w vs (hn.trans hm) hh hr) fun e w' hq=>?_;obtain⟨v,e1,o,ρ2,q1,q2,q3,q4,q5⟩:=hq;exact⟨v,e1,cast hβ.symm o,ρ2,by rw[h5];exact q1,q2.trans hm'.symm,fun T hT=>q3 T (by rw[<- hm];exact hT),by rw[h6];exact q4,by rw[h7];exact q5⟩
theorem TX:lI (Y Tryz.prog).G.X zX 177:=Qa (D:=zX) Wi (fun a=>(⟨a.l,0,a.l.length,a.cap,a.n⟩:qg)) (fun a h=>⟨by show 0+a.l.length<=a.l.length;omega,h.1,h.2.1,h.2.2.1,h.2.2.2.1,h.2.2.2.2.1,h.2.2.2.2.2⟩) rfl rfl rfl (fun _=>rfl) (fun _=>rfl) (fun _=>rfl) (fun _ _=>rfl) (fun _ _=>rfl) (fun _ _=>rfl)
def HG(a:NG0):Y9:=⟨5,[.int .u8],a.l.length,a.cap,af cA a.l⟩
noncomputable def TY:cD:=zX.V2 HG
theorem Qb:ak (Y Tryz.prog).G.X 177 TY:=fun _ _ _ h=>vD (JN TX ⟨rfl,fun _=>rfl,fun _=>rfl,fun _=>rfl,fun _ _=>rfl,fun _ _ p hp=>(by cases hp)⟩) h
structure XZ(ms:List eH)(rs:List RecM):Prop where
 len:ms.length=rs.length
 ye:ms.length<9000
 at_:∀i,i<ms.length->(gl rs i).body=dI (gl ms i).seq (gl ms i).key/\(gl rs i).pos=(gl ms i).pos/\0<=(gl ms i).seq/\(gl ms i).seq<1000000000000/\dS (gl ms i).key=true
 step:∀i,i+1<ms.length->(gl ms (i+1)).seq=(gl ms i).seq+1
structure vV where
 H:PH
 d:bw
 from_:Nat
 au:Nat
 ms:List eH
noncomputable def zY:cD where
 α:=vV
 β:=J4
 m:=3
 m':=7
 pre:=fun a=>20<=a.au/\rj a.from_ a.au a.d/\XZ a.ms (fV (cN a.from_ a.au a.d).l)/\∀i,i<(cN a.from_ a.au a.d).l.length->(gl (cN a.from_ a.au a.d).l i).aR.length<=400
 args:=fun a=>[.a (.ptr 0 0 0 0),.a (.int .i64 a.from_),.a (.int .i64 a.au)]
 hp:=fun a=>[(2,.cu a.H)]
 ro:=fun a=>gA 0 1 a.d
 post:=fun a b=>bT b.H b.y (cN a.from_ a.au a.d)/\(∀z,a.H z≠none->b.H z=a.H z/\z∉br b.y)/\a.ms.length<=b.cap
 res:=fun _ _=>.l8 [.a (.ptr 3 0 0 0),.a (.lit .i64 0)]
 cT:=fun a b=>[(3,Wd 5 4 a.ms.length b.cap),(4,.arr 228 qq a.ms.length (af cG a.ms)),(5,fo 0 (cN a.from_ a.au a.d) b.y.lv),(6,.cu b.H)]
def X7(a:vV):An:=.flat 10 (Nat×Nat) (fun s x=>((s.at_ (s.tg 10) (Wd (s.fh (s.tg 10) 0) s.nx (a.ms.take x.1).length x.2)).new (.arr 228 qq (a.ms.take x.1).length (af cG (a.ms.take x.1)))).int 38 x.1) (fun _ x=>x.1<=a.ms.length/\x.1<=x.2) (fun _ x=>a.ms.length-x.1)
theorem TZ{ms:List eH}{rs:List RecM}(h:XZ ms rs){i:Nat}(hi:i<ms.length)(h0:i≠0):gU (ms.take i)+1=(gl ms i).seq:=by
 have hl:(ms.take i).length=i:=by rw[List.length_take];omega
 have e:gl (ms.take i) (i-1)=gl ms (i-1):=by rw[bR (by omega),bR (by omega),List.getElem_take]
 have:=h.step (i-1) (by omega);rw[Nat.sub_add_cancel (by omega)]at this;unfold gU;rw[hl,if_neg h0,e,this]
theorem Oo{seq:Int}{k:ByteArray}:gL (fun i=>af cA (dI seq k) ((vi seq).length+i)) 0 ((dI seq k).length-(vi seq).length)=k:=by
 have hn:(dI seq k).length-(vi seq).length=k.size:=by unfold dI;rw[List.length_append,iV];omega
 unfold gL;refine N1 hn fun i hi=>?_;show gl (dI seq k) ((vi seq).length+(0+i))=_;unfold dI;rw[bf,Nat.zero_add]
noncomputable def T0:List (Nat×cD):=[(175,G4),(176,Ob),(177,TY),(140,On)]
def HH(z:wm)(x:vV)(w:Nat)(s:Prop)(u:IS)(t:mE)(f g:Prop):=jk z.v (ag (mu (bB (aQ (aa x.au) 20)/\mu (cz (aa x.from_) (aa x.au) (z.H=z.H) (dY (0=w/\s) (fq (cN u.from_ u.au u.d) t.y (iR x.d x.d (f/\g))))))))
def nK(x:Nat×Nat)(y:vV):Nat:=bX (List.take x.fst y.ms)
def C3(x:Nat×Nat)(y:vV):Nat->Nat->Value:=af cG (List.take x.fst y.ms)
noncomputable def T1(u:List Value)(v:Nat)(w:V1 zX.α)(s:wm)(y:Nat×Nat)(x:vV)(t:IS)(f:mE):=FK (aS u (v+1))/\lP (av (vi w.a.n)) (di (aS u (v+1)))/\Exists (jG s.H (sJ u (v+1) (az (av (vi w.a.n))) (di (aS u (v+1)))) (CK.int .u8) [] fun g j h=>ah (jD (aS u v))->gu (nK y x) 32 y.snd fun i=>ir y fun z=>HH s x 0 (nK y x+1=nK z x/\i=z.snd) t f (iJ (nK z x) (nK y x) 3 (C3 y x) (bu w.a.n (dZ (gL h 0 g) (jD (aS u v)) [])) (C3 z x)) (dP z.fst (bX x.ms) (z.fst<=z.snd) y.fst))
def HI(x:vV):=20<=x.au/\zU x.from_ x.au x.d (XZ x.ms (fV (cN x.from_ x.au x.d).l))
theorem Qc:fnBody (Y Tryz.prog) T0 129 zY fun a=>[(129,[X7 a],[])]:=fnBody.of (p :=
 ∀x:vV,HI x->aA (aa x.au) 20 (∃u:J4,False) (∃u:IS,ag (bq x.from_ u.from_/\bq x.au u.au/\x.H=u.H/\iR x.d u.d (rj u.from_ u.au u.d/\∀f:mE,xm f u->∃i:tL,dY (f.H=i.H) (qW (cN u.from_ u.au u.d) i.L f.y.lv i.y.lv (zA i/\∀t:wm,zz t i->fD t.v/\(∃z:Nat×Nat,aC z.fst (HH t x (nK z x) (0=z.snd) u f (nK z x=0) ((z.fst<=bX x.ms/\z.fst<=z.snd)/\True)))/\∀z:Nat×Nat,z.fst<=bX x.ms/\z.fst<=z.snd->uO z.fst t.v (fun s=>t.H s) (fun s g=>∃w:V1 zX.α,aS g (s+1)=w.v/\t.H=w.H/\(zi (av w.a.l) w.a.cap w.a.n w.a.l 0/\jW w.H w.v (iN (CK.int .u8)) (HG w.a).n (HG w.a).cap (HG w.a).rows)/\∀k:zX.β,True->aO (aa (nK z x) == (0:Int)) (T1 g s w t z x u f) (∃j:Ef,ax (u0 (List.take z.fst x.ms) j.ms z.snd j.cap (bX j.ms<100000/\aI (ah (gU j.ms+(1:Int))/\aO (w.a.n == gU j.ms+(1:Int)) (T1 g s w t z x u f) (ir z fun h=>HH t x 0 (nK z x=nK h x/\z.snd=h.snd) u f (aL (nK h x) (nK z x) 3 (C3 z x) (C3 h x)) (dP h.fst (bX x.ms) (h.fst<=h.snd) z.fst))))))) (∃s:J4,dY (aG 0) (u0 (List.take z.fst x.ms) x.ms z.snd s.cap (ag (oO (cN u.from_ u.au u.d) (cN x.from_ x.au x.d) f.y s.y t.H s.H ((∀g:Nat,oN (x.H g) (s.H g) (br s.y) g)/\bX x.ms<=s.cap) True)))))))))) (by kernel_rfl) (by
 delta aO aS av cz aL ah bu bW az aG gF bB aQ aY aa cI mF dP bg aD dO aX dY bM cM fD aI T1 qh bX cH bz gO iJ gu bE fq xh jG ir zi xm HH iM aC zU aW jk zz ag aA uO oN nK aP bh gR oO iN bq ax zA dZ oM lP mu jj jF HI sJ C3
 try dsimp -iota -proj only
 rintro⟨H,d,fr,sg,ms⟩ ⟨hsg,ok,hms,hsl⟩;dsimp only at *;obtain⟨L,hL⟩:∃L,L=cN fr sg d:=⟨_,rfl⟩
 have hone:L.l.length<=1:=by rw[hL];exact ok.one
 rw[<- hL]at hms hsl;have hlen:=hms.len;have hfew:=hms.ye;refine⟨fun c=>by(exfalso;have:=of_decide_eq_true c;omega),fun _=>⟨IS.mk H d fr sg,?_⟩⟩;dsimp only;rw[<- hL]
 and_intros<;>first|exact cc|exact ok|(intro h_;revert h_)|exact cm|skip
 rintro⟨H1,y1⟩ ⟨hl1,hf1⟩;dsimp only at hl1 hf1 ⊢;refine⟨tL.mk H1 y1 L,?_⟩;have hrec:∀i,i<L.l.length->(gl L.l i).aR.length<=400/\∀k,k<(gl L.l i).aR.length->1<=(gl (gl L.l i).aR k).body.length/\(gl (gl L.l i).aR k).body.length<=1000:=fun i hi=>⟨hsl i hi,fun k hk=>by
  obtain⟨j,hj,e⟩:=Hy hi hk;obtain⟨e1,_,_,_,e5⟩:=hms.at_ j (by rw[hlen];exact hj);have a1:=iK (gl ms j).seq;have a2:=og e5;rw[<- e,e1];unfold dI;rw[List.length_append,iV];omega⟩
 have hL1:L.l.length<1000:=by omega
 and_intros<;>first|exact cc|exact hl1|exact hrec|exact hL1|(intro h_;revert h_)|exact cm|skip
 rintro⟨H2,v,vs⟩ ⟨hout,hf2⟩;dsimp only at hout hf2 ⊢;obtain⟨cr,hrows⟩:=hout.rows;obtain⟨s1,s2,s3,s4,s5,⟨sa,s6⟩,s7⟩:=eU hrows;have hlog:bT H2 y1 L:=hl1.frame fun z hz=>(hf2 z (hl1.dom z hz)).1;have hfin:∀z,H z≠none->H2 z=H z/\¬z∈br y1:=fun z hz=>by
  obtain⟨a1,a2⟩:=hf1 z hz;exact⟨(hf2 z (by rw[a1];exact hz)).1.trans a1,a2⟩
 rw[s1];refine⟨⟨sa,_,_,s6,by simp only[aq];omega⟩,⟨(0,0),?_⟩,fun q hq=>?_⟩
 ·dsimp only
  and_intros<;>first|exact cc|(intro h_;revert h_)|exact cm|skip
 obtain⟨i,c⟩:=q;obtain⟨hi,hic⟩:=hq;dsimp only at hi hic ⊢;have hti:(ms.take i).length=i:=by rw[List.length_take];omega
 rw[hti];refine⟨fun c1=>?_,fun c1=>?_⟩
 ·have hi':i<ms.length:=by have:=of_decide_eq_true c1;omega
  have hti1:(ms.take (i+1)).length=i+1:=by rw[List.length_take];omega
  have htp:ms.take (i+1)=ms.take i++[gl ms i]:=pO hi';obtain⟨b',lo',o',cs',q1,q2,q3,q4,q5,q6,q7,q8⟩:=uN hrows (k:=i) (by omega);obtain⟨cb,hbody⟩:=hout.body i (by omega);obtain⟨e1,e2,e3,e4,e5⟩:=hms.at_ i hi';have hsq:=fun h0=>TZ hms hi' h0;obtain⟨x,hx⟩:∃x,x=gl ms i:=⟨_,rfl⟩
  rw[<- hx]at e1 e2 e3 e4 e5 hsq htp;rw[e1]at hbody;rw[e2]at q3 q6 q7;obtain⟨k1,k2⟩:=og e5;have hv:=iK x.seq;have hbl:(dI x.seq x.key).length=(vi x.seq).length+x.key.size:=by unfold dI;rw[List.length_append,iV]
  obtain⟨w1,w2,w3,w4,w5,⟨wa,w7⟩,w6⟩:=eU hbody;have hcut:=JC (Nat.le_refl _) hbody (sz:=1) (a:=(vi x.seq).length) (e:=(dI x.seq x.key).length) (m:=cb) rfl (by omega) (Nat.le_refl _) w3 (Nat.le_refl _);have hgl:∀j,j<(vi x.seq).length->gl (dI x.seq x.key) (0+j)=gl (vi x.seq) j:=fun j hj=>by
   rw[Nat.zero_add];unfold dI;rw[bN hj]
  have hr3:=E9 (ms:=ms.take i) (x:=x);rw[hti,<- htp,hti1]at hr3;refine⟨_,_,_,_,q1,by omega,b',lo',o'+i*2,cs',by rw[Int.toNat_natCast];congr 1;omega,q2,⟨⟨_,q3,_,rfl,q6⟩,⟨_,q4,q5⟩,trivial⟩,?_⟩;rw[q7,q8];have hpre:(dI x.seq x.key).length<100000/\(dI x.seq x.key).length<=cb/\0<=x.seq/\x.seq<4611686018427387904/\(vi x.seq).length<=(dI x.seq x.key).length/\∀j,j<(vi x.seq).length->gl (dI x.seq x.key) (0+j)=gl (vi x.seq) j:=⟨by omega,w3,e3,by omega,by omega,hgl⟩
  refine⟨⟨⟨dI x.seq x.key,cb,x.seq⟩,H2,vs.getD i undef⟩,rfl,rfl,⟨hpre,hbody⟩,fun _ _=>?_⟩;rw[w1,w2,show((vi x.seq).length:Int).toNat=(vi x.seq).length by omega];dsimp only[jD];refine⟨fun c2=>?_,fun c2=>?_⟩
  ·refine⟨w5,⟨by omega,by omega⟩,_,_,_,hcut,fun _=>⟨by omega,by omega,by omega,fun c2 v1 v2 v3=>⟨by simp only[bL];omega,(i+1,c2),?_⟩⟩⟩;dsimp only;rw[Oo,hti1]
   and_intros<;>first|exact cc|exact hr3|(intro h_;revert h_)|exact cm|skip
  ·have h0:i≠0:=fun e=>by rw[e]at c2;cases c2
   have hsq:=hsq h0;have htl:(ms.take i).length<100000:=by omega
   refine⟨Ef.mk (ms.take i) c,?_⟩;dsimp only;rw[hti];have hr0:aj i 3 (af cG (ms.take i)) (af cG (ms.take i)):=aj.refl _ _ _
   and_intros<;>first|exact cc|exact htl|(intro h_;revert h_)|exact cm|skip
   intro _ _;rw[hsq];refine⟨by simp only[bL];omega,fun _=>⟨w5,⟨by omega,by omega⟩,_,_,_,hcut,fun _=>⟨by omega,by omega,by omega,fun c2 v1 v2 v3=>⟨by simp only[bL];omega,(i+1,c2),?_⟩⟩⟩,fun e=>by(exfalso;simp at e)⟩;dsimp only;rw[Oo,hti1]
   and_intros<;>first|exact cc|exact hr3|(intro h_;revert h_)|exact cm|skip
 ·have hi':i=ms.length:=by have:=of_decide_eq_false c1;omega
  subst hi';rw[List.take_length];refine⟨⟨H2,y1,c⟩,?_⟩
  and_intros<;>first|exact cc|exact hlog|exact hfin|(intro h_;revert h_)|exact cm|skip)
theorem Qd:ak (Y Tryz.prog).G.X 129 zY:=aV fK Qc ⟨ES,JS,Qb,J3,trivial⟩
theorem T2:fnBody (Y Tryz.prog) [] 204 Ch fun a=>[(204,[YU a],[])]:=fnBody.of (p :=
 Gi) (by kernel_rfl) (by
 delta aO aL ah aG aQ aY aa bH fk bg aD aX kg bM bQ bS Gi bY ay aC aA kU aP bh nA bp oI
 try dsimp -iota -proj only
 rintro⟨r,len,cap,v,n,rows⟩ ⟨h1,h2⟩;dsimp only at h1 h2 ⊢;simp only[Int.toNat_natCast,bL,decide_eq_true_eq,decide_eq_false_iff_not];refine⟨⟨0,?_⟩,fun k hk=>⟨fun c1=>?_,fun c1=>⟨(),?_⟩⟩⟩
 ·(and_intros<;>first|exact vR|skip)
  refine⟨fun i hi j hj=>?_⟩;unfold tQ;rw[if_neg (by omega)]
 ·have hk:k<len:=by omega
  have e:((len:Int)-1-k).toNat=len-1-k:=by omega
  rw[e];refine⟨by omega,by omega,by omega,by omega,by omega,by omega,by omega,k+1,?_⟩
  (and_intros<;>first|exact vR|skip)
  refine⟨fun i hi j hj=>?_⟩;have hj:j=0:=by omega
  subst hj;by_cases hik:i=r+(len-1-k)
  ·subst hik;have e3:(8*(k:Int)).toNat=8*(r+len-1-(r+(len-1-k))):=by omega
   rw[iY,e3];show Value.int .u8 _=_;simp only[tQ];rw[if_pos (by omega)]
  ·rw[gN hik];simp only[tQ];by_cases hq:r+len<=i+k/\i<r+len
   ·rw[if_pos hq,if_pos (by omega)]
   ·rw[if_neg hq,if_neg (by omega)]
 ·have:k=len:=by omega
  subst this
  (and_intros<;>first|exact vR|skip))
theorem T3:ak (Y Tryz.prog).G.X 204 Ch:=aV fK T2 trivial
def HJ(n:Int)(b:List Int)(j:Nat):Int:=if j<4 then 0 else if j<12 then IP (uw .u64 n) 8 (j-4)else if j=12 then(b.length:Int)else if j-13<b.length then gl b (j-13)else 0
def xy(n:Int)(b:List Int)(j:Nat):Int:=if j<4 then IP (vT (HJ n b)) 4 j else HJ n b j
structure nL where
 at_:Nat
 eZ:Int
 text:List Int
 slot:Nat
def Zl(dv tx:Nat)(S:nL)(cap:Nat):List A:=[.ptr dv 0 0 0,.int .i64 S.at_,.int .i64 S.eZ,.slc tx 0 1 S.text.length cap,.int .i64 S.slot]
def Fb(su tx dv:Nat)(S:nL)(cap:Nat):List (Nat×Chunk):=[(su,.obj 262 (Zl dv tx S cap)),(tx,.arr 5 [.int .u8] S.text.length (af cA S.text))]
def HK(S:nL)(slot:Nat)(n:Int)(b:List Int):nL:=⟨S.at_,n,b,slot⟩
def Bb(S:nL)(d:bw)(slot:Nat)(n:Int)(b:List Int):bw:=gj (gi d (S.at_+slot) 64 (xy n b))
structure J6 where
 S:nL
 cap:Nat
 d:bw
 slot:Nat
 n:Int
 b:List Int
 bc:Nat
noncomputable def Bu:cD where
 α:=J6
 β:=Nat
 m:=5
 m':=6
 pre:=fun a=>a.S.at_+1<a.d.n/\a.slot<=1/\a.d.n<100000/\a.d.calls<900000000000/\1<=a.b.length/\a.b.length<=40
 args:=fun a=>[.a (.ptr 0 0 0 0),.a (.int .i64 a.slot),.a (.int .i64 a.n),.a (.slc 4 0 1 a.b.length a.bc)]
 hp:=fun a=>Fb 0 1 2 a.S a.cap++gA 2 3 a.d
 ro:=fun a=>ji 4 a.b
 post:=fun _ _=>True
 res:=fun _ _=>.a (.lit .i64 0)
 cT:=fun a c=>Fb 0 5 2 (HK a.S a.slot a.n a.b) c++gA 2 3 (Bb a.S a.d a.slot a.n a.b)
def qt(y:nL)(x:bw)(z:Nat)(u:Prop):=y.at_+1<x.n/\z<=1/\x.n<100000/\x.calls<900000000000/\u
def jo(x:J6):nL:=HK x.S x.slot x.n x.b
def xz(x:J6):bw:=Bb x.S x.d x.slot x.n x.b
theorem My:fnBody (Y Tryz.prog) [(204,Ch),(203,Sq),(81,pN),(169,jB)] 174 Bu fun _=>[]:=fnBody.of (p :=
 ∀x:J6,qt x.S x.d x.slot (gR x.b 40)->lJ 64 64 (cI 12 64/\cI 4 12/\wU 4 8 60 (cQ x.n) 64 sK fun y=>bg 12 64/\12<y.n/\cI 13 64/\64<=y.n/\GC (mB x.b) y (oE (jV (kU y y.len) 12 0 (nA (aa (av x.b)))) 13 (min (av x.b) 51) (q9 cA x.b)) fun z=>ah (aa x.S.at_)->ah (aa x.S.at_+aa x.slot)/\∃u:Ls,ag (aa x.S.at_+aa x.slot=aa u.i/\wV u x.d z.n (kU z z.len) (kC (lK u) fun w=>zw x.b (∃v:Nat,aW (ag (bq x.S.at_ (nL.at_ (jo x))/\x.n=nL.eZ (jo x)/\(0=av (nL.text (jo x))/\0=v)/\bq x.slot (nL.slot (jo x))/\av (nL.text (jo x))=0/\iR (gj w) (xz x) (True/\True)))) (gF 0 (av x.b) 1 0 fun v=>∃s:Nat,aW (ag (bq x.S.at_ (nL.at_ (jo x))/\x.n=nL.eZ (jo x)/\dJ (0+av x.b) (av (nL.text (jo x))) v s (bq x.slot (nL.slot (jo x))) 1 (uD (q9 cA x.b)) (af cA (nL.text (jo x))) (iR (gj w) (xz x) (True/\True))))))))) (by kernel_rfl) (by
 delta aO aS av aL ah bW aG gF aa cI bH fk bg aD ig bM aI dJ ki GC lK wV lJ cQ qt jo aW ag wU uA kU uC gR sK kC nA bq mB q9 xz uz zw uD
 try dsimp -iota -proj only
 rintro⟨u,cap,d,slot,n,b,bc⟩ ⟨h1,h2,h3,h4,h5,h6⟩;dsimp only at *;obtain⟨F1,hF1⟩:∃F:Nat->Int,F=fun k=>if 4<=k/\k<4+8 then IP (uw .u64 n) 8 (k-4)else 0:=⟨_,rfl⟩
 have hb8:uw .u8 (b.length:Int)=b.length:=by simp only[uw];omega
 have h0:aj 64 1 (fun(x j:Nat)=>[Value.int IntKind.u8 (0:Int)].getD j (Value.tuple #[])) (bO fun _=>0):=kn fun _ _=>rfl
 repeat refine kO ?_
 refine⟨l9.mk 4 8 60 (uw .u64 n) 64 (bO fun _=>0),?_⟩
 and_intros<;>first|exact cc|exact h0|(intro h_;revert h_)|exact cm|skip
 intro _ _;rw[show tQ (bO fun _=>0) 4 8 (uw .u64 n) 8=bO F1 by rw[wT (by omega),hF1]];have hfin:aj 64 1 (oE (jV (bO F1) 12 0 [Value.int .u8 (uw .u8 (b.length:Int))]) 13 (min b.length 51) fun(i j:Nat)=>af cA b (0+i) j) (bO (HJ n b)):=by
  rw[hb8,show min b.length 51=b.length by omega];refine kn fun k hk=>?_;simp only[oE,bO,af,cA,List.getD_cons_zero,Nat.zero_add,hF1,HJ,qI]
  (repeat' split)<;>first|rfl|(exfalso;omega)|skip
 have hlast:aj 64 1 (tQ (bO (HJ n b)) 0 4 (vT (HJ n b)) 4) (bO (xy n b)):=by
  rw[wT (by omega)];refine kn fun k hk=>?_;simp only[bO,xy,Nat.zero_le,true_and,Nat.zero_add,Nat.sub_zero]
 repeat refine kO ?_
 refine⟨y8.mk 1 4 60 60 64 (bO (HJ n b)),?_⟩
 and_intros<;>first|exact cc|exact hfin|(intro h_;revert h_)|exact cm|skip
 intro _ _;refine⟨l9.mk 0 4 64 (vT (HJ n b)) 64 (bO (HJ n b)),?_⟩
 and_intros<;>first|exact cc|exact hfin|(intro h_;revert h_)|exact cm|skip
 intro _ _ _;refine⟨by simp only[bL];omega,Ls.mk d (u.at_+slot) 0 64 64 64 (xy n b),?_⟩;dsimp only
 and_intros<;>first|exact cc|exact hlast|(intro h_;revert h_)|exact cm|skip
 intro _ _;refine⟨gi d (u.at_+slot) 64 fun j=>xy n b (0+j),?_⟩;have e0:(fun j=>xy n b (0+j))=xy n b:=by funext j;rw[Nat.zero_add]
 have hn:(gi d (u.at_+slot) 64 (xy n b)).n<100000:=h3;have hc:(gi d (u.at_+slot) 64 (xy n b)).calls<1000000000000:=by show d.calls+1<_;omega
 rw[e0]
 and_intros<;>first|exact cc|exact hn|exact hc|(intro h_;revert h_)|exact cm|skip
 intro _ _ q hq;refine⟨fun e=>by(have:=hq e;exfalso;omega),fun _=>?_⟩;have hr:aj b.length 1 (aZ (aN 1 []) 0 0 fun(i j:Nat)=>af cA b (0+i) j) (af cA b):=⟨fun i hi j hj=>by
  simp only[aZ,Nat.not_lt_zero,if_false,Nat.sub_zero,Nat.zero_add]⟩
 refine⟨by omega,by omega,by omega,fun c q1 q2 q3=>⟨c,?_⟩⟩;dsimp only[HK,Bb]
 and_intros<;>first|exact cc|exact hr|(intro h_;revert h_)|exact cm|skip)
theorem C4:ak (Y Tryz.prog).G.X 174 Bu:=aV fK My ⟨T3,Gh,pH,iF,trivial⟩
structure T4 where
 at_:Nat
 d:bw
 b:List Int
 bc:Nat
def oR(d:bw)(at_:Nat)(b:List Int):bw:=Bb ⟨at_,0,[],0⟩ (gj (gi (gi d at_ 64 fun _=>0) (at_+1) 64 fun _=>0)) 0 1 b
noncomputable def Mz:cD where
 α:=T4
 β:=Nat
 m:=3
 m':=5
 pre:=fun a=>a.at_+1<a.d.n/\a.d.n<100000/\a.d.calls<800000000000/\1<=a.b.length/\a.b.length<=40
 args:=fun a=>[.a (.ptr 0 0 0 0),.a (.int .i64 a.at_),.a (.slc 2 0 1 a.b.length a.bc)]
 hp:=fun a=>gA 0 1 a.d
 ro:=fun a=>ji 2 a.b
 post:=fun _ _=>True
 res:=fun _ _=>.l8 [.a (.ptr 3 0 0 0),.a (.lit .i64 0)]
 cT:=fun a c=>Fb 3 4 0 ⟨a.at_,1,a.b,0⟩ c++gA 0 1 (oR a.d a.at_ a.b)
def HL(x:T4):=x.at_+1<x.d.n/\x.d.n<100000/\x.d.calls<800000000000/\gR x.b 40
theorem Qe:fnBody (Y Tryz.prog) [(174,Bu),(81,pN),(169,jB)] 127 Mz fun _=>[]:=fnBody.of (p :=
 ∀y:T4,HL y->aO (cR 0 (aa y.at_)) (ah (aa y.d.n-(1:Int))/\gC (bx (aQ (aa y.at_) (aa y.d.n-(1:Int)))) (∃z:Nat,False) (aQ 40 (aa (av y.b))) (ah (aa y.at_+(0:Int))/\lJ 64 64 (∃z:Ls,ag (aa y.at_+(0:Int)=aa z.i/\wV z y.d 64 sK (aP y.at_ (lJ 64 64 (∃u:Ls,ag (aY y.at_=aa u.i/\wV u (lK z) 64 sK (kC (lK u) fun v=>∃x:J6,ag (aC x.slot ((1:Int)=x.n/\cW y.b x.b y.bc x.bc/\ag (bq y.at_ x.S.at_/\(0:Int)=x.S.eZ/\(0=av x.S.text/\0=x.cap)/\aC x.S.slot (av x.S.text=0/\iR (gj v) x.d (cn x.b y.b cA/\qt x.S x.d x.slot (gR x.b 40)/\∀w:Nat,True->∃s:Nat,dY (aG 0) (bq (nL.at_ (jo x)) y.at_/\nL.eZ (jo x)=(1:Int)/\cW (nL.text (jo x)) y.b w s/\bq (nL.slot (jo x)) 0/\cn y.b (nL.text (jo x)) cA/\iR (xz x) (oR y.d y.at_ y.b) (True/\True)))))))))))))))) (∃z:Nat,False)) (by kernel_rfl) (by
 delta aO aS av aL ah aG aQ aY aa bH fk aD dY bM cn gC aI ki lK wV lJ qt aC jo cR ag aP uC cW gR sK kC bq bx xz HL
 try dsimp -iota -proj only
 rintro⟨at_,d,b,bc⟩ ⟨h1,h2,h3,h4,h5⟩;dsimp only at *;have h0:aj 64 1 (fun(x j:Nat)=>[Value.int IntKind.u8 (0:Int)].getD j (Value.tuple #[])) (bO fun _=>0):=kn fun _ _=>rfl;refine⟨fun _=>⟨by simp only[bL];omega,fun c=>by(exfalso;simp at c;omega),fun _=>⟨fun c=>by(exfalso;simp at c;omega),fun _=>?_⟩⟩,fun c=>by(exfalso;simp at c)⟩;refine⟨by simp only[bL];omega,by omega,by omega,by omega,Ls.mk d at_ 0 64 64 64 fun _=>0,?_⟩;dsimp only
 and_intros<;>first|exact cc|exact h0|(intro h_;revert h_)|exact cm|skip
 intro _ _;refine⟨by simp only[bL];omega,by omega,by omega,by omega,Ls.mk (gi d at_ 64 fun _=>0) (at_+1) 0 64 64 64 fun _=>0,?_⟩;have hn1:at_+1<(gi d at_ 64 fun _=>0).n:=h1;have hn2:(gi d at_ 64 fun _=>0).n<100000:=h2;have hc2:(gi d at_ 64 fun _=>0).calls<1000000000000:=by show d.calls+1<_;omega
 dsimp only
 and_intros<;>first|exact cc|exact h0|exact hn1|exact hn2|exact hc2|(intro h_;revert h_)|exact cm|skip
 intro _ _;obtain⟨D,hD⟩:∃D,D=gi (gi d at_ 64 fun _=>0) (at_+1) 64 fun _=>0:=⟨_,rfl⟩
 rw[<- hD];have hn3:D.n=d.n:=by rw[hD];rfl
 have hc3:D.calls=d.calls+2:=by rw[hD];rfl
 refine⟨D,?_⟩
 and_intros<;>first|exact cc|(intro h_;revert h_)|exact cm|skip
 intro _ _;have hn4:at_+1<(gj D).n:=by show at_+1<D.n;omega
 have hn5:(gj D).n<100000:=by show D.n<_;omega
 have hc4:(gj D).calls<900000000000:=by show D.calls+1<_;omega
 refine⟨J6.mk ⟨at_,0,[],0⟩ 0 (gj D) 0 1 b bc,?_⟩;dsimp only
 and_intros<;>first|exact cc|exact hn4|exact hn5|exact hc4|(intro h_;revert h_)|exact cm|skip
 intro c _;refine⟨c,?_⟩;dsimp only[HK,oR];rw[<- hD]
 and_intros<;>first|exact cc|(intro h_;revert h_)|exact cm|skip)
theorem Qf:ak (Y Tryz.prog).G.X 127 Mz:=aV fK Qe ⟨C4,pH,iF,trivial⟩
structure MA where
 S:nL
 cap:Nat
 d:bw
 b:List Int
 bc:Nat
noncomputable def MB:cD where
 α:=MA
 β:=Nat
 m:=5
 m':=6
 pre:=fun a=>a.S.at_+1<a.d.n/\a.S.slot<=1/\a.d.n<100000/\a.d.calls<900000000000/\1<=a.b.length/\a.b.length<=40/\0<=a.S.eZ/\a.S.eZ<1000000000000
 args:=fun a=>[.a (.ptr 0 0 0 0),.a (.slc 4 0 1 a.b.length a.bc)]
 hp:=fun a=>Fb 0 1 2 a.S a.cap++gA 2 3 a.d
 ro:=fun a=>ji 4 a.b
 post:=fun _ _=>True
 res:=fun _ _=>.a (.lit .i64 0)
 cT:=fun a c=>Fb 0 5 2 (HK a.S (1-a.S.slot) (a.S.eZ+1) a.b) c++gA 2 3 (Bb a.S a.d (1-a.S.slot) (a.S.eZ+1) a.b)
def xA(x y:nL)(z u:Nat)(v w:bw)(s t:Prop):=bq x.at_ y.at_/\x.eZ=y.eZ/\cW x.text y.text z u/\bq x.slot y.slot/\cn y.text x.text cA/\iR v w (s/\t)
def C5(x:MA):bw:=Bb x.S x.d (1-x.S.slot) (x.S.eZ+(1:Int)) x.b
def C6(x:MA):nL:=HK x.S (1-x.S.slot) (x.S.eZ+(1:Int)) x.b
def HM(x:MA):=qt x.S x.d x.S.slot (1<=av x.b/\av x.b<=40/\bg x.S.eZ 1000000000000)
theorem Qg:fnBody (Y Tryz.prog) [(174,Bu)] 146 MB fun _=>[]:=fnBody.of (p :=
 ∀x:MA,HM x->aA 40 (aa (av x.b)) (∃z:Nat,(1:Int)=0/\ag (xA x.S (C6 x) x.cap z x.d (C5 x) True True)) (ah (aa x.S.slot)->ah ((1:Int)-aa x.S.slot)/\(ah x.S.eZ->ah (x.S.eZ+(1:Int))/\∃y:J6,ag ((1:Int)-aa x.S.slot=aa y.slot/\x.S.eZ+(1:Int)=y.n/\cW x.b y.b x.bc y.bc/\ag (xA x.S y.S x.cap y.cap x.d y.d (cn y.b x.b cA) (qt y.S y.d y.slot (gR y.b 40)/\∀u:Nat,True->∃v:Nat,aW (ag (xA (jo y) (C6 x) u v (xz y) (C5 x) True True)))))))) (by kernel_rfl) (by
 delta aO av aL ah aG aQ aa bg aD cn xA qt jo aW ag aA cW gR bq C5 xz C6 HM
 try dsimp -iota -proj only
 rintro⟨u,cap,d,b,bc⟩ ⟨h1,h2,h3,h4,h5,h6,h8,h9⟩;dsimp only at *;have e:(1:Int)-u.slot=((1-u.slot:Nat):Int):=by omega
 have h2':1-u.slot<=1:=by omega
 refine⟨fun c=>by(exfalso;have:=of_decide_eq_true c;omega),fun _ _=>⟨by simp only[bL];omega,fun _=>⟨by simp only[bL];omega,J6.mk u cap d (1-u.slot) (u.eZ+1) b bc,?_⟩⟩⟩;dsimp only
 and_intros<;>first|exact cc|exact e|exact h2'|(intro h_;revert h_)|exact cm|skip
 intro c _;refine⟨c,?_⟩
 and_intros<;>first|exact cc|(intro h_;revert h_)|exact cm|skip)
theorem Qh:ak (Y Tryz.prog).G.X 146 MB:=aV fK Qg ⟨C4,trivial⟩
structure MetaM where
 bK:Int
 aT:Int
 ready:Int
 frozen:Bool
def C7(m:MetaM):List A:=[.int .i64 m.bK,.int .i64 m.aT,.int .i64 m.ready,.bool m.frozen]
def Bv:MetaM:=⟨0,0,0,false⟩
def Bc(n:Int):Bool:=decide (0<=n)&&decide (n<=1099511627776)
def mU(m:MetaM):Bool:=Bc m.bK&&(Bc m.aT&&(Bc m.ready&&((m.ready == 0||decide (m.aT<m.ready))&&(!m.frozen||decide (0<m.ready)))))
def eL(m:MetaM):List Int:=ij [m.bK,m.aT,m.ready,if m.frozen then 1 else 0]
theorem C8{m:MetaM}(h:mU m=true):(0<=m.bK/\m.bK<=1099511627776)/\(0<=m.aT/\m.aT<=1099511627776)/\0<=m.ready/\m.ready<=1099511627776:=by
 simp only[mU,Bc,Bool.and_eq_true,decide_eq_true_eq]at h;omega
def Wj(m:MetaM):List Int:=[m.bK,m.aT,m.ready]
theorem T5{m:MetaM}{i:Nat}(hi:i<3)(h:Bc (gl (Wj m) i)=false):mU m=false:=by
 rcases(by omega:i=0\/i=1\/i=2)with rfl|rfl|rfl
 ·have h:Bc m.bK=false:=h;simp[mU,h]
 ·have h:Bc m.aT=false:=h;simp[mU,h]
 ·have h:Bc m.ready=false:=h;simp[mU,h]
theorem Wk{m:MetaM}(h:∀i,i<3->Bc (gl (Wj m) i)=true):mU m=((m.ready == 0||decide (m.aT<m.ready))&&(!m.frozen||decide (0<m.ready))):=by
 have h0:Bc m.bK=true:=h 0 (by omega);have h1:Bc m.aT=true:=h 1 (by omega);have h2:Bc m.ready=true:=h 2 (by omega);simp[mU,h0,h1,h2]
noncomputable def T6:cD where
 α:=MetaM
 β:=Unit
 m:=0
 m':=0
 pre:=fun _=>True
 args:=fun m=>[.agg (C7 m)]
 hp:=fun _=>[]
 ro:=fun _=>[]
 post:=fun _ _=>True
 res:=fun m _=>.a (.bool (mU m))
 cT:=fun _ _=>[]
def Zm(m:MetaM):An:=.flat 2 Nat (fun s i=>s.int 13 i) (fun _ i=>i<=3/\∀j,j<i->Bc (gl (Wj m) j)=true) (fun _ i=>3-i)
def zZ(y:Bool)(x:Prop)(z u:Int)(v:Bool)(w:Prop):=aO y x (ah z->ah u->aO v x w)
def z6(x y:Int)(z:Prop)(u:Int)(v:Prop):=ah x->gC (aQ x y) z (aQ u x) v
def z7(x:MetaM)(y:Prop):=cz x.bK x.aT (aG x.ready) (bB x.frozen/\y)
def MC(x:MetaM)(y:Prop):=aG 3/\bD 3 3/\cH (ag (z7 x (dN 3 1 (aN 1 (bu x.bK (bu x.aT (bu x.ready []))))/\z7 x y)))
theorem T7:fnBody (Y Tryz.prog) [] 145 T6 fun m=>[(145,[Zm m],[])]:=fnBody.of (p :=
 ∀x:MetaM,True->ah x.bK->ah x.aT->ah x.ready->(∃y:Nat,aC y (MC x ((y<=3/\∀z:Nat,z<y->aD (Bc (gl (Wj x) z)))/\True)))/\∀y:Nat,(y<=3/\∀z:Nat,z<y->aD (Bc (gl (Wj x) z)))->aA (aa y) 3 (bg (aa y) 3/\0+az y<3/\z6 (jD (aN 1 (bu x.bK (bu x.aT (bu x.ready []))) (0+az y) 0)) 0 (eR (mU x)) 1099511627776 (bY y fun u=>MC x (dP u 3 (∀v:Nat,v<u->aD (Bc (gl (Wj x) v))) y))) (ah x.ready->zZ (x.ready == (0:Int)) (aO (bx x.frozen) (bQ (true=mU x)) (ah x.ready->bQ (aQ 0 x.ready=mU x))) x.ready x.aT (aQ x.aT x.ready) (eR (mU x)))) (by kernel_rfl) (by
 delta aO cz aL ah bu bW az aG bB aQ aY aa dP bg aD dO aX fL bM dN gC bD cH bQ bY zZ ay aC ag aA eR z6 z7 aP bp bx MC
 try dsimp -iota -proj only
 intro m _ _ _ _;have hg:∀i:Nat,i<3->jD (aN 1 [Value.int .i64 m.bK,Value.int .i64 m.aT,Value.int .i64 m.ready] (0+(i:Int).toNat) 0)=gl (Wj m) i:=fun i hi=>by
  rcases(by omega:i=0\/i=1\/i=2)with rfl|rfl|rfl<;>rfl
 have h0:∀j:Nat,j<0->Bc (gl (Wj m) j)=true:=fun j hj=>absurd hj (Nat.not_lt_zero j);refine⟨⟨0,?_⟩,fun i hi=>?_⟩
 ·and_intros<;>first|exact cc|exact h0|(intro h_;revert h_)|exact cm|skip
 obtain⟨hi,hall⟩:=hi;refine⟨fun c1=>?_,fun c1 _=>?_⟩
 ·have hi3:i<3:=by have:=of_decide_eq_true c1;omega
  rw[hg i hi3];refine⟨⟨by omega,by omega⟩,by omega,fun _=>⟨fun c2=>⟨(),?_,trivial,trivial⟩,fun c2=>⟨fun c3=>⟨(),?_,trivial,trivial⟩,fun c3=>⟨by simp only[bL];omega,i+1,?_⟩⟩⟩⟩
  ·exact(T5 hi3 (by have:=of_decide_eq_true c2;simp only[Bc,Bool.and_eq_false_iff,decide_eq_false_iff_not];omega)).symm
  ·exact(T5 hi3 (by have:=of_decide_eq_true c3;simp only[Bc,Bool.and_eq_false_iff,decide_eq_false_iff_not];omega)).symm
  ·have h1:∀j,j<i+1->Bc (gl (Wj m) j)=true:=fun j hj=>by
    by_cases e:j=i
    ·subst e;have:=of_decide_eq_false c2;have:=of_decide_eq_false c3;simp only[Bc,Bool.and_eq_true,decide_eq_true_eq];omega
    ·exact hall j (by omega)
   and_intros<;>first|exact cc|exact h1|(intro h_;revert h_)|exact cm|skip
 ·have hi3:i=3:=by have:=of_decide_eq_false c1;omega
  subst hi3;rw[Wk hall];refine⟨fun d1=>⟨fun d2=>⟨(),?_⟩,fun d2 _=>⟨(),?_⟩⟩,fun d1 _ _=>⟨fun d2=>⟨fun d3=>⟨(),?_⟩,fun d3 _=>⟨(),?_⟩⟩,fun d2=>⟨(),?_⟩⟩⟩<;>simp[*])
theorem T8:ak (Y Tryz.prog).G.X 145 T6:=aV fK T7 trivial
noncomputable def HN:cD where
 α:=MetaM
 β:=Nat
 m:=0
 m':=1
 pre:=fun m=>mU m=true
 args:=fun m=>[.agg (C7 m)]
 hp:=fun _=>[]
 ro:=fun _=>[]
 post:=fun _ _=>True
 res:=fun m c=>.a (.slc 0 0 1 (eL m).length c)
 cT:=fun m _=>ji 0 (eL m)
def MD(x:MetaM)(z:Int):=ah x.bK->ah x.aT->ah x.ready->∃y:lM,(0=av y.l/\0=y.cap)/\ze 4 y (av y.l=0) x.bK (bu x.aT (bu x.ready (bu z []))) fun u=>∃v:Nat,mz (y.l++ij y.ns) (eL x) u v cA True True
theorem Qi:fnBody (Y Tryz.prog) [(165,Co)] 128 HN fun _=>[]:=fnBody.of (p :=
 ∀x:MetaM,aD (mU x)->aO x.frozen (MD x 1) (MD x 0)) (by kernel_rfl) (by
 delta aO av aL ah bu bg aD dO bM cn dJ mz ze ag MD cW zb
 try dsimp -iota -proj only
 intro m hm;have hr:=C8 hm;have key:∀f:Int,0<=f->f<=1->eL m=ij [m.bK,m.aT,m.ready,f]->∃a:lM,a=⟨[],0,[m.bK,m.aT,m.ready,f],4⟩/\([]++ij [m.bK,m.aT,m.ready,f])=eL m/\aj 4 1 (aN 1 [Value.int .i64 m.bK,Value.int .i64 m.aT,Value.int .i64 m.ready,Value.int .i64 f]) (af encI [m.bK,m.aT,m.ready,f])/\∀i:Nat,i<4->0<=gl [m.bK,m.aT,m.ready,f] i/\gl [m.bK,m.aT,m.ready,f] i<4611686018427387904:=fun f f0 f1 e=>by
  refine⟨_,rfl,by rw[e];rfl,⟨fun i hi j hj=>?_⟩,fun i hi=>?_⟩
  ·obtain rfl:j=0:=by omega
   rcases(by omega:i=0\/i=1\/i=2\/i=3)with rfl|rfl|rfl|rfl<;>rfl
  ·rcases(by omega:i=0\/i=1\/i=2\/i=3)with rfl|rfl|rfl|rfl
   ·show 0<=m.bK/\m.bK<_;omega
   ·show 0<=m.aT/\m.aT<_;omega
   ·show 0<=m.ready/\m.ready<_;omega
   ·show 0<=f/\f<_;omega
 have l100:∀f:Int,[m.bK,m.aT,m.ready,f].length<100:=fun _=>by simp
 refine⟨fun c _ _ _=>?_,fun c _ _ _=>?_⟩
 ·obtain⟨a,rfl,e1,e2,e3⟩:=key 1 (by omega) (by omega) (by unfold eL;rw[c];rfl);refine⟨lM.mk [] 0 [m.bK,m.aT,m.ready,1] 4,?_⟩;dsimp only;rw[e1]
  and_intros<;>first|exact cc|exact e2|exact e3|exact l100 _|(intro h_;revert h_)|exact cm|skip
  intro c _;refine⟨c,?_⟩
  and_intros<;>first|exact cc|(intro h_;revert h_)|exact cm|skip
 ·obtain⟨a,rfl,e1,e2,e3⟩:=key 0 (by omega) (by omega) (by unfold eL;rw[c];rfl);refine⟨lM.mk [] 0 [m.bK,m.aT,m.ready,0] 4,?_⟩;dsimp only;rw[e1]
  and_intros<;>first|exact cc|exact e2|exact e3|exact l100 _|(intro h_;revert h_)|exact cm|skip
  intro c _;refine⟨c,?_⟩
  and_intros<;>first|exact cc|(intro h_;revert h_)|exact cm|skip)
theorem Fc:ak (Y Tryz.prog).G.X 128 HN:=aV fK Qi ⟨zg,trivial⟩
structure qL where
 s:nL
 m:MetaM
def C9(ke su tx dv:Nat)(k:qL)(cap:Nat):List (Nat×Chunk):=(ke,.obj 155 (.ptr su 0 0 0::C7 k.m))::Fb su tx dv k.s cap
def jx(at_:Nat):qL:=⟨⟨at_,1,eL Bv,0⟩,Bv⟩
theorem J7{m:MetaM}(h:mU m=true):1<=(eL m).length/\(eL m).length<=40:=by
 have:=C8 h;have a1:=iK m.bK;have a2:=iK m.aT;have a3:=iK m.ready;have a4:=iK (if m.frozen then 1 else 0);simp only[eL,ij,List.flatMap_cons,List.flatMap_nil,List.append_nil,List.length_append];omega
@[reducible] def Da(a b:qL)(v w:Nat)(p:Prop):Prop:=a.m.bK=b.m.bK/\a.m.aT=b.m.aT/\a.m.ready=b.m.ready/\a.m.frozen=b.m.frozen/\0=0/\(↑a.s.at_:Int)=(↑b.s.at_:Int)/\a.s.eZ=b.s.eZ/\(0=0/\a.s.text.length=b.s.text.length/\v=w)/\(↑a.s.slot:Int)=(↑b.s.slot:Int)/\(b.s.text.length<=a.s.text.length/\aj b.s.text.length 1 (af cA a.s.text) (af cA b.s.text))/\p
structure Wl where
 at_:Nat
 d:bw
noncomputable def ME:cD where
 α:=Wl
 β:=Nat
 m:=2
 m':=5
 pre:=fun a=>a.at_+1<a.d.n/\a.d.n<100000/\a.d.calls<800000000000
 args:=fun a=>[.a (.ptr 0 0 0 0),.a (.int .i64 a.at_)]
 hp:=fun a=>gA 0 1 a.d
 ro:=fun _=>[]
 post:=fun _ _=>True
 res:=fun _ _=>.l8 [.a (.ptr 2 0 0 0),.a (.lit .i64 0)]
 cT:=fun a c=>C9 2 3 4 0 (jx a.at_) c++gA 0 1 (oR a.d a.at_ (eL Bv))
def Db(y:Int)(x:MetaM)(z:Int)(u v:Prop):=y=x.bK/\z=x.aT/\(0:Int)=x.ready/\fL x.frozen u v
theorem Qj:fnBody (Y Tryz.prog) [(128,HN),(127,Mz)] 82 ME fun _=>[]:=fnBody.of (p :=
 ∀x:Wl,x.at_+1<x.d.n/\x.d.n<100000/\x.d.calls<800000000000->∃z:MetaM,Db 0 z 0 (aD (mU z)) (∀u:Nat,True->∃y:T4,ag (bq x.at_ y.at_/\cW (eL z) y.b u y.bc/\iR x.d y.d (cn y.b (eL z) cA/\HL y/\∀v:Nat,True->∃w:Nat,dY (aG 0) (Db 0 (jx x.at_).m 0 (0=0) (bq y.at_ (jx x.at_).s.at_/\(1:Int)=(jx x.at_).s.eZ/\cW y.b (jx x.at_).s.text v w/\bq 0 (jx x.at_).s.slot/\cn (jx x.at_).s.text y.b cA/\iR (oR y.d y.at_ y.b) (oR x.d x.at_ (eL Bv)) (True/\True))))))) (by kernel_rfl) (by
 delta av aL aG aa aD fL dY cn ag cW gR bq HL Db
 try dsimp -iota -proj only
 rintro⟨at_,d⟩ ⟨h1,h2,h3⟩;dsimp only at *;obtain⟨l1,l2⟩:=J7 (show mU Bv=true from rfl);refine⟨Bv,rfl,rfl,rfl,rfl,rfl,fun b _=>⟨T4.mk at_ d (eL Bv) b,?_⟩⟩;dsimp only
 and_intros<;>first|exact cc|exact l1|exact l2|(intro h_;revert h_)|exact cm|skip
 intro c _;refine⟨c,?_⟩;dsimp only[jx]
 and_intros<;>first|exact cc|(intro h_;revert h_)|exact cm|skip)
theorem Qk:ak (Y Tryz.prog).G.X 82 ME:=aV fK Qj ⟨Fc,Qf,trivial⟩
def gv(k:qL)(m:MetaM):Bool:=mU m&&(!decide (m.bK<k.m.bK)&&!decide (m.aT<k.m.aT))
def mL(k:qL)(m:MetaM):qL:=if gv k m then⟨HK k.s (1-k.s.slot) (k.s.eZ+1) (eL m),m⟩else k
def iq(k:qL)(d:bw)(m:MetaM):bw:=if gv k m then Bb k.s d (1-k.s.slot) (k.s.eZ+1) (eL m)else d
structure HO where
 k:qL
 cap:Nat
 d:bw
 m:MetaM
noncomputable def HP:cD where
 α:=HO
 β:=Nat
 m:=5
 m':=6
 pre:=fun a=>a.k.s.at_+1<a.d.n/\a.k.s.slot<=1/\a.d.n<100000/\a.d.calls<900000000000/\0<=a.k.s.eZ/\a.k.s.eZ<1000000000000
 args:=fun a=>[.a (.ptr 0 0 0 0),.agg (C7 a.m)]
 hp:=fun a=>C9 0 1 2 3 a.k a.cap++gA 3 4 a.d
 ro:=fun _=>[]
 post:=fun _ _=>True
 res:=fun a _=>.a (.int .i64 (if gv a.k a.m then 0 else 1))
 cT:=fun a c=>C9 0 1 5 3 (mL a.k a.m) c++gA 3 4 (iq a.k a.d a.m)
def sY(x y:MetaM)(z:Prop):=x.bK=y.bK/\x.aT=y.aT/\x.ready=y.ready/\x.frozen=y.frozen/\z
def MF(x:HO):Nat->Prop:=fun(y:Nat)=>(1:Int)=gT (gv x.k x.m)/\ag (Da x.k (mL x.k x.m) x.cap y (iR x.d (iq x.k x.d x.m) (True/\True)))
def z8(x:HO):=qt x.k.s x.d x.k.s.slot (bg x.k.s.eZ 1000000000000)
theorem Ql:fnBody (Y Tryz.prog) [(145,T6),(128,HN),(146,MB)] 100 HP fun _=>[]:=fnBody.of (p :=
 ∀x:HO,z8 x->∃u:MetaM,sY x.m u (cO (zZ (bx (mU u)) (Exists (MF x)) x.m.bK x.k.m.bK (aQ x.m.bK x.k.m.bK) (ah x.m.aT->ah x.k.m.aT->aA x.m.aT x.k.m.aT (Exists (MF x)) (∃z:MetaM,sY x.m z (aD (mU z)/\∀v:Nat,True->∃y:MA,dY (cW (eL z) y.b v y.bc) (xA x.k.s y.S x.cap y.cap x.d y.d (cn y.b (eL z) cA) (HM y/\∀w:Nat,True->∃t:Nat,(0:Int)=gT (gv x.k x.m)/\ag (sY x.m (mL x.k x.m).m (ag (xA (C6 y) (mL x.k x.m).s w t (C5 y) (iq x.k x.d x.m) True True))))))))))) (by kernel_rfl) (by
 delta aO av aL ah aQ aa bg aD dY cn aI xA sY zZ gT qt ag aA cW bq MF z8 bx C5 cO C6 HM
 try dsimp -iota -proj only
 rintro⟨k,cap,d,m⟩ ⟨h1,h2,h3,h4,h5,h6⟩;dsimp only at *;have no:gv k m=false->mL k m=k/\iq k d m=d:=fun h=>⟨if_neg (by rw[h];decide),if_neg (by rw[h];decide)⟩
 refine⟨m,rfl,rfl,rfl,rfl,trivial,fun _ _=>⟨fun c=>?_,fun c _ _=>⟨fun c2=>?_,fun c2 _ _=>⟨fun c3=>?_,fun c3=>?_⟩⟩⟩⟩
 ·have hk:gv k m=false:=by unfold gv;simp only[Bool.not_eq_true']at c;rw[c];rfl
  obtain⟨e1,e2⟩:=no hk;rw[e1,e2,hk];refine⟨cap,?_⟩
  and_intros<;>first|exact cc|(intro h_;revert h_)|exact cm|skip
 ·have hk:gv k m=false:=by unfold gv;rw[c2];simp
  obtain⟨e1,e2⟩:=no hk;rw[e1,e2,hk];refine⟨cap,?_⟩
  and_intros<;>first|exact cc|(intro h_;revert h_)|exact cm|skip
 ·have hk:gv k m=false:=by unfold gv;rw[c3];simp
  obtain⟨e1,e2⟩:=no hk;rw[e1,e2,hk];refine⟨cap,?_⟩
  and_intros<;>first|exact cc|(intro h_;revert h_)|exact cm|skip
 ·have hm:mU m=true:=by simpa using c
  have hk:gv k m=true:=by unfold gv;rw[hm,c2,c3];rfl
  obtain⟨l1,l2⟩:=J7 hm;have e1:mL k m=⟨HK k.s (1-k.s.slot) (k.s.eZ+1) (eL m),m⟩:=if_pos hk;have e2:iq k d m=Bb k.s d (1-k.s.slot) (k.s.eZ+1) (eL m):=if_pos hk;rw[e1,e2,hk];refine⟨m,rfl,rfl,rfl,rfl,hm,fun bc _=>⟨MA.mk k.s cap d (eL m) bc,?_⟩⟩;dsimp only
  and_intros<;>first|exact cc|exact l1|exact l2|(intro h_;revert h_)|exact cm|skip
  intro c' _;refine⟨c',?_⟩
  and_intros<;>first|exact cc|(intro h_;revert h_)|exact cm|skip)
theorem Fe:ak (Y Tryz.prog).G.X 100 HP:=aV fK Ql ⟨T8,Fc,Qh,trivial⟩
structure lu where
 d:bw
 cL:bP
 cl:List (ByteArray×Int)
 jL:bP
 ms:List eH
 k:qL
 bK:Int
structure sZ where
 H:PH
 cy:gP
 x:Ix.cK
 xc:Nat
 jy:gP
 jc:Nat
 kc:Nat
def lu.fl(s:lu):nT:=⟨s.cL,s.d,s.cl⟩
def sZ.fl(p:sZ):rG:=⟨p.H,p.cy,p.x,p.xc⟩
def lu.jr(s:lu):IT:=⟨s.jL,s.d,s.ms⟩
def sZ.jr(p:sZ):J4:=⟨p.H,p.jy,p.jc⟩
def ZP(ca jr ke:Nat)(bK:Int):Chunk:=.obj 88 [.ptr ca 0 0 0,.ptr jr 0 0 0,.ptr ke 0 0 0,.int .i64 bK]
def vL(st ca cl dv ds ix it jr ma jl ke su tx pl:Nat)(s:lu)(p:sZ):List (Nat×Chunk) :=
 [(st,ZP ca jr ke s.bK),(ca,.obj 205 [.ptr cl 0 0 0,.ptr ix 0 0 0]),(cl,fo dv s.cL p.cy.lv)]++gA dv ds s.d++Ix.o8 ix it p.x.t p.xc p.x.n p.x.used ++
 [(jr,Wd jl ma s.ms.length p.jc),(ma,.arr 228 qq s.ms.length (af cG s.ms)),(jl,fo dv s.jL p.jy.lv)]++C9 ke su tx dv s.k p.kc++[(pl,.cu p.H)]
structure oS(s:lu)(p:sZ):Prop where
 fl:jg s.fl p.fl
 jl:bT p.H p.jy s.jL
 sep:∀z,z∈br p.jy->z∉br p.cy
 cap:s.ms.length<=p.jc
@[reducible] def ry(a b:lu)(p q:sZ)(r:Prop):Prop:=a.bK=b.bK/\0=0/\0=0/\0=0/\qW a.cL b.cL p.cy.lv q.cy.lv (iR a.d b.d (yw p.x q.x p.xc q.xc (0=0/\u0 a.ms b.ms p.jc q.jc (0=0/\qW a.jL b.jL p.jy.lv q.jy.lv (0=0/\Da a.k b.k p.kc q.kc r)))))
def Dc(H:PH)(c j:List Nat)(p:sZ):Prop:=∀z,H z≠none->z∉c->z∉j->p.H z=H z/\z∉br p.cy/\z∉br p.jy
def oh(m:MetaM):MetaM:={ m with bK:=m.bK+1 }
def iP(n:Nat):Nat:=min 200 ((n-162)/8)
structure AS where
 k:qL
 kc:Nat
 d:bw
 H:PH
 ms:List eH
 es:List (Option aB)
def Ff(a:AS):bw:=iq a.k a.d (oh a.k.m)
def jR(a:AS):lu:=⟨Ff a,cN 162 (iP a.d.n) (Ff a),ni a.es (fV (cN 162 (iP a.d.n) (Ff a)).l) a.es.length,cN 2 20 (Ff a),a.ms,mL a.k (oh a.k.m),a.k.m.bK+1⟩
structure Aa(a:AS):Prop where
 n:192<=a.d.n/\a.d.n<100000
 calls:a.d.calls<900000000000
 save:gv a.k (oh a.k.m)=true
 k:a.k.s.at_=0/\a.k.s.slot<=1/\0<=a.k.s.eZ/\a.k.s.eZ<1000000000000
 jr:∀H,zY.pre ⟨H,Ff a,2,20,a.ms⟩
 fl:∀H,zT.pre ⟨H,Ff a,162,iP a.d.n,a.es⟩
noncomputable def MG:cD where
 α:=AS
 β:=sZ
 m:=6
 m':=16
 pre:=fun a=>Aa a
 args:=fun a=>[.a (.ptr 0 0 0 0),.a (.ptr 2 0 0 0)]
 hp:=fun a=>C9 2 3 4 0 a.k a.kc++gA 0 1 a.d++[(5,.cu a.H)]
 ro:=fun _=>[]
 post:=fun a b=>oS (jR a) b/\Dc a.H [] [] b
 res:=fun _ _=>.l8 [.a (.ptr 6 0 0 0),.a (.lit .i64 0)]
 cT:=fun a b=>vL 6 7 8 0 1 9 10 11 12 13 2 3 14 15 (jR a) b
noncomputable def T9:List (Nat×cD):=[(100,HP),(129,zY),(130,zT)]
def AT(w:nT)(u:lu)(v:rG)(z:sZ)(s:bw)(t:List eH)(f:Nat)(g:bP)(h:gP)(i:qL)(j:Nat)(l:Prop):=ax (gQ w.L u.cL v.y z.cy s u.d (yw v.x z.x v.cap z.xc (ag (u0 t u.ms f z.jc (ag (qW g u.jL h.lv z.jy.lv (ag (Da i u.k j z.kc l))))))))
def xB(y:AS)(x:sZ)(z:PH):=oS (jR y) x/\Dc z [] [] x
def HQ(x:HO):Int:=aa (iq x.k x.d x.m).n-(162:Int)
theorem Qm:fnBody (Y Tryz.prog) T9 83 MG fun _=>[]:=fnBody.of (p :=
 ∀z:AS,Aa z->ah z.k.m.bK->ah (z.k.m.bK+(1:Int))/\∃x:HO,ag (z.k.m.bK+(1:Int)=x.m.bK/\z.k.m.aT=x.m.aT/\z.k.m.ready=x.m.ready/\z.k.m.frozen=x.m.frozen/\ag (Da z.k x.k z.kc x.cap (iR z.d x.d (z8 x/\∀h:Nat,True->aO (gT (gv x.k x.m) != (0:Int)) (∃u:sZ,False) (∃u:vV,ag ((2:Int)=aa u.from_/\(20:Int)=aa u.au/\z.H=u.H/\iR (iq x.k x.d x.m) u.d (HI u/\∀w:J4,bT w.H w.y (cN u.from_ u.au u.d)/\(∀t:Nat,oN (u.H t) (w.H t) (br w.y) t)/\bX u.ms<=w.cap->ah (HQ x)/\(8:Int)≠(0:Int)/\ah (Int.tdiv (HQ x) (8:Int))/\∃v:kX,ag ((162:Int)=aa v.from_/\o7 false 200 (Int.tdiv (HQ x) (8:Int))=aa v.au/\w.H=v.H/\iR (iq x.k x.d x.m) v.d (zU v.from_ v.au v.d (XT v.es (fV (cN v.from_ v.au v.d).l))/\∀s:rG,(jg (J1 v) s/\∀f:Nat,oN (v.H f) (s.H f) (br s.y) f)->ah (z.k.m.bK+(1:Int))->∃g:sZ,ag (aW (ax (ag (z.k.m.bK+(1:Int)=(jR z).bK/\AT (J1 v) (jR z) s g (iq x.k x.d x.m) u.ms w.cap (cN u.from_ u.au u.d) w.y (mL x.k x.m) h (s.H=g.H/\xB z g z.H/\True))))))))))))))) (by kernel_rfl) (by
 delta aO ah bW aG o7 aa bg aD bX AT bz gT qt zU aW ag oN ax z8 gQ xB oM HQ HI
 rintro⟨k,kc,d,H,ms,es⟩ ok hb;obtain⟨⟨n1,n2⟩,hcl,hsv,⟨k1,k2,k3,k4⟩,hjr,hfl⟩:=ok;dsimp only at *;have hm:mU (oh k.m)=true:=by
  have:=hsv;unfold gv at this;simp only[Bool.and_eq_true]at this;exact this.1
 obtain⟨g1,g2,g3,g4⟩:=C8 hm;have g1:0<=k.m.bK+1/\k.m.bK+1<=1099511627776:=g1;obtain⟨D,hD⟩:∃D,D=iq k d (oh k.m):=⟨_,rfl⟩
 have hDn:D.n=d.n:=by rw[hD];unfold iq;split<;>rfl
 have hk0:k.s.at_+1<d.n:=by omega
 have hjr:zY.pre ⟨H,D,2,20,ms⟩:=by rw[hD];exact hjr H
 obtain⟨j1,j2,j3,j4⟩:=hjr;have e:jR ⟨k,kc,d,H,ms,es⟩=⟨D,cN 162 (iP d.n) D,ni es (fV (cN 162 (iP d.n) D).l) es.length,cN 2 20 D,ms,mL k (oh k.m),k.m.bK+1⟩:=by rw[hD];rfl
 rw[e];refine⟨by simp only[bL];omega,HO.mk k kc d (oh k.m),?_⟩;dsimp only;rw[hsv,<- hD]
 and_intros<;>first|exact cc|(intro h_;revert h_)|exact cm|skip
 intro b _;refine⟨fun c=>absurd c (by decide),fun _=>⟨vV.mk H D 2 20 ms,?_⟩⟩;dsimp only
 and_intros<;>first|exact cc|exact j2|exact j3|exact j4|(intro h_;revert h_)|exact cm|skip
 rintro⟨H1,y1,jc⟩ ⟨hl1,hf1,hc1⟩;dsimp only at hl1 hf1 hc1 ⊢;have hfl:zT.pre ⟨H1,D,162,iP d.n,es⟩:=by rw[hD];exact hfl H1
 obtain⟨f1,f2,f3⟩:=hfl;have hdv:((D.n:Int)-162).tdiv 8=(((d.n-162)/8:Nat):Int):=by
  rw[hDn,Int.tdiv_eq_ediv_of_nonneg (by omega)];omega
 rw[hdv];have hsg:(bif false then max (200:Int) (((d.n-162)/8:Nat):Int)else min 200 (((d.n-162)/8:Nat):Int))=(iP d.n:Nat):=by
  simp only[cond_false,iP];omega
 refine⟨by simp only[bL];omega,by decide,by simp only[bL];omega,kX.mk H1 D 162 (iP d.n) es,?_⟩;dsimp only
 and_intros<;>first|exact cc|exact hsg|exact f1|exact f2|exact f3|(intro h_;revert h_)|exact cm|skip
 rintro⟨H2,y2,x2,xc2⟩ ⟨hat2,hf2⟩ _;dsimp only at hf2 ⊢;refine⟨⟨H2,y2,x2,xc2,y1,jc,b⟩,?_⟩;have hat:oS ⟨D,cN 162 (iP d.n) D,ni es (fV (cN 162 (iP d.n) D).l) es.length,cN 2 20 D,ms,mL k (oh k.m),k.m.bK+1⟩ ⟨H2,y2,x2,xc2,y1,jc,b⟩ :=
  ⟨hat2,hl1.frame fun z hz=>(hf2 z (hl1.dom z hz)).1,fun z hz=>(hf2 z (hl1.dom z hz)).2,hc1⟩
 have hfr:Dc H [] [] ⟨H2,y2,x2,xc2,y1,jc,b⟩:=fun z hz _ _=>by
  obtain⟨a1,a2⟩:=hf1 z hz;obtain⟨b1,b2⟩:=hf2 z (by rw[a1];exact hz);exact⟨b1.trans a1,b2,a2⟩
 dsimp only[J1]
 and_intros<;>first|exact cc|exact hat|exact hfr|(intro h_;revert h_)|exact cm|skip)
theorem callParts:ak (Y Tryz.prog).G.X 83 MG:=aV fK Qm ⟨Fe,Qd,P9,trivial⟩
def eE(d:bw)(i:Nat):bw:=⟨d.n,fun r j=>if r<i/\j<64 then 0 else d.now r j,d.EH,fun r=>if r<i then true else d.loose r,d.calls+i⟩
structure Dd where
 d:bw
 H:PH
def rz(a:Dd):AS:=⟨jx 0,0,oR (eE a.d a.d.n) 0 (eL Bv),a.H,[],[]⟩
noncomputable def yx:cD where
 α:=Dd
 β:=sZ
 m:=3
 m':=17
 pre:=fun a=>192<=a.d.n/\a.d.n<100000/\a.d.calls<100000000000/\Aa (rz a)
 args:=fun a=>[.a (.ptr 0 0 0 0)]
 hp:=fun a=>gA 0 1 a.d++[(2,.cu a.H)]
 ro:=fun _=>[]
 post:=fun a b=>oS (jR (rz a)) b/\Dc a.H [] [] b
 res:=fun _ _=>.l8 [.a (.ptr 3 0 0 0),.a (.lit .i64 0)]
 cT:=fun a b=>vL 3 4 5 0 1 6 7 8 9 10 11 12 13 14 (jR (rz a)) b
def Wm(a:Dd):An:=.flat 5 Nat (fun s i=>((s.at_ 0 (.obj 116 [.slc 1 0 129 a.d.n a.d.n,.int .i64 (eE a.d i).calls])).at_ 1 (.arr 158 AA a.d.n (eO (eE a.d i)))).int 16 i) (fun _ i=>i<=a.d.n) (fun _ i=>a.d.n-i)
noncomputable def Wn:List (Nat×cD):=[(81,pN),(82,ME),(83,MG)]
def xC(x:bw)(y:Dd):=iy 192 x.n (x.calls<100000000000/\Aa (rz y))
theorem MH:fnBody (Y Tryz.prog) Wn 46 yx fun a=>[(46,[Wm a],[])]:=fnBody.of (p :=
 ∀x:Dd,xC x.d x->aA (aa x.d.n) 192 (∃z:sZ,False) ((∃z:Nat,aC z (bh x.d.n/\qk (bD x.d.n x.d.n/\bq x.d.calls (eE x.d z).calls/\aL x.d.n x.d.n 129 (eO x.d) (eO (eE x.d z))/\x.H=x.H/\z<=x.d.n/\True)))/\∀z:Nat,z<=x.d.n->aA (aa z) (aa x.d.n) (lJ 64 64 (∃y:Ls,ag (bq z y.i/\(0=y.r/\64=y.len/\64=y.cap)/\sG x.d.n y.d (aa (eE x.d z).calls) y.d (eO (eE x.d z)) (aL y.n 64 1 sK (bO y.src)) (uC y/\aI (bY z fun v=>bh x.d.n/\qk (sG (bw.n (lK y)) x.d (aa (bw.calls (lK y))) (eE x.d v) (eO (lK y)) (x.H=x.H) (bS v x.d.n z))))))) (∃y:Wl,ag (aC y.at_ (sG x.d.n y.d (aa (eE x.d z).calls) y.d (eO (eE x.d z)) (y.at_+1<y.d.n/\y.d.n<100000/\y.d.calls<800000000000) (∀v:Nat,True->∃u:AS,ax (ag (Da (jx y.at_) u.k v u.kc (iR (oR y.d y.at_ (eL Bv)) u.d (x.H=u.H/\Aa u/\∀w:sZ,xB u w u.H->∃s:sZ,ag (aW (ax (ag (ry (jR u) (jR (rz x)) w s (w.H=s.H/\xB (rz x) s x.H/\True))))))))))))))) (by kernel_rfl) (by
 delta aO aS cz aL ah bW aG bB aQ aY aa bH fk aD bM aI bD cH dJ bS bY lK lJ aC aW ag aA sG xC aP bh uC sK qk bq ax iy xB
 try dsimp -iota -proj only
 rintro⟨d,H⟩ ⟨h1,h2,h3,hok⟩;dsimp only at *;have h0:aj 64 1 (fun(x j:Nat)=>[Value.int IntKind.u8 (0:Int)].getD j (Value.tuple #[])) (bO fun _=>0):=kn fun _ _=>rfl;refine⟨fun c=>by(exfalso;have:=of_decide_eq_true c;omega),fun _=>⟨⟨0,?_⟩,fun i hi=>⟨fun c=>?_,fun c=>?_⟩⟩⟩
 ·have hr:aj d.n 129 (eO d) (eO (eE d 0)):=⟨fun i hi j hj=>by simp[eO,eE]⟩
  have hc:(d.calls:Int)=(eE d 0).calls:=rfl
  and_intros<;>first|exact cc|exact hr|exact hc|(intro h_;revert h_)|exact cm|skip
 ·have hi2:i<d.n:=by have:=of_decide_eq_true c;omega
  have hn:(eE d i).n=d.n:=rfl;have hc:(eE d i).calls<1000000000000:=by show d.calls+i<_;omega
  refine⟨by omega,by omega,by omega,Ls.mk (eE d i) i 0 64 64 64 fun _=>0,?_⟩;dsimp only;rw[hn]
  and_intros<;>first|exact cc|exact h0|exact hc|(intro h_;revert h_)|exact cm|skip
  intro _ _;have hr:aj d.n 129 (eO (gi (eE d i) i 64 fun _=>0)) (eO (eE d (i+1))):=⟨fun r hr j hj=>by
   simp only[eO,gi,eE];by_cases e:r=i
   ·subst e;by_cases h64:j<64
    ·simp[h64,show r<r+1 by omega]
    ·simp[h64]
   ·by_cases h64:j<64
    ·rw[if_pos h64,if_pos h64,if_neg (by omega)];by_cases hl:r<i
     ·rw[if_pos ⟨hl,h64⟩,if_pos ⟨by omega,h64⟩]
     ·rw[if_neg (by omega),if_neg (by omega)]
    ·rw[if_neg h64,if_neg h64];by_cases h128:j<128
     ·rw[if_pos h128,if_pos h128]
     ·rw[if_neg h128,if_neg h128,if_neg e];by_cases hl:r<i
      ·rw[if_pos hl,if_pos (by omega)]
      ·rw[if_neg hl,if_neg (by omega)]⟩
  have hcl:((gi (eE d i) i 64 fun _=>0).calls:Int)=(eE d (i+1)).calls:=by show((d.calls+i+1:Nat):Int)=(d.calls+(i+1):Nat);omega
  have hn2:(gi (eE d i) i 64 fun _=>0).n=d.n:=rfl;have hn3:d.n<=(gi (eE d i) i 64 fun _=>0).n:=Nat.le_refl _;refine⟨by simp only[bL];omega,i+1,?_⟩
  and_intros<;>first|exact cc|exact hr|exact hcl|exact hn2|exact hn3|(intro h_;revert h_)|exact cm|skip
 ·have:i=d.n:=by have:=of_decide_eq_false c;omega
  subst this;have hn:(eE d d.n).n=d.n:=rfl;have hc:(eE d d.n).calls<800000000000:=by show d.calls+d.n<_;omega
  refine⟨Wl.mk 0 (eE d d.n),?_⟩;dsimp only;rw[hn]
  and_intros<;>first|exact cc|exact hc|(intro h_;revert h_)|exact cm|skip
  intro b _;have hok2:Aa ⟨jx 0,b,oR (eE d d.n) 0 (eL Bv),H,[],[]⟩:=⟨hok.n,hok.calls,hok.save,hok.k,hok.jr,hok.fl⟩
  refine⟨⟨jx 0,b,oR (eE d d.n) 0 (eL Bv),H,[],[]⟩,?_⟩;dsimp only
  and_intros<;>first|exact cc|exact hok2|(intro h_;revert h_)|exact cm|skip
  rintro q ⟨q1,q2⟩;refine⟨q,?_⟩;have e:jR (rz ⟨d,H⟩)=jR ⟨jx 0,b,oR (eE d d.n) 0 (eL Bv),H,[],[]⟩:=rfl;rw[e]
  and_intros<;>first|exact cc|exact q1|exact q2|(intro h_;revert h_)|exact cm|skip)
theorem MI:ak (Y Tryz.prog).G.X 46 yx:=aV fK MH ⟨pH,Qk,callParts,trivial⟩
def lz(s:lu)(ks:List ByteArray):lu:={ s with d:=(gV s.jr ks).d,jL:=(gV s.jr ks).L,ms:=(gV s.jr ks).ms }
def Oq(s:lu)(ks:List ByteArray):lu:={ s with d:=(nJ s.fl ks).d,cL:=(nJ s.fl ks).L,cl:=(nJ s.fl ks).l }
def jS(s:lu)(ks:List ByteArray):lu:=if fu ks then Oq (lz s ks) ks else s
structure wu where
 s:lu
 p:sZ
 ks:List ByteArray
 kc:Nat
structure Ab(a:wu):Prop where
 n:a.ks.length<1000
 jr:fu a.ks=true->∀p,bT p.H p.y a.s.jL->a.s.ms.length<=p.cap->Fa.pre ⟨a.s.jr,p,a.ks,a.kc⟩
 fl:fu a.ks=true->∀p,jg (lz a.s a.ks).fl p->Ht.pre ⟨(lz a.s a.ks).fl,p,a.ks,a.kc⟩
noncomputable def Ua:cD where
 α:=wu
 β:=sZ
 m:=15
 m':=18
 pre:=fun a=>oS a.s a.p/\Ab a
 args:=fun a=>[.a (.ptr 0 0 0 0),.a (.slc 14 0 1 a.ks.length a.kc)]
 hp:=fun a=>vL 0 1 2 3 4 5 6 7 8 9 10 11 12 13 a.s a.p
 ro:=fun a=>[(14,.arr 9 [.str] a.ks.length (af kj a.ks))]
 post:=fun a b=>oS (jS a.s a.ks) b/\Dc a.p.H (br a.p.cy) (br a.p.jy) b
 res:=fun a _=>.l8 [.a (.int .i64 (if fu a.ks then gU (gV a.s.jr a.ks).ms else 0)),.a (.int .i64 (if fu a.ks then 0 else 1))]
 cT:=fun a b=>vL 0 1 2 3 4 5 15 7 16 9 10 11 12 17 (jS a.s a.ks) b
def Zn(a:wu):An:=.flat 4 Nat (fun s i=>s.int 15 i) (fun _ i=>i<=a.ks.length/\∀j,j<i->dS (gl a.ks j)=true) (fun _ i=>a.ks.length-i)
def X8(a:wu):An:=.mk 9 Unit (fun s _=>s) (fun _ _=>fu a.ks=true) (fun _ _=>0) fun _=>.mk 1000 [] []
noncomputable def Wo:List (Nat×cD):=[(86,Lu),(134,Fa),(135,Ht)]
def HR(v y:lu)(u z:sZ)(w:bw)(s:List eH)(t:Nat)(f:bP)(g:gP)(h i:Prop):=ax (ag (v.bK=y.bK/\ax (gQ v.cL y.cL u.cy z.cy w y.d (yw u.x z.x u.xc z.xc (ag (u0 s y.ms t z.jc (ag (qW f y.jL g.lv z.jy.lv (ag (Da v.k y.k u.kc z.kc (h/\i)))))))))))
def Ac(x:wu)(y:sZ):=oS (jS x.s x.ks) y/\Dc x.p.H (br x.p.cy) (br x.p.jy) y
def MJ(f:Int)(x:wu)(g:Int)(w:rG)(z:oP)(u:pe)(t:J4):sZ->Prop:=fun(v:sZ)=>f=xx x.ks x.s.jr/\g=gT (fu x.ks)/\w.H=v.H/\ax (ag (x.s.bK=(jS x.s x.ks).bK/\AT (nJ z.m z.ks) (jS x.s x.ks) w v (nJ z.m z.ks).d (gV u.m u.ks).ms t.cap (gV u.m u.ks).L t.y x.s.k x.p.kc (Ac x v/\True)))
def HS(x:wu)(y:Prop):=qk (bD (aU x.ks) x.kc/\ax (ag (ry x.s x.s x.p x.p (x.p.H=x.p.H/\kW x.ks/\y))))
def De(x y:List ByteArray)(z:ByteArray->List Value):=aL (aU x) (aU y) 1 (af z y) (af z x)
theorem Ub:fnBody (Y Tryz.prog) Wo 89 Ua fun a=>[(89,[Zn a],[X8 a])]:=fnBody.of (p :=
 ∀z:wu,oS z.s z.p/\Ab z->Hw z.ks z.kc (fun u=>HS z ((u<=aU z.ks/\qp u z.ks)/\True)) (∃u:sZ,(0:Int)=xx z.ks z.s.jr/\(1:Int)=gT (fu z.ks)/\z.p.H=u.H/\ax (ag (ry z.s (jS z.s z.ks) z.p u (Ac z u/\True)))) (fun u w=>HS z (dP w (aU z.ks) (qp w z.ks) u)) (HS z (aD (fu z.ks)/\True)) (∃u:pe,dY (ag (aU z.ks=aU u.ks/\z.kc=u.kc)) (u0 z.s.ms u.m.ms z.p.jc u.p.cap (gQ z.s.jL u.m.L z.p.jy u.p.y z.s.d u.m.d (z.p.H=u.p.H/\De u.ks z.ks kj/\HE u/\∀w:J4,C2 w (gV u.m u.ks) u->aO (gT (fu u.ks) != (0:Int)) (∃v:sZ,(0:Int)=xx z.ks z.s.jr/\gT (fu u.ks)=gT (fu z.ks)/\w.H=v.H/\HR z.s (jS z.s z.ks) z.p v (gV u.m u.ks).d (gV u.m u.ks).ms w.cap (gV u.m u.ks).L w.y (Ac z v) True) (∃v:oP,ag (ag (aU z.ks=aU v.ks/\z.kc=v.cap)/\oc z.s.cL v.m z.p.cy v.p (gV u.m u.ks).d z.p.x z.p.xc (w.H=v.p.H) (De v.ks z.ks kj/\Hv v/\∀t:rG,jg (nJ v.m v.ks) t/\tU v.p t->aO (gT (fu v.ks) != (0:Int)) (Exists (MJ 0 z (gT (fu v.ks)) t v u w)) (Exists (MJ (xx u.ks u.m) z 0 t v u w)))))))))) (by kernel_rfl) (by
 delta aO av cz aL ah bW az aG bB eF aQ aY aa aU dP bg aD aX dY dN aI gD bD bX cH oc AT bz dK bY ki HE ay gT aC kW C2 HR ag aA Ac MJ HS qp Hv aP bh xx qk ax Hw dR gQ bx cO De jI
 try dsimp -iota -proj only
 rintro⟨s,p,ks,kc⟩ ⟨hat,hok⟩;dsimp only at *;have hkn:=hok.n;dsimp only at hkn;have no:fu ks=false->jS s ks=s:=fun e=>if_neg (by rw[e];decide);have bad:∀i,i<ks.length->dS (gl ks i)=false->fu ks=false:=fun i hi h=>by
  rw[Bool.eq_false_iff];intro ha;have:=List.all_eq_true.1 ha (gl ks i) (by rw[bR hi];exact List.getElem_mem _);rw[h]at this;cases this
 have h0:∀j,j<0->dS (gl ks j)=true:=fun j hj=>absurd hj (Nat.not_lt_zero j);have hfr0:Dc p.H (br p.cy) (br p.jy) p:=fun z _ h1 h2=>⟨rfl,h1,h2⟩
 refine⟨⟨⟨0,?_⟩,fun i hi=>?_⟩,fun _ hK=>?_⟩
 ·and_intros<;>first|exact cc|exact h0|(intro h_;revert h_)|exact cm|skip
 ·obtain⟨hi,hall⟩:=hi;rw[show 0+(i:Int).toNat=i by omega];refine⟨fun c1=>?_,fun c1=>⟨(),?_⟩⟩
  ·have hlt:i<ks.length:=by have:=of_decide_eq_true c1;omega
   refine⟨⟨by omega,by omega⟩,hlt,gl ks i,rfl,trivial,fun _ _=>⟨fun c2=>?_,fun c2=>⟨by simp only[bL];omega,i+1,?_⟩⟩⟩
   ·have hn:=bad i hlt (by simpa using c2);rw[no hn,hn];refine⟨p,?_⟩
    and_intros<;>first|exact cc|exact hat|exact hfr0|(intro h_;revert h_)|exact cm|skip
   ·have hk:dS (gl ks i)=true:=by simpa using c2
    have h1:∀j,j<i+1->dS (gl ks j)=true:=fun j hj=>by
     by_cases e:j=i
     ·rw[e];exact hk
     ·exact hall j (by omega)
    and_intros<;>first|exact cc|exact h1|(intro h_;revert h_)|exact cm|skip
  ·have hi':i=ks.length:=by have:=of_decide_eq_false c1;omega
   have ha:fu ks=true:=List.all_eq_true.2 fun k hk=>by
    obtain⟨j,hj,rfl⟩:=List.getElem_of_mem hk;rw[<- bR hj];exact hall j (by omega)
   and_intros<;>first|exact cc|exact ha|(intro h_;revert h_)|exact cm|skip
 have hks:jS s ks=Oq (lz s ks) ks:=if_pos hK;obtain⟨hf,hl,hsep,hcap⟩:=hat;obtain⟨q1,q2,q3,q4,q5,q6⟩:=hok.jr hK p.jr hl hcap;have q6:=q6 hK;have sep2:∀z,z∈br p.cy->z∉br p.jy:=fun z h1 h2=>hsep z h2 h1;refine⟨pe.mk s.jr p.jr ks kc,?_⟩;dsimp only[lu.jr,sZ.jr]at q1 q2 q3 q4 q5 q6 ⊢
 and_intros<;>first|exact cc|exact q1|exact q2|exact q3|exact q4|exact q5|exact fun _=>q6|(intro h_;revert h_)|exact cm|skip
 rintro⟨H1,y1,c1⟩ ⟨hl1,hf1,hcp⟩;dsimp only at hl1 hf1 hcp ⊢;have hfc:jg (lz s ks).fl ⟨H1,p.cy,p.x,p.xc⟩:=⟨hf.log.frame fun z hz=>(hf1 z (hf.log.dom z hz) (sep2 z hz)).1,hf.idx⟩
 obtain⟨r1,r2,r3⟩:=hok.fl hK ⟨H1,p.cy,p.x,p.xc⟩ hfc;have r3:=r3 hK;rw[hK];refine⟨fun c=>absurd c (by decide),fun _=>⟨oP.mk (lz s ks).fl ⟨H1,p.cy,p.x,p.xc⟩ ks kc,?_⟩⟩;dsimp only[lu.fl]at r1 r2 r3 ⊢
 and_intros<;>first|exact cc|exact r1|exact r2|exact fun _=>r3|(intro h_;revert h_)|exact cm|skip
 rintro⟨H2,y2,x2,xc2⟩ ⟨hat2,hf2⟩;dsimp only at hat2 hf2 ⊢;rw[hK,hks];refine⟨fun c=>absurd c (by decide),fun _=>⟨⟨H2,y2,x2,xc2,y1,c1,p.kc⟩,?_⟩⟩;have sep3:∀z,z∈br y1->z∉br p.cy:=fun z h1 h2=>(hf1 z (hf.log.dom z h2) (sep2 z h2)).2 h1;have hat3:oS (Oq (lz s ks) ks) ⟨H2,y2,x2,xc2,y1,c1,p.kc⟩:=⟨hat2,hl1.frame fun z hz=>(hf2 z (hl1.dom z hz) (sep3 z hz)).1,fun z hz=>(hf2 z (hl1.dom z hz) (sep3 z hz)).2,hcp⟩
 have hfr:Dc p.H (br p.cy) (br p.jy) ⟨H2,y2,x2,xc2,y1,c1,p.kc⟩:=fun z hz n1 n2=>by
  obtain⟨a1,a2⟩:=hf1 z hz n2;have a1:H1 z=p.H z:=a1;obtain⟨b1,b2⟩:=hf2 z (by show H1 z≠none;rw[a1];exact hz) n1;exact⟨b1.trans a1,b2,a2⟩
 and_intros<;>first|exact cc|exact hat3|exact hfr|(intro h_;revert h_)|exact cm|skip)
theorem Uc:ak (Y Tryz.prog).G.X 89 Ua:=aV fK Ub ⟨yd,TW,P6,trivial⟩
theorem AU{f g:Nat->Int}:∀ {n:Nat},(∀k,k<n->f k=g k)->jK f n=jK g n
 |0,_=>rfl
 |n+1,h=>by
  simp only[jK];rw[AU fun k hk=>h k (by omega),h n (by omega)]
theorem Wp{a b:Nat}(ha:a<2^56)(hb:b<256):dz .or .u64 (uw .u64 ((a:Int)*2^8)) b=((a*256+b:Nat):Int):=by
 have e1:uw .u64 ((a:Int)*2^8)=((a*256:Nat):Int):=by simp only[uw];omega
 rw[e1,Jy _ _ (by omega) (by omega)];have:=Nat.two_pow_add_eq_or_of_lt (i:=8) (b:=b) hb a;rw[Nat.mul_comm a 256];show((2^8*a ||| b:Nat):Int)=((2^8*a+b:Nat):Int)
 rw[this]
theorem J8{v:Nat}{len:Nat}(hl:len<=8)(hv:v<256^len):∀k,k<=len->jK (fun k=>IP v len k) k=((v/256^(len-k):Nat):Int)
 |0,_=>by simp[jK,Nat.div_eq_of_lt hv]
 |k+1,hk=>by
  have ih:=J8 hl hv k (by omega);simp only[jK];rw[ih];have eb:IP v len k=((v/256^(len-(k+1))%256:Nat):Int):=by
   have e2:(2:Int)^(8*(len-1-k))=((256^(len-(k+1)):Nat):Int):=by
    rw[Int.natCast_pow,show len-1-k=len-(k+1)by omega,Int.pow_mul];rfl
   simp only[IP,uw];rw[e2];omega
  rw[eb];have e3:256^(len-k)=256^(len-(k+1))*256:=by rw[show len-k=len-(k+1)+1 by omega,Nat.pow_succ]
  have e4:v/256^(len-k)=v/256^(len-(k+1))/256:=by rw[e3,Nat.div_div_eq_div_mul]
  have hlt:v/256^(len-k)<2^56:=by
   have h1:v/256^(len-k)<256^k:=Nat.div_lt_of_lt_mul (by rw[<- Nat.pow_add,show len-k+k=len by omega];exact hv);have h2:256^k<=256^7:=Nat.pow_le_pow_right (by decide) (by omega);exact Nat.lt_of_lt_of_le h1 h2
  rw[Wp hlt (Nat.mod_lt _ (by decide)),e4];congr 1;omega
theorem Zo{f:Nat->Int}{v r len:Nat}(hl:len<=8)(hv:v<256^len)(hf:∀k,k<len->f (r+k)=IP v len k):gB f r len=v:=by
 unfold gB;rw[AU hf,J8 hl hv len (Nat.le_refl _)];simp
theorem Ot{r len:Nat}{f:Nat->Int}(hl:len<=8)(hf:∀k,k<len->f (r+k)=0):gB f r len=0 :=
 Zo (v:=0) hl (Nat.pow_pos (by decide)) fun k hk=>by rw[hf k hk];simp[IP,uw]
theorem AV{f g:Nat->Int}:∀ {n:Nat},(∀k,k<n->f k=g k)->qF f n=qF g n
 |0,_=>rfl
 |n+1,h=>by
  simp only[qF];rw[AV fun k hk=>h k (by omega),h n (by omega)]
theorem Df{f g:Nat->Int}(h:∀k,4<=k->k<64->f k=g k):vT f=vT g:=by
 unfold vT;rw[AV fun k hk=>h (4+k) (by omega) (by omega)]
theorem Qn:vT (fun _=>0)≠0:=by decide +kernel
theorem take_zero{g:dx}{i:Nat}{f:Nat->Int}(hf:∀k,k<64->f k=0):fO g i f=false:=by
 unfold fO;have h1:vT f=vT fun _=>0:=Df fun k _ hk=>hf k hk;have h2:gB f 0 4=0:=Ot (by omega) fun k hk=>hf _ (by omega);have:(vT f == gB f 0 4)=false:=by
  rw[h1,h2,beq_eq_false_iff_ne];exact Qn
 rw[this];rfl
theorem Ou{L:bP}{d:bw}{k:Nat}(h:∀i,i<8->∀j,j<64->vU L d k i j=0):S0 L d k/\nh L d k=none/\∀i,i<=8->(kL L d k i).run=if i=0 then L.run else max L.run 1:=by
 have hgB:∀i,i<8->uw .i64 (gB (vU L d k i) 10 4)=0:=fun i hi=>by
  rw[Ot (by omega) fun j hj=>h i hi _ (by omega)];rfl
 have key:∀i,i<=8->(0<i->(kL L d k i).ok=false/\(kL L d k i).g.gen=0)/\(kL L d k i).run=if i=0 then L.run else max L.run 1:=by
  intro i
  induction i with
  |zero=>exact fun _=>⟨fun h=>absurd h (Nat.lt_irrefl 0),rfl⟩
  |succ i ih =>
   intro hi;obtain⟨h1,h2⟩:=ih (by omega);obtain⟨R,hR⟩:∃R,R=kL L d k i:=⟨_,rfl⟩
   have hst:kL L d k (i+1)=rdStep R i (vU L d k i):=by rw[hR];rfl
   rw[<- hR]at h1 h2;have hz:=take_zero (g:=R.g) (i:=i) (h i (by omega));rw[hst];refine⟨fun _=>⟨by simp only[rdStep,hz,Bool.and_false],?_⟩,?_⟩
   ·simp only[rdStep,hz,Bool.and_false,Bool.not_false,Bool.true_and];by_cases h0:i=0
    ·rw[if_pos (by simpa using h0)]
    ·rw[if_neg (by simpa using h0),(h1 (by omega)).1];exact(h1 (by omega)).2
   ·simp only[rdStep,hgB i (by omega),h2];rw[if_neg (Nat.succ_ne_zero i)];split<;>omega
 refine⟨⟨fun i hi=>by rw[hgB i hi];omega,fun i hi _ hB=>?_⟩,?_,fun i hi=>(key i hi).2⟩
 ·rw[take_zero (h i hi)]at hB;cases hB
 ·unfold nh;rw[((key 8 (Nat.le_refl _)).1 (by omega)).2,if_pos (.inl (by omega))]
def qu(r:RecM):List Int:=JE r.body.length r.pos++r.body
def ee(rs:List RecM):List Int:=rs.flatMap qu
structure Ud(r:RecM):Prop where
 len:1<=r.body.length/\r.body.length<=300
 pos:0<=r.pos/\r.pos<140737488355328
theorem Wq(n:Nat)(p:Int):(JE n p).length=8:=rfl
theorem vM(r:RecM):(qu r).length=8+r.body.length:=by simp[qu,Wq]
theorem vN:∀(rs:List RecM),(∀r∈rs,Ud r)->rs.length*9<=(ee rs).length
 |[],_=>Nat.zero_le _
 |r::rs,h=>by
  have ih:=vN rs fun x hx=>h x (List.mem_cons_of_mem _ hx);have:=(h r List.mem_cons_self).len;show(rs.length+1)*9<=(qu r++ee rs).length;rw[List.length_append,vM];omega
theorem lT(rs:List RecM)(r:RecM):ee (rs++[r])=ee rs++qu r:=by simp[ee]
structure yy(fr sg:Nat)(o:Option dx)(run:Int)(d:bw):Prop where
 sec:∀i,i<8->∀j,j<64->d.now (fr+i) j=match o with|none=>0|some g=>if bZ i<g.buf.length then pI g i run j else 0
 rest:∀r,fr+8<=r->r<fr+sg*8->∀j,j<64->d.now r j=0
theorem yy.far{fr sg k:Nat}{o:Option dx}{run:Int}{d:bw}(h:yy fr sg o run d)(hk:1<=k)(hk2:k<sg){L:bP}(hL:L.from_=fr):∀i,i<8->∀j,j<64->vU L d k i j=0:=fun i hi j hj=>by
 unfold vU;rw[hL];exact h.rest _ (by omega) (by omega) j hj
theorem Fg{fr sg:Nat}{run:Int}{d:bw}(h:yy fr sg none run d)(h3:3<=sg/\sg<=200)(hr:fr+sg*8<=d.n)(hn:d.n<100000):rj fr sg d/\cN fr sg d=⟨fr,sg,[],1,1,true⟩:=by
 have hz:∀k,k<sg->∀(L:bP),L.from_=fr->∀i,i<8->∀j,j<64->vU L d k i j=0:=fun k hk L hL i hi j hj=>by
  by_cases h0:k=0
  ·subst h0;unfold vU;rw[hL,Nat.zero_mul,Nat.add_zero];exact h.sec i hi j hj
  ·exact h.far (by omega) hk hL i hi j hj
 have key:∀k,k<=sg->pJ fr sg d k=⟨fr,sg,[],1,1,true⟩:=by
  intro k
  induction k with
  |zero=>exact fun _=>rfl
  |succ k ih =>
   intro hk;have ih:=ih (by omega);obtain⟨_,e2,e3⟩:=Ou (hz k (by omega) ⟨fr,sg,[],1,1,true⟩ rfl);show { pJ fr sg d k with l:=(pJ fr sg d k).l++(nh (pJ fr sg d k) d k).toList,run:=(kL (pJ fr sg d k) d k 8).run }=_;rw[ih,e2,e3 8 (Nat.le_refl _)];rfl
 refine⟨⟨h3,hr,hn,fun k hk=>?_,?_,?_⟩,?_⟩
 ·rw[key k (by omega)];exact(Ou (hz k hk ⟨fr,sg,[],1,1,true⟩ rfl)).1
 ·rw[key sg (Nat.le_refl _)];exact Nat.zero_le _
 ·rw[key sg (Nat.le_refl _)];exact fun i hi=>absurd hi (Nat.not_lt_zero i)
 ·unfold cN;rw[key sg (Nat.le_refl _)];rfl
theorem Qo{g g':dx}{e:List Int}{i:Nat}{run:Int}(h1:g'.gen=g.gen)(h2:g'.base=g.base)(hb:g'.buf=g.buf++e)(hs:bZ (i+1)<=g.buf.length):∀j,j<64->qy g i run j=qy g' i run j:=fun j hj=>by
 have hst:bZ (i+1)=bZ i+ko i:=by unfold bZ ko;split<;>omega
 have u1:tH g.buf.length i=ko i:=by simp only[tH];omega
 have u2:tH g'.buf.length i=ko i:=by rw[hb];simp only[tH,List.length_append];omega
 have hgl:∀k,k<ko i->gl g'.buf (bZ i+k)=gl g.buf (bZ i+k):=fun k hk=>by rw[hb,bN (by omega)]
 simp only[qy,h1,h2,u1,u2];by_cases h0:i=0
 ·subst h0;have hr:ko 0=42:=rfl;have hs0:bZ 0=0:=rfl;rw[hr,hs0]at hgl;simp only[hr,if_true]
  (repeat' split)<;>first|rfl|(exfalso;omega)|skip
  have:=hgl (j-22) (by assumption);rw[Nat.zero_add]at this;exact this.symm
 ·simp only[if_neg h0]
  (repeat' split)<;>first|rfl|(exfalso;omega)|skip
  exact(hgl _ (by assumption)).symm
theorem Qp{g g':dx}{e:List Int}{i:Nat}{run:Int}(h1:g'.gen=g.gen)(h2:g'.base=g.base)(hb:g'.buf=g.buf++e)(hs:bZ (i+1)<=g.buf.length):∀j,j<64->pI g i run j=pI g' i run j:=fun j hj=>by
 have h:=Qo (run:=run) h1 h2 hb hs;unfold pI;rw[Df fun k _ hk=>h k hk,h j hj]
theorem s8{L:bP}{g:dx}{was:Nat}{d:bw}(hg:(g.gen-1).toNat%L.au=0):∀n r j,j<64 ->
 (de L g was d n).now r j=if ∃i,i<n/\r=L.from_+i/\tJ was g.buf.length i=true then pI g (r-L.from_) L.run j else d.now r j
 |0,r,j,_=>by rw[if_neg (by rintro⟨i,hi,_⟩;omega)];rfl
 |n+1,r,j,hj=>by
  have ih:=s8 (L:=L) (g:=g) (was:=was) (d:=d) hg n r j hj;have hsn:jN L g n=L.from_+n:=by unfold jN;rw[hg,Nat.zero_mul,Nat.add_zero]
  unfold de;by_cases hc:tJ was g.buf.length n=true
  ·rw[if_pos hc];show(if r=jN L g n/\j<64 then _ else _)=_;rw[hsn];by_cases hr:r=L.from_+n
   ·rw[if_pos ⟨hr,hj⟩,if_pos ⟨n,Nat.lt_succ_self n,hr,hc⟩,hr,Nat.add_sub_cancel_left]
   ·rw[if_neg (fun e=>hr e.1),ih];congr 1;rw[eq_iff_iff];constructor
    ·rintro⟨i,h1,h2,h3⟩;exact⟨i,by omega,h2,h3⟩
    ·rintro⟨i,h1,h2,h3⟩;by_cases e:i=n
     ·subst e;exact absurd h2 hr
     ·exact⟨i,by omega,h2,h3⟩
  ·rw[if_neg hc,ih];congr 1;rw[eq_iff_iff];constructor
   ·rintro⟨i,h1,h2,h3⟩;exact⟨i,by omega,h2,h3⟩
   ·rintro⟨i,h1,h2,h3⟩;by_cases e:i=n
    ·subst e;exact absurd h3 hc
    ·exact⟨i,by omega,h2,h3⟩
theorem HT{rs:List RecM}{r:RecM}(h:mI rs)(h1:∀x∈rs,x.pos<r.pos)(h2:0<=r.pos/\r.pos<1000000000000):mI (rs++[r]):=by
 have hl:(rs++[r]).length=rs.length+1:=by simp
 refine⟨fun i j hij hj=>?_,fun i hi=>?_⟩
 ·rw[hl]at hj;rw[kA (by omega),kA hj,if_pos (by omega)];split
  ·exact h.lt i j hij (by assumption)
  ·exact h1 _ (by rw[bR (by omega)];exact List.getElem_mem _)
 ·rw[hl]at hi;rw[kA hi];split
  ·exact h.A4 i (by assumption)
  ·exact h2
def Eg(base:Int):List RecM->List dx
 |[]=>[]
 |r::rs=>[⟨1,base,0,ee (r::rs),r::rs⟩]
theorem Ov{base:Int}{rs:List RecM}(h:rs≠[]):Eg base rs=[⟨1,base,0,ee rs,rs⟩]:=by
 cases rs with
 |nil=>exact absurd rfl h
 |cons r rs=>rfl
theorem Ue(base:Int)(rs:List RecM):fV (Eg base rs)=rs:=by
 cases rs<;>simp[Eg,fV]
structure gW(L:bP)(d:bw)(n:Nat)(rs:List RecM):Prop where
 au:3<=L.au/\L.au<=200
 room:L.from_+L.au*8<=d.n
 size:d.n<100000
 calls:d.calls<=n
 next:1<=L.next/\L.next<10000000000
 run:0<=L.run/\L.run<4294967296
 good:∀r∈rs,Ud r/\r.pos<L.next
 sort:mI rs
 fits:(ee rs).length<=378
 IQ:∃base,0<=base/\base<100000000000/\L.l=Eg base rs
 dev:yy L.from_ L.au L.l.head? L.run d
theorem gW.WY{L:bP}{d:bw}{n:Nat}{rs:List RecM}(h:gW L d n rs)(hn:n<900000000000):uL L d:=by
 obtain⟨base,b1,b2,hl⟩:=h.IQ;have h9:=vN rs fun r hr=>(h.good r hr).1;have hf:=h.fits;have hc:=h.calls;have hx:=h.next
 have at_:∀i,i<L.l.length->gl L.l i=⟨1,base,0,ee rs,rs⟩:=fun i hi=>by
  rw[hl]at hi ⊢;cases rs with
  |nil=>exact absurd hi (Nat.not_lt_zero i)
  |cons r rs =>
   have:i=0:=by simpa[Eg]using hi
   subst this;rfl
 refine⟨?_,h.au,h.room,h.size,by omega,by omega,fun i hi=>?_,fun i hi=>?_,fun i hi=>?_⟩
 ·rw[hl];cases rs<;>simp[Eg]
 ·rw[at_ i hi];show(1:Int)<=1/\(1:Int)<100000000000;omega
 ·rw[at_ i hi];exact hf
 ·rw[at_ i hi];exact h9
theorem gW.flush{L:bP}{d:bw}{n:Nat}{rs:List RecM}(h:gW L d n rs):gW L (gj d) (n+1) rs :=
 ⟨h.au,h.room,h.size,Nat.succ_le_succ h.calls,h.next,h.run,h.good,h.sort,h.fits,h.IQ,⟨h.dev.sec,h.dev.rest⟩⟩
theorem gW.need{L:bP}{d:bw}{n:Nat}{rs:List RecM}(h:gW L d n rs){k:Nat}(hk:(ee rs).length+8+k<=378):qJ L k=decide (rs=[]):=by
 obtain⟨base,b1,b2,hl⟩:=h.IQ;unfold qJ jP;rw[hl];cases rs with
 |nil=>simp[Eg]
 |cons r rs =>
  have:¬370<(ee (r::rs)).length+k:=by omega
  simp[Eg,gl,this]
theorem gW.append{L:bP}{d:bw}{n:Nat}{rs:List RecM}(h:gW L d n rs){body:List Int}(hb:1<=body.length/\body.length<=300)(hx:L.next<9999999999)(hfit:(ee rs).length+8+body.length<=378) :
 gW (lQ L body) (n9 L d body) (n+20) (rs++[⟨L.next,body⟩])/\(lQ L body).next=L.next+1/\(lQ L body).au=L.au/\(lQ L body).from_=L.from_:=by
 obtain⟨base,b1,b2,hl⟩:=h.IQ;have hneed:=h.need hfit;have hsegs:=h.au;have hroom:=h.room;have hnx:=h.next
 obtain⟨r,hr⟩:∃r:RecM,r=⟨L.next,body⟩:=⟨_,rfl⟩
 have hrb:qu r=JE body.length L.next++body:=by rw[hr];rfl
 have hgr:Ud r:=by rw[hr];exact⟨hb,by show 0<=L.next;omega,by show L.next<140737488355328;omega⟩
 have hbl:(ee (rs++[r])).length=(ee rs).length+8+body.length:=by
  rw[lT,List.length_append,vM,hr];show(ee rs).length+(8+body.length)=_;omega
 obtain⟨L1,hL1⟩:∃L1,L1=dw L body.length:=⟨_,rfl⟩
 obtain⟨d1,hd1⟩:∃d1,d1=kD L d body.length:=⟨_,rfl⟩
 have key:∃base',0<=base'/\base'<100000000000/\L1.l=[⟨1,base',0,ee rs,rs⟩]/\L1.from_=L.from_/\L1.au=L.au/\L1.next=L.next/\L1.run=L.run/\L1.fresh=L.fresh/\d1.n=d.n/\d1.calls<=d.calls+2 /\
  (∀i,i<8->∀j,j<64->(rs=[]/\i=0)\/d1.now (L.from_+i) j=if bZ i<(ee rs).length then pI ⟨1,base',0,ee rs,rs⟩ i L.run j else 0)/\∀q,L.from_+8<=q->∀j,d1.now q j=d.now q j:=by
  by_cases he:rs=[]
  ·subst he;have hn:qJ L body.length=true:=by rw[hneed];rfl
   have e1:L1=ja L:=by rw[hL1];exact if_pos hn
   have e2:d1=sO L d:=by rw[hd1];exact if_pos hn
   have e3:L.l=[]:=by rw[hl];rfl
   have e4:bl L=⟨1,L.next,0,[],[]⟩:=by unfold bl;rw[e3];rfl
   have e5:jN L (bl L) 0=L.from_:=by rw[e4];simp[jN]
   refine⟨L.next,by omega,by omega,?_,by rw[e1];rfl,by rw[e1];rfl,by rw[e1];rfl,by rw[e1];rfl,by rw[e1];rfl,by rw[e2];rfl,by rw[e2];exact Nat.le_refl _,fun i hi j hj=>?_,fun q hq j=>?_⟩
   ·rw[e1];show tI L++[bl L]=_;rw[show tI L=[]by unfold tI;rw[e3];rfl,e4];rfl
   ·by_cases h0:i=0
    ·exact .inl ⟨rfl,h0⟩
    ·right;rw[e2,if_neg (by simp[ee])];show(if L.from_+i=jN L (bl L) 0/\j<64 then _ else d.now (L.from_+i) j)=0;rw[e5,if_neg (by omega),h.dev.sec i hi j hj,e3];rfl
   ·rw[e2];show(if q=jN L (bl L) 0/\j<64 then _ else d.now q j)=_;rw[e5,if_neg (by omega)]
  ·have hn:qJ L body.length=false:=by rw[hneed];exact decide_eq_false he
   have e1:L1=L:=by rw[hL1];exact if_neg (by rw[hn];decide)
   have e2:d1=d:=by rw[hd1];exact if_neg (by rw[hn];decide)
   rw[Ov he]at hl;refine⟨base,b1,b2,by rw[e1,hl],by rw[e1],by rw[e1],by rw[e1],by rw[e1],by rw[e1],by rw[e2],by rw[e2];omega,fun i hi j hj=>?_,fun q hq j=>by rw[e2]⟩;right;rw[e2,h.dev.sec i hi j hj,hl];rfl
 obtain⟨base',c1,c2,k1,k2,k3,k4,k5,k6,k7,k8,k9,k10⟩:=key;have hA:lQ L body=JG L1 body:=by rw[hL1];rfl
 have hlast:jP L1=⟨1,base',0,ee rs,rs⟩:=by unfold jP;rw[k1];rfl
 obtain⟨g',hg'⟩:∃g':dx,g'=⟨1,base',0,ee (rs++[r]),rs++[r]⟩:=⟨_,rfl⟩
 have hbuf:qY ⟨1,base',0,ee rs,rs⟩ L.next body=ee (rs++[r]):=by
  rw[lT,hrb];simp[qY,List.append_assoc]
 have hl2:(lQ L body).l=[g']:=by
  rw[hA];show L1.l.set (L1.l.length-1) (LL (jP L1) L1.next body)=_;rw[hlast,k1,k4];simp only[LL,hbuf,hg',hr];rfl
 have hnx2:(lQ L body).next=L.next+1:=by rw[hA];show L1.next+1=_;rw[k4]
 have hfr2:(lQ L body).from_=L.from_:=by rw[hA];exact k2
 have hsg2:(lQ L body).au=L.au:=by rw[hA];exact k3
 have hrn2:(lQ L body).run=L.run:=by rw[hA];exact k5
 obtain⟨gw,hgw⟩:∃gw,gw=JF (jP L1) L1.next body:=⟨_,rfl⟩
 have hgw1:gw=⟨1,base',0,ee (rs++[r]),rs⟩:=by rw[hgw,hlast,k4];simp only[JF,hbuf]
 have hsec:∀i j,pI gw i L.run j=pI g' i L.run j:=fun i j=>by rw[hgw1,hg'];rfl
 have hD2:qK L1 d1 body=de L1 gw (ee rs).length d1 8:=by unfold qK;rw[<- hgw,hlast]
 have hmod:(gw.gen-1).toNat%L1.au=0:=by rw[hgw1];simp
 obtain⟨w1,w2⟩:=sP L1 gw (ee rs).length d1 8;have hnow:∀q j,(n9 L d body).now q j=(qK L1 d1 body).now q j:=fun q j=>by
  unfold n9;rw[<- hL1,<- hd1];split<;>rfl
 have hdn:(n9 L d body).n=d.n/\(n9 L d body).calls<=d.calls+11:=by
  unfold n9;rw[<- hL1,<- hd1,hD2];split
  ·simp only[gj];omega
  ·omega
 have hgl:gw.buf.length=(ee rs).length+8+body.length:=by rw[hgw1];exact hbl
 refine⟨⟨by rw[hsg2];exact hsegs,by rw[hfr2,hsg2,hdn.1];exact hroom,by rw[hdn.1];exact h.size,by have:=h.calls;omega,by rw[hnx2];omega,by rw[hrn2];exact h.run,?_,?_,?_,?_,?_⟩,hnx2,hsg2,hfr2⟩
 ·rw[hnx2,<- hr];intro x hx;rcases List.mem_append.1 hx with hx|hx
  ·have:=h.good x hx;exact⟨this.1,by omega⟩
  ·have:x=r:=by simpa using hx
   rw[this];refine⟨hgr,?_⟩;rw[hr];show L.next<L.next+1;omega
 ·rw[<- hr];refine HT h.sort (fun x hx=>?_) (by rw[hr];show 0<=L.next/\L.next<1000000000000;omega);rw[hr];exact(h.good x hx).2
 ·rw[<- hr,hbl];exact hfit
 ·refine⟨base',c1,c2,?_⟩;rw[hl2,<- hr,Ov (by simp),hg']
 ·rw[hl2,hfr2,hsg2,hrn2];refine⟨fun i hi j hj=>?_,fun q hq hq2 j hj=>?_⟩
  ·rw[hnow,hD2,s8 hmod 8 _ j hj,k2,k5,Nat.add_sub_cancel_left,hsec];have hg'l:g'.buf.length=(ee rs).length+8+body.length:=by rw[hg'];exact hbl
   show _=if bZ i<g'.buf.length then pI g' i L.run j else 0;by_cases hs:bZ i<g'.buf.length
   ·rw[if_pos hs];by_cases hc:(ee rs).length<bZ (i+1)
    ·rw[if_pos ⟨i,hi,rfl,by simp only[tJ,Bool.and_eq_true,decide_eq_true_eq];exact⟨hc,by rw[hgl,<- hg'l];exact hs⟩⟩]
    ·rw[if_neg]
     ·have hlt:bZ i<(ee rs).length:=by unfold bZ at *;omega
      rcases k9 i hi j hj with⟨e,e0⟩|e
      ·subst e;simp[ee]at hlt
      ·rw[e,if_pos hlt];exact Qp (e:=qu r) (by rw[hg']) (by rw[hg']) (by rw[hg'];exact lT rs r) (show bZ (i+1)<=(ee rs).length by omega) j hj
     ·rintro⟨i',_,e,hcc⟩;have:i'=i:=by omega
      subst this;simp only[tJ,Bool.and_eq_true,decide_eq_true_eq]at hcc;exact hc hcc.1
   ·rw[if_neg hs,if_neg]
    ·rcases k9 i hi j hj with⟨e,e0⟩|e
     ·subst e0;exact absurd (show bZ 0<g'.buf.length by rw[hg'l];show 0<_;omega) hs
     ·rw[e,if_neg (by omega)]
    ·rintro⟨i',_,e,hcc⟩;have:i'=i:=by omega
     subst this;simp only[tJ,Bool.and_eq_true,decide_eq_true_eq]at hcc;omega
  ·rw[hnow,hD2,s8 hmod 8 _ j hj,k2,if_neg (by rintro⟨i',_,e,_⟩;omega),k10 q hq];exact h.dev.rest q hq hq2 j hj
theorem om{rs:List RecM}:mI rs↔rs.Pairwise (fun a b=>a.pos<b.pos)/\∀r∈rs,0<=r.pos/\r.pos<1000000000000:=by
 constructor
 ·rintro⟨h1,h2⟩;refine⟨?_,fun r hr=>?_⟩
  ·rw[List.pairwise_iff_getElem];intro i j hi hj hij;have:=h1 i j hij hj;rwa[bR hi,bR hj]at this
  ·obtain⟨i,hi,rfl⟩:=List.getElem_of_mem hr;have:=h2 i hi;rwa[bR hi]at this
 ·rintro⟨h1,h2⟩;refine⟨fun i j hij hj=>?_,fun i hi=>?_⟩
  ·rw[bR (show i<rs.length by omega),bR hj];exact List.pairwise_iff_getElem.1 h1 i j (by omega) hj hij
  ·rw[bR hi];exact h2 _ (List.getElem_mem _)
theorem J9:∀ {rs:List RecM} {r:RecM},rs.Pairwise (fun a b=>a.pos<b.pos)->r∈rs->wh rs r.pos=some r.body
 |[],_,_,h=>by cases h
 |a::rs,r,hp,h=>by
  rw[List.pairwise_cons]at hp;by_cases e:a.pos=r.pos
  ·have:a=r:=by
    rcases List.mem_cons.1 h with h|h
    ·exact h.symm
    ·have:=hp.1 r h;omega
   subst this;simp[wh]
  ·have hm:r∈rs:=by
    rcases List.mem_cons.1 h with h|h
    ·exact absurd (by rw[h]) e
    ·exact h
   have:=J9 hp.2 hm;unfold wh at this ⊢;rw[List.find?_cons];simp only[e,decide_false];exact this
theorem MK{rs:List RecM}{p:Int}(h:∀r∈rs,r.pos≠p):wh rs p=none:=by
 unfold wh;rw[Option.map_eq_none_iff,List.find?_eq_none];intro r hr;simpa using h r hr
theorem Ka:∀ {l:List dx} {r:RecM},(fV l).Pairwise (fun a b=>a.pos<b.pos)->r∈fV l->gf l r.pos=some r.body
 |[],_,_,h=>by cases h
 |g::l,r,hp,h=>by
  have e:fV (g::l)=g.aR++fV l:=rfl;rw[e]at hp h;rw[List.pairwise_append]at hp;simp only[gf,List.findSome?_cons];by_cases hg:r∈g.aR
  ·rw[J9 hp.1 hg]
  ·have hm:r∈fV l:=(List.mem_append.1 h).resolve_left hg;rw[MK fun x hx=>by have:=hp.2.2 x hx r hm;omega];exact Ka hp.2.1 hm
theorem Fh:∀(l:List dx) (next:Int),iW l next=match fV l with | []=>next|r::_=>r.pos
 |[],_=>rfl
 |g::l,next=>by
  have e:fV (g::l)=g.aR++fV l:=rfl;rw[e];cases hr:g.aR with
  |nil =>
   rw[List.nil_append];have:=Fh l next
   unfold iW at this ⊢;rw[List.find?_cons,hr];exact this
  |cons r rs =>
   unfold iW;rw[List.find?_cons,hr];simp[gl,hr]
structure yz(L:bP)(rs:List RecM):Prop where
 all:fV L.l=rs
 ye:L.l.length<1000
 sort:mI rs
 body:∀r∈rs,1<=r.body.length/\r.body.length<=300
 seg:∀i,i<L.l.length->(gl L.l i).aR.length<=400
theorem gW.rd{L:bP}{d:bw}{n:Nat}{rs:List RecM}(h:gW L d n rs):yz L rs:=by
 obtain⟨base,_,_,hl⟩:=h.IQ;have h9:=vN rs fun r hr=>(h.good r hr).1;have hf:=h.fits;refine⟨by rw[hl,Ue],?_,h.sort,fun r hr=>(h.good r hr).1.len,fun i hi=>?_⟩
 ·rw[hl];cases rs<;>simp[Eg]
 ·rw[hl]at hi ⊢;cases rs with
  |nil=>exact absurd hi (Nat.not_lt_zero i)
  |cons r rs =>
   have:i=0:=by simpa[Eg]using hi
   subst this;show(r::rs).length<=400;omega
theorem yz.first{L:bP}{rs:List RecM}(h:yz L rs){r:RecM}(hr:r∈rs):cB L<=r.pos:=by
 unfold cB;rw[Fh,h.all];have hp:=(om.1 h.sort).1;cases rs with
 |nil=>cases hr
 |cons a rs =>
  show a.pos<=r.pos;rcases List.mem_cons.1 hr with rfl|hr
  ·exact Int.le_refl _
  ·exact Int.le_of_lt ((List.pairwise_cons.1 hp).1 r hr)
def s9(get:ByteArray->Option aB)(k:ByteArray)(r:Option aB):ByteArray->Option aB:=fun k'=>if k'=k then r else get k'
structure rV(m:nT)(rs:List RecM)(get:ByteArray->Option aB):Prop where
 rd:yz m.L rs
 pos:∀e∈m.l,∃x,get e.1=some x/\x.key=e.1/\fU x=true/\(⟨e.2,aH (some x)⟩:RecM)∈rs
 all:∀k,get k≠none->k∈m.l.map Prod.fst
theorem yz.au{L:bP}{rs:List RecM}(h:yz L rs)(i:Nat)(hi:i<L.l.length):mI (gl L.l i).aR/\(gl L.l i).aR.length<=400/\∀k,k<(gl L.l i).aR.length->1<=(gl (gl L.l i).aR k).body.length/\(gl (gl L.l i).aR k).body.length<=1000:=by
 obtain⟨hs1,hs2⟩:=om.1 h.sort;refine⟨?_,h.seg i hi,fun k hk=>?_⟩
 ·have hm:gl L.l i∈L.l:=by rw[bR hi];exact List.getElem_mem _
  have hsub:(gl L.l i).aR.Sublist rs:=by rw[<- h.all];exact uK (f:=fun g:dx=>g.aR) hm
  exact om.2 ⟨hs1.sublist hsub,fun r hr=>hs2 r (hsub.subset hr)⟩
 ·obtain⟨j,hj,e⟩:=Hy hi hk;rw[h.all]at hj e;have:=h.body (gl rs j) (by rw[bR hj];exact List.getElem_mem _);rw[e]at this;omega
theorem rV.aa1{m:nT}{rs:List RecM}{get:ByteArray->Option aB}(h:rV m rs get):P4 m:=⟨h.rd.ye,h.rd.au,fun e he=>by
 obtain⟨x,_,_,_,hx⟩:=h.pos e he;exact(om.1 h.rd.sort).2 _ hx⟩
theorem rV.gH{m:nT}{rs:List RecM}{get:ByteArray->Option aB}(h:rV m rs get)(k:ByteArray):CY m k (get k):=by
 have hs:=(om.1 h.rd.sort).1;cases hg:get k with
 |none =>
  left;intro hm;obtain⟨e,he,rfl⟩:=List.mem_map.1 hm;obtain⟨x,h1,_⟩:=h.pos e he;rw[hg]at h1;cases h1
 |some x =>
  obtain⟨e,he,rfl⟩:=List.mem_map.1 (h.all k (by rw[hg];simp));obtain⟨x',h1,_,h3,h4⟩:=h.pos e he;rw[hg]at h1;cases h1;rw[<- h.rd.all]at hs h4;exact⟨e.2,he,Ka hs h4,h3⟩
theorem rV.keep{m:nT}{rs:List RecM}{get:ByteArray->Option aB}(h:rV m rs get){L':bP}{rs':List RecM}(hL:yz L' rs')(hs:∀r∈rs,r∈rs'):(m.l.filter fun e=>decide (cB L'<=e.2))=m.l:=by
 rw[List.filter_eq_self];intro e he;obtain⟨x,_,_,_,hx⟩:=h.pos e he;simpa using hL.first (hs _ hx)
theorem vO{l:List (ByteArray×Int)}{k:ByteArray}{e:ByteArray×Int}:e∈l5 l k↔e∈l/\e.1≠k:=by
 unfold l5;rw[List.mem_filter];simp
theorem rV.put{m:nT}{rs:List RecM}{get:ByteArray->Option aB}(h:rV m rs get){L':bP}{d':bw}{p:Int}{x:aB}(hx:fU x=true)(hL:yz L' (rs++[⟨p,aH (some x)⟩])) :
 rV ⟨L',d',Ee m.l x.key p⟩ (rs++[⟨p,aH (some x)⟩]) (s9 get x.key (some x)):=by
 refine⟨hL,fun e he=>?_,fun k hk=>?_⟩
 ·rcases List.mem_cons.1 he with rfl|he
  ·exact⟨x,if_pos rfl,rfl,hx,by simp⟩
  ·obtain⟨he,hne⟩:=vO.1 he;obtain⟨x',h1,h2,h3,h4⟩:=h.pos e he;exact⟨x',by unfold s9;rw[if_neg hne];exact h1,h2,h3,List.mem_append_left _ h4⟩
 ·by_cases e:k=x.key
  ·subst e;exact List.mem_map.2 ⟨(x.key,p),List.mem_cons_self,rfl⟩
  ·have hk:get k≠none:=by unfold s9 at hk;rwa[if_neg e]at hk
   obtain⟨q,hq,rfl⟩:=List.mem_map.1 (h.all k hk);exact List.mem_map.2 ⟨q,List.mem_cons_of_mem _ (vO.2 ⟨hq,e⟩),rfl⟩
theorem rV.drop{m:nT}{rs:List RecM}{get:ByteArray->Option aB}(h:rV m rs get){L':bP}{d':bw}{k0:ByteArray}{r:RecM}(hL:yz L' (rs++[r])) :
 rV ⟨L',d',l5 m.l k0⟩ (rs++[r]) (s9 get k0 none):=by
 refine⟨hL,fun e he=>?_,fun k hk=>?_⟩
 ·obtain⟨he,hne⟩:=vO.1 he;obtain⟨x',h1,h2,h3,h4⟩:=h.pos e he;exact⟨x',by unfold s9;rw[if_neg hne];exact h1,h2,h3,List.mem_append_left _ h4⟩
 ·by_cases e:k=k0
  ·subst e;exact absurd (if_pos rfl) hk
  ·have hk:get k≠none:=by unfold s9 at hk;rwa[if_neg e]at hk
   obtain⟨q,hq,rfl⟩:=List.mem_map.1 (h.all k hk);exact List.mem_map.2 ⟨q,vO.2 ⟨hq,e⟩,rfl⟩
structure qM(m:nT)(n:Nat)(rs:List RecM)(get:ByteArray->Option aB):Prop where
 log:gW m.L m.d n rs
 has:rV m rs get
 ye:m.l.length<=rs.length
theorem gW.len{L:bP}{d:bw}{n:Nat}{rs:List RecM}(h:gW L d n rs):rs.length<=42:=by
 have h9:=vN rs fun r hr=>(h.good r hr).1;have:=h.fits;omega
theorem qM.ok{m:nT}{n k:Nat}{rs:List RecM}{get:ByteArray->Option aB}(h:qM m n rs get)(hn:n<900000000000)(hk:(ee rs).length+8+k<=378):tV m k:=by
 exact⟨h.log.WY hn,by have:=h.ye;have:=h.log.len;omega⟩
theorem qM.add{m:nT}{n:Nat}{rs:List RecM}{get:ByteArray->Option aB}(h:qM m n rs get){body:List Int}(hb:1<=body.length/\body.length<=300)(hx:m.L.next<9999999999)(hfit:(ee rs).length+8+body.length<=378) :
 gW (iz m body).L (iz m body).d (n+20) (rs++[⟨m.L.next,body⟩])/\(iz m body).L.next=m.L.next+1/\(iz m body).l=m.l/\(iz m body).L.au=m.L.au/\(iz m body).L.from_=m.L.from_:=by
 obtain⟨h1,h2,h3,h4⟩:=h.log.append hb hx hfit;exact⟨h1,h2,h.has.keep h1.rd fun r hr=>List.mem_append_left _ hr,h3,h4⟩
theorem qM.put{m:nT}{n:Nat}{rs:List RecM}{get:ByteArray->Option aB}(h:qM m n rs get){x:aB}(hx:jQ x=true)(hn:m.L.next<9999999999)(hfit:(ee rs).length+8+(aH (some x)).length<=378) :
 qM (nI m x) (n+20) (rs++[⟨m.L.next,aH (some x)⟩]) (s9 get x.key (some x))/\(nI m x).L.next=m.L.next+1/\(nI m x).L.au=m.L.au/\(nI m x).L.from_=m.L.from_:=by
 have hm:fU x=true:=by unfold jQ at hx;simp only[Bool.and_eq_true]at hx;exact hx.1
 obtain⟨b1,b2⟩:=lS (o:=some x) fun z e=>by cases e;exact hm
 obtain⟨h1,h2,h3,h4,h5⟩:=h.add ⟨b1,by omega⟩ hn hfit;have hF:nI m x=⟨(iz m (aH (some x))).L,(iz m (aH (some x))).d,Ee m.l x.key m.L.next⟩:=by
  unfold nI;rw[if_pos hx,h3]
 rw[hF];refine⟨⟨h1,h.has.put hm h1.rd,?_⟩,h2,h4,h5⟩;have:=JX m.l x.key m.L.next
 have:=h.ye;show(Ee m.l x.key m.L.next).length<=_;rw[List.length_append,List.length_singleton];omega
theorem qM.drop{m:nT}{n:Nat}{rs:List RecM}{get:ByteArray->Option aB}(h:qM m n rs get){k:ByteArray}(hk:dS k=true)(hn:m.L.next<9999999999)(hfit:(ee rs).length+8+(aH (some (iG k))).length<=378) :
 qM (oe m k) (n+20) (rs++[⟨m.L.next,aH (some (iG k))⟩]) (s9 get k none)/\(oe m k).L.next=m.L.next+1/\(oe m k).L.au=m.L.au/\(oe m k).L.from_=m.L.from_:=by
 obtain⟨b1,b2⟩:=lS (o:=some (iG k)) fun z e=>by cases e;exact zR hk
 obtain⟨h1,h2,h3,h4,h5⟩:=h.add ⟨b1,by omega⟩ hn hfit;have hF:oe m k=⟨(iz m (aH (some (iG k)))).L,(iz m (aH (some (iG k)))).d,l5 m.l k⟩:=by
  unfold oe;rw[h3]
 rw[hF];refine⟨⟨h1,h.has.drop h1.rd,?_⟩,h2,h4,h5⟩;have:=E7 m.l k;have:=h.ye;show(l5 m.l k).length<=_;rw[List.length_append,List.length_singleton];omega
def newF(fr sg:Nat)(d:bw):nT:=⟨⟨fr,sg,[],1,1,true⟩,d,[]⟩
theorem qM.new{fr sg:Nat}{d:bw}{n:Nat}{run:Int}(h3:3<=sg/\sg<=200)(hr:fr+sg*8<=d.n)(hn:d.n<100000)(hc:d.calls<=n)(hd:yy fr sg none run d):qM (newF fr sg d) n [] fun _=>none:=by
 have hl:gW (newF fr sg d).L (newF fr sg d).d n []:=⟨h3,hr,hn,hc,by show(1:Int)<=1/\(1:Int)<10000000000;omega,by show(0:Int)<=1/\(1:Int)<4294967296;omega,fun r hr=>by(cases hr),⟨fun i j _ hj=>absurd hj (Nat.not_lt_zero j),fun i hi=>absurd hi (Nat.not_lt_zero i)⟩,Nat.zero_le _,⟨0,by omega,by omega,rfl⟩,⟨hd.sec,hd.rest⟩⟩
 exact⟨hl,⟨hl.rd,fun e he=>(by cases he),fun k hk=>absurd rfl hk⟩,Nat.le_refl _⟩
end Go.Proofs.YtfjgoonelcaggaaGreat
namespace Go.Proofs
open Go.Shelf
def Tryz.Kb:Go.Shelf.Ren:=⟨fun|190=>227|125=>189|258=>253|128=>224|129=>225|302=>266|303=>267|304=>268|305=>269|306=>270|307=>271|308=>272|309=>273|310=>274|333=>279|329=>240|330=>241|334=>280|335=>281|336=>282|344=>284|n=>n,fun|31=>46|9=>9|3=>3|46=>108|0=>0|51=>299|53=>64|4=>4|183=>316|182=>315|131=>321|5=>5|218=>336|222=>340|228=>354|229=>248|n=>n,fun|n=>n⟩
theorem Tryz.Ow:Go.Proofs.Lays.n190 Tryz.prog Tryz.Kb:={
 mixed:=by kernel_rfl
 f125:=Tryz.func189.trans (congrArg some (by kernel_rfl))
 f128:=Tryz.func224.trans (congrArg some (by kernel_rfl))
 f129:=Tryz.func225.trans (congrArg some (by kernel_rfl))
 f190:=Tryz.func227.trans (congrArg some (by kernel_rfl))
 f258:=Tryz.func253.trans (congrArg some (by kernel_rfl))
 f302:=Tryz.func266.trans (congrArg some (by kernel_rfl))
 f303:=Tryz.func267.trans (congrArg some (by kernel_rfl))
 f304:=Tryz.func268.trans (congrArg some (by kernel_rfl))
 f305:=Tryz.func269.trans (congrArg some (by kernel_rfl))
 f306:=Tryz.func270.trans (congrArg some (by kernel_rfl))
 f307:=Tryz.func271.trans (congrArg some (by kernel_rfl))
 f308:=Tryz.func272.trans (congrArg some (by kernel_rfl))
 f309:=Tryz.func273.trans (congrArg some (by kernel_rfl))
 f310:=Tryz.func274.trans (congrArg some (by kernel_rfl))
 f329:=Tryz.func240.trans (congrArg some (by kernel_rfl))
 f330:=Tryz.func241.trans (congrArg some (by kernel_rfl))
 f333:=Tryz.func279.trans (congrArg some (by kernel_rfl))
 f334:=Tryz.func280.trans (congrArg some (by kernel_rfl))
 f335:=Tryz.func281.trans (congrArg some (by kernel_rfl))
 f336:=Tryz.func282.trans (congrArg some (by kernel_rfl))
 f344:=Tryz.func284.trans (congrArg some (by kernel_rfl))
 t0:=Tryz.underlying0
 a0:=Tryz.isAgg0
 z0:=Tryz.sizeOf0
 v0:=Tryz.zeroValue0
 t3:=Tryz.underlying3
 a3:=Tryz.isAgg3
 z3:=Tryz.sizeOf3
 v3:=Tryz.zeroValue3
 t4:=Tryz.underlying4
 a4:=Tryz.isAgg4
 z4:=Tryz.sizeOf4
 v4:=Tryz.zeroValue4
 t5:=Tryz.underlying5
 a5:=Tryz.isAgg5
 z5:=Tryz.sizeOf5
 v5:=Tryz.zeroValue5
 t9:=Tryz.underlying9
 a9:=Tryz.isAgg9
 z9:=Tryz.sizeOf9
 v9:=Tryz.zeroValue9
 t31:=Tryz.underlying46
 a31:=Tryz.isAgg46
 z31:=Tryz.sizeOf46
 v31:=Tryz.zeroValue46
 t46:=Tryz.underlying108
 a46:=Tryz.isAgg108
 z46:=Tryz.sizeOf108
 v46:=Tryz.zeroValue108
 t51:=Tryz.underlying299
 a51:=Tryz.isAgg299
 z51:=Tryz.sizeOf299
 v51:=Tryz.zeroValue299
 t53:=Tryz.underlying64
 a53:=Tryz.isAgg64
 z53:=Tryz.sizeOf64
 v53:=Tryz.zeroValue64
 t131:=Tryz.underlying321
 a131:=Tryz.isAgg321
 z131:=Tryz.sizeOf321
 v131:=Tryz.zeroValue321
 t182:=Tryz.underlying315
 a182:=Tryz.isAgg315
 z182:=Tryz.sizeOf315
 v182:=Tryz.zeroValue315
 t183:=Tryz.underlying316
 a183:=Tryz.isAgg316
 z183:=Tryz.sizeOf316
 v183:=Tryz.zeroValue316
 t218:=Tryz.underlying336
 a218:=Tryz.isAgg336
 z218:=Tryz.sizeOf336
 v218:=Tryz.zeroValue336
 t222:=Tryz.underlying340
 a222:=Tryz.isAgg340
 z222:=Tryz.sizeOf340
 v222:=Tryz.zeroValue340
 t228:=Tryz.underlying354
 a228:=Tryz.isAgg354
 z228:=Tryz.sizeOf354
 v228:=Tryz.zeroValue354
 t229:=Tryz.underlying248
 a229:=Tryz.isAgg248
 z229:=Tryz.sizeOf248
 v229:=Tryz.zeroValue248 }
open Go.Sort Go.RowKit in
theorem Tryz.slices_Sort_string(blk off cap:Nat)(ss:List (List UInt8))(w:World)(hH:Holds encStr w blk off ss.toArray)(hblk:blk<w.heap.size)(hsz:ss.length<4611686018427387904) :
 Calls Tryz.prog 227 #[.slice (some ⟨blk,off,none⟩) ss.length cap] w fun e w' =>
  e = .returned (.tuple #[])/\∃n os,w'=grow (putRow encStr (Sort.ahead w n) blk off (ss.mergeSort fun x y=>decide (x<=y)).toArray) os:=Any.slices_Sort_string Tryz.Ow blk off cap ss w hH hblk hsz
open Go.RowKit Go.Sort in
theorem Tryz.slices_Sort_string_none(p:Option Addr)(cap:Nat)(w:World) :
 Calls Tryz.prog 227 #[.slice p 0 cap] w fun e w'=>e = .returned (.tuple #[])/\w'=w:=Any.slices_Sort_string_none Tryz.Ow p cap w
end Go.Proofs
namespace Go.Sx
section
open Go.Sort
structure Ox(β:Type) where
 l:List β
 cap:Nat
def oo{β:Type}[Inhabited β](enc:β->Value)(l:List β):Nat->Nat->Value:=af (fun x=>[enc x]) l
def yA{β:Type}[Inhabited β](ty:TypeId)(k:CK)(enc:β->Value)(srt:List β->List β):cD where
 α:=Ox β
 β:=Unit
 m:=1
 m':=1
 pre:=fun a=>a.l.length<100000
 args:=fun a=>[.a (.slc 0 0 1 a.l.length a.cap)]
 hp:=fun a=>[(0,.arr ty [k] a.l.length (oo enc a.l))]
 ro:=fun _=>[]
 post:=fun _ _=>True
 res:=fun _ _=>.l8 []
 cT:=fun a _=>[(0,.arr ty [k] a.l.length (oo enc (srt a.l)))]
theorem AW{β:Type}[Inhabited β]{enc:β->Value}{l:List β}{i:Nat}:oo enc l i 0=enc (gl l i):=rfl
theorem HU{β:Type}[Inhabited β]{k:CK}{enc:β->Value}{ty:TypeId}{l:List β}{ρ:Env}{p:Place}{w:World}(h:(Chunk.arr ty [k] l.length (oo enc l)).Sat ρ p w)(h0:l≠[]) :
 ∃vs ty' fr,w.heap[p.blk]? = some (.cells vs ty' fr)/\p.off+p.N<=vs.size/\l.length<=p.N/\r5 p.off (p.off+p.N) fr/\(∀b,p.fp b↔b=p.blk)/\(∀i,i<l.length->vs[p.off+i]? = some (enc (gl l i))):=by
 rcases h with⟨hn,_⟩ | ⟨vs,ty',fr,hb,h1,h2,h3,h4,h5⟩
 ·exact absurd (List.eq_nil_of_length_eq_zero hn) h0
 ·simp only[List.length_singleton,Nat.mul_one]at h1 h3 h5;refine⟨vs,ty',fr,hb,h1,h2,h3,h4,fun i hi=>?_⟩;obtain⟨g1,_⟩:=h5 i hi 0 k rfl;exact g1
theorem Uf{β γ:Type}[Inhabited β][Inhabited γ]{X:Cx}{f:Nat}{ty:TypeId}{k:CK}{enc:β->Value}{enc2:γ->Value}{to:β->γ}{srt:List β->List β}{srt2:List γ->List γ}
 (hto:∀x,enc2 (to x)=enc x) (hsrt:∀l,(srt l).map to=srt2 (l.map to)) (hlen:∀l,(srt l).length=l.length) (hin:∀l x,x∈srt l->x∈l)
 (hcall:∀(blk off cap:Nat) (l:List γ) (w:World),Holds enc2 w blk off l.toArray->blk<w.heap.size->l.length<4611686018427387904 ->
  Calls X.P f #[.slice (some ⟨blk,off,none⟩) l.length cap] w fun e w'=>e = .returned (.tuple #[])/\∃n os,w'=grow (putRow enc2 (Sort.ahead w n) blk off (srt2 l).toArray) os)
 (hnone:∀(p:Option Addr) (cap:Nat) (w:World),Calls X.P f #[.slice p 0 cap] w fun e w'=>e = .returned (.tuple #[])/\w'=w) :
 lI X (yA ty k enc srt) f:=by
 intro a hpre M ρ w vs hn hh hargs;obtain⟨l,cap⟩:=a;obtain⟨v,vs',rfl,hv,rfl⟩:=hargs;obtain⟨hT,hlc,hcm,hv⟩:=hv;have he:=hh.gH ⟨0,true,.arr ty [k] l.length (oo enc l)⟩ (by simp[vA,yA]);have hsat:=he.ch;simp only at hsat hlc hcm hv hT;by_cases h0:l=[]
 ·subst h0;have hs:srt []=[]:=List.eq_nil_of_length_eq_zero (hlen []);have hcalls:Calls X.P f #[v] w fun e w'=>e = .returned (.tuple #[])/\w'=w:=by
   rcases hv with⟨_,h2,rfl⟩ | ⟨o,rfl,_⟩
   ·exact hnone none 0 w
   ·exact hnone (some _) cap w
  refine hcalls.mono ?_;rintro e w' ⟨rfl,rfl⟩;refine⟨_,rfl,(),ρ,trivial,hn,fun _ _=>rfl,⟨[],rfl,rfl⟩,?_⟩;show ai w' M ρ (vA [(0,.arr ty [k] ([]:List β).length (oo enc (srt [])))]) w';rw[hs];have:(vA ((yA ty k enc srt).hp ⟨[],cap⟩)++D6 ((yA ty k enc srt).ro ⟨[],cap⟩))=vA [(0,.arr ty [k] ([]:List β).length (oo enc []))]:=by simp[yA,D6,vA]
  rw[this]at hh;exact hh
 ·obtain⟨vs0,ty',fr,hb,h1,h2,h3,h4,h5⟩:=HU hsat h0;have hpos:l.length≠0:=fun h=>h0 (List.eq_nil_of_length_eq_zero h);have hlt:(ρ.pl 0).blk<w.heap.size:=he.lt _ ((h4 _).2 rfl);rcases hv with⟨g1,_,_⟩ | ⟨o,rfl,ho⟩
  ·exact absurd g1 hpos
  obtain⟨rfl,_⟩:=ho (by omega);simp only[Nat.add_zero,Nat.mul_one]at *;have hHolds:Holds enc2 w (ρ.pl 0).blk (ρ.pl 0).off (l.map to).toArray:=by
   intro j hj;simp only[List.size_toArray,List.length_map]at hj;refine⟨?_,?_⟩
   ·simp only[World.cell?,hb];rw[h5 j hj,getElem!_pos _ j (by simpa using hj)];simp[hto,bR hj]
   ·simp only[World.frozen?,hb];have:=h3 ((ρ.pl 0).off+j) (by omega) (by omega);obtain⟨lo,hi⟩:=fr;simpa using this
  have hcalls:=hcall (ρ.pl 0).blk (ρ.pl 0).off cap (l.map to) w hHolds hlt (by rw[List.length_map];have:l.length<100000:=hpre;omega);rw[List.length_map]at hcalls;refine hcalls.mono ?_;rintro e w' ⟨rfl,n,os,rfl⟩;refine⟨_,rfl,(),ρ,trivial,hn,fun _ _=>rfl,⟨[],rfl,rfl⟩,?_⟩;have hsz:(srt2 (l.map to)).length=l.length:=by rw[<- hsrt,List.length_map,hlen]
  have hheap:∀b,b<w.heap.size->(grow (putRow enc2 (Sort.ahead w n) (ρ.pl 0).blk (ρ.pl 0).off (srt2 (l.map to)).toArray) os).heap[b]? = (w.heap.modify (ρ.pl 0).blk (onCells (putCells enc2 (ρ.pl 0).off (srt2 (l.map to)).toArray)))[b]?:=by
   intro b hb';rw[heap_grow_old _ _ (by simpa using hb')];rfl
  have hblk:(grow (putRow enc2 (Sort.ahead w n) (ρ.pl 0).blk (ρ.pl 0).off (srt2 (l.map to)).toArray) os).heap[(ρ.pl 0).blk]? = some (.cells (putCells enc2 (ρ.pl 0).off (srt2 (l.map to)).toArray vs0) ty' fr):=by
   rw[hheap _ hlt,Array.getElem?_modify,if_pos rfl,hb];rfl
  have hoth:∀b,b<w.heap.size->b≠(ρ.pl 0).blk->(grow (putRow enc2 (Sort.ahead w n) (ρ.pl 0).blk (ρ.pl 0).off (srt2 (l.map to)).toArray) os).heap[b]? = w.heap[b]?:=by
   intro b hb' hne;rw[hheap b hb',Array.getElem?_modify,if_neg (fun h=>hne h.symm)]
  refine⟨⟨rfl,rfl,rfl,?_,fun b hb' hm=>?_,fun ad had=>?_⟩,?_,?_⟩
  ·simp
  ·exact hoth b hb' fun e=>hm (he.own rfl b ((h4 b).2 e) hb')
  ·rw[frozen?_grow _ _ _ (by simpa using had),frozen?_putRow,frozen?_ahead]
  ·intro e' he';have:e'=⟨0,true,.arr ty [k] l.length (oo enc (srt l))⟩:=by simpa[vA,yA]using he'
   subst this;refine⟨he.tag,?_,fun b hb'=>?_,he.own⟩
   ·refine .inr ⟨_,ty',fr,hblk,?_,h2,?_,h4,fun i hi j k' hj=>?_⟩
    ·simpa[putCells]using h1
    ·simpa using h3
    ·have hj0:j=0:=by
      cases j with
      |zero=>rfl
      |succ j=>simp at hj
     subst hj0;have hk:k'=k:=by simpa using hj.symm
     subst hk;have hi':i<(srt l).length:=by rw[hlen];exact hi
     have hmem:gl (srt l) i∈l:=hin l _ (Gf hi');refine⟨?_,?_⟩
     ·simp only[List.length_singleton,Nat.mul_one,Nat.add_zero,putCells,Array.getElem?_mapIdx,h5 i hi,Option.map_some];rw[if_pos ⟨by omega,by simp;omega⟩,show(ρ.pl 0).off+i-(ρ.pl 0).off=i by omega];rw[getElem!_pos _ i (by simp;omega)];have:(srt2 (l.map to))[i]'(by omega)=to (gl (srt l) i):=by
       simp only[<- hsrt,List.getElem_map,bR hi']
      simp[this,hto,AW]
     ·obtain⟨i0,hi0,e0⟩:=List.getElem_of_mem hmem;rcases hsat with⟨hn0,_⟩ | ⟨vs1,ty1,fr1,hb1,_,_,_,_,h6⟩
      ·omega
      ·obtain⟨_,g2⟩:=h6 i0 hi0 0 k' rfl;rw[AW]at g2 ⊢;rw[<- e0,<- bR hi0];exact g2
   ·have:=he.lt b hb';simp;omega
  ·simp[vA,yA]
end
end Go.Sx
