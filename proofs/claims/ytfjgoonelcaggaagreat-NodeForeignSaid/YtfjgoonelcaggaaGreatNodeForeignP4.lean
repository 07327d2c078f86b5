/-
  
-/
import Derived.Test.YtfjgoonelcaggaaGreatNodeForeignP3
import Derived.Test.YtfjgoonelcaggaaGreatNodeForeignP2
import Derived.Shelf.Sort.Plain
import Derived.Shelf.Slices.In.SortNone
import Derived.Test.YtfjgoonelcaggaaGreatProg
import Derived.Sort.Grow
set_option maxRecDepth 100000
set_option maxHeartbeats 4000000
set_option linter.unusedVariables false
set_option linter.unusedSimpArgs false
namespace Go.Proofs.YtfjgoonelcaggaaGreat
open Go.Sx
def pW(from_ av:Nat)(d:bA):Nat->bQ
 |0=>⟨from_,av,[],1,1,true⟩
 |k+1=>{ pW from_ av d k with l:=(pW from_ av d k).l++(nH (pW from_ av d k) d k).toList,run:=(lp (pW from_ av d k) d k 8).run }
def Hz(l:List dG):Int:=match l.getLast? with
 |none=>1
 |some g=>match g.aP.getLast? with
  |none=>g.base+64
  |some r=>r.pos+65
def cU(from_ av:Nat)(d:bA):bQ:={ pW from_ av d av with next:=Hz (pW from_ av d av).l }
structure rJ(from_ av:Nat)(d:bA):Prop where
 yw:3<=av/\av<=200
 room:from_+av*8<=d.n
 size:d.n<100000
 rd:∀k,k<av->Tn (pW from_ av d k) d k
 one:(pW from_ av d av).l.length<=1
 Bq:∀i,i<(pW from_ av d av).l.length->1<=(gl (pW from_ av d av).l i).gen/\0<=(gl (pW from_ av d av).l i).base/\(gl (pW from_ av d av).l i).base<100000000000 /\
  ∀j,j<(gl (pW from_ av d av).l i).aP.length->0<=(gl (gl (pW from_ av d av).l i).aP j).pos/\(gl (gl (pW from_ av d av).l i).aP j).pos<100000000000
theorem Kf(from_ av:Nat)(d:bA):∀k,(pW from_ av d k).from_=from_/\(pW from_ av d k).av=av/\(pW from_ av d k).next=1/\(pW from_ av d k).fresh=true
 |0=>⟨rfl,rfl,rfl,rfl⟩
 |k+1=>Kf from_ av d k
theorem OC{from_ av:Nat}{d:bA}(h:rJ from_ av d):∀k,k<=av->0<=(pW from_ av d k).run/\(pW from_ av d k).run<200000000000
 |0,_=>⟨by simp[pW],by simp[pW]⟩
 |k+1,hk=>(C6 (h.rd k (by omega)) (OC h k (by omega)) 8 (Nat.le_refl _)).run
structure Jj where
 H:PH
 d:bA
 from_:Nat
 av:Nat
structure Wu where
 k:Nat
 H:PH
 y:iu
noncomputable def HA:cE where
 α:=Jj
 β:=nC
 m:=3
 m':=5
 pre:=fun a=>rJ a.from_ a.av a.d
 args:=fun a=>[.a (.ptr 0 0 0 0),.a (.int .i64 a.from_),.a (.int .i64 a.av)]
 hp:=fun a=>[(2,.cA a.H)]
 ro:=fun a=>gJ 0 1 a.d
 post:=fun a b=>bY b.H b.y (cU a.from_ a.av a.d)/\∀x,a.H x≠none->b.H x=a.H x/\x∉bt b.y
 res:=fun a _=>.mG [.a (.ptr 3 0 0 0),.a (.lit .i64 0)]
 cZ:=fun a b=>[(3,fF 0 (cU a.from_ a.av a.d) b.y.lv),(4,.cA b.H)]
def Yl(a:Jj):An:=.flat 7 Wu (fun s x=>S.cA ((s.at_ (s.tg 8) (fF (s.fu (s.tg 8) 0) (pW a.from_ a.av a.d x.k) x.y.lv)).int 43 x.k) x.H)
 (fun _ x=>x.k<=a.av/\bY x.H x.y (pW a.from_ a.av a.d x.k)/\∀z,a.H z≠none->x.H z=a.H z/\z∉bt x.y) (fun _ x=>a.av-x.k)
def tA(x:Jj)(y:Wu):bQ:=pW x.from_ x.av x.d y.k
def HB(x:Wu)(u:Jj):=bY x.H x.y (tA u x)/\∀z:Nat,pg (u.H z) (x.H z) (bt x.y) z
def MB(x:Jj)(u:PH)(z:Wu)(v w:Nat)(s:Value)(t f:Int)(g:Bool)(h:Prop):=bu x.av/\ag (bE (aH (af x.d.n-af x.av*(8:Int)) (af x.from_)) (bN (aV (ax (bZ (af x.from_) (af x.av) (u=z.H) (ag (CW v (tA x z) w s z.y t f g (bu x.av/\iY x.d x.d h))))))))
def MC(z:Wu)(u:Jj)(v:PH)(x:sr)(w:Value):=aS z.k/\∃y:Wu,br z.k y.k/\MB u v y x.L.from_ x.L.av w x.L.next (lp x.L x.d x.k 8).run x.L.fresh (ey y.k u.av (HB y u) z.k)
def xG(x:nC)(z:Jj):=bY x.H x.y (cU z.from_ z.av z.d)/\∀u:Nat,pg (z.H u) (x.H u) (bt x.y) u
def MD(x:Jj)(z:Wu)(v:wG)(w:Int):=∃u:nC,eC (aD 0) (CW (bQ.from_ (tA x z)) (cU x.from_ x.av x.d) (bQ.av (tA x z)) v.y.lv u.y (w+(64:Int)) (bQ.run (tA x z)) (bQ.fresh (tA x z)) (z.H=u.H/\xG u x/\True))
theorem Qh:fnBody (Y Tryz.prog) [(205,Mv),(206,Mw),(208,vV)] 175 HA fun a=>[(175,[Yl a],[])]:=fnBody.of (p :=
 ∀x:Jj,rJ x.from_ x.av x.d->rA (af x.av) 3 (∃r:nC,False) (iM (aH 200 (af x.av)) (∃r:nC,False) (aH (af x.from_) 0) (ah (af x.av)->ah (af x.av*(8:Int))/\ah (af x.d.n-af x.av*(8:Int))/\aY (af x.d.n-af x.av*(8:Int)) x.from_ (∃B:nC,False) (ah (af x.av)->ah (af x.av)->(∃z:Wu,aF z.k (MB x x.H z x.from_ x.av gn 1 1 true ((z.k<=x.av/\HB z x)/\True)))/\∀z:Wu,z.k<=x.av/\HB z x->aY (af z.k) x.av (∃u:sr,eC (bz z.k u.k) (rC (tA x z) u.L z.y.lv u.lv (z.H=u.H/\iY x.d u.d (Hw u/\∀w:OA,C7 u.H w (nH u.L u.d u.k)->(∃t:Option Go.Addr,w.v=Value.pointer t)/\az (bg (Ju w.v)) (G9 w.H u.lv w.v fun t h j f i=>MC z x (aN (aL w.H u.lv) j f i) u (fc j f (t+1) h)) (MC z x w.H u u.lv))))) (∃u:Ke,z.y.lv=u.v/\C8 u.v u.n/\aI (gA z.y.lv/\aY 0 (di z.y.lv) (xz z.y (fun w=>z.H w) fun w m=>∃t:wG,z.y.lv=t.y.lv/\ax (aT m w=pv t.gb 0/\af x.av=t.s/\z.H=t.H/\xF t/\aI (iD (aT m w) 1 (fun h=>z.H h) fun h j=>ah (jP (aT j h)+(64:Int))/\mW (aT m w) 4 (fun f=>z.H f) fun f i=>aY 0 (di (aT i f)) (Exists (gL (aT m w) 4 (fun l=>z.H l) (fun l=>ew l) fun l c=>ah (eu (di (aT i f)))/\Exists (iT (aT c l) (eu (di (aT i f))) fun e A=>∃p q:Nat,pv e (A+aX (eu (di (aT i f)))*2)=pv p q /\
 Exists (mX p q 0 (fun g=>z.H g) (fun g=>Exists (jw g)) (fun g o=>True) fun g o=>ah (jP (aT o g))->nS (jP (aT o g)+(1:Int)) 64 (MD x z t (jP (aT o g)+(1:Int))))))) (MD x z t (jP (aT j h)))))) (∃w:nC,eC (aD 0) (rC (tA x z) (cU x.from_ x.av x.d) z.y.lv w.y.lv (z.H=w.H/\xG w x/\True))))))))) (by kernel_rfl) (by
 delta az aT bZ gL ah bx b8 aD bE gK cF aH af kJ mX bD aC dV aX bq eC bV aW iM bN gA aI ey gG bB ew CW iD xF gn xz jS MC xG aV aS aF iT ag aY tA pg G9 nS br ax Hw bg iU bu bz mW MD HB rA eu iE MB jw jR
 try dsimp -iota -proj only
 rintro⟨H,d,fr,sg⟩ ok;dsimp only at *;have ok:rJ fr sg d:=ok;obtain⟨s1,s2⟩:=ok.yw;have s3:=ok.room;have s4:=ok.size;refine fun _=>⟨fun c=>by exfalso;have:=of_decide_eq_true c;omega,fun _ _=>⟨fun c=>by exfalso;have:=of_decide_eq_true c;omega,fun _=>⟨fun c=>by exfalso;have:=of_decide_eq_true c;omega,fun _ _=>⟨by simp only[bR];omega,by simp only[bR];omega,fun c=>by exfalso;have:=of_decide_eq_true c;omega,fun _ _ _=>⟨⟨⟨0,H,⟨.slice none 0 0,[]⟩⟩,?_⟩,?_⟩⟩⟩⟩⟩
 ·have h0:bY H ⟨.slice none 0 0,[]⟩ (pW fr sg d 0):=⟨⟨0,.inl ⟨rfl,rfl,rfl⟩⟩,rfl,fun i hi=>absurd hi (Nat.not_lt_zero i),by simp[fN]⟩
  have h1:∀z,H z≠none->H z=H z/\¬z∈bt ⟨.slice none 0 0,[]⟩:=fun z _=>⟨rfl,by simp[bt,fN]⟩
  and_intros<;>first|exact dg|exact h0|exact h1|rfl|exact fun _ _=>⟨trivial,by simp[bt,fN]⟩
 ·rintro⟨k,X,Y⟩ ⟨hk,hX,hfr⟩;dsimp only at *;obtain⟨e1,_,⟨ea,ec,e2⟩,e3,e5⟩:=hX.rD;obtain⟨m1,m2,m3,m4⟩:=Kf fr sg d k;refine⟨fun c1=>?_,fun c1=>?_⟩
  ·have hk':k<sg:=by have:=of_decide_eq_true c1;omega
   have hrd:=ok.rd k hk';obtain⟨hr1,hr2⟩:=OC ok k (by omega);have hstep:pW fr sg d (k+1)={ pW fr sg d k with l:=(pW fr sg d k).l++(nH (pW fr sg d k) d k).toList,run:=(lp (pW fr sg d k) d k 8).run }:=rfl;obtain⟨L,hL⟩:∃L,L=pW fr sg d k:=⟨_,rfl⟩
   rw[<- hL]at hX e1 e2 e3 m1 m2 m3 m4 hrd hr1 hr2 hstep ⊢;refine⟨sr.mk X L Y.lv d k,?_⟩
   and_intros<;>first|exact dg|exact hrd|(dsimp only;omega)|skip
   rintro⟨X1,sl,v⟩ hpost;dsimp only at hpost ⊢;cases hseg:nH L d k with
   |none =>
    rw[hseg]at hpost;obtain⟨hv,hf⟩:=hpost;dsimp only at hv hf;subst hv;have hX1:bY X1 Y (pW fr sg d (k+1)):=(hX.frame fun x hx=>hf x (hX.dom x hx)).congr (by rw[hstep,hseg];simp);have hz:∀z,H z≠none->X1 z=H z/\¬z∈bt Y:=fun z hz=>by
     obtain⟨a1,a2⟩:=hfr z hz;exact⟨(hf z (by rw[a1];exact hz)).trans a1,a2⟩
    refine⟨⟨_,rfl⟩,fun c=>absurd c (by decide),fun _=>⟨by simp only[bR];omega,⟨k+1,X1,Y⟩,?_⟩⟩
    and_intros<;>first|exact dg|exact hX1|exact hz|(rw[hstep];done)|rfl|skip
   |some g =>
    rw[hseg]at hpost;obtain⟨hv,hs,hf⟩:=hpost;dsimp only at hv hs hf;subst hv;have hXf:bY X1 Y L:=hX.frame fun x hx=>(hf x (hX.dom x hx)).1;refine⟨⟨_,rfl⟩,fun _=>?_,fun c=>absurd c (show ¬(true=false)by decide)⟩;obtain⟨c0,hsl⟩:=hXf.Ji;refine⟨_,c0,_,hsl,?_⟩;have hone:L.l.length<=100000:=by
     have:=ok.yw;have:∀j,(pW fr sg d j).l.length<=j:=fun j=>by
      induction j with
      |zero=>exact Nat.le_refl _
      |succ j ih =>
       show((pW fr sg d j).l++(nH (pW fr sg d j) d j).toList).length<=_;rw[List.length_append];have:(nH (pW fr sg d j) d j).toList.length<=1:=by cases nH (pW fr sg d j) d j<;>simp
       omega
     have:=this k;rw[<- hL]at this;omega
    repeat refine lB ?_
    intro cap q1 q2 q3
    repeat refine lB ?_
    intro p1 lo1 cs1 hp1 hl1 hr1;have hpush:=G6 (lo:=lo1) (L':=pW fr sg d (k+1)) hXf hs (fun x hx=>(hf x (hX.dom x hx)).2) hp1 hl1 q1 q2 hr1 (by
     intro i hi;simp only[Nat.zero_add,aZ,zH];rw[kM (by rw[hX.len];exact hi),hX.len];by_cases hin:i<L.l.length
     ·rw[if_pos hin,if_pos hin]
     ·rw[if_neg hin,if_neg hin,show i-L.l.length=0 by omega];rfl) (by rw[hstep,hseg];rfl)
    have hz:∀z,H z≠none->aN (aL X1 Y.lv) p1 lo1 cs1 z=H z/\¬z∈bt ⟨fc p1 lo1 (L.l.length+1) cap,Y.ys++[sl]⟩:=fun z hz=>by
     obtain⟨a1,a2⟩:=hfr z hz;obtain⟨b1,b2⟩:=hf z (by rw[a1];exact hz);obtain⟨c1,c2⟩:=hpush.2 z (by rw[b1,a1];exact hz) a2 b2;exact⟨c1.trans (b1.trans a1),c2⟩
    refine⟨by simp only[bR];omega,⟨k+1,aN (aL X1 Y.lv) p1 lo1 cs1,⟨fc p1 lo1 (L.l.length+1) cap,Y.ys++[sl]⟩⟩,?_⟩
    and_intros<;>first|exact dg|exact hpush.1|exact hz|(rw[hstep];done)|rfl|skip
  ·have hk':k=sg:=by have:=of_decide_eq_false c1;omega
   subst hk';have hone:=ok.one;have hrng:=ok.Bq;have hM:(cU fr k d).l=(pW fr k d k).l:=rfl;have hM2:(cU fr k d).next=Hz (pW fr k d k).l:=rfl
   have hM3:(cU fr k d).from_=fr/\(cU fr k d).av=k/\(cU fr k d).run=(pW fr k d k).run/\(cU fr k d).fresh=true:=⟨m1,m2,rfl,m4⟩
   obtain⟨L,hL⟩:∃L,L=pW fr k d k:=⟨_,rfl⟩
   rw[<- hL]at hX e1 e2 e3 m1 m2 m3 m4 hone hrng hM hM2 hM3 ⊢;obtain⟨M,hMM⟩:∃M,M=cU fr k d:=⟨_,rfl⟩
   rw[<- hMM]at hM hM2 hM3 ⊢;obtain⟨n1,n2,n3,n4⟩:=hM3;have hXM:bY X Y M:=hX.congr hM;refine⟨Ke.mk Y.lv L.l.length,rfl,⟨hone,⟨ea,ec,e2⟩,e5⟩,fun _ _=>⟨⟨ea,_,ec,e2,e3⟩,fun c2=>?_,fun c2=>⟨⟨X,Y⟩,?_⟩⟩⟩
   ·rw[e1]at c2;have hn:0<L.l.length:=by have:=of_decide_eq_true c2;omega
    have hk1:L.l.length-1<L.l.length:=by omega
    obtain⟨b,lo,o,c,cs,g1,g2,g3,g4⟩:=hX.at_ hk1;have hs:=hX.seg _ hk1;obtain⟨r1,r2,r3⟩:=hs.Bq;obtain⟨u1,u2,u3,u4⟩:=hrng _ hk1;have hlast:L.l.getLast? = some (gl L.l (L.l.length-1)):=by rw[bT hk1,List.getLast?_eq_getElem?,List.getElem?_eq_getElem hk1]
    have hall:∀i,i<L.l.length->(gl L.l (L.l.length-1)).gen-(k:Int)<(gl L.l i).gen:=fun i hi=>by
     have:i=L.l.length-1:=by omega
     rw[this];omega
    obtain⟨sl,hsl⟩:∃sl,sl=gl Y.ys (L.l.length-1):=⟨_,rfl⟩
    obtain⟨g,hg⟩:∃g,g=gl L.l (L.l.length-1):=⟨_,rfl⟩
    rw[<- hg]at hs r1 r2 r3 u1 u2 u3 u4 hlast hall;rw[<- hsl]at g3 g4 hs;have e6:((L.l.length:Int)-1).toNat=L.l.length-1:=by omega
    rw[e1];refine⟨by simp only[bR];omega,_,_,_,_,g1,by omega,b,lo,o+(L.l.length-1)*1,cs,by rw[e6,Nat.add_assoc],g2,⟨⟨_,g3,rfl⟩,trivial⟩,wG.mk X Y L sl.b g.gen k,?_⟩
    and_intros<;>first|exact dg|exact g4|exact hX|exact r1.1|exact r1.2|exact hall|exact⟨_,hs.cell⟩|(dsimp only;omega)|skip
    intro _ _;obtain⟨c9,hrec⟩:=hs.aP;obtain⟨w1,w2,w3,w4,w5,⟨wa,w7⟩,w6⟩:=fh hrec;refine⟨_,_,g4,?_⟩;refine⟨_,_,rfl,?_⟩;refine⟨_,0,_,_,rfl,hs.cell,?_⟩;refine⟨⟨⟨_,rfl,_,rfl,r2⟩,trivial⟩,fun _=>?_⟩;simp only[show jP ((de g sl.bv sl.rv).getD 1 (Value.tuple #[]))=g.base from rfl];refine⟨by simp only[bR];omega,_,_,g4,?_⟩;refine⟨_,_,rfl,?_⟩;refine⟨_,0,_,_,rfl,hs.cell,?_⟩;refine⟨⟨⟨_,rfl,w6⟩,trivial⟩,⟨wa,_,_,w7,by omega⟩,?_⟩;simp only[show(de g sl.bv sl.rv).getD 4 (Value.tuple #[])=sl.rv from rfl,w1];refine⟨fun c3=>?_,fun c3=>⟨⟨X,Y⟩,?_⟩⟩
    ·have hq:0<g.aP.length:=by have:=of_decide_eq_true c3;omega
     have hq1:g.aP.length-1<g.aP.length:=by omega
     have hrl:g.aP.getLast? = some (gl g.aP (g.aP.length-1)):=by rw[bT hq1,List.getLast?_eq_getElem?,List.getElem?_eq_getElem hq1]
     have hnx:M.next=(gl g.aP (g.aP.length-1)).pos+65:=by rw[hM2];simp only[Hz,hlast,hrl]
     obtain⟨b',lo',o',cs',q1,q2,q3,q4,q5,q6,q7,q8⟩:=u0 hrec (k:=g.aP.length-1) hq1;obtain⟨p1,p2⟩:=u4 _ hq1;have e7:((g.aP.length:Int)-1).toNat=g.aP.length-1:=by omega
     refine⟨_,_,g4,?_⟩;refine⟨_,_,rfl,?_⟩;refine⟨_,0,_,_,rfl,hs.cell,?_⟩;refine⟨⟨⟨_,rfl,w6⟩,trivial⟩,by simp only[bR,aq]at *;omega,?_⟩;simp only[show(de g sl.bv sl.rv).getD 4 (Value.tuple #[])=sl.rv from rfl];refine⟨_,_,_,_,q1,by omega,_,_,rfl,b',lo',o'+(g.aP.length-1)*2,cs',by rw[e7];congr 1;omega,q2,⟨⟨_,q3,_,rfl,q6⟩,trivial⟩,fun _=>?_⟩;rw[q7];simp only[jP];refine⟨by simp only[bR];omega,by simp only[bR];omega,⟨X,Y⟩,?_⟩
     and_intros<;>first|exact dg|exact hXM|exact hfr|(rw[n3];done)|(rw[n4,m4];done)|(dsimp only;omega)|skip
    ·have hq:g.aP.length=0:=by have:=of_decide_eq_false c3;omega
     have hrl:g.aP.getLast? = none:=by rw[List.eq_nil_of_length_eq_zero hq];rfl
     have hnx:M.next=g.base+64:=by rw[hM2];simp only[Hz,hlast,hrl]
     and_intros<;>first|exact dg|exact hXM|exact hfr|(rw[n3];done)|(rw[n4,m4];done)|(dsimp only;omega)|skip
   ·rw[e1]at c2;have hn:L.l=[]:=List.eq_nil_of_length_eq_zero (by have:=of_decide_eq_false c2;omega);have hnx:M.next=1:=by rw[hM2,hn];rfl
    and_intros<;>first|exact dg|exact hXM|exact hfr|(rw[n3];done)|(rw[n4,m4];done)|(rw[hnx,m3];done)|(dsimp only;omega)|skip)
theorem Fh:au (Y Tryz.prog).G.X 175 HA:=aU fL Qh ⟨Qe,Qg,MA,trivial⟩
structure A4(H:PH)(v:Value)(vs:List Value)(rs:List RecM):Prop where
 rows:∃c,kr H v si rs.length c (uT rs vs)
 len:vs.length=rs.length
 body:∀i,i<rs.length->fJ H (vs.getD i undef) (gl rs i).body
 sep:∀x∈fN v,x∉vs.flatMap fN
theorem Ym{vs:List Value}{i x:Nat}(hi:i<vs.length)(hx:x∈fN (vs.getD i undef)):x∈vs.flatMap fN:=by
 refine List.mem_flatMap.2 ⟨_,?_,hx⟩;rw[List.getD_eq_getElem?_getD,List.getElem?_eq_getElem hi];exact List.getElem_mem _
theorem A4.dom{H:PH}{v:Value}{vs:List Value}{rs:List RecM}(h:A4 H v vs rs):∀x,x∈fN v\/x∈vs.flatMap fN->H x≠none:=by
 rintro x (hx|hx)
 ·obtain⟨c,hr⟩:=h.rows;exact mV hr x hx
 ·obtain⟨u,hu,hx⟩:=List.mem_flatMap.1 hx;obtain⟨i,hi,rfl⟩:=List.getElem_of_mem hu;obtain⟨c,hb⟩:=h.body i (by rw[<- h.len];exact hi);rw[List.getD_eq_getElem?_getD,List.getElem?_eq_getElem hi]at hb;exact mV hb x hx
theorem A4.push{H:PH}{v:Value}{vs:List Value}{rs:List RecM}{r:RecM}{p3 lo3 p4 lo4 cap3 cap4 n:Nat}{cs3 cs4:List Value}(h:A4 H v vs rs)(hn:n=r.body.length)(hp3:H p3=none)
 (hb:fJ (aN H p3 lo3 cs3) (fc p3 lo3 n cap3) r.body) (hp4:aL (aN H p3 lo3 cs3) v p4=none)
 (hr:kr (aN (aL (aN H p3 lo3 cs3) v) p4 lo4 cs4) (fc p4 lo4 (rs.length+1) cap4) si (rs.length+1) cap4 (uT (rs++[r]) (vs++[fc p3 lo3 n cap3]))) :
 A4 (aN (aL (aN H p3 lo3 cs3) v) p4 lo4 cs4) (fc p4 lo4 (rs.length+1) cap4) (vs++[fc p3 lo3 n cap3]) (rs++[r]) /\
 ∀z,H z≠none->z∉fN v->z∉vs.flatMap fN->aN (aL (aN H p3 lo3 cs3) v) p4 lo4 cs4 z=H z/\z∉fN (fc p4 lo4 (rs.length+1) cap4)/\z∉(vs++[fc p3 lo3 n cap3]).flatMap fN:=by
 have hd:=h.dom;have h3:∀z,H z≠none->z≠p3:=fun z hz e=>hz (by rw[e];exact hp3);have h3v:p3∉fN v:=fun e=>hd p3 (.inl e) hp3;have h34:p4≠p3:=fun e=>by rw[e,kL h3v,dN]at hp4;cases hp4
 have hz4:∀z,H z≠none->z∉fN v->z≠p4:=fun z hz hv e=>by
  rw[<- e,kL hv,cK (h3 z hz)]at hp4;exact hz hp4
 have same:∀z,H z≠none->z∉fN v->aN (aL (aN H p3 lo3 cs3) v) p4 lo4 cs4 z=H z:=fun z hz hv=>by
  rw[cK (hz4 z hz hv),kL hv,cK (h3 z hz)]
 have hvs:∀z∈vs.flatMap fN,z∉fN v:=fun z hz e=>h.sep z e hz;refine⟨⟨⟨cap4,by simpa using hr⟩,by simp[h.len],fun i hi=>?_,fun x hx=>?_⟩,fun z hz hv hs=>⟨same z hz hv,?_,?_⟩⟩
 ·rw[List.length_append,List.length_singleton]at hi;rw[kM hi];by_cases hin:i<rs.length
  ·rw[if_pos hin,List.getD_eq_getElem?_getD,List.getElem?_append_left (by rw[h.len];exact hin),<- List.getD_eq_getElem?_getD];refine(h.body i hin).frame fun x hx=>?_;have hm:=Ym (by rw[h.len];exact hin) hx;exact same x (hd x (.inr hm)) (hvs x hm)
  ·rw[if_neg hin];have e1:(vs++[fc p3 lo3 n cap3]).getD i undef=fc p3 lo3 n cap3:=by
    rw[List.getD_eq_getElem?_getD,List.getElem?_append_right (by rw[h.len];omega),show i-vs.length=0 by rw[h.len];omega];rfl
   rw[e1];refine hb.frame fun x hx=>?_;simp only[fN,fc,List.mem_singleton]at hx;rw[hx,cK h34.symm,kL h3v]
 ·simp only[fN,fc,List.mem_singleton]at hx;subst hx;simp only[List.flatMap_append,List.mem_append,not_or];refine⟨fun e=>?_,by simpa[fN,fc]using h34⟩;exact hz4 x (hd x (.inr e)) (hvs x e) rfl
 ·simp only[fN,fc,List.mem_singleton];exact hz4 z hz hv
 ·simp only[List.flatMap_append,List.mem_append,not_or];exact⟨hs,by simpa[fN,fc]using h3 z hz⟩
def gh(l:List dG):List RecM:=l.flatMap (·.aP)
def nU(l:List dG)(i j:Nat):List RecM:=gh (l.take i)++(gl l i).aP.take j
theorem Qi{l:List dG}{i j:Nat}(hj:j<(gl l i).aP.length):nU l i (j+1)=nU l i j++[gl (gl l i).aP j]:=by
 unfold nU;rw[p6 hj,List.append_assoc]
theorem Qj{l:List dG}{i j:Nat}(hi:i<l.length)(hj:(gl l i).aP.length<=j):nU l i j=gh (l.take (i+1)):=by
 unfold nU gh;rw[flatMap_push hi,List.take_of_length_le hj]
structure tW where
 H:PH
 y:iu
 L:bQ
structure wH where
 H:PH
 v:Value
 vs:List Value
structure sw where
 i:Nat
 j:Nat
 H:PH
 v:Value
 vs:List Value
noncomputable def OD:cE where
 α:=tW
 β:=wH
 m:=3
 m':=4
 pre:=fun a=>bY a.H a.y a.L/\a.L.l.length<1000/\∀i,i<a.L.l.length->(gl a.L.l i).aP.length<=400/\∀k,k<(gl a.L.l i).aP.length->1<=(gl (gl a.L.l i).aP k).body.length/\(gl (gl a.L.l i).aP k).body.length<=1000
 args:=fun a=>[.a (.ptr 0 0 0 0)]
 hp:=fun a=>[(1,.cA a.H)]
 ro:=fun a=>[(0,fF 2 a.L a.y.lv)]
 post:=fun a b=>A4 b.H b.v b.vs (gh a.L.l)/\∀z,a.H z≠none->b.H z=a.H z/\z∉fN b.v/\z∉b.vs.flatMap fN
 res:=fun _ b=>.a (.val b.v)
 cZ:=fun _ b=>[(3,.cA b.H)]
structure Bv(a:tW)(x:sw)(rs:List RecM):Prop where
 out:A4 x.H x.v x.vs rs
 fr:∀z,a.H z≠none->x.H z=a.H z/\z∉fN x.v/\z∉x.vs.flatMap fN
def Yn(a:tW)(i:Nat):An:=.flat 8 sw (fun s x=>S.cA ((s.set 3 (.a (.val x.v))).int 24 x.j) x.H) (fun _ x=>x.j<=(gl a.L.l i).aP.length/\Bv a x (nU a.L.l i x.j)) (fun _ x=>(gl a.L.l i).aP.length-x.j)
def ZD(a:tW):An:=.mk 5 sw (fun s x=>S.cA ((s.set 3 (.a (.val x.v))).int 15 x.i) x.H) (fun _ x=>x.i<=a.L.l.length/\Bv a x (gh (a.L.l.take x.i))) (fun _ x=>a.L.l.length-x.i) fun x=>.mk 60 [Yn a x.i] []
noncomputable def zQ(x:wH)(z:tW):=A4 x.H x.v x.vs (gh z.L.l)/\∀y:Nat,z.H y≠none->x.H y=z.H y/\¬y∈fN x.v/\¬y∈List.flatMap fN x.vs
def zR(x:tW):=bY x.H x.y x.L/\bB x.L<1000/\∀z:Nat,z<bB x.L->xD x.L z
def ME(u:sw)(x:tW)(s:PH)(w:sw)(t f:Nat)(g:List Value)(z:sw):=o4 u.i (di x.y.lv) (cS x.y.lv) (bN (eC (aN (aL s w.v) t f g=z.H) (fH x.L x.y (ey z.j (pe x.L u.i) (Bv x z (nU x.L.l u.i z.j)) w.j))))
theorem Tz:fnBody (Y Tryz.prog) [] 176 OD fun a=>[(176,[ZD a],[])]:=fnBody.of (p :=
 ∀x:tW,zR x->gA x.y.lv/\(∃z:sw,aF z.i (gn=z.v/\jx x.y.lv (bN (eC (x.H=z.H) (fH x.L x.y ((z.i<=bB x.L/\Bv x z (gh (List.take z.i x.L.l)))/\True))))))/\∀z:sw,z.i<=bB x.L/\Bv x z (gh (List.take z.i x.L.l))->qv z.i x.y.lv 1 (fun w=>z.H w) (fun w=>ew w) (fun w g=>True) (fun w g=>mW (aT g w) 4 (fun t=>z.H t) fun t k=>(∃u:sw,aF u.j (z.v=u.v/\jx (aT k t) (cS (aT g w)/\o4 z.i (di x.y.lv) (cS x.y.lv) (bN (eC (z.H=u.H) (fH x.L x.y ((u.j<=pe x.L z.i/\Bv x u (nU x.L.l z.i u.j))/\True)))))))/\∀u:sw,u.j<=pe x.L z.i/\Bv x u (nU x.L.l z.i u.j)->u5 u.j (aT k t) (fun s=>u.H s) (fun s o=>ah (jP (aT o s))->Hr (aT o (s+1)) u.H u.v (jP (aT o s)) (fun h p m n q=>aS u.j/\∃f:sw,br u.j f.j/\fc m n (h+1) p=f.v/\jx (aT k t) (cS (aT g w)/\ME z x u.H u m n q f)) (fun h=>u.H h) fun h p m n q f c d=>aS u.j/\∃r:sw,br u.j r.j/\fc f c (n+1) q=r.v/\jx (aT k t) (cS (aT g w)/\ME z x (aN u.H h p m) u f c d r)) (aS z.i/\∃s:sw,br z.i s.i/\u.v=s.v/\jx x.y.lv (bN (eC (u.H=s.H) (fH x.L x.y (ey s.i (bB x.L) (Bv x s (gh (List.take s.i x.L.l))) z.i)))))) (∃w:wH,z.v=w.v/\z.H=w.H/\zQ w x/\True)) (by kernel_rfl) (by
 delta az aT ai bZ gL ah bx aA aD bE gK cF aH af kJ mX bD aC dV aX bq eC bV cS aW A0 bN gA qv ey bB ew fH Hr xD gn jS aS jx o4 uZ aF iT ag aY zQ CY u5 br gW iU zR bu mW ME pe jw C2
 try dsimp -iota -proj only
 rintro⟨H,y,L⟩ ⟨hl,h1,h2⟩;dsimp only at *;obtain⟨e1,_,⟨ea,ec,e2⟩,e3,_⟩:=hl.rD;refine⟨⟨ea,_,ec,e2,e3⟩,⟨⟨0,0,H,.slice none 0 0,[]⟩,?_⟩,fun x hx=>?_⟩
 ·have h0:Bv ⟨H,y,L⟩ ⟨0,0,H,.slice none 0 0,[]⟩ (gh (L.l.take 0)):=⟨⟨⟨0,.inl ⟨rfl,rfl,rfl⟩⟩,rfl,fun i hi=>absurd hi (Nat.not_lt_zero i),fun x hx=>by cases hx⟩,fun z _=>⟨rfl,by simp[fN],by simp⟩⟩
  and_intros<;>first|exact dg|exact h0
 ·obtain⟨i,j0,X,v,vs⟩:=x;obtain⟨hi,hI⟩:=hx;dsimp only at hi hI ⊢;rw[e1];refine⟨fun c1=>?_,fun c1=>?_⟩
  ·have hi':i<L.l.length:=by have:=of_decide_eq_true c1;omega
   have hX:bY X y L:=hl.frame fun x hx=>(hI.fr x (hl.dom x hx)).1;obtain⟨b,lo,o,c,cs,g1,g2,g3,g4⟩:=hX.at_ hi';have hs:=hX.seg i hi';obtain⟨c9,hrec⟩:=hs.aP;obtain⟨m1,m2,m3,m4,m5,⟨ma,m7⟩,m6⟩:=fh hrec;obtain⟨hrl,hbl⟩:=h2 i hi';refine⟨_,_,_,_,g1,by omega,b,lo,o+i*1,cs,by rw[Int.toNat_natCast,Nat.add_assoc],g2,⟨⟨_,g3,rfl⟩,trivial⟩,?_⟩;refine⟨_,_,g4,?_⟩;refine⟨_,_,rfl,?_⟩;refine⟨_,0,_,_,rfl,hs.cell,?_⟩;refine⟨⟨⟨_,rfl,m6⟩,trivial⟩,⟨ma,_,_,m7,by omega⟩,?_⟩;simp only[show(de (gl L.l i) (gl y.ys i).bv (gl y.ys i).rv).getD 4 (Value.tuple #[])=(gl y.ys i).rv from rfl,m1];refine⟨⟨⟨i,0,X,v,vs⟩,?_⟩,fun x2 hx2=>?_⟩
   ·have h0:Bv ⟨H,y,L⟩ ⟨i,0,X,v,vs⟩ (nU L.l i 0):=by
     have:nU L.l i 0=gh (L.l.take i):=by simp[nU]
     rw[this];exact⟨hI.out,hI.fr⟩
    and_intros<;>first|exact dg|exact h0
   ·obtain⟨i2,j,X,v,vs⟩:=x2;obtain⟨hj,hJ⟩:=hx2;dsimp only at hj hJ ⊢;have hX:bY X y L:=hl.frame fun x hx=>(hJ.fr x (hl.dom x hx)).1;have hs:=hX.seg i hi';obtain⟨c9,hrec⟩:=hs.aP;have hlen:(nU L.l i j).length<=400400:=by
     have a1:=kZ (l:=L.l) (f:=fun g:dG=>g.aP) (m:=400) (fun q hq=>(h2 q hq).1) i (by omega);unfold nU gh;rw[List.length_append,List.length_take];omega
    refine⟨fun c2=>?_,fun c2=>⟨by simp only[bR];omega,⟨i+1,0,X,v,vs⟩,?_⟩⟩
    ·have hj':j<(gl L.l i).aP.length:=by have:=of_decide_eq_true c2;omega
     obtain⟨b',lo',o',cs',q1,q2,q3,q4,q5,q6,q7,q8⟩:=u0 hrec (k:=j) hj';obtain⟨cb,hbody⟩:=hs.body j hj';obtain⟨w1,w2,w3,w4,w5,⟨wa,w7⟩,w6⟩:=fh hbody;obtain⟨hb1,hb2⟩:=hbl j hj';have hnil:Er ((gl y.ys i).vs.getD j undef)=false:=by
      rcases hbody with⟨_,h0,_⟩ | ⟨b9,lo9,o9,cs9,h9,_⟩
      ·omega
      ·rw[h9];rfl
     refine⟨_,_,_,_,q1,by omega,b',lo',o'+j*2,cs',by rw[Int.toNat_natCast];congr 1;omega,q2,⟨⟨_,q3,_,rfl,q6⟩,⟨_,q4,q5⟩,trivial⟩,fun _=>?_⟩;rw[q7,q8];refine⟨⟨wa,_,_,w7⟩,fun c4=>absurd c4 (by rw[hnil];decide),fun _=>?_⟩
     repeat refine lB ?_
     refine⟨_,cb,_,hbody,?_⟩;simp only[Nat.zero_add]
     repeat refine lB ?_
     intro cap3 u1 u2 u3
     repeat refine lB ?_
     intro p3 lo3 cs3 hp3 hl3 hr3;obtain⟨r,hr⟩:∃r,r=gl (gl L.l i).aP j:=⟨_,rfl⟩
     rw[<- hr]at hbody hb1 hb2 hr3 u1 u3 ⊢;have hCb:fJ (aN X p3 lo3 cs3) (fc p3 lo3 r.body.length cap3) r.body:=by
      refine⟨cap3,mZ hl3 u1 u2 hr3 fun q hq j hj=>?_⟩;have hj0:j=0:=by simpa using hj
      subst hj0;simp only[aZ,Nat.not_lt_zero,if_false,Nat.sub_zero]
     obtain⟨c8,hout⟩:=hJ.out.rows;have hx3:∀x,X x≠none->x≠p3:=fun x hx e=>hx (by rw[e];exact hp3);have hout4:kr (aN X p3 lo3 cs3) v si (nU L.l i j).length c8 (uT (nU L.l i j) vs):=iS hout fun x hx=>cK (hx3 x (mV hout x hx));refine⟨_,c8,_,hout4,?_⟩
     repeat refine lB ?_
     intro cap4 v1 v2 v3
     repeat refine lB ?_
     intro p4 lo4 cs4 hp4 hl4 hr4;have hvl:vs.length=(nU L.l i j).length:=hJ.out.len;have hr5:kr (aN (aL (aN X p3 lo3 cs3) v) p4 lo4 cs4) (fc p4 lo4 ((nU L.l i j).length+1) cap4) si ((nU L.l i j).length+1) cap4 (uT (nU L.l i j++[r]) (vs++[fc p3 lo3 r.body.length cap3])):=by
      refine mZ hl4 v1 v2 hr4 fun q hq j' hj2=>?_;simp only[aZ,uT,Nat.zero_add];by_cases hin:q<(nU L.l i j).length
      ·rw[if_pos hin,bO hin];by_cases hj0:j'=0
       ·rw[if_pos hj0,if_pos hj0]
       ·rw[if_neg hj0,if_neg hj0,List.getD_eq_getElem?_getD,List.getD_eq_getElem?_getD,List.getElem?_append_left (by omega)]
      ·rw[if_neg hin];obtain rfl:q=(nU L.l i j).length:=by omega
       rw[Nat.sub_self];have hj2:j'<2:=hj2
       match j',hj2 with
       |0,_=>rw[if_pos rfl,show(nU L.l i j).length=(nU L.l i j).length+0 from rfl,bf];rfl
       |1,_=>rw[if_neg (by decide),List.getD_eq_getElem?_getD,List.getElem?_append_right (by omega),hvl,Nat.sub_self];rfl
     obtain⟨hO,hF⟩:=hJ.out.push (r:=r) rfl hp3 hCb hp4 hr5;have hN:Bv ⟨H,y,L⟩ ⟨i,j+1,aN (aL (aN X p3 lo3 cs3) v) p4 lo4 cs4,fc p4 lo4 ((nU L.l i j).length+1) cap4,vs++[fc p3 lo3 r.body.length cap3]⟩ (nU L.l i (j+1)):=by
      refine⟨by rw[Qi hj',<- hr];exact hO,fun z hz=>?_⟩;obtain⟨a1,a2,a3⟩:=hJ.fr z hz;obtain⟨b1,b2,b3⟩:=hF z (by rw[a1];exact hz) a2 a3;exact⟨b1.trans a1,b2,b3⟩
     refine⟨by simp only[bR];omega,⟨i,j+1,aN (aL (aN X p3 lo3 cs3) v) p4 lo4 cs4,fc p4 lo4 ((nU L.l i j).length+1) cap4,vs++[fc p3 lo3 r.body.length cap3]⟩,?_⟩
     and_intros<;>first|exact dg|exact hN
    ·have hj':¬j<(gl L.l i).aP.length:=by have:=of_decide_eq_false c2;omega
     have hN:Bv ⟨H,y,L⟩ ⟨i+1,0,X,v,vs⟩ (gh (L.l.take (i+1))):=by
      rw[<- Qj hi' (Nat.le_of_not_lt hj')];exact⟨hJ.out,hJ.fr⟩
     and_intros<;>first|exact dg|exact hN
  ·have hi':i=L.l.length:=by have:=of_decide_eq_false c1;omega
   subst hi';rw[List.take_length]at hI;refine⟨⟨X,v,vs⟩,?_⟩
   and_intros<;>first|exact dg|exact hI.out|exact hI.fr|rfl)
theorem Kg:au (Y Tryz.prog).G.X 176 OD:=aU fL Tz trivial
end Go.Proofs.YtfjgoonelcaggaaGreat
namespace Go.Proofs.YtfjgoonelcaggaaGreat.Ix
open Go.Sx
def OE(a b:Int):Int:=dI .xor .u64 a b
def RB(a:Int):Int:=uw .u64 a
def TA(x:Int):Int:=RB (OE x (x/1073741824)*13787848793156543929)
def TB(x:Int):Int:=RB (OE x (x/134217728)*10723151780598845931)
def TC(x:Int):Int:=OE x (x/2147483648)
def qA(x:Int):Int:=TC (TB (TA x))
noncomputable def A5:cE where
 α:=Int
 β:=Unit
 m:=0
 m':=0
 pre:=fun _=>True
 args:=fun a=>[.a (.int .u64 a)]
 hp:=fun _=>[]
 ro:=fun _=>[]
 post:=fun _ _=>True
 res:=fun a _=>.a (.int .u64 (qA a))
 cZ:=fun _ _=>[]
def _root_.TD(x y z u:Int):Int:=mR (cM (mR x (x/y)*z)) (cM (mR x (x/y)*z)/u)
def _root_.HC(x y:Int):=True->(0:Int)<=30/\(0:Int)<=27/\(0:Int)<=31/\Exists (bI (TD (cM (mR x (x/(1073741824:Int))*(13787848793156543929:Int))) 134217728 10723151780598845931 2147483648=y))
theorem C9:fnBody (Y Tryz.prog) [] 120 A5 fun _=>[]:=fnBody.of (p :=
 ∀x:Int,HC x (Ix.qA x)) (by kernel_rfl) (by
 delta TD bI cM ay mR HC bl
 intro a _;exact⟨by decide,by decide,by decide,(),rfl,trivial,trivial⟩)
theorem yB:au (Y Tryz.prog).G.X 120 A5:=aU fL C9 trivial
def mq(h:Int)(b:ByteArray):Nat->Int
 |0=>h
 |i+1=>RB (qA (OE (mq h b i) ((b.data.getD i 0).toNat:Int))+1)
def TE(h:Int)(b:ByteArray):Int:=qA (OE (mq h b b.size) (RB (256+RB b.size)))
def fO(g:Nat->ByteArray):Nat->Int
 |0=>11400714819323198485
 |i+1=>TE (fO g i) (g i)
structure Qk where
 g:Nat->ByteArray
 n:Nat
 cap:Nat
noncomputable def vc:cE where
 α:=Qk
 β:=Unit
 m:=1
 m':=1
 pre:=fun a=>a.n<100000/\∀i,i<a.n->(a.g i).size<=aq
 args:=fun a=>[.a (.slc 0 0 1 a.n a.cap)]
 hp:=fun _=>[]
 ro:=fun a=>[(0,.arr 9 [.str] a.n (fun i _=>.string (a.g i)))]
 post:=fun _ _=>True
 res:=fun a _=>.a (.int .u64 (fO a.g a.n))
 cZ:=fun _ _=>[]
def Yo(a:Qk)(i:Nat):An:=.flat 6 Nat (fun s j=>(s.int 15 j).set 3 (.a (.int .u64 (mq (fO a.g i) (a.g i) j)))) (fun _ j=>j<=(a.g i).size) (fun _ j=>(a.g i).size-j)
def Yp(a:Qk):An:=.mk 3 Nat (fun s i=>(s.int 9 i).set 3 (.a (.int .u64 (fO a.g i)))) (fun _ i=>i<=a.n) (fun _ i=>a.n-i) (fun i=>.mk 60 [Yo a i] [])
def _root_.dY(x y:Nat)(z:Prop):=bu x/\bG x y/\z
def _root_.zS(y:ByteArray)(u x z:Nat)(v:Nat->ByteArray)(w:Prop):=bu (bh y)/\y=y/\o4 u x (bG x z) (aV (bG x z/\(dU x 1 fun s t=>bL (v s))/\w))
def _root_.zT(x y:Nat)(z:Nat->ByteArray)(u:Prop):=dY x y (aV (bG x y/\(dU x 1 fun v w=>bL (z v))/\u))
theorem zU:fnBody (Y Tryz.prog) [(120,A5)] 66 vc fun a=>[(66,[Yp a],[])]:=fnBody.of (p :=
 ∀x:Ix.Qk,(x.n<100000/\∀s:Nat,s<x.n->bh (x.g s)<=aq)->(∃y:Nat,(11400714819323198485:Int)=Ix.fO x.g y/\aF y (zT x.n x.cap (fun z=>x.g z) (y<=x.n/\True)))/\∀y:Nat,ga y x.n ((∃z:Nat,Ix.fO x.g y=Ix.mq (Ix.fO x.g y) (x.g y) z/\aF z (zS (x.g (0+aA y)) y x.n x.cap (fun t=>x.g t) (z<=bh (x.g y)/\True)))/\∀z:Nat,z<=bh (x.g y)->mO (af z) (bh (x.g (0+aA y))) (∃v:Int,mR (Ix.mq (Ix.fO x.g y) (x.g y) z) (af ((x.g (0+aA y)).data.getD (aA z) (0:UInt8)).toNat)=v/\cQ (aS z/\∃u:Nat,cM (Ix.qA v+(1:Int))=Ix.mq (Ix.fO x.g y) (x.g y) u/\br z u/\zS (x.g (0+aA y)) y x.n x.cap (fun w=>x.g w) (bU u (bh (x.g y)) z))) (∃v:Int,mR (Ix.mq (Ix.fO x.g y) (x.g y) z) (cM ((256:Int)+cM (af (bh (x.g (0+aA y))))))=v/\cQ (aS y/\∃u:Nat,Ix.qA v=Ix.fO x.g u/\br y u/\zT x.n x.cap (fun w=>x.g w) (bU u x.n y)))) (Exists (bI (Ix.fO x.g y=Ix.fO x.g x.n)))) (by kernel_rfl) (by
 delta az bZ aK ah b8 aA aD bE cF aH af bh aC aX bq aW dU gz aI bI bG bL bU dY cM zS aV ay aS o4 aF ag aY mR cV br ga bl bu mO zT dX cQ
 try dsimp -iota -proj only
 intro a h;obtain⟨hn,hs⟩:=h;simp only[Nat.zero_add,Int.toNat_natCast];refine⟨⟨0,by and_intros<;>(first|exact trivial|rfl|omega|assumption|exact ak.refl _ _ _|(simp only[bR];omega)|(simp;done)|(simp;omega)|grind)⟩,fun i hi=>⟨fun h1=>?_,fun h1=>?_⟩⟩
 ·have hi':i<a.n:=by simpa using h1
  have hsz:=hs i hi';refine⟨by omega,hi',⟨0,by and_intros<;>(first|exact trivial|rfl|omega|assumption|exact ak.refl _ _ _|(simp only[bR];omega)|(simp;done)|(simp;omega)|grind)⟩,fun j hj=>⟨fun h2=>?_,fun h2=>?_⟩⟩
  ·have hj':j<(a.g i).size:=by simpa using h2
   refine⟨by omega,_,rfl,trivial,fun _ _=>⟨by simp only[bR,aq]at *;omega,j+1,?_⟩⟩
   and_intros<;>(first|exact trivial|rfl|omega|assumption|exact ak.refl _ _ _|(simp only[bR];omega)|(simp;done)|(simp;omega)|grind)
  ·have hj' : j = (a.g i).size := by have : ¬ j < (a.g i).size := by simpa using h2
                                     omega
   subst hj';refine⟨_,rfl,trivial,fun _ _=>⟨by simp only[bR];omega,i+1,?_⟩⟩
   and_intros<;>(first|exact trivial|rfl|omega|assumption|exact ak.refl _ _ _|(simp only[bR];omega)|(simp;done)|(simp;omega)|grind)
 ·have hi' : i = a.n := by have : ¬ i < a.n := by simpa using h1
                           omega
  subst hi';exact⟨(),rfl,trivial,trivial⟩)
theorem vW:au (Y Tryz.prog).G.X 66 vc:=aU fL zU ⟨yB,trivial⟩
structure bp where
 key:ByteArray
 pos:Int
 has:Bool
 gone:Bool
 deriving Inhabited
def Bw(p:bp):List Value:=[.string p.key,.int .i64 p.pos,.bool p.has,.bool p.gone]
def Yq:List CK:=[.str,.int .i64,.bool,.bool]
def HD(key:ByteArray):Int:=fO (fun _=>key) 1
def dK(L:Nat)(key:ByteArray):Nat:=(HD key).toNat%L
def hit(key:ByteArray)(p:bp):Bool:=p.has&&decide (p.key=key)
def bare(p:bp):Bool:=!p.has&&!p.gone
def fm(t:List bp)(key:ByteArray):Nat->Nat->Int->Int×Int
 |0,_,free=>(-1,free)
 |k+1,i,free=>if hit key (gl t i)then((i:Int),(i:Int))else
  let f:=if !(gl t i).has&&decide (free<0)then(i:Int)else free
  if bare (gl t i)then(-1,f)else fm t key k ((i+1)%t.length) f
def bH(t:List bp)(key:ByteArray):Int×Int:=fm t key t.length (dK t.length key) (-1)
def pM(o a:Nat)(t:List bp)(cap n used:Nat):List (Nat×Chunk):=[(o,.obj 247 [.slc a 0 4 t.length cap,.int .i64 n,.int .i64 used]),(a,.arr 251 Yq t.length (aa Bw t))]
theorem Wv{k:IntKind}{n:Int}(h:bR k n):k.wrap n=n:=by
 cases k<;>simp only[bR]at h<;>simp[IntKind.wrap,IntKind.bits,IntKind.signed,Int.emod_def]<;>omega
theorem Ql(a b:Int):0<=OE a b/\OE a b<18446744073709551616:=by
 unfold OE dI;simp only[EL,uw];omega
theorem ED(key:ByteArray):0<=HD key:=(Ql _ _).1
theorem qB{L:Nat}(key:ByteArray)(h:1<=L):dK L key<L:=Nat.mod_lt _ h
theorem start_eq{L:Nat}(key:ByteArray)(h:1<=L)(h2:L<100000):uw .i64 (fO (fun _=>key) 1%uw .u64 (L:Int))=(dK L key:Int):=by
 have e1:uw .u64 (L:Int)=L:=by simp only[uw];omega
 have h0:=ED key;have h3:=qB key h;have e2:HD key%(L:Int)=(dK L key:Int):=by
  unfold dK;rw[Int.natCast_emod,Int.toNat_of_nonneg h0]
 rw[e1];show uw .i64 (HD key%(L:Int))=_;rw[e2];exact Wv (by simp only[bR];omega)
theorem Ww{i L:Nat}:((i:Int)+1).tmod (L:Int)=(((i+1)%L:Nat):Int):=by
 rw[Int.tmod_eq_emod_of_nonneg (by omega),Int.natCast_emod];rfl
theorem zV{t:List bp}{key:ByteArray}{i at_:Nat}{free:Int}{r:Int×Int}(hi:i<t.length)(h:fm t key (t.length-i) at_ free=r) :
 (if hit key (gl t at_)then((at_:Int),(at_:Int))else
 if bare (gl t at_)then(-1,if !(gl t at_).has&&decide (free<0)then(at_:Int)else free)else fm t key (t.length-(i+1)) ((at_+1)%t.length) (if !(gl t at_).has&&decide (free<0)then(at_:Int)else free))=r:=by
 rw[<- h,show t.length-i=(t.length-(i+1))+1 by omega];rfl
structure nI where
 t:List bp
 cap:Nat
 n:Nat
 used:Nat
 key:ByteArray
noncomputable def Fi:cE where
 α:=nI
 β:=Unit
 m:=2
 m':=2
 pre:=fun a=>1<=a.t.length/\a.t.length<100000/\a.key.size<=aq
 args:=fun a=>[.a (.ptr 0 0 0 0),.a (.str a.key)]
 hp:=fun _=>[]
 ro:=fun a=>pM 0 1 a.t a.cap a.n a.used
 post:=fun _ _=>True
 res:=fun a _=>.mG [.a (.int .i64 (bH a.t a.key).1),.a (.int .i64 (bH a.t a.key).2)]
 cZ:=fun _ _=>[]
def ZE(a:nI):An:=.flat 4 (Nat×Nat×Int) (fun s x=>((s.int 25 x.1).int 7 x.2.1).set 6 (.a (.int .i64 x.2.2)))
 (fun _ x=>x.1<=a.t.length/\x.2.1<a.t.length/\-1<=x.2.2/\x.2.2<a.t.length/\fm a.t a.key (a.t.length-x.1) x.2.1 x.2.2=bH a.t a.key) (fun _ x=>a.t.length-x.1)
def _root_.HE(y:Nat×Nat×Int)(x:Ix.nI):=y.snd.fst<x.t.length/\(-1:Int)<=y.snd.snd/\y.snd.snd<af x.t.length/\Ix.fm x.t x.key (x.t.length-y.fst) y.snd.fst y.snd.snd=Ix.bH x.t x.key
def _root_.dh(x:List Ix.bp):Nat->Nat->Value:=aa Ix.Bw x
def _root_.MF(x:Ix.nI)(y:Prop):=bZ (af x.t.length) 0 (aD 0) (ag (x.key=x.key/\bG x.t.length x.cap/\bZ (af x.n) (af x.used) (dU x.t.length 4 (dh x.t)) y))
def _root_.HF(y:Int)(x:Ix.nI)(z:Int):Unit->Prop:=ay (y=(Ix.bH x.t x.key).fst/\bl (z=(Ix.bH x.t x.key).snd))
def _root_.jT(x:List Ix.bp)(y:Nat):Ix.bp:=gl x (0+aA y)
def _root_.MG(x:Ix.nI)(y:Nat×Nat×Int)(u:Int):=o6 (bg (Ix.bp.has (jT x.t y.snd.fst))) (bg (Ix.bp.gone (jT x.t y.snd.fst))) (Exists (HF (-1:Int) x u)) (aS y.snd.fst/\af x.t.length≠(0:Int)/\aS y.fst/\∃z:Nat×Nat×Int,u=z.snd.snd/\(af y.snd.fst+(1:Int)).tmod (af x.t.length)=af z.snd.fst/\br y.fst z.fst/\MF x (ey z.fst x.t.length (HE z x) y.fst))
def _root_.HG(x:Ix.Qk)(z:ByteArray)(u:Prop):=iC 1 x.n 1 x.cap 1 (aO 1 (bD (bL z))) (fun y v=>bL (x.g y)) (x.n<100000/\∀y:Nat,y<x.n->bh (x.g y)<=aq) (aI u)
theorem TF:fnBody (Y Tryz.prog) [(66,vc)] 168 Fi fun a=>[(168,[ZE a],[])]:=fnBody.of (p :=
 ∀y:Ix.nI,iE 1 y.t.length (bh y.key<=aq)->∃z:Ix.Qk,HG z y.key (cM (af y.t.length)≠(0:Int)/\(∃x:Nat×Nat×Int,(-1:Int)=x.snd.snd/\o7 (Ix.fO z.g z.n%cM (af y.t.length))=af x.snd.fst/\aF x.fst (MF y ((x.fst<=y.t.length/\HE x y)/\True)))/\∀x:Nat×Nat×Int,x.fst<=y.t.length/\HE x y->aY (af x.fst) y.t.length (dX x.snd.fst y.t.length (o6 (Ix.bp.has (jT y.t x.snd.fst)) (iA (Ix.bp.key (jT y.t x.snd.fst)) y.key) (Exists (HF (af x.snd.fst) y (af x.snd.fst))) (o6 (bg (Ix.bp.has (jT y.t x.snd.fst))) (aH x.snd.snd 0) (MG y x (af x.snd.fst)) (MG y x x.snd.snd)))) (Exists (HF (-1:Int) y x.snd.snd)))) (by kernel_rfl) (by
 delta o6 az bZ aK ah b8 aA aD cF aH af bh bD aC aX bq bV aW dU aI bG ey bL MG cM ay aS HE iC aF ag aY cV br MF bg bl HG iA dX iE dh HF jT o7
 try dsimp -iota -proj only
 intro a h;obtain⟨h1,h2,h3⟩:=h;have hst:=qB a.key h1;refine⟨⟨fun _=>a.key,1,1⟩,?_⟩;simp only[Nat.zero_add,Int.toNat_natCast,start_eq a.key h1 h2,Ww];refine⟨⟨trivial,trivial,trivial⟩,⟨Nat.le_refl _,.eo fun j hj=>?_⟩,⟨by omega,fun _ _=>h3⟩,fun _ _=>⟨by simp only[uw];omega,⟨(0,dK a.t.length a.key,-1),?_⟩,fun x hx=>?_⟩⟩
 ·have:j=0:=by omega
  subst this;rfl
 ·dsimp only
  and_intros<;>(first|exact trivial|rfl|omega|assumption|exact ak.refl _ _ _|(simp only[bR];omega)|(simp;done)|(simp;omega)|grind)
 ·obtain⟨i,at_,free⟩:=x;obtain⟨i1,i2,i3,i4,i5⟩:=hx;dsimp only at *;have hmod:(at_+1)%a.t.length<a.t.length:=Nat.mod_lt _ h1;have stop:i=a.t.length->bH a.t a.key=(-1,free):=by
   intro e;rw[<- i5,e,Nat.sub_self];rfl
  have step:=fun hi=>zV (i:=i) hi i5;simp only[bR]
  repeat' (first|intro _|apply And.intro|apply Exists.intro ()|apply Exists.intro ((i+1,(at_+1)%a.t.length,_):Nat×Nat×Int))
  all_goals(try with_reducible rfl)
  all_goals(try exact ak.refl _ _ _)
  all_goals(try dsimp only)
  all_goals(try simp only[decide_eq_true_eq,decide_eq_false_iff_not]at *)
  all_goals(try omega)
  all_goals(try(have h9:=step (by omega);grind [hit,bare]))
  all_goals(try(have h9:=stop (by omega);rw[h9])))
theorem yC:au (Y Tryz.prog).G.X 168 Fi:=aU fL TF ⟨vW,trivial⟩
structure cW where
 t:List bp
 n:Nat
 used:Nat
def nV(x:cW)(key:ByteArray):Int:=if 0<=(bH x.t key).1 then(gl x.t (bH x.t key).1.toNat).pos else 0
def mI(x:cW)(key:ByteArray)(pos:Int):cW :=
 if 0<=(bH x.t key).1 then { x with t:=x.t.set (bH x.t key).1.toNat { gl x.t (bH x.t key).1.toNat with pos:=pos } }
 else⟨x.t.set (bH x.t key).2.toNat ⟨key,pos,true,false⟩,x.n+1,if(gl x.t (bH x.t key).2.toNat).gone then x.used else x.used+1⟩
theorem oG(x:cW)(key:ByteArray)(pos:Int):(mI x key pos).t.length=x.t.length:=by unfold mI;split<;>simp
theorem A6(t:List bp)(key:ByteArray)(h:1<=t.length):∀(k i:Nat) (f:Int),i<t.length->f<t.length->(fm t key k i f).1<t.length/\(fm t key k i f).2<t.length
 |0,i,f,hi,hf=>by simp only[fm];omega
 |k+1,i,f,hi,hf=>by
  have h1:(if !(gl t i).has&&decide (f<0)then(i:Int)else f)<t.length:=by split<;>omega
  unfold fm;by_cases hh:hit key (gl t i)=true
  ·rw[if_pos hh];exact⟨by simp only;omega,by simp only;omega⟩
  ·rw[if_neg hh];dsimp only;by_cases hb:bare (gl t i)=true
   ·rw[if_pos hb];exact⟨by simp only;omega,h1⟩
   ·rw[if_neg hb];exact A6 t key h k _ _ (Nat.mod_lt _ h) h1
theorem ve{t:List bp}(key:ByteArray)(h:1<=t.length):(bH t key).1<t.length/\(bH t key).2<t.length :=
 A6 t key h _ _ _ (qB key h) (by omega)
structure mH where
 x:cW
 cap:Nat
 key:ByteArray
 pos:Int
noncomputable def TG:cE where
 α:=mH
 β:=Unit
 m:=2
 m':=2
 pre:=fun a=>1<=a.x.t.length/\a.x.t.length<100000/\a.key.size<=aq/\2*a.x.used<a.x.t.length/\a.x.n<100000/\((bH a.x.t a.key).1<0->0<=(bH a.x.t a.key).2)
 args:=fun a=>[.a (.ptr 0 0 0 0),.a (.str a.key),.a (.int .i64 a.pos)]
 hp:=fun a=>pM 0 1 a.x.t a.cap a.x.n a.x.used
 ro:=fun _=>[]
 post:=fun _ _=>True
 res:=fun a _=>.a (.int .i64 (nV a.x a.key))
 cZ:=fun a _=>pM 0 1 (mI a.x a.key a.pos).t a.cap (mI a.x a.key a.pos).n (mI a.x a.key a.pos).used
noncomputable def TH:cE where
 α:=Unit
 β:=Unit
 m:=1
 m':=1
 pre:=fun _=>False
 args:=fun _=>[.a (.ptr 0 0 0 0)]
 hp:=fun _=>[]
 ro:=fun _=>[]
 post:=fun _ _=>True
 res:=fun _ _=>.a .any
 cZ:=fun _ _=>[]
theorem Qm(f:Nat):au (Y Tryz.prog).G.X f TH:=aU fL (jk:=[]) (l:=fun _=>[]) ⟨fun a h=>False.elim h⟩ trivial
def _root_.bJ(x:Ix.cW):Nat:=x.t.length
def _root_.nW(x:Int)(y:Nat)(z:Prop):=cV x y (0+aX x) z
def _root_.xH(z:ByteArray)(x:Ix.nI)(y:Ix.cW)(u:Nat)(v:Bool)(w:Prop)(s:Int)(f:Prop):=ag (z=x.key/\ag (bJ y=x.t.length/\u=x.cap)/\bz y.n x.n/\bz y.used x.used/\aK x.t.length (bJ y) 4 (dh y.t) (dh x.t)/\iE 1 x.t.length (bh x.key<=aq)/\aI (az v w (nW s (bJ y) f)))
def _root_.rK(x:Ix.nI):Nat:=0+aX (Ix.bH x.t x.key).fst
def _root_.OF(z:Ix.mH)(x:Ix.nI)(y:Ix.cW)(u:Nat)(v w s:Prop):=xH z.key x y u (cC 0 (Ix.bH x.t x.key).fst) (nW (Ix.bH x.t x.key).fst (bJ y) (ah (gl y.t (rK x)).pos->nW (Ix.bH x.t x.key).fst (bJ y) v)) (Ix.bH x.t x.key).snd (az (bg (gl y.t (0+aX (Ix.bH x.t x.key).snd)).gone) (ah (af y.used)->aS y.used/\nW (Ix.bH x.t x.key).snd (bJ y) (ah (af y.n)->aS y.n/\w)) (nW (Ix.bH x.t x.key).snd (bJ y) (ah (af y.n)->aS y.n/\s)))
def _root_.ni(y:Nat)(x:Ix.cW)(z u:Nat)(v w:Int)(s:Nat->Nat->Value)(f:Prop):=ag (y=bJ x/\z=u)/\v=af x.n/\w=af x.used/\aK (bJ x) y 4 s (dh x.t)/\f/\True
def _root_.eE(x:ByteArray)(y:Int)(z:List Value):List Value:=bV (bL x) (bx y z)
def _root_.Fj(u:Ix.cW)(x:Ix.mH)(y v:Ix.cW)(w s:Nat)(f:Int)(z:Ix.nI):=(0:Int)=Ix.nV u x.key/\ni (bJ y) v w s (af y.n+(1:Int)) f (kq (dh y.t) (0+aX (Ix.bH z.t z.key).snd) 0 (eE x.key x.pos (bV (dR true) (bD gm)))) True
def _root_.OG(x:Ix.cW)(y:Ix.nI)(u:Ix.cW)(z:Ix.mH)(v:Ix.cW)(w s:Nat):=(gl x.t (rK y)).pos=Ix.nV u z.key/\ni (bJ x) v w s (af x.n) (af x.used) (kq (dh x.t) (rK y) 1 (bx z.pos [])) True
def _root_.MH(y:Ix.mH):Ix.nI->Prop:=fun(z:Ix.nI)=>OF y z y.x y.cap (Exists (ay (OG y.x z y.x y (Ix.mI y.x y.key y.pos) y.cap y.cap))) (Exists (ay (Fj y.x y y.x (Ix.mI y.x y.key y.pos) y.cap y.cap (af y.x.used+(1:Int)) z))) (Exists (ay (Fj y.x y y.x (Ix.mI y.x y.key y.pos) y.cap y.cap (af y.x.used) z)))
def _root_.zW(x:Ix.cW)(z:Nat)(y:ByteArray):=2*x.used<z/\x.n<100000/\((Ix.bH x.t y).fst<(0:Int)->(0:Int)<=(Ix.bH x.t y).snd)
theorem TJ:fnBody (Y Tryz.prog) [(168,Fi),(167,TH)] 123 TG fun _=>[]:=fnBody.of (p :=
 ∀y:Ix.mH,iE 1 (bJ y.x) (bh y.key<=aq/\zW y.x (bJ y.x) y.key)->ah (af y.x.used)->th ((2:Int)*af y.x.used) (af (bJ y.x)) (Exists (ay (ag (False/\aI (Exists (MH y)))))) (Exists (MH y))) (by kernel_rfl) (by
 delta az aK ah bx bJ cF af bh bD aC dV aX bq bV aW OF Fj aI OG bL ni xH ay aS cC gm ag MH cV zW bg nW eE bz rK dR th iE dh
 try dsimp -iota -proj only
 intro a h;obtain⟨h1,h2,h3,h4,h5,h6⟩:=h;obtain⟨l1,l2⟩:=ve a.key h1;have hl:=oG a.x a.key a.pos;have yes:0<=(bH a.x.t a.key).1->mI a.x a.key a.pos={ a.x with t:=a.x.t.set (bH a.x.t a.key).1.toNat { gl a.x.t (bH a.x.t a.key).1.toNat with pos:=a.pos } }:=fun e=>if_pos e;have no:¬0<=(bH a.x.t a.key).1->mI a.x a.key a.pos=⟨a.x.t.set (bH a.x.t a.key).2.toNat ⟨a.key,a.pos,true,false⟩,a.x.n+1,if(gl a.x.t (bH a.x.t a.key).2.toNat).gone then a.x.used else a.x.used+1⟩:=fun e=>if_neg e;simp only[Nat.zero_add,bR];refine fun _=>⟨by omega,fun e=>absurd e (by simp;omega),fun _=>⟨⟨a.x.t,a.cap,a.x.n,a.x.used,a.key⟩,?_⟩⟩
 dsimp only
 repeat' (first|intro _|apply And.intro|apply Exists.intro ())
 all_goals(try with_reducible rfl)
 all_goals(try simp only[decide_eq_true_eq,decide_eq_false_iff_not,Bool.not_eq_true',Bool.not_eq_false']at *)
 all_goals(try exact trivial)
 all_goals(try omega)
 all_goals(try(grind [nV]))
 all_goals(try(with_reducible exact ak.refl _ _ _))
 all_goals(first|(rw[yes (by assumption)];refine .set _ (by omega) (fun i hi=>by simp only[gU hi]) ?_;simp only[jh];rfl)|(rw[no (by assumption)];refine .set _ (by omega) (fun i hi=>by simp only[gU hi]) ?_;simp only[jh];rfl)))
theorem TK:au (Y Tryz.prog).G.X 123 TG:=aU fL TJ ⟨yC,Qm _,trivial⟩
def ee(t:List bp)(y:cW):Nat->cW
 |0=>y
 |i+1=>if(gl t i).has then mI (ee t y i) (gl t i).key (gl t i).pos else ee t y i
def bM(n:Nat):cW:=⟨List.replicate n ⟨.empty,0,false,false⟩,0,0⟩
theorem lV(t:List bp)(y:cW):∀i,(ee t y i).t.length=y.t.length
 |0=>rfl
 |i+1=>by
  unfold ee;split
  ·rw[oG,lV t y i]
  ·exact lV t y i
theorem tB{α:Type}[Inhabited α]{n i:Nat}{x:α}(h:i<n):gl (List.replicate n x) i=x:=by
 rw[bT (by simpa using h)];simp
def lW(x:cW):cW:=ee x.t (bM (max 16 (4*x.n))) x.t.length
structure A7 where
 x:cW
 cap:Nat
noncomputable def TL:cE where
 α:=A7
 β:=Nat
 m:=2
 m':=3
 pre:=fun a=>1<=a.x.t.length/\a.x.t.length<100000/\a.x.n<10000/\(∀i,i<a.x.t.length->(gl a.x.t i).key.size<=aq) /\
  ∀i,i<a.x.t.length->(gl a.x.t i).has=true->2*(ee a.x.t (bM (max 16 (4*a.x.n))) i).used<max 16 (4*a.x.n)/\(ee a.x.t (bM (max 16 (4*a.x.n))) i).n<100000 /\
   ((bH (ee a.x.t (bM (max 16 (4*a.x.n))) i).t (gl a.x.t i).key).1<0->0<=(bH (ee a.x.t (bM (max 16 (4*a.x.n))) i).t (gl a.x.t i).key).2)
 args:=fun a=>[.a (.ptr 0 0 0 0)]
 hp:=fun a=>[(0,.obj 247 [.slc 1 0 4 a.x.t.length a.cap,.int .i64 a.x.n,.int .i64 a.x.used])]
 ro:=fun a=>[(1,.arr 251 Yq a.x.t.length (aa Bw a.x.t))]
 post:=fun _ _=>True
 res:=fun _ _=>.mG []
 cZ:=fun a cap=>pM 0 2 (lW a.x).t cap (lW a.x).n (lW a.x).used
def ZF(a:A7):An:=.flat 3 (Nat×Nat) (fun s x=>(((s.at_ (s.tg 0) (.obj 247 [.slc (s.fu (s.tg 0) 0) 0 4 (max 16 (4*a.x.n)) x.2,.int .i64 (ee a.x.t (bM (max 16 (4*a.x.n))) x.1).n,.int .i64 (ee a.x.t (bM (max 16 (4*a.x.n))) x.1).used])).at_ (s.fu (s.tg 0) 0) (.arr 251 Yq (max 16 (4*a.x.n)) (aa Bw (ee a.x.t (bM (max 16 (4*a.x.n))) x.1).t))).int 21 x.1))
 (fun _ x=>x.1<=a.x.t.length) (fun _ x=>a.x.t.length-x.1)
def _root_.nj(y:Ix.A7)(z:Nat):Ix.cW:=Ix.ee y.x.t (Ix.bM (max 16 (4*y.x.n))) z
def _root_.HH(y:Ix.A7):=iE 1 (bJ y.x) (y.x.n<10000/\(∀z:Nat,z<bJ y.x->bh (gl y.x.t z).key<=aq)/\∀z:Nat,z<bJ y.x->aC (gl y.x.t z).has->zW (nj y z) (max 16 (4*y.x.n)) (gl y.x.t z).key)
def _root_.MI(v:Nat×Nat)(y:Ix.A7)(w:Nat×Nat->Prop)(u:Ix.cW)(s:Nat):=iB v fun z=>sY (bJ y.x) y.cap (ag (w z/\bz u.n (Ix.cW.n (nj y z.fst))/\bz u.used (Ix.cW.used (nj y z.fst))/\dU (bJ y.x) 4 (dh y.x.t)/\aK (max 16 (4*y.x.n)) s 4 (dh u.t) (dh (Ix.cW.t (nj y z.fst)))/\bU z.fst (bJ y.x) v.fst))
def _root_.zX(y x:Ix.cW)(z:Nat)(u v:Prop):=bz y.n x.n/\bz y.used x.used/\aK (bJ x) z 4 (dh y.t) (dh x.t)/\u/\v
def _root_.zY(y:Ix.A7):Int:=pL true 16 ((4:Int)*af y.x.n)
def _root_.HI:Nat->Nat->Value:=fun(y x:Nat)=>aT (eE cO 0 (bV gm (bD gm))) x
theorem TM:fnBody (Y Tryz.prog) [(123,TG)] 167 TL fun a=>[(167,[ZF a],[])]:=fnBody.of (p :=
 ∀y:Ix.A7,HH y->ah (af y.x.n)->ah ((4:Int)*af y.x.n)/\l9 (zY y) ((32:Int)*zY y) ((∃z:Nat×Nat,aF z.fst (sY (bJ y.x) y.cap (ag (ag (aX (zY y)=max 16 (4*y.x.n)/\aX (zY y)=z.snd)/\aF (Ix.cW.n (nj y z.fst)) (aF (Ix.cW.used (nj y z.fst)) (dU (bJ y.x) 4 (dh y.x.t)/\aK (max 16 (4*y.x.n)) (aX (zY y)) 4 HI (dh (Ix.cW.t (nj y z.fst)))/\z.fst<=bJ y.x/\True))))))/\∀z:Nat×Nat,ga z.fst (bJ y.x) (az (Ix.bp.has (jT y.x.t z.fst)) (ah (Ix.bp.pos (jT y.x.t z.fst))->∃u:Ix.mH,ag (Ix.bp.key (jT y.x.t z.fst)=u.key/\Ix.bp.pos (jT y.x.t z.fst)=u.pos/\ag (max 16 (4*y.x.n)=bJ u.x/\z.snd=u.cap)/\zX (nj y z.fst) u.x (max 16 (4*y.x.n)) (iE 1 (bJ u.x) (bh u.key<=aq/\zW u.x (bJ u.x) u.key)) (aI (MI z y (fun w=>ag (bJ (Ix.mI u.x u.key u.pos)=max 16 (4*y.x.n)/\u.cap=w.snd)) (Ix.mI u.x u.key u.pos) (bJ (Ix.mI u.x u.key u.pos)))))) (MI z y (fun v=>b8 (max 16 (4*y.x.n)) (z.snd=v.snd)) (nj y z.fst) (max 16 (4*y.x.n)))) (∃v:Nat,ni (max 16 (4*y.x.n)) (Ix.lW y.x) z.snd v (af (Ix.cW.n (nj y z.fst))) (af (Ix.cW.used (nj y z.fst))) (dh (Ix.cW.t (nj y z.fst))) True))) (by kernel_rfl) (by
 delta az aT aK ah bx b8 aA aD pL bJ cO cF aH af bh bD aC dV aX bq uJ bV aW dU gz aI bG bL nj bU ni iB l9 aS gm aF HH ag aY MI cV zX br zW ga bu eE bz zY dX dR iE dh sY HI jT
 try dsimp -iota -proj only
 intro a h;obtain⟨h1,h2,h3,h4,h5⟩:=h;obtain⟨M,hM⟩:∃M,M=max 16 (4*a.x.n):=⟨_,rfl⟩
 have hMi:(max 16 (4*(a.x.n:Int)):Int)=(M:Int):=by omega
 simp only[cond_true,<- hM]at h5 ⊢;simp only[hMi,Nat.zero_add,Int.toNat_natCast];have hlen:∀i,(ee a.x.t (bM M) i).t.length=M:=fun i=>by rw[lV];simp[bM]
 have hg:lW a.x=ee a.x.t (bM M) a.x.t.length:=by unfold lW;rw[<- hM]
 rw[hg,hlen];refine fun _=>⟨by simp only[bR];omega,by omega,by omega,by omega,⟨(0,M),?_⟩,fun x hx=>?_⟩
 ·dsimp only
  and_intros<;>first|exact ak.refl _ _ _|skip
  all_goals first|exact trivial|rfl|omega|skip
  refine .eo fun i hi=>?_;unfold aa;rw[show gl (ee a.x.t (bM M) 0).t i=⟨.empty,0,false,false⟩from tB hi];rfl
 ·obtain⟨i,cap⟩:=x;have hx':i<=a.x.t.length:=hx;have h6:=h5 i;have sy:(gl a.x.t i).has=true->ee a.x.t (bM M) (i+1)=mI (ee a.x.t (bM M) i) (gl a.x.t i).key (gl a.x.t i).pos:=fun e=>if_pos e;have sn:(gl a.x.t i).has=false->ee a.x.t (bM M) (i+1)=ee a.x.t (bM M) i:=fun e=>if_neg (by rw[e];decide);have se:¬i<a.x.t.length->ee a.x.t (bM M) a.x.t.length=ee a.x.t (bM M) i:=fun e=>by rw[show a.x.t.length=i by omega]
  dsimp only at *
  repeat' (first|intro _|apply And.intro|apply Exists.intro (mH.mk (ee a.x.t (bM M) i) cap _ _)|apply Exists.intro ((i+1,cap):Nat×Nat)|apply Exists.intro (cap:Nat))
  all_goals(try with_reducible rfl)
  all_goals(try with_reducible exact ak.refl _ _ _)
  all_goals(try dsimp only)
  all_goals(try simp only[decide_eq_true_eq,decide_eq_false_iff_not,Bool.not_eq_true',Bool.not_eq_false',bR]at *)
  all_goals(try simp only[hlen,oG])
  all_goals(try exact trivial)
  all_goals(try omega)
  all_goals first
   |exact h4 i (by omega)
   |exact(h6 (by omega) (by assumption)).1
   |exact(h6 (by omega) (by assumption)).2.1
   |exact(h6 (by omega) (by assumption)).2.2 (by assumption)
   |(rw[sy (by assumption)];done)
   |(rw[sy (by assumption)];exact ak.refl _ _ _)
   |(rw[sn (by assumption)];done)
   |(rw[sn (by assumption)];exact ak.refl _ _ _)
   |(rw[se (by omega)];done)
   |(rw[se (by omega)];exact ak.refl _ _ _))
theorem TN:au (Y Tryz.prog).G.X 167 TL:=aU fL TM ⟨TK,trivial⟩
def nk(p:bp):ByteArray×Int:=(p.key,p.pos)
def eM(t:List bp):List (ByteArray×Int):=(t.filter (·.has)).map nk
def busy(p:bp):Bool:=!bare p
structure Inv(x:cW):Prop where
 lo:16<=x.t.length
 hi:x.t.length<=40000
 n:x.n=(eM x.t).length
 used:x.used=x.t.countP busy
 half:2*x.used<x.t.length+2
 size:∀i,i<x.t.length->(gl x.t i).key.size<=aq
 TO:∀i j,i<x.t.length->j<x.t.length->(gl x.t i).has=true->(gl x.t j).has=true->(gl x.t i).key=(gl x.t j).key->i=j
 path:∀i,i<x.t.length->(gl x.t i).has=true->∃d,d<x.t.length/\(dK x.t.length (gl x.t i).key+d)%x.t.length=i/\∀k,k<d->bare (gl x.t ((dK x.t.length (gl x.t i).key+k)%x.t.length))=false
theorem Kh{s d L:Nat}:((s+d)%L+1)%L=(s+(d+1))%L:=by rw[Nat.mod_add_mod,Nat.add_assoc]
theorem vX{key:ByteArray}{p:bp}:hit key p=true↔p.has=true/\p.key=key:=by simp[hit]
theorem Da{t:List bp}{key:ByteArray}{i0 d0:Nat}(hL:1<=t.length)(hi:i0<t.length)(hh:hit key (gl t i0)=true)(hd:d0<t.length)
 (hp:(dK t.length key+d0)%t.length=i0) (hb:∀k,k<d0->bare (gl t ((dK t.length key+k)%t.length))=false)
 (hu:∀j,j<t.length->hit key (gl t j)=true->j=i0):∀(m d:Nat) (f:Int),d+m=d0->fm t key (t.length-d) ((dK t.length key+d)%t.length) f=((i0:Int),(i0:Int))
 |0,d,f,hm=>by
  have:d=d0:=by omega
  subst this;rw[hp,show t.length-d=(t.length-d-1)+1 by omega];simp only[fm,hh,if_true]
 |m+1,d,f,hm=>by
  have hlt:(dK t.length key+d)%t.length<t.length:=Nat.mod_lt _ hL;rw[show t.length-d=(t.length-(d+1))+1 by omega];by_cases h:hit key (gl t ((dK t.length key+d)%t.length))=true
  ·have:=hu _ hlt h;rw[this]at h ⊢;simp only[fm,h,if_true]
  ·simp only[fm,h,if_false,hb d (by omega),Bool.false_eq_true];rw[Kh];exact Da hL hi hh hd hp hb hu m (d+1) _ (by omega)
theorem Fk{t:List bp}{key:ByteArray}(hL:1<=t.length)(hu:∀j,j<t.length->hit key (gl t j)=false):∀(k i:Nat) (f:Int),i<t.length->0<=f->fm t key k i f=(-1,f)
 |0,i,f,hi,hf=>rfl
 |k+1,i,f,hi,hf=>by
  have h1:(!(gl t i).has&&decide (f<0))=false:=by simp;omega
  simp only[fm,hu i hi,Bool.false_eq_true,if_false,h1];split
  ·rfl
  ·exact Fk hL hu k _ f (Nat.mod_lt _ hL) hf
theorem Fl{t:List bp}{key:ByteArray}{d0:Nat}(hL:1<=t.length)(hd:d0<t.length)(hu:∀j,j<t.length->hit key (gl t j)=false)
 (hf:(gl t ((dK t.length key+d0)%t.length)).has=false) (hb:∀k,k<d0->(gl t ((dK t.length key+k)%t.length)).has=true) :
 ∀(m d:Nat),d+m=d0->fm t key (t.length-d) ((dK t.length key+d)%t.length) (-1)=(-1,(((dK t.length key+d0)%t.length:Nat):Int))
 |0,d,hm=>by
  have:d=d0:=by omega
  subst this;have hlt:(dK t.length key+d)%t.length<t.length:=Nat.mod_lt _ hL;rw[show t.length-d=(t.length-d-1)+1 by omega];have h1:(!(gl t ((dK t.length key+d)%t.length)).has&&decide ((-1:Int)<0))=true:=by simp[hf]
  simp only[fm,hu _ hlt,Bool.false_eq_true,if_false,h1,if_true];split
  ·rfl
  ·exact Fk hL hu _ _ _ (Nat.mod_lt _ hL) (by omega)
 |m+1,d,hm=>by
  have hlt:(dK t.length key+d)%t.length<t.length:=Nat.mod_lt _ hL;rw[show t.length-d=(t.length-(d+1))+1 by omega];have h0:=hb d (by omega);have h1:(!(gl t ((dK t.length key+d)%t.length)).has&&decide ((-1:Int)<0))=false:=by simp[h0]
  have h2:bare (gl t ((dK t.length key+d)%t.length))=false:=by simp[bare,h0]
  simp only[fm,hu _ hlt,Bool.false_eq_true,if_false,h1,h2];rw[Kh];exact Fl hL hd hu hf hb m (d+1) (by omega)
theorem Fm{L:Nat}{key:ByteArray}(hL:1<=L):(dK L key+0)%L=dK L key:=by
 rw[Nat.add_zero,Nat.mod_eq_of_lt (qB key hL)]
theorem A8{x:cW}(h:Inv x){i:Nat}(hi:i<x.t.length)(hh:(gl x.t i).has=true):bH x.t (gl x.t i).key=((i:Int),(i:Int)):=by
 obtain⟨d,h1,h2,h3⟩:=h.path i hi hh;have hL:1<=x.t.length:=by have:=h.lo;omega
 have:=Da (key:=(gl x.t i).key) hL hi (vX.2 ⟨hh,rfl⟩) h1 h2 h3 (fun j hj hj2=>h.TO j i hj hi (vX.1 hj2).1 hh (vX.1 hj2).2) d 0 (-1) (by omega);rwa[Fm hL,Nat.sub_zero]at this
theorem road{L s i:Nat}(hs:s<L)(hi:i<L):∃d,d<L/\(s+d)%L=i:=by
 by_cases h:s<=i
 ·exact⟨i-s,by omega,by rw[show s+(i-s)=i by omega];exact Nat.mod_eq_of_lt hi⟩
 ·refine⟨L+i-s,by omega,?_⟩;rw[show s+(L+i-s)=i+L by omega,Nat.add_mod_right];exact Nat.mod_eq_of_lt hi
theorem Fo:∀(t:List bp),t.countP busy<t.length->∃i,i<t.length/\(gl t i).has=false
 |[],h=>absurd h (Nat.not_lt_zero _)
 |p::r,h=>by
  cases hp:p.has with
  |false=>exact⟨0,by simp,hp⟩
  |true =>
   have hb:busy p=true:=by simp[busy,bare,hp]
   rw[List.countP_cons_of_pos hb]at h;obtain⟨i,h1,h2⟩:=Fo r (by simpa using h);exact⟨i+1,by simp;omega,h2⟩
theorem first{p:Nat->Bool}:∀d,p d=true->∃d0,d0<=d/\p d0=true/\∀k,k<d0->p k=false:=by
 intro d
 induction d using Nat.strongRecOn with
 |ind d ih =>
  intro h;by_cases hx:∃k,k<d/\p k=true
  ·obtain⟨k,hk,hp⟩:=hx;obtain⟨d0,a,b,c⟩:=ih k hk hp;exact⟨d0,by omega,b,c⟩
  ·refine⟨d,Nat.le_refl _,h,fun k hk=>?_⟩;cases hp:p k with
   |false=>rfl
   |true=>exact absurd ⟨k,hk,hp⟩ hx
def MJ(t:List bp)(key:ByteArray):Prop:=∀j,j<t.length->hit key (gl t j)=false
theorem Db{t:List bp}{key:ByteArray}(hL:1<=t.length)(hu:MJ t key)(hr:t.countP busy<t.length) :
 ∃d i,d<t.length/\(dK t.length key+d)%t.length=i/\i<t.length/\(gl t i).has=false/\(∀k,k<d->(gl t ((dK t.length key+k)%t.length)).has=true)/\bH t key=(-1,(i:Int)):=by
 obtain⟨i,h1,h2⟩:=Fo t hr;obtain⟨d,h3,h4⟩:=road (qB key hL) h1;obtain⟨d0,g1,g2,g3⟩:=first (p:=fun d=>!(gl t ((dK t.length key+d)%t.length)).has) d (by simp[h4,h2])
 simp only[Bool.not_eq_true',Bool.not_eq_false']at g2 g3;have:=Fl hL (show d0<t.length by omega) hu g2 g3 d0 0 (by omega);rw[Fm hL,Nat.sub_zero]at this;exact⟨d0,_,by omega,rfl,Nat.mod_lt _ hL,g2,g3,this⟩
theorem Ki{t:List bp}{i:Nat}(h:i<t.length):t=t.take i++gl t i::t.drop (i+1):=by
 rw[bT h,List.getElem_cons_drop,List.take_append_drop]
theorem Fp{t:List bp}{i:Nat}{q:bp}(h:i<t.length):t.set i q=t.take i++q::t.drop (i+1):=by
 rw[List.set_eq_take_append_cons_drop,if_pos h]
theorem yD(a b:List bp):eM (a++b)=eM a++eM b:=by simp[eM]
theorem p7(p:bp)(r:List bp):eM (p::r)=(if p.has then[nk p]else[])++eM r:=by
 unfold eM;rw[List.filter_cons];split<;>simp
theorem yE{t:List bp}{i:Nat}(h:i<t.length):eM t=eM (t.take i)++((if(gl t i).has then[nk (gl t i)]else[])++eM (t.drop (i+1))):=by
 conv=>lhs;rw[Ki h]
 rw[yD,p7]
theorem Dc{t:List bp}{i:Nat}{q:bp}(h:i<t.length):eM (t.set i q)=eM (t.take i)++((if q.has then[nk q]else[])++eM (t.drop (i+1))):=by
 rw[Fp h,yD,p7]
theorem MK{t:List bp}{i:Nat}(h:i<t.length):t.countP busy=(t.take i).countP busy+((t.drop (i+1)).countP busy+if busy (gl t i)then 1 else 0):=by
 conv=>lhs;rw[Ki h]
 rw[List.countP_append,List.countP_cons]
theorem HJ{t:List bp}{i:Nat}{q:bp}(h:i<t.length):(t.set i q).countP busy=(t.take i).countP busy+((t.drop (i+1)).countP busy+if busy q then 1 else 0):=by
 rw[Fp h,List.countP_append,List.countP_cons]
theorem yF{t:List bp}{k:ByteArray}{p:Int}:(k,p)∈eM t↔∃i,i<t.length/\(gl t i).has=true/\(gl t i).key=k/\(gl t i).pos=p:=by
 unfold eM;simp only[List.mem_map,List.mem_filter,nk,Prod.mk.injEq];constructor
 ·rintro⟨q,⟨h1,h2⟩,h3,h4⟩;obtain⟨i,hi,rfl⟩:=List.getElem_of_mem h1;exact⟨i,hi,by rw[bT hi];exact h2,by rw[bT hi];exact h3,by rw[bT hi];exact h4⟩
 ·rintro⟨i,h1,h2,h3,h4⟩;exact⟨_,⟨GD h1,h2⟩,h3,h4⟩
theorem ML{t:List bp}{k:ByteArray}:MJ t k↔k∉(eM t).map Prod.fst:=by
 constructor
 ·intro h hm;obtain⟨⟨k',p⟩,h1,rfl⟩:=List.mem_map.1 hm;obtain⟨i,h2,h3,h4,_⟩:=yF.1 h1;have:=h i h2;rw[vX.2 ⟨h3,h4⟩]at this;cases this
 ·intro h j hj;cases hh:hit k (gl t j)with
  |false=>rfl
  |true =>
   obtain⟨h1,h2⟩:=vX.1 hh;exact absurd (List.mem_map.2 ⟨(k,(gl t j).pos),yF.2 ⟨j,hj,h1,h2,rfl⟩,rfl⟩) h
structure Has(x:cW)(l:List (ByteArray×Int)):Prop where
 inv:Inv x
 perm:(eM x.t).Perm l
theorem Has.yG{x:cW}{l m:List (ByteArray×Int)}(h:Has x l)(p:l.Perm m):Has x m:=⟨h.inv,h.perm.trans p⟩
theorem Has.n{x:cW}{l:List (ByteArray×Int)}(h:Has x l):x.n=l.length:=by rw[h.inv.n,h.perm.length_eq]
theorem Has.mem{x:cW}{l:List (ByteArray×Int)}(h:Has x l){k:ByteArray}{p:Int}(hm:(k,p)∈l):∃i:Nat,i<x.t.length/\(gl x.t i).has=true/\(gl x.t i).key=k/\(gl x.t i).pos=p/\bH x.t k=((i:Int),(i:Int)):=by
 obtain⟨i,h1,h2,h3,h4⟩:=yF.1 (h.perm.mem_iff.2 hm);refine⟨i,h1,h2,h3,h4,?_⟩;rw[<- h3];exact A8 h.inv h1 h2
theorem Has.none{x:cW}{l:List (ByteArray×Int)}(h:Has x l){k:ByteArray}(hm:k∉l.map Prod.fst):MJ x.t k:=ML.2 fun hk=>hm ((h.perm.map _).mem_iff.1 hk)
theorem Inv.room{x:cW}(h:Inv x):x.t.countP busy<x.t.length:=by have:=h.half;have:=h.used;have:=h.lo;omega
theorem Has.sx{x:cW}{l:List (ByteArray×Int)}(h:Has x l){k:ByteArray}(hm:k∉l.map Prod.fst):(bH x.t k).1 = -1/\0<=(bH x.t k).2:=by
 obtain⟨d,i,_,_,_,_,_,e⟩:=Db (by have:=h.inv.lo;omega) (h.none hm) h.inv.room;rw[e];exact⟨rfl,by simp⟩
theorem Inv.set{x:cW}(h:Inv x){i:Nat}(hi:i<x.t.length){q:bp}(hb:bare q=false)(hs:q.key.size<=aq)
 (hd:q.has=true->∀j,j<x.t.length->j≠i->(gl x.t j).has=true->(gl x.t j).key≠q.key)
 (hp:q.has=true->∃d,d<x.t.length/\(dK x.t.length q.key+d)%x.t.length=i/\∀k,k<d->bare (gl x.t ((dK x.t.length q.key+k)%x.t.length))=false)
 {n' u':Nat} (hn:n'=(eM (x.t.set i q)).length) (hu:u'=(x.t.set i q).countP busy) (hh:2*u'<x.t.length+2):Inv ⟨x.t.set i q,n',u'⟩:=by
 have hl:(x.t.set i q).length=x.t.length:=by simp
 have key:∀j,gl (x.t.set i q) j=if i=j then q else gl x.t j:=by
  intro j;by_cases e:i=j
  ·subst e;rw[if_pos rfl,uH hi]
  ·rw[if_neg e,zn e]
 have bb:∀j,bare (gl x.t j)=false->bare (gl (x.t.set i q) j)=false:=by
  intro j hj;rw[key];split
  ·exact hb
  ·exact hj
 refine⟨by rw[hl];exact h.lo,by rw[hl];exact h.hi,hn,hu,by rw[hl];exact hh,fun j hj=>?_,fun a b ha hb' h1 h2 h3=>?_,fun j hj hj2=>?_⟩
 ·rw[hl]at hj;rw[key];split
  ·exact hs
  ·exact h.size j hj
 ·simp only[hl]at ha hb';simp only[key]at h1 h2 h3;by_cases e1:i=a
  ·by_cases e2:i=b
   ·omega
   ·rw[if_pos e1]at h1 h3;rw[if_neg e2]at h2 h3;exact absurd h3.symm (hd h1 b hb' (fun e=>e2 e.symm) h2)
  ·by_cases e2:i=b
   ·rw[if_neg e1]at h1 h3;rw[if_pos e2]at h2 h3;exact absurd h3 (hd h2 a ha (fun e=>e1 e.symm) h1)
   ·rw[if_neg e1]at h1 h3;rw[if_neg e2]at h2 h3;exact h.TO a b ha hb' h1 h2 h3
 ·simp only[hl]at hj ⊢;simp only[key]at hj2;by_cases e:i=j
  ·rw[if_pos e]at hj2;subst e;obtain⟨d,h1,h2,h3⟩:=hp hj2;rw[show gl (x.t.set i q) i=q by rw[key,if_pos rfl]];exact⟨d,h1,h2,fun k hk=>bb _ (h3 k hk)⟩
  ·rw[if_neg e]at hj2;obtain⟨d,h1,h2,h3⟩:=h.path j hj hj2;rw[show gl (x.t.set i q) j=gl x.t j by rw[key,if_neg e]];exact⟨d,h1,h2,fun k hk=>bb _ (h3 k hk)⟩
theorem Dd{p:bp}(h:p.has=true):busy p=true:=by simp[busy,bare,h]
theorem Qn{x:cW}{l:List (ByteArray×Int)}{k:ByteArray}{p q:Int}(h:Has x ((k,q)::l)):Has (mI x k p) ((k,p)::l)/\nV x k=q/\0<=(bH x.t k).1:=by
 obtain⟨i,h1,h2,h3,h4,h5⟩:=h.mem List.mem_cons_self;have e:mI x k p=⟨x.t.set i { gl x.t i with pos:=p },x.n,x.used⟩:=by
  unfold mI;rw[h5];simp
 have hk:(eM x.t).Perm ((k,q)::(eM (x.t.take i)++eM (x.t.drop (i+1)))):=by
  rw[yE h1,h2];have:nk (gl x.t i)=(k,q):=by simp[nk,h3,h4]
  rw[if_pos rfl,this];exact List.perm_middle
 have hk':(eM (x.t.set i { gl x.t i with pos:=p })).Perm ((k,p)::(eM (x.t.take i)++eM (x.t.drop (i+1)))):=by
  rw[Dc h1];simp only[h2,if_true,nk,h3];exact List.perm_middle
 have hl:(eM (x.t.take i)++eM (x.t.drop (i+1))).Perm l:=(List.perm_cons _).1 (hk.symm.trans h.perm);refine⟨⟨?_,?_⟩,by unfold nV;rw[h5];simp[h4],by rw[h5];simp⟩
 ·rw[e];refine h.inv.set (q:={ gl x.t i with pos:=p }) h1 (by simp[bare,h2]) (h.inv.size i h1) (fun _ j hj hne hj2 he=>hne (h.inv.TO j i hj h1 hj2 h2 he)) (fun _=>h.inv.path i h1 h2) ?_ ?_ h.inv.half
  ·rw[h.inv.n,hk.length_eq,hk'.length_eq];rfl
  ·rw[h.inv.used,MK h1,HJ h1,Dd h2,Dd (p:={ gl x.t i with pos:=p }) h2]
 ·rw[e];exact hk'.trans (hl.cons _)
theorem OH{x:cW}{l:List (ByteArray×Int)}{k:ByteArray}{p:Int}(h:Has x l)(hk:k∉l.map Prod.fst)(hs:k.size<=aq)(hr:2*x.used<x.t.length) :
 Has (mI x k p) ((k,p)::l)/\nV x k=0/\(bH x.t k).1<0/\0<=(bH x.t k).2/\(mI x k p).used<=x.used+1/\(mI x k p).n=x.n+1:=by
 obtain⟨d,i,h1,h2,h3,h4,h5,h6⟩:=Db (by have:=h.inv.lo;omega) (h.none hk) h.inv.room;have e:mI x k p=⟨x.t.set i ⟨k,p,true,false⟩,x.n+1,if(gl x.t i).gone then x.used else x.used+1⟩:=by
  unfold mI;rw[h6];simp
 have hp0:eM x.t=eM (x.t.take i)++eM (x.t.drop (i+1)):=by rw[yE h3,h4];simp
 have hp1:(eM (x.t.set i ⟨k,p,true,false⟩)).Perm ((k,p)::eM x.t):=by
  rw[Dc h3,hp0];simp only[if_true,nk];exact List.perm_middle
 have hb:busy (gl x.t i)=(gl x.t i).gone:=by simp[busy,bare,h4]
 refine⟨⟨?_,?_⟩,by unfold nV;rw[h6];simp,by rw[h6];simp,by rw[h6];simp,by rw[e];simp only;split<;>omega,by rw[e]⟩
 ·rw[e];refine h.inv.set (q:=⟨k,p,true,false⟩) h3 rfl hs (fun _ j hj hne hj2 he=>?_) (fun _=>⟨d,h1,h2,fun k hk=>by simp[bare,h5 k hk]⟩) ?_ ?_ (by split<;>omega)
  ·have:=h.none hk j hj;rw[vX.2 ⟨hj2,he⟩]at this;cases this
  ·rw[hp1.length_eq,List.length_cons,h.inv.n]
  ·rw[HJ h3,h.inv.used,MK h3,hb];cases hg:(gl x.t i).gone<;>simp[busy,bare]<;>omega
 ·rw[e];exact hp1.trans (h.perm.cons _)
def wI:bp:=⟨.empty,0,false,true⟩
def kQ(x:cW)(k:ByteArray):cW:=if 0<=(bH x.t k).1 then⟨x.t.set (bH x.t k).1.toNat wI,x.n-1,x.used⟩else x
theorem De{x:cW}{l:List (ByteArray×Int)}{k:ByteArray}{q:Int}(h:Has x ((k,q)::l)):Has (kQ x k) l/\0<=(bH x.t k).1:=by
 obtain⟨i,h1,h2,h3,h4,h5⟩:=h.mem List.mem_cons_self;have e:kQ x k=⟨x.t.set i wI,x.n-1,x.used⟩:=by unfold kQ;rw[h5];simp
 have hk:(eM x.t).Perm ((k,q)::(eM (x.t.take i)++eM (x.t.drop (i+1)))):=by
  rw[yE h1,h2];have:nk (gl x.t i)=(k,q):=by simp[nk,h3,h4]
  rw[if_pos rfl,this];exact List.perm_middle
 have hk':eM (x.t.set i wI)=eM (x.t.take i)++eM (x.t.drop (i+1)):=by rw[Dc h1];rfl
 have hl:(eM (x.t.take i)++eM (x.t.drop (i+1))).Perm l:=(List.perm_cons _).1 (hk.symm.trans h.perm);refine⟨⟨?_,?_⟩,by rw[h5];simp⟩
 ·rw[e];refine h.inv.set (q:=wI) h1 rfl (by unfold aq;decide) (fun hc=>by cases hc) (fun hc=>by cases hc) ?_ ?_ h.inv.half
  ·rw[h.inv.n,hk.length_eq,hk'];rfl
  ·rw[h.inv.used,MK h1,HJ h1,Dd h2];rfl
 ·rw[e,hk'];exact hl
theorem Qo{x:cW}{l:List (ByteArray×Int)}{k:ByteArray}(h:Has x l)(hk:k∉l.map Prod.fst):kQ x k=x:=by
 unfold kQ;rw[(h.sx hk).1];rfl
def low(p:Int)(q:bp):Bool:=q.has&&decide (q.pos<p)
def eO(t:List bp)(p:Int):Nat->List bp
 |0=>t
 |i+1=>if low p (gl t i)then(eO t p i).set i wI else eO t p i
def dA(t:List bp)(p:Int):Nat->Nat
 |0=>0
 |i+1=>dA t p i+if low p (gl t i)then 1 else 0
def vf(x:cW)(p:Int):cW:=⟨eO x.t p x.t.length,x.n-dA x.t p x.t.length,x.used⟩
theorem iV(t:List bp)(p:Int):∀i,(eO t p i).length=t.length
 |0=>rfl
 |i+1=>by unfold eO;split<;>simp[iV t p i]
theorem zZ(t:List bp)(p:Int):∀i,i<=t.length->∀j,gl (eO t p i) j=if j<i/\low p (gl t j)then wI else gl t j
 |0,_,j=>by simp[eO]
 |i+1,hi,j=>by
  have ih:=zZ t p i (by omega) j;unfold eO;by_cases h:low p (gl t i)=true
  ·rw[if_pos h];by_cases hj:i=j
   ·subst hj;rw[uH (by rw[iV];omega),if_pos ⟨by omega,h⟩]
   ·rw[zn hj,ih]
    grind
  ·rw[if_neg h,ih];by_cases hj:i=j
   ·subst hj;rw[if_neg (by simp),if_neg (fun hc=>h hc.2)]
   ·grind
theorem A9{x:cW}{l:List (ByteArray×Int)}(h:Has x l)(p:Int):∀i,i<=x.t.length ->
 Has ⟨eO x.t p i,x.n-dA x.t p i,x.used⟩ (((x.t.take i).filter fun q=>q.has&&!low p q).map nk++eM (x.t.drop i))/\dA x.t p i=((x.t.take i).filter (low p)).length
 |0,_=>⟨⟨h.inv,by simp[eO]⟩,rfl⟩
 |i+1,hi=>by
  obtain⟨⟨i1,i2⟩,i3⟩:=A9 h p i (by omega);have hT:=zZ x.t p i (by omega) i;rw[if_neg (by simp)]at hT;have hLen:=iV x.t p i;rw[gD (by omega),List.filter_append,List.filter_append,List.map_append,List.length_append,<- i3];have hdrop:eM (x.t.drop i)=(if(gl x.t i).has then[nk (gl x.t i)]else[])++eM (x.t.drop (i+1)):=by
   rw[<- p7,bT (by omega),List.getElem_cons_drop]
  rw[hdrop]at i2;by_cases hl:low p (gl x.t i)=true
  ·have hh:(gl x.t i).has=true:=by simp[low]at hl;exact hl.1
   have e1:eO x.t p (i+1)=(eO x.t p i).set i wI:=if_pos hl;have e2:dA x.t p (i+1)=dA x.t p i+1:=by show dA x.t p i+(if low p (gl x.t i)=true then 1 else 0)=_;rw[if_pos hl]
   have h0:Has ⟨eO x.t p i,x.n-dA x.t p i,x.used⟩ ((nk (gl x.t i))::(((x.t.take i).filter fun q=>q.has&&!low p q).map nk++eM (x.t.drop (i+1)))):=by
    refine⟨i1,i2.trans ?_⟩;rw[if_pos hh];exact List.perm_middle
   have h1:=De (x:=⟨eO x.t p i,x.n-dA x.t p i,x.used⟩) h0;have hf:=A8 i1 (i:=i) (by simp only;omega) (by simp only;rw[hT];exact hh);simp only at hf;rw[hT]at hf;have e3:kQ ⟨eO x.t p i,x.n-dA x.t p i,x.used⟩ (gl x.t i).key=⟨(eO x.t p i).set i wI,x.n-(dA x.t p i+1),x.used⟩:=by
    unfold kQ;simp only;rw[hf];simp;omega
   refine⟨?_,by rw[e2];simp[hl]⟩;rw[e1,e2,<- e3];simp only[List.filter_cons,hl,hh,Bool.not_true,Bool.and_false,List.filter_nil,List.map_nil,List.append_nil,Bool.false_eq_true,if_false];exact h1.1
  ·have e1:eO x.t p (i+1)=eO x.t p i:=if_neg hl;have e2:dA x.t p (i+1)=dA x.t p i:=by show dA x.t p i+(if low p (gl x.t i)=true then 1 else 0)=_;rw[if_neg hl];rfl
   refine⟨⟨?_,?_⟩,by rw[e2];simp[hl]⟩
   ·rw[e1,e2];exact i1
   ·rw[e1];refine i2.trans (.of_eq ?_);cases hh:(gl x.t i).has<;>simp[hl,hh]
theorem Fq{α:Type}(f:α->Bool):∀l:List α,l.length=(l.filter f).length+(l.filter fun e=>!f e).length
 |[]=>rfl
 |a::r=>by
  have:=Fq f r;cases h:f a<;>simp[List.filter_cons,h]<;>omega
theorem Qp{x:cW}{l:List (ByteArray×Int)}(h:Has x l)(p:Int):Has (vf x p) (l.filter fun e=>decide (p<=e.2))/\dA x.t p x.t.length=l.length-(l.filter fun e=>decide (p<=e.2)).length/\dA x.t p x.t.length<=l.length:=by
 obtain⟨h1,h2⟩:=A9 h p x.t.length (Nat.le_refl _);rw[List.take_length]at h1 h2;rw[List.drop_length]at h1;have e:((x.t.filter fun q=>q.has&&!low p q).map nk++eM [])=(eM x.t).filter fun e=>decide (p<=e.2):=by
  unfold eM;rw[List.filter_map,List.filter_filter];simp only[List.filter_nil,List.map_nil,List.append_nil];congr 1;apply List.filter_congr;intro q _;simp only[Function.comp,low,nk];by_cases hc:q.pos<p
  ·have hd:¬p<=q.pos:=by omega
   cases hq:q.has<;>simp[hc,hd]
  ·have hd:p<=q.pos:=by omega
   cases hq:q.has<;>simp[hc,hd]
 rw[e]at h1;have hp:=(h.perm.filter fun e=>decide (p<=e.2))
 have e2:(x.t.filter (low p)).length=((eM x.t).filter fun e=>!decide (p<=e.2)).length:=by
  unfold eM;rw[List.filter_map,List.length_map,List.filter_filter];congr 1;apply List.filter_congr;intro q _;simp only[Function.comp,low,nk];by_cases hc:q.pos<p
  ·have hd:¬p<=q.pos:=by omega
   cases hq:q.has<;>simp[hc,hd]
  ·have hd:p<=q.pos:=by omega
   cases hq:q.has<;>simp[hc,hd]
 have e3:=Fq (fun e:ByteArray×Int=>decide (p<=e.2)) (eM x.t);refine⟨h1.yG hp,?_,?_⟩
 ·rw[h2,e2,<- hp.length_eq,<- h.perm.length_eq];omega
 ·rw[h2,e2,<- h.perm.length_eq];omega
theorem vY{n:Nat}(h1:16<=n)(h2:n<=40000):Has (bM n) []:=by
 have key:∀i,i<n->gl (List.replicate n (⟨.empty,0,false,false⟩:bp)) i=⟨.empty,0,false,false⟩:=fun i hi=>tB hi;have he:eM (List.replicate n (⟨.empty,0,false,false⟩:bp))=[]:=by simp[eM]
 refine⟨⟨by simpa[bM]using h1,by simpa[bM]using h2,?_,?_,by simp only[bM,List.length_replicate];omega,fun i hi=>?_,fun i j hi hj h=>?_,fun i hi h=>?_⟩,by simp only[bM];rw[he]⟩
 ·simp only[bM];rw[he];rfl
 ·simp[bM,List.countP_replicate,busy,bare]
 ·simp only[bM,List.length_replicate]at hi ⊢;rw[key i hi];simp only[aq];decide
 ·simp only[bM,List.length_replicate]at hi h;rw[key i hi]at h;cases h
 ·simp only[bM,List.length_replicate]at hi h;rw[key i hi]at h;cases h
theorem Df{x:cW}(h:Inv x){i:Nat}(hi:i<x.t.length)(hh:(gl x.t i).has=true):(gl x.t i).key∉(eM (x.t.take i)).map Prod.fst:=by
 intro hm;obtain⟨⟨k,p⟩,h1,h2⟩:=List.mem_map.1 hm;obtain⟨j,h3,h4,h5,_⟩:=yF.1 h1;rw[List.length_take]at h3;rw[Ol (by omega)]at h4 h5;have:=h.TO j i (by omega) hi h4 hh (h5.trans h2);omega
theorem grow_step{x:cW}(h:Inv x)(hn:x.n<10000):∀i,i<=x.t.length ->
 Has (ee x.t (bM (max 16 (4*x.n))) i) (eM (x.t.take i))/\(ee x.t (bM (max 16 (4*x.n))) i).used<=(ee x.t (bM (max 16 (4*x.n))) i).n
 |0,_=>⟨by simpa[ee,eM]using vY (n:=max 16 (4*x.n)) (by omega) (by omega),Nat.le_refl _⟩
 |i+1,hi=>by
  obtain⟨h1,h2⟩:=grow_step h hn i (by omega);have hT:=gD (l:=x.t) (i:=i) (by omega);rw[hT,yD];unfold ee;by_cases hh:(gl x.t i).has=true
  ·rw[if_pos hh];have hcount:(eM (x.t.take i)).length+1<=x.n:=by
    rw[h.n,yE (show i<x.t.length by omega),if_pos hh];simp
   have hlen:(ee x.t (bM (max 16 (4*x.n))) i).t.length=max 16 (4*x.n):=by rw[lV];simp[bM]
   obtain⟨g1,g2,g3,g4,g5,g6⟩:=OH (p:=(gl x.t i).pos) h1 (Df h (by omega) hh) (h.size i (by omega)) (by rw[hlen];have:=h1.n;omega);refine⟨g1.yG ?_,by omega⟩;rw[p7,if_pos hh];simp only[eM,List.filter_nil,List.map_nil,List.append_nil];exact(List.perm_append_singleton _ _).symm
  ·rw[if_neg hh,p7,if_neg hh];simp only[eM,List.filter_nil,List.map_nil,List.append_nil];exact⟨h1,h2⟩
theorem TP{x:cW}(h:Inv x)(hn:x.n<10000):∀i,i<x.t.length->(gl x.t i).has=true->2*(ee x.t (bM (max 16 (4*x.n))) i).used<max 16 (4*x.n)/\(ee x.t (bM (max 16 (4*x.n))) i).n<100000 /\
 ((bH (ee x.t (bM (max 16 (4*x.n))) i).t (gl x.t i).key).1<0->0<=(bH (ee x.t (bM (max 16 (4*x.n))) i).t (gl x.t i).key).2):=by
 intro i hi hh;obtain⟨h1,h2⟩:=grow_step h hn i (by omega);have hcount:(eM (x.t.take i)).length+1<=x.n:=by
  rw[h.n,yE hi,if_pos hh];simp
 have:=h1.n;exact⟨by omega,by omega,fun _=>(h1.sx (Df h hi hh)).2⟩
theorem TQ{x:cW}{l:List (ByteArray×Int)}(h:Has x l)(hn:x.n<10000):Has (lW x) l/\2*(lW x).used<(lW x).t.length:=by
 obtain⟨h1,h2⟩:=grow_step h.inv hn x.t.length (Nat.le_refl _);rw[List.take_length]at h1;refine⟨h1.yG h.perm,?_⟩;have hlen:(lW x).t.length=max 16 (4*x.n):=by unfold lW;rw[lV];simp[bM]
 have e1:=h1.n;have e2:=h.inv.n;rw[hlen];unfold lW;omega
def roomy(x:cW):cW:=if x.t.length<=2*x.used then lW x else x
def ug(x:cW)(k:ByteArray)(p:Int):cW:=mI (roomy x) k p
theorem z1{x:cW}{l:List (ByteArray×Int)}(h:Has x l)(hn:x.n<10000):Has (roomy x) l/\2*(roomy x).used<(roomy x).t.length:=by
 unfold roomy;split
 ·exact TQ h hn
 ·exact⟨h,by omega⟩
theorem MM{x:cW}{l:List (ByteArray×Int)}{k:ByteArray}{p q:Int}(h:Has x ((k,q)::l))(hn:x.n<10000):Has (ug x k p) ((k,p)::l)/\nV (roomy x) k=q :=
 let h1:=z1 h hn
 let h2:=Qn (p:=p) h1.1
 ⟨h2.1,h2.2.1⟩
theorem TR{x:cW}{l:List (ByteArray×Int)}{k:ByteArray}{p:Int}(h:Has x l)(hn:x.n<10000)(hk:k∉l.map Prod.fst)(hs:k.size<=aq):Has (ug x k p) ((k,p)::l)/\nV (roomy x) k=0 :=
 let h1:=z1 h hn
 let h2:=OH (p:=p) h1.1 hk hs h1.2
 ⟨h2.1,h2.2.1⟩
theorem Has.free{x:cW}{l:List (ByteArray×Int)}(h:Has x l)(k:ByteArray)(hf:(bH x.t k).1<0):0<=(bH x.t k).2:=by
 by_cases hk:k∈l.map Prod.fst
 ·obtain⟨⟨k',p⟩,h1,rfl⟩:=List.mem_map.1 hk;obtain⟨i,_,_,_,_,e⟩:=h.mem h1;rw[e]at hf;simp at hf;omega
 ·exact(h.sx hk).2
def xI(x:cW)(k:ByteArray):Int×Bool:=if 0<=(bH x.t k).1 then((gl x.t (bH x.t k).1.toNat).pos,true)else(0,false)
theorem Fs{x:cW}{l:List (ByteArray×Int)}(h:Has x l){k:ByteArray}{p:Int}(hm:(k,p)∈l):xI x k=(p,true):=by
 obtain⟨i,_,_,_,h4,e⟩:=h.mem hm;unfold xI;rw[e];simp[h4]
theorem get_none{x:cW}{l:List (ByteArray×Int)}(h:Has x l){k:ByteArray}(hm:k∉l.map Prod.fst):xI x k=(0,false):=by
 unfold xI;rw[(h.sx hm).1];rfl
noncomputable def CE:cE where
 α:=mH
 β:=Nat
 m:=2
 m':=3
 pre:=fun a=>Inv a.x/\a.x.n<9999/\a.key.size<=aq
 args:=fun a=>[.a (.ptr 0 0 0 0),.a (.str a.key),.a (.int .i64 a.pos)]
 hp:=fun a=>pM 0 1 a.x.t a.cap a.x.n a.x.used
 ro:=fun _=>[]
 post:=fun _ _=>True
 res:=fun a _=>.a (.int .i64 (nV (roomy a.x) a.key))
 cZ:=fun a cap=>pM 0 2 (ug a.x a.key a.pos).t cap (ug a.x a.key a.pos).n (ug a.x a.key a.pos).used
def _root_.MN(y:Ix.mH)(z:Ix.cW)(v:Nat):Ix.nI->Prop:=fun(w:Ix.nI)=>OF y w z v (∃u:Nat,OG z w (Ix.roomy y.x) y (Ix.ug y.x y.key y.pos) v u) (∃u:Nat,Fj (Ix.roomy y.x) y z (Ix.ug y.x y.key y.pos) v u (af z.used+(1:Int)) w) (∃u:Nat,Fj (Ix.roomy y.x) y z (Ix.ug y.x y.key y.pos) v u (af z.used) w)
def _root_.z6(y:Ix.mH):=Ix.Inv y.x/\y.x.n<9999/\bh y.key<=aq
theorem GI:fnBody (Y Tryz.prog) [(168,Fi),(167,TL)] 123 CE fun _=>[]:=fnBody.of (p :=
 ∀y:Ix.mH,z6 y->ah (af y.x.used)->th ((2:Int)*af y.x.used) (af (bJ y.x)) (∃z:Ix.A7,ag (ag (bJ y.x=bJ z.x/\y.cap=z.cap)/\zX y.x z.x (bJ y.x) (HH z) (∀u:Nat,True->Exists (MN y (Ix.lW z.x) u)))) (Exists (MN y y.x y.cap))) (by kernel_rfl) (by
 delta az aK ah bx bJ cF af bh bD aC dV aX bq bV aW OF Fj aI OG bL nj ni xH aS cC gm HH ag MN cV zX zW bg nW eE bz rK dR th iE dh z6
 try dsimp -iota -proj only
 intro a h;obtain⟨h1,h2,h3⟩:=h;obtain⟨g1,g2⟩:=z1 (Has.mk h1 (List.Perm.refl _)) (show a.x.n<10000 by omega);have k1:=h1.lo;have k2:=h1.hi;have k3:=h1.half;simp only[Nat.zero_add,bR];refine fun _=>⟨by omega,fun hc=>?_,fun hc=>?_⟩
 ·have hr:roomy a.x=lW a.x:=if_pos (by simp at hc;omega);have hpx:ug a.x a.key a.pos=mI (lW a.x) a.key a.pos:=by unfold ug;rw[hr]
  have hn:(lW a.x).n=a.x.n:=by rw[hr]at g1;rw[g1.n,h1.n]
  have hm:=TP h1 (show a.x.n<10000 by omega);simp only[hr,hpx]at g1 g2 ⊢;refine⟨⟨a.x,a.cap⟩,?_⟩;dsimp only
  and_intros<;>first|exact trivial|rfl|omega|exact ak.refl _ _ _|exact h1.size|exact hm|skip
  refine fun cap _=>⟨⟨(lW a.x).t,cap,(lW a.x).n,(lW a.x).used,a.key⟩,?_⟩
  generalize lW a.x=y at *;have m1:=g1.inv.lo;have m2:=g1.inv.hi;have m3:=g1.inv.half;obtain⟨l1,l2⟩:=ve (t:=y.t) a.key (by omega);have l3:=g1.free a.key;have hl:=oG y a.key a.pos;have yes:0<=(bH y.t a.key).1->mI y a.key a.pos={ y with t:=y.t.set (bH y.t a.key).1.toNat { gl y.t (bH y.t a.key).1.toNat with pos:=a.pos } }:=fun e=>if_pos e;have no:¬0<=(bH y.t a.key).1->mI y a.key a.pos=⟨y.t.set (bH y.t a.key).2.toNat ⟨a.key,a.pos,true,false⟩,y.n+1,if(gl y.t (bH y.t a.key).2.toNat).gone then y.used else y.used+1⟩:=fun e=>if_neg e;dsimp only
  repeat' (first|intro _|apply And.intro|apply Exists.intro (cap:Nat))
  all_goals(try with_reducible rfl)
  all_goals(try simp only[decide_eq_true_eq,decide_eq_false_iff_not,Bool.not_eq_true',Bool.not_eq_false']at *)
  all_goals(try exact trivial)
  all_goals(try omega)
  all_goals(try(grind [nV]))
  all_goals(try(with_reducible exact ak.refl _ _ _))
  all_goals(first|(rw[yes (by assumption)];refine .set _ (by omega) (fun i hi=>by simp only[gU hi]) ?_;simp only[jh];rfl)|(rw[no (by assumption)];refine .set _ (by omega) (fun i hi=>by simp only[gU hi]) ?_;simp only[jh];rfl))
 ·have hr:roomy a.x=a.x:=if_neg (by simp at hc;omega);have hpx:ug a.x a.key a.pos=mI a.x a.key a.pos:=by unfold ug;rw[hr]
  simp only[hr,hpx]at g1 g2 ⊢;refine⟨⟨a.x.t,a.cap,a.x.n,a.x.used,a.key⟩,?_⟩;have hn:a.x.n=a.x.n:=rfl;obtain⟨cap,hcap⟩:∃cap,cap=a.cap:=⟨_,rfl⟩
  rw[<- hcap];generalize hy:a.x=y at *;have m1:=g1.inv.lo;have m2:=g1.inv.hi;have m3:=g1.inv.half;obtain⟨l1,l2⟩:=ve (t:=y.t) a.key (by omega);have l3:=g1.free a.key;have hl:=oG y a.key a.pos;have yes:0<=(bH y.t a.key).1->mI y a.key a.pos={ y with t:=y.t.set (bH y.t a.key).1.toNat { gl y.t (bH y.t a.key).1.toNat with pos:=a.pos } }:=fun e=>if_pos e;have no:¬0<=(bH y.t a.key).1->mI y a.key a.pos=⟨y.t.set (bH y.t a.key).2.toNat ⟨a.key,a.pos,true,false⟩,y.n+1,if(gl y.t (bH y.t a.key).2.toNat).gone then y.used else y.used+1⟩:=fun e=>if_neg e;dsimp only
  repeat' (first|intro _|apply And.intro|apply Exists.intro (cap:Nat))
  all_goals(try with_reducible rfl)
  all_goals(try simp only[decide_eq_true_eq,decide_eq_false_iff_not,Bool.not_eq_true',Bool.not_eq_false']at *)
  all_goals(try exact trivial)
  all_goals(try omega)
  all_goals(try(grind [nV]))
  all_goals(try(with_reducible exact ak.refl _ _ _))
  all_goals(first|(rw[yes (by assumption)];refine .set _ (by omega) (fun i hi=>by simp only[gU hi]) ?_;simp only[jh];rfl)|(rw[no (by assumption)];refine .set _ (by omega) (fun i hi=>by simp only[gU hi]) ?_;simp only[jh];rfl)))
structure uh where
 x:cW
 cap:Nat
 key:ByteArray
noncomputable def JP:cE where
 α:=uh
 β:=Unit
 m:=2
 m':=2
 pre:=fun a=>Inv a.x/\a.key.size<=aq
 args:=fun a=>[.a (.ptr 0 0 0 0),.a (.str a.key)]
 hp:=fun _=>[]
 ro:=fun a=>pM 0 1 a.x.t a.cap a.x.n a.x.used
 post:=fun _ _=>True
 res:=fun a _=>.mG [.a (.int .i64 (xI a.x a.key).1),.a (.bool (xI a.x a.key).2)]
 cZ:=fun _ _=>[]
theorem GJ:fnBody (Y Tryz.prog) [(168,Fi)] 212 JP fun _=>[]:=fnBody.of (p :=
 ∀y:Ix.uh,Ix.Inv y.x/\bh y.key<=aq->∃z:Ix.nI,xH y.key z y.x y.cap (aH (Ix.bH z.t z.key).fst 0) (Exists (ay ((0:Int)=(Ix.xI y.x y.key).fst/\fC (Ix.xI y.x y.key).snd True True))) (Ix.bH z.t z.key).fst (ah (gl y.x.t (rK z)).pos->Exists (ay ((gl y.x.t (rK z)).pos=(Ix.xI y.x y.key).fst/\bl (true=(Ix.xI y.x y.key).snd))))) (by kernel_rfl) (by
 delta az aK ah bJ cF aH af bh aC aX fC bq aW aI xH ay ag cV nW bl bz rK iE dh
 try dsimp -iota -proj only
 intro a h;obtain⟨h1,h2⟩:=h;have k1:=h1.lo;have k2:=h1.hi;obtain⟨l1,l2⟩:=ve (t:=a.x.t) a.key (by omega);refine⟨⟨a.x.t,a.cap,a.x.n,a.x.used,a.key⟩,?_⟩;simp only[Nat.zero_add,bR]
 repeat' (first|intro _|apply And.intro|apply Exists.intro ())
 all_goals(try with_reducible rfl)
 all_goals(try simp only[decide_eq_true_eq,decide_eq_false_iff_not]at *)
 all_goals(try exact trivial)
 all_goals(try omega)
 all_goals(try(with_reducible exact ak.refl _ _ _))
 all_goals(try(grind [xI])))
noncomputable def OI:cE where
 α:=uh
 β:=Unit
 m:=2
 m':=2
 pre:=fun a=>Inv a.x/\a.x.n<10000/\a.key.size<=aq/\(0<=(bH a.x.t a.key).1->1<=a.x.n)
 args:=fun a=>[.a (.ptr 0 0 0 0),.a (.str a.key)]
 hp:=fun a=>pM 0 1 a.x.t a.cap a.x.n a.x.used
 ro:=fun _=>[]
 post:=fun _ _=>True
 res:=fun a _=>.a (.bool (decide (0<=(bH a.x.t a.key).1)))
 cZ:=fun a _=>pM 0 1 (kQ a.x a.key).t a.cap (kQ a.x a.key).n (kQ a.x a.key).used
def _root_.z7(y:Ix.uh):=Ix.Inv y.x/\y.x.n<10000/\bh y.key<=aq/\((0:Int)<=(Ix.bH y.x.t y.key).fst->1<=y.x.n)
theorem TS:fnBody (Y Tryz.prog) [(168,Fi)] 180 OI fun _=>[]:=fnBody.of (p :=
 ∀y:Ix.uh,z7 y->∃z:Ix.nI,xH y.key z y.x y.cap (aH (Ix.bH z.t z.key).fst 0) (Exists (ay (fC (cC 0 (Ix.bH y.x.t y.key).fst) (ag (bJ y.x=bJ (Ix.kQ y.x y.key)/\y.cap=y.cap)) (zX y.x (Ix.kQ y.x y.key) (bJ y.x) True True)))) (Ix.bH z.t z.key).fst (nc (af y.x.n) 1 (Exists (ay (true=cC 0 (Ix.bH y.x.t y.key).fst/\ni (bJ y.x) (Ix.kQ y.x y.key) y.cap y.cap (eu y.x.n) (af y.x.used) (kq (dh y.x.t) (rK z) 0 (eE cO 0 (bV gm (bD (dR true))))) True))))) (by kernel_rfl) (by
 delta az aK ah bx bJ cO cF aH af bh bD aC dV aX fC bq bV aW aI bL ni xH ay cC gm ag cV zX z7 nW eE bz nc rK dR eu iE dh
 try dsimp -iota -proj only
 intro a h;obtain⟨h1,h2,h3,h4⟩:=h;have k1:=h1.lo;have k2:=h1.hi;obtain⟨l1,l2⟩:=ve (t:=a.x.t) a.key (by omega);have yes:0<=(bH a.x.t a.key).1->kQ a.x a.key=⟨a.x.t.set (bH a.x.t a.key).1.toNat wI,a.x.n-1,a.x.used⟩:=fun e=>if_pos e;have no:¬0<=(bH a.x.t a.key).1->kQ a.x a.key=a.x:=fun e=>if_neg e;refine⟨⟨a.x.t,a.cap,a.x.n,a.x.used,a.key⟩,?_⟩;simp only[Nat.zero_add,bR]
 repeat' (first|intro _|apply And.intro|apply Exists.intro ())
 all_goals(try with_reducible rfl)
 all_goals(try simp only[decide_eq_true_eq,decide_eq_false_iff_not]at *)
 all_goals(try exact trivial)
 all_goals(try omega)
 all_goals(try(with_reducible exact ak.refl _ _ _))
 all_goals(try(grind))
 all_goals(first|(rw[yes (by omega)];refine .set _ (by omega) (fun i hi=>by simp only[gU hi]) ?_;simp only[jh];rfl)|(rw[no (by omega)];exact ak.refl _ _ _)|skip))
structure MO where
 x:cW
 cap:Nat
 pos:Int
noncomputable def MP:cE where
 α:=MO
 β:=Unit
 m:=2
 m':=2
 pre:=fun a=>Inv a.x/\a.x.n<10000/\dA a.x.t a.pos a.x.t.length<=a.x.n
 args:=fun a=>[.a (.ptr 0 0 0 0),.a (.int .i64 a.pos)]
 hp:=fun a=>pM 0 1 a.x.t a.cap a.x.n a.x.used
 ro:=fun _=>[]
 post:=fun _ _=>True
 res:=fun a _=>.a (.int .i64 (dA a.x.t a.pos a.x.t.length))
 cZ:=fun a _=>pM 0 1 (vf a.x a.pos).t a.cap (vf a.x a.pos).n (vf a.x a.pos).used
def Yr(a:MO):An:=.flat 5 Nat (fun s i=>((s.at_ (s.fu (s.tg 0) 0) (.arr 251 Yq a.x.t.length (aa Bw (eO a.x.t a.pos i)))).int 15 i).int 5 (dA a.x.t a.pos i))
 (fun _ i=>i<=a.x.t.length) (fun _ i=>a.x.t.length-i)
def _root_.wJ(y:Bool)(z:Int)(u:Bool)(v x:Prop):=az y (ah z->az u v x) x
def _root_.HK(y:Ix.MO)(z:Nat->Nat->Value)(u:Nat)(v:Prop):=dY (bJ y.x) y.cap (mQ (aD y.pos/\bG (bJ y.x) y.cap/\bZ (af y.x.n) (af y.x.used) (aK (bJ y.x) (bJ y.x) 4 z (dh (Ix.eO y.x.t y.pos u))) v))
def _root_.HL(y:Ix.MO):=Ix.Inv y.x/\y.x.n<10000/\Ix.dA y.x.t y.pos (bJ y.x)<=y.x.n
theorem Qq:fnBody (Y Tryz.prog) [] 163 MP fun a=>[(163,[Yr a],[])]:=fnBody.of (p :=
 ∀y:Ix.MO,HL y->(∃z:Nat,aF (Ix.dA y.x.t y.pos z) (aF z (HK y (dh y.x.t) z (z<=bJ y.x/\True))))/\∀z:Nat,ga z (bJ y.x) (wJ (Ix.bp.has (jT (Ix.eO y.x.t y.pos z) z)) (Ix.bp.pos (jT (Ix.eO y.x.t y.pos z) z)) (aH (Ix.bp.pos (jT (Ix.eO y.x.t y.pos z) z)) y.pos) (dX z (bJ y.x) (aS (Ix.dA y.x.t y.pos z)/\aS z/\∃u:Nat,br (Ix.dA y.x.t y.pos z) (Ix.dA y.x.t y.pos u)/\br z u/\HK y (kq (dh (Ix.eO y.x.t y.pos z)) (0+aA z) 0 (eE cO 0 (bV gm (bD (dR true))))) u (bU u (bJ y.x) z))) (aS z/\∃u:Nat,bz (Ix.dA y.x.t y.pos z) (Ix.dA y.x.t y.pos u)/\br z u/\HK y (dh (Ix.eO y.x.t y.pos z)) u (bU u (bJ y.x) z))) (nc (af y.x.n) (af (Ix.dA y.x.t y.pos z)) (Exists (ay (bz (Ix.dA y.x.t y.pos z) (Ix.dA y.x.t y.pos (bJ y.x))/\ni (bJ y.x) (Ix.vf y.x y.pos) y.cap y.cap (af y.x.n-af (Ix.dA y.x.t y.pos z)) (af y.x.used) (dh (Ix.eO y.x.t y.pos z)) True))))) (by kernel_rfl) (by
 delta az bZ aK ah bx b8 aA aD bE bJ cO cF aH af bD aC dV aX bq bV aW wJ gz bN bG bL bU dY ni aV ay aS gm aF ag aY HK cV br ga bu eE bz nc dX dR dh mQ jT HL
 try dsimp -iota -proj only
 intro a h;obtain⟨h1,h2,h3⟩:=h;have k1:=h1.lo;have k2:=h1.hi;simp only[Nat.zero_add,bR];have hlen:=iV a.x.t a.pos;refine⟨⟨0,?_⟩,fun i hi=>?_⟩
 ·and_intros<;>(first|exact trivial|rfl|omega|assumption|exact ak.refl _ _ _|(simp only[bR];omega)|(simp;done)|(simp;omega)|grind)
 ·have hat:=zZ a.x.t a.pos i hi i;rw[if_neg (by simp)]at hat;have sy:low a.pos (gl a.x.t i)=true->eO a.x.t a.pos (i+1)=(eO a.x.t a.pos i).set i wI:=fun e=>if_pos e;have sn:¬low a.pos (gl a.x.t i)=true->eO a.x.t a.pos (i+1)=eO a.x.t a.pos i:=fun e=>if_neg e;have ny:low a.pos (gl a.x.t i)=true->dA a.x.t a.pos (i+1)=dA a.x.t a.pos i+1:=fun e=>by show _+(if _ then 1 else 0)=_;rw[if_pos e]
  have nn:¬low a.pos (gl a.x.t i)=true->dA a.x.t a.pos (i+1)=dA a.x.t a.pos i:=fun e=>by show _+(if _ then 1 else 0)=_;rw[if_neg e];rfl
  have hn:∀i,dA a.x.t a.pos i<=i:=by
   intro i
   induction i with
   |zero=>exact Nat.le_refl _
   |succ i ih=>show _+(if _ then 1 else 0)<=_;split<;>omega
  have hn1:=hn i;have hfin:¬i<a.x.t.length->vf a.x a.pos=⟨eO a.x.t a.pos i,a.x.n-dA a.x.t a.pos i,a.x.used⟩/\dA a.x.t a.pos a.x.t.length=dA a.x.t a.pos i:=fun e=>by
   have:i=a.x.t.length:=by omega
   rw[this];exact⟨rfl,rfl⟩
  have ll:∀q:bp,low a.pos q=true↔q.has=true/\q.pos<a.pos:=fun q=>by simp[low]
  simp only[Int.toNat_natCast,hat]at *;clear hlen
  repeat' (first|intro _|apply And.intro|apply Exists.intro (i+1:Nat)|apply Exists.intro ())
  all_goals(try with_reducible rfl)
  all_goals(try simp only[decide_eq_true_eq,decide_eq_false_iff_not,iV]at *)
  all_goals(try exact trivial)
  all_goals(try omega)
  all_goals(try(with_reducible exact ak.refl _ _ _))
  all_goals first
   |(rw[ny ((ll _).2 ⟨by assumption,by assumption⟩)];done)
   |(rw[ny ((ll _).2 ⟨by assumption,by assumption⟩)];rfl)
   |rfl
   |(rw[nn (fun e=>by have:=(ll _).1 e;grind)];done)
   |(rw[sy ((ll _).2 ⟨by assumption,by assumption⟩)];refine .set _ (by rw[iV];omega) (fun i hi=>by simp only[gU hi]) ?_;simp only[jh];rfl)
   |(rw[sn (fun e=>by have:=(ll _).1 e;grind)];exact ak.refl _ _ _)
   |(rw[(hfin (by omega)).2];done)
   |(have hf:=hfin (by omega);rw[hf.1];first|rfl|omega|exact ak.refl _ _ _|(simp only;omega)|(simp only[iV];first|done|exact Nat.le_refl _)))
theorem BJ:au (Y Tryz.prog).G.X 123 CE:=aU fL GI ⟨yC,TN,trivial⟩
theorem BK:au (Y Tryz.prog).G.X 212 JP:=aU fL GJ ⟨yC,trivial⟩
theorem Kj:au (Y Tryz.prog).G.X 180 OI:=aU fL TS ⟨yC,trivial⟩
theorem Qr:au (Y Tryz.prog).G.X 163 MP:=aU fL Qq trivial
end Go.Proofs.YtfjgoonelcaggaaGreat.Ix
namespace Go.Proofs.YtfjgoonelcaggaaGreat
open Go.Sx
@[reducible] def yH(a b:Ix.cW)(v w:Nat)(p:Prop):Prop:=(0=0/\a.t.length=b.t.length/\v=w)/\(↑a.n:Int)=(↑b.n:Int)/\(↑a.used:Int)=(↑b.used:Int)/\(b.t.length<=a.t.length/\ak b.t.length 4 (aa Ix.Bw a.t) (aa Ix.Bw b.t))/\p
def fR:aB:=⟨.empty,.empty,0,false⟩
def aJ:Option aB->List Int
 |none=>[2]
 |some x=>1::dm x
theorem vg(m:Nat)(n:Int)(h:2*n.toNat<128^(m+1)):(vi n).length<=m+1:=zz 9 m _ h
theorem Ft{x:aB}(h:gf x=true):(dm x).length<=x.key.size+x.val.size+10/\1<=(dm x).length:=by
 obtain⟨k1,k2,k3,k4⟩:=qR h;have a1:=vg 0 (x.key.size:Nat) (by simp;omega);have a2:=vg 1 (x.val.size:Nat) (by simp;omega);have a3:=vg 5 x.e (by simp;omega);have a4:(vi (if x.gone then 1 else 0)).length<=1:=by split<;>exact vg 0 _ (by decide)
 have a5:=(iR (x.key.size:Nat)).1;simp only[dm,eV,iw,List.flatMap_cons,List.flatMap_nil,List.append_nil,List.length_append,je];omega
theorem mu{o:Option aB}(h:∀x,o=some x->gf x=true):1<=(aJ o).length/\(aJ o).length<=251:=by
 cases o with
 |none=>simp[aJ]
 |some x =>
  have h1:=h x rfl;have:=Ft h1;have:=qR h1;simp only[aJ,List.length_cons];omega
structure z8 where
 o:Option aB
 cap:Nat
noncomputable def vh:cE where
 α:=z8
 β:=Unit
 m:=1
 m':=1
 pre:=fun a=>(∀x,a.o=some x->gf x=true)/\(aJ a.o).length<=a.cap
 args:=fun a=>[.a (.slc 0 0 1 (aJ a.o).length a.cap)]
 hp:=fun _=>[]
 ro:=fun a=>jv 0 (aJ a.o)
 post:=fun _ _=>True
 res:=fun a _=>.mG [.agg (CJ (a.o.getD fR)),.a (.bool a.o.isSome)]
 cZ:=fun _ _=>[]
def jA(x:Option aB):aB:=x.getD fR
def wK(y:Bool)(x:Option aB)(z:Prop):=az y (Exists (ay (cO=aB.key (jA x)/\cO=aB.val (jA x)/\(0:Int)=aB.e (jA x)/\fC (aB.gone (jA x)) (false=x.isSome) (True/\True)))) z
def Aa(x:Option aB)(z:Nat):=(∀y:aB,x=some y->aC (gf y))/\ai (aJ x)<=z
def Ab(y:aB)(x:Option aB)(z:Bool):Unit->Prop:=ay (qs y (jA x) (bl (z=x.isSome)))
theorem Fu:fnBody (Y Tryz.prog) [(210,Wi)] 179 vh fun _=>[]:=fnBody.of (p :=
 ∀y:z8,Aa y.o y.cap->wK (aH (af (ai (aJ y.o))) 1) y.o (cV 0 (ai (aJ y.o)) 0 (jQ (gl (aJ y.o) 0)->wK (gl (aJ y.o) 0 != (1:Int)) y.o (dc 1 (ai (aJ y.o))/\∃z:EB,(1=z.r/\ai (aJ y.o)-1=ai (dm z.x)/\y.cap-1=z.cap)/\ct z.l (aJ y.o) cH/\GX z/\∀u:Nat,True->wK false y.o (bq 0 1/\0<1/\Exists (Ab (gl [z.x] 0) y.o true)))))) (by kernel_rfl) (by
 delta az ai aK cO cF aH af aC fC bq aW ct dS wK qs uS ay cV jA bl jQ Aa dc Ab GX
 try dsimp -iota -proj only
 rintro⟨o,cap⟩ ⟨h1,h2⟩;dsimp only at *;have hl:=mu h1;cases o with
 |none =>
  have e0:gl (aJ none) 0=2:=rfl;refine⟨fun c=>by exfalso;have:=of_decide_eq_true c;omega,fun _=>?_⟩
  repeat refine lB ?_
  rw[e0];exact fun _=>⟨fun _=>⟨(),by and_intros<;>first|trivial|rfl⟩,fun c=>absurd c (by decide)⟩
 |some x =>
  have e0:gl (aJ (some x)) 0=1:=rfl;have e1:(aJ (some x)).length=(dm x).length+1:=by simp[aJ]
  have hm:=h1 x rfl;have e2:∀i,i<(dm x).length->gl (aJ (some x)) (1+i)=gl (dm x) i:=fun i _=>by
   show gl (([1]:List Int)++dm x) (([1]:List Int).length+i)=_;rw[bf]
  refine⟨fun c=>by exfalso;have:=of_decide_eq_true c;omega,fun _=>?_⟩
  repeat refine lB ?_
  rw[e0];refine fun _=>⟨fun c=>absurd c (by decide),fun _=>?_⟩
  repeat refine lB ?_
  refine⟨EB.mk (aJ (some x)) 1 (cap-1) x,?_⟩
  (repeat' (first|apply And.intro|(intro _)|apply Exists.intro ()))<;>first|exact dg|exact hm|exact e2 _ (by assumption)|rfl|(exfalso;simp at *;done)|skip)
theorem Qs:au (Y Tryz.prog).G.X 179 vh:=aU fL Fu ⟨Ot,trivial⟩
def BO(a:z8):Zy:=⟨5,[.int .u8],(aJ a.o).length,a.cap,aa cH (aJ a.o)⟩
noncomputable def OJ:cE:=vh.Wq BO
theorem TT:l8 (Y Tryz.prog).G.X vh 179:=BH fL (fun _=>BI fL (jk:=[(210,Wi)]) ⟨Ot,trivial⟩) Fu.body
theorem MQ:au (Y Tryz.prog).G.X 179 OJ:=fun _ _ _ h=>vR (Ka TT ⟨rfl,fun _=>rfl,fun _=>rfl,fun _=>rfl,fun _ _=>rfl,fun _ _ p hp=>(by cases hp)⟩) h
structure ou where
 L:bQ
 d:bA
 l:List (ByteArray×Int)
structure sA where
 H:PH
 y:iu
 x:Ix.cW
 cap:Nat
def EE(c lg dv ds ix it pl:Nat)(m:ou)(p:sA):List (Nat×Chunk) :=
 [(c,.obj 205 [.ptr lg 0 0 0,.ptr ix 0 0 0]),(lg,fF dv m.L p.y.lv)]++gJ dv ds m.d++Ix.pM ix it p.x.t p.cap p.x.n p.x.used++[(pl,.cA p.H)]
structure jm(m:ou)(p:sA):Prop where
 log:bY p.H p.y m.L
 idx:Ix.Has p.x m.l
def uj(p p':sA):Prop:=∀z,p.H z≠none->z∉bt p.y->p'.H z=p.H z/\z∉bt p'.y
structure uo(m:ou)(n:Nat):Prop where
 log:uX m.L m.d
 yw:m.l.length<9000
def cG(L:bQ):Int:=jf L.l L.next
def iF(m:ou)(body:List Int):ou:=⟨mo m.L body,oF m.L m.d body,m.l.filter fun e=>decide (cG (mo m.L body)<=e.2)⟩
theorem TU{L:bQ}{d:bA}(ok:uX L d){body:List Int}(h:body.length<=300):(mo L body).l.length<=801:=by
 have:=(J5 (n:=body.length) ok h).yw;show((dJ L body.length).l.set _ _).length<=801;rw[List.length_set];exact this
theorem BP{x:Ix.cW}{l:List (ByteArray×Int)}(h:Ix.Has x l):x.n=l.length:=h.n
structure Dg where
 m:ou
 p:sA
 body:List Int
 cap:Nat
noncomputable def TV:cE where
 α:=Dg
 β:=sA
 m:=8
 m':=9
 pre:=fun a=>jm a.m a.p/\uo a.m a.body.length/\1<=a.body.length/\a.body.length<=300
 args:=fun a=>[.a (.ptr 0 0 0 0),.a (.slc 7 0 1 a.body.length a.cap)]
 hp:=fun a=>EE 0 1 2 3 4 5 6 a.m a.p
 ro:=fun a=>jv 7 a.body
 post:=fun a b=>jm (iF a.m a.body) b/\uj a.p b
 res:=fun a _=>.mG [.a (.int .i64 a.m.L.next),.a (.lit .i64 0)]
 cZ:=fun a b=>EE 0 1 2 3 4 5 8 (iF a.m a.body) b
def kR(v:bQ)(u:ou)(w:iu)(z:sA)(s:bA)(t:Ix.cW)(f:Nat)(g h:Prop):=ax (gV v u.L w z.y s u.d (yH t z.x f z.cap (g/\h)))
def pn(u x:bQ)(v y:iu)(w z:PH)(s t:Prop):=rC u x v.lv y.lv (w=z/\(bY z y x/\s)/\t)
theorem Wx:fnBody (Y Tryz.prog) [(162,BN),(164,C3),(163,Ix.MP)] 121 TV fun _=>[]:=fnBody.of (p :=
 ∀z:Dg,jm z.m z.p/\uo z.m (ai z.body)/\gW z.body 300->∃u:rF,eC (cT z.body u.body z.cap u.cap) (rC z.m.L u.L z.p.y.lv u.y.lv (iY z.m.d u.d (z.p.H=u.H/\ct u.body z.body cH/\zM u/\∀s:nC,xB s u->∃w:EC,ax (pn (mo u.L u.body) w.L s.y w.y s.H w.H (bB w.L<1000) (aI (∃v:Ix.MO,ag (jf w.L.l w.L.next=v.pos/\yH z.p.x v.x z.p.cap v.cap (HL v/\aI (∃t:sA,u.L.next=z.m.L.next/\aV (s.H=t.H/\kR (mo u.L u.body) (iF z.m z.body) s.y t (oF u.L u.d u.body) (Ix.vf v.x v.pos) v.cap (jm (iF z.m z.body) t/\uj z.p t) True))))))))))) (by kernel_rfl) (by
 delta ai aK b8 aD bJ eC ct aI kR bB xy aV ag qw cT ax gW pn gV zM xB HL
 try dsimp -iota -proj only
 rintro⟨⟨L,d,l⟩,⟨H,y,x,xc⟩,body,cap⟩ ⟨hat,hok,hb1,hb2⟩;obtain⟨hl,hx⟩:=hat;dsimp only at *;have hlen:(mo L body).l.length<=801:=TU hok.log hb2;have hn:=BP hx;have hfew:=hok.yw;dsimp only at hfew;obtain⟨q1,q3,q2⟩:=Ix.Qp hx (cG (mo L body));refine⟨rF.mk H y L d body cap,?_⟩
 and_intros<;>first|exact dg|exact hl|exact hok.log|skip
 rintro⟨H1,y1⟩ ⟨p1,p2⟩;dsimp only at p1 p2 ⊢;refine⟨EC.mk H1 y1 (mo L body),?_⟩
 and_intros<;>first|exact dg|exact p1|(dsimp only;omega)|skip
 intro _ _;refine⟨Ix.MO.mk x xc (cG (mo L body)),?_⟩;dsimp only
 and_intros<;>first|exact dg|exact hx.inv|rfl|(rw[hn];exact q2)|(rw[hn];omega)|skip
 intro _ _;refine⟨⟨H1,y1,Ix.vf x (cG (mo L body)),xc⟩,?_⟩
 and_intros<;>first|exact dg|exact⟨p1,q1⟩|exact p1|exact q1|exact p2|rfl|exact ak.refl _ _ _|exact Nat.le_refl _|skip)
theorem HM:au (Y Tryz.prog).G.X 121 TV:=aU fL Wx ⟨C0,zP,Ix.Qr,trivial⟩
def mE(l:List (ByteArray×Int))(k:ByteArray):List (ByteArray×Int):=l.filter fun e=>decide (e.1≠k)
def EF(l:List (ByteArray×Int))(k:ByteArray)(p:Int):List (ByteArray×Int):=(k,p)::mE l k
theorem Fv{x:Ix.cW}{l:List (ByteArray×Int)}(h:Ix.Has x l):(l.map Prod.fst).Nodup:=by
 refine((h.perm.map Prod.fst).nodup_iff).1 ?_;unfold Ix.eM;rw[List.map_map];show List.Pairwise (·≠·) _;rw[List.pairwise_map,List.pairwise_filter,List.pairwise_iff_getElem];intro i j hi hj hij hp hq e;have:=h.inv.TO i j hi hj (by rw[bT hi];exact hp) (by rw[bT hj];exact hq) (by rw[bT hi,bT hj];exact e);omega
theorem Dh{l:List (ByteArray×Int)}{k:ByteArray}(h:k∉l.map Prod.fst):mE l k=l:=by
 unfold mE;rw[List.filter_eq_self];intro e he;simp only[decide_eq_true_eq];exact fun e'=>h (List.mem_map.2 ⟨e,he,e'⟩)
theorem Ac:∀ {l:List (ByteArray×Int)} {k:ByteArray} {q:Int},(l.map Prod.fst).Nodup->(k,q)∈l->l.Perm ((k,q)::mE l k)
 |[],_,_,_,h=>by cases h
 |a::l,k,q,hn,h=>by
  rw[List.map_cons,List.nodup_cons]at hn;by_cases e:a.1=k
  ·have hk:k∉l.map Prod.fst:=by rw[<- e];exact hn.1
   have ha:a=(k,q):=by
    rcases List.mem_cons.1 h with h|h
    ·exact h.symm
    ·exact absurd (List.mem_map.2 ⟨_,h,rfl⟩) hk
   have:mE (a::l) k=l:=by
    unfold mE;rw[List.filter_cons,if_neg (by simp[e])];exact Dh hk
   rw[this,ha]
  ·have hm:(k,q)∈l:=by
    rcases List.mem_cons.1 h with h|h
    ·exact absurd (by rw[<- h]) e
    ·exact h
   have:mE (a::l) k=a::mE l k:=by
    unfold mE;rw[List.filter_cons,if_pos (by simpa using e)]
   rw[this];exact(List.Perm.cons a (Ac hn.2 hm)).trans (List.Perm.swap _ _ _)
theorem OK{x:Ix.cW}{l:List (ByteArray×Int)}{k:ByteArray}{p:Int}(h:Ix.Has x l)(hn:l.length<9999)(hk:k.size<=aq):Ix.Has (Ix.ug x k p) (EF l k p):=by
 have hx:=h.n;by_cases hm:k∈l.map Prod.fst
 ·obtain⟨⟨k',q⟩,h1,h2⟩:=List.mem_map.1 hm;dsimp only at h2;subst h2;exact(Ix.MM (h.yG (Ac (Fv h) h1)) (by omega)).1
 ·have:=(Ix.TR (p:=p) h (by omega) hm hk).1;unfold EF;rw[Dh hm];exact this
theorem Kk{x:Ix.cW}{l:List (ByteArray×Int)}{k:ByteArray}(h:Ix.Has x l):Ix.Has (Ix.kQ x k) (mE l k)/\(0<=(Ix.bH x.t k).1->1<=x.n):=by
 have hx:=h.n;by_cases hm:k∈l.map Prod.fst
 ·obtain⟨⟨k',q⟩,h1,h2⟩:=List.mem_map.1 hm;dsimp only at h2;subst h2;refine⟨(Ix.De (h.yG (Ac (Fv h) h1))).1,fun _=>?_⟩;have:=List.length_pos_of_mem h1;omega
 ·rw[Dh hm];obtain⟨e1,e2⟩:=h.sx hm;exact⟨by rw[Ix.Qo h hm];exact h,fun e=>by omega⟩
theorem Kl(l:List (ByteArray×Int))(k:ByteArray)(p:Int):(EF l k p).length<=l.length+1:=by
 simp only[EF,mE,List.length_cons];have:=List.length_filter_le (fun e:ByteArray×Int=>decide (e.1≠k)) l;omega
theorem Fw(l:List (ByteArray×Int))(k:ByteArray):(mE l k).length<=l.length:=List.length_filter_le _ _
def kg(x:aB):Bool:=gf x&&!x.gone
def nX(m:ou)(x:aB):ou:=if kg x then { iF m (aJ (some x))with l:=EF (iF m (aJ (some x))).l x.key m.L.next }else m
structure Km where
 m:ou
 p:sA
 x:aB
noncomputable def TW:cE where
 α:=Km
 β:=sA
 m:=7
 m':=9
 pre:=fun a=>jm a.m a.p/\(kg a.x=true->uo a.m (aJ (some a.x)).length)
 args:=fun a=>[.a (.ptr 0 0 0 0),.agg (CJ a.x)]
 hp:=fun a=>EE 0 1 2 3 4 5 6 a.m a.p
 ro:=fun _=>[]
 post:=fun a b=>jm (nX a.m a.x) b/\uj a.p b
 res:=fun a b=>.a (.int .i64 (if kg a.x then 0 else 1))
 cZ:=fun a b=>EE 0 1 2 3 4 7 8 (nX a.m a.x) b
def Di(w t:Nat)(s:ou)(u:sA)(f:Nat->Nat->Value)(g:Dg->sA->Prop):Dg->Prop:=fun(z:Dg)=>ag (ag (w=ai z.body/\t=z.cap)/\kR s.L z.m u.y z.p s.d u.x u.cap (u.H=z.p.H) (aK (ai z.body) w 1 f (aa cH z.body)/\(jm z.m z.p/\uo z.m (ai z.body)/\gW z.body 300)/\∀v:sA,jm (iF z.m z.body) v/\uj z.p v->g z v))
def HN(y z:ByteArray)(u:Int)(v:Bool)(w:ou)(s:sA)(t:Dg->sA->Prop):=∃x:EA,iC 1 x.xs.length 1 x.cap 4 (aO 4 (lC (bL y) (bL z) (bx u (bD (dR v))))) (aa kY x.xs) (xo x) (∀i:Nat,True->1<=1/\mT (dM x.xs)/\gK 1 (ai (dM x.xs)) 1 1 fun f=>Exists (Di (1+ai (dM x.xs)) f w s (aZ (aO 1 (bD (fM 1))) 0 1 (rG cH (dM x.xs))) fun g h=>t g h))
def gX(x:Bool):Int:=if x=true then(0:Int)else(1:Int)
def Dj(w:Int)(s:Bool)(z:sA)(t v:ou)(f:bA)(g:sA):=∃u:sA,w=gX s/\z.H=u.H/\kR t.L v z.y u f z.x z.cap (jm v u/\uj g u) True
def HO(y:Km):=jm y.m y.p/\(aC (kg y.x)->uo y.m (ai (aJ (some y.x))))
theorem TX:fnBody (Y Tryz.prog) [(96,Bt),(122,SZ),(121,TV),(123,Ix.CE)] 73 TW fun _=>[]:=fnBody.of (p :=
 ∀z:Km,HO z->∃t:aB,qs z.x t (cQ (iM (bg (gf t)) (Dj 1 (kg z.x) z.p z.m (nX z.m z.x) z.m.d z.p) z.x.gone (HN z.x.key z.x.val z.x.e z.x.gone z.m z.p fun v w=>∃u:Ix.mH,ag (z.x.key=u.key/\v.m.L.next=u.pos/\yH w.x u.x w.cap u.cap (z6 u/\∀f:Nat,True->∃s:sA,(0:Int)=gX (kg z.x)/\w.H=s.H/\kR (iF v.m v.body).L (nX z.m z.x) w.y s (iF v.m v.body).d (Ix.ug u.x u.key u.pos) f (jm (nX z.m z.x) s/\uj z.p s) True)))))) (by kernel_rfl) (by
 delta az ai aK bx b8 gK bh bD fM aC dV lC bV aW iM aI qs kR bL HN gX iC ag xo Di ax gW bg Dj mT rG gV dR cQ z6 HO
 try dsimp -iota -proj only
 rintro⟨⟨L,d,l⟩,⟨H,y,x,xc⟩,it⟩ ⟨hat,hok⟩;dsimp only at *;have same:kg it=false->nX ⟨L,d,l⟩ it=⟨L,d,l⟩:=fun e=>if_neg (by rw[e];decide);refine⟨it,rfl,rfl,rfl,rfl,trivial,fun _ _=>⟨fun c1=>⟨⟨H,y,x,xc⟩,?_⟩,fun c1=>⟨fun c2=>⟨⟨H,y,x,xc⟩,?_⟩,fun c2=>?_⟩⟩⟩
 ·have hn:kg it=false:=by simp only[kg];rw[show gf it=false by simpa using c1];rfl
  rw[same hn,hn]
  and_intros<;>first|exact dg|rfl|exact ak.refl _ _ _|exact Nat.le_refl _|exact hat|exact hat.log|exact hat.idx|exact fun z _ hn=>⟨rfl,hn⟩
 ·have hn:kg it=false:=by simp only[kg];rw[c2];simp
  rw[same hn,hn]
  and_intros<;>first|exact dg|rfl|exact ak.refl _ _ _|exact Nat.le_refl _|exact hat|exact hat.log|exact hat.idx|exact fun z _ hn=>⟨rfl,hn⟩
 ·have hm:gf it=true:=by simpa using c1
  have hy:kg it=true:=by simp only[kg];rw[c2,hm];rfl
  have hok:=hok hy;have hF:nX ⟨L,d,l⟩ it={ iF ⟨L,d,l⟩ (aJ (some it))with l:=EF (iF ⟨L,d,l⟩ (aJ (some it))).l it.key L.next }:=if_pos hy;rw[hF,hy];obtain⟨hb1,hb2⟩:=mu (o:=some it) (fun x e=>by cases e;exact hm);have hI:dM [it]=dm it:=by simp[dM]
  have hB:(aJ (some it)).length=1+(dm it).length:=by simp only[aJ,List.length_cons];omega
  have hr1:ak 1 4 (aO 4 [Value.string it.key,Value.string it.val,Value.int .i64 it.e,Value.bool it.gone]) (aa kY [it]):=.eo fun i hi=>by
   have:i=0:=by omega
   subst this;rfl
  have hm1:∀i,i < [it].length->gf (gl [it] i)=true:=fun i hi=>by
   have:i=0:=by simp at hi;omega
   subst this;exact hm
  refine⟨EA.mk [it] 1,?_⟩
  and_intros<;>first|exact dg|exact hr1|exact hm1|exact Nat.le_refl _|decide|skip
  intro c _;rw[hI]
  repeat refine lB ?_
  intro cap q1 q2 q3;refine⟨Dg.mk ⟨L,d,l⟩ ⟨H,y,x,xc⟩ (aJ (some it)) cap,?_⟩;have hr2:ak (aJ (some it)).length 1 (aZ (aO 1 [Value.int .u8 1]) 0 1 fun(i j:Nat)=>aa cH (dm it) (0+i) j) (aa cH (aJ (some it))):=⟨fun i hi j hj=>by
   have hj0:j=0:=by omega
   subst hj0;simp only[aZ,Nat.zero_add];by_cases h0:i<1
   ·have:i=0:=by omega
    subst this;rfl
   ·rw[if_neg h0];obtain⟨q,rfl⟩:∃q,i=q+1:=⟨i-1,by omega⟩
    simp only[aa,aJ,Nat.add_sub_cancel];congr 2⟩
  and_intros<;>first|exact dg|rfl|exact ak.refl _ _ _|exact Nat.le_refl _|exact hr2|exact hat|exact hat.log|exact hat.idx|exact hok.log|exact hok.yw|(dsimp only;omega)|skip
  rintro⟨H1,y1,x1,xc1⟩ ⟨⟨g1,g2⟩,hfr⟩;dsimp only at g1 g2 hfr ⊢;refine⟨Ix.mH.mk x1 xc1 it.key L.next,?_⟩;have hn:=BP g2;have hln:(iF ⟨L,d,l⟩ (aJ (some it))).l.length<=l.length:=List.length_filter_le _ _;have hfew:=hok.yw;dsimp only at hfew;have hks:it.key.size<=aq:=by have:=qR hm;simp only[aq];omega
  and_intros<;>first|exact dg|rfl|exact ak.refl _ _ _|exact Nat.le_refl _|exact g2.inv|exact hks|(dsimp only;omega)|skip
  intro c2' _;refine⟨⟨H1,y1,Ix.ug x1 it.key L.next,c2'⟩,?_⟩;have hp:=OK (p:=L.next) g2 (by omega) hks
  and_intros<;>first|exact dg|rfl|exact ak.refl _ _ _|exact Nat.le_refl _|exact g1|exact hp|exact hfr|exact⟨g1,hp⟩)
theorem TY:au (Y Tryz.prog).G.X 73 TW:=aU fL TX ⟨qS,GS,HM,Ix.BJ,trivial⟩
def Dk(m:ou)(key:ByteArray):Option aB->Prop
 |some x=>∃p,(key,p)∈m.l/\gp m.L.l p=some (aJ (some x))/\gf x=true
 |none=>key∉m.l.map Prod.fst\/∃p,(key,p)∈m.l/\(gp m.L.l p=none\/gp m.L.l p=some (aJ none))
structure Qt(m:ou):Prop where
 yw:m.L.l.length<1000
 seg:∀i,i<m.L.l.length->ng (gl m.L.l i).aP/\(gl m.L.l i).aP.length<=400/\∀k,k<(gl m.L.l i).aP.length->1<=(gl (gl m.L.l i).aP k).body.length/\(gl (gl m.L.l i).aP k).body.length<=1000
 pos:∀e∈m.l,0<=e.2/\e.2<1000000000000
structure OL where
 m:ou
 p:sA
 key:ByteArray
 r:Option aB
noncomputable def TZ:cE where
 α:=OL
 β:=Unit
 m:=7
 m':=7
 pre:=fun a=>jm a.m a.p/\Qt a.m/\Dk a.m a.key a.r/\a.key.size<=aq
 args:=fun a=>[.a (.ptr 0 0 0 0),.a (.str a.key)]
 hp:=fun _=>[]
 ro:=fun a=>EE 0 1 2 3 4 5 6 a.m a.p
 post:=fun _ _=>True
 res:=fun a _=>.mG [.agg (CJ (a.r.getD fR)),.a (.bool a.r.isSome)]
 cZ:=fun _ _=>[]
def xJ(x:ou)(z:sA)(y:ByteArray)(u:Option aB):=jm x z/\Qt x/\Dk x y u/\bh y<=aq
theorem T0:fnBody (Y Tryz.prog) [(212,Ix.JP),(213,Mm),(179,vh)] 184 TZ fun _=>[]:=fnBody.of (p :=
 ∀z:OL,xJ z.m z.p z.key z.r->∃u:Ix.uh,ag (z.key=u.key/\yH z.p.x u.x z.p.cap u.cap ((Ix.Inv u.x/\bh u.key<=aq)/\aI (wK (bg (Ix.xI u.x u.key).snd) z.r (∃v:J7,eC ((Ix.xI u.x u.key).fst=v.p) (pn z.m.L v.L z.p.y v.y z.p.H v.H (Hi v) (∀s:Nat,ai (tu v)<=s->wK (A1 (gp v.L.l v.p) != (0:Int)) z.r (∃w:z8,mS (tu v) (aJ w.o) s w.cap cH (Aa w.o w.cap) (aI (Exists (Ab (jA w.o) z.r w.o.isSome))))))))))) (by kernel_rfl) (by
 delta az ai aK cO bh aC fC eC aW ct aI wK qs bB xD mS ay tu ag cT jA gW bg pn bl xJ Hi Aa pe Ab
 try dsimp -iota -proj only
 rintro⟨⟨L,d,l⟩,⟨H,y,x,xc⟩,key,r⟩ ⟨⟨hl,hx⟩,hrd,hr,hks⟩;dsimp only at *;refine⟨Ix.uh.mk x xc key,?_⟩
 and_intros<;>first|exact dg|rfl|exact ak.refl _ _ _|exact Nat.le_refl _|exact hx.inv|exact hks|skip
 intro _ _;dsimp only;have hcase:(r=none/\Ix.xI x key=(0,false))\/∃p,(key,p)∈l/\Ix.xI x key=(p,true)/\((r=none/\(gp L.l p=none\/gp L.l p=some (aJ none)))\/∃it,r=some it/\gp L.l p=some (aJ (some it))/\gf it=true):=by
  cases r with
  |none =>
   rcases hr with hr | ⟨p,h1,h2⟩
   ·exact .inl ⟨rfl,Ix.get_none hx hr⟩
   ·exact .inr ⟨p,h1,Ix.Fs hx h1,.inl ⟨rfl,h2⟩⟩
  |some it =>
   obtain⟨p,h1,h2,h3⟩:=hr;exact .inr ⟨p,h1,Ix.Fs hx h1,.inr ⟨it,rfl,h2,h3⟩⟩
 rcases hcase with⟨rfl,hg⟩ | ⟨p,hm,hg,hc⟩
 ·rw[hg];refine⟨fun _=>⟨(),?_⟩,fun c=>absurd c (by decide)⟩
  and_intros<;>first|exact dg|rfl|exact ak.refl _ _ _|exact Nat.le_refl _
 ·rw[hg];refine⟨fun c=>absurd c (show ¬((!true)=true)by decide),fun _=>⟨J7.mk H y L p,?_⟩⟩;obtain⟨hp1,hp2⟩:=hrd.pos _ hm
  and_intros<;>first|exact dg|rfl|exact ak.refl _ _ _|exact Nat.le_refl _|exact hl|exact hrd.yw|exact hp1|exact hp2|exact hrd.seg|skip
  intro c hcap;dsimp only at hcap ⊢;rcases hc with⟨rfl,hn|hn⟩ | ⟨it,rfl,hn,hmay⟩
  ·rw[hn];refine⟨fun _=>⟨(),?_⟩,fun c=>absurd c (by decide)⟩
   and_intros<;>first|exact dg|rfl|exact ak.refl _ _ _|exact Nat.le_refl _
  ·rw[hn]at hcap ⊢;refine⟨fun c=>absurd c (by decide),fun _=>⟨z8.mk none c,?_⟩⟩;have hcap:(aJ none).length<=c:=hcap;have hno:∀z:aB,(none:Option aB)=some z->gf z=true:=fun z e=>by cases e
   (repeat' (first|apply And.intro|(intro _)|apply Exists.intro ()))<;>first|exact dg|rfl|exact ak.refl _ _ _|exact Nat.le_refl _|exact hcap|exact hno _ (by assumption)
  ·rw[hn]at hcap ⊢;refine⟨fun c=>absurd c (show ¬((A1 (some (aJ (some it))) != 0)=true)by simp[A1]),fun _=>⟨z8.mk (some it) c,?_⟩⟩;have hcap:(aJ (some it)).length<=c:=hcap;have hno:∀z:aB,some it=some z->gf z=true:=fun z e=>by cases e;exact hmay
   (repeat' (first|apply And.intro|(intro _)|apply Exists.intro ()))<;>first|exact dg|rfl|exact ak.refl _ _ _|exact Nat.le_refl _|exact hcap|exact hno _ (by assumption))
theorem T1:au (Y Tryz.prog).G.X 184 TZ:=aU fL T0 ⟨Ix.BK,P8,Qs,trivial⟩
def nY(r:Option aB)(now:Int):Option aB:=r.bind fun x=>if uQ x now then some x else none
structure Dl where
 m:ou
 p:sA
 key:ByteArray
 now:Int
 r:Option aB
noncomputable def T2:cE where
 α:=Dl
 β:=Unit
 m:=7
 m':=7
 pre:=fun a=>jm a.m a.p/\Qt a.m/\Dk a.m a.key a.r/\a.key.size<=aq
 args:=fun a=>[.a (.ptr 0 0 0 0),.a (.str a.key),.a (.int .i64 a.now)]
 hp:=fun _=>[]
 ro:=fun a=>EE 0 1 2 3 4 5 6 a.m a.p
 post:=fun _ _=>True
 res:=fun a _=>.mG [.agg (CJ ((nY a.r a.now).getD fR)),.a (.bool (nY a.r a.now).isSome)]
 cZ:=fun _ _=>[]
theorem T3:fnBody (Y Tryz.prog) [(184,TZ),(185,SS)] 136 T2 fun _=>[]:=fnBody.of (p :=
 ∀z:Dl,xJ z.m z.p z.key z.r->∃u:OL,ag (z.key=u.key/\kR z.m.L u.m z.p.y u.p z.m.d z.p.x z.p.cap (z.p.H=u.p.H) (xJ u.m u.p u.key u.r/\aI (wK (bg u.r.isSome) (nY z.r z.now) (∃v:Oo,qs (jA u.r) v.x (z.now=v.now/\cQ (wK (bg (uQ v.x v.now)) (nY z.r z.now) (Exists (Ab (jA u.r) (nY z.r z.now) true))))))))) (by kernel_rfl) (by
 delta az b8 cO bh aC fC aW aI wK qs kR ay ag ax jA bg bl xJ gV cQ Ab
 rintro⟨⟨L,d,l⟩,⟨H,y,x,xc⟩,key,now,r⟩ ⟨hat,hrd,hr,hks⟩;dsimp only at *;refine⟨OL.mk ⟨L,d,l⟩ ⟨H,y,x,xc⟩ key r,?_⟩
 and_intros<;>first|exact dg|rfl|exact ak.refl _ _ _|exact Nat.le_refl _|exact hat|exact hrd|exact hr|exact hks|skip
 intro _ _;dsimp only;cases r with
 |none =>
  refine⟨fun _=>⟨(),?_⟩,fun c=>absurd c (by decide)⟩
  and_intros<;>first|exact dg|rfl|exact ak.refl _ _ _|exact Nat.le_refl _
 |some it =>
  refine⟨fun c=>absurd c (show ¬((!true)=true)by decide),fun _=>⟨Oo.mk it now,rfl,rfl,rfl,rfl,rfl,trivial,fun _ _=>⟨fun c=>⟨(),?_⟩,fun c=>⟨(),?_⟩⟩⟩⟩
  ·have:nY (some it) now=none:=by
    have:uQ it now=false:=by simpa using c
    simp[nY,this]
   rw[this]
   and_intros<;>first|exact dg|rfl|exact ak.refl _ _ _|exact Nat.le_refl _
  ·have:nY (some it) now=some it:=by
    have:uQ it now=true:=by simpa using c
    simp[nY,this]
   rw[this]
   and_intros<;>first|exact dg|rfl|exact ak.refl _ _ _|exact Nat.le_refl _)
theorem T4:au (Y Tryz.prog).G.X 136 T2:=aU fL T3 ⟨T1,S0,trivial⟩
def S.fl(s:S)(c:Nat)(m:ou)(p:sA):S :=
 (fun(s3:S)=>(s3.put (s3.hp.del (Ff s3))).new (.cA p.H))
 ((fun(s1:S)=>((s1.put (s1.hp.del (s.fu (s.fu c 1) 0))).new (.arr 251 Ix.Yq p.x.t.length (aa Ix.Bw p.x.t))).at_ (s.fu c 1) (.obj 247 [.slc s.nx 0 4 p.x.t.length p.cap,.int .i64 p.x.n,.int .i64 p.x.used]))
  (((s.at_ (s.fu c 0) (fF (s.fu (s.fu c 0) 0) m.L p.y.lv)).at_ (s.fu (s.fu c 0) 0) (.obj 116 [.slc (s.fu (s.fu (s.fu c 0) 0) 0) 0 129 m.d.n m.d.n,.int .i64 m.d.calls])).at_ (s.fu (s.fu (s.fu c 0) 0) 0) (.arr 158 AX m.d.n (fe m.d))))
def iO(k:ByteArray):aB:=⟨k,.mk #[],0,true⟩
theorem Ad{k:ByteArray}(h:cN k=true):gf (iO k)=true:=by
 simp only[gf,iO];rw[h];rfl
def oH(m:ou)(k:ByteArray):ou:={ iF m (aJ (some (iO k)))with l:=mE (iF m (aJ (some (iO k)))).l k }
def gq(m:ou)(ks:List ByteArray):Nat->ou
 |0=>m
 |i+1=>oH (gq m ks i) (gl ks i)
def fS(ks:List ByteArray):Bool:=ks.all cN
def HP(m:ou):ou:={ m with d:=gv m.d }
def nZ(m:ou)(ks:List ByteArray):ou:=if fS ks then HP (gq m ks ks.length)else m
structure pq where
 m:ou
 p:sA
 ks:List ByteArray
 cap:Nat
noncomputable def HQ:cE where
 α:=pq
 β:=sA
 m:=8
 m':=10
 pre:=fun a=>jm a.m a.p/\a.ks.length<1000/\(fS a.ks=true->(∀i,i<a.ks.length->uo (gq a.m a.ks i) (aJ (some (iO (gl a.ks i)))).length)/\(gq a.m a.ks a.ks.length).d.n<100000/\(gq a.m a.ks a.ks.length).d.calls<1000000000000)
 args:=fun a=>[.a (.ptr 0 0 0 0),.a (.slc 7 0 1 a.ks.length a.cap)]
 hp:=fun a=>EE 0 1 2 3 4 5 6 a.m a.p
 ro:=fun a=>[(7,.arr 9 [.str] a.ks.length (aa kF a.ks))]
 post:=fun a b=>jm (nZ a.m a.ks) b/\uj a.p b
 res:=fun a b=>.a (.int .i64 (if fS a.ks then 0 else 1))
 cZ:=fun a b=>EE 0 1 2 3 4 8 9 (nZ a.m a.ks) b
structure Dm where
 i:Nat
 p:sA
def Wy(a:pq):An:=.flat 4 Nat (fun s i=>s.int 15 i) (fun _ i=>i<=a.ks.length/\∀j,j<i->cN (gl a.ks j)=true) (fun _ i=>a.ks.length-i)
def Wz(a:pq):An:=.flat 10 Dm (fun s x=>(S.fl s (s.tg 0) (gq a.m a.ks x.i) x.p).int 25 x.i) (fun _ x=>x.i<=a.ks.length/\fS a.ks=true/\jm (gq a.m a.ks x.i) x.p/\uj a.p x.p) (fun _ x=>a.ks.length-x.i)
def WA(a:pq):An:=.mk 9 Unit (fun s _=>s) (fun _ _=>fS a.ks=true) (fun _ _=>0) fun _=>.mk 1000 [Wz a] []
noncomputable def T5:List (Nat×cE):=[(86,LV),(122,SZ),(121,TV),(180,Ix.OI),(169,jN)]
def MR(f:Int)(u:pq)(w:sA)(s:ou)(v:Ix.cW)(g:Nat)(h:Dm->Prop):=∃z:Dm,f=af z.i/\dY (aR u.ks) u.cap (mQ (bG (aR u.ks) u.cap/\w.H=z.p.H/\ax (gV s.L (gq u.m u.ks z.i).L w.y z.p.y s.d (gq u.m u.ks z.i).d (ag (bJ v=bJ z.p.x/\g=z.p.cap)/\bz v.n z.p.x.n/\bz v.used z.p.x.used/\lI u.ks/\aK (bJ z.p.x) (bJ v) 4 (dh v.t) (dh z.p.x.t)/\h z))))
def HR(z:pq)(u:Prop):=mQ (bG (aR z.ks) z.cap/\kR z.m.L z.m z.p.y z.p z.m.d z.p.x z.p.cap (z.p.H=z.p.H) (lI z.ks/\u))
def rL(y:Nat)(z:List ByteArray):=∀x:Nat,x<y->aC (cN (gl z x))
def HS(x:pq):=jm x.m x.p/\aR x.ks<1000/\(aC (fS x.ks)->(∀y:Nat,y<aR x.ks->uo (gq x.m x.ks y) (ai (aJ (some (iO (gl x.ks y))))))/\kE (gq x.m x.ks (aR x.ks)).d)
def Ae(y:List ByteArray)(z:Nat)(u v:Nat->Prop)(w s:Prop):=((∃x:Nat,aF x (dY (aR y) z (u x)))/\∀x:Nat,x<=aR y/\rL x y->gz x (aR y) (v x) (Exists (ay w)))/\∀x:Unit,aC (fS y)->s
def HT(x:pq)(y:Dm):=aC (fS x.ks)/\jm (gq x.m x.ks y.i) y.p/\uj x.p y.p
theorem Qu:fnBody (Y Tryz.prog) T5 135 HQ fun a=>[(135,[Wy a],[WA a])]:=fnBody.of (p :=
 ∀y:pq,HS y->Ae y.ks y.cap (fun z=>HR y ((z<=aR y.ks/\rL z y.ks)/\True)) (fun z=>∃s:ByteArray,gl y.ks (0+aA z)=s/\cQ (az (bg (cN s)) (Dj 1 (fS y.ks) y.p y.m (nZ y.m y.ks) y.m.d y.p) (dz z fun u=>dY (aR y.ks) y.cap (HR y (ey u (aR y.ks) (rL u y.ks) z))))) (HR y (aC (fS y.ks)/\True)) ((MR 0 y y.p y.m y.p.x y.p.cap fun z=>(z.i<=aR y.ks/\HT y z)/\True)/\∀z:Dm,z.i<=aR y.ks/\HT y z->gz z.i (aR y.ks) (HN (gl y.ks (0+aA z.i)) cO 0 true (gq y.m y.ks z.i) z.p fun u w=>∃v:Ix.uh,ag (gl y.ks (0+aA z.i)=v.key/\yH w.x v.x w.cap v.cap (z7 v/\aI (aS z.i/\MR (af z.i+(1:Int)) y w (iF u.m u.body) (Ix.kQ v.x v.key) v.cap fun t=>ey t.i (aR y.ks) (HT y t) z.i)))) (Exists (kN (gq y.m y.ks z.i).d fun u=>Dj 0 (fS y.ks) z.p (gq y.m y.ks z.i) (nZ y.m y.ks) (gv u) y.p)))) (by kernel_rfl) (by
 delta az ai aK ah bx b8 aA aD bE gK bJ cO cF aH af aR bh bD fM aC dV aX bq lC bV aW dU gz bN aI bG dz ey kR bL dY HN kE MR gX aV ay aS iC lI aF ag aY cV HR rL xo Di br HS z7 ax gW bg kN Dj bu bz mT Ae rG HT dX gV dR cQ dh mQ
 try dsimp -iota -proj only
 rintro⟨⟨L,d,l⟩,⟨H,y,x,xc⟩,ks,kc⟩ ⟨hat,hk1,hok⟩;dsimp only at *;obtain⟨m0,hm0⟩:∃m0:ou,m0=⟨L,d,l⟩:=⟨_,rfl⟩
 have hno:fS ks=false->nZ ⟨L,d,l⟩ ks=⟨L,d,l⟩:=fun e=>if_neg (by rw[e];decide);have hyes:fS ks=true->nZ m0 ks=HP (gq m0 ks ks.length):=fun e=>if_pos e;refine⟨⟨⟨0,?_⟩,fun i hi=>?_⟩,fun _ hall=>⟨⟨⟨0,⟨H,y,x,xc⟩⟩,?_⟩,fun z hz=>?_⟩⟩
 ·and_intros<;>first|exact dg|rfl|exact ak.refl _ _ _|exact Nat.le_refl _|exact fun j hj=>absurd hj (Nat.not_lt_zero j)
 ·obtain⟨hi,hkb⟩:=hi;simp only[Nat.zero_add,Int.toNat_natCast];refine⟨fun c1=>?_,fun c1=>⟨(),?_⟩⟩
  ·have hi':i<ks.length:=by have:=of_decide_eq_true c1;omega
   refine⟨by omega,by omega,gl ks i,rfl,trivial,fun _ _=>⟨fun c2=>⟨⟨H,y,x,xc⟩,?_⟩,fun c2=>⟨by simp only[bR];omega,i+1,?_⟩⟩⟩
   ·have hn:fS ks=false:=by
     have c2:cN (gl ks i)=false:=by simpa using c2
     rw[Bool.eq_false_iff];intro h;have:=List.all_eq_true.1 h (gl ks i) (by rw[bT hi'];exact List.getElem_mem _);rw[c2]at this;cases this
    rw[hno hn,hn]
    and_intros<;>first|exact dg|rfl|exact ak.refl _ _ _|exact Nat.le_refl _|exact hat|exact fun z _ hn=>⟨rfl,hn⟩
   ·have c2:cN (gl ks i)=true:=by simpa using c2
    have h1:∀j,j<i+1->cN (gl ks j)=true:=fun j hj=>by
     by_cases e:j=i
     ·rw[e];exact c2
     ·exact hkb j (by omega)
    and_intros<;>first|exact dg|rfl|exact ak.refl _ _ _|exact Nat.le_refl _|exact h1
  ·have hi':i=ks.length:=by have:=of_decide_eq_false c1;omega
   have ha:fS ks=true:=List.all_eq_true.2 fun k hk=>by
    obtain⟨j,hj,rfl⟩:=List.getElem_of_mem hk;rw[<- bT hj];exact hkb j (by omega)
   and_intros<;>first|exact dg|rfl|exact ak.refl _ _ _|exact Nat.le_refl _|exact ha
 ·and_intros<;>first|exact dg|rfl|exact ak.refl _ _ _|exact Nat.le_refl _|exact hat|exact hall|exact fun z _ hn=>⟨rfl,hn⟩
 ·obtain⟨i,⟨H1,y1,x1,xc1⟩⟩:=z;obtain⟨hi,_,hat1,hfr1⟩:=hz;dsimp only at hi hat1 hfr1 ⊢;obtain⟨hok1,hok2,hok3⟩:=hok hall;rw[<- hm0]at hok1 hok2 hok3 hat1 ⊢;have hstep:gq m0 ks (i+1)=oH (gq m0 ks i) (gl ks i):=rfl;simp only[Nat.zero_add,Int.toNat_natCast];refine⟨fun c1=>?_,fun c1=>?_⟩
  ·have hi':i<ks.length:=by have:=of_decide_eq_true c1;omega
   have hok1:=hok1 i hi';have hkey:cN (gl ks i)=true:=List.all_eq_true.1 hall (gl ks i) (by rw[bT hi'];exact List.getElem_mem _);obtain⟨it,hit⟩:∃it,it=iO (gl ks i):=⟨_,rfl⟩
   have hm:gf it=true:=by rw[hit];exact Ad hkey
   obtain⟨M,hM⟩:∃M,M=gq m0 ks i:=⟨_,rfl⟩
   rw[<- hM]at hok1 hat1 hstep ⊢;rw[<- hit]at hok1;have hdF:oH M (gl ks i)={ iF M (aJ (some it))with l:=mE (iF M (aJ (some it))).l (gl ks i) }:=by rw[hit];rfl
   obtain⟨hb1,hb2⟩:=mu (o:=some it) (fun x e=>by cases e;exact hm);have hI:dM [it]=dm it:=by simp[dM]
   have hB:(aJ (some it)).length=1+(dm it).length:=by simp only[aJ,List.length_cons];omega
   have hr1:ak 1 4 (aO 4 [Value.string (gl ks i),Value.string (ByteArray.mk #[]),Value.int .i64 0,Value.bool true]) (aa kY [it]):=.eo fun i hi=>by
    have:i=0:=by omega
    subst this;rw[hit];rfl
   have hm1:∀i,i < [it].length->gf (gl [it] i)=true:=fun i hi=>by
    have:i=0:=by simp at hi;omega
    subst this;exact hm
   refine⟨by omega,by omega,EA.mk [it] 1,?_⟩
   and_intros<;>first|exact dg|exact hr1|exact hm1|exact Nat.le_refl _|decide|skip
   intro c _;rw[hI]
   repeat refine lB ?_
   intro cap q1 q2 q3;refine⟨Dg.mk M ⟨H1,y1,x1,xc1⟩ (aJ (some it)) cap,?_⟩;have hr2:ak (aJ (some it)).length 1 (aZ (aO 1 [Value.int .u8 1]) 0 1 fun(i j:Nat)=>aa cH (dm it) (0+i) j) (aa cH (aJ (some it))):=⟨fun i hi j hj=>by
    have hj0:j=0:=by omega
    subst hj0;simp only[aZ,Nat.zero_add];by_cases h0:i<1
    ·have:i=0:=by omega
     subst this;rfl
    ·rw[if_neg h0];obtain⟨q,rfl⟩:∃q,i=q+1:=⟨i-1,by omega⟩
     simp only[aa,aJ,Nat.add_sub_cancel];congr 2⟩
   simp only[Nat.zero_add]at hr2
   and_intros<;>first|exact dg|rfl|exact ak.refl _ _ _|exact Nat.le_refl _|exact hr2|exact hat1|exact hat1.log|exact hat1.idx|exact hok1|exact hok1.log|exact hok1.yw|(dsimp only;omega)|skip
   rintro⟨H2,y2,x2,xc2⟩ ⟨⟨g1,g2⟩,hfr⟩;dsimp only at g1 g2 hfr ⊢;refine⟨Ix.uh.mk x2 xc2 (gl ks i),?_⟩;have hn:=BP g2;have hln:(iF M (aJ (some it))).l.length<=M.l.length:=List.length_filter_le _ _;have hfew:=hok1.yw;have hks:(gl ks i).size<=aq:=by
    have h40:(gl ks i).size<=40:=by have:=(qR hm).1;rw[hit]at this;exact this
    simp only[aq];omega
   obtain⟨hd1,hd2⟩:=Kk (k:=gl ks i) g2
   and_intros<;>first|exact dg|rfl|exact ak.refl _ _ _|exact Nat.le_refl _|exact g2.inv|exact hks|exact hd2|(dsimp only;omega)|skip
   intro _ _;have hat2:jm (oH M (gl ks i)) ⟨H2,y2,Ix.kQ x2 (gl ks i),xc2⟩:=by rw[hdF];exact⟨g1,hd1⟩
   have hfr2:uj ⟨H,y,x,xc⟩ ⟨H2,y2,Ix.kQ x2 (gl ks i),xc2⟩:=fun z hz hn=>by
    obtain⟨a1,a2⟩:=hfr1 z hz hn;obtain⟨b1,b2⟩:=hfr z (by rw[a1];exact hz) a2;exact⟨b1.trans a1,b2⟩
   refine⟨by simp only[bR];omega,⟨i+1,⟨H2,y2,Ix.kQ x2 (gl ks i),xc2⟩⟩,?_⟩;dsimp only;rw[hstep];rw[hdF]at hat2 ⊢
   and_intros<;>first|exact dg|rfl|exact ak.refl _ _ _|exact Nat.le_refl _|exact hat2|exact hfr2|exact hall|skip
  ·have hi':i=ks.length:=by have:=of_decide_eq_false c1;omega
   subst hi';have hat2:jm (HP (gq m0 ks ks.length)) ⟨H1,y1,x1,xc1⟩:=⟨hat1.log,hat1.idx⟩
   refine⟨(gq m0 ks ks.length).d,?_⟩;rw[hyes hall,hall]
   and_intros<;>first|exact dg|rfl|exact ak.refl _ _ _|exact Nat.le_refl _|exact hok2|exact hok3|skip
   intro _ _;refine⟨⟨H1,y1,x1,xc1⟩,?_⟩
   and_intros<;>first|exact dg|rfl|exact ak.refl _ _ _|exact Nat.le_refl _|exact hat2|exact hfr1)
theorem Qv:au (Y Tryz.prog).G.X 135 HQ:=aU fL Qu ⟨yu,GS,HM,Ix.Kj,iN,trivial⟩
theorem T6{n:Nat}:ak n 4 (fun(x j:Nat)=>[Go.Value.string { data:=#[] },Go.Value.int Go.IntKind.i64 0,Go.Value.bool Bool.false,Go.Value.bool Bool.false].getD j (Go.Value.tuple #[])) (aa Ix.Bw (Ix.bM n).t):=by
 refine .eo fun i hi=>?_;unfold aa;rw[show gl (Ix.bM n).t i=⟨.empty,0,false,false⟩from Ix.tB hi];rfl
theorem Qw:ak 16 4 (fun(x j:Nat)=>[Go.Value.string { data:=#[] },Go.Value.int Go.IntKind.i64 0,Go.Value.bool Bool.false,Go.Value.bool Bool.false].getD j (Go.Value.tuple #[])) (aa Ix.Bw (Ix.bM 16).t):=T6
noncomputable def OM:cE where
 α:=Unit
 β:=Unit
 m:=0
 m':=2
 pre:=fun _=>True
 args:=fun _=>[]
 hp:=fun _=>[]
 ro:=fun _=>[]
 post:=fun _ _=>True
 res:=fun _ _=>.a (.ptr 0 0 0 0)
 cZ:=fun _ _=>Ix.pM 0 1 (Ix.bM 16).t 16 (Ix.bM 16).n (Ix.bM 16).used
theorem T7:fnBody (Y Tryz.prog) [] 178 OM fun _=>[]:=fnBody.of (p :=
 aI (l9 16 512 (Exists (ay (ag (bG 16 16/\bZ 0 0 (aK 16 16 4 HI (dh (Ix.bM 16).t)) (True/\True))))))) (by kernel_rfl) (by
 delta aT bZ aK bx b8 cO bD dV bV aI bG bL l9 ay gm ag eE dR dh HI
 try dsimp -iota -proj only
 intro _ _;refine⟨by omega,by omega,by omega,(),?_⟩
 and_intros<;>first|exact dg|rfl|exact ak.refl _ _ _|exact Nat.le_refl _|exact Qw)
theorem Kn:au (Y Tryz.prog).G.X 178 OM:=aU fL T7 trivial
def vZ(l:List (ByteArray×Int))(o:Option aB)(pos:Int):List (ByteArray×Int):=match o with
 |none=>[]
 |some x=>if x.gone then mE l x.key else EF l x.key pos
def nJ(es:List (Option aB))(rs:List RecM):Nat->List (ByteArray×Int)
 |0=>[]
 |i+1=>vZ (nJ es rs i) (gl es i) (gl rs i).pos
theorem Fy(es:List (Option aB))(rs:List RecM):∀i,(nJ es rs i).length<=i
 |0=>Nat.le_refl _
 |i+1=>by
  have:=Fy es rs i;show(vZ _ _ _).length<=_;unfold vZ;split
  ·simp
  ·split
   ·have:=Fw (nJ es rs i) (by assumption:aB).key;omega
   ·have:=Kl (nJ es rs i) (by assumption:aB).key (gl rs i).pos;omega
theorem HU{l:List dG}{i k:Nat}(hi:i<l.length)(hk:k<(gl l i).aP.length):∃j,j<(gh l).length/\gl (gh l) j=gl (gl l i).aP k:=by
 have hm:gl (gl l i).aP k∈gh l:=List.mem_flatMap.2 ⟨gl l i,by rw[bT hi];exact List.getElem_mem _,by rw[bT hk];exact List.getElem_mem _⟩;obtain⟨j,hj,e⟩:=List.getElem_of_mem hm;exact⟨j,hj,by rw[bT hj];exact e⟩
structure lJ where
 H:PH
 d:bA
 from_:Nat
 av:Nat
 es:List (Option aB)
def Ko(a:lJ):ou:=⟨cU a.from_ a.av a.d,a.d,nJ a.es (gh (cU a.from_ a.av a.d).l) a.es.length⟩
structure Ys(es:List (Option aB))(rs:List RecM):Prop where
 len:es.length=rs.length
 yw:es.length<9000
 at_:∀i,i<es.length->(gl rs i).body=aJ (gl es i)/\∀x,gl es i=some x->gf x=true
noncomputable def Af:cE where
 α:=lJ
 β:=sA
 m:=3
 m':=8
 pre:=fun a=>rJ a.from_ a.av a.d/\Ys a.es (gh (cU a.from_ a.av a.d).l)/\∀i,i<(cU a.from_ a.av a.d).l.length->(gl (cU a.from_ a.av a.d).l i).aP.length<=400
 args:=fun a=>[.a (.ptr 0 0 0 0),.a (.int .i64 a.from_),.a (.int .i64 a.av)]
 hp:=fun a=>[(2,.cA a.H)]
 ro:=fun a=>gJ 0 1 a.d
 post:=fun a b=>jm (Ko a) b/\∀z,a.H z≠none->b.H z=a.H z/\z∉bt b.y
 res:=fun a b=>.mG [.a (.ptr 3 0 0 0),.a (.lit .i64 0)]
 cZ:=fun a b=>[(3,.obj 205 [.ptr 4 0 0 0,.ptr 5 0 0 0]),(4,fF 0 (Ko a).L b.y.lv)]++Ix.pM 5 6 b.x.t b.cap b.x.n b.x.used++[(7,.cA b.H)]
structure vj where
 i:Nat
 x:Ix.cW
 cap:Nat
def S.ix(s:S)(c:Nat)(x:Ix.cW)(cap:Nat):S :=
 (((s.put ((s.hp.del (s.fu (s.fu c 1) 0)).del (s.fu c 1))).new (.arr 251 Ix.Yq x.t.length (aa Ix.Bw x.t))).new (.obj 247 [.slc s.nx 0 4 x.t.length cap,.int .i64 x.n,.int .i64 x.used])).at_ c (.obj 205 [.ptr (s.fu c 0) 0 0 0,.ptr (s.nx+1) 0 0 0])
def Yt(a:lJ):An:=.flat 6 vj (fun s z=>(S.ix s (s.tg 10) z.x z.cap).int 32 z.i) (fun _ z=>z.i<=a.es.length/\Ix.Has z.x (nJ a.es (gh (cU a.from_ a.av a.d).l) z.i)) (fun _ z=>a.es.length-z.i)
noncomputable def T8:List (Nat×cE):=[(175,HA),(178,OM),(176,OD),(179,OJ),(180,Ix.OI),(123,Ix.CE)]
def HV(z:wH)(x:lJ)(u:Jj)(w:nC)(s:Prop):=jx z.v (ag (bN (aV (eC (aD 0) (bZ (af x.from_) (af x.av) (z.H=z.H) (ax (ag (fH (cU u.from_ u.av u.d) w.y (iY x.d x.d s)))))))))
def Dn(z:vj)(y:lJ):=Ix.Has z.x (nJ y.es (gh (cU y.from_ y.av y.d).l) z.i)
def ON(z:vj)(v:wH)(u:lJ)(w:Jj)(s:nC)(t:Ix.cW)(f:Nat):=aS z.i/\∃y:vj,br z.i y.i/\HV v u w s (yH t y.x f y.cap (ey y.i u.es.length (Dn y u) z.i))
noncomputable def MS(v:V1 vh.α)(y:vj)(w:wH)(s:lJ)(t:Jj)(f:nC)(g:List Value)(h:Nat):=o6 v.a.o.isSome (aB.gone (jA v.a.o)) (∃u:Ix.uh,ag (aB.key (jA v.a.o)=u.key/\yH y.x u.x y.cap u.cap (z7 u/\aI (ON y w s t f (Ix.kQ u.x u.key) u.cap)))) (az v.a.o.isSome (ah (jP (aT g h))->∃z:Ix.mH,ag (aB.key (jA v.a.o)=z.key/\jP (aT g h)=z.pos/\yH y.x z.x y.cap z.cap (z6 z/\∀i:Nat,True->ON y w s t f (Ix.ug z.x z.key z.pos) i))) (ON y w s t f y.x y.cap))
def Ag(x y:Nat)(z:bA)(v:Prop):=rJ x y z/\v/\∀u:Nat,u<bB (cU x y z)->pe (cU x y z) u<=400
theorem Qx:fnBody (Y Tryz.prog) T8 130 Af fun a=>[(130,[Yt a],[])]:=fnBody.of (p :=
 ∀z:lJ,Ag z.from_ z.av z.d (Ys z.es (gh (cU z.from_ z.av z.d).l))->∃u:Jj,ag (bz z.from_ u.from_/\bz z.av u.av/\z.H=u.H/\iY z.d u.d (rJ u.from_ u.av u.d/\∀k:nC,xG k u->Exists (ay (cQ (∃q:tW,eC (k.H=q.H) (rC (cU u.from_ u.av u.d) q.L k.y.lv q.y.lv (zR q/\∀f:wH,zQ f q->gA f.v/\(∃w:vj,aF w.i (HV f z u k (ni 16 w.x 16 w.cap 0 0 (dh (Ix.bM 16).t) (w.i<=z.es.length/\Dn w z))))/\∀w:vj,w.i<=z.es.length/\Dn w z->u5 w.i f.v (fun s=>f.H s) (fun s h=>∃g:V1 vh.α,aT h (s+1)=g.v/\f.H=g.H/\(Aa g.a.o g.a.cap/\kr g.H g.v (iU (CK.int .u8)) (BO g.a).n (BO g.a).cap (BO g.a).rows)/\∀e:vh.β,True->gA (aT h (s+1))/\az (af (di (aT h (s+1))) == (1:Int)) (Exists (iT (aT h (s+1)) 0 fun r c=>Exists (mX r c 0 (fun m=>f.H m) (fun m=>∃p:Int,m=fM p/\jQ p) (fun m p=>True) fun m p=>jQ (jP (aT p m))->az (jP (aT p m) == (2:Int)) (Exists (ay (cQ (aS w.i/\∃j:vj,br w.i j.i/\HV f z u k (ag (16=bJ j.x/\16=j.cap)/\aF j.x.n (aF j.x.used (aK (bJ j.x) 16 4 (dh (Ix.bM 16).t) (dh j.x.t)/\ey j.i z.es.length (Dn j z) w.i))))))) (MS g w f z u k h s)))) (MS g w f z u k h s)) (∃s:sA,ag (aV (ax (ag (rC (cU u.from_ u.av u.d) (Ko z).L k.y.lv s.y.lv (yH w.x s.x w.cap s.cap (f.H=s.H /\
 (jm (Ko z) s/\∀h:Nat,pg (z.H h) (s.H h) (bt s.y) h)/\True))))))))))))))) (by kernel_rfl) (by
 delta o6 az aT ai bZ aK ah b8 aA aD bE bJ cF aH af bh mX fM aC dV aX bq eC cS aW ON bN gA aI qv ey bB ew fH xD ni MS xG aV ay aS jx aF iT Ag ag aY zQ HV u5 pg br z7 ax jA gW iU Dn zR bu bz jQ Aa cQ pe dh jw z6
 try dsimp -iota -proj only
 rintro⟨H,d,fr,sg,es⟩ ⟨ok,hes,hsl⟩;dsimp only at *;obtain⟨L,hL⟩:∃L,L=cU fr sg d:=⟨_,rfl⟩
 have hone:L.l.length<=1:=by rw[hL];exact ok.one
 have hopn:Ko ⟨H,d,fr,sg,es⟩=⟨L,d,nJ es (gh L.l) es.length⟩:=by rw[hL];rfl
 rw[hopn];rw[<- hL]at hes hsl;refine⟨Jj.mk H d fr sg,?_⟩;dsimp only;rw[<- hL]
 and_intros<;>first|exact dg|rfl|exact ak.refl _ _ _|exact Nat.le_refl _|exact ok|skip
 rintro⟨H1,y1⟩ ⟨hl1,hf1⟩;dsimp only at hl1 hf1 ⊢;refine⟨(),trivial,fun _ _=>⟨tW.mk H1 y1 L,?_⟩⟩;have hrec:∀i,i<L.l.length->(gl L.l i).aP.length<=400/\∀k,k<(gl L.l i).aP.length->1<=(gl (gl L.l i).aP k).body.length/\(gl (gl L.l i).aP k).body.length<=1000:=fun i hi=>⟨hsl i hi,fun k hk=>by
  obtain⟨j,hj,e⟩:=HU hi hk;obtain⟨e1,e2⟩:=hes.at_ j (by rw[hes.len];exact hj);rw[<- e,e1];have:=mu e2;omega⟩
 and_intros<;>first|exact dg|rfl|exact ak.refl _ _ _|exact Nat.le_refl _|exact hl1|exact hrec|(dsimp only;omega)|skip
 rintro⟨H2,v,vs⟩ ⟨hout,hf2⟩;dsimp only at hout hf2 ⊢;obtain⟨cr,hrows⟩:=hout.rows;obtain⟨s1,s2,s3,s4,s5,⟨sa,s6⟩,s7⟩:=fh hrows;have hlen:=hes.len;have hfew:=hes.yw;have hlog:bY H2 y1 L:=hl1.frame fun z hz=>(hf2 z (hl1.dom z hz)).1;have hfin:∀z,H z≠none->H2 z=H z/\¬z∈bt y1:=fun z hz=>by
  obtain⟨a1,a2⟩:=hf1 z hz;exact⟨(hf2 z (by rw[a1];exact hz)).1.trans a1,a2⟩
 refine⟨⟨sa,_,_,s6,by simp only[aq];omega⟩,⟨⟨0,Ix.bM 16,16⟩,?_⟩,fun q hq=>?_⟩
 ·have h0:Ix.Has (Ix.bM 16) (nJ es (gh L.l) 0):=Ix.vY (by omega) (by omega)
  and_intros<;>first|exact dg|rfl|exact ak.refl _ _ _|exact Nat.le_refl _|exact h0
 ·obtain⟨i,x,xc⟩:=q;obtain⟨hi,hx⟩:=hq;dsimp only at hi hx ⊢;have hxl:(nJ es (gh L.l) i).length<=i:=Fy es (gh L.l) i;have hn:=BP hx;have hstep:nJ es (gh L.l) (i+1)=vZ (nJ es (gh L.l) i) (gl es i) (gl (gh L.l) i).pos:=rfl;rw[s1];refine⟨fun c1=>?_,fun c1=>⟨⟨H2,y1,x,xc⟩,?_⟩⟩
  ·have hi':i<es.length:=by have:=of_decide_eq_true c1;omega
   obtain⟨b',lo',o',cs',q1,q2,q3,q4,q5,q6,q7,q8⟩:=u0 hrows (k:=i) (by omega);obtain⟨cb,hbody⟩:=hout.body i (by omega);obtain⟨e1,e2⟩:=hes.at_ i hi';rw[e1]at hbody;obtain⟨w1,w2,w3,w4,w5,⟨wa,w7⟩,w6⟩:=fh hbody;obtain⟨hb1,hb2⟩:=mu e2;refine⟨_,_,_,_,q1,by omega,b',lo',o'+i*2,cs',by rw[Int.toNat_natCast];congr 1;omega,q2,⟨⟨_,q3,_,rfl,q6⟩,⟨_,q4,q5⟩,trivial⟩,?_⟩;rw[q7,q8];refine⟨⟨⟨gl es i,cb⟩,H2,vs.getD i undef⟩,rfl,rfl,⟨⟨e2,w3⟩,hbody⟩,fun _ _=>⟨⟨wa,_,_,w7,by simp only[aq];omega⟩,?_⟩⟩;rw[w1];dsimp only[jP];cases ho:gl es i with
   |none =>
    rw[ho]at hbody hstep;refine⟨fun _=>?_,fun c=>absurd c (by simp[aJ])⟩;rcases hbody with⟨_,h0,_⟩ | ⟨b9,lo9,o9,cs9,h9,h91,h92,h93,h94⟩
    ·cases h0
    obtain⟨k1,_⟩:=h94.at_ 0 (by simp[aJ]) 0 (.int .u8) rfl;have k1:cs9[o9]? = some (.int .u8 2):=k1;have k2:cs9.getD o9 (Value.tuple #[]) = .int .u8 2:=by rw[List.getD_eq_getElem?_getD,k1];rfl
    refine⟨_,_,_,_,h9,by simp[aJ],b9,lo9,o9,cs9,rfl,h92,⟨⟨_,k1,2,rfl,by simp only[bR];omega⟩,trivial⟩,fun _=>?_⟩;rw[k2];dsimp only[jP];refine⟨fun _=>⟨(),trivial,fun _ _=>⟨by simp only[bR];omega,⟨i+1,Ix.bM 16,16⟩,?_⟩⟩,fun c=>absurd c (by decide)⟩;have h0:Ix.Has (Ix.bM 16) (nJ es (gh L.l) (i+1)):=by rw[hstep];exact Ix.vY (by omega) (by omega)
    and_intros<;>first|exact dg|rfl|exact ak.refl _ _ _|exact Nat.le_refl _|exact h0|(dsimp only;omega)
   |some it =>
    rw[ho]at hbody hstep e2;have hmay:=e2 it rfl;have hks:it.key.size<=aq:=by have:=qR hmay;simp only[aq];omega
    have hl2:(aJ (some it)).length≠1:=by have:=Ft hmay;simp only[aJ,List.length_cons];omega
    have hl3:(((aJ (some it)).length:Int) == 1)=false:=by rw[beq_eq_false_iff_ne];omega
    refine⟨fun c=>by(rw[hl3]at c;cases c),fun _=>⟨fun _=>⟨fun cg=>⟨Ix.uh.mk x xc it.key,?_⟩,fun cg=>⟨fun _ _=>⟨Ix.mH.mk x xc it.key (gl (gh L.l) i).pos,?_⟩,fun c=>absurd c (show ¬(true=false)by decide)⟩⟩,fun c=>absurd c (show ¬(true=false)by decide)⟩⟩
    ·have cg:it.gone=true:=cg;obtain⟨hd1,hd2⟩:=Kk (k:=it.key) hx;have hd3:Ix.Has (Ix.kQ x it.key) (nJ es (gh L.l) (i+1)):=by rw[hstep];simp only[vZ,cg,if_true];exact hd1
     and_intros<;>first|exact dg|rfl|exact ak.refl _ _ _|exact Nat.le_refl _|exact hx.inv|exact hks|exact hd2|(dsimp only;omega)|skip
     intro _ _;refine⟨by simp only[bR];omega,⟨i+1,Ix.kQ x it.key,xc⟩,?_⟩
     and_intros<;>first|exact dg|rfl|exact ak.refl _ _ _|exact Nat.le_refl _|exact hd3|(dsimp only;omega)
    ·have cg:it.gone=false:=cg;have hp1:=OK (p:=(gl (gh L.l) i).pos) hx (by omega) hks;have hp3:Ix.Has (Ix.ug x it.key (gl (gh L.l) i).pos) (nJ es (gh L.l) (i+1)):=by rw[hstep];simp only[vZ,cg];exact hp1
     and_intros<;>first|exact dg|rfl|exact ak.refl _ _ _|exact Nat.le_refl _|exact hx.inv|exact hks|(dsimp only;omega)|skip
     intro c2 _;refine⟨by simp only[bR];omega,⟨i+1,Ix.ug x it.key (gl (gh L.l) i).pos,c2⟩,?_⟩
     and_intros<;>first|exact dg|rfl|exact ak.refl _ _ _|exact Nat.le_refl _|exact hp3|(dsimp only;omega)
  ·have hi':i=es.length:=by have:=of_decide_eq_false c1;omega
   subst hi'
   and_intros<;>first|exact dg|rfl|exact ak.refl _ _ _|exact Nat.le_refl _|exact⟨hlog,hx⟩|exact hfin)
theorem Qy:au (Y Tryz.prog).G.X 130 Af:=aU fL Qx ⟨Fh,Kn,Kg,MQ,Ix.Kj,Ix.BJ,trivial⟩
structure eZ where
 seq:Int
 key:ByteArray
 pos:Int
 deriving Inhabited
def qC:List CK:=[.int .i64,.str,.int .i64]
def cR(x:eZ):List Value:=[.int .i64 x.seq,.string x.key,.int .i64 x.pos]
@[reducible] def vk(a b:List eZ)(v w:Nat)(p:Prop):Prop:=(0=0/\a.length=b.length/\v=w)/\(b.length<=a.length/\ak b.length 3 (aa cR a) (aa cR b))/\p
def dO(f:Int)(ms:List eZ):List eZ:=ms.filter fun x=>decide (f<=x.pos)
def WB(lg ma:Nat)(n cap:Nat):Chunk:=.obj 226 [.ptr lg 0 0 0,.slc ma 0 3 n cap]
structure nK where
 ms:List eZ
 cap:Nat
 H:PH
 y:iu
 L:bQ
noncomputable def T9:cE where
 α:=nK
 β:=Int
 m:=6
 m':=6
 pre:=fun a=>bY a.H a.y a.L/\a.L.l.length<1000/\a.ms.length<100000
 args:=fun a=>[.a (.slc 0 0 3 a.ms.length a.cap),.Bz 183 [.ptr 1 0 0 0]]
 hp:=fun _=>[]
 ro:=fun a=>[(0,.arr 228 qC a.ms.length (aa cR a.ms)),(1,.obj 85 [.ptr 2 0 0 0]),(2,WB 3 0 a.ms.length a.cap),(3,fF 4 a.L a.y.lv),(5,.cA a.H)]
 post:=fun a r=>(r = -1/\∀i,i<a.ms.length->cG a.L<=(gl a.ms i).pos)\/∃i:Nat,r=i/\i<a.ms.length/\(gl a.ms i).pos<cG a.L/\∀j,j<i->cG a.L<=(gl a.ms j).pos
 res:=fun _ r=>.a (.int .i64 r)
 cZ:=fun _ _=>[]
def ZG(a:nK):An:=.flat 2 Nat (fun s k=>s.int 8 k) (fun _ k=>k<=a.ms.length/\∀j,j<k->cG a.L<=(gl a.ms j).pos) (fun _ k=>a.ms.length-k)
def cm(x:List eZ):Nat:=x.length
def xK(z:Nat)(x:nK):=∀y:Nat,y<z->cG x.L<=(gl x.ms y).pos
def Dp(z:Int)(x:nK):=z=(-1:Int)/\xK (cm x.ms) x\/∃y:Nat,z=af y/\y<cm x.ms/\(gl x.ms y).pos<cG x.L/\xK y x
def vl(x y:Nat)(z:Prop):=bZ (af x) 0 (bG x y) z
def MT(x:nK)(z:Prop):=vl (cm x.ms) x.cap (ag (dU (cm x.ms) 3 (aa cR x.ms)/\ax (bG (cm x.ms) x.cap/\ag (fH x.L x.y (x.H=x.H/\z)))))
theorem Ua:fnBody (Y Tryz.prog) [(164,C3)] 211 T9 fun a=>[(211,[ZG a],[])]:=fnBody.of (p :=
 ∀x:nK,bY x.H x.y x.L/\bB x.L<1000/\cm x.ms<100000->(∃z:Nat,aF z (MT x ((z<=cm x.ms/\xK z x)/\True)))/\∀z:Nat,z<=cm x.ms/\xK z x->gz z (cm x.ms) (ah (gl x.ms (0+aA z)).pos->∃u:EC,ax (pn x.L u.L x.y u.y x.H u.H (bB u.L<1000) (aI (az (aH (gl x.ms (0+aA z)).pos (jf u.L.l u.L.next)) (∃v:Int,af z=v/\Dp v x/\True) (dz z fun v=>MT x (ey v (cm x.ms) (xK v x) z)))))) (∃w:Int,(-1:Int)=w/\Dp w x/\True)) (by kernel_rfl) (by
 delta az bZ aK ah b8 aA cF aH af aC aX bq aW dU gz aI cm bG dz ey bB fH aS Dp aF ag aY cV br ax pn xK MT dX vl
 try dsimp -iota -proj only
 rintro⟨ms,cap,H,y,L⟩ ⟨hl,hf,hn⟩;dsimp only at *;have h0:∀j,j<0->cG L<=(gl ms j).pos:=fun j hj=>absurd hj (Nat.not_lt_zero j);refine⟨⟨0,?_⟩,fun i hi=>?_⟩
 ·and_intros<;>first|exact bW|exact h0|(intro h_;revert h_)|exact bX|skip
 obtain⟨hi,hall⟩:=hi;rw[show 0+(i:Int).toNat=i by omega];refine⟨fun c1=>?_,fun c1=>⟨-1,rfl,.inl ⟨rfl,fun j hj=>hall j (by have:=of_decide_eq_false c1;omega)⟩,trivial⟩⟩;have hlt:i<ms.length:=by have:=of_decide_eq_true c1;omega
 refine⟨⟨by omega,by omega⟩,hlt,fun _=>⟨EC.mk H y L,?_⟩⟩
 and_intros<;>first|exact bW|exact hl|exact hf|(intro h_;revert h_)|exact bX|skip
 intro _ _;refine⟨fun c2=>⟨i,rfl,.inr ⟨i,rfl,hlt,of_decide_eq_true c2,hall⟩,trivial⟩,fun c2=>⟨by simp only[bR];omega,i+1,?_⟩⟩;have c2:¬(gl ms i).pos<cG L:=of_decide_eq_false c2;have h1:∀j,j<i+1->cG L<=(gl ms j).pos:=fun j hj=>by
  by_cases e:j=i
  ·subst e;omega
  ·exact hall j (by omega)
 and_intros<;>first|exact bW|exact h1|(intro h_;revert h_)|exact bX|skip)
theorem Ub:au (Y Tryz.prog).G.X 211 T9:=aU fL Ua ⟨zP,trivial⟩
def qK(f:Int)(ms:List eZ)(j:Nat):List eZ:=dO f (ms.take j)++ms.drop (dO f (ms.take j)).length
noncomputable def Uc:cE where
 α:=nK
 β:=Unit
 m:=6
 m':=6
 pre:=fun a=>bY a.H a.y a.L/\a.L.l.length<1000/\a.ms.length<100000/\a.ms.length<=a.cap
 args:=fun a=>[.a (.slc 0 0 3 a.ms.length a.cap),.Bz 183 [.ptr 1 0 0 0]]
 hp:=fun a=>[(0,.arr 228 qC a.ms.length (aa cR a.ms))]
 ro:=fun a=>[(1,.obj 85 [.ptr 2 0 0 0]),(2,WB 3 0 a.ms.length a.cap),(3,fF 4 a.L a.y.lv),(5,.cA a.H)]
 post:=fun _ _=>True
 res:=fun a _=>.a (.slc 0 0 3 (dO (cG a.L) a.ms).length a.cap)
 cZ:=fun a _=>[(0,.arr 228 qC (dO (cG a.L) a.ms).length (aa cR (dO (cG a.L) a.ms)))]
theorem p8{f:Int}{ms:List eZ}{j:Nat}(hj:j<ms.length):dO f (ms.take (j+1))=if f<=(gl ms j).pos then dO f (ms.take j)++[gl ms j]else dO f (ms.take j):=by
 unfold dO;rw[p6 hj,List.filter_append];by_cases h:f<=(gl ms j).pos
 ·rw[if_pos h];simp[h]
 ·rw[if_neg h];simp[h]
theorem BQ(f:Int)(ms:List eZ)(j:Nat):(dO f (ms.take j)).length<=j:=Nat.le_trans (List.length_filter_le _ _) (by rw[List.length_take];omega)
theorem Kp{f:Int}{ms:List eZ}(h:∀i,i<ms.length->f<=(gl ms i).pos):dO f ms=ms:=by
 unfold dO;rw[List.filter_eq_self];intro x hx;obtain⟨i,hi,rfl⟩:=List.getElem_of_mem hx;rw[<- bT hi];exact decide_eq_true (h i hi)
theorem Ba{f:Int}{ms:List eZ}:∀ {k:Nat},k<=ms.length->(∀i,i<k->f<=(gl ms i).pos)->dO f (ms.take k)=ms.take k
 |0,_,_=>rfl
 |k+1,hk,h=>by rw[p8 (by omega),if_pos (h k (by omega)),Ba (by omega) fun i hi=>h i (by omega),p6 (by omega)]
theorem WC{f:Int}{ms:List eZ}{j:Nat}(hj:j<ms.length):gl (qK f ms j) j=gl ms j:=by
 have h1:=BQ f ms j;obtain⟨q,hq⟩:∃q,j=(dO f (ms.take j)).length+q:=⟨j-(dO f (ms.take j)).length,by omega⟩
 have h2:gl (qK f ms j) ((dO f (ms.take j)).length+q)=gl (ms.drop (dO f (ms.take j)).length) q:=bf;rw[<- hq]at h2;rw[h2,bT (by rw[List.length_drop];omega),bT hj,List.getElem_drop];congr 1;omega
theorem Ud{f:Int}{ms:List eZ}{j:Nat}(hj:j<ms.length)(h:f<=(gl ms j).pos):qK f ms (j+1)=(qK f ms j).set (dO f (ms.take j)).length (gl ms j):=by
 have h1:=BQ f ms j;unfold qK;rw[p8 hj,if_pos h,List.length_append,List.length_singleton,List.set_append_right _ _ (Nat.le_refl _),Nat.sub_self,List.drop_eq_getElem_cons (show(dO f (ms.take j)).length<ms.length by omega),List.set_cons_zero,List.append_assoc];rfl
theorem WD{f:Int}{ms:List eZ}{j:Nat}(hj:j<ms.length)(h:¬f<=(gl ms j).pos):qK f ms (j+1)=qK f ms j:=by
 unfold qK;rw[p8 hj,if_neg h]
theorem Ue(f:Int)(ms:List eZ){j:Nat}(hj:j<=ms.length):(qK f ms j).length=ms.length:=by
 have h1:=BQ f ms j;unfold qK;rw[List.length_append,List.length_drop];omega
def ZH(a:nK):An:=.flat 5 Nat (fun s j=>((s.at_ 0 (.arr 228 qC a.ms.length (aa cR (qK (cG a.L) a.ms j)))).int 5 ((dO (cG a.L) (a.ms.take j)).length:Nat)).int 6 j) (fun _ j=>j<=a.ms.length) (fun _ j=>a.ms.length-j)
def qD(x:nK)(y:Nat):Nat:=cm (dO (cG x.L) (List.take y x.ms))
def HW(u:Int)(x:nK)(z:Nat)(v:Int)(w:Nat->Nat->Value)(s:Prop):=u=af (qD x z)/\bE (v == (-1:Int)) (bG (cm x.ms) x.cap/\ag (aK (cm x.ms) (cm x.ms) 3 w (aa cR (qK (cG x.L) x.ms z))/\ax (bG (cm x.ms) x.cap/\ag (fH x.L x.y (x.H=x.H/\s)))))
def Ah(x:nK)(y:Nat):eZ:=gl (qK (cG x.L) x.ms y) (0+aA y)
def HX(z:List eZ)(x:nK)(u:Nat)(v:bQ)(w:iu)(s:PH)(t f:Prop):=dL (cm z) (cm x.ms) u x.cap (0=0) 3 (aa cR z) (aa cR x.ms) (ax (ag (cm z=cm x.ms/\u=x.cap)/\ag (pn v x.L w x.y s x.H (bB x.L<1000/\t) f)))
theorem Uf:fnBody (Y Tryz.prog) [(164,C3),(211,T9)] 182 Uc fun a=>[(182,[ZH a],[])]:=fnBody.of (p :=
 ∀x:nK,bY x.H x.y x.L/\bB x.L<1000/\cm x.ms<100000/\cm x.ms<=x.cap->∃s:nK,HX x.ms s x.cap x.L x.y x.H (cm s.ms<100000) (∀u:Int,Dp u s->az (u == (-1:Int)) (Exists (ay (vk x.ms (dO (cG x.L) x.ms) x.cap x.cap (True/\True)))) (ah (u+(1:Int))/\(∃z:Nat,u+(1:Int)=af z/\HW u x z u (aa cR x.ms) (z<=cm x.ms/\True))/\∀z:Nat,ga z (cm x.ms) (ah (eZ.pos (Ah x z))->∃v:EC,ax (pn x.L v.L x.y v.y x.H v.H (bB v.L<1000) (aI (az (bg (aH (eZ.pos (Ah x z)) (jf v.L.l v.L.next))) (dX (qD x z) (cm x.ms) (aS (qD x z)/\dz z fun w=>HW (af (qD x z)+(1:Int)) x w u (kq (aa cR (qK (cG x.L) x.ms z)) (0+aA (qD x z)) 0 (bx (eZ.seq (Ah x z)) (eE (eZ.key (Ah x z)) (eZ.pos (Ah x z)) []))) (bU w (cm x.ms) z))) (dz z fun w=>HW (af (qD x z)) x w u (aa cR (qK (cG x.L) x.ms z)) (bU w (cm x.ms) z)))))) (dc (af (qD x z)) (cm x.ms)/\dc (af (qD x z)) x.cap/\Exists (ay (ag (aA (qD x z)-0=cm (dO (cG x.L) x.ms)/\x.cap-0=x.cap)/\bl (aK (cm (dO (cG x.L) x.ms)) (cm x.ms) 3 (fun t=>zI (qD x z) t (cm x.ms) (bx 0 (eE cO 0 [])) fun v=>aa cR (qK (cG x.L) x.ms z) t v) (aa cR (dO (cG x.L) x.ms))))))))) (by kernel_rfl) (by
 delta az aT aK ah bx b8 aA bE cO cF aH af aC dV aX bq bV aW gz dS aI cm bG dz dL bB bL fH bU qD ay aS Dp HW ag aY cV br ax bg pn ga bl eE xK Ah dX HX dc zI
 try dsimp -iota -proj only
 rintro⟨ms,cap,H,y,L⟩ ⟨hl,hf,hn,hcap⟩;dsimp only at *;refine⟨nK.mk ms cap H y L,?_⟩
 and_intros<;>first|exact bW|exact hl|exact hf|exact hn|(intro h_;revert h_)|exact bX|skip
 intro b hb;dsimp only at hb;obtain⟨f,hff⟩:∃f,f=cG L:=⟨_,rfl⟩
 rw[<- hff]at hb;rw[<- hff];refine⟨fun c=>⟨(),?_⟩,fun c=>?_⟩
 ·have hk:dO f ms=ms:=by
   rcases hb with⟨_,h⟩ | ⟨i,hi,_⟩
   ·exact Kp h
   ·have:=eq_of_beq c;omega
  rw[hk]
  and_intros<;>first|exact bW|(intro h_;revert h_)|exact bX|skip
 rcases hb with⟨h,_⟩ | ⟨i0,rfl,hi0,hlt,hall⟩
 ·rw[h]at c;cases c
 have hk0:dO f (ms.take i0)=ms.take i0:=Ba (by omega) hall;have hk1:dO f (ms.take (i0+1))=ms.take i0:=by rw[p8 hi0,if_neg (by omega),hk0]
 have hl0:(dO f (ms.take (i0+1))).length=i0:=by rw[hk1,List.length_take];omega
 have hd0:qK f ms (i0+1)=ms:=by unfold qK;rw[hl0,hk1,List.take_append_drop]
 refine⟨by simp only[bR];omega,⟨i0+1,?_⟩,fun j hj=>?_⟩
 ·rw[hl0,hd0]
  and_intros<;>first|exact bW|(intro h_;revert h_)|exact bX|skip
 have hcj:=BQ f ms j;obtain⟨c1,hc1⟩:∃c1,c1=(dO f (ms.take j)).length:=⟨_,rfl⟩
 rw[<- hc1]at hcj;rw[<- hc1,show 0+(j:Int).toNat=j by omega,show 0+(c1:Int).toNat=c1 by omega,show(c1:Int).toNat=c1 by omega];refine⟨fun d1=>?_,fun d1=>?_⟩
 ·have hj2:j<ms.length:=by have:=of_decide_eq_true d1;omega
  rw[WC hj2];refine⟨⟨by omega,by omega⟩,hj2,fun _=>⟨EC.mk H y L,?_⟩⟩
  and_intros<;>first|exact bW|exact hl|exact hf|(intro h_;revert h_)|exact bX|skip
  intro _ _;dsimp only;rw[show jf L.l L.next=f from hff.symm];refine⟨fun d2=>?_,fun d2=>?_⟩
  ·have hp:f<=(gl ms j).pos:=by simp only[Bool.not_eq_true',decide_eq_false_iff_not]at d2;omega
   have hk2:(dO f (ms.take (j+1))).length=c1+1:=by rw[p8 hj2,if_pos hp,List.length_append,<- hc1];rfl
   have hr:ak ms.length 3 (kq (aa cR (qK f ms j)) c1 0 [Value.int .i64 (gl ms j).seq,Value.string (gl ms j).key,Value.int .i64 (gl ms j).pos]) (aa cR (qK f ms (j+1))):=by
    rw[Ud hj2 hp,<- hc1];exact ak.set c1 (by rw[Ue f ms (by omega)];omega) (fun i hi=>gU hi) (by rw[jh];rfl)
   refine⟨⟨by omega,by omega⟩,by omega,by simp only[bR];omega,by simp only[bR];omega,j+1,?_⟩;rw[hk2]
   and_intros<;>first|exact bW|exact hr|(intro h_;revert h_)|exact bX|skip
  ·have hp:¬f<=(gl ms j).pos:=by simp only[Bool.not_eq_false',decide_eq_true_eq]at d2;omega
   have hk2:(dO f (ms.take (j+1))).length=c1:=by rw[p8 hj2,if_neg hp,<- hc1]
   refine⟨by simp only[bR];omega,j+1,?_⟩;rw[hk2,WD hj2 hp]
   and_intros<;>first|exact bW|(intro h_;revert h_)|exact bX|skip
 ·have hj2:j=ms.length:=by have:=of_decide_eq_false d1;omega
  subst hj2;have hk:(dO f ms).length=c1:=by rw[hc1,List.take_length]
  rw[hk];have hr:ak c1 3 (fun(i j:Nat)=>if c1<=i/\i<c1+(ms.length-c1)then[Value.int .i64 0,Value.string (ByteArray.mk #[]),Value.int .i64 0].getD j (Value.tuple #[])else aa cR (qK f ms ms.length) i j) (aa cR (dO f ms)):=⟨fun i hi j hj=>by
   rw[if_neg (by omega)];unfold aa qK;rw[bO (by rw[List.take_length,hk];exact hi),List.take_length]⟩
  refine⟨⟨by omega,by omega⟩,⟨by omega,by omega⟩,(),?_⟩
  and_intros<;>first|exact bW|exact hr|(intro h_;revert h_)|exact bX|skip)
theorem Ug:au (Y Tryz.prog).G.X 182 Uc:=aU fL Uf ⟨zP,Ub,trivial⟩
def gY(ms:List eZ):Int:=if ms.length=0 then 0 else(gl ms (ms.length-1)).seq
structure HY where
 ms:List eZ
 cap:Nat
noncomputable def OO:cE where
 α:=HY
 β:=Unit
 m:=3
 m':=3
 pre:=fun a=>a.ms.length<100000
 args:=fun a=>[.a (.ptr 0 0 0 0)]
 hp:=fun _=>[]
 ro:=fun a=>[(0,WB 2 1 a.ms.length a.cap),(1,.arr 228 qC a.ms.length (aa cR a.ms))]
 post:=fun _ _=>True
 res:=fun a _=>.a (.int .i64 (gY a.ms))
 cZ:=fun _ _=>[]
theorem Uh:fnBody (Y Tryz.prog) [] 140 OO fun _=>[]:=fnBody.of (p :=
 ∀x:HY,cm x.ms<100000->az (af (cm x.ms) == (0:Int)) (Exists (bI ((0:Int)=gY x.ms))) (ah (eu (cm x.ms))/\nW (eu (cm x.ms)) (cm x.ms) (u6 (gl x.ms (0+aX (eu (cm x.ms)))).seq (gY x.ms)))) (by kernel_rfl) (by
 delta az ah cF af aC aX bq aW cm bI ay cV nW bl u6 eu
 rintro⟨ms,cap⟩ hn;dsimp only at *;refine⟨fun c=>⟨(),?_,trivial,trivial⟩,fun c=>?_⟩
 ·have:=eq_of_beq c;unfold gY;rw[if_pos (by omega)]
 ·have h0:ms.length≠0:=fun e=>by rw[e]at c;cases c
  rw[show 0+((ms.length:Int)-1).toNat=ms.length-1 by omega];refine⟨by simp only[bR];omega,⟨by omega,by omega⟩,by omega,fun _=>⟨(),?_,trivial,trivial⟩⟩;unfold gY;rw[if_neg h0])
theorem Kq:au (Y Tryz.prog).G.X 140 OO:=aU fL Uh trivial
structure Jk where
 L:bQ
 d:bA
 ms:List eZ
structure Kr where
 H:PH
 y:iu
 cap:Nat
def ZI(jr ma lg dv ds pl:Nat)(m:Jk)(p:Kr):List (Nat×Chunk):=[(jr,WB lg ma m.ms.length p.cap),(ma,.arr 228 qC m.ms.length (aa cR m.ms)),(lg,fF dv m.L p.y.lv)]++gJ dv ds m.d++[(pl,.cA p.H)]
def HZ(p p':Kr):Prop:=∀z,p.H z≠none->z∉bt p.y->p'.H z=p.H z/\z∉bt p'.y
def dP(seq:Int)(k:ByteArray):List Int:=vi seq++Jg k
def Ks(m:Jk)(k:ByteArray):Jk:=⟨mo m.L (dP (gY m.ms+1) k),oF m.L m.d (dP (gY m.ms+1) k),m.ms++[⟨gY m.ms+1,k,m.L.next⟩]⟩
def dw(m:Jk)(ks:List ByteArray):Nat->Jk
 |0=>m
 |i+1=>Ks (dw m ks i) (gl ks i)
def ZJ(m:Jk):Jk:={ m with ms:=dO (cG m.L) m.ms }
def gZ(m:Jk)(ks:List ByteArray):Jk:=if fS ks then(if ks.length=0 then ZJ m else { ZJ (dw m ks ks.length)with d:=gv (dw m ks ks.length).d })else m
theorem kS{k:ByteArray}(h:cN k=true):1<=k.size/\k.size<=40:=by
 simp only[cN,Bool.and_eq_true,decide_eq_true_eq,Bool.not_eq_true',decide_eq_false_iff_not]at h;refine⟨?_,h.2⟩;rcases Nat.eq_zero_or_pos k.size with e|e
 ·exact absurd (by
   obtain⟨⟨l⟩⟩:=k;have:l=[]:=List.eq_nil_of_length_eq_zero e;subst this;rfl) h.1
 ·exact e
theorem Ai(m:Jk)(ks:List ByteArray):∀i,(dw m ks i).ms.length=m.ms.length+i
 |0=>rfl
 |i+1=>by
  show((dw m ks i).ms++[_]).length=_;rw[List.length_append,Ai m ks i];rfl
theorem Fz{ms:List eZ}{x:eZ}:ak (ms++[x]).length 3 (aZ (aa cR ms) 0 ms.length fun(i j:Nat)=>aO 3 [Value.int .i64 x.seq,Value.string x.key,Value.int .i64 x.pos] (0+i) j) (aa cR (ms++[x])):=⟨fun i hi j hj=>by
 rw[List.length_append,List.length_singleton]at hi;simp only[aZ,Nat.zero_add];by_cases h:i<ms.length
 ·rw[if_pos h];unfold aa;rw[bO h]
 ·rw[if_neg h];obtain rfl:i=ms.length:=by omega
  rw[Nat.sub_self];unfold aa;have:gl (ms++[x]) ms.length=x:=by
   have:=bf (l:=ms) (m:=[x]) (i:=0);rw[Nat.add_zero]at this;rw[this];rfl
  rw[this];rcases(by omega:j=0\/j=1\/j=2)with rfl|rfl|rfl<;>rfl⟩
theorem HZ.refl(p:Kr):HZ p p:=fun _ _ hn=>⟨rfl,hn⟩
structure pN where
 m:Jk
 p:Kr
 ks:List ByteArray
 kc:Nat
noncomputable def FA:cE where
 α:=pN
 β:=Kr
 m:=7
 m':=9
 pre:=fun a=>bY a.p.H a.p.y a.m.L/\a.m.L.l.length<800/\a.ks.length<1000/\a.m.ms.length<50000/\a.m.ms.length<=a.p.cap/\(fS a.ks=true->(∀i,i<a.ks.length->uX (dw a.m a.ks i).L (dw a.m a.ks i).d/\0<=gY (dw a.m a.ks i).ms/\gY (dw a.m a.ks i).ms<1000000000000)/\(dw a.m a.ks a.ks.length).d.n<100000/\(dw a.m a.ks a.ks.length).d.calls<1000000000000/\(dw a.m a.ks a.ks.length).L.l.length<1000)
 args:=fun a=>[.a (.ptr 0 0 0 0),.a (.slc 6 0 1 a.ks.length a.kc)]
 hp:=fun a=>ZI 0 1 2 3 4 5 a.m a.p
 ro:=fun a=>[(6,.arr 9 [.str] a.ks.length (aa kF a.ks))]
 post:=fun a b=>bY b.H b.y (gZ a.m a.ks).L/\HZ a.p b/\(gZ a.m a.ks).ms.length<=b.cap
 res:=fun a _=>.mG [.a (.int .i64 (if fS a.ks then gY (gZ a.m a.ks).ms else 0)),.a (.int .i64 (if fS a.ks then 0 else 1))]
 cZ:=fun a b=>ZI 0 7 2 3 4 8 (gZ a.m a.ks) b
structure Bb where
 i:Nat
 p:Kr
def S.jr(s:S)(c:Nat)(m:Jk)(p:Kr):S :=
 (fun(s1:S)=>((s1.put ((s1.hp.del (Ff s1)).del (s.fu c 1))).new (.cA p.H)))
 ((fun(s0:S)=>(s0.new (.arr 228 qC m.ms.length (aa cR m.ms))).at_ c (WB (s.fu c 0) s0.nx m.ms.length p.cap))
  (((s.at_ (s.fu c 0) (fF (s.fu (s.fu c 0) 0) m.L p.y.lv)).at_ (s.fu (s.fu c 0) 0) (.obj 116 [.slc (s.fu (s.fu (s.fu c 0) 0) 0) 0 129 m.d.n m.d.n,.int .i64 m.d.calls])).at_ (s.fu (s.fu (s.fu c 0) 0) 0) (.arr 158 AX m.d.n (fe m.d))))
def Yu(a:pN):An:=.flat 4 Nat (fun s i=>s.int 18 i) (fun _ i=>i<=a.ks.length/\∀j,j<i->cN (gl a.ks j)=true) (fun _ i=>a.ks.length-i)
def Yv(a:pN):An:=.flat 10 Bb (fun s x=>(S.jr s (s.fu (s.tg 2) 0) (dw a.m a.ks x.i) x.p).int 32 x.i) (fun _ x=>x.i<=a.ks.length/\fS a.ks=true/\bY x.p.H x.p.y (dw a.m a.ks x.i).L/\HZ a.p x.p/\(dw a.m a.ks x.i).ms.length<=x.p.cap) (fun _ x=>a.ks.length-x.i)
def Yw(a:pN):An:=.mk 9 Unit (fun s _=>s) (fun _ _=>fS a.ks=true) (fun _ _=>0) fun _=>.mk 1000 [Yv a] []
noncomputable def WE:List (Nat×cE):=[(140,OO),(165,CM),(162,BN),(182,Uc),(169,jN)]
def Dq(x:Kr)(z:Jk)(u:pN):=bY x.H x.y z.L/\HZ u.p x/\cm z.ms<=x.cap
def xL(x:List ByteArray)(y:Jk):Int:=if fS x=true then gY (gZ y x).ms else(0:Int)
def MU(v:Int)(x:pN)(w:Int)(u:Kr)(s:List eZ)(t:Nat)(f:Jk)(g:bA):=∃z:Kr,v=xL x.ks x.m/\w=gX (fS x.ks)/\u.H=z.H/\ag (vk s (gZ x.m x.ks).ms t z.cap (gV f.L (gZ x.m x.ks).L u.y z.y g (gZ x.m x.ks).d (Dq z (gZ x.m x.ks) x/\True)))
def H6(x:pN)(z:Prop):=qy (ag (bG (aR x.ks) x.kc/\ax (vk x.m.ms x.m.ms x.p.cap x.p.cap (ag (fH x.m.L x.p.y (iY x.m.d x.m.d (x.p.H=x.p.H/\lI x.ks/\z)))))))
def H7(x:pN):=bY x.p.H x.p.y x.m.L/\bB x.m.L<800/\aR x.ks<1000/\cm x.m.ms<50000/\cm x.m.ms<=x.p.cap/\(aC (fS x.ks)->(∀z:Nat,z<aR x.ks->uX (dw x.m x.ks z).L (dw x.m x.ks z).d/\bq (gY (dw x.m x.ks z).ms) 1000000000000)/\(dw x.m x.ks (aR x.ks)).d.n<100000/\(dw x.m x.ks (aR x.ks)).d.calls<1000000000000/\bB (dw x.m x.ks (aR x.ks)).L<1000)
def pz(x:pN)(y:Bb):List eZ:=(dw x.m x.ks y.i).ms
def MV(x:nK)(z:pN)(u:Bb)(v:bA):=∃y:HY,ax (vk (dO (cG x.L) x.ms) y.ms x.cap y.cap (cm y.ms<100000/\aI (MU (gY y.ms) z 0 u.p (dO (cG x.L) x.ms) x.cap (dw z.m z.ks u.i) v)))
def MW(x:pN)(u:PH)(z:Bb)(v w:Nat)(s:bQ)(t:iu)(f:bA)(g h:Prop):=dY (aR x.ks) x.kc (qy (ag (bG (aR x.ks) x.kc/\u=z.p.H/\ax (ag (v=cm (pz x z)/\w=z.p.cap)/\gV s (dw x.m x.ks z.i).L t z.p.y f (dw x.m x.ks z.i).d (lI x.ks/\g/\h)))))
def H8(x:pN)(y:Bb):=aC (fS x.ks)/\Dq y.p (dw x.m x.ks y.i) x
theorem Ui:fnBody (Y Tryz.prog) WE 134 FA fun a=>[(134,[Yu a],[Yw a])]:=fnBody.of (p :=
 ∀x:pN,H7 x->Ae x.ks x.kc (fun z=>H6 x ((z<=aR x.ks/\rL z x.ks)/\True)) (fun z=>iM (iA (gl x.ks (0+aA z)) cO) (MU 0 x 1 x.p x.m.ms x.p.cap x.m x.m.d) (aH 40 (af (sZ x.ks z))) (dz z fun f=>dY (aR x.ks) x.kc (H6 x (ey f (aR x.ks) (rL f x.ks) z)))) (H6 x (aC (fS x.ks)/\True)) ((∃z:Bb,aF z.i (MW x x.p.H z (cm x.m.ms) x.p.cap x.m.L x.p.y x.m.d (aK (cm (pz x z)) (cm x.m.ms) 3 (aa cR x.m.ms) (aa cR (pz x z))) ((z.i<=aR x.ks/\H8 x z)/\True)))/\∀z:Bb,z.i<=aR x.ks/\H8 x z->gz z.i (aR x.ks) (∃w:HY,ax (vk (pz x z) w.ms z.p.cap w.cap (cm w.ms<100000/\aI (ah (gY w.ms+(1:Int))/\∃v:mh,(0=ai v.l/\0=v.cap)/\zw 1 v (ai v.l=0) (gY w.ms+(1:Int)) [] fun g=>mT (v.l++iw v.ns)/\gK (ai (v.l++iw v.ns)) (sZ x.ks z.i) 1 g fun h=>∃u:rF,eC (ag (ai (v.l++iw v.ns)+sZ x.ks z.i=ai u.body/\h=u.cap)) (rC (dw x.m x.ks z.i).L u.L z.p.y.lv u.y.lv (iY (dw x.m x.ks z.i).d u.d (z.p.H=u.H/\GQ u.body v.l (iw v.ns) x.ks z.i/\zM u/\∀t:nC,xB t u->gG (cm (pz x z)) 32 z.p.cap fun j=>aS z.i/\∃s:Bb,br z.i s.i/\MW x t.H s (cm (pz x z)+1) j (mo u.L u.body) t.y (oF u.L u.d u.body) (lU (cm (pz x s)) (cm (pz x z)) 3 (aa cR (pz x z)) (bx (gY w.ms+(1:Int)) (eE (gl x.ks (0+aA z.i)) u.L.next [])) (aa cR (pz x s))) (ey s.i (aR x.ks) (H8 x s) z.i)))))))) (∃w:nK,HX (pz x z) w z.p.cap (dw x.m x.ks z.i).L z.p.y z.p.H (cm w.ms<100000 /\
 cm w.ms<=w.cap) (aI (aY 0 (aR x.ks) (Exists (kN (dw x.m x.ks z.i).d fun v=>MV w x z (gv v))) (MV w x z (dw x.m x.ks z.i).d)))))) (by kernel_rfl) (by
 delta az ai bZ aK ah bx b8 aA aD bE gK cO cF aH af aR bh aC dV aX bq eC bV aW dU iM gz bN aI cm bG lU dz ey gG dL bB bL fH dY MU kE xy H6 zw H7 gX ay aS lI aF ag Dq aY cV rL qw br pz GQ ax gW xL kN pn qy bu eE MV mT Ae iA dX gV HX zM xB zu MW jR H8 sZ
 try dsimp -iota -proj only
 rintro⟨m,p,ks,kc⟩ ⟨hl,hlf,hkn,hmn,hcap,hok⟩;dsimp only at *;have no:fS ks=false->gZ m ks=m:=fun e=>if_neg (by rw[e];decide);have bad:∀i,i<ks.length->cN (gl ks i)=false->fS ks=false:=fun i hi h=>by
  rw[Bool.eq_false_iff];intro ha;have:=List.all_eq_true.1 ha (gl ks i) (by rw[bT hi];exact List.getElem_mem _);rw[h]at this;cases this
 have h0:∀j,j<0->cN (gl ks j)=true:=fun j hj=>absurd hj (Nat.not_lt_zero j);have hfr0:=HZ.refl p;refine⟨⟨⟨0,?_⟩,fun i hi=>?_⟩,fun _ hK=>⟨⟨⟨0,p⟩,?_⟩,fun x hx=>?_⟩⟩
 ·and_intros<;>first|exact bW|exact h0|(intro h_;revert h_)|exact bX|skip
 ·obtain⟨hi,hall⟩:=hi;rw[show 0+(i:Int).toNat=i by omega];refine⟨fun c1=>?_,fun c1=>⟨(),?_⟩⟩
  ·have hlt:i<ks.length:=by have:=of_decide_eq_true c1;omega
   refine⟨⟨by omega,by omega⟩,hlt,fun c2=>?_,fun c2=>⟨fun c3=>?_,fun c3=>⟨by simp only[bR];omega,i+1,?_⟩⟩⟩
   ·have hn:=bad i hlt (by unfold cN;rw[c2];rfl);rw[no hn,hn];refine⟨p,?_⟩
    and_intros<;>first|exact bW|exact hl|exact hfr0|exact hcap|(intro h_;revert h_)|exact bX|skip
   ·have hn:=bad i hlt (by
     have c3:=of_decide_eq_true c3;unfold cN;have:decide ((gl ks i).size<=40)=false:=decide_eq_false (by omega);rw[this,Bool.and_false])
    rw[no hn,hn];refine⟨p,?_⟩
    and_intros<;>first|exact bW|exact hl|exact hfr0|exact hcap|(intro h_;revert h_)|exact bX|skip
   ·have hk:cN (gl ks i)=true:=by
     have c3:=of_decide_eq_false c3;unfold cN;rw[c2,show decide ((gl ks i).size<=40)=true from decide_eq_true (by omega)];rfl
    have h1:∀j,j<i+1->cN (gl ks j)=true:=fun j hj=>by
     by_cases e:j=i
     ·rw[e];exact hk
     ·exact hall j (by omega)
    and_intros<;>first|exact bW|exact h1|(intro h_;revert h_)|exact bX|skip
  ·have hi':i=ks.length:=by have:=of_decide_eq_false c1;omega
   have ha:fS ks=true:=List.all_eq_true.2 fun k hk=>by
    obtain⟨j,hj,rfl⟩:=List.getElem_of_mem hk;rw[<- bT hj];exact hall j (by omega)
   and_intros<;>first|exact bW|exact ha|(intro h_;revert h_)|exact bX|skip
 ·have e0:dw m ks 0=m:=rfl;dsimp only;rw[e0]
  and_intros<;>first|exact bW|exact hl|exact hfr0|exact hcap|exact hK|(intro h_;revert h_)|exact bX|skip
 obtain⟨i,q⟩:=x;obtain⟨hi,_,hq,hfr,hqc⟩:=hx;dsimp only at hi hq hfr hqc ⊢;obtain⟨hok1,hok2,hok3,hok4⟩:=hok hK;have hMn:=Ai m ks i;rw[show 0+(i:Int).toNat=i by omega];refine⟨fun c1=>?_,fun c1=>?_⟩
 ·have hlt:i<ks.length:=by have:=of_decide_eq_true c1;omega
  obtain⟨ok1,s0,s1⟩:=hok1 i hlt;have hkey:cN (gl ks i)=true:=List.all_eq_true.1 hK (gl ks i) (by rw[bT hlt];exact List.getElem_mem _);obtain⟨k1,k2⟩:=kS hkey;have e:dw m ks (i+1)=Ks (dw m ks i) (gl ks i):=rfl;have hMn1:=Ai m ks (i+1);obtain⟨M,hM⟩:∃M,M=dw m ks i:=⟨_,rfl⟩
  rw[<- hM]at hq hqc hMn ok1 s0 s1 e;rw[<- hM];obtain⟨sq,hsq⟩:∃sq,sq=gY M.ms+1:=⟨_,rfl⟩
  have hMs:M.ms.length<100000:=by omega
  refine⟨⟨by omega,by omega⟩,hlt,HY.mk M.ms q.cap,?_⟩
  and_intros<;>first|exact bW|exact hMs|(intro h_;revert h_)|exact bX|skip
  intro _ _;dsimp only;rw[<- hsq];have eB:[]++iw [sq]=vi sq:=by simp[iw]
  have hv:=iR sq;have hr1:ak [sq].length 1 (aO 1 [Value.int .i64 sq]) (aa encI [sq]):=.eo fun i hi=>by
   have:i=0:=by simp at hi;omega
   subst this;rfl
  have hg1:∀i:Nat,i < [sq].length->0<=gl [sq] i/\gl [sq] i<4611686018427387904:=fun i hi=>by
   have:i=0:=by simp at hi;omega
   subst this;show 0<=sq/\sq<_;omega
  have hg2:[sq].length<100:=by simp
  refine⟨by simp only[bR];omega,mh.mk [] 0 [sq] 1,?_⟩;dsimp only;rw[eB]
  and_intros<;>first|exact bW|exact hr1|exact hg1|exact hg2|(intro h_;revert h_)|exact bX|skip
  intro b _;have hbl:(dP sq (gl ks i)).length=(vi sq).length+(gl ks i).size:=by unfold dP;rw[List.length_append,je]
  have hr2:ak (dP sq (gl ks i)).length 1 (aZ (aa cH (vi sq)) 0 (vi sq).length (nO (gl ks i))) (aa cH (dP sq (gl ks i))):=.app rfl (.of_eq (by funext i;rw[Nat.zero_add])) (CL _ (by omega));refine⟨by omega,by omega,fun c q1 q2 q3=>⟨rF.mk q.H q.y M.L M.d (dP sq (gl ks i)) c,?_⟩⟩
  and_intros<;>first|exact bW|exact hq|exact ok1|exact hr2|(intro h_;revert h_)|exact bX|skip
  rintro⟨H1,y1⟩ ⟨hl1,hf1⟩;dsimp only at hl1 hf1 ⊢;have hr3:=Fz (ms:=M.ms) (x:=⟨sq,gl ks i,M.L.next⟩);have hfr1:HZ p ⟨H1,y1,0⟩:=fun z hz hn=>by
   obtain⟨a1,a2⟩:=hfr z hz hn;obtain⟨b1,b2⟩:=hf1 z (by rw[a1];exact hz) a2;exact⟨b1.trans a1,b2⟩
  refine⟨by omega,by omega,by omega,fun c2 w1 w2 w3=>⟨by simp only[bR];omega,⟨i+1,⟨H1,y1,c2⟩⟩,?_⟩⟩;dsimp only;have e2:Ks M (gl ks i)=⟨mo M.L (dP sq (gl ks i)),oF M.L M.d (dP sq (gl ks i)),M.ms++[⟨sq,gl ks i,M.L.next⟩]⟩:=by rw[hsq];rfl
  rw[e,e2]at hMn1;dsimp only at hMn1;rw[e,e2];dsimp only;have hi2:i+1<=ks.length:=hlt;have hfr2:HZ p ⟨H1,y1,c2⟩:=hfr1;have hlt2:ks.length-(i+1)<ks.length-i:=by omega
  have hcap2:(M.ms++[(⟨sq,gl ks i,M.L.next⟩:eZ)]).length<=c2:=by omega
  and_intros<;>first|exact bW|exact hl1|exact hfr2|exact hK|exact hr3|exact hcap2|exact hMn1|exact hlt2|(intro h_;revert h_)|exact bX|skip
 ·have hi':i=ks.length:=by have:=of_decide_eq_false c1;omega
  subst hi';obtain⟨M,hM⟩:∃M,M=dw m ks ks.length:=⟨_,rfl⟩
  rw[<- hM]at hq hqc hMn hok2 hok3 hok4;rw[<- hM];have hMs:M.ms.length<100000:=by omega
  have hkl:(dO (cG M.L) M.ms).length<=M.ms.length:=List.length_filter_le _ _;have hks:(dO (cG M.L) M.ms).length<100000:=by omega
  have hkc:(dO (cG M.L) M.ms).length<=q.cap:=by omega
  have hfr2:HZ p ⟨q.H,q.y,q.cap⟩:=hfr;refine⟨nK.mk M.ms q.cap q.H q.y M.L,?_⟩
  and_intros<;>first|exact bW|exact hq|exact hok4|exact hMs|exact hqc|(intro h_;revert h_)|exact bX|skip
  intro _ _;dsimp only;rw[hK];refine⟨fun c2=>?_,fun c2=>?_⟩
  ·have hn:ks.length≠0:=by have:=of_decide_eq_true c2;omega
   have e1:gZ m ks=⟨M.L,gv M.d,dO (cG M.L) M.ms⟩:=by
    unfold gZ;rw[if_pos hK,if_neg hn,<- hM];rfl
   rw[e1];refine⟨M.d,?_⟩
   and_intros<;>first|exact bW|exact hok2|exact hok3|(intro h_;revert h_)|exact bX|skip
   intro _ _;refine⟨HY.mk (dO (cG M.L) M.ms) q.cap,?_⟩
   and_intros<;>first|exact bW|exact hks|(intro h_;revert h_)|exact bX|skip
   intro _ _;refine⟨⟨q.H,q.y,q.cap⟩,?_⟩
   and_intros<;>first|exact bW|exact hq|exact hfr2|exact hkc|(intro h_;revert h_)|exact bX|skip
  ·have hn:ks.length=0:=by have:=of_decide_eq_false c2;omega
   have e1:gZ m ks=⟨M.L,M.d,dO (cG M.L) M.ms⟩:=by
    unfold gZ;rw[if_pos hK,if_pos hn,hM,hn];rfl
   rw[e1];refine⟨HY.mk (dO (cG M.L) M.ms) q.cap,?_⟩
   and_intros<;>first|exact bW|exact hks|(intro h_;revert h_)|exact bX|skip
   intro _ _;refine⟨⟨q.H,q.y,q.cap⟩,?_⟩
   and_intros<;>first|exact bW|exact hq|exact hfr2|exact hkc|(intro h_;revert h_)|exact bX|skip)
theorem Uj:au (Y Tryz.prog).G.X 134 FA:=aU fL Ui ⟨Kq,zy,C0,Ug,iN,trivial⟩
structure NG0 where
 l:List Int
 cap:Nat
 n:Int
noncomputable def Aj:cE where
 α:=NG0
 β:=Unit
 m:=1
 m':=1
 pre:=fun a=>a.l.length<100000/\a.l.length<=a.cap/\0<=a.n/\a.n<4611686018427387904/\(vi a.n).length<=a.l.length/\∀i,i<(vi a.n).length->gl a.l (0+i)=gl (vi a.n) i
 args:=fun a=>[.a (.slc 0 0 1 a.l.length a.cap)]
 hp:=fun _=>[]
 ro:=fun a=>jv 0 a.l
 post:=fun _ _=>True
 res:=fun a _=>.mG [.a (.int .i64 a.n),.a (.int .i64 (vi a.n).length),.a (.lit .i64 0)]
 cZ:=fun _ _=>[]
theorem Yx{Y:Gx}(hY:Y.Ok){jk:List (Nat×cE)}(ht:uI Y.G.X jk){f:Nat}{C:cE}{l:C.α->List (Nat×List An×List An)}(hb:fnBody Y jk f C l):l8 Y.G.X C f:=BH hY (fun _=>BI hY ht) hb.body
theorem WG:l8 (Y Tryz.prog).G.X JW 177:=Yx fL (jk:=[]) trivial JX
theorem Qz{X:Cx}{C D:cE}{f:Nat}(h:l8 X C f)(g:D.α->C.α)(h1:∀a,D.pre a->C.pre (g a))(hm:D.m=C.m)(hm':D.m'=C.m')(hβ:D.β=C.β)(h2:∀a,D.hp a=C.hp (g a))(h3:∀a,D.ro a=C.ro (g a))(h4:∀a,D.args a=C.args (g a))
 (h5:∀a o,D.post a (cast hβ.symm o)=C.post (g a) o) (h6:∀a o,D.res a (cast hβ.symm o)=C.res (g a) o) (h7:∀a o,D.cZ a (cast hβ.symm o)=C.cZ (g a) o):l8 X D f:=by
 intro a ha M ρ w vs hn hh hr;rw[h2,h3]at hh;rw[h4]at hr;refine Calls.mono (h (g a) (h1 a ha) M ρ w vs (hn.trans hm) hh hr) fun e w' hq=>?_;obtain⟨v,e1,o,ρ2,q1,q2,q3,q4,q5⟩:=hq;exact⟨v,e1,cast hβ.symm o,ρ2,by rw[h5];exact q1,q2.trans hm'.symm,fun T hT=>q3 T (by rw[<- hm];exact hT),by rw[h6];exact q4,by rw[h7];exact q5⟩
theorem Uk:l8 (Y Tryz.prog).G.X Aj 177:=Qz (D:=Aj) WG (fun a=>(⟨a.l,0,a.l.length,a.cap,a.n⟩:qt)) (fun a h=>⟨by show 0+a.l.length<=a.l.length;omega,h.1,h.2.1,h.2.2.1,h.2.2.2.1,h.2.2.2.2.1,h.2.2.2.2.2⟩) rfl rfl rfl (fun _=>rfl) (fun _=>rfl) (fun _=>rfl) (fun _ _=>rfl) (fun _ _=>rfl) (fun _ _=>rfl)
def H9(a:NG0):Zy:=⟨5,[.int .u8],a.l.length,a.cap,aa cH a.l⟩
noncomputable def Ul:cE:=Aj.Wq H9
theorem QA:au (Y Tryz.prog).G.X 177 Ul:=fun _ _ _ h=>vR (Ka Uk ⟨rfl,fun _=>rfl,fun _=>rfl,fun _=>rfl,fun _ _=>rfl,fun _ _ p hp=>(by cases hp)⟩) h
structure Yy(ms:List eZ)(rs:List RecM):Prop where
 len:ms.length=rs.length
 yw:ms.length<9000
 at_:∀i,i<ms.length->(gl rs i).body=dP (gl ms i).seq (gl ms i).key/\(gl rs i).pos=(gl ms i).pos/\0<=(gl ms i).seq/\(gl ms i).seq<1000000000000/\cN (gl ms i).key=true
 step:∀i,i+1<ms.length->(gl ms (i+1)).seq=(gl ms i).seq+1
structure wu where
 H:PH
 d:bA
 from_:Nat
 av:Nat
 ms:List eZ
noncomputable def Ak:cE where
 α:=wu
 β:=Kr
 m:=3
 m':=7
 pre:=fun a=>20<=a.av/\rJ a.from_ a.av a.d/\Yy a.ms (gh (cU a.from_ a.av a.d).l)/\∀i,i<(cU a.from_ a.av a.d).l.length->(gl (cU a.from_ a.av a.d).l i).aP.length<=400
 args:=fun a=>[.a (.ptr 0 0 0 0),.a (.int .i64 a.from_),.a (.int .i64 a.av)]
 hp:=fun a=>[(2,.cA a.H)]
 ro:=fun a=>gJ 0 1 a.d
 post:=fun a b=>bY b.H b.y (cU a.from_ a.av a.d)/\(∀z,a.H z≠none->b.H z=a.H z/\z∉bt b.y)/\a.ms.length<=b.cap
 res:=fun _ _=>.mG [.a (.ptr 3 0 0 0),.a (.lit .i64 0)]
 cZ:=fun a b=>[(3,WB 5 4 a.ms.length b.cap),(4,.arr 228 qC a.ms.length (aa cR a.ms)),(5,fF 0 (cU a.from_ a.av a.d) b.y.lv),(6,.cA b.H)]
def Yz(a:wu):An:=.flat 10 (Nat×Nat) (fun s x=>((s.at_ (s.tg 10) (WB (s.fu (s.tg 10) 0) s.nx (a.ms.take x.1).length x.2)).new (.arr 228 qC (a.ms.take x.1).length (aa cR (a.ms.take x.1)))).int 38 x.1) (fun _ x=>x.1<=a.ms.length/\x.1<=x.2) (fun _ x=>a.ms.length-x.1)
theorem Um{ms:List eZ}{rs:List RecM}(h:Yy ms rs){i:Nat}(hi:i<ms.length)(h0:i≠0):gY (ms.take i)+1=(gl ms i).seq:=by
 have hl:(ms.take i).length=i:=by rw[List.length_take];omega
 have e:gl (ms.take i) (i-1)=gl ms (i-1):=by rw[bT (by omega),bT (by omega),List.getElem_take]
 have:=h.step (i-1) (by omega);rw[Nat.sub_add_cancel (by omega)]at this;unfold gY;rw[hl,if_neg h0,e,this]
theorem OP{seq:Int}{k:ByteArray}:iK (fun i=>aa cH (dP seq k) ((vi seq).length+i)) 0 ((dP seq k).length-(vi seq).length)=k:=by
 have hn:(dP seq k).length-(vi seq).length=k.size:=by unfold dP;rw[List.length_append,je];omega
 unfold iK;refine Oq hn fun i hi=>?_;show gl (dP seq k) ((vi seq).length+(0+i))=_;unfold dP;rw[bf,Nat.zero_add]
noncomputable def Un:List (Nat×cE):=[(175,HA),(176,OD),(177,Ul),(140,OO)]
def Ia(z:wH)(x:wu)(w:Prop)(u:Jj)(s:nC)(t f:Prop):=jx z.v (ag (mQ (bE (aH (af x.av) 20) (mQ (bZ (af x.from_) (af x.av) (z.H=z.H) (eC w (fH (cU u.from_ u.av u.d) s.y (iY x.d x.d (t/\f)))))))))
def n9(x:Nat×Nat)(y:wu):Nat:=cm (List.take x.fst y.ms)
def Dr(x:Nat×Nat)(y:wu):Nat->Nat->Value:=aa cR (List.take x.fst y.ms)
noncomputable def MX(u:List Value)(v:Nat)(w:V1 Aj.α)(s:wH)(y:Nat×Nat)(x:wu)(t:Jj)(f:nC):=Gb (aT u (v+1))/\dc (af (ai (vi w.a.n))) (di (aT u (v+1)))/\Exists (jS s.H (s9 u (v+1) (aA (ai (vi w.a.n))) (di (aT u (v+1)))) (CK.int .u8) [] fun g j h=>ah (jP (aT u v))->gG (n9 y x) 32 y.snd fun i=>iB y fun z=>Ia s x (ag (n9 y x+1=n9 z x/\i=z.snd)) t f (lU (n9 z x) (n9 y x) 3 (Dr y x) (bx w.a.n (eE (iK h 0 g) (jP (aT u v)) [])) (Dr z x)) (ey z.fst (cm x.ms) (z.fst<=z.snd) y.fst))
def Ib(x:wu):=20<=x.av/\Ag x.from_ x.av x.d (Yy x.ms (gh (cU x.from_ x.av x.d).l))
theorem QB:fnBody (Y Tryz.prog) Un 129 Ak fun a=>[(129,[Yz a],[])]:=fnBody.of (p :=
 ∀x:wu,Ib x->az (aH (af x.av) 20) (∃u:Kr,False) (∃u:Jj,ag (bz x.from_ u.from_/\bz x.av u.av/\x.H=u.H/\iY x.d u.d (rJ u.from_ u.av u.d/\∀f:nC,xG f u->∃i:tW,eC (f.H=i.H) (rC (cU u.from_ u.av u.d) i.L f.y.lv i.y.lv (zR i/\∀t:wH,zQ t i->gA t.v/\(∃z:Nat×Nat,aF z.fst (Ia t x (0=n9 z x/\0=z.snd) u f (n9 z x=0) ((z.fst<=cm x.ms/\z.fst<=z.snd)/\True)))/\∀z:Nat×Nat,z.fst<=cm x.ms/\z.fst<=z.snd->u5 z.fst t.v (fun s=>t.H s) (fun s g=>∃w:V1 Aj.α,aT g (s+1)=w.v/\t.H=w.H/\(zA (ai w.a.l) w.a.cap w.a.n w.a.l 0/\kr w.H w.v (iU (CK.int .u8)) (H9 w.a).n (H9 w.a).cap (H9 w.a).rows)/\∀k:Aj.β,True->az (af (n9 z x) == (0:Int)) (MX g s w t z x u f) (∃j:HY,ax (vk (List.take z.fst x.ms) j.ms z.snd j.cap (cm j.ms<100000/\aI (ah (gY j.ms+(1:Int))/\az (w.a.n == gY j.ms+(1:Int)) (MX g s w t z x u f) (iB z fun h=>Ia t x (ag (n9 z x=n9 h x/\z.snd=h.snd)) u f (aK (n9 h x) (n9 z x) 3 (Dr z x) (Dr h x)) (ey h.fst (cm x.ms) (h.fst<=h.snd) z.fst))))))) (∃s:Kr,eC (aD 0) (vk (List.take z.fst x.ms) x.ms z.snd s.cap (ag (pn (cU u.from_ u.av u.d) (cU x.from_ x.av x.d) f.y s.y t.H s.H ((∀g:Nat,pg (x.H g) (s.H g) (bt s.y) g)/\cm x.ms<=s.cap) True)))))))))) (by kernel_rfl) (by
 delta az aT ai bZ aK ah bx b8 aA aD bE gK cF aH af mX aC dV aX bq eC bV cS aW dS bN gA aI cm qv lU ey gG bB ew bL fH MX uS xD iB jS xG aV aS jx aF iT Ag ag aY zQ Ia u5 pg n9 br ax gW pn iU zR bu eE bz dc pe mQ jw jR Ib zA s9 Dr
 try dsimp -iota -proj only
 rintro⟨H,d,fr,sg,ms⟩ ⟨hsg,ok,hms,hsl⟩;dsimp only at *;obtain⟨L,hL⟩:∃L,L=cU fr sg d:=⟨_,rfl⟩
 have hone:L.l.length<=1:=by rw[hL];exact ok.one
 rw[<- hL]at hms hsl;have hlen:=hms.len;have hfew:=hms.yw;refine⟨fun c=>by(exfalso;have:=of_decide_eq_true c;omega),fun _=>⟨Jj.mk H d fr sg,?_⟩⟩;dsimp only;rw[<- hL]
 and_intros<;>first|exact bW|exact ok|(intro h_;revert h_)|exact bX|skip
 rintro⟨H1,y1⟩ ⟨hl1,hf1⟩;dsimp only at hl1 hf1 ⊢;refine⟨tW.mk H1 y1 L,?_⟩;have hrec:∀i,i<L.l.length->(gl L.l i).aP.length<=400/\∀k,k<(gl L.l i).aP.length->1<=(gl (gl L.l i).aP k).body.length/\(gl (gl L.l i).aP k).body.length<=1000:=fun i hi=>⟨hsl i hi,fun k hk=>by
  obtain⟨j,hj,e⟩:=HU hi hk;obtain⟨e1,_,_,_,e5⟩:=hms.at_ j (by rw[hlen];exact hj);have a1:=iR (gl ms j).seq;have a2:=kS e5;rw[<- e,e1];unfold dP;rw[List.length_append,je];omega⟩
 have hL1:L.l.length<1000:=by omega
 and_intros<;>first|exact bW|exact hl1|exact hrec|exact hL1|(intro h_;revert h_)|exact bX|skip
 rintro⟨H2,v,vs⟩ ⟨hout,hf2⟩;dsimp only at hout hf2 ⊢;obtain⟨cr,hrows⟩:=hout.rows;obtain⟨s1,s2,s3,s4,s5,⟨sa,s6⟩,s7⟩:=fh hrows;have hlog:bY H2 y1 L:=hl1.frame fun z hz=>(hf2 z (hl1.dom z hz)).1;have hfin:∀z,H z≠none->H2 z=H z/\¬z∈bt y1:=fun z hz=>by
  obtain⟨a1,a2⟩:=hf1 z hz;exact⟨(hf2 z (by rw[a1];exact hz)).1.trans a1,a2⟩
 rw[s1];refine⟨⟨sa,_,_,s6,by simp only[aq];omega⟩,⟨(0,0),?_⟩,fun q hq=>?_⟩
 ·dsimp only
  and_intros<;>first|exact bW|(intro h_;revert h_)|exact bX|skip
 obtain⟨i,c⟩:=q;obtain⟨hi,hic⟩:=hq;dsimp only at hi hic ⊢;have hti:(ms.take i).length=i:=by rw[List.length_take];omega
 rw[hti];refine⟨fun c1=>?_,fun c1=>?_⟩
 ·have hi':i<ms.length:=by have:=of_decide_eq_true c1;omega
  have hti1:(ms.take (i+1)).length=i+1:=by rw[List.length_take];omega
  have htp:ms.take (i+1)=ms.take i++[gl ms i]:=p6 hi';obtain⟨b',lo',o',cs',q1,q2,q3,q4,q5,q6,q7,q8⟩:=u0 hrows (k:=i) (by omega);obtain⟨cb,hbody⟩:=hout.body i (by omega);obtain⟨e1,e2,e3,e4,e5⟩:=hms.at_ i hi';have hsq:=fun h0=>Um hms hi' h0;obtain⟨x,hx⟩:∃x,x=gl ms i:=⟨_,rfl⟩
  rw[<- hx]at e1 e2 e3 e4 e5 hsq htp;rw[e1]at hbody;rw[e2]at q3 q6 q7;obtain⟨k1,k2⟩:=kS e5;have hv:=iR x.seq;have hbl:(dP x.seq x.key).length=(vi x.seq).length+x.key.size:=by unfold dP;rw[List.length_append,je]
  obtain⟨w1,w2,w3,w4,w5,⟨wa,w7⟩,w6⟩:=fh hbody;have hcut:=JZ (Nat.le_refl _) hbody (sz:=1) (a:=(vi x.seq).length) (e:=(dP x.seq x.key).length) (m:=cb) rfl (by omega) (Nat.le_refl _) w3 (Nat.le_refl _);have hgl:∀j,j<(vi x.seq).length->gl (dP x.seq x.key) (0+j)=gl (vi x.seq) j:=fun j hj=>by
   rw[Nat.zero_add];unfold dP;rw[bO hj]
  have hr3:=Fz (ms:=ms.take i) (x:=x);rw[hti,<- htp,hti1]at hr3;refine⟨_,_,_,_,q1,by omega,b',lo',o'+i*2,cs',by rw[Int.toNat_natCast];congr 1;omega,q2,⟨⟨_,q3,_,rfl,q6⟩,⟨_,q4,q5⟩,trivial⟩,?_⟩;rw[q7,q8];have hpre:(dP x.seq x.key).length<100000/\(dP x.seq x.key).length<=cb/\0<=x.seq/\x.seq<4611686018427387904/\(vi x.seq).length<=(dP x.seq x.key).length/\∀j,j<(vi x.seq).length->gl (dP x.seq x.key) (0+j)=gl (vi x.seq) j:=⟨by omega,w3,e3,by omega,by omega,hgl⟩
  refine⟨⟨⟨dP x.seq x.key,cb,x.seq⟩,H2,vs.getD i undef⟩,rfl,rfl,⟨hpre,hbody⟩,fun _ _=>?_⟩;rw[w1,w2,show((vi x.seq).length:Int).toNat=(vi x.seq).length by omega];dsimp only[jP];refine⟨fun c2=>?_,fun c2=>?_⟩
  ·refine⟨w5,⟨by omega,by omega⟩,_,_,_,hcut,fun _=>⟨by omega,by omega,by omega,fun c2 v1 v2 v3=>⟨by simp only[bR];omega,(i+1,c2),?_⟩⟩⟩;dsimp only;rw[OP,hti1]
   and_intros<;>first|exact bW|exact hr3|(intro h_;revert h_)|exact bX|skip
  ·have h0:i≠0:=fun e=>by rw[e]at c2;cases c2
   have hsq:=hsq h0;have htl:(ms.take i).length<100000:=by omega
   refine⟨HY.mk (ms.take i) c,?_⟩;dsimp only;rw[hti];have hr0:ak i 3 (aa cR (ms.take i)) (aa cR (ms.take i)):=ak.refl _ _ _
   and_intros<;>first|exact bW|exact htl|(intro h_;revert h_)|exact bX|skip
   intro _ _;rw[hsq];refine⟨by simp only[bR];omega,fun _=>⟨w5,⟨by omega,by omega⟩,_,_,_,hcut,fun _=>⟨by omega,by omega,by omega,fun c2 v1 v2 v3=>⟨by simp only[bR];omega,(i+1,c2),?_⟩⟩⟩,fun e=>by(exfalso;simp at e)⟩;dsimp only;rw[OP,hti1]
   and_intros<;>first|exact bW|exact hr3|(intro h_;revert h_)|exact bX|skip
 ·have hi':i=ms.length:=by have:=of_decide_eq_false c1;omega
  subst hi';rw[List.take_length];refine⟨⟨H2,y1,c⟩,?_⟩
  and_intros<;>first|exact bW|exact hlog|exact hfin|(intro h_;revert h_)|exact bX|skip)
theorem QC:au (Y Tryz.prog).G.X 129 Ak:=aU fL QB ⟨Fh,Kg,QA,Kq,trivial⟩
theorem Uo:fnBody (Y Tryz.prog) [] 204 CE fun a=>[(204,[Zl a],[])]:=fnBody.of (p :=
 GH) (by kernel_rfl) (by
 delta az aK ah aD cF aH af bD fM aC aX bq kD bV aW bI dz bU GH ay aS aF aY lG br bl o5 bu mP eu
 try dsimp -iota -proj only
 rintro⟨r,len,cap,v,n,rows⟩ ⟨h1,h2⟩;dsimp only at h1 h2 ⊢;simp only[Int.toNat_natCast,bR,decide_eq_true_eq,decide_eq_false_iff_not];refine⟨⟨0,?_⟩,fun k hk=>⟨fun c1=>?_,fun c1=>⟨(),?_⟩⟩⟩
 ·(and_intros<;>first|exact wm|skip)
  refine⟨fun i hi j hj=>?_⟩;unfold ue;rw[if_neg (by omega)]
 ·have hk:k<len:=by omega
  have e:((len:Int)-1-k).toNat=len-1-k:=by omega
  rw[e];refine⟨by omega,by omega,by omega,by omega,by omega,by omega,by omega,k+1,?_⟩
  (and_intros<;>first|exact wm|skip)
  refine⟨fun i hi j hj=>?_⟩;have hj:j=0:=by omega
  subst hj;by_cases hik:i=r+(len-1-k)
  ·subst hik;have e3:(8*(k:Int)).toNat=8*(r+len-1-(r+(len-1-k))):=by omega
   rw[jh,e3];show Value.int .u8 _=_;simp only[ue];rw[if_pos (by omega)]
  ·rw[gU hik];simp only[ue];by_cases hq:r+len<=i+k/\i<r+len
   ·rw[if_pos hq,if_pos (by omega)]
   ·rw[if_neg hq,if_neg (by omega)]
 ·have:k=len:=by omega
  subst this
  (and_intros<;>first|exact wm|skip))
theorem Up:au (Y Tryz.prog).G.X 204 CE:=aU fL Uo trivial
def Ic(n:Int)(b:List Int)(j:Nat):Int:=if j<4 then 0 else if j<12 then Jh (uw .u64 n) 8 (j-4)else if j=12 then(b.length:Int)else if j-13<b.length then gl b (j-13)else 0
def xM(n:Int)(b:List Int)(j:Nat):Int:=if j<4 then Jh (wo (Ic n b)) 4 j else Ic n b j
structure oa where
 at_:Nat
 fo:Int
 text:List Int
 slot:Nat
def ZK(dv tx:Nat)(S:oa)(cap:Nat):List A:=[.ptr dv 0 0 0,.int .i64 S.at_,.int .i64 S.fo,.slc tx 0 1 S.text.length cap,.int .i64 S.slot]
def FB(su tx dv:Nat)(S:oa)(cap:Nat):List (Nat×Chunk):=[(su,.obj 262 (ZK dv tx S cap)),(tx,.arr 5 [.int .u8] S.text.length (aa cH S.text))]
def Ie(S:oa)(slot:Nat)(n:Int)(b:List Int):oa:=⟨S.at_,n,b,slot⟩
def Bx(S:oa)(d:bA)(slot:Nat)(n:Int)(b:List Int):bA:=gv (gu d (S.at_+slot) 64 (xM n b))
structure Kt where
 S:oa
 cap:Nat
 d:bA
 slot:Nat
 n:Int
 b:List Int
 bc:Nat
noncomputable def BR:cE where
 α:=Kt
 β:=Nat
 m:=5
 m':=6
 pre:=fun a=>a.S.at_+1<a.d.n/\a.slot<=1/\a.d.n<100000/\a.d.calls<900000000000/\1<=a.b.length/\a.b.length<=40
 args:=fun a=>[.a (.ptr 0 0 0 0),.a (.int .i64 a.slot),.a (.int .i64 a.n),.a (.slc 4 0 1 a.b.length a.bc)]
 hp:=fun a=>FB 0 1 2 a.S a.cap++gJ 2 3 a.d
 ro:=fun a=>jv 4 a.b
 post:=fun _ _=>True
 res:=fun _ _=>.a (.lit .i64 0)
 cZ:=fun a c=>FB 0 5 2 (Ie a.S a.slot a.n a.b) c++gJ 2 3 (Bx a.S a.d a.slot a.n a.b)
def qE(y:oa)(x:bA)(z:Nat)(u:Prop):=y.at_+1<x.n/\z<=1/\x.n<100000/\x.calls<900000000000/\u
def jB(x:Kt):oa:=Ie x.S x.slot x.n x.b
def xN(x:Kt):bA:=Bx x.S x.d x.slot x.n x.b
theorem MY:fnBody (Y Tryz.prog) [(204,CE),(203,SP),(81,p5),(169,jN)] 174 BR fun _=>[]:=fnBody.of (p :=
 ∀x:Kt,qE x.S x.d x.slot (gW x.b 40)->l9 64 64 (dS 12 64/\dS 4 12/\xu 4 8 60 (cM x.n) 64 ta fun y=>bq 12 64/\12<y.n/\dS 13 64/\64<=y.n/\G2 (mT x.b) y (oU (kq (lG y y.len) 12 0 (uP (ai x.b))) 13 (min (ai x.b) 51) (rG cH x.b)) fun z=>ah (af x.S.at_)->ah (af x.S.at_+af x.slot)/\∃u:LR,ag (af x.S.at_+af x.slot=af u.i/\xw u x.d z.n (lG z z.len) (Exists (kN (me u) fun w=>zN x.b (∃v:Nat,aV (ag (bz x.S.at_ (oa.at_ (jB x))/\x.n=oa.fo (jB x)/\(0=ai (oa.text (jB x))/\0=v)/\bz x.slot (oa.slot (jB x))/\ai (oa.text (jB x))=0/\iY (gv w) (xN x) (True/\True)))) (gK 0 (ai x.b) 1 0 fun v=>∃s:Nat,aV (ag (bz x.S.at_ (oa.at_ (jB x))/\x.n=oa.fo (jB x)/\dL (0+ai x.b) (ai (oa.text (jB x))) v s (bz x.slot (oa.slot (jB x))) 1 (uO (rG cH x.b)) (aa cH (oa.text (jB x))) (iY (gv w) (xN x) (True/\True)))))))))) (by kernel_rfl) (by
 delta az aT ai aK ah b8 aD gK af bD fM aC bq uJ bV aW dS aI dL kE G2 cM me xw l9 aV qE jB ag xu uL lG uN gW ta kN bz mP mT rG xN uK zN uP uO
 try dsimp -iota -proj only
 rintro⟨u,cap,d,slot,n,b,bc⟩ ⟨h1,h2,h3,h4,h5,h6⟩;dsimp only at *;obtain⟨F1,hF1⟩:∃F:Nat->Int,F=fun k=>if 4<=k/\k<4+8 then Jh (uw .u64 n) 8 (k-4)else 0:=⟨_,rfl⟩
 have hb8:uw .u8 (b.length:Int)=b.length:=by simp only[uw];omega
 have h0:ak 64 1 (fun(x j:Nat)=>[Value.int IntKind.u8 (0:Int)].getD j (Value.tuple #[])) (bP fun _=>0):=kH fun _ _=>rfl
 repeat refine lB ?_
 refine⟨mH.mk 4 8 60 (uw .u64 n) 64 (bP fun _=>0),?_⟩
 and_intros<;>first|exact bW|exact h0|(intro h_;revert h_)|exact bX|skip
 intro _ _;rw[show ue (bP fun _=>0) 4 8 (uw .u64 n) 8=bP F1 by rw[xq (by omega),hF1]];have hfin:ak 64 1 (oU (kq (bP F1) 12 0 [Value.int .u8 (uw .u8 (b.length:Int))]) 13 (min b.length 51) fun(i j:Nat)=>aa cH b (0+i) j) (bP (Ic n b)):=by
  rw[hb8,show min b.length 51=b.length by omega];refine kH fun k hk=>?_;simp only[oU,bP,aa,cH,List.getD_cons_zero,Nat.zero_add,hF1,Ic,qT]
  (repeat' split)<;>first|rfl|(exfalso;omega)|skip
 have hlast:ak 64 1 (ue (bP (Ic n b)) 0 4 (wo (Ic n b)) 4) (bP (xM n b)):=by
  rw[xq (by omega)];refine kH fun k hk=>?_;simp only[bP,xM,Nat.zero_le,true_and,Nat.zero_add,Nat.sub_zero]
 repeat refine lB ?_
 refine⟨zo.mk 1 4 60 60 64 (bP (Ic n b)),?_⟩
 and_intros<;>first|exact bW|exact hfin|(intro h_;revert h_)|exact bX|skip
 intro _ _;refine⟨mH.mk 0 4 64 (wo (Ic n b)) 64 (bP (Ic n b)),?_⟩
 and_intros<;>first|exact bW|exact hfin|(intro h_;revert h_)|exact bX|skip
 intro _ _ _;refine⟨by simp only[bR];omega,LR.mk d (u.at_+slot) 0 64 64 64 (xM n b),?_⟩;dsimp only
 and_intros<;>first|exact bW|exact hlast|(intro h_;revert h_)|exact bX|skip
 intro _ _;refine⟨gu d (u.at_+slot) 64 fun j=>xM n b (0+j),?_⟩;have e0:(fun j=>xM n b (0+j))=xM n b:=by funext j;rw[Nat.zero_add]
 have hn:(gu d (u.at_+slot) 64 (xM n b)).n<100000:=h3;have hc:(gu d (u.at_+slot) 64 (xM n b)).calls<1000000000000:=by show d.calls+1<_;omega
 rw[e0]
 and_intros<;>first|exact bW|exact hn|exact hc|(intro h_;revert h_)|exact bX|skip
 intro _ _ q hq;refine⟨fun e=>by(have:=hq e;exfalso;omega),fun _=>?_⟩;have hr:ak b.length 1 (aZ (aO 1 []) 0 0 fun(i j:Nat)=>aa cH b (0+i) j) (aa cH b):=⟨fun i hi j hj=>by
  simp only[aZ,Nat.not_lt_zero,if_false,Nat.sub_zero,Nat.zero_add]⟩
 refine⟨by omega,by omega,by omega,fun c q1 q2 q3=>⟨c,?_⟩⟩;dsimp only[Ie,Bx]
 and_intros<;>first|exact bW|exact hr|(intro h_;revert h_)|exact bX|skip)
theorem Ds:au (Y Tryz.prog).G.X 174 BR:=aU fL MY ⟨Up,GG,pT,iN,trivial⟩
structure Uq where
 at_:Nat
 d:bA
 b:List Int
 bc:Nat
def pE(d:bA)(at_:Nat)(b:List Int):bA:=Bx ⟨at_,0,[],0⟩ (gv (gu (gu d at_ 64 fun _=>0) (at_+1) 64 fun _=>0)) 0 1 b
noncomputable def MZ:cE where
 α:=Uq
 β:=Nat
 m:=3
 m':=5
 pre:=fun a=>a.at_+1<a.d.n/\a.d.n<100000/\a.d.calls<800000000000/\1<=a.b.length/\a.b.length<=40
 args:=fun a=>[.a (.ptr 0 0 0 0),.a (.int .i64 a.at_),.a (.slc 2 0 1 a.b.length a.bc)]
 hp:=fun a=>gJ 0 1 a.d
 ro:=fun a=>jv 2 a.b
 post:=fun _ _=>True
 res:=fun _ _=>.mG [.a (.ptr 3 0 0 0),.a (.lit .i64 0)]
 cZ:=fun a c=>FB 3 4 0 ⟨a.at_,1,a.b,0⟩ c++gJ 0 1 (pE a.d a.at_ a.b)
def Ig(x:Uq):=x.at_+1<x.d.n/\x.d.n<100000/\x.d.calls<800000000000/\gW x.b 40
theorem QD:fnBody (Y Tryz.prog) [(174,BR),(81,p5),(169,jN)] 127 MZ fun _=>[]:=fnBody.of (p :=
 ∀y:Uq,Ig y->az (cC 0 (af y.at_)) (ah (eu y.d.n)/\iM (bg (aH (af y.at_) (eu y.d.n))) (∃z:Nat,False) (aH 40 (af (ai y.b))) (ah (af y.at_+(0:Int))/\l9 64 64 (∃z:LR,ag (af y.at_+(0:Int)=af z.i/\xw z y.d 64 ta (aS y.at_/\l9 64 64 (∃u:LR,ag (br y.at_ u.i/\xw u (me z) 64 ta (Exists (kN (me u) fun v=>∃x:Kt,ag (aF x.slot ((1:Int)=x.n/\cT y.b x.b y.bc x.bc/\ag (bz y.at_ x.S.at_/\(0:Int)=x.S.fo/\(0=ai x.S.text/\0=x.cap)/\aF x.S.slot (ai x.S.text=0/\iY (gv v) x.d (ct x.b y.b cH/\qE x.S x.d x.slot (gW x.b 40)/\∀w:Nat,True->∃s:Nat,eC (aD 0) (bz (oa.at_ (jB x)) y.at_/\oa.fo (jB x)=(1:Int)/\cT (oa.text (jB x)) y.b w s/\bz (oa.slot (jB x)) 0/\ct y.b (oa.text (jB x)) cH/\iY (xN x) (pE y.d y.at_ y.b) (True/\True)))))))))))))))) (∃z:Nat,False)) (by kernel_rfl) (by
 delta az aT ai aK ah aD aH af bD fM aC eC bV aW ct iM aI kE me xw l9 aS cC qE aF jB ag br cT uN gW ta bg kN bz eu xN Ig
 try dsimp -iota -proj only
 rintro⟨at_,d,b,bc⟩ ⟨h1,h2,h3,h4,h5⟩;dsimp only at *;have h0:ak 64 1 (fun(x j:Nat)=>[Value.int IntKind.u8 (0:Int)].getD j (Value.tuple #[])) (bP fun _=>0):=kH fun _ _=>rfl;refine⟨fun _=>⟨by simp only[bR];omega,fun c=>by(exfalso;simp at c;omega),fun _=>⟨fun c=>by(exfalso;simp at c;omega),fun _=>?_⟩⟩,fun c=>by(exfalso;simp at c)⟩;refine⟨by simp only[bR];omega,by omega,by omega,by omega,LR.mk d at_ 0 64 64 64 fun _=>0,?_⟩;dsimp only
 and_intros<;>first|exact bW|exact h0|(intro h_;revert h_)|exact bX|skip
 intro _ _;refine⟨by simp only[bR];omega,by omega,by omega,by omega,LR.mk (gu d at_ 64 fun _=>0) (at_+1) 0 64 64 64 fun _=>0,?_⟩;have hn1:at_+1<(gu d at_ 64 fun _=>0).n:=h1;have hn2:(gu d at_ 64 fun _=>0).n<100000:=h2;have hc2:(gu d at_ 64 fun _=>0).calls<1000000000000:=by show d.calls+1<_;omega
 dsimp only
 and_intros<;>first|exact bW|exact h0|exact hn1|exact hn2|exact hc2|(intro h_;revert h_)|exact bX|skip
 intro _ _;obtain⟨D,hD⟩:∃D,D=gu (gu d at_ 64 fun _=>0) (at_+1) 64 fun _=>0:=⟨_,rfl⟩
 rw[<- hD];have hn3:D.n=d.n:=by rw[hD];rfl
 have hc3:D.calls=d.calls+2:=by rw[hD];rfl
 refine⟨D,?_⟩
 and_intros<;>first|exact bW|(intro h_;revert h_)|exact bX|skip
 intro _ _;have hn4:at_+1<(gv D).n:=by show at_+1<D.n;omega
 have hn5:(gv D).n<100000:=by show D.n<_;omega
 have hc4:(gv D).calls<900000000000:=by show D.calls+1<_;omega
 refine⟨Kt.mk ⟨at_,0,[],0⟩ 0 (gv D) 0 1 b bc,?_⟩;dsimp only
 and_intros<;>first|exact bW|exact hn4|exact hn5|exact hc4|(intro h_;revert h_)|exact bX|skip
 intro c _;refine⟨c,?_⟩;dsimp only[Ie,pE];rw[<- hD]
 and_intros<;>first|exact bW|(intro h_;revert h_)|exact bX|skip)
theorem QE:au (Y Tryz.prog).G.X 127 MZ:=aU fL QD ⟨Ds,pT,iN,trivial⟩
structure M0 where
 S:oa
 cap:Nat
 d:bA
 b:List Int
 bc:Nat
noncomputable def M3:cE where
 α:=M0
 β:=Nat
 m:=5
 m':=6
 pre:=fun a=>a.S.at_+1<a.d.n/\a.S.slot<=1/\a.d.n<100000/\a.d.calls<900000000000/\1<=a.b.length/\a.b.length<=40/\0<=a.S.fo/\a.S.fo<1000000000000
 args:=fun a=>[.a (.ptr 0 0 0 0),.a (.slc 4 0 1 a.b.length a.bc)]
 hp:=fun a=>FB 0 1 2 a.S a.cap++gJ 2 3 a.d
 ro:=fun a=>jv 4 a.b
 post:=fun _ _=>True
 res:=fun _ _=>.a (.lit .i64 0)
 cZ:=fun a c=>FB 0 5 2 (Ie a.S (1-a.S.slot) (a.S.fo+1) a.b) c++gJ 2 3 (Bx a.S a.d (1-a.S.slot) (a.S.fo+1) a.b)
def xO(x y:oa)(z u:Nat)(v w:bA)(s t:Prop):=bz x.at_ y.at_/\x.fo=y.fo/\cT x.text y.text z u/\bz x.slot y.slot/\ct y.text x.text cH/\iY v w (s/\t)
def Dt(x:M0):bA:=Bx x.S x.d (1-x.S.slot) (x.S.fo+(1:Int)) x.b
def Du(x:M0):oa:=Ie x.S (1-x.S.slot) (x.S.fo+(1:Int)) x.b
def Ih(x:M0):=qE x.S x.d x.S.slot (1<=ai x.b/\ai x.b<=40/\bq x.S.fo 1000000000000)
theorem QF:fnBody (Y Tryz.prog) [(174,BR)] 146 M3 fun _=>[]:=fnBody.of (p :=
 ∀x:M0,Ih x->aY 40 (ai x.b) (∃z:Nat,(1:Int)=0/\ag (xO x.S (Du x) x.cap z x.d (Dt x) True True)) (ah (af x.S.slot)->ah ((1:Int)-af x.S.slot)/\(ah x.S.fo->ah (x.S.fo+(1:Int))/\∃y:Kt,ag ((1:Int)-af x.S.slot=af y.slot/\x.S.fo+(1:Int)=y.n/\cT x.b y.b x.bc y.bc/\ag (xO x.S y.S x.cap y.cap x.d y.d (ct y.b x.b cH) (qE y.S y.d y.slot (gW y.b 40)/\∀u:Nat,True->∃v:Nat,aV (ag (xO (jB y) (Du x) u v (xN y) (Dt x) True True)))))))) (by kernel_rfl) (by
 delta az ai aK ah aD aH af aC bq aW ct xO aV qE jB ag aY cT gW bz Dt xN Du Ih
 try dsimp -iota -proj only
 rintro⟨u,cap,d,b,bc⟩ ⟨h1,h2,h3,h4,h5,h6,h8,h9⟩;dsimp only at *;have e:(1:Int)-u.slot=((1-u.slot:Nat):Int):=by omega
 have h2':1-u.slot<=1:=by omega
 refine⟨fun c=>by(exfalso;have:=of_decide_eq_true c;omega),fun _ _=>⟨by simp only[bR];omega,fun _=>⟨by simp only[bR];omega,Kt.mk u cap d (1-u.slot) (u.fo+1) b bc,?_⟩⟩⟩;dsimp only
 and_intros<;>first|exact bW|exact e|exact h2'|(intro h_;revert h_)|exact bX|skip
 intro c _;refine⟨c,?_⟩
 and_intros<;>first|exact bW|(intro h_;revert h_)|exact bX|skip)
theorem QG:au (Y Tryz.prog).G.X 146 M3:=aU fL QF ⟨Ds,trivial⟩
structure MetaM where
 bK:Int
 aQ:Int
 ready:Int
 frozen:Bool
def Dv(m:MetaM):List A:=[.int .i64 m.bK,.int .i64 m.aQ,.int .i64 m.ready,.bool m.frozen]
def BS:MetaM:=⟨0,0,0,false⟩
def By(n:Int):Bool:=decide (0<=n)&&decide (n<=1099511627776)
def nD(m:MetaM):Bool:=By m.bK&&(By m.aQ&&(By m.ready&&((m.ready == 0||decide (m.aQ<m.ready))&&(!m.frozen||decide (0<m.ready)))))
def e8(m:MetaM):List Int:=iw [m.bK,m.aQ,m.ready,if m.frozen then 1 else 0]
theorem Dw{m:MetaM}(h:nD m=true):(0<=m.bK/\m.bK<=1099511627776)/\(0<=m.aQ/\m.aQ<=1099511627776)/\0<=m.ready/\m.ready<=1099511627776:=by
 simp only[nD,By,Bool.and_eq_true,decide_eq_true_eq]at h;omega
def WH(m:MetaM):List Int:=[m.bK,m.aQ,m.ready]
theorem Ur{m:MetaM}{i:Nat}(hi:i<3)(h:By (gl (WH m) i)=false):nD m=false:=by
 rcases(by omega:i=0\/i=1\/i=2)with rfl|rfl|rfl
 ·have h:By m.bK=false:=h;simp[nD,h]
 ·have h:By m.aQ=false:=h;simp[nD,h]
 ·have h:By m.ready=false:=h;simp[nD,h]
theorem WI{m:MetaM}(h:∀i,i<3->By (gl (WH m) i)=true):nD m=((m.ready == 0||decide (m.aQ<m.ready))&&(!m.frozen||decide (0<m.ready))):=by
 have h0:By m.bK=true:=h 0 (by omega);have h1:By m.aQ=true:=h 1 (by omega);have h2:By m.ready=true:=h 2 (by omega);simp[nD,h0,h1,h2]
noncomputable def Us:cE where
 α:=MetaM
 β:=Unit
 m:=0
 m':=0
 pre:=fun _=>True
 args:=fun m=>[.agg (Dv m)]
 hp:=fun _=>[]
 ro:=fun _=>[]
 post:=fun _ _=>True
 res:=fun m _=>.a (.bool (nD m))
 cZ:=fun _ _=>[]
def ZL(m:MetaM):An:=.flat 2 Nat (fun s i=>s.int 13 i) (fun _ i=>i<=3/\∀j,j<i->By (gl (WH m) j)=true) (fun _ i=>3-i)
def Al(y:Bool)(x:Prop)(z u:Int)(v:Bool)(w:Prop):=az y x (ah z->ah u->az v x w)
def Am(x y:Int)(z:Unit->Prop)(u:Int)(v:Prop):=ah x->kG x y (Exists z) u v
def Ao(x:MetaM)(y:Prop):=bZ x.bK x.aQ (aD x.ready) (bE x.frozen y)
def M4(x:MetaM)(y:Prop):=aD 3/\bG 3 3/\bN (ag (Ao x (dU 3 1 (aO 1 (bx x.bK (bx x.aQ (bx x.ready []))))/\Ao x y)))
theorem Ut:fnBody (Y Tryz.prog) [] 145 Us fun m=>[(145,[ZL m],[])]:=fnBody.of (p :=
 ∀x:MetaM,True->ah x.bK->ah x.aQ->ah x.ready->(∃y:Nat,aF y (M4 x ((y<=3/\∀z:Nat,z<y->aC (By (gl (WH x) z)))/\True)))/\∀y:Nat,(y<=3/\∀z:Nat,z<y->aC (By (gl (WH x) z)))->az (aH (af y) 3) (bq (af y) 3/\0+aA y<3/\Am (jP (aO 1 (bx x.bK (bx x.aQ (bx x.ready []))) (0+aA y) 0)) 0 (fD (nD x)) 1099511627776 (dz y fun u=>M4 x (ey u 3 (∀v:Nat,v<u->aC (By (gl (WH x) v))) y))) (ah x.ready->Al (x.ready == (0:Int)) (az (bg x.frozen) (mg (nD x)) (ah x.ready->Exists (bI (aH 0 x.ready=nD x)))) x.ready x.aQ (aH x.aQ x.ready) (Exists (fD (nD x))))) (by kernel_rfl) (by
 delta az bZ aK ah bx b8 aA aD bE aH af aC dV aX fC bq bV aW dU iM bN bI bG dz ey Al ay aS aF ag fD Am Ao br bg bl M4 kG mg
 try dsimp -iota -proj only
 intro m _ _ _ _;have hg:∀i:Nat,i<3->jP (aO 1 [Value.int .i64 m.bK,Value.int .i64 m.aQ,Value.int .i64 m.ready] (0+(i:Int).toNat) 0)=gl (WH m) i:=fun i hi=>by
  rcases(by omega:i=0\/i=1\/i=2)with rfl|rfl|rfl<;>rfl
 have h0:∀j:Nat,j<0->By (gl (WH m) j)=true:=fun j hj=>absurd hj (Nat.not_lt_zero j);refine⟨⟨0,?_⟩,fun i hi=>?_⟩
 ·and_intros<;>first|exact bW|exact h0|(intro h_;revert h_)|exact bX|skip
 obtain⟨hi,hall⟩:=hi;refine⟨fun c1=>?_,fun c1 _=>?_⟩
 ·have hi3:i<3:=by have:=of_decide_eq_true c1;omega
  rw[hg i hi3];refine⟨⟨by omega,by omega⟩,by omega,fun _=>⟨fun c2=>⟨(),?_,trivial,trivial⟩,fun c2=>⟨fun c3=>⟨(),?_,trivial,trivial⟩,fun c3=>⟨by simp only[bR];omega,i+1,?_⟩⟩⟩⟩
  ·exact(Ur hi3 (by have:=of_decide_eq_true c2;simp only[By,Bool.and_eq_false_iff,decide_eq_false_iff_not];omega)).symm
  ·exact(Ur hi3 (by have:=of_decide_eq_true c3;simp only[By,Bool.and_eq_false_iff,decide_eq_false_iff_not];omega)).symm
  ·have h1:∀j,j<i+1->By (gl (WH m) j)=true:=fun j hj=>by
    by_cases e:j=i
    ·subst e;have:=of_decide_eq_false c2;have:=of_decide_eq_false c3;simp only[By,Bool.and_eq_true,decide_eq_true_eq];omega
    ·exact hall j (by omega)
   and_intros<;>first|exact bW|exact h1|(intro h_;revert h_)|exact bX|skip
 ·have hi3:i=3:=by have:=of_decide_eq_false c1;omega
  subst hi3;rw[WI hall];refine⟨fun d1=>⟨fun d2=>⟨(),?_⟩,fun d2 _=>⟨(),?_⟩⟩,fun d1 _ _=>⟨fun d2=>⟨fun d3=>⟨(),?_⟩,fun d3 _=>⟨(),?_⟩⟩,fun d2=>⟨(),?_⟩⟩⟩<;>simp[*])
theorem Uu:au (Y Tryz.prog).G.X 145 Us:=aU fL Ut trivial
noncomputable def Ii:cE where
 α:=MetaM
 β:=Nat
 m:=0
 m':=1
 pre:=fun m=>nD m=true
 args:=fun m=>[.agg (Dv m)]
 hp:=fun _=>[]
 ro:=fun _=>[]
 post:=fun _ _=>True
 res:=fun m c=>.a (.slc 0 0 1 (e8 m).length c)
 cZ:=fun m _=>jv 0 (e8 m)
def M5(x:MetaM)(z:Int):=ah x.bK->ah x.aQ->ah x.ready->∃y:mh,(0=ai y.l/\0=y.cap)/\zw 4 y (ai y.l=0) x.bK (bx x.aQ (bx x.ready (bx z []))) fun u=>∃v:Nat,mS (y.l++iw y.ns) (e8 x) u v cH True True
theorem QH:fnBody (Y Tryz.prog) [(165,CM)] 128 Ii fun _=>[]:=fnBody.of (p :=
 ∀x:MetaM,aC (nD x)->az x.frozen (M5 x 1) (M5 x 0)) (by kernel_rfl) (by
 delta az ai aK ah bx aC dV bq bV aW ct dL mS zw ag M5 cT zu
 try dsimp -iota -proj only
 intro m hm;have hr:=Dw hm;have key:∀f:Int,0<=f->f<=1->e8 m=iw [m.bK,m.aQ,m.ready,f]->∃a:mh,a=⟨[],0,[m.bK,m.aQ,m.ready,f],4⟩/\([]++iw [m.bK,m.aQ,m.ready,f])=e8 m/\ak 4 1 (aO 1 [Value.int .i64 m.bK,Value.int .i64 m.aQ,Value.int .i64 m.ready,Value.int .i64 f]) (aa encI [m.bK,m.aQ,m.ready,f])/\∀i:Nat,i<4->0<=gl [m.bK,m.aQ,m.ready,f] i/\gl [m.bK,m.aQ,m.ready,f] i<4611686018427387904:=fun f f0 f1 e=>by
  refine⟨_,rfl,by rw[e];rfl,⟨fun i hi j hj=>?_⟩,fun i hi=>?_⟩
  ·obtain rfl:j=0:=by omega
   rcases(by omega:i=0\/i=1\/i=2\/i=3)with rfl|rfl|rfl|rfl<;>rfl
  ·rcases(by omega:i=0\/i=1\/i=2\/i=3)with rfl|rfl|rfl|rfl
   ·show 0<=m.bK/\m.bK<_;omega
   ·show 0<=m.aQ/\m.aQ<_;omega
   ·show 0<=m.ready/\m.ready<_;omega
   ·show 0<=f/\f<_;omega
 have l100:∀f:Int,[m.bK,m.aQ,m.ready,f].length<100:=fun _=>by simp
 refine⟨fun c _ _ _=>?_,fun c _ _ _=>?_⟩
 ·obtain⟨a,rfl,e1,e2,e3⟩:=key 1 (by omega) (by omega) (by unfold e8;rw[c];rfl);refine⟨mh.mk [] 0 [m.bK,m.aQ,m.ready,1] 4,?_⟩;dsimp only;rw[e1]
  and_intros<;>first|exact bW|exact e2|exact e3|exact l100 _|(intro h_;revert h_)|exact bX|skip
  intro c _;refine⟨c,?_⟩
  and_intros<;>first|exact bW|(intro h_;revert h_)|exact bX|skip
 ·obtain⟨a,rfl,e1,e2,e3⟩:=key 0 (by omega) (by omega) (by unfold e8;rw[c];rfl);refine⟨mh.mk [] 0 [m.bK,m.aQ,m.ready,0] 4,?_⟩;dsimp only;rw[e1]
  and_intros<;>first|exact bW|exact e2|exact e3|exact l100 _|(intro h_;revert h_)|exact bX|skip
  intro c _;refine⟨c,?_⟩
  and_intros<;>first|exact bW|(intro h_;revert h_)|exact bX|skip)
theorem FC:au (Y Tryz.prog).G.X 128 Ii:=aU fL QH ⟨zy,trivial⟩
structure qW where
 s:oa
 m:MetaM
def Dx(ke su tx dv:Nat)(k:qW)(cap:Nat):List (Nat×Chunk):=(ke,.obj 155 (.ptr su 0 0 0::Dv k.m))::FB su tx dv k.s cap
def jI(at_:Nat):qW:=⟨⟨at_,1,e8 BS,0⟩,BS⟩
theorem Ku{m:MetaM}(h:nD m=true):1<=(e8 m).length/\(e8 m).length<=40:=by
 have:=Dw h;have a1:=iR m.bK;have a2:=iR m.aQ;have a3:=iR m.ready;have a4:=iR (if m.frozen then 1 else 0);simp only[e8,iw,List.flatMap_cons,List.flatMap_nil,List.append_nil,List.length_append];omega
@[reducible] def Dy(a b:qW)(v w:Nat)(p:Prop):Prop:=a.m.bK=b.m.bK/\a.m.aQ=b.m.aQ/\a.m.ready=b.m.ready/\a.m.frozen=b.m.frozen/\0=0/\(↑a.s.at_:Int)=(↑b.s.at_:Int)/\a.s.fo=b.s.fo/\(0=0/\a.s.text.length=b.s.text.length/\v=w)/\(↑a.s.slot:Int)=(↑b.s.slot:Int)/\(b.s.text.length<=a.s.text.length/\ak b.s.text.length 1 (aa cH a.s.text) (aa cH b.s.text))/\p
structure WJ where
 at_:Nat
 d:bA
noncomputable def M6:cE where
 α:=WJ
 β:=Nat
 m:=2
 m':=5
 pre:=fun a=>a.at_+1<a.d.n/\a.d.n<100000/\a.d.calls<800000000000
 args:=fun a=>[.a (.ptr 0 0 0 0),.a (.int .i64 a.at_)]
 hp:=fun a=>gJ 0 1 a.d
 ro:=fun _=>[]
 post:=fun _ _=>True
 res:=fun _ _=>.mG [.a (.ptr 2 0 0 0),.a (.lit .i64 0)]
 cZ:=fun a c=>Dx 2 3 4 0 (jI a.at_) c++gJ 0 1 (pE a.d a.at_ (e8 BS))
def Dz(y:Int)(x:MetaM)(z:Int)(u v:Prop):=y=x.bK/\z=x.aQ/\(0:Int)=x.ready/\fC x.frozen u v
theorem QI:fnBody (Y Tryz.prog) [(128,Ii),(127,MZ)] 82 M6 fun _=>[]:=fnBody.of (p :=
 ∀x:WJ,x.at_+1<x.d.n/\x.d.n<100000/\x.d.calls<800000000000->∃z:MetaM,Dz 0 z 0 (aC (nD z)) (∀u:Nat,True->∃y:Uq,ag (bz x.at_ y.at_/\cT (e8 z) y.b u y.bc/\iY x.d y.d (ct y.b (e8 z) cH/\Ig y/\∀v:Nat,True->∃w:Nat,eC (aD 0) (Dz 0 (jI x.at_).m 0 (0=0) (bz y.at_ (jI x.at_).s.at_/\(1:Int)=(jI x.at_).s.fo/\cT y.b (jI x.at_).s.text v w/\bz 0 (jI x.at_).s.slot/\ct (jI x.at_).s.text y.b cH/\iY (pE y.d y.at_ y.b) (pE x.d x.at_ (e8 BS)) (True/\True))))))) (by kernel_rfl) (by
 delta ai aK aD af aC fC eC ct ag cT gW bz Ig Dz
 try dsimp -iota -proj only
 rintro⟨at_,d⟩ ⟨h1,h2,h3⟩;dsimp only at *;obtain⟨l1,l2⟩:=Ku (show nD BS=true from rfl);refine⟨BS,rfl,rfl,rfl,rfl,rfl,fun b _=>⟨Uq.mk at_ d (e8 BS) b,?_⟩⟩;dsimp only
 and_intros<;>first|exact bW|exact l1|exact l2|(intro h_;revert h_)|exact bX|skip
 intro c _;refine⟨c,?_⟩;dsimp only[jI]
 and_intros<;>first|exact bW|(intro h_;revert h_)|exact bX|skip)
theorem QJ:au (Y Tryz.prog).G.X 82 M6:=aU fL QI ⟨FC,QE,trivial⟩
def gH(k:qW)(m:MetaM):Bool:=nD m&&(!decide (m.bK<k.m.bK)&&!decide (m.aQ<k.m.aQ))
def nq(k:qW)(m:MetaM):qW:=if gH k m then⟨Ie k.s (1-k.s.slot) (k.s.fo+1) (e8 m),m⟩else k
def iy(k:qW)(d:bA)(m:MetaM):bA:=if gH k m then Bx k.s d (1-k.s.slot) (k.s.fo+1) (e8 m)else d
structure Ij where
 k:qW
 cap:Nat
 d:bA
 m:MetaM
noncomputable def Ik:cE where
 α:=Ij
 β:=Nat
 m:=5
 m':=6
 pre:=fun a=>a.k.s.at_+1<a.d.n/\a.k.s.slot<=1/\a.d.n<100000/\a.d.calls<900000000000/\0<=a.k.s.fo/\a.k.s.fo<1000000000000
 args:=fun a=>[.a (.ptr 0 0 0 0),.agg (Dv a.m)]
 hp:=fun a=>Dx 0 1 2 3 a.k a.cap++gJ 3 4 a.d
 ro:=fun _=>[]
 post:=fun _ _=>True
 res:=fun a _=>.a (.int .i64 (if gH a.k a.m then 0 else 1))
 cZ:=fun a c=>Dx 0 1 5 3 (nq a.k a.m) c++gJ 3 4 (iy a.k a.d a.m)
def tC(x y:MetaM)(z:Prop):=x.bK=y.bK/\x.aQ=y.aQ/\x.ready=y.ready/\x.frozen=y.frozen/\z
def M7(x:Ij):Nat->Prop:=fun(y:Nat)=>(1:Int)=gX (gH x.k x.m)/\ag (Dy x.k (nq x.k x.m) x.cap y (iY x.d (iy x.k x.d x.m) (True/\True)))
def Ap(x:Ij):=qE x.k.s x.d x.k.s.slot (bq x.k.s.fo 1000000000000)
theorem QK:fnBody (Y Tryz.prog) [(145,Us),(128,Ii),(146,M3)] 100 Ik fun _=>[]:=fnBody.of (p :=
 ∀x:Ij,Ap x->∃u:MetaM,tC x.m u (cQ (Al (bg (nD u)) (Exists (M7 x)) x.m.bK x.k.m.bK (aH x.m.bK x.k.m.bK) (ah x.m.aQ->ah x.k.m.aQ->az (aH x.m.aQ x.k.m.aQ) (Exists (M7 x)) (∃z:MetaM,tC x.m z (aC (nD z)/\∀v:Nat,True->∃y:M0,eC (cT (e8 z) y.b v y.bc) (xO x.k.s y.S x.cap y.cap x.d y.d (ct y.b (e8 z) cH) (Ih y/\∀w:Nat,True->∃t:Nat,(0:Int)=gX (gH x.k x.m)/\ag (tC x.m (nq x.k x.m).m (ag (xO (Du y) (nq x.k x.m).s w t (Dt y) (iy x.k x.d x.m) True True))))))))))) (by kernel_rfl) (by
 delta az ai aK ah aH af aC bq eC aW ct aI xO Al gX tC qE ag cT bg bz M7 Ap cQ Dt Du Ih
 try dsimp -iota -proj only
 rintro⟨k,cap,d,m⟩ ⟨h1,h2,h3,h4,h5,h6⟩;dsimp only at *;have no:gH k m=false->nq k m=k/\iy k d m=d:=fun h=>⟨if_neg (by rw[h];decide),if_neg (by rw[h];decide)⟩
 refine⟨m,rfl,rfl,rfl,rfl,trivial,fun _ _=>⟨fun c=>?_,fun c _ _=>⟨fun c2=>?_,fun c2 _ _=>⟨fun c3=>?_,fun c3=>?_⟩⟩⟩⟩
 ·have hk:gH k m=false:=by unfold gH;simp only[Bool.not_eq_true']at c;rw[c];rfl
  obtain⟨e1,e2⟩:=no hk;rw[e1,e2,hk];refine⟨cap,?_⟩
  and_intros<;>first|exact bW|(intro h_;revert h_)|exact bX|skip
 ·have hk:gH k m=false:=by unfold gH;rw[c2];simp
  obtain⟨e1,e2⟩:=no hk;rw[e1,e2,hk];refine⟨cap,?_⟩
  and_intros<;>first|exact bW|(intro h_;revert h_)|exact bX|skip
 ·have hk:gH k m=false:=by unfold gH;rw[c3];simp
  obtain⟨e1,e2⟩:=no hk;rw[e1,e2,hk];refine⟨cap,?_⟩
  and_intros<;>first|exact bW|(intro h_;revert h_)|exact bX|skip
 ·have hm:nD m=true:=by simpa using c
  have hk:gH k m=true:=by unfold gH;rw[hm,c2,c3];rfl
  obtain⟨l1,l2⟩:=Ku hm;have e1:nq k m=⟨Ie k.s (1-k.s.slot) (k.s.fo+1) (e8 m),m⟩:=if_pos hk;have e2:iy k d m=Bx k.s d (1-k.s.slot) (k.s.fo+1) (e8 m):=if_pos hk;rw[e1,e2,hk];refine⟨m,rfl,rfl,rfl,rfl,hm,fun bc _=>⟨M0.mk k.s cap d (e8 m) bc,?_⟩⟩;dsimp only
  and_intros<;>first|exact bW|exact l1|exact l2|(intro h_;revert h_)|exact bX|skip
  intro c' _;refine⟨c',?_⟩
  and_intros<;>first|exact bW|(intro h_;revert h_)|exact bX|skip)
theorem FD:au (Y Tryz.prog).G.X 100 Ik:=aU fL QK ⟨Uu,FC,QG,trivial⟩
structure lT where
 d:bA
 cL:bQ
 cl:List (ByteArray×Int)
 jL:bQ
 ms:List eZ
 k:qW
 bK:Int
structure tZ where
 H:PH
 cy:iu
 x:Ix.cW
 xc:Nat
 jy:iu
 jc:Nat
 kc:Nat
def lT.fl(s:lT):ou:=⟨s.cL,s.d,s.cl⟩
def tZ.fl(p:tZ):sA:=⟨p.H,p.cy,p.x,p.xc⟩
def lT.jr(s:lT):Jk:=⟨s.jL,s.d,s.ms⟩
def tZ.jr(p:tZ):Kr:=⟨p.H,p.jy,p.jc⟩
def stO(ca jr ke:Nat)(bK:Int):Chunk:=.obj 88 [.ptr ca 0 0 0,.ptr jr 0 0 0,.ptr ke 0 0 0,.int .i64 bK]
def v7(st ca cl dv ds ix it jr ma jl ke su tx pl:Nat)(s:lT)(p:tZ):List (Nat×Chunk) :=
 [(st,stO ca jr ke s.bK),(ca,.obj 205 [.ptr cl 0 0 0,.ptr ix 0 0 0]),(cl,fF dv s.cL p.cy.lv)]++gJ dv ds s.d++Ix.pM ix it p.x.t p.xc p.x.n p.x.used ++
 [(jr,WB jl ma s.ms.length p.jc),(ma,.arr 228 qC s.ms.length (aa cR s.ms)),(jl,fF dv s.jL p.jy.lv)]++Dx ke su tx dv s.k p.kc++[(pl,.cA p.H)]
structure pF(s:lT)(p:tZ):Prop where
 fl:jm s.fl p.fl
 jl:bY p.H p.jy s.jL
 sep:∀z,z∈bt p.jy->z∉bt p.cy
 cap:s.ms.length<=p.jc
@[reducible] def pG(a b:lT)(p q:tZ)(r:Prop):Prop:=a.bK=b.bK/\0=0/\0=0/\0=0/\rC a.cL b.cL p.cy.lv q.cy.lv (iY a.d b.d (yH p.x q.x p.xc q.xc (0=0/\vk a.ms b.ms p.jc q.jc (0=0/\rC a.jL b.jL p.jy.lv q.jy.lv (0=0/\Dy a.k b.k p.kc q.kc r)))))
def DA(H:PH)(c j:List Nat)(p:tZ):Prop:=∀z,H z≠none->z∉c->z∉j->p.H z=H z/\z∉bt p.cy/\z∉bt p.jy
def oI(m:MetaM):MetaM:={ m with bK:=m.bK+1 }
def iX(n:Nat):Nat:=min 200 ((n-162)/8)
structure Bc where
 k:qW
 kc:Nat
 d:bA
 H:PH
 ms:List eZ
 es:List (Option aB)
def FE(a:Bc):bA:=iy a.k a.d (oI a.k.m)
def ki(a:Bc):lT:=⟨FE a,cU 162 (iX a.d.n) (FE a),nJ a.es (gh (cU 162 (iX a.d.n) (FE a)).l) a.es.length,cU 2 20 (FE a),a.ms,nq a.k (oI a.k.m),a.k.m.bK+1⟩
structure Aq(a:Bc):Prop where
 n:192<=a.d.n/\a.d.n<100000
 calls:a.d.calls<900000000000
 save:gH a.k (oI a.k.m)=true
 k:a.k.s.at_=0/\a.k.s.slot<=1/\0<=a.k.s.fo/\a.k.s.fo<1000000000000
 jr:∀H,Ak.pre ⟨H,FE a,2,20,a.ms⟩
 fl:∀H,Af.pre ⟨H,FE a,162,iX a.d.n,a.es⟩
noncomputable def M8:cE where
 α:=Bc
 β:=tZ
 m:=6
 m':=16
 pre:=fun a=>Aq a
 args:=fun a=>[.a (.ptr 0 0 0 0),.a (.ptr 2 0 0 0)]
 hp:=fun a=>Dx 2 3 4 0 a.k a.kc++gJ 0 1 a.d++[(5,.cA a.H)]
 ro:=fun _=>[]
 post:=fun a b=>pF (ki a) b/\DA a.H [] [] b
 res:=fun _ _=>.mG [.a (.ptr 6 0 0 0),.a (.lit .i64 0)]
 cZ:=fun a b=>v7 6 7 8 0 1 9 10 11 12 13 2 3 14 15 (ki a) b
noncomputable def Uv:List (Nat×cE):=[(100,Ik),(129,Ak),(130,Af)]
def Bd(w:ou)(u:lT)(v:sA)(z:tZ)(s:bA)(t:List eZ)(f:Nat)(g:bQ)(h:iu)(i:qW)(j:Nat)(l:Prop):=ax (gV w.L u.cL v.y z.cy s u.d (yH v.x z.x v.cap z.xc (ag (vk t u.ms f z.jc (ag (rC g u.jL h.lv z.jy.lv (ag (Dy i u.k j z.kc l))))))))
def xP(y:Bc)(x:tZ)(z:PH):=pF (ki y) x/\DA z [] [] x
def Il(x:Ij):Int:=af (iy x.k x.d x.m).n-(162:Int)
theorem QL:fnBody (Y Tryz.prog) Uv 83 M8 fun _=>[]:=fnBody.of (p :=
 ∀z:Bc,Aq z->ah z.k.m.bK->ah (z.k.m.bK+(1:Int))/\∃x:Ij,ag (z.k.m.bK+(1:Int)=x.m.bK/\z.k.m.aQ=x.m.aQ/\z.k.m.ready=x.m.ready/\z.k.m.frozen=x.m.frozen/\ag (Dy z.k x.k z.kc x.cap (iY z.d x.d (Ap x/\∀h:Nat,True->az (gX (gH x.k x.m) != (0:Int)) (∃u:tZ,False) (∃u:wu,ag ((2:Int)=af u.from_/\(20:Int)=af u.av/\z.H=u.H/\iY (iy x.k x.d x.m) u.d (Ib u/\∀w:Kr,bY w.H w.y (cU u.from_ u.av u.d)/\(∀t:Nat,pg (u.H t) (w.H t) (bt w.y) t)/\cm u.ms<=w.cap->ah (Il x)/\(8:Int)≠(0:Int)/\ah (Int.tdiv (Il x) (8:Int))/\∃v:lJ,ag ((162:Int)=af v.from_/\pL false 200 (Int.tdiv (Il x) (8:Int))=af v.av/\w.H=v.H/\iY (iy x.k x.d x.m) v.d (Ag v.from_ v.av v.d (Ys v.es (gh (cU v.from_ v.av v.d).l))/\∀s:sA,(jm (Ko v) s/\∀f:Nat,pg (v.H f) (s.H f) (bt s.y) f)->ah (z.k.m.bK+(1:Int))->∃g:tZ,ag (aV (ax (ag (z.k.m.bK+(1:Int)=(ki z).bK/\Bd (Ko v) (ki z) s g (iy x.k x.d x.m) u.ms w.cap (cU u.from_ u.av u.d) w.y (nq x.k x.m) h (s.H=g.H/\xP z g z.H/\True))))))))))))))) (by kernel_rfl) (by
 delta az ah b8 aD pL af aC bq aW cm Bd bB gX aV qE Ag ag pg ax Ap gV xP pe Il Ib
 rintro⟨k,kc,d,H,ms,es⟩ ok hb;obtain⟨⟨n1,n2⟩,hcl,hsv,⟨k1,k2,k3,k4⟩,hjr,hfl⟩:=ok;dsimp only at *;have hm:nD (oI k.m)=true:=by
  have:=hsv;unfold gH at this;simp only[Bool.and_eq_true]at this;exact this.1
 obtain⟨g1,g2,g3,g4⟩:=Dw hm;have g1:0<=k.m.bK+1/\k.m.bK+1<=1099511627776:=g1;obtain⟨D,hD⟩:∃D,D=iy k d (oI k.m):=⟨_,rfl⟩
 have hDn:D.n=d.n:=by rw[hD];unfold iy;split<;>rfl
 have hk0:k.s.at_+1<d.n:=by omega
 have hjr:Ak.pre ⟨H,D,2,20,ms⟩:=by rw[hD];exact hjr H
 obtain⟨j1,j2,j3,j4⟩:=hjr;have e:ki ⟨k,kc,d,H,ms,es⟩=⟨D,cU 162 (iX d.n) D,nJ es (gh (cU 162 (iX d.n) D).l) es.length,cU 2 20 D,ms,nq k (oI k.m),k.m.bK+1⟩:=by rw[hD];rfl
 rw[e];refine⟨by simp only[bR];omega,Ij.mk k kc d (oI k.m),?_⟩;dsimp only;rw[hsv,<- hD]
 and_intros<;>first|exact bW|(intro h_;revert h_)|exact bX|skip
 intro b _;refine⟨fun c=>absurd c (by decide),fun _=>⟨wu.mk H D 2 20 ms,?_⟩⟩;dsimp only
 and_intros<;>first|exact bW|exact j2|exact j3|exact j4|(intro h_;revert h_)|exact bX|skip
 rintro⟨H1,y1,jc⟩ ⟨hl1,hf1,hc1⟩;dsimp only at hl1 hf1 hc1 ⊢;have hfl:Af.pre ⟨H1,D,162,iX d.n,es⟩:=by rw[hD];exact hfl H1
 obtain⟨f1,f2,f3⟩:=hfl;have hdv:((D.n:Int)-162).tdiv 8=(((d.n-162)/8:Nat):Int):=by
  rw[hDn,Int.tdiv_eq_ediv_of_nonneg (by omega)];omega
 rw[hdv];have hsg:(bif false then max (200:Int) (((d.n-162)/8:Nat):Int)else min 200 (((d.n-162)/8:Nat):Int))=(iX d.n:Nat):=by
  simp only[cond_false,iX];omega
 refine⟨by simp only[bR];omega,by decide,by simp only[bR];omega,lJ.mk H1 D 162 (iX d.n) es,?_⟩;dsimp only
 and_intros<;>first|exact bW|exact hsg|exact f1|exact f2|exact f3|(intro h_;revert h_)|exact bX|skip
 rintro⟨H2,y2,x2,xc2⟩ ⟨hat2,hf2⟩ _;dsimp only at hf2 ⊢;refine⟨⟨H2,y2,x2,xc2,y1,jc,b⟩,?_⟩;have hat:pF ⟨D,cU 162 (iX d.n) D,nJ es (gh (cU 162 (iX d.n) D).l) es.length,cU 2 20 D,ms,nq k (oI k.m),k.m.bK+1⟩ ⟨H2,y2,x2,xc2,y1,jc,b⟩ :=
  ⟨hat2,hl1.frame fun z hz=>(hf2 z (hl1.dom z hz)).1,fun z hz=>(hf2 z (hl1.dom z hz)).2,hc1⟩
 have hfr:DA H [] [] ⟨H2,y2,x2,xc2,y1,jc,b⟩:=fun z hz _ _=>by
  obtain⟨a1,a2⟩:=hf1 z hz;obtain⟨b1,b2⟩:=hf2 z (by rw[a1];exact hz);exact⟨b1.trans a1,b2,a2⟩
 dsimp only[Ko]
 and_intros<;>first|exact bW|exact hat|exact hfr|(intro h_;revert h_)|exact bX|skip)
theorem callParts:au (Y Tryz.prog).G.X 83 M8:=aU fL QL ⟨FD,QC,Qy,trivial⟩
def eW(d:bA)(i:Nat):bA:=⟨d.n,fun r j=>if r<i/\j<64 then 0 else d.now r j,d.E8,fun r=>if r<i then true else d.loose r,d.calls+i⟩
structure DB where
 d:bA
 H:PH
def rM(a:DB):Bc:=⟨jI 0,0,pE (eW a.d a.d.n) 0 (e8 BS),a.H,[],[]⟩
noncomputable def yI:cE where
 α:=DB
 β:=tZ
 m:=3
 m':=17
 pre:=fun a=>192<=a.d.n/\a.d.n<100000/\a.d.calls<100000000000/\Aq (rM a)
 args:=fun a=>[.a (.ptr 0 0 0 0)]
 hp:=fun a=>gJ 0 1 a.d++[(2,.cA a.H)]
 ro:=fun _=>[]
 post:=fun a b=>pF (ki (rM a)) b/\DA a.H [] [] b
 res:=fun _ _=>.mG [.a (.ptr 3 0 0 0),.a (.lit .i64 0)]
 cZ:=fun a b=>v7 3 4 5 0 1 6 7 8 9 10 11 12 13 14 (ki (rM a)) b
def WK(a:DB):An:=.flat 5 Nat (fun s i=>((s.at_ 0 (.obj 116 [.slc 1 0 129 a.d.n a.d.n,.int .i64 (eW a.d i).calls])).at_ 1 (.arr 158 AX a.d.n (fe (eW a.d i)))).int 16 i) (fun _ i=>i<=a.d.n) (fun _ i=>a.d.n-i)
noncomputable def WL:List (Nat×cE):=[(81,p5),(82,M6),(83,M8)]
def xQ(x:bA)(y:DB):=iE 192 x.n (x.calls<100000000000/\Aq (rM y))
theorem M9:fnBody (Y Tryz.prog) WL 46 yI fun a=>[(46,[WK a],[])]:=fnBody.of (p :=
 ∀x:DB,xQ x.d x->az (aH (af x.d.n) 192) (∃z:tZ,False) ((∃z:Nat,aF z (bu x.d.n/\qy (bG x.d.n x.d.n/\bz x.d.calls (eW x.d z).calls/\aK x.d.n x.d.n 129 (fe x.d) (fe (eW x.d z))/\x.H=x.H/\z<=x.d.n/\True)))/\∀z:Nat,z<=x.d.n->aY (af z) x.d.n (l9 64 64 (∃y:LR,ag (bz z y.i/\(0=y.r/\64=y.len/\64=y.cap)/\sX x.d.n y.d (af (eW x.d z).calls) y.d (fe (eW x.d z)) (aK y.n 64 1 ta (bP y.src)) (uN y/\aI (dz z fun v=>bu x.d.n/\qy (sX (bA.n (me y)) x.d (af (bA.calls (me y))) (eW x.d v) (fe (me y)) (x.H=x.H) (bU v x.d.n z))))))) (∃y:WJ,ag (aF y.at_ (sX x.d.n y.d (af (eW x.d z).calls) y.d (fe (eW x.d z)) (y.at_+1<y.d.n/\y.d.n<100000/\y.d.calls<800000000000) (∀v:Nat,True->∃u:Bc,ax (ag (Dy (jI y.at_) u.k v u.kc (iY (pE y.d y.at_ (e8 BS)) u.d (x.H=u.H/\Aq u/\∀w:tZ,xP u w u.H->∃s:tZ,ag (aV (ax (ag (pG (ki u) (ki (rM x)) w s (w.H=s.H/\xP (rM x) s x.H/\True))))))))))))))) (by kernel_rfl) (by
 delta az aT bZ aK ah b8 aD bE aH af bD fM aC bV aW bN aI bG dz dL bU me l9 aV aS aF ag aY sX xQ br uN ax ta qy bu bz iE xP
 try dsimp -iota -proj only
 rintro⟨d,H⟩ ⟨h1,h2,h3,hok⟩;dsimp only at *;have h0:ak 64 1 (fun(x j:Nat)=>[Value.int IntKind.u8 (0:Int)].getD j (Value.tuple #[])) (bP fun _=>0):=kH fun _ _=>rfl;refine⟨fun c=>by(exfalso;have:=of_decide_eq_true c;omega),fun _=>⟨⟨0,?_⟩,fun i hi=>⟨fun c=>?_,fun c=>?_⟩⟩⟩
 ·have hr:ak d.n 129 (fe d) (fe (eW d 0)):=⟨fun i hi j hj=>by simp[fe,eW]⟩
  have hc:(d.calls:Int)=(eW d 0).calls:=rfl
  and_intros<;>first|exact bW|exact hr|exact hc|(intro h_;revert h_)|exact bX|skip
 ·have hi2:i<d.n:=by have:=of_decide_eq_true c;omega
  have hn:(eW d i).n=d.n:=rfl;have hc:(eW d i).calls<1000000000000:=by show d.calls+i<_;omega
  refine⟨by omega,by omega,by omega,LR.mk (eW d i) i 0 64 64 64 fun _=>0,?_⟩;dsimp only;rw[hn]
  and_intros<;>first|exact bW|exact h0|exact hc|(intro h_;revert h_)|exact bX|skip
  intro _ _;have hr:ak d.n 129 (fe (gu (eW d i) i 64 fun _=>0)) (fe (eW d (i+1))):=⟨fun r hr j hj=>by
   simp only[fe,gu,eW];by_cases e:r=i
   ·subst e;by_cases h64:j<64
    ·simp[h64,show r<r+1 by omega]
    ·simp[h64]
   ·by_cases h64:j<64
    ·rw[if_pos h64,if_pos h64,if_neg (by omega)];by_cases hl:r<i
     ·rw[if_pos ⟨hl,h64⟩,if_pos ⟨by omega,h64⟩]
     ·rw[if_neg (by omega),if_neg (by omega)]
    ·rw[if_neg h64,if_neg h64];by_cases h128:j<128
     ·rw[if_pos h128,if_pos h128]
     ·rw[if_neg h128,if_neg h128,if_neg e];by_cases hl:r<i
      ·rw[if_pos hl,if_pos (by omega)]
      ·rw[if_neg hl,if_neg (by omega)]⟩
  have hcl:((gu (eW d i) i 64 fun _=>0).calls:Int)=(eW d (i+1)).calls:=by show((d.calls+i+1:Nat):Int)=(d.calls+(i+1):Nat);omega
  have hn2:(gu (eW d i) i 64 fun _=>0).n=d.n:=rfl;have hn3:d.n<=(gu (eW d i) i 64 fun _=>0).n:=Nat.le_refl _;refine⟨by simp only[bR];omega,i+1,?_⟩
  and_intros<;>first|exact bW|exact hr|exact hcl|exact hn2|exact hn3|(intro h_;revert h_)|exact bX|skip
 ·have:i=d.n:=by have:=of_decide_eq_false c;omega
  subst this;have hn:(eW d d.n).n=d.n:=rfl;have hc:(eW d d.n).calls<800000000000:=by show d.calls+d.n<_;omega
  refine⟨WJ.mk 0 (eW d d.n),?_⟩;dsimp only;rw[hn]
  and_intros<;>first|exact bW|exact hc|(intro h_;revert h_)|exact bX|skip
  intro b _;have hok2:Aq ⟨jI 0,b,pE (eW d d.n) 0 (e8 BS),H,[],[]⟩:=⟨hok.n,hok.calls,hok.save,hok.k,hok.jr,hok.fl⟩
  refine⟨⟨jI 0,b,pE (eW d d.n) 0 (e8 BS),H,[],[]⟩,?_⟩;dsimp only
  and_intros<;>first|exact bW|exact hok2|(intro h_;revert h_)|exact bX|skip
  rintro q ⟨q1,q2⟩;refine⟨q,?_⟩;have e:ki (rM ⟨d,H⟩)=ki ⟨jI 0,b,pE (eW d d.n) 0 (e8 BS),H,[],[]⟩:=rfl;rw[e]
  and_intros<;>first|exact bW|exact q1|exact q2|(intro h_;revert h_)|exact bX|skip)
theorem Na:au (Y Tryz.prog).G.X 46 yI:=aU fL M9 ⟨pT,QJ,callParts,trivial⟩
def lY(s:lT)(ks:List ByteArray):lT:={ s with d:=(gZ s.jr ks).d,jL:=(gZ s.jr ks).L,ms:=(gZ s.jr ks).ms }
def OQ(s:lT)(ks:List ByteArray):lT:={ s with d:=(nZ s.fl ks).d,cL:=(nZ s.fl ks).L,cl:=(nZ s.fl ks).l }
def kj(s:lT)(ks:List ByteArray):lT:=if fS ks then OQ (lY s ks) ks else s
structure wL where
 s:lT
 p:tZ
 ks:List ByteArray
 kc:Nat
structure Ar(a:wL):Prop where
 n:a.ks.length<1000
 jr:fS a.ks=true->∀p,bY p.H p.y a.s.jL->a.s.ms.length<=p.cap->FA.pre ⟨a.s.jr,p,a.ks,a.kc⟩
 fl:fS a.ks=true->∀p,jm (lY a.s a.ks).fl p->HQ.pre ⟨(lY a.s a.ks).fl,p,a.ks,a.kc⟩
noncomputable def Uw:cE where
 α:=wL
 β:=tZ
 m:=15
 m':=18
 pre:=fun a=>pF a.s a.p/\Ar a
 args:=fun a=>[.a (.ptr 0 0 0 0),.a (.slc 14 0 1 a.ks.length a.kc)]
 hp:=fun a=>v7 0 1 2 3 4 5 6 7 8 9 10 11 12 13 a.s a.p
 ro:=fun a=>[(14,.arr 9 [.str] a.ks.length (aa kF a.ks))]
 post:=fun a b=>pF (kj a.s a.ks) b/\DA a.p.H (bt a.p.cy) (bt a.p.jy) b
 res:=fun a _=>.mG [.a (.int .i64 (if fS a.ks then gY (gZ a.s.jr a.ks).ms else 0)),.a (.int .i64 (if fS a.ks then 0 else 1))]
 cZ:=fun a b=>v7 0 1 2 3 4 5 15 7 16 9 10 11 12 17 (kj a.s a.ks) b
def ZM(a:wL):An:=.flat 4 Nat (fun s i=>s.int 15 i) (fun _ i=>i<=a.ks.length/\∀j,j<i->cN (gl a.ks j)=true) (fun _ i=>a.ks.length-i)
def YA(a:wL):An:=.mk 9 Unit (fun s _=>s) (fun _ _=>fS a.ks=true) (fun _ _=>0) fun _=>.mk 1000 [] []
noncomputable def WM:List (Nat×cE):=[(86,LV),(134,FA),(135,HQ)]
def As(x:wL)(y:tZ):=pF (kj x.s x.ks) y/\DA x.p.H (bt x.p.cy) (bt x.p.jy) y
def Nb(f:Int)(x:wL)(g:Int)(w:sA)(z:pq)(u:pN)(t:Kr):=∃v:tZ,f=xL x.ks x.s.jr/\g=gX (fS x.ks)/\w.H=v.H/\ax (ag (x.s.bK=(kj x.s x.ks).bK/\Bd (nZ z.m z.ks) (kj x.s x.ks) w v (nZ z.m z.ks).d (gZ u.m u.ks).ms t.cap (gZ u.m u.ks).L t.y x.s.k x.p.kc (As x v/\True)))
def Im(v y:lT)(u z:tZ)(w:bA)(s:List eZ)(t:Nat)(f:bQ)(g:iu)(h:Prop):=v.bK=y.bK/\ax (gV v.cL y.cL u.cy z.cy w y.d (yH u.x z.x u.xc z.xc (ag (vk s y.ms t z.jc (ag (rC f y.jL g.lv z.jy.lv (ag (Dy v.k y.k u.kc z.kc h))))))))
def Io(x:wL)(y:Prop):=qy (bG (aR x.ks) x.kc/\ax (ag (pG x.s x.s x.p x.p (x.p.H=x.p.H/\lI x.ks/\y))))
def DC(x y:List ByteArray)(z:ByteArray->List Value):=aK (aR x) (aR y) 1 (aa z y) (aa z x)
theorem Ux:fnBody (Y Tryz.prog) WM 89 Uw fun a=>[(89,[ZM a],[YA a])]:=fnBody.of (p :=
 ∀z:wL,pF z.s z.p/\Ar z->Ae z.ks z.kc (fun u=>Io z ((u<=aR z.ks/\rL u z.ks)/\True)) (fun u=>∃w:ByteArray,gl z.ks (0+aA u)=w/\cQ (az (bg (cN w)) (∃t:tZ,(0:Int)=xL z.ks z.s.jr/\(1:Int)=gX (fS z.ks)/\z.p.H=t.H/\ax (ag (pG z.s (kj z.s z.ks) z.p t (As z t/\True)))) (dz u fun t=>dY (aR z.ks) z.kc (Io z (ey t (aR z.ks) (rL t z.ks) u))))) (Io z (aC (fS z.ks)/\True)) (∃u:pN,eC (ag (aR z.ks=aR u.ks/\z.kc=u.kc)) (vk z.s.ms u.m.ms z.p.jc u.p.cap (gV z.s.jL u.m.L z.p.jy u.p.y z.s.d u.m.d (z.p.H=u.p.H/\DC u.ks z.ks kF/\H7 u/\∀w:Kr,Dq w (gZ u.m u.ks) u->az (gX (fS u.ks) != (0:Int)) (∃v:tZ,(0:Int)=xL z.ks z.s.jr/\gX (fS u.ks)=gX (fS z.ks)/\w.H=v.H/\ax (ag (Im z.s (kj z.s z.ks) z.p v (gZ u.m u.ks).d (gZ u.m u.ks).ms w.cap (gZ u.m u.ks).L w.y (As z v/\True)))) (∃v:pq,ag (ag (aR z.ks=aR v.ks/\z.kc=v.cap)/\kR z.s.cL v.m z.p.cy v.p (gZ u.m u.ks).d z.p.x z.p.xc (w.H=v.p.H) (DC v.ks z.ks kF/\HS v/\∀f:sA,jm (nZ v.m v.ks) f/\uj v.p f->az (gX (fS v.ks) != (0:Int)) (Nb 0 z (gX (fS v.ks)) f v u w) (Nb (xL u.ks u.m) z 0 f v u w))))))))) (by kernel_rfl) (by
 delta az ai bZ aK ah b8 aA aD bE cF aH af aR aC aX bq eC aW dU gz bN aI cm bG Bd dz ey kR bB dY kE H7 gX ay aS lI aF ag Dq aY Nb Im cV Io rL br As HS ax xL bg qy bu Ae dX gV cQ DC
 try dsimp -iota -proj only
 rintro⟨s,p,ks,kc⟩ ⟨hat,hok⟩;dsimp only at *;have hkn:=hok.n;dsimp only at hkn;have no:fS ks=false->kj s ks=s:=fun e=>if_neg (by rw[e];decide);have bad:∀i,i<ks.length->cN (gl ks i)=false->fS ks=false:=fun i hi h=>by
  rw[Bool.eq_false_iff];intro ha;have:=List.all_eq_true.1 ha (gl ks i) (by rw[bT hi];exact List.getElem_mem _);rw[h]at this;cases this
 have h0:∀j,j<0->cN (gl ks j)=true:=fun j hj=>absurd hj (Nat.not_lt_zero j);have hfr0:DA p.H (bt p.cy) (bt p.jy) p:=fun z _ h1 h2=>⟨rfl,h1,h2⟩
 refine⟨⟨⟨0,?_⟩,fun i hi=>?_⟩,fun _ hK=>?_⟩
 ·and_intros<;>first|exact bW|exact h0|(intro h_;revert h_)|exact bX|skip
 ·obtain⟨hi,hall⟩:=hi;rw[show 0+(i:Int).toNat=i by omega];refine⟨fun c1=>?_,fun c1=>⟨(),?_⟩⟩
  ·have hlt:i<ks.length:=by have:=of_decide_eq_true c1;omega
   refine⟨⟨by omega,by omega⟩,hlt,gl ks i,rfl,trivial,fun _ _=>⟨fun c2=>?_,fun c2=>⟨by simp only[bR];omega,i+1,?_⟩⟩⟩
   ·have hn:=bad i hlt (by simpa using c2);rw[no hn,hn];refine⟨p,?_⟩
    and_intros<;>first|exact bW|exact hat|exact hfr0|(intro h_;revert h_)|exact bX|skip
   ·have hk:cN (gl ks i)=true:=by simpa using c2
    have h1:∀j,j<i+1->cN (gl ks j)=true:=fun j hj=>by
     by_cases e:j=i
     ·rw[e];exact hk
     ·exact hall j (by omega)
    and_intros<;>first|exact bW|exact h1|(intro h_;revert h_)|exact bX|skip
  ·have hi':i=ks.length:=by have:=of_decide_eq_false c1;omega
   have ha:fS ks=true:=List.all_eq_true.2 fun k hk=>by
    obtain⟨j,hj,rfl⟩:=List.getElem_of_mem hk;rw[<- bT hj];exact hall j (by omega)
   and_intros<;>first|exact bW|exact ha|(intro h_;revert h_)|exact bX|skip
 have hks:kj s ks=OQ (lY s ks) ks:=if_pos hK;obtain⟨hf,hl,hsep,hcap⟩:=hat;obtain⟨q1,q2,q3,q4,q5,q6⟩:=hok.jr hK p.jr hl hcap;have q6:=q6 hK;have sep2:∀z,z∈bt p.cy->z∉bt p.jy:=fun z h1 h2=>hsep z h2 h1;refine⟨pN.mk s.jr p.jr ks kc,?_⟩;dsimp only[lT.jr,tZ.jr]at q1 q2 q3 q4 q5 q6 ⊢
 and_intros<;>first|exact bW|exact q1|exact q2|exact q3|exact q4|exact q5|exact fun _=>q6|(intro h_;revert h_)|exact bX|skip
 rintro⟨H1,y1,c1⟩ ⟨hl1,hf1,hcp⟩;dsimp only at hl1 hf1 hcp ⊢;have hfc:jm (lY s ks).fl ⟨H1,p.cy,p.x,p.xc⟩:=⟨hf.log.frame fun z hz=>(hf1 z (hf.log.dom z hz) (sep2 z hz)).1,hf.idx⟩
 obtain⟨r1,r2,r3⟩:=hok.fl hK ⟨H1,p.cy,p.x,p.xc⟩ hfc;have r3:=r3 hK;rw[hK];refine⟨fun c=>absurd c (by decide),fun _=>⟨pq.mk (lY s ks).fl ⟨H1,p.cy,p.x,p.xc⟩ ks kc,?_⟩⟩;dsimp only[lT.fl]at r1 r2 r3 ⊢
 and_intros<;>first|exact bW|exact r1|exact r2|exact fun _=>r3|(intro h_;revert h_)|exact bX|skip
 rintro⟨H2,y2,x2,xc2⟩ ⟨hat2,hf2⟩;dsimp only at hat2 hf2 ⊢;rw[hK,hks];refine⟨fun c=>absurd c (by decide),fun _=>⟨⟨H2,y2,x2,xc2,y1,c1,p.kc⟩,?_⟩⟩;have sep3:∀z,z∈bt y1->z∉bt p.cy:=fun z h1 h2=>(hf1 z (hf.log.dom z h2) (sep2 z h2)).2 h1;have hat3:pF (OQ (lY s ks) ks) ⟨H2,y2,x2,xc2,y1,c1,p.kc⟩:=⟨hat2,hl1.frame fun z hz=>(hf2 z (hl1.dom z hz) (sep3 z hz)).1,fun z hz=>(hf2 z (hl1.dom z hz) (sep3 z hz)).2,hcp⟩
 have hfr:DA p.H (bt p.cy) (bt p.jy) ⟨H2,y2,x2,xc2,y1,c1,p.kc⟩:=fun z hz n1 n2=>by
  obtain⟨a1,a2⟩:=hf1 z hz n2;have a1:H1 z=p.H z:=a1;obtain⟨b1,b2⟩:=hf2 z (by show H1 z≠none;rw[a1];exact hz) n1;exact⟨b1.trans a1,b2,a2⟩
 and_intros<;>first|exact bW|exact hat3|exact hfr|(intro h_;revert h_)|exact bX|skip)
theorem Uy:au (Y Tryz.prog).G.X 89 Uw:=aU fL Ux ⟨yu,Uj,Qv,trivial⟩
theorem Be{f g:Nat->Int}:∀ {n:Nat},(∀k,k<n->f k=g k)->jW f n=jW g n
 |0,_=>rfl
 |n+1,h=>by
  simp only[jW];rw[Be fun k hk=>h k (by omega),h n (by omega)]
theorem WN{a b:Nat}(ha:a<2^56)(hb:b<256):dI .or .u64 (uw .u64 ((a:Int)*2^8)) b=((a*256+b:Nat):Int):=by
 have e1:uw .u64 ((a:Int)*2^8)=((a*256:Nat):Int):=by simp only[uw];omega
 rw[e1,JV _ _ (by omega) (by omega)];have:=Nat.two_pow_add_eq_or_of_lt (i:=8) (b:=b) hb a;rw[Nat.mul_comm a 256];show((2^8*a ||| b:Nat):Int)=((2^8*a+b:Nat):Int)
 rw[this]
theorem Kv{v:Nat}{len:Nat}(hl:len<=8)(hv:v<256^len):∀k,k<=len->jW (fun k=>Jh v len k) k=((v/256^(len-k):Nat):Int)
 |0,_=>by simp[jW,Nat.div_eq_of_lt hv]
 |k+1,hk=>by
  have ih:=Kv hl hv k (by omega);simp only[jW];rw[ih];have eb:Jh v len k=((v/256^(len-(k+1))%256:Nat):Int):=by
   have e2:(2:Int)^(8*(len-1-k))=((256^(len-(k+1)):Nat):Int):=by
    rw[Int.natCast_pow,show len-1-k=len-(k+1)by omega,Int.pow_mul];rfl
   simp only[Jh,uw];rw[e2];omega
  rw[eb];have e3:256^(len-k)=256^(len-(k+1))*256:=by rw[show len-k=len-(k+1)+1 by omega,Nat.pow_succ]
  have e4:v/256^(len-k)=v/256^(len-(k+1))/256:=by rw[e3,Nat.div_div_eq_div_mul]
  have hlt:v/256^(len-k)<2^56:=by
   have h1:v/256^(len-k)<256^k:=Nat.div_lt_of_lt_mul (by rw[<- Nat.pow_add,show len-k+k=len by omega];exact hv);have h2:256^k<=256^7:=Nat.pow_le_pow_right (by decide) (by omega);exact Nat.lt_of_lt_of_le h1 h2
  rw[WN hlt (Nat.mod_lt _ (by decide)),e4];congr 1;omega
theorem ZN{f:Nat->Int}{v r len:Nat}(hl:len<=8)(hv:v<256^len)(hf:∀k,k<len->f (r+k)=Jh v len k):gB f r len=v:=by
 unfold gB;rw[Be hf,Kv hl hv len (Nat.le_refl _)];simp
theorem OR{r len:Nat}{f:Nat->Int}(hl:len<=8)(hf:∀k,k<len->f (r+k)=0):gB f r len=0 :=
 ZN (v:=0) hl (Nat.pow_pos (by decide)) fun k hk=>by rw[hf k hk];simp[Jh,uw]
theorem Bf{f g:Nat->Int}:∀ {n:Nat},(∀k,k<n->f k=g k)->qQ f n=qQ g n
 |0,_=>rfl
 |n+1,h=>by
  simp only[qQ];rw[Bf fun k hk=>h k (by omega),h n (by omega)]
theorem DD{f g:Nat->Int}(h:∀k,4<=k->k<64->f k=g k):wo f=wo g:=by
 unfold wo;rw[Bf fun k hk=>h (4+k) (by omega) (by omega)]
theorem QM:wo (fun _=>0)≠0:=by decide +kernel
theorem take_zero{g:dG}{i:Nat}{f:Nat->Int}(hf:∀k,k<64->f k=0):gd g i f=false:=by
 unfold gd;have h1:wo f=wo fun _=>0:=DD fun k _ hk=>hf k hk;have h2:gB f 0 4=0:=OR (by omega) fun k hk=>hf _ (by omega);have:(wo f == gB f 0 4)=false:=by
  rw[h1,h2,beq_eq_false_iff_ne];exact QM
 rw[this];rfl
theorem OS{L:bQ}{d:bA}{k:Nat}(h:∀i,i<8->∀j,j<64->wq L d k i j=0):Tn L d k/\nH L d k=none/\∀i,i<=8->(lp L d k i).run=if i=0 then L.run else max L.run 1:=by
 have hgB:∀i,i<8->uw .i64 (gB (wq L d k i) 10 4)=0:=fun i hi=>by
  rw[OR (by omega) fun j hj=>h i hi _ (by omega)];rfl
 have key:∀i,i<=8->(0<i->(lp L d k i).ok=false/\(lp L d k i).g.gen=0)/\(lp L d k i).run=if i=0 then L.run else max L.run 1:=by
  intro i
  induction i with
  |zero=>exact fun _=>⟨fun h=>absurd h (Nat.lt_irrefl 0),rfl⟩
  |succ i ih =>
   intro hi;obtain⟨h1,h2⟩:=ih (by omega);obtain⟨R,hR⟩:∃R,R=lp L d k i:=⟨_,rfl⟩
   have hst:lp L d k (i+1)=rdStep R i (wq L d k i):=by rw[hR];rfl
   rw[<- hR]at h1 h2;have hz:=take_zero (g:=R.g) (i:=i) (h i (by omega));rw[hst];refine⟨fun _=>⟨by simp only[rdStep,hz,Bool.and_false],?_⟩,?_⟩
   ·simp only[rdStep,hz,Bool.and_false,Bool.not_false,Bool.true_and];by_cases h0:i=0
    ·rw[if_pos (by simpa using h0)]
    ·rw[if_neg (by simpa using h0),(h1 (by omega)).1];exact(h1 (by omega)).2
   ·simp only[rdStep,hgB i (by omega),h2];rw[if_neg (Nat.succ_ne_zero i)];split<;>omega
 refine⟨⟨fun i hi=>by rw[hgB i hi];omega,fun i hi _ hB=>?_⟩,?_,fun i hi=>(key i hi).2⟩
 ·rw[take_zero (h i hi)]at hB;cases hB
 ·unfold nH;rw[((key 8 (Nat.le_refl _)).1 (by omega)).2,if_pos (.inl (by omega))]
def qF(r:RecM):List Int:=J1 r.body.length r.pos++r.body
def eH(rs:List RecM):List Int:=rs.flatMap qF
structure Uz(r:RecM):Prop where
 len:1<=r.body.length/\r.body.length<=300
 pos:0<=r.pos/\r.pos<140737488355328
theorem WO(n:Nat)(p:Int):(J1 n p).length=8:=rfl
theorem v8(r:RecM):(qF r).length=8+r.body.length:=by simp[qF,WO]
theorem we:∀(rs:List RecM),(∀r∈rs,Uz r)->rs.length*9<=(eH rs).length
 |[],_=>Nat.zero_le _
 |r::rs,h=>by
  have ih:=we rs fun x hx=>h x (List.mem_cons_of_mem _ hx);have:=(h r List.mem_cons_self).len;show(rs.length+1)*9<=(qF r++eH rs).length;rw[List.length_append,v8];omega
theorem mw(rs:List RecM)(r:RecM):eH (rs++[r])=eH rs++qF r:=by simp[eH]
structure yJ(fr sg:Nat)(o:Option dG)(run:Int)(d:bA):Prop where
 sec:∀i,i<8->∀j,j<64->d.now (fr+i) j=match o with|none=>0|some g=>if cn i<g.buf.length then pV g i run j else 0
 rest:∀r,fr+8<=r->r<fr+sg*8->∀j,j<64->d.now r j=0
theorem yJ.far{fr sg k:Nat}{o:Option dG}{run:Int}{d:bA}(h:yJ fr sg o run d)(hk:1<=k)(hk2:k<sg){L:bQ}(hL:L.from_=fr):∀i,i<8->∀j,j<64->wq L d k i j=0:=fun i hi j hj=>by
 unfold wq;rw[hL];exact h.rest _ (by omega) (by omega) j hj
theorem FF{fr sg:Nat}{run:Int}{d:bA}(h:yJ fr sg none run d)(h3:3<=sg/\sg<=200)(hr:fr+sg*8<=d.n)(hn:d.n<100000):rJ fr sg d/\cU fr sg d=⟨fr,sg,[],1,1,true⟩:=by
 have hz:∀k,k<sg->∀(L:bQ),L.from_=fr->∀i,i<8->∀j,j<64->wq L d k i j=0:=fun k hk L hL i hi j hj=>by
  by_cases h0:k=0
  ·subst h0;unfold wq;rw[hL,Nat.zero_mul,Nat.add_zero];exact h.sec i hi j hj
  ·exact h.far (by omega) hk hL i hi j hj
 have key:∀k,k<=sg->pW fr sg d k=⟨fr,sg,[],1,1,true⟩:=by
  intro k
  induction k with
  |zero=>exact fun _=>rfl
  |succ k ih =>
   intro hk;have ih:=ih (by omega);obtain⟨_,e2,e3⟩:=OS (hz k (by omega) ⟨fr,sg,[],1,1,true⟩ rfl);show { pW fr sg d k with l:=(pW fr sg d k).l++(nH (pW fr sg d k) d k).toList,run:=(lp (pW fr sg d k) d k 8).run }=_;rw[ih,e2,e3 8 (Nat.le_refl _)];rfl
 refine⟨⟨h3,hr,hn,fun k hk=>?_,?_,?_⟩,?_⟩
 ·rw[key k (by omega)];exact(OS (hz k hk ⟨fr,sg,[],1,1,true⟩ rfl)).1
 ·rw[key sg (Nat.le_refl _)];exact Nat.zero_le _
 ·rw[key sg (Nat.le_refl _)];exact fun i hi=>absurd hi (Nat.not_lt_zero i)
 ·unfold cU;rw[key sg (Nat.le_refl _)];rfl
theorem QN{g g':dG}{e:List Int}{i:Nat}{run:Int}(h1:g'.gen=g.gen)(h2:g'.base=g.base)(hb:g'.buf=g.buf++e)(hs:cn (i+1)<=g.buf.length):∀j,j<64->qJ g i run j=qJ g' i run j:=fun j hj=>by
 have hst:cn (i+1)=cn i+kI i:=by unfold cn kI;split<;>omega
 have u1:tS g.buf.length i=kI i:=by simp only[tS];omega
 have u2:tS g'.buf.length i=kI i:=by rw[hb];simp only[tS,List.length_append];omega
 have hgl:∀k,k<kI i->gl g'.buf (cn i+k)=gl g.buf (cn i+k):=fun k hk=>by rw[hb,bO (by omega)]
 simp only[qJ,h1,h2,u1,u2];by_cases h0:i=0
 ·subst h0;have hr:kI 0=42:=rfl;have hs0:cn 0=0:=rfl;rw[hr,hs0]at hgl;simp only[hr,if_true]
  (repeat' split)<;>first|rfl|(exfalso;omega)|skip
  have:=hgl (j-22) (by assumption);rw[Nat.zero_add]at this;exact this.symm
 ·simp only[if_neg h0]
  (repeat' split)<;>first|rfl|(exfalso;omega)|skip
  exact(hgl _ (by assumption)).symm
theorem QO{g g':dG}{e:List Int}{i:Nat}{run:Int}(h1:g'.gen=g.gen)(h2:g'.base=g.base)(hb:g'.buf=g.buf++e)(hs:cn (i+1)<=g.buf.length):∀j,j<64->pV g i run j=pV g' i run j:=fun j hj=>by
 have h:=QN (run:=run) h1 h2 hb hs;unfold pV;rw[DD fun k _ hk=>h k hk,h j hj]
theorem tD{L:bQ}{g:dG}{was:Nat}{d:bA}(hg:(g.gen-1).toNat%L.av=0):∀n r j,j<64 ->
 (dr L g was d n).now r j=if ∃i,i<n/\r=L.from_+i/\tU was g.buf.length i=true then pV g (r-L.from_) L.run j else d.now r j
 |0,r,j,_=>by rw[if_neg (by rintro⟨i,hi,_⟩;omega)];rfl
 |n+1,r,j,hj=>by
  have ih:=tD (L:=L) (g:=g) (was:=was) (d:=d) hg n r j hj;have hsn:jY L g n=L.from_+n:=by unfold jY;rw[hg,Nat.zero_mul,Nat.add_zero]
  unfold dr;by_cases hc:tU was g.buf.length n=true
  ·rw[if_pos hc];show(if r=jY L g n/\j<64 then _ else _)=_;rw[hsn];by_cases hr:r=L.from_+n
   ·rw[if_pos ⟨hr,hj⟩,if_pos ⟨n,Nat.lt_succ_self n,hr,hc⟩,hr,Nat.add_sub_cancel_left]
   ·rw[if_neg (fun e=>hr e.1),ih];congr 1;rw[eq_iff_iff];constructor
    ·rintro⟨i,h1,h2,h3⟩;exact⟨i,by omega,h2,h3⟩
    ·rintro⟨i,h1,h2,h3⟩;by_cases e:i=n
     ·subst e;exact absurd h2 hr
     ·exact⟨i,by omega,h2,h3⟩
  ·rw[if_neg hc,ih];congr 1;rw[eq_iff_iff];constructor
   ·rintro⟨i,h1,h2,h3⟩;exact⟨i,by omega,h2,h3⟩
   ·rintro⟨i,h1,h2,h3⟩;by_cases e:i=n
    ·subst e;exact absurd h3 hc
    ·exact⟨i,by omega,h2,h3⟩
theorem Ip{rs:List RecM}{r:RecM}(h:ng rs)(h1:∀x∈rs,x.pos<r.pos)(h2:0<=r.pos/\r.pos<1000000000000):ng (rs++[r]):=by
 have hl:(rs++[r]).length=rs.length+1:=by simp
 refine⟨fun i j hij hj=>?_,fun i hi=>?_⟩
 ·rw[hl]at hj;rw[kM (by omega),kM hj,if_pos (by omega)];split
  ·exact h.lt i j hij (by assumption)
  ·exact h1 _ (by rw[bT (by omega)];exact List.getElem_mem _)
 ·rw[hl]at hi;rw[kM hi];split
  ·exact h.Bq i (by assumption)
  ·exact h2
def EG(base:Int):List RecM->List dG
 |[]=>[]
 |r::rs=>[⟨1,base,0,eH (r::rs),r::rs⟩]
theorem OT{base:Int}{rs:List RecM}(h:rs≠[]):EG base rs=[⟨1,base,0,eH rs,rs⟩]:=by
 cases rs with
 |nil=>exact absurd rfl h
 |cons r rs=>rfl
theorem UA(base:Int)(rs:List RecM):gh (EG base rs)=rs:=by
 cases rs<;>simp[EG,gh]
structure ia(L:bQ)(d:bA)(n:Nat)(rs:List RecM):Prop where
 av:3<=L.av/\L.av<=200
 room:L.from_+L.av*8<=d.n
 size:d.n<100000
 calls:d.calls<=n
 next:1<=L.next/\L.next<10000000000
 run:0<=L.run/\L.run<4294967296
 good:∀r∈rs,Uz r/\r.pos<L.next
 sort:ng rs
 fits:(eH rs).length<=378
 Ji:∃base,0<=base/\base<100000000000/\L.l=EG base rs
 dev:yJ L.from_ L.av L.l.head? L.run d
theorem ia.Xo{L:bQ}{d:bA}{n:Nat}{rs:List RecM}(h:ia L d n rs)(hn:n<900000000000):uX L d:=by
 obtain⟨base,b1,b2,hl⟩:=h.Ji;have h9:=we rs fun r hr=>(h.good r hr).1;have hf:=h.fits;have hc:=h.calls;have hx:=h.next
 have at_:∀i,i<L.l.length->gl L.l i=⟨1,base,0,eH rs,rs⟩:=fun i hi=>by
  rw[hl]at hi ⊢;cases rs with
  |nil=>exact absurd hi (Nat.not_lt_zero i)
  |cons r rs =>
   have:i=0:=by simpa[EG]using hi
   subst this;rfl
 refine⟨?_,h.av,h.room,h.size,by omega,by omega,fun i hi=>?_,fun i hi=>?_,fun i hi=>?_⟩
 ·rw[hl];cases rs<;>simp[EG]
 ·rw[at_ i hi];show(1:Int)<=1/\(1:Int)<100000000000;omega
 ·rw[at_ i hi];exact hf
 ·rw[at_ i hi];exact h9
theorem ia.flush{L:bQ}{d:bA}{n:Nat}{rs:List RecM}(h:ia L d n rs):ia L (gv d) (n+1) rs :=
 ⟨h.av,h.room,h.size,Nat.succ_le_succ h.calls,h.next,h.run,h.good,h.sort,h.fits,h.Ji,⟨h.dev.sec,h.dev.rest⟩⟩
theorem ia.need{L:bQ}{d:bA}{n:Nat}{rs:List RecM}(h:ia L d n rs){k:Nat}(hk:(eH rs).length+8+k<=378):qU L k=decide (rs=[]):=by
 obtain⟨base,b1,b2,hl⟩:=h.Ji;unfold qU kf;rw[hl];cases rs with
 |nil=>simp[EG]
 |cons r rs =>
  have:¬370<(eH (r::rs)).length+k:=by omega
  simp[EG,gl,this]
theorem ia.append{L:bQ}{d:bA}{n:Nat}{rs:List RecM}(h:ia L d n rs){body:List Int}(hb:1<=body.length/\body.length<=300)(hx:L.next<9999999999)(hfit:(eH rs).length+8+body.length<=378) :
 ia (mo L body) (oF L d body) (n+20) (rs++[⟨L.next,body⟩])/\(mo L body).next=L.next+1/\(mo L body).av=L.av/\(mo L body).from_=L.from_:=by
 obtain⟨base,b1,b2,hl⟩:=h.Ji;have hneed:=h.need hfit;have hsegs:=h.av;have hroom:=h.room;have hnx:=h.next
 obtain⟨r,hr⟩:∃r:RecM,r=⟨L.next,body⟩:=⟨_,rfl⟩
 have hrb:qF r=J1 body.length L.next++body:=by rw[hr];rfl
 have hgr:Uz r:=by rw[hr];exact⟨hb,by show 0<=L.next;omega,by show L.next<140737488355328;omega⟩
 have hbl:(eH (rs++[r])).length=(eH rs).length+8+body.length:=by
  rw[mw,List.length_append,v8,hr];show(eH rs).length+(8+body.length)=_;omega
 obtain⟨L1,hL1⟩:∃L1,L1=dJ L body.length:=⟨_,rfl⟩
 obtain⟨d1,hd1⟩:∃d1,d1=kO L d body.length:=⟨_,rfl⟩
 have key:∃base',0<=base'/\base'<100000000000/\L1.l=[⟨1,base',0,eH rs,rs⟩]/\L1.from_=L.from_/\L1.av=L.av/\L1.next=L.next/\L1.run=L.run/\L1.fresh=L.fresh/\d1.n=d.n/\d1.calls<=d.calls+2 /\
  (∀i,i<8->∀j,j<64->(rs=[]/\i=0)\/d1.now (L.from_+i) j=if cn i<(eH rs).length then pV ⟨1,base',0,eH rs,rs⟩ i L.run j else 0)/\∀q,L.from_+8<=q->∀j,d1.now q j=d.now q j:=by
  by_cases he:rs=[]
  ·subst he;have hn:qU L body.length=true:=by rw[hneed];rfl
   have e1:L1=ji L:=by rw[hL1];exact if_pos hn
   have e2:d1=tj L d:=by rw[hd1];exact if_pos hn
   have e3:L.l=[]:=by rw[hl];rfl
   have e4:bn L=⟨1,L.next,0,[],[]⟩:=by unfold bn;rw[e3];rfl
   have e5:jY L (bn L) 0=L.from_:=by rw[e4];simp[jY]
   refine⟨L.next,by omega,by omega,?_,by rw[e1];rfl,by rw[e1];rfl,by rw[e1];rfl,by rw[e1];rfl,by rw[e1];rfl,by rw[e2];rfl,by rw[e2];exact Nat.le_refl _,fun i hi j hj=>?_,fun q hq j=>?_⟩
   ·rw[e1];show tT L++[bn L]=_;rw[show tT L=[]by unfold tT;rw[e3];rfl,e4];rfl
   ·by_cases h0:i=0
    ·exact .inl ⟨rfl,h0⟩
    ·right;rw[e2,if_neg (by simp[eH])];show(if L.from_+i=jY L (bn L) 0/\j<64 then _ else d.now (L.from_+i) j)=0;rw[e5,if_neg (by omega),h.dev.sec i hi j hj,e3];rfl
   ·rw[e2];show(if q=jY L (bn L) 0/\j<64 then _ else d.now q j)=_;rw[e5,if_neg (by omega)]
  ·have hn:qU L body.length=false:=by rw[hneed];exact decide_eq_false he
   have e1:L1=L:=by rw[hL1];exact if_neg (by rw[hn];decide)
   have e2:d1=d:=by rw[hd1];exact if_neg (by rw[hn];decide)
   rw[OT he]at hl;refine⟨base,b1,b2,by rw[e1,hl],by rw[e1],by rw[e1],by rw[e1],by rw[e1],by rw[e1],by rw[e2],by rw[e2];omega,fun i hi j hj=>?_,fun q hq j=>by rw[e2]⟩;right;rw[e2,h.dev.sec i hi j hj,hl];rfl
 obtain⟨base',c1,c2,k1,k2,k3,k4,k5,k6,k7,k8,k9,k10⟩:=key;have hA:mo L body=J3 L1 body:=by rw[hL1];rfl
 have hlast:kf L1=⟨1,base',0,eH rs,rs⟩:=by unfold kf;rw[k1];rfl
 obtain⟨g',hg'⟩:∃g':dG,g'=⟨1,base',0,eH (rs++[r]),rs++[r]⟩:=⟨_,rfl⟩
 have hbuf:rE ⟨1,base',0,eH rs,rs⟩ L.next body=eH (rs++[r]):=by
  rw[mw,hrb];simp[rE,List.append_assoc]
 have hl2:(mo L body).l=[g']:=by
  rw[hA];show L1.l.set (L1.l.length-1) (Md (kf L1) L1.next body)=_;rw[hlast,k1,k4];simp only[Md,hbuf,hg',hr];rfl
 have hnx2:(mo L body).next=L.next+1:=by rw[hA];show L1.next+1=_;rw[k4]
 have hfr2:(mo L body).from_=L.from_:=by rw[hA];exact k2
 have hsg2:(mo L body).av=L.av:=by rw[hA];exact k3
 have hrn2:(mo L body).run=L.run:=by rw[hA];exact k5
 obtain⟨gw,hgw⟩:∃gw,gw=J2 (kf L1) L1.next body:=⟨_,rfl⟩
 have hgw1:gw=⟨1,base',0,eH (rs++[r]),rs⟩:=by rw[hgw,hlast,k4];simp only[J2,hbuf]
 have hsec:∀i j,pV gw i L.run j=pV g' i L.run j:=fun i j=>by rw[hgw1,hg'];rfl
 have hD2:qV L1 d1 body=dr L1 gw (eH rs).length d1 8:=by unfold qV;rw[<- hgw,hlast]
 have hmod:(gw.gen-1).toNat%L1.av=0:=by rw[hgw1];simp
 obtain⟨w1,w2⟩:=tn L1 gw (eH rs).length d1 8;have hnow:∀q j,(oF L d body).now q j=(qV L1 d1 body).now q j:=fun q j=>by
  unfold oF;rw[<- hL1,<- hd1];split<;>rfl
 have hdn:(oF L d body).n=d.n/\(oF L d body).calls<=d.calls+11:=by
  unfold oF;rw[<- hL1,<- hd1,hD2];split
  ·simp only[gv];omega
  ·omega
 have hgl:gw.buf.length=(eH rs).length+8+body.length:=by rw[hgw1];exact hbl
 refine⟨⟨by rw[hsg2];exact hsegs,by rw[hfr2,hsg2,hdn.1];exact hroom,by rw[hdn.1];exact h.size,by have:=h.calls;omega,by rw[hnx2];omega,by rw[hrn2];exact h.run,?_,?_,?_,?_,?_⟩,hnx2,hsg2,hfr2⟩
 ·rw[hnx2,<- hr];intro x hx;rcases List.mem_append.1 hx with hx|hx
  ·have:=h.good x hx;exact⟨this.1,by omega⟩
  ·have:x=r:=by simpa using hx
   rw[this];refine⟨hgr,?_⟩;rw[hr];show L.next<L.next+1;omega
 ·rw[<- hr];refine Ip h.sort (fun x hx=>?_) (by rw[hr];show 0<=L.next/\L.next<1000000000000;omega);rw[hr];exact(h.good x hx).2
 ·rw[<- hr,hbl];exact hfit
 ·refine⟨base',c1,c2,?_⟩;rw[hl2,<- hr,OT (by simp),hg']
 ·rw[hl2,hfr2,hsg2,hrn2];refine⟨fun i hi j hj=>?_,fun q hq hq2 j hj=>?_⟩
  ·rw[hnow,hD2,tD hmod 8 _ j hj,k2,k5,Nat.add_sub_cancel_left,hsec];have hg'l:g'.buf.length=(eH rs).length+8+body.length:=by rw[hg'];exact hbl
   show _=if cn i<g'.buf.length then pV g' i L.run j else 0;by_cases hs:cn i<g'.buf.length
   ·rw[if_pos hs];by_cases hc:(eH rs).length<cn (i+1)
    ·rw[if_pos ⟨i,hi,rfl,by simp only[tU,Bool.and_eq_true,decide_eq_true_eq];exact⟨hc,by rw[hgl,<- hg'l];exact hs⟩⟩]
    ·rw[if_neg]
     ·have hlt:cn i<(eH rs).length:=by unfold cn at *;omega
      rcases k9 i hi j hj with⟨e,e0⟩|e
      ·subst e;simp[eH]at hlt
      ·rw[e,if_pos hlt];exact QO (e:=qF r) (by rw[hg']) (by rw[hg']) (by rw[hg'];exact mw rs r) (show cn (i+1)<=(eH rs).length by omega) j hj
     ·rintro⟨i',_,e,hcc⟩;have:i'=i:=by omega
      subst this;simp only[tU,Bool.and_eq_true,decide_eq_true_eq]at hcc;exact hc hcc.1
   ·rw[if_neg hs,if_neg]
    ·rcases k9 i hi j hj with⟨e,e0⟩|e
     ·subst e0;exact absurd (show cn 0<g'.buf.length by rw[hg'l];show 0<_;omega) hs
     ·rw[e,if_neg (by omega)]
    ·rintro⟨i',_,e,hcc⟩;have:i'=i:=by omega
     subst this;simp only[tU,Bool.and_eq_true,decide_eq_true_eq]at hcc;omega
  ·rw[hnow,hD2,tD hmod 8 _ j hj,k2,if_neg (by rintro⟨i',_,e,_⟩;omega),k10 q hq];exact h.dev.rest q hq hq2 j hj
theorem oJ{rs:List RecM}:ng rs↔rs.Pairwise (fun a b=>a.pos<b.pos)/\∀r∈rs,0<=r.pos/\r.pos<1000000000000:=by
 constructor
 ·rintro⟨h1,h2⟩;refine⟨?_,fun r hr=>?_⟩
  ·rw[List.pairwise_iff_getElem];intro i j hi hj hij;have:=h1 i j hij hj;rwa[bT hi,bT hj]at this
  ·obtain⟨i,hi,rfl⟩:=List.getElem_of_mem hr;have:=h2 i hi;rwa[bT hi]at this
 ·rintro⟨h1,h2⟩;refine⟨fun i j hij hj=>?_,fun i hi=>?_⟩
  ·rw[bT (show i<rs.length by omega),bT hj];exact List.pairwise_iff_getElem.1 h1 i j (by omega) hj hij
  ·rw[bT hi];exact h2 _ (List.getElem_mem _)
theorem Kw:∀ {rs:List RecM} {r:RecM},rs.Pairwise (fun a b=>a.pos<b.pos)->r∈rs->wF rs r.pos=some r.body
 |[],_,_,h=>by cases h
 |a::rs,r,hp,h=>by
  rw[List.pairwise_cons]at hp;by_cases e:a.pos=r.pos
  ·have:a=r:=by
    rcases List.mem_cons.1 h with h|h
    ·exact h.symm
    ·have:=hp.1 r h;omega
   subst this;simp[wF]
  ·have hm:r∈rs:=by
    rcases List.mem_cons.1 h with h|h
    ·exact absurd (by rw[h]) e
    ·exact h
   have:=Kw hp.2 hm;unfold wF at this ⊢;rw[List.find?_cons];simp only[e,decide_false];exact this
theorem Nc{rs:List RecM}{p:Int}(h:∀r∈rs,r.pos≠p):wF rs p=none:=by
 unfold wF;rw[Option.map_eq_none_iff,List.find?_eq_none];intro r hr;simpa using h r hr
theorem Kx:∀ {l:List dG} {r:RecM},(gh l).Pairwise (fun a b=>a.pos<b.pos)->r∈gh l->gp l r.pos=some r.body
 |[],_,_,h=>by cases h
 |g::l,r,hp,h=>by
  have e:gh (g::l)=g.aP++gh l:=rfl;rw[e]at hp h;rw[List.pairwise_append]at hp;simp only[gp,List.findSome?_cons];by_cases hg:r∈g.aP
  ·rw[Kw hp.1 hg]
  ·have hm:r∈gh l:=(List.mem_append.1 h).resolve_left hg;rw[Nc fun x hx=>by have:=hp.2.2 x hx r hm;omega];exact Kx hp.2.1 hm
theorem FG:∀(l:List dG) (next:Int),jf l next=match gh l with | []=>next|r::_=>r.pos
 |[],_=>rfl
 |g::l,next=>by
  have e:gh (g::l)=g.aP++gh l:=rfl;rw[e];cases hr:g.aP with
  |nil =>
   rw[List.nil_append];have:=FG l next
   unfold jf at this ⊢;rw[List.find?_cons,hr];exact this
  |cons r rs =>
   unfold jf;rw[List.find?_cons,hr];simp[gl,hr]
structure yK(L:bQ)(rs:List RecM):Prop where
 all:gh L.l=rs
 yw:L.l.length<1000
 sort:ng rs
 body:∀r∈rs,1<=r.body.length/\r.body.length<=300
 seg:∀i,i<L.l.length->(gl L.l i).aP.length<=400
theorem ia.rd{L:bQ}{d:bA}{n:Nat}{rs:List RecM}(h:ia L d n rs):yK L rs:=by
 obtain⟨base,_,_,hl⟩:=h.Ji;have h9:=we rs fun r hr=>(h.good r hr).1;have hf:=h.fits;refine⟨by rw[hl,UA],?_,h.sort,fun r hr=>(h.good r hr).1.len,fun i hi=>?_⟩
 ·rw[hl];cases rs<;>simp[EG]
 ·rw[hl]at hi ⊢;cases rs with
  |nil=>exact absurd hi (Nat.not_lt_zero i)
  |cons r rs =>
   have:i=0:=by simpa[EG]using hi
   subst this;show(r::rs).length<=400;omega
theorem yK.first{L:bQ}{rs:List RecM}(h:yK L rs){r:RecM}(hr:r∈rs):cG L<=r.pos:=by
 unfold cG;rw[FG,h.all];have hp:=(oJ.1 h.sort).1;cases rs with
 |nil=>cases hr
 |cons a rs =>
  show a.pos<=r.pos;rcases List.mem_cons.1 hr with rfl|hr
  ·exact Int.le_refl _
  ·exact Int.le_of_lt ((List.pairwise_cons.1 hp).1 r hr)
def yL(get:ByteArray->Option aB)(k:ByteArray)(r:Option aB):ByteArray->Option aB:=fun k'=>if k'=k then r else get k'
structure sB(m:ou)(rs:List RecM)(get:ByteArray->Option aB):Prop where
 rd:yK m.L rs
 pos:∀e∈m.l,∃x,get e.1=some x/\x.key=e.1/\gf x=true/\(⟨e.2,aJ (some x)⟩:RecM)∈rs
 all:∀k,get k≠none->k∈m.l.map Prod.fst
theorem yK.av{L:bQ}{rs:List RecM}(h:yK L rs)(i:Nat)(hi:i<L.l.length):ng (gl L.l i).aP/\(gl L.l i).aP.length<=400/\∀k,k<(gl L.l i).aP.length->1<=(gl (gl L.l i).aP k).body.length/\(gl (gl L.l i).aP k).body.length<=1000:=by
 obtain⟨hs1,hs2⟩:=oJ.1 h.sort;refine⟨?_,h.seg i hi,fun k hk=>?_⟩
 ·have hm:gl L.l i∈L.l:=by rw[bT hi];exact List.getElem_mem _
  have hsub:(gl L.l i).aP.Sublist rs:=by rw[<- h.all];exact uW (f:=fun g:dG=>g.aP) hm
  exact oJ.2 ⟨hs1.sublist hsub,fun r hr=>hs2 r (hsub.subset hr)⟩
 ·obtain⟨j,hj,e⟩:=HU hi hk;rw[h.all]at hj e;have:=h.body (gl rs j) (by rw[bT hj];exact List.getElem_mem _);rw[e]at this;omega
theorem sB.aag{m:ou}{rs:List RecM}{get:ByteArray->Option aB}(h:sB m rs get):Qt m:=⟨h.rd.yw,h.rd.av,fun e he=>by
 obtain⟨x,_,_,_,hx⟩:=h.pos e he;exact(oJ.1 h.rd.sort).2 _ hx⟩
theorem sB.gO{m:ou}{rs:List RecM}{get:ByteArray->Option aB}(h:sB m rs get)(k:ByteArray):Dk m k (get k):=by
 have hs:=(oJ.1 h.rd.sort).1;cases hg:get k with
 |none =>
  left;intro hm;obtain⟨e,he,rfl⟩:=List.mem_map.1 hm;obtain⟨x,h1,_⟩:=h.pos e he;rw[hg]at h1;cases h1
 |some x =>
  obtain⟨e,he,rfl⟩:=List.mem_map.1 (h.all k (by rw[hg];simp));obtain⟨x',h1,_,h3,h4⟩:=h.pos e he;rw[hg]at h1;cases h1;rw[<- h.rd.all]at hs h4;exact⟨e.2,he,Kx hs h4,h3⟩
theorem sB.keep{m:ou}{rs:List RecM}{get:ByteArray->Option aB}(h:sB m rs get){L':bQ}{rs':List RecM}(hL:yK L' rs')(hs:∀r∈rs,r∈rs'):(m.l.filter fun e=>decide (cG L'<=e.2))=m.l:=by
 rw[List.filter_eq_self];intro e he;obtain⟨x,_,_,_,hx⟩:=h.pos e he;simpa using hL.first (hs _ hx)
theorem wg{l:List (ByteArray×Int)}{k:ByteArray}{e:ByteArray×Int}:e∈mE l k↔e∈l/\e.1≠k:=by
 unfold mE;rw[List.mem_filter];simp
theorem sB.put{m:ou}{rs:List RecM}{get:ByteArray->Option aB}(h:sB m rs get){L':bQ}{d':bA}{p:Int}{x:aB}(hx:gf x=true)(hL:yK L' (rs++[⟨p,aJ (some x)⟩])) :
 sB ⟨L',d',EF m.l x.key p⟩ (rs++[⟨p,aJ (some x)⟩]) (yL get x.key (some x)):=by
 refine⟨hL,fun e he=>?_,fun k hk=>?_⟩
 ·rcases List.mem_cons.1 he with rfl|he
  ·exact⟨x,if_pos rfl,rfl,hx,by simp⟩
  ·obtain⟨he,hne⟩:=wg.1 he;obtain⟨x',h1,h2,h3,h4⟩:=h.pos e he;exact⟨x',by unfold yL;rw[if_neg hne];exact h1,h2,h3,List.mem_append_left _ h4⟩
 ·by_cases e:k=x.key
  ·subst e;exact List.mem_map.2 ⟨(x.key,p),List.mem_cons_self,rfl⟩
  ·have hk:get k≠none:=by unfold yL at hk;rwa[if_neg e]at hk
   obtain⟨q,hq,rfl⟩:=List.mem_map.1 (h.all k hk);exact List.mem_map.2 ⟨q,List.mem_cons_of_mem _ (wg.2 ⟨hq,e⟩),rfl⟩
theorem sB.drop{m:ou}{rs:List RecM}{get:ByteArray->Option aB}(h:sB m rs get){L':bQ}{d':bA}{k0:ByteArray}{r:RecM}(hL:yK L' (rs++[r])) :
 sB ⟨L',d',mE m.l k0⟩ (rs++[r]) (yL get k0 none):=by
 refine⟨hL,fun e he=>?_,fun k hk=>?_⟩
 ·obtain⟨he,hne⟩:=wg.1 he;obtain⟨x',h1,h2,h3,h4⟩:=h.pos e he;exact⟨x',by unfold yL;rw[if_neg hne];exact h1,h2,h3,List.mem_append_left _ h4⟩
 ·by_cases e:k=k0
  ·subst e;exact absurd (if_pos rfl) hk
  ·have hk:get k≠none:=by unfold yL at hk;rwa[if_neg e]at hk
   obtain⟨q,hq,rfl⟩:=List.mem_map.1 (h.all k hk);exact List.mem_map.2 ⟨q,wg.2 ⟨hq,e⟩,rfl⟩
structure qX(m:ou)(n:Nat)(rs:List RecM)(get:ByteArray->Option aB):Prop where
 log:ia m.L m.d n rs
 has:sB m rs get
 yw:m.l.length<=rs.length
theorem ia.len{L:bQ}{d:bA}{n:Nat}{rs:List RecM}(h:ia L d n rs):rs.length<=42:=by
 have h9:=we rs fun r hr=>(h.good r hr).1;have:=h.fits;omega
theorem qX.ok{m:ou}{n k:Nat}{rs:List RecM}{get:ByteArray->Option aB}(h:qX m n rs get)(hn:n<900000000000)(hk:(eH rs).length+8+k<=378):uo m k:=by
 exact⟨h.log.Xo hn,by have:=h.yw;have:=h.log.len;omega⟩
theorem qX.add{m:ou}{n:Nat}{rs:List RecM}{get:ByteArray->Option aB}(h:qX m n rs get){body:List Int}(hb:1<=body.length/\body.length<=300)(hx:m.L.next<9999999999)(hfit:(eH rs).length+8+body.length<=378) :
 ia (iF m body).L (iF m body).d (n+20) (rs++[⟨m.L.next,body⟩])/\(iF m body).L.next=m.L.next+1/\(iF m body).l=m.l/\(iF m body).L.av=m.L.av/\(iF m body).L.from_=m.L.from_:=by
 obtain⟨h1,h2,h3,h4⟩:=h.log.append hb hx hfit;exact⟨h1,h2,h.has.keep h1.rd fun r hr=>List.mem_append_left _ hr,h3,h4⟩
theorem qX.put{m:ou}{n:Nat}{rs:List RecM}{get:ByteArray->Option aB}(h:qX m n rs get){x:aB}(hx:kg x=true)(hn:m.L.next<9999999999)(hfit:(eH rs).length+8+(aJ (some x)).length<=378) :
 qX (nX m x) (n+20) (rs++[⟨m.L.next,aJ (some x)⟩]) (yL get x.key (some x))/\(nX m x).L.next=m.L.next+1/\(nX m x).L.av=m.L.av/\(nX m x).L.from_=m.L.from_:=by
 have hm:gf x=true:=by unfold kg at hx;simp only[Bool.and_eq_true]at hx;exact hx.1
 obtain⟨b1,b2⟩:=mu (o:=some x) fun z e=>by cases e;exact hm
 obtain⟨h1,h2,h3,h4,h5⟩:=h.add ⟨b1,by omega⟩ hn hfit;have hF:nX m x=⟨(iF m (aJ (some x))).L,(iF m (aJ (some x))).d,EF m.l x.key m.L.next⟩:=by
  unfold nX;rw[if_pos hx,h3]
 rw[hF];refine⟨⟨h1,h.has.put hm h1.rd,?_⟩,h2,h4,h5⟩;have:=Kl m.l x.key m.L.next
 have:=h.yw;show(EF m.l x.key m.L.next).length<=_;rw[List.length_append,List.length_singleton];omega
theorem qX.drop{m:ou}{n:Nat}{rs:List RecM}{get:ByteArray->Option aB}(h:qX m n rs get){k:ByteArray}(hk:cN k=true)(hn:m.L.next<9999999999)(hfit:(eH rs).length+8+(aJ (some (iO k))).length<=378) :
 qX (oH m k) (n+20) (rs++[⟨m.L.next,aJ (some (iO k))⟩]) (yL get k none)/\(oH m k).L.next=m.L.next+1/\(oH m k).L.av=m.L.av/\(oH m k).L.from_=m.L.from_:=by
 obtain⟨b1,b2⟩:=mu (o:=some (iO k)) fun z e=>by cases e;exact Ad hk
 obtain⟨h1,h2,h3,h4,h5⟩:=h.add ⟨b1,by omega⟩ hn hfit;have hF:oH m k=⟨(iF m (aJ (some (iO k)))).L,(iF m (aJ (some (iO k)))).d,mE m.l k⟩:=by
  unfold oH;rw[h3]
 rw[hF];refine⟨⟨h1,h.has.drop h1.rd,?_⟩,h2,h4,h5⟩;have:=Fw m.l k;have:=h.yw;show(mE m.l k).length<=_;rw[List.length_append,List.length_singleton];omega
def newF(fr sg:Nat)(d:bA):ou:=⟨⟨fr,sg,[],1,1,true⟩,d,[]⟩
theorem qX.new{fr sg:Nat}{d:bA}{n:Nat}{run:Int}(h3:3<=sg/\sg<=200)(hr:fr+sg*8<=d.n)(hn:d.n<100000)(hc:d.calls<=n)(hd:yJ fr sg none run d):qX (newF fr sg d) n [] fun _=>none:=by
 have hl:ia (newF fr sg d).L (newF fr sg d).d n []:=⟨h3,hr,hn,hc,by show(1:Int)<=1/\(1:Int)<10000000000;omega,by show(0:Int)<=1/\(1:Int)<4294967296;omega,fun r hr=>by(cases hr),⟨fun i j _ hj=>absurd hj (Nat.not_lt_zero j),fun i hi=>absurd hi (Nat.not_lt_zero i)⟩,Nat.zero_le _,⟨0,by omega,by omega,rfl⟩,⟨hd.sec,hd.rest⟩⟩
 exact⟨hl,⟨hl.rd,fun e he=>(by cases he),fun k hk=>absurd rfl hk⟩,Nat.le_refl _⟩
end Go.Proofs.YtfjgoonelcaggaaGreat
namespace Go.Proofs
open Go.Shelf
def Tryz.Ky:Go.Shelf.Ren:=⟨fun|190=>227|125=>189|258=>253|128=>224|129=>225|302=>266|303=>267|304=>268|305=>269|306=>270|307=>271|308=>272|309=>273|310=>274|333=>279|329=>240|330=>241|334=>280|335=>281|336=>282|344=>284|n=>n,fun|31=>46|9=>9|3=>3|46=>108|0=>0|51=>299|53=>64|4=>4|183=>316|182=>315|131=>321|5=>5|218=>336|222=>340|228=>354|229=>248|n=>n,fun|n=>n⟩
theorem Tryz.OU:Go.Proofs.Lays.n190 Tryz.prog Tryz.Ky:={
 mixed:=by kernel_rfl
 f125:=Tryz.func189.trans (congrArg some (by kernel_rfl))
 f128:=Tryz.func224.trans (congrArg some (by kernel_rfl))
 f129:=Tryz.func225.trans (congrArg some (by kernel_rfl))
 f190:=Tryz.func227.trans (congrArg some (by kernel_rfl))
 f258:=Tryz.func253.trans (congrArg some (by kernel_rfl))
 f302:=Tryz.func266.trans (congrArg some (by kernel_rfl))
 f303:=Tryz.func267.trans (congrArg some (by kernel_rfl))
 f304:=Tryz.func268.trans (congrArg some (by kernel_rfl))
 f305:=Tryz.func269.trans (congrArg some (by kernel_rfl))
 f306:=Tryz.func270.trans (congrArg some (by kernel_rfl))
 f307:=Tryz.func271.trans (congrArg some (by kernel_rfl))
 f308:=Tryz.func272.trans (congrArg some (by kernel_rfl))
 f309:=Tryz.func273.trans (congrArg some (by kernel_rfl))
 f310:=Tryz.func274.trans (congrArg some (by kernel_rfl))
 f329:=Tryz.func240.trans (congrArg some (by kernel_rfl))
 f330:=Tryz.func241.trans (congrArg some (by kernel_rfl))
 f333:=Tryz.func279.trans (congrArg some (by kernel_rfl))
 f334:=Tryz.func280.trans (congrArg some (by kernel_rfl))
 f335:=Tryz.func281.trans (congrArg some (by kernel_rfl))
 f336:=Tryz.func282.trans (congrArg some (by kernel_rfl))
 f344:=Tryz.func284.trans (congrArg some (by kernel_rfl))
 t0:=Tryz.underlying0
 a0:=Tryz.isAgg0
 z0:=Tryz.sizeOf0
 v0:=Tryz.zeroValue0
 t3:=Tryz.underlying3
 a3:=Tryz.isAgg3
 z3:=Tryz.sizeOf3
 v3:=Tryz.zeroValue3
 t4:=Tryz.underlying4
 a4:=Tryz.isAgg4
 z4:=Tryz.sizeOf4
 v4:=Tryz.zeroValue4
 t5:=Tryz.underlying5
 a5:=Tryz.isAgg5
 z5:=Tryz.sizeOf5
 v5:=Tryz.zeroValue5
 t9:=Tryz.underlying9
 a9:=Tryz.isAgg9
 z9:=Tryz.sizeOf9
 v9:=Tryz.zeroValue9
 t31:=Tryz.underlying46
 a31:=Tryz.isAgg46
 z31:=Tryz.sizeOf46
 v31:=Tryz.zeroValue46
 t46:=Tryz.underlying108
 a46:=Tryz.isAgg108
 z46:=Tryz.sizeOf108
 v46:=Tryz.zeroValue108
 t51:=Tryz.underlying299
 a51:=Tryz.isAgg299
 z51:=Tryz.sizeOf299
 v51:=Tryz.zeroValue299
 t53:=Tryz.underlying64
 a53:=Tryz.isAgg64
 z53:=Tryz.sizeOf64
 v53:=Tryz.zeroValue64
 t131:=Tryz.underlying321
 a131:=Tryz.isAgg321
 z131:=Tryz.sizeOf321
 v131:=Tryz.zeroValue321
 t182:=Tryz.underlying315
 a182:=Tryz.isAgg315
 z182:=Tryz.sizeOf315
 v182:=Tryz.zeroValue315
 t183:=Tryz.underlying316
 a183:=Tryz.isAgg316
 z183:=Tryz.sizeOf316
 v183:=Tryz.zeroValue316
 t218:=Tryz.underlying336
 a218:=Tryz.isAgg336
 z218:=Tryz.sizeOf336
 v218:=Tryz.zeroValue336
 t222:=Tryz.underlying340
 a222:=Tryz.isAgg340
 z222:=Tryz.sizeOf340
 v222:=Tryz.zeroValue340
 t228:=Tryz.underlying354
 a228:=Tryz.isAgg354
 z228:=Tryz.sizeOf354
 v228:=Tryz.zeroValue354
 t229:=Tryz.underlying248
 a229:=Tryz.isAgg248
 z229:=Tryz.sizeOf248
 v229:=Tryz.zeroValue248 }
open Go.Sort Go.RowKit in
theorem Tryz.slices_Sort_string(blk off cap:Nat)(ss:List (List UInt8))(w:World)(hH:Holds encStr w blk off ss.toArray)(hblk:blk<w.heap.size)(hsz:ss.length<4611686018427387904) :
 Calls Tryz.prog 227 #[.slice (some ⟨blk,off,none⟩) ss.length cap] w fun e w' =>
  e = .returned (.tuple #[])/\∃n os,w'=grow (putRow encStr (Sort.ahead w n) blk off (ss.mergeSort fun x y=>decide (x<=y)).toArray) os:=Any.slices_Sort_string Tryz.OU blk off cap ss w hH hblk hsz
open Go.RowKit Go.Sort in
theorem Tryz.slices_Sort_string_none(p:Option Addr)(cap:Nat)(w:World) :
 Calls Tryz.prog 227 #[.slice p 0 cap] w fun e w'=>e = .returned (.tuple #[])/\w'=w:=Any.slices_Sort_string_none Tryz.OU p cap w
end Go.Proofs
namespace Go.Sx
section
open Go.Sort
structure OV(β:Type) where
 l:List β
 cap:Nat
def oK{β:Type}[Inhabited β](enc:β->Value)(l:List β):Nat->Nat->Value:=aa (fun x=>[enc x]) l
def yM{β:Type}[Inhabited β](ty:TypeId)(k:CK)(enc:β->Value)(srt:List β->List β):cE where
 α:=OV β
 β:=Unit
 m:=1
 m':=1
 pre:=fun a=>a.l.length<100000
 args:=fun a=>[.a (.slc 0 0 1 a.l.length a.cap)]
 hp:=fun a=>[(0,.arr ty [k] a.l.length (oK enc a.l))]
 ro:=fun _=>[]
 post:=fun _ _=>True
 res:=fun _ _=>.mG []
 cZ:=fun a _=>[(0,.arr ty [k] a.l.length (oK enc (srt a.l)))]
theorem Bg{β:Type}[Inhabited β]{enc:β->Value}{l:List β}{i:Nat}:oK enc l i 0=enc (gl l i):=rfl
theorem Iq{β:Type}[Inhabited β]{k:CK}{enc:β->Value}{ty:TypeId}{l:List β}{ρ:Env}{p:Place}{w:World}(h:(Chunk.arr ty [k] l.length (oK enc l)).Sat ρ p w)(h0:l≠[]) :
 ∃vs ty' fr,w.heap[p.blk]? = some (.cells vs ty' fr)/\p.off+p.N<=vs.size/\l.length<=p.N/\sF p.off (p.off+p.N) fr/\(∀b,p.fp b↔b=p.blk)/\(∀i,i<l.length->vs[p.off+i]? = some (enc (gl l i))):=by
 rcases h with⟨hn,_⟩ | ⟨vs,ty',fr,hb,h1,h2,h3,h4,h5⟩
 ·exact absurd (List.eq_nil_of_length_eq_zero hn) h0
 ·simp only[List.length_singleton,Nat.mul_one]at h1 h3 h5;refine⟨vs,ty',fr,hb,h1,h2,h3,h4,fun i hi=>?_⟩;obtain⟨g1,_⟩:=h5 i hi 0 k rfl;exact g1
theorem UB{β γ:Type}[Inhabited β][Inhabited γ]{X:Cx}{f:Nat}{ty:TypeId}{k:CK}{enc:β->Value}{enc2:γ->Value}{to:β->γ}{srt:List β->List β}{srt2:List γ->List γ}
 (hto:∀x,enc2 (to x)=enc x) (hsrt:∀l,(srt l).map to=srt2 (l.map to)) (hlen:∀l,(srt l).length=l.length) (hin:∀l x,x∈srt l->x∈l)
 (hcall:∀(blk off cap:Nat) (l:List γ) (w:World),Holds enc2 w blk off l.toArray->blk<w.heap.size->l.length<4611686018427387904 ->
  Calls X.P f #[.slice (some ⟨blk,off,none⟩) l.length cap] w fun e w'=>e = .returned (.tuple #[])/\∃n os,w'=grow (putRow enc2 (Sort.ahead w n) blk off (srt2 l).toArray) os)
 (hnone:∀(p:Option Addr) (cap:Nat) (w:World),Calls X.P f #[.slice p 0 cap] w fun e w'=>e = .returned (.tuple #[])/\w'=w) :
 l8 X (yM ty k enc srt) f:=by
 intro a hpre M ρ w vs hn hh hargs;obtain⟨l,cap⟩:=a;obtain⟨v,vs',rfl,hv,rfl⟩:=hargs;obtain⟨hT,hlc,hcm,hv⟩:=hv;have he:=hh.gO ⟨0,true,.arr ty [k] l.length (oK enc l)⟩ (by simp[vP,yM]);have hsat:=he.ch;simp only at hsat hlc hcm hv hT;by_cases h0:l=[]
 ·subst h0;have hs:srt []=[]:=List.eq_nil_of_length_eq_zero (hlen []);have hcalls:Calls X.P f #[v] w fun e w'=>e = .returned (.tuple #[])/\w'=w:=by
   rcases hv with⟨_,h2,rfl⟩ | ⟨o,rfl,_⟩
   ·exact hnone none 0 w
   ·exact hnone (some _) cap w
  refine hcalls.mono ?_;rintro e w' ⟨rfl,rfl⟩;refine⟨_,rfl,(),ρ,trivial,hn,fun _ _=>rfl,⟨[],rfl,rfl⟩,?_⟩;show aj w' M ρ (vP [(0,.arr ty [k] ([]:List β).length (oK enc (srt [])))]) w';rw[hs];have:(vP ((yM ty k enc srt).hp ⟨[],cap⟩)++Ex ((yM ty k enc srt).ro ⟨[],cap⟩))=vP [(0,.arr ty [k] ([]:List β).length (oK enc []))]:=by simp[yM,Ex,vP]
  rw[this]at hh;exact hh
 ·obtain⟨vs0,ty',fr,hb,h1,h2,h3,h4,h5⟩:=Iq hsat h0;have hpos:l.length≠0:=fun h=>h0 (List.eq_nil_of_length_eq_zero h);have hlt:(ρ.pl 0).blk<w.heap.size:=he.lt _ ((h4 _).2 rfl);rcases hv with⟨g1,_,_⟩ | ⟨o,rfl,ho⟩
  ·exact absurd g1 hpos
  obtain⟨rfl,_⟩:=ho (by omega);simp only[Nat.add_zero,Nat.mul_one]at *;have hHolds:Holds enc2 w (ρ.pl 0).blk (ρ.pl 0).off (l.map to).toArray:=by
   intro j hj;simp only[List.size_toArray,List.length_map]at hj;refine⟨?_,?_⟩
   ·simp only[World.cell?,hb];rw[h5 j hj,getElem!_pos _ j (by simpa using hj)];simp[hto,bT hj]
   ·simp only[World.frozen?,hb];have:=h3 ((ρ.pl 0).off+j) (by omega) (by omega);obtain⟨lo,hi⟩:=fr;simpa using this
  have hcalls:=hcall (ρ.pl 0).blk (ρ.pl 0).off cap (l.map to) w hHolds hlt (by rw[List.length_map];have:l.length<100000:=hpre;omega);rw[List.length_map]at hcalls;refine hcalls.mono ?_;rintro e w' ⟨rfl,n,os,rfl⟩;refine⟨_,rfl,(),ρ,trivial,hn,fun _ _=>rfl,⟨[],rfl,rfl⟩,?_⟩;have hsz:(srt2 (l.map to)).length=l.length:=by rw[<- hsrt,List.length_map,hlen]
  have hheap:∀b,b<w.heap.size->(grow (putRow enc2 (Sort.ahead w n) (ρ.pl 0).blk (ρ.pl 0).off (srt2 (l.map to)).toArray) os).heap[b]? = (w.heap.modify (ρ.pl 0).blk (onCells (putCells enc2 (ρ.pl 0).off (srt2 (l.map to)).toArray)))[b]?:=by
   intro b hb';rw[heap_grow_old _ _ (by simpa using hb')];rfl
  have hblk:(grow (putRow enc2 (Sort.ahead w n) (ρ.pl 0).blk (ρ.pl 0).off (srt2 (l.map to)).toArray) os).heap[(ρ.pl 0).blk]? = some (.cells (putCells enc2 (ρ.pl 0).off (srt2 (l.map to)).toArray vs0) ty' fr):=by
   rw[hheap _ hlt,Array.getElem?_modify,if_pos rfl,hb];rfl
  have hoth:∀b,b<w.heap.size->b≠(ρ.pl 0).blk->(grow (putRow enc2 (Sort.ahead w n) (ρ.pl 0).blk (ρ.pl 0).off (srt2 (l.map to)).toArray) os).heap[b]? = w.heap[b]?:=by
   intro b hb' hne;rw[hheap b hb',Array.getElem?_modify,if_neg (fun h=>hne h.symm)]
  refine⟨⟨rfl,rfl,rfl,?_,fun b hb' hm=>?_,fun ad had=>?_⟩,?_,?_⟩
  ·simp
  ·exact hoth b hb' fun e=>hm (he.own rfl b ((h4 b).2 e) hb')
  ·rw[frozen?_grow _ _ _ (by simpa using had),frozen?_putRow,frozen?_ahead]
  ·intro e' he';have:e'=⟨0,true,.arr ty [k] l.length (oK enc (srt l))⟩:=by simpa[vP,yM]using he'
   subst this;refine⟨he.tag,?_,fun b hb'=>?_,he.own⟩
   ·refine .inr ⟨_,ty',fr,hblk,?_,h2,?_,h4,fun i hi j k' hj=>?_⟩
    ·simpa[putCells]using h1
    ·simpa using h3
    ·have hj0:j=0:=by
      cases j with
      |zero=>rfl
      |succ j=>simp at hj
     subst hj0;have hk:k'=k:=by simpa using hj.symm
     subst hk;have hi':i<(srt l).length:=by rw[hlen];exact hi
     have hmem:gl (srt l) i∈l:=hin l _ (GD hi');refine⟨?_,?_⟩
     ·simp only[List.length_singleton,Nat.mul_one,Nat.add_zero,putCells,Array.getElem?_mapIdx,h5 i hi,Option.map_some];rw[if_pos ⟨by omega,by simp;omega⟩,show(ρ.pl 0).off+i-(ρ.pl 0).off=i by omega];rw[getElem!_pos _ i (by simp;omega)];have:(srt2 (l.map to))[i]'(by omega)=to (gl (srt l) i):=by
       simp only[<- hsrt,List.getElem_map,bT hi']
      simp[this,hto,Bg]
     ·obtain⟨i0,hi0,e0⟩:=List.getElem_of_mem hmem;rcases hsat with⟨hn0,_⟩ | ⟨vs1,ty1,fr1,hb1,_,_,_,_,h6⟩
      ·omega
      ·obtain⟨_,g2⟩:=h6 i0 hi0 0 k' rfl;rw[Bg]at g2 ⊢;rw[<- e0,<- bT hi0];exact g2
   ·have:=he.lt b hb';simp;omega
  ·simp[vP,yM]
end
end Go.Sx
