/-
  
-/
import Derived.Test.YtfjgoonelcaggaaGreatNodeAsksP3
import Derived.Test.YtfjgoonelcaggaaGreatNodeAsksP2
import Derived.Shelf.Sort.Plain
import Derived.Shelf.Slices.In.SortNone
import Derived.Test.YtfjgoonelcaggaaGreatProg
import Derived.Sort.Grow
set_option maxRecDepth 100000
set_option maxHeartbeats 4000000
set_option linter.unusedVariables false
set_option linter.unusedSimpArgs false
namespace Go.Proofs.YtfjgoonelcaggaaGreat
open Go.Sx
def qt(from_ av:Nat)(d:bG):Nat->b8
 |0=>⟨from_,av,[],1,1,true⟩
 |k+1=>{ qt from_ av d k with l:=(qt from_ av d k).l++(nZ (qt from_ av d k) d k).toList,run:=(lQ (qt from_ av d k) d k 8).run }
def ID(l:List dJ):Int:=match l.getLast? with
 |none=>1
 |some g=>match g.aV.getLast? with
  |none=>g.base+64
  |some r=>r.pos+65
def cV(from_ av:Nat)(d:bG):b8:={ qt from_ av d av with next:=ID (qt from_ av d av).l }
structure sF(from_ av:Nat)(d:bG):Prop where
 zG:3<=av/\av<=200
 room:from_+av*8<=d.n
 size:d.n<100000
 rd:∀k,k<av->Up (qt from_ av d k) d k
 one:(qt from_ av d av).l.length<=1
 Cj:∀i,i<(qt from_ av d av).l.length->1<=(gl (qt from_ av d av).l i).gen/\0<=(gl (qt from_ av d av).l i).base/\(gl (qt from_ av d av).l i).base<100000000000 /\
  ∀j,j<(gl (qt from_ av d av).l i).aV.length->0<=(gl (gl (qt from_ av d av).l i).aV j).pos/\(gl (gl (qt from_ av d av).l i).aV j).pos<100000000000
theorem Ln(from_ av:Nat)(d:bG):∀k,(qt from_ av d k).from_=from_/\(qt from_ av d k).av=av/\(qt from_ av d k).next=1/\(qt from_ av d k).fresh=true
 |0=>⟨rfl,rfl,rfl,rfl⟩
 |k+1=>Ln from_ av d k
theorem PK{from_ av:Nat}{d:bG}(h:sF from_ av d):∀k,k<=av->0<=(qt from_ av d k).run/\(qt from_ av d k).run<200000000000
 |0,_=>⟨by simp[qt],by simp[qt]⟩
 |k+1,hk=>(DY (h.rd k (by omega)) (PK h k (by omega)) 8 (Nat.le_refl _)).run
structure Kr where
 H:PH
 d:bG
 from_:Nat
 av:Nat
structure XP where
 k:Nat
 H:PH
 y:iL
noncomputable def IE:cG where
 α:=Kr
 β:=nB
 m:=3
 m':=5
 pre:=fun a=>sF a.from_ a.av a.d
 args:=fun a=>[.a (.ptr 0 0 0 0),.a (.int .i64 a.from_),.a (.int .i64 a.av)]
 hp:=fun a=>[(2,.cI a.H)]
 ro:=fun a=>ic 0 1 a.d
 post:=fun a b=>ct b.H b.y (cV a.from_ a.av a.d)/\∀x,a.H x≠none->b.H x=a.H x/\x∉bB b.y
 res:=fun a _=>.ng [.a (.ptr 3 0 0 0),.a (.lit .i64 0)]
 cR:=fun a b=>[(3,gu 0 (cV a.from_ a.av a.d) b.y.lv),(4,.cI b.H)]
def ZN(a:Kr):An:=.flat 7 XP (fun s x=>S.cI ((s.at_ (s.tg 8) (gu (s.qx (s.tg 8) 0) (qt a.from_ a.av a.d x.k) x.y.lv)).int 43 x.k) x.H)
 (fun _ x=>x.k<=a.av/\ct x.H x.y (qt a.from_ a.av a.d x.k)/\∀z,a.H z≠none->x.H z=a.H z/\z∉bB x.y) (fun _ x=>a.av-x.k)
def uA(x:Kr)(y:XP):b8:=qt x.from_ x.av x.d y.k
def IF(x:XP)(u:Kr):=ct x.H x.y (uA u x)/\∀z:Nat,pR (u.H z) (x.H z) (bB x.y) z
def NC(x:Kr)(u:PH)(z:XP)(v w:Nat)(s:Value)(t f:Int)(g:Bool)(h:Prop):=aP x.av (ag (bn (aK (af x.d.n-af x.av*(8:Int)) (af x.from_))/\bI (aI (aA (aP x.from_ (aP x.av (u=z.H/\ag (DQ v (uA x z) w s z.y t f g (aP x.av (gP x.d x.d h))))))))))
def ND(z:XP)(u:Kr)(v:PH)(x:tu)(w:Value):=aQ z.k (∃y:XP,aY z.k=af y.k/\NC u v y x.L.from_ x.L.av w x.L.next (lQ x.L x.d x.k 8).run x.L.fresh (dD y.k u.av (IF y u) z.k))
def yO(x:nB)(z:Kr):=ct x.H x.y (cV z.from_ z.av z.d)/\∀u:Nat,pR (z.H u) (x.H u) (bB x.y) u
def NF(x:Kr)(z:XP)(v:xR)(w:Int):=∃u:nB,fc (ay 0) (DQ (b8.from_ (uA x z)) (cV x.from_ x.av x.d) (b8.av (uA x z)) v.y.lv u.y (w+(64:Int)) (b8.run (uA x z)) (b8.fresh (uA x z)) (z.H=u.H/\yO u x/\True))
theorem Rr:fnBody (Y Tryz.prog) [(205,Nw),(206,Nx),(208,xq)] 175 IE fun a=>[(175,[ZN a],[])]:=fnBody.of (p :=
 ∀x:Kr,sF x.from_ x.av x.d->ai (af x.av)->aX (af x.av) 3 (∃A:nB,False) (ai (af x.av)->fR (aK 200 (af x.av)) (∃B:nB,False) (aK (af x.from_) 0) (ai (af x.av)->ai (af x.av*(8:Int))/\ai (af x.d.n-af x.av*(8:Int))/\aX (af x.d.n-af x.av*(8:Int)) (af x.from_) (∃C:nB,False) (ai (af x.av)->ai (af x.av)->(∃z:XP,aT z.k (NC x x.H z x.from_ x.av gW 1 1 true ((z.k<=x.av/\IF z x)/\True)))/\∀z:XP,z.k<=x.av/\IF z x->aD (bM z.k x.av) (∃u:tu,fc (bC z.k u.k) (vf (uA x z) u.L z.y.lv u.lv (z.H=u.H/\gP x.d u.d (IA u/\∀w:PI,DZ u.H w (nZ u.L u.d u.k)->(∃t:Option Go.Addr,w.v=Value.pointer t)/\aD (bq (KC w.v)) (Ih w.H u.lv w.v fun t h j f i=>ND z x (aO (aM w.H u.lv) j f i) u (fC j f (t+1) h)) (ND z x w.H u u.lv))))) (∃u:Lm,z.y.lv=u.v/\D3 u.v u.n/\aB (gD z.y.lv/\aX 0 (af (di z.y.lv)) (yG z.y (fun w=>z.H w) fun w m=>∃t:xR,z.y.lv=t.y.lv/\aA (aW m w=pv t.gb 0/\af x.av=t.s/\z.H=t.H/\yN t/\aB (gV (aW m w) 1 (fun h=>z.H h) fun h j=>ai (jW (aW j h)+(64:Int))/\nA (aW m w) 4 (fun f=>z.H f) fun f i=>aX 0 (af (di (aW i f))) (ig (aW m w) 4 (fun l=>z.H l) (fun l=>ey l) fun l r=>ai (af (di (aW i f))-(1:Int)) /\
 Exists (jh (aW r l) (af (di (aW i f))-(1:Int)) fun c e=>∃p q:Nat,pv c (e+aR (af (di (aW i f))-(1:Int))*2)=pv p q/\Exists (nC p q 0 (fun g=>z.H g) (fun g=>jP g) (fun g o=>True) fun g o=>jQ (jW (aW o g)) 1 (ai (jW (aW o g)+(1:Int)+64)/\NF x z t (jW (aW o g)+(1:Int)))))) (NF x z t (jW (aW j h)))))) (∃w:nB,fc (ay 0) (vf (uA x z) (cV x.from_ x.av x.d) z.y.lv w.y.lv (z.H=w.H/\yO w x/\True))))))))) (by kernel_rfl) (by
 delta aD aW ig ai bF ay bT bn gC aK aY af kY nC bP bf aC aR dW bw fc fR aB gD dD jE bI ey aP bK DQ gV yN yG aI kz gW ND yO jh bM aT ag uA aX pR jQ Ih aA IA bq aQ ji nA bC NF IF jF iT jP NC
 try dsimp -iota -proj only
 rintro⟨H,d,fr,sg⟩ ok;dsimp only at *;have ok:sF fr sg d:=ok;obtain⟨s1,s2⟩:=ok.zG;have s3:=ok.room;have s4:=ok.size;refine fun _=>⟨fun c=>by exfalso;have:=of_decide_eq_true c;omega,fun _ _=>⟨fun c=>by exfalso;have:=of_decide_eq_true c;omega,fun _=>⟨fun c=>by exfalso;have:=of_decide_eq_true c;omega,fun _ _=>⟨by simp only[bR];omega,by simp only[bR];omega,fun c=>by exfalso;have:=of_decide_eq_true c;omega,fun _ _ _=>⟨⟨⟨0,H,⟨.slice none 0 0,[]⟩⟩,?_⟩,?_⟩⟩⟩⟩⟩
 ·have h0:ct H ⟨.slice none 0 0,[]⟩ (qt fr sg d 0):=⟨⟨0,.inl ⟨rfl,rfl,rfl⟩⟩,rfl,fun i hi=>absurd hi (Nat.not_lt_zero i),by simp[fW]⟩
  have h1:∀z,H z≠none->H z=H z/\¬z∈bB ⟨.slice none 0 0,[]⟩:=fun z _=>⟨rfl,by simp[bB,fW]⟩
  and_intros<;>first|exact dg|exact h0|exact h1|rfl|exact fun _ _=>⟨trivial,by simp[bB,fW]⟩
 ·rintro⟨k,X,Y⟩ ⟨hk,hX,hfr⟩;dsimp only at *;obtain⟨e1,_,⟨ea,ec,e2⟩,e3,e5⟩:=hX.sA;obtain⟨m1,m2,m3,m4⟩:=Ln fr sg d k;refine⟨fun c1=>?_,fun c1=>?_⟩
  ·have hk':k<sg:=by have:=of_decide_eq_true c1;omega
   have hrd:=ok.rd k hk';obtain⟨hr1,hr2⟩:=PK ok k (by omega);have hstep:qt fr sg d (k+1)={ qt fr sg d k with l:=(qt fr sg d k).l++(nZ (qt fr sg d k) d k).toList,run:=(lQ (qt fr sg d k) d k 8).run }:=rfl;obtain⟨L,hL⟩:∃L,L=qt fr sg d k:=⟨_,rfl⟩
   rw[<- hL]at hX e1 e2 e3 m1 m2 m3 m4 hrd hr1 hr2 hstep ⊢;refine⟨tu.mk X L Y.lv d k,?_⟩
   and_intros<;>first|exact dg|exact hrd|(dsimp only;omega)|skip
   rintro⟨X1,sl,v⟩ hpost;dsimp only at hpost ⊢;cases hseg:nZ L d k with
   |none =>
    rw[hseg]at hpost;obtain⟨hv,hf⟩:=hpost;dsimp only at hv hf;subst hv;have hX1:ct X1 Y (qt fr sg d (k+1)):=(hX.frame fun x hx=>hf x (hX.dom x hx)).congr (by rw[hstep,hseg];simp);have hz:∀z,H z≠none->X1 z=H z/\¬z∈bB Y:=fun z hz=>by
     obtain⟨a1,a2⟩:=hfr z hz;exact⟨(hf z (by rw[a1];exact hz)).trans a1,a2⟩
    refine⟨⟨_,rfl⟩,fun c=>absurd c (by decide),fun _=>⟨by simp only[bR];omega,⟨k+1,X1,Y⟩,?_⟩⟩
    and_intros<;>first|exact dg|exact hX1|exact hz|(rw[hstep];done)|rfl|skip
   |some g =>
    rw[hseg]at hpost;obtain⟨hv,hs,hf⟩:=hpost;dsimp only at hv hs hf;subst hv;have hXf:ct X1 Y L:=hX.frame fun x hx=>(hf x (hX.dom x hx)).1;refine⟨⟨_,rfl⟩,fun _=>?_,fun c=>absurd c (show ¬(true=false)by decide)⟩;obtain⟨c0,hsl⟩:=hXf.Kq;refine⟨_,c0,_,hsl,?_⟩;have hone:L.l.length<=100000:=by
     have:=ok.zG;have:∀j,(qt fr sg d j).l.length<=j:=fun j=>by
      induction j with
      |zero=>exact Nat.le_refl _
      |succ j ih =>
       show((qt fr sg d j).l++(nZ (qt fr sg d j) d j).toList).length<=_;rw[List.length_append];have:(nZ (qt fr sg d j) d j).toList.length<=1:=by cases nZ (qt fr sg d j) d j<;>simp
       omega
     have:=this k;rw[<- hL]at this;omega
    repeat refine lT ?_
    intro cap q1 q2 q3
    repeat refine lT ?_
    intro p1 lo1 cs1 hp1 hl1 hr1;have hpush:=Ie (lo:=lo1) (L':=qt fr sg d (k+1)) hXf hs (fun x hx=>(hf x (hX.dom x hx)).2) hp1 hl1 q1 q2 hr1 (by
     intro i hi;simp only[Nat.zero_add,bg,AI];rw[lq (by rw[hX.len];exact hi),hX.len];by_cases hin:i<L.l.length
     ·rw[if_pos hin,if_pos hin]
     ·rw[if_neg hin,if_neg hin,show i-L.l.length=0 by omega];rfl) (by rw[hstep,hseg];rfl)
    have hz:∀z,H z≠none->aO (aM X1 Y.lv) p1 lo1 cs1 z=H z/\¬z∈bB ⟨fC p1 lo1 (L.l.length+1) cap,Y.ys++[sl]⟩:=fun z hz=>by
     obtain⟨a1,a2⟩:=hfr z hz;obtain⟨b1,b2⟩:=hf z (by rw[a1];exact hz);obtain⟨c1,c2⟩:=hpush.2 z (by rw[b1,a1];exact hz) a2 b2;exact⟨c1.trans (b1.trans a1),c2⟩
    refine⟨by simp only[bR];omega,⟨k+1,aO (aM X1 Y.lv) p1 lo1 cs1,⟨fC p1 lo1 (L.l.length+1) cap,Y.ys++[sl]⟩⟩,?_⟩
    and_intros<;>first|exact dg|exact hpush.1|exact hz|(rw[hstep];done)|rfl|skip
  ·have hk':k=sg:=by have:=of_decide_eq_false c1;omega
   subst hk';have hone:=ok.one;have hrng:=ok.Cj;have hM:(cV fr k d).l=(qt fr k d k).l:=rfl;have hM2:(cV fr k d).next=ID (qt fr k d k).l:=rfl
   have hM3:(cV fr k d).from_=fr/\(cV fr k d).av=k/\(cV fr k d).run=(qt fr k d k).run/\(cV fr k d).fresh=true:=⟨m1,m2,rfl,m4⟩
   obtain⟨L,hL⟩:∃L,L=qt fr k d k:=⟨_,rfl⟩
   rw[<- hL]at hX e1 e2 e3 m1 m2 m3 m4 hone hrng hM hM2 hM3 ⊢;obtain⟨M,hMM⟩:∃M,M=cV fr k d:=⟨_,rfl⟩
   rw[<- hMM]at hM hM2 hM3 ⊢;obtain⟨n1,n2,n3,n4⟩:=hM3;have hXM:ct X Y M:=hX.congr hM;refine⟨Lm.mk Y.lv L.l.length,rfl,⟨hone,⟨ea,ec,e2⟩,e5⟩,fun _ _=>⟨⟨ea,_,ec,e2,e3⟩,fun c2=>?_,fun c2=>⟨⟨X,Y⟩,?_⟩⟩⟩
   ·rw[e1]at c2;have hn:0<L.l.length:=by have:=of_decide_eq_true c2;omega
    have hk1:L.l.length-1<L.l.length:=by omega
    obtain⟨b,lo,o,c,cs,g1,g2,g3,g4⟩:=hX.at_ hk1;have hs:=hX.seg _ hk1;obtain⟨r1,r2,r3⟩:=hs.Cj;obtain⟨u1,u2,u3,u4⟩:=hrng _ hk1;have hlast:L.l.getLast? = some (gl L.l (L.l.length-1)):=by rw[bL hk1,List.getLast?_eq_getElem?,List.getElem?_eq_getElem hk1]
    have hall:∀i,i<L.l.length->(gl L.l (L.l.length-1)).gen-(k:Int)<(gl L.l i).gen:=fun i hi=>by
     have:i=L.l.length-1:=by omega
     rw[this];omega
    obtain⟨sl,hsl⟩:∃sl,sl=gl Y.ys (L.l.length-1):=⟨_,rfl⟩
    obtain⟨g,hg⟩:∃g,g=gl L.l (L.l.length-1):=⟨_,rfl⟩
    rw[<- hg]at hs r1 r2 r3 u1 u2 u3 u4 hlast hall;rw[<- hsl]at g3 g4 hs;have e6:((L.l.length:Int)-1).toNat=L.l.length-1:=by omega
    rw[e1];refine⟨by simp only[bR];omega,_,_,_,_,g1,by omega,b,lo,o+(L.l.length-1)*1,cs,by rw[e6,Nat.add_assoc],g2,⟨⟨_,g3,rfl⟩,trivial⟩,xR.mk X Y L sl.b g.gen k,?_⟩
    and_intros<;>first|exact dg|exact g4|exact hX|exact r1.1|exact r1.2|exact hall|exact⟨_,hs.cell⟩|(dsimp only;omega)|skip
    intro _ _;obtain⟨c9,hrec⟩:=hs.aV;obtain⟨w1,w2,w3,w4,w5,⟨wa,w7⟩,w6⟩:=fH hrec;refine⟨_,_,g4,?_⟩;refine⟨_,_,rfl,?_⟩;refine⟨_,0,_,_,rfl,hs.cell,?_⟩;refine⟨⟨⟨_,rfl,_,rfl,r2⟩,trivial⟩,fun _=>?_⟩;simp only[show jW ((dc g sl.bv sl.rv).getD 1 (Value.tuple #[]))=g.base from rfl];refine⟨by simp only[bR];omega,_,_,g4,?_⟩;refine⟨_,_,rfl,?_⟩;refine⟨_,0,_,_,rfl,hs.cell,?_⟩;refine⟨⟨⟨_,rfl,w6⟩,trivial⟩,⟨wa,_,_,w7,by omega⟩,?_⟩;simp only[show(dc g sl.bv sl.rv).getD 4 (Value.tuple #[])=sl.rv from rfl,w1];refine⟨fun c3=>?_,fun c3=>⟨⟨X,Y⟩,?_⟩⟩
    ·have hq:0<g.aV.length:=by have:=of_decide_eq_true c3;omega
     have hq1:g.aV.length-1<g.aV.length:=by omega
     have hrl:g.aV.getLast? = some (gl g.aV (g.aV.length-1)):=by rw[bL hq1,List.getLast?_eq_getElem?,List.getElem?_eq_getElem hq1]
     have hnx:M.next=(gl g.aV (g.aV.length-1)).pos+65:=by rw[hM2];simp only[ID,hlast,hrl]
     obtain⟨b',lo',o',cs',q1,q2,q3,q4,q5,q6,q7,q8⟩:=vW hrec (k:=g.aV.length-1) hq1;obtain⟨p1,p2⟩:=u4 _ hq1;have e7:((g.aV.length:Int)-1).toNat=g.aV.length-1:=by omega
     refine⟨_,_,g4,?_⟩;refine⟨_,_,rfl,?_⟩;refine⟨_,0,_,_,rfl,hs.cell,?_⟩;refine⟨⟨⟨_,rfl,w6⟩,trivial⟩,by simp only[bR,aq]at *;omega,?_⟩;simp only[show(dc g sl.bv sl.rv).getD 4 (Value.tuple #[])=sl.rv from rfl];refine⟨_,_,_,_,q1,by omega,_,_,rfl,b',lo',o'+(g.aV.length-1)*2,cs',by rw[e7];congr 1;omega,q2,⟨⟨_,q3,_,rfl,q6⟩,trivial⟩,fun _=>?_⟩;rw[q7];simp only[jW];refine⟨by simp only[bR];omega,by simp only[bR];omega,⟨X,Y⟩,?_⟩
     and_intros<;>first|exact dg|exact hXM|exact hfr|(rw[n3];done)|(rw[n4,m4];done)|(dsimp only;omega)|skip
    ·have hq:g.aV.length=0:=by have:=of_decide_eq_false c3;omega
     have hrl:g.aV.getLast? = none:=by rw[List.eq_nil_of_length_eq_zero hq];rfl
     have hnx:M.next=g.base+64:=by rw[hM2];simp only[ID,hlast,hrl]
     and_intros<;>first|exact dg|exact hXM|exact hfr|(rw[n3];done)|(rw[n4,m4];done)|(dsimp only;omega)|skip
   ·rw[e1]at c2;have hn:L.l=[]:=List.eq_nil_of_length_eq_zero (by have:=of_decide_eq_false c2;omega);have hnx:M.next=1:=by rw[hM2,hn];rfl
    and_intros<;>first|exact dg|exact hXM|exact hfr|(rw[n3];done)|(rw[n4,m4];done)|(rw[hnx,m3];done)|(dsimp only;omega)|skip)
theorem Ge:au (Y Tryz.prog).G.X 175 IE:=aU fF Rr ⟨Ro,Rq,NB,trivial⟩
structure BS(H:PH)(v:Value)(vs:List Value)(rs:List RecM):Prop where
 rows:∃c,kR H v tj rs.length c (vP rs vs)
 len:vs.length=rs.length
 body:∀i,i<rs.length->fU H (vs.getD i undef) (gl rs i).body
 sep:∀x∈fW v,x∉vs.flatMap fW
theorem ZO{vs:List Value}{i x:Nat}(hi:i<vs.length)(hx:x∈fW (vs.getD i undef)):x∈vs.flatMap fW:=by
 refine List.mem_flatMap.2 ⟨_,?_,hx⟩;rw[List.getD_eq_getElem?_getD,List.getElem?_eq_getElem hi];exact List.getElem_mem _
theorem BS.dom{H:PH}{v:Value}{vs:List Value}{rs:List RecM}(h:BS H v vs rs):∀x,x∈fW v\/x∈vs.flatMap fW->H x≠none:=by
 rintro x (hx|hx)
 ·obtain⟨c,hr⟩:=h.rows;exact nw hr x hx
 ·obtain⟨u,hu,hx⟩:=List.mem_flatMap.1 hx;obtain⟨i,hi,rfl⟩:=List.getElem_of_mem hu;obtain⟨c,hb⟩:=h.body i (by rw[<- h.len];exact hi);rw[List.getD_eq_getElem?_getD,List.getElem?_eq_getElem hi]at hb;exact nw hb x hx
theorem BS.push{H:PH}{v:Value}{vs:List Value}{rs:List RecM}{r:RecM}{p3 lo3 p4 lo4 cap3 cap4 n:Nat}{cs3 cs4:List Value}(h:BS H v vs rs)(hn:n=r.body.length)(hp3:H p3=none)
 (hb:fU (aO H p3 lo3 cs3) (fC p3 lo3 n cap3) r.body) (hp4:aM (aO H p3 lo3 cs3) v p4=none)
 (hr:kR (aO (aM (aO H p3 lo3 cs3) v) p4 lo4 cs4) (fC p4 lo4 (rs.length+1) cap4) tj (rs.length+1) cap4 (vP (rs++[r]) (vs++[fC p3 lo3 n cap3]))) :
 BS (aO (aM (aO H p3 lo3 cs3) v) p4 lo4 cs4) (fC p4 lo4 (rs.length+1) cap4) (vs++[fC p3 lo3 n cap3]) (rs++[r]) /\
 ∀z,H z≠none->z∉fW v->z∉vs.flatMap fW->aO (aM (aO H p3 lo3 cs3) v) p4 lo4 cs4 z=H z/\z∉fW (fC p4 lo4 (rs.length+1) cap4)/\z∉(vs++[fC p3 lo3 n cap3]).flatMap fW:=by
 have hd:=h.dom;have h3:∀z,H z≠none->z≠p3:=fun z hz e=>hz (by rw[e];exact hp3);have h3v:p3∉fW v:=fun e=>hd p3 (.inl e) hp3;have h34:p4≠p3:=fun e=>by rw[e,lp h3v,dP]at hp4;cases hp4
 have hz4:∀z,H z≠none->z∉fW v->z≠p4:=fun z hz hv e=>by
  rw[<- e,lp hv,cN (h3 z hz)]at hp4;exact hz hp4
 have same:∀z,H z≠none->z∉fW v->aO (aM (aO H p3 lo3 cs3) v) p4 lo4 cs4 z=H z:=fun z hz hv=>by
  rw[cN (hz4 z hz hv),lp hv,cN (h3 z hz)]
 have hvs:∀z∈vs.flatMap fW,z∉fW v:=fun z hz e=>h.sep z e hz;refine⟨⟨⟨cap4,by simpa using hr⟩,by simp[h.len],fun i hi=>?_,fun x hx=>?_⟩,fun z hz hv hs=>⟨same z hz hv,?_,?_⟩⟩
 ·rw[List.length_append,List.length_singleton]at hi;rw[lq hi];by_cases hin:i<rs.length
  ·rw[if_pos hin,List.getD_eq_getElem?_getD,List.getElem?_append_left (by rw[h.len];exact hin),<- List.getD_eq_getElem?_getD];refine(h.body i hin).frame fun x hx=>?_;have hm:=ZO (by rw[h.len];exact hin) hx;exact same x (hd x (.inr hm)) (hvs x hm)
  ·rw[if_neg hin];have e1:(vs++[fC p3 lo3 n cap3]).getD i undef=fC p3 lo3 n cap3:=by
    rw[List.getD_eq_getElem?_getD,List.getElem?_append_right (by rw[h.len];omega),show i-vs.length=0 by rw[h.len];omega];rfl
   rw[e1];refine hb.frame fun x hx=>?_;simp only[fW,fC,List.mem_singleton]at hx;rw[hx,cN h34.symm,lp h3v]
 ·simp only[fW,fC,List.mem_singleton]at hx;subst hx;simp only[List.flatMap_append,List.mem_append,not_or];refine⟨fun e=>?_,by simpa[fW,fC]using h34⟩;exact hz4 x (hd x (.inr e)) (hvs x e) rfl
 ·simp only[fW,fC,List.mem_singleton];exact hz4 z hz hv
 ·simp only[List.flatMap_append,List.mem_append,not_or];exact⟨hs,by simpa[fW,fC]using h3 z hz⟩
def gT(l:List dJ):List RecM:=l.flatMap (·.aV)
def nT(l:List dJ)(i j:Nat):List RecM:=gT (l.take i)++(gl l i).aV.take j
theorem Rs{l:List dJ}{i j:Nat}(hj:j<(gl l i).aV.length):nT l i (j+1)=nT l i j++[gl (gl l i).aV j]:=by
 unfold nT;rw[qz hj,List.append_assoc]
theorem Rt{l:List dJ}{i j:Nat}(hi:i<l.length)(hj:(gl l i).aV.length<=j):nT l i j=gT (l.take (i+1)):=by
 unfold nT gT;rw[flatMap_push hi,List.take_of_length_le hj]
structure u6 where
 H:PH
 y:iL
 L:b8
structure xS where
 H:PH
 v:Value
 vs:List Value
structure we where
 i:Nat
 j:Nat
 H:PH
 v:Value
 vs:List Value
noncomputable def PL:cG where
 α:=u6
 β:=xS
 m:=3
 m':=4
 pre:=fun a=>ct a.H a.y a.L/\a.L.l.length<1000/\∀i,i<a.L.l.length->(gl a.L.l i).aV.length<=400/\∀k,k<(gl a.L.l i).aV.length->1<=(gl (gl a.L.l i).aV k).body.length/\(gl (gl a.L.l i).aV k).body.length<=1000
 args:=fun a=>[.a (.ptr 0 0 0 0)]
 hp:=fun a=>[(1,.cI a.H)]
 ro:=fun a=>[(0,gu 2 a.L a.y.lv)]
 post:=fun a b=>BS b.H b.v b.vs (gT a.L.l)/\∀z,a.H z≠none->b.H z=a.H z/\z∉fW b.v/\z∉b.vs.flatMap fW
 res:=fun _ b=>.a (.val b.v)
 cR:=fun _ b=>[(3,.cI b.H)]
structure AS(a:u6)(x:we)(rs:List RecM):Prop where
 out:BS x.H x.v x.vs rs
 fr:∀z,a.H z≠none->x.H z=a.H z/\z∉fW x.v/\z∉x.vs.flatMap fW
def ZP(a:u6)(i:Nat):An:=.flat 8 we (fun s x=>S.cI ((s.set 3 (.a (.val x.v))).int 24 x.j) x.H) (fun _ x=>x.j<=(gl a.L.l i).aV.length/\AS a x (nT a.L.l i x.j)) (fun _ x=>(gl a.L.l i).aV.length-x.j)
def aaL(a:u6):An:=.mk 5 we (fun s x=>S.cI ((s.set 3 (.a (.val x.v))).int 15 x.i) x.H) (fun _ x=>x.i<=a.L.l.length/\AS a x (gT (a.L.l.take x.i))) (fun _ x=>a.L.l.length-x.i) fun x=>.mk 60 [ZP a x.i] []
noncomputable def AT(x:xS)(z:u6):=BS x.H x.v x.vs (gT z.L.l)/\∀y:Nat,z.H y≠none->x.H y=z.H y/\¬y∈fW x.v/\¬y∈List.flatMap fW x.vs
def AU(x:u6):=ct x.H x.y x.L/\bK x.L<1000/\∀z:Nat,z<bK x.L->yL x.L z
def AV(x:u6)(z:PH)(u:we)(v:Prop):=kA x.y.lv (bI (fc (z=u.H) (gK x.L x.y v)))
theorem UB:fnBody (Y Tryz.prog) [] 176 PL fun a=>[(176,[aaL a],[])]:=fnBody.of (p :=
 ∀x:u6,AU x->gD x.y.lv/\(∃z:we,aT z.i (gW=z.v/\AV x x.H z ((z.i<=bK x.L/\AS x z (gT (List.take z.i x.L.l)))/\True)))/\∀z:we,z.i<=bK x.L/\AS x z (gT (List.take z.i x.L.l))->qg z.i x.y.lv 1 (fun w=>z.H w) (fun w=>ey w) (fun w h=>True) (fun w h=>nA (aW h w) 4 (fun f=>z.H f) fun f m=>(∃u:we,aT u.j (z.v=u.v/\kA (aW m f) (cH (aW h w)/\jC z.i (di x.y.lv) (AV x z.H u ((u.j<=oo x.L z.i/\AS x u (nT x.L.l z.i u.j))/\True)))))/\∀u:we,u.j<=oo x.L z.i/\AS x u (nT x.L.l z.i u.j)->vX u.j (aW m f) (fun s=>u.H s) (fun s p=>ai (jW (aW p s))->Iu (aW p (s+1)) u.H u.v (jW (aW p s)) (fun k q n o r=>aQ u.j (∃t:we,aY u.j=af t.j/\fC n o (k+1) q=t.v/\kA (aW m f) (cH (aW h w)/\jC z.i (di x.y.lv) (AV x (aO (aM u.H u.v) n o r) t (dD t.j (oo x.L z.i) (AS x t (nT x.L.l z.i t.j)) u.j))))) (fun k=>u.H k) fun k q n o r t c d=>aQ u.j (∃g:we,aY u.j=af g.j/\fC t c (o+1) r=g.v/\kA (aW m f) (cH (aW h w)/\jC z.i (di x.y.lv) (AV x (aO (aM (aO u.H k q n) u.v) t c d) g (dD g.j (oo x.L z.i) (AS x g (nT x.L.l z.i g.j)) u.j))))) (aQ z.i (∃s:we,aY z.i=af s.i/\u.v=s.v/\AV x u.H s (dD s.i (bK x.L) (AS x s (gT (List.take s.i x.L.l))) z.i)))) (∃w:xS,z.v=w.v /\
 z.H=w.H/\AT w x/\True)) (by kernel_rfl) (by
 delta aD aW ah ig ai ay bT ax bn gC aK aY af kY nC bP bf aC aR dW cH bw fc BO gD dD qg bI ey aP bK Iu yL gK kz gW jh bM aT vV AT ag DR kA vX iB aQ ji AU jC nA AV oo jP DU
 try dsimp -iota -proj only
 rintro⟨H,y,L⟩ ⟨hl,h1,h2⟩;dsimp only at *;obtain⟨e1,_,⟨ea,ec,e2⟩,e3,_⟩:=hl.sA;refine⟨⟨ea,_,ec,e2,e3⟩,⟨⟨0,0,H,.slice none 0 0,[]⟩,?_⟩,fun x hx=>?_⟩
 ·have h0:AS ⟨H,y,L⟩ ⟨0,0,H,.slice none 0 0,[]⟩ (gT (L.l.take 0)):=⟨⟨⟨0,.inl ⟨rfl,rfl,rfl⟩⟩,rfl,fun i hi=>absurd hi (Nat.not_lt_zero i),fun x hx=>by cases hx⟩,fun z _=>⟨rfl,by simp[fW],by simp⟩⟩
  and_intros<;>first|exact dg|exact h0
 ·obtain⟨i,j0,X,v,vs⟩:=x;obtain⟨hi,hI⟩:=hx;dsimp only at hi hI ⊢;rw[e1];refine⟨fun c1=>?_,fun c1=>?_⟩
  ·have hi':i<L.l.length:=by have:=of_decide_eq_true c1;omega
   have hX:ct X y L:=hl.frame fun x hx=>(hI.fr x (hl.dom x hx)).1;obtain⟨b,lo,o,c,cs,g1,g2,g3,g4⟩:=hX.at_ hi';have hs:=hX.seg i hi';obtain⟨c9,hrec⟩:=hs.aV;obtain⟨m1,m2,m3,m4,m5,⟨ma,m7⟩,m6⟩:=fH hrec;obtain⟨hrl,hbl⟩:=h2 i hi';refine⟨_,_,_,_,g1,by omega,b,lo,o+i*1,cs,by rw[Int.toNat_natCast,Nat.add_assoc],g2,⟨⟨_,g3,rfl⟩,trivial⟩,?_⟩;refine⟨_,_,g4,?_⟩;refine⟨_,_,rfl,?_⟩;refine⟨_,0,_,_,rfl,hs.cell,?_⟩;refine⟨⟨⟨_,rfl,m6⟩,trivial⟩,⟨ma,_,_,m7,by omega⟩,?_⟩;simp only[show(dc (gl L.l i) (gl y.ys i).bv (gl y.ys i).rv).getD 4 (Value.tuple #[])=(gl y.ys i).rv from rfl,m1];refine⟨⟨⟨i,0,X,v,vs⟩,?_⟩,fun x2 hx2=>?_⟩
   ·have h0:AS ⟨H,y,L⟩ ⟨i,0,X,v,vs⟩ (nT L.l i 0):=by
     have:nT L.l i 0=gT (L.l.take i):=by simp[nT]
     rw[this];exact⟨hI.out,hI.fr⟩
    and_intros<;>first|exact dg|exact h0
   ·obtain⟨i2,j,X,v,vs⟩:=x2;obtain⟨hj,hJ⟩:=hx2;dsimp only at hj hJ ⊢;have hX:ct X y L:=hl.frame fun x hx=>(hJ.fr x (hl.dom x hx)).1;have hs:=hX.seg i hi';obtain⟨c9,hrec⟩:=hs.aV;have hlen:(nT L.l i j).length<=400400:=by
     have a1:=lP (l:=L.l) (f:=fun g:dJ=>g.aV) (m:=400) (fun q hq=>(h2 q hq).1) i (by omega);unfold nT gT;rw[List.length_append,List.length_take];omega
    refine⟨fun c2=>?_,fun c2=>⟨by simp only[bR];omega,⟨i+1,0,X,v,vs⟩,?_⟩⟩
    ·have hj':j<(gl L.l i).aV.length:=by have:=of_decide_eq_true c2;omega
     obtain⟨b',lo',o',cs',q1,q2,q3,q4,q5,q6,q7,q8⟩:=vW hrec (k:=j) hj';obtain⟨cb,hbody⟩:=hs.body j hj';obtain⟨w1,w2,w3,w4,w5,⟨wa,w7⟩,w6⟩:=fH hbody;obtain⟨hb1,hb2⟩:=hbl j hj';have hnil:Fp ((gl y.ys i).vs.getD j undef)=false:=by
      rcases hbody with⟨_,h0,_⟩ | ⟨b9,lo9,o9,cs9,h9,_⟩
      ·omega
      ·rw[h9];rfl
     refine⟨_,_,_,_,q1,by omega,b',lo',o'+j*2,cs',by rw[Int.toNat_natCast];congr 1;omega,q2,⟨⟨_,q3,_,rfl,q6⟩,⟨_,q4,q5⟩,trivial⟩,fun _=>?_⟩;rw[q7,q8];refine⟨⟨wa,_,_,w7⟩,fun c4=>absurd c4 (by rw[hnil];decide),fun _=>?_⟩
     repeat refine lT ?_
     refine⟨_,cb,_,hbody,?_⟩;simp only[Nat.zero_add]
     repeat refine lT ?_
     intro cap3 u1 u2 u3
     repeat refine lT ?_
     intro p3 lo3 cs3 hp3 hl3 hr3;obtain⟨r,hr⟩:∃r,r=gl (gl L.l i).aV j:=⟨_,rfl⟩
     rw[<- hr]at hbody hb1 hb2 hr3 u1 u3 ⊢;have hCb:fU (aO X p3 lo3 cs3) (fC p3 lo3 r.body.length cap3) r.body:=by
      refine⟨cap3,nE hl3 u1 u2 hr3 fun q hq j hj=>?_⟩;have hj0:j=0:=by simpa using hj
      subst hj0;simp only[bg,Nat.not_lt_zero,if_false,Nat.sub_zero]
     obtain⟨c8,hout⟩:=hJ.out.rows;have hx3:∀x,X x≠none->x≠p3:=fun x hx e=>hx (by rw[e];exact hp3);have hout4:kR (aO X p3 lo3 cs3) v tj (nT L.l i j).length c8 (vP (nT L.l i j) vs):=jg hout fun x hx=>cN (hx3 x (nw hout x hx));refine⟨_,c8,_,hout4,?_⟩
     repeat refine lT ?_
     intro cap4 v1 v2 v3
     repeat refine lT ?_
     intro p4 lo4 cs4 hp4 hl4 hr4;have hvl:vs.length=(nT L.l i j).length:=hJ.out.len;have hr5:kR (aO (aM (aO X p3 lo3 cs3) v) p4 lo4 cs4) (fC p4 lo4 ((nT L.l i j).length+1) cap4) tj ((nT L.l i j).length+1) cap4 (vP (nT L.l i j++[r]) (vs++[fC p3 lo3 r.body.length cap3])):=by
      refine nE hl4 v1 v2 hr4 fun q hq j' hj2=>?_;simp only[bg,vP,Nat.zero_add];by_cases hin:q<(nT L.l i j).length
      ·rw[if_pos hin,bV hin];by_cases hj0:j'=0
       ·rw[if_pos hj0,if_pos hj0]
       ·rw[if_neg hj0,if_neg hj0,List.getD_eq_getElem?_getD,List.getD_eq_getElem?_getD,List.getElem?_append_left (by omega)]
      ·rw[if_neg hin];obtain rfl:q=(nT L.l i j).length:=by omega
       rw[Nat.sub_self];have hj2:j'<2:=hj2
       match j',hj2 with
       |0,_=>rw[if_pos rfl,show(nT L.l i j).length=(nT L.l i j).length+0 from rfl,br];rfl
       |1,_=>rw[if_neg (by decide),List.getD_eq_getElem?_getD,List.getElem?_append_right (by omega),hvl,Nat.sub_self];rfl
     obtain⟨hO,hF⟩:=hJ.out.push (r:=r) rfl hp3 hCb hp4 hr5;have hN:AS ⟨H,y,L⟩ ⟨i,j+1,aO (aM (aO X p3 lo3 cs3) v) p4 lo4 cs4,fC p4 lo4 ((nT L.l i j).length+1) cap4,vs++[fC p3 lo3 r.body.length cap3]⟩ (nT L.l i (j+1)):=by
      refine⟨by rw[Rs hj',<- hr];exact hO,fun z hz=>?_⟩;obtain⟨a1,a2,a3⟩:=hJ.fr z hz;obtain⟨b1,b2,b3⟩:=hF z (by rw[a1];exact hz) a2 a3;exact⟨b1.trans a1,b2,b3⟩
     refine⟨by simp only[bR];omega,⟨i,j+1,aO (aM (aO X p3 lo3 cs3) v) p4 lo4 cs4,fC p4 lo4 ((nT L.l i j).length+1) cap4,vs++[fC p3 lo3 r.body.length cap3]⟩,?_⟩
     and_intros<;>first|exact dg|exact hN
    ·have hj':¬j<(gl L.l i).aV.length:=by have:=of_decide_eq_false c2;omega
     have hN:AS ⟨H,y,L⟩ ⟨i+1,0,X,v,vs⟩ (gT (L.l.take (i+1))):=by
      rw[<- Rt hi' (Nat.le_of_not_lt hj')];exact⟨hJ.out,hJ.fr⟩
     and_intros<;>first|exact dg|exact hN
  ·have hi':i=L.l.length:=by have:=of_decide_eq_false c1;omega
   subst hi';rw[List.take_length]at hI;refine⟨⟨X,v,vs⟩,?_⟩
   and_intros<;>first|exact dg|exact hI.out|exact hI.fr|rfl)
theorem Lo:au (Y Tryz.prog).G.X 176 PL:=aU fF UB trivial
end Go.Proofs.YtfjgoonelcaggaaGreat
namespace Go.Proofs.YtfjgoonelcaggaaGreat.Ix
open Go.Sx
def PM(a b:Int):Int:=dL .xor .u64 a b
def SL(a:Int):Int:=uw .u64 a
def UC(x:Int):Int:=SL (PM x (x/1073741824)*13787848793156543929)
def UD(x:Int):Int:=SL (PM x (x/134217728)*10723151780598845931)
def UE(x:Int):Int:=PM x (x/2147483648)
def n9(x:Int):Int:=UE (UD (UC x))
noncomputable def u7:cG where
 α:=Int
 β:=Unit
 m:=0
 m':=0
 pre:=fun _=>True
 args:=fun a=>[.a (.int .u64 a)]
 hp:=fun _=>[]
 ro:=fun _=>[]
 post:=fun _ _=>True
 res:=fun a _=>.a (.int .u64 (n9 a))
 cR:=fun _ _=>[]
def _root_.PN(x y z u:Int):Int:=lY (cD (lY x (x/y)*z)) (cD (lY x (x/y)*z)/u)
def _root_.AW(x y:Int):=bz (PN (cD (lY x (x/(1073741824:Int))*(13787848793156543929:Int))) 134217728 10723151780598845931 2147483648=y)
theorem D4:fnBody (Y Tryz.prog) [] 120 u7 fun _=>[]:=fnBody.of (p :=
 ∀x:Int,True->(0:Int)<=30/\(0:Int)<=27/\(0:Int)<=31/\AW x (Ix.n9 x)) (by kernel_rfl) (by
 delta PN bz cD az lY AW bt
 intro a _;exact⟨by decide,by decide,by decide,(),rfl,trivial,trivial⟩)
theorem zK:au (Y Tryz.prog).G.X 120 u7:=aU fF D4 trivial
def pS(h:Int)(b:ByteArray):Nat->Int
 |0=>h
 |i+1=>SL (n9 (PM (pS h b i) ((b.data.getD i 0).toNat:Int))+1)
def UF(h:Int)(b:ByteArray):Int:=n9 (PM (pS h b b.size) (SL (256+SL b.size)))
def eu(g:Nat->ByteArray):Nat->Int
 |0=>11400714819323198485
 |i+1=>UF (eu g i) (g i)
structure IG where
 g:Nat->ByteArray
 n:Nat
 cap:Nat
noncomputable def qX:cG where
 α:=IG
 β:=Unit
 m:=1
 m':=1
 pre:=fun a=>a.n<100000/\∀i,i<a.n->(a.g i).size<=aq
 args:=fun a=>[.a (.slc 0 0 1 a.n a.cap)]
 hp:=fun _=>[]
 ro:=fun a=>[(0,.arr 9 [.str] a.n (fun i _=>.string (a.g i)))]
 post:=fun _ _=>True
 res:=fun a _=>.a (.int .u64 (eu a.g a.n))
 cR:=fun _ _=>[]
def ZQ(a:IG)(i:Nat):An:=.flat 6 Nat (fun s j=>(s.int 15 j).set 3 (.a (.int .u64 (pS (eu a.g i) (a.g i) j)))) (fun _ j=>j<=(a.g i).size) (fun _ j=>(a.g i).size-j)
def ZR(a:IG):An:=.mk 3 Nat (fun s i=>(s.int 9 i).set 3 (.a (.int .u64 (eu a.g i)))) (fun _ i=>i<=a.n) (fun _ i=>a.n-i) (fun i=>.mk 60 [ZQ a i] [])
def _root_.fe(x y:Nat)(z:Prop):=aP x (bh x y/\z)
def _root_.II(u:Nat)(y:ByteArray)(s:Int)(f:Int->Int)(g:Nat->Int)(v w t:Nat)(h:Nat->Prop)(i:Int->Int)(j:Nat->Int)(k:Nat->Prop):=oh u (bp y) (∃z:Int,lY s (af (y.data.getD (ax u) (0:UInt8)).toNat)=z/\ee (aQ u (∃x:Nat,cD (f z+(1:Int))=g x/\aY u=af x/\aP (bp y) (y=y/\jC v w (fe w t (h x)))))) (∃z:Int,lY s (cD ((256:Int)+cD (af (bp y))))=z/\ee (aQ v (∃x:Nat,i z=j x/\aY v=af x/\fe w t (k x))))
def _root_.D5(x:Ix.IG)(y:Prop):=aI (bh x.n x.cap/\(eF x.n 1 fun z u=>bJ (x.g z))/\y)
def _root_.fm(x:ByteArray):=x=x
theorem AX:fnBody (Y Tryz.prog) [(120,u7)] 66 qX fun a=>[(66,[ZR a],[])]:=fnBody.of (p :=
 ∀x:Ix.IG,(x.n<100000/\∀v:Nat,v<x.n->bp (x.g v)<=aq)->(∃y:Nat,(11400714819323198485:Int)=Ix.eu x.g y/\aT y (fe x.n x.cap (D5 x (y<=x.n/\True))))/\∀y:Nat,gm y x.n ((∃u:Nat,Ix.eu x.g y=Ix.pS (Ix.eu x.g y) (x.g y) u/\aT u (aP (bp (x.g (0+ax y))) (fm (x.g (0+ax y))/\jC y x.n (fe x.n x.cap (D5 x (u<=bp (x.g y)/\True))))))/\∀u:Nat,u<=bp (x.g y)->II u (x.g (0+ax y)) (Ix.pS (Ix.eu x.g y) (x.g y) u) (fun z=>Ix.n9 z) (fun z=>Ix.pS (Ix.eu x.g y) (x.g y) z) y x.n x.cap (fun z=>D5 x (bS z (bp (x.g y)) u)) (fun z=>Ix.n9 z) (fun z=>Ix.eu x.g z) fun z=>D5 x (bS z x.n y)) (bz (Ix.eu x.g y=Ix.eu x.g x.n))) (by kernel_rfl) (by
 delta aD eF ai bF aG ay ax bn dm aK aY af bf aC aR dV bp aB jD bz fe bS aP bJ cD aI bh bM aT az lY II ag D5 aQ gm dh jC oh fm bt ee
 try dsimp -iota -proj only
 intro a h;obtain⟨hn,hs⟩:=h;simp only[Nat.zero_add,Int.toNat_natCast];refine⟨⟨0,by and_intros<;>(first|exact trivial|rfl|omega|assumption|exact ak.refl _ _ _|(simp only[bR];omega)|(simp;done)|(simp;omega)|grind)⟩,fun i hi=>⟨fun h1=>?_,fun h1=>?_⟩⟩
 ·have hi':i<a.n:=by simpa using h1
  have hsz:=hs i hi';refine⟨by omega,hi',⟨0,by and_intros<;>(first|exact trivial|rfl|omega|assumption|exact ak.refl _ _ _|(simp only[bR];omega)|(simp;done)|(simp;omega)|grind)⟩,fun j hj=>⟨fun h2=>?_,fun h2=>?_⟩⟩
  ·have hj':j<(a.g i).size:=by simpa using h2
   refine⟨by omega,_,rfl,trivial,fun _ _=>⟨by simp only[bR,aq]at *;omega,j+1,?_⟩⟩
   and_intros<;>(first|exact trivial|rfl|omega|assumption|exact ak.refl _ _ _|(simp only[bR];omega)|(simp;done)|(simp;omega)|grind)
  ·have hj' : j = (a.g i).size := by have : ¬ j < (a.g i).size := by simpa using h2
                                     omega
   subst hj';refine⟨_,rfl,trivial,fun _ _=>⟨by simp only[bR];omega,i+1,?_⟩⟩
   and_intros<;>(first|exact trivial|rfl|omega|assumption|exact ak.refl _ _ _|(simp only[bR];omega)|(simp;done)|(simp;omega)|grind)
 ·have hi' : i = a.n := by have : ¬ i < a.n := by simpa using h1
                           omega
  subst hi';exact⟨(),rfl,trivial,trivial⟩)
theorem xu:au (Y Tryz.prog).G.X 66 qX:=aU fF AX ⟨zK,trivial⟩
structure bA where
 key:ByteArray
 pos:Int
 has:Bool
 gone:Bool
 deriving Inhabited
def wg(p:bA):List Value:=[.string p.key,.int .i64 p.pos,.bool p.has,.bool p.gone]
def ksP:List CK:=[.str,.int .i64,.bool,.bool]
def IJ(key:ByteArray):Int:=eu (fun _=>key) 1
def dM(L:Nat)(key:ByteArray):Nat:=(IJ key).toNat%L
def hit(key:ByteArray)(p:bA):Bool:=p.has&&decide (p.key=key)
def bare(p:bA):Bool:=!p.has&&!p.gone
def fJ(t:List bA)(key:ByteArray):Nat->Nat->Int->Int×Int
 |0,_,free=>(-1,free)
 |k+1,i,free=>if hit key (gl t i)then((i:Int),(i:Int))else
  let f:=if !(gl t i).has&&decide (free<0)then(i:Int)else free
  if bare (gl t i)then(-1,f)else fJ t key k ((i+1)%t.length) f
def bQ(t:List bA)(key:ByteArray):Int×Int:=fJ t key t.length (dM t.length key) (-1)
def qh(o a:Nat)(t:List bA)(cap n used:Nat):List (Nat×Chunk):=[(o,.obj 247 [.slc a 0 4 t.length cap,.int .i64 n,.int .i64 used]),(a,.arr 251 ksP t.length (aa wg t))]
theorem XR{k:IntKind}{n:Int}(h:bR k n):k.wrap n=n:=by
 cases k<;>simp only[bR]at h<;>simp[IntKind.wrap,IntKind.bits,IntKind.signed,Int.emod_def]<;>omega
theorem Ru(a b:Int):0<=PM a b/\PM a b<18446744073709551616:=by
 unfold PM dL;simp only[FI,uw];omega
theorem FA(key:ByteArray):0<=IJ key:=(Ru _ _).1
theorem qY{L:Nat}(key:ByteArray)(h:1<=L):dM L key<L:=Nat.mod_lt _ h
theorem start_eq{L:Nat}(key:ByteArray)(h:1<=L)(h2:L<100000):uw .i64 (eu (fun _=>key) 1%uw .u64 (L:Int))=(dM L key:Int):=by
 have e1:uw .u64 (L:Int)=L:=by simp only[uw];omega
 have h0:=FA key;have h3:=qY key h;have e2:IJ key%(L:Int)=(dM L key:Int):=by
  unfold dM;rw[Int.natCast_emod,Int.toNat_of_nonneg h0]
 rw[e1];show uw .i64 (IJ key%(L:Int))=_;rw[e2];exact XR (by simp only[bR];omega)
theorem XS{i L:Nat}:((i:Int)+1).tmod (L:Int)=(((i+1)%L:Nat):Int):=by
 rw[Int.tmod_eq_emod_of_nonneg (by omega),Int.natCast_emod];rfl
theorem AY{t:List bA}{key:ByteArray}{i at_:Nat}{free:Int}{r:Int×Int}(hi:i<t.length)(h:fJ t key (t.length-i) at_ free=r) :
 (if hit key (gl t at_)then((at_:Int),(at_:Int))else
 if bare (gl t at_)then(-1,if !(gl t at_).has&&decide (free<0)then(at_:Int)else free)else fJ t key (t.length-(i+1)) ((at_+1)%t.length) (if !(gl t at_).has&&decide (free<0)then(at_:Int)else free))=r:=by
 rw[<- h,show t.length-i=(t.length-(i+1))+1 by omega];rfl
structure qZ where
 t:List bA
 cap:Nat
 n:Nat
 used:Nat
 key:ByteArray
noncomputable def Gf:cG where
 α:=qZ
 β:=Unit
 m:=2
 m':=2
 pre:=fun a=>1<=a.t.length/\a.t.length<100000/\a.key.size<=aq
 args:=fun a=>[.a (.ptr 0 0 0 0),.a (.str a.key)]
 hp:=fun _=>[]
 ro:=fun a=>qh 0 1 a.t a.cap a.n a.used
 post:=fun _ _=>True
 res:=fun a _=>.ng [.a (.int .i64 (bQ a.t a.key).1),.a (.int .i64 (bQ a.t a.key).2)]
 cR:=fun _ _=>[]
def aaM(a:qZ):An:=.flat 4 (Nat×Nat×Int) (fun s x=>((s.int 25 x.1).int 7 x.2.1).set 6 (.a (.int .i64 x.2.2)))
 (fun _ x=>x.1<=a.t.length/\x.2.1<a.t.length/\-1<=x.2.2/\x.2.2<a.t.length/\fJ a.t a.key (a.t.length-x.1) x.2.1 x.2.2=bQ a.t a.key) (fun _ x=>a.t.length-x.1)
def _root_.IK(y:Nat×Nat×Int)(x:Ix.qZ):=y.snd.fst<x.t.length/\(-1:Int)<=y.snd.snd/\y.snd.snd<af x.t.length/\Ix.fJ x.t x.key (x.t.length-y.fst) y.snd.fst y.snd.snd=Ix.bQ x.t x.key
def _root_.mM(y:Int)(x:Int×Int)(z:Int)(u:Prop):=y=x.fst/\z=x.snd/\u
def _root_.NG(x:Ix.qZ)(y:Prop):=mJ (af x.t.length) 0 0 (0=0) (fm x.key/\bh x.t.length x.cap/\aP x.n (aP x.used (eF x.t.length 4 (aa Ix.wg x.t)/\y)))
def _root_.kC(x:List Ix.bA)(y:Nat):Ix.bA:=gl x (0+ax y)
def _root_.NH(x:Ix.qZ)(y:Nat×Nat×Int)(u:Int):=qp (bq (Ix.bA.has (kC x.t y.snd.fst))) (bq (Ix.bA.gone (kC x.t y.snd.fst))) (Exists (az (mM (-1:Int) (Ix.bQ x.t x.key) u (True/\True)))) (aQ y.snd.fst (af x.t.length≠(0:Int)/\aQ y.fst (∃z:Nat×Nat×Int,u=z.snd.snd/\Int.tmod (aY y.snd.fst) (af x.t.length)=af z.snd.fst/\aY y.fst=af z.fst/\NG x (dD z.fst x.t.length (IK z x) y.fst))))
def _root_.wh(y z:Nat)(u:ByteArray)(v w:Nat->ByteArray)(s:Prop):=gJ 1 y 1 z 1 (aF 1 (bP (bJ u))) (fun x t=>bJ (v x)) ((y<100000/\∀x:Nat,x<y->bp (w x)<=aq)/\aB s)
theorem UG:fnBody (Y Tryz.prog) [(66,qX)] 168 Gf fun a=>[(168,[aaM a],[])]:=fnBody.of (p :=
 ∀y:Ix.qZ,iT 1 y.t.length (bp y.key<=aq)->∃z:Ix.IG,wh z.n z.cap y.key (fun x=>z.g x) (fun x=>z.g x) (cD (af y.t.length)≠(0:Int)/\(∃x:Nat×Nat×Int,(-1:Int)=x.snd.snd/\pM (Ix.eu z.g z.n%cD (af y.t.length))=af x.snd.fst/\aT x.fst (NG y ((x.fst<=y.t.length/\IK x y)/\True)))/\∀x:Nat×Nat×Int,x.fst<=y.t.length/\IK x y->aD (bM x.fst y.t.length) (dh x.snd.fst y.t.length (qp (Ix.bA.has (kC y.t x.snd.fst)) (gn (Ix.bA.key (kC y.t x.snd.fst)) y.key) (Exists (az (mM (af x.snd.fst) (Ix.bQ y.t y.key) (af x.snd.fst) (True/\True)))) (qp (bq (Ix.bA.has (kC y.t x.snd.fst))) (aK x.snd.snd 0) (NH y x (af x.snd.fst)) (NH y x x.snd.snd)))) (Exists (az (mM (-1:Int) (Ix.bQ y.t y.key) x.snd.snd (True/\True)))))) (by kernel_rfl) (by
 delta qp aD mJ eF ai bF aG ay ax dm aK aY af bP bf aC aR bw dV bp aB dD aP NH bJ cD bh gJ IK bM aT az ag mM wh bq aQ dh NG gn fm iT kC pM
 try dsimp -iota -proj only
 intro a h;obtain⟨h1,h2,h3⟩:=h;have hst:=qY a.key h1;refine⟨⟨fun _=>a.key,1,1⟩,?_⟩;simp only[Nat.zero_add,Int.toNat_natCast,start_eq a.key h1 h2,XS];refine⟨⟨trivial,trivial,trivial⟩,⟨Nat.le_refl _,.dB fun j hj=>?_⟩,⟨by omega,fun _ _=>h3⟩,fun _ _=>⟨by simp only[uw];omega,⟨(0,dM a.t.length a.key,-1),?_⟩,fun x hx=>?_⟩⟩
 ·have:j=0:=by omega
  subst this;rfl
 ·dsimp only
  and_intros<;>(first|exact trivial|rfl|omega|assumption|exact ak.refl _ _ _|(simp only[bR];omega)|(simp;done)|(simp;omega)|grind)
 ·obtain⟨i,at_,free⟩:=x;obtain⟨i1,i2,i3,i4,i5⟩:=hx;dsimp only at *;have hmod:(at_+1)%a.t.length<a.t.length:=Nat.mod_lt _ h1;have stop:i=a.t.length->bQ a.t a.key=(-1,free):=by
   intro e;rw[<- i5,e,Nat.sub_self];rfl
  have step:=fun hi=>AY (i:=i) hi i5;simp only[bR]
  repeat' (first|intro _|apply And.intro|apply Exists.intro ()|apply Exists.intro ((i+1,(at_+1)%a.t.length,_):Nat×Nat×Int))
  all_goals(try with_reducible rfl)
  all_goals(try exact ak.refl _ _ _)
  all_goals(try dsimp only)
  all_goals(try simp only[decide_eq_true_eq,decide_eq_false_iff_not]at *)
  all_goals(try omega)
  all_goals(try(have h9:=step (by omega);grind [hit,bare]))
  all_goals(try(have h9:=stop (by omega);rw[h9])))
theorem zL:au (Y Tryz.prog).G.X 168 Gf:=aU fF UG ⟨xu,trivial⟩
structure cT where
 t:List bA
 n:Nat
 used:Nat
def ot(x:cT)(key:ByteArray):Int:=if 0<=(bQ x.t key).1 then(gl x.t (bQ x.t key).1.toNat).pos else 0
def mZ(x:cT)(key:ByteArray)(pos:Int):cT :=
 if 0<=(bQ x.t key).1 then { x with t:=x.t.set (bQ x.t key).1.toNat { gl x.t (bQ x.t key).1.toNat with pos:=pos } }
 else⟨x.t.set (bQ x.t key).2.toNat ⟨key,pos,true,false⟩,x.n+1,if(gl x.t (bQ x.t key).2.toNat).gone then x.used else x.used+1⟩
theorem oU(x:cT)(key:ByteArray)(pos:Int):(mZ x key pos).t.length=x.t.length:=by unfold mZ;split<;>simp
theorem BT(t:List bA)(key:ByteArray)(h:1<=t.length):∀(k i:Nat) (f:Int),i<t.length->f<t.length->(fJ t key k i f).1<t.length/\(fJ t key k i f).2<t.length
 |0,i,f,hi,hf=>by simp only[fJ];omega
 |k+1,i,f,hi,hf=>by
  have h1:(if !(gl t i).has&&decide (f<0)then(i:Int)else f)<t.length:=by split<;>omega
  unfold fJ;by_cases hh:hit key (gl t i)=true
  ·rw[if_pos hh];exact⟨by simp only;omega,by simp only;omega⟩
  ·rw[if_neg hh];dsimp only;by_cases hb:bare (gl t i)=true
   ·rw[if_pos hb];exact⟨by simp only;omega,h1⟩
   ·rw[if_neg hb];exact BT t key h k _ _ (Nat.mod_lt _ h) h1
theorem wk{t:List bA}(key:ByteArray)(h:1<=t.length):(bQ t key).1<t.length/\(bQ t key).2<t.length :=
 BT t key h _ _ _ (qY key h) (by omega)
structure mC where
 x:cT
 cap:Nat
 key:ByteArray
 pos:Int
noncomputable def UH:cG where
 α:=mC
 β:=Unit
 m:=2
 m':=2
 pre:=fun a=>1<=a.x.t.length/\a.x.t.length<100000/\a.key.size<=aq/\2*a.x.used<a.x.t.length/\a.x.n<100000/\((bQ a.x.t a.key).1<0->0<=(bQ a.x.t a.key).2)
 args:=fun a=>[.a (.ptr 0 0 0 0),.a (.str a.key),.a (.int .i64 a.pos)]
 hp:=fun a=>qh 0 1 a.x.t a.cap a.x.n a.x.used
 ro:=fun _=>[]
 post:=fun _ _=>True
 res:=fun a _=>.a (.int .i64 (ot a.x a.key))
 cR:=fun a _=>qh 0 1 (mZ a.x a.key a.pos).t a.cap (mZ a.x a.key a.pos).n (mZ a.x a.key a.pos).used
noncomputable def UI:cG where
 α:=Unit
 β:=Unit
 m:=1
 m':=1
 pre:=fun _=>False
 args:=fun _=>[.a (.ptr 0 0 0 0)]
 hp:=fun _=>[]
 ro:=fun _=>[]
 post:=fun _ _=>True
 res:=fun _ _=>.a .any
 cR:=fun _ _=>[]
theorem Rv(f:Nat):au (Y Tryz.prog).G.X f UI:=aU fF (jK:=[]) (l:=fun _=>[]) ⟨fun a h=>False.elim h⟩ trivial
def _root_.cq(x:Ix.cT):Nat:=x.t.length
def _root_.ef(x:Ix.cT):Nat->Nat->Value:=aa Ix.wg x.t
def _root_.q9(x:Int)(y:Nat)(z:Prop):=dm x y (0+aR x) z
def _root_.yP(z:ByteArray)(x:Ix.qZ)(y:Ix.cT)(u:Nat)(v:Bool)(w:Prop)(s:Int)(f:Prop):=ag (z=x.key/\ag (cq y=x.t.length/\u=x.cap)/\bC y.n x.n/\bC y.used x.used/\aG x.t.length (cq y) 4 (ef y) (aa Ix.wg x.t)/\iT 1 x.t.length (bp x.key<=aq)/\aB (aD v w (q9 s (cq y) f)))
def _root_.pT(x:Ix.qZ):Nat:=0+aR (Ix.bQ x.t x.key).fst
def _root_.PO(z:Ix.mC)(x:Ix.qZ)(y:Ix.cT)(u:Nat)(v w s:Prop):=yP z.key x y u (cn 0 (Ix.bQ x.t x.key).fst) (dm (Ix.bQ x.t x.key).fst (cq y) (pT x) (ai (gl y.t (pT x)).pos->dm (Ix.bQ x.t x.key).fst (cq y) (pT x) v)) (Ix.bQ x.t x.key).snd (aD (bq (gl y.t (0+aR (Ix.bQ x.t x.key).snd)).gone) (ai (af y.used)->aQ y.used (q9 (Ix.bQ x.t x.key).snd (cq y) (ai (af y.n)->aQ y.n w))) (q9 (Ix.bQ x.t x.key).snd (cq y) (ai (af y.n)->aQ y.n s)))
def _root_.qi(y:Nat)(x:Ix.cT)(z:Prop)(u v:Int)(w:Nat->Nat->Value)(s t:Prop):=ag (y=cq x/\z)/\u=af x.n/\v=af x.used/\aG (cq x) y 4 w (ef x)/\s/\t
def _root_.Gg(u:Ix.cT)(x:Ix.mC)(y v:Ix.cT)(w:Prop)(s:Int)(z:Ix.qZ):=(0:Int)=Ix.ot u x.key/\qi (cq y) v w (aY y.n) s (kQ (ef y) (0+aR (Ix.bQ z.t z.key).snd) 0 (dI x.key x.pos (bw (ew true) (bP gf)))) True True
def _root_.IL(x:Ix.cT)(y:Ix.qZ)(u:Ix.cT)(z:Ix.mC)(v:Ix.cT)(w:Prop):=(gl x.t (pT y)).pos=Ix.ot u z.key/\qi (cq x) v w (af x.n) (af x.used) (kQ (ef x) (pT y) 1 (gp z.pos)) True True
def _root_.NI(y:Ix.mC):=∃z:Ix.qZ,PO y z y.x y.cap (Exists (az (IL y.x z y.x y (Ix.mZ y.x y.key y.pos) (dV y.cap)))) (Exists (az (Gg y.x y y.x (Ix.mZ y.x y.key y.pos) (dV y.cap) (aY y.x.used) z))) (Exists (az (Gg y.x y y.x (Ix.mZ y.x y.key y.pos) (dV y.cap) (af y.x.used) z)))
def _root_.AZ(x:Ix.cT)(z:Nat)(y:ByteArray):=2*x.used<z/\x.n<100000/\((Ix.bQ x.t y).fst<(0:Int)->(0:Int)<=(Ix.bQ x.t y).snd)
theorem UJ:fnBody (Y Tryz.prog) [(168,Gf),(167,UI)] 123 UH fun _=>[]:=fnBody.of (p :=
 ∀y:Ix.mC,iT 1 (cq y.x) (bp y.key<=aq/\AZ y.x (cq y.x) y.key)->ai (af y.x.used)->pO ((2:Int)*af y.x.used) (af (cq y.x)) (Exists (az (ag (False/\aB (NI y))))) (NI y)) (by kernel_rfl) (by
 delta aD ai aG bT dm aY cq af bP bf aC aR dW bw dV PO Gg bp aB qi bJ yP IL cn az gf ag NI pO AZ bq dI aQ pT bC ef iT gp q9 ew
 try dsimp -iota -proj only
 intro a h;obtain⟨h1,h2,h3,h4,h5,h6⟩:=h;obtain⟨l1,l2⟩:=wk a.key h1;have hl:=oU a.x a.key a.pos;have yes:0<=(bQ a.x.t a.key).1->mZ a.x a.key a.pos={ a.x with t:=a.x.t.set (bQ a.x.t a.key).1.toNat { gl a.x.t (bQ a.x.t a.key).1.toNat with pos:=a.pos } }:=fun e=>if_pos e;have no:¬0<=(bQ a.x.t a.key).1->mZ a.x a.key a.pos=⟨a.x.t.set (bQ a.x.t a.key).2.toNat ⟨a.key,a.pos,true,false⟩,a.x.n+1,if(gl a.x.t (bQ a.x.t a.key).2.toNat).gone then a.x.used else a.x.used+1⟩:=fun e=>if_neg e;simp only[Nat.zero_add,bR];refine fun _=>⟨by omega,fun e=>absurd e (by simp;omega),fun _=>⟨⟨a.x.t,a.cap,a.x.n,a.x.used,a.key⟩,?_⟩⟩
 dsimp only
 repeat' (first|intro _|apply And.intro|apply Exists.intro ())
 all_goals(try with_reducible rfl)
 all_goals(try simp only[decide_eq_true_eq,decide_eq_false_iff_not,Bool.not_eq_true',Bool.not_eq_false']at *)
 all_goals(try exact trivial)
 all_goals(try omega)
 all_goals(try(grind [ot]))
 all_goals(try(with_reducible exact ak.refl _ _ _))
 all_goals(first|(rw[yes (by assumption)];refine .set _ (by omega) (fun i hi=>by simp only[iz hi]) ?_;simp only[jB];rfl)|(rw[no (by assumption)];refine .set _ (by omega) (fun i hi=>by simp only[iz hi]) ?_;simp only[jB];rfl)))
theorem UK:au (Y Tryz.prog).G.X 123 UH:=aU fF UJ ⟨zL,Rv _,trivial⟩
def eC(t:List bA)(y:cT):Nat->cT
 |0=>y
 |i+1=>if(gl t i).has then mZ (eC t y i) (gl t i).key (gl t i).pos else eC t y i
def bU(n:Nat):cT:=⟨List.replicate n ⟨.empty,0,false,false⟩,0,0⟩
theorem l8(t:List bA)(y:cT):∀i,(eC t y i).t.length=y.t.length
 |0=>rfl
 |i+1=>by
  unfold eC;split
  ·rw[oU,l8 t y i]
  ·exact l8 t y i
theorem uB{α:Type}[Inhabited α]{n i:Nat}{x:α}(h:i<n):gl (List.replicate n x) i=x:=by
 rw[bL (by simpa using h)];simp
def l9(x:cT):cT:=eC x.t (bU (max 16 (4*x.n))) x.t.length
structure BU where
 x:cT
 cap:Nat
noncomputable def UL:cG where
 α:=BU
 β:=Nat
 m:=2
 m':=3
 pre:=fun a=>1<=a.x.t.length/\a.x.t.length<100000/\a.x.n<10000/\(∀i,i<a.x.t.length->(gl a.x.t i).key.size<=aq) /\
  ∀i,i<a.x.t.length->(gl a.x.t i).has=true->2*(eC a.x.t (bU (max 16 (4*a.x.n))) i).used<max 16 (4*a.x.n)/\(eC a.x.t (bU (max 16 (4*a.x.n))) i).n<100000 /\
   ((bQ (eC a.x.t (bU (max 16 (4*a.x.n))) i).t (gl a.x.t i).key).1<0->0<=(bQ (eC a.x.t (bU (max 16 (4*a.x.n))) i).t (gl a.x.t i).key).2)
 args:=fun a=>[.a (.ptr 0 0 0 0)]
 hp:=fun a=>[(0,.obj 247 [.slc 1 0 4 a.x.t.length a.cap,.int .i64 a.x.n,.int .i64 a.x.used])]
 ro:=fun a=>[(1,.arr 251 ksP a.x.t.length (aa wg a.x.t))]
 post:=fun _ _=>True
 res:=fun _ _=>.ng []
 cR:=fun a cap=>qh 0 2 (l9 a.x).t cap (l9 a.x).n (l9 a.x).used
def aaN(a:BU):An:=.flat 3 (Nat×Nat) (fun s x=>(((s.at_ (s.tg 0) (.obj 247 [.slc (s.qx (s.tg 0) 0) 0 4 (max 16 (4*a.x.n)) x.2,.int .i64 (eC a.x.t (bU (max 16 (4*a.x.n))) x.1).n,.int .i64 (eC a.x.t (bU (max 16 (4*a.x.n))) x.1).used])).at_ (s.qx (s.tg 0) 0) (.arr 251 ksP (max 16 (4*a.x.n)) (aa wg (eC a.x.t (bU (max 16 (4*a.x.n))) x.1).t))).int 21 x.1))
 (fun _ x=>x.1<=a.x.t.length) (fun _ x=>a.x.t.length-x.1)
def _root_.lZ(y:Ix.BU)(z:Nat):Ix.cT:=Ix.eC y.x.t (Ix.bU (max 16 (4*y.x.n))) z
def _root_.IM(y:Ix.BU):=iT 1 (cq y.x) (y.x.n<10000/\(∀z:Nat,z<cq y.x->bp (gl y.x.t z).key<=aq)/\∀z:Nat,z<cq y.x->aC (gl y.x.t z).has->AZ (lZ y z) (max 16 (4*y.x.n)) (gl y.x.t z).key)
def _root_.NJ(v:Nat×Nat)(y:Ix.BU)(w:Nat×Nat->Prop)(u:Ix.cT)(s:Nat):=iS v fun z=>uc (cq y.x) y.cap (ag (w z/\bC u.n (Ix.cT.n (lZ y z.fst))/\bC u.used (Ix.cT.used (lZ y z.fst))/\eF (cq y.x) 4 (ef y.x)/\aG (max 16 (4*y.x.n)) s 4 (ef u) (ef (lZ y z.fst))/\bS z.fst (cq y.x) v.fst))
def _root_.A0(y:Ix.BU):Int:=qf true 16 ((4:Int)*af y.x.n)
def _root_.IN:Nat->Nat->Value:=fun(y x:Nat)=>aW (dI cA 0 (bw gf (bP gf))) x
theorem UM:fnBody (Y Tryz.prog) [(123,UH)] 167 UL fun a=>[(167,[aaN a],[])]:=fnBody.of (p :=
 ∀y:Ix.BU,IM y->ai (af y.x.n)->ai ((4:Int)*af y.x.n)/\mE (A0 y) ((32:Int)*A0 y) ((∃z:Nat×Nat,aT z.fst (uc (cq y.x) y.cap (ag (ag (aR (A0 y)=max 16 (4*y.x.n)/\aR (A0 y)=z.snd)/\aT (Ix.cT.n (lZ y z.fst)) (aT (Ix.cT.used (lZ y z.fst)) (eF (cq y.x) 4 (ef y.x)/\aG (max 16 (4*y.x.n)) (aR (A0 y)) 4 IN (ef (lZ y z.fst))/\z.fst<=cq y.x/\True))))))/\∀z:Nat×Nat,gm z.fst (cq y.x) (aD (Ix.bA.has (kC y.x.t z.fst)) (ai (Ix.bA.pos (kC y.x.t z.fst))->∃u:Ix.mC,ag (Ix.bA.key (kC y.x.t z.fst)=u.key/\Ix.bA.pos (kC y.x.t z.fst)=u.pos/\qi (max 16 (4*y.x.n)) u.x (z.snd=u.cap) (af (Ix.cT.n (lZ y z.fst))) (af (Ix.cT.used (lZ y z.fst))) (ef (lZ y z.fst)) (iT 1 (cq u.x) (bp u.key<=aq/\AZ u.x (cq u.x) u.key)) (aB (NJ z y (fun w=>ag (cq (Ix.mZ u.x u.key u.pos)=max 16 (4*y.x.n)/\u.cap=w.snd)) (Ix.mZ u.x u.key u.pos) (cq (Ix.mZ u.x u.key u.pos)))))) (NJ z y (fun v=>bF (max 16 (4*y.x.n)) (z.snd=v.snd)) (lZ y z.fst) (max 16 (4*y.x.n)))) (∃v:Nat,qi (max 16 (4*y.x.n)) (Ix.l9 y.x) (z.snd=v) (af (Ix.cT.n (lZ y z.fst))) (af (Ix.cT.used (lZ y z.fst))) (ef (lZ y z.fst)) True True))) (by kernel_rfl) (by
 delta aD eF aW ai bF aG ay bT ax dm qf aK aY cA cq af bP bf gA aC aR dW bw dV bp aB jD qi bS bJ lZ bh iS mE bM aT IM gf NJ ag AZ dI aQ gm dh bC A0 ef uc iT ew IN kC
 try dsimp -iota -proj only
 intro a h;obtain⟨h1,h2,h3,h4,h5⟩:=h;obtain⟨M,hM⟩:∃M,M=max 16 (4*a.x.n):=⟨_,rfl⟩
 have hMi:(max 16 (4*(a.x.n:Int)):Int)=(M:Int):=by omega
 simp only[cond_true,<- hM]at h5 ⊢;simp only[hMi,Nat.zero_add,Int.toNat_natCast];have hlen:∀i,(eC a.x.t (bU M) i).t.length=M:=fun i=>by rw[l8];simp[bU]
 have hg:l9 a.x=eC a.x.t (bU M) a.x.t.length:=by unfold l9;rw[<- hM]
 rw[hg,hlen];refine fun _=>⟨by simp only[bR];omega,by omega,by omega,by omega,⟨(0,M),?_⟩,fun x hx=>?_⟩
 ·dsimp only
  and_intros<;>first|exact ak.refl _ _ _|skip
  all_goals first|exact trivial|rfl|omega|skip
  refine .dB fun i hi=>?_;unfold aa;rw[show gl (eC a.x.t (bU M) 0).t i=⟨.empty,0,false,false⟩from uB hi];rfl
 ·obtain⟨i,cap⟩:=x;have hx':i<=a.x.t.length:=hx;have h6:=h5 i;have sy:(gl a.x.t i).has=true->eC a.x.t (bU M) (i+1)=mZ (eC a.x.t (bU M) i) (gl a.x.t i).key (gl a.x.t i).pos:=fun e=>if_pos e;have sn:(gl a.x.t i).has=false->eC a.x.t (bU M) (i+1)=eC a.x.t (bU M) i:=fun e=>if_neg (by rw[e];decide);have se:¬i<a.x.t.length->eC a.x.t (bU M) a.x.t.length=eC a.x.t (bU M) i:=fun e=>by rw[show a.x.t.length=i by omega]
  dsimp only at *
  repeat' (first|intro _|apply And.intro|apply Exists.intro (mC.mk (eC a.x.t (bU M) i) cap _ _)|apply Exists.intro ((i+1,cap):Nat×Nat)|apply Exists.intro (cap:Nat))
  all_goals(try with_reducible rfl)
  all_goals(try with_reducible exact ak.refl _ _ _)
  all_goals(try dsimp only)
  all_goals(try simp only[decide_eq_true_eq,decide_eq_false_iff_not,Bool.not_eq_true',Bool.not_eq_false',bR]at *)
  all_goals(try simp only[hlen,oU])
  all_goals(try exact trivial)
  all_goals(try omega)
  all_goals first
   |exact h4 i (by omega)
   |exact(h6 (by omega) (by assumption)).1
   |exact(h6 (by omega) (by assumption)).2.1
   |exact(h6 (by omega) (by assumption)).2.2 (by assumption)
   |(rw[sy (by assumption)];done)
   |(rw[sy (by assumption)];exact ak.refl _ _ _)
   |(rw[sn (by assumption)];done)
   |(rw[sn (by assumption)];exact ak.refl _ _ _)
   |(rw[se (by omega)];done)
   |(rw[se (by omega)];exact ak.refl _ _ _))
theorem UN:au (Y Tryz.prog).G.X 167 UL:=aU fF UM ⟨UK,trivial⟩
def nH(p:bA):ByteArray×Int:=(p.key,p.pos)
def eU(t:List bA):List (ByteArray×Int):=(t.filter (·.has)).map nH
def busy(p:bA):Bool:=!bare p
structure Inv(x:cT):Prop where
 lo:16<=x.t.length
 hi:x.t.length<=40000
 n:x.n=(eU x.t).length
 used:x.used=x.t.countP busy
 half:2*x.used<x.t.length+2
 size:∀i,i<x.t.length->(gl x.t i).key.size<=aq
 UO:∀i j,i<x.t.length->j<x.t.length->(gl x.t i).has=true->(gl x.t j).has=true->(gl x.t i).key=(gl x.t j).key->i=j
 path:∀i,i<x.t.length->(gl x.t i).has=true->∃d,d<x.t.length/\(dM x.t.length (gl x.t i).key+d)%x.t.length=i/\∀k,k<d->bare (gl x.t ((dM x.t.length (gl x.t i).key+k)%x.t.length))=false
theorem Lp{s d L:Nat}:((s+d)%L+1)%L=(s+(d+1))%L:=by rw[Nat.mod_add_mod,Nat.add_assoc]
theorem xw{key:ByteArray}{p:bA}:hit key p=true↔p.has=true/\p.key=key:=by simp[hit]
theorem D6{t:List bA}{key:ByteArray}{i0 d0:Nat}(hL:1<=t.length)(hi:i0<t.length)(hh:hit key (gl t i0)=true)(hd:d0<t.length)
 (hp:(dM t.length key+d0)%t.length=i0) (hb:∀k,k<d0->bare (gl t ((dM t.length key+k)%t.length))=false)
 (hu:∀j,j<t.length->hit key (gl t j)=true->j=i0):∀(m d:Nat) (f:Int),d+m=d0->fJ t key (t.length-d) ((dM t.length key+d)%t.length) f=((i0:Int),(i0:Int))
 |0,d,f,hm=>by
  have:d=d0:=by omega
  subst this;rw[hp,show t.length-d=(t.length-d-1)+1 by omega];simp only[fJ,hh,if_true]
 |m+1,d,f,hm=>by
  have hlt:(dM t.length key+d)%t.length<t.length:=Nat.mod_lt _ hL;rw[show t.length-d=(t.length-(d+1))+1 by omega];by_cases h:hit key (gl t ((dM t.length key+d)%t.length))=true
  ·have:=hu _ hlt h;rw[this]at h ⊢;simp only[fJ,h,if_true]
  ·simp only[fJ,h,if_false,hb d (by omega),Bool.false_eq_true];rw[Lp];exact D6 hL hi hh hd hp hb hu m (d+1) _ (by omega)
theorem Gh{t:List bA}{key:ByteArray}(hL:1<=t.length)(hu:∀j,j<t.length->hit key (gl t j)=false):∀(k i:Nat) (f:Int),i<t.length->0<=f->fJ t key k i f=(-1,f)
 |0,i,f,hi,hf=>rfl
 |k+1,i,f,hi,hf=>by
  have h1:(!(gl t i).has&&decide (f<0))=false:=by simp;omega
  simp only[fJ,hu i hi,Bool.false_eq_true,if_false,h1];split
  ·rfl
  ·exact Gh hL hu k _ f (Nat.mod_lt _ hL) hf
theorem Gi{t:List bA}{key:ByteArray}{d0:Nat}(hL:1<=t.length)(hd:d0<t.length)(hu:∀j,j<t.length->hit key (gl t j)=false)
 (hf:(gl t ((dM t.length key+d0)%t.length)).has=false) (hb:∀k,k<d0->(gl t ((dM t.length key+k)%t.length)).has=true) :
 ∀(m d:Nat),d+m=d0->fJ t key (t.length-d) ((dM t.length key+d)%t.length) (-1)=(-1,(((dM t.length key+d0)%t.length:Nat):Int))
 |0,d,hm=>by
  have:d=d0:=by omega
  subst this;have hlt:(dM t.length key+d)%t.length<t.length:=Nat.mod_lt _ hL;rw[show t.length-d=(t.length-d-1)+1 by omega];have h1:(!(gl t ((dM t.length key+d)%t.length)).has&&decide ((-1:Int)<0))=true:=by simp[hf]
  simp only[fJ,hu _ hlt,Bool.false_eq_true,if_false,h1,if_true];split
  ·rfl
  ·exact Gh hL hu _ _ _ (Nat.mod_lt _ hL) (by omega)
 |m+1,d,hm=>by
  have hlt:(dM t.length key+d)%t.length<t.length:=Nat.mod_lt _ hL;rw[show t.length-d=(t.length-(d+1))+1 by omega];have h0:=hb d (by omega);have h1:(!(gl t ((dM t.length key+d)%t.length)).has&&decide ((-1:Int)<0))=false:=by simp[h0]
  have h2:bare (gl t ((dM t.length key+d)%t.length))=false:=by simp[bare,h0]
  simp only[fJ,hu _ hlt,Bool.false_eq_true,if_false,h1,h2];rw[Lp];exact Gi hL hd hu hf hb m (d+1) (by omega)
theorem Gj{L:Nat}{key:ByteArray}(hL:1<=L):(dM L key+0)%L=dM L key:=by
 rw[Nat.add_zero,Nat.mod_eq_of_lt (qY key hL)]
theorem BV{x:cT}(h:Inv x){i:Nat}(hi:i<x.t.length)(hh:(gl x.t i).has=true):bQ x.t (gl x.t i).key=((i:Int),(i:Int)):=by
 obtain⟨d,h1,h2,h3⟩:=h.path i hi hh;have hL:1<=x.t.length:=by have:=h.lo;omega
 have:=D6 (key:=(gl x.t i).key) hL hi (xw.2 ⟨hh,rfl⟩) h1 h2 h3 (fun j hj hj2=>h.UO j i hj hi (xw.1 hj2).1 hh (xw.1 hj2).2) d 0 (-1) (by omega);rwa[Gj hL,Nat.sub_zero]at this
theorem road{L s i:Nat}(hs:s<L)(hi:i<L):∃d,d<L/\(s+d)%L=i:=by
 by_cases h:s<=i
 ·exact⟨i-s,by omega,by rw[show s+(i-s)=i by omega];exact Nat.mod_eq_of_lt hi⟩
 ·refine⟨L+i-s,by omega,?_⟩;rw[show s+(L+i-s)=i+L by omega,Nat.add_mod_right];exact Nat.mod_eq_of_lt hi
theorem Gk:∀(t:List bA),t.countP busy<t.length->∃i,i<t.length/\(gl t i).has=false
 |[],h=>absurd h (Nat.not_lt_zero _)
 |p::r,h=>by
  cases hp:p.has with
  |false=>exact⟨0,by simp,hp⟩
  |true =>
   have hb:busy p=true:=by simp[busy,bare,hp]
   rw[List.countP_cons_of_pos hb]at h;obtain⟨i,h1,h2⟩:=Gk r (by simpa using h);exact⟨i+1,by simp;omega,h2⟩
theorem first{p:Nat->Bool}:∀d,p d=true->∃d0,d0<=d/\p d0=true/\∀k,k<d0->p k=false:=by
 intro d
 induction d using Nat.strongRecOn with
 |ind d ih =>
  intro h;by_cases hx:∃k,k<d/\p k=true
  ·obtain⟨k,hk,hp⟩:=hx;obtain⟨d0,a,b,c⟩:=ih k hk hp;exact⟨d0,by omega,b,c⟩
  ·refine⟨d,Nat.le_refl _,h,fun k hk=>?_⟩;cases hp:p k with
   |false=>rfl
   |true=>exact absurd ⟨k,hk,hp⟩ hx
def NK(t:List bA)(key:ByteArray):Prop:=∀j,j<t.length->hit key (gl t j)=false
theorem D7{t:List bA}{key:ByteArray}(hL:1<=t.length)(hu:NK t key)(hr:t.countP busy<t.length) :
 ∃d i,d<t.length/\(dM t.length key+d)%t.length=i/\i<t.length/\(gl t i).has=false/\(∀k,k<d->(gl t ((dM t.length key+k)%t.length)).has=true)/\bQ t key=(-1,(i:Int)):=by
 obtain⟨i,h1,h2⟩:=Gk t hr;obtain⟨d,h3,h4⟩:=road (qY key hL) h1;obtain⟨d0,g1,g2,g3⟩:=first (p:=fun d=>!(gl t ((dM t.length key+d)%t.length)).has) d (by simp[h4,h2])
 simp only[Bool.not_eq_true',Bool.not_eq_false']at g2 g3;have:=Gi hL (show d0<t.length by omega) hu g2 g3 d0 0 (by omega);rw[Gj hL,Nat.sub_zero]at this;exact⟨d0,_,by omega,rfl,Nat.mod_lt _ hL,g2,g3,this⟩
theorem Lq{t:List bA}{i:Nat}(h:i<t.length):t=t.take i++gl t i::t.drop (i+1):=by
 rw[bL h,List.getElem_cons_drop,List.take_append_drop]
theorem Gl{t:List bA}{i:Nat}{q:bA}(h:i<t.length):t.set i q=t.take i++q::t.drop (i+1):=by
 rw[List.set_eq_take_append_cons_drop,if_pos h]
theorem zM(a b:List bA):eU (a++b)=eU a++eU b:=by simp[eU]
theorem qA(p:bA)(r:List bA):eU (p::r)=(if p.has then[nH p]else[])++eU r:=by
 unfold eU;rw[List.filter_cons];split<;>simp
theorem zN{t:List bA}{i:Nat}(h:i<t.length):eU t=eU (t.take i)++((if(gl t i).has then[nH (gl t i)]else[])++eU (t.drop (i+1))):=by
 conv=>lhs;rw[Lq h]
 rw[zM,qA]
theorem D8{t:List bA}{i:Nat}{q:bA}(h:i<t.length):eU (t.set i q)=eU (t.take i)++((if q.has then[nH q]else[])++eU (t.drop (i+1))):=by
 rw[Gl h,zM,qA]
theorem NL{t:List bA}{i:Nat}(h:i<t.length):t.countP busy=(t.take i).countP busy+((t.drop (i+1)).countP busy+if busy (gl t i)then 1 else 0):=by
 conv=>lhs;rw[Lq h]
 rw[List.countP_append,List.countP_cons]
theorem IP{t:List bA}{i:Nat}{q:bA}(h:i<t.length):(t.set i q).countP busy=(t.take i).countP busy+((t.drop (i+1)).countP busy+if busy q then 1 else 0):=by
 rw[Gl h,List.countP_append,List.countP_cons]
theorem zO{t:List bA}{k:ByteArray}{p:Int}:(k,p)∈eU t↔∃i,i<t.length/\(gl t i).has=true/\(gl t i).key=k/\(gl t i).pos=p:=by
 unfold eU;simp only[List.mem_map,List.mem_filter,nH,Prod.mk.injEq];constructor
 ·rintro⟨q,⟨h1,h2⟩,h3,h4⟩;obtain⟨i,hi,rfl⟩:=List.getElem_of_mem h1;exact⟨i,hi,by rw[bL hi];exact h2,by rw[bL hi];exact h3,by rw[bL hi];exact h4⟩
 ·rintro⟨i,h1,h2,h3,h4⟩;exact⟨_,⟨ym h1,h2⟩,h3,h4⟩
theorem NM{t:List bA}{k:ByteArray}:NK t k↔k∉(eU t).map Prod.fst:=by
 constructor
 ·intro h hm;obtain⟨⟨k',p⟩,h1,rfl⟩:=List.mem_map.1 hm;obtain⟨i,h2,h3,h4,_⟩:=zO.1 h1;have:=h i h2;rw[xw.2 ⟨h3,h4⟩]at this;cases this
 ·intro h j hj;cases hh:hit k (gl t j)with
  |false=>rfl
  |true =>
   obtain⟨h1,h2⟩:=xw.1 hh;exact absurd (List.mem_map.2 ⟨(k,(gl t j).pos),zO.2 ⟨j,hj,h1,h2,rfl⟩,rfl⟩) h
structure Has(x:cT)(l:List (ByteArray×Int)):Prop where
 inv:Inv x
 perm:(eU x.t).Perm l
theorem Has.zP{x:cT}{l m:List (ByteArray×Int)}(h:Has x l)(p:l.Perm m):Has x m:=⟨h.inv,h.perm.trans p⟩
theorem Has.n{x:cT}{l:List (ByteArray×Int)}(h:Has x l):x.n=l.length:=by rw[h.inv.n,h.perm.length_eq]
theorem Has.mem{x:cT}{l:List (ByteArray×Int)}(h:Has x l){k:ByteArray}{p:Int}(hm:(k,p)∈l):∃i:Nat,i<x.t.length/\(gl x.t i).has=true/\(gl x.t i).key=k/\(gl x.t i).pos=p/\bQ x.t k=((i:Int),(i:Int)):=by
 obtain⟨i,h1,h2,h3,h4⟩:=zO.1 (h.perm.mem_iff.2 hm);refine⟨i,h1,h2,h3,h4,?_⟩;rw[<- h3];exact BV h.inv h1 h2
theorem Has.none{x:cT}{l:List (ByteArray×Int)}(h:Has x l){k:ByteArray}(hm:k∉l.map Prod.fst):NK x.t k:=NM.2 fun hk=>hm ((h.perm.map _).mem_iff.1 hk)
theorem Inv.room{x:cT}(h:Inv x):x.t.countP busy<x.t.length:=by have:=h.half;have:=h.used;have:=h.lo;omega
theorem Has.tv{x:cT}{l:List (ByteArray×Int)}(h:Has x l){k:ByteArray}(hm:k∉l.map Prod.fst):(bQ x.t k).1 = -1/\0<=(bQ x.t k).2:=by
 obtain⟨d,i,_,_,_,_,_,e⟩:=D7 (by have:=h.inv.lo;omega) (h.none hm) h.inv.room;rw[e];exact⟨rfl,by simp⟩
theorem Inv.set{x:cT}(h:Inv x){i:Nat}(hi:i<x.t.length){q:bA}(hb:bare q=false)(hs:q.key.size<=aq)
 (hd:q.has=true->∀j,j<x.t.length->j≠i->(gl x.t j).has=true->(gl x.t j).key≠q.key)
 (hp:q.has=true->∃d,d<x.t.length/\(dM x.t.length q.key+d)%x.t.length=i/\∀k,k<d->bare (gl x.t ((dM x.t.length q.key+k)%x.t.length))=false)
 {n' u':Nat} (hn:n'=(eU (x.t.set i q)).length) (hu:u'=(x.t.set i q).countP busy) (hh:2*u'<x.t.length+2):Inv ⟨x.t.set i q,n',u'⟩:=by
 have hl:(x.t.set i q).length=x.t.length:=by simp
 have key:∀j,gl (x.t.set i q) j=if i=j then q else gl x.t j:=by
  intro j;by_cases e:i=j
  ·subst e;rw[if_pos rfl,vD hi]
  ·rw[if_neg e,Av e]
 have bb:∀j,bare (gl x.t j)=false->bare (gl (x.t.set i q) j)=false:=by
  intro j hj;rw[key];split
  ·exact hb
  ·exact hj
 refine⟨by rw[hl];exact h.lo,by rw[hl];exact h.hi,hn,hu,by rw[hl];exact hh,fun j hj=>?_,fun a b ha hb' h1 h2 h3=>?_,fun j hj hj2=>?_⟩
 ·rw[hl]at hj;rw[key];split
  ·exact hs
  ·exact h.size j hj
 ·simp only[hl]at ha hb';simp only[key]at h1 h2 h3;by_cases e1:i=a
  ·by_cases e2:i=b
   ·omega
   ·rw[if_pos e1]at h1 h3;rw[if_neg e2]at h2 h3;exact absurd h3.symm (hd h1 b hb' (fun e=>e2 e.symm) h2)
  ·by_cases e2:i=b
   ·rw[if_neg e1]at h1 h3;rw[if_pos e2]at h2 h3;exact absurd h3 (hd h2 a ha (fun e=>e1 e.symm) h1)
   ·rw[if_neg e1]at h1 h3;rw[if_neg e2]at h2 h3;exact h.UO a b ha hb' h1 h2 h3
 ·simp only[hl]at hj ⊢;simp only[key]at hj2;by_cases e:i=j
  ·rw[if_pos e]at hj2;subst e;obtain⟨d,h1,h2,h3⟩:=hp hj2;rw[show gl (x.t.set i q) i=q by rw[key,if_pos rfl]];exact⟨d,h1,h2,fun k hk=>bb _ (h3 k hk)⟩
  ·rw[if_neg e]at hj2;obtain⟨d,h1,h2,h3⟩:=h.path j hj hj2;rw[show gl (x.t.set i q) j=gl x.t j by rw[key,if_neg e]];exact⟨d,h1,h2,fun k hk=>bb _ (h3 k hk)⟩
theorem D9{p:bA}(h:p.has=true):busy p=true:=by simp[busy,bare,h]
theorem Rw{x:cT}{l:List (ByteArray×Int)}{k:ByteArray}{p q:Int}(h:Has x ((k,q)::l)):Has (mZ x k p) ((k,p)::l)/\ot x k=q/\0<=(bQ x.t k).1:=by
 obtain⟨i,h1,h2,h3,h4,h5⟩:=h.mem List.mem_cons_self;have e:mZ x k p=⟨x.t.set i { gl x.t i with pos:=p },x.n,x.used⟩:=by
  unfold mZ;rw[h5];simp
 have hk:(eU x.t).Perm ((k,q)::(eU (x.t.take i)++eU (x.t.drop (i+1)))):=by
  rw[zN h1,h2];have:nH (gl x.t i)=(k,q):=by simp[nH,h3,h4]
  rw[if_pos rfl,this];exact List.perm_middle
 have hk':(eU (x.t.set i { gl x.t i with pos:=p })).Perm ((k,p)::(eU (x.t.take i)++eU (x.t.drop (i+1)))):=by
  rw[D8 h1];simp only[h2,if_true,nH,h3];exact List.perm_middle
 have hl:(eU (x.t.take i)++eU (x.t.drop (i+1))).Perm l:=(List.perm_cons _).1 (hk.symm.trans h.perm);refine⟨⟨?_,?_⟩,by unfold ot;rw[h5];simp[h4],by rw[h5];simp⟩
 ·rw[e];refine h.inv.set (q:={ gl x.t i with pos:=p }) h1 (by simp[bare,h2]) (h.inv.size i h1) (fun _ j hj hne hj2 he=>hne (h.inv.UO j i hj h1 hj2 h2 he)) (fun _=>h.inv.path i h1 h2) ?_ ?_ h.inv.half
  ·rw[h.inv.n,hk.length_eq,hk'.length_eq];rfl
  ·rw[h.inv.used,NL h1,IP h1,D9 h2,D9 (p:={ gl x.t i with pos:=p }) h2]
 ·rw[e];exact hk'.trans (hl.cons _)
theorem PR{x:cT}{l:List (ByteArray×Int)}{k:ByteArray}{p:Int}(h:Has x l)(hk:k∉l.map Prod.fst)(hs:k.size<=aq)(hr:2*x.used<x.t.length) :
 Has (mZ x k p) ((k,p)::l)/\ot x k=0/\(bQ x.t k).1<0/\0<=(bQ x.t k).2/\(mZ x k p).used<=x.used+1/\(mZ x k p).n=x.n+1:=by
 obtain⟨d,i,h1,h2,h3,h4,h5,h6⟩:=D7 (by have:=h.inv.lo;omega) (h.none hk) h.inv.room;have e:mZ x k p=⟨x.t.set i ⟨k,p,true,false⟩,x.n+1,if(gl x.t i).gone then x.used else x.used+1⟩:=by
  unfold mZ;rw[h6];simp
 have hp0:eU x.t=eU (x.t.take i)++eU (x.t.drop (i+1)):=by rw[zN h3,h4];simp
 have hp1:(eU (x.t.set i ⟨k,p,true,false⟩)).Perm ((k,p)::eU x.t):=by
  rw[D8 h3,hp0];simp only[if_true,nH];exact List.perm_middle
 have hb:busy (gl x.t i)=(gl x.t i).gone:=by simp[busy,bare,h4]
 refine⟨⟨?_,?_⟩,by unfold ot;rw[h6];simp,by rw[h6];simp,by rw[h6];simp,by rw[e];simp only;split<;>omega,by rw[e]⟩
 ·rw[e];refine h.inv.set (q:=⟨k,p,true,false⟩) h3 rfl hs (fun _ j hj hne hj2 he=>?_) (fun _=>⟨d,h1,h2,fun k hk=>by simp[bare,h5 k hk]⟩) ?_ ?_ (by split<;>omega)
  ·have:=h.none hk j hj;rw[xw.2 ⟨hj2,he⟩]at this;cases this
  ·rw[hp1.length_eq,List.length_cons,h.inv.n]
  ·rw[IP h3,h.inv.used,NL h3,hb];cases hg:(gl x.t i).gone<;>simp[busy,bare]<;>omega
 ·rw[e];exact hp1.trans (h.perm.cons _)
def xT:bA:=⟨.empty,0,false,true⟩
def jM(x:cT)(k:ByteArray):cT:=if 0<=(bQ x.t k).1 then⟨x.t.set (bQ x.t k).1.toNat xT,x.n-1,x.used⟩else x
theorem Ea{x:cT}{l:List (ByteArray×Int)}{k:ByteArray}{q:Int}(h:Has x ((k,q)::l)):Has (jM x k) l/\0<=(bQ x.t k).1:=by
 obtain⟨i,h1,h2,h3,h4,h5⟩:=h.mem List.mem_cons_self;have e:jM x k=⟨x.t.set i xT,x.n-1,x.used⟩:=by unfold jM;rw[h5];simp
 have hk:(eU x.t).Perm ((k,q)::(eU (x.t.take i)++eU (x.t.drop (i+1)))):=by
  rw[zN h1,h2];have:nH (gl x.t i)=(k,q):=by simp[nH,h3,h4]
  rw[if_pos rfl,this];exact List.perm_middle
 have hk':eU (x.t.set i xT)=eU (x.t.take i)++eU (x.t.drop (i+1)):=by rw[D8 h1];rfl
 have hl:(eU (x.t.take i)++eU (x.t.drop (i+1))).Perm l:=(List.perm_cons _).1 (hk.symm.trans h.perm);refine⟨⟨?_,?_⟩,by rw[h5];simp⟩
 ·rw[e];refine h.inv.set (q:=xT) h1 rfl (by unfold aq;decide) (fun hc=>by cases hc) (fun hc=>by cases hc) ?_ ?_ h.inv.half
  ·rw[h.inv.n,hk.length_eq,hk'];rfl
  ·rw[h.inv.used,NL h1,IP h1,D9 h2];rfl
 ·rw[e,hk'];exact hl
theorem Rx{x:cT}{l:List (ByteArray×Int)}{k:ByteArray}(h:Has x l)(hk:k∉l.map Prod.fst):jM x k=x:=by
 unfold jM;rw[(h.tv hk).1];rfl
def low(p:Int)(q:bA):Bool:=q.has&&decide (q.pos<p)
def eV(t:List bA)(p:Int):Nat->List bA
 |0=>t
 |i+1=>if low p (gl t i)then(eV t p i).set i xT else eV t p i
def dX(t:List bA)(p:Int):Nat->Nat
 |0=>0
 |i+1=>dX t p i+if low p (gl t i)then 1 else 0
def wm(x:cT)(p:Int):cT:=⟨eV x.t p x.t.length,x.n-dX x.t p x.t.length,x.used⟩
theorem jj(t:List bA)(p:Int):∀i,(eV t p i).length=t.length
 |0=>rfl
 |i+1=>by unfold eV;split<;>simp[jj t p i]
theorem A1(t:List bA)(p:Int):∀i,i<=t.length->∀j,gl (eV t p i) j=if j<i/\low p (gl t j)then xT else gl t j
 |0,_,j=>by simp[eV]
 |i+1,hi,j=>by
  have ih:=A1 t p i (by omega) j;unfold eV;by_cases h:low p (gl t i)=true
  ·rw[if_pos h];by_cases hj:i=j
   ·subst hj;rw[vD (by rw[jj];omega),if_pos ⟨by omega,h⟩]
   ·rw[Av hj,ih]
    grind
  ·rw[if_neg h,ih];by_cases hj:i=j
   ·subst hj;rw[if_neg (by simp),if_neg (fun hc=>h hc.2)]
   ·grind
theorem BW{x:cT}{l:List (ByteArray×Int)}(h:Has x l)(p:Int):∀i,i<=x.t.length ->
 Has ⟨eV x.t p i,x.n-dX x.t p i,x.used⟩ (((x.t.take i).filter fun q=>q.has&&!low p q).map nH++eU (x.t.drop i))/\dX x.t p i=((x.t.take i).filter (low p)).length
 |0,_=>⟨⟨h.inv,by simp[eV]⟩,rfl⟩
 |i+1,hi=>by
  obtain⟨⟨i1,i2⟩,i3⟩:=BW h p i (by omega);have hT:=A1 x.t p i (by omega) i;rw[if_neg (by simp)]at hT;have hLen:=jj x.t p i;rw[fD (by omega),List.filter_append,List.filter_append,List.map_append,List.length_append,<- i3];have hdrop:eU (x.t.drop i)=(if(gl x.t i).has then[nH (gl x.t i)]else[])++eU (x.t.drop (i+1)):=by
   rw[<- qA,bL (by omega),List.getElem_cons_drop]
  rw[hdrop]at i2;by_cases hl:low p (gl x.t i)=true
  ·have hh:(gl x.t i).has=true:=by simp[low]at hl;exact hl.1
   have e1:eV x.t p (i+1)=(eV x.t p i).set i xT:=if_pos hl;have e2:dX x.t p (i+1)=dX x.t p i+1:=by show dX x.t p i+(if low p (gl x.t i)=true then 1 else 0)=_;rw[if_pos hl]
   have h0:Has ⟨eV x.t p i,x.n-dX x.t p i,x.used⟩ ((nH (gl x.t i))::(((x.t.take i).filter fun q=>q.has&&!low p q).map nH++eU (x.t.drop (i+1)))):=by
    refine⟨i1,i2.trans ?_⟩;rw[if_pos hh];exact List.perm_middle
   have h1:=Ea (x:=⟨eV x.t p i,x.n-dX x.t p i,x.used⟩) h0;have hf:=BV i1 (i:=i) (by simp only;omega) (by simp only;rw[hT];exact hh);simp only at hf;rw[hT]at hf;have e3:jM ⟨eV x.t p i,x.n-dX x.t p i,x.used⟩ (gl x.t i).key=⟨(eV x.t p i).set i xT,x.n-(dX x.t p i+1),x.used⟩:=by
    unfold jM;simp only;rw[hf];simp;omega
   refine⟨?_,by rw[e2];simp[hl]⟩;rw[e1,e2,<- e3];simp only[List.filter_cons,hl,hh,Bool.not_true,Bool.and_false,List.filter_nil,List.map_nil,List.append_nil,Bool.false_eq_true,if_false];exact h1.1
  ·have e1:eV x.t p (i+1)=eV x.t p i:=if_neg hl;have e2:dX x.t p (i+1)=dX x.t p i:=by show dX x.t p i+(if low p (gl x.t i)=true then 1 else 0)=_;rw[if_neg hl];rfl
   refine⟨⟨?_,?_⟩,by rw[e2];simp[hl]⟩
   ·rw[e1,e2];exact i1
   ·rw[e1];refine i2.trans (.of_eq ?_);cases hh:(gl x.t i).has<;>simp[hl,hh]
theorem Gm{α:Type}(f:α->Bool):∀l:List α,l.length=(l.filter f).length+(l.filter fun e=>!f e).length
 |[]=>rfl
 |a::r=>by
  have:=Gm f r;cases h:f a<;>simp[List.filter_cons,h]<;>omega
theorem Ry{x:cT}{l:List (ByteArray×Int)}(h:Has x l)(p:Int):Has (wm x p) (l.filter fun e=>decide (p<=e.2))/\dX x.t p x.t.length=l.length-(l.filter fun e=>decide (p<=e.2)).length/\dX x.t p x.t.length<=l.length:=by
 obtain⟨h1,h2⟩:=BW h p x.t.length (Nat.le_refl _);rw[List.take_length]at h1 h2;rw[List.drop_length]at h1;have e:((x.t.filter fun q=>q.has&&!low p q).map nH++eU [])=(eU x.t).filter fun e=>decide (p<=e.2):=by
  unfold eU;rw[List.filter_map,List.filter_filter];simp only[List.filter_nil,List.map_nil,List.append_nil];congr 1;apply List.filter_congr;intro q _;simp only[Function.comp,low,nH];by_cases hc:q.pos<p
  ·have hd:¬p<=q.pos:=by omega
   cases hq:q.has<;>simp[hc,hd]
  ·have hd:p<=q.pos:=by omega
   cases hq:q.has<;>simp[hc,hd]
 rw[e]at h1;have hp:=(h.perm.filter fun e=>decide (p<=e.2))
 have e2:(x.t.filter (low p)).length=((eU x.t).filter fun e=>!decide (p<=e.2)).length:=by
  unfold eU;rw[List.filter_map,List.length_map,List.filter_filter];congr 1;apply List.filter_congr;intro q _;simp only[Function.comp,low,nH];by_cases hc:q.pos<p
  ·have hd:¬p<=q.pos:=by omega
   cases hq:q.has<;>simp[hc,hd]
  ·have hd:p<=q.pos:=by omega
   cases hq:q.has<;>simp[hc,hd]
 have e3:=Gm (fun e:ByteArray×Int=>decide (p<=e.2)) (eU x.t);refine⟨h1.zP hp,?_,?_⟩
 ·rw[h2,e2,<- hp.length_eq,<- h.perm.length_eq];omega
 ·rw[h2,e2,<- h.perm.length_eq];omega
theorem xx{n:Nat}(h1:16<=n)(h2:n<=40000):Has (bU n) []:=by
 have key:∀i,i<n->gl (List.replicate n (⟨.empty,0,false,false⟩:bA)) i=⟨.empty,0,false,false⟩:=fun i hi=>uB hi;have he:eU (List.replicate n (⟨.empty,0,false,false⟩:bA))=[]:=by simp[eU]
 refine⟨⟨by simpa[bU]using h1,by simpa[bU]using h2,?_,?_,by simp only[bU,List.length_replicate];omega,fun i hi=>?_,fun i j hi hj h=>?_,fun i hi h=>?_⟩,by simp only[bU];rw[he]⟩
 ·simp only[bU];rw[he];rfl
 ·simp[bU,List.countP_replicate,busy,bare]
 ·simp only[bU,List.length_replicate]at hi ⊢;rw[key i hi];simp only[aq];decide
 ·simp only[bU,List.length_replicate]at hi h;rw[key i hi]at h;cases h
 ·simp only[bU,List.length_replicate]at hi h;rw[key i hi]at h;cases h
theorem Eb{x:cT}(h:Inv x){i:Nat}(hi:i<x.t.length)(hh:(gl x.t i).has=true):(gl x.t i).key∉(eU (x.t.take i)).map Prod.fst:=by
 intro hm;obtain⟨⟨k,p⟩,h1,h2⟩:=List.mem_map.1 hm;obtain⟨j,h3,h4,h5,_⟩:=zO.1 h1;rw[List.length_take]at h3;rw[Pw (by omega)]at h4 h5;have:=h.UO j i (by omega) hi h4 hh (h5.trans h2);omega
theorem grow_step{x:cT}(h:Inv x)(hn:x.n<10000):∀i,i<=x.t.length ->
 Has (eC x.t (bU (max 16 (4*x.n))) i) (eU (x.t.take i))/\(eC x.t (bU (max 16 (4*x.n))) i).used<=(eC x.t (bU (max 16 (4*x.n))) i).n
 |0,_=>⟨by simpa[eC,eU]using xx (n:=max 16 (4*x.n)) (by omega) (by omega),Nat.le_refl _⟩
 |i+1,hi=>by
  obtain⟨h1,h2⟩:=grow_step h hn i (by omega);have hT:=fD (l:=x.t) (i:=i) (by omega);rw[hT,zM];unfold eC;by_cases hh:(gl x.t i).has=true
  ·rw[if_pos hh];have hcount:(eU (x.t.take i)).length+1<=x.n:=by
    rw[h.n,zN (show i<x.t.length by omega),if_pos hh];simp
   have hlen:(eC x.t (bU (max 16 (4*x.n))) i).t.length=max 16 (4*x.n):=by rw[l8];simp[bU]
   obtain⟨g1,g2,g3,g4,g5,g6⟩:=PR (p:=(gl x.t i).pos) h1 (Eb h (by omega) hh) (h.size i (by omega)) (by rw[hlen];have:=h1.n;omega);refine⟨g1.zP ?_,by omega⟩;rw[qA,if_pos hh];simp only[eU,List.filter_nil,List.map_nil,List.append_nil];exact(List.perm_append_singleton _ _).symm
  ·rw[if_neg hh,qA,if_neg hh];simp only[eU,List.filter_nil,List.map_nil,List.append_nil];exact⟨h1,h2⟩
theorem UP{x:cT}(h:Inv x)(hn:x.n<10000):∀i,i<x.t.length->(gl x.t i).has=true->2*(eC x.t (bU (max 16 (4*x.n))) i).used<max 16 (4*x.n)/\(eC x.t (bU (max 16 (4*x.n))) i).n<100000 /\
 ((bQ (eC x.t (bU (max 16 (4*x.n))) i).t (gl x.t i).key).1<0->0<=(bQ (eC x.t (bU (max 16 (4*x.n))) i).t (gl x.t i).key).2):=by
 intro i hi hh;obtain⟨h1,h2⟩:=grow_step h hn i (by omega);have hcount:(eU (x.t.take i)).length+1<=x.n:=by
  rw[h.n,zN hi,if_pos hh];simp
 have:=h1.n;exact⟨by omega,by omega,fun _=>(h1.tv (Eb h hi hh)).2⟩
theorem UQ{x:cT}{l:List (ByteArray×Int)}(h:Has x l)(hn:x.n<10000):Has (l9 x) l/\2*(l9 x).used<(l9 x).t.length:=by
 obtain⟨h1,h2⟩:=grow_step h.inv hn x.t.length (Nat.le_refl _);rw[List.take_length]at h1;refine⟨h1.zP h.perm,?_⟩;have hlen:(l9 x).t.length=max 16 (4*x.n):=by unfold l9;rw[l8];simp[bU]
 have e1:=h1.n;have e2:=h.inv.n;rw[hlen];unfold l9;omega
def roomy(x:cT):cT:=if x.t.length<=2*x.used then l9 x else x
def vh(x:cT)(k:ByteArray)(p:Int):cT:=mZ (roomy x) k p
theorem A2{x:cT}{l:List (ByteArray×Int)}(h:Has x l)(hn:x.n<10000):Has (roomy x) l/\2*(roomy x).used<(roomy x).t.length:=by
 unfold roomy;split
 ·exact UQ h hn
 ·exact⟨h,by omega⟩
theorem NN{x:cT}{l:List (ByteArray×Int)}{k:ByteArray}{p q:Int}(h:Has x ((k,q)::l))(hn:x.n<10000):Has (vh x k p) ((k,p)::l)/\ot (roomy x) k=q :=
 let h1:=A2 h hn
 let h2:=Rw (p:=p) h1.1
 ⟨h2.1,h2.2.1⟩
theorem UR{x:cT}{l:List (ByteArray×Int)}{k:ByteArray}{p:Int}(h:Has x l)(hn:x.n<10000)(hk:k∉l.map Prod.fst)(hs:k.size<=aq):Has (vh x k p) ((k,p)::l)/\ot (roomy x) k=0 :=
 let h1:=A2 h hn
 let h2:=PR (p:=p) h1.1 hk hs h1.2
 ⟨h2.1,h2.2.1⟩
theorem Has.free{x:cT}{l:List (ByteArray×Int)}(h:Has x l)(k:ByteArray)(hf:(bQ x.t k).1<0):0<=(bQ x.t k).2:=by
 by_cases hk:k∈l.map Prod.fst
 ·obtain⟨⟨k',p⟩,h1,rfl⟩:=List.mem_map.1 hk;obtain⟨i,_,_,_,_,e⟩:=h.mem h1;rw[e]at hf;simp at hf;omega
 ·exact(h.tv hk).2
def yQ(x:cT)(k:ByteArray):Int×Bool:=if 0<=(bQ x.t k).1 then((gl x.t (bQ x.t k).1.toNat).pos,true)else(0,false)
theorem Gn{x:cT}{l:List (ByteArray×Int)}(h:Has x l){k:ByteArray}{p:Int}(hm:(k,p)∈l):yQ x k=(p,true):=by
 obtain⟨i,_,_,_,h4,e⟩:=h.mem hm;unfold yQ;rw[e];simp[h4]
theorem get_none{x:cT}{l:List (ByteArray×Int)}(h:Has x l){k:ByteArray}(hm:k∉l.map Prod.fst):yQ x k=(0,false):=by
 unfold yQ;rw[(h.tv hm).1];rfl
noncomputable def Dz:cG where
 α:=mC
 β:=Nat
 m:=2
 m':=3
 pre:=fun a=>Inv a.x/\a.x.n<9999/\a.key.size<=aq
 args:=fun a=>[.a (.ptr 0 0 0 0),.a (.str a.key),.a (.int .i64 a.pos)]
 hp:=fun a=>qh 0 1 a.x.t a.cap a.x.n a.x.used
 ro:=fun _=>[]
 post:=fun _ _=>True
 res:=fun a _=>.a (.int .i64 (ot (roomy a.x) a.key))
 cR:=fun a cap=>qh 0 2 (vh a.x a.key a.pos).t cap (vh a.x a.key a.pos).n (vh a.x a.key a.pos).used
def _root_.NO(y:Ix.mC)(z:Ix.cT)(v:Nat):=∃w:Ix.qZ,PO y w z v (∃u:Nat,IL z w (Ix.roomy y.x) y (Ix.vh y.x y.key y.pos) (v=u)) (∃u:Nat,Gg (Ix.roomy y.x) y z (Ix.vh y.x y.key y.pos) (v=u) (aY z.used) w) (∃u:Nat,Gg (Ix.roomy y.x) y z (Ix.vh y.x y.key y.pos) (v=u) (af z.used) w)
def _root_.A3(y:Ix.mC):=Ix.Inv y.x/\y.x.n<9999/\bp y.key<=aq
theorem HN:fnBody (Y Tryz.prog) [(168,Gf),(167,UL)] 123 Dz fun _=>[]:=fnBody.of (p :=
 ∀y:Ix.mC,A3 y->ai (af y.x.used)->pO ((2:Int)*af y.x.used) (af (cq y.x)) (∃z:Ix.BU,ag (qi (cq y.x) z.x (y.cap=z.cap) (af y.x.n) (af y.x.used) (ef y.x) (IM z) (∀u:Nat,True->NO y (Ix.l9 z.x) u))) (NO y y.x y.cap)) (by kernel_rfl) (by
 delta aD ai aG bT dm aY cq af bP bf aC aR dW bw PO Gg bp aB qi bJ lZ yP IL cn IM gf NO ag pO AZ bq dI aQ pT bC ef iT gp q9 ew A3
 try dsimp -iota -proj only
 intro a h;obtain⟨h1,h2,h3⟩:=h;obtain⟨g1,g2⟩:=A2 (Has.mk h1 (List.Perm.refl _)) (show a.x.n<10000 by omega);have k1:=h1.lo;have k2:=h1.hi;have k3:=h1.half;simp only[Nat.zero_add,bR];refine fun _=>⟨by omega,fun hc=>?_,fun hc=>?_⟩
 ·have hr:roomy a.x=l9 a.x:=if_pos (by simp at hc;omega);have hpx:vh a.x a.key a.pos=mZ (l9 a.x) a.key a.pos:=by unfold vh;rw[hr]
  have hn:(l9 a.x).n=a.x.n:=by rw[hr]at g1;rw[g1.n,h1.n]
  have hm:=UP h1 (show a.x.n<10000 by omega);simp only[hr,hpx]at g1 g2 ⊢;refine⟨⟨a.x,a.cap⟩,?_⟩;dsimp only
  and_intros<;>first|exact trivial|rfl|omega|exact ak.refl _ _ _|exact h1.size|exact hm|skip
  refine fun cap _=>⟨⟨(l9 a.x).t,cap,(l9 a.x).n,(l9 a.x).used,a.key⟩,?_⟩
  generalize l9 a.x=y at *;have m1:=g1.inv.lo;have m2:=g1.inv.hi;have m3:=g1.inv.half;obtain⟨l1,l2⟩:=wk (t:=y.t) a.key (by omega);have l3:=g1.free a.key;have hl:=oU y a.key a.pos;have yes:0<=(bQ y.t a.key).1->mZ y a.key a.pos={ y with t:=y.t.set (bQ y.t a.key).1.toNat { gl y.t (bQ y.t a.key).1.toNat with pos:=a.pos } }:=fun e=>if_pos e;have no:¬0<=(bQ y.t a.key).1->mZ y a.key a.pos=⟨y.t.set (bQ y.t a.key).2.toNat ⟨a.key,a.pos,true,false⟩,y.n+1,if(gl y.t (bQ y.t a.key).2.toNat).gone then y.used else y.used+1⟩:=fun e=>if_neg e;dsimp only
  repeat' (first|intro _|apply And.intro|apply Exists.intro (cap:Nat))
  all_goals(try with_reducible rfl)
  all_goals(try simp only[decide_eq_true_eq,decide_eq_false_iff_not,Bool.not_eq_true',Bool.not_eq_false']at *)
  all_goals(try exact trivial)
  all_goals(try omega)
  all_goals(try(grind [ot]))
  all_goals(try(with_reducible exact ak.refl _ _ _))
  all_goals(first|(rw[yes (by assumption)];refine .set _ (by omega) (fun i hi=>by simp only[iz hi]) ?_;simp only[jB];rfl)|(rw[no (by assumption)];refine .set _ (by omega) (fun i hi=>by simp only[iz hi]) ?_;simp only[jB];rfl))
 ·have hr:roomy a.x=a.x:=if_neg (by simp at hc;omega);have hpx:vh a.x a.key a.pos=mZ a.x a.key a.pos:=by unfold vh;rw[hr]
  simp only[hr,hpx]at g1 g2 ⊢;refine⟨⟨a.x.t,a.cap,a.x.n,a.x.used,a.key⟩,?_⟩;have hn:a.x.n=a.x.n:=rfl;obtain⟨cap,hcap⟩:∃cap,cap=a.cap:=⟨_,rfl⟩
  rw[<- hcap];generalize hy:a.x=y at *;have m1:=g1.inv.lo;have m2:=g1.inv.hi;have m3:=g1.inv.half;obtain⟨l1,l2⟩:=wk (t:=y.t) a.key (by omega);have l3:=g1.free a.key;have hl:=oU y a.key a.pos;have yes:0<=(bQ y.t a.key).1->mZ y a.key a.pos={ y with t:=y.t.set (bQ y.t a.key).1.toNat { gl y.t (bQ y.t a.key).1.toNat with pos:=a.pos } }:=fun e=>if_pos e;have no:¬0<=(bQ y.t a.key).1->mZ y a.key a.pos=⟨y.t.set (bQ y.t a.key).2.toNat ⟨a.key,a.pos,true,false⟩,y.n+1,if(gl y.t (bQ y.t a.key).2.toNat).gone then y.used else y.used+1⟩:=fun e=>if_neg e;dsimp only
  repeat' (first|intro _|apply And.intro|apply Exists.intro (cap:Nat))
  all_goals(try with_reducible rfl)
  all_goals(try simp only[decide_eq_true_eq,decide_eq_false_iff_not,Bool.not_eq_true',Bool.not_eq_false']at *)
  all_goals(try exact trivial)
  all_goals(try omega)
  all_goals(try(grind [ot]))
  all_goals(try(with_reducible exact ak.refl _ _ _))
  all_goals(first|(rw[yes (by assumption)];refine .set _ (by omega) (fun i hi=>by simp only[iz hi]) ?_;simp only[jB];rfl)|(rw[no (by assumption)];refine .set _ (by omega) (fun i hi=>by simp only[iz hi]) ?_;simp only[jB];rfl)))
structure vj where
 x:cT
 cap:Nat
 key:ByteArray
noncomputable def KY:cG where
 α:=vj
 β:=Unit
 m:=2
 m':=2
 pre:=fun a=>Inv a.x/\a.key.size<=aq
 args:=fun a=>[.a (.ptr 0 0 0 0),.a (.str a.key)]
 hp:=fun _=>[]
 ro:=fun a=>qh 0 1 a.x.t a.cap a.x.n a.x.used
 post:=fun _ _=>True
 res:=fun a _=>.ng [.a (.int .i64 (yQ a.x a.key).1),.a (.bool (yQ a.x a.key).2)]
 cR:=fun _ _=>[]
theorem HO:fnBody (Y Tryz.prog) [(168,Gf)] 212 KY fun _=>[]:=fnBody.of (p :=
 ∀y:Ix.vj,Ix.Inv y.x/\bp y.key<=aq->∃z:Ix.qZ,yP y.key z y.x y.cap (aK (Ix.bQ z.t z.key).fst 0) (Exists (az ((0:Int)=(Ix.yQ y.x y.key).fst/\fV (Ix.yQ y.x y.key).snd True True))) (Ix.bQ z.t z.key).fst (ai (gl y.x.t (pT z)).pos->Exists (az ((gl y.x.t (pT z)).pos=(Ix.yQ y.x y.key).fst/\bt (true=(Ix.yQ y.x y.key).snd))))) (by kernel_rfl) (by
 delta aD ai aG dm aK cq af bf aC aR fV bp aB yP az ag pT bC ef iT q9 bt
 try dsimp -iota -proj only
 intro a h;obtain⟨h1,h2⟩:=h;have k1:=h1.lo;have k2:=h1.hi;obtain⟨l1,l2⟩:=wk (t:=a.x.t) a.key (by omega);refine⟨⟨a.x.t,a.cap,a.x.n,a.x.used,a.key⟩,?_⟩;simp only[Nat.zero_add,bR]
 repeat' (first|intro _|apply And.intro|apply Exists.intro ())
 all_goals(try with_reducible rfl)
 all_goals(try simp only[decide_eq_true_eq,decide_eq_false_iff_not]at *)
 all_goals(try exact trivial)
 all_goals(try omega)
 all_goals(try(with_reducible exact ak.refl _ _ _))
 all_goals(try(grind [yQ])))
noncomputable def PS:cG where
 α:=vj
 β:=Unit
 m:=2
 m':=2
 pre:=fun a=>Inv a.x/\a.x.n<10000/\a.key.size<=aq/\(0<=(bQ a.x.t a.key).1->1<=a.x.n)
 args:=fun a=>[.a (.ptr 0 0 0 0),.a (.str a.key)]
 hp:=fun a=>qh 0 1 a.x.t a.cap a.x.n a.x.used
 ro:=fun _=>[]
 post:=fun _ _=>True
 res:=fun a _=>.a (.bool (decide (0<=(bQ a.x.t a.key).1)))
 cR:=fun a _=>qh 0 1 (jM a.x a.key).t a.cap (jM a.x a.key).n (jM a.x a.key).used
def _root_.A4(y:Ix.vj):=Ix.Inv y.x/\y.x.n<10000/\bp y.key<=aq/\((0:Int)<=(Ix.bQ y.x.t y.key).fst->1<=y.x.n)
def _root_.IQ(x:Ix.cT)(y:Int)(z:Prop)(u:Ix.cT)(v:Nat)(w:Nat->Nat->Value):=mL (af x.n) y (Exists (az (z/\qi (cq x) u (dV v) (af x.n-y) (af x.used) w True True)))
theorem US:fnBody (Y Tryz.prog) [(168,Gf)] 180 PS fun _=>[]:=fnBody.of (p :=
 ∀y:Ix.vj,A4 y->∃z:Ix.qZ,yP y.key z y.x y.cap (aK (Ix.bQ z.t z.key).fst 0) (Exists (az (fV (cn 0 (Ix.bQ y.x.t y.key).fst) (ag (cq y.x=cq (Ix.jM y.x y.key)/\dV y.cap)) (bC y.x.n (Ix.jM y.x y.key).n/\bC y.x.used (Ix.jM y.x y.key).used/\bt (aG (cq (Ix.jM y.x y.key)) (cq y.x) 4 (ef y.x) (ef (Ix.jM y.x y.key))))))) (Ix.bQ z.t z.key).fst (IQ y.x 1 (true=cn 0 (Ix.bQ y.x.t y.key).fst) (Ix.jM y.x y.key) y.cap (kQ (ef y.x) (pT z) 0 (dI cA 0 (bw gf om))))) (by kernel_rfl) (by
 delta aD ai aG bT dm aK cA cq af bP bf aC aR dW fV bw dV bp aB qi bJ yP cn az gf ag mL om A4 dI pT bC ef iT q9 bt ew IQ
 try dsimp -iota -proj only
 intro a h;obtain⟨h1,h2,h3,h4⟩:=h;have k1:=h1.lo;have k2:=h1.hi;obtain⟨l1,l2⟩:=wk (t:=a.x.t) a.key (by omega);have yes:0<=(bQ a.x.t a.key).1->jM a.x a.key=⟨a.x.t.set (bQ a.x.t a.key).1.toNat xT,a.x.n-1,a.x.used⟩:=fun e=>if_pos e;have no:¬0<=(bQ a.x.t a.key).1->jM a.x a.key=a.x:=fun e=>if_neg e;refine⟨⟨a.x.t,a.cap,a.x.n,a.x.used,a.key⟩,?_⟩;simp only[Nat.zero_add,bR]
 repeat' (first|intro _|apply And.intro|apply Exists.intro ())
 all_goals(try with_reducible rfl)
 all_goals(try simp only[decide_eq_true_eq,decide_eq_false_iff_not]at *)
 all_goals(try exact trivial)
 all_goals(try omega)
 all_goals(try(with_reducible exact ak.refl _ _ _))
 all_goals(try(grind))
 all_goals(first|(rw[yes (by omega)];refine .set _ (by omega) (fun i hi=>by simp only[iz hi]) ?_;simp only[jB];rfl)|(rw[no (by omega)];exact ak.refl _ _ _)|skip))
structure NP where
 x:cT
 cap:Nat
 pos:Int
noncomputable def NQ:cG where
 α:=NP
 β:=Unit
 m:=2
 m':=2
 pre:=fun a=>Inv a.x/\a.x.n<10000/\dX a.x.t a.pos a.x.t.length<=a.x.n
 args:=fun a=>[.a (.ptr 0 0 0 0),.a (.int .i64 a.pos)]
 hp:=fun a=>qh 0 1 a.x.t a.cap a.x.n a.x.used
 ro:=fun _=>[]
 post:=fun _ _=>True
 res:=fun a _=>.a (.int .i64 (dX a.x.t a.pos a.x.t.length))
 cR:=fun a _=>qh 0 1 (wm a.x a.pos).t a.cap (wm a.x a.pos).n (wm a.x a.pos).used
def ZS(a:NP):An:=.flat 5 Nat (fun s i=>((s.at_ (s.qx (s.tg 0) 0) (.arr 251 ksP a.x.t.length (aa wg (eV a.x.t a.pos i)))).int 15 i).int 5 (dX a.x.t a.pos i))
 (fun _ i=>i<=a.x.t.length) (fun _ i=>a.x.t.length-i)
def _root_.u9(y:Bool)(z:Int)(u:Bool)(v x:Prop):=aD y (ai z->aD u v x) x
def _root_.IS(u:Int)(y:Ix.NP)(v:Int)(w:Nat->Nat->Value)(s:Nat->Prop):Nat->Prop:=fun(z:Nat)=>u=af (Ix.dX y.x.t y.pos z)/\v=af z/\fe (cq y.x) y.cap (mG (ay y.pos/\bh (cq y.x) y.cap/\aP y.x.n (aP y.x.used (aG (cq y.x) (cq y.x) 4 w (aa Ix.wg (Ix.eV y.x.t y.pos z))/\s z))))
def _root_.IT(y:Ix.NP):=Ix.Inv y.x/\y.x.n<10000/\Ix.dX y.x.t y.pos (cq y.x)<=y.x.n
theorem Rz:fnBody (Y Tryz.prog) [] 163 NQ fun a=>[(163,[ZS a],[])]:=fnBody.of (p :=
 ∀y:Ix.NP,IT y->Exists (IS 0 y 0 (ef y.x) fun z=>z<=cq y.x/\True)/\∀z:Nat,gm z (cq y.x) (u9 (Ix.bA.has (kC (Ix.eV y.x.t y.pos z) z)) (Ix.bA.pos (kC (Ix.eV y.x.t y.pos z) z)) (aK (Ix.bA.pos (kC (Ix.eV y.x.t y.pos z) z)) y.pos) (dh z (cq y.x) (aQ (Ix.dX y.x.t y.pos z) (aQ z (Exists (IS (aY (Ix.dX y.x.t y.pos z)) y (aY z) (kQ (aa Ix.wg (Ix.eV y.x.t y.pos z)) (0+ax z) 0 (dI cA 0 (bw gf om))) fun u=>bS u (cq y.x) z))))) (aQ z (Exists (IS (af (Ix.dX y.x.t y.pos z)) y (aY z) (aa Ix.wg (Ix.eV y.x.t y.pos z)) fun u=>bS u (cq y.x) z)))) (IQ y.x (af (Ix.dX y.x.t y.pos z)) (bC (Ix.dX y.x.t y.pos z) (Ix.dX y.x.t y.pos (cq y.x))) (Ix.wm y.x y.pos) y.cap (aa Ix.wg (Ix.eV y.x.t y.pos z)))) (by kernel_rfl) (by
 delta aD ai bF aG ay bT ax bn dm aK aY cA cq af bP bf aC aR dW bw dV u9 jD qi fe bI bS aP bJ aI bh IS bM az gf ag mL om dI aQ gm dh bC ef mG ew IQ kC IT
 try dsimp -iota -proj only
 intro a h;obtain⟨h1,h2,h3⟩:=h;have k1:=h1.lo;have k2:=h1.hi;simp only[Nat.zero_add,bR];have hlen:=jj a.x.t a.pos;refine⟨⟨0,?_⟩,fun i hi=>?_⟩
 ·and_intros<;>(first|exact trivial|rfl|omega|assumption|exact ak.refl _ _ _|(simp only[bR];omega)|(simp;done)|(simp;omega)|grind)
 ·have hat:=A1 a.x.t a.pos i hi i;rw[if_neg (by simp)]at hat;have sy:low a.pos (gl a.x.t i)=true->eV a.x.t a.pos (i+1)=(eV a.x.t a.pos i).set i xT:=fun e=>if_pos e;have sn:¬low a.pos (gl a.x.t i)=true->eV a.x.t a.pos (i+1)=eV a.x.t a.pos i:=fun e=>if_neg e;have ny:low a.pos (gl a.x.t i)=true->dX a.x.t a.pos (i+1)=dX a.x.t a.pos i+1:=fun e=>by show _+(if _ then 1 else 0)=_;rw[if_pos e]
  have nn:¬low a.pos (gl a.x.t i)=true->dX a.x.t a.pos (i+1)=dX a.x.t a.pos i:=fun e=>by show _+(if _ then 1 else 0)=_;rw[if_neg e];rfl
  have hn:∀i,dX a.x.t a.pos i<=i:=by
   intro i
   induction i with
   |zero=>exact Nat.le_refl _
   |succ i ih=>show _+(if _ then 1 else 0)<=_;split<;>omega
  have hn1:=hn i;have hfin:¬i<a.x.t.length->wm a.x a.pos=⟨eV a.x.t a.pos i,a.x.n-dX a.x.t a.pos i,a.x.used⟩/\dX a.x.t a.pos a.x.t.length=dX a.x.t a.pos i:=fun e=>by
   have:i=a.x.t.length:=by omega
   rw[this];exact⟨rfl,rfl⟩
  have ll:∀q:bA,low a.pos q=true↔q.has=true/\q.pos<a.pos:=fun q=>by simp[low]
  simp only[Int.toNat_natCast,hat]at *;clear hlen
  repeat' (first|intro _|apply And.intro|apply Exists.intro (i+1:Nat)|apply Exists.intro ())
  all_goals(try with_reducible rfl)
  all_goals(try simp only[decide_eq_true_eq,decide_eq_false_iff_not,jj]at *)
  all_goals(try exact trivial)
  all_goals(try omega)
  all_goals(try(with_reducible exact ak.refl _ _ _))
  all_goals first
   |(rw[ny ((ll _).2 ⟨by assumption,by assumption⟩)];done)
   |(rw[ny ((ll _).2 ⟨by assumption,by assumption⟩)];rfl)
   |rfl
   |(rw[nn (fun e=>by have:=(ll _).1 e;grind)];done)
   |(rw[sy ((ll _).2 ⟨by assumption,by assumption⟩)];refine .set _ (by rw[jj];omega) (fun i hi=>by simp only[iz hi]) ?_;simp only[jB];rfl)
   |(rw[sn (fun e=>by have:=(ll _).1 e;grind)];exact ak.refl _ _ _)
   |(rw[(hfin (by omega)).2];done)
   |(have hf:=hfin (by omega);rw[hf.1];first|rfl|omega|exact ak.refl _ _ _|(simp only;omega)|(simp only[jj];first|done|exact Nat.le_refl _)))
theorem CE:au (Y Tryz.prog).G.X 123 Dz:=aU fF HN ⟨zL,UN,trivial⟩
theorem CF:au (Y Tryz.prog).G.X 212 KY:=aU fF HO ⟨zL,trivial⟩
theorem Lr:au (Y Tryz.prog).G.X 180 PS:=aU fF US ⟨zL,trivial⟩
theorem RA:au (Y Tryz.prog).G.X 163 NQ:=aU fF Rz trivial
end Go.Proofs.YtfjgoonelcaggaaGreat.Ix
namespace Go.Proofs.YtfjgoonelcaggaaGreat
open Go.Sx
@[reducible] def zQ(a b:Ix.cT)(v w:Nat)(p:Prop):Prop:=(0=0/\a.t.length=b.t.length/\v=w)/\(↑a.n:Int)=(↑b.n:Int)/\(↑a.used:Int)=(↑b.used:Int)/\(b.t.length<=a.t.length/\ak b.t.length 4 (aa Ix.wg a.t) (aa Ix.wg b.t))/\p
def dx:aH:=⟨.empty,.empty,0,false⟩
def aL:Option aH->List Int
 |none=>[2]
 |some x=>1::de x
theorem wo(m:Nat)(n:Int)(h:2*n.toNat<128^(m+1)):(vi n).length<=m+1:=AB 9 m _ h
theorem Gp{x:aH}(h:gh x=true):(de x).length<=x.key.size+x.val.size+10/\1<=(de x).length:=by
 obtain⟨k1,k2,k3,k4⟩:=rQ h;have a1:=wo 0 (x.key.size:Nat) (by simp;omega);have a2:=wo 1 (x.val.size:Nat) (by simp;omega);have a3:=wo 5 x.e (by simp;omega);have a4:(vi (if x.gone then 1 else 0)).length<=1:=by split<;>exact wo 0 _ (by decide)
 have a5:=(jf (x.key.size:Nat)).1;simp only[de,fk,iN,List.flatMap_cons,List.flatMap_nil,List.append_nil,List.length_append,jw];omega
theorem mO{o:Option aH}(h:∀x,o=some x->gh x=true):1<=(aL o).length/\(aL o).length<=251:=by
 cases o with
 |none=>simp[aL]
 |some x =>
  have h1:=h x rfl;have:=Gp h1;have:=rQ h1;simp only[aL,List.length_cons];omega
structure A5 where
 o:Option aH
 cap:Nat
noncomputable def wq:cG where
 α:=A5
 β:=Unit
 m:=1
 m':=1
 pre:=fun a=>(∀x,a.o=some x->gh x=true)/\(aL a.o).length<=a.cap
 args:=fun a=>[.a (.slc 0 0 1 (aL a.o).length a.cap)]
 hp:=fun _=>[]
 ro:=fun a=>jO 0 (aL a.o)
 post:=fun _ _=>True
 res:=fun a _=>.ng [.agg (DF (a.o.getD dx)),.a (.bool a.o.isSome)]
 cR:=fun _ _=>[]
def BX(y:ByteArray)(x:aH)(z:ByteArray)(u:Int)(v:Bool)(w s t:Prop):=y=x.key/\z=x.val/\u=x.e/\v=x.gone/\w/\s/\t
def l5(x:Option aH):aH:=x.getD dx
def sG(y:Bool)(x:Option aH)(z:Prop):=aD y (Exists (az (BX cA (l5 x) cA 0 false (false=x.isSome) True True))) z
def A6(x:Option aH)(z:Nat):=(∀y:aH,x=some y->aC (gh y))/\ah (aL x)<=z
def A7(y:aH)(x:Option aH)(z:Bool):Unit->Prop:=az (nY y (l5 x) (z=x.isSome) (True/\True))
theorem Gq:fnBody (Y Tryz.prog) [(210,XC)] 179 wq fun _=>[]:=fnBody.of (p :=
 ∀y:A5,A6 y.o y.cap->sG (aK (af (ah (aL y.o))) 1) y.o (dm 0 (ah (aL y.o)) 0 (kr (gl (aL y.o) 0)->sG (gl (aL y.o) 0 != (1:Int)) y.o (cK 1 (ah (aL y.o))/\∃z:Fy,(1=z.r/\ah (aL y.o)-1=ah (de z.x)/\y.cap-1=z.cap)/\dQ z.l (aL y.o) cO/\H7 z/\∀u:Nat,True->sG false y.o (bf 0 1/\0<1/\Exists (A7 (gl [z.x] 0) y.o true)))))) (by kernel_rfl) (by
 delta aD ah aG dm aK cA af eo nY bf aC BX dQ vN sG az pJ l5 kr cK A6 A7 H7
 try dsimp -iota -proj only
 rintro⟨o,cap⟩ ⟨h1,h2⟩;dsimp only at *;have hl:=mO h1;cases o with
 |none =>
  have e0:gl (aL none) 0=2:=rfl;refine⟨fun c=>by exfalso;have:=of_decide_eq_true c;omega,fun _=>?_⟩
  repeat refine lT ?_
  rw[e0];exact fun _=>⟨fun _=>⟨(),by and_intros<;>first|trivial|rfl⟩,fun c=>absurd c (by decide)⟩
 |some x =>
  have e0:gl (aL (some x)) 0=1:=rfl;have e1:(aL (some x)).length=(de x).length+1:=by simp[aL]
  have hm:=h1 x rfl;have e2:∀i,i<(de x).length->gl (aL (some x)) (1+i)=gl (de x) i:=fun i _=>by
   show gl (([1]:List Int)++de x) (([1]:List Int).length+i)=_;rw[br]
  refine⟨fun c=>by exfalso;have:=of_decide_eq_true c;omega,fun _=>?_⟩
  repeat refine lT ?_
  rw[e0];refine fun _=>⟨fun c=>absurd c (by decide),fun _=>?_⟩
  repeat refine lT ?_
  refine⟨Fy.mk (aL (some x)) 1 (cap-1) x,?_⟩
  (repeat' (first|apply And.intro|(intro _)|apply Exists.intro ()))<;>first|exact dg|exact hm|exact e2 _ (by assumption)|rfl|(exfalso;simp at *;done)|skip)
theorem RB:au (Y Tryz.prog).G.X 179 wq:=aU fF Gq ⟨PB,trivial⟩
def CJ(a:A5):Sl1:=⟨5,[.int .u8],(aL a.o).length,a.cap,aa cO (aL a.o)⟩
noncomputable def PT:cG:=wq.XL CJ
theorem UT:mB (Y Tryz.prog).G.X wq 179:=CC fF (fun _=>CD fF (jK:=[(210,XC)]) ⟨PB,trivial⟩) Gq.body
theorem NR:au (Y Tryz.prog).G.X 179 PT:=fun _ _ _ h=>xk (Lk UT ⟨rfl,fun _=>rfl,fun _=>rfl,fun _=>rfl,fun _ _=>rfl,fun _ _ p hp=>(by cases hp)⟩) h
structure oN where
 L:b8
 d:bG
 l:List (ByteArray×Int)
structure sY where
 H:PH
 y:iL
 x:Ix.cT
 cap:Nat
def FB(c lg dv ds ix it pl:Nat)(m:oN)(p:sY):List (Nat×Chunk) :=
 [(c,.obj 205 [.ptr lg 0 0 0,.ptr ix 0 0 0]),(lg,gu dv m.L p.y.lv)]++ic dv ds m.d++Ix.qh ix it p.x.t p.cap p.x.n p.x.used++[(pl,.cI p.H)]
structure jH(m:oN)(p:sY):Prop where
 log:ct p.H p.y m.L
 idx:Ix.Has p.x m.l
def vk(p p':sY):Prop:=∀z,p.H z≠none->z∉bB p.y->p'.H z=p.H z/\z∉bB p'.y
structure uC(m:oN)(n:Nat):Prop where
 log:vT m.L m.d
 zG:m.l.length<9000
def cM(L:b8):Int:=jx L.l L.next
def iM(m:oN)(body:List Int):oN:=⟨mK m.L body,oT m.L m.d body,m.l.filter fun e=>decide (cM (mK m.L body)<=e.2)⟩
theorem UU{L:b8}{d:bG}(ok:vT L d){body:List Int}(h:body.length<=300):(mK L body).l.length<=801:=by
 have:=(Le (n:=body.length) ok h).zG;show((dr L body.length).l.set _ _).length<=801;rw[List.length_set];exact this
theorem CL{x:Ix.cT}{l:List (ByteArray×Int)}(h:Ix.Has x l):x.n=l.length:=h.n
structure FC where
 m:oN
 p:sY
 body:List Int
 cap:Nat
noncomputable def UW:cG where
 α:=FC
 β:=sY
 m:=8
 m':=9
 pre:=fun a=>jH a.m a.p/\uC a.m a.body.length/\1<=a.body.length/\a.body.length<=300
 args:=fun a=>[.a (.ptr 0 0 0 0),.a (.slc 7 0 1 a.body.length a.cap)]
 hp:=fun a=>FB 0 1 2 3 4 5 6 a.m a.p
 ro:=fun a=>jO 7 a.body
 post:=fun a b=>jH (iM a.m a.body) b/\vk a.p b
 res:=fun a _=>.ng [.a (.int .i64 a.m.L.next),.a (.lit .i64 0)]
 cR:=fun a b=>FB 0 1 2 3 4 5 8 (iM a.m a.body) b
def oW(v:b8)(u:oN)(w:iL)(z:sY)(s:bG)(t:Ix.cT)(f:Nat)(g h:Prop):=aA (gi v u.L w z.y (gP s u.d (zQ t z.x f z.cap (g/\h))))
def pU(u x:b8)(v y:iL)(w z:PH)(s t:Prop):=vf u x v.lv y.lv (w=z/\(ct z y x/\s)/\t)
theorem XT:fnBody (Y Tryz.prog) [(162,CI),(164,DV),(163,Ix.NQ)] 121 UW fun _=>[]:=fnBody.of (p :=
 ∀z:FC,jH z.m z.p/\uC z.m (ah z.body)/\iB z.body 300->∃u:uq,fc (cU z.body u.body z.cap u.cap) (vf z.m.L u.L z.p.y.lv u.y.lv (gP z.m.d u.d (z.p.H=u.H/\dQ u.body z.body cO/\AO u/\∀s:nB,yJ s u->∃w:Fz,aA (pU (mK u.L u.body) w.L s.y w.y s.H w.H (bK w.L<1000) (aB (∃v:Ix.NP,ag (jx w.L.l w.L.next=v.pos/\zQ z.p.x v.x z.p.cap v.cap (IT v/\aB (∃t:sY,u.L.next=z.m.L.next/\aI (s.H=t.H/\oW (mK u.L u.body) (iM z.m z.body) s.y t (oT u.L u.d u.body) (Ix.wm v.x v.pos) v.cap (jH (iM z.m z.body) t/\vk z.p t) True))))))))))) (by kernel_rfl) (by
 delta ah bF aG ay cq fc dQ aB oW bK aI yE ag qU aA cU iB pU AO gi yJ IT
 try dsimp -iota -proj only
 rintro⟨⟨L,d,l⟩,⟨H,y,x,xc⟩,body,cap⟩ ⟨hat,hok,hb1,hb2⟩;obtain⟨hl,hx⟩:=hat;dsimp only at *;have hlen:(mK L body).l.length<=801:=UU hok.log hb2;have hn:=CL hx;have hfew:=hok.zG;dsimp only at hfew;obtain⟨q1,q3,q2⟩:=Ix.Ry hx (cM (mK L body));refine⟨uq.mk H y L d body cap,?_⟩
 and_intros<;>first|exact dg|exact hl|exact hok.log|skip
 rintro⟨H1,y1⟩ ⟨p1,p2⟩;dsimp only at p1 p2 ⊢;refine⟨Fz.mk H1 y1 (mK L body),?_⟩
 and_intros<;>first|exact dg|exact p1|(dsimp only;omega)|skip
 intro _ _;refine⟨Ix.NP.mk x xc (cM (mK L body)),?_⟩;dsimp only
 and_intros<;>first|exact dg|exact hx.inv|rfl|(rw[hn];exact q2)|(rw[hn];omega)|skip
 intro _ _;refine⟨⟨H1,y1,Ix.wm x (cM (mK L body)),xc⟩,?_⟩
 and_intros<;>first|exact dg|exact⟨p1,q1⟩|exact p1|exact q1|exact p2|rfl|exact ak.refl _ _ _|exact Nat.le_refl _|skip)
theorem IU:au (Y Tryz.prog).G.X 121 UW:=aU fF XT ⟨DS,AR,Ix.RA,trivial⟩
def mV(l:List (ByteArray×Int))(k:ByteArray):List (ByteArray×Int):=l.filter fun e=>decide (e.1≠k)
def FD(l:List (ByteArray×Int))(k:ByteArray)(p:Int):List (ByteArray×Int):=(k,p)::mV l k
theorem Gr{x:Ix.cT}{l:List (ByteArray×Int)}(h:Ix.Has x l):(l.map Prod.fst).Nodup:=by
 refine((h.perm.map Prod.fst).nodup_iff).1 ?_;unfold Ix.eU;rw[List.map_map];show List.Pairwise (·≠·) _;rw[List.pairwise_map,List.pairwise_filter,List.pairwise_iff_getElem];intro i j hi hj hij hp hq e;have:=h.inv.UO i j hi hj (by rw[bL hi];exact hp) (by rw[bL hj];exact hq) (by rw[bL hi,bL hj];exact e);omega
theorem Ec{l:List (ByteArray×Int)}{k:ByteArray}(h:k∉l.map Prod.fst):mV l k=l:=by
 unfold mV;rw[List.filter_eq_self];intro e he;simp only[decide_eq_true_eq];exact fun e'=>h (List.mem_map.2 ⟨e,he,e'⟩)
theorem A8:∀ {l:List (ByteArray×Int)} {k:ByteArray} {q:Int},(l.map Prod.fst).Nodup->(k,q)∈l->l.Perm ((k,q)::mV l k)
 |[],_,_,_,h=>by cases h
 |a::l,k,q,hn,h=>by
  rw[List.map_cons,List.nodup_cons]at hn;by_cases e:a.1=k
  ·have hk:k∉l.map Prod.fst:=by rw[<- e];exact hn.1
   have ha:a=(k,q):=by
    rcases List.mem_cons.1 h with h|h
    ·exact h.symm
    ·exact absurd (List.mem_map.2 ⟨_,h,rfl⟩) hk
   have:mV (a::l) k=l:=by
    unfold mV;rw[List.filter_cons,if_neg (by simp[e])];exact Ec hk
   rw[this,ha]
  ·have hm:(k,q)∈l:=by
    rcases List.mem_cons.1 h with h|h
    ·exact absurd (by rw[<- h]) e
    ·exact h
   have:mV (a::l) k=a::mV l k:=by
    unfold mV;rw[List.filter_cons,if_pos (by simpa using e)]
   rw[this];exact(List.Perm.cons a (A8 hn.2 hm)).trans (List.Perm.swap _ _ _)
theorem PU{x:Ix.cT}{l:List (ByteArray×Int)}{k:ByteArray}{p:Int}(h:Ix.Has x l)(hn:l.length<9999)(hk:k.size<=aq):Ix.Has (Ix.vh x k p) (FD l k p):=by
 have hx:=h.n;by_cases hm:k∈l.map Prod.fst
 ·obtain⟨⟨k',q⟩,h1,h2⟩:=List.mem_map.1 hm;dsimp only at h2;subst h2;exact(Ix.NN (h.zP (A8 (Gr h) h1)) (by omega)).1
 ·have:=(Ix.UR (p:=p) h (by omega) hm hk).1;unfold FD;rw[Ec hm];exact this
theorem Ls{x:Ix.cT}{l:List (ByteArray×Int)}{k:ByteArray}(h:Ix.Has x l):Ix.Has (Ix.jM x k) (mV l k)/\(0<=(Ix.bQ x.t k).1->1<=x.n):=by
 have hx:=h.n;by_cases hm:k∈l.map Prod.fst
 ·obtain⟨⟨k',q⟩,h1,h2⟩:=List.mem_map.1 hm;dsimp only at h2;subst h2;refine⟨(Ix.Ea (h.zP (A8 (Gr h) h1))).1,fun _=>?_⟩;have:=List.length_pos_of_mem h1;omega
 ·rw[Ec hm];obtain⟨e1,e2⟩:=h.tv hm;exact⟨by rw[Ix.Rx h hm];exact h,fun e=>by omega⟩
theorem Lt(l:List (ByteArray×Int))(k:ByteArray)(p:Int):(FD l k p).length<=l.length+1:=by
 simp only[FD,mV,List.length_cons];have:=List.length_filter_le (fun e:ByteArray×Int=>decide (e.1≠k)) l;omega
theorem Gs(l:List (ByteArray×Int))(k:ByteArray):(mV l k).length<=l.length:=List.length_filter_le _ _
def kK(x:aH):Bool:=gh x&&!x.gone
def ou(m:oN)(x:aH):oN:=if kK x then { iM m (aL (some x))with l:=FD (iM m (aL (some x))).l x.key m.L.next }else m
structure Lu where
 m:oN
 p:sY
 x:aH
noncomputable def UX:cG where
 α:=Lu
 β:=sY
 m:=7
 m':=9
 pre:=fun a=>jH a.m a.p/\(kK a.x=true->uC a.m (aL (some a.x)).length)
 args:=fun a=>[.a (.ptr 0 0 0 0),.agg (DF a.x)]
 hp:=fun a=>FB 0 1 2 3 4 5 6 a.m a.p
 ro:=fun _=>[]
 post:=fun a b=>jH (ou a.m a.x) b/\vk a.p b
 res:=fun a b=>.a (.int .i64 (if kK a.x then 0 else 1))
 cR:=fun a b=>FB 0 1 2 3 4 7 8 (ou a.m a.x) b
def Ed(w t:Nat)(s:oN)(u:sY)(f:Nat->Nat->Value)(g:FC->sY->Prop):=∃z:FC,ag (ag (w=ah z.body/\t=z.cap)/\oW s.L z.m u.y z.p s.d u.x u.cap (u.H=z.p.H) (aG (ah z.body) w 1 f (aa cO z.body)/\(jH z.m z.p/\uC z.m (ah z.body)/\iB z.body 300)/\∀v:sY,jH (iM z.m z.body) v/\vk z.p v->g z v))
def IV(x:Cm)(y:oN)(z:sY)(u:FC->sY->Prop):=yz x/\∀t:Nat,True->1<=1/\nr (dO x.xs)/\gC 1 (ah (dO x.xs)) 1 1 fun v=>Ed (1+ah (dO x.xs)) v y z (bg (aF 1 (bP (e9 1))) 0 1 (sC cO (dO x.xs))) fun w s=>u w s
def iC(x:Bool):Int:=if x=true then(0:Int)else(1:Int)
def Ee(w:Int)(s:Bool)(z:sY)(t v:oN)(f:bG)(g:sY):sY->Prop:=fun(u:sY)=>w=iC s/\z.H=u.H/\oW t.L v z.y u f z.x z.cap (jH v u/\vk g u) True
def IW(y:Lu):=jH y.m y.p/\(aC (kK y.x)->uC y.m (ah (aL (some y.x))))
theorem UY:fnBody (Y Tryz.prog) [(96,yq),(122,T0),(121,UW),(123,Ix.Dz)] 73 UX fun _=>[]:=fnBody.of (p :=
 ∀z:Lu,IW z->∃f:aH,nY z.x f True (aB (fR (bq (gh f)) (Exists (Ee 1 (kK z.x) z.p z.m (ou z.m z.x) z.m.d z.p)) z.x.gone (∃w:Cm,gJ 1 w.xs.length 1 w.cap 4 (aF 4 (bw (bJ z.x.key) (dI z.x.val z.x.e (bP (ew z.x.gone))))) (aa kG w.xs) (IV w z.m z.p fun v s=>∃u:Ix.mC,ag (z.x.key=u.key/\v.m.L.next=u.pos/\zQ s.x u.x s.cap u.cap (A3 u/\∀g:Nat,True->∃t:sY,(0:Int)=iC (kK z.x)/\s.H=t.H/\oW (iM v.m v.body).L (ou z.m z.x) s.y t (iM v.m v.body).d (Ix.vh u.x u.key u.pos) g (jH (ou z.m z.x) t/\vk z.p t) True))))))) (by kernel_rfl) (by
 delta aD ah bF aG bT gC bP nY e9 aC dW bw fR bp aB oW bJ IV iC gJ ag pJ yz Ed aA iB bq dI Ee nr sC gi ew A3 IW
 try dsimp -iota -proj only
 rintro⟨⟨L,d,l⟩,⟨H,y,x,xc⟩,it⟩ ⟨hat,hok⟩;dsimp only at *;have same:kK it=false->ou ⟨L,d,l⟩ it=⟨L,d,l⟩:=fun e=>if_neg (by rw[e];decide);refine⟨it,rfl,rfl,rfl,rfl,trivial,fun _ _=>⟨fun c1=>⟨⟨H,y,x,xc⟩,?_⟩,fun c1=>⟨fun c2=>⟨⟨H,y,x,xc⟩,?_⟩,fun c2=>?_⟩⟩⟩
 ·have hn:kK it=false:=by simp only[kK];rw[show gh it=false by simpa using c1];rfl
  rw[same hn,hn]
  and_intros<;>first|exact dg|rfl|exact ak.refl _ _ _|exact Nat.le_refl _|exact hat|exact hat.log|exact hat.idx|exact fun z _ hn=>⟨rfl,hn⟩
 ·have hn:kK it=false:=by simp only[kK];rw[c2];simp
  rw[same hn,hn]
  and_intros<;>first|exact dg|rfl|exact ak.refl _ _ _|exact Nat.le_refl _|exact hat|exact hat.log|exact hat.idx|exact fun z _ hn=>⟨rfl,hn⟩
 ·have hm:gh it=true:=by simpa using c1
  have hy:kK it=true:=by simp only[kK];rw[c2,hm];rfl
  have hok:=hok hy;have hF:ou ⟨L,d,l⟩ it={ iM ⟨L,d,l⟩ (aL (some it))with l:=FD (iM ⟨L,d,l⟩ (aL (some it))).l it.key L.next }:=if_pos hy;rw[hF,hy];obtain⟨hb1,hb2⟩:=mO (o:=some it) (fun x e=>by cases e;exact hm);have hI:dO [it]=de it:=by simp[dO]
  have hB:(aL (some it)).length=1+(de it).length:=by simp only[aL,List.length_cons];omega
  have hr1:ak 1 4 (aF 4 [Value.string it.key,Value.string it.val,Value.int .i64 it.e,Value.bool it.gone]) (aa kG [it]):=.dB fun i hi=>by
   have:i=0:=by omega
   subst this;rfl
  have hm1:∀i,i < [it].length->gh (gl [it] i)=true:=fun i hi=>by
   have:i=0:=by simp at hi;omega
   subst this;exact hm
  refine⟨Cm.mk [it] 1,?_⟩
  and_intros<;>first|exact dg|exact hr1|exact hm1|exact Nat.le_refl _|decide|skip
  intro c _;rw[hI]
  repeat refine lT ?_
  intro cap q1 q2 q3;refine⟨FC.mk ⟨L,d,l⟩ ⟨H,y,x,xc⟩ (aL (some it)) cap,?_⟩;have hr2:ak (aL (some it)).length 1 (bg (aF 1 [Value.int .u8 1]) 0 1 fun(i j:Nat)=>aa cO (de it) (0+i) j) (aa cO (aL (some it))):=⟨fun i hi j hj=>by
   have hj0:j=0:=by omega
   subst hj0;simp only[bg,Nat.zero_add];by_cases h0:i<1
   ·have:i=0:=by omega
    subst this;rfl
   ·rw[if_neg h0];obtain⟨q,rfl⟩:∃q,i=q+1:=⟨i-1,by omega⟩
    simp only[aa,aL,Nat.add_sub_cancel];congr 2⟩
  and_intros<;>first|exact dg|rfl|exact ak.refl _ _ _|exact Nat.le_refl _|exact hr2|exact hat|exact hat.log|exact hat.idx|exact hok.log|exact hok.zG|(dsimp only;omega)|skip
  rintro⟨H1,y1,x1,xc1⟩ ⟨⟨g1,g2⟩,hfr⟩;dsimp only at g1 g2 hfr ⊢;refine⟨Ix.mC.mk x1 xc1 it.key L.next,?_⟩;have hn:=CL g2;have hln:(iM ⟨L,d,l⟩ (aL (some it))).l.length<=l.length:=List.length_filter_le _ _;have hfew:=hok.zG;dsimp only at hfew;have hks:it.key.size<=aq:=by have:=rQ hm;simp only[aq];omega
  and_intros<;>first|exact dg|rfl|exact ak.refl _ _ _|exact Nat.le_refl _|exact g2.inv|exact hks|(dsimp only;omega)|skip
  intro c2' _;refine⟨⟨H1,y1,Ix.vh x1 it.key L.next,c2'⟩,?_⟩;have hp:=PU (p:=L.next) g2 (by omega) hks
  and_intros<;>first|exact dg|rfl|exact ak.refl _ _ _|exact Nat.le_refl _|exact g1|exact hp|exact hfr|exact⟨g1,hp⟩)
theorem UZ:au (Y Tryz.prog).G.X 73 UX:=aU fF UY ⟨rR,HX,IU,Ix.CE,trivial⟩
def Ef(m:oN)(key:ByteArray):Option aH->Prop
 |some x=>∃p,(key,p)∈m.l/\gL m.L.l p=some (aL (some x))/\gh x=true
 |none=>key∉m.l.map Prod.fst\/∃p,(key,p)∈m.l/\(gL m.L.l p=none\/gL m.L.l p=some (aL none))
structure RC(m:oN):Prop where
 zG:m.L.l.length<1000
 seg:∀i,i<m.L.l.length->nF (gl m.L.l i).aV/\(gl m.L.l i).aV.length<=400/\∀k,k<(gl m.L.l i).aV.length->1<=(gl (gl m.L.l i).aV k).body.length/\(gl (gl m.L.l i).aV k).body.length<=1000
 pos:∀e∈m.l,0<=e.2/\e.2<1000000000000
structure PV where
 m:oN
 p:sY
 key:ByteArray
 r:Option aH
noncomputable def U0:cG where
 α:=PV
 β:=Unit
 m:=7
 m':=7
 pre:=fun a=>jH a.m a.p/\RC a.m/\Ef a.m a.key a.r/\a.key.size<=aq
 args:=fun a=>[.a (.ptr 0 0 0 0),.a (.str a.key)]
 hp:=fun _=>[]
 ro:=fun a=>FB 0 1 2 3 4 5 6 a.m a.p
 post:=fun _ _=>True
 res:=fun a _=>.ng [.agg (DF (a.r.getD dx)),.a (.bool a.r.isSome)]
 cR:=fun _ _=>[]
def yR(x:oN)(z:sY)(y:ByteArray)(u:Option aH):=jH x z/\RC x/\Ef x y u/\bp y<=aq
theorem U1:fnBody (Y Tryz.prog) [(212,Ix.KY),(213,Nn),(179,wq)] 184 U0 fun _=>[]:=fnBody.of (p :=
 ∀z:PV,yR z.m z.p z.key z.r->∃u:Ix.vj,ag (z.key=u.key/\zQ z.p.x u.x z.p.cap u.cap ((Ix.Inv u.x/\bp u.key<=aq)/\aB (sG (bq (Ix.yQ u.x u.key).snd) z.r (∃v:Lh,fc ((Ix.yQ u.x u.key).fst=v.p) (pU z.m.L v.L z.p.y v.y z.p.H v.H (Im v) (∀s:Nat,ah (uv v)<=s->sG (BP (gL v.L.l v.p) != (0:Int)) z.r (∃w:A5,mI (uv v) (aL w.o) s w.cap cO (A6 w.o w.cap) (aB (Exists (A7 (l5 w.o) z.r w.o.isSome))))))))))) (by kernel_rfl) (by
 delta aD ah aG cA nY aC BX fc dQ bp aB bK yL sG mI uv az ag pJ cU iB bq pU l5 yR Im oo A6 A7
 try dsimp -iota -proj only
 rintro⟨⟨L,d,l⟩,⟨H,y,x,xc⟩,key,r⟩ ⟨⟨hl,hx⟩,hrd,hr,hks⟩;dsimp only at *;refine⟨Ix.vj.mk x xc key,?_⟩
 and_intros<;>first|exact dg|rfl|exact ak.refl _ _ _|exact Nat.le_refl _|exact hx.inv|exact hks|skip
 intro _ _;dsimp only;have hcase:(r=none/\Ix.yQ x key=(0,false))\/∃p,(key,p)∈l/\Ix.yQ x key=(p,true)/\((r=none/\(gL L.l p=none\/gL L.l p=some (aL none)))\/∃it,r=some it/\gL L.l p=some (aL (some it))/\gh it=true):=by
  cases r with
  |none =>
   rcases hr with hr | ⟨p,h1,h2⟩
   ·exact .inl ⟨rfl,Ix.get_none hx hr⟩
   ·exact .inr ⟨p,h1,Ix.Gn hx h1,.inl ⟨rfl,h2⟩⟩
  |some it =>
   obtain⟨p,h1,h2,h3⟩:=hr;exact .inr ⟨p,h1,Ix.Gn hx h1,.inr ⟨it,rfl,h2,h3⟩⟩
 rcases hcase with⟨rfl,hg⟩ | ⟨p,hm,hg,hc⟩
 ·rw[hg];refine⟨fun _=>⟨(),?_⟩,fun c=>absurd c (by decide)⟩
  and_intros<;>first|exact dg|rfl|exact ak.refl _ _ _|exact Nat.le_refl _
 ·rw[hg];refine⟨fun c=>absurd c (show ¬((!true)=true)by decide),fun _=>⟨Lh.mk H y L p,?_⟩⟩;obtain⟨hp1,hp2⟩:=hrd.pos _ hm
  and_intros<;>first|exact dg|rfl|exact ak.refl _ _ _|exact Nat.le_refl _|exact hl|exact hrd.zG|exact hp1|exact hp2|exact hrd.seg|skip
  intro c hcap;dsimp only at hcap ⊢;rcases hc with⟨rfl,hn|hn⟩ | ⟨it,rfl,hn,hmay⟩
  ·rw[hn];refine⟨fun _=>⟨(),?_⟩,fun c=>absurd c (by decide)⟩
   and_intros<;>first|exact dg|rfl|exact ak.refl _ _ _|exact Nat.le_refl _
  ·rw[hn]at hcap ⊢;refine⟨fun c=>absurd c (by decide),fun _=>⟨A5.mk none c,?_⟩⟩;have hcap:(aL none).length<=c:=hcap;have hno:∀z:aH,(none:Option aH)=some z->gh z=true:=fun z e=>by cases e
   (repeat' (first|apply And.intro|(intro _)|apply Exists.intro ()))<;>first|exact dg|rfl|exact ak.refl _ _ _|exact Nat.le_refl _|exact hcap|exact hno _ (by assumption)
  ·rw[hn]at hcap ⊢;refine⟨fun c=>absurd c (show ¬((BP (some (aL (some it))) != 0)=true)by simp[BP]),fun _=>⟨A5.mk (some it) c,?_⟩⟩;have hcap:(aL (some it)).length<=c:=hcap;have hno:∀z:aH,some it=some z->gh z=true:=fun z e=>by cases e;exact hmay
   (repeat' (first|apply And.intro|(intro _)|apply Exists.intro ()))<;>first|exact dg|rfl|exact ak.refl _ _ _|exact Nat.le_refl _|exact hcap|exact hno _ (by assumption))
theorem U2:au (Y Tryz.prog).G.X 184 U0:=aU fF U1 ⟨Ix.CF,Ri,RB,trivial⟩
def oZ(r:Option aH)(now:Int):Option aH:=r.bind fun x=>if vL x now then some x else none
structure Eg where
 m:oN
 p:sY
 key:ByteArray
 now:Int
 r:Option aH
noncomputable def U3:cG where
 α:=Eg
 β:=Unit
 m:=7
 m':=7
 pre:=fun a=>jH a.m a.p/\RC a.m/\Ef a.m a.key a.r/\a.key.size<=aq
 args:=fun a=>[.a (.ptr 0 0 0 0),.a (.str a.key),.a (.int .i64 a.now)]
 hp:=fun _=>[]
 ro:=fun a=>FB 0 1 2 3 4 5 6 a.m a.p
 post:=fun _ _=>True
 res:=fun a _=>.ng [.agg (DF ((oZ a.r a.now).getD dx)),.a (.bool (oZ a.r a.now).isSome)]
 cR:=fun _ _=>[]
theorem U4:fnBody (Y Tryz.prog) [(184,U0),(185,TX)] 136 U3 fun _=>[]:=fnBody.of (p :=
 ∀z:Eg,yR z.m z.p z.key z.r->∃u:PV,ag (z.key=u.key/\oW z.m.L u.m z.p.y u.p z.m.d z.p.x z.p.cap (z.p.H=u.p.H) (yR u.m u.p u.key u.r/\aB (sG (bq u.r.isSome) (oZ z.r z.now) (∃v:Pz,nY (l5 u.r) v.x (z.now=v.now) (ee (sG (bq (vL v.x v.now)) (oZ z.r z.now) (Exists (A7 (l5 u.r) (oZ z.r z.now) true))))))))) (by kernel_rfl) (by
 delta aD bF cA nY aC BX bp aB oW sG az ag pJ aA bq l5 yR gi A7 ee
 rintro⟨⟨L,d,l⟩,⟨H,y,x,xc⟩,key,now,r⟩ ⟨hat,hrd,hr,hks⟩;dsimp only at *;refine⟨PV.mk ⟨L,d,l⟩ ⟨H,y,x,xc⟩ key r,?_⟩
 and_intros<;>first|exact dg|rfl|exact ak.refl _ _ _|exact Nat.le_refl _|exact hat|exact hrd|exact hr|exact hks|skip
 intro _ _;dsimp only;cases r with
 |none =>
  refine⟨fun _=>⟨(),?_⟩,fun c=>absurd c (by decide)⟩
  and_intros<;>first|exact dg|rfl|exact ak.refl _ _ _|exact Nat.le_refl _
 |some it =>
  refine⟨fun c=>absurd c (show ¬((!true)=true)by decide),fun _=>⟨Pz.mk it now,rfl,rfl,rfl,rfl,rfl,trivial,fun _ _=>⟨fun c=>⟨(),?_⟩,fun c=>⟨(),?_⟩⟩⟩⟩
  ·have:oZ (some it) now=none:=by
    have:vL it now=false:=by simpa using c
    simp[oZ,this]
   rw[this]
   and_intros<;>first|exact dg|rfl|exact ak.refl _ _ _|exact Nat.le_refl _
  ·have:oZ (some it) now=some it:=by
    have:vL it now=true:=by simpa using c
    simp[oZ,this]
   rw[this]
   and_intros<;>first|exact dg|rfl|exact ak.refl _ _ _|exact Nat.le_refl _)
theorem U5:au (Y Tryz.prog).G.X 136 U3:=aU fF U4 ⟨U2,T1,trivial⟩
def S.fl(s:S)(c:Nat)(m:oN)(p:sY):S :=
 (fun(s3:S)=>(s3.put (s3.hp.del (Ld s3))).new (.cI p.H))
 ((fun(s1:S)=>((s1.put (s1.hp.del (s.qx (s.qx c 1) 0))).new (.arr 251 Ix.ksP p.x.t.length (aa Ix.wg p.x.t))).at_ (s.qx c 1) (.obj 247 [.slc s.nx 0 4 p.x.t.length p.cap,.int .i64 p.x.n,.int .i64 p.x.used]))
  (((s.at_ (s.qx c 0) (gu (s.qx (s.qx c 0) 0) m.L p.y.lv)).at_ (s.qx (s.qx c 0) 0) (.obj 116 [.slc (s.qx (s.qx (s.qx c 0) 0) 0) 0 129 m.d.n m.d.n,.int .i64 m.d.calls])).at_ (s.qx (s.qx (s.qx c 0) 0) 0) (.arr 158 DA m.d.n (fO m.d))))
def jd(k:ByteArray):aH:=⟨k,.mk #[],0,true⟩
theorem A9{k:ByteArray}(h:dN k=true):gh (jd k)=true:=by
 simp only[gh,jd];rw[h];rfl
def o4(m:oN)(k:ByteArray):oN:={ iM m (aL (some (jd k)))with l:=mV (iM m (aL (some (jd k)))).l k }
def gM(m:oN)(ks:List ByteArray):Nat->oN
 |0=>m
 |i+1=>o4 (gM m ks i) (gl ks i)
def fT(ks:List ByteArray):Bool:=ks.all dN
def IX(m:oN):oN:={ m with d:=gR m.d }
def ov(m:oN)(ks:List ByteArray):oN:=if fT ks then IX (gM m ks ks.length)else m
structure pV where
 m:oN
 p:sY
 ks:List ByteArray
 cap:Nat
noncomputable def IY:cG where
 α:=pV
 β:=sY
 m:=8
 m':=10
 pre:=fun a=>jH a.m a.p/\a.ks.length<1000/\(fT a.ks=true->(∀i,i<a.ks.length->uC (gM a.m a.ks i) (aL (some (jd (gl a.ks i)))).length)/\(gM a.m a.ks a.ks.length).d.n<100000/\(gM a.m a.ks a.ks.length).d.calls<1000000000000)
 args:=fun a=>[.a (.ptr 0 0 0 0),.a (.slc 7 0 1 a.ks.length a.cap)]
 hp:=fun a=>FB 0 1 2 3 4 5 6 a.m a.p
 ro:=fun a=>[(7,.arr 9 [.str] a.ks.length (aa jZ a.ks))]
 post:=fun a b=>jH (ov a.m a.ks) b/\vk a.p b
 res:=fun a b=>.a (.int .i64 (if fT a.ks then 0 else 1))
 cR:=fun a b=>FB 0 1 2 3 4 8 9 (ov a.m a.ks) b
structure Eh where
 i:Nat
 p:sY
def XU(a:pV):An:=.flat 4 Nat (fun s i=>s.int 15 i) (fun _ i=>i<=a.ks.length/\∀j,j<i->dN (gl a.ks j)=true) (fun _ i=>a.ks.length-i)
def XV(a:pV):An:=.flat 10 Eh (fun s x=>(S.fl s (s.tg 0) (gM a.m a.ks x.i) x.p).int 25 x.i) (fun _ x=>x.i<=a.ks.length/\fT a.ks=true/\jH (gM a.m a.ks x.i) x.p/\vk a.p x.p) (fun _ x=>a.ks.length-x.i)
def XW(a:pV):An:=.mk 9 Unit (fun s _=>s) (fun _ _=>fT a.ks=true) (fun _ _=>0) fun _=>.mk 1000 [XV a] []
noncomputable def U6:List (Nat×cG):=[(86,MW),(122,T0),(121,UW),(180,Ix.PS),(169,ko)]
def NS(t:Int)(u:pV)(w:sY)(s:oN)(v:Ix.cT)(f:Nat)(g:Eh->Prop):=∃z:Eh,t=af z.i/\fe (bl u.ks) u.cap (mG (bh (bl u.ks) u.cap/\w.H=z.p.H/\aA (gi s.L (gM u.m u.ks z.i).L w.y z.p.y (gP s.d (gM u.m u.ks z.i).d (ag (cq v=cq z.p.x/\f=z.p.cap)/\bC v.n z.p.x.n/\bC v.used z.p.x.used/\pK u.ks/\aG (cq z.p.x) (cq v) 4 (ef v) (ef z.p.x)/\g z)))))
def IZ(z:pV)(u:Prop):=mG (bh (bl z.ks) z.cap/\oW z.m.L z.m z.p.y z.p z.m.d z.p.x z.p.cap (z.p.H=z.p.H) (pK z.ks/\u))
def ri(y:Nat)(z:List ByteArray):=∀x:Nat,x<y->aC (dN (gl z x))
def I1(x:pV):=jH x.m x.p/\bl x.ks<1000/\(aC (fT x.ks)->(∀y:Nat,y<bl x.ks->uC (gM x.m x.ks y) (ah (aL (some (jd (gl x.ks y))))))/\ku (gM x.m x.ks (bl x.ks)).d)
def gX(x y:Nat)(z u v:Prop):=x<=y/\z->jD x y u v
def I2(x:pV)(y:Eh):=aC (fT x.ks)/\jH (gM x.m x.ks y.i) y.p/\vk x.p y.p
def I3(y:List ByteArray)(z:Nat)(v:Nat->Prop)(w:Prop)(s:Nat->Nat->Prop)(t f:Prop):=(cm (fun x=>fe (bl y) z (v x)) fun x=>gX x (bl y) (ri x y) (∃u:ByteArray,gl y (0+ax x)=u/\ee (aD (bq (dN u)) w (bH x fun g=>fe (bl y) z (s x g)))) (Exists (az t)))/\∀x:Unit,aC (fT y)->f
theorem RE:fnBody (Y Tryz.prog) U6 135 IY fun a=>[(135,[XU a],[XW a])]:=fnBody.of (p :=
 ∀y:pV,I1 y->I3 y.ks y.cap (fun z=>IZ y ((z<=bl y.ks/\ri z y.ks)/\True)) (Exists (Ee 1 (fT y.ks) y.p y.m (ov y.m y.ks) y.m.d y.p)) (fun z u=>IZ y (dD u (bl y.ks) (ri u y.ks) z)) (IZ y (aC (fT y.ks)/\True)) ((NS 0 y y.p y.m y.p.x y.p.cap fun z=>(z.i<=bl y.ks/\I2 y z)/\True)/\∀z:Eh,gX z.i (bl y.ks) (I2 y z) (∃u:Cm,gJ 1 u.xs.length 1 u.cap 4 (aF 4 (bw (bJ (gl y.ks (0+ax z.i))) (dI cA 0 om))) (aa kG u.xs) (IV u (gM y.m y.ks z.i) z.p fun s w=>∃v:Ix.vj,ag (gl y.ks (0+ax z.i)=v.key/\zQ w.x v.x w.cap v.cap (A4 v/\aB (aQ z.i (NS (aY z.i) y w (iM s.m s.body) (Ix.jM v.x v.key) v.cap fun t=>dD t.i (bl y.ks) (I2 y t) z.i)))))) (lu (gM y.m y.ks z.i).d fun u=>Exists (Ee 0 (fT y.ks) z.p (gM y.m y.ks z.i) (ov y.m y.ks) (gR u) y.p)))) (by kernel_rfl) (by
 delta aD eF ah ai bF aG ay bT ax bn gC dm aK aY cA cq af bl bP bf e9 aC aR dW bw dV bp aB jD fe dD oW bI aP bH bJ ku aI IV bh NS iC gJ bM aT az IZ ag ri yz Ed om aA I1 A4 pK iB bq dI lu aQ Ee dh gX bC ef nr sC I2 I3 gi mG ew cm ee
 try dsimp -iota -proj only
 rintro⟨⟨L,d,l⟩,⟨H,y,x,xc⟩,ks,kc⟩ ⟨hat,hk1,hok⟩;dsimp only at *;obtain⟨m0,hm0⟩:∃m0:oN,m0=⟨L,d,l⟩:=⟨_,rfl⟩
 have hno:fT ks=false->ov ⟨L,d,l⟩ ks=⟨L,d,l⟩:=fun e=>if_neg (by rw[e];decide);have hyes:fT ks=true->ov m0 ks=IX (gM m0 ks ks.length):=fun e=>if_pos e;refine⟨⟨⟨0,?_⟩,fun i hi=>?_⟩,fun _ hall=>⟨⟨⟨0,⟨H,y,x,xc⟩⟩,?_⟩,fun z hz=>?_⟩⟩
 ·and_intros<;>first|exact dg|rfl|exact ak.refl _ _ _|exact Nat.le_refl _|exact fun j hj=>absurd hj (Nat.not_lt_zero j)
 ·obtain⟨hi,hkb⟩:=hi;simp only[Nat.zero_add,Int.toNat_natCast];refine⟨fun c1=>?_,fun c1=>⟨(),?_⟩⟩
  ·have hi':i<ks.length:=by have:=of_decide_eq_true c1;omega
   refine⟨by omega,by omega,gl ks i,rfl,trivial,fun _ _=>⟨fun c2=>⟨⟨H,y,x,xc⟩,?_⟩,fun c2=>⟨by simp only[bR];omega,i+1,?_⟩⟩⟩
   ·have hn:fT ks=false:=by
     have c2:dN (gl ks i)=false:=by simpa using c2
     rw[Bool.eq_false_iff];intro h;have:=List.all_eq_true.1 h (gl ks i) (by rw[bL hi'];exact List.getElem_mem _);rw[c2]at this;cases this
    rw[hno hn,hn]
    and_intros<;>first|exact dg|rfl|exact ak.refl _ _ _|exact Nat.le_refl _|exact hat|exact fun z _ hn=>⟨rfl,hn⟩
   ·have c2:dN (gl ks i)=true:=by simpa using c2
    have h1:∀j,j<i+1->dN (gl ks j)=true:=fun j hj=>by
     by_cases e:j=i
     ·rw[e];exact c2
     ·exact hkb j (by omega)
    and_intros<;>first|exact dg|rfl|exact ak.refl _ _ _|exact Nat.le_refl _|exact h1
  ·have hi':i=ks.length:=by have:=of_decide_eq_false c1;omega
   have ha:fT ks=true:=List.all_eq_true.2 fun k hk=>by
    obtain⟨j,hj,rfl⟩:=List.getElem_of_mem hk;rw[<- bL hj];exact hkb j (by omega)
   and_intros<;>first|exact dg|rfl|exact ak.refl _ _ _|exact Nat.le_refl _|exact ha
 ·and_intros<;>first|exact dg|rfl|exact ak.refl _ _ _|exact Nat.le_refl _|exact hat|exact hall|exact fun z _ hn=>⟨rfl,hn⟩
 ·obtain⟨i,⟨H1,y1,x1,xc1⟩⟩:=z;obtain⟨hi,_,hat1,hfr1⟩:=hz;dsimp only at hi hat1 hfr1 ⊢;obtain⟨hok1,hok2,hok3⟩:=hok hall;rw[<- hm0]at hok1 hok2 hok3 hat1 ⊢;have hstep:gM m0 ks (i+1)=o4 (gM m0 ks i) (gl ks i):=rfl;simp only[Nat.zero_add,Int.toNat_natCast];refine⟨fun c1=>?_,fun c1=>?_⟩
  ·have hi':i<ks.length:=by have:=of_decide_eq_true c1;omega
   have hok1:=hok1 i hi';have hkey:dN (gl ks i)=true:=List.all_eq_true.1 hall (gl ks i) (by rw[bL hi'];exact List.getElem_mem _);obtain⟨it,hit⟩:∃it,it=jd (gl ks i):=⟨_,rfl⟩
   have hm:gh it=true:=by rw[hit];exact A9 hkey
   obtain⟨M,hM⟩:∃M,M=gM m0 ks i:=⟨_,rfl⟩
   rw[<- hM]at hok1 hat1 hstep ⊢;rw[<- hit]at hok1;have hdF:o4 M (gl ks i)={ iM M (aL (some it))with l:=mV (iM M (aL (some it))).l (gl ks i) }:=by rw[hit];rfl
   obtain⟨hb1,hb2⟩:=mO (o:=some it) (fun x e=>by cases e;exact hm);have hI:dO [it]=de it:=by simp[dO]
   have hB:(aL (some it)).length=1+(de it).length:=by simp only[aL,List.length_cons];omega
   have hr1:ak 1 4 (aF 4 [Value.string (gl ks i),Value.string (ByteArray.mk #[]),Value.int .i64 0,Value.bool true]) (aa kG [it]):=.dB fun i hi=>by
    have:i=0:=by omega
    subst this;rw[hit];rfl
   have hm1:∀i,i < [it].length->gh (gl [it] i)=true:=fun i hi=>by
    have:i=0:=by simp at hi;omega
    subst this;exact hm
   refine⟨by omega,by omega,Cm.mk [it] 1,?_⟩
   and_intros<;>first|exact dg|exact hr1|exact hm1|exact Nat.le_refl _|decide|skip
   intro c _;rw[hI]
   repeat refine lT ?_
   intro cap q1 q2 q3;refine⟨FC.mk M ⟨H1,y1,x1,xc1⟩ (aL (some it)) cap,?_⟩;have hr2:ak (aL (some it)).length 1 (bg (aF 1 [Value.int .u8 1]) 0 1 fun(i j:Nat)=>aa cO (de it) (0+i) j) (aa cO (aL (some it))):=⟨fun i hi j hj=>by
    have hj0:j=0:=by omega
    subst hj0;simp only[bg,Nat.zero_add];by_cases h0:i<1
    ·have:i=0:=by omega
     subst this;rfl
    ·rw[if_neg h0];obtain⟨q,rfl⟩:∃q,i=q+1:=⟨i-1,by omega⟩
     simp only[aa,aL,Nat.add_sub_cancel];congr 2⟩
   simp only[Nat.zero_add]at hr2
   and_intros<;>first|exact dg|rfl|exact ak.refl _ _ _|exact Nat.le_refl _|exact hr2|exact hat1|exact hat1.log|exact hat1.idx|exact hok1|exact hok1.log|exact hok1.zG|(dsimp only;omega)|skip
   rintro⟨H2,y2,x2,xc2⟩ ⟨⟨g1,g2⟩,hfr⟩;dsimp only at g1 g2 hfr ⊢;refine⟨Ix.vj.mk x2 xc2 (gl ks i),?_⟩;have hn:=CL g2;have hln:(iM M (aL (some it))).l.length<=M.l.length:=List.length_filter_le _ _;have hfew:=hok1.zG;have hks:(gl ks i).size<=aq:=by
    have h40:(gl ks i).size<=40:=by have:=(rQ hm).1;rw[hit]at this;exact this
    simp only[aq];omega
   obtain⟨hd1,hd2⟩:=Ls (k:=gl ks i) g2
   and_intros<;>first|exact dg|rfl|exact ak.refl _ _ _|exact Nat.le_refl _|exact g2.inv|exact hks|exact hd2|(dsimp only;omega)|skip
   intro _ _;have hat2:jH (o4 M (gl ks i)) ⟨H2,y2,Ix.jM x2 (gl ks i),xc2⟩:=by rw[hdF];exact⟨g1,hd1⟩
   have hfr2:vk ⟨H,y,x,xc⟩ ⟨H2,y2,Ix.jM x2 (gl ks i),xc2⟩:=fun z hz hn=>by
    obtain⟨a1,a2⟩:=hfr1 z hz hn;obtain⟨b1,b2⟩:=hfr z (by rw[a1];exact hz) a2;exact⟨b1.trans a1,b2⟩
   refine⟨by simp only[bR];omega,⟨i+1,⟨H2,y2,Ix.jM x2 (gl ks i),xc2⟩⟩,?_⟩;dsimp only;rw[hstep];rw[hdF]at hat2 ⊢
   and_intros<;>first|exact dg|rfl|exact ak.refl _ _ _|exact Nat.le_refl _|exact hat2|exact hfr2|exact hall|skip
  ·have hi':i=ks.length:=by have:=of_decide_eq_false c1;omega
   subst hi';have hat2:jH (IX (gM m0 ks ks.length)) ⟨H1,y1,x1,xc1⟩:=⟨hat1.log,hat1.idx⟩
   refine⟨(gM m0 ks ks.length).d,?_⟩;rw[hyes hall,hall]
   and_intros<;>first|exact dg|rfl|exact ak.refl _ _ _|exact Nat.le_refl _|exact hok2|exact hok3|skip
   intro _ _;refine⟨⟨H1,y1,x1,xc1⟩,?_⟩
   and_intros<;>first|exact dg|rfl|exact ak.refl _ _ _|exact Nat.le_refl _|exact hat2|exact hfr1)
theorem RF:au (Y Tryz.prog).G.X 135 IY:=aU fF RE ⟨zF,HX,IU,Ix.Lr,ja,trivial⟩
theorem U7{n:Nat}:ak n 4 (fun(x j:Nat)=>[Go.Value.string { data:=#[] },Go.Value.int Go.IntKind.i64 0,Go.Value.bool Bool.false,Go.Value.bool Bool.false].getD j (Go.Value.tuple #[])) (aa Ix.wg (Ix.bU n).t):=by
 refine .dB fun i hi=>?_;unfold aa;rw[show gl (Ix.bU n).t i=⟨.empty,0,false,false⟩from Ix.uB hi];rfl
theorem RH:ak 16 4 (fun(x j:Nat)=>[Go.Value.string { data:=#[] },Go.Value.int Go.IntKind.i64 0,Go.Value.bool Bool.false,Go.Value.bool Bool.false].getD j (Go.Value.tuple #[])) (aa Ix.wg (Ix.bU 16).t):=U7
noncomputable def PW:cG where
 α:=Unit
 β:=Unit
 m:=0
 m':=2
 pre:=fun _=>True
 args:=fun _=>[]
 hp:=fun _=>[]
 ro:=fun _=>[]
 post:=fun _ _=>True
 res:=fun _ _=>.a (.ptr 0 0 0 0)
 cR:=fun _ _=>Ix.qh 0 1 (Ix.bU 16).t 16 (Ix.bU 16).n (Ix.bU 16).used
theorem U8:fnBody (Y Tryz.prog) [] 178 PW fun _=>[]:=fnBody.of (p :=
 aB (mE 16 512 (Exists (az (ag (gA (bF 16 (16=16)) (ay 0) (bt (aG 16 16 4 IN (ef (Ix.bU 16)))))))))) (by kernel_rfl) (by
 delta aW bF aG ay bT cA bP gA dW bw aB bJ mE az gf ag dI ef bt ew IN
 try dsimp -iota -proj only
 intro _ _;refine⟨by omega,by omega,by omega,(),?_⟩
 and_intros<;>first|exact dg|rfl|exact ak.refl _ _ _|exact Nat.le_refl _|exact RH)
theorem Lv:au (Y Tryz.prog).G.X 178 PW:=aU fF U8 trivial
def xy(l:List (ByteArray×Int))(o:Option aH)(pos:Int):List (ByteArray×Int):=match o with
 |none=>[]
 |some x=>if x.gone then mV l x.key else FD l x.key pos
def nI(es:List (Option aH))(rs:List RecM):Nat->List (ByteArray×Int)
 |0=>[]
 |i+1=>xy (nI es rs i) (gl es i) (gl rs i).pos
theorem Gt(es:List (Option aH))(rs:List RecM):∀i,(nI es rs i).length<=i
 |0=>Nat.le_refl _
 |i+1=>by
  have:=Gt es rs i;show(xy _ _ _).length<=_;unfold xy;split
  ·simp
  ·split
   ·have:=Gs (nI es rs i) (by assumption:aH).key;omega
   ·have:=Lt (nI es rs i) (by assumption:aH).key (gl rs i).pos;omega
theorem I4{l:List dJ}{i k:Nat}(hi:i<l.length)(hk:k<(gl l i).aV.length):∃j,j<(gT l).length/\gl (gT l) j=gl (gl l i).aV k:=by
 have hm:gl (gl l i).aV k∈gT l:=List.mem_flatMap.2 ⟨gl l i,by rw[bL hi];exact List.getElem_mem _,by rw[bL hk];exact List.getElem_mem _⟩;obtain⟨j,hj,e⟩:=List.getElem_of_mem hm;exact⟨j,hj,by rw[bL hj];exact e⟩
structure lC where
 H:PH
 d:bG
 from_:Nat
 av:Nat
 es:List (Option aH)
def Lw(a:lC):oN:=⟨cV a.from_ a.av a.d,a.d,nI a.es (gT (cV a.from_ a.av a.d).l) a.es.length⟩
structure ZT(es:List (Option aH))(rs:List RecM):Prop where
 len:es.length=rs.length
 zG:es.length<9000
 at_:∀i,i<es.length->(gl rs i).body=aL (gl es i)/\∀x,gl es i=some x->gh x=true
noncomputable def Ba:cG where
 α:=lC
 β:=sY
 m:=3
 m':=8
 pre:=fun a=>sF a.from_ a.av a.d/\ZT a.es (gT (cV a.from_ a.av a.d).l)/\∀i,i<(cV a.from_ a.av a.d).l.length->(gl (cV a.from_ a.av a.d).l i).aV.length<=400
 args:=fun a=>[.a (.ptr 0 0 0 0),.a (.int .i64 a.from_),.a (.int .i64 a.av)]
 hp:=fun a=>[(2,.cI a.H)]
 ro:=fun a=>ic 0 1 a.d
 post:=fun a b=>jH (Lw a) b/\∀z,a.H z≠none->b.H z=a.H z/\z∉bB b.y
 res:=fun a b=>.ng [.a (.ptr 3 0 0 0),.a (.lit .i64 0)]
 cR:=fun a b=>[(3,.obj 205 [.ptr 4 0 0 0,.ptr 5 0 0 0]),(4,gu 0 (Lw a).L b.y.lv)]++Ix.qh 5 6 b.x.t b.cap b.x.n b.x.used++[(7,.cI b.H)]
structure wu where
 i:Nat
 x:Ix.cT
 cap:Nat
def S.ix(s:S)(c:Nat)(x:Ix.cT)(cap:Nat):S :=
 (((s.put ((s.hp.del (s.qx (s.qx c 1) 0)).del (s.qx c 1))).new (.arr 251 Ix.ksP x.t.length (aa Ix.wg x.t))).new (.obj 247 [.slc s.nx 0 4 x.t.length cap,.int .i64 x.n,.int .i64 x.used])).at_ c (.obj 205 [.ptr (s.qx c 0) 0 0 0,.ptr (s.nx+1) 0 0 0])
def ZU(a:lC):An:=.flat 6 wu (fun s z=>(S.ix s (s.tg 10) z.x z.cap).int 32 z.i) (fun _ z=>z.i<=a.es.length/\Ix.Has z.x (nI a.es (gT (cV a.from_ a.av a.d).l) z.i)) (fun _ z=>a.es.length-z.i)
noncomputable def U9:List (Nat×cG):=[(175,IE),(178,PW),(176,PL),(179,PT),(180,Ix.PS),(123,Ix.Dz)]
def I5(z:xS)(x:lC)(u:Kr)(w:nB)(s:Prop):=kA z.v (ag (bI (aI (fc (ay 0) (aP x.from_ (aP x.av (z.H=z.H/\aA (ag (gK (cV u.from_ u.av u.d) w.y (gP x.d x.d s))))))))))
def Bb(x:lC):List RecM:=gT (cV x.from_ x.av x.d).l
def PX(u:wu)(v:xS)(z:lC)(w:Kr)(s:nB)(t:Ix.cT)(f:Nat):=aQ u.i (∃y:wu,aY u.i=af y.i/\I5 v z w s (zQ t y.x f y.cap (dD y.i z.es.length (Ix.Has y.x (nI z.es (Bb z) y.i)) u.i)))
noncomputable def NT(v:V1 wq.α)(y:wu)(w:xS)(s:lC)(t:Kr)(f:nB)(g:List Value)(h:Nat):=qp v.a.o.isSome (aH.gone (l5 v.a.o)) (∃u:Ix.vj,ag (aH.key (l5 v.a.o)=u.key/\zQ y.x u.x y.cap u.cap (A4 u/\aB (PX y w s t f (Ix.jM u.x u.key) u.cap)))) (aD v.a.o.isSome (ai (jW (aW g h))->∃z:Ix.mC,ag (aH.key (l5 v.a.o)=z.key/\jW (aW g h)=z.pos/\zQ y.x z.x y.cap z.cap (A3 z/\∀i:Nat,True->PX y w s t f (Ix.vh z.x z.key z.pos) i))) (PX y w s t f y.x y.cap))
def Bc(x y:Nat)(z:bG)(v:Prop):=sF x y z/\v/\∀u:Nat,u<bK (cV x y z)->oo (cV x y z) u<=400
def I6(y:wu)(z:lC):=y.i<=z.es.length/\Ix.Has y.x (nI z.es (Bb z) y.i)
theorem RI:fnBody (Y Tryz.prog) U9 130 Ba fun a=>[(130,[ZU a],[])]:=fnBody.of (p :=
 ∀z:lC,Bc z.from_ z.av z.d (ZT z.es (Bb z))->∃u:Kr,ag (bC z.from_ u.from_/\bC z.av u.av/\z.H=u.H/\gP z.d u.d (sF u.from_ u.av u.d/\∀h:nB,yO h u->Exists (az (ee (∃l:u6,fc (h.H=l.H) (vf (cV u.from_ u.av u.d) l.L h.y.lv l.y.lv (AU l/\∀t:xS,AT t l->gD t.v/\(∃s:wu,aT s.i (I5 t z u h (qi 16 s.x (16=s.cap) 0 0 (ef (Ix.bU 16)) (I6 s z) True)))/\∀s:wu,I6 s z->vX s.i t.v (fun w=>t.H w) (fun w g=>∃f:V1 wq.α,aW g (w+1)=f.v/\t.H=f.H/\(A6 f.a.o f.a.cap/\kR f.H f.v (ji (CK.int .u8)) (CJ f.a).n (CJ f.a).cap (CJ f.a).rows)/\∀r:wq.β,True->gD (aW g (w+1))/\aD (af (di (aW g (w+1))) == (1:Int)) (Exists (jh (aW g (w+1)) 0 fun p q=>Exists (nC p q 0 (fun j=>t.H j) (fun j=>∃k:Int,j=e9 k/\kr k) (fun j k=>True) fun j k=>kr (jW (aW k j))->aD (jW (aW k j) == (2:Int)) (Exists (az (ee (aQ s.i (∃m:wu,aY s.i=af m.i/\I5 t z u h (qi 16 m.x (16=m.cap) 0 0 (ef (Ix.bU 16)) (I6 m z) (z.es.length-m.i<z.es.length-s.i))))))) (NT f s t z u h g w)))) (NT f s t z u h g w)) (∃w:sY,ag (aI (aA (gi (cV u.from_ u.av u.d) (Lw z).L h.y w.y (zQ s.x w.x s.cap w.cap (t.H=w.H/\(jH (Lw z) w/\∀g:Nat,pR (z.H g) (w.H g) (bB w.y) g)/\True)))))))))))))) (by kernel_rfl) (by
 delta qp aD aW ah ai bF aG ay ax bn aK aY cq af nC bf e9 aC aR dW cH fc PX bp aB gD qi dD qg bI ey aP bK yL gK aI NT yO jh bM aT az Bc I5 AT ag kA vX pR aA A4 iB aQ ji I6 AU l5 bC ef kr oo A6 gi jP A3 Bb ee
 try dsimp -iota -proj only
 rintro⟨H,d,fr,sg,es⟩ ⟨ok,hes,hsl⟩;dsimp only at *;obtain⟨L,hL⟩:∃L,L=cV fr sg d:=⟨_,rfl⟩
 have hone:L.l.length<=1:=by rw[hL];exact ok.one
 have hopn:Lw ⟨H,d,fr,sg,es⟩=⟨L,d,nI es (gT L.l) es.length⟩:=by rw[hL];rfl
 rw[hopn];rw[<- hL]at hes hsl;refine⟨Kr.mk H d fr sg,?_⟩;dsimp only;rw[<- hL]
 and_intros<;>first|exact dg|rfl|exact ak.refl _ _ _|exact Nat.le_refl _|exact ok|skip
 rintro⟨H1,y1⟩ ⟨hl1,hf1⟩;dsimp only at hl1 hf1 ⊢;refine⟨(),trivial,fun _ _=>⟨u6.mk H1 y1 L,?_⟩⟩;have hrec:∀i,i<L.l.length->(gl L.l i).aV.length<=400/\∀k,k<(gl L.l i).aV.length->1<=(gl (gl L.l i).aV k).body.length/\(gl (gl L.l i).aV k).body.length<=1000:=fun i hi=>⟨hsl i hi,fun k hk=>by
  obtain⟨j,hj,e⟩:=I4 hi hk;obtain⟨e1,e2⟩:=hes.at_ j (by rw[hes.len];exact hj);rw[<- e,e1];have:=mO e2;omega⟩
 and_intros<;>first|exact dg|rfl|exact ak.refl _ _ _|exact Nat.le_refl _|exact hl1|exact hrec|(dsimp only;omega)|skip
 rintro⟨H2,v,vs⟩ ⟨hout,hf2⟩;dsimp only at hout hf2 ⊢;obtain⟨cr,hrows⟩:=hout.rows;obtain⟨s1,s2,s3,s4,s5,⟨sa,s6⟩,s7⟩:=fH hrows;have hlen:=hes.len;have hfew:=hes.zG;have hlog:ct H2 y1 L:=hl1.frame fun z hz=>(hf2 z (hl1.dom z hz)).1;have hfin:∀z,H z≠none->H2 z=H z/\¬z∈bB y1:=fun z hz=>by
  obtain⟨a1,a2⟩:=hf1 z hz;exact⟨(hf2 z (by rw[a1];exact hz)).1.trans a1,a2⟩
 refine⟨⟨sa,_,_,s6,by simp only[aq];omega⟩,⟨⟨0,Ix.bU 16,16⟩,?_⟩,fun q hq=>?_⟩
 ·have h0:Ix.Has (Ix.bU 16) (nI es (gT L.l) 0):=Ix.xx (by omega) (by omega)
  and_intros<;>first|exact dg|rfl|exact ak.refl _ _ _|exact Nat.le_refl _|exact h0
 ·obtain⟨i,x,xc⟩:=q;obtain⟨hi,hx⟩:=hq;dsimp only at hi hx ⊢;have hxl:(nI es (gT L.l) i).length<=i:=Gt es (gT L.l) i;have hn:=CL hx;have hstep:nI es (gT L.l) (i+1)=xy (nI es (gT L.l) i) (gl es i) (gl (gT L.l) i).pos:=rfl;rw[s1];refine⟨fun c1=>?_,fun c1=>⟨⟨H2,y1,x,xc⟩,?_⟩⟩
  ·have hi':i<es.length:=by have:=of_decide_eq_true c1;omega
   obtain⟨b',lo',o',cs',q1,q2,q3,q4,q5,q6,q7,q8⟩:=vW hrows (k:=i) (by omega);obtain⟨cb,hbody⟩:=hout.body i (by omega);obtain⟨e1,e2⟩:=hes.at_ i hi';rw[e1]at hbody;obtain⟨w1,w2,w3,w4,w5,⟨wa,w7⟩,w6⟩:=fH hbody;obtain⟨hb1,hb2⟩:=mO e2;refine⟨_,_,_,_,q1,by omega,b',lo',o'+i*2,cs',by rw[Int.toNat_natCast];congr 1;omega,q2,⟨⟨_,q3,_,rfl,q6⟩,⟨_,q4,q5⟩,trivial⟩,?_⟩;rw[q7,q8];refine⟨⟨⟨gl es i,cb⟩,H2,vs.getD i undef⟩,rfl,rfl,⟨⟨e2,w3⟩,hbody⟩,fun _ _=>⟨⟨wa,_,_,w7,by simp only[aq];omega⟩,?_⟩⟩;rw[w1];dsimp only[jW];cases ho:gl es i with
   |none =>
    rw[ho]at hbody hstep;refine⟨fun _=>?_,fun c=>absurd c (by simp[aL])⟩;rcases hbody with⟨_,h0,_⟩ | ⟨b9,lo9,o9,cs9,h9,h91,h92,h93,h94⟩
    ·cases h0
    obtain⟨k1,_⟩:=h94.at_ 0 (by simp[aL]) 0 (.int .u8) rfl;have k1:cs9[o9]? = some (.int .u8 2):=k1;have k2:cs9.getD o9 (Value.tuple #[]) = .int .u8 2:=by rw[List.getD_eq_getElem?_getD,k1];rfl
    refine⟨_,_,_,_,h9,by simp[aL],b9,lo9,o9,cs9,rfl,h92,⟨⟨_,k1,2,rfl,by simp only[bR];omega⟩,trivial⟩,fun _=>?_⟩;rw[k2];dsimp only[jW];refine⟨fun _=>⟨(),trivial,fun _ _=>⟨by simp only[bR];omega,⟨i+1,Ix.bU 16,16⟩,?_⟩⟩,fun c=>absurd c (by decide)⟩;have h0:Ix.Has (Ix.bU 16) (nI es (gT L.l) (i+1)):=by rw[hstep];exact Ix.xx (by omega) (by omega)
    and_intros<;>first|exact dg|rfl|exact ak.refl _ _ _|exact Nat.le_refl _|exact h0|(dsimp only;omega)
   |some it =>
    rw[ho]at hbody hstep e2;have hmay:=e2 it rfl;have hks:it.key.size<=aq:=by have:=rQ hmay;simp only[aq];omega
    have hl2:(aL (some it)).length≠1:=by have:=Gp hmay;simp only[aL,List.length_cons];omega
    have hl3:(((aL (some it)).length:Int) == 1)=false:=by rw[beq_eq_false_iff_ne];omega
    refine⟨fun c=>by(rw[hl3]at c;cases c),fun _=>⟨fun _=>⟨fun cg=>⟨Ix.vj.mk x xc it.key,?_⟩,fun cg=>⟨fun _ _=>⟨Ix.mC.mk x xc it.key (gl (gT L.l) i).pos,?_⟩,fun c=>absurd c (show ¬(true=false)by decide)⟩⟩,fun c=>absurd c (show ¬(true=false)by decide)⟩⟩
    ·have cg:it.gone=true:=cg;obtain⟨hd1,hd2⟩:=Ls (k:=it.key) hx;have hd3:Ix.Has (Ix.jM x it.key) (nI es (gT L.l) (i+1)):=by rw[hstep];simp only[xy,cg,if_true];exact hd1
     and_intros<;>first|exact dg|rfl|exact ak.refl _ _ _|exact Nat.le_refl _|exact hx.inv|exact hks|exact hd2|(dsimp only;omega)|skip
     intro _ _;refine⟨by simp only[bR];omega,⟨i+1,Ix.jM x it.key,xc⟩,?_⟩
     and_intros<;>first|exact dg|rfl|exact ak.refl _ _ _|exact Nat.le_refl _|exact hd3|(dsimp only;omega)
    ·have cg:it.gone=false:=cg;have hp1:=PU (p:=(gl (gT L.l) i).pos) hx (by omega) hks;have hp3:Ix.Has (Ix.vh x it.key (gl (gT L.l) i).pos) (nI es (gT L.l) (i+1)):=by rw[hstep];simp only[xy,cg];exact hp1
     and_intros<;>first|exact dg|rfl|exact ak.refl _ _ _|exact Nat.le_refl _|exact hx.inv|exact hks|(dsimp only;omega)|skip
     intro c2 _;refine⟨by simp only[bR];omega,⟨i+1,Ix.vh x it.key (gl (gT L.l) i).pos,c2⟩,?_⟩
     and_intros<;>first|exact dg|rfl|exact ak.refl _ _ _|exact Nat.le_refl _|exact hp3|(dsimp only;omega)
  ·have hi':i=es.length:=by have:=of_decide_eq_false c1;omega
   subst hi'
   and_intros<;>first|exact dg|rfl|exact ak.refl _ _ _|exact Nat.le_refl _|exact⟨hlog,hx⟩|exact hfin)
theorem RJ:au (Y Tryz.prog).G.X 130 Ba:=aU fF RI ⟨Ge,Lv,Lo,NR,Ix.Lr,Ix.CE,trivial⟩
structure fq where
 seq:Int
 key:ByteArray
 pos:Int
 deriving Inhabited
def sH:List CK:=[.int .i64,.str,.int .i64]
def cS(x:fq):List Value:=[.int .i64 x.seq,.string x.key,.int .i64 x.pos]
@[reducible] def wv(a b:List fq)(v w:Nat)(p:Prop):Prop:=(0=0/\a.length=b.length/\v=w)/\(b.length<=a.length/\ak b.length 3 (aa cS a) (aa cS b))/\p
def dR(f:Int)(ms:List fq):List fq:=ms.filter fun x=>decide (f<=x.pos)
def Y0(lg ma:Nat)(n cap:Nat):Chunk:=.obj 226 [.ptr lg 0 0 0,.slc ma 0 3 n cap]
structure oa where
 ms:List fq
 cap:Nat
 H:PH
 y:iL
 L:b8
noncomputable def Va:cG where
 α:=oa
 β:=Int
 m:=6
 m':=6
 pre:=fun a=>ct a.H a.y a.L/\a.L.l.length<1000/\a.ms.length<100000
 args:=fun a=>[.a (.slc 0 0 3 a.ms.length a.cap),.Cg 183 [.ptr 1 0 0 0]]
 hp:=fun _=>[]
 ro:=fun a=>[(0,.arr 228 sH a.ms.length (aa cS a.ms)),(1,.obj 85 [.ptr 2 0 0 0]),(2,Y0 3 0 a.ms.length a.cap),(3,gu 4 a.L a.y.lv),(5,.cI a.H)]
 post:=fun a r=>(r = -1/\∀i,i<a.ms.length->cM a.L<=(gl a.ms i).pos)\/∃i:Nat,r=i/\i<a.ms.length/\(gl a.ms i).pos<cM a.L/\∀j,j<i->cM a.L<=(gl a.ms j).pos
 res:=fun _ r=>.a (.int .i64 r)
 cR:=fun _ _=>[]
def aaO(a:oa):An:=.flat 2 Nat (fun s k=>s.int 8 k) (fun _ k=>k<=a.ms.length/\∀j,j<k->cM a.L<=(gl a.ms j).pos) (fun _ k=>a.ms.length-k)
def bD(x:List fq):Nat:=x.length
def yS(z:Nat)(x:oa):=∀y:Nat,y<z->cM x.L<=(gl x.ms y).pos
def Ei(z:Int)(x:oa):=z=(-1:Int)/\yS (bD x.ms) x\/∃y:Nat,z=af y/\y<bD x.ms/\(gl x.ms y).pos<cM x.L/\yS y x
def rj(x y:Nat)(z:Prop)(u:Nat)(v:Nat->Nat->Value)(w:Prop):=aP x (aI (jR x y z u v w))
def NU(x:oa)(z:Prop):=rj (bD x.ms) x.cap (0=0) 3 (aa cS x.ms) (aA (bh (bD x.ms) x.cap/\ag (gK x.L x.y (x.H=x.H/\z))))
theorem Vb:fnBody (Y Tryz.prog) [(164,DV)] 211 Va fun a=>[(211,[aaO a],[])]:=fnBody.of (p :=
 ∀x:oa,ct x.H x.y x.L/\bK x.L<1000/\bD x.ms<100000->cm (fun z=>NU x ((z<=bD x.ms/\yS z x)/\True)) fun z=>gX z (bD x.ms) (yS z x) (ai (gl x.ms (0+ax z)).pos->∃u:Fz,aA (pU x.L u.L x.y u.y x.H u.H (bK u.L<1000) (aB (aX (gl x.ms (0+ax z)).pos (jx u.L.l u.L.next) (∃v:Int,af z=v/\Ei v x/\True) (bH z fun v=>NU x (dD v (bD x.ms) (yS v x) z)))))) (∃w:Int,(-1:Int)=w/\Ei w x/\True)) (by kernel_rfl) (by
 delta aD eF ai bF aG ay ax dm aK aY af bf aC aR dV aB jD dD jR bD aP bK bH gK aI bh Ei bM aT ag aX aA aQ pU dh gX yS NU rj cm
 try dsimp -iota -proj only
 rintro⟨ms,cap,H,y,L⟩ ⟨hl,hf,hn⟩;dsimp only at *;have h0:∀j,j<0->cM L<=(gl ms j).pos:=fun j hj=>absurd hj (Nat.not_lt_zero j);refine⟨⟨0,?_⟩,fun i hi=>?_⟩
 ·and_intros<;>first|exact bY|exact h0|(intro h_;revert h_)|exact bZ|skip
 obtain⟨hi,hall⟩:=hi;rw[show 0+(i:Int).toNat=i by omega];refine⟨fun c1=>?_,fun c1=>⟨-1,rfl,.inl ⟨rfl,fun j hj=>hall j (by have:=of_decide_eq_false c1;omega)⟩,trivial⟩⟩;have hlt:i<ms.length:=by have:=of_decide_eq_true c1;omega
 refine⟨⟨by omega,by omega⟩,hlt,fun _=>⟨Fz.mk H y L,?_⟩⟩
 and_intros<;>first|exact bY|exact hl|exact hf|(intro h_;revert h_)|exact bZ|skip
 intro _ _;refine⟨fun c2=>⟨i,rfl,.inr ⟨i,rfl,hlt,of_decide_eq_true c2,hall⟩,trivial⟩,fun c2=>⟨by simp only[bR];omega,i+1,?_⟩⟩;have c2:¬(gl ms i).pos<cM L:=of_decide_eq_false c2;have h1:∀j,j<i+1->cM L<=(gl ms j).pos:=fun j hj=>by
  by_cases e:j=i
  ·subst e;omega
  ·exact hall j (by omega)
 and_intros<;>first|exact bY|exact h1|(intro h_;revert h_)|exact bZ|skip)
theorem Vc:au (Y Tryz.prog).G.X 211 Va:=aU fF Vb ⟨AR,trivial⟩
def rH(f:Int)(ms:List fq)(j:Nat):List fq:=dR f (ms.take j)++ms.drop (dR f (ms.take j)).length
noncomputable def Vd:cG where
 α:=oa
 β:=Unit
 m:=6
 m':=6
 pre:=fun a=>ct a.H a.y a.L/\a.L.l.length<1000/\a.ms.length<100000/\a.ms.length<=a.cap
 args:=fun a=>[.a (.slc 0 0 3 a.ms.length a.cap),.Cg 183 [.ptr 1 0 0 0]]
 hp:=fun a=>[(0,.arr 228 sH a.ms.length (aa cS a.ms))]
 ro:=fun a=>[(1,.obj 85 [.ptr 2 0 0 0]),(2,Y0 3 0 a.ms.length a.cap),(3,gu 4 a.L a.y.lv),(5,.cI a.H)]
 post:=fun _ _=>True
 res:=fun a _=>.a (.slc 0 0 3 (dR (cM a.L) a.ms).length a.cap)
 cR:=fun a _=>[(0,.arr 228 sH (dR (cM a.L) a.ms).length (aa cS (dR (cM a.L) a.ms)))]
theorem qB{f:Int}{ms:List fq}{j:Nat}(hj:j<ms.length):dR f (ms.take (j+1))=if f<=(gl ms j).pos then dR f (ms.take j)++[gl ms j]else dR f (ms.take j):=by
 unfold dR;rw[qz hj,List.filter_append];by_cases h:f<=(gl ms j).pos
 ·rw[if_pos h];simp[h]
 ·rw[if_neg h];simp[h]
theorem CM(f:Int)(ms:List fq)(j:Nat):(dR f (ms.take j)).length<=j:=Nat.le_trans (List.length_filter_le _ _) (by rw[List.length_take];omega)
theorem Lx{f:Int}{ms:List fq}(h:∀i,i<ms.length->f<=(gl ms i).pos):dR f ms=ms:=by
 unfold dR;rw[List.filter_eq_self];intro x hx;obtain⟨i,hi,rfl⟩:=List.getElem_of_mem hx;rw[<- bL hi];exact decide_eq_true (h i hi)
theorem BY{f:Int}{ms:List fq}:∀ {k:Nat},k<=ms.length->(∀i,i<k->f<=(gl ms i).pos)->dR f (ms.take k)=ms.take k
 |0,_,_=>rfl
 |k+1,hk,h=>by rw[qB (by omega),if_pos (h k (by omega)),BY (by omega) fun i hi=>h i (by omega),qz (by omega)]
theorem XX{f:Int}{ms:List fq}{j:Nat}(hj:j<ms.length):gl (rH f ms j) j=gl ms j:=by
 have h1:=CM f ms j;obtain⟨q,hq⟩:∃q,j=(dR f (ms.take j)).length+q:=⟨j-(dR f (ms.take j)).length,by omega⟩
 have h2:gl (rH f ms j) ((dR f (ms.take j)).length+q)=gl (ms.drop (dR f (ms.take j)).length) q:=br;rw[<- hq]at h2;rw[h2,bL (by rw[List.length_drop];omega),bL hj,List.getElem_drop];congr 1;omega
theorem Ve{f:Int}{ms:List fq}{j:Nat}(hj:j<ms.length)(h:f<=(gl ms j).pos):rH f ms (j+1)=(rH f ms j).set (dR f (ms.take j)).length (gl ms j):=by
 have h1:=CM f ms j;unfold rH;rw[qB hj,if_pos h,List.length_append,List.length_singleton,List.set_append_right _ _ (Nat.le_refl _),Nat.sub_self,List.drop_eq_getElem_cons (show(dR f (ms.take j)).length<ms.length by omega),List.set_cons_zero,List.append_assoc];rfl
theorem XY{f:Int}{ms:List fq}{j:Nat}(hj:j<ms.length)(h:¬f<=(gl ms j).pos):rH f ms (j+1)=rH f ms j:=by
 unfold rH;rw[qB hj,if_neg h]
theorem Vf(f:Int)(ms:List fq){j:Nat}(hj:j<=ms.length):(rH f ms j).length=ms.length:=by
 have h1:=CM f ms j;unfold rH;rw[List.length_append,List.length_drop];omega
def aaP(a:oa):An:=.flat 5 Nat (fun s j=>((s.at_ 0 (.arr 228 sH a.ms.length (aa cS (rH (cM a.L) a.ms j)))).int 5 ((dR (cM a.L) (a.ms.take j)).length:Nat)).int 6 j) (fun _ j=>j<=a.ms.length) (fun _ j=>a.ms.length-j)
def ow(x:oa)(y:Nat):Nat:=bD (dR (cM x.L) (List.take y x.ms))
def I7(z:Int)(x:oa)(u:Nat->Nat->Value)(v:Nat)(w:Prop):=bn (z == (-1:Int))/\bh (bD x.ms) x.cap/\ag (aG (bD x.ms) (bD x.ms) 3 u (aa cS (rH (cM x.L) x.ms v))/\aA (bh (bD x.ms) x.cap/\ag (gK x.L x.y (x.H=x.H/\w))))
def Bd(x:oa)(y:Nat):fq:=gl (rH (cM x.L) x.ms y) (0+ax y)
def I8(z:List fq)(x:oa)(u:Nat)(v:b8)(w:iL)(s:PH)(t f:Prop):=eH (bD z) (bD x.ms) u x.cap (0=0) 3 (aa cS z) (aa cS x.ms) (aA (ag (bD z=bD x.ms/\u=x.cap)/\ag (pU v x.L w x.y s x.H (bK x.L<1000/\t) f)))
theorem Vg:fnBody (Y Tryz.prog) [(164,DV),(211,Va)] 182 Vd fun a=>[(182,[aaP a],[])]:=fnBody.of (p :=
 ∀x:oa,ct x.H x.y x.L/\bK x.L<1000/\bD x.ms<100000/\bD x.ms<=x.cap->∃s:oa,I8 x.ms s x.cap x.L x.y x.H (bD s.ms<100000) (∀u:Int,Ei u s->aD (u == (-1:Int)) (Exists (az (wv x.ms (dR (cM x.L) x.ms) x.cap x.cap (True/\True)))) (ai (u+(1:Int))/\(∃z:Nat,u+(1:Int)=af z/\u=af (ow x z)/\I7 u x (aa cS x.ms) z (z<=bD x.ms/\True))/\∀z:Nat,gm z (bD x.ms) (ai (fq.pos (Bd x z))->∃v:Fz,aA (pU x.L v.L x.y v.y x.H v.H (bK v.L<1000) (aB (aD (bq (aK (fq.pos (Bd x z)) (jx v.L.l v.L.next))) (dh (ow x z) (bD x.ms) (aQ (ow x z) (bH z fun w=>aY (ow x z)=af (ow x w)/\I7 u x (kQ (aa cS (rH (cM x.L) x.ms z)) (0+ax (ow x z)) 0 (bT (fq.seq (Bd x z)) (dI (fq.key (Bd x z)) (fq.pos (Bd x z)) []))) w (bS w (bD x.ms) z)))) (bH z fun w=>bC (ow x z) (ow x w)/\I7 u x (aa cS (rH (cM x.L) x.ms z)) w (bS w (bD x.ms) z)))))) (cK (af (ow x z)) (bD x.ms)/\cK (af (ow x z)) x.cap/\Exists (az (ag (ax (ow x z)-0=bD (dR (cM x.L) x.ms)/\x.cap-0=x.cap)/\bt (aG (bD (dR (cM x.L) x.ms)) (bD x.ms) 3 (fun t=>yF (ow x z) t (bD x.ms) (bT 0 (dI cA 0 [])) fun v=>aa cS (rH (cM x.L) x.ms z) t v) (aa cS (dR (cM x.L) x.ms))))))))) (by kernel_rfl) (by
 delta aD aW ai bF aG bT ax bn dm aK aY cA af eo bf aC aR dW bw dV aB jD eH bD bS bK bH bJ gK bh ow Ei bM az I7 ag aA bq dI aQ pU gm dh bC yS cK yF Bd I8 bt
 try dsimp -iota -proj only
 rintro⟨ms,cap,H,y,L⟩ ⟨hl,hf,hn,hcap⟩;dsimp only at *;refine⟨oa.mk ms cap H y L,?_⟩
 and_intros<;>first|exact bY|exact hl|exact hf|exact hn|(intro h_;revert h_)|exact bZ|skip
 intro b hb;dsimp only at hb;obtain⟨f,hff⟩:∃f,f=cM L:=⟨_,rfl⟩
 rw[<- hff]at hb;rw[<- hff];refine⟨fun c=>⟨(),?_⟩,fun c=>?_⟩
 ·have hk:dR f ms=ms:=by
   rcases hb with⟨_,h⟩ | ⟨i,hi,_⟩
   ·exact Lx h
   ·have:=eq_of_beq c;omega
  rw[hk]
  and_intros<;>first|exact bY|(intro h_;revert h_)|exact bZ|skip
 rcases hb with⟨h,_⟩ | ⟨i0,rfl,hi0,hlt,hall⟩
 ·rw[h]at c;cases c
 have hk0:dR f (ms.take i0)=ms.take i0:=BY (by omega) hall;have hk1:dR f (ms.take (i0+1))=ms.take i0:=by rw[qB hi0,if_neg (by omega),hk0]
 have hl0:(dR f (ms.take (i0+1))).length=i0:=by rw[hk1,List.length_take];omega
 have hd0:rH f ms (i0+1)=ms:=by unfold rH;rw[hl0,hk1,List.take_append_drop]
 refine⟨by simp only[bR];omega,⟨i0+1,?_⟩,fun j hj=>?_⟩
 ·rw[hl0,hd0]
  and_intros<;>first|exact bY|(intro h_;revert h_)|exact bZ|skip
 have hcj:=CM f ms j;obtain⟨c1,hc1⟩:∃c1,c1=(dR f (ms.take j)).length:=⟨_,rfl⟩
 rw[<- hc1]at hcj;rw[<- hc1,show 0+(j:Int).toNat=j by omega,show 0+(c1:Int).toNat=c1 by omega,show(c1:Int).toNat=c1 by omega];refine⟨fun d1=>?_,fun d1=>?_⟩
 ·have hj2:j<ms.length:=by have:=of_decide_eq_true d1;omega
  rw[XX hj2];refine⟨⟨by omega,by omega⟩,hj2,fun _=>⟨Fz.mk H y L,?_⟩⟩
  and_intros<;>first|exact bY|exact hl|exact hf|(intro h_;revert h_)|exact bZ|skip
  intro _ _;dsimp only;rw[show jx L.l L.next=f from hff.symm];refine⟨fun d2=>?_,fun d2=>?_⟩
  ·have hp:f<=(gl ms j).pos:=by simp only[Bool.not_eq_true',decide_eq_false_iff_not]at d2;omega
   have hk2:(dR f (ms.take (j+1))).length=c1+1:=by rw[qB hj2,if_pos hp,List.length_append,<- hc1];rfl
   have hr:ak ms.length 3 (kQ (aa cS (rH f ms j)) c1 0 [Value.int .i64 (gl ms j).seq,Value.string (gl ms j).key,Value.int .i64 (gl ms j).pos]) (aa cS (rH f ms (j+1))):=by
    rw[Ve hj2 hp,<- hc1];exact ak.set c1 (by rw[Vf f ms (by omega)];omega) (fun i hi=>iz hi) (by rw[jB];rfl)
   refine⟨⟨by omega,by omega⟩,by omega,by simp only[bR];omega,by simp only[bR];omega,j+1,?_⟩;rw[hk2]
   and_intros<;>first|exact bY|exact hr|(intro h_;revert h_)|exact bZ|skip
  ·have hp:¬f<=(gl ms j).pos:=by simp only[Bool.not_eq_false',decide_eq_true_eq]at d2;omega
   have hk2:(dR f (ms.take (j+1))).length=c1:=by rw[qB hj2,if_neg hp,<- hc1]
   refine⟨by simp only[bR];omega,j+1,?_⟩;rw[hk2,XY hj2 hp]
   and_intros<;>first|exact bY|(intro h_;revert h_)|exact bZ|skip
 ·have hj2:j=ms.length:=by have:=of_decide_eq_false d1;omega
  subst hj2;have hk:(dR f ms).length=c1:=by rw[hc1,List.take_length]
  rw[hk];have hr:ak c1 3 (fun(i j:Nat)=>if c1<=i/\i<c1+(ms.length-c1)then[Value.int .i64 0,Value.string (ByteArray.mk #[]),Value.int .i64 0].getD j (Value.tuple #[])else aa cS (rH f ms ms.length) i j) (aa cS (dR f ms)):=⟨fun i hi j hj=>by
   rw[if_neg (by omega)];unfold aa rH;rw[bV (by rw[List.take_length,hk];exact hi),List.take_length]⟩
  refine⟨⟨by omega,by omega⟩,⟨by omega,by omega⟩,(),?_⟩
  and_intros<;>first|exact bY|exact hr|(intro h_;revert h_)|exact bZ|skip)
theorem Vh:au (Y Tryz.prog).G.X 182 Vd:=aU fF Vg ⟨AR,Vc,trivial⟩
def iD(ms:List fq):Int:=if ms.length=0 then 0 else(gl ms (ms.length-1)).seq
structure I9 where
 ms:List fq
 cap:Nat
noncomputable def PY:cG where
 α:=I9
 β:=Unit
 m:=3
 m':=3
 pre:=fun a=>a.ms.length<100000
 args:=fun a=>[.a (.ptr 0 0 0 0)]
 hp:=fun _=>[]
 ro:=fun a=>[(0,Y0 2 1 a.ms.length a.cap),(1,.arr 228 sH a.ms.length (aa cS a.ms))]
 post:=fun _ _=>True
 res:=fun a _=>.a (.int .i64 (iD a.ms))
 cR:=fun _ _=>[]
theorem Vi:fnBody (Y Tryz.prog) [] 140 PY fun _=>[]:=fnBody.of (p :=
 ∀x:I9,bD x.ms<100000->aD (af (bD x.ms) == (0:Int)) (bz ((0:Int)=iD x.ms)) (ai (af (bD x.ms)-(1:Int))/\q9 (af (bD x.ms)-(1:Int)) (bD x.ms) (sD (gl x.ms (0+aR (af (bD x.ms)-(1:Int)))).seq (iD x.ms)))) (by kernel_rfl) (by
 delta aD ai dm af bf aC aR bz bD az sD q9 bt
 rintro⟨ms,cap⟩ hn;dsimp only at *;refine⟨fun c=>⟨(),?_,trivial,trivial⟩,fun c=>?_⟩
 ·have:=eq_of_beq c;unfold iD;rw[if_pos (by omega)]
 ·have h0:ms.length≠0:=fun e=>by rw[e]at c;cases c
  rw[show 0+((ms.length:Int)-1).toNat=ms.length-1 by omega];refine⟨by simp only[bR];omega,⟨by omega,by omega⟩,by omega,fun _=>⟨(),?_,trivial,trivial⟩⟩;unfold iD;rw[if_neg h0])
theorem Lz:au (Y Tryz.prog).G.X 140 PY:=aU fF Vi trivial
structure Ks where
 L:b8
 d:bG
 ms:List fq
structure LA where
 H:PH
 y:iL
 cap:Nat
def aaQ(jr ma lg dv ds pl:Nat)(m:Ks)(p:LA):List (Nat×Chunk):=[(jr,Y0 lg ma m.ms.length p.cap),(ma,.arr 228 sH m.ms.length (aa cS m.ms)),(lg,gu dv m.L p.y.lv)]++ic dv ds m.d++[(pl,.cI p.H)]
def Ja(p p':LA):Prop:=∀z,p.H z≠none->z∉bB p.y->p'.H z=p.H z/\z∉bB p'.y
def dS(seq:Int)(k:ByteArray):List Int:=vi seq++Ko k
def LB(m:Ks)(k:ByteArray):Ks:=⟨mK m.L (dS (iD m.ms+1) k),oT m.L m.d (dS (iD m.ms+1) k),m.ms++[⟨iD m.ms+1,k,m.L.next⟩]⟩
def dy(m:Ks)(ks:List ByteArray):Nat->Ks
 |0=>m
 |i+1=>LB (dy m ks i) (gl ks i)
def aaR(m:Ks):Ks:={ m with ms:=dR (cM m.L) m.ms }
def iE(m:Ks)(ks:List ByteArray):Ks:=if fT ks then(if ks.length=0 then aaR m else { aaR (dy m ks ks.length)with d:=gR (dy m ks ks.length).d })else m
theorem o5{k:ByteArray}(h:dN k=true):1<=k.size/\k.size<=40:=by
 simp only[dN,Bool.and_eq_true,decide_eq_true_eq,Bool.not_eq_true',decide_eq_false_iff_not]at h;refine⟨?_,h.2⟩;rcases Nat.eq_zero_or_pos k.size with e|e
 ·exact absurd (by
   obtain⟨⟨l⟩⟩:=k;have:l=[]:=List.eq_nil_of_length_eq_zero e;subst this;rfl) h.1
 ·exact e
theorem Be(m:Ks)(ks:List ByteArray):∀i,(dy m ks i).ms.length=m.ms.length+i
 |0=>rfl
 |i+1=>by
  show((dy m ks i).ms++[_]).length=_;rw[List.length_append,Be m ks i];rfl
theorem Gu{ms:List fq}{x:fq}:ak (ms++[x]).length 3 (bg (aa cS ms) 0 ms.length fun(i j:Nat)=>aF 3 [Value.int .i64 x.seq,Value.string x.key,Value.int .i64 x.pos] (0+i) j) (aa cS (ms++[x])):=⟨fun i hi j hj=>by
 rw[List.length_append,List.length_singleton]at hi;simp only[bg,Nat.zero_add];by_cases h:i<ms.length
 ·rw[if_pos h];unfold aa;rw[bV h]
 ·rw[if_neg h];obtain rfl:i=ms.length:=by omega
  rw[Nat.sub_self];unfold aa;have:gl (ms++[x]) ms.length=x:=by
   have:=br (l:=ms) (m:=[x]) (i:=0);rw[Nat.add_zero]at this;rw[this];rfl
  rw[this];rcases(by omega:j=0\/j=1\/j=2)with rfl|rfl|rfl<;>rfl⟩
theorem Ja.refl(p:LA):Ja p p:=fun _ _ hn=>⟨rfl,hn⟩
structure qj where
 m:Ks
 p:LA
 ks:List ByteArray
 kc:Nat
noncomputable def Gv:cG where
 α:=qj
 β:=LA
 m:=7
 m':=9
 pre:=fun a=>ct a.p.H a.p.y a.m.L/\a.m.L.l.length<800/\a.ks.length<1000/\a.m.ms.length<50000/\a.m.ms.length<=a.p.cap/\(fT a.ks=true->(∀i,i<a.ks.length->vT (dy a.m a.ks i).L (dy a.m a.ks i).d/\0<=iD (dy a.m a.ks i).ms/\iD (dy a.m a.ks i).ms<1000000000000)/\(dy a.m a.ks a.ks.length).d.n<100000/\(dy a.m a.ks a.ks.length).d.calls<1000000000000/\(dy a.m a.ks a.ks.length).L.l.length<1000)
 args:=fun a=>[.a (.ptr 0 0 0 0),.a (.slc 6 0 1 a.ks.length a.kc)]
 hp:=fun a=>aaQ 0 1 2 3 4 5 a.m a.p
 ro:=fun a=>[(6,.arr 9 [.str] a.ks.length (aa jZ a.ks))]
 post:=fun a b=>ct b.H b.y (iE a.m a.ks).L/\Ja a.p b/\(iE a.m a.ks).ms.length<=b.cap
 res:=fun a _=>.ng [.a (.int .i64 (if fT a.ks then iD (iE a.m a.ks).ms else 0)),.a (.int .i64 (if fT a.ks then 0 else 1))]
 cR:=fun a b=>aaQ 0 7 2 3 4 8 (iE a.m a.ks) b
structure BZ where
 i:Nat
 p:LA
def S.jr(s:S)(c:Nat)(m:Ks)(p:LA):S :=
 (fun(s1:S)=>((s1.put ((s1.hp.del (Ld s1)).del (s.qx c 1))).new (.cI p.H)))
 ((fun(s0:S)=>(s0.new (.arr 228 sH m.ms.length (aa cS m.ms))).at_ c (Y0 (s.qx c 0) s0.nx m.ms.length p.cap))
  (((s.at_ (s.qx c 0) (gu (s.qx (s.qx c 0) 0) m.L p.y.lv)).at_ (s.qx (s.qx c 0) 0) (.obj 116 [.slc (s.qx (s.qx (s.qx c 0) 0) 0) 0 129 m.d.n m.d.n,.int .i64 m.d.calls])).at_ (s.qx (s.qx (s.qx c 0) 0) 0) (.arr 158 DA m.d.n (fO m.d))))
def ZV(a:qj):An:=.flat 4 Nat (fun s i=>s.int 18 i) (fun _ i=>i<=a.ks.length/\∀j,j<i->dN (gl a.ks j)=true) (fun _ i=>a.ks.length-i)
def ZW(a:qj):An:=.flat 10 BZ (fun s x=>(S.jr s (s.qx (s.tg 2) 0) (dy a.m a.ks x.i) x.p).int 32 x.i) (fun _ x=>x.i<=a.ks.length/\fT a.ks=true/\ct x.p.H x.p.y (dy a.m a.ks x.i).L/\Ja a.p x.p/\(dy a.m a.ks x.i).ms.length<=x.p.cap) (fun _ x=>a.ks.length-x.i)
def ZX(a:qj):An:=.mk 9 Unit (fun s _=>s) (fun _ _=>fT a.ks=true) (fun _ _=>0) fun _=>.mk 1000 [ZW a] []
noncomputable def XZ:List (Nat×cG):=[(140,PY),(165,DH),(162,CI),(182,Vd),(169,ko)]
def Ej(x:LA)(z:Ks)(u:qj):=ct x.H x.y z.L/\Ja u.p x/\bD z.ms<=x.cap
def yT(x:List ByteArray)(y:Ks):Int:=if fT x=true then iD (iE y x).ms else(0:Int)
def NV(v:Int)(x:qj)(w:Int)(u:LA)(s:List fq)(t:Nat)(f:Ks)(g:bG):=∃z:LA,v=yT x.ks x.m/\w=iC (fT x.ks)/\u.H=z.H/\ag (wv s (iE x.m x.ks).ms t z.cap (gi f.L (iE x.m x.ks).L u.y z.y (gP g (iE x.m x.ks).d (Ej z (iE x.m x.ks) x/\True))))
def Jb(x:qj)(z:Prop):=fS (ay 0) (aA (bh (bl x.ks) x.kc/\aA (wv x.m.ms x.m.ms x.p.cap x.p.cap (ag (gK x.m.L x.p.y (gP x.m.d x.m.d (x.p.H=x.p.H/\pK x.ks/\z)))))))
def Jc(x:qj):=ct x.p.H x.p.y x.m.L/\bK x.m.L<800/\bl x.ks<1000/\bD x.m.ms<50000/\bD x.m.ms<=x.p.cap/\(aC (fT x.ks)->(∀z:Nat,z<bl x.ks->vT (dy x.m x.ks z).L (dy x.m x.ks z).d/\bf (iD (dy x.m x.ks z).ms) 1000000000000)/\(dy x.m x.ks (bl x.ks)).d.n<100000/\(dy x.m x.ks (bl x.ks)).d.calls<1000000000000/\bK (dy x.m x.ks (bl x.ks)).L<1000)
def pW(x:qj)(y:BZ):List fq:=(dy x.m x.ks y.i).ms
def NW(x:oa)(z:qj)(u:BZ)(v:bG):=∃y:I9,aA (wv (dR (cM x.L) x.ms) y.ms x.cap y.cap (bD y.ms<100000/\aB (NV (iD y.ms) z 0 u.p (dR (cM x.L) x.ms) x.cap (dy z.m z.ks u.i) v)))
def NX(x:qj)(u:PH)(z:BZ)(v w:Nat)(s:b8)(t:iL)(f:bG)(g h:Prop):=fe (bl x.ks) x.kc (fS (ay 0) (aA (bh (bl x.ks) x.kc/\u=z.p.H/\aA (ag (v=bD (pW x z)/\w=z.p.cap)/\gi s (dy x.m x.ks z.i).L t z.p.y (gP f (dy x.m x.ks z.i).d (pK x.ks/\g/\h))))))
def Jd(x:qj)(y:BZ):=aC (fT x.ks)/\Ej y.p (dy x.m x.ks y.i) x
def Je(y:Nat)(z:List Value)(u:mH->Nat->Prop):mH->Prop:=fun(x:mH)=>(0=ah x.l/\0=x.cap)/\eH y (ah x.ns) y x.Q5 (ah x.l=0) 1 (aF 1 z) (aa encI x.ns) (yw x/\∀v:Nat,True->u x v)
theorem Vj:fnBody (Y Tryz.prog) XZ 134 Gv fun a=>[(134,[ZV a],[ZX a])]:=fnBody.of (p :=
 ∀x:qj,Jc x->(cm (fun w=>fe (bl x.ks) x.kc (Jb x ((w<=bl x.ks/\ri w x.ks)/\True))) fun w=>gX w (bl x.ks) (ri w x.ks) (fR (gn (gl x.ks (0+ax w)) cA) (NV 0 x 1 x.p x.m.ms x.p.cap x.m x.m.d) (aK 40 (af (ud x.ks w))) (bH w fun g=>fe (bl x.ks) x.kc (Jb x (dD g (bl x.ks) (ri g x.ks) w)))) (Exists (az (Jb x (aC (fT x.ks)/\True)))))/\∀w:Unit,aC (fT x.ks)->(∃z:BZ,aT z.i (NX x x.p.H z (bD x.m.ms) x.p.cap x.m.L x.p.y x.m.d (aG (bD (pW x z)) (bD x.m.ms) 3 (aa cS x.m.ms) (aa cS (pW x z))) ((z.i<=bl x.ks/\Jd x z)/\True)))/\∀z:BZ,gX z.i (bl x.ks) (Jd x z) (∃v:I9,aA (wv (pW x z) v.ms z.p.cap v.cap (bD v.ms<100000/\aB (ai (iD v.ms+(1:Int))/\Exists (Je 1 (gp (iD v.ms+(1:Int))) fun s h=>nr (s.l++iN s.ns)/\gC (ah (s.l++iN s.ns)) (ud x.ks z.i) 1 h fun j=>∃u:uq,fc (ag (ah (s.l++iN s.ns)+ud x.ks z.i=ah u.body/\j=u.cap)) (vf (dy x.m x.ks z.i).L u.L z.p.y.lv u.y.lv (gP (dy x.m x.ks z.i).d u.d (z.p.H=u.H/\HV u.body s.l (iN s.ns) x.ks z.i/\AO u/\∀f:nB,yJ f u->jE (bD (pW x z)) 32 z.p.cap fun k=>aQ z.i (∃t:BZ,aY z.i=af t.i/\NX x f.H t (bD (pW x z)+1) k (mK u.L u.body) f.y (oT u.L u.d u.body) (iA (bD (pW x t)) (bD (pW x z)) 3 (aa cS (pW x z)) (bT (iD v.ms+(1:Int)) (dI (gl x.ks (0+ax z.i)) u.L.next [])) (aa cS (pW x t))) (dD t.i (bl x.ks) (Jd x t) z.i)))))))))) (∃v:oa,I8 (pW x z) v z.p.cap (dy x.m x.ks z.i).L z.p.y z.p.H (bD v.ms<100000 /\
 bD v.ms<=v.cap) (aB (aX 0 (af (bl x.ks)) (lu (dy x.m x.ks z.i).d fun s=>NW v x z (gR s)) (NW v x z (dy x.m x.ks z.i).d))))) (by kernel_rfl) (by
 delta aD eF ah ai bF aG ay bT ax bn gC dm aK aY cA af bl bf gA aC aR dW bw fc dV fR bp aB jD fe eH dD jE iA bD aP bK bH bJ NV gK ku bh yE Jb Jc iC yw bM aT az fS Ej ag ri aX qU pW HV aA pK iB yT dI lu aQ pU dh gn gX NW nr NX jF I8 AO gi yJ gp Jd cm ud Je
 try dsimp -iota -proj only
 rintro⟨m,p,ks,kc⟩ ⟨hl,hlf,hkn,hmn,hcap,hok⟩;dsimp only at *;have no:fT ks=false->iE m ks=m:=fun e=>if_neg (by rw[e];decide);have bad:∀i,i<ks.length->dN (gl ks i)=false->fT ks=false:=fun i hi h=>by
  rw[Bool.eq_false_iff];intro ha;have:=List.all_eq_true.1 ha (gl ks i) (by rw[bL hi];exact List.getElem_mem _);rw[h]at this;cases this
 have h0:∀j,j<0->dN (gl ks j)=true:=fun j hj=>absurd hj (Nat.not_lt_zero j);have hfr0:=Ja.refl p;refine⟨⟨⟨0,?_⟩,fun i hi=>?_⟩,fun _ hK=>⟨⟨⟨0,p⟩,?_⟩,fun x hx=>?_⟩⟩
 ·and_intros<;>first|exact bY|exact h0|(intro h_;revert h_)|exact bZ|skip
 ·obtain⟨hi,hall⟩:=hi;rw[show 0+(i:Int).toNat=i by omega];refine⟨fun c1=>?_,fun c1=>⟨(),?_⟩⟩
  ·have hlt:i<ks.length:=by have:=of_decide_eq_true c1;omega
   refine⟨⟨by omega,by omega⟩,hlt,fun c2=>?_,fun c2=>⟨fun c3=>?_,fun c3=>⟨by simp only[bR];omega,i+1,?_⟩⟩⟩
   ·have hn:=bad i hlt (by unfold dN;rw[c2];rfl);rw[no hn,hn];refine⟨p,?_⟩
    and_intros<;>first|exact bY|exact hl|exact hfr0|exact hcap|(intro h_;revert h_)|exact bZ|skip
   ·have hn:=bad i hlt (by
     have c3:=of_decide_eq_true c3;unfold dN;have:decide ((gl ks i).size<=40)=false:=decide_eq_false (by omega);rw[this,Bool.and_false])
    rw[no hn,hn];refine⟨p,?_⟩
    and_intros<;>first|exact bY|exact hl|exact hfr0|exact hcap|(intro h_;revert h_)|exact bZ|skip
   ·have hk:dN (gl ks i)=true:=by
     have c3:=of_decide_eq_false c3;unfold dN;rw[c2,show decide ((gl ks i).size<=40)=true from decide_eq_true (by omega)];rfl
    have h1:∀j,j<i+1->dN (gl ks j)=true:=fun j hj=>by
     by_cases e:j=i
     ·rw[e];exact hk
     ·exact hall j (by omega)
    and_intros<;>first|exact bY|exact h1|(intro h_;revert h_)|exact bZ|skip
  ·have hi':i=ks.length:=by have:=of_decide_eq_false c1;omega
   have ha:fT ks=true:=List.all_eq_true.2 fun k hk=>by
    obtain⟨j,hj,rfl⟩:=List.getElem_of_mem hk;rw[<- bL hj];exact hall j (by omega)
   and_intros<;>first|exact bY|exact ha|(intro h_;revert h_)|exact bZ|skip
 ·have e0:dy m ks 0=m:=rfl;dsimp only;rw[e0]
  and_intros<;>first|exact bY|exact hl|exact hfr0|exact hcap|exact hK|(intro h_;revert h_)|exact bZ|skip
 obtain⟨i,q⟩:=x;obtain⟨hi,_,hq,hfr,hqc⟩:=hx;dsimp only at hi hq hfr hqc ⊢;obtain⟨hok1,hok2,hok3,hok4⟩:=hok hK;have hMn:=Be m ks i;rw[show 0+(i:Int).toNat=i by omega];refine⟨fun c1=>?_,fun c1=>?_⟩
 ·have hlt:i<ks.length:=by have:=of_decide_eq_true c1;omega
  obtain⟨ok1,s0,s1⟩:=hok1 i hlt;have hkey:dN (gl ks i)=true:=List.all_eq_true.1 hK (gl ks i) (by rw[bL hlt];exact List.getElem_mem _);obtain⟨k1,k2⟩:=o5 hkey;have e:dy m ks (i+1)=LB (dy m ks i) (gl ks i):=rfl;have hMn1:=Be m ks (i+1);obtain⟨M,hM⟩:∃M,M=dy m ks i:=⟨_,rfl⟩
  rw[<- hM]at hq hqc hMn ok1 s0 s1 e;rw[<- hM];obtain⟨sq,hsq⟩:∃sq,sq=iD M.ms+1:=⟨_,rfl⟩
  have hMs:M.ms.length<100000:=by omega
  refine⟨⟨by omega,by omega⟩,hlt,I9.mk M.ms q.cap,?_⟩
  and_intros<;>first|exact bY|exact hMs|(intro h_;revert h_)|exact bZ|skip
  intro _ _;dsimp only;rw[<- hsq];have eB:[]++iN [sq]=vi sq:=by simp[iN]
  have hv:=jf sq;have hr1:ak [sq].length 1 (aF 1 [Value.int .i64 sq]) (aa encI [sq]):=.dB fun i hi=>by
   have:i=0:=by simp at hi;omega
   subst this;rfl
  have hg1:∀i:Nat,i < [sq].length->0<=gl [sq] i/\gl [sq] i<4611686018427387904:=fun i hi=>by
   have:i=0:=by simp at hi;omega
   subst this;show 0<=sq/\sq<_;omega
  have hg2:[sq].length<100:=by simp
  refine⟨by simp only[bR];omega,mH.mk [] 0 [sq] 1,?_⟩;dsimp only;rw[eB]
  and_intros<;>first|exact bY|exact hr1|exact hg1|exact hg2|(intro h_;revert h_)|exact bZ|skip
  intro b _;have hbl:(dS sq (gl ks i)).length=(vi sq).length+(gl ks i).size:=by unfold dS;rw[List.length_append,jw]
  have hr2:ak (dS sq (gl ks i)).length 1 (bg (aa cO (vi sq)) 0 (vi sq).length (oc (gl ks i))) (aa cO (dS sq (gl ks i))):=.app rfl (.of_eq (by funext i;rw[Nat.zero_add])) (DG _ (by omega));refine⟨by omega,by omega,fun c q1 q2 q3=>⟨uq.mk q.H q.y M.L M.d (dS sq (gl ks i)) c,?_⟩⟩
  and_intros<;>first|exact bY|exact hq|exact ok1|exact hr2|(intro h_;revert h_)|exact bZ|skip
  rintro⟨H1,y1⟩ ⟨hl1,hf1⟩;dsimp only at hl1 hf1 ⊢;have hr3:=Gu (ms:=M.ms) (x:=⟨sq,gl ks i,M.L.next⟩);have hfr1:Ja p ⟨H1,y1,0⟩:=fun z hz hn=>by
   obtain⟨a1,a2⟩:=hfr z hz hn;obtain⟨b1,b2⟩:=hf1 z (by rw[a1];exact hz) a2;exact⟨b1.trans a1,b2⟩
  refine⟨by omega,by omega,by omega,fun c2 w1 w2 w3=>⟨by simp only[bR];omega,⟨i+1,⟨H1,y1,c2⟩⟩,?_⟩⟩;dsimp only;have e2:LB M (gl ks i)=⟨mK M.L (dS sq (gl ks i)),oT M.L M.d (dS sq (gl ks i)),M.ms++[⟨sq,gl ks i,M.L.next⟩]⟩:=by rw[hsq];rfl
  rw[e,e2]at hMn1;dsimp only at hMn1;rw[e,e2];dsimp only;have hi2:i+1<=ks.length:=hlt;have hfr2:Ja p ⟨H1,y1,c2⟩:=hfr1;have hlt2:ks.length-(i+1)<ks.length-i:=by omega
  have hcap2:(M.ms++[(⟨sq,gl ks i,M.L.next⟩:fq)]).length<=c2:=by omega
  and_intros<;>first|exact bY|exact hl1|exact hfr2|exact hK|exact hr3|exact hcap2|exact hMn1|exact hlt2|(intro h_;revert h_)|exact bZ|skip
 ·have hi':i=ks.length:=by have:=of_decide_eq_false c1;omega
  subst hi';obtain⟨M,hM⟩:∃M,M=dy m ks ks.length:=⟨_,rfl⟩
  rw[<- hM]at hq hqc hMn hok2 hok3 hok4;rw[<- hM];have hMs:M.ms.length<100000:=by omega
  have hkl:(dR (cM M.L) M.ms).length<=M.ms.length:=List.length_filter_le _ _;have hks:(dR (cM M.L) M.ms).length<100000:=by omega
  have hkc:(dR (cM M.L) M.ms).length<=q.cap:=by omega
  have hfr2:Ja p ⟨q.H,q.y,q.cap⟩:=hfr;refine⟨oa.mk M.ms q.cap q.H q.y M.L,?_⟩
  and_intros<;>first|exact bY|exact hq|exact hok4|exact hMs|exact hqc|(intro h_;revert h_)|exact bZ|skip
  intro _ _;dsimp only;rw[hK];refine⟨fun c2=>?_,fun c2=>?_⟩
  ·have hn:ks.length≠0:=by have:=of_decide_eq_true c2;omega
   have e1:iE m ks=⟨M.L,gR M.d,dR (cM M.L) M.ms⟩:=by
    unfold iE;rw[if_pos hK,if_neg hn,<- hM];rfl
   rw[e1];refine⟨M.d,?_⟩
   and_intros<;>first|exact bY|exact hok2|exact hok3|(intro h_;revert h_)|exact bZ|skip
   intro _ _;refine⟨I9.mk (dR (cM M.L) M.ms) q.cap,?_⟩
   and_intros<;>first|exact bY|exact hks|(intro h_;revert h_)|exact bZ|skip
   intro _ _;refine⟨⟨q.H,q.y,q.cap⟩,?_⟩
   and_intros<;>first|exact bY|exact hq|exact hfr2|exact hkc|(intro h_;revert h_)|exact bZ|skip
  ·have hn:ks.length=0:=by have:=of_decide_eq_false c2;omega
   have e1:iE m ks=⟨M.L,M.d,dR (cM M.L) M.ms⟩:=by
    unfold iE;rw[if_pos hK,if_pos hn,hM,hn];rfl
   rw[e1];refine⟨I9.mk (dR (cM M.L) M.ms) q.cap,?_⟩
   and_intros<;>first|exact bY|exact hks|(intro h_;revert h_)|exact bZ|skip
   intro _ _;refine⟨⟨q.H,q.y,q.cap⟩,?_⟩
   and_intros<;>first|exact bY|exact hq|exact hfr2|exact hkc|(intro h_;revert h_)|exact bZ|skip)
theorem Vk:au (Y Tryz.prog).G.X 134 Gv:=aU fF Vj ⟨Lz,AA,DS,Vh,ja,trivial⟩
structure NG0 where
 l:List Int
 cap:Nat
 n:Int
noncomputable def Bf:cG where
 α:=NG0
 β:=Unit
 m:=1
 m':=1
 pre:=fun a=>a.l.length<100000/\a.l.length<=a.cap/\0<=a.n/\a.n<4611686018427387904/\(vi a.n).length<=a.l.length/\∀i,i<(vi a.n).length->gl a.l (0+i)=gl (vi a.n) i
 args:=fun a=>[.a (.slc 0 0 1 a.l.length a.cap)]
 hp:=fun _=>[]
 ro:=fun a=>jO 0 a.l
 post:=fun _ _=>True
 res:=fun a _=>.ng [.a (.int .i64 a.n),.a (.int .i64 (vi a.n).length),.a (.lit .i64 0)]
 cR:=fun _ _=>[]
theorem ZY{Y:Gx}(hY:Y.Ok){jK:List (Nat×cG)}(ht:vE Y.G.X jK){f:Nat}{C:cG}{l:C.α->List (Nat×List An×List An)}(hb:fnBody Y jK f C l):mB Y.G.X C f:=CC hY (fun _=>CD hY ht) hb.body
theorem X7:mB (Y Tryz.prog).G.X K5 177:=ZY fF (jK:=[]) trivial K6
theorem RL{X:Cx}{C D:cG}{f:Nat}(h:mB X C f)(g:D.α->C.α)(h1:∀a,D.pre a->C.pre (g a))(hm:D.m=C.m)(hm':D.m'=C.m')(hβ:D.β=C.β)(h2:∀a,D.hp a=C.hp (g a))(h3:∀a,D.ro a=C.ro (g a))(h4:∀a,D.args a=C.args (g a))
 (h5:∀a o,D.post a (cast hβ.symm o)=C.post (g a) o) (h6:∀a o,D.res a (cast hβ.symm o)=C.res (g a) o) (h7:∀a o,D.cR a (cast hβ.symm o)=C.cR (g a) o):mB X D f:=by
 intro a ha M ρ w vs hn hh hr;rw[h2,h3]at hh;rw[h4]at hr;refine Calls.mono (h (g a) (h1 a ha) M ρ w vs (hn.trans hm) hh hr) fun e w' hq=>?_;obtain⟨v,e1,o,ρ2,q1,q2,q3,q4,q5⟩:=hq;exact⟨v,e1,cast hβ.symm o,ρ2,by rw[h5];exact q1,q2.trans hm'.symm,fun T hT=>q3 T (by rw[<- hm];exact hT),by rw[h6];exact q4,by rw[h7];exact q5⟩
theorem Vl:mB (Y Tryz.prog).G.X Bf 177:=RL (D:=Bf) X7 (fun a=>(⟨a.l,0,a.l.length,a.cap,a.n⟩:qS)) (fun a h=>⟨by show 0+a.l.length<=a.l.length;omega,h.1,h.2.1,h.2.2.1,h.2.2.2.1,h.2.2.2.2.1,h.2.2.2.2.2⟩) rfl rfl rfl (fun _=>rfl) (fun _=>rfl) (fun _=>rfl) (fun _ _=>rfl) (fun _ _=>rfl) (fun _ _=>rfl)
def Jf(a:NG0):Sl1:=⟨5,[.int .u8],a.l.length,a.cap,aa cO a.l⟩
noncomputable def Vm:cG:=Bf.XL Jf
theorem RM:au (Y Tryz.prog).G.X 177 Vm:=fun _ _ _ h=>xk (Lk Vl ⟨rfl,fun _=>rfl,fun _=>rfl,fun _=>rfl,fun _ _=>rfl,fun _ _ p hp=>(by cases hp)⟩) h
structure ZZ(ms:List fq)(rs:List RecM):Prop where
 len:ms.length=rs.length
 zG:ms.length<9000
 at_:∀i,i<ms.length->(gl rs i).body=dS (gl ms i).seq (gl ms i).key/\(gl rs i).pos=(gl ms i).pos/\0<=(gl ms i).seq/\(gl ms i).seq<1000000000000/\dN (gl ms i).key=true
 step:∀i,i+1<ms.length->(gl ms (i+1)).seq=(gl ms i).seq+1
structure xI where
 H:PH
 d:bG
 from_:Nat
 av:Nat
 ms:List fq
noncomputable def Bg:cG where
 α:=xI
 β:=LA
 m:=3
 m':=7
 pre:=fun a=>20<=a.av/\sF a.from_ a.av a.d/\ZZ a.ms (gT (cV a.from_ a.av a.d).l)/\∀i,i<(cV a.from_ a.av a.d).l.length->(gl (cV a.from_ a.av a.d).l i).aV.length<=400
 args:=fun a=>[.a (.ptr 0 0 0 0),.a (.int .i64 a.from_),.a (.int .i64 a.av)]
 hp:=fun a=>[(2,.cI a.H)]
 ro:=fun a=>ic 0 1 a.d
 post:=fun a b=>ct b.H b.y (cV a.from_ a.av a.d)/\(∀z,a.H z≠none->b.H z=a.H z/\z∉bB b.y)/\a.ms.length<=b.cap
 res:=fun _ _=>.ng [.a (.ptr 3 0 0 0),.a (.lit .i64 0)]
 cR:=fun a b=>[(3,Y0 5 4 a.ms.length b.cap),(4,.arr 228 sH a.ms.length (aa cS a.ms)),(5,gu 0 (cV a.from_ a.av a.d) b.y.lv),(6,.cI b.H)]
def Z0(a:xI):An:=.flat 10 (Nat×Nat) (fun s x=>((s.at_ (s.tg 10) (Y0 (s.qx (s.tg 10) 0) s.nx (a.ms.take x.1).length x.2)).new (.arr 228 sH (a.ms.take x.1).length (aa cS (a.ms.take x.1)))).int 38 x.1) (fun _ x=>x.1<=a.ms.length/\x.1<=x.2) (fun _ x=>a.ms.length-x.1)
theorem Vn{ms:List fq}{rs:List RecM}(h:ZZ ms rs){i:Nat}(hi:i<ms.length)(h0:i≠0):iD (ms.take i)+1=(gl ms i).seq:=by
 have hl:(ms.take i).length=i:=by rw[List.length_take];omega
 have e:gl (ms.take i) (i-1)=gl ms (i-1):=by rw[bL (by omega),bL (by omega),List.getElem_take]
 have:=h.step (i-1) (by omega);rw[Nat.sub_add_cancel (by omega)]at this;unfold iD;rw[hl,if_neg h0,e,this]
theorem PZ{seq:Int}{k:ByteArray}:iY (fun i=>aa cO (dS seq k) ((vi seq).length+i)) 0 ((dS seq k).length-(vi seq).length)=k:=by
 have hn:(dS seq k).length-(vi seq).length=k.size:=by unfold dS;rw[List.length_append,jw];omega
 unfold iY;refine PA hn fun i hi=>?_;show gl (dS seq k) ((vi seq).length+(0+i))=_;unfold dS;rw[br,Nat.zero_add]
noncomputable def Vo:List (Nat×cG):=[(175,IE),(176,PL),(177,Vm),(140,PY)]
def Jg(z:xS)(x:xI)(w:Nat)(s:Prop)(u:Kr)(t:nB)(f g:Prop):=kA z.v (ag (mG (bn (aK (af x.av) 20)/\mG (aP x.from_ (aP x.av (z.H=z.H/\fc (0=w/\s) (gK (cV u.from_ u.av u.d) t.y (gP x.d x.d (f/\g)))))))))
def oz(x:Nat×Nat)(y:xI):Nat:=bD (List.take x.fst y.ms)
def Ek(x:Nat×Nat)(y:xI):Nat->Nat->Value:=aa cS (List.take x.fst y.ms)
noncomputable def Vp(u:List Value)(v:Nat)(w:V1 Bf.α)(s:xS)(y:Nat×Nat)(x:xI)(t:Kr)(f:nB):=Hh (aW u (v+1))/\cK (af (ah (vi w.a.n))) (di (aW u (v+1)))/\Exists (kz s.H (ue u (v+1) (ax (ah (vi w.a.n))) (di (aW u (v+1)))) (CK.int .u8) [] fun g j h=>ai (jW (aW u v))->jE (oz y x) 32 y.snd fun i=>iS y fun z=>Jg s x 0 (oz y x+1=oz z x/\i=z.snd) t f (iA (oz z x) (oz y x) 3 (Ek y x) (bT w.a.n (dI (iY h 0 g) (jW (aW u v)) [])) (Ek z x)) (dD z.fst (bD x.ms) (z.fst<=z.snd) y.fst))
def Jh(x:xI):=20<=x.av/\Bc x.from_ x.av x.d (ZZ x.ms (gT (cV x.from_ x.av x.d).l))
theorem RN:fnBody (Y Tryz.prog) Vo 129 Bg fun a=>[(129,[Z0 a],[])]:=fnBody.of (p :=
 ∀x:xI,Jh x->aX (af x.av) 20 (∃u:LA,False) (∃u:Kr,ag (bC x.from_ u.from_/\bC x.av u.av/\x.H=u.H/\gP x.d u.d (sF u.from_ u.av u.d/\∀f:nB,yO f u->∃i:u6,fc (f.H=i.H) (vf (cV u.from_ u.av u.d) i.L f.y.lv i.y.lv (AU i/\∀t:xS,AT t i->gD t.v/\(∃z:Nat×Nat,aT z.fst (Jg t x (oz z x) (0=z.snd) u f (oz z x=0) ((z.fst<=bD x.ms/\z.fst<=z.snd)/\True)))/\∀z:Nat×Nat,z.fst<=bD x.ms/\z.fst<=z.snd->vX z.fst t.v (fun s=>t.H s) (fun s g=>∃w:V1 Bf.α,aW g (s+1)=w.v/\t.H=w.H/\(AE (ah w.a.l) w.a.cap w.a.n w.a.l 0/\kR w.H w.v (ji (CK.int .u8)) (Jf w.a).n (Jf w.a).cap (Jf w.a).rows)/\∀k:Bf.β,True->aD (af (oz z x) == (0:Int)) (Vp g s w t z x u f) (∃j:I9,aA (wv (List.take z.fst x.ms) j.ms z.snd j.cap (bD j.ms<100000/\aB (ai (iD j.ms+(1:Int))/\aD (w.a.n == iD j.ms+(1:Int)) (Vp g s w t z x u f) (iS z fun h=>Jg t x 0 (oz z x=oz h x/\z.snd=h.snd) u f (aG (oz h x) (oz z x) 3 (Ek z x) (Ek h x)) (dD h.fst (bD x.ms) (h.fst<=h.snd) z.fst))))))) (∃s:LA,fc (ay 0) (wv (List.take z.fst x.ms) x.ms z.snd s.cap (ag (pU (cV u.from_ u.av u.d) (cV x.from_ x.av x.d) f.y s.y t.H s.H ((∀g:Nat,pR (x.H g) (s.H g) (bB s.y) g)/\bD x.ms<=s.cap) True)))))))))) (by kernel_rfl) (by
 delta aD aW ah ai bF aG ay bT ax bn gC aK aY af eo nC bf aC aR dW cH bw fc aB gD Vp dD jE qg bI iA bD ey aP bK bJ vN yL gK aI kz iS yO jh bM aT Jg Bc AT ag kA vX aX pR oz aA iB dI aQ pU ji AU bC cK oo jF mG jP Jh AE ue Ek
 try dsimp -iota -proj only
 rintro⟨H,d,fr,sg,ms⟩ ⟨hsg,ok,hms,hsl⟩;dsimp only at *;obtain⟨L,hL⟩:∃L,L=cV fr sg d:=⟨_,rfl⟩
 have hone:L.l.length<=1:=by rw[hL];exact ok.one
 rw[<- hL]at hms hsl;have hlen:=hms.len;have hfew:=hms.zG;refine⟨fun c=>by(exfalso;have:=of_decide_eq_true c;omega),fun _=>⟨Kr.mk H d fr sg,?_⟩⟩;dsimp only;rw[<- hL]
 and_intros<;>first|exact bY|exact ok|(intro h_;revert h_)|exact bZ|skip
 rintro⟨H1,y1⟩ ⟨hl1,hf1⟩;dsimp only at hl1 hf1 ⊢;refine⟨u6.mk H1 y1 L,?_⟩;have hrec:∀i,i<L.l.length->(gl L.l i).aV.length<=400/\∀k,k<(gl L.l i).aV.length->1<=(gl (gl L.l i).aV k).body.length/\(gl (gl L.l i).aV k).body.length<=1000:=fun i hi=>⟨hsl i hi,fun k hk=>by
  obtain⟨j,hj,e⟩:=I4 hi hk;obtain⟨e1,_,_,_,e5⟩:=hms.at_ j (by rw[hlen];exact hj);have a1:=jf (gl ms j).seq;have a2:=o5 e5;rw[<- e,e1];unfold dS;rw[List.length_append,jw];omega⟩
 have hL1:L.l.length<1000:=by omega
 and_intros<;>first|exact bY|exact hl1|exact hrec|exact hL1|(intro h_;revert h_)|exact bZ|skip
 rintro⟨H2,v,vs⟩ ⟨hout,hf2⟩;dsimp only at hout hf2 ⊢;obtain⟨cr,hrows⟩:=hout.rows;obtain⟨s1,s2,s3,s4,s5,⟨sa,s6⟩,s7⟩:=fH hrows;have hlog:ct H2 y1 L:=hl1.frame fun z hz=>(hf2 z (hl1.dom z hz)).1;have hfin:∀z,H z≠none->H2 z=H z/\¬z∈bB y1:=fun z hz=>by
  obtain⟨a1,a2⟩:=hf1 z hz;exact⟨(hf2 z (by rw[a1];exact hz)).1.trans a1,a2⟩
 rw[s1];refine⟨⟨sa,_,_,s6,by simp only[aq];omega⟩,⟨(0,0),?_⟩,fun q hq=>?_⟩
 ·dsimp only
  and_intros<;>first|exact bY|(intro h_;revert h_)|exact bZ|skip
 obtain⟨i,c⟩:=q;obtain⟨hi,hic⟩:=hq;dsimp only at hi hic ⊢;have hti:(ms.take i).length=i:=by rw[List.length_take];omega
 rw[hti];refine⟨fun c1=>?_,fun c1=>?_⟩
 ·have hi':i<ms.length:=by have:=of_decide_eq_true c1;omega
  have hti1:(ms.take (i+1)).length=i+1:=by rw[List.length_take];omega
  have htp:ms.take (i+1)=ms.take i++[gl ms i]:=qz hi';obtain⟨b',lo',o',cs',q1,q2,q3,q4,q5,q6,q7,q8⟩:=vW hrows (k:=i) (by omega);obtain⟨cb,hbody⟩:=hout.body i (by omega);obtain⟨e1,e2,e3,e4,e5⟩:=hms.at_ i hi';have hsq:=fun h0=>Vn hms hi' h0;obtain⟨x,hx⟩:∃x,x=gl ms i:=⟨_,rfl⟩
  rw[<- hx]at e1 e2 e3 e4 e5 hsq htp;rw[e1]at hbody;rw[e2]at q3 q6 q7;obtain⟨k1,k2⟩:=o5 e5;have hv:=jf x.seq;have hbl:(dS x.seq x.key).length=(vi x.seq).length+x.key.size:=by unfold dS;rw[List.length_append,jw]
  obtain⟨w1,w2,w3,w4,w5,⟨wa,w7⟩,w6⟩:=fH hbody;have hcut:=K8 (Nat.le_refl _) hbody (sz:=1) (a:=(vi x.seq).length) (e:=(dS x.seq x.key).length) (m:=cb) rfl (by omega) (Nat.le_refl _) w3 (Nat.le_refl _);have hgl:∀j,j<(vi x.seq).length->gl (dS x.seq x.key) (0+j)=gl (vi x.seq) j:=fun j hj=>by
   rw[Nat.zero_add];unfold dS;rw[bV hj]
  have hr3:=Gu (ms:=ms.take i) (x:=x);rw[hti,<- htp,hti1]at hr3;refine⟨_,_,_,_,q1,by omega,b',lo',o'+i*2,cs',by rw[Int.toNat_natCast];congr 1;omega,q2,⟨⟨_,q3,_,rfl,q6⟩,⟨_,q4,q5⟩,trivial⟩,?_⟩;rw[q7,q8];have hpre:(dS x.seq x.key).length<100000/\(dS x.seq x.key).length<=cb/\0<=x.seq/\x.seq<4611686018427387904/\(vi x.seq).length<=(dS x.seq x.key).length/\∀j,j<(vi x.seq).length->gl (dS x.seq x.key) (0+j)=gl (vi x.seq) j:=⟨by omega,w3,e3,by omega,by omega,hgl⟩
  refine⟨⟨⟨dS x.seq x.key,cb,x.seq⟩,H2,vs.getD i undef⟩,rfl,rfl,⟨hpre,hbody⟩,fun _ _=>?_⟩;rw[w1,w2,show((vi x.seq).length:Int).toNat=(vi x.seq).length by omega];dsimp only[jW];refine⟨fun c2=>?_,fun c2=>?_⟩
  ·refine⟨w5,⟨by omega,by omega⟩,_,_,_,hcut,fun _=>⟨by omega,by omega,by omega,fun c2 v1 v2 v3=>⟨by simp only[bR];omega,(i+1,c2),?_⟩⟩⟩;dsimp only;rw[PZ,hti1]
   and_intros<;>first|exact bY|exact hr3|(intro h_;revert h_)|exact bZ|skip
  ·have h0:i≠0:=fun e=>by rw[e]at c2;cases c2
   have hsq:=hsq h0;have htl:(ms.take i).length<100000:=by omega
   refine⟨I9.mk (ms.take i) c,?_⟩;dsimp only;rw[hti];have hr0:ak i 3 (aa cS (ms.take i)) (aa cS (ms.take i)):=ak.refl _ _ _
   and_intros<;>first|exact bY|exact htl|(intro h_;revert h_)|exact bZ|skip
   intro _ _;rw[hsq];refine⟨by simp only[bR];omega,fun _=>⟨w5,⟨by omega,by omega⟩,_,_,_,hcut,fun _=>⟨by omega,by omega,by omega,fun c2 v1 v2 v3=>⟨by simp only[bR];omega,(i+1,c2),?_⟩⟩⟩,fun e=>by(exfalso;simp at e)⟩;dsimp only;rw[PZ,hti1]
   and_intros<;>first|exact bY|exact hr3|(intro h_;revert h_)|exact bZ|skip
 ·have hi':i=ms.length:=by have:=of_decide_eq_false c1;omega
  subst hi';rw[List.take_length];refine⟨⟨H2,y1,c⟩,?_⟩
  and_intros<;>first|exact bY|exact hlog|exact hfin|(intro h_;revert h_)|exact bZ|skip)
theorem RO:au (Y Tryz.prog).G.X 129 Bg:=aU fF RN ⟨Ge,Lo,RM,Lz,trivial⟩
theorem Vq:fnBody (Y Tryz.prog) [] 204 Dz fun a=>[(204,[aau a],[])]:=fnBody.of (p :=
 HM) (by kernel_rfl) (by
 delta aD ai aG ay aK aY af bP bf e9 aC aR bw nX bz bS aP bH HM bM aT az lW aQ pI nq bt cm
 try dsimp -iota -proj only
 rintro⟨r,len,cap,v,n,rows⟩ ⟨h1,h2⟩;dsimp only at h1 h2 ⊢;simp only[Int.toNat_natCast,bR,decide_eq_true_eq,decide_eq_false_iff_not];refine⟨⟨0,?_⟩,fun k hk=>⟨fun c1=>?_,fun c1=>⟨(),?_⟩⟩⟩
 ·(and_intros<;>first|exact rO|skip)
  refine⟨fun i hi j hj=>?_⟩;unfold ve;rw[if_neg (by omega)]
 ·have hk:k<len:=by omega
  have e:((len:Int)-1-k).toNat=len-1-k:=by omega
  rw[e];refine⟨by omega,by omega,by omega,by omega,by omega,by omega,by omega,k+1,?_⟩
  (and_intros<;>first|exact rO|skip)
  refine⟨fun i hi j hj=>?_⟩;have hj:j=0:=by omega
  subst hj;by_cases hik:i=r+(len-1-k)
  ·subst hik;have e3:(8*(k:Int)).toNat=8*(r+len-1-(r+(len-1-k))):=by omega
   rw[jB,e3];show Value.int .u8 _=_;simp only[ve];rw[if_pos (by omega)]
  ·rw[iz hik];simp only[ve];by_cases hq:r+len<=i+k/\i<r+len
   ·rw[if_pos hq,if_pos (by omega)]
   ·rw[if_neg hq,if_neg (by omega)]
 ·have:k=len:=by omega
  subst this
  (and_intros<;>first|exact rO|skip))
theorem Vr:au (Y Tryz.prog).G.X 204 Dz:=aU fF Vq trivial
def Ji(n:Int)(b:List Int)(j:Nat):Int:=if j<4 then 0 else if j<12 then Kp (uw .u64 n) 8 (j-4)else if j=12 then(b.length:Int)else if j-13<b.length then gl b (j-13)else 0
def yU(n:Int)(b:List Int)(j:Nat):Int:=if j<4 then Kp (xG (Ji n b)) 4 j else Ji n b j
structure oC where
 at_:Nat
 fL:Int
 text:List Int
 slot:Nat
def abC(dv tx:Nat)(S:oC)(cap:Nat):List A:=[.ptr dv 0 0 0,.int .i64 S.at_,.int .i64 S.fL,.slc tx 0 1 S.text.length cap,.int .i64 S.slot]
def Gw(su tx dv:Nat)(S:oC)(cap:Nat):List (Nat×Chunk):=[(su,.obj 262 (abC dv tx S cap)),(tx,.arr 5 [.int .u8] S.text.length (aa cO S.text))]
def Jj(S:oC)(slot:Nat)(n:Int)(b:List Int):oC:=⟨S.at_,n,b,slot⟩
def Co(S:oC)(d:bG)(slot:Nat)(n:Int)(b:List Int):bG:=gR (gQ d (S.at_+slot) 64 (yU n b))
structure LC where
 S:oC
 cap:Nat
 d:bG
 slot:Nat
 n:Int
 b:List Int
 bc:Nat
noncomputable def CN:cG where
 α:=LC
 β:=Nat
 m:=5
 m':=6
 pre:=fun a=>a.S.at_+1<a.d.n/\a.slot<=1/\a.d.n<100000/\a.d.calls<900000000000/\1<=a.b.length/\a.b.length<=40
 args:=fun a=>[.a (.ptr 0 0 0 0),.a (.int .i64 a.slot),.a (.int .i64 a.n),.a (.slc 4 0 1 a.b.length a.bc)]
 hp:=fun a=>Gw 0 1 2 a.S a.cap++ic 2 3 a.d
 ro:=fun a=>jO 4 a.b
 post:=fun _ _=>True
 res:=fun _ _=>.a (.lit .i64 0)
 cR:=fun a c=>Gw 0 5 2 (Jj a.S a.slot a.n a.b) c++ic 2 3 (Co a.S a.d a.slot a.n a.b)
def rq(y:oC)(x:bG)(z:Nat)(u:Prop):=y.at_+1<x.n/\z<=1/\x.n<100000/\x.calls<900000000000/\u
def jS(x:LC):oC:=Jj x.S x.slot x.n x.b
def yV(x:LC):bG:=Co x.S x.d x.slot x.n x.b
theorem NY:fnBody (Y Tryz.prog) [(204,Dz),(203,TU),(81,qy),(169,ko)] 174 CN fun _=>[]:=fnBody.of (p :=
 ∀x:LC,rq x.S x.d x.slot (iB x.b 40)->mE 64 64 (eo 12 64/\eo 4 12/\Exists (yB 4 8 60 (cD x.n) 64 uf fun y=>bf 12 64/\12<y.n/\eo 13 64/\64<=y.n/\Ia (nr x.b) y (pF (kQ (lW y y.len) 12 0 (vK (ah x.b))) 13 (min (ah x.b) 51) (sC cO x.b)) fun z=>jQ (af x.S.at_) (af x.slot) (∃u:MT,ag (af x.S.at_+af x.slot=af u.i/\yC u x.d z.n (lW z z.len) (lu (mF u) fun w=>AP x.b (∃v:Nat,aI (ag (bC x.S.at_ (oC.at_ (jS x))/\x.n=oC.fL (jS x)/\(0=ah (oC.text (jS x))/\0=v)/\bC x.slot (oC.slot (jS x))/\ah (oC.text (jS x))=0/\gP (gR w) (yV x) (True/\True)))) (gC 0 (ah x.b) 1 0 fun v=>∃s:Nat,aI (ag (bC x.S.at_ (oC.at_ (jS x))/\x.n=oC.fL (jS x)/\eH (0+ah x.b) (ah (oC.text (jS x))) v s (bC x.slot (oC.slot (jS x))) 1 (vJ (sC cO x.b)) (aa cO (oC.text (jS x))) (gP (gR w) (yV x) (True/\True))))))))))) (by kernel_rfl) (by
 delta aD aW ah ai bF aG ay gC af eo bP bf e9 gA aC bw aB eH cD ku aI Ia mF yC mE rq jS yB ag vG lW jQ vI iB uf lu bC nq nr sC yV vF AP vK vJ
 try dsimp -iota -proj only
 rintro⟨u,cap,d,slot,n,b,bc⟩ ⟨h1,h2,h3,h4,h5,h6⟩;dsimp only at *;obtain⟨F1,hF1⟩:∃F:Nat->Int,F=fun k=>if 4<=k/\k<4+8 then Kp (uw .u64 n) 8 (k-4)else 0:=⟨_,rfl⟩
 have hb8:uw .u8 (b.length:Int)=b.length:=by simp only[uw];omega
 have h0:ak 64 1 (fun(x j:Nat)=>[Value.int IntKind.u8 (0:Int)].getD j (Value.tuple #[])) (bW fun _=>0):=kW fun _ _=>rfl
 repeat refine lT ?_
 refine⟨mC.mk 4 8 60 (uw .u64 n) 64 (bW fun _=>0),?_⟩
 and_intros<;>first|exact bY|exact h0|(intro h_;revert h_)|exact bZ|skip
 intro _ _;rw[show ve (bW fun _=>0) 4 8 (uw .u64 n) 8=bW F1 by rw[yA (by omega),hF1]];have hfin:ak 64 1 (pF (kQ (bW F1) 12 0 [Value.int .u8 (uw .u8 (b.length:Int))]) 13 (min b.length 51) fun(i j:Nat)=>aa cO b (0+i) j) (bW (Ji n b)):=by
  rw[hb8,show min b.length 51=b.length by omega];refine kW fun k hk=>?_;simp only[pF,bW,aa,cO,List.getD_cons_zero,Nat.zero_add,hF1,Ji,rS]
  (repeat' split)<;>first|rfl|(exfalso;omega)|skip
 have hlast:ak 64 1 (ve (bW (Ji n b)) 0 4 (xG (Ji n b)) 4) (bW (yU n b)):=by
  rw[yA (by omega)];refine kW fun k hk=>?_;simp only[bW,yU,Nat.zero_le,true_and,Nat.zero_add,Nat.sub_zero]
 repeat refine lT ?_
 refine⟨Aw.mk 1 4 60 60 64 (bW (Ji n b)),?_⟩
 and_intros<;>first|exact bY|exact hfin|(intro h_;revert h_)|exact bZ|skip
 intro _ _;refine⟨mC.mk 0 4 64 (xG (Ji n b)) 64 (bW (Ji n b)),?_⟩
 and_intros<;>first|exact bY|exact hfin|(intro h_;revert h_)|exact bZ|skip
 intro _ _ _;refine⟨by simp only[bR];omega,MT.mk d (u.at_+slot) 0 64 64 64 (yU n b),?_⟩;dsimp only
 and_intros<;>first|exact bY|exact hlast|(intro h_;revert h_)|exact bZ|skip
 intro _ _;refine⟨gQ d (u.at_+slot) 64 fun j=>yU n b (0+j),?_⟩;have e0:(fun j=>yU n b (0+j))=yU n b:=by funext j;rw[Nat.zero_add]
 have hn:(gQ d (u.at_+slot) 64 (yU n b)).n<100000:=h3;have hc:(gQ d (u.at_+slot) 64 (yU n b)).calls<1000000000000:=by show d.calls+1<_;omega
 rw[e0]
 and_intros<;>first|exact bY|exact hn|exact hc|(intro h_;revert h_)|exact bZ|skip
 intro _ _ q hq;refine⟨fun e=>by(have:=hq e;exfalso;omega),fun _=>?_⟩;have hr:ak b.length 1 (bg (aF 1 []) 0 0 fun(i j:Nat)=>aa cO b (0+i) j) (aa cO b):=⟨fun i hi j hj=>by
  simp only[bg,Nat.not_lt_zero,if_false,Nat.sub_zero,Nat.zero_add]⟩
 refine⟨by omega,by omega,by omega,fun c q1 q2 q3=>⟨c,?_⟩⟩;dsimp only[Jj,Co]
 and_intros<;>first|exact bY|exact hr|(intro h_;revert h_)|exact bZ|skip)
theorem El:au (Y Tryz.prog).G.X 174 CN:=aU fF NY ⟨Vr,HL,qo,ja,trivial⟩
structure Vs where
 at_:Nat
 d:bG
 b:List Int
 bc:Nat
def pX(d:bG)(at_:Nat)(b:List Int):bG:=Co ⟨at_,0,[],0⟩ (gR (gQ (gQ d at_ 64 fun _=>0) (at_+1) 64 fun _=>0)) 0 1 b
noncomputable def NZ:cG where
 α:=Vs
 β:=Nat
 m:=3
 m':=5
 pre:=fun a=>a.at_+1<a.d.n/\a.d.n<100000/\a.d.calls<800000000000/\1<=a.b.length/\a.b.length<=40
 args:=fun a=>[.a (.ptr 0 0 0 0),.a (.int .i64 a.at_),.a (.slc 2 0 1 a.b.length a.bc)]
 hp:=fun a=>ic 0 1 a.d
 ro:=fun a=>jO 2 a.b
 post:=fun _ _=>True
 res:=fun _ _=>.ng [.a (.ptr 3 0 0 0),.a (.lit .i64 0)]
 cR:=fun a c=>Gw 3 4 0 ⟨a.at_,1,a.b,0⟩ c++ic 0 1 (pX a.d a.at_ a.b)
def Jk(x:Vs):=x.at_+1<x.d.n/\x.d.n<100000/\x.d.calls<800000000000/\iB x.b 40
theorem RP:fnBody (Y Tryz.prog) [(174,CN),(81,qy),(169,ko)] 127 NZ fun _=>[]:=fnBody.of (p :=
 ∀y:Vs,Jk y->aD (cn 0 (af y.at_)) (ai (af y.d.n-(1:Int))/\fR (bq (aK (af y.at_) (af y.d.n-(1:Int)))) (∃z:Nat,False) (aK 40 (af (ah y.b))) (ai (af y.at_+(0:Int))/\mE 64 64 (∃z:MT,ag (af y.at_+(0:Int)=af z.i/\yC z y.d 64 uf (aQ y.at_ (mE 64 64 (∃u:MT,ag (aY y.at_=af u.i/\yC u (mF z) 64 uf (lu (mF u) fun v=>∃x:LC,ag (aT x.slot ((1:Int)=x.n/\cU y.b x.b y.bc x.bc/\ag (bC y.at_ x.S.at_/\(0:Int)=x.S.fL/\(0=ah x.S.text/\0=x.cap)/\aT x.S.slot (ah x.S.text=0/\gP (gR v) x.d (dQ x.b y.b cO/\rq x.S x.d x.slot (iB x.b 40)/\∀w:Nat,True->∃s:Nat,fc (ay 0) (bC (oC.at_ (jS x)) y.at_/\oC.fL (jS x)=(1:Int)/\cU (oC.text (jS x)) y.b w s/\bC (oC.slot (jS x)) 0/\dQ y.b (oC.text (jS x)) cO/\gP (yV x) (pX y.d y.at_ y.b) (True/\True)))))))))))))))) (∃z:Nat,False)) (by kernel_rfl) (by
 delta aD aW ah ai aG ay aK aY af bP e9 aC bw fc dQ fR aB ku mF cn yC mE rq aT jS ag vI cU iB uf bq lu aQ bC yV Jk
 try dsimp -iota -proj only
 rintro⟨at_,d,b,bc⟩ ⟨h1,h2,h3,h4,h5⟩;dsimp only at *;have h0:ak 64 1 (fun(x j:Nat)=>[Value.int IntKind.u8 (0:Int)].getD j (Value.tuple #[])) (bW fun _=>0):=kW fun _ _=>rfl;refine⟨fun _=>⟨by simp only[bR];omega,fun c=>by(exfalso;simp at c;omega),fun _=>⟨fun c=>by(exfalso;simp at c;omega),fun _=>?_⟩⟩,fun c=>by(exfalso;simp at c)⟩;refine⟨by simp only[bR];omega,by omega,by omega,by omega,MT.mk d at_ 0 64 64 64 fun _=>0,?_⟩;dsimp only
 and_intros<;>first|exact bY|exact h0|(intro h_;revert h_)|exact bZ|skip
 intro _ _;refine⟨by simp only[bR];omega,by omega,by omega,by omega,MT.mk (gQ d at_ 64 fun _=>0) (at_+1) 0 64 64 64 fun _=>0,?_⟩;have hn1:at_+1<(gQ d at_ 64 fun _=>0).n:=h1;have hn2:(gQ d at_ 64 fun _=>0).n<100000:=h2;have hc2:(gQ d at_ 64 fun _=>0).calls<1000000000000:=by show d.calls+1<_;omega
 dsimp only
 and_intros<;>first|exact bY|exact h0|exact hn1|exact hn2|exact hc2|(intro h_;revert h_)|exact bZ|skip
 intro _ _;obtain⟨D,hD⟩:∃D,D=gQ (gQ d at_ 64 fun _=>0) (at_+1) 64 fun _=>0:=⟨_,rfl⟩
 rw[<- hD];have hn3:D.n=d.n:=by rw[hD];rfl
 have hc3:D.calls=d.calls+2:=by rw[hD];rfl
 refine⟨D,?_⟩
 and_intros<;>first|exact bY|(intro h_;revert h_)|exact bZ|skip
 intro _ _;have hn4:at_+1<(gR D).n:=by show at_+1<D.n;omega
 have hn5:(gR D).n<100000:=by show D.n<_;omega
 have hc4:(gR D).calls<900000000000:=by show D.calls+1<_;omega
 refine⟨LC.mk ⟨at_,0,[],0⟩ 0 (gR D) 0 1 b bc,?_⟩;dsimp only
 and_intros<;>first|exact bY|exact hn4|exact hn5|exact hc4|(intro h_;revert h_)|exact bZ|skip
 intro c _;refine⟨c,?_⟩;dsimp only[Jj,pX];rw[<- hD]
 and_intros<;>first|exact bY|(intro h_;revert h_)|exact bZ|skip)
theorem RQ:au (Y Tryz.prog).G.X 127 NZ:=aU fF RP ⟨El,qo,ja,trivial⟩
structure N0 where
 S:oC
 cap:Nat
 d:bG
 b:List Int
 bc:Nat
noncomputable def N1:cG where
 α:=N0
 β:=Nat
 m:=5
 m':=6
 pre:=fun a=>a.S.at_+1<a.d.n/\a.S.slot<=1/\a.d.n<100000/\a.d.calls<900000000000/\1<=a.b.length/\a.b.length<=40/\0<=a.S.fL/\a.S.fL<1000000000000
 args:=fun a=>[.a (.ptr 0 0 0 0),.a (.slc 4 0 1 a.b.length a.bc)]
 hp:=fun a=>Gw 0 1 2 a.S a.cap++ic 2 3 a.d
 ro:=fun a=>jO 4 a.b
 post:=fun _ _=>True
 res:=fun _ _=>.a (.lit .i64 0)
 cR:=fun a c=>Gw 0 5 2 (Jj a.S (1-a.S.slot) (a.S.fL+1) a.b) c++ic 2 3 (Co a.S a.d (1-a.S.slot) (a.S.fL+1) a.b)
def yW(x y:oC)(z u:Nat)(v w:bG)(s t:Prop):=bC x.at_ y.at_/\x.fL=y.fL/\cU x.text y.text z u/\bC x.slot y.slot/\dQ y.text x.text cO/\gP v w (s/\t)
def Em(x:N0):bG:=Co x.S x.d (1-x.S.slot) (x.S.fL+(1:Int)) x.b
def En(x:N0):oC:=Jj x.S (1-x.S.slot) (x.S.fL+(1:Int)) x.b
def Jl(x:N0):=rq x.S x.d x.S.slot (1<=ah x.b/\ah x.b<=40/\bf x.S.fL 1000000000000)
theorem RR:fnBody (Y Tryz.prog) [(174,CN)] 146 N1 fun _=>[]:=fnBody.of (p :=
 ∀x:N0,Jl x->aX 40 (af (ah x.b)) (∃z:Nat,(1:Int)=0/\ag (yW x.S (En x) x.cap z x.d (Em x) True True)) (ai (af x.S.slot)->ai ((1:Int)-af x.S.slot)/\jQ x.S.fL 1 (∃y:LC,ag ((1:Int)-af x.S.slot=af y.slot/\x.S.fL+(1:Int)=y.n/\cU x.b y.b x.bc y.bc/\ag (yW x.S y.S x.cap y.cap x.d y.d (dQ y.b x.b cO) (rq y.S y.d y.slot (iB y.b 40)/\∀u:Nat,True->∃v:Nat,aI (ag (yW (jS y) (En x) u v (yV y) (Em x) True True)))))))) (by kernel_rfl) (by
 delta aD ah ai aG ay aK af bf aC dQ yW aI rq jS ag aX jQ cU iB bC Em yV En Jl
 try dsimp -iota -proj only
 rintro⟨u,cap,d,b,bc⟩ ⟨h1,h2,h3,h4,h5,h6,h8,h9⟩;dsimp only at *;have e:(1:Int)-u.slot=((1-u.slot:Nat):Int):=by omega
 have h2':1-u.slot<=1:=by omega
 refine⟨fun c=>by(exfalso;have:=of_decide_eq_true c;omega),fun _ _=>⟨by simp only[bR];omega,fun _=>⟨by simp only[bR];omega,LC.mk u cap d (1-u.slot) (u.fL+1) b bc,?_⟩⟩⟩;dsimp only
 and_intros<;>first|exact bY|exact e|exact h2'|(intro h_;revert h_)|exact bZ|skip
 intro c _;refine⟨c,?_⟩
 and_intros<;>first|exact bY|(intro h_;revert h_)|exact bZ|skip)
theorem RS:au (Y Tryz.prog).G.X 146 N1:=aU fF RR ⟨El,trivial⟩
structure MetaM where
 bN:Int
 aZ:Int
 ready:Int
 frozen:Bool
def B0(m:MetaM):List A:=[.int .i64 m.bN,.int .i64 m.aZ,.int .i64 m.ready,.bool m.frozen]
def CO:MetaM:=⟨0,0,0,false⟩
def Cp(n:Int):Bool:=decide (0<=n)&&decide (n<=1099511627776)
def nU(m:MetaM):Bool:=Cp m.bN&&(Cp m.aZ&&(Cp m.ready&&((m.ready == 0||decide (m.aZ<m.ready))&&(!m.frozen||decide (0<m.ready)))))
def fu(m:MetaM):List Int:=iN [m.bN,m.aZ,m.ready,if m.frozen then 1 else 0]
theorem Eo{m:MetaM}(h:nU m=true):(0<=m.bN/\m.bN<=1099511627776)/\(0<=m.aZ/\m.aZ<=1099511627776)/\0<=m.ready/\m.ready<=1099511627776:=by
 simp only[nU,Cp,Bool.and_eq_true,decide_eq_true_eq]at h;omega
def X8(m:MetaM):List Int:=[m.bN,m.aZ,m.ready]
theorem Vt{m:MetaM}{i:Nat}(hi:i<3)(h:Cp (gl (X8 m) i)=false):nU m=false:=by
 rcases(by omega:i=0\/i=1\/i=2)with rfl|rfl|rfl
 ·have h:Cp m.bN=false:=h;simp[nU,h]
 ·have h:Cp m.aZ=false:=h;simp[nU,h]
 ·have h:Cp m.ready=false:=h;simp[nU,h]
theorem X9{m:MetaM}(h:∀i,i<3->Cp (gl (X8 m) i)=true):nU m=((m.ready == 0||decide (m.aZ<m.ready))&&(!m.frozen||decide (0<m.ready))):=by
 have h0:Cp m.bN=true:=h 0 (by omega);have h1:Cp m.aZ=true:=h 1 (by omega);have h2:Cp m.ready=true:=h 2 (by omega);simp[nU,h0,h1,h2]
noncomputable def Vu:cG where
 α:=MetaM
 β:=Unit
 m:=0
 m':=0
 pre:=fun _=>True
 args:=fun m=>[.agg (B0 m)]
 hp:=fun _=>[]
 ro:=fun _=>[]
 post:=fun _ _=>True
 res:=fun m _=>.a (.bool (nU m))
 cR:=fun _ _=>[]
def aaS(m:MetaM):An:=.flat 2 Nat (fun s i=>s.int 13 i) (fun _ i=>i<=3/\∀j,j<i->Cp (gl (X8 m) j)=true) (fun _ i=>3-i)
def Bh(y:Bool)(x:Prop)(z u:Int)(v:Bool)(w:Prop):=aD y x (ai z->ai u->aD v x w)
def Bi(x y:Int)(z:Prop)(u:Int)(v:Prop):=ai x->fR (aK x y) z (aK u x) v
def wz(x:MetaM)(y:Prop):=mJ x.bN x.aZ x.ready (bn x.frozen) y
def N2(x:MetaM)(y:Prop):=ay 3/\bF 3 (3=3)/\bI (ag (wz x (eF 3 1 (aF 1 (bT x.bN (bT x.aZ (gp x.ready))))/\wz x y)))
theorem Vv:fnBody (Y Tryz.prog) [] 145 Vu fun m=>[(145,[aaS m],[])]:=fnBody.of (p :=
 ∀x:MetaM,True->ai x.bN->ai x.aZ->ai x.ready->cm (fun y=>N2 x ((y<=3/\∀z:Nat,z<y->aC (Cp (gl (X8 x) z)))/\True)) fun y=>(y<=3/\∀z:Nat,z<y->aC (Cp (gl (X8 x) z)))->aX (af y) 3 (bf (af y) 3/\0+ax y<3/\Bi (jW (aF 1 (bT x.bN (bT x.aZ (gp x.ready))) (0+ax y) 0)) 0 (Exists (dZ (nU x))) 1099511627776 (bH y fun u=>N2 x (dD u 3 (∀v:Nat,v<u->aC (Cp (gl (X8 x) v))) y))) (ai x.ready->Bh (x.ready == (0:Int)) (aD (bq x.frozen) (bz (true=nU x)) (ai x.ready->bz (aK 0 x.ready=nU x))) x.ready x.aZ (aK x.aZ x.ready) (Exists (dZ (nU x))))) (by kernel_rfl) (by
 delta aD mJ eF ai bF aG ay bT ax bn aK aY af bf aC aR dW fV bw fR bz dD bI bH dZ Bh aT az ag Bi aX wz bq aQ N2 gp bt cm
 try dsimp -iota -proj only
 intro m _ _ _ _;have hg:∀i:Nat,i<3->jW (aF 1 [Value.int .i64 m.bN,Value.int .i64 m.aZ,Value.int .i64 m.ready] (0+(i:Int).toNat) 0)=gl (X8 m) i:=fun i hi=>by
  rcases(by omega:i=0\/i=1\/i=2)with rfl|rfl|rfl<;>rfl
 have h0:∀j:Nat,j<0->Cp (gl (X8 m) j)=true:=fun j hj=>absurd hj (Nat.not_lt_zero j);refine⟨⟨0,?_⟩,fun i hi=>?_⟩
 ·and_intros<;>first|exact bY|exact h0|(intro h_;revert h_)|exact bZ|skip
 obtain⟨hi,hall⟩:=hi;refine⟨fun c1=>?_,fun c1 _=>?_⟩
 ·have hi3:i<3:=by have:=of_decide_eq_true c1;omega
  rw[hg i hi3];refine⟨⟨by omega,by omega⟩,by omega,fun _=>⟨fun c2=>⟨(),?_,trivial,trivial⟩,fun c2=>⟨fun c3=>⟨(),?_,trivial,trivial⟩,fun c3=>⟨by simp only[bR];omega,i+1,?_⟩⟩⟩⟩
  ·exact(Vt hi3 (by have:=of_decide_eq_true c2;simp only[Cp,Bool.and_eq_false_iff,decide_eq_false_iff_not];omega)).symm
  ·exact(Vt hi3 (by have:=of_decide_eq_true c3;simp only[Cp,Bool.and_eq_false_iff,decide_eq_false_iff_not];omega)).symm
  ·have h1:∀j,j<i+1->Cp (gl (X8 m) j)=true:=fun j hj=>by
    by_cases e:j=i
    ·subst e;have:=of_decide_eq_false c2;have:=of_decide_eq_false c3;simp only[Cp,Bool.and_eq_true,decide_eq_true_eq];omega
    ·exact hall j (by omega)
   and_intros<;>first|exact bY|exact h1|(intro h_;revert h_)|exact bZ|skip
 ·have hi3:i=3:=by have:=of_decide_eq_false c1;omega
  subst hi3;rw[X9 hall];refine⟨fun d1=>⟨fun d2=>⟨(),?_⟩,fun d2 _=>⟨(),?_⟩⟩,fun d1 _ _=>⟨fun d2=>⟨fun d3=>⟨(),?_⟩,fun d3 _=>⟨(),?_⟩⟩,fun d2=>⟨(),?_⟩⟩⟩<;>simp[*])
theorem Vw:au (Y Tryz.prog).G.X 145 Vu:=aU fF Vv trivial
noncomputable def Jm:cG where
 α:=MetaM
 β:=Nat
 m:=0
 m':=1
 pre:=fun m=>nU m=true
 args:=fun m=>[.agg (B0 m)]
 hp:=fun _=>[]
 ro:=fun _=>[]
 post:=fun _ _=>True
 res:=fun m c=>.a (.slc 0 0 1 (fu m).length c)
 cR:=fun m _=>jO 0 (fu m)
def N3(x:MetaM)(z:Int):=ai x.bN->ai x.aZ->ai x.ready->Exists (Je 4 (bT x.bN (bT x.aZ (bT x.ready (gp z)))) fun y u=>∃v:Nat,mI (y.l++iN y.ns) (fu x) u v cO True True)
theorem RU:fnBody (Y Tryz.prog) [(165,DH)] 128 Jm fun _=>[]:=fnBody.of (p :=
 ∀x:MetaM,aC (nU x)->aD x.frozen (N3 x 1) (N3 x 0)) (by kernel_rfl) (by
 delta aD ah ai aG bT bf aC dW bw dQ eH mI yw ag N3 cU gp Je
 try dsimp -iota -proj only
 intro m hm;have hr:=Eo hm;have key:∀f:Int,0<=f->f<=1->fu m=iN [m.bN,m.aZ,m.ready,f]->∃a:mH,a=⟨[],0,[m.bN,m.aZ,m.ready,f],4⟩/\([]++iN [m.bN,m.aZ,m.ready,f])=fu m/\ak 4 1 (aF 1 [Value.int .i64 m.bN,Value.int .i64 m.aZ,Value.int .i64 m.ready,Value.int .i64 f]) (aa encI [m.bN,m.aZ,m.ready,f])/\∀i:Nat,i<4->0<=gl [m.bN,m.aZ,m.ready,f] i/\gl [m.bN,m.aZ,m.ready,f] i<4611686018427387904:=fun f f0 f1 e=>by
  refine⟨_,rfl,by rw[e];rfl,⟨fun i hi j hj=>?_⟩,fun i hi=>?_⟩
  ·obtain rfl:j=0:=by omega
   rcases(by omega:i=0\/i=1\/i=2\/i=3)with rfl|rfl|rfl|rfl<;>rfl
  ·rcases(by omega:i=0\/i=1\/i=2\/i=3)with rfl|rfl|rfl|rfl
   ·show 0<=m.bN/\m.bN<_;omega
   ·show 0<=m.aZ/\m.aZ<_;omega
   ·show 0<=m.ready/\m.ready<_;omega
   ·show 0<=f/\f<_;omega
 have l100:∀f:Int,[m.bN,m.aZ,m.ready,f].length<100:=fun _=>by simp
 refine⟨fun c _ _ _=>?_,fun c _ _ _=>?_⟩
 ·obtain⟨a,rfl,e1,e2,e3⟩:=key 1 (by omega) (by omega) (by unfold fu;rw[c];rfl);refine⟨mH.mk [] 0 [m.bN,m.aZ,m.ready,1] 4,?_⟩;dsimp only;rw[e1]
  and_intros<;>first|exact bY|exact e2|exact e3|exact l100 _|(intro h_;revert h_)|exact bZ|skip
  intro c _;refine⟨c,?_⟩
  and_intros<;>first|exact bY|(intro h_;revert h_)|exact bZ|skip
 ·obtain⟨a,rfl,e1,e2,e3⟩:=key 0 (by omega) (by omega) (by unfold fu;rw[c];rfl);refine⟨mH.mk [] 0 [m.bN,m.aZ,m.ready,0] 4,?_⟩;dsimp only;rw[e1]
  and_intros<;>first|exact bY|exact e2|exact e3|exact l100 _|(intro h_;revert h_)|exact bZ|skip
  intro c _;refine⟨c,?_⟩
  and_intros<;>first|exact bY|(intro h_;revert h_)|exact bZ|skip)
theorem Gy:au (Y Tryz.prog).G.X 128 Jm:=aU fF RU ⟨AA,trivial⟩
structure rV where
 s:oC
 m:MetaM
def Ep(ke su tx dv:Nat)(k:rV)(cap:Nat):List (Nat×Chunk):=(ke,.obj 155 (.ptr su 0 0 0::B0 k.m))::Gw su tx dv k.s cap
def kg(at_:Nat):rV:=⟨⟨at_,1,fu CO,0⟩,CO⟩
theorem LD{m:MetaM}(h:nU m=true):1<=(fu m).length/\(fu m).length<=40:=by
 have:=Eo h;have a1:=jf m.bN;have a2:=jf m.aZ;have a3:=jf m.ready;have a4:=jf (if m.frozen then 1 else 0);simp only[fu,iN,List.flatMap_cons,List.flatMap_nil,List.append_nil,List.length_append];omega
@[reducible] def Er(a b:rV)(v w:Nat)(p:Prop):Prop:=a.m.bN=b.m.bN/\a.m.aZ=b.m.aZ/\a.m.ready=b.m.ready/\a.m.frozen=b.m.frozen/\0=0/\(↑a.s.at_:Int)=(↑b.s.at_:Int)/\a.s.fL=b.s.fL/\(0=0/\a.s.text.length=b.s.text.length/\v=w)/\(↑a.s.slot:Int)=(↑b.s.slot:Int)/\(b.s.text.length<=a.s.text.length/\ak b.s.text.length 1 (aa cO a.s.text) (aa cO b.s.text))/\p
structure Ya where
 at_:Nat
 d:bG
noncomputable def N4:cG where
 α:=Ya
 β:=Nat
 m:=2
 m':=5
 pre:=fun a=>a.at_+1<a.d.n/\a.d.n<100000/\a.d.calls<800000000000
 args:=fun a=>[.a (.ptr 0 0 0 0),.a (.int .i64 a.at_)]
 hp:=fun a=>ic 0 1 a.d
 ro:=fun _=>[]
 post:=fun _ _=>True
 res:=fun _ _=>.ng [.a (.ptr 2 0 0 0),.a (.lit .i64 0)]
 cR:=fun a c=>Ep 2 3 4 0 (kg a.at_) c++ic 0 1 (pX a.d a.at_ (fu CO))
def Et(y:Int)(x:MetaM)(z:Int)(u v:Prop):=y=x.bN/\z=x.aZ/\(0:Int)=x.ready/\fV x.frozen u v
theorem RV:fnBody (Y Tryz.prog) [(128,Jm),(127,NZ)] 82 N4 fun _=>[]:=fnBody.of (p :=
 ∀x:Ya,x.at_+1<x.d.n/\x.d.n<100000/\x.d.calls<800000000000->∃z:MetaM,Et 0 z 0 (aC (nU z)) (∀u:Nat,True->∃y:Vs,ag (bC x.at_ y.at_/\cU (fu z) y.b u y.bc/\gP x.d y.d (dQ y.b (fu z) cO/\Jk y/\∀v:Nat,True->∃w:Nat,fc (ay 0) (Et 0 (kg x.at_).m 0 (0=0) (bC y.at_ (kg x.at_).s.at_/\(1:Int)=(kg x.at_).s.fL/\cU y.b (kg x.at_).s.text v w/\bC 0 (kg x.at_).s.slot/\dQ (kg x.at_).s.text y.b cO/\gP (pX y.d y.at_ y.b) (pX x.d x.at_ (fu CO)) (True/\True))))))) (by kernel_rfl) (by
 delta ah aG ay af aC fV fc dQ ag cU iB bC Jk Et
 try dsimp -iota -proj only
 rintro⟨at_,d⟩ ⟨h1,h2,h3⟩;dsimp only at *;obtain⟨l1,l2⟩:=LD (show nU CO=true from rfl);refine⟨CO,rfl,rfl,rfl,rfl,rfl,fun b _=>⟨Vs.mk at_ d (fu CO) b,?_⟩⟩;dsimp only
 and_intros<;>first|exact bY|exact l1|exact l2|(intro h_;revert h_)|exact bZ|skip
 intro c _;refine⟨c,?_⟩;dsimp only[kg]
 and_intros<;>first|exact bY|(intro h_;revert h_)|exact bZ|skip)
theorem RW:au (Y Tryz.prog).G.X 82 N4:=aU fF RV ⟨Gy,RQ,trivial⟩
def gY(k:rV)(m:MetaM):Bool:=nU m&&(!decide (m.bN<k.m.bN)&&!decide (m.aZ<k.m.aZ))
def nJ(k:rV)(m:MetaM):rV:=if gY k m then⟨Jj k.s (1-k.s.slot) (k.s.fL+1) (fu m),m⟩else k
def iO(k:rV)(d:bG)(m:MetaM):bG:=if gY k m then Co k.s d (1-k.s.slot) (k.s.fL+1) (fu m)else d
structure Jn where
 k:rV
 cap:Nat
 d:bG
 m:MetaM
noncomputable def Jo:cG where
 α:=Jn
 β:=Nat
 m:=5
 m':=6
 pre:=fun a=>a.k.s.at_+1<a.d.n/\a.k.s.slot<=1/\a.d.n<100000/\a.d.calls<900000000000/\0<=a.k.s.fL/\a.k.s.fL<1000000000000
 args:=fun a=>[.a (.ptr 0 0 0 0),.agg (B0 a.m)]
 hp:=fun a=>Ep 0 1 2 3 a.k a.cap++ic 3 4 a.d
 ro:=fun _=>[]
 post:=fun _ _=>True
 res:=fun a _=>.a (.int .i64 (if gY a.k a.m then 0 else 1))
 cR:=fun a c=>Ep 0 1 5 3 (nJ a.k a.m) c++ic 3 4 (iO a.k a.d a.m)
def zR(x y:MetaM)(z u:Prop):=x.bN=y.bN/\x.aZ=y.aZ/\x.ready=y.ready/\x.frozen=y.frozen/\z/\u
def N5(x:Jn):=∃y:Nat,(1:Int)=iC (gY x.k x.m)/\ag (Er x.k (nJ x.k x.m) x.cap y (gP x.d (iO x.k x.d x.m) (True/\True)))
def Bj(x:Jn):=rq x.k.s x.d x.k.s.slot (bf x.k.s.fL 1000000000000)
theorem RX:fnBody (Y Tryz.prog) [(145,Vu),(128,Jm),(146,N1)] 100 Jo fun _=>[]:=fnBody.of (p :=
 ∀x:Jn,Bj x->∃u:MetaM,zR x.m u True (aB (Bh (bq (nU u)) (N5 x) x.m.bN x.k.m.bN (aK x.m.bN x.k.m.bN) (ai x.m.aZ->ai x.k.m.aZ->aX x.m.aZ x.k.m.aZ (N5 x) (∃z:MetaM,zR x.m z (aC (nU z)) (∀v:Nat,True->∃y:N0,fc (cU (fu z) y.b v y.bc) (yW x.k.s y.S x.cap y.cap x.d y.d (dQ y.b (fu z) cO) (Jl y/\∀w:Nat,True->∃t:Nat,(0:Int)=iC (gY x.k x.m)/\ag (zR x.m (nJ x.k x.m).m (0=0) (yW (En y) (nJ x.k x.m).s w t (Em y) (iO x.k x.d x.m) True True)))))))))) (by kernel_rfl) (by
 delta aD ah ai aG aK af bf aC fc zR dQ aB yW Bh iC rq ag aX cU bq bC N5 Bj Em En Jl
 try dsimp -iota -proj only
 rintro⟨k,cap,d,m⟩ ⟨h1,h2,h3,h4,h5,h6⟩;dsimp only at *;have no:gY k m=false->nJ k m=k/\iO k d m=d:=fun h=>⟨if_neg (by rw[h];decide),if_neg (by rw[h];decide)⟩
 refine⟨m,rfl,rfl,rfl,rfl,trivial,fun _ _=>⟨fun c=>?_,fun c _ _=>⟨fun c2=>?_,fun c2 _ _=>⟨fun c3=>?_,fun c3=>?_⟩⟩⟩⟩
 ·have hk:gY k m=false:=by unfold gY;simp only[Bool.not_eq_true']at c;rw[c];rfl
  obtain⟨e1,e2⟩:=no hk;rw[e1,e2,hk];refine⟨cap,?_⟩
  and_intros<;>first|exact bY|(intro h_;revert h_)|exact bZ|skip
 ·have hk:gY k m=false:=by unfold gY;rw[c2];simp
  obtain⟨e1,e2⟩:=no hk;rw[e1,e2,hk];refine⟨cap,?_⟩
  and_intros<;>first|exact bY|(intro h_;revert h_)|exact bZ|skip
 ·have hk:gY k m=false:=by unfold gY;rw[c3];simp
  obtain⟨e1,e2⟩:=no hk;rw[e1,e2,hk];refine⟨cap,?_⟩
  and_intros<;>first|exact bY|(intro h_;revert h_)|exact bZ|skip
 ·have hm:nU m=true:=by simpa using c
  have hk:gY k m=true:=by unfold gY;rw[hm,c2,c3];rfl
  obtain⟨l1,l2⟩:=LD hm;have e1:nJ k m=⟨Jj k.s (1-k.s.slot) (k.s.fL+1) (fu m),m⟩:=if_pos hk;have e2:iO k d m=Co k.s d (1-k.s.slot) (k.s.fL+1) (fu m):=if_pos hk;rw[e1,e2,hk];refine⟨m,rfl,rfl,rfl,rfl,hm,fun bc _=>⟨N0.mk k.s cap d (fu m) bc,?_⟩⟩;dsimp only
  and_intros<;>first|exact bY|exact l1|exact l2|(intro h_;revert h_)|exact bZ|skip
  intro c' _;refine⟨c',?_⟩
  and_intros<;>first|exact bY|(intro h_;revert h_)|exact bZ|skip)
theorem Gz:au (Y Tryz.prog).G.X 100 Jo:=aU fF RX ⟨Vw,Gy,RS,trivial⟩
structure mu where
 d:bG
 cL:b8
 cl:List (ByteArray×Int)
 jL:b8
 ms:List fq
 k:rV
 bN:Int
structure vl where
 H:PH
 cy:iL
 x:Ix.cT
 xc:Nat
 jy:iL
 jc:Nat
 kc:Nat
def mu.fl(s:mu):oN:=⟨s.cL,s.d,s.cl⟩
def vl.fl(p:vl):sY:=⟨p.H,p.cy,p.x,p.xc⟩
def mu.jr(s:mu):Ks:=⟨s.jL,s.d,s.ms⟩
def vl.jr(p:vl):LA:=⟨p.H,p.jy,p.jc⟩
def stO(ca jr ke:Nat)(bN:Int):Chunk:=.obj 88 [.ptr ca 0 0 0,.ptr jr 0 0 0,.ptr ke 0 0 0,.int .i64 bN]
def xz(st ca cl dv ds ix it jr ma jl ke su tx pl:Nat)(s:mu)(p:vl):List (Nat×Chunk) :=
 [(st,stO ca jr ke s.bN),(ca,.obj 205 [.ptr cl 0 0 0,.ptr ix 0 0 0]),(cl,gu dv s.cL p.cy.lv)]++ic dv ds s.d++Ix.qh ix it p.x.t p.xc p.x.n p.x.used ++
 [(jr,Y0 jl ma s.ms.length p.jc),(ma,.arr 228 sH s.ms.length (aa cS s.ms)),(jl,gu dv s.jL p.jy.lv)]++Ep ke su tx dv s.k p.kc++[(pl,.cI p.H)]
structure pY(s:mu)(p:vl):Prop where
 fl:jH s.fl p.fl
 jl:ct p.H p.jy s.jL
 sep:∀z,z∈bB p.jy->z∉bB p.cy
 cap:s.ms.length<=p.jc
@[reducible] def wA(a b:mu)(p q:vl)(r:Prop):Prop:=a.bN=b.bN/\0=0/\0=0/\0=0/\vf a.cL b.cL p.cy.lv q.cy.lv (gP a.d b.d (zQ p.x q.x p.xc q.xc (0=0/\wv a.ms b.ms p.jc q.jc (0=0/\vf a.jL b.jL p.jy.lv q.jy.lv (0=0/\Er a.k b.k p.kc q.kc r)))))
def Eu(H:PH)(c j:List Nat)(p:vl):Prop:=∀z,H z≠none->z∉c->z∉j->p.H z=H z/\z∉bB p.cy/\z∉bB p.jy
def o6(m:MetaM):MetaM:={ m with bN:=m.bN+1 }
def jo(n:Nat):Nat:=min 200 ((n-162)/8)
structure B1 where
 k:rV
 kc:Nat
 d:bG
 H:PH
 ms:List fq
 es:List (Option aH)
def GA(a:B1):bG:=iO a.k a.d (o6 a.k.m)
def kL(a:B1):mu:=⟨GA a,cV 162 (jo a.d.n) (GA a),nI a.es (gT (cV 162 (jo a.d.n) (GA a)).l) a.es.length,cV 2 20 (GA a),a.ms,nJ a.k (o6 a.k.m),a.k.m.bN+1⟩
structure Bk(a:B1):Prop where
 n:192<=a.d.n/\a.d.n<100000
 calls:a.d.calls<900000000000
 save:gY a.k (o6 a.k.m)=true
 k:a.k.s.at_=0/\a.k.s.slot<=1/\0<=a.k.s.fL/\a.k.s.fL<1000000000000
 jr:∀H,Bg.pre ⟨H,GA a,2,20,a.ms⟩
 fl:∀H,Ba.pre ⟨H,GA a,162,jo a.d.n,a.es⟩
noncomputable def N6:cG where
 α:=B1
 β:=vl
 m:=6
 m':=16
 pre:=fun a=>Bk a
 args:=fun a=>[.a (.ptr 0 0 0 0),.a (.ptr 2 0 0 0)]
 hp:=fun a=>Ep 2 3 4 0 a.k a.kc++ic 0 1 a.d++[(5,.cI a.H)]
 ro:=fun _=>[]
 post:=fun a b=>pY (kL a) b/\Eu a.H [] [] b
 res:=fun _ _=>.ng [.a (.ptr 6 0 0 0),.a (.lit .i64 0)]
 cR:=fun a b=>xz 6 7 8 0 1 9 10 11 12 13 2 3 14 15 (kL a) b
noncomputable def Vx:List (Nat×cG):=[(100,Jo),(129,Bg),(130,Ba)]
def wB(w:oN)(u:mu)(v:sY)(z:vl)(s:bG)(t:List fq)(f:Nat)(g:b8)(h:iL)(i:rV)(j:Nat)(l:Prop):=aA (gi w.L u.cL v.y z.cy (gP s u.d (zQ v.x z.x v.cap z.xc (ag (wv t u.ms f z.jc (gi g u.jL h z.jy (ag (Er i u.k j z.kc l))))))))
def yX(y:B1)(x:vl)(z:PH):=pY (kL y) x/\Eu z [] [] x
def Jp(x:Jn):Int:=af (iO x.k x.d x.m).n-(162:Int)
theorem RY:fnBody (Y Tryz.prog) Vx 83 N6 fun _=>[]:=fnBody.of (p :=
 ∀z:B1,Bk z->jQ z.k.m.bN 1 (∃x:Jn,ag (z.k.m.bN+(1:Int)=x.m.bN/\z.k.m.aZ=x.m.aZ/\z.k.m.ready=x.m.ready/\z.k.m.frozen=x.m.frozen/\ag (Er z.k x.k z.kc x.cap (gP z.d x.d (Bj x/\∀h:Nat,True->aD (iC (gY x.k x.m) != (0:Int)) (∃u:vl,False) (∃u:xI,ag ((2:Int)=af u.from_/\(20:Int)=af u.av/\z.H=u.H/\gP (iO x.k x.d x.m) u.d (Jh u/\∀w:LA,ct w.H w.y (cV u.from_ u.av u.d)/\(∀t:Nat,pR (u.H t) (w.H t) (bB w.y) t)/\bD u.ms<=w.cap->ai (Jp x)/\(8:Int)≠(0:Int)/\ai (Int.tdiv (Jp x) (8:Int))/\∃v:lC,ag ((162:Int)=af v.from_/\qf false 200 (Int.tdiv (Jp x) (8:Int))=af v.av/\w.H=v.H/\gP (iO x.k x.d x.m) v.d (Bc v.from_ v.av v.d (ZT v.es (Bb v))/\∀s:sY,(jH (Lw v) s/\∀f:Nat,pR (v.H f) (s.H f) (bB s.y) f)->ai (z.k.m.bN+(1:Int))->∃g:vl,ag (aI (aA (ag (z.k.m.bN+(1:Int)=(kL z).bN/\wB (Lw v) (kL z) s g (iO x.k x.d x.m) u.ms w.cap (cV u.from_ u.av u.d) w.y (nJ x.k x.m) h (s.H=g.H/\yX z g z.H/\True)))))))))))))))) (by kernel_rfl) (by
 delta aD ai bF ay qf af bf aC wB bD bK aI iC rq Bc ag pR jQ aA Bj oo gi yX Jp Bb Jh
 rintro⟨k,kc,d,H,ms,es⟩ ok hb;obtain⟨⟨n1,n2⟩,hcl,hsv,⟨k1,k2,k3,k4⟩,hjr,hfl⟩:=ok;dsimp only at *;have hm:nU (o6 k.m)=true:=by
  have:=hsv;unfold gY at this;simp only[Bool.and_eq_true]at this;exact this.1
 obtain⟨g1,g2,g3,g4⟩:=Eo hm;have g1:0<=k.m.bN+1/\k.m.bN+1<=1099511627776:=g1;obtain⟨D,hD⟩:∃D,D=iO k d (o6 k.m):=⟨_,rfl⟩
 have hDn:D.n=d.n:=by rw[hD];unfold iO;split<;>rfl
 have hk0:k.s.at_+1<d.n:=by omega
 have hjr:Bg.pre ⟨H,D,2,20,ms⟩:=by rw[hD];exact hjr H
 obtain⟨j1,j2,j3,j4⟩:=hjr;have e:kL ⟨k,kc,d,H,ms,es⟩=⟨D,cV 162 (jo d.n) D,nI es (gT (cV 162 (jo d.n) D).l) es.length,cV 2 20 D,ms,nJ k (o6 k.m),k.m.bN+1⟩:=by rw[hD];rfl
 rw[e];refine⟨by simp only[bR];omega,Jn.mk k kc d (o6 k.m),?_⟩;dsimp only;rw[hsv,<- hD]
 and_intros<;>first|exact bY|(intro h_;revert h_)|exact bZ|skip
 intro b _;refine⟨fun c=>absurd c (by decide),fun _=>⟨xI.mk H D 2 20 ms,?_⟩⟩;dsimp only
 and_intros<;>first|exact bY|exact j2|exact j3|exact j4|(intro h_;revert h_)|exact bZ|skip
 rintro⟨H1,y1,jc⟩ ⟨hl1,hf1,hc1⟩;dsimp only at hl1 hf1 hc1 ⊢;have hfl:Ba.pre ⟨H1,D,162,jo d.n,es⟩:=by rw[hD];exact hfl H1
 obtain⟨f1,f2,f3⟩:=hfl;have hdv:((D.n:Int)-162).tdiv 8=(((d.n-162)/8:Nat):Int):=by
  rw[hDn,Int.tdiv_eq_ediv_of_nonneg (by omega)];omega
 rw[hdv];have hsg:(bif false then max (200:Int) (((d.n-162)/8:Nat):Int)else min 200 (((d.n-162)/8:Nat):Int))=(jo d.n:Nat):=by
  simp only[cond_false,jo];omega
 refine⟨by simp only[bR];omega,by decide,by simp only[bR];omega,lC.mk H1 D 162 (jo d.n) es,?_⟩;dsimp only
 and_intros<;>first|exact bY|exact hsg|exact f1|exact f2|exact f3|(intro h_;revert h_)|exact bZ|skip
 rintro⟨H2,y2,x2,xc2⟩ ⟨hat2,hf2⟩ _;dsimp only at hf2 ⊢;refine⟨⟨H2,y2,x2,xc2,y1,jc,b⟩,?_⟩;have hat:pY ⟨D,cV 162 (jo d.n) D,nI es (gT (cV 162 (jo d.n) D).l) es.length,cV 2 20 D,ms,nJ k (o6 k.m),k.m.bN+1⟩ ⟨H2,y2,x2,xc2,y1,jc,b⟩ :=
  ⟨hat2,hl1.frame fun z hz=>(hf2 z (hl1.dom z hz)).1,fun z hz=>(hf2 z (hl1.dom z hz)).2,hc1⟩
 have hfr:Eu H [] [] ⟨H2,y2,x2,xc2,y1,jc,b⟩:=fun z hz _ _=>by
  obtain⟨a1,a2⟩:=hf1 z hz;obtain⟨b1,b2⟩:=hf2 z (by rw[a1];exact hz);exact⟨b1.trans a1,b2,a2⟩
 dsimp only[Lw]
 and_intros<;>first|exact bY|exact hat|exact hfr|(intro h_;revert h_)|exact bZ|skip)
theorem callParts:au (Y Tryz.prog).G.X 83 N6:=aU fF RY ⟨Gz,RO,RJ,trivial⟩
def fo(d:bG)(i:Nat):bG:=⟨d.n,fun r j=>if r<i/\j<64 then 0 else d.now r j,d.F7,fun r=>if r<i then true else d.loose r,d.calls+i⟩
structure Ev where
 d:bG
 H:PH
def sI(a:Ev):B1:=⟨kg 0,0,pX (fo a.d a.d.n) 0 (fu CO),a.H,[],[]⟩
noncomputable def zS:cG where
 α:=Ev
 β:=vl
 m:=3
 m':=17
 pre:=fun a=>192<=a.d.n/\a.d.n<100000/\a.d.calls<100000000000/\Bk (sI a)
 args:=fun a=>[.a (.ptr 0 0 0 0)]
 hp:=fun a=>ic 0 1 a.d++[(2,.cI a.H)]
 ro:=fun _=>[]
 post:=fun a b=>pY (kL (sI a)) b/\Eu a.H [] [] b
 res:=fun _ _=>.ng [.a (.ptr 3 0 0 0),.a (.lit .i64 0)]
 cR:=fun a b=>xz 3 4 5 0 1 6 7 8 9 10 11 12 13 14 (kL (sI a)) b
def Yb(a:Ev):An:=.flat 5 Nat (fun s i=>((s.at_ 0 (.obj 116 [.slc 1 0 129 a.d.n a.d.n,.int .i64 (fo a.d i).calls])).at_ 1 (.arr 158 DA a.d.n (fO (fo a.d i)))).int 16 i) (fun _ i=>i<=a.d.n) (fun _ i=>a.d.n-i)
noncomputable def Yc:List (Nat×cG):=[(81,qy),(82,N4),(83,N6)]
def wC(x:bG)(y:Ev):=iT 192 x.n (x.calls<100000000000/\Bk (sI y))
theorem N7:fnBody (Y Tryz.prog) Yc 46 zS fun a=>[(46,[Yb a],[])]:=fnBody.of (p :=
 ∀x:Ev,wC x.d x->aX (af x.d.n) 192 (∃z:vl,False) (cm (fun z=>aP x.d.n (vU (bh x.d.n x.d.n/\bC x.d.calls (fo x.d z).calls/\aG x.d.n x.d.n 129 (fO x.d) (fO (fo x.d z))/\x.H=x.H/\z<=x.d.n/\True))) fun z=>z<=x.d.n->aD (bM z x.d.n) (mE 64 64 (∃y:MT,ag (bC z y.i/\(0=y.r/\64=y.len/\64=y.cap)/\ua x.d.n y.d (af (fo x.d z).calls) y.d (fO (fo x.d z)) (aG y.n 64 1 uf (bW y.src)) (vI y/\aB (bH z fun v=>aP x.d.n (vU (ua (bG.n (mF y)) x.d (af (bG.calls (mF y))) (fo x.d v) (fO (mF y)) (x.H=x.H) (bS v x.d.n z)))))))) (∃y:Ya,ag (aT y.at_ (ua x.d.n y.d (af (fo x.d z).calls) y.d (fO (fo x.d z)) (y.at_+1<y.d.n/\y.d.n<100000/\y.d.calls<800000000000) (∀v:Nat,True->∃u:B1,aA (ag (Er (kg y.at_) u.k v u.kc (gP (pX y.d y.at_ (fu CO)) u.d (x.H=u.H/\Bk u/\∀w:vl,yX u w u.H->∃s:vl,ag (aI (aA (ag (wA (kL u) (kL (sI x)) w s (w.H=s.H/\yX (sI x) s x.H/\True))))))))))))))) (by kernel_rfl) (by
 delta aD aW ai bF aG ay bn aK aY af bP e9 gA aC bw dV aB eH bS aP bH aI mF bh mE bM aT fS ag ua wC aX aA vI uf aQ bC iT yX cm vU
 try dsimp -iota -proj only
 rintro⟨d,H⟩ ⟨h1,h2,h3,hok⟩;dsimp only at *;have h0:ak 64 1 (fun(x j:Nat)=>[Value.int IntKind.u8 (0:Int)].getD j (Value.tuple #[])) (bW fun _=>0):=kW fun _ _=>rfl;refine⟨fun c=>by(exfalso;have:=of_decide_eq_true c;omega),fun _=>⟨⟨0,?_⟩,fun i hi=>⟨fun c=>?_,fun c=>?_⟩⟩⟩
 ·have hr:ak d.n 129 (fO d) (fO (fo d 0)):=⟨fun i hi j hj=>by simp[fO,fo]⟩
  have hc:(d.calls:Int)=(fo d 0).calls:=rfl
  and_intros<;>first|exact bY|exact hr|exact hc|(intro h_;revert h_)|exact bZ|skip
 ·have hi2:i<d.n:=by have:=of_decide_eq_true c;omega
  have hn:(fo d i).n=d.n:=rfl;have hc:(fo d i).calls<1000000000000:=by show d.calls+i<_;omega
  refine⟨by omega,by omega,by omega,MT.mk (fo d i) i 0 64 64 64 fun _=>0,?_⟩;dsimp only;rw[hn]
  and_intros<;>first|exact bY|exact h0|exact hc|(intro h_;revert h_)|exact bZ|skip
  intro _ _;have hr:ak d.n 129 (fO (gQ (fo d i) i 64 fun _=>0)) (fO (fo d (i+1))):=⟨fun r hr j hj=>by
   simp only[fO,gQ,fo];by_cases e:r=i
   ·subst e;by_cases h64:j<64
    ·simp[h64,show r<r+1 by omega]
    ·simp[h64]
   ·by_cases h64:j<64
    ·rw[if_pos h64,if_pos h64,if_neg (by omega)];by_cases hl:r<i
     ·rw[if_pos ⟨hl,h64⟩,if_pos ⟨by omega,h64⟩]
     ·rw[if_neg (by omega),if_neg (by omega)]
    ·rw[if_neg h64,if_neg h64];by_cases h128:j<128
     ·rw[if_pos h128,if_pos h128]
     ·rw[if_neg h128,if_neg h128,if_neg e];by_cases hl:r<i
      ·rw[if_pos hl,if_pos (by omega)]
      ·rw[if_neg hl,if_neg (by omega)]⟩
  have hcl:((gQ (fo d i) i 64 fun _=>0).calls:Int)=(fo d (i+1)).calls:=by show((d.calls+i+1:Nat):Int)=(d.calls+(i+1):Nat);omega
  have hn2:(gQ (fo d i) i 64 fun _=>0).n=d.n:=rfl;have hn3:d.n<=(gQ (fo d i) i 64 fun _=>0).n:=Nat.le_refl _;refine⟨by simp only[bR];omega,i+1,?_⟩
  and_intros<;>first|exact bY|exact hr|exact hcl|exact hn2|exact hn3|(intro h_;revert h_)|exact bZ|skip
 ·have:i=d.n:=by have:=of_decide_eq_false c;omega
  subst this;have hn:(fo d d.n).n=d.n:=rfl;have hc:(fo d d.n).calls<800000000000:=by show d.calls+d.n<_;omega
  refine⟨Ya.mk 0 (fo d d.n),?_⟩;dsimp only;rw[hn]
  and_intros<;>first|exact bY|exact hc|(intro h_;revert h_)|exact bZ|skip
  intro b _;have hok2:Bk ⟨kg 0,b,pX (fo d d.n) 0 (fu CO),H,[],[]⟩:=⟨hok.n,hok.calls,hok.save,hok.k,hok.jr,hok.fl⟩
  refine⟨⟨kg 0,b,pX (fo d d.n) 0 (fu CO),H,[],[]⟩,?_⟩;dsimp only
  and_intros<;>first|exact bY|exact hok2|(intro h_;revert h_)|exact bZ|skip
  rintro q ⟨q1,q2⟩;refine⟨q,?_⟩;have e:kL (sI ⟨d,H⟩)=kL ⟨kg 0,b,pX (fo d d.n) 0 (fu CO),H,[],[]⟩:=rfl;rw[e]
  and_intros<;>first|exact bY|exact q1|exact q2|(intro h_;revert h_)|exact bZ|skip)
theorem N8:au (Y Tryz.prog).G.X 46 zS:=aU fF N7 ⟨qo,RW,callParts,trivial⟩
def mg(s:mu)(ks:List ByteArray):mu:={ s with d:=(iE s.jr ks).d,jL:=(iE s.jr ks).L,ms:=(iE s.jr ks).ms }
def P0(s:mu)(ks:List ByteArray):mu:={ s with d:=(ov s.fl ks).d,cL:=(ov s.fl ks).L,cl:=(ov s.fl ks).l }
def kM(s:mu)(ks:List ByteArray):mu:=if fT ks then P0 (mg s ks) ks else s
structure xU where
 s:mu
 p:vl
 ks:List ByteArray
 kc:Nat
structure Bl(a:xU):Prop where
 n:a.ks.length<1000
 jr:fT a.ks=true->∀p,ct p.H p.y a.s.jL->a.s.ms.length<=p.cap->Gv.pre ⟨a.s.jr,p,a.ks,a.kc⟩
 fl:fT a.ks=true->∀p,jH (mg a.s a.ks).fl p->IY.pre ⟨(mg a.s a.ks).fl,p,a.ks,a.kc⟩
noncomputable def Vy:cG where
 α:=xU
 β:=vl
 m:=15
 m':=18
 pre:=fun a=>pY a.s a.p/\Bl a
 args:=fun a=>[.a (.ptr 0 0 0 0),.a (.slc 14 0 1 a.ks.length a.kc)]
 hp:=fun a=>xz 0 1 2 3 4 5 6 7 8 9 10 11 12 13 a.s a.p
 ro:=fun a=>[(14,.arr 9 [.str] a.ks.length (aa jZ a.ks))]
 post:=fun a b=>pY (kM a.s a.ks) b/\Eu a.p.H (bB a.p.cy) (bB a.p.jy) b
 res:=fun a _=>.ng [.a (.int .i64 (if fT a.ks then iD (iE a.s.jr a.ks).ms else 0)),.a (.int .i64 (if fT a.ks then 0 else 1))]
 cR:=fun a b=>xz 0 1 2 3 4 5 15 7 16 9 10 11 12 17 (kM a.s a.ks) b
def aaT(a:xU):An:=.flat 4 Nat (fun s i=>s.int 15 i) (fun _ i=>i<=a.ks.length/\∀j,j<i->dN (gl a.ks j)=true) (fun _ i=>a.ks.length-i)
def Z1(a:xU):An:=.mk 9 Unit (fun s _=>s) (fun _ _=>fT a.ks=true) (fun _ _=>0) fun _=>.mk 1000 [] []
noncomputable def Yd:List (Nat×cG):=[(86,MW),(134,Gv),(135,IY)]
def Jq(v y:mu)(u z:vl)(w:bG)(s:List fq)(t:Nat)(f:b8)(g:iL)(h:Prop):=aA (ag (v.bN=y.bN/\aA (gi v.cL y.cL u.cy z.cy (gP w y.d (zQ u.x z.x u.xc z.xc (ag (wv s y.ms t z.jc (gi f y.jL g z.jy (ag (Er v.k y.k u.kc z.kc h))))))))))
def Bm(x:xU)(y:vl):=pY (kM x.s x.ks) y/\Eu x.p.H (bB x.p.cy) (bB x.p.jy) y
def N9(f:Int)(x:xU)(g:Int)(w:sY)(z:pV)(u:qj)(t:LA):=∃v:vl,f=yT x.ks x.s.jr/\g=iC (fT x.ks)/\w.H=v.H/\aA (ag (x.s.bN=(kM x.s x.ks).bN/\wB (ov z.m z.ks) (kM x.s x.ks) w v (ov z.m z.ks).d (iE u.m u.ks).ms t.cap (iE u.m u.ks).L t.y x.s.k x.p.kc (Bm x v/\True)))
def Jr(x:xU)(y:Prop):=vU (bh (bl x.ks) x.kc/\aA (ag (wA x.s x.s x.p x.p (x.p.H=x.p.H/\pK x.ks/\y))))
def Ew(x y:List ByteArray)(z:ByteArray->List Value):=aG (bl x) (bl y) 1 (aa z y) (aa z x)
theorem Vz:fnBody (Y Tryz.prog) Yd 89 Vy fun a=>[(89,[aaT a],[Z1 a])]:=fnBody.of (p :=
 ∀z:xU,pY z.s z.p/\Bl z->I3 z.ks z.kc (fun u=>Jr z ((u<=bl z.ks/\ri u z.ks)/\True)) (∃u:vl,(0:Int)=yT z.ks z.s.jr/\(1:Int)=iC (fT z.ks)/\z.p.H=u.H/\aA (ag (wA z.s (kM z.s z.ks) z.p u (Bm z u/\True)))) (fun u w=>Jr z (dD w (bl z.ks) (ri w z.ks) u)) (Jr z (aC (fT z.ks)/\True)) (∃u:qj,fc (ag (bl z.ks=bl u.ks/\z.kc=u.kc)) (wv z.s.ms u.m.ms z.p.jc u.p.cap (gi z.s.jL u.m.L z.p.jy u.p.y (gP z.s.d u.m.d (z.p.H=u.p.H/\Ew u.ks z.ks jZ/\Jc u/\∀w:LA,Ej w (iE u.m u.ks) u->aD (iC (fT u.ks) != (0:Int)) (∃v:vl,(0:Int)=yT z.ks z.s.jr/\iC (fT u.ks)=iC (fT z.ks)/\w.H=v.H/\Jq z.s (kM z.s z.ks) z.p v (iE u.m u.ks).d (iE u.m u.ks).ms w.cap (iE u.m u.ks).L w.y (Bm z v/\True)) (∃v:pV,ag (ag (bl z.ks=bl v.ks/\z.kc=v.cap)/\oW z.s.cL v.m z.p.cy v.p (iE u.m u.ks).d z.p.x z.p.xc (w.H=v.p.H) (Ew v.ks z.ks jZ/\I1 v/\∀t:sY,jH (ov v.m v.ks) t/\vk v.p t->aD (iC (fT v.ks) != (0:Int)) (N9 0 z (iC (fT v.ks)) t v u w) (N9 (yT u.ks u.m) z 0 t v u w)))))))))) (by kernel_rfl) (by
 delta aD eF ah ai bF aG ay ax bn dm aK aY af bl bf gA aC aR fc dV aB jD fe dD oW wB bD aP bK bH ku bh Jc iC bM aT az fS Jq N9 Ej Jr ag ri aA I1 Bm pK yT bq aQ dh gX I3 gi Ew cm ee vU
 try dsimp -iota -proj only
 rintro⟨s,p,ks,kc⟩ ⟨hat,hok⟩;dsimp only at *;have hkn:=hok.n;dsimp only at hkn;have no:fT ks=false->kM s ks=s:=fun e=>if_neg (by rw[e];decide);have bad:∀i,i<ks.length->dN (gl ks i)=false->fT ks=false:=fun i hi h=>by
  rw[Bool.eq_false_iff];intro ha;have:=List.all_eq_true.1 ha (gl ks i) (by rw[bL hi];exact List.getElem_mem _);rw[h]at this;cases this
 have h0:∀j,j<0->dN (gl ks j)=true:=fun j hj=>absurd hj (Nat.not_lt_zero j);have hfr0:Eu p.H (bB p.cy) (bB p.jy) p:=fun z _ h1 h2=>⟨rfl,h1,h2⟩
 refine⟨⟨⟨0,?_⟩,fun i hi=>?_⟩,fun _ hK=>?_⟩
 ·and_intros<;>first|exact bY|exact h0|(intro h_;revert h_)|exact bZ|skip
 ·obtain⟨hi,hall⟩:=hi;rw[show 0+(i:Int).toNat=i by omega];refine⟨fun c1=>?_,fun c1=>⟨(),?_⟩⟩
  ·have hlt:i<ks.length:=by have:=of_decide_eq_true c1;omega
   refine⟨⟨by omega,by omega⟩,hlt,gl ks i,rfl,trivial,fun _ _=>⟨fun c2=>?_,fun c2=>⟨by simp only[bR];omega,i+1,?_⟩⟩⟩
   ·have hn:=bad i hlt (by simpa using c2);rw[no hn,hn];refine⟨p,?_⟩
    and_intros<;>first|exact bY|exact hat|exact hfr0|(intro h_;revert h_)|exact bZ|skip
   ·have hk:dN (gl ks i)=true:=by simpa using c2
    have h1:∀j,j<i+1->dN (gl ks j)=true:=fun j hj=>by
     by_cases e:j=i
     ·rw[e];exact hk
     ·exact hall j (by omega)
    and_intros<;>first|exact bY|exact h1|(intro h_;revert h_)|exact bZ|skip
  ·have hi':i=ks.length:=by have:=of_decide_eq_false c1;omega
   have ha:fT ks=true:=List.all_eq_true.2 fun k hk=>by
    obtain⟨j,hj,rfl⟩:=List.getElem_of_mem hk;rw[<- bL hj];exact hall j (by omega)
   and_intros<;>first|exact bY|exact ha|(intro h_;revert h_)|exact bZ|skip
 have hks:kM s ks=P0 (mg s ks) ks:=if_pos hK;obtain⟨hf,hl,hsep,hcap⟩:=hat;obtain⟨q1,q2,q3,q4,q5,q6⟩:=hok.jr hK p.jr hl hcap;have q6:=q6 hK;have sep2:∀z,z∈bB p.cy->z∉bB p.jy:=fun z h1 h2=>hsep z h2 h1;refine⟨qj.mk s.jr p.jr ks kc,?_⟩;dsimp only[mu.jr,vl.jr]at q1 q2 q3 q4 q5 q6 ⊢
 and_intros<;>first|exact bY|exact q1|exact q2|exact q3|exact q4|exact q5|exact fun _=>q6|(intro h_;revert h_)|exact bZ|skip
 rintro⟨H1,y1,c1⟩ ⟨hl1,hf1,hcp⟩;dsimp only at hl1 hf1 hcp ⊢;have hfc:jH (mg s ks).fl ⟨H1,p.cy,p.x,p.xc⟩:=⟨hf.log.frame fun z hz=>(hf1 z (hf.log.dom z hz) (sep2 z hz)).1,hf.idx⟩
 obtain⟨r1,r2,r3⟩:=hok.fl hK ⟨H1,p.cy,p.x,p.xc⟩ hfc;have r3:=r3 hK;rw[hK];refine⟨fun c=>absurd c (by decide),fun _=>⟨pV.mk (mg s ks).fl ⟨H1,p.cy,p.x,p.xc⟩ ks kc,?_⟩⟩;dsimp only[mu.fl]at r1 r2 r3 ⊢
 and_intros<;>first|exact bY|exact r1|exact r2|exact fun _=>r3|(intro h_;revert h_)|exact bZ|skip
 rintro⟨H2,y2,x2,xc2⟩ ⟨hat2,hf2⟩;dsimp only at hat2 hf2 ⊢;rw[hK,hks];refine⟨fun c=>absurd c (by decide),fun _=>⟨⟨H2,y2,x2,xc2,y1,c1,p.kc⟩,?_⟩⟩;have sep3:∀z,z∈bB y1->z∉bB p.cy:=fun z h1 h2=>(hf1 z (hf.log.dom z h2) (sep2 z h2)).2 h1;have hat3:pY (P0 (mg s ks) ks) ⟨H2,y2,x2,xc2,y1,c1,p.kc⟩:=⟨hat2,hl1.frame fun z hz=>(hf2 z (hl1.dom z hz) (sep3 z hz)).1,fun z hz=>(hf2 z (hl1.dom z hz) (sep3 z hz)).2,hcp⟩
 have hfr:Eu p.H (bB p.cy) (bB p.jy) ⟨H2,y2,x2,xc2,y1,c1,p.kc⟩:=fun z hz n1 n2=>by
  obtain⟨a1,a2⟩:=hf1 z hz n2;have a1:H1 z=p.H z:=a1;obtain⟨b1,b2⟩:=hf2 z (by show H1 z≠none;rw[a1];exact hz) n1;exact⟨b1.trans a1,b2,a2⟩
 and_intros<;>first|exact bY|exact hat3|exact hfr|(intro h_;revert h_)|exact bZ|skip)
theorem VA:au (Y Tryz.prog).G.X 89 Vy:=aU fF Vz ⟨zF,Vk,RF,trivial⟩
theorem B2{f g:Nat->Int}:∀ {n:Nat},(∀k,k<n->f k=g k)->kE f n=kE g n
 |0,_=>rfl
 |n+1,h=>by
  simp only[kE];rw[B2 fun k hk=>h k (by omega),h n (by omega)]
theorem Ye{a b:Nat}(ha:a<2^56)(hb:b<256):dL .or .u64 (uw .u64 ((a:Int)*2^8)) b=((a*256+b:Nat):Int):=by
 have e1:uw .u64 ((a:Int)*2^8)=((a*256:Nat):Int):=by simp only[uw];omega
 rw[e1,K4 _ _ (by omega) (by omega)];have:=Nat.two_pow_add_eq_or_of_lt (i:=8) (b:=b) hb a;rw[Nat.mul_comm a 256];show((2^8*a ||| b:Nat):Int)=((2^8*a+b:Nat):Int)
 rw[this]
theorem LF{v:Nat}{len:Nat}(hl:len<=8)(hv:v<256^len):∀k,k<=len->kE (fun k=>Kp v len k) k=((v/256^(len-k):Nat):Int)
 |0,_=>by simp[kE,Nat.div_eq_of_lt hv]
 |k+1,hk=>by
  have ih:=LF hl hv k (by omega);simp only[kE];rw[ih];have eb:Kp v len k=((v/256^(len-(k+1))%256:Nat):Int):=by
   have e2:(2:Int)^(8*(len-1-k))=((256^(len-(k+1)):Nat):Int):=by
    rw[Int.natCast_pow,show len-1-k=len-(k+1)by omega,Int.pow_mul];rfl
   simp only[Kp,uw];rw[e2];omega
  rw[eb];have e3:256^(len-k)=256^(len-(k+1))*256:=by rw[show len-k=len-(k+1)+1 by omega,Nat.pow_succ]
  have e4:v/256^(len-k)=v/256^(len-(k+1))/256:=by rw[e3,Nat.div_div_eq_div_mul]
  have hlt:v/256^(len-k)<2^56:=by
   have h1:v/256^(len-k)<256^k:=Nat.div_lt_of_lt_mul (by rw[<- Nat.pow_add,show len-k+k=len by omega];exact hv);have h2:256^k<=256^7:=Nat.pow_le_pow_right (by decide) (by omega);exact Nat.lt_of_lt_of_le h1 h2
  rw[Ye hlt (Nat.mod_lt _ (by decide)),e4];congr 1;omega
theorem aaU{f:Nat->Int}{v r len:Nat}(hl:len<=8)(hv:v<256^len)(hf:∀k,k<len->f (r+k)=Kp v len k):gB f r len=v:=by
 unfold gB;rw[B2 hf,LF hl hv len (Nat.le_refl _)];simp
theorem P3{r len:Nat}{f:Nat->Int}(hl:len<=8)(hf:∀k,k<len->f (r+k)=0):gB f r len=0 :=
 aaU (v:=0) hl (Nat.pow_pos (by decide)) fun k hk=>by rw[hf k hk];simp[Kp,uw]
theorem B3{f g:Nat->Int}:∀ {n:Nat},(∀k,k<n->f k=g k)->rP f n=rP g n
 |0,_=>rfl
 |n+1,h=>by
  simp only[rP];rw[B3 fun k hk=>h k (by omega),h n (by omega)]
theorem Ex{f g:Nat->Int}(h:∀k,4<=k->k<64->f k=g k):xG f=xG g:=by
 unfold xG;rw[B3 fun k hk=>h (4+k) (by omega) (by omega)]
theorem RZ:xG (fun _=>0)≠0:=by decide +kernel
theorem take_zero{g:dJ}{i:Nat}{f:Nat->Int}(hf:∀k,k<64->f k=0):gv g i f=false:=by
 unfold gv;have h1:xG f=xG fun _=>0:=Ex fun k _ hk=>hf k hk;have h2:gB f 0 4=0:=P3 (by omega) fun k hk=>hf _ (by omega);have:(xG f == gB f 0 4)=false:=by
  rw[h1,h2,beq_eq_false_iff_ne];exact RZ
 rw[this];rfl
theorem P4{L:b8}{d:bG}{k:Nat}(h:∀i,i<8->∀j,j<64->xH L d k i j=0):Up L d k/\nZ L d k=none/\∀i,i<=8->(lQ L d k i).run=if i=0 then L.run else max L.run 1:=by
 have hgB:∀i,i<8->uw .i64 (gB (xH L d k i) 10 4)=0:=fun i hi=>by
  rw[P3 (by omega) fun j hj=>h i hi _ (by omega)];rfl
 have key:∀i,i<=8->(0<i->(lQ L d k i).ok=false/\(lQ L d k i).g.gen=0)/\(lQ L d k i).run=if i=0 then L.run else max L.run 1:=by
  intro i
  induction i with
  |zero=>exact fun _=>⟨fun h=>absurd h (Nat.lt_irrefl 0),rfl⟩
  |succ i ih =>
   intro hi;obtain⟨h1,h2⟩:=ih (by omega);obtain⟨R,hR⟩:∃R,R=lQ L d k i:=⟨_,rfl⟩
   have hst:lQ L d k (i+1)=rdStep R i (xH L d k i):=by rw[hR];rfl
   rw[<- hR]at h1 h2;have hz:=take_zero (g:=R.g) (i:=i) (h i (by omega));rw[hst];refine⟨fun _=>⟨by simp only[rdStep,hz,Bool.and_false],?_⟩,?_⟩
   ·simp only[rdStep,hz,Bool.and_false,Bool.not_false,Bool.true_and];by_cases h0:i=0
    ·rw[if_pos (by simpa using h0)]
    ·rw[if_neg (by simpa using h0),(h1 (by omega)).1];exact(h1 (by omega)).2
   ·simp only[rdStep,hgB i (by omega),h2];rw[if_neg (Nat.succ_ne_zero i)];split<;>omega
 refine⟨⟨fun i hi=>by rw[hgB i hi];omega,fun i hi _ hB=>?_⟩,?_,fun i hi=>(key i hi).2⟩
 ·rw[take_zero (h i hi)]at hB;cases hB
 ·unfold nZ;rw[((key 8 (Nat.le_refl _)).1 (by omega)).2,if_pos (.inl (by omega))]
def ru(r:RecM):List Int:=K9 r.body.length r.pos++r.body
def eL(rs:List RecM):List Int:=rs.flatMap ru
structure VB(r:RecM):Prop where
 len:1<=r.body.length/\r.body.length<=300
 pos:0<=r.pos/\r.pos<140737488355328
theorem Yg(n:Nat)(p:Int):(K9 n p).length=8:=rfl
theorem xA(r:RecM):(ru r).length=8+r.body.length:=by simp[ru,Yg]
theorem xB:∀(rs:List RecM),(∀r∈rs,VB r)->rs.length*9<=(eL rs).length
 |[],_=>Nat.zero_le _
 |r::rs,h=>by
  have ih:=xB rs fun x hx=>h x (List.mem_cons_of_mem _ hx);have:=(h r List.mem_cons_self).len;show(rs.length+1)*9<=(ru r++eL rs).length;rw[List.length_append,xA];omega
theorem mP(rs:List RecM)(r:RecM):eL (rs++[r])=eL rs++ru r:=by simp[eL]
structure zT(fr sg:Nat)(o:Option dJ)(run:Int)(d:bG):Prop where
 sec:∀i,i<8->∀j,j<64->d.now (fr+i) j=match o with|none=>0|some g=>if cw i<g.buf.length then qs g i run j else 0
 rest:∀r,fr+8<=r->r<fr+sg*8->∀j,j<64->d.now r j=0
theorem zT.far{fr sg k:Nat}{o:Option dJ}{run:Int}{d:bG}(h:zT fr sg o run d)(hk:1<=k)(hk2:k<sg){L:b8}(hL:L.from_=fr):∀i,i<8->∀j,j<64->xH L d k i j=0:=fun i hi j hj=>by
 unfold xH;rw[hL];exact h.rest _ (by omega) (by omega) j hj
theorem GB{fr sg:Nat}{run:Int}{d:bG}(h:zT fr sg none run d)(h3:3<=sg/\sg<=200)(hr:fr+sg*8<=d.n)(hn:d.n<100000):sF fr sg d/\cV fr sg d=⟨fr,sg,[],1,1,true⟩:=by
 have hz:∀k,k<sg->∀(L:b8),L.from_=fr->∀i,i<8->∀j,j<64->xH L d k i j=0:=fun k hk L hL i hi j hj=>by
  by_cases h0:k=0
  ·subst h0;unfold xH;rw[hL,Nat.zero_mul,Nat.add_zero];exact h.sec i hi j hj
  ·exact h.far (by omega) hk hL i hi j hj
 have key:∀k,k<=sg->qt fr sg d k=⟨fr,sg,[],1,1,true⟩:=by
  intro k
  induction k with
  |zero=>exact fun _=>rfl
  |succ k ih =>
   intro hk;have ih:=ih (by omega);obtain⟨_,e2,e3⟩:=P4 (hz k (by omega) ⟨fr,sg,[],1,1,true⟩ rfl);show { qt fr sg d k with l:=(qt fr sg d k).l++(nZ (qt fr sg d k) d k).toList,run:=(lQ (qt fr sg d k) d k 8).run }=_;rw[ih,e2,e3 8 (Nat.le_refl _)];rfl
 refine⟨⟨h3,hr,hn,fun k hk=>?_,?_,?_⟩,?_⟩
 ·rw[key k (by omega)];exact(P4 (hz k hk ⟨fr,sg,[],1,1,true⟩ rfl)).1
 ·rw[key sg (Nat.le_refl _)];exact Nat.zero_le _
 ·rw[key sg (Nat.le_refl _)];exact fun i hi=>absurd hi (Nat.not_lt_zero i)
 ·unfold cV;rw[key sg (Nat.le_refl _)];rfl
theorem R3{g g':dJ}{e:List Int}{i:Nat}{run:Int}(h1:g'.gen=g.gen)(h2:g'.base=g.base)(hb:g'.buf=g.buf++e)(hs:cw (i+1)<=g.buf.length):∀j,j<64->rG g i run j=rG g' i run j:=fun j hj=>by
 have hst:cw (i+1)=cw i+kX i:=by unfold cw kX;split<;>omega
 have u1:uY g.buf.length i=kX i:=by simp only[uY];omega
 have u2:uY g'.buf.length i=kX i:=by rw[hb];simp only[uY,List.length_append];omega
 have hgl:∀k,k<kX i->gl g'.buf (cw i+k)=gl g.buf (cw i+k):=fun k hk=>by rw[hb,bV (by omega)]
 simp only[rG,h1,h2,u1,u2];by_cases h0:i=0
 ·subst h0;have hr:kX 0=42:=rfl;have hs0:cw 0=0:=rfl;rw[hr,hs0]at hgl;simp only[hr,if_true]
  (repeat' split)<;>first|rfl|(exfalso;omega)|skip
  have:=hgl (j-22) (by assumption);rw[Nat.zero_add]at this;exact this.symm
 ·simp only[if_neg h0]
  (repeat' split)<;>first|rfl|(exfalso;omega)|skip
  exact(hgl _ (by assumption)).symm
theorem R4{g g':dJ}{e:List Int}{i:Nat}{run:Int}(h1:g'.gen=g.gen)(h2:g'.base=g.base)(hb:g'.buf=g.buf++e)(hs:cw (i+1)<=g.buf.length):∀j,j<64->qs g i run j=qs g' i run j:=fun j hj=>by
 have h:=R3 (run:=run) h1 h2 hb hs;unfold qs;rw[Ex fun k _ hk=>h k hk,h j hj]
theorem uD{L:b8}{g:dJ}{was:Nat}{d:bG}(hg:(g.gen-1).toNat%L.av=0):∀n r j,j<64 ->
 (dw L g was d n).now r j=if ∃i,i<n/\r=L.from_+i/\u0 was g.buf.length i=true then qs g (r-L.from_) L.run j else d.now r j
 |0,r,j,_=>by rw[if_neg (by rintro⟨i,hi,_⟩;omega)];rfl
 |n+1,r,j,hj=>by
  have ih:=uD (L:=L) (g:=g) (was:=was) (d:=d) hg n r j hj;have hsn:kH L g n=L.from_+n:=by unfold kH;rw[hg,Nat.zero_mul,Nat.add_zero]
  unfold dw;by_cases hc:u0 was g.buf.length n=true
  ·rw[if_pos hc];show(if r=kH L g n/\j<64 then _ else _)=_;rw[hsn];by_cases hr:r=L.from_+n
   ·rw[if_pos ⟨hr,hj⟩,if_pos ⟨n,Nat.lt_succ_self n,hr,hc⟩,hr,Nat.add_sub_cancel_left]
   ·rw[if_neg (fun e=>hr e.1),ih];congr 1;rw[eq_iff_iff];constructor
    ·rintro⟨i,h1,h2,h3⟩;exact⟨i,by omega,h2,h3⟩
    ·rintro⟨i,h1,h2,h3⟩;by_cases e:i=n
     ·subst e;exact absurd h2 hr
     ·exact⟨i,by omega,h2,h3⟩
  ·rw[if_neg hc,ih];congr 1;rw[eq_iff_iff];constructor
   ·rintro⟨i,h1,h2,h3⟩;exact⟨i,by omega,h2,h3⟩
   ·rintro⟨i,h1,h2,h3⟩;by_cases e:i=n
    ·subst e;exact absurd h3 hc
    ·exact⟨i,by omega,h2,h3⟩
theorem Js{rs:List RecM}{r:RecM}(h:nF rs)(h1:∀x∈rs,x.pos<r.pos)(h2:0<=r.pos/\r.pos<1000000000000):nF (rs++[r]):=by
 have hl:(rs++[r]).length=rs.length+1:=by simp
 refine⟨fun i j hij hj=>?_,fun i hi=>?_⟩
 ·rw[hl]at hj;rw[lq (by omega),lq hj,if_pos (by omega)];split
  ·exact h.lt i j hij (by assumption)
  ·exact h1 _ (by rw[bL (by omega)];exact List.getElem_mem _)
 ·rw[hl]at hi;rw[lq hi];split
  ·exact h.Cj i (by assumption)
  ·exact h2
def FE(base:Int):List RecM->List dJ
 |[]=>[]
 |r::rs=>[⟨1,base,0,eL (r::rs),r::rs⟩]
theorem P5{base:Int}{rs:List RecM}(h:rs≠[]):FE base rs=[⟨1,base,0,eL rs,rs⟩]:=by
 cases rs with
 |nil=>exact absurd rfl h
 |cons r rs=>rfl
theorem VC(base:Int)(rs:List RecM):gT (FE base rs)=rs:=by
 cases rs<;>simp[FE,gT]
structure iF(L:b8)(d:bG)(n:Nat)(rs:List RecM):Prop where
 av:3<=L.av/\L.av<=200
 room:L.from_+L.av*8<=d.n
 size:d.n<100000
 calls:d.calls<=n
 next:1<=L.next/\L.next<10000000000
 run:0<=L.run/\L.run<4294967296
 good:∀r∈rs,VB r/\r.pos<L.next
 sort:nF rs
 fits:(eL rs).length<=378
 Kq:∃base,0<=base/\base<100000000000/\L.l=FE base rs
 dev:zT L.from_ L.av L.l.head? L.run d
theorem iF.Y3{L:b8}{d:bG}{n:Nat}{rs:List RecM}(h:iF L d n rs)(hn:n<900000000000):vT L d:=by
 obtain⟨base,b1,b2,hl⟩:=h.Kq;have h9:=xB rs fun r hr=>(h.good r hr).1;have hf:=h.fits;have hc:=h.calls;have hx:=h.next
 have at_:∀i,i<L.l.length->gl L.l i=⟨1,base,0,eL rs,rs⟩:=fun i hi=>by
  rw[hl]at hi ⊢;cases rs with
  |nil=>exact absurd hi (Nat.not_lt_zero i)
  |cons r rs =>
   have:i=0:=by simpa[FE]using hi
   subst this;rfl
 refine⟨?_,h.av,h.room,h.size,by omega,by omega,fun i hi=>?_,fun i hi=>?_,fun i hi=>?_⟩
 ·rw[hl];cases rs<;>simp[FE]
 ·rw[at_ i hi];show(1:Int)<=1/\(1:Int)<100000000000;omega
 ·rw[at_ i hi];exact hf
 ·rw[at_ i hi];exact h9
theorem iF.flush{L:b8}{d:bG}{n:Nat}{rs:List RecM}(h:iF L d n rs):iF L (gR d) (n+1) rs :=
 ⟨h.av,h.room,h.size,Nat.succ_le_succ h.calls,h.next,h.run,h.good,h.sort,h.fits,h.Kq,⟨h.dev.sec,h.dev.rest⟩⟩
theorem iF.need{L:b8}{d:bG}{n:Nat}{rs:List RecM}(h:iF L d n rs){k:Nat}(hk:(eL rs).length+8+k<=378):rT L k=decide (rs=[]):=by
 obtain⟨base,b1,b2,hl⟩:=h.Kq;unfold rT kJ;rw[hl];cases rs with
 |nil=>simp[FE]
 |cons r rs =>
  have:¬370<(eL (r::rs)).length+k:=by omega
  simp[FE,gl,this]
theorem iF.append{L:b8}{d:bG}{n:Nat}{rs:List RecM}(h:iF L d n rs){body:List Int}(hb:1<=body.length/\body.length<=300)(hx:L.next<9999999999)(hfit:(eL rs).length+8+body.length<=378) :
 iF (mK L body) (oT L d body) (n+20) (rs++[⟨L.next,body⟩])/\(mK L body).next=L.next+1/\(mK L body).av=L.av/\(mK L body).from_=L.from_:=by
 obtain⟨base,b1,b2,hl⟩:=h.Kq;have hneed:=h.need hfit;have hsegs:=h.av;have hroom:=h.room;have hnx:=h.next
 obtain⟨r,hr⟩:∃r:RecM,r=⟨L.next,body⟩:=⟨_,rfl⟩
 have hrb:ru r=K9 body.length L.next++body:=by rw[hr];rfl
 have hgr:VB r:=by rw[hr];exact⟨hb,by show 0<=L.next;omega,by show L.next<140737488355328;omega⟩
 have hbl:(eL (rs++[r])).length=(eL rs).length+8+body.length:=by
  rw[mP,List.length_append,xA,hr];show(eL rs).length+(8+body.length)=_;omega
 obtain⟨L1,hL1⟩:∃L1,L1=dr L body.length:=⟨_,rfl⟩
 obtain⟨d1,hd1⟩:∃d1,d1=lz L d body.length:=⟨_,rfl⟩
 have key:∃base',0<=base'/\base'<100000000000/\L1.l=[⟨1,base',0,eL rs,rs⟩]/\L1.from_=L.from_/\L1.av=L.av/\L1.next=L.next/\L1.run=L.run/\L1.fresh=L.fresh/\d1.n=d.n/\d1.calls<=d.calls+2 /\
  (∀i,i<8->∀j,j<64->(rs=[]/\i=0)\/d1.now (L.from_+i) j=if cw i<(eL rs).length then qs ⟨1,base',0,eL rs,rs⟩ i L.run j else 0)/\∀q,L.from_+8<=q->∀j,d1.now q j=d.now q j:=by
  by_cases he:rs=[]
  ·subst he;have hn:rT L body.length=true:=by rw[hneed];rfl
   have e1:L1=jG L:=by rw[hL1];exact if_pos hn
   have e2:d1=uj L d:=by rw[hd1];exact if_pos hn
   have e3:L.l=[]:=by rw[hl];rfl
   have e4:bx L=⟨1,L.next,0,[],[]⟩:=by unfold bx;rw[e3];rfl
   have e5:kH L (bx L) 0=L.from_:=by rw[e4];simp[kH]
   refine⟨L.next,by omega,by omega,?_,by rw[e1];rfl,by rw[e1];rfl,by rw[e1];rfl,by rw[e1];rfl,by rw[e1];rfl,by rw[e2];rfl,by rw[e2];exact Nat.le_refl _,fun i hi j hj=>?_,fun q hq j=>?_⟩
   ·rw[e1];show uZ L++[bx L]=_;rw[show uZ L=[]by unfold uZ;rw[e3];rfl,e4];rfl
   ·by_cases h0:i=0
    ·exact .inl ⟨rfl,h0⟩
    ·right;rw[e2,if_neg (by simp[eL])];show(if L.from_+i=kH L (bx L) 0/\j<64 then _ else d.now (L.from_+i) j)=0;rw[e5,if_neg (by omega),h.dev.sec i hi j hj,e3];rfl
   ·rw[e2];show(if q=kH L (bx L) 0/\j<64 then _ else d.now q j)=_;rw[e5,if_neg (by omega)]
  ·have hn:rT L body.length=false:=by rw[hneed];exact decide_eq_false he
   have e1:L1=L:=by rw[hL1];exact if_neg (by rw[hn];decide)
   have e2:d1=d:=by rw[hd1];exact if_neg (by rw[hn];decide)
   rw[P5 he]at hl;refine⟨base,b1,b2,by rw[e1,hl],by rw[e1],by rw[e1],by rw[e1],by rw[e1],by rw[e1],by rw[e2],by rw[e2];omega,fun i hi j hj=>?_,fun q hq j=>by rw[e2]⟩;right;rw[e2,h.dev.sec i hi j hj,hl];rfl
 obtain⟨base',c1,c2,k1,k2,k3,k4,k5,k6,k7,k8,k9,k10⟩:=key;have hA:mK L body=Lb L1 body:=by rw[hL1];rfl
 have hlast:kJ L1=⟨1,base',0,eL rs,rs⟩:=by unfold kJ;rw[k1];rfl
 obtain⟨g',hg'⟩:∃g':dJ,g'=⟨1,base',0,eL (rs++[r]),rs++[r]⟩:=⟨_,rfl⟩
 have hbuf:sB ⟨1,base',0,eL rs,rs⟩ L.next body=eL (rs++[r]):=by
  rw[mP,hrb];simp[sB,List.append_assoc]
 have hl2:(mK L body).l=[g']:=by
  rw[hA];show L1.l.set (L1.l.length-1) (Nd (kJ L1) L1.next body)=_;rw[hlast,k1,k4];simp only[Nd,hbuf,hg',hr];rfl
 have hnx2:(mK L body).next=L.next+1:=by rw[hA];show L1.next+1=_;rw[k4]
 have hfr2:(mK L body).from_=L.from_:=by rw[hA];exact k2
 have hsg2:(mK L body).av=L.av:=by rw[hA];exact k3
 have hrn2:(mK L body).run=L.run:=by rw[hA];exact k5
 obtain⟨gw,hgw⟩:∃gw,gw=La (kJ L1) L1.next body:=⟨_,rfl⟩
 have hgw1:gw=⟨1,base',0,eL (rs++[r]),rs⟩:=by rw[hgw,hlast,k4];simp only[La,hbuf]
 have hsec:∀i j,qs gw i L.run j=qs g' i L.run j:=fun i j=>by rw[hgw1,hg'];rfl
 have hD2:rU L1 d1 body=dw L1 gw (eL rs).length d1 8:=by unfold rU;rw[<- hgw,hlast]
 have hmod:(gw.gen-1).toNat%L1.av=0:=by rw[hgw1];simp
 obtain⟨w1,w2⟩:=uo L1 gw (eL rs).length d1 8;have hnow:∀q j,(oT L d body).now q j=(rU L1 d1 body).now q j:=fun q j=>by
  unfold oT;rw[<- hL1,<- hd1];split<;>rfl
 have hdn:(oT L d body).n=d.n/\(oT L d body).calls<=d.calls+11:=by
  unfold oT;rw[<- hL1,<- hd1,hD2];split
  ·simp only[gR];omega
  ·omega
 have hgl:gw.buf.length=(eL rs).length+8+body.length:=by rw[hgw1];exact hbl
 refine⟨⟨by rw[hsg2];exact hsegs,by rw[hfr2,hsg2,hdn.1];exact hroom,by rw[hdn.1];exact h.size,by have:=h.calls;omega,by rw[hnx2];omega,by rw[hrn2];exact h.run,?_,?_,?_,?_,?_⟩,hnx2,hsg2,hfr2⟩
 ·rw[hnx2,<- hr];intro x hx;rcases List.mem_append.1 hx with hx|hx
  ·have:=h.good x hx;exact⟨this.1,by omega⟩
  ·have:x=r:=by simpa using hx
   rw[this];refine⟨hgr,?_⟩;rw[hr];show L.next<L.next+1;omega
 ·rw[<- hr];refine Js h.sort (fun x hx=>?_) (by rw[hr];show 0<=L.next/\L.next<1000000000000;omega);rw[hr];exact(h.good x hx).2
 ·rw[<- hr,hbl];exact hfit
 ·refine⟨base',c1,c2,?_⟩;rw[hl2,<- hr,P5 (by simp),hg']
 ·rw[hl2,hfr2,hsg2,hrn2];refine⟨fun i hi j hj=>?_,fun q hq hq2 j hj=>?_⟩
  ·rw[hnow,hD2,uD hmod 8 _ j hj,k2,k5,Nat.add_sub_cancel_left,hsec];have hg'l:g'.buf.length=(eL rs).length+8+body.length:=by rw[hg'];exact hbl
   show _=if cw i<g'.buf.length then qs g' i L.run j else 0;by_cases hs:cw i<g'.buf.length
   ·rw[if_pos hs];by_cases hc:(eL rs).length<cw (i+1)
    ·rw[if_pos ⟨i,hi,rfl,by simp only[u0,Bool.and_eq_true,decide_eq_true_eq];exact⟨hc,by rw[hgl,<- hg'l];exact hs⟩⟩]
    ·rw[if_neg]
     ·have hlt:cw i<(eL rs).length:=by unfold cw at *;omega
      rcases k9 i hi j hj with⟨e,e0⟩|e
      ·subst e;simp[eL]at hlt
      ·rw[e,if_pos hlt];exact R4 (e:=ru r) (by rw[hg']) (by rw[hg']) (by rw[hg'];exact mP rs r) (show cw (i+1)<=(eL rs).length by omega) j hj
     ·rintro⟨i',_,e,hcc⟩;have:i'=i:=by omega
      subst this;simp only[u0,Bool.and_eq_true,decide_eq_true_eq]at hcc;exact hc hcc.1
   ·rw[if_neg hs,if_neg]
    ·rcases k9 i hi j hj with⟨e,e0⟩|e
     ·subst e0;exact absurd (show cw 0<g'.buf.length by rw[hg'l];show 0<_;omega) hs
     ·rw[e,if_neg (by omega)]
    ·rintro⟨i',_,e,hcc⟩;have:i'=i:=by omega
     subst this;simp only[u0,Bool.and_eq_true,decide_eq_true_eq]at hcc;omega
  ·rw[hnow,hD2,uD hmod 8 _ j hj,k2,if_neg (by rintro⟨i',_,e,_⟩;omega),k10 q hq];exact h.dev.rest q hq hq2 j hj
theorem o7{rs:List RecM}:nF rs↔rs.Pairwise (fun a b=>a.pos<b.pos)/\∀r∈rs,0<=r.pos/\r.pos<1000000000000:=by
 constructor
 ·rintro⟨h1,h2⟩;refine⟨?_,fun r hr=>?_⟩
  ·rw[List.pairwise_iff_getElem];intro i j hi hj hij;have:=h1 i j hij hj;rwa[bL hi,bL hj]at this
  ·obtain⟨i,hi,rfl⟩:=List.getElem_of_mem hr;have:=h2 i hi;rwa[bL hi]at this
 ·rintro⟨h1,h2⟩;refine⟨fun i j hij hj=>?_,fun i hi=>?_⟩
  ·rw[bL (show i<rs.length by omega),bL hj];exact List.pairwise_iff_getElem.1 h1 i j (by omega) hj hij
  ·rw[bL hi];exact h2 _ (List.getElem_mem _)
theorem LG:∀ {rs:List RecM} {r:RecM},rs.Pairwise (fun a b=>a.pos<b.pos)->r∈rs->xQ rs r.pos=some r.body
 |[],_,_,h=>by cases h
 |a::rs,r,hp,h=>by
  rw[List.pairwise_cons]at hp;by_cases e:a.pos=r.pos
  ·have:a=r:=by
    rcases List.mem_cons.1 h with h|h
    ·exact h.symm
    ·have:=hp.1 r h;omega
   subst this;simp[xQ]
  ·have hm:r∈rs:=by
    rcases List.mem_cons.1 h with h|h
    ·exact absurd (by rw[h]) e
    ·exact h
   have:=LG hp.2 hm;unfold xQ at this ⊢;rw[List.find?_cons];simp only[e,decide_false];exact this
theorem Oa{rs:List RecM}{p:Int}(h:∀r∈rs,r.pos≠p):xQ rs p=none:=by
 unfold xQ;rw[Option.map_eq_none_iff,List.find?_eq_none];intro r hr;simpa using h r hr
theorem LI:∀ {l:List dJ} {r:RecM},(gT l).Pairwise (fun a b=>a.pos<b.pos)->r∈gT l->gL l r.pos=some r.body
 |[],_,_,h=>by cases h
 |g::l,r,hp,h=>by
  have e:gT (g::l)=g.aV++gT l:=rfl;rw[e]at hp h;rw[List.pairwise_append]at hp;simp only[gL,List.findSome?_cons];by_cases hg:r∈g.aV
  ·rw[LG hp.1 hg]
  ·have hm:r∈gT l:=(List.mem_append.1 h).resolve_left hg;rw[Oa fun x hx=>by have:=hp.2.2 x hx r hm;omega];exact LI hp.2.1 hm
theorem GC:∀(l:List dJ) (next:Int),jx l next=match gT l with | []=>next|r::_=>r.pos
 |[],_=>rfl
 |g::l,next=>by
  have e:gT (g::l)=g.aV++gT l:=rfl;rw[e];cases hr:g.aV with
  |nil =>
   rw[List.nil_append];have:=GC l next
   unfold jx at this ⊢;rw[List.find?_cons,hr];exact this
  |cons r rs =>
   unfold jx;rw[List.find?_cons,hr];simp[gl,hr]
structure zU(L:b8)(rs:List RecM):Prop where
 all:gT L.l=rs
 zG:L.l.length<1000
 sort:nF rs
 body:∀r∈rs,1<=r.body.length/\r.body.length<=300
 seg:∀i,i<L.l.length->(gl L.l i).aV.length<=400
theorem iF.rd{L:b8}{d:bG}{n:Nat}{rs:List RecM}(h:iF L d n rs):zU L rs:=by
 obtain⟨base,_,_,hl⟩:=h.Kq;have h9:=xB rs fun r hr=>(h.good r hr).1;have hf:=h.fits;refine⟨by rw[hl,VC],?_,h.sort,fun r hr=>(h.good r hr).1.len,fun i hi=>?_⟩
 ·rw[hl];cases rs<;>simp[FE]
 ·rw[hl]at hi ⊢;cases rs with
  |nil=>exact absurd hi (Nat.not_lt_zero i)
  |cons r rs =>
   have:i=0:=by simpa[FE]using hi
   subst this;show(r::rs).length<=400;omega
theorem zU.first{L:b8}{rs:List RecM}(h:zU L rs){r:RecM}(hr:r∈rs):cM L<=r.pos:=by
 unfold cM;rw[GC,h.all];have hp:=(o7.1 h.sort).1;cases rs with
 |nil=>cases hr
 |cons a rs =>
  show a.pos<=r.pos;rcases List.mem_cons.1 hr with rfl|hr
  ·exact Int.le_refl _
  ·exact Int.le_of_lt ((List.pairwise_cons.1 hp).1 r hr)
def Cq(get:ByteArray->Option aH)(k:ByteArray)(r:Option aH):ByteArray->Option aH:=fun k'=>if k'=k then r else get k'
structure tw(m:oN)(rs:List RecM)(get:ByteArray->Option aH):Prop where
 rd:zU m.L rs
 pos:∀e∈m.l,∃x,get e.1=some x/\x.key=e.1/\gh x=true/\(⟨e.2,aL (some x)⟩:RecM)∈rs
 all:∀k,get k≠none->k∈m.l.map Prod.fst
theorem zU.av{L:b8}{rs:List RecM}(h:zU L rs)(i:Nat)(hi:i<L.l.length):nF (gl L.l i).aV/\(gl L.l i).aV.length<=400/\∀k,k<(gl L.l i).aV.length->1<=(gl (gl L.l i).aV k).body.length/\(gl (gl L.l i).aV k).body.length<=1000:=by
 obtain⟨hs1,hs2⟩:=o7.1 h.sort;refine⟨?_,h.seg i hi,fun k hk=>?_⟩
 ·have hm:gl L.l i∈L.l:=by rw[bL hi];exact List.getElem_mem _
  have hsub:(gl L.l i).aV.Sublist rs:=by rw[<- h.all];exact vS (f:=fun g:dJ=>g.aV) hm
  exact o7.2 ⟨hs1.sublist hsub,fun r hr=>hs2 r (hsub.subset hr)⟩
 ·obtain⟨j,hj,e⟩:=I4 hi hk;rw[h.all]at hj e;have:=h.body (gl rs j) (by rw[bL hj];exact List.getElem_mem _);rw[e]at this;omega
theorem tw.abD{m:oN}{rs:List RecM}{get:ByteArray->Option aH}(h:tw m rs get):RC m:=⟨h.rd.zG,h.rd.av,fun e he=>by
 obtain⟨x,_,_,_,hx⟩:=h.pos e he;exact(o7.1 h.rd.sort).2 _ hx⟩
theorem tw.iq{m:oN}{rs:List RecM}{get:ByteArray->Option aH}(h:tw m rs get)(k:ByteArray):Ef m k (get k):=by
 have hs:=(o7.1 h.rd.sort).1;cases hg:get k with
 |none =>
  left;intro hm;obtain⟨e,he,rfl⟩:=List.mem_map.1 hm;obtain⟨x,h1,_⟩:=h.pos e he;rw[hg]at h1;cases h1
 |some x =>
  obtain⟨e,he,rfl⟩:=List.mem_map.1 (h.all k (by rw[hg];simp));obtain⟨x',h1,_,h3,h4⟩:=h.pos e he;rw[hg]at h1;cases h1;rw[<- h.rd.all]at hs h4;exact⟨e.2,he,LI hs h4,h3⟩
theorem tw.keep{m:oN}{rs:List RecM}{get:ByteArray->Option aH}(h:tw m rs get){L':b8}{rs':List RecM}(hL:zU L' rs')(hs:∀r∈rs,r∈rs'):(m.l.filter fun e=>decide (cM L'<=e.2))=m.l:=by
 rw[List.filter_eq_self];intro e he;obtain⟨x,_,_,_,hx⟩:=h.pos e he;simpa using hL.first (hs _ hx)
theorem xC{l:List (ByteArray×Int)}{k:ByteArray}{e:ByteArray×Int}:e∈mV l k↔e∈l/\e.1≠k:=by
 unfold mV;rw[List.mem_filter];simp
theorem tw.put{m:oN}{rs:List RecM}{get:ByteArray->Option aH}(h:tw m rs get){L':b8}{d':bG}{p:Int}{x:aH}(hx:gh x=true)(hL:zU L' (rs++[⟨p,aL (some x)⟩])) :
 tw ⟨L',d',FD m.l x.key p⟩ (rs++[⟨p,aL (some x)⟩]) (Cq get x.key (some x)):=by
 refine⟨hL,fun e he=>?_,fun k hk=>?_⟩
 ·rcases List.mem_cons.1 he with rfl|he
  ·exact⟨x,if_pos rfl,rfl,hx,by simp⟩
  ·obtain⟨he,hne⟩:=xC.1 he;obtain⟨x',h1,h2,h3,h4⟩:=h.pos e he;exact⟨x',by unfold Cq;rw[if_neg hne];exact h1,h2,h3,List.mem_append_left _ h4⟩
 ·by_cases e:k=x.key
  ·subst e;exact List.mem_map.2 ⟨(x.key,p),List.mem_cons_self,rfl⟩
  ·have hk:get k≠none:=by unfold Cq at hk;rwa[if_neg e]at hk
   obtain⟨q,hq,rfl⟩:=List.mem_map.1 (h.all k hk);exact List.mem_map.2 ⟨q,List.mem_cons_of_mem _ (xC.2 ⟨hq,e⟩),rfl⟩
theorem tw.drop{m:oN}{rs:List RecM}{get:ByteArray->Option aH}(h:tw m rs get){L':b8}{d':bG}{k0:ByteArray}{r:RecM}(hL:zU L' (rs++[r])) :
 tw ⟨L',d',mV m.l k0⟩ (rs++[r]) (Cq get k0 none):=by
 refine⟨hL,fun e he=>?_,fun k hk=>?_⟩
 ·obtain⟨he,hne⟩:=xC.1 he;obtain⟨x',h1,h2,h3,h4⟩:=h.pos e he;exact⟨x',by unfold Cq;rw[if_neg hne];exact h1,h2,h3,List.mem_append_left _ h4⟩
 ·by_cases e:k=k0
  ·subst e;exact absurd (if_pos rfl) hk
  ·have hk:get k≠none:=by unfold Cq at hk;rwa[if_neg e]at hk
   obtain⟨q,hq,rfl⟩:=List.mem_map.1 (h.all k hk);exact List.mem_map.2 ⟨q,xC.2 ⟨hq,e⟩,rfl⟩
structure rW(m:oN)(n:Nat)(rs:List RecM)(get:ByteArray->Option aH):Prop where
 log:iF m.L m.d n rs
 has:tw m rs get
 zG:m.l.length<=rs.length
theorem iF.len{L:b8}{d:bG}{n:Nat}{rs:List RecM}(h:iF L d n rs):rs.length<=42:=by
 have h9:=xB rs fun r hr=>(h.good r hr).1;have:=h.fits;omega
theorem rW.ok{m:oN}{n k:Nat}{rs:List RecM}{get:ByteArray->Option aH}(h:rW m n rs get)(hn:n<900000000000)(hk:(eL rs).length+8+k<=378):uC m k:=by
 exact⟨h.log.Y3 hn,by have:=h.zG;have:=h.log.len;omega⟩
theorem rW.add{m:oN}{n:Nat}{rs:List RecM}{get:ByteArray->Option aH}(h:rW m n rs get){body:List Int}(hb:1<=body.length/\body.length<=300)(hx:m.L.next<9999999999)(hfit:(eL rs).length+8+body.length<=378) :
 iF (iM m body).L (iM m body).d (n+20) (rs++[⟨m.L.next,body⟩])/\(iM m body).L.next=m.L.next+1/\(iM m body).l=m.l/\(iM m body).L.av=m.L.av/\(iM m body).L.from_=m.L.from_:=by
 obtain⟨h1,h2,h3,h4⟩:=h.log.append hb hx hfit;exact⟨h1,h2,h.has.keep h1.rd fun r hr=>List.mem_append_left _ hr,h3,h4⟩
theorem rW.put{m:oN}{n:Nat}{rs:List RecM}{get:ByteArray->Option aH}(h:rW m n rs get){x:aH}(hx:kK x=true)(hn:m.L.next<9999999999)(hfit:(eL rs).length+8+(aL (some x)).length<=378) :
 rW (ou m x) (n+20) (rs++[⟨m.L.next,aL (some x)⟩]) (Cq get x.key (some x))/\(ou m x).L.next=m.L.next+1/\(ou m x).L.av=m.L.av/\(ou m x).L.from_=m.L.from_:=by
 have hm:gh x=true:=by unfold kK at hx;simp only[Bool.and_eq_true]at hx;exact hx.1
 obtain⟨b1,b2⟩:=mO (o:=some x) fun z e=>by cases e;exact hm
 obtain⟨h1,h2,h3,h4,h5⟩:=h.add ⟨b1,by omega⟩ hn hfit;have hF:ou m x=⟨(iM m (aL (some x))).L,(iM m (aL (some x))).d,FD m.l x.key m.L.next⟩:=by
  unfold ou;rw[if_pos hx,h3]
 rw[hF];refine⟨⟨h1,h.has.put hm h1.rd,?_⟩,h2,h4,h5⟩;have:=Lt m.l x.key m.L.next
 have:=h.zG;show(FD m.l x.key m.L.next).length<=_;rw[List.length_append,List.length_singleton];omega
theorem rW.drop{m:oN}{n:Nat}{rs:List RecM}{get:ByteArray->Option aH}(h:rW m n rs get){k:ByteArray}(hk:dN k=true)(hn:m.L.next<9999999999)(hfit:(eL rs).length+8+(aL (some (jd k))).length<=378) :
 rW (o4 m k) (n+20) (rs++[⟨m.L.next,aL (some (jd k))⟩]) (Cq get k none)/\(o4 m k).L.next=m.L.next+1/\(o4 m k).L.av=m.L.av/\(o4 m k).L.from_=m.L.from_:=by
 obtain⟨b1,b2⟩:=mO (o:=some (jd k)) fun z e=>by cases e;exact A9 hk
 obtain⟨h1,h2,h3,h4,h5⟩:=h.add ⟨b1,by omega⟩ hn hfit;have hF:o4 m k=⟨(iM m (aL (some (jd k)))).L,(iM m (aL (some (jd k)))).d,mV m.l k⟩:=by
  unfold o4;rw[h3]
 rw[hF];refine⟨⟨h1,h.has.drop h1.rd,?_⟩,h2,h4,h5⟩;have:=Gs m.l k;have:=h.zG;show(mV m.l k).length<=_;rw[List.length_append,List.length_singleton];omega
def newF(fr sg:Nat)(d:bG):oN:=⟨⟨fr,sg,[],1,1,true⟩,d,[]⟩
theorem rW.new{fr sg:Nat}{d:bG}{n:Nat}{run:Int}(h3:3<=sg/\sg<=200)(hr:fr+sg*8<=d.n)(hn:d.n<100000)(hc:d.calls<=n)(hd:zT fr sg none run d):rW (newF fr sg d) n [] fun _=>none:=by
 have hl:iF (newF fr sg d).L (newF fr sg d).d n []:=⟨h3,hr,hn,hc,by show(1:Int)<=1/\(1:Int)<10000000000;omega,by show(0:Int)<=1/\(1:Int)<4294967296;omega,fun r hr=>by(cases hr),⟨fun i j _ hj=>absurd hj (Nat.not_lt_zero j),fun i hi=>absurd hi (Nat.not_lt_zero i)⟩,Nat.zero_le _,⟨0,by omega,by omega,rfl⟩,⟨hd.sec,hd.rest⟩⟩
 exact⟨hl,⟨hl.rd,fun e he=>(by cases he),fun k hk=>absurd rfl hk⟩,Nat.le_refl _⟩
end Go.Proofs.YtfjgoonelcaggaaGreat
namespace Go.Proofs
open Go.Shelf
def Tryz.LJ:Go.Shelf.Ren:=⟨fun|190=>227|125=>189|258=>253|128=>224|129=>225|302=>266|303=>267|304=>268|305=>269|306=>270|307=>271|308=>272|309=>273|310=>274|333=>279|329=>240|330=>241|334=>280|335=>281|336=>282|344=>284|n=>n,fun|31=>46|9=>9|3=>3|46=>108|0=>0|51=>299|53=>64|4=>4|183=>316|182=>315|131=>321|5=>5|218=>336|222=>340|228=>354|229=>248|n=>n,fun|n=>n⟩
theorem Tryz.P6:Go.Proofs.Lays.n190 Tryz.prog Tryz.LJ:={
 mixed:=by kernel_rfl
 f125:=Tryz.func189.trans (congrArg some (by kernel_rfl))
 f128:=Tryz.func224.trans (congrArg some (by kernel_rfl))
 f129:=Tryz.func225.trans (congrArg some (by kernel_rfl))
 f190:=Tryz.func227.trans (congrArg some (by kernel_rfl))
 f258:=Tryz.func253.trans (congrArg some (by kernel_rfl))
 f302:=Tryz.func266.trans (congrArg some (by kernel_rfl))
 f303:=Tryz.func267.trans (congrArg some (by kernel_rfl))
 f304:=Tryz.func268.trans (congrArg some (by kernel_rfl))
 f305:=Tryz.func269.trans (congrArg some (by kernel_rfl))
 f306:=Tryz.func270.trans (congrArg some (by kernel_rfl))
 f307:=Tryz.func271.trans (congrArg some (by kernel_rfl))
 f308:=Tryz.func272.trans (congrArg some (by kernel_rfl))
 f309:=Tryz.func273.trans (congrArg some (by kernel_rfl))
 f310:=Tryz.func274.trans (congrArg some (by kernel_rfl))
 f329:=Tryz.func240.trans (congrArg some (by kernel_rfl))
 f330:=Tryz.func241.trans (congrArg some (by kernel_rfl))
 f333:=Tryz.func279.trans (congrArg some (by kernel_rfl))
 f334:=Tryz.func280.trans (congrArg some (by kernel_rfl))
 f335:=Tryz.func281.trans (congrArg some (by kernel_rfl))
 f336:=Tryz.func282.trans (congrArg some (by kernel_rfl))
 f344:=Tryz.func284.trans (congrArg some (by kernel_rfl))
 t0:=Tryz.underlying0
 a0:=Tryz.isAgg0
 z0:=Tryz.sizeOf0
 v0:=Tryz.zeroValue0
 t3:=Tryz.underlying3
 a3:=Tryz.isAgg3
 z3:=Tryz.sizeOf3
 v3:=Tryz.zeroValue3
 t4:=Tryz.underlying4
 a4:=Tryz.isAgg4
 z4:=Tryz.sizeOf4
 v4:=Tryz.zeroValue4
 t5:=Tryz.underlying5
 a5:=Tryz.isAgg5
 z5:=Tryz.sizeOf5
 v5:=Tryz.zeroValue5
 t9:=Tryz.underlying9
 a9:=Tryz.isAgg9
 z9:=Tryz.sizeOf9
 v9:=Tryz.zeroValue9
 t31:=Tryz.underlying46
 a31:=Tryz.isAgg46
 z31:=Tryz.sizeOf46
 v31:=Tryz.zeroValue46
 t46:=Tryz.underlying108
 a46:=Tryz.isAgg108
 z46:=Tryz.sizeOf108
 v46:=Tryz.zeroValue108
 t51:=Tryz.underlying299
 a51:=Tryz.isAgg299
 z51:=Tryz.sizeOf299
 v51:=Tryz.zeroValue299
 t53:=Tryz.underlying64
 a53:=Tryz.isAgg64
 z53:=Tryz.sizeOf64
 v53:=Tryz.zeroValue64
 t131:=Tryz.underlying321
 a131:=Tryz.isAgg321
 z131:=Tryz.sizeOf321
 v131:=Tryz.zeroValue321
 t182:=Tryz.underlying315
 a182:=Tryz.isAgg315
 z182:=Tryz.sizeOf315
 v182:=Tryz.zeroValue315
 t183:=Tryz.underlying316
 a183:=Tryz.isAgg316
 z183:=Tryz.sizeOf316
 v183:=Tryz.zeroValue316
 t218:=Tryz.underlying336
 a218:=Tryz.isAgg336
 z218:=Tryz.sizeOf336
 v218:=Tryz.zeroValue336
 t222:=Tryz.underlying340
 a222:=Tryz.isAgg340
 z222:=Tryz.sizeOf340
 v222:=Tryz.zeroValue340
 t228:=Tryz.underlying354
 a228:=Tryz.isAgg354
 z228:=Tryz.sizeOf354
 v228:=Tryz.zeroValue354
 t229:=Tryz.underlying248
 a229:=Tryz.isAgg248
 z229:=Tryz.sizeOf248
 v229:=Tryz.zeroValue248 }
open Go.Sort Go.RowKit in
theorem Tryz.slices_Sort_string(blk off cap:Nat)(ss:List (List UInt8))(w:World)(hH:Holds encStr w blk off ss.toArray)(hblk:blk<w.heap.size)(hsz:ss.length<4611686018427387904) :
 Calls Tryz.prog 227 #[.slice (some ⟨blk,off,none⟩) ss.length cap] w fun e w' =>
  e = .returned (.tuple #[])/\∃n os,w'=grow (putRow encStr (Sort.ahead w n) blk off (ss.mergeSort fun x y=>decide (x<=y)).toArray) os:=Any.slices_Sort_string Tryz.P6 blk off cap ss w hH hblk hsz
open Go.RowKit Go.Sort in
theorem Tryz.slices_Sort_string_none(p:Option Addr)(cap:Nat)(w:World) :
 Calls Tryz.prog 227 #[.slice p 0 cap] w fun e w'=>e = .returned (.tuple #[])/\w'=w:=Any.slices_Sort_string_none Tryz.P6 p cap w
end Go.Proofs
namespace Go.Sx
section
open Go.Sort
structure P7(β:Type) where
 l:List β
 cap:Nat
def o8{β:Type}[Inhabited β](enc:β->Value)(l:List β):Nat->Nat->Value:=aa (fun x=>[enc x]) l
def zV{β:Type}[Inhabited β](ty:TypeId)(k:CK)(enc:β->Value)(srt:List β->List β):cG where
 α:=P7 β
 β:=Unit
 m:=1
 m':=1
 pre:=fun a=>a.l.length<100000
 args:=fun a=>[.a (.slc 0 0 1 a.l.length a.cap)]
 hp:=fun a=>[(0,.arr ty [k] a.l.length (o8 enc a.l))]
 ro:=fun _=>[]
 post:=fun _ _=>True
 res:=fun _ _=>.ng []
 cR:=fun a _=>[(0,.arr ty [k] a.l.length (o8 enc (srt a.l)))]
theorem B4{β:Type}[Inhabited β]{enc:β->Value}{l:List β}{i:Nat}:o8 enc l i 0=enc (gl l i):=rfl
theorem Jt{β:Type}[Inhabited β]{k:CK}{enc:β->Value}{ty:TypeId}{l:List β}{ρ:Env}{p:Place}{w:World}(h:(Chunk.arr ty [k] l.length (o8 enc l)).Sat ρ p w)(h0:l≠[]) :
 ∃vs ty' fr,w.heap[p.blk]? = some (.cells vs ty' fr)/\p.off+p.N<=vs.size/\l.length<=p.N/\tH p.off (p.off+p.N) fr/\(∀b,p.fp b↔b=p.blk)/\(∀i,i<l.length->vs[p.off+i]? = some (enc (gl l i))):=by
 rcases h with⟨hn,_⟩ | ⟨vs,ty',fr,hb,h1,h2,h3,h4,h5⟩
 ·exact absurd (List.eq_nil_of_length_eq_zero hn) h0
 ·simp only[List.length_singleton,Nat.mul_one]at h1 h3 h5;refine⟨vs,ty',fr,hb,h1,h2,h3,h4,fun i hi=>?_⟩;obtain⟨g1,_⟩:=h5 i hi 0 k rfl;exact g1
theorem VD{β γ:Type}[Inhabited β][Inhabited γ]{X:Cx}{f:Nat}{ty:TypeId}{k:CK}{enc:β->Value}{enc2:γ->Value}{to:β->γ}{srt:List β->List β}{srt2:List γ->List γ}
 (hto:∀x,enc2 (to x)=enc x) (hsrt:∀l,(srt l).map to=srt2 (l.map to)) (hlen:∀l,(srt l).length=l.length) (hin:∀l x,x∈srt l->x∈l)
 (hcall:∀(blk off cap:Nat) (l:List γ) (w:World),Holds enc2 w blk off l.toArray->blk<w.heap.size->l.length<4611686018427387904 ->
  Calls X.P f #[.slice (some ⟨blk,off,none⟩) l.length cap] w fun e w'=>e = .returned (.tuple #[])/\∃n os,w'=grow (putRow enc2 (Sort.ahead w n) blk off (srt2 l).toArray) os)
 (hnone:∀(p:Option Addr) (cap:Nat) (w:World),Calls X.P f #[.slice p 0 cap] w fun e w'=>e = .returned (.tuple #[])/\w'=w) :
 mB X (zV ty k enc srt) f:=by
 intro a hpre M ρ w vs hn hh hargs;obtain⟨l,cap⟩:=a;obtain⟨v,vs',rfl,hv,rfl⟩:=hargs;obtain⟨hT,hlc,hcm,hv⟩:=hv;have he:=hh.iq ⟨0,true,.arr ty [k] l.length (o8 enc l)⟩ (by simp[xg,zV]);have hsat:=he.ch;simp only at hsat hlc hcm hv hT;by_cases h0:l=[]
 ·subst h0;have hs:srt []=[]:=List.eq_nil_of_length_eq_zero (hlen []);have hcalls:Calls X.P f #[v] w fun e w'=>e = .returned (.tuple #[])/\w'=w:=by
   rcases hv with⟨_,h2,rfl⟩ | ⟨o,rfl,_⟩
   ·exact hnone none 0 w
   ·exact hnone (some _) cap w
  refine hcalls.mono ?_;rintro e w' ⟨rfl,rfl⟩;refine⟨_,rfl,(),ρ,trivial,hn,fun _ _=>rfl,⟨[],rfl,rfl⟩,?_⟩;show aj w' M ρ (xg [(0,.arr ty [k] ([]:List β).length (o8 enc (srt [])))]) w';rw[hs];have:(xg ((zV ty k enc srt).hp ⟨[],cap⟩)++Fv ((zV ty k enc srt).ro ⟨[],cap⟩))=xg [(0,.arr ty [k] ([]:List β).length (o8 enc []))]:=by simp[zV,Fv,xg]
  rw[this]at hh;exact hh
 ·obtain⟨vs0,ty',fr,hb,h1,h2,h3,h4,h5⟩:=Jt hsat h0;have hpos:l.length≠0:=fun h=>h0 (List.eq_nil_of_length_eq_zero h);have hlt:(ρ.pl 0).blk<w.heap.size:=he.lt _ ((h4 _).2 rfl);rcases hv with⟨g1,_,_⟩ | ⟨o,rfl,ho⟩
  ·exact absurd g1 hpos
  obtain⟨rfl,_⟩:=ho (by omega);simp only[Nat.add_zero,Nat.mul_one]at *;have hHolds:Holds enc2 w (ρ.pl 0).blk (ρ.pl 0).off (l.map to).toArray:=by
   intro j hj;simp only[List.size_toArray,List.length_map]at hj;refine⟨?_,?_⟩
   ·simp only[World.cell?,hb];rw[h5 j hj,getElem!_pos _ j (by simpa using hj)];simp[hto,bL hj]
   ·simp only[World.frozen?,hb];have:=h3 ((ρ.pl 0).off+j) (by omega) (by omega);obtain⟨lo,hi⟩:=fr;simpa using this
  have hcalls:=hcall (ρ.pl 0).blk (ρ.pl 0).off cap (l.map to) w hHolds hlt (by rw[List.length_map];have:l.length<100000:=hpre;omega);rw[List.length_map]at hcalls;refine hcalls.mono ?_;rintro e w' ⟨rfl,n,os,rfl⟩;refine⟨_,rfl,(),ρ,trivial,hn,fun _ _=>rfl,⟨[],rfl,rfl⟩,?_⟩;have hsz:(srt2 (l.map to)).length=l.length:=by rw[<- hsrt,List.length_map,hlen]
  have hheap:∀b,b<w.heap.size->(grow (putRow enc2 (Sort.ahead w n) (ρ.pl 0).blk (ρ.pl 0).off (srt2 (l.map to)).toArray) os).heap[b]? = (w.heap.modify (ρ.pl 0).blk (onCells (putCells enc2 (ρ.pl 0).off (srt2 (l.map to)).toArray)))[b]?:=by
   intro b hb';rw[heap_grow_old _ _ (by simpa using hb')];rfl
  have hblk:(grow (putRow enc2 (Sort.ahead w n) (ρ.pl 0).blk (ρ.pl 0).off (srt2 (l.map to)).toArray) os).heap[(ρ.pl 0).blk]? = some (.cells (putCells enc2 (ρ.pl 0).off (srt2 (l.map to)).toArray vs0) ty' fr):=by
   rw[hheap _ hlt,Array.getElem?_modify,if_pos rfl,hb];rfl
  have hoth:∀b,b<w.heap.size->b≠(ρ.pl 0).blk->(grow (putRow enc2 (Sort.ahead w n) (ρ.pl 0).blk (ρ.pl 0).off (srt2 (l.map to)).toArray) os).heap[b]? = w.heap[b]?:=by
   intro b hb' hne;rw[hheap b hb',Array.getElem?_modify,if_neg (fun h=>hne h.symm)]
  refine⟨⟨rfl,rfl,rfl,?_,fun b hb' hm=>?_,fun ad had=>?_⟩,?_,?_⟩
  ·simp
  ·exact hoth b hb' fun e=>hm (he.own rfl b ((h4 b).2 e) hb')
  ·rw[frozen?_grow _ _ _ (by simpa using had),frozen?_putRow,frozen?_ahead]
  ·intro e' he';have:e'=⟨0,true,.arr ty [k] l.length (o8 enc (srt l))⟩:=by simpa[xg,zV]using he'
   subst this;refine⟨he.tag,?_,fun b hb'=>?_,he.own⟩
   ·refine .inr ⟨_,ty',fr,hblk,?_,h2,?_,h4,fun i hi j k' hj=>?_⟩
    ·simpa[putCells]using h1
    ·simpa using h3
    ·have hj0:j=0:=by
      cases j with
      |zero=>rfl
      |succ j=>simp at hj
     subst hj0;have hk:k'=k:=by simpa using hj.symm
     subst hk;have hi':i<(srt l).length:=by rw[hlen];exact hi
     have hmem:gl (srt l) i∈l:=hin l _ (ym hi');refine⟨?_,?_⟩
     ·simp only[List.length_singleton,Nat.mul_one,Nat.add_zero,putCells,Array.getElem?_mapIdx,h5 i hi,Option.map_some];rw[if_pos ⟨by omega,by simp;omega⟩,show(ρ.pl 0).off+i-(ρ.pl 0).off=i by omega];rw[getElem!_pos _ i (by simp;omega)];have:(srt2 (l.map to))[i]'(by omega)=to (gl (srt l) i):=by
       simp only[<- hsrt,List.getElem_map,bL hi']
      simp[this,hto,B4]
     ·obtain⟨i0,hi0,e0⟩:=List.getElem_of_mem hmem;rcases hsat with⟨hn0,_⟩ | ⟨vs1,ty1,fr1,hb1,_,_,_,_,h6⟩
      ·omega
      ·obtain⟨_,g2⟩:=h6 i0 hi0 0 k' rfl;rw[B4]at g2 ⊢;rw[<- e0,<- bL hi0];exact g2
   ·have:=he.lt b hb';simp;omega
  ·simp[xg,zV]
end
end Go.Sx
