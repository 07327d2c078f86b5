/-
  
-/
import Derived.Test.YtfjgoonelcaggaaGreatNodeNoneP3
import Derived.Test.YtfjgoonelcaggaaGreatNodeNoneP2
import Derived.Shelf.Sort.Plain
import Derived.Shelf.Slices.In.SortNone
import Derived.Test.YtfjgoonelcaggaaGreatProg
import Derived.Sort.Grow
set_option maxRecDepth 100000
set_option maxHeartbeats 4000000
set_option linter.unusedVariables false
set_option linter.unusedSimpArgs false
namespace Go.Proofs.YtfjgoonelcaggaaGreat
open Go.Sx
def oM(from_ au:Nat)(d:bw):Nat->bL
 |0=>⟨from_,au,[],1,1,true⟩
 |k+1=>{ oM from_ au d k with l:=(oM from_ au d k).l++(mQ (oM from_ au d k) d k).toList,run:=(kF (oM from_ au d k) d k 8).run }
def Gv(l:List dw):Int:=match l.getLast? with
 |none=>1
 |some g=>match g.aO.getLast? with
  |none=>g.base+64
  |some r=>r.pos+65
def cK(from_ au:Nat)(d:bw):bL:={ oM from_ au d au with next:=Gv (oM from_ au d au).l }
structure qI(from_ au:Nat)(d:bw):Prop where
 xL:3<=au/\au<=200
 room:from_+au*8<=d.n
 size:d.n<100000
 rd:∀k,k<au->RW (oM from_ au d k) d k
 one:(oM from_ au d au).l.length<=1
 Az:∀i,i<(oM from_ au d au).l.length->1<=(gl (oM from_ au d au).l i).gen/\0<=(gl (oM from_ au d au).l i).base/\(gl (oM from_ au d au).l i).base<100000000000 /\
  ∀j,j<(gl (oM from_ au d au).l i).aO.length->0<=(gl (gl (oM from_ au d au).l i).aO j).pos/\(gl (gl (oM from_ au d au).l i).aO j).pos<100000000000
theorem I9(from_ au:Nat)(d:bw):∀k,(oM from_ au d k).from_=from_/\(oM from_ au d k).au=au/\(oM from_ au d k).next=1/\(oM from_ au d k).fresh=true
 |0=>⟨rfl,rfl,rfl,rfl⟩
 |k+1=>I9 from_ au d k
theorem Nt{from_ au:Nat}{d:bw}(h:qI from_ au d):∀k,k<=au->0<=(oM from_ au d k).run/\(oM from_ au d k).run<200000000000
 |0,_=>⟨by simp[oM],by simp[oM]⟩
 |k+1,hk=>(Ck (h.rd k (by omega)) (Nt h k (by omega)) 8 (Nat.le_refl _)).run
structure H8 where
 H:PH
 d:bw
 from_:Nat
 au:Nat
structure Ve where
 k:Nat
 H:PH
 y:gT
noncomputable def Gw:cF where
 α:=H8
 β:=mK
 m:=3
 m':=5
 pre:=fun a=>qI a.from_ a.au a.d
 args:=fun a=>[.a (.ptr 0 0 0 0),.a (.int .i64 a.from_),.a (.int .i64 a.au)]
 hp:=fun a=>[(2,.ct a.H)]
 ro:=fun a=>gn 0 1 a.d
 post:=fun a b=>bT b.H b.y (cK a.from_ a.au a.d)/\∀x,a.H x≠none->b.H x=a.H x/\x∉bq b.y
 res:=fun a _=>.lY [.a (.ptr 3 0 0 0),.a (.lit .i64 0)]
 cS:=fun a b=>[(3,fI 0 (cK a.from_ a.au a.d) b.y.lv),(4,.ct b.H)]
def WT(a:H8):An:=.flat 7 Ve (fun s x=>S.ct ((s.at_ (s.tg 8) (fI (s.oQ (s.tg 8) 0) (oM a.from_ a.au a.d x.k) x.y.lv)).int 43 x.k) x.H)
 (fun _ x=>x.k<=a.au/\bT x.H x.y (oM a.from_ a.au a.d x.k)/\∀z,a.H z≠none->x.H z=a.H z/\z∉bq x.y) (fun _ x=>a.au-x.k)
def sC(x:H8)(y:Ve):bL:=oM x.from_ x.au x.d y.k
def Gy(x:Ve)(u:H8):=bT x.H x.y (sC u x)/\∀z:Nat,oo (u.H z) (x.H z) (bq x.y) z
def Ln(x:H8)(u:PH)(z:Ve)(v w:Nat)(s:Value)(t f:Int)(g:Bool)(h:Prop):=aW x.au/\ag (bO (aA (af x.d.n-af x.au*(8:Int)) (af x.from_)) (bp (aR (ax (cC (af x.from_) (af x.au) (u=z.H) (ag (Ca v (sC x z) w s z.y t f g (aW x.au/\fV x.d x.d h))))))))
def Lo(z:Ve)(u:H8)(v:PH)(x:rj)(w:Value):=aP z.k/\∃y:Ve,bx z.k y.k/\Ln u v y x.L.from_ x.L.au w x.L.next (kF x.L x.d x.k 8).run x.L.fresh (dO y.k u.au (Gy y u) z.k)
def wK(x:mK)(z:H8):=bT x.H x.y (cK z.from_ z.au z.d)/\∀u:Nat,oo (z.H u) (x.H u) (bq x.y) u
def Lp(x:H8)(z:Ve)(v:vJ)(w:Int):=∃u:mK,eo (aH 0) (Ca (bL.from_ (sC x z)) (cK x.from_ x.au x.d) (bL.au (sC x z)) v.y.lv u.y (w+(64:Int)) (bL.run (sC x z)) (bL.fresh (sC x z)) (z.H=u.H/\wK u x/\True))
theorem OX:fnBody (Y Tryz.prog) [(205,Lh),(206,Li),(208,vj)] 175 Gw fun a=>[(175,[WT a],[])]:=fnBody.of (p :=
 ∀x:H8,qI x.from_ x.au x.d->me (af x.au) (aA (af x.au) 3) (∃r:mK,False) (gU (aA 200 (af x.au)) (∃r:mK,False) (aA (af x.from_) 0) (ai (af x.au)->ai (af x.au*(8:Int))/\ai (af x.d.n-af x.au*(8:Int))/\bf (af x.d.n-af x.au*(8:Int)) x.from_ (∃B:mK,False) (ai (af x.au)->ai (af x.au)->(∃z:Ve,aK z.k (Ln x x.H z x.from_ x.au fS 1 1 true ((z.k<=x.au/\Gy z x)/\True)))/\∀z:Ve,z.k<=x.au/\Gy z x->bf (af z.k) x.au (∃u:rj,eo (bu z.k u.k) (tf (sC x z) u.L z.y.lv u.lv (z.H=u.H/\fV x.d u.d (Gs u/\∀w:Nr,Cl u.H w (mQ u.L u.d u.k)->(∃t:Option Go.Addr,w.v=Value.pointer t)/\aG (bC (Il w.v)) (Exists (Gb w.H u.lv w.v fun t h j f i=>Lo z x (aM (aJ w.H u.lv) j f i) u (eL j f (t+1) h))) (Lo z x w.H u u.lv))))) (∃u:I8,z.y.lv=u.v/\Cm u.v u.n/\aI (Exists (ga z.y.lv)/\bf 0 (cU z.y.lv) (wD z.y (fun w=>z.H w) fun w m=>∃t:vJ,z.y.lv=t.y.lv/\ax (aQ m w=pv t.gb 0/\af x.au=t.s/\z.H=t.H/\wJ t/\aI (Exists (ic (aQ m w) 1 (fun h=>z.H h) fun h j=>ai (jC (aQ j h)+(64:Int))/\Exists (mq (aQ m w) 4 (fun f=>z.H f) fun f i=>bf 0 (cU (aQ i f)) (Exists (gu (aQ m w) 4 (fun l=>z.H l) (fun l=>dS l) fun l c=>ai (af (cU (aQ i f))-(1:Int)) /\
 Exists (iF (aQ c l) (af (cU (aQ i f))-(1:Int)) fun e A=>∃p q:Nat,pv e (A+aU (af (cU (aQ i f))-(1:Int))*2)=pv p q/\iA p q 0 (fun g=>z.H g) (fun g=>jf g) (fun g o=>True) fun g o=>ai (jC (aQ o g))->mZ (jC (aQ o g)+(1:Int)) 64 (Lp x z t (jC (aQ o g)+(1:Int)))))) (Lp x z t (jC (aQ j h)))))))) (∃w:mK,eo (aH 0) (tf (sC x z) (cK x.from_ x.au x.d) z.y.lv w.y.lv (z.H=w.H/\wK w x/\True))))))))) (by kernel_rfl) (by
 delta aG aQ cC gu ai bt bR aH gq aA cn af bO iA dO bG aF dL aU bn bP eo gU ga aI bz dS gH bp Ca ic wJ fS wD jG Lo wK aP aW iF aK aR bf sC oo ag mZ Gb Gs bx iG ax mq bu Lp Gy bC iH Ln jf me jE
 try dsimp -iota -proj only
 rintro⟨H,d,fr,sg⟩ ok;dsimp only at *;have ok:qI fr sg d:=ok;obtain⟨s1,s2⟩:=ok.xL;have s3:=ok.room;have s4:=ok.size;refine fun _=>⟨fun c=>by exfalso;have:=of_decide_eq_true c;omega,fun _ _=>⟨fun c=>by exfalso;have:=of_decide_eq_true c;omega,fun _=>⟨fun c=>by exfalso;have:=of_decide_eq_true c;omega,fun _ _=>⟨by simp only[bQ];omega,by simp only[bQ];omega,fun c=>by exfalso;have:=of_decide_eq_true c;omega,fun _ _ _=>⟨⟨⟨0,H,⟨.slice none 0 0,[]⟩⟩,?_⟩,?_⟩⟩⟩⟩⟩
 ·have h0:bT H ⟨.slice none 0 0,[]⟩ (oM fr sg d 0):=⟨⟨0,.inl ⟨rfl,rfl,rfl⟩⟩,rfl,fun i hi=>absurd hi (Nat.not_lt_zero i),by simp[fm]⟩
  have h1:∀z,H z≠none->H z=H z/\¬z∈bq ⟨.slice none 0 0,[]⟩:=fun z _=>⟨rfl,by simp[bq,fm]⟩
  and_intros<;>first|exact cT|exact h0|exact h1|rfl|exact fun _ _=>⟨trivial,by simp[bq,fm]⟩
 ·rintro⟨k,X,Y⟩ ⟨hk,hX,hfr⟩;dsimp only at *;obtain⟨e1,_,⟨ea,ec,e2⟩,e3,e5⟩:=hX.qC;obtain⟨m1,m2,m3,m4⟩:=I9 fr sg d k;refine⟨fun c1=>?_,fun c1=>?_⟩
  ·have hk':k<sg:=by have:=of_decide_eq_true c1;omega
   have hrd:=ok.rd k hk';obtain⟨hr1,hr2⟩:=Nt ok k (by omega);have hstep:oM fr sg d (k+1)={ oM fr sg d k with l:=(oM fr sg d k).l++(mQ (oM fr sg d k) d k).toList,run:=(kF (oM fr sg d k) d k 8).run }:=rfl;obtain⟨L,hL⟩:∃L,L=oM fr sg d k:=⟨_,rfl⟩
   rw[<- hL]at hX e1 e2 e3 m1 m2 m3 m4 hrd hr1 hr2 hstep ⊢;refine⟨rj.mk X L Y.lv d k,?_⟩
   and_intros<;>first|exact cT|exact hrd|(dsimp only;omega)|skip
   rintro⟨X1,sl,v⟩ hpost;dsimp only at hpost ⊢;cases hseg:mQ L d k with
   |none =>
    rw[hseg]at hpost;obtain⟨hv,hf⟩:=hpost;dsimp only at hv hf;subst hv;have hX1:bT X1 Y (oM fr sg d (k+1)):=(hX.frame fun x hx=>hf x (hX.dom x hx)).congr (by rw[hstep,hseg];simp);have hz:∀z,H z≠none->X1 z=H z/\¬z∈bq Y:=fun z hz=>by
     obtain⟨a1,a2⟩:=hfr z hz;exact⟨(hf z (by rw[a1];exact hz)).trans a1,a2⟩
    refine⟨⟨_,rfl⟩,fun c=>absurd c (by decide),fun _=>⟨by simp only[bQ];omega,⟨k+1,X1,Y⟩,?_⟩⟩
    and_intros<;>first|exact cT|exact hX1|exact hz|(rw[hstep];done)|rfl|skip
   |some g =>
    rw[hseg]at hpost;obtain⟨hv,hs,hf⟩:=hpost;dsimp only at hv hs hf;subst hv;have hXf:bT X1 Y L:=hX.frame fun x hx=>(hf x (hX.dom x hx)).1;refine⟨⟨_,rfl⟩,fun _=>?_,fun c=>absurd c (show ¬(true=false)by decide)⟩;obtain⟨c0,hsl⟩:=hXf.H7;refine⟨_,c0,_,hsl,?_⟩;have hone:L.l.length<=100000:=by
     have:=ok.xL;have:∀j,(oM fr sg d j).l.length<=j:=fun j=>by
      induction j with
      |zero=>exact Nat.le_refl _
      |succ j ih =>
       show((oM fr sg d j).l++(mQ (oM fr sg d j) d j).toList).length<=_;rw[List.length_append];have:(mQ (oM fr sg d j) d j).toList.length<=1:=by cases mQ (oM fr sg d j) d j<;>simp
       omega
     have:=this k;rw[<- hL]at this;omega
    repeat refine kJ ?_
    intro cap q1 q2 q3
    repeat refine kJ ?_
    intro p1 lo1 cs1 hp1 hl1 hr1;have hpush:=F8 (lo:=lo1) (L':=oM fr sg d (k+1)) hXf hs (fun x hx=>(hf x (hX.dom x hx)).2) hp1 hl1 q1 q2 hr1 (by
     intro i hi;simp only[Nat.zero_add,aX,yS];rw[ko (by rw[hX.len];exact hi),hX.len];by_cases hin:i<L.l.length
     ·rw[if_pos hin,if_pos hin]
     ·rw[if_neg hin,if_neg hin,show i-L.l.length=0 by omega];rfl) (by rw[hstep,hseg];rfl)
    have hz:∀z,H z≠none->aM (aJ X1 Y.lv) p1 lo1 cs1 z=H z/\¬z∈bq ⟨eL p1 lo1 (L.l.length+1) cap,Y.ys++[sl]⟩:=fun z hz=>by
     obtain⟨a1,a2⟩:=hfr z hz;obtain⟨b1,b2⟩:=hf z (by rw[a1];exact hz);obtain⟨c1,c2⟩:=hpush.2 z (by rw[b1,a1];exact hz) a2 b2;exact⟨c1.trans (b1.trans a1),c2⟩
    refine⟨by simp only[bQ];omega,⟨k+1,aM (aJ X1 Y.lv) p1 lo1 cs1,⟨eL p1 lo1 (L.l.length+1) cap,Y.ys++[sl]⟩⟩,?_⟩
    and_intros<;>first|exact cT|exact hpush.1|exact hz|(rw[hstep];done)|rfl|skip
  ·have hk':k=sg:=by have:=of_decide_eq_false c1;omega
   subst hk';have hone:=ok.one;have hrng:=ok.Az;have hM:(cK fr k d).l=(oM fr k d k).l:=rfl;have hM2:(cK fr k d).next=Gv (oM fr k d k).l:=rfl
   have hM3:(cK fr k d).from_=fr/\(cK fr k d).au=k/\(cK fr k d).run=(oM fr k d k).run/\(cK fr k d).fresh=true:=⟨m1,m2,rfl,m4⟩
   obtain⟨L,hL⟩:∃L,L=oM fr k d k:=⟨_,rfl⟩
   rw[<- hL]at hX e1 e2 e3 m1 m2 m3 m4 hone hrng hM hM2 hM3 ⊢;obtain⟨M,hMM⟩:∃M,M=cK fr k d:=⟨_,rfl⟩
   rw[<- hMM]at hM hM2 hM3 ⊢;obtain⟨n1,n2,n3,n4⟩:=hM3;have hXM:bT X Y M:=hX.congr hM;refine⟨I8.mk Y.lv L.l.length,rfl,⟨hone,⟨ea,ec,e2⟩,e5⟩,fun _ _=>⟨⟨ea,_,ec,e2,e3⟩,fun c2=>?_,fun c2=>⟨⟨X,Y⟩,?_⟩⟩⟩
   ·rw[e1]at c2;have hn:0<L.l.length:=by have:=of_decide_eq_true c2;omega
    have hk1:L.l.length-1<L.l.length:=by omega
    obtain⟨b,lo,o,c,cs,g1,g2,g3,g4⟩:=hX.at_ hk1;have hs:=hX.seg _ hk1;obtain⟨r1,r2,r3⟩:=hs.Az;obtain⟨u1,u2,u3,u4⟩:=hrng _ hk1;have hlast:L.l.getLast? = some (gl L.l (L.l.length-1)):=by rw[bN hk1,List.getLast?_eq_getElem?,List.getElem?_eq_getElem hk1]
    have hall:∀i,i<L.l.length->(gl L.l (L.l.length-1)).gen-(k:Int)<(gl L.l i).gen:=fun i hi=>by
     have:i=L.l.length-1:=by omega
     rw[this];omega
    obtain⟨sl,hsl⟩:∃sl,sl=gl Y.ys (L.l.length-1):=⟨_,rfl⟩
    obtain⟨g,hg⟩:∃g,g=gl L.l (L.l.length-1):=⟨_,rfl⟩
    rw[<- hg]at hs r1 r2 r3 u1 u2 u3 u4 hlast hall;rw[<- hsl]at g3 g4 hs;have e6:((L.l.length:Int)-1).toNat=L.l.length-1:=by omega
    rw[e1];refine⟨by simp only[bQ];omega,_,_,_,_,g1,by omega,b,lo,o+(L.l.length-1)*1,cs,by rw[e6,Nat.add_assoc],g2,⟨⟨_,g3,rfl⟩,trivial⟩,vJ.mk X Y L sl.b g.gen k,?_⟩
    and_intros<;>first|exact cT|exact g4|exact hX|exact r1.1|exact r1.2|exact hall|exact⟨_,hs.cell⟩|(dsimp only;omega)|skip
    intro _ _;obtain⟨c9,hrec⟩:=hs.aO;obtain⟨w1,w2,w3,w4,w5,⟨wa,w7⟩,w6⟩:=eR hrec;refine⟨_,_,g4,?_⟩;refine⟨_,_,rfl,?_⟩;refine⟨_,0,_,_,rfl,hs.cell,?_⟩;refine⟨⟨⟨_,rfl,_,rfl,r2⟩,trivial⟩,fun _=>?_⟩;simp only[show jC ((cR g sl.bv sl.rv).getD 1 (Value.tuple #[]))=g.base from rfl];refine⟨by simp only[bQ];omega,_,_,g4,?_⟩;refine⟨_,_,rfl,?_⟩;refine⟨_,0,_,_,rfl,hs.cell,?_⟩;refine⟨⟨⟨_,rfl,w6⟩,trivial⟩,⟨wa,_,_,w7,by omega⟩,?_⟩;simp only[show(cR g sl.bv sl.rv).getD 4 (Value.tuple #[])=sl.rv from rfl,w1];refine⟨fun c3=>?_,fun c3=>⟨⟨X,Y⟩,?_⟩⟩
    ·have hq:0<g.aO.length:=by have:=of_decide_eq_true c3;omega
     have hq1:g.aO.length-1<g.aO.length:=by omega
     have hrl:g.aO.getLast? = some (gl g.aO (g.aO.length-1)):=by rw[bN hq1,List.getLast?_eq_getElem?,List.getElem?_eq_getElem hq1]
     have hnx:M.next=(gl g.aO (g.aO.length-1)).pos+65:=by rw[hM2];simp only[Gv,hlast,hrl]
     obtain⟨b',lo',o',cs',q1,q2,q3,q4,q5,q6,q7,q8⟩:=uf hrec (k:=g.aO.length-1) hq1;obtain⟨p1,p2⟩:=u4 _ hq1;have e7:((g.aO.length:Int)-1).toNat=g.aO.length-1:=by omega
     refine⟨_,_,g4,?_⟩;refine⟨_,_,rfl,?_⟩;refine⟨_,0,_,_,rfl,hs.cell,?_⟩;refine⟨⟨⟨_,rfl,w6⟩,trivial⟩,by simp only[bQ,aq]at *;omega,?_⟩;simp only[show(cR g sl.bv sl.rv).getD 4 (Value.tuple #[])=sl.rv from rfl];refine⟨_,_,_,_,q1,by omega,_,_,rfl,b',lo',o'+(g.aO.length-1)*2,cs',by rw[e7];congr 1;omega,q2,⟨⟨_,q3,_,rfl,q6⟩,trivial⟩,fun _=>?_⟩;rw[q7];simp only[jC];refine⟨by simp only[bQ];omega,by simp only[bQ];omega,⟨X,Y⟩,?_⟩
     and_intros<;>first|exact cT|exact hXM|exact hfr|(rw[n3];done)|(rw[n4,m4];done)|(dsimp only;omega)|skip
    ·have hq:g.aO.length=0:=by have:=of_decide_eq_false c3;omega
     have hrl:g.aO.getLast? = none:=by rw[List.eq_nil_of_length_eq_zero hq];rfl
     have hnx:M.next=g.base+64:=by rw[hM2];simp only[Gv,hlast,hrl]
     and_intros<;>first|exact cT|exact hXM|exact hfr|(rw[n3];done)|(rw[n4,m4];done)|(dsimp only;omega)|skip
   ·rw[e1]at c2;have hn:L.l=[]:=List.eq_nil_of_length_eq_zero (by have:=of_decide_eq_false c2;omega);have hnx:M.next=1:=by rw[hM2,hn];rfl
    and_intros<;>first|exact cT|exact hXM|exact hfr|(rw[n3];done)|(rw[n4,m4];done)|(rw[hnx,m3];done)|(dsimp only;omega)|skip)
theorem Ek:ak (Y Tryz.prog).G.X 175 Gw:=aT fF OX ⟨OU,OW,Lm,trivial⟩
structure Ac(H:PH)(v:Value)(vs:List Value)(rs:List RecM):Prop where
 rows:∃c,jU H v qZ rs.length c (tW rs vs)
 len:vs.length=rs.length
 body:∀i,i<rs.length->fe H (vs.getD i undef) (gl rs i).body
 sep:∀x∈fm v,x∉vs.flatMap fm
theorem WU{vs:List Value}{i x:Nat}(hi:i<vs.length)(hx:x∈fm (vs.getD i undef)):x∈vs.flatMap fm:=by
 refine List.mem_flatMap.2 ⟨_,?_,hx⟩;rw[List.getD_eq_getElem?_getD,List.getElem?_eq_getElem hi];exact List.getElem_mem _
theorem Ac.dom{H:PH}{v:Value}{vs:List Value}{rs:List RecM}(h:Ac H v vs rs):∀x,x∈fm v\/x∈vs.flatMap fm->H x≠none:=by
 rintro x (hx|hx)
 ·obtain⟨c,hr⟩:=h.rows;exact mo hr x hx
 ·obtain⟨u,hu,hx⟩:=List.mem_flatMap.1 hx;obtain⟨i,hi,rfl⟩:=List.getElem_of_mem hu;obtain⟨c,hb⟩:=h.body i (by rw[<- h.len];exact hi);rw[List.getD_eq_getElem?_getD,List.getElem?_eq_getElem hi]at hb;exact mo hb x hx
theorem Ac.push{H:PH}{v:Value}{vs:List Value}{rs:List RecM}{r:RecM}{p3 lo3 p4 lo4 cap3 cap4 n:Nat}{cs3 cs4:List Value}(h:Ac H v vs rs)(hn:n=r.body.length)(hp3:H p3=none)
 (hb:fe (aM H p3 lo3 cs3) (eL p3 lo3 n cap3) r.body) (hp4:aJ (aM H p3 lo3 cs3) v p4=none)
 (hr:jU (aM (aJ (aM H p3 lo3 cs3) v) p4 lo4 cs4) (eL p4 lo4 (rs.length+1) cap4) qZ (rs.length+1) cap4 (tW (rs++[r]) (vs++[eL p3 lo3 n cap3]))) :
 Ac (aM (aJ (aM H p3 lo3 cs3) v) p4 lo4 cs4) (eL p4 lo4 (rs.length+1) cap4) (vs++[eL p3 lo3 n cap3]) (rs++[r]) /\
 ∀z,H z≠none->z∉fm v->z∉vs.flatMap fm->aM (aJ (aM H p3 lo3 cs3) v) p4 lo4 cs4 z=H z/\z∉fm (eL p4 lo4 (rs.length+1) cap4)/\z∉(vs++[eL p3 lo3 n cap3]).flatMap fm:=by
 have hd:=h.dom;have h3:∀z,H z≠none->z≠p3:=fun z hz e=>hz (by rw[e];exact hp3);have h3v:p3∉fm v:=fun e=>hd p3 (.inl e) hp3;have h34:p4≠p3:=fun e=>by rw[e,kn h3v,dB]at hp4;cases hp4
 have hz4:∀z,H z≠none->z∉fm v->z≠p4:=fun z hz hv e=>by
  rw[<- e,kn hv,cw (h3 z hz)]at hp4;exact hz hp4
 have same:∀z,H z≠none->z∉fm v->aM (aJ (aM H p3 lo3 cs3) v) p4 lo4 cs4 z=H z:=fun z hz hv=>by
  rw[cw (hz4 z hz hv),kn hv,cw (h3 z hz)]
 have hvs:∀z∈vs.flatMap fm,z∉fm v:=fun z hz e=>h.sep z e hz;refine⟨⟨⟨cap4,by simpa using hr⟩,by simp[h.len],fun i hi=>?_,fun x hx=>?_⟩,fun z hz hv hs=>⟨same z hz hv,?_,?_⟩⟩
 ·rw[List.length_append,List.length_singleton]at hi;rw[ko hi];by_cases hin:i<rs.length
  ·rw[if_pos hin,List.getD_eq_getElem?_getD,List.getElem?_append_left (by rw[h.len];exact hin),<- List.getD_eq_getElem?_getD];refine(h.body i hin).frame fun x hx=>?_;have hm:=WU (by rw[h.len];exact hin) hx;exact same x (hd x (.inr hm)) (hvs x hm)
  ·rw[if_neg hin];have e1:(vs++[eL p3 lo3 n cap3]).getD i undef=eL p3 lo3 n cap3:=by
    rw[List.getD_eq_getElem?_getD,List.getElem?_append_right (by rw[h.len];omega),show i-vs.length=0 by rw[h.len];omega];rfl
   rw[e1];refine hb.frame fun x hx=>?_;simp only[fm,eL,List.mem_singleton]at hx;rw[hx,cw h34.symm,kn h3v]
 ·simp only[fm,eL,List.mem_singleton]at hx;subst hx;simp only[List.flatMap_append,List.mem_append,not_or];refine⟨fun e=>?_,by simpa[fm,eL]using h34⟩;exact hz4 x (hd x (.inr e)) (hvs x e) rfl
 ·simp only[fm,eL,List.mem_singleton];exact hz4 z hz hv
 ·simp only[List.flatMap_append,List.mem_append,not_or];exact⟨hs,by simpa[fm,eL]using h3 z hz⟩
def fL(l:List dw):List RecM:=l.flatMap (·.aO)
def nh(l:List dw)(i j:Nat):List RecM:=fL (l.take i)++(gl l i).aO.take j
theorem OY{l:List dw}{i j:Nat}(hj:j<(gl l i).aO.length):nh l i (j+1)=nh l i j++[gl (gl l i).aO j]:=by
 unfold nh;rw[oS hj,List.append_assoc]
theorem OZ{l:List dw}{i j:Nat}(hi:i<l.length)(hj:(gl l i).aO.length<=j):nh l i j=fL (l.take (i+1)):=by
 unfold nh fL;rw[flatMap_push hi,List.take_of_length_le hj]
structure sZ where
 H:PH
 y:gT
 L:bL
structure vK where
 H:PH
 v:Value
 vs:List Value
structure rq where
 i:Nat
 j:Nat
 H:PH
 v:Value
 vs:List Value
noncomputable def Nu:cF where
 α:=sZ
 β:=vK
 m:=3
 m':=4
 pre:=fun a=>bT a.H a.y a.L/\a.L.l.length<1000/\∀i,i<a.L.l.length->(gl a.L.l i).aO.length<=400/\∀k,k<(gl a.L.l i).aO.length->1<=(gl (gl a.L.l i).aO k).body.length/\(gl (gl a.L.l i).aO k).body.length<=1000
 args:=fun a=>[.a (.ptr 0 0 0 0)]
 hp:=fun a=>[(1,.ct a.H)]
 ro:=fun a=>[(0,fI 2 a.L a.y.lv)]
 post:=fun a b=>Ac b.H b.v b.vs (fL a.L.l)/\∀z,a.H z≠none->b.H z=a.H z/\z∉fm b.v/\z∉b.vs.flatMap fm
 res:=fun _ b=>.a (.val b.v)
 cS:=fun _ b=>[(3,.ct b.H)]
structure AG(a:sZ)(x:rq)(rs:List RecM):Prop where
 out:Ac x.H x.v x.vs rs
 fr:∀z,a.H z≠none->x.H z=a.H z/\z∉fm x.v/\z∉x.vs.flatMap fm
def WV(a:sZ)(i:Nat):An:=.flat 8 rq (fun s x=>S.ct ((s.set 3 (.a (.val x.v))).int 24 x.j) x.H) (fun _ x=>x.j<=(gl a.L.l i).aO.length/\AG a x (nh a.L.l i x.j)) (fun _ x=>(gl a.L.l i).aO.length-x.j)
def Yi(a:sZ):An:=.mk 5 rq (fun s x=>S.ct ((s.set 3 (.a (.val x.v))).int 15 x.i) x.H) (fun _ x=>x.i<=a.L.l.length/\AG a x (fL (a.L.l.take x.i))) (fun _ x=>a.L.l.length-x.i) fun x=>.mk 60 [WV a x.i] []
noncomputable def y4(x:vK)(z:sZ):=Ac x.H x.v x.vs (fL z.L.l)/\∀y:Nat,z.H y≠none->x.H y=z.H y/\¬y∈fm x.v/\¬y∈List.flatMap fm x.vs
def y5(x:sZ):=bT x.H x.y x.L/\bz x.L<1000/\∀z:Nat,z<bz x.L->wH x.L z
def Lq(u:rq)(x:sZ)(s:PH)(w:rq)(t f:Nat)(g:List Value)(z:rq):=od u.i (cU x.y.lv) (cQ x.y.lv) (bp (eo (aM (aJ s w.v) t f g=z.H) (fc x.L x.y (dO z.j (om x.L u.i) (AG x z (nh x.L.l u.i z.j)) w.j))))
theorem Sb:fnBody (Y Tryz.prog) [] 176 Nu fun a=>[(176,[Yi a],[])]:=fnBody.of (p :=
 ∀x:sZ,y5 x->Exists (ga x.y.lv)/\(∃z:rq,aK z.i (fS=z.v/\jg x.y.lv (bp (eo (x.H=z.H) (fc x.L x.y ((z.i<=bz x.L/\AG x z (fL (List.take z.i x.L.l)))/\True))))))/\∀z:rq,z.i<=bz x.L/\AG x z (fL (List.take z.i x.L.l))->pN z.i x.y.lv 1 (fun w=>z.H w) (fun w=>dS w) (fun w g=>True) (fun w g=>Exists (mq (aQ g w) 4 (fun t=>z.H t) fun t k=>(∃u:rq,aK u.j (z.v=u.v/\jg (aQ k t) (cQ (aQ g w)/\od z.i (cU x.y.lv) (cQ x.y.lv) (bp (eo (z.H=u.H) (fc x.L x.y ((u.j<=om x.L z.i/\AG x u (nh x.L.l z.i u.j))/\True)))))))/\∀u:rq,u.j<=om x.L z.i/\AG x u (nh x.L.l z.i u.j)->ug u.j (aQ k t) (fun s=>u.H s) (fun s o=>ai (jC (aQ o s))->Gm (aQ o (s+1)) u.H u.v (jC (aQ o s)) (fun h p m n q=>aP u.j/\∃f:rq,bx u.j f.j/\eL m n (h+1) p=f.v/\jg (aQ k t) (cQ (aQ g w)/\Lq z x u.H u m n q f)) (fun h=>u.H h) fun h p m n q f c d=>aP u.j/\∃r:rq,bx u.j r.j/\eL f c (n+1) q=r.v/\jg (aQ k t) (cQ (aQ g w)/\Lq z x (aM u.H h p m) u f c d r)) (aP z.i/\∃s:rq,bx z.i s.i/\u.v=s.v/\jg x.y.lv (bp (eo (u.H=s.H) (fc x.L x.y (dO s.i (bz x.L) (AG x s (fL (List.take s.i x.L.l))) z.i))))))) (∃w:vK,z.v=w.v/\z.H=w.H/\y4 w x/\True)) (by kernel_rfl) (by
 delta aG aQ av cC gu ai bt az aH gq aA cn af bO iA dO bG aF dL aU bn bP eo cQ z7 ga pN bz dS bp fc Gm wH fS od jG aP aW ue iF aK y4 bf Cc ug ag jg gJ bx iG y5 mq Lq om jf Cg
 try dsimp -iota -proj only
 rintro⟨H,y,L⟩ ⟨hl,h1,h2⟩;dsimp only at *;obtain⟨e1,_,⟨ea,ec,e2⟩,e3,_⟩:=hl.qC;refine⟨⟨ea,_,ec,e2,e3⟩,⟨⟨0,0,H,.slice none 0 0,[]⟩,?_⟩,fun x hx=>?_⟩
 ·have h0:AG ⟨H,y,L⟩ ⟨0,0,H,.slice none 0 0,[]⟩ (fL (L.l.take 0)):=⟨⟨⟨0,.inl ⟨rfl,rfl,rfl⟩⟩,rfl,fun i hi=>absurd hi (Nat.not_lt_zero i),fun x hx=>by cases hx⟩,fun z _=>⟨rfl,by simp[fm],by simp⟩⟩
  and_intros<;>first|exact cT|exact h0
 ·obtain⟨i,j0,X,v,vs⟩:=x;obtain⟨hi,hI⟩:=hx;dsimp only at hi hI ⊢;rw[e1];refine⟨fun c1=>?_,fun c1=>?_⟩
  ·have hi':i<L.l.length:=by have:=of_decide_eq_true c1;omega
   have hX:bT X y L:=hl.frame fun x hx=>(hI.fr x (hl.dom x hx)).1;obtain⟨b,lo,o,c,cs,g1,g2,g3,g4⟩:=hX.at_ hi';have hs:=hX.seg i hi';obtain⟨c9,hrec⟩:=hs.aO;obtain⟨m1,m2,m3,m4,m5,⟨ma,m7⟩,m6⟩:=eR hrec;obtain⟨hrl,hbl⟩:=h2 i hi';refine⟨_,_,_,_,g1,by omega,b,lo,o+i*1,cs,by rw[Int.toNat_natCast,Nat.add_assoc],g2,⟨⟨_,g3,rfl⟩,trivial⟩,?_⟩;refine⟨_,_,g4,?_⟩;refine⟨_,_,rfl,?_⟩;refine⟨_,0,_,_,rfl,hs.cell,?_⟩;refine⟨⟨⟨_,rfl,m6⟩,trivial⟩,⟨ma,_,_,m7,by omega⟩,?_⟩;simp only[show(cR (gl L.l i) (gl y.ys i).bv (gl y.ys i).rv).getD 4 (Value.tuple #[])=(gl y.ys i).rv from rfl,m1];refine⟨⟨⟨i,0,X,v,vs⟩,?_⟩,fun x2 hx2=>?_⟩
   ·have h0:AG ⟨H,y,L⟩ ⟨i,0,X,v,vs⟩ (nh L.l i 0):=by
     have:nh L.l i 0=fL (L.l.take i):=by simp[nh]
     rw[this];exact⟨hI.out,hI.fr⟩
    and_intros<;>first|exact cT|exact h0
   ·obtain⟨i2,j,X,v,vs⟩:=x2;obtain⟨hj,hJ⟩:=hx2;dsimp only at hj hJ ⊢;have hX:bT X y L:=hl.frame fun x hx=>(hJ.fr x (hl.dom x hx)).1;have hs:=hX.seg i hi';obtain⟨c9,hrec⟩:=hs.aO;have hlen:(nh L.l i j).length<=400400:=by
     have a1:=kE (l:=L.l) (f:=fun g:dw=>g.aO) (m:=400) (fun q hq=>(h2 q hq).1) i (by omega);unfold nh fL;rw[List.length_append,List.length_take];omega
    refine⟨fun c2=>?_,fun c2=>⟨by simp only[bQ];omega,⟨i+1,0,X,v,vs⟩,?_⟩⟩
    ·have hj':j<(gl L.l i).aO.length:=by have:=of_decide_eq_true c2;omega
     obtain⟨b',lo',o',cs',q1,q2,q3,q4,q5,q6,q7,q8⟩:=uf hrec (k:=j) hj';obtain⟨cb,hbody⟩:=hs.body j hj';obtain⟨w1,w2,w3,w4,w5,⟨wa,w7⟩,w6⟩:=eR hbody;obtain⟨hb1,hb2⟩:=hbl j hj';have hnil:Dw ((gl y.ys i).vs.getD j undef)=false:=by
      rcases hbody with⟨_,h0,_⟩ | ⟨b9,lo9,o9,cs9,h9,_⟩
      ·omega
      ·rw[h9];rfl
     refine⟨_,_,_,_,q1,by omega,b',lo',o'+j*2,cs',by rw[Int.toNat_natCast];congr 1;omega,q2,⟨⟨_,q3,_,rfl,q6⟩,⟨_,q4,q5⟩,trivial⟩,fun _=>?_⟩;rw[q7,q8];refine⟨⟨wa,_,_,w7⟩,fun c4=>absurd c4 (by rw[hnil];decide),fun _=>?_⟩
     repeat refine kJ ?_
     refine⟨_,cb,_,hbody,?_⟩;simp only[Nat.zero_add]
     repeat refine kJ ?_
     intro cap3 u1 u2 u3
     repeat refine kJ ?_
     intro p3 lo3 cs3 hp3 hl3 hr3;obtain⟨r,hr⟩:∃r,r=gl (gl L.l i).aO j:=⟨_,rfl⟩
     rw[<- hr]at hbody hb1 hb2 hr3 u1 u3 ⊢;have hCb:fe (aM X p3 lo3 cs3) (eL p3 lo3 r.body.length cap3) r.body:=by
      refine⟨cap3,mw hl3 u1 u2 hr3 fun q hq j hj=>?_⟩;have hj0:j=0:=by simpa using hj
      subst hj0;simp only[aX,Nat.not_lt_zero,if_false,Nat.sub_zero]
     obtain⟨c8,hout⟩:=hJ.out.rows;have hx3:∀x,X x≠none->x≠p3:=fun x hx e=>hx (by rw[e];exact hp3);have hout4:jU (aM X p3 lo3 cs3) v qZ (nh L.l i j).length c8 (tW (nh L.l i j) vs):=iE hout fun x hx=>cw (hx3 x (mo hout x hx));refine⟨_,c8,_,hout4,?_⟩
     repeat refine kJ ?_
     intro cap4 v1 v2 v3
     repeat refine kJ ?_
     intro p4 lo4 cs4 hp4 hl4 hr4;have hvl:vs.length=(nh L.l i j).length:=hJ.out.len;have hr5:jU (aM (aJ (aM X p3 lo3 cs3) v) p4 lo4 cs4) (eL p4 lo4 ((nh L.l i j).length+1) cap4) qZ ((nh L.l i j).length+1) cap4 (tW (nh L.l i j++[r]) (vs++[eL p3 lo3 r.body.length cap3])):=by
      refine mw hl4 v1 v2 hr4 fun q hq j' hj2=>?_;simp only[aX,tW,Nat.zero_add];by_cases hin:q<(nh L.l i j).length
      ·rw[if_pos hin,bJ hin];by_cases hj0:j'=0
       ·rw[if_pos hj0,if_pos hj0]
       ·rw[if_neg hj0,if_neg hj0,List.getD_eq_getElem?_getD,List.getD_eq_getElem?_getD,List.getElem?_append_left (by omega)]
      ·rw[if_neg hin];obtain rfl:q=(nh L.l i j).length:=by omega
       rw[Nat.sub_self];have hj2:j'<2:=hj2
       match j',hj2 with
       |0,_=>rw[if_pos rfl,show(nh L.l i j).length=(nh L.l i j).length+0 from rfl,aY];rfl
       |1,_=>rw[if_neg (by decide),List.getD_eq_getElem?_getD,List.getElem?_append_right (by omega),hvl,Nat.sub_self];rfl
     obtain⟨hO,hF⟩:=hJ.out.push (r:=r) rfl hp3 hCb hp4 hr5;have hN:AG ⟨H,y,L⟩ ⟨i,j+1,aM (aJ (aM X p3 lo3 cs3) v) p4 lo4 cs4,eL p4 lo4 ((nh L.l i j).length+1) cap4,vs++[eL p3 lo3 r.body.length cap3]⟩ (nh L.l i (j+1)):=by
      refine⟨by rw[OY hj',<- hr];exact hO,fun z hz=>?_⟩;obtain⟨a1,a2,a3⟩:=hJ.fr z hz;obtain⟨b1,b2,b3⟩:=hF z (by rw[a1];exact hz) a2 a3;exact⟨b1.trans a1,b2,b3⟩
     refine⟨by simp only[bQ];omega,⟨i,j+1,aM (aJ (aM X p3 lo3 cs3) v) p4 lo4 cs4,eL p4 lo4 ((nh L.l i j).length+1) cap4,vs++[eL p3 lo3 r.body.length cap3]⟩,?_⟩
     and_intros<;>first|exact cT|exact hN
    ·have hj':¬j<(gl L.l i).aO.length:=by have:=of_decide_eq_false c2;omega
     have hN:AG ⟨H,y,L⟩ ⟨i+1,0,X,v,vs⟩ (fL (L.l.take (i+1))):=by
      rw[<- OZ hi' (Nat.le_of_not_lt hj')];exact⟨hJ.out,hJ.fr⟩
     and_intros<;>first|exact cT|exact hN
  ·have hi':i=L.l.length:=by have:=of_decide_eq_false c1;omega
   subst hi';rw[List.take_length]at hI;refine⟨⟨X,v,vs⟩,?_⟩
   and_intros<;>first|exact cT|exact hI.out|exact hI.fr|rfl)
theorem Ja:ak (Y Tryz.prog).G.X 176 Nu:=aT fF Sb trivial
end Go.Proofs.YtfjgoonelcaggaaGreat
namespace Go.Proofs.YtfjgoonelcaggaaGreat.Ix
open Go.Sx
def Nv(a b:Int):Int:=dy .xor .u64 a b
def Qe(a:Int):Int:=uw .u64 a
def Sc(x:Int):Int:=Qe (Nv x (x/1073741824)*13787848793156543929)
def Sd(x:Int):Int:=Qe (Nv x (x/134217728)*10723151780598845931)
def Se(x:Int):Int:=Nv x (x/2147483648)
def pT(x:Int):Int:=Se (Sd (Sc x))
noncomputable def Ad:cF where
 α:=Int
 β:=Unit
 m:=0
 m':=0
 pre:=fun _=>True
 args:=fun a=>[.a (.int .u64 a)]
 hp:=fun _=>[]
 ro:=fun _=>[]
 post:=fun _ _=>True
 res:=fun a _=>.a (.int .u64 (pT a))
 cS:=fun _ _=>[]
def _root_.Sf(x y z u:Int):Int:=l9 (cN (l9 x (x/y)*z)) (cN (l9 x (x/y)*z)/u)
def _root_.Gz(x y:Int):=True->(0:Int)<=30/\(0:Int)<=27/\(0:Int)<=31/\Exists (bV (Sf (cN (l9 x (x/(1073741824:Int))*(13787848793156543929:Int))) 134217728 10723151780598845931 2147483648=y))
theorem Cn:fnBody (Y Tryz.prog) [] 120 Ad fun _=>[]:=fnBody.of (p :=
 ∀x:Int,Gz x (Ix.pT x)) (by kernel_rfl) (by
 delta Sf bV ay cN l9 Gz bg
 intro a _;exact⟨by decide,by decide,by decide,(),rfl,trivial,trivial⟩)
theorem xP:ak (Y Tryz.prog).G.X 120 Ad:=aT fF Cn trivial
def lJ(h:Int)(b:ByteArray):Nat->Int
 |0=>h
 |i+1=>Qe (pT (Nv (lJ h b i) ((b.data.getD i 0).toNat:Int))+1)
def Sg(h:Int)(b:ByteArray):Int:=pT (Nv (lJ h b b.size) (Qe (256+Qe b.size)))
def fo(g:Nat->ByteArray):Nat->Int
 |0=>11400714819323198485
 |i+1=>Sg (fo g i) (g i)
structure O0 where
 g:Nat->ByteArray
 n:Nat
 cap:Nat
noncomputable def uu:cF where
 α:=O0
 β:=Unit
 m:=1
 m':=1
 pre:=fun a=>a.n<100000/\∀i,i<a.n->(a.g i).size<=aq
 args:=fun a=>[.a (.slc 0 0 1 a.n a.cap)]
 hp:=fun _=>[]
 ro:=fun a=>[(0,.arr 9 [.str] a.n (fun i _=>.string (a.g i)))]
 post:=fun _ _=>True
 res:=fun a _=>.a (.int .u64 (fo a.g a.n))
 cS:=fun _ _=>[]
def WW(a:O0)(i:Nat):An:=.flat 6 Nat (fun s j=>(s.int 15 j).set 3 (.a (.int .u64 (lJ (fo a.g i) (a.g i) j)))) (fun _ j=>j<=(a.g i).size) (fun _ j=>(a.g i).size-j)
def WX(a:O0):An:=.mk 3 Nat (fun s i=>(s.int 9 i).set 3 (.a (.int .u64 (fo a.g i)))) (fun _ i=>i<=a.n) (fun _ i=>a.n-i) (fun i=>.mk 60 [WW a i] [])
def _root_.y6(y:ByteArray)(u x z:Nat)(v:Nat->ByteArray)(w:Prop):=aW (bA y)/\y=y/\od u x (aV x z) (aR (aV x z/\(dK x 1 fun s t=>bF (v s))/\w))
def _root_.y7(x y:Nat)(z:Nat->ByteArray)(u:Prop):=aW x/\aV x y/\aR (aV x y/\(dK x 1 fun v w=>bF (z v))/\u)
theorem y8:fnBody (Y Tryz.prog) [(120,Ad)] 66 uu fun a=>[(66,[WX a],[])]:=fnBody.of (p :=
 ∀x:Ix.O0,(x.n<100000/\∀s:Nat,s<x.n->bA (x.g s)<=aq)->(∃y:Nat,(11400714819323198485:Int)=Ix.fo x.g y/\aK y (y7 x.n x.cap (fun z=>x.g z) (y<=x.n/\True)))/\∀y:Nat,gi y x.n ((∃z:Nat,Ix.fo x.g y=Ix.lJ (Ix.fo x.g y) (x.g y) z/\aK z (y6 (x.g (0+az y)) y x.n x.cap (fun t=>x.g t) (z<=bA (x.g y)/\True)))/\∀z:Nat,z<=bA (x.g y)->l8 (af z) (bA (x.g (0+az y))) (∃v:Int,l9 (Ix.lJ (Ix.fo x.g y) (x.g y) z) (af ((x.g (0+az y)).data.getD (az z) (0:UInt8)).toNat)=v/\cH (aP z/\∃u:Nat,cN (Ix.pT v+(1:Int))=Ix.lJ (Ix.fo x.g y) (x.g y) u/\bx z u/\y6 (x.g (0+az y)) y x.n x.cap (fun w=>x.g w) (bS u (bA (x.g y)) z))) (∃v:Int,l9 (Ix.lJ (Ix.fo x.g y) (x.g y) z) (cN ((256:Int)+cN (af (bA (x.g (0+az y))))))=v/\cH (aP y/\∃u:Nat,Ix.pT v=Ix.fo x.g u/\bx y u/\y7 x.n x.cap (fun w=>x.g w) (bS u x.n y)))) (Exists (bV (Ix.fo x.g y=Ix.fo x.g x.n)))) (by kernel_rfl) (by
 delta aG bB cC ai bR az aH aA cn af bO bA aF aU bn eM dK jt aI bV aV bS bF od ay cN aP aW aK aR bf l9 y6 ag dJ bg bx y7 l8 gi cH
 try dsimp -iota -proj only
 intro a h;obtain⟨hn,hs⟩:=h;simp only[Nat.zero_add,Int.toNat_natCast];refine⟨⟨0,by and_intros<;>(first|exact trivial|rfl|omega|assumption|exact aj.refl _ _ _|(simp only[bQ];omega)|(simp;done)|(simp;omega)|grind)⟩,fun i hi=>⟨fun h1=>?_,fun h1=>?_⟩⟩
 ·have hi':i<a.n:=by simpa using h1
  have hsz:=hs i hi';refine⟨by omega,hi',⟨0,by and_intros<;>(first|exact trivial|rfl|omega|assumption|exact aj.refl _ _ _|(simp only[bQ];omega)|(simp;done)|(simp;omega)|grind)⟩,fun j hj=>⟨fun h2=>?_,fun h2=>?_⟩⟩
  ·have hj':j<(a.g i).size:=by simpa using h2
   refine⟨by omega,_,rfl,trivial,fun _ _=>⟨by simp only[bQ,aq]at *;omega,j+1,?_⟩⟩
   and_intros<;>(first|exact trivial|rfl|omega|assumption|exact aj.refl _ _ _|(simp only[bQ];omega)|(simp;done)|(simp;omega)|grind)
  ·have hj' : j = (a.g i).size := by have : ¬ j < (a.g i).size := by simpa using h2
                                     omega
   subst hj';refine⟨_,rfl,trivial,fun _ _=>⟨by simp only[bQ];omega,i+1,?_⟩⟩
   and_intros<;>(first|exact trivial|rfl|omega|assumption|exact aj.refl _ _ _|(simp only[bQ];omega)|(simp;done)|(simp;omega)|grind)
 ·have hi' : i = a.n := by have : ¬ i < a.n := by simpa using h1
                           omega
  subst hi';exact⟨(),rfl,trivial,trivial⟩)
theorem vk:ak (Y Tryz.prog).G.X 66 uu:=aT fF y8 ⟨xP,trivial⟩
structure bl where
 key:ByteArray
 pos:Int
 has:Bool
 gone:Bool
 deriving Inhabited
def uv(p:bl):List Value:=[.string p.key,.int .i64 p.pos,.bool p.has,.bool p.gone]
def XF:List CK:=[.str,.int .i64,.bool,.bool]
def GA(key:ByteArray):Int:=fo (fun _=>key) 1
def dz(L:Nat)(key:ByteArray):Nat:=(GA key).toNat%L
def hit(key:ByteArray)(p:bl):Bool:=p.has&&decide (p.key=key)
def bare(p:bl):Bool:=!p.has&&!p.gone
def eV(t:List bl)(key:ByteArray):Nat->Nat->Int->Int×Int
 |0,_,free=>(-1,free)
 |k+1,i,free=>if hit key (gl t i)then((i:Int),(i:Int))else
  let f:=if !(gl t i).has&&decide (free<0)then(i:Int)else free
  if bare (gl t i)then(-1,f)else eV t key k ((i+1)%t.length) f
def bD(t:List bl)(key:ByteArray):Int×Int:=eV t key t.length (dz t.length key) (-1)
def oG(o a:Nat)(t:List bl)(cap n used:Nat):List (Nat×Chunk):=[(o,.obj 247 [.slc a 0 4 t.length cap,.int .i64 n,.int .i64 used]),(a,.arr 251 XF t.length (aa uv t))]
theorem Vf{k:IntKind}{n:Int}(h:bQ k n):k.wrap n=n:=by
 cases k<;>simp only[bQ]at h<;>simp[IntKind.wrap,IntKind.bits,IntKind.signed,Int.emod_def]<;>omega
theorem O1(a b:Int):0<=Nv a b/\Nv a b<18446744073709551616:=by
 unfold Nv dy;simp only[DO,uw];omega
theorem DH(key:ByteArray):0<=GA key:=(O1 _ _).1
theorem pU{L:Nat}(key:ByteArray)(h:1<=L):dz L key<L:=Nat.mod_lt _ h
theorem start_eq{L:Nat}(key:ByteArray)(h:1<=L)(h2:L<100000):uw .i64 (fo (fun _=>key) 1%uw .u64 (L:Int))=(dz L key:Int):=by
 have e1:uw .u64 (L:Int)=L:=by simp only[uw];omega
 have h0:=DH key;have h3:=pU key h;have e2:GA key%(L:Int)=(dz L key:Int):=by
  unfold dz;rw[Int.natCast_emod,Int.toNat_of_nonneg h0]
 rw[e1];show uw .i64 (GA key%(L:Int))=_;rw[e2];exact Vf (by simp only[bQ];omega)
theorem Vg{i L:Nat}:((i:Int)+1).tmod (L:Int)=(((i+1)%L:Nat):Int):=by
 rw[Int.tmod_eq_emod_of_nonneg (by omega),Int.natCast_emod];rfl
theorem y9{t:List bl}{key:ByteArray}{i at_:Nat}{free:Int}{r:Int×Int}(hi:i<t.length)(h:eV t key (t.length-i) at_ free=r) :
 (if hit key (gl t at_)then((at_:Int),(at_:Int))else
 if bare (gl t at_)then(-1,if !(gl t at_).has&&decide (free<0)then(at_:Int)else free)else eV t key (t.length-(i+1)) ((at_+1)%t.length) (if !(gl t at_).has&&decide (free<0)then(at_:Int)else free))=r:=by
 rw[<- h,show t.length-i=(t.length-(i+1))+1 by omega];rfl
structure nL where
 t:List bl
 cap:Nat
 n:Nat
 used:Nat
 key:ByteArray
noncomputable def El:cF where
 α:=nL
 β:=Unit
 m:=2
 m':=2
 pre:=fun a=>1<=a.t.length/\a.t.length<100000/\a.key.size<=aq
 args:=fun a=>[.a (.ptr 0 0 0 0),.a (.str a.key)]
 hp:=fun _=>[]
 ro:=fun a=>oG 0 1 a.t a.cap a.n a.used
 post:=fun _ _=>True
 res:=fun a _=>.lY [.a (.int .i64 (bD a.t a.key).1),.a (.int .i64 (bD a.t a.key).2)]
 cS:=fun _ _=>[]
def Yj(a:nL):An:=.flat 4 (Nat×Nat×Int) (fun s x=>((s.int 25 x.1).int 7 x.2.1).set 6 (.a (.int .i64 x.2.2)))
 (fun _ x=>x.1<=a.t.length/\x.2.1<a.t.length/\-1<=x.2.2/\x.2.2<a.t.length/\eV a.t a.key (a.t.length-x.1) x.2.1 x.2.2=bD a.t a.key) (fun _ x=>a.t.length-x.1)
def _root_.GB(y:Nat×Nat×Int)(x:Ix.nL):=y.snd.fst<x.t.length/\(-1:Int)<=y.snd.snd/\y.snd.snd<af x.t.length/\Ix.eV x.t x.key (x.t.length-y.fst) y.snd.fst y.snd.snd=Ix.bD x.t x.key
def _root_.zb(x y z u:Nat)(v:List Ix.bl)(w:Prop):=aV x y/\cC (af z) (af u) (dK x 4 (aa Ix.uv v)) w
def _root_.Lr(x:Ix.nL)(y:Prop):=cC (af x.t.length) 0 (aH 0) (ag (x.key=x.key/\zb x.t.length x.cap x.n x.used x.t y))
def _root_.GC(y:Int)(x:Ix.nL)(z:Int):=Exists (ay (y=(Ix.bD x.t x.key).fst/\bg (z=(Ix.bD x.t x.key).snd)))
def _root_.jH(x:List Ix.bl)(y:Nat):Ix.bl:=gl x (0+az y)
def _root_.Ls(x:Ix.nL)(y:Nat×Nat×Int)(u:Int):=qA (bC (Ix.bl.has (jH x.t y.snd.fst))) (bC (Ix.bl.gone (jH x.t y.snd.fst))) (GC (-1:Int) x u) (aP y.snd.fst/\af x.t.length≠(0:Int)/\aP y.fst/\∃z:Nat×Nat×Int,u=z.snd.snd/\(af y.snd.fst+(1:Int)).tmod (af x.t.length)=af z.snd.fst/\bx y.fst z.fst/\Lr x (dO z.fst x.t.length (GB z x) y.fst))
def _root_.GD(x:Ix.O0)(z:ByteArray)(u:Prop):=ia 1 x.n 1 x.cap 1 (aN 1 (bG (bF z))) (fun y v=>bF (x.g y)) (x.n<100000/\∀y:Nat,y<x.n->bA (x.g y)<=aq) (aI u)
theorem Sh:fnBody (Y Tryz.prog) [(66,uu)] 168 El fun a=>[(168,[Yj a],[])]:=fnBody.of (p :=
 ∀y:Ix.nL,iH 1 y.t.length (bA y.key<=aq)->∃z:Ix.O0,GD z y.key (cN (af y.t.length)≠(0:Int)/\(∃x:Nat×Nat×Int,(-1:Int)=x.snd.snd/\og (Ix.fo z.g z.n%cN (af y.t.length))=af x.snd.fst/\aK x.fst (Lr y ((x.fst<=y.t.length/\GB x y)/\True)))/\∀x:Nat×Nat×Int,x.fst<=y.t.length/\GB x y->bf (af x.fst) y.t.length (dJ x.snd.fst y.t.length (qA (Ix.bl.has (jH y.t x.snd.fst)) (jF (Ix.bl.key (jH y.t x.snd.fst)) y.key) (GC (af x.snd.fst) y (af x.snd.fst)) (qA (bC (Ix.bl.has (jH y.t x.snd.fst))) (aA x.snd.snd 0) (Ls y x (af x.snd.fst)) (Ls y x x.snd.snd)))) (GC (-1:Int) y x.snd.snd))) (by kernel_rfl) (by
 delta qA aG bB cC ai bR az aH aA cn af bA dO bG aF aU bn bP eM dK aI aV Ls bF ay ia cN aP GB aK bf ag dJ zb bg bx GD bC Lr iH jF GC jH og
 try dsimp -iota -proj only
 intro a h;obtain⟨h1,h2,h3⟩:=h;have hst:=pU a.key h1;refine⟨⟨fun _=>a.key,1,1⟩,?_⟩;simp only[Nat.zero_add,Int.toNat_natCast,start_eq a.key h1 h2,Vg];refine⟨⟨trivial,trivial,trivial⟩,⟨Nat.le_refl _,.dQ fun j hj=>?_⟩,⟨by omega,fun _ _=>h3⟩,fun _ _=>⟨by simp only[uw];omega,⟨(0,dz a.t.length a.key,-1),?_⟩,fun x hx=>?_⟩⟩
 ·have:j=0:=by omega
  subst this;rfl
 ·dsimp only
  and_intros<;>(first|exact trivial|rfl|omega|assumption|exact aj.refl _ _ _|(simp only[bQ];omega)|(simp;done)|(simp;omega)|grind)
 ·obtain⟨i,at_,free⟩:=x;obtain⟨i1,i2,i3,i4,i5⟩:=hx;dsimp only at *;have hmod:(at_+1)%a.t.length<a.t.length:=Nat.mod_lt _ h1;have stop:i=a.t.length->bD a.t a.key=(-1,free):=by
   intro e;rw[<- i5,e,Nat.sub_self];rfl
  have step:=fun hi=>y9 (i:=i) hi i5;simp only[bQ]
  repeat' (first|intro _|apply And.intro|apply Exists.intro ()|apply Exists.intro ((i+1,(at_+1)%a.t.length,_):Nat×Nat×Int))
  all_goals(try with_reducible rfl)
  all_goals(try exact aj.refl _ _ _)
  all_goals(try dsimp only)
  all_goals(try simp only[decide_eq_true_eq,decide_eq_false_iff_not]at *)
  all_goals(try omega)
  all_goals(try(have h9:=step (by omega);grind [hit,bare]))
  all_goals(try(have h9:=stop (by omega);rw[h9])))
theorem xQ:ak (Y Tryz.prog).G.X 168 El:=aT fF Sh ⟨vk,trivial⟩
structure cM where
 t:List bl
 n:Nat
 used:Nat
def ni(x:cM)(key:ByteArray):Int:=if 0<=(bD x.t key).1 then(gl x.t (bD x.t key).1.toNat).pos else 0
def lW(x:cM)(key:ByteArray)(pos:Int):cM :=
 if 0<=(bD x.t key).1 then { x with t:=x.t.set (bD x.t key).1.toNat { gl x.t (bD x.t key).1.toNat with pos:=pos } }
 else⟨x.t.set (bD x.t key).2.toNat ⟨key,pos,true,false⟩,x.n+1,if(gl x.t (bD x.t key).2.toNat).gone then x.used else x.used+1⟩
theorem nM(x:cM)(key:ByteArray)(pos:Int):(lW x key pos).t.length=x.t.length:=by unfold lW;split<;>simp
theorem Ae(t:List bl)(key:ByteArray)(h:1<=t.length):∀(k i:Nat) (f:Int),i<t.length->f<t.length->(eV t key k i f).1<t.length/\(eV t key k i f).2<t.length
 |0,i,f,hi,hf=>by simp only[eV];omega
 |k+1,i,f,hi,hf=>by
  have h1:(if !(gl t i).has&&decide (f<0)then(i:Int)else f)<t.length:=by split<;>omega
  unfold eV;by_cases hh:hit key (gl t i)=true
  ·rw[if_pos hh];exact⟨by simp only;omega,by simp only;omega⟩
  ·rw[if_neg hh];dsimp only;by_cases hb:bare (gl t i)=true
   ·rw[if_pos hb];exact⟨by simp only;omega,h1⟩
   ·rw[if_neg hb];exact Ae t key h k _ _ (Nat.mod_lt _ h) h1
theorem uy{t:List bl}(key:ByteArray)(h:1<=t.length):(bD t key).1<t.length/\(bD t key).2<t.length :=
 Ae t key h _ _ _ (pU key h) (by omega)
structure lV where
 x:cM
 cap:Nat
 key:ByteArray
 pos:Int
noncomputable def Si:cF where
 α:=lV
 β:=Unit
 m:=2
 m':=2
 pre:=fun a=>1<=a.x.t.length/\a.x.t.length<100000/\a.key.size<=aq/\2*a.x.used<a.x.t.length/\a.x.n<100000/\((bD a.x.t a.key).1<0->0<=(bD a.x.t a.key).2)
 args:=fun a=>[.a (.ptr 0 0 0 0),.a (.str a.key),.a (.int .i64 a.pos)]
 hp:=fun a=>oG 0 1 a.x.t a.cap a.x.n a.x.used
 ro:=fun _=>[]
 post:=fun _ _=>True
 res:=fun a _=>.a (.int .i64 (ni a.x a.key))
 cS:=fun a _=>oG 0 1 (lW a.x a.key a.pos).t a.cap (lW a.x a.key a.pos).n (lW a.x a.key a.pos).used
noncomputable def Sj:cF where
 α:=Unit
 β:=Unit
 m:=1
 m':=1
 pre:=fun _=>False
 args:=fun _=>[.a (.ptr 0 0 0 0)]
 hp:=fun _=>[]
 ro:=fun _=>[]
 post:=fun _ _=>True
 res:=fun _ _=>.a .any
 cS:=fun _ _=>[]
theorem O2(f:Nat):ak (Y Tryz.prog).G.X f Sj:=aT fF (iW:=[]) (l:=fun _=>[]) ⟨fun a h=>False.elim h⟩ trivial
def _root_.bI(x:Ix.cM):Nat:=x.t.length
def _root_.nj(x:Int)(y:Nat)(z:Prop):=cn x y/\0+aU x<y/\z
def _root_.dU(x:Ix.cM):Nat->Nat->Value:=aa Ix.uv x.t
def _root_.wL(z:ByteArray)(x:Ix.nL)(y:Ix.cM)(u:Nat)(v:Bool)(w:Prop)(s:Int)(f:Prop):=ag (z=x.key/\ag (bI y=x.t.length/\u=x.cap)/\bu y.n x.n/\bu y.used x.used/\bB x.t.length (bI y) 4 (dU y) (aa Ix.uv x.t)/\iH 1 x.t.length (bA x.key<=aq)/\aI (aG v w (nj s (bI y) f)))
def _root_.qJ(x:Ix.nL):Nat:=0+aU (Ix.bD x.t x.key).fst
def _root_.Nw(z:Ix.lV)(x:Ix.nL)(y:Ix.cM)(u:Nat)(v w s:Prop):=wL z.key x y u (cO 0 (Ix.bD x.t x.key).fst) (nj (Ix.bD x.t x.key).fst (bI y) (ai (gl y.t (qJ x)).pos->nj (Ix.bD x.t x.key).fst (bI y) v)) (Ix.bD x.t x.key).snd (aG (bC (gl y.t (0+aU (Ix.bD x.t x.key).snd)).gone) (ai (af y.used)->aP y.used/\nj (Ix.bD x.t x.key).snd (bI y) (ai (af y.n)->aP y.n/\w)) (nj (Ix.bD x.t x.key).snd (bI y) (ai (af y.n)->aP y.n/\s)))
def _root_.kQ(y:Nat)(x:Ix.cM)(z:Prop)(u v:Int)(w:Nat->Nat->Value)(s:Prop):=ag (y=bI x/\z)/\u=af x.n/\v=af x.used/\bB (bI x) y 4 w (dU x)/\s
def _root_.dV(x:ByteArray)(y:Int)(z:List Value):List Value:=bP (bF x) (bt y z)
def _root_.Em(u:Ix.cM)(x:Ix.lV)(y v:Ix.cM)(w:Prop)(s:Int)(z:Ix.nL):=(0:Int)=Ix.ni u x.key/\kQ (bI y) v w (af y.n+(1:Int)) s (jT (dU y) (0+aU (Ix.bD z.t z.key).snd) 0 (dV x.key x.pos (bP (dR true) (bG fR)))) (True/\True)
def _root_.Nx(x:Ix.cM)(y:Ix.nL)(u:Ix.cM)(z:Ix.lV)(v:Ix.cM)(w:Prop):=(gl x.t (qJ y)).pos=Ix.ni u z.key/\kQ (bI x) v w (af x.n) (af x.used) (jT (dU x) (qJ y) 1 (bt z.pos [])) (True/\True)
def _root_.Lt(y:Ix.lV):Ix.nL->Prop:=fun(z:Ix.nL)=>Nw y z y.x y.cap (Exists (ay (Nx y.x z y.x y (Ix.lW y.x y.key y.pos) (eM y.cap)))) (Exists (ay (Em y.x y y.x (Ix.lW y.x y.key y.pos) (eM y.cap) (af y.x.used+(1:Int)) z))) (Exists (ay (Em y.x y y.x (Ix.lW y.x y.key y.pos) (eM y.cap) (af y.x.used) z)))
def _root_.zc(x:Ix.cM)(z:Nat)(y:ByteArray):=2*x.used<z/\x.n<100000/\((Ix.bD x.t y).fst<(0:Int)->(0:Int)<=(Ix.bD x.t y).snd)
theorem Sk:fnBody (Y Tryz.prog) [(168,El),(167,Sj)] 123 Si fun _=>[]:=fnBody.of (p :=
 ∀y:Ix.lV,iH 1 (bI y.x) (bA y.key<=aq/\zc y.x (bI y.x) y.key)->ai (af y.x.used)->sj ((2:Int)*af y.x.used) (af (bI y.x)) (Exists (ay (ag (False/\aI (Exists (Lt y)))))) (Exists (Lt y))) (by kernel_rfl) (by
 delta aG bB ai bt bI cn af bA bG aF dL aU bn bP eM Nw Em aI Nx kQ bF wL ay aP fR cO Lt nj ag zc dV bu dU qJ bC sj iH dR
 try dsimp -iota -proj only
 intro a h;obtain⟨h1,h2,h3,h4,h5,h6⟩:=h;obtain⟨l1,l2⟩:=uy a.key h1;have hl:=nM a.x a.key a.pos;have yes:0<=(bD a.x.t a.key).1->lW a.x a.key a.pos={ a.x with t:=a.x.t.set (bD a.x.t a.key).1.toNat { gl a.x.t (bD a.x.t a.key).1.toNat with pos:=a.pos } }:=fun e=>if_pos e;have no:¬0<=(bD a.x.t a.key).1->lW a.x a.key a.pos=⟨a.x.t.set (bD a.x.t a.key).2.toNat ⟨a.key,a.pos,true,false⟩,a.x.n+1,if(gl a.x.t (bD a.x.t a.key).2.toNat).gone then a.x.used else a.x.used+1⟩:=fun e=>if_neg e;simp only[Nat.zero_add,bQ];refine fun _=>⟨by omega,fun e=>absurd e (by simp;omega),fun _=>⟨⟨a.x.t,a.cap,a.x.n,a.x.used,a.key⟩,?_⟩⟩
 dsimp only
 repeat' (first|intro _|apply And.intro|apply Exists.intro ())
 all_goals(try with_reducible rfl)
 all_goals(try simp only[decide_eq_true_eq,decide_eq_false_iff_not,Bool.not_eq_true',Bool.not_eq_false']at *)
 all_goals(try exact trivial)
 all_goals(try omega)
 all_goals(try(grind [ni]))
 all_goals(try(with_reducible exact aj.refl _ _ _))
 all_goals(first|(rw[yes (by assumption)];refine .set _ (by omega) (fun i hi=>by simp only[gG hi]) ?_;simp only[iR];rfl)|(rw[no (by assumption)];refine .set _ (by omega) (fun i hi=>by simp only[gG hi]) ?_;simp only[iR];rfl)))
theorem Sl:ak (Y Tryz.prog).G.X 123 Si:=aT fF Sk ⟨xQ,O2 _,trivial⟩
def dN(t:List bl)(y:cM):Nat->cM
 |0=>y
 |i+1=>if(gl t i).has then lW (dN t y i) (gl t i).key (gl t i).pos else dN t y i
def bH(n:Nat):cM:=⟨List.replicate n ⟨.empty,0,false,false⟩,0,0⟩
theorem kZ(t:List bl)(y:cM):∀i,(dN t y i).t.length=y.t.length
 |0=>rfl
 |i+1=>by
  unfold dN;split
  ·rw[nM,kZ t y i]
  ·exact kZ t y i
theorem sD{α:Type}[Inhabited α]{n i:Nat}{x:α}(h:i<n):gl (List.replicate n x) i=x:=by
 rw[bN (by simpa using h)];simp
def lp(x:cM):cM:=dN x.t (bH (max 16 (4*x.n))) x.t.length
structure Af where
 x:cM
 cap:Nat
noncomputable def Sm:cF where
 α:=Af
 β:=Nat
 m:=2
 m':=3
 pre:=fun a=>1<=a.x.t.length/\a.x.t.length<100000/\a.x.n<10000/\(∀i,i<a.x.t.length->(gl a.x.t i).key.size<=aq) /\
  ∀i,i<a.x.t.length->(gl a.x.t i).has=true->2*(dN a.x.t (bH (max 16 (4*a.x.n))) i).used<max 16 (4*a.x.n)/\(dN a.x.t (bH (max 16 (4*a.x.n))) i).n<100000 /\
   ((bD (dN a.x.t (bH (max 16 (4*a.x.n))) i).t (gl a.x.t i).key).1<0->0<=(bD (dN a.x.t (bH (max 16 (4*a.x.n))) i).t (gl a.x.t i).key).2)
 args:=fun a=>[.a (.ptr 0 0 0 0)]
 hp:=fun a=>[(0,.obj 247 [.slc 1 0 4 a.x.t.length a.cap,.int .i64 a.x.n,.int .i64 a.x.used])]
 ro:=fun a=>[(1,.arr 251 XF a.x.t.length (aa uv a.x.t))]
 post:=fun _ _=>True
 res:=fun _ _=>.lY []
 cS:=fun a cap=>oG 0 2 (lp a.x).t cap (lp a.x).n (lp a.x).used
def Yk(a:Af):An:=.flat 3 (Nat×Nat) (fun s x=>(((s.at_ (s.tg 0) (.obj 247 [.slc (s.oQ (s.tg 0) 0) 0 4 (max 16 (4*a.x.n)) x.2,.int .i64 (dN a.x.t (bH (max 16 (4*a.x.n))) x.1).n,.int .i64 (dN a.x.t (bH (max 16 (4*a.x.n))) x.1).used])).at_ (s.oQ (s.tg 0) 0) (.arr 251 XF (max 16 (4*a.x.n)) (aa uv (dN a.x.t (bH (max 16 (4*a.x.n))) x.1).t))).int 21 x.1))
 (fun _ x=>x.1<=a.x.t.length) (fun _ x=>a.x.t.length-x.1)
def _root_.kR(y:Ix.Af)(z:Nat):Ix.cM:=Ix.dN y.x.t (Ix.bH (max 16 (4*y.x.n))) z
def _root_.GF(y:Ix.Af):=iH 1 (bI y.x) (y.x.n<10000/\(∀z:Nat,z<bI y.x->bA (gl y.x.t z).key<=aq)/\∀z:Nat,z<bI y.x->aF (gl y.x.t z).has->zc (kR y z) (max 16 (4*y.x.n)) (gl y.x.t z).key)
def _root_.Lu(v:Nat×Nat)(y:Ix.Af)(w:Nat×Nat->Prop)(u:Ix.cM)(s:Nat):=iT v fun z=>pI (aW (bI y.x)) (aV (bI y.x) y.cap) (ag (w z/\bu u.n (Ix.cM.n (kR y z.fst))/\bu u.used (Ix.cM.used (kR y z.fst))/\dK (bI y.x) 4 (dU y.x)/\bB (max 16 (4*y.x.n)) s 4 (dU u) (dU (kR y z.fst))/\bS z.fst (bI y.x) v.fst))
def _root_.ze(y:Ix.Af):Int:=oF true 16 ((4:Int)*af y.x.n)
def _root_.GG:Nat->Nat->Value:=fun(y x:Nat)=>aQ (dV cV 0 (bP fR (bG fR))) x
theorem Sn:fnBody (Y Tryz.prog) [(123,Si)] 167 Sm fun a=>[(167,[Yk a],[])]:=fnBody.of (p :=
 ∀y:Ix.Af,GF y->ai (af y.x.n)->ai ((4:Int)*af y.x.n)/\lF (ze y) ((32:Int)*ze y) ((∃z:Nat×Nat,aK z.fst (pI (aW (bI y.x)) (aV (bI y.x) y.cap) (ag (ag (aU (ze y)=max 16 (4*y.x.n)/\aU (ze y)=z.snd)/\aK (Ix.cM.n (kR y z.fst)) (aK (Ix.cM.used (kR y z.fst)) (dK (bI y.x) 4 (dU y.x)/\bB (max 16 (4*y.x.n)) (aU (ze y)) 4 GG (dU (kR y z.fst))/\z.fst<=bI y.x/\True))))))/\∀z:Nat×Nat,gi z.fst (bI y.x) (aG (Ix.bl.has (jH y.x.t z.fst)) (ai (Ix.bl.pos (jH y.x.t z.fst))->∃u:Ix.lV,ag (Ix.bl.key (jH y.x.t z.fst)=u.key/\Ix.bl.pos (jH y.x.t z.fst)=u.pos/\kQ (max 16 (4*y.x.n)) u.x (z.snd=u.cap) (af (Ix.cM.n (kR y z.fst))) (af (Ix.cM.used (kR y z.fst))) (dU (kR y z.fst)) (iH 1 (bI u.x) (bA u.key<=aq/\zc u.x (bI u.x) u.key)/\aI (Lu z y (fun w=>ag (bI (Ix.lW u.x u.key u.pos)=max 16 (4*y.x.n)/\u.cap=w.snd)) (Ix.lW u.x u.key u.pos) (bI (Ix.lW u.x u.key u.pos)))))) (Lu z y (fun v=>bR (max 16 (4*y.x.n)) (z.snd=v.snd)) (kR y z.fst) (max 16 (4*y.x.n)))) (∃v:Nat,kQ (max 16 (4*y.x.n)) (Ix.lp y.x) (z.snd=v) (af (Ix.cM.n (kR y z.fst))) (af (Ix.cM.used (kR y z.fst))) (dU (kR y z.fst)) (True/\True)))) (by kernel_rfl) (by
 delta aG aQ bB ai bt bR az aH oF bI aA cn af bA cV bG aF dL aU bn pI bP eM dK jt aI aV kR bS kQ bF iT lF aP aW fR GF aK bf Lu ag dJ zc bx dV ze bu dU gi iH dR GG jH
 try dsimp -iota -proj only
 intro a h;obtain⟨h1,h2,h3,h4,h5⟩:=h;obtain⟨M,hM⟩:∃M,M=max 16 (4*a.x.n):=⟨_,rfl⟩
 have hMi:(max 16 (4*(a.x.n:Int)):Int)=(M:Int):=by omega
 simp only[cond_true,<- hM]at h5 ⊢;simp only[hMi,Nat.zero_add,Int.toNat_natCast];have hlen:∀i,(dN a.x.t (bH M) i).t.length=M:=fun i=>by rw[kZ];simp[bH]
 have hg:lp a.x=dN a.x.t (bH M) a.x.t.length:=by unfold lp;rw[<- hM]
 rw[hg,hlen];refine fun _=>⟨by simp only[bQ];omega,by omega,by omega,by omega,⟨(0,M),?_⟩,fun x hx=>?_⟩
 ·dsimp only
  and_intros<;>first|exact aj.refl _ _ _|skip
  all_goals first|exact trivial|rfl|omega|skip
  refine .dQ fun i hi=>?_;unfold aa;rw[show gl (dN a.x.t (bH M) 0).t i=⟨.empty,0,false,false⟩from sD hi];rfl
 ·obtain⟨i,cap⟩:=x;have hx':i<=a.x.t.length:=hx;have h6:=h5 i;have sy:(gl a.x.t i).has=true->dN a.x.t (bH M) (i+1)=lW (dN a.x.t (bH M) i) (gl a.x.t i).key (gl a.x.t i).pos:=fun e=>if_pos e;have sn:(gl a.x.t i).has=false->dN a.x.t (bH M) (i+1)=dN a.x.t (bH M) i:=fun e=>if_neg (by rw[e];decide);have se:¬i<a.x.t.length->dN a.x.t (bH M) a.x.t.length=dN a.x.t (bH M) i:=fun e=>by rw[show a.x.t.length=i by omega]
  dsimp only at *
  repeat' (first|intro _|apply And.intro|apply Exists.intro (lV.mk (dN a.x.t (bH M) i) cap _ _)|apply Exists.intro ((i+1,cap):Nat×Nat)|apply Exists.intro (cap:Nat))
  all_goals(try with_reducible rfl)
  all_goals(try with_reducible exact aj.refl _ _ _)
  all_goals(try dsimp only)
  all_goals(try simp only[decide_eq_true_eq,decide_eq_false_iff_not,Bool.not_eq_true',Bool.not_eq_false',bQ]at *)
  all_goals(try simp only[hlen,nM])
  all_goals(try exact trivial)
  all_goals(try omega)
  all_goals first
   |exact h4 i (by omega)
   |exact(h6 (by omega) (by assumption)).1
   |exact(h6 (by omega) (by assumption)).2.1
   |exact(h6 (by omega) (by assumption)).2.2 (by assumption)
   |(rw[sy (by assumption)];done)
   |(rw[sy (by assumption)];exact aj.refl _ _ _)
   |(rw[sn (by assumption)];done)
   |(rw[sn (by assumption)];exact aj.refl _ _ _)
   |(rw[se (by omega)];done)
   |(rw[se (by omega)];exact aj.refl _ _ _))
theorem Sp:ak (Y Tryz.prog).G.X 167 Sm:=aT fF Sn ⟨Sl,trivial⟩
def mC(p:bl):ByteArray×Int:=(p.key,p.pos)
def ee(t:List bl):List (ByteArray×Int):=(t.filter (·.has)).map mC
def busy(p:bl):Bool:=!bare p
structure Inv(x:cM):Prop where
 lo:16<=x.t.length
 hi:x.t.length<=40000
 n:x.n=(ee x.t).length
 used:x.used=x.t.countP busy
 half:2*x.used<x.t.length+2
 size:∀i,i<x.t.length->(gl x.t i).key.size<=aq
 Sq:∀i j,i<x.t.length->j<x.t.length->(gl x.t i).has=true->(gl x.t j).has=true->(gl x.t i).key=(gl x.t j).key->i=j
 path:∀i,i<x.t.length->(gl x.t i).has=true->∃d,d<x.t.length/\(dz x.t.length (gl x.t i).key+d)%x.t.length=i/\∀k,k<d->bare (gl x.t ((dz x.t.length (gl x.t i).key+k)%x.t.length))=false
theorem Jb{s d L:Nat}:((s+d)%L+1)%L=(s+(d+1))%L:=by rw[Nat.mod_add_mod,Nat.add_assoc]
theorem vl{key:ByteArray}{p:bl}:hit key p=true↔p.has=true/\p.key=key:=by simp[hit]
theorem Co{t:List bl}{key:ByteArray}{i0 d0:Nat}(hL:1<=t.length)(hi:i0<t.length)(hh:hit key (gl t i0)=true)(hd:d0<t.length)
 (hp:(dz t.length key+d0)%t.length=i0) (hb:∀k,k<d0->bare (gl t ((dz t.length key+k)%t.length))=false)
 (hu:∀j,j<t.length->hit key (gl t j)=true->j=i0):∀(m d:Nat) (f:Int),d+m=d0->eV t key (t.length-d) ((dz t.length key+d)%t.length) f=((i0:Int),(i0:Int))
 |0,d,f,hm=>by
  have:d=d0:=by omega
  subst this;rw[hp,show t.length-d=(t.length-d-1)+1 by omega];simp only[eV,hh,if_true]
 |m+1,d,f,hm=>by
  have hlt:(dz t.length key+d)%t.length<t.length:=Nat.mod_lt _ hL;rw[show t.length-d=(t.length-(d+1))+1 by omega];by_cases h:hit key (gl t ((dz t.length key+d)%t.length))=true
  ·have:=hu _ hlt h;rw[this]at h ⊢;simp only[eV,h,if_true]
  ·simp only[eV,h,if_false,hb d (by omega),Bool.false_eq_true];rw[Jb];exact Co hL hi hh hd hp hb hu m (d+1) _ (by omega)
theorem En{t:List bl}{key:ByteArray}(hL:1<=t.length)(hu:∀j,j<t.length->hit key (gl t j)=false):∀(k i:Nat) (f:Int),i<t.length->0<=f->eV t key k i f=(-1,f)
 |0,i,f,hi,hf=>rfl
 |k+1,i,f,hi,hf=>by
  have h1:(!(gl t i).has&&decide (f<0))=false:=by simp;omega
  simp only[eV,hu i hi,Bool.false_eq_true,if_false,h1];split
  ·rfl
  ·exact En hL hu k _ f (Nat.mod_lt _ hL) hf
theorem Eo{t:List bl}{key:ByteArray}{d0:Nat}(hL:1<=t.length)(hd:d0<t.length)(hu:∀j,j<t.length->hit key (gl t j)=false)
 (hf:(gl t ((dz t.length key+d0)%t.length)).has=false) (hb:∀k,k<d0->(gl t ((dz t.length key+k)%t.length)).has=true) :
 ∀(m d:Nat),d+m=d0->eV t key (t.length-d) ((dz t.length key+d)%t.length) (-1)=(-1,(((dz t.length key+d0)%t.length:Nat):Int))
 |0,d,hm=>by
  have:d=d0:=by omega
  subst this;have hlt:(dz t.length key+d)%t.length<t.length:=Nat.mod_lt _ hL;rw[show t.length-d=(t.length-d-1)+1 by omega];have h1:(!(gl t ((dz t.length key+d)%t.length)).has&&decide ((-1:Int)<0))=true:=by simp[hf]
  simp only[eV,hu _ hlt,Bool.false_eq_true,if_false,h1,if_true];split
  ·rfl
  ·exact En hL hu _ _ _ (Nat.mod_lt _ hL) (by omega)
 |m+1,d,hm=>by
  have hlt:(dz t.length key+d)%t.length<t.length:=Nat.mod_lt _ hL;rw[show t.length-d=(t.length-(d+1))+1 by omega];have h0:=hb d (by omega);have h1:(!(gl t ((dz t.length key+d)%t.length)).has&&decide ((-1:Int)<0))=false:=by simp[h0]
  have h2:bare (gl t ((dz t.length key+d)%t.length))=false:=by simp[bare,h0]
  simp only[eV,hu _ hlt,Bool.false_eq_true,if_false,h1,h2];rw[Jb];exact Eo hL hd hu hf hb m (d+1) (by omega)
theorem Ep{L:Nat}{key:ByteArray}(hL:1<=L):(dz L key+0)%L=dz L key:=by
 rw[Nat.add_zero,Nat.mod_eq_of_lt (pU key hL)]
theorem Ag{x:cM}(h:Inv x){i:Nat}(hi:i<x.t.length)(hh:(gl x.t i).has=true):bD x.t (gl x.t i).key=((i:Int),(i:Int)):=by
 obtain⟨d,h1,h2,h3⟩:=h.path i hi hh;have hL:1<=x.t.length:=by have:=h.lo;omega
 have:=Co (key:=(gl x.t i).key) hL hi (vl.2 ⟨hh,rfl⟩) h1 h2 h3 (fun j hj hj2=>h.Sq j i hj hi (vl.1 hj2).1 hh (vl.1 hj2).2) d 0 (-1) (by omega);rwa[Ep hL,Nat.sub_zero]at this
theorem road{L s i:Nat}(hs:s<L)(hi:i<L):∃d,d<L/\(s+d)%L=i:=by
 by_cases h:s<=i
 ·exact⟨i-s,by omega,by rw[show s+(i-s)=i by omega];exact Nat.mod_eq_of_lt hi⟩
 ·refine⟨L+i-s,by omega,?_⟩;rw[show s+(L+i-s)=i+L by omega,Nat.add_mod_right];exact Nat.mod_eq_of_lt hi
theorem Er:∀(t:List bl),t.countP busy<t.length->∃i,i<t.length/\(gl t i).has=false
 |[],h=>absurd h (Nat.not_lt_zero _)
 |p::r,h=>by
  cases hp:p.has with
  |false=>exact⟨0,by simp,hp⟩
  |true =>
   have hb:busy p=true:=by simp[busy,bare,hp]
   rw[List.countP_cons_of_pos hb]at h;obtain⟨i,h1,h2⟩:=Er r (by simpa using h);exact⟨i+1,by simp;omega,h2⟩
theorem first{p:Nat->Bool}:∀d,p d=true->∃d0,d0<=d/\p d0=true/\∀k,k<d0->p k=false:=by
 intro d
 induction d using Nat.strongRecOn with
 |ind d ih =>
  intro h;by_cases hx:∃k,k<d/\p k=true
  ·obtain⟨k,hk,hp⟩:=hx;obtain⟨d0,a,b,c⟩:=ih k hk hp;exact⟨d0,by omega,b,c⟩
  ·refine⟨d,Nat.le_refl _,h,fun k hk=>?_⟩;cases hp:p k with
   |false=>rfl
   |true=>exact absurd ⟨k,hk,hp⟩ hx
def Lv(t:List bl)(key:ByteArray):Prop:=∀j,j<t.length->hit key (gl t j)=false
theorem Cp{t:List bl}{key:ByteArray}(hL:1<=t.length)(hu:Lv t key)(hr:t.countP busy<t.length) :
 ∃d i,d<t.length/\(dz t.length key+d)%t.length=i/\i<t.length/\(gl t i).has=false/\(∀k,k<d->(gl t ((dz t.length key+k)%t.length)).has=true)/\bD t key=(-1,(i:Int)):=by
 obtain⟨i,h1,h2⟩:=Er t hr;obtain⟨d,h3,h4⟩:=road (pU key hL) h1;obtain⟨d0,g1,g2,g3⟩:=first (p:=fun d=>!(gl t ((dz t.length key+d)%t.length)).has) d (by simp[h4,h2])
 simp only[Bool.not_eq_true',Bool.not_eq_false']at g2 g3;have:=Eo hL (show d0<t.length by omega) hu g2 g3 d0 0 (by omega);rw[Ep hL,Nat.sub_zero]at this;exact⟨d0,_,by omega,rfl,Nat.mod_lt _ hL,g2,g3,this⟩
theorem Jc{t:List bl}{i:Nat}(h:i<t.length):t=t.take i++gl t i::t.drop (i+1):=by
 rw[bN h,List.getElem_cons_drop,List.take_append_drop]
theorem Et{t:List bl}{i:Nat}{q:bl}(h:i<t.length):t.set i q=t.take i++q::t.drop (i+1):=by
 rw[List.set_eq_take_append_cons_drop,if_pos h]
theorem xR(a b:List bl):ee (a++b)=ee a++ee b:=by simp[ee]
theorem oT(p:bl)(r:List bl):ee (p::r)=(if p.has then[mC p]else[])++ee r:=by
 unfold ee;rw[List.filter_cons];split<;>simp
theorem xS{t:List bl}{i:Nat}(h:i<t.length):ee t=ee (t.take i)++((if(gl t i).has then[mC (gl t i)]else[])++ee (t.drop (i+1))):=by
 conv=>lhs;rw[Jc h]
 rw[xR,oT]
theorem Cq{t:List bl}{i:Nat}{q:bl}(h:i<t.length):ee (t.set i q)=ee (t.take i)++((if q.has then[mC q]else[])++ee (t.drop (i+1))):=by
 rw[Et h,xR,oT]
theorem Lw{t:List bl}{i:Nat}(h:i<t.length):t.countP busy=(t.take i).countP busy+((t.drop (i+1)).countP busy+if busy (gl t i)then 1 else 0):=by
 conv=>lhs;rw[Jc h]
 rw[List.countP_append,List.countP_cons]
theorem GH{t:List bl}{i:Nat}{q:bl}(h:i<t.length):(t.set i q).countP busy=(t.take i).countP busy+((t.drop (i+1)).countP busy+if busy q then 1 else 0):=by
 rw[Et h,List.countP_append,List.countP_cons]
theorem xT{t:List bl}{k:ByteArray}{p:Int}:(k,p)∈ee t↔∃i,i<t.length/\(gl t i).has=true/\(gl t i).key=k/\(gl t i).pos=p:=by
 unfold ee;simp only[List.mem_map,List.mem_filter,mC,Prod.mk.injEq];constructor
 ·rintro⟨q,⟨h1,h2⟩,h3,h4⟩;obtain⟨i,hi,rfl⟩:=List.getElem_of_mem h1;exact⟨i,hi,by rw[bN hi];exact h2,by rw[bN hi];exact h3,by rw[bN hi];exact h4⟩
 ·rintro⟨i,h1,h2,h3,h4⟩;exact⟨_,⟨FF h1,h2⟩,h3,h4⟩
theorem Lx{t:List bl}{k:ByteArray}:Lv t k↔k∉(ee t).map Prod.fst:=by
 constructor
 ·intro h hm;obtain⟨⟨k',p⟩,h1,rfl⟩:=List.mem_map.1 hm;obtain⟨i,h2,h3,h4,_⟩:=xT.1 h1;have:=h i h2;rw[vl.2 ⟨h3,h4⟩]at this;cases this
 ·intro h j hj;cases hh:hit k (gl t j)with
  |false=>rfl
  |true =>
   obtain⟨h1,h2⟩:=vl.1 hh;exact absurd (List.mem_map.2 ⟨(k,(gl t j).pos),xT.2 ⟨j,hj,h1,h2,rfl⟩,rfl⟩) h
structure Has(x:cM)(l:List (ByteArray×Int)):Prop where
 inv:Inv x
 perm:(ee x.t).Perm l
theorem Has.xU{x:cM}{l m:List (ByteArray×Int)}(h:Has x l)(p:l.Perm m):Has x m:=⟨h.inv,h.perm.trans p⟩
theorem Has.n{x:cM}{l:List (ByteArray×Int)}(h:Has x l):x.n=l.length:=by rw[h.inv.n,h.perm.length_eq]
theorem Has.mem{x:cM}{l:List (ByteArray×Int)}(h:Has x l){k:ByteArray}{p:Int}(hm:(k,p)∈l):∃i:Nat,i<x.t.length/\(gl x.t i).has=true/\(gl x.t i).key=k/\(gl x.t i).pos=p/\bD x.t k=((i:Int),(i:Int)):=by
 obtain⟨i,h1,h2,h3,h4⟩:=xT.1 (h.perm.mem_iff.2 hm);refine⟨i,h1,h2,h3,h4,?_⟩;rw[<- h3];exact Ag h.inv h1 h2
theorem Has.none{x:cM}{l:List (ByteArray×Int)}(h:Has x l){k:ByteArray}(hm:k∉l.map Prod.fst):Lv x.t k:=Lx.2 fun hk=>hm ((h.perm.map _).mem_iff.1 hk)
theorem Inv.room{x:cM}(h:Inv x):x.t.countP busy<x.t.length:=by have:=h.half;have:=h.used;have:=h.lo;omega
theorem Has.ru{x:cM}{l:List (ByteArray×Int)}(h:Has x l){k:ByteArray}(hm:k∉l.map Prod.fst):(bD x.t k).1 = -1/\0<=(bD x.t k).2:=by
 obtain⟨d,i,_,_,_,_,_,e⟩:=Cp (by have:=h.inv.lo;omega) (h.none hm) h.inv.room;rw[e];exact⟨rfl,by simp⟩
theorem Inv.set{x:cM}(h:Inv x){i:Nat}(hi:i<x.t.length){q:bl}(hb:bare q=false)(hs:q.key.size<=aq)
 (hd:q.has=true->∀j,j<x.t.length->j≠i->(gl x.t j).has=true->(gl x.t j).key≠q.key)
 (hp:q.has=true->∃d,d<x.t.length/\(dz x.t.length q.key+d)%x.t.length=i/\∀k,k<d->bare (gl x.t ((dz x.t.length q.key+k)%x.t.length))=false)
 {n' u':Nat} (hn:n'=(ee (x.t.set i q)).length) (hu:u'=(x.t.set i q).countP busy) (hh:2*u'<x.t.length+2):Inv ⟨x.t.set i q,n',u'⟩:=by
 have hl:(x.t.set i q).length=x.t.length:=by simp
 have key:∀j,gl (x.t.set i q) j=if i=j then q else gl x.t j:=by
  intro j;by_cases e:i=j
  ·subst e;rw[if_pos rfl,tK hi]
  ·rw[if_neg e,yE e]
 have bb:∀j,bare (gl x.t j)=false->bare (gl (x.t.set i q) j)=false:=by
  intro j hj;rw[key];split
  ·exact hb
  ·exact hj
 refine⟨by rw[hl];exact h.lo,by rw[hl];exact h.hi,hn,hu,by rw[hl];exact hh,fun j hj=>?_,fun a b ha hb' h1 h2 h3=>?_,fun j hj hj2=>?_⟩
 ·rw[hl]at hj;rw[key];split
  ·exact hs
  ·exact h.size j hj
 ·simp only[hl]at ha hb';simp only[key]at h1 h2 h3;by_cases e1:i=a
  ·by_cases e2:i=b
   ·omega
   ·rw[if_pos e1]at h1 h3;rw[if_neg e2]at h2 h3;exact absurd h3.symm (hd h1 b hb' (fun e=>e2 e.symm) h2)
  ·by_cases e2:i=b
   ·rw[if_neg e1]at h1 h3;rw[if_pos e2]at h2 h3;exact absurd h3 (hd h2 a ha (fun e=>e1 e.symm) h1)
   ·rw[if_neg e1]at h1 h3;rw[if_neg e2]at h2 h3;exact h.Sq a b ha hb' h1 h2 h3
 ·simp only[hl]at hj ⊢;simp only[key]at hj2;by_cases e:i=j
  ·rw[if_pos e]at hj2;subst e;obtain⟨d,h1,h2,h3⟩:=hp hj2;rw[show gl (x.t.set i q) i=q by rw[key,if_pos rfl]];exact⟨d,h1,h2,fun k hk=>bb _ (h3 k hk)⟩
  ·rw[if_neg e]at hj2;obtain⟨d,h1,h2,h3⟩:=h.path j hj hj2;rw[show gl (x.t.set i q) j=gl x.t j by rw[key,if_neg e]];exact⟨d,h1,h2,fun k hk=>bb _ (h3 k hk)⟩
theorem Cr{p:bl}(h:p.has=true):busy p=true:=by simp[busy,bare,h]
theorem O3{x:cM}{l:List (ByteArray×Int)}{k:ByteArray}{p q:Int}(h:Has x ((k,q)::l)):Has (lW x k p) ((k,p)::l)/\ni x k=q/\0<=(bD x.t k).1:=by
 obtain⟨i,h1,h2,h3,h4,h5⟩:=h.mem List.mem_cons_self;have e:lW x k p=⟨x.t.set i { gl x.t i with pos:=p },x.n,x.used⟩:=by
  unfold lW;rw[h5];simp
 have hk:(ee x.t).Perm ((k,q)::(ee (x.t.take i)++ee (x.t.drop (i+1)))):=by
  rw[xS h1,h2];have:mC (gl x.t i)=(k,q):=by simp[mC,h3,h4]
  rw[if_pos rfl,this];exact List.perm_middle
 have hk':(ee (x.t.set i { gl x.t i with pos:=p })).Perm ((k,p)::(ee (x.t.take i)++ee (x.t.drop (i+1)))):=by
  rw[Cq h1];simp only[h2,if_true,mC,h3];exact List.perm_middle
 have hl:(ee (x.t.take i)++ee (x.t.drop (i+1))).Perm l:=(List.perm_cons _).1 (hk.symm.trans h.perm);refine⟨⟨?_,?_⟩,by unfold ni;rw[h5];simp[h4],by rw[h5];simp⟩
 ·rw[e];refine h.inv.set (q:={ gl x.t i with pos:=p }) h1 (by simp[bare,h2]) (h.inv.size i h1) (fun _ j hj hne hj2 he=>hne (h.inv.Sq j i hj h1 hj2 h2 he)) (fun _=>h.inv.path i h1 h2) ?_ ?_ h.inv.half
  ·rw[h.inv.n,hk.length_eq,hk'.length_eq];rfl
  ·rw[h.inv.used,Lw h1,GH h1,Cr h2,Cr (p:={ gl x.t i with pos:=p }) h2]
 ·rw[e];exact hk'.trans (hl.cons _)
theorem Ny{x:cM}{l:List (ByteArray×Int)}{k:ByteArray}{p:Int}(h:Has x l)(hk:k∉l.map Prod.fst)(hs:k.size<=aq)(hr:2*x.used<x.t.length) :
 Has (lW x k p) ((k,p)::l)/\ni x k=0/\(bD x.t k).1<0/\0<=(bD x.t k).2/\(lW x k p).used<=x.used+1/\(lW x k p).n=x.n+1:=by
 obtain⟨d,i,h1,h2,h3,h4,h5,h6⟩:=Cp (by have:=h.inv.lo;omega) (h.none hk) h.inv.room;have e:lW x k p=⟨x.t.set i ⟨k,p,true,false⟩,x.n+1,if(gl x.t i).gone then x.used else x.used+1⟩:=by
  unfold lW;rw[h6];simp
 have hp0:ee x.t=ee (x.t.take i)++ee (x.t.drop (i+1)):=by rw[xS h3,h4];simp
 have hp1:(ee (x.t.set i ⟨k,p,true,false⟩)).Perm ((k,p)::ee x.t):=by
  rw[Cq h3,hp0];simp only[if_true,mC];exact List.perm_middle
 have hb:busy (gl x.t i)=(gl x.t i).gone:=by simp[busy,bare,h4]
 refine⟨⟨?_,?_⟩,by unfold ni;rw[h6];simp,by rw[h6];simp,by rw[h6];simp,by rw[e];simp only;split<;>omega,by rw[e]⟩
 ·rw[e];refine h.inv.set (q:=⟨k,p,true,false⟩) h3 rfl hs (fun _ j hj hne hj2 he=>?_) (fun _=>⟨d,h1,h2,fun k hk=>by simp[bare,h5 k hk]⟩) ?_ ?_ (by split<;>omega)
  ·have:=h.none hk j hj;rw[vl.2 ⟨hj2,he⟩]at this;cases this
  ·rw[hp1.length_eq,List.length_cons,h.inv.n]
  ·rw[GH h3,h.inv.used,Lw h3,hb];cases hg:(gl x.t i).gone<;>simp[busy,bare]<;>omega
 ·rw[e];exact hp1.trans (h.perm.cons _)
def vL:bl:=⟨.empty,0,false,true⟩
def iZ(x:cM)(k:ByteArray):cM:=if 0<=(bD x.t k).1 then⟨x.t.set (bD x.t k).1.toNat vL,x.n-1,x.used⟩else x
theorem Cs{x:cM}{l:List (ByteArray×Int)}{k:ByteArray}{q:Int}(h:Has x ((k,q)::l)):Has (iZ x k) l/\0<=(bD x.t k).1:=by
 obtain⟨i,h1,h2,h3,h4,h5⟩:=h.mem List.mem_cons_self;have e:iZ x k=⟨x.t.set i vL,x.n-1,x.used⟩:=by unfold iZ;rw[h5];simp
 have hk:(ee x.t).Perm ((k,q)::(ee (x.t.take i)++ee (x.t.drop (i+1)))):=by
  rw[xS h1,h2];have:mC (gl x.t i)=(k,q):=by simp[mC,h3,h4]
  rw[if_pos rfl,this];exact List.perm_middle
 have hk':ee (x.t.set i vL)=ee (x.t.take i)++ee (x.t.drop (i+1)):=by rw[Cq h1];rfl
 have hl:(ee (x.t.take i)++ee (x.t.drop (i+1))).Perm l:=(List.perm_cons _).1 (hk.symm.trans h.perm);refine⟨⟨?_,?_⟩,by rw[h5];simp⟩
 ·rw[e];refine h.inv.set (q:=vL) h1 rfl (by unfold aq;decide) (fun hc=>by cases hc) (fun hc=>by cases hc) ?_ ?_ h.inv.half
  ·rw[h.inv.n,hk.length_eq,hk'];rfl
  ·rw[h.inv.used,Lw h1,GH h1,Cr h2];rfl
 ·rw[e,hk'];exact hl
theorem O4{x:cM}{l:List (ByteArray×Int)}{k:ByteArray}(h:Has x l)(hk:k∉l.map Prod.fst):iZ x k=x:=by
 unfold iZ;rw[(h.ru hk).1];rfl
def low(p:Int)(q:bl):Bool:=q.has&&decide (q.pos<p)
def ef(t:List bl)(p:Int):Nat->List bl
 |0=>t
 |i+1=>if low p (gl t i)then(ef t p i).set i vL else ef t p i
def dH(t:List bl)(p:Int):Nat->Nat
 |0=>0
 |i+1=>dH t p i+if low p (gl t i)then 1 else 0
def uz(x:cM)(p:Int):cM:=⟨ef x.t p x.t.length,x.n-dH x.t p x.t.length,x.used⟩
theorem iI(t:List bl)(p:Int):∀i,(ef t p i).length=t.length
 |0=>rfl
 |i+1=>by unfold ef;split<;>simp[iI t p i]
theorem zf(t:List bl)(p:Int):∀i,i<=t.length->∀j,gl (ef t p i) j=if j<i/\low p (gl t j)then vL else gl t j
 |0,_,j=>by simp[ef]
 |i+1,hi,j=>by
  have ih:=zf t p i (by omega) j;unfold ef;by_cases h:low p (gl t i)=true
  ·rw[if_pos h];by_cases hj:i=j
   ·subst hj;rw[tK (by rw[iI];omega),if_pos ⟨by omega,h⟩]
   ·rw[yE hj,ih]
    grind
  ·rw[if_neg h,ih];by_cases hj:i=j
   ·subst hj;rw[if_neg (by simp),if_neg (fun hc=>h hc.2)]
   ·grind
theorem Ah{x:cM}{l:List (ByteArray×Int)}(h:Has x l)(p:Int):∀i,i<=x.t.length ->
 Has ⟨ef x.t p i,x.n-dH x.t p i,x.used⟩ (((x.t.take i).filter fun q=>q.has&&!low p q).map mC++ee (x.t.drop i))/\dH x.t p i=((x.t.take i).filter (low p)).length
 |0,_=>⟨⟨h.inv,by simp[ef]⟩,rfl⟩
 |i+1,hi=>by
  obtain⟨⟨i1,i2⟩,i3⟩:=Ah h p i (by omega);have hT:=zf x.t p i (by omega) i;rw[if_neg (by simp)]at hT;have hLen:=iI x.t p i;rw[gh (by omega),List.filter_append,List.filter_append,List.map_append,List.length_append,<- i3];have hdrop:ee (x.t.drop i)=(if(gl x.t i).has then[mC (gl x.t i)]else[])++ee (x.t.drop (i+1)):=by
   rw[<- oT,bN (by omega),List.getElem_cons_drop]
  rw[hdrop]at i2;by_cases hl:low p (gl x.t i)=true
  ·have hh:(gl x.t i).has=true:=by simp[low]at hl;exact hl.1
   have e1:ef x.t p (i+1)=(ef x.t p i).set i vL:=if_pos hl;have e2:dH x.t p (i+1)=dH x.t p i+1:=by show dH x.t p i+(if low p (gl x.t i)=true then 1 else 0)=_;rw[if_pos hl]
   have h0:Has ⟨ef x.t p i,x.n-dH x.t p i,x.used⟩ ((mC (gl x.t i))::(((x.t.take i).filter fun q=>q.has&&!low p q).map mC++ee (x.t.drop (i+1)))):=by
    refine⟨i1,i2.trans ?_⟩;rw[if_pos hh];exact List.perm_middle
   have h1:=Cs (x:=⟨ef x.t p i,x.n-dH x.t p i,x.used⟩) h0;have hf:=Ag i1 (i:=i) (by simp only;omega) (by simp only;rw[hT];exact hh);simp only at hf;rw[hT]at hf;have e3:iZ ⟨ef x.t p i,x.n-dH x.t p i,x.used⟩ (gl x.t i).key=⟨(ef x.t p i).set i vL,x.n-(dH x.t p i+1),x.used⟩:=by
    unfold iZ;simp only;rw[hf];simp;omega
   refine⟨?_,by rw[e2];simp[hl]⟩;rw[e1,e2,<- e3];simp only[List.filter_cons,hl,hh,Bool.not_true,Bool.and_false,List.filter_nil,List.map_nil,List.append_nil,Bool.false_eq_true,if_false];exact h1.1
  ·have e1:ef x.t p (i+1)=ef x.t p i:=if_neg hl;have e2:dH x.t p (i+1)=dH x.t p i:=by show dH x.t p i+(if low p (gl x.t i)=true then 1 else 0)=_;rw[if_neg hl];rfl
   refine⟨⟨?_,?_⟩,by rw[e2];simp[hl]⟩
   ·rw[e1,e2];exact i1
   ·rw[e1];refine i2.trans (.of_eq ?_);cases hh:(gl x.t i).has<;>simp[hl,hh]
theorem Eu{α:Type}(f:α->Bool):∀l:List α,l.length=(l.filter f).length+(l.filter fun e=>!f e).length
 |[]=>rfl
 |a::r=>by
  have:=Eu f r;cases h:f a<;>simp[List.filter_cons,h]<;>omega
theorem O5{x:cM}{l:List (ByteArray×Int)}(h:Has x l)(p:Int):Has (uz x p) (l.filter fun e=>decide (p<=e.2))/\dH x.t p x.t.length=l.length-(l.filter fun e=>decide (p<=e.2)).length/\dH x.t p x.t.length<=l.length:=by
 obtain⟨h1,h2⟩:=Ah h p x.t.length (Nat.le_refl _);rw[List.take_length]at h1 h2;rw[List.drop_length]at h1;have e:((x.t.filter fun q=>q.has&&!low p q).map mC++ee [])=(ee x.t).filter fun e=>decide (p<=e.2):=by
  unfold ee;rw[List.filter_map,List.filter_filter];simp only[List.filter_nil,List.map_nil,List.append_nil];congr 1;apply List.filter_congr;intro q _;simp only[Function.comp,low,mC];by_cases hc:q.pos<p
  ·have hd:¬p<=q.pos:=by omega
   cases hq:q.has<;>simp[hc,hd]
  ·have hd:p<=q.pos:=by omega
   cases hq:q.has<;>simp[hc,hd]
 rw[e]at h1;have hp:=(h.perm.filter fun e=>decide (p<=e.2))
 have e2:(x.t.filter (low p)).length=((ee x.t).filter fun e=>!decide (p<=e.2)).length:=by
  unfold ee;rw[List.filter_map,List.length_map,List.filter_filter];congr 1;apply List.filter_congr;intro q _;simp only[Function.comp,low,mC];by_cases hc:q.pos<p
  ·have hd:¬p<=q.pos:=by omega
   cases hq:q.has<;>simp[hc,hd]
  ·have hd:p<=q.pos:=by omega
   cases hq:q.has<;>simp[hc,hd]
 have e3:=Eu (fun e:ByteArray×Int=>decide (p<=e.2)) (ee x.t);refine⟨h1.xU hp,?_,?_⟩
 ·rw[h2,e2,<- hp.length_eq,<- h.perm.length_eq];omega
 ·rw[h2,e2,<- h.perm.length_eq];omega
theorem vm{n:Nat}(h1:16<=n)(h2:n<=40000):Has (bH n) []:=by
 have key:∀i,i<n->gl (List.replicate n (⟨.empty,0,false,false⟩:bl)) i=⟨.empty,0,false,false⟩:=fun i hi=>sD hi;have he:ee (List.replicate n (⟨.empty,0,false,false⟩:bl))=[]:=by simp[ee]
 refine⟨⟨by simpa[bH]using h1,by simpa[bH]using h2,?_,?_,by simp only[bH,List.length_replicate];omega,fun i hi=>?_,fun i j hi hj h=>?_,fun i hi h=>?_⟩,by simp only[bH];rw[he]⟩
 ·simp only[bH];rw[he];rfl
 ·simp[bH,List.countP_replicate,busy,bare]
 ·simp only[bH,List.length_replicate]at hi ⊢;rw[key i hi];simp only[aq];decide
 ·simp only[bH,List.length_replicate]at hi h;rw[key i hi]at h;cases h
 ·simp only[bH,List.length_replicate]at hi h;rw[key i hi]at h;cases h
theorem Ct{x:cM}(h:Inv x){i:Nat}(hi:i<x.t.length)(hh:(gl x.t i).has=true):(gl x.t i).key∉(ee (x.t.take i)).map Prod.fst:=by
 intro hm;obtain⟨⟨k,p⟩,h1,h2⟩:=List.mem_map.1 hm;obtain⟨j,h3,h4,h5,_⟩:=xT.1 h1;rw[List.length_take]at h3;rw[Nd (by omega)]at h4 h5;have:=h.Sq j i (by omega) hi h4 hh (h5.trans h2);omega
theorem grow_step{x:cM}(h:Inv x)(hn:x.n<10000):∀i,i<=x.t.length ->
 Has (dN x.t (bH (max 16 (4*x.n))) i) (ee (x.t.take i))/\(dN x.t (bH (max 16 (4*x.n))) i).used<=(dN x.t (bH (max 16 (4*x.n))) i).n
 |0,_=>⟨by simpa[dN,ee]using vm (n:=max 16 (4*x.n)) (by omega) (by omega),Nat.le_refl _⟩
 |i+1,hi=>by
  obtain⟨h1,h2⟩:=grow_step h hn i (by omega);have hT:=gh (l:=x.t) (i:=i) (by omega);rw[hT,xR];unfold dN;by_cases hh:(gl x.t i).has=true
  ·rw[if_pos hh];have hcount:(ee (x.t.take i)).length+1<=x.n:=by
    rw[h.n,xS (show i<x.t.length by omega),if_pos hh];simp
   have hlen:(dN x.t (bH (max 16 (4*x.n))) i).t.length=max 16 (4*x.n):=by rw[kZ];simp[bH]
   obtain⟨g1,g2,g3,g4,g5,g6⟩:=Ny (p:=(gl x.t i).pos) h1 (Ct h (by omega) hh) (h.size i (by omega)) (by rw[hlen];have:=h1.n;omega);refine⟨g1.xU ?_,by omega⟩;rw[oT,if_pos hh];simp only[ee,List.filter_nil,List.map_nil,List.append_nil];exact(List.perm_append_singleton _ _).symm
  ·rw[if_neg hh,oT,if_neg hh];simp only[ee,List.filter_nil,List.map_nil,List.append_nil];exact⟨h1,h2⟩
theorem Sr{x:cM}(h:Inv x)(hn:x.n<10000):∀i,i<x.t.length->(gl x.t i).has=true->2*(dN x.t (bH (max 16 (4*x.n))) i).used<max 16 (4*x.n)/\(dN x.t (bH (max 16 (4*x.n))) i).n<100000 /\
 ((bD (dN x.t (bH (max 16 (4*x.n))) i).t (gl x.t i).key).1<0->0<=(bD (dN x.t (bH (max 16 (4*x.n))) i).t (gl x.t i).key).2):=by
 intro i hi hh;obtain⟨h1,h2⟩:=grow_step h hn i (by omega);have hcount:(ee (x.t.take i)).length+1<=x.n:=by
  rw[h.n,xS hi,if_pos hh];simp
 have:=h1.n;exact⟨by omega,by omega,fun _=>(h1.ru (Ct h hi hh)).2⟩
theorem Ss{x:cM}{l:List (ByteArray×Int)}(h:Has x l)(hn:x.n<10000):Has (lp x) l/\2*(lp x).used<(lp x).t.length:=by
 obtain⟨h1,h2⟩:=grow_step h.inv hn x.t.length (Nat.le_refl _);rw[List.take_length]at h1;refine⟨h1.xU h.perm,?_⟩;have hlen:(lp x).t.length=max 16 (4*x.n):=by unfold lp;rw[kZ];simp[bH]
 have e1:=h1.n;have e2:=h.inv.n;rw[hlen];unfold lp;omega
def roomy(x:cM):cM:=if x.t.length<=2*x.used then lp x else x
def tj(x:cM)(k:ByteArray)(p:Int):cM:=lW (roomy x) k p
theorem zg{x:cM}{l:List (ByteArray×Int)}(h:Has x l)(hn:x.n<10000):Has (roomy x) l/\2*(roomy x).used<(roomy x).t.length:=by
 unfold roomy;split
 ·exact Ss h hn
 ·exact⟨h,by omega⟩
theorem Lz{x:cM}{l:List (ByteArray×Int)}{k:ByteArray}{p q:Int}(h:Has x ((k,q)::l))(hn:x.n<10000):Has (tj x k p) ((k,p)::l)/\ni (roomy x) k=q :=
 let h1:=zg h hn
 let h2:=O3 (p:=p) h1.1
 ⟨h2.1,h2.2.1⟩
theorem St{x:cM}{l:List (ByteArray×Int)}{k:ByteArray}{p:Int}(h:Has x l)(hn:x.n<10000)(hk:k∉l.map Prod.fst)(hs:k.size<=aq):Has (tj x k p) ((k,p)::l)/\ni (roomy x) k=0 :=
 let h1:=zg h hn
 let h2:=Ny (p:=p) h1.1 hk hs h1.2
 ⟨h2.1,h2.2.1⟩
theorem Has.free{x:cM}{l:List (ByteArray×Int)}(h:Has x l)(k:ByteArray)(hf:(bD x.t k).1<0):0<=(bD x.t k).2:=by
 by_cases hk:k∈l.map Prod.fst
 ·obtain⟨⟨k',p⟩,h1,rfl⟩:=List.mem_map.1 hk;obtain⟨i,_,_,_,_,e⟩:=h.mem h1;rw[e]at hf;simp at hf;omega
 ·exact(h.ru hk).2
def wM(x:cM)(k:ByteArray):Int×Bool:=if 0<=(bD x.t k).1 then((gl x.t (bD x.t k).1.toNat).pos,true)else(0,false)
theorem Ev{x:cM}{l:List (ByteArray×Int)}(h:Has x l){k:ByteArray}{p:Int}(hm:(k,p)∈l):wM x k=(p,true):=by
 obtain⟨i,_,_,_,h4,e⟩:=h.mem hm;unfold wM;rw[e];simp[h4]
theorem get_none{x:cM}{l:List (ByteArray×Int)}(h:Has x l){k:ByteArray}(hm:k∉l.map Prod.fst):wM x k=(0,false):=by
 unfold wM;rw[(h.ru hm).1];rfl
noncomputable def BR:cF where
 α:=lV
 β:=Nat
 m:=2
 m':=3
 pre:=fun a=>Inv a.x/\a.x.n<9999/\a.key.size<=aq
 args:=fun a=>[.a (.ptr 0 0 0 0),.a (.str a.key),.a (.int .i64 a.pos)]
 hp:=fun a=>oG 0 1 a.x.t a.cap a.x.n a.x.used
 ro:=fun _=>[]
 post:=fun _ _=>True
 res:=fun a _=>.a (.int .i64 (ni (roomy a.x) a.key))
 cS:=fun a cap=>oG 0 2 (tj a.x a.key a.pos).t cap (tj a.x a.key a.pos).n (tj a.x a.key a.pos).used
def _root_.LA(y:Ix.lV)(z:Ix.cM)(v:Nat):=∃w:Ix.nL,Nw y w z v (∃u:Nat,Nx z w (Ix.roomy y.x) y (Ix.tj y.x y.key y.pos) (v=u)) (∃u:Nat,Em (Ix.roomy y.x) y z (Ix.tj y.x y.key y.pos) (v=u) (af z.used+(1:Int)) w) (∃u:Nat,Em (Ix.roomy y.x) y z (Ix.tj y.x y.key y.pos) (v=u) (af z.used) w)
def _root_.zh(y:Ix.lV):=Ix.Inv y.x/\y.x.n<9999/\bA y.key<=aq
theorem FJ:fnBody (Y Tryz.prog) [(168,El),(167,Sm)] 123 BR fun _=>[]:=fnBody.of (p :=
 ∀y:Ix.lV,zh y->ai (af y.x.used)->sj ((2:Int)*af y.x.used) (af (bI y.x)) (∃z:Ix.Af,ag (kQ (bI y.x) z.x (y.cap=z.cap) (af y.x.n) (af y.x.used) (dU y.x) (GF z/\∀u:Nat,True->LA y (Ix.lp z.x) u))) (LA y y.x y.cap)) (by kernel_rfl) (by
 delta aG bB ai bt bI cn af bA bG aF dL aU bn bP Nw Em aI Nx kR kQ bF wL aP fR GF cO LA nj ag zc dV bu dU qJ bC sj iH dR zh
 try dsimp -iota -proj only
 intro a h;obtain⟨h1,h2,h3⟩:=h;obtain⟨g1,g2⟩:=zg (Has.mk h1 (List.Perm.refl _)) (show a.x.n<10000 by omega);have k1:=h1.lo;have k2:=h1.hi;have k3:=h1.half;simp only[Nat.zero_add,bQ];refine fun _=>⟨by omega,fun hc=>?_,fun hc=>?_⟩
 ·have hr:roomy a.x=lp a.x:=if_pos (by simp at hc;omega);have hpx:tj a.x a.key a.pos=lW (lp a.x) a.key a.pos:=by unfold tj;rw[hr]
  have hn:(lp a.x).n=a.x.n:=by rw[hr]at g1;rw[g1.n,h1.n]
  have hm:=Sr h1 (show a.x.n<10000 by omega);simp only[hr,hpx]at g1 g2 ⊢;refine⟨⟨a.x,a.cap⟩,?_⟩;dsimp only
  and_intros<;>first|exact trivial|rfl|omega|exact aj.refl _ _ _|exact h1.size|exact hm|skip
  refine fun cap _=>⟨⟨(lp a.x).t,cap,(lp a.x).n,(lp a.x).used,a.key⟩,?_⟩
  generalize lp a.x=y at *;have m1:=g1.inv.lo;have m2:=g1.inv.hi;have m3:=g1.inv.half;obtain⟨l1,l2⟩:=uy (t:=y.t) a.key (by omega);have l3:=g1.free a.key;have hl:=nM y a.key a.pos;have yes:0<=(bD y.t a.key).1->lW y a.key a.pos={ y with t:=y.t.set (bD y.t a.key).1.toNat { gl y.t (bD y.t a.key).1.toNat with pos:=a.pos } }:=fun e=>if_pos e;have no:¬0<=(bD y.t a.key).1->lW y a.key a.pos=⟨y.t.set (bD y.t a.key).2.toNat ⟨a.key,a.pos,true,false⟩,y.n+1,if(gl y.t (bD y.t a.key).2.toNat).gone then y.used else y.used+1⟩:=fun e=>if_neg e;dsimp only
  repeat' (first|intro _|apply And.intro|apply Exists.intro (cap:Nat))
  all_goals(try with_reducible rfl)
  all_goals(try simp only[decide_eq_true_eq,decide_eq_false_iff_not,Bool.not_eq_true',Bool.not_eq_false']at *)
  all_goals(try exact trivial)
  all_goals(try omega)
  all_goals(try(grind [ni]))
  all_goals(try(with_reducible exact aj.refl _ _ _))
  all_goals(first|(rw[yes (by assumption)];refine .set _ (by omega) (fun i hi=>by simp only[gG hi]) ?_;simp only[iR];rfl)|(rw[no (by assumption)];refine .set _ (by omega) (fun i hi=>by simp only[gG hi]) ?_;simp only[iR];rfl))
 ·have hr:roomy a.x=a.x:=if_neg (by simp at hc;omega);have hpx:tj a.x a.key a.pos=lW a.x a.key a.pos:=by unfold tj;rw[hr]
  simp only[hr,hpx]at g1 g2 ⊢;refine⟨⟨a.x.t,a.cap,a.x.n,a.x.used,a.key⟩,?_⟩;have hn:a.x.n=a.x.n:=rfl;obtain⟨cap,hcap⟩:∃cap,cap=a.cap:=⟨_,rfl⟩
  rw[<- hcap];generalize hy:a.x=y at *;have m1:=g1.inv.lo;have m2:=g1.inv.hi;have m3:=g1.inv.half;obtain⟨l1,l2⟩:=uy (t:=y.t) a.key (by omega);have l3:=g1.free a.key;have hl:=nM y a.key a.pos;have yes:0<=(bD y.t a.key).1->lW y a.key a.pos={ y with t:=y.t.set (bD y.t a.key).1.toNat { gl y.t (bD y.t a.key).1.toNat with pos:=a.pos } }:=fun e=>if_pos e;have no:¬0<=(bD y.t a.key).1->lW y a.key a.pos=⟨y.t.set (bD y.t a.key).2.toNat ⟨a.key,a.pos,true,false⟩,y.n+1,if(gl y.t (bD y.t a.key).2.toNat).gone then y.used else y.used+1⟩:=fun e=>if_neg e;dsimp only
  repeat' (first|intro _|apply And.intro|apply Exists.intro (cap:Nat))
  all_goals(try with_reducible rfl)
  all_goals(try simp only[decide_eq_true_eq,decide_eq_false_iff_not,Bool.not_eq_true',Bool.not_eq_false']at *)
  all_goals(try exact trivial)
  all_goals(try omega)
  all_goals(try(grind [ni]))
  all_goals(try(with_reducible exact aj.refl _ _ _))
  all_goals(first|(rw[yes (by assumption)];refine .set _ (by omega) (fun i hi=>by simp only[gG hi]) ?_;simp only[iR];rfl)|(rw[no (by assumption)];refine .set _ (by omega) (fun i hi=>by simp only[gG hi]) ?_;simp only[iR];rfl)))
structure uA where
 x:cM
 cap:Nat
 key:ByteArray
noncomputable def II:cF where
 α:=uA
 β:=Unit
 m:=2
 m':=2
 pre:=fun a=>Inv a.x/\a.key.size<=aq
 args:=fun a=>[.a (.ptr 0 0 0 0),.a (.str a.key)]
 hp:=fun _=>[]
 ro:=fun a=>oG 0 1 a.x.t a.cap a.x.n a.x.used
 post:=fun _ _=>True
 res:=fun a _=>.lY [.a (.int .i64 (wM a.x a.key).1),.a (.bool (wM a.x a.key).2)]
 cS:=fun _ _=>[]
theorem FK:fnBody (Y Tryz.prog) [(168,El)] 212 II fun _=>[]:=fnBody.of (p :=
 ∀y:Ix.uA,Ix.Inv y.x/\bA y.key<=aq->∃z:Ix.nL,wL y.key z y.x y.cap (aA (Ix.bD z.t z.key).fst 0) (Exists (ay ((0:Int)=(Ix.wM y.x y.key).fst/\fM (Ix.wM y.x y.key).snd True True))) (Ix.bD z.t z.key).fst (ai (gl y.x.t (qJ z)).pos->Exists (ay ((gl y.x.t (qJ z)).pos=(Ix.wM y.x y.key).fst/\bg (true=(Ix.wM y.x y.key).snd))))) (by kernel_rfl) (by
 delta aG bB ai bI aA cn af bA aF aU bn fM aI wL ay nj ag bg bu dU qJ iH
 try dsimp -iota -proj only
 intro a h;obtain⟨h1,h2⟩:=h;have k1:=h1.lo;have k2:=h1.hi;obtain⟨l1,l2⟩:=uy (t:=a.x.t) a.key (by omega);refine⟨⟨a.x.t,a.cap,a.x.n,a.x.used,a.key⟩,?_⟩;simp only[Nat.zero_add,bQ]
 repeat' (first|intro _|apply And.intro|apply Exists.intro ())
 all_goals(try with_reducible rfl)
 all_goals(try simp only[decide_eq_true_eq,decide_eq_false_iff_not]at *)
 all_goals(try exact trivial)
 all_goals(try omega)
 all_goals(try(with_reducible exact aj.refl _ _ _))
 all_goals(try(grind [wM])))
noncomputable def Nz:cF where
 α:=uA
 β:=Unit
 m:=2
 m':=2
 pre:=fun a=>Inv a.x/\a.x.n<10000/\a.key.size<=aq/\(0<=(bD a.x.t a.key).1->1<=a.x.n)
 args:=fun a=>[.a (.ptr 0 0 0 0),.a (.str a.key)]
 hp:=fun a=>oG 0 1 a.x.t a.cap a.x.n a.x.used
 ro:=fun _=>[]
 post:=fun _ _=>True
 res:=fun a _=>.a (.bool (decide (0<=(bD a.x.t a.key).1)))
 cS:=fun a _=>oG 0 1 (iZ a.x a.key).t a.cap (iZ a.x a.key).n (iZ a.x a.key).used
def _root_.zi(y:Ix.uA):=Ix.Inv y.x/\y.x.n<10000/\bA y.key<=aq/\((0:Int)<=(Ix.bD y.x.t y.key).fst->1<=y.x.n)
def _root_.GI(x:Ix.cM)(y:Int)(z:Prop)(u:Ix.cM)(v:Nat)(w:Nat->Nat->Value):=nc (af x.n) y (Exists (ay (z/\kQ (bI x) u (eM v) (af x.n-y) (af x.used) w (True/\True))))
theorem Su:fnBody (Y Tryz.prog) [(168,El)] 180 Nz fun _=>[]:=fnBody.of (p :=
 ∀y:Ix.uA,zi y->∃z:Ix.nL,wL y.key z y.x y.cap (aA (Ix.bD z.t z.key).fst 0) (Exists (ay (fM (cO 0 (Ix.bD y.x.t y.key).fst) (ag (bI y.x=bI (Ix.iZ y.x y.key)/\eM y.cap)) (bu y.x.n (Ix.iZ y.x y.key).n/\bu y.x.used (Ix.iZ y.x y.key).used/\bg (bB (bI (Ix.iZ y.x y.key)) (bI y.x) 4 (dU y.x) (dU (Ix.iZ y.x y.key))))))) (Ix.bD z.t z.key).fst (GI y.x 1 (true=cO 0 (Ix.bD y.x.t y.key).fst) (Ix.iZ y.x y.key) y.cap (jT (dU y.x) (qJ z) 0 (dV cV 0 (bP fR pJ))))) (by kernel_rfl) (by
 delta aG bB ai bt bI aA cn af bA cV bG aF dL aU bn fM bP eM aI kQ bF wL ay fR cO nj ag zi pJ bg dV nc bu dU qJ iH GI dR
 try dsimp -iota -proj only
 intro a h;obtain⟨h1,h2,h3,h4⟩:=h;have k1:=h1.lo;have k2:=h1.hi;obtain⟨l1,l2⟩:=uy (t:=a.x.t) a.key (by omega);have yes:0<=(bD a.x.t a.key).1->iZ a.x a.key=⟨a.x.t.set (bD a.x.t a.key).1.toNat vL,a.x.n-1,a.x.used⟩:=fun e=>if_pos e;have no:¬0<=(bD a.x.t a.key).1->iZ a.x a.key=a.x:=fun e=>if_neg e;refine⟨⟨a.x.t,a.cap,a.x.n,a.x.used,a.key⟩,?_⟩;simp only[Nat.zero_add,bQ]
 repeat' (first|intro _|apply And.intro|apply Exists.intro ())
 all_goals(try with_reducible rfl)
 all_goals(try simp only[decide_eq_true_eq,decide_eq_false_iff_not]at *)
 all_goals(try exact trivial)
 all_goals(try omega)
 all_goals(try(with_reducible exact aj.refl _ _ _))
 all_goals(try(grind))
 all_goals(first|(rw[yes (by omega)];refine .set _ (by omega) (fun i hi=>by simp only[gG hi]) ?_;simp only[iR];rfl)|(rw[no (by omega)];exact aj.refl _ _ _)|skip))
structure LB where
 x:cM
 cap:Nat
 pos:Int
noncomputable def LC:cF where
 α:=LB
 β:=Unit
 m:=2
 m':=2
 pre:=fun a=>Inv a.x/\a.x.n<10000/\dH a.x.t a.pos a.x.t.length<=a.x.n
 args:=fun a=>[.a (.ptr 0 0 0 0),.a (.int .i64 a.pos)]
 hp:=fun a=>oG 0 1 a.x.t a.cap a.x.n a.x.used
 ro:=fun _=>[]
 post:=fun _ _=>True
 res:=fun a _=>.a (.int .i64 (dH a.x.t a.pos a.x.t.length))
 cS:=fun a _=>oG 0 1 (uz a.x a.pos).t a.cap (uz a.x a.pos).n (uz a.x a.pos).used
def WY(a:LB):An:=.flat 5 Nat (fun s i=>((s.at_ (s.oQ (s.tg 0) 0) (.arr 251 XF a.x.t.length (aa uv (ef a.x.t a.pos i)))).int 15 i).int 5 (dH a.x.t a.pos i))
 (fun _ i=>i<=a.x.t.length) (fun _ i=>a.x.t.length-i)
def _root_.vM(y:Bool)(z:Int)(u:Bool)(v x:Prop):=aG y (ai z->aG u v x) x
def _root_.ja(x y:Nat)(z:Prop):=aW x/\aV x y/\bp z
def _root_.GJ(u:Int)(y:Ix.LB)(v:Int)(w:Nat->Nat->Value)(s:Nat->Prop):=∃z:Nat,u=af (Ix.dH y.x.t y.pos z)/\v=af z/\ja (bI y.x) y.cap (aR (ag (aH y.pos/\aV (bI y.x) y.cap/\cC (af y.x.n) (af y.x.used) (bB (bI y.x) (bI y.x) 4 w (aa Ix.uv (Ix.ef y.x.t y.pos z))) (s z))))
def _root_.GK(y:Ix.LB):=Ix.Inv y.x/\y.x.n<10000/\Ix.dH y.x.t y.pos (bI y.x)<=y.x.n
theorem O6:fnBody (Y Tryz.prog) [] 163 LC fun a=>[(163,[WY a],[])]:=fnBody.of (p :=
 ∀y:Ix.LB,GK y->(GJ 0 y 0 (dU y.x) fun z=>z<=bI y.x/\True)/\∀z:Nat,gi z (bI y.x) (vM (Ix.bl.has (jH (Ix.ef y.x.t y.pos z) z)) (Ix.bl.pos (jH (Ix.ef y.x.t y.pos z) z)) (aA (Ix.bl.pos (jH (Ix.ef y.x.t y.pos z) z)) y.pos) (dJ z (bI y.x) (aP (Ix.dH y.x.t y.pos z)/\aP z/\GJ (af (Ix.dH y.x.t y.pos z)+(1:Int)) y (af z+(1:Int)) (jT (aa Ix.uv (Ix.ef y.x.t y.pos z)) (0+az z) 0 (dV cV 0 (bP fR pJ))) fun u=>bS u (bI y.x) z)) (aP z/\GJ (af (Ix.dH y.x.t y.pos z)) y (af z+(1:Int)) (aa Ix.uv (Ix.ef y.x.t y.pos z)) fun u=>bS u (bI y.x) z)) (GI y.x (af (Ix.dH y.x.t y.pos z)) (bu (Ix.dH y.x.t y.pos z) (Ix.dH y.x.t y.pos (bI y.x))) (Ix.uz y.x y.pos) y.cap (aa Ix.uv (Ix.ef y.x.t y.pos z)))) (by kernel_rfl) (by
 delta aG bB cC ai bt bR az aH bI aA cn af bO cV bG aF dL aU bn bP eM vM jt ja aV bp bS kQ bF ay aP GJ aW fR aR bf ag dJ pJ dV nc bu dU gi GI dR jH GK
 try dsimp -iota -proj only
 intro a h;obtain⟨h1,h2,h3⟩:=h;have k1:=h1.lo;have k2:=h1.hi;simp only[Nat.zero_add,bQ];have hlen:=iI a.x.t a.pos;refine⟨⟨0,?_⟩,fun i hi=>?_⟩
 ·and_intros<;>(first|exact trivial|rfl|omega|assumption|exact aj.refl _ _ _|(simp only[bQ];omega)|(simp;done)|(simp;omega)|grind)
 ·have hat:=zf a.x.t a.pos i hi i;rw[if_neg (by simp)]at hat;have sy:low a.pos (gl a.x.t i)=true->ef a.x.t a.pos (i+1)=(ef a.x.t a.pos i).set i vL:=fun e=>if_pos e;have sn:¬low a.pos (gl a.x.t i)=true->ef a.x.t a.pos (i+1)=ef a.x.t a.pos i:=fun e=>if_neg e;have ny:low a.pos (gl a.x.t i)=true->dH a.x.t a.pos (i+1)=dH a.x.t a.pos i+1:=fun e=>by show _+(if _ then 1 else 0)=_;rw[if_pos e]
  have nn:¬low a.pos (gl a.x.t i)=true->dH a.x.t a.pos (i+1)=dH a.x.t a.pos i:=fun e=>by show _+(if _ then 1 else 0)=_;rw[if_neg e];rfl
  have hn:∀i,dH a.x.t a.pos i<=i:=by
   intro i
   induction i with
   |zero=>exact Nat.le_refl _
   |succ i ih=>show _+(if _ then 1 else 0)<=_;split<;>omega
  have hn1:=hn i;have hfin:¬i<a.x.t.length->uz a.x a.pos=⟨ef a.x.t a.pos i,a.x.n-dH a.x.t a.pos i,a.x.used⟩/\dH a.x.t a.pos a.x.t.length=dH a.x.t a.pos i:=fun e=>by
   have:i=a.x.t.length:=by omega
   rw[this];exact⟨rfl,rfl⟩
  have ll:∀q:bl,low a.pos q=true↔q.has=true/\q.pos<a.pos:=fun q=>by simp[low]
  simp only[Int.toNat_natCast,hat]at *;clear hlen
  repeat' (first|intro _|apply And.intro|apply Exists.intro (i+1:Nat)|apply Exists.intro ())
  all_goals(try with_reducible rfl)
  all_goals(try simp only[decide_eq_true_eq,decide_eq_false_iff_not,iI]at *)
  all_goals(try exact trivial)
  all_goals(try omega)
  all_goals(try(with_reducible exact aj.refl _ _ _))
  all_goals first
   |(rw[ny ((ll _).2 ⟨by assumption,by assumption⟩)];done)
   |(rw[ny ((ll _).2 ⟨by assumption,by assumption⟩)];rfl)
   |rfl
   |(rw[nn (fun e=>by have:=(ll _).1 e;grind)];done)
   |(rw[sy ((ll _).2 ⟨by assumption,by assumption⟩)];refine .set _ (by rw[iI];omega) (fun i hi=>by simp only[gG hi]) ?_;simp only[iR];rfl)
   |(rw[sn (fun e=>by have:=(ll _).1 e;grind)];exact aj.refl _ _ _)
   |(rw[(hfin (by omega)).2];done)
   |(have hf:=hfin (by omega);rw[hf.1];first|rfl|omega|exact aj.refl _ _ _|(simp only;omega)|(simp only[iI];first|done|exact Nat.le_refl _)))
theorem AX:ak (Y Tryz.prog).G.X 123 BR:=aT fF FJ ⟨xQ,Sp,trivial⟩
theorem AY:ak (Y Tryz.prog).G.X 212 II:=aT fF FK ⟨xQ,trivial⟩
theorem Jd:ak (Y Tryz.prog).G.X 180 Nz:=aT fF Su ⟨xQ,trivial⟩
theorem O7:ak (Y Tryz.prog).G.X 163 LC:=aT fF O6 trivial
end Go.Proofs.YtfjgoonelcaggaaGreat.Ix
namespace Go.Proofs.YtfjgoonelcaggaaGreat
open Go.Sx
@[reducible] def xV(a b:Ix.cM)(v w:Nat)(p:Prop):Prop:=(0=0/\a.t.length=b.t.length/\v=w)/\(↑a.n:Int)=(↑b.n:Int)/\(↑a.used:Int)=(↑b.used:Int)/\(b.t.length<=a.t.length/\aj b.t.length 4 (aa Ix.uv a.t) (aa Ix.uv b.t))/\p
def fK:aD:=⟨.empty,.empty,0,false⟩
def aC:Option aD->List Int
 |none=>[2]
 |some x=>1::cW x
theorem uB(m:Nat)(n:Int)(h:2*n.toNat<128^(m+1)):(vi n).length<=m+1:=yL 9 m _ h
theorem Ew{x:aD}(h:fH x=true):(cW x).length<=x.key.size+x.val.size+10/\1<=(cW x).length:=by
 obtain⟨k1,k2,k3,k4⟩:=qk h;have a1:=uB 0 (x.key.size:Nat) (by simp;omega);have a2:=uB 1 (x.val.size:Nat) (by simp;omega);have a3:=uB 5 x.e (by simp;omega);have a4:(vi (if x.gone then 1 else 0)).length<=1:=by split<;>exact uB 0 _ (by decide)
 have a5:=(iD (x.key.size:Nat)).1;simp only[cW,eE,gI,List.flatMap_cons,List.flatMap_nil,List.append_nil,List.length_append,iO];omega
theorem lK{o:Option aD}(h:∀x,o=some x->fH x=true):1<=(aC o).length/\(aC o).length<=251:=by
 cases o with
 |none=>simp[aC]
 |some x =>
  have h1:=h x rfl;have:=Ew h1;have:=qk h1;simp only[aC,List.length_cons];omega
structure zj where
 o:Option aD
 cap:Nat
noncomputable def uC:cF where
 α:=zj
 β:=Unit
 m:=1
 m':=1
 pre:=fun a=>(∀x,a.o=some x->fH x=true)/\(aC a.o).length<=a.cap
 args:=fun a=>[.a (.slc 0 0 1 (aC a.o).length a.cap)]
 hp:=fun _=>[]
 ro:=fun a=>je 0 (aC a.o)
 post:=fun _ _=>True
 res:=fun a _=>.lY [.agg (BX (a.o.getD fK)),.a (.bool a.o.isSome)]
 cS:=fun _ _=>[]
def jh(x:Option aD):aD:=x.getD fK
def vN(y:Bool)(x:Option aD)(z:Prop):=aG y (Exists (ay (cV=aD.key (jh x)/\cV=aD.val (jh x)/\(0:Int)=aD.e (jh x)/\fM (aD.gone (jh x)) (false=x.isSome) (True/\True)))) z
def zk(x:Option aD)(z:Nat):=(∀y:aD,x=some y->aF (fH y))/\av (aC x)<=z
def uD(x:Nat)(y:Prop):=cn 0 x/\0<x/\y
def zl(y:aD)(x:Option aD)(z:Bool):=Exists (ay (pK y (jh x) (bg (z=x.isSome))))
theorem Ex:fnBody (Y Tryz.prog) [(210,U2)] 179 uC fun _=>[]:=fnBody.of (p :=
 ∀y:zj,zk y.o y.cap->vN (aA (af (av (aC y.o))) 1) y.o (uD (av (aC y.o)) (jD (gl (aC y.o) 0)->vN (gl (aC y.o) 0 != (1:Int)) y.o (dh 1 (av (aC y.o))/\∃z:DF,(1=z.r/\av (aC y.o)-1=av (cW z.x)/\y.cap-1=z.cap)/\bW z.l (aC y.o) cB/\FY z/\∀u:Nat,True->vN false y.o (bn 0 1/\0<1/\zl (gl [z.x] 0) y.o true))))) (by kernel_rfl) (by
 delta aG av bB aA cn af cV dZ aF bn fM bW pK vN tV ay jh bg jD zk uD dh zl FY
 try dsimp -iota -proj only
 rintro⟨o,cap⟩ ⟨h1,h2⟩;dsimp only at *;have hl:=lK h1;cases o with
 |none =>
  have e0:gl (aC none) 0=2:=rfl;refine⟨fun c=>by exfalso;have:=of_decide_eq_true c;omega,fun _=>?_⟩
  repeat refine kJ ?_
  rw[e0];exact fun _=>⟨fun _=>⟨(),by and_intros<;>first|trivial|rfl⟩,fun c=>absurd c (by decide)⟩
 |some x =>
  have e0:gl (aC (some x)) 0=1:=rfl;have e1:(aC (some x)).length=(cW x).length+1:=by simp[aC]
  have hm:=h1 x rfl;have e2:∀i,i<(cW x).length->gl (aC (some x)) (1+i)=gl (cW x) i:=fun i _=>by
   show gl (([1]:List Int)++cW x) (([1]:List Int).length+i)=_;rw[aY]
  refine⟨fun c=>by exfalso;have:=of_decide_eq_true c;omega,fun _=>?_⟩
  repeat refine kJ ?_
  rw[e0];refine fun _=>⟨fun c=>absurd c (by decide),fun _=>?_⟩
  repeat refine kJ ?_
  refine⟨DF.mk (aC (some x)) 1 (cap-1) x,?_⟩
  (repeat' (first|apply And.intro|(intro _)|apply Exists.intro ()))<;>first|exact cT|exact hm|exact e2 _ (by assumption)|rfl|(exfalso;simp at *;done)|skip)
theorem O8:ak (Y Tryz.prog).G.X 179 uC:=aT fF Ex ⟨Nj,trivial⟩
def A3(a:zj):Yc:=⟨5,[.int .u8],(aC a.o).length,a.cap,aa cB (aC a.o)⟩
noncomputable def NA:cF:=uC.Va A3
theorem Sv:lE (Y Tryz.prog).G.X uC 179:=AW fF (fun _=>xI fF (iW:=[(210,U2)]) ⟨Nj,trivial⟩) Ex.body
theorem LD:ak (Y Tryz.prog).G.X 179 NA:=fun _ _ _ h=>ve (I6 Sv ⟨rfl,fun _=>rfl,fun _=>rfl,fun _=>rfl,fun _ _=>rfl,fun _ _ p hp=>(by cases hp)⟩) h
structure nC where
 L:bL
 d:bw
 l:List (ByteArray×Int)
structure qR where
 H:PH
 y:gT
 x:Ix.cM
 cap:Nat
def DI(c lg dv ds ix it pl:Nat)(m:nC)(p:qR):List (Nat×Chunk) :=
 [(c,.obj 205 [.ptr lg 0 0 0,.ptr ix 0 0 0]),(lg,fI dv m.L p.y.lv)]++gn dv ds m.d++Ix.oG ix it p.x.t p.cap p.x.n p.x.used++[(pl,.ct p.H)]
structure iX(m:nC)(p:qR):Prop where
 log:bT p.H p.y m.L
 idx:Ix.Has p.x m.l
def tn(p p':qR):Prop:=∀z,p.H z≠none->z∉bq p.y->p'.H z=p.H z/\z∉bq p'.y
structure tq(m:nC)(n:Nat):Prop where
 log:ud m.L m.d
 xL:m.l.length<9000
def cu(L:bL):Int:=iP L.l L.next
def ig(m:nC)(body:List Int):nC:=⟨lI m.L body,nJ m.L m.d body,m.l.filter fun e=>decide (cu (lI m.L body)<=e.2)⟩
theorem Sw{L:bL}{d:bw}(ok:ud L d){body:List Int}(h:body.length<=300):(lI L body).l.length<=801:=by
 have:=(I1 (n:=body.length) ok h).xL;show((dr L body.length).l.set _ _).length<=801;rw[List.length_set];exact this
theorem A4{x:Ix.cM}{l:List (ByteArray×Int)}(h:Ix.Has x l):x.n=l.length:=h.n
structure Cu where
 m:nC
 p:qR
 body:List Int
 cap:Nat
noncomputable def Sy:cF where
 α:=Cu
 β:=qR
 m:=8
 m':=9
 pre:=fun a=>iX a.m a.p/\tq a.m a.body.length/\1<=a.body.length/\a.body.length<=300
 args:=fun a=>[.a (.ptr 0 0 0 0),.a (.slc 7 0 1 a.body.length a.cap)]
 hp:=fun a=>DI 0 1 2 3 4 5 6 a.m a.p
 ro:=fun a=>je 7 a.body
 post:=fun a b=>iX (ig a.m a.body) b/\tn a.p b
 res:=fun a _=>.lY [.a (.int .i64 a.m.L.next),.a (.lit .i64 0)]
 cS:=fun a b=>DI 0 1 2 3 4 5 8 (ig a.m a.body) b
def nN(v:bL)(u:nC)(w:gT)(z:qR)(s:bw)(t:Ix.cM)(f:Nat)(g h:Prop):=ax (fA v u.L w z.y (fV s u.d (xV t z.x f z.cap (g/\h))))
def oq(u x:bL)(v y:gT)(w z:PH)(s t:Prop):=tf u x v.lv y.lv (w=z/\(bT z y x/\s)/\t)
theorem Vh:fnBody (Y Tryz.prog) [(162,A1),(164,Ch),(163,Ix.LC)] 121 Sy fun _=>[]:=fnBody.of (p :=
 ∀z:Cu,iX z.m z.p/\tq z.m (av z.body)/\gJ z.body 300->∃u:qE,eo (cG z.body u.body z.cap u.cap) (tf z.m.L u.L z.p.y.lv u.y.lv (fV z.m.d u.d (z.p.H=u.H/\bW u.body z.body cB/\yX u/\∀s:mK,wF s u->∃w:DG,ax (oq (lI u.L u.body) w.L s.y w.y s.H w.H (bz w.L<1000) (aI (∃v:Ix.LB,ag (iP w.L.l w.L.next=v.pos/\xV z.p.x v.x z.p.cap v.cap (GK v/\aI (∃t:qR,u.L.next=z.m.L.next/\aR (s.H=t.H/\nN (lI u.L u.body) (ig z.m z.body) s.y t (nJ u.L u.d u.body) (Ix.uz v.x v.pos) v.cap (iX (ig z.m z.body) t/\tn z.p t) True))))))))))) (by kernel_rfl) (by
 delta av bB bR aH bI eo bW aI nN bz cG wC aR ag pO gJ oq ax yX fA wF GK
 try dsimp -iota -proj only
 rintro⟨⟨L,d,l⟩,⟨H,y,x,xc⟩,body,cap⟩ ⟨hat,hok,hb1,hb2⟩;obtain⟨hl,hx⟩:=hat;dsimp only at *;have hlen:(lI L body).l.length<=801:=Sw hok.log hb2;have hn:=A4 hx;have hfew:=hok.xL;dsimp only at hfew;obtain⟨q1,q3,q2⟩:=Ix.O5 hx (cu (lI L body));refine⟨qE.mk H y L d body cap,?_⟩
 and_intros<;>first|exact cT|exact hl|exact hok.log|skip
 rintro⟨H1,y1⟩ ⟨p1,p2⟩;dsimp only at p1 p2 ⊢;refine⟨DG.mk H1 y1 (lI L body),?_⟩
 and_intros<;>first|exact cT|exact p1|(dsimp only;omega)|skip
 intro _ _;refine⟨Ix.LB.mk x xc (cu (lI L body)),?_⟩;dsimp only
 and_intros<;>first|exact cT|exact hx.inv|rfl|(rw[hn];exact q2)|(rw[hn];omega)|skip
 intro _ _;refine⟨⟨H1,y1,Ix.uz x (cu (lI L body)),xc⟩,?_⟩
 and_intros<;>first|exact cT|exact⟨p1,q1⟩|exact p1|exact q1|exact p2|rfl|exact aj.refl _ _ _|exact Nat.le_refl _|skip)
theorem GL:ak (Y Tryz.prog).G.X 121 Sy:=aT fF Vh ⟨Ce,y3,Ix.O7,trivial⟩
def lS(l:List (ByteArray×Int))(k:ByteArray):List (ByteArray×Int):=l.filter fun e=>decide (e.1≠k)
def DJ(l:List (ByteArray×Int))(k:ByteArray)(p:Int):List (ByteArray×Int):=(k,p)::lS l k
theorem Ey{x:Ix.cM}{l:List (ByteArray×Int)}(h:Ix.Has x l):(l.map Prod.fst).Nodup:=by
 refine((h.perm.map Prod.fst).nodup_iff).1 ?_;unfold Ix.ee;rw[List.map_map];show List.Pairwise (·≠·) _;rw[List.pairwise_map,List.pairwise_filter,List.pairwise_iff_getElem];intro i j hi hj hij hp hq e;have:=h.inv.Sq i j hi hj (by rw[bN hi];exact hp) (by rw[bN hj];exact hq) (by rw[bN hi,bN hj];exact e);omega
theorem Cv{l:List (ByteArray×Int)}{k:ByteArray}(h:k∉l.map Prod.fst):lS l k=l:=by
 unfold lS;rw[List.filter_eq_self];intro e he;simp only[decide_eq_true_eq];exact fun e'=>h (List.mem_map.2 ⟨e,he,e'⟩)
theorem zm:∀ {l:List (ByteArray×Int)} {k:ByteArray} {q:Int},(l.map Prod.fst).Nodup->(k,q)∈l->l.Perm ((k,q)::lS l k)
 |[],_,_,_,h=>by cases h
 |a::l,k,q,hn,h=>by
  rw[List.map_cons,List.nodup_cons]at hn;by_cases e:a.1=k
  ·have hk:k∉l.map Prod.fst:=by rw[<- e];exact hn.1
   have ha:a=(k,q):=by
    rcases List.mem_cons.1 h with h|h
    ·exact h.symm
    ·exact absurd (List.mem_map.2 ⟨_,h,rfl⟩) hk
   have:lS (a::l) k=l:=by
    unfold lS;rw[List.filter_cons,if_neg (by simp[e])];exact Cv hk
   rw[this,ha]
  ·have hm:(k,q)∈l:=by
    rcases List.mem_cons.1 h with h|h
    ·exact absurd (by rw[<- h]) e
    ·exact h
   have:lS (a::l) k=a::lS l k:=by
    unfold lS;rw[List.filter_cons,if_pos (by simpa using e)]
   rw[this];exact(List.Perm.cons a (zm hn.2 hm)).trans (List.Perm.swap _ _ _)
theorem NB{x:Ix.cM}{l:List (ByteArray×Int)}{k:ByteArray}{p:Int}(h:Ix.Has x l)(hn:l.length<9999)(hk:k.size<=aq):Ix.Has (Ix.tj x k p) (DJ l k p):=by
 have hx:=h.n;by_cases hm:k∈l.map Prod.fst
 ·obtain⟨⟨k',q⟩,h1,h2⟩:=List.mem_map.1 hm;dsimp only at h2;subst h2;exact(Ix.Lz (h.xU (zm (Ey h) h1)) (by omega)).1
 ·have:=(Ix.St (p:=p) h (by omega) hm hk).1;unfold DJ;rw[Cv hm];exact this
theorem Je{x:Ix.cM}{l:List (ByteArray×Int)}{k:ByteArray}(h:Ix.Has x l):Ix.Has (Ix.iZ x k) (lS l k)/\(0<=(Ix.bD x.t k).1->1<=x.n):=by
 have hx:=h.n;by_cases hm:k∈l.map Prod.fst
 ·obtain⟨⟨k',q⟩,h1,h2⟩:=List.mem_map.1 hm;dsimp only at h2;subst h2;refine⟨(Ix.Cs (h.xU (zm (Ey h) h1))).1,fun _=>?_⟩;have:=List.length_pos_of_mem h1;omega
 ·rw[Cv hm];obtain⟨e1,e2⟩:=h.ru hm;exact⟨by rw[Ix.O4 h hm];exact h,fun e=>by omega⟩
theorem Jf(l:List (ByteArray×Int))(k:ByteArray)(p:Int):(DJ l k p).length<=l.length+1:=by
 simp only[DJ,lS,List.length_cons];have:=List.length_filter_le (fun e:ByteArray×Int=>decide (e.1≠k)) l;omega
theorem Ez(l:List (ByteArray×Int))(k:ByteArray):(lS l k).length<=l.length:=List.length_filter_le _ _
def jQ(x:aD):Bool:=fH x&&!x.gone
def nk(m:nC)(x:aD):nC:=if jQ x then { ig m (aC (some x))with l:=DJ (ig m (aC (some x))).l x.key m.L.next }else m
structure Jg where
 m:nC
 p:qR
 x:aD
noncomputable def Sz:cF where
 α:=Jg
 β:=qR
 m:=7
 m':=9
 pre:=fun a=>iX a.m a.p/\(jQ a.x=true->tq a.m (aC (some a.x)).length)
 args:=fun a=>[.a (.ptr 0 0 0 0),.agg (BX a.x)]
 hp:=fun a=>DI 0 1 2 3 4 5 6 a.m a.p
 ro:=fun _=>[]
 post:=fun a b=>iX (nk a.m a.x) b/\tn a.p b
 res:=fun a b=>.a (.int .i64 (if jQ a.x then 0 else 1))
 cS:=fun a b=>DI 0 1 2 3 4 7 8 (nk a.m a.x) b
def Cw(w t:Nat)(s:nC)(u:qR)(f:Nat->Nat->Value)(g:Cu->qR->Prop):Cu->Prop:=fun(z:Cu)=>ag (ag (w=av z.body/\t=z.cap)/\nN s.L z.m u.y z.p s.d u.x u.cap (u.H=z.p.H) (bB (av z.body) w 1 f (aa cB z.body)/\(iX z.m z.p/\tq z.m (av z.body)/\gJ z.body 300)/\∀v:qR,iX (ig z.m z.body) v/\tn z.p v->g z v))
def GM(y z:ByteArray)(u:Int)(v:Bool)(w:nC)(s:qR)(t:Cu->qR->Prop):B0->Prop:=B3 1 1 (aN 4 (kK (bF y) (bF z) (bt u (bG (dR v))))) fun x=>1<=1/\mh (dA x.xs)/\gq 1 (av (dA x.xs)) 1 1 fun f=>Exists (Cw (1+av (dA x.xs)) f w s (aX (aN 1 (bG (fk 1))) 0 1 (qF cB (dA x.xs))) fun g h=>t g h)
def gK(x:Bool):Int:=if x=true then(0:Int)else(1:Int)
def Cy(w:Int)(s:Bool)(z:qR)(t v:nC)(f:bw)(g:qR):qR->Prop:=fun(u:qR)=>w=gK s/\z.H=u.H/\nN t.L v z.y u f z.x z.cap (iX v u/\tn g u) True
def GN(y:Jg):=iX y.m y.p/\(aF (jQ y.x)->tq y.m (av (aC (some y.x))))
theorem SA:fnBody (Y Tryz.prog) [(96,AE),(122,Ru),(121,Sy),(123,Ix.BR)] 73 Sz fun _=>[]:=fnBody.of (p :=
 ∀z:Jg,GN z->∃t:aD,pK z.x t (cH (gU (bC (fH t)) (Exists (Cy 1 (jQ z.x) z.p z.m (nk z.m z.x) z.m.d z.p)) z.x.gone (Exists (GM z.x.key z.x.val z.x.e z.x.gone z.m z.p fun v w=>∃u:Ix.lV,ag (z.x.key=u.key/\v.m.L.next=u.pos/\xV w.x u.x w.cap u.cap (zh u/\∀f:Nat,True->∃s:qR,(0:Int)=gK (jQ z.x)/\w.H=s.H/\nN (ig v.m v.body).L (nk z.m z.x) w.y s (ig v.m v.body).d (Ix.tj u.x u.key u.pos) f (iX (nk z.m z.x) s/\tn z.p s) True))))))) (by kernel_rfl) (by
 delta aG av bB bt bR gq bA bG fk aF dL kK bP gU pK aI nN GM bF ia gK ag gJ Cw Cy ax B3 mh qF bC cH fA dR zh GN
 try dsimp -iota -proj only
 rintro⟨⟨L,d,l⟩,⟨H,y,x,xc⟩,it⟩ ⟨hat,hok⟩;dsimp only at *;have same:jQ it=false->nk ⟨L,d,l⟩ it=⟨L,d,l⟩:=fun e=>if_neg (by rw[e];decide);refine⟨it,rfl,rfl,rfl,rfl,trivial,fun _ _=>⟨fun c1=>⟨⟨H,y,x,xc⟩,?_⟩,fun c1=>⟨fun c2=>⟨⟨H,y,x,xc⟩,?_⟩,fun c2=>?_⟩⟩⟩
 ·have hn:jQ it=false:=by simp only[jQ];rw[show fH it=false by simpa using c1];rfl
  rw[same hn,hn]
  and_intros<;>first|exact cT|rfl|exact aj.refl _ _ _|exact Nat.le_refl _|exact hat|exact hat.log|exact hat.idx|exact fun z _ hn=>⟨rfl,hn⟩
 ·have hn:jQ it=false:=by simp only[jQ];rw[c2];simp
  rw[same hn,hn]
  and_intros<;>first|exact cT|rfl|exact aj.refl _ _ _|exact Nat.le_refl _|exact hat|exact hat.log|exact hat.idx|exact fun z _ hn=>⟨rfl,hn⟩
 ·have hm:fH it=true:=by simpa using c1
  have hy:jQ it=true:=by simp only[jQ];rw[c2,hm];rfl
  have hok:=hok hy;have hF:nk ⟨L,d,l⟩ it={ ig ⟨L,d,l⟩ (aC (some it))with l:=DJ (ig ⟨L,d,l⟩ (aC (some it))).l it.key L.next }:=if_pos hy;rw[hF,hy];obtain⟨hb1,hb2⟩:=lK (o:=some it) (fun x e=>by cases e;exact hm);have hI:dA [it]=cW it:=by simp[dA]
  have hB:(aC (some it)).length=1+(cW it).length:=by simp only[aC,List.length_cons];omega
  have hr1:aj 1 4 (aN 4 [Value.string it.key,Value.string it.val,Value.int .i64 it.e,Value.bool it.gone]) (aa lz [it]):=.dQ fun i hi=>by
   have:i=0:=by omega
   subst this;rfl
  have hm1:∀i,i < [it].length->fH (gl [it] i)=true:=fun i hi=>by
   have:i=0:=by simp at hi;omega
   subst this;exact hm
  refine⟨B0.mk [it] 1,?_⟩
  and_intros<;>first|exact cT|exact hr1|exact hm1|exact Nat.le_refl _|decide|skip
  intro c _;rw[hI]
  repeat refine kJ ?_
  intro cap q1 q2 q3;refine⟨Cu.mk ⟨L,d,l⟩ ⟨H,y,x,xc⟩ (aC (some it)) cap,?_⟩;have hr2:aj (aC (some it)).length 1 (aX (aN 1 [Value.int .u8 1]) 0 1 fun(i j:Nat)=>aa cB (cW it) (0+i) j) (aa cB (aC (some it))):=⟨fun i hi j hj=>by
   have hj0:j=0:=by omega
   subst hj0;simp only[aX,Nat.zero_add];by_cases h0:i<1
   ·have:i=0:=by omega
    subst this;rfl
   ·rw[if_neg h0];obtain⟨q,rfl⟩:∃q,i=q+1:=⟨i-1,by omega⟩
    simp only[aa,aC,Nat.add_sub_cancel];congr 2⟩
  and_intros<;>first|exact cT|rfl|exact aj.refl _ _ _|exact Nat.le_refl _|exact hr2|exact hat|exact hat.log|exact hat.idx|exact hok.log|exact hok.xL|(dsimp only;omega)|skip
  rintro⟨H1,y1,x1,xc1⟩ ⟨⟨g1,g2⟩,hfr⟩;dsimp only at g1 g2 hfr ⊢;refine⟨Ix.lV.mk x1 xc1 it.key L.next,?_⟩;have hn:=A4 g2;have hln:(ig ⟨L,d,l⟩ (aC (some it))).l.length<=l.length:=List.length_filter_le _ _;have hfew:=hok.xL;dsimp only at hfew;have hks:it.key.size<=aq:=by have:=qk hm;simp only[aq];omega
  and_intros<;>first|exact cT|rfl|exact aj.refl _ _ _|exact Nat.le_refl _|exact g2.inv|exact hks|(dsimp only;omega)|skip
  intro c2' _;refine⟨⟨H1,y1,Ix.tj x1 it.key L.next,c2'⟩,?_⟩;have hp:=NB (p:=L.next) g2 (by omega) hks
  and_intros<;>first|exact cT|rfl|exact aj.refl _ _ _|exact Nat.le_refl _|exact g1|exact hp|exact hfr|exact⟨g1,hp⟩)
theorem SB:ak (Y Tryz.prog).G.X 73 Sz:=aT fF SA ⟨ql,FU,GL,Ix.AX,trivial⟩
def Cz(m:nC)(key:ByteArray):Option aD->Prop
 |some x=>∃p,(key,p)∈m.l/\fT m.L.l p=some (aC (some x))/\fH x=true
 |none=>key∉m.l.map Prod.fst\/∃p,(key,p)∈m.l/\(fT m.L.l p=none\/fT m.L.l p=some (aC none))
structure O9(m:nC):Prop where
 xL:m.L.l.length<1000
 seg:∀i,i<m.L.l.length->mA (gl m.L.l i).aO/\(gl m.L.l i).aO.length<=400/\∀k,k<(gl m.L.l i).aO.length->1<=(gl (gl m.L.l i).aO k).body.length/\(gl (gl m.L.l i).aO k).body.length<=1000
 pos:∀e∈m.l,0<=e.2/\e.2<1000000000000
structure NC where
 m:nC
 p:qR
 key:ByteArray
 r:Option aD
noncomputable def SC:cF where
 α:=NC
 β:=Unit
 m:=7
 m':=7
 pre:=fun a=>iX a.m a.p/\O9 a.m/\Cz a.m a.key a.r/\a.key.size<=aq
 args:=fun a=>[.a (.ptr 0 0 0 0),.a (.str a.key)]
 hp:=fun _=>[]
 ro:=fun a=>DI 0 1 2 3 4 5 6 a.m a.p
 post:=fun _ _=>True
 res:=fun a _=>.lY [.agg (BX (a.r.getD fK)),.a (.bool a.r.isSome)]
 cS:=fun _ _=>[]
def wN(x:nC)(z:qR)(y:ByteArray)(u:Option aD):=iX x z/\O9 x/\Cz x y u/\bA y<=aq
theorem SD:fnBody (Y Tryz.prog) [(212,Ix.II),(213,K8),(179,uC)] 184 SC fun _=>[]:=fnBody.of (p :=
 ∀z:NC,wN z.m z.p z.key z.r->∃v:Ix.uA,ag (z.key=v.key/\xV z.p.x v.x z.p.cap v.cap ((Ix.Inv v.x/\bA v.key<=aq)/\aI (vN (bC (Ix.wM v.x v.key).snd) z.r (∃u:I3,eo ((Ix.wM v.x v.key).fst=u.p) (oq z.m.L u.L z.p.y u.y z.p.H u.H (Gg u) (∀s:Nat,av (qG u)<=s->vN (z8 (fT u.L.l u.p) != (0:Int)) z.r (∃w:zj,cG (qG u) (aC w.o) s w.cap/\bW (aC w.o) (qG u) cB/\zk w.o w.cap/\aI (zl (jh w.o) z.r w.o.isSome))))))))) (by kernel_rfl) (by
 delta aG av bB bA cV aF fM eo bW pK aI vN bz cG wH ay qG ag gJ jh bg oq wN Gg zk bC om zl
 try dsimp -iota -proj only
 rintro⟨⟨L,d,l⟩,⟨H,y,x,xc⟩,key,r⟩ ⟨⟨hl,hx⟩,hrd,hr,hks⟩;dsimp only at *;refine⟨Ix.uA.mk x xc key,?_⟩
 and_intros<;>first|exact cT|rfl|exact aj.refl _ _ _|exact Nat.le_refl _|exact hx.inv|exact hks|skip
 intro _ _;dsimp only;have hcase:(r=none/\Ix.wM x key=(0,false))\/∃p,(key,p)∈l/\Ix.wM x key=(p,true)/\((r=none/\(fT L.l p=none\/fT L.l p=some (aC none)))\/∃it,r=some it/\fT L.l p=some (aC (some it))/\fH it=true):=by
  cases r with
  |none =>
   rcases hr with hr | ⟨p,h1,h2⟩
   ·exact .inl ⟨rfl,Ix.get_none hx hr⟩
   ·exact .inr ⟨p,h1,Ix.Ev hx h1,.inl ⟨rfl,h2⟩⟩
  |some it =>
   obtain⟨p,h1,h2,h3⟩:=hr;exact .inr ⟨p,h1,Ix.Ev hx h1,.inr ⟨it,rfl,h2,h3⟩⟩
 rcases hcase with⟨rfl,hg⟩ | ⟨p,hm,hg,hc⟩
 ·rw[hg];refine⟨fun _=>⟨(),?_⟩,fun c=>absurd c (by decide)⟩
  and_intros<;>first|exact cT|rfl|exact aj.refl _ _ _|exact Nat.le_refl _
 ·rw[hg];refine⟨fun c=>absurd c (show ¬((!true)=true)by decide),fun _=>⟨I3.mk H y L p,?_⟩⟩;obtain⟨hp1,hp2⟩:=hrd.pos _ hm
  and_intros<;>first|exact cT|rfl|exact aj.refl _ _ _|exact Nat.le_refl _|exact hl|exact hrd.xL|exact hp1|exact hp2|exact hrd.seg|skip
  intro c hcap;dsimp only at hcap ⊢;rcases hc with⟨rfl,hn|hn⟩ | ⟨it,rfl,hn,hmay⟩
  ·rw[hn];refine⟨fun _=>⟨(),?_⟩,fun c=>absurd c (by decide)⟩
   and_intros<;>first|exact cT|rfl|exact aj.refl _ _ _|exact Nat.le_refl _
  ·rw[hn]at hcap ⊢;refine⟨fun c=>absurd c (by decide),fun _=>⟨zj.mk none c,?_⟩⟩;have hcap:(aC none).length<=c:=hcap;have hno:∀z:aD,(none:Option aD)=some z->fH z=true:=fun z e=>by cases e
   (repeat' (first|apply And.intro|(intro _)|apply Exists.intro ()))<;>first|exact cT|rfl|exact aj.refl _ _ _|exact Nat.le_refl _|exact hcap|exact hno _ (by assumption)
  ·rw[hn]at hcap ⊢;refine⟨fun c=>absurd c (show ¬((z8 (some (aC (some it))) != 0)=true)by simp[z8]),fun _=>⟨zj.mk (some it) c,?_⟩⟩;have hcap:(aC (some it)).length<=c:=hcap;have hno:∀z:aD,some it=some z->fH z=true:=fun z e=>by cases e;exact hmay
   (repeat' (first|apply And.intro|(intro _)|apply Exists.intro ()))<;>first|exact cT|rfl|exact aj.refl _ _ _|exact Nat.le_refl _|exact hcap|exact hno _ (by assumption))
theorem SE:ak (Y Tryz.prog).G.X 184 SC:=aT fF SD ⟨Ix.AY,OO,O8,trivial⟩
def nO(r:Option aD)(now:Int):Option aD:=r.bind fun x=>if tS x now then some x else none
structure CA where
 m:nC
 p:qR
 key:ByteArray
 now:Int
 r:Option aD
noncomputable def SF:cF where
 α:=CA
 β:=Unit
 m:=7
 m':=7
 pre:=fun a=>iX a.m a.p/\O9 a.m/\Cz a.m a.key a.r/\a.key.size<=aq
 args:=fun a=>[.a (.ptr 0 0 0 0),.a (.str a.key),.a (.int .i64 a.now)]
 hp:=fun _=>[]
 ro:=fun a=>DI 0 1 2 3 4 5 6 a.m a.p
 post:=fun _ _=>True
 res:=fun a _=>.lY [.agg (BX ((nO a.r a.now).getD fK)),.a (.bool (nO a.r a.now).isSome)]
 cS:=fun _ _=>[]
theorem SG:fnBody (Y Tryz.prog) [(184,SC),(185,Rq)] 136 SF fun _=>[]:=fnBody.of (p :=
 ∀z:CA,wN z.m z.p z.key z.r->∃u:NC,ag (z.key=u.key/\nN z.m.L u.m z.p.y u.p z.m.d z.p.x z.p.cap (z.p.H=u.p.H) (wN u.m u.p u.key u.r/\aI (vN (bC u.r.isSome) (nO z.r z.now) (∃v:Nh,pK (jh u.r) v.x (z.now=v.now/\cH (vN (bC (tS v.x v.now)) (nO z.r z.now) (zl (jh u.r) (nO z.r z.now) true)))))))) (by kernel_rfl) (by
 delta aG bR bA cV aF fM pK aI vN nN ay ag jh bg ax wN bC cH fA zl
 rintro⟨⟨L,d,l⟩,⟨H,y,x,xc⟩,key,now,r⟩ ⟨hat,hrd,hr,hks⟩;dsimp only at *;refine⟨NC.mk ⟨L,d,l⟩ ⟨H,y,x,xc⟩ key r,?_⟩
 and_intros<;>first|exact cT|rfl|exact aj.refl _ _ _|exact Nat.le_refl _|exact hat|exact hrd|exact hr|exact hks|skip
 intro _ _;dsimp only;cases r with
 |none =>
  refine⟨fun _=>⟨(),?_⟩,fun c=>absurd c (by decide)⟩
  and_intros<;>first|exact cT|rfl|exact aj.refl _ _ _|exact Nat.le_refl _
 |some it =>
  refine⟨fun c=>absurd c (show ¬((!true)=true)by decide),fun _=>⟨Nh.mk it now,rfl,rfl,rfl,rfl,rfl,trivial,fun _ _=>⟨fun c=>⟨(),?_⟩,fun c=>⟨(),?_⟩⟩⟩⟩
  ·have:nO (some it) now=none:=by
    have:tS it now=false:=by simpa using c
    simp[nO,this]
   rw[this]
   and_intros<;>first|exact cT|rfl|exact aj.refl _ _ _|exact Nat.le_refl _
  ·have:nO (some it) now=some it:=by
    have:tS it now=true:=by simpa using c
    simp[nO,this]
   rw[this]
   and_intros<;>first|exact cT|rfl|exact aj.refl _ _ _|exact Nat.le_refl _)
theorem SH:ak (Y Tryz.prog).G.X 136 SF:=aT fF SG ⟨SE,Rv,trivial⟩
def S.fl(s:S)(c:Nat)(m:nC)(p:qR):S :=
 (fun(s3:S)=>(s3.put (s3.hp.del (IZ s3))).new (.ct p.H))
 ((fun(s1:S)=>((s1.put (s1.hp.del (s.oQ (s.oQ c 1) 0))).new (.arr 251 Ix.XF p.x.t.length (aa Ix.uv p.x.t))).at_ (s.oQ c 1) (.obj 247 [.slc s.nx 0 4 p.x.t.length p.cap,.int .i64 p.x.n,.int .i64 p.x.used]))
  (((s.at_ (s.oQ c 0) (fI (s.oQ (s.oQ c 0) 0) m.L p.y.lv)).at_ (s.oQ (s.oQ c 0) 0) (.obj 116 [.slc (s.oQ (s.oQ (s.oQ c 0) 0) 0) 0 129 m.d.n m.d.n,.int .i64 m.d.calls])).at_ (s.oQ (s.oQ (s.oQ c 0) 0) 0) (.arr 158 BS m.d.n (e9 m.d))))
def iB(k:ByteArray):aD:=⟨k,.mk #[],0,true⟩
theorem zn{k:ByteArray}(h:dM k=true):fH (iB k)=true:=by
 simp only[fH,iB];rw[h];rfl
def nP(m:nC)(k:ByteArray):nC:={ ig m (aC (some (iB k)))with l:=lS (ig m (aC (some (iB k)))).l k }
def fU(m:nC)(ks:List ByteArray):Nat->nC
 |0=>m
 |i+1=>nP (fU m ks i) (gl ks i)
def fq(ks:List ByteArray):Bool:=ks.all dM
def GO(m:nC):nC:={ m with d:=fZ m.d }
def nq(m:nC)(ks:List ByteArray):nC:=if fq ks then GO (fU m ks ks.length)else m
structure ot where
 m:nC
 p:qR
 ks:List ByteArray
 cap:Nat
noncomputable def GP:cF where
 α:=ot
 β:=qR
 m:=8
 m':=10
 pre:=fun a=>iX a.m a.p/\a.ks.length<1000/\(fq a.ks=true->(∀i,i<a.ks.length->tq (fU a.m a.ks i) (aC (some (iB (gl a.ks i)))).length)/\(fU a.m a.ks a.ks.length).d.n<100000/\(fU a.m a.ks a.ks.length).d.calls<1000000000000)
 args:=fun a=>[.a (.ptr 0 0 0 0),.a (.slc 7 0 1 a.ks.length a.cap)]
 hp:=fun a=>DI 0 1 2 3 4 5 6 a.m a.p
 ro:=fun a=>[(7,.arr 9 [.str] a.ks.length (aa kO a.ks))]
 post:=fun a b=>iX (nq a.m a.ks) b/\tn a.p b
 res:=fun a b=>.a (.int .i64 (if fq a.ks then 0 else 1))
 cS:=fun a b=>DI 0 1 2 3 4 8 9 (nq a.m a.ks) b
structure zo where
 i:Nat
 p:qR
def Vi(a:ot):An:=.flat 4 Nat (fun s i=>s.int 15 i) (fun _ i=>i<=a.ks.length/\∀j,j<i->dM (gl a.ks j)=true) (fun _ i=>a.ks.length-i)
def Vj(a:ot):An:=.flat 10 zo (fun s x=>(S.fl s (s.tg 0) (fU a.m a.ks x.i) x.p).int 25 x.i) (fun _ x=>x.i<=a.ks.length/\fq a.ks=true/\iX (fU a.m a.ks x.i) x.p/\tn a.p x.p) (fun _ x=>a.ks.length-x.i)
def Vk(a:ot):An:=.mk 9 Unit (fun s _=>s) (fun _ _=>fq a.ks=true) (fun _ _=>0) fun _=>.mk 1000 [Vj a] []
noncomputable def SI:List (Nat×cF):=[(86,KH),(122,Ru),(121,Sy),(180,Ix.Nz),(169,jA)]
def LF(t:Int)(u:ot)(w:qR)(s:nC)(v:Ix.cM)(f:Nat)(g:zo->Prop):zo->Prop:=fun(z:zo)=>t=af z.i/\ja (aZ u.ks) u.cap (aR (ag (aV (aZ u.ks) u.cap/\w.H=z.p.H/\ax (fA s.L (fU u.m u.ks z.i).L w.y z.p.y (fV s.d (fU u.m u.ks z.i).d (ag (bI v=bI z.p.x/\f=z.p.cap)/\bu v.n z.p.x.n/\bu v.used z.p.x.used/\kP u.ks/\bB (bI z.p.x) (bI v) 4 (dU v) (dU z.p.x)/\g z))))))
def GQ(z:ot)(u:Prop):=aR (ag (aV (aZ z.ks) z.cap/\nN z.m.L z.m z.p.y z.p z.m.d z.p.x z.p.cap (z.p.H=z.p.H) (kP z.ks/\u)))
def qK(y:Nat)(z:List ByteArray):=∀x:Nat,x<y->aF (dM (gl z x))
def GR(x:ot):=iX x.m x.p/\aZ x.ks<1000/\(aF (fq x.ks)->(∀y:Nat,y<aZ x.ks->tq (fU x.m x.ks y) (av (aC (some (iB (gl x.ks y))))))/\kf (fU x.m x.ks (aZ x.ks)).d)
def ji(x y:Nat)(z u v:Prop):=x<=y/\z->jt x y u v
def zq(y:List ByteArray)(z:Nat)(u v:Nat->Prop)(w s:Prop):=((∃x:Nat,aK x (ja (aZ y) z (u x)))/\∀x:Nat,ji x (aZ y) (qK x y) (v x) (Exists (ay (bp w))))/\∀x:Unit,aF (fq y)->s
def GS(x:ot)(y:zo):=aF (fq x.ks)/\iX (fU x.m x.ks y.i) y.p/\tn x.p y.p
theorem Pa:fnBody (Y Tryz.prog) SI 135 GP fun a=>[(135,[Vi a],[Vk a])]:=fnBody.of (p :=
 ∀y:ot,GR y->zq y.ks y.cap (fun z=>GQ y ((z<=aZ y.ks/\qK z y.ks)/\True)) (fun z=>∃u:ByteArray,gl y.ks (0+az z)=u/\cH (aG (bC (dM u)) (Exists (Cy 1 (fq y.ks) y.p y.m (nq y.m y.ks) y.m.d y.p)) (dm z fun w=>ja (aZ y.ks) y.cap (GQ y (dO w (aZ y.ks) (qK w y.ks) z))))) (GQ y (aF (fq y.ks)/\True)) (Exists (LF 0 y y.p y.m y.p.x y.p.cap fun z=>(z.i<=aZ y.ks/\GS y z)/\True)/\∀z:zo,ji z.i (aZ y.ks) (GS y z) (Exists (GM (gl y.ks (0+az z.i)) cV 0 true (fU y.m y.ks z.i) z.p fun u w=>∃v:Ix.uA,ag (gl y.ks (0+az z.i)=v.key/\xV w.x v.x w.cap v.cap (zi v/\aI (aP z.i/\Exists (LF (af z.i+(1:Int)) y w (ig u.m u.body) (Ix.iZ v.x v.key) v.cap fun s=>dO s.i (aZ y.ks) (GS y s) z.i)))))) (kq (fU y.m y.ks z.i).d fun u=>Exists (Cy 0 (fq y.ks) z.p (fU y.m y.ks z.i) (nq y.m y.ks) (fZ u) y.p)))) (by kernel_rfl) (by
 delta aG av bB ai bt bR az aH gq bI aA cn af aZ bO bA cV dO bG fk aF dL aU bn kK bP eM dK jt aI ja nN dm aV bp GM bF kf LF ay ia gK aP aW kP aK aR bf GQ qK ag dJ gJ GR zi Cw bx kq Cy ax zq B3 bu dU mh qF GS bC cH fA dR ji
 try dsimp -iota -proj only
 rintro⟨⟨L,d,l⟩,⟨H,y,x,xc⟩,ks,kc⟩ ⟨hat,hk1,hok⟩;dsimp only at *;obtain⟨m0,hm0⟩:∃m0:nC,m0=⟨L,d,l⟩:=⟨_,rfl⟩
 have hno:fq ks=false->nq ⟨L,d,l⟩ ks=⟨L,d,l⟩:=fun e=>if_neg (by rw[e];decide);have hyes:fq ks=true->nq m0 ks=GO (fU m0 ks ks.length):=fun e=>if_pos e;refine⟨⟨⟨0,?_⟩,fun i hi=>?_⟩,fun _ hall=>⟨⟨⟨0,⟨H,y,x,xc⟩⟩,?_⟩,fun z hz=>?_⟩⟩
 ·and_intros<;>first|exact cT|rfl|exact aj.refl _ _ _|exact Nat.le_refl _|exact fun j hj=>absurd hj (Nat.not_lt_zero j)
 ·obtain⟨hi,hkb⟩:=hi;simp only[Nat.zero_add,Int.toNat_natCast];refine⟨fun c1=>?_,fun c1=>⟨(),?_⟩⟩
  ·have hi':i<ks.length:=by have:=of_decide_eq_true c1;omega
   refine⟨by omega,by omega,gl ks i,rfl,trivial,fun _ _=>⟨fun c2=>⟨⟨H,y,x,xc⟩,?_⟩,fun c2=>⟨by simp only[bQ];omega,i+1,?_⟩⟩⟩
   ·have hn:fq ks=false:=by
     have c2:dM (gl ks i)=false:=by simpa using c2
     rw[Bool.eq_false_iff];intro h;have:=List.all_eq_true.1 h (gl ks i) (by rw[bN hi'];exact List.getElem_mem _);rw[c2]at this;cases this
    rw[hno hn,hn]
    and_intros<;>first|exact cT|rfl|exact aj.refl _ _ _|exact Nat.le_refl _|exact hat|exact fun z _ hn=>⟨rfl,hn⟩
   ·have c2:dM (gl ks i)=true:=by simpa using c2
    have h1:∀j,j<i+1->dM (gl ks j)=true:=fun j hj=>by
     by_cases e:j=i
     ·rw[e];exact c2
     ·exact hkb j (by omega)
    and_intros<;>first|exact cT|rfl|exact aj.refl _ _ _|exact Nat.le_refl _|exact h1
  ·have hi':i=ks.length:=by have:=of_decide_eq_false c1;omega
   have ha:fq ks=true:=List.all_eq_true.2 fun k hk=>by
    obtain⟨j,hj,rfl⟩:=List.getElem_of_mem hk;rw[<- bN hj];exact hkb j (by omega)
   and_intros<;>first|exact cT|rfl|exact aj.refl _ _ _|exact Nat.le_refl _|exact ha
 ·and_intros<;>first|exact cT|rfl|exact aj.refl _ _ _|exact Nat.le_refl _|exact hat|exact hall|exact fun z _ hn=>⟨rfl,hn⟩
 ·obtain⟨i,⟨H1,y1,x1,xc1⟩⟩:=z;obtain⟨hi,_,hat1,hfr1⟩:=hz;dsimp only at hi hat1 hfr1 ⊢;obtain⟨hok1,hok2,hok3⟩:=hok hall;rw[<- hm0]at hok1 hok2 hok3 hat1 ⊢;have hstep:fU m0 ks (i+1)=nP (fU m0 ks i) (gl ks i):=rfl;simp only[Nat.zero_add,Int.toNat_natCast];refine⟨fun c1=>?_,fun c1=>?_⟩
  ·have hi':i<ks.length:=by have:=of_decide_eq_true c1;omega
   have hok1:=hok1 i hi';have hkey:dM (gl ks i)=true:=List.all_eq_true.1 hall (gl ks i) (by rw[bN hi'];exact List.getElem_mem _);obtain⟨it,hit⟩:∃it,it=iB (gl ks i):=⟨_,rfl⟩
   have hm:fH it=true:=by rw[hit];exact zn hkey
   obtain⟨M,hM⟩:∃M,M=fU m0 ks i:=⟨_,rfl⟩
   rw[<- hM]at hok1 hat1 hstep ⊢;rw[<- hit]at hok1;have hdF:nP M (gl ks i)={ ig M (aC (some it))with l:=lS (ig M (aC (some it))).l (gl ks i) }:=by rw[hit];rfl
   obtain⟨hb1,hb2⟩:=lK (o:=some it) (fun x e=>by cases e;exact hm);have hI:dA [it]=cW it:=by simp[dA]
   have hB:(aC (some it)).length=1+(cW it).length:=by simp only[aC,List.length_cons];omega
   have hr1:aj 1 4 (aN 4 [Value.string (gl ks i),Value.string (ByteArray.mk #[]),Value.int .i64 0,Value.bool true]) (aa lz [it]):=.dQ fun i hi=>by
    have:i=0:=by omega
    subst this;rw[hit];rfl
   have hm1:∀i,i < [it].length->fH (gl [it] i)=true:=fun i hi=>by
    have:i=0:=by simp at hi;omega
    subst this;exact hm
   refine⟨by omega,by omega,B0.mk [it] 1,?_⟩
   and_intros<;>first|exact cT|exact hr1|exact hm1|exact Nat.le_refl _|decide|skip
   intro c _;rw[hI]
   repeat refine kJ ?_
   intro cap q1 q2 q3;refine⟨Cu.mk M ⟨H1,y1,x1,xc1⟩ (aC (some it)) cap,?_⟩;have hr2:aj (aC (some it)).length 1 (aX (aN 1 [Value.int .u8 1]) 0 1 fun(i j:Nat)=>aa cB (cW it) (0+i) j) (aa cB (aC (some it))):=⟨fun i hi j hj=>by
    have hj0:j=0:=by omega
    subst hj0;simp only[aX,Nat.zero_add];by_cases h0:i<1
    ·have:i=0:=by omega
     subst this;rfl
    ·rw[if_neg h0];obtain⟨q,rfl⟩:∃q,i=q+1:=⟨i-1,by omega⟩
     simp only[aa,aC,Nat.add_sub_cancel];congr 2⟩
   simp only[Nat.zero_add]at hr2
   and_intros<;>first|exact cT|rfl|exact aj.refl _ _ _|exact Nat.le_refl _|exact hr2|exact hat1|exact hat1.log|exact hat1.idx|exact hok1|exact hok1.log|exact hok1.xL|(dsimp only;omega)|skip
   rintro⟨H2,y2,x2,xc2⟩ ⟨⟨g1,g2⟩,hfr⟩;dsimp only at g1 g2 hfr ⊢;refine⟨Ix.uA.mk x2 xc2 (gl ks i),?_⟩;have hn:=A4 g2;have hln:(ig M (aC (some it))).l.length<=M.l.length:=List.length_filter_le _ _;have hfew:=hok1.xL;have hks:(gl ks i).size<=aq:=by
    have h40:(gl ks i).size<=40:=by have:=(qk hm).1;rw[hit]at this;exact this
    simp only[aq];omega
   obtain⟨hd1,hd2⟩:=Je (k:=gl ks i) g2
   and_intros<;>first|exact cT|rfl|exact aj.refl _ _ _|exact Nat.le_refl _|exact g2.inv|exact hks|exact hd2|(dsimp only;omega)|skip
   intro _ _;have hat2:iX (nP M (gl ks i)) ⟨H2,y2,Ix.iZ x2 (gl ks i),xc2⟩:=by rw[hdF];exact⟨g1,hd1⟩
   have hfr2:tn ⟨H,y,x,xc⟩ ⟨H2,y2,Ix.iZ x2 (gl ks i),xc2⟩:=fun z hz hn=>by
    obtain⟨a1,a2⟩:=hfr1 z hz hn;obtain⟨b1,b2⟩:=hfr z (by rw[a1];exact hz) a2;exact⟨b1.trans a1,b2⟩
   refine⟨by simp only[bQ];omega,⟨i+1,⟨H2,y2,Ix.iZ x2 (gl ks i),xc2⟩⟩,?_⟩;dsimp only;rw[hstep];rw[hdF]at hat2 ⊢
   and_intros<;>first|exact cT|rfl|exact aj.refl _ _ _|exact Nat.le_refl _|exact hat2|exact hfr2|exact hall|skip
  ·have hi':i=ks.length:=by have:=of_decide_eq_false c1;omega
   subst hi';have hat2:iX (GO (fU m0 ks ks.length)) ⟨H1,y1,x1,xc1⟩:=⟨hat1.log,hat1.idx⟩
   refine⟨(fU m0 ks ks.length).d,?_⟩;rw[hyes hall,hall]
   and_intros<;>first|exact cT|rfl|exact aj.refl _ _ _|exact Nat.le_refl _|exact hok2|exact hok3|skip
   intro _ _;refine⟨⟨H1,y1,x1,xc1⟩,?_⟩
   and_intros<;>first|exact cT|rfl|exact aj.refl _ _ _|exact Nat.le_refl _|exact hat2|exact hfr1)
theorem Pb:ak (Y Tryz.prog).G.X 135 GP:=aT fF Pa ⟨xK,FU,GL,Ix.Jd,iz,trivial⟩
theorem SJ{n:Nat}:aj n 4 (fun(x j:Nat)=>[Go.Value.string { data:=#[] },Go.Value.int Go.IntKind.i64 0,Go.Value.bool Bool.false,Go.Value.bool Bool.false].getD j (Go.Value.tuple #[])) (aa Ix.uv (Ix.bH n).t):=by
 refine .dQ fun i hi=>?_;unfold aa;rw[show gl (Ix.bH n).t i=⟨.empty,0,false,false⟩from Ix.sD hi];rfl
theorem Pc:aj 16 4 (fun(x j:Nat)=>[Go.Value.string { data:=#[] },Go.Value.int Go.IntKind.i64 0,Go.Value.bool Bool.false,Go.Value.bool Bool.false].getD j (Go.Value.tuple #[])) (aa Ix.uv (Ix.bH 16).t):=SJ
noncomputable def ND:cF where
 α:=Unit
 β:=Unit
 m:=0
 m':=2
 pre:=fun _=>True
 args:=fun _=>[]
 hp:=fun _=>[]
 ro:=fun _=>[]
 post:=fun _ _=>True
 res:=fun _ _=>.a (.ptr 0 0 0 0)
 cS:=fun _ _=>Ix.oG 0 1 (Ix.bH 16).t 16 (Ix.bH 16).n (Ix.bH 16).used
theorem SK:fnBody (Y Tryz.prog) [] 178 ND fun _=>[]:=fnBody.of (p :=
 aI (lF 16 512 (Exists (ay (ag (bR 16 (16=16)/\cC 0 0 (bB 16 16 4 GG (dU (Ix.bH 16))) (True/\True))))))) (by kernel_rfl) (by
 delta aQ bB cC bt bR cV bG dL bP aI bF lF ay fR ag dV dU dR GG
 try dsimp -iota -proj only
 intro _ _;refine⟨by omega,by omega,by omega,(),?_⟩
 and_intros<;>first|exact cT|rfl|exact aj.refl _ _ _|exact Nat.le_refl _|exact Pc)
theorem Jh:ak (Y Tryz.prog).G.X 178 ND:=aT fF SK trivial
def vn(l:List (ByteArray×Int))(o:Option aD)(pos:Int):List (ByteArray×Int):=match o with
 |none=>[]
 |some x=>if x.gone then lS l x.key else DJ l x.key pos
def mR(es:List (Option aD))(rs:List RecM):Nat->List (ByteArray×Int)
 |0=>[]
 |i+1=>vn (mR es rs i) (gl es i) (gl rs i).pos
theorem EA(es:List (Option aD))(rs:List RecM):∀i,(mR es rs i).length<=i
 |0=>Nat.le_refl _
 |i+1=>by
  have:=EA es rs i;show(vn _ _ _).length<=_;unfold vn;split
  ·simp
  ·split
   ·have:=Ez (mR es rs i) (by assumption:aD).key;omega
   ·have:=Jf (mR es rs i) (by assumption:aD).key (gl rs i).pos;omega
theorem GU{l:List dw}{i k:Nat}(hi:i<l.length)(hk:k<(gl l i).aO.length):∃j,j<(fL l).length/\gl (fL l) j=gl (gl l i).aO k:=by
 have hm:gl (gl l i).aO k∈fL l:=List.mem_flatMap.2 ⟨gl l i,by rw[bN hi];exact List.getElem_mem _,by rw[bN hk];exact List.getElem_mem _⟩;obtain⟨j,hj,e⟩:=List.getElem_of_mem hm;exact⟨j,hj,by rw[bN hj];exact e⟩
structure kS where
 H:PH
 d:bw
 from_:Nat
 au:Nat
 es:List (Option aD)
def Ji(a:kS):nC:=⟨cK a.from_ a.au a.d,a.d,mR a.es (fL (cK a.from_ a.au a.d).l) a.es.length⟩
structure WZ(es:List (Option aD))(rs:List RecM):Prop where
 len:es.length=rs.length
 xL:es.length<9000
 at_:∀i,i<es.length->(gl rs i).body=aC (gl es i)/\∀x,gl es i=some x->fH x=true
noncomputable def zu:cF where
 α:=kS
 β:=qR
 m:=3
 m':=8
 pre:=fun a=>qI a.from_ a.au a.d/\WZ a.es (fL (cK a.from_ a.au a.d).l)/\∀i,i<(cK a.from_ a.au a.d).l.length->(gl (cK a.from_ a.au a.d).l i).aO.length<=400
 args:=fun a=>[.a (.ptr 0 0 0 0),.a (.int .i64 a.from_),.a (.int .i64 a.au)]
 hp:=fun a=>[(2,.ct a.H)]
 ro:=fun a=>gn 0 1 a.d
 post:=fun a b=>iX (Ji a) b/\∀z,a.H z≠none->b.H z=a.H z/\z∉bq b.y
 res:=fun a b=>.lY [.a (.ptr 3 0 0 0),.a (.lit .i64 0)]
 cS:=fun a b=>[(3,.obj 205 [.ptr 4 0 0 0,.ptr 5 0 0 0]),(4,fI 0 (Ji a).L b.y.lv)]++Ix.oG 5 6 b.x.t b.cap b.x.n b.x.used++[(7,.ct b.H)]
structure uE where
 i:Nat
 x:Ix.cM
 cap:Nat
def S.ix(s:S)(c:Nat)(x:Ix.cM)(cap:Nat):S :=
 (((s.put ((s.hp.del (s.oQ (s.oQ c 1) 0)).del (s.oQ c 1))).new (.arr 251 Ix.XF x.t.length (aa Ix.uv x.t))).new (.obj 247 [.slc s.nx 0 4 x.t.length cap,.int .i64 x.n,.int .i64 x.used])).at_ c (.obj 205 [.ptr (s.oQ c 0) 0 0 0,.ptr (s.nx+1) 0 0 0])
def W0(a:kS):An:=.flat 6 uE (fun s z=>(S.ix s (s.tg 10) z.x z.cap).int 32 z.i) (fun _ z=>z.i<=a.es.length/\Ix.Has z.x (mR a.es (fL (cK a.from_ a.au a.d).l) z.i)) (fun _ z=>a.es.length-z.i)
noncomputable def SL:List (Nat×cF):=[(175,Gw),(178,ND),(176,Nu),(179,NA),(180,Ix.Nz),(123,Ix.BR)]
def GV(z:vK)(x:kS)(u:H8)(w:mK)(s:Prop):=jg z.v (ag (bp (aR (eo (aH 0) (cC (af x.from_) (af x.au) (z.H=z.H) (ax (ag (fc (cK u.from_ u.au u.d) w.y (fV x.d x.d s)))))))))
def CB(z:uE)(y:kS):=Ix.Has z.x (mR y.es (fL (cK y.from_ y.au y.d).l) z.i)
def NF(z:uE)(v:vK)(u:kS)(w:H8)(s:mK)(t:Ix.cM)(f:Nat):=aP z.i/\∃y:uE,bx z.i y.i/\GV v u w s (xV t y.x f y.cap (dO y.i u.es.length (CB y u) z.i))
noncomputable def LG(v:V1 uC.α)(y:uE)(w:vK)(s:kS)(t:H8)(f:mK)(g:List Value)(h:Nat):=qA v.a.o.isSome (aD.gone (jh v.a.o)) (∃u:Ix.uA,ag (aD.key (jh v.a.o)=u.key/\xV y.x u.x y.cap u.cap (zi u/\aI (NF y w s t f (Ix.iZ u.x u.key) u.cap)))) (aG v.a.o.isSome (ai (jC (aQ g h))->∃z:Ix.lV,ag (aD.key (jh v.a.o)=z.key/\jC (aQ g h)=z.pos/\xV y.x z.x y.cap z.cap (zh z/\∀i:Nat,True->NF y w s t f (Ix.tj z.x z.key z.pos) i))) (NF y w s t f y.x y.cap))
def zv(x y:Nat)(z:bw)(v:Prop):=qI x y z/\v/\∀u:Nat,u<bz (cK x y z)->om (cK x y z) u<=400
theorem Pd:fnBody (Y Tryz.prog) SL 130 zu fun a=>[(130,[W0 a],[])]:=fnBody.of (p :=
 ∀z:kS,zv z.from_ z.au z.d (WZ z.es (fL (cK z.from_ z.au z.d).l))->∃u:H8,ag (bu z.from_ u.from_/\bu z.au u.au/\z.H=u.H/\fV z.d u.d (qI u.from_ u.au u.d/\∀h:mK,wK h u->Exists (ay (cH (∃m:sZ,eo (h.H=m.H) (tf (cK u.from_ u.au u.d) m.L h.y.lv m.y.lv (y5 m/\∀t:vK,y4 t m->Exists (ga t.v)/\(∃w:uE,aK w.i (GV t z u h (kQ 16 w.x (16=w.cap) 0 0 (dU (Ix.bH 16)) ((w.i<=z.es.length/\CB w z)/\True))))/\∀w:uE,w.i<=z.es.length/\CB w z->ug w.i t.v (fun s=>t.H s) (fun s g=>∃f:V1 uC.α,aQ g (s+1)=f.v/\t.H=f.H/\(zk f.a.o f.a.cap/\jU f.H f.v (iG (CK.int .u8)) (A3 f.a).n (A3 f.a).cap (A3 f.a).rows)/\∀c:uC.β,True->Exists (ga (aQ g (s+1)))/\aG (af (cU (aQ g (s+1))) == (1:Int)) (Exists (iF (aQ g (s+1)) 0 fun q r=>iA q r 0 (fun j=>t.H j) (fun j=>∃k:Int,j=fk k/\jD k) (fun j k=>True) fun j k=>jD (jC (aQ k j))->aG (jC (aQ k j) == (2:Int)) (Exists (ay (cH (aP w.i/\∃p:uE,bx w.i p.i/\GV t z u h (kQ 16 p.x (16=p.cap) 0 0 (dU (Ix.bH 16)) (dO p.i z.es.length (CB p z) w.i)))))) (LG f w t z u h g s))) (LG f w t z u h g s)) (∃s:qR,ag (aR (ax (fA (cK u.from_ u.au u.d) (Ji z).L h.y s.y (xV w.x s.x w.cap s.cap (t.H=s.H/\(iX (Ji z) s /\
 ∀g:Nat,oo (z.H g) (s.H g) (bq s.y) g)/\True)))))))))))))) (by kernel_rfl) (by
 delta qA aG aQ av bB cC ai bR az aH bI aA cn af bO bA iA dO fk aF dL aU bn eo cQ NF ga aI pN bz dS bp fc kQ wH LG ay wK aP aW iF zv aK aR y4 bf ug GV oo ag jg gJ zi jh bx iG ax CB y5 bu dU jD zk cH fA om jf zh
 try dsimp -iota -proj only
 rintro⟨H,d,fr,sg,es⟩ ⟨ok,hes,hsl⟩;dsimp only at *;obtain⟨L,hL⟩:∃L,L=cK fr sg d:=⟨_,rfl⟩
 have hone:L.l.length<=1:=by rw[hL];exact ok.one
 have hopn:Ji ⟨H,d,fr,sg,es⟩=⟨L,d,mR es (fL L.l) es.length⟩:=by rw[hL];rfl
 rw[hopn];rw[<- hL]at hes hsl;refine⟨H8.mk H d fr sg,?_⟩;dsimp only;rw[<- hL]
 and_intros<;>first|exact cT|rfl|exact aj.refl _ _ _|exact Nat.le_refl _|exact ok|skip
 rintro⟨H1,y1⟩ ⟨hl1,hf1⟩;dsimp only at hl1 hf1 ⊢;refine⟨(),trivial,fun _ _=>⟨sZ.mk H1 y1 L,?_⟩⟩;have hrec:∀i,i<L.l.length->(gl L.l i).aO.length<=400/\∀k,k<(gl L.l i).aO.length->1<=(gl (gl L.l i).aO k).body.length/\(gl (gl L.l i).aO k).body.length<=1000:=fun i hi=>⟨hsl i hi,fun k hk=>by
  obtain⟨j,hj,e⟩:=GU hi hk;obtain⟨e1,e2⟩:=hes.at_ j (by rw[hes.len];exact hj);rw[<- e,e1];have:=lK e2;omega⟩
 and_intros<;>first|exact cT|rfl|exact aj.refl _ _ _|exact Nat.le_refl _|exact hl1|exact hrec|(dsimp only;omega)|skip
 rintro⟨H2,v,vs⟩ ⟨hout,hf2⟩;dsimp only at hout hf2 ⊢;obtain⟨cr,hrows⟩:=hout.rows;obtain⟨s1,s2,s3,s4,s5,⟨sa,s6⟩,s7⟩:=eR hrows;have hlen:=hes.len;have hfew:=hes.xL;have hlog:bT H2 y1 L:=hl1.frame fun z hz=>(hf2 z (hl1.dom z hz)).1;have hfin:∀z,H z≠none->H2 z=H z/\¬z∈bq y1:=fun z hz=>by
  obtain⟨a1,a2⟩:=hf1 z hz;exact⟨(hf2 z (by rw[a1];exact hz)).1.trans a1,a2⟩
 refine⟨⟨sa,_,_,s6,by simp only[aq];omega⟩,⟨⟨0,Ix.bH 16,16⟩,?_⟩,fun q hq=>?_⟩
 ·have h0:Ix.Has (Ix.bH 16) (mR es (fL L.l) 0):=Ix.vm (by omega) (by omega)
  and_intros<;>first|exact cT|rfl|exact aj.refl _ _ _|exact Nat.le_refl _|exact h0
 ·obtain⟨i,x,xc⟩:=q;obtain⟨hi,hx⟩:=hq;dsimp only at hi hx ⊢;have hxl:(mR es (fL L.l) i).length<=i:=EA es (fL L.l) i;have hn:=A4 hx;have hstep:mR es (fL L.l) (i+1)=vn (mR es (fL L.l) i) (gl es i) (gl (fL L.l) i).pos:=rfl;rw[s1];refine⟨fun c1=>?_,fun c1=>⟨⟨H2,y1,x,xc⟩,?_⟩⟩
  ·have hi':i<es.length:=by have:=of_decide_eq_true c1;omega
   obtain⟨b',lo',o',cs',q1,q2,q3,q4,q5,q6,q7,q8⟩:=uf hrows (k:=i) (by omega);obtain⟨cb,hbody⟩:=hout.body i (by omega);obtain⟨e1,e2⟩:=hes.at_ i hi';rw[e1]at hbody;obtain⟨w1,w2,w3,w4,w5,⟨wa,w7⟩,w6⟩:=eR hbody;obtain⟨hb1,hb2⟩:=lK e2;refine⟨_,_,_,_,q1,by omega,b',lo',o'+i*2,cs',by rw[Int.toNat_natCast];congr 1;omega,q2,⟨⟨_,q3,_,rfl,q6⟩,⟨_,q4,q5⟩,trivial⟩,?_⟩;rw[q7,q8];refine⟨⟨⟨gl es i,cb⟩,H2,vs.getD i undef⟩,rfl,rfl,⟨⟨e2,w3⟩,hbody⟩,fun _ _=>⟨⟨wa,_,_,w7,by simp only[aq];omega⟩,?_⟩⟩;rw[w1];dsimp only[jC];cases ho:gl es i with
   |none =>
    rw[ho]at hbody hstep;refine⟨fun _=>?_,fun c=>absurd c (by simp[aC])⟩;rcases hbody with⟨_,h0,_⟩ | ⟨b9,lo9,o9,cs9,h9,h91,h92,h93,h94⟩
    ·cases h0
    obtain⟨k1,_⟩:=h94.at_ 0 (by simp[aC]) 0 (.int .u8) rfl;have k1:cs9[o9]? = some (.int .u8 2):=k1;have k2:cs9.getD o9 (Value.tuple #[]) = .int .u8 2:=by rw[List.getD_eq_getElem?_getD,k1];rfl
    refine⟨_,_,_,_,h9,by simp[aC],b9,lo9,o9,cs9,rfl,h92,⟨⟨_,k1,2,rfl,by simp only[bQ];omega⟩,trivial⟩,fun _=>?_⟩;rw[k2];dsimp only[jC];refine⟨fun _=>⟨(),trivial,fun _ _=>⟨by simp only[bQ];omega,⟨i+1,Ix.bH 16,16⟩,?_⟩⟩,fun c=>absurd c (by decide)⟩;have h0:Ix.Has (Ix.bH 16) (mR es (fL L.l) (i+1)):=by rw[hstep];exact Ix.vm (by omega) (by omega)
    and_intros<;>first|exact cT|rfl|exact aj.refl _ _ _|exact Nat.le_refl _|exact h0|(dsimp only;omega)
   |some it =>
    rw[ho]at hbody hstep e2;have hmay:=e2 it rfl;have hks:it.key.size<=aq:=by have:=qk hmay;simp only[aq];omega
    have hl2:(aC (some it)).length≠1:=by have:=Ew hmay;simp only[aC,List.length_cons];omega
    have hl3:(((aC (some it)).length:Int) == 1)=false:=by rw[beq_eq_false_iff_ne];omega
    refine⟨fun c=>by(rw[hl3]at c;cases c),fun _=>⟨fun _=>⟨fun cg=>⟨Ix.uA.mk x xc it.key,?_⟩,fun cg=>⟨fun _ _=>⟨Ix.lV.mk x xc it.key (gl (fL L.l) i).pos,?_⟩,fun c=>absurd c (show ¬(true=false)by decide)⟩⟩,fun c=>absurd c (show ¬(true=false)by decide)⟩⟩
    ·have cg:it.gone=true:=cg;obtain⟨hd1,hd2⟩:=Je (k:=it.key) hx;have hd3:Ix.Has (Ix.iZ x it.key) (mR es (fL L.l) (i+1)):=by rw[hstep];simp only[vn,cg,if_true];exact hd1
     and_intros<;>first|exact cT|rfl|exact aj.refl _ _ _|exact Nat.le_refl _|exact hx.inv|exact hks|exact hd2|(dsimp only;omega)|skip
     intro _ _;refine⟨by simp only[bQ];omega,⟨i+1,Ix.iZ x it.key,xc⟩,?_⟩
     and_intros<;>first|exact cT|rfl|exact aj.refl _ _ _|exact Nat.le_refl _|exact hd3|(dsimp only;omega)
    ·have cg:it.gone=false:=cg;have hp1:=NB (p:=(gl (fL L.l) i).pos) hx (by omega) hks;have hp3:Ix.Has (Ix.tj x it.key (gl (fL L.l) i).pos) (mR es (fL L.l) (i+1)):=by rw[hstep];simp only[vn,cg];exact hp1
     and_intros<;>first|exact cT|rfl|exact aj.refl _ _ _|exact Nat.le_refl _|exact hx.inv|exact hks|(dsimp only;omega)|skip
     intro c2 _;refine⟨by simp only[bQ];omega,⟨i+1,Ix.tj x it.key (gl (fL L.l) i).pos,c2⟩,?_⟩
     and_intros<;>first|exact cT|rfl|exact aj.refl _ _ _|exact Nat.le_refl _|exact hp3|(dsimp only;omega)
  ·have hi':i=es.length:=by have:=of_decide_eq_false c1;omega
   subst hi'
   and_intros<;>first|exact cT|rfl|exact aj.refl _ _ _|exact Nat.le_refl _|exact⟨hlog,hx⟩|exact hfin)
theorem Pe:ak (Y Tryz.prog).G.X 130 zu:=aT fF Pd ⟨Ek,Jh,Ja,LD,Ix.Jd,Ix.AX,trivial⟩
structure eH where
 seq:Int
 key:ByteArray
 pos:Int
 deriving Inhabited
def qL:List CK:=[.int .i64,.str,.int .i64]
def cI(x:eH):List Value:=[.int .i64 x.seq,.string x.key,.int .i64 x.pos]
@[reducible] def uF(a b:List eH)(v w:Nat)(p:Prop):Prop:=(0=0/\a.length=b.length/\v=w)/\(b.length<=a.length/\aj b.length 3 (aa cI a) (aa cI b))/\p
def dD(f:Int)(ms:List eH):List eH:=ms.filter fun x=>decide (f<=x.pos)
def V3(lg ma:Nat)(n cap:Nat):Chunk:=.obj 226 [.ptr lg 0 0 0,.slc ma 0 3 n cap]
structure mS where
 ms:List eH
 cap:Nat
 H:PH
 y:gT
 L:bL
noncomputable def SM:cF where
 α:=mS
 β:=Int
 m:=6
 m':=6
 pre:=fun a=>bT a.H a.y a.L/\a.L.l.length<1000/\a.ms.length<100000
 args:=fun a=>[.a (.slc 0 0 3 a.ms.length a.cap),.AM 183 [.ptr 1 0 0 0]]
 hp:=fun _=>[]
 ro:=fun a=>[(0,.arr 228 qL a.ms.length (aa cI a.ms)),(1,.obj 85 [.ptr 2 0 0 0]),(2,V3 3 0 a.ms.length a.cap),(3,fI 4 a.L a.y.lv),(5,.ct a.H)]
 post:=fun a r=>(r = -1/\∀i,i<a.ms.length->cu a.L<=(gl a.ms i).pos)\/∃i:Nat,r=i/\i<a.ms.length/\(gl a.ms i).pos<cu a.L/\∀j,j<i->cu a.L<=(gl a.ms j).pos
 res:=fun _ r=>.a (.int .i64 r)
 cS:=fun _ _=>[]
def Yl(a:mS):An:=.flat 2 Nat (fun s k=>s.int 8 k) (fun _ k=>k<=a.ms.length/\∀j,j<k->cu a.L<=(gl a.ms j).pos) (fun _ k=>a.ms.length-k)
def bZ(x:List eH):Nat:=x.length
def wO(z:Nat)(x:mS):=∀y:Nat,y<z->cu x.L<=(gl x.ms y).pos
def CC(z:Int)(x:mS):=z=(-1:Int)/\wO (bZ x.ms) x\/∃y:Nat,z=af y/\y<bZ x.ms/\(gl x.ms y).pos<cu x.L/\wO y x
def uG(x y:Nat)(z:Prop):=cC (af x) 0 (aV x y) z
def LI(x:mS)(z:Prop):=uG (bZ x.ms) x.cap (ag (dK (bZ x.ms) 3 (aa cI x.ms)/\ax (aV (bZ x.ms) x.cap/\ag (fc x.L x.y (x.H=x.H/\z)))))
theorem SN:fnBody (Y Tryz.prog) [(164,Ch)] 211 SM fun a=>[(211,[Yl a],[])]:=fnBody.of (p :=
 ∀x:mS,bT x.H x.y x.L/\bz x.L<1000/\bZ x.ms<100000->(∃z:Nat,aK z (LI x ((z<=bZ x.ms/\wO z x)/\True)))/\∀z:Nat,ji z (bZ x.ms) (wO z x) (ai (gl x.ms (0+az z)).pos->∃u:DG,ax (oq x.L u.L x.y u.y x.H u.H (bz u.L<1000) (aI (aG (aA (gl x.ms (0+az z)).pos (iP u.L.l u.L.next)) (∃v:Int,af z=v/\CC v x/\True) (dm z fun v=>LI x (dO v (bZ x.ms) (wO v x) z)))))) (∃w:Int,(-1:Int)=w/\CC w x/\True)) (by kernel_rfl) (by
 delta aG bB cC ai bR az aA cn af dO aF aU bn eM dK jt aI bZ dm bz aV fc aP CC aK bf ag dJ bx oq LI ax wO uG ji
 try dsimp -iota -proj only
 rintro⟨ms,cap,H,y,L⟩ ⟨hl,hf,hn⟩;dsimp only at *;have h0:∀j,j<0->cu L<=(gl ms j).pos:=fun j hj=>absurd hj (Nat.not_lt_zero j);refine⟨⟨0,?_⟩,fun i hi=>?_⟩
 ·and_intros<;>first|exact cz|exact h0|(intro h_;revert h_)|exact cA|skip
 obtain⟨hi,hall⟩:=hi;rw[show 0+(i:Int).toNat=i by omega];refine⟨fun c1=>?_,fun c1=>⟨-1,rfl,.inl ⟨rfl,fun j hj=>hall j (by have:=of_decide_eq_false c1;omega)⟩,trivial⟩⟩;have hlt:i<ms.length:=by have:=of_decide_eq_true c1;omega
 refine⟨⟨by omega,by omega⟩,hlt,fun _=>⟨DG.mk H y L,?_⟩⟩
 and_intros<;>first|exact cz|exact hl|exact hf|(intro h_;revert h_)|exact cA|skip
 intro _ _;refine⟨fun c2=>⟨i,rfl,.inr ⟨i,rfl,hlt,of_decide_eq_true c2,hall⟩,trivial⟩,fun c2=>⟨by simp only[bQ];omega,i+1,?_⟩⟩;have c2:¬(gl ms i).pos<cu L:=of_decide_eq_false c2;have h1:∀j,j<i+1->cu L<=(gl ms j).pos:=fun j hj=>by
  by_cases e:j=i
  ·subst e;omega
  ·exact hall j (by omega)
 and_intros<;>first|exact cz|exact h1|(intro h_;revert h_)|exact cA|skip)
theorem SO:ak (Y Tryz.prog).G.X 211 SM:=aT fF SN ⟨y3,trivial⟩
def qb(f:Int)(ms:List eH)(j:Nat):List eH:=dD f (ms.take j)++ms.drop (dD f (ms.take j)).length
noncomputable def SP:cF where
 α:=mS
 β:=Unit
 m:=6
 m':=6
 pre:=fun a=>bT a.H a.y a.L/\a.L.l.length<1000/\a.ms.length<100000/\a.ms.length<=a.cap
 args:=fun a=>[.a (.slc 0 0 3 a.ms.length a.cap),.AM 183 [.ptr 1 0 0 0]]
 hp:=fun a=>[(0,.arr 228 qL a.ms.length (aa cI a.ms))]
 ro:=fun a=>[(1,.obj 85 [.ptr 2 0 0 0]),(2,V3 3 0 a.ms.length a.cap),(3,fI 4 a.L a.y.lv),(5,.ct a.H)]
 post:=fun _ _=>True
 res:=fun a _=>.a (.slc 0 0 3 (dD (cu a.L) a.ms).length a.cap)
 cS:=fun a _=>[(0,.arr 228 qL (dD (cu a.L) a.ms).length (aa cI (dD (cu a.L) a.ms)))]
theorem oU{f:Int}{ms:List eH}{j:Nat}(hj:j<ms.length):dD f (ms.take (j+1))=if f<=(gl ms j).pos then dD f (ms.take j)++[gl ms j]else dD f (ms.take j):=by
 unfold dD;rw[oS hj,List.filter_append];by_cases h:f<=(gl ms j).pos
 ·rw[if_pos h];simp[h]
 ·rw[if_neg h];simp[h]
theorem A5(f:Int)(ms:List eH)(j:Nat):(dD f (ms.take j)).length<=j:=Nat.le_trans (List.length_filter_le _ _) (by rw[List.length_take];omega)
theorem Jj{f:Int}{ms:List eH}(h:∀i,i<ms.length->f<=(gl ms i).pos):dD f ms=ms:=by
 unfold dD;rw[List.filter_eq_self];intro x hx;obtain⟨i,hi,rfl⟩:=List.getElem_of_mem hx;rw[<- bN hi];exact decide_eq_true (h i hi)
theorem Ai{f:Int}{ms:List eH}:∀ {k:Nat},k<=ms.length->(∀i,i<k->f<=(gl ms i).pos)->dD f (ms.take k)=ms.take k
 |0,_,_=>rfl
 |k+1,hk,h=>by rw[oU (by omega),if_pos (h k (by omega)),Ai (by omega) fun i hi=>h i (by omega),oS (by omega)]
theorem Vl{f:Int}{ms:List eH}{j:Nat}(hj:j<ms.length):gl (qb f ms j) j=gl ms j:=by
 have h1:=A5 f ms j;obtain⟨q,hq⟩:∃q,j=(dD f (ms.take j)).length+q:=⟨j-(dD f (ms.take j)).length,by omega⟩
 have h2:gl (qb f ms j) ((dD f (ms.take j)).length+q)=gl (ms.drop (dD f (ms.take j)).length) q:=aY;rw[<- hq]at h2;rw[h2,bN (by rw[List.length_drop];omega),bN hj,List.getElem_drop];congr 1;omega
theorem SQ{f:Int}{ms:List eH}{j:Nat}(hj:j<ms.length)(h:f<=(gl ms j).pos):qb f ms (j+1)=(qb f ms j).set (dD f (ms.take j)).length (gl ms j):=by
 have h1:=A5 f ms j;unfold qb;rw[oU hj,if_pos h,List.length_append,List.length_singleton,List.set_append_right _ _ (Nat.le_refl _),Nat.sub_self,List.drop_eq_getElem_cons (show(dD f (ms.take j)).length<ms.length by omega),List.set_cons_zero,List.append_assoc];rfl
theorem Vm{f:Int}{ms:List eH}{j:Nat}(hj:j<ms.length)(h:¬f<=(gl ms j).pos):qb f ms (j+1)=qb f ms j:=by
 unfold qb;rw[oU hj,if_neg h]
theorem SR(f:Int)(ms:List eH){j:Nat}(hj:j<=ms.length):(qb f ms j).length=ms.length:=by
 have h1:=A5 f ms j;unfold qb;rw[List.length_append,List.length_drop];omega
def Ym(a:mS):An:=.flat 5 Nat (fun s j=>((s.at_ 0 (.arr 228 qL a.ms.length (aa cI (qb (cu a.L) a.ms j)))).int 5 ((dD (cu a.L) (a.ms.take j)).length:Nat)).int 6 j) (fun _ j=>j<=a.ms.length) (fun _ j=>a.ms.length-j)
def pV(x:mS)(y:Nat):Nat:=bZ (dD (cu x.L) (List.take y x.ms))
def GW(u:Int)(x:mS)(z:Nat)(v:Int)(w:Nat->Nat->Value)(s:Prop):=u=af (pV x z)/\bO (v == (-1:Int)) (aV (bZ x.ms) x.cap/\ag (bB (bZ x.ms) (bZ x.ms) 3 w (aa cI (qb (cu x.L) x.ms z))/\ax (aV (bZ x.ms) x.cap/\ag (fc x.L x.y (x.H=x.H/\s)))))
def zw(x:mS)(y:Nat):eH:=gl (qb (cu x.L) x.ms y) (0+az y)
def GX(z:List eH)(x:mS)(u:Nat)(v:bL)(w:gT)(s:PH)(t f:Prop):=gp (bZ z) (bZ x.ms) u x.cap (0=0) 3 (aa cI z) (aa cI x.ms) (ax (ag (bZ z=bZ x.ms/\u=x.cap)/\ag (oq v x.L w x.y s x.H (bz x.L<1000/\t) f)))
theorem SS:fnBody (Y Tryz.prog) [(164,Ch),(211,SM)] 182 SP fun a=>[(182,[Ym a],[])]:=fnBody.of (p :=
 ∀x:mS,bT x.H x.y x.L/\bz x.L<1000/\bZ x.ms<100000/\bZ x.ms<=x.cap->∃s:mS,GX x.ms s x.cap x.L x.y x.H (bZ s.ms<100000) (∀u:Int,CC u s->aG (u == (-1:Int)) (Exists (ay (uF x.ms (dD (cu x.L) x.ms) x.cap x.cap (True/\True)))) (ai (u+(1:Int))/\(∃z:Nat,u+(1:Int)=af z/\GW u x z u (aa cI x.ms) (z<=bZ x.ms/\True))/\∀z:Nat,gi z (bZ x.ms) (ai (eH.pos (zw x z))->∃v:DG,ax (oq x.L v.L x.y v.y x.H v.H (bz v.L<1000) (aI (aG (bC (aA (eH.pos (zw x z)) (iP v.L.l v.L.next))) (dJ (pV x z) (bZ x.ms) (aP (pV x z)/\dm z fun w=>GW (af (pV x z)+(1:Int)) x w u (jT (aa cI (qb (cu x.L) x.ms z)) (0+az (pV x z)) 0 (bt (eH.seq (zw x z)) (dV (eH.key (zw x z)) (eH.pos (zw x z)) []))) (bS w (bZ x.ms) z))) (dm z fun w=>GW (af (pV x z)) x w u (aa cI (qb (cu x.L) x.ms z)) (bS w (bZ x.ms) z)))))) (dh (af (pV x z)) (bZ x.ms)/\dh (af (pV x z)) x.cap/\Exists (ay (ag (az (pV x z)-0=bZ (dD (cu x.L) x.ms)/\x.cap-0=x.cap)/\bg (bB (bZ (dD (cu x.L) x.ms)) (bZ x.ms) 3 (fun t=>yT (pV x z) t (bZ x.ms) (bt 0 (dV cV 0 [])) fun v=>aa cI (qb (cu x.L) x.ms z) t v) (aa cI (dD (cu x.L) x.ms))))))))) (by kernel_rfl) (by
 delta aG aQ bB ai bt bR az aA cn af bO cV dZ aF dL aU bn bP eM jt gp aI bZ dm bz aV fc bS bF pV ay aP CC GW bf ag dJ bg bx oq ax dV wO zw gi GX bC dh yT
 try dsimp -iota -proj only
 rintro⟨ms,cap,H,y,L⟩ ⟨hl,hf,hn,hcap⟩;dsimp only at *;refine⟨mS.mk ms cap H y L,?_⟩
 and_intros<;>first|exact cz|exact hl|exact hf|exact hn|(intro h_;revert h_)|exact cA|skip
 intro b hb;dsimp only at hb;obtain⟨f,hff⟩:∃f,f=cu L:=⟨_,rfl⟩
 rw[<- hff]at hb;rw[<- hff];refine⟨fun c=>⟨(),?_⟩,fun c=>?_⟩
 ·have hk:dD f ms=ms:=by
   rcases hb with⟨_,h⟩ | ⟨i,hi,_⟩
   ·exact Jj h
   ·have:=eq_of_beq c;omega
  rw[hk]
  and_intros<;>first|exact cz|(intro h_;revert h_)|exact cA|skip
 rcases hb with⟨h,_⟩ | ⟨i0,rfl,hi0,hlt,hall⟩
 ·rw[h]at c;cases c
 have hk0:dD f (ms.take i0)=ms.take i0:=Ai (by omega) hall;have hk1:dD f (ms.take (i0+1))=ms.take i0:=by rw[oU hi0,if_neg (by omega),hk0]
 have hl0:(dD f (ms.take (i0+1))).length=i0:=by rw[hk1,List.length_take];omega
 have hd0:qb f ms (i0+1)=ms:=by unfold qb;rw[hl0,hk1,List.take_append_drop]
 refine⟨by simp only[bQ];omega,⟨i0+1,?_⟩,fun j hj=>?_⟩
 ·rw[hl0,hd0]
  and_intros<;>first|exact cz|(intro h_;revert h_)|exact cA|skip
 have hcj:=A5 f ms j;obtain⟨c1,hc1⟩:∃c1,c1=(dD f (ms.take j)).length:=⟨_,rfl⟩
 rw[<- hc1]at hcj;rw[<- hc1,show 0+(j:Int).toNat=j by omega,show 0+(c1:Int).toNat=c1 by omega,show(c1:Int).toNat=c1 by omega];refine⟨fun d1=>?_,fun d1=>?_⟩
 ·have hj2:j<ms.length:=by have:=of_decide_eq_true d1;omega
  rw[Vl hj2];refine⟨⟨by omega,by omega⟩,hj2,fun _=>⟨DG.mk H y L,?_⟩⟩
  and_intros<;>first|exact cz|exact hl|exact hf|(intro h_;revert h_)|exact cA|skip
  intro _ _;dsimp only;rw[show iP L.l L.next=f from hff.symm];refine⟨fun d2=>?_,fun d2=>?_⟩
  ·have hp:f<=(gl ms j).pos:=by simp only[Bool.not_eq_true',decide_eq_false_iff_not]at d2;omega
   have hk2:(dD f (ms.take (j+1))).length=c1+1:=by rw[oU hj2,if_pos hp,List.length_append,<- hc1];rfl
   have hr:aj ms.length 3 (jT (aa cI (qb f ms j)) c1 0 [Value.int .i64 (gl ms j).seq,Value.string (gl ms j).key,Value.int .i64 (gl ms j).pos]) (aa cI (qb f ms (j+1))):=by
    rw[SQ hj2 hp,<- hc1];exact aj.set c1 (by rw[SR f ms (by omega)];omega) (fun i hi=>gG hi) (by rw[iR];rfl)
   refine⟨⟨by omega,by omega⟩,by omega,by simp only[bQ];omega,by simp only[bQ];omega,j+1,?_⟩;rw[hk2]
   and_intros<;>first|exact cz|exact hr|(intro h_;revert h_)|exact cA|skip
  ·have hp:¬f<=(gl ms j).pos:=by simp only[Bool.not_eq_false',decide_eq_true_eq]at d2;omega
   have hk2:(dD f (ms.take (j+1))).length=c1:=by rw[oU hj2,if_neg hp,<- hc1]
   refine⟨by simp only[bQ];omega,j+1,?_⟩;rw[hk2,Vm hj2 hp]
   and_intros<;>first|exact cz|(intro h_;revert h_)|exact cA|skip
 ·have hj2:j=ms.length:=by have:=of_decide_eq_false d1;omega
  subst hj2;have hk:(dD f ms).length=c1:=by rw[hc1,List.take_length]
  rw[hk];have hr:aj c1 3 (fun(i j:Nat)=>if c1<=i/\i<c1+(ms.length-c1)then[Value.int .i64 0,Value.string (ByteArray.mk #[]),Value.int .i64 0].getD j (Value.tuple #[])else aa cI (qb f ms ms.length) i j) (aa cI (dD f ms)):=⟨fun i hi j hj=>by
   rw[if_neg (by omega)];unfold aa qb;rw[bJ (by rw[List.take_length,hk];exact hi),List.take_length]⟩
  refine⟨⟨by omega,by omega⟩,⟨by omega,by omega⟩,(),?_⟩
  and_intros<;>first|exact cz|exact hr|(intro h_;revert h_)|exact cA|skip)
theorem SU:ak (Y Tryz.prog).G.X 182 SP:=aT fF SS ⟨y3,SO,trivial⟩
def gL(ms:List eH):Int:=if ms.length=0 then 0 else(gl ms (ms.length-1)).seq
structure GY where
 ms:List eH
 cap:Nat
noncomputable def NG:cF where
 α:=GY
 β:=Unit
 m:=3
 m':=3
 pre:=fun a=>a.ms.length<100000
 args:=fun a=>[.a (.ptr 0 0 0 0)]
 hp:=fun _=>[]
 ro:=fun a=>[(0,V3 2 1 a.ms.length a.cap),(1,.arr 228 qL a.ms.length (aa cI a.ms))]
 post:=fun _ _=>True
 res:=fun a _=>.a (.int .i64 (gL a.ms))
 cS:=fun _ _=>[]
theorem SX:fnBody (Y Tryz.prog) [] 140 NG fun _=>[]:=fnBody.of (p :=
 ∀x:GY,bZ x.ms<100000->aG (af (bZ x.ms) == (0:Int)) (Exists (bV ((0:Int)=gL x.ms))) (ai (af (bZ x.ms)-(1:Int))/\nj (af (bZ x.ms)-(1:Int)) (bZ x.ms) (uh (gl x.ms (0+aU (af (bZ x.ms)-(1:Int)))).seq (gL x.ms)))) (by kernel_rfl) (by
 delta aG ai cn af aF aU bn bZ bV ay nj bg uh
 rintro⟨ms,cap⟩ hn;dsimp only at *;refine⟨fun c=>⟨(),?_,trivial,trivial⟩,fun c=>?_⟩
 ·have:=eq_of_beq c;unfold gL;rw[if_pos (by omega)]
 ·have h0:ms.length≠0:=fun e=>by rw[e]at c;cases c
  rw[show 0+((ms.length:Int)-1).toNat=ms.length-1 by omega];refine⟨by simp only[bQ];omega,⟨by omega,by omega⟩,by omega,fun _=>⟨(),?_,trivial,trivial⟩⟩;unfold gL;rw[if_neg h0])
theorem Jk:ak (Y Tryz.prog).G.X 140 NG:=aT fF SX trivial
structure H9 where
 L:bL
 d:bw
 ms:List eH
structure Jl where
 H:PH
 y:gT
 cap:Nat
def Yn(jr ma lg dv ds pl:Nat)(m:H9)(p:Jl):List (Nat×Chunk):=[(jr,V3 lg ma m.ms.length p.cap),(ma,.arr 228 qL m.ms.length (aa cI m.ms)),(lg,fI dv m.L p.y.lv)]++gn dv ds m.d++[(pl,.ct p.H)]
def GZ(p p':Jl):Prop:=∀z,p.H z≠none->z∉bq p.y->p'.H z=p.H z/\z∉bq p'.y
def dF(seq:Int)(k:ByteArray):List Int:=vi seq++HZ k
def Jm(m:H9)(k:ByteArray):H9:=⟨lI m.L (dF (gL m.ms+1) k),nJ m.L m.d (dF (gL m.ms+1) k),m.ms++[⟨gL m.ms+1,k,m.L.next⟩]⟩
def dc(m:H9)(ks:List ByteArray):Nat->H9
 |0=>m
 |i+1=>Jm (dc m ks i) (gl ks i)
def Yo(m:H9):H9:={ m with ms:=dD (cu m.L) m.ms }
def gM(m:H9)(ks:List ByteArray):H9:=if fq ks then(if ks.length=0 then Yo m else { Yo (dc m ks ks.length)with d:=fZ (dc m ks ks.length).d })else m
theorem nQ{k:ByteArray}(h:dM k=true):1<=k.size/\k.size<=40:=by
 simp only[dM,Bool.and_eq_true,decide_eq_true_eq,Bool.not_eq_true',decide_eq_false_iff_not]at h;refine⟨?_,h.2⟩;rcases Nat.eq_zero_or_pos k.size with e|e
 ·exact absurd (by
   obtain⟨⟨l⟩⟩:=k;have:l=[]:=List.eq_nil_of_length_eq_zero e;subst this;rfl) h.1
 ·exact e
theorem zx(m:H9)(ks:List ByteArray):∀i,(dc m ks i).ms.length=m.ms.length+i
 |0=>rfl
 |i+1=>by
  show((dc m ks i).ms++[_]).length=_;rw[List.length_append,zx m ks i];rfl
theorem EB{ms:List eH}{x:eH}:aj (ms++[x]).length 3 (aX (aa cI ms) 0 ms.length fun(i j:Nat)=>aN 3 [Value.int .i64 x.seq,Value.string x.key,Value.int .i64 x.pos] (0+i) j) (aa cI (ms++[x])):=⟨fun i hi j hj=>by
 rw[List.length_append,List.length_singleton]at hi;simp only[aX,Nat.zero_add];by_cases h:i<ms.length
 ·rw[if_pos h];unfold aa;rw[bJ h]
 ·rw[if_neg h];obtain rfl:i=ms.length:=by omega
  rw[Nat.sub_self];unfold aa;have:gl (ms++[x]) ms.length=x:=by
   have:=aY (l:=ms) (m:=[x]) (i:=0);rw[Nat.add_zero]at this;rw[this];rfl
  rw[this];rcases(by omega:j=0\/j=1\/j=2)with rfl|rfl|rfl<;>rfl⟩
theorem GZ.refl(p:Jl):GZ p p:=fun _ _ hn=>⟨rfl,hn⟩
structure oH where
 m:H9
 p:Jl
 ks:List ByteArray
 kc:Nat
noncomputable def EC:cF where
 α:=oH
 β:=Jl
 m:=7
 m':=9
 pre:=fun a=>bT a.p.H a.p.y a.m.L/\a.m.L.l.length<800/\a.ks.length<1000/\a.m.ms.length<50000/\a.m.ms.length<=a.p.cap/\(fq a.ks=true->(∀i,i<a.ks.length->ud (dc a.m a.ks i).L (dc a.m a.ks i).d/\0<=gL (dc a.m a.ks i).ms/\gL (dc a.m a.ks i).ms<1000000000000)/\(dc a.m a.ks a.ks.length).d.n<100000/\(dc a.m a.ks a.ks.length).d.calls<1000000000000/\(dc a.m a.ks a.ks.length).L.l.length<1000)
 args:=fun a=>[.a (.ptr 0 0 0 0),.a (.slc 6 0 1 a.ks.length a.kc)]
 hp:=fun a=>Yn 0 1 2 3 4 5 a.m a.p
 ro:=fun a=>[(6,.arr 9 [.str] a.ks.length (aa kO a.ks))]
 post:=fun a b=>bT b.H b.y (gM a.m a.ks).L/\GZ a.p b/\(gM a.m a.ks).ms.length<=b.cap
 res:=fun a _=>.lY [.a (.int .i64 (if fq a.ks then gL (gM a.m a.ks).ms else 0)),.a (.int .i64 (if fq a.ks then 0 else 1))]
 cS:=fun a b=>Yn 0 7 2 3 4 8 (gM a.m a.ks) b
structure Aj where
 i:Nat
 p:Jl
def S.jr(s:S)(c:Nat)(m:H9)(p:Jl):S :=
 (fun(s1:S)=>((s1.put ((s1.hp.del (IZ s1)).del (s.oQ c 1))).new (.ct p.H)))
 ((fun(s0:S)=>(s0.new (.arr 228 qL m.ms.length (aa cI m.ms))).at_ c (V3 (s.oQ c 0) s0.nx m.ms.length p.cap))
  (((s.at_ (s.oQ c 0) (fI (s.oQ (s.oQ c 0) 0) m.L p.y.lv)).at_ (s.oQ (s.oQ c 0) 0) (.obj 116 [.slc (s.oQ (s.oQ (s.oQ c 0) 0) 0) 0 129 m.d.n m.d.n,.int .i64 m.d.calls])).at_ (s.oQ (s.oQ (s.oQ c 0) 0) 0) (.arr 158 BS m.d.n (e9 m.d))))
def W1(a:oH):An:=.flat 4 Nat (fun s i=>s.int 18 i) (fun _ i=>i<=a.ks.length/\∀j,j<i->dM (gl a.ks j)=true) (fun _ i=>a.ks.length-i)
def W2(a:oH):An:=.flat 10 Aj (fun s x=>(S.jr s (s.oQ (s.tg 2) 0) (dc a.m a.ks x.i) x.p).int 32 x.i) (fun _ x=>x.i<=a.ks.length/\fq a.ks=true/\bT x.p.H x.p.y (dc a.m a.ks x.i).L/\GZ a.p x.p/\(dc a.m a.ks x.i).ms.length<=x.p.cap) (fun _ x=>a.ks.length-x.i)
def W3(a:oH):An:=.mk 9 Unit (fun s _=>s) (fun _ _=>fq a.ks=true) (fun _ _=>0) fun _=>.mk 1000 [W2 a] []
noncomputable def Vn:List (Nat×cF):=[(140,NG),(165,BZ),(162,A1),(182,SP),(169,jA)]
def CD(x:Jl)(z:H9)(u:oH):=bT x.H x.y z.L/\GZ u.p x/\bZ z.ms<=x.cap
def wP(x:List ByteArray)(y:H9):Int:=if fq x=true then gL (gM y x).ms else(0:Int)
def LJ(v:Int)(x:oH)(w:Int)(u:Jl)(s:List eH)(t:Nat)(f:H9)(g:bw):=∃z:Jl,v=wP x.ks x.m/\w=gK (fq x.ks)/\u.H=z.H/\ag (uF s (gM x.m x.ks).ms t z.cap (fA f.L (gM x.m x.ks).L u.y z.y (fV g (gM x.m x.ks).d (CD z (gM x.m x.ks) x/\True))))
def G0(x:oH)(z:Prop):=pQ (ag (aV (aZ x.ks) x.kc/\ax (uF x.m.ms x.m.ms x.p.cap x.p.cap (ag (fc x.m.L x.p.y (fV x.m.d x.m.d (x.p.H=x.p.H/\kP x.ks/\z)))))))
def G1(x:oH):=bT x.p.H x.p.y x.m.L/\bz x.m.L<800/\aZ x.ks<1000/\bZ x.m.ms<50000/\bZ x.m.ms<=x.p.cap/\(aF (fq x.ks)->(∀z:Nat,z<aZ x.ks->ud (dc x.m x.ks z).L (dc x.m x.ks z).d/\bn (gL (dc x.m x.ks z).ms) 1000000000000)/\(dc x.m x.ks (aZ x.ks)).d.n<100000/\(dc x.m x.ks (aZ x.ks)).d.calls<1000000000000/\bz (dc x.m x.ks (aZ x.ks)).L<1000)
def ou(x:oH)(y:Aj):List eH:=(dc x.m x.ks y.i).ms
def LK(x:mS)(z:oH)(u:Aj)(v:bw):=∃y:GY,ax (uF (dD (cu x.L) x.ms) y.ms x.cap y.cap (bZ y.ms<100000/\aI (LJ (gL y.ms) z 0 u.p (dD (cu x.L) x.ms) x.cap (dc z.m z.ks u.i) v)))
def LL(x:oH)(u:PH)(z:Aj)(v w:Nat)(s:bL)(t:gT)(f:bw)(g h:Prop):=ja (aZ x.ks) x.kc (pQ (ag (aV (aZ x.ks) x.kc/\u=z.p.H/\ax (ag (v=bZ (ou x z)/\w=z.p.cap)/\fA s (dc x.m x.ks z.i).L t z.p.y (fV f (dc x.m x.ks z.i).d (kP x.ks/\g/\h))))))
def G2(x:oH)(y:Aj):=aF (fq x.ks)/\CD y.p (dc x.m x.ks y.i) x
theorem SY:fnBody (Y Tryz.prog) Vn 134 EC fun a=>[(134,[W1 a],[W3 a])]:=fnBody.of (p :=
 ∀x:oH,G1 x->zq x.ks x.kc (fun z=>G0 x ((z<=aZ x.ks/\qK z x.ks)/\True)) (fun z=>gU (jF (gl x.ks (0+az z)) cV) (LJ 0 x 1 x.p x.m.ms x.p.cap x.m x.m.d) (aA 40 (af (r6 x.ks z))) (dm z fun u=>ja (aZ x.ks) x.kc (G0 x (dO u (aZ x.ks) (qK u x.ks) z)))) (G0 x (aF (fq x.ks)/\True)) ((∃z:Aj,aK z.i (LL x x.p.H z (bZ x.m.ms) x.p.cap x.m.L x.p.y x.m.d (bB (bZ (ou x z)) (bZ x.m.ms) 3 (aa cI x.m.ms) (aa cI (ou x z))) ((z.i<=aZ x.ks/\G2 x z)/\True)))/\∀z:Aj,ji z.i (aZ x.ks) (G2 x z) (∃u:GY,ax (uF (ou x z) u.ms z.p.cap u.cap (bZ u.ms<100000/\aI (ai (gL u.ms+(1:Int))/\∃w:mg,(0=av w.l/\0=w.cap)/\yI 1 w (av w.l=0) (gL u.ms+(1:Int)) [] fun f=>mh (w.l++gI w.ns)/\gq (av (w.l++gI w.ns)) (r6 x.ks z.i) 1 f fun g=>∃v:qE,eo (ag (av (w.l++gI w.ns)+r6 x.ks z.i=av v.body/\g=v.cap)) (tf (dc x.m x.ks z.i).L v.L z.p.y.lv v.y.lv (fV (dc x.m x.ks z.i).d v.d (z.p.H=v.H/\FT v.body w.l (gI w.ns) x.ks z.i/\yX v/\∀t:mK,wF t v->gH (bZ (ou x z)) 32 z.p.cap fun h=>aP z.i/\∃s:Aj,bx z.i s.i/\LL x t.H s (bZ (ou x z)+1) h (lI v.L v.body) t.y (nJ v.L v.d v.body) (iS (bZ (ou x s)) (bZ (ou x z)) 3 (aa cI (ou x z)) (bt (gL u.ms+(1:Int)) (dV (gl x.ks (0+az z.i)) v.L.next [])) (aa cI (ou x s))) (dO s.i (aZ x.ks) (G2 x s) z.i)))))))) (∃u:mS,GX (ou x z) u z.p.cap (dc x.m x.ks z.i).L z.p.y z.p.H (bZ u.ms<100000 /\
 bZ u.ms<=u.cap) (aI (bf 0 (aZ x.ks) (kq (dc x.m x.ks z.i).d fun w=>LK u x z (fZ w)) (LK u x z (dc x.m x.ks z.i).d)))))) (by kernel_rfl) (by
 delta aG av bB cC ai bt bR az aH gq aA cn af aZ bO bA cV dO aF dL aU bn bP eo eM dK gU jt gp aI ja bZ dm bz iS gH aV bp fc bF LJ kf wC ay G0 G1 gK yI aP aW kP CD aK bf qK ag pO dJ ou gJ FT wP bx kq oq ax zq dV mh LK LL GX yX fA wF pQ jF jE ji G2 r6
 try dsimp -iota -proj only
 rintro⟨m,p,ks,kc⟩ ⟨hl,hlf,hkn,hmn,hcap,hok⟩;dsimp only at *;have no:fq ks=false->gM m ks=m:=fun e=>if_neg (by rw[e];decide);have bad:∀i,i<ks.length->dM (gl ks i)=false->fq ks=false:=fun i hi h=>by
  rw[Bool.eq_false_iff];intro ha;have:=List.all_eq_true.1 ha (gl ks i) (by rw[bN hi];exact List.getElem_mem _);rw[h]at this;cases this
 have h0:∀j,j<0->dM (gl ks j)=true:=fun j hj=>absurd hj (Nat.not_lt_zero j);have hfr0:=GZ.refl p;refine⟨⟨⟨0,?_⟩,fun i hi=>?_⟩,fun _ hK=>⟨⟨⟨0,p⟩,?_⟩,fun x hx=>?_⟩⟩
 ·and_intros<;>first|exact cz|exact h0|(intro h_;revert h_)|exact cA|skip
 ·obtain⟨hi,hall⟩:=hi;rw[show 0+(i:Int).toNat=i by omega];refine⟨fun c1=>?_,fun c1=>⟨(),?_⟩⟩
  ·have hlt:i<ks.length:=by have:=of_decide_eq_true c1;omega
   refine⟨⟨by omega,by omega⟩,hlt,fun c2=>?_,fun c2=>⟨fun c3=>?_,fun c3=>⟨by simp only[bQ];omega,i+1,?_⟩⟩⟩
   ·have hn:=bad i hlt (by unfold dM;rw[c2];rfl);rw[no hn,hn];refine⟨p,?_⟩
    and_intros<;>first|exact cz|exact hl|exact hfr0|exact hcap|(intro h_;revert h_)|exact cA|skip
   ·have hn:=bad i hlt (by
     have c3:=of_decide_eq_true c3;unfold dM;have:decide ((gl ks i).size<=40)=false:=decide_eq_false (by omega);rw[this,Bool.and_false])
    rw[no hn,hn];refine⟨p,?_⟩
    and_intros<;>first|exact cz|exact hl|exact hfr0|exact hcap|(intro h_;revert h_)|exact cA|skip
   ·have hk:dM (gl ks i)=true:=by
     have c3:=of_decide_eq_false c3;unfold dM;rw[c2,show decide ((gl ks i).size<=40)=true from decide_eq_true (by omega)];rfl
    have h1:∀j,j<i+1->dM (gl ks j)=true:=fun j hj=>by
     by_cases e:j=i
     ·rw[e];exact hk
     ·exact hall j (by omega)
    and_intros<;>first|exact cz|exact h1|(intro h_;revert h_)|exact cA|skip
  ·have hi':i=ks.length:=by have:=of_decide_eq_false c1;omega
   have ha:fq ks=true:=List.all_eq_true.2 fun k hk=>by
    obtain⟨j,hj,rfl⟩:=List.getElem_of_mem hk;rw[<- bN hj];exact hall j (by omega)
   and_intros<;>first|exact cz|exact ha|(intro h_;revert h_)|exact cA|skip
 ·have e0:dc m ks 0=m:=rfl;dsimp only;rw[e0]
  and_intros<;>first|exact cz|exact hl|exact hfr0|exact hcap|exact hK|(intro h_;revert h_)|exact cA|skip
 obtain⟨i,q⟩:=x;obtain⟨hi,_,hq,hfr,hqc⟩:=hx;dsimp only at hi hq hfr hqc ⊢;obtain⟨hok1,hok2,hok3,hok4⟩:=hok hK;have hMn:=zx m ks i;rw[show 0+(i:Int).toNat=i by omega];refine⟨fun c1=>?_,fun c1=>?_⟩
 ·have hlt:i<ks.length:=by have:=of_decide_eq_true c1;omega
  obtain⟨ok1,s0,s1⟩:=hok1 i hlt;have hkey:dM (gl ks i)=true:=List.all_eq_true.1 hK (gl ks i) (by rw[bN hlt];exact List.getElem_mem _);obtain⟨k1,k2⟩:=nQ hkey;have e:dc m ks (i+1)=Jm (dc m ks i) (gl ks i):=rfl;have hMn1:=zx m ks (i+1);obtain⟨M,hM⟩:∃M,M=dc m ks i:=⟨_,rfl⟩
  rw[<- hM]at hq hqc hMn ok1 s0 s1 e;rw[<- hM];obtain⟨sq,hsq⟩:∃sq,sq=gL M.ms+1:=⟨_,rfl⟩
  have hMs:M.ms.length<100000:=by omega
  refine⟨⟨by omega,by omega⟩,hlt,GY.mk M.ms q.cap,?_⟩
  and_intros<;>first|exact cz|exact hMs|(intro h_;revert h_)|exact cA|skip
  intro _ _;dsimp only;rw[<- hsq];have eB:[]++gI [sq]=vi sq:=by simp[gI]
  have hv:=iD sq;have hr1:aj [sq].length 1 (aN 1 [Value.int .i64 sq]) (aa encI [sq]):=.dQ fun i hi=>by
   have:i=0:=by simp at hi;omega
   subst this;rfl
  have hg1:∀i:Nat,i < [sq].length->0<=gl [sq] i/\gl [sq] i<4611686018427387904:=fun i hi=>by
   have:i=0:=by simp at hi;omega
   subst this;show 0<=sq/\sq<_;omega
  have hg2:[sq].length<100:=by simp
  refine⟨by simp only[bQ];omega,mg.mk [] 0 [sq] 1,?_⟩;dsimp only;rw[eB]
  and_intros<;>first|exact cz|exact hr1|exact hg1|exact hg2|(intro h_;revert h_)|exact cA|skip
  intro b _;have hbl:(dF sq (gl ks i)).length=(vi sq).length+(gl ks i).size:=by unfold dF;rw[List.length_append,iO]
  have hr2:aj (dF sq (gl ks i)).length 1 (aX (aa cB (vi sq)) 0 (vi sq).length (mV (gl ks i))) (aa cB (dF sq (gl ks i))):=.app rfl (.of_eq (by funext i;rw[Nat.zero_add])) (BY _ (by omega));refine⟨by omega,by omega,fun c q1 q2 q3=>⟨qE.mk q.H q.y M.L M.d (dF sq (gl ks i)) c,?_⟩⟩
  and_intros<;>first|exact cz|exact hq|exact ok1|exact hr2|(intro h_;revert h_)|exact cA|skip
  rintro⟨H1,y1⟩ ⟨hl1,hf1⟩;dsimp only at hl1 hf1 ⊢;have hr3:=EB (ms:=M.ms) (x:=⟨sq,gl ks i,M.L.next⟩);have hfr1:GZ p ⟨H1,y1,0⟩:=fun z hz hn=>by
   obtain⟨a1,a2⟩:=hfr z hz hn;obtain⟨b1,b2⟩:=hf1 z (by rw[a1];exact hz) a2;exact⟨b1.trans a1,b2⟩
  refine⟨by omega,by omega,by omega,fun c2 w1 w2 w3=>⟨by simp only[bQ];omega,⟨i+1,⟨H1,y1,c2⟩⟩,?_⟩⟩;dsimp only;have e2:Jm M (gl ks i)=⟨lI M.L (dF sq (gl ks i)),nJ M.L M.d (dF sq (gl ks i)),M.ms++[⟨sq,gl ks i,M.L.next⟩]⟩:=by rw[hsq];rfl
  rw[e,e2]at hMn1;dsimp only at hMn1;rw[e,e2];dsimp only;have hi2:i+1<=ks.length:=hlt;have hfr2:GZ p ⟨H1,y1,c2⟩:=hfr1;have hlt2:ks.length-(i+1)<ks.length-i:=by omega
  have hcap2:(M.ms++[(⟨sq,gl ks i,M.L.next⟩:eH)]).length<=c2:=by omega
  and_intros<;>first|exact cz|exact hl1|exact hfr2|exact hK|exact hr3|exact hcap2|exact hMn1|exact hlt2|(intro h_;revert h_)|exact cA|skip
 ·have hi':i=ks.length:=by have:=of_decide_eq_false c1;omega
  subst hi';obtain⟨M,hM⟩:∃M,M=dc m ks ks.length:=⟨_,rfl⟩
  rw[<- hM]at hq hqc hMn hok2 hok3 hok4;rw[<- hM];have hMs:M.ms.length<100000:=by omega
  have hkl:(dD (cu M.L) M.ms).length<=M.ms.length:=List.length_filter_le _ _;have hks:(dD (cu M.L) M.ms).length<100000:=by omega
  have hkc:(dD (cu M.L) M.ms).length<=q.cap:=by omega
  have hfr2:GZ p ⟨q.H,q.y,q.cap⟩:=hfr;refine⟨mS.mk M.ms q.cap q.H q.y M.L,?_⟩
  and_intros<;>first|exact cz|exact hq|exact hok4|exact hMs|exact hqc|(intro h_;revert h_)|exact cA|skip
  intro _ _;dsimp only;rw[hK];refine⟨fun c2=>?_,fun c2=>?_⟩
  ·have hn:ks.length≠0:=by have:=of_decide_eq_true c2;omega
   have e1:gM m ks=⟨M.L,fZ M.d,dD (cu M.L) M.ms⟩:=by
    unfold gM;rw[if_pos hK,if_neg hn,<- hM];rfl
   rw[e1];refine⟨M.d,?_⟩
   and_intros<;>first|exact cz|exact hok2|exact hok3|(intro h_;revert h_)|exact cA|skip
   intro _ _;refine⟨GY.mk (dD (cu M.L) M.ms) q.cap,?_⟩
   and_intros<;>first|exact cz|exact hks|(intro h_;revert h_)|exact cA|skip
   intro _ _;refine⟨⟨q.H,q.y,q.cap⟩,?_⟩
   and_intros<;>first|exact cz|exact hq|exact hfr2|exact hkc|(intro h_;revert h_)|exact cA|skip
  ·have hn:ks.length=0:=by have:=of_decide_eq_false c2;omega
   have e1:gM m ks=⟨M.L,M.d,dD (cu M.L) M.ms⟩:=by
    unfold gM;rw[if_pos hK,if_pos hn,hM,hn];rfl
   rw[e1];refine⟨GY.mk (dD (cu M.L) M.ms) q.cap,?_⟩
   and_intros<;>first|exact cz|exact hks|(intro h_;revert h_)|exact cA|skip
   intro _ _;refine⟨⟨q.H,q.y,q.cap⟩,?_⟩
   and_intros<;>first|exact cz|exact hq|exact hfr2|exact hkc|(intro h_;revert h_)|exact cA|skip)
theorem SZ:ak (Y Tryz.prog).G.X 134 EC:=aT fF SY ⟨Jk,yK,Ce,SU,iz,trivial⟩
structure Zq where
 l:List Int
 cap:Nat
 n:Int
noncomputable def zy:cF where
 α:=Zq
 β:=Unit
 m:=1
 m':=1
 pre:=fun a=>a.l.length<100000/\a.l.length<=a.cap/\0<=a.n/\a.n<4611686018427387904/\(vi a.n).length<=a.l.length/\∀i,i<(vi a.n).length->gl a.l (0+i)=gl (vi a.n) i
 args:=fun a=>[.a (.slc 0 0 1 a.l.length a.cap)]
 hp:=fun _=>[]
 ro:=fun a=>je 0 a.l
 post:=fun _ _=>True
 res:=fun a _=>.lY [.a (.int .i64 a.n),.a (.int .i64 (vi a.n).length),.a (.lit .i64 0)]
 cS:=fun _ _=>[]
theorem W4{Y:Gx}(hY:Y.Ok){iW:List (Nat×cF)}(ht:tL Y.G.X iW){f:Nat}{C:cF}{l:C.α->List (Nat×List An×List An)}(hb:fnBody Y iW f C l):lE Y.G.X C f:=AW hY (fun _=>xI hY ht) hb.body
theorem Vo:lE (Y Tryz.prog).G.X IQ 177:=W4 fF (iW:=[]) trivial IS
theorem Pf{X:Cx}{C D:cF}{f:Nat}(h:lE X C f)(g:D.α->C.α)(h1:∀a,D.pre a->C.pre (g a))(hm:D.m=C.m)(hm':D.m'=C.m')(hβ:D.β=C.β)(h2:∀a,D.hp a=C.hp (g a))(h3:∀a,D.ro a=C.ro (g a))(h4:∀a,D.args a=C.args (g a))
 (h5:∀a o,D.post a (cast hβ.symm o)=C.post (g a) o) (h6:∀a o,D.res a (cast hβ.symm o)=C.res (g a) o) (h7:∀a o,D.cS a (cast hβ.symm o)=C.cS (g a) o):lE X D f:=by
 intro a ha M ρ w vs hn hh hr;rw[h2,h3]at hh;rw[h4]at hr;refine Calls.mono (h (g a) (h1 a ha) M ρ w vs (hn.trans hm) hh hr) fun e w' hq=>?_;obtain⟨v,e1,o,ρ2,q1,q2,q3,q4,q5⟩:=hq;exact⟨v,e1,cast hβ.symm o,ρ2,by rw[h5];exact q1,q2.trans hm'.symm,fun T hT=>q3 T (by rw[<- hm];exact hT),by rw[h6];exact q4,by rw[h7];exact q5⟩
theorem S0:lE (Y Tryz.prog).G.X zy 177:=Pf (D:=zy) Vo (fun a=>(⟨a.l,0,a.l.length,a.cap,a.n⟩:pL)) (fun a h=>⟨by show 0+a.l.length<=a.l.length;omega,h.1,h.2.1,h.2.2.1,h.2.2.2.1,h.2.2.2.2.1,h.2.2.2.2.2⟩) rfl rfl rfl (fun _=>rfl) (fun _=>rfl) (fun _=>rfl) (fun _ _=>rfl) (fun _ _=>rfl) (fun _ _=>rfl)
def G3(a:Zq):Yc:=⟨5,[.int .u8],a.l.length,a.cap,aa cB a.l⟩
noncomputable def S1:cF:=zy.Va G3
theorem Pg:ak (Y Tryz.prog).G.X 177 S1:=fun _ _ _ h=>ve (I6 S0 ⟨rfl,fun _=>rfl,fun _=>rfl,fun _=>rfl,fun _ _=>rfl,fun _ _ p hp=>(by cases hp)⟩) h
structure W5(ms:List eH)(rs:List RecM):Prop where
 len:ms.length=rs.length
 xL:ms.length<9000
 at_:∀i,i<ms.length->(gl rs i).body=dF (gl ms i).seq (gl ms i).key/\(gl rs i).pos=(gl ms i).pos/\0<=(gl ms i).seq/\(gl ms i).seq<1000000000000/\dM (gl ms i).key=true
 step:∀i,i+1<ms.length->(gl ms (i+1)).seq=(gl ms i).seq+1
structure vA where
 H:PH
 d:bw
 from_:Nat
 au:Nat
 ms:List eH
noncomputable def zz:cF where
 α:=vA
 β:=Jl
 m:=3
 m':=7
 pre:=fun a=>20<=a.au/\qI a.from_ a.au a.d/\W5 a.ms (fL (cK a.from_ a.au a.d).l)/\∀i,i<(cK a.from_ a.au a.d).l.length->(gl (cK a.from_ a.au a.d).l i).aO.length<=400
 args:=fun a=>[.a (.ptr 0 0 0 0),.a (.int .i64 a.from_),.a (.int .i64 a.au)]
 hp:=fun a=>[(2,.ct a.H)]
 ro:=fun a=>gn 0 1 a.d
 post:=fun a b=>bT b.H b.y (cK a.from_ a.au a.d)/\(∀z,a.H z≠none->b.H z=a.H z/\z∉bq b.y)/\a.ms.length<=b.cap
 res:=fun _ _=>.lY [.a (.ptr 3 0 0 0),.a (.lit .i64 0)]
 cS:=fun a b=>[(3,V3 5 4 a.ms.length b.cap),(4,.arr 228 qL a.ms.length (aa cI a.ms)),(5,fI 0 (cK a.from_ a.au a.d) b.y.lv),(6,.ct b.H)]
def W6(a:vA):An:=.flat 10 (Nat×Nat) (fun s x=>((s.at_ (s.tg 10) (V3 (s.oQ (s.tg 10) 0) s.nx (a.ms.take x.1).length x.2)).new (.arr 228 qL (a.ms.take x.1).length (aa cI (a.ms.take x.1)))).int 38 x.1) (fun _ x=>x.1<=a.ms.length/\x.1<=x.2) (fun _ x=>a.ms.length-x.1)
theorem S2{ms:List eH}{rs:List RecM}(h:W5 ms rs){i:Nat}(hi:i<ms.length)(h0:i≠0):gL (ms.take i)+1=(gl ms i).seq:=by
 have hl:(ms.take i).length=i:=by rw[List.length_take];omega
 have e:gl (ms.take i) (i-1)=gl ms (i-1):=by rw[bN (by omega),bN (by omega),List.getElem_take]
 have:=h.step (i-1) (by omega);rw[Nat.sub_add_cancel (by omega)]at this;unfold gL;rw[hl,if_neg h0,e,this]
theorem NH{seq:Int}{k:ByteArray}:iw (fun i=>aa cB (dF seq k) ((vi seq).length+i)) 0 ((dF seq k).length-(vi seq).length)=k:=by
 have hn:(dF seq k).length-(vi seq).length=k.size:=by unfold dF;rw[List.length_append,iO];omega
 unfold iw;refine Ni hn fun i hi=>?_;show gl (dF seq k) ((vi seq).length+(0+i))=_;unfold dF;rw[aY,Nat.zero_add]
noncomputable def S3:List (Nat×cF):=[(175,Gw),(176,Nu),(177,S1),(140,NG)]
def G4(z:vK)(x:vA)(w:Nat)(s:Prop)(u:H8)(t:mK)(f g:Prop):=jg z.v (ag (bp (aR (ag (bO (aA (af x.au) 20) (bp (aR (ag (cC (af x.from_) (af x.au) (z.H=z.H) (eo (0=w/\s) (fc (cK u.from_ u.au u.d) t.y (fV x.d x.d (f/\g)))))))))))))
def nr(x:Nat×Nat)(y:vA):Nat:=bZ (List.take x.fst y.ms)
def CE(x:Nat×Nat)(y:vA):Nat->Nat->Value:=aa cI (List.take x.fst y.ms)
noncomputable def S4(u:List Value)(v:Nat)(w:V1 zy.α)(s:vK)(y:Nat×Nat)(x:vA)(t:H8)(f:mK):=Fb (aQ u (v+1))/\dh (af (av (vi w.a.n))) (cU (aQ u (v+1)))/\Exists (jG s.H (r7 u (v+1) (az (av (vi w.a.n))) (cU (aQ u (v+1)))) (CK.int .u8) [] fun g j h=>ai (jC (aQ u v))->gH (nr y x) 32 y.snd fun i=>iT y fun z=>G4 s x 0 (nr y x+1=nr z x/\i=z.snd) t f (iS (nr z x) (nr y x) 3 (CE y x) (bt w.a.n (dV (iw h 0 g) (jC (aQ u v)) [])) (CE z x)) (dO z.fst (bZ x.ms) (z.fst<=z.snd) y.fst))
def G5(x:vA):=20<=x.au/\zv x.from_ x.au x.d (W5 x.ms (fL (cK x.from_ x.au x.d).l))
theorem Ph:fnBody (Y Tryz.prog) S3 129 zz fun a=>[(129,[W6 a],[])]:=fnBody.of (p :=
 ∀x:vA,G5 x->aG (aA (af x.au) 20) (∃u:Jl,False) (∃u:H8,ag (bu x.from_ u.from_/\bu x.au u.au/\x.H=u.H/\fV x.d u.d (qI u.from_ u.au u.d/\∀f:mK,wK f u->∃i:sZ,eo (f.H=i.H) (tf (cK u.from_ u.au u.d) i.L f.y.lv i.y.lv (y5 i/\∀t:vK,y4 t i->Exists (ga t.v)/\(∃z:Nat×Nat,aK z.fst (G4 t x (nr z x) (0=z.snd) u f (nr z x=0) ((z.fst<=bZ x.ms/\z.fst<=z.snd)/\True)))/\∀z:Nat×Nat,z.fst<=bZ x.ms/\z.fst<=z.snd->ug z.fst t.v (fun s=>t.H s) (fun s g=>∃w:V1 zy.α,aQ g (s+1)=w.v/\t.H=w.H/\(yM (av w.a.l) w.a.cap w.a.n w.a.l 0/\jU w.H w.v (iG (CK.int .u8)) (G3 w.a).n (G3 w.a).cap (G3 w.a).rows)/\∀k:zy.β,True->aG (af (nr z x) == (0:Int)) (S4 g s w t z x u f) (∃j:GY,ax (uF (List.take z.fst x.ms) j.ms z.snd j.cap (bZ j.ms<100000/\aI (ai (gL j.ms+(1:Int))/\aG (w.a.n == gL j.ms+(1:Int)) (S4 g s w t z x u f) (iT z fun h=>G4 t x 0 (nr z x=nr h x/\z.snd=h.snd) u f (bB (nr h x) (nr z x) 3 (CE z x) (CE h x)) (dO h.fst (bZ x.ms) (h.fst<=h.snd) z.fst))))))) (∃s:Jl,eo (aH 0) (uF (List.take z.fst x.ms) x.ms z.snd s.cap (ag (oq (cK u.from_ u.au u.d) (cK x.from_ x.au x.d) f.y s.y t.H s.H ((∀g:Nat,oo (x.H g) (s.H g) (bq s.y) g)/\bZ x.ms<=s.cap) True)))))))))) (by kernel_rfl) (by
 delta aG aQ av bB cC ai bt bR az aH gq aA cn af bO iA dZ dO aF dL aU bn bP eo cQ ga aI S4 bZ pN bz dS iS gH bp fc tV wH bF iT jG wK aP G4 aW iF zv aK aR y4 bf ug oo ag nr jg gJ bx oq iG ax y5 dV bu dh om jf jE G5 yM r7 CE
 try dsimp -iota -proj only
 rintro⟨H,d,fr,sg,ms⟩ ⟨hsg,ok,hms,hsl⟩;dsimp only at *;obtain⟨L,hL⟩:∃L,L=cK fr sg d:=⟨_,rfl⟩
 have hone:L.l.length<=1:=by rw[hL];exact ok.one
 rw[<- hL]at hms hsl;have hlen:=hms.len;have hfew:=hms.xL;refine⟨fun c=>by(exfalso;have:=of_decide_eq_true c;omega),fun _=>⟨H8.mk H d fr sg,?_⟩⟩;dsimp only;rw[<- hL]
 and_intros<;>first|exact cz|exact ok|(intro h_;revert h_)|exact cA|skip
 rintro⟨H1,y1⟩ ⟨hl1,hf1⟩;dsimp only at hl1 hf1 ⊢;refine⟨sZ.mk H1 y1 L,?_⟩;have hrec:∀i,i<L.l.length->(gl L.l i).aO.length<=400/\∀k,k<(gl L.l i).aO.length->1<=(gl (gl L.l i).aO k).body.length/\(gl (gl L.l i).aO k).body.length<=1000:=fun i hi=>⟨hsl i hi,fun k hk=>by
  obtain⟨j,hj,e⟩:=GU hi hk;obtain⟨e1,_,_,_,e5⟩:=hms.at_ j (by rw[hlen];exact hj);have a1:=iD (gl ms j).seq;have a2:=nQ e5;rw[<- e,e1];unfold dF;rw[List.length_append,iO];omega⟩
 have hL1:L.l.length<1000:=by omega
 and_intros<;>first|exact cz|exact hl1|exact hrec|exact hL1|(intro h_;revert h_)|exact cA|skip
 rintro⟨H2,v,vs⟩ ⟨hout,hf2⟩;dsimp only at hout hf2 ⊢;obtain⟨cr,hrows⟩:=hout.rows;obtain⟨s1,s2,s3,s4,s5,⟨sa,s6⟩,s7⟩:=eR hrows;have hlog:bT H2 y1 L:=hl1.frame fun z hz=>(hf2 z (hl1.dom z hz)).1;have hfin:∀z,H z≠none->H2 z=H z/\¬z∈bq y1:=fun z hz=>by
  obtain⟨a1,a2⟩:=hf1 z hz;exact⟨(hf2 z (by rw[a1];exact hz)).1.trans a1,a2⟩
 rw[s1];refine⟨⟨sa,_,_,s6,by simp only[aq];omega⟩,⟨(0,0),?_⟩,fun q hq=>?_⟩
 ·dsimp only
  and_intros<;>first|exact cz|(intro h_;revert h_)|exact cA|skip
 obtain⟨i,c⟩:=q;obtain⟨hi,hic⟩:=hq;dsimp only at hi hic ⊢;have hti:(ms.take i).length=i:=by rw[List.length_take];omega
 rw[hti];refine⟨fun c1=>?_,fun c1=>?_⟩
 ·have hi':i<ms.length:=by have:=of_decide_eq_true c1;omega
  have hti1:(ms.take (i+1)).length=i+1:=by rw[List.length_take];omega
  have htp:ms.take (i+1)=ms.take i++[gl ms i]:=oS hi';obtain⟨b',lo',o',cs',q1,q2,q3,q4,q5,q6,q7,q8⟩:=uf hrows (k:=i) (by omega);obtain⟨cb,hbody⟩:=hout.body i (by omega);obtain⟨e1,e2,e3,e4,e5⟩:=hms.at_ i hi';have hsq:=fun h0=>S2 hms hi' h0;obtain⟨x,hx⟩:∃x,x=gl ms i:=⟨_,rfl⟩
  rw[<- hx]at e1 e2 e3 e4 e5 hsq htp;rw[e1]at hbody;rw[e2]at q3 q6 q7;obtain⟨k1,k2⟩:=nQ e5;have hv:=iD x.seq;have hbl:(dF x.seq x.key).length=(vi x.seq).length+x.key.size:=by unfold dF;rw[List.length_append,iO]
  obtain⟨w1,w2,w3,w4,w5,⟨wa,w7⟩,w6⟩:=eR hbody;have hcut:=IU (Nat.le_refl _) hbody (sz:=1) (a:=(vi x.seq).length) (e:=(dF x.seq x.key).length) (m:=cb) rfl (by omega) (Nat.le_refl _) w3 (Nat.le_refl _);have hgl:∀j,j<(vi x.seq).length->gl (dF x.seq x.key) (0+j)=gl (vi x.seq) j:=fun j hj=>by
   rw[Nat.zero_add];unfold dF;rw[bJ hj]
  have hr3:=EB (ms:=ms.take i) (x:=x);rw[hti,<- htp,hti1]at hr3;refine⟨_,_,_,_,q1,by omega,b',lo',o'+i*2,cs',by rw[Int.toNat_natCast];congr 1;omega,q2,⟨⟨_,q3,_,rfl,q6⟩,⟨_,q4,q5⟩,trivial⟩,?_⟩;rw[q7,q8];have hpre:(dF x.seq x.key).length<100000/\(dF x.seq x.key).length<=cb/\0<=x.seq/\x.seq<4611686018427387904/\(vi x.seq).length<=(dF x.seq x.key).length/\∀j,j<(vi x.seq).length->gl (dF x.seq x.key) (0+j)=gl (vi x.seq) j:=⟨by omega,w3,e3,by omega,by omega,hgl⟩
  refine⟨⟨⟨dF x.seq x.key,cb,x.seq⟩,H2,vs.getD i undef⟩,rfl,rfl,⟨hpre,hbody⟩,fun _ _=>?_⟩;rw[w1,w2,show((vi x.seq).length:Int).toNat=(vi x.seq).length by omega];dsimp only[jC];refine⟨fun c2=>?_,fun c2=>?_⟩
  ·refine⟨w5,⟨by omega,by omega⟩,_,_,_,hcut,fun _=>⟨by omega,by omega,by omega,fun c2 v1 v2 v3=>⟨by simp only[bQ];omega,(i+1,c2),?_⟩⟩⟩;dsimp only;rw[NH,hti1]
   and_intros<;>first|exact cz|exact hr3|(intro h_;revert h_)|exact cA|skip
  ·have h0:i≠0:=fun e=>by rw[e]at c2;cases c2
   have hsq:=hsq h0;have htl:(ms.take i).length<100000:=by omega
   refine⟨GY.mk (ms.take i) c,?_⟩;dsimp only;rw[hti];have hr0:aj i 3 (aa cI (ms.take i)) (aa cI (ms.take i)):=aj.refl _ _ _
   and_intros<;>first|exact cz|exact htl|(intro h_;revert h_)|exact cA|skip
   intro _ _;rw[hsq];refine⟨by simp only[bQ];omega,fun _=>⟨w5,⟨by omega,by omega⟩,_,_,_,hcut,fun _=>⟨by omega,by omega,by omega,fun c2 v1 v2 v3=>⟨by simp only[bQ];omega,(i+1,c2),?_⟩⟩⟩,fun e=>by(exfalso;simp at e)⟩;dsimp only;rw[NH,hti1]
   and_intros<;>first|exact cz|exact hr3|(intro h_;revert h_)|exact cA|skip
 ·have hi':i=ms.length:=by have:=of_decide_eq_false c1;omega
  subst hi';rw[List.take_length];refine⟨⟨H2,y1,c⟩,?_⟩
  and_intros<;>first|exact cz|exact hlog|exact hfin|(intro h_;revert h_)|exact cA|skip)
theorem Pj:ak (Y Tryz.prog).G.X 129 zz:=aT fF Ph ⟨Ek,Ja,Pg,Jk,trivial⟩
theorem S5:fnBody (Y Tryz.prog) [] 204 BR fun a=>[(204,[XS a],[])]:=fnBody.of (p :=
 FI) (by kernel_rfl) (by
 delta aG bB ai aH aA cn af bG fk aF aU bn jZ bP dm bV bS FI ay aP aW aK bf kN bg bx oe
 try dsimp -iota -proj only
 rintro⟨r,len,cap,v,n,rows⟩ ⟨h1,h2⟩;dsimp only at h1 h2 ⊢;simp only[Int.toNat_natCast,bQ,decide_eq_true_eq,decide_eq_false_iff_not];refine⟨⟨0,?_⟩,fun k hk=>⟨fun c1=>?_,fun c1=>⟨(),?_⟩⟩⟩
 ·(and_intros<;>first|exact vv|skip)
  refine⟨fun i hi j hj=>?_⟩;unfold tc;rw[if_neg (by omega)]
 ·have hk:k<len:=by omega
  have e:((len:Int)-1-k).toNat=len-1-k:=by omega
  rw[e];refine⟨by omega,by omega,by omega,by omega,by omega,by omega,by omega,k+1,?_⟩
  (and_intros<;>first|exact vv|skip)
  refine⟨fun i hi j hj=>?_⟩;have hj:j=0:=by omega
  subst hj;by_cases hik:i=r+(len-1-k)
  ·subst hik;have e3:(8*(k:Int)).toNat=8*(r+len-1-(r+(len-1-k))):=by omega
   rw[iR,e3];show Value.int .u8 _=_;simp only[tc];rw[if_pos (by omega)]
  ·rw[gG hik];simp only[tc];by_cases hq:r+len<=i+k/\i<r+len
   ·rw[if_pos hq,if_pos (by omega)]
   ·rw[if_neg hq,if_neg (by omega)]
 ·have:k=len:=by omega
  subst this
  (and_intros<;>first|exact vv|skip))
theorem S6:ak (Y Tryz.prog).G.X 204 BR:=aT fF S5 trivial
def G6(n:Int)(b:List Int)(j:Nat):Int:=if j<4 then 0 else if j<12 then H6 (uw .u64 n) 8 (j-4)else if j=12 then(b.length:Int)else if j-13<b.length then gl b (j-13)else 0
def wQ(n:Int)(b:List Int)(j:Nat):Int:=if j<4 then H6 (vw (G6 n b)) 4 j else G6 n b j
structure nu where
 at_:Nat
 eW:Int
 text:List Int
 slot:Nat
def Y8(dv tx:Nat)(S:nu)(cap:Nat):List A:=[.ptr dv 0 0 0,.int .i64 S.at_,.int .i64 S.eW,.slc tx 0 1 S.text.length cap,.int .i64 S.slot]
def ED(su tx dv:Nat)(S:nu)(cap:Nat):List (Nat×Chunk):=[(su,.obj 262 (Y8 dv tx S cap)),(tx,.arr 5 [.int .u8] S.text.length (aa cB S.text))]
def G7(S:nu)(slot:Nat)(n:Int)(b:List Int):nu:=⟨S.at_,n,b,slot⟩
def AH(S:nu)(d:bw)(slot:Nat)(n:Int)(b:List Int):bw:=fZ (fW d (S.at_+slot) 64 (wQ n b))
structure Jn where
 S:nu
 cap:Nat
 d:bw
 slot:Nat
 n:Int
 b:List Int
 bc:Nat
noncomputable def A6:cF where
 α:=Jn
 β:=Nat
 m:=5
 m':=6
 pre:=fun a=>a.S.at_+1<a.d.n/\a.slot<=1/\a.d.n<100000/\a.d.calls<900000000000/\1<=a.b.length/\a.b.length<=40
 args:=fun a=>[.a (.ptr 0 0 0 0),.a (.int .i64 a.slot),.a (.int .i64 a.n),.a (.slc 4 0 1 a.b.length a.bc)]
 hp:=fun a=>ED 0 1 2 a.S a.cap++gn 2 3 a.d
 ro:=fun a=>je 4 a.b
 post:=fun _ _=>True
 res:=fun _ _=>.a (.lit .i64 0)
 cS:=fun a c=>ED 0 5 2 (G7 a.S a.slot a.n a.b) c++gn 2 3 (AH a.S a.d a.slot a.n a.b)
def pW(y:nu)(x:bw)(z:Nat)(u:Prop):=y.at_+1<x.n/\z<=1/\x.n<100000/\x.calls<900000000000/\u
def jj(x:Jn):nu:=G7 x.S x.slot x.n x.b
def wR(x:Jn):bw:=AH x.S x.d x.slot x.n x.b
theorem LM:fnBody (Y Tryz.prog) [(204,BR),(203,Rn),(81,oR),(169,jA)] 174 A6 fun _=>[]:=fnBody.of (p :=
 ∀x:Jn,pW x.S x.d x.slot (gJ x.b 40)->lF 64 64 (dZ 12 64/\dZ 4 12/\wz 4 8 60 (cN x.n) 64 r8 fun y=>bn 12 64/\12<y.n/\dZ 13 64/\64<=y.n/\F5 (mh x.b) y (oa (jT (kN y y.len) 12 0 (tR (av x.b))) 13 (min (av x.b) 51) (qF cB x.b)) fun z=>ai (af x.S.at_)->ai (af x.S.at_+af x.slot)/\∃u:KE,ag (af x.S.at_+af x.slot=af u.i/\wA u x.d z.n (kN z z.len) (kq (lG u) fun w=>yY x.b (∃v:Nat,aR (ag (bu x.S.at_ (nu.at_ (jj x))/\x.n=nu.eW (jj x)/\(0=av (nu.text (jj x))/\0=v)/\bu x.slot (nu.slot (jj x))/\av (nu.text (jj x))=0/\fV (fZ w) (wR x) (True/\True)))) (gq 0 (av x.b) 1 0 fun v=>∃s:Nat,aR (ag (bu x.S.at_ (nu.at_ (jj x))/\x.n=nu.eW (jj x)/\gp (0+av x.b) (av (nu.text (jj x))) v s (bu x.slot (nu.slot (jj x))) 1 (tQ (qF cB x.b)) (aa cB (nu.text (jj x))) (fV (fZ w) (wR x) (True/\True))))))))) (by kernel_rfl) (by
 delta aG aQ av bB ai bR aH gq af dZ bG fk aF bn pI bP gp aI kf F5 lG wA lF cN pW jj aR wz tN kN ag gJ tP r8 kq bu tR mh qF wR tM yY tQ
 try dsimp -iota -proj only
 rintro⟨u,cap,d,slot,n,b,bc⟩ ⟨h1,h2,h3,h4,h5,h6⟩;dsimp only at *;obtain⟨F1,hF1⟩:∃F:Nat->Int,F=fun k=>if 4<=k/\k<4+8 then H6 (uw .u64 n) 8 (k-4)else 0:=⟨_,rfl⟩
 have hb8:uw .u8 (b.length:Int)=b.length:=by simp only[uw];omega
 have h0:aj 64 1 (fun(x j:Nat)=>[Value.int IntKind.u8 (0:Int)].getD j (Value.tuple #[])) (bK fun _=>0):=kg fun _ _=>rfl
 repeat refine kJ ?_
 refine⟨lV.mk 4 8 60 (uw .u64 n) 64 (bK fun _=>0),?_⟩
 and_intros<;>first|exact cz|exact h0|(intro h_;revert h_)|exact cA|skip
 intro _ _;rw[show tc (bK fun _=>0) 4 8 (uw .u64 n) 8=bK F1 by rw[wv (by omega),hF1]];have hfin:aj 64 1 (oa (jT (bK F1) 12 0 [Value.int .u8 (uw .u8 (b.length:Int))]) 13 (min b.length 51) fun(i j:Nat)=>aa cB b (0+i) j) (bK (G6 n b)):=by
  rw[hb8,show min b.length 51=b.length by omega];refine kg fun k hk=>?_;simp only[oa,bK,aa,cB,List.getD_cons_zero,Nat.zero_add,hF1,G6,qm]
  (repeat' split)<;>first|rfl|(exfalso;omega)|skip
 have hlast:aj 64 1 (tc (bK (G6 n b)) 0 4 (vw (G6 n b)) 4) (bK (wQ n b)):=by
  rw[wv (by omega)];refine kg fun k hk=>?_;simp only[bK,wQ,Nat.zero_le,true_and,Nat.zero_add,Nat.sub_zero]
 repeat refine kJ ?_
 refine⟨yF.mk 1 4 60 60 64 (bK (G6 n b)),?_⟩
 and_intros<;>first|exact cz|exact hfin|(intro h_;revert h_)|exact cA|skip
 intro _ _;refine⟨lV.mk 0 4 64 (vw (G6 n b)) 64 (bK (G6 n b)),?_⟩
 and_intros<;>first|exact cz|exact hfin|(intro h_;revert h_)|exact cA|skip
 intro _ _ _;refine⟨by simp only[bQ];omega,KE.mk d (u.at_+slot) 0 64 64 64 (wQ n b),?_⟩;dsimp only
 and_intros<;>first|exact cz|exact hlast|(intro h_;revert h_)|exact cA|skip
 intro _ _;refine⟨fW d (u.at_+slot) 64 fun j=>wQ n b (0+j),?_⟩;have e0:(fun j=>wQ n b (0+j))=wQ n b:=by funext j;rw[Nat.zero_add]
 have hn:(fW d (u.at_+slot) 64 (wQ n b)).n<100000:=h3;have hc:(fW d (u.at_+slot) 64 (wQ n b)).calls<1000000000000:=by show d.calls+1<_;omega
 rw[e0]
 and_intros<;>first|exact cz|exact hn|exact hc|(intro h_;revert h_)|exact cA|skip
 intro _ _ q hq;refine⟨fun e=>by(have:=hq e;exfalso;omega),fun _=>?_⟩;have hr:aj b.length 1 (aX (aN 1 []) 0 0 fun(i j:Nat)=>aa cB b (0+i) j) (aa cB b):=⟨fun i hi j hj=>by
  simp only[aX,Nat.not_lt_zero,if_false,Nat.sub_zero,Nat.zero_add]⟩
 refine⟨by omega,by omega,by omega,fun c q1 q2 q3=>⟨c,?_⟩⟩;dsimp only[G7,AH]
 and_intros<;>first|exact cz|exact hr|(intro h_;revert h_)|exact cA|skip)
theorem CF:ak (Y Tryz.prog).G.X 174 A6:=aT fF LM ⟨S6,FH,oK,iz,trivial⟩
structure S7 where
 at_:Nat
 d:bw
 b:List Int
 bc:Nat
def ov(d:bw)(at_:Nat)(b:List Int):bw:=AH ⟨at_,0,[],0⟩ (fZ (fW (fW d at_ 64 fun _=>0) (at_+1) 64 fun _=>0)) 0 1 b
noncomputable def LN:cF where
 α:=S7
 β:=Nat
 m:=3
 m':=5
 pre:=fun a=>a.at_+1<a.d.n/\a.d.n<100000/\a.d.calls<800000000000/\1<=a.b.length/\a.b.length<=40
 args:=fun a=>[.a (.ptr 0 0 0 0),.a (.int .i64 a.at_),.a (.slc 2 0 1 a.b.length a.bc)]
 hp:=fun a=>gn 0 1 a.d
 ro:=fun a=>je 2 a.b
 post:=fun _ _=>True
 res:=fun _ _=>.lY [.a (.ptr 3 0 0 0),.a (.lit .i64 0)]
 cS:=fun a c=>ED 3 4 0 ⟨a.at_,1,a.b,0⟩ c++gn 0 1 (ov a.d a.at_ a.b)
def G8(x:S7):=x.at_+1<x.d.n/\x.d.n<100000/\x.d.calls<800000000000/\gJ x.b 40
theorem Pm:fnBody (Y Tryz.prog) [(174,A6),(81,oR),(169,jA)] 127 LN fun _=>[]:=fnBody.of (p :=
 ∀y:S7,G8 y->aG (cO 0 (af y.at_)) (ai (af y.d.n-(1:Int))/\gU (bC (aA (af y.at_) (af y.d.n-(1:Int)))) (∃z:Nat,False) (aA 40 (af (av y.b))) (ai (af y.at_+(0:Int))/\lF 64 64 (∃z:KE,ag (af y.at_+(0:Int)=af z.i/\wA z y.d 64 r8 (aP y.at_/\lF 64 64 (∃u:KE,ag (bx y.at_ u.i/\wA u (lG z) 64 r8 (kq (lG u) fun v=>∃x:Jn,ag (aK x.slot ((1:Int)=x.n/\cG y.b x.b y.bc x.bc/\ag (bu y.at_ x.S.at_/\(0:Int)=x.S.eW/\(0=av x.S.text/\0=x.cap)/\aK x.S.slot (av x.S.text=0/\fV (fZ v) x.d (bW x.b y.b cB/\pW x.S x.d x.slot (gJ x.b 40)/\∀w:Nat,True->∃s:Nat,eo (aH 0) (bu (nu.at_ (jj x)) y.at_/\nu.eW (jj x)=(1:Int)/\cG (nu.text (jj x)) y.b w s/\bu (nu.slot (jj x)) 0/\bW y.b (nu.text (jj x)) cB/\fV (wR x) (ov y.d y.at_ y.b) (True/\True))))))))))))))) (∃z:Nat,False)) (by kernel_rfl) (by
 delta aG aQ av bB ai aH aA af bG fk aF bP eo bW gU aI cG kf lG wA lF aP pW jj cO aK ag gJ tP r8 bx kq bu bC wR G8
 try dsimp -iota -proj only
 rintro⟨at_,d,b,bc⟩ ⟨h1,h2,h3,h4,h5⟩;dsimp only at *;have h0:aj 64 1 (fun(x j:Nat)=>[Value.int IntKind.u8 (0:Int)].getD j (Value.tuple #[])) (bK fun _=>0):=kg fun _ _=>rfl;refine⟨fun _=>⟨by simp only[bQ];omega,fun c=>by(exfalso;simp at c;omega),fun _=>⟨fun c=>by(exfalso;simp at c;omega),fun _=>?_⟩⟩,fun c=>by(exfalso;simp at c)⟩;refine⟨by simp only[bQ];omega,by omega,by omega,by omega,KE.mk d at_ 0 64 64 64 fun _=>0,?_⟩;dsimp only
 and_intros<;>first|exact cz|exact h0|(intro h_;revert h_)|exact cA|skip
 intro _ _;refine⟨by simp only[bQ];omega,by omega,by omega,by omega,KE.mk (fW d at_ 64 fun _=>0) (at_+1) 0 64 64 64 fun _=>0,?_⟩;have hn1:at_+1<(fW d at_ 64 fun _=>0).n:=h1;have hn2:(fW d at_ 64 fun _=>0).n<100000:=h2;have hc2:(fW d at_ 64 fun _=>0).calls<1000000000000:=by show d.calls+1<_;omega
 dsimp only
 and_intros<;>first|exact cz|exact h0|exact hn1|exact hn2|exact hc2|(intro h_;revert h_)|exact cA|skip
 intro _ _;obtain⟨D,hD⟩:∃D,D=fW (fW d at_ 64 fun _=>0) (at_+1) 64 fun _=>0:=⟨_,rfl⟩
 rw[<- hD];have hn3:D.n=d.n:=by rw[hD];rfl
 have hc3:D.calls=d.calls+2:=by rw[hD];rfl
 refine⟨D,?_⟩
 and_intros<;>first|exact cz|(intro h_;revert h_)|exact cA|skip
 intro _ _;have hn4:at_+1<(fZ D).n:=by show at_+1<D.n;omega
 have hn5:(fZ D).n<100000:=by show D.n<_;omega
 have hc4:(fZ D).calls<900000000000:=by show D.calls+1<_;omega
 refine⟨Jn.mk ⟨at_,0,[],0⟩ 0 (fZ D) 0 1 b bc,?_⟩;dsimp only
 and_intros<;>first|exact cz|exact hn4|exact hn5|exact hc4|(intro h_;revert h_)|exact cA|skip
 intro c _;refine⟨c,?_⟩;dsimp only[G7,ov];rw[<- hD]
 and_intros<;>first|exact cz|(intro h_;revert h_)|exact cA|skip)
theorem Pn:ak (Y Tryz.prog).G.X 127 LN:=aT fF Pm ⟨CF,oK,iz,trivial⟩
structure LO where
 S:nu
 cap:Nat
 d:bw
 b:List Int
 bc:Nat
noncomputable def LP:cF where
 α:=LO
 β:=Nat
 m:=5
 m':=6
 pre:=fun a=>a.S.at_+1<a.d.n/\a.S.slot<=1/\a.d.n<100000/\a.d.calls<900000000000/\1<=a.b.length/\a.b.length<=40/\0<=a.S.eW/\a.S.eW<1000000000000
 args:=fun a=>[.a (.ptr 0 0 0 0),.a (.slc 4 0 1 a.b.length a.bc)]
 hp:=fun a=>ED 0 1 2 a.S a.cap++gn 2 3 a.d
 ro:=fun a=>je 4 a.b
 post:=fun _ _=>True
 res:=fun _ _=>.a (.lit .i64 0)
 cS:=fun a c=>ED 0 5 2 (G7 a.S (1-a.S.slot) (a.S.eW+1) a.b) c++gn 2 3 (AH a.S a.d (1-a.S.slot) (a.S.eW+1) a.b)
def wS(x y:nu)(z u:Nat)(v w:bw)(s t:Prop):=bu x.at_ y.at_/\x.eW=y.eW/\cG x.text y.text z u/\bu x.slot y.slot/\bW y.text x.text cB/\fV v w (s/\t)
def CG(x:LO):bw:=AH x.S x.d (1-x.S.slot) (x.S.eW+(1:Int)) x.b
def CH(x:LO):nu:=G7 x.S (1-x.S.slot) (x.S.eW+(1:Int)) x.b
def G9(x:LO):=pW x.S x.d x.S.slot (1<=av x.b/\av x.b<=40/\bn x.S.eW 1000000000000)
theorem Po:fnBody (Y Tryz.prog) [(174,A6)] 146 LP fun _=>[]:=fnBody.of (p :=
 ∀x:LO,G9 x->bf 40 (av x.b) (∃z:Nat,(1:Int)=0/\ag (wS x.S (CH x) x.cap z x.d (CG x) True True)) (ai (af x.S.slot)->ai ((1:Int)-af x.S.slot)/\(ai x.S.eW->ai (x.S.eW+(1:Int))/\∃y:Jn,ag ((1:Int)-af x.S.slot=af y.slot/\x.S.eW+(1:Int)=y.n/\cG x.b y.b x.bc y.bc/\ag (wS x.S y.S x.cap y.cap x.d y.d (bW y.b x.b cB) (pW y.S y.d y.slot (gJ y.b 40)/\∀u:Nat,True->∃v:Nat,aR (ag (wS (jj y) (CH x) u v (wR y) (CG x) True True)))))))) (by kernel_rfl) (by
 delta aG av bB ai aH aA af aF bn bW cG wS pW jj aR bf ag gJ bu CG wR CH G9
 try dsimp -iota -proj only
 rintro⟨u,cap,d,b,bc⟩ ⟨h1,h2,h3,h4,h5,h6,h8,h9⟩;dsimp only at *;have e:(1:Int)-u.slot=((1-u.slot:Nat):Int):=by omega
 have h2':1-u.slot<=1:=by omega
 refine⟨fun c=>by(exfalso;have:=of_decide_eq_true c;omega),fun _ _=>⟨by simp only[bQ];omega,fun _=>⟨by simp only[bQ];omega,Jn.mk u cap d (1-u.slot) (u.eW+1) b bc,?_⟩⟩⟩;dsimp only
 and_intros<;>first|exact cz|exact e|exact h2'|(intro h_;revert h_)|exact cA|skip
 intro c _;refine⟨c,?_⟩
 and_intros<;>first|exact cz|(intro h_;revert h_)|exact cA|skip)
theorem Pp:ak (Y Tryz.prog).G.X 146 LP:=aT fF Po ⟨CF,trivial⟩
structure MetaM where
 bM:Int
 aS:Int
 ready:Int
 frozen:Bool
def EE(m:MetaM):List A:=[.int .i64 m.bM,.int .i64 m.aS,.int .i64 m.ready,.bool m.frozen]
def A7:MetaM:=⟨0,0,0,false⟩
def AI(n:Int):Bool:=decide (0<=n)&&decide (n<=1099511627776)
def mL(m:MetaM):Bool:=AI m.bM&&(AI m.aS&&(AI m.ready&&((m.ready == 0||decide (m.aS<m.ready))&&(!m.frozen||decide (0<m.ready)))))
def eu(m:MetaM):List Int:=gI [m.bM,m.aS,m.ready,if m.frozen then 1 else 0]
theorem CI{m:MetaM}(h:mL m=true):(0<=m.bM/\m.bM<=1099511627776)/\(0<=m.aS/\m.aS<=1099511627776)/\0<=m.ready/\m.ready<=1099511627776:=by
 simp only[mL,AI,Bool.and_eq_true,decide_eq_true_eq]at h;omega
def Vp(m:MetaM):List Int:=[m.bM,m.aS,m.ready]
theorem S8{m:MetaM}{i:Nat}(hi:i<3)(h:AI (gl (Vp m) i)=false):mL m=false:=by
 rcases(by omega:i=0\/i=1\/i=2)with rfl|rfl|rfl
 ·have h:AI m.bM=false:=h;simp[mL,h]
 ·have h:AI m.aS=false:=h;simp[mL,h]
 ·have h:AI m.ready=false:=h;simp[mL,h]
theorem Vq{m:MetaM}(h:∀i,i<3->AI (gl (Vp m) i)=true):mL m=((m.ready == 0||decide (m.aS<m.ready))&&(!m.frozen||decide (0<m.ready))):=by
 have h0:AI m.bM=true:=h 0 (by omega);have h1:AI m.aS=true:=h 1 (by omega);have h2:AI m.ready=true:=h 2 (by omega);simp[mL,h0,h1,h2]
noncomputable def S9:cF where
 α:=MetaM
 β:=Unit
 m:=0
 m':=0
 pre:=fun _=>True
 args:=fun m=>[.agg (EE m)]
 hp:=fun _=>[]
 ro:=fun _=>[]
 post:=fun _ _=>True
 res:=fun m _=>.a (.bool (mL m))
 cS:=fun _ _=>[]
def Yp(m:MetaM):An:=.flat 2 Nat (fun s i=>s.int 13 i) (fun _ i=>i<=3/\∀j,j<i->AI (gl (Vp m) j)=true) (fun _ i=>3-i)
def zA(y:Bool)(x:Prop)(z u:Int)(v:Bool)(w:Prop):=aG y x (ai z->ai u->aG v x w)
def zB(x y:Int)(z:Unit->Prop)(u:Int)(v:Prop):=ai x->gU (aA x y) (Exists z) (aA u x) v
def zC(x:MetaM)(y:Prop):=cC x.bM x.aS (aH x.ready) (bO x.frozen y)
def LQ(x:MetaM)(y:Prop):=aH 3/\bR 3 (3=3)/\bp (ag (zC x (dK 3 1 (aN 1 (bt x.bM (bt x.aS (bt x.ready []))))/\zC x y)))
theorem Ta:fnBody (Y Tryz.prog) [] 145 S9 fun m=>[(145,[Yp m],[])]:=fnBody.of (p :=
 ∀x:MetaM,True->ai x.bM->ai x.aS->ai x.ready->(∃y:Nat,aK y (LQ x ((y<=3/\∀z:Nat,z<y->aF (AI (gl (Vp x) z)))/\True)))/\∀y:Nat,(y<=3/\∀z:Nat,z<y->aF (AI (gl (Vp x) z)))->aG (aA (af y) 3) (bn (af y) 3/\0+az y<3/\zB (jC (aN 1 (bt x.bM (bt x.aS (bt x.ready []))) (0+az y) 0)) 0 (eO (mL x)) 1099511627776 (dm y fun u=>LQ x (dO u 3 (∀v:Nat,v<u->aF (AI (gl (Vp x) v))) y))) (ai x.ready->zA (x.ready == (0:Int)) (aG (bC x.frozen) (Exists (bV (true=mL x))) (ai x.ready->Exists (bV (aA 0 x.ready=mL x)))) x.ready x.aS (aA x.aS x.ready) (Exists (eO (mL x))))) (by kernel_rfl) (by
 delta aG bB cC ai bt bR az aH aA af bO dO aF dL aU bn fM bP dK gU dm bV bp zA ay aP aK eO zB zC ag bg bx bC LQ
 try dsimp -iota -proj only
 intro m _ _ _ _;have hg:∀i:Nat,i<3->jC (aN 1 [Value.int .i64 m.bM,Value.int .i64 m.aS,Value.int .i64 m.ready] (0+(i:Int).toNat) 0)=gl (Vp m) i:=fun i hi=>by
  rcases(by omega:i=0\/i=1\/i=2)with rfl|rfl|rfl<;>rfl
 have h0:∀j:Nat,j<0->AI (gl (Vp m) j)=true:=fun j hj=>absurd hj (Nat.not_lt_zero j);refine⟨⟨0,?_⟩,fun i hi=>?_⟩
 ·and_intros<;>first|exact cz|exact h0|(intro h_;revert h_)|exact cA|skip
 obtain⟨hi,hall⟩:=hi;refine⟨fun c1=>?_,fun c1 _=>?_⟩
 ·have hi3:i<3:=by have:=of_decide_eq_true c1;omega
  rw[hg i hi3];refine⟨⟨by omega,by omega⟩,by omega,fun _=>⟨fun c2=>⟨(),?_,trivial,trivial⟩,fun c2=>⟨fun c3=>⟨(),?_,trivial,trivial⟩,fun c3=>⟨by simp only[bQ];omega,i+1,?_⟩⟩⟩⟩
  ·exact(S8 hi3 (by have:=of_decide_eq_true c2;simp only[AI,Bool.and_eq_false_iff,decide_eq_false_iff_not];omega)).symm
  ·exact(S8 hi3 (by have:=of_decide_eq_true c3;simp only[AI,Bool.and_eq_false_iff,decide_eq_false_iff_not];omega)).symm
  ·have h1:∀j,j<i+1->AI (gl (Vp m) j)=true:=fun j hj=>by
    by_cases e:j=i
    ·subst e;have:=of_decide_eq_false c2;have:=of_decide_eq_false c3;simp only[AI,Bool.and_eq_true,decide_eq_true_eq];omega
    ·exact hall j (by omega)
   and_intros<;>first|exact cz|exact h1|(intro h_;revert h_)|exact cA|skip
 ·have hi3:i=3:=by have:=of_decide_eq_false c1;omega
  subst hi3;rw[Vq hall];refine⟨fun d1=>⟨fun d2=>⟨(),?_⟩,fun d2 _=>⟨(),?_⟩⟩,fun d1 _ _=>⟨fun d2=>⟨fun d3=>⟨(),?_⟩,fun d3 _=>⟨(),?_⟩⟩,fun d2=>⟨(),?_⟩⟩⟩<;>simp[*])
theorem Tb:ak (Y Tryz.prog).G.X 145 S9:=aT fF Ta trivial
noncomputable def He:cF where
 α:=MetaM
 β:=Nat
 m:=0
 m':=1
 pre:=fun m=>mL m=true
 args:=fun m=>[.agg (EE m)]
 hp:=fun _=>[]
 ro:=fun _=>[]
 post:=fun _ _=>True
 res:=fun m c=>.a (.slc 0 0 1 (eu m).length c)
 cS:=fun m _=>je 0 (eu m)
def LR(x:MetaM)(z:Int):=ai x.bM->ai x.aS->ai x.ready->∃y:mg,(0=av y.l/\0=y.cap)/\yI 4 y (av y.l=0) x.bM (bt x.aS (bt x.ready (bt z []))) fun u=>∃v:Nat,cG (y.l++gI y.ns) (eu x) u v/\bg (bW (eu x) (y.l++gI y.ns) cB)
theorem Pq:fnBody (Y Tryz.prog) [(165,BZ)] 128 He fun _=>[]:=fnBody.of (p :=
 ∀x:MetaM,aF (mL x)->aG x.frozen (LR x 1) (LR x 0)) (by kernel_rfl) (by
 delta aG av bB ai bt aF dL bn bP bW gp cG yI LR ag bg
 try dsimp -iota -proj only
 intro m hm;have hr:=CI hm;have key:∀f:Int,0<=f->f<=1->eu m=gI [m.bM,m.aS,m.ready,f]->∃a:mg,a=⟨[],0,[m.bM,m.aS,m.ready,f],4⟩/\([]++gI [m.bM,m.aS,m.ready,f])=eu m/\aj 4 1 (aN 1 [Value.int .i64 m.bM,Value.int .i64 m.aS,Value.int .i64 m.ready,Value.int .i64 f]) (aa encI [m.bM,m.aS,m.ready,f])/\∀i:Nat,i<4->0<=gl [m.bM,m.aS,m.ready,f] i/\gl [m.bM,m.aS,m.ready,f] i<4611686018427387904:=fun f f0 f1 e=>by
  refine⟨_,rfl,by rw[e];rfl,⟨fun i hi j hj=>?_⟩,fun i hi=>?_⟩
  ·obtain rfl:j=0:=by omega
   rcases(by omega:i=0\/i=1\/i=2\/i=3)with rfl|rfl|rfl|rfl<;>rfl
  ·rcases(by omega:i=0\/i=1\/i=2\/i=3)with rfl|rfl|rfl|rfl
   ·show 0<=m.bM/\m.bM<_;omega
   ·show 0<=m.aS/\m.aS<_;omega
   ·show 0<=m.ready/\m.ready<_;omega
   ·show 0<=f/\f<_;omega
 have l100:∀f:Int,[m.bM,m.aS,m.ready,f].length<100:=fun _=>by simp
 refine⟨fun c _ _ _=>?_,fun c _ _ _=>?_⟩
 ·obtain⟨a,rfl,e1,e2,e3⟩:=key 1 (by omega) (by omega) (by unfold eu;rw[c];rfl);refine⟨mg.mk [] 0 [m.bM,m.aS,m.ready,1] 4,?_⟩;dsimp only;rw[e1]
  and_intros<;>first|exact cz|exact e2|exact e3|exact l100 _|(intro h_;revert h_)|exact cA|skip
  intro c _;refine⟨c,?_⟩
  and_intros<;>first|exact cz|(intro h_;revert h_)|exact cA|skip
 ·obtain⟨a,rfl,e1,e2,e3⟩:=key 0 (by omega) (by omega) (by unfold eu;rw[c];rfl);refine⟨mg.mk [] 0 [m.bM,m.aS,m.ready,0] 4,?_⟩;dsimp only;rw[e1]
  and_intros<;>first|exact cz|exact e2|exact e3|exact l100 _|(intro h_;revert h_)|exact cA|skip
  intro c _;refine⟨c,?_⟩
  and_intros<;>first|exact cz|(intro h_;revert h_)|exact cA|skip)
theorem EF:ak (Y Tryz.prog).G.X 128 He:=aT fF Pq ⟨yK,trivial⟩
structure qp where
 s:nu
 m:MetaM
def CJ(ke su tx dv:Nat)(k:qp)(cap:Nat):List (Nat×Chunk):=(ke,.obj 155 (.ptr su 0 0 0::EE k.m))::ED su tx dv k.s cap
def jw(at_:Nat):qp:=⟨⟨at_,1,eu A7,0⟩,A7⟩
theorem Jo{m:MetaM}(h:mL m=true):1<=(eu m).length/\(eu m).length<=40:=by
 have:=CI h;have a1:=iD m.bM;have a2:=iD m.aS;have a3:=iD m.ready;have a4:=iD (if m.frozen then 1 else 0);simp only[eu,gI,List.flatMap_cons,List.flatMap_nil,List.append_nil,List.length_append];omega
@[reducible] def CL(a b:qp)(v w:Nat)(p:Prop):Prop:=a.m.bM=b.m.bM/\a.m.aS=b.m.aS/\a.m.ready=b.m.ready/\a.m.frozen=b.m.frozen/\0=0/\(↑a.s.at_:Int)=(↑b.s.at_:Int)/\a.s.eW=b.s.eW/\(0=0/\a.s.text.length=b.s.text.length/\v=w)/\(↑a.s.slot:Int)=(↑b.s.slot:Int)/\(b.s.text.length<=a.s.text.length/\aj b.s.text.length 1 (aa cB a.s.text) (aa cB b.s.text))/\p
structure Vr where
 at_:Nat
 d:bw
noncomputable def LS:cF where
 α:=Vr
 β:=Nat
 m:=2
 m':=5
 pre:=fun a=>a.at_+1<a.d.n/\a.d.n<100000/\a.d.calls<800000000000
 args:=fun a=>[.a (.ptr 0 0 0 0),.a (.int .i64 a.at_)]
 hp:=fun a=>gn 0 1 a.d
 ro:=fun _=>[]
 post:=fun _ _=>True
 res:=fun _ _=>.lY [.a (.ptr 2 0 0 0),.a (.lit .i64 0)]
 cS:=fun a c=>CJ 2 3 4 0 (jw a.at_) c++gn 0 1 (ov a.d a.at_ (eu A7))
def CM(y:Int)(x:MetaM)(z:Int)(u v:Prop):=y=x.bM/\z=x.aS/\(0:Int)=x.ready/\fM x.frozen u v
theorem Pr:fnBody (Y Tryz.prog) [(128,He),(127,LN)] 82 LS fun _=>[]:=fnBody.of (p :=
 ∀x:Vr,x.at_+1<x.d.n/\x.d.n<100000/\x.d.calls<800000000000->∃z:MetaM,CM 0 z 0 (aF (mL z)) (∀u:Nat,True->∃y:S7,ag (bu x.at_ y.at_/\cG (eu z) y.b u y.bc/\fV x.d y.d (bW y.b (eu z) cB/\G8 y/\∀v:Nat,True->∃w:Nat,eo (aH 0) (CM 0 (jw x.at_).m 0 (0=0) (bu y.at_ (jw x.at_).s.at_/\(1:Int)=(jw x.at_).s.eW/\cG y.b (jw x.at_).s.text v w/\bu 0 (jw x.at_).s.slot/\bW (jw x.at_).s.text y.b cB/\fV (ov y.d y.at_ y.b) (ov x.d x.at_ (eu A7)) (True/\True))))))) (by kernel_rfl) (by
 delta av bB aH af aF fM eo bW cG ag gJ bu G8 CM
 try dsimp -iota -proj only
 rintro⟨at_,d⟩ ⟨h1,h2,h3⟩;dsimp only at *;obtain⟨l1,l2⟩:=Jo (show mL A7=true from rfl);refine⟨A7,rfl,rfl,rfl,rfl,rfl,fun b _=>⟨S7.mk at_ d (eu A7) b,?_⟩⟩;dsimp only
 and_intros<;>first|exact cz|exact l1|exact l2|(intro h_;revert h_)|exact cA|skip
 intro c _;refine⟨c,?_⟩;dsimp only[jw]
 and_intros<;>first|exact cz|(intro h_;revert h_)|exact cA|skip)
theorem Pt:ak (Y Tryz.prog).G.X 82 LS:=aT fF Pr ⟨EF,Pn,trivial⟩
def gj(k:qp)(m:MetaM):Bool:=mL m&&(!decide (m.bM<k.m.bM)&&!decide (m.aS<k.m.aS))
def mD(k:qp)(m:MetaM):qp:=if gj k m then⟨G7 k.s (1-k.s.slot) (k.s.eW+1) (eu m),m⟩else k
def gV(k:qp)(d:bw)(m:MetaM):bw:=if gj k m then AH k.s d (1-k.s.slot) (k.s.eW+1) (eu m)else d
structure Hf where
 k:qp
 cap:Nat
 d:bw
 m:MetaM
noncomputable def Hg:cF where
 α:=Hf
 β:=Nat
 m:=5
 m':=6
 pre:=fun a=>a.k.s.at_+1<a.d.n/\a.k.s.slot<=1/\a.d.n<100000/\a.d.calls<900000000000/\0<=a.k.s.eW/\a.k.s.eW<1000000000000
 args:=fun a=>[.a (.ptr 0 0 0 0),.agg (EE a.m)]
 hp:=fun a=>CJ 0 1 2 3 a.k a.cap++gn 3 4 a.d
 ro:=fun _=>[]
 post:=fun _ _=>True
 res:=fun a _=>.a (.int .i64 (if gj a.k a.m then 0 else 1))
 cS:=fun a c=>CJ 0 1 5 3 (mD a.k a.m) c++gn 3 4 (gV a.k a.d a.m)
def uH(x y:MetaM)(z:Prop):=x.bM=y.bM/\x.aS=y.aS/\x.ready=y.ready/\x.frozen=y.frozen/\z
def LU(x:Hf):=∃y:Nat,(1:Int)=gK (gj x.k x.m)/\ag (CL x.k (mD x.k x.m) x.cap y (fV x.d (gV x.k x.d x.m) (True/\True)))
def zD(x:Hf):=pW x.k.s x.d x.k.s.slot (bn x.k.s.eW 1000000000000)
theorem Pu:fnBody (Y Tryz.prog) [(145,S9),(128,He),(146,LP)] 100 Hg fun _=>[]:=fnBody.of (p :=
 ∀x:Hf,zD x->∃u:MetaM,uH x.m u (cH (zA (bC (mL u)) (LU x) x.m.bM x.k.m.bM (aA x.m.bM x.k.m.bM) (ai x.m.aS->ai x.k.m.aS->aG (aA x.m.aS x.k.m.aS) (LU x) (∃z:MetaM,uH x.m z (aF (mL z)/\∀v:Nat,True->∃y:LO,eo (cG (eu z) y.b v y.bc) (wS x.k.s y.S x.cap y.cap x.d y.d (bW y.b (eu z) cB) (G9 y/\∀w:Nat,True->∃t:Nat,(0:Int)=gK (gj x.k x.m)/\ag (uH x.m (mD x.k x.m).m (ag (wS (CH y) (mD x.k x.m).s w t (CG y) (gV x.k x.d x.m) True True))))))))))) (by kernel_rfl) (by
 delta aG av bB ai aA af aF bn eo bW aI cG wS zA gK uH pW ag LU bu zD bC cH CG CH G9
 try dsimp -iota -proj only
 rintro⟨k,cap,d,m⟩ ⟨h1,h2,h3,h4,h5,h6⟩;dsimp only at *;have no:gj k m=false->mD k m=k/\gV k d m=d:=fun h=>⟨if_neg (by rw[h];decide),if_neg (by rw[h];decide)⟩
 refine⟨m,rfl,rfl,rfl,rfl,trivial,fun _ _=>⟨fun c=>?_,fun c _ _=>⟨fun c2=>?_,fun c2 _ _=>⟨fun c3=>?_,fun c3=>?_⟩⟩⟩⟩
 ·have hk:gj k m=false:=by unfold gj;simp only[Bool.not_eq_true']at c;rw[c];rfl
  obtain⟨e1,e2⟩:=no hk;rw[e1,e2,hk];refine⟨cap,?_⟩
  and_intros<;>first|exact cz|(intro h_;revert h_)|exact cA|skip
 ·have hk:gj k m=false:=by unfold gj;rw[c2];simp
  obtain⟨e1,e2⟩:=no hk;rw[e1,e2,hk];refine⟨cap,?_⟩
  and_intros<;>first|exact cz|(intro h_;revert h_)|exact cA|skip
 ·have hk:gj k m=false:=by unfold gj;rw[c3];simp
  obtain⟨e1,e2⟩:=no hk;rw[e1,e2,hk];refine⟨cap,?_⟩
  and_intros<;>first|exact cz|(intro h_;revert h_)|exact cA|skip
 ·have hm:mL m=true:=by simpa using c
  have hk:gj k m=true:=by unfold gj;rw[hm,c2,c3];rfl
  obtain⟨l1,l2⟩:=Jo hm;have e1:mD k m=⟨G7 k.s (1-k.s.slot) (k.s.eW+1) (eu m),m⟩:=if_pos hk;have e2:gV k d m=AH k.s d (1-k.s.slot) (k.s.eW+1) (eu m):=if_pos hk;rw[e1,e2,hk];refine⟨m,rfl,rfl,rfl,rfl,hm,fun bc _=>⟨LO.mk k.s cap d (eu m) bc,?_⟩⟩;dsimp only
  and_intros<;>first|exact cz|exact l1|exact l2|(intro h_;revert h_)|exact cA|skip
  intro c' _;refine⟨c',?_⟩
  and_intros<;>first|exact cz|(intro h_;revert h_)|exact cA|skip)
theorem EG:ak (Y Tryz.prog).G.X 100 Hg:=aT fF Pu ⟨Tb,EF,Pp,trivial⟩
structure kY where
 d:bw
 cL:bL
 cl:List (ByteArray×Int)
 jL:bL
 ms:List eH
 k:qp
 bM:Int
structure rF where
 H:PH
 cy:gT
 x:Ix.cM
 xc:Nat
 jy:gT
 jc:Nat
 kc:Nat
def kY.fl(s:kY):nC:=⟨s.cL,s.d,s.cl⟩
def rF.fl(p:rF):qR:=⟨p.H,p.cy,p.x,p.xc⟩
def kY.jr(s:kY):H9:=⟨s.jL,s.d,s.ms⟩
def rF.jr(p:rF):Jl:=⟨p.H,p.jy,p.jc⟩
def Y9(ca jr ke:Nat)(bM:Int):Chunk:=.obj 88 [.ptr ca 0 0 0,.ptr jr 0 0 0,.ptr ke 0 0 0,.int .i64 bM]
def vo(st ca cl dv ds ix it jr ma jl ke su tx pl:Nat)(s:kY)(p:rF):List (Nat×Chunk) :=
 [(st,Y9 ca jr ke s.bM),(ca,.obj 205 [.ptr cl 0 0 0,.ptr ix 0 0 0]),(cl,fI dv s.cL p.cy.lv)]++gn dv ds s.d++Ix.oG ix it p.x.t p.xc p.x.n p.x.used ++
 [(jr,V3 jl ma s.ms.length p.jc),(ma,.arr 228 qL s.ms.length (aa cI s.ms)),(jl,fI dv s.jL p.jy.lv)]++CJ ke su tx dv s.k p.kc++[(pl,.ct p.H)]
structure ow(s:kY)(p:rF):Prop where
 fl:iX s.fl p.fl
 jl:bT p.H p.jy s.jL
 sep:∀z,z∈bq p.jy->z∉bq p.cy
 cap:s.ms.length<=p.jc
@[reducible] def CN(a b:kY)(p q:rF)(r:Prop):Prop:=a.bM=b.bM/\0=0/\0=0/\0=0/\tf a.cL b.cL p.cy.lv q.cy.lv (fV a.d b.d (xV p.x q.x p.xc q.xc (0=0/\uF a.ms b.ms p.jc q.jc (0=0/\tf a.jL b.jL p.jy.lv q.jy.lv (0=0/\CL a.k b.k p.kc q.kc r)))))
def CO(H:PH)(c j:List Nat)(p:rF):Prop:=∀z,H z≠none->z∉c->z∉j->p.H z=H z/\z∉bq p.cy/\z∉bq p.jy
def nR(m:MetaM):MetaM:={ m with bM:=m.bM+1 }
def iK(n:Nat):Nat:=min 200 ((n-162)/8)
structure Ak where
 k:qp
 kc:Nat
 d:bw
 H:PH
 ms:List eH
 es:List (Option aD)
def EH(a:Ak):bw:=gV a.k a.d (nR a.k.m)
def ku(a:Ak):kY:=⟨EH a,cK 162 (iK a.d.n) (EH a),mR a.es (fL (cK 162 (iK a.d.n) (EH a)).l) a.es.length,cK 2 20 (EH a),a.ms,mD a.k (nR a.k.m),a.k.m.bM+1⟩
structure zF(a:Ak):Prop where
 n:192<=a.d.n/\a.d.n<100000
 calls:a.d.calls<900000000000
 save:gj a.k (nR a.k.m)=true
 k:a.k.s.at_=0/\a.k.s.slot<=1/\0<=a.k.s.eW/\a.k.s.eW<1000000000000
 jr:∀H,zz.pre ⟨H,EH a,2,20,a.ms⟩
 fl:∀H,zu.pre ⟨H,EH a,162,iK a.d.n,a.es⟩
noncomputable def LV:cF where
 α:=Ak
 β:=rF
 m:=6
 m':=16
 pre:=fun a=>zF a
 args:=fun a=>[.a (.ptr 0 0 0 0),.a (.ptr 2 0 0 0)]
 hp:=fun a=>CJ 2 3 4 0 a.k a.kc++gn 0 1 a.d++[(5,.ct a.H)]
 ro:=fun _=>[]
 post:=fun a b=>ow (ku a) b/\CO a.H [] [] b
 res:=fun _ _=>.lY [.a (.ptr 6 0 0 0),.a (.lit .i64 0)]
 cS:=fun a b=>vo 6 7 8 0 1 9 10 11 12 13 2 3 14 15 (ku a) b
noncomputable def Tc:List (Nat×cF):=[(100,Hg),(129,zz),(130,zu)]
def Al(w:nC)(u:kY)(v:qR)(z:rF)(s:bw)(t:List eH)(f:Nat)(g:bL)(h:gT)(i:qp)(j:Nat)(l:Prop):=ax (fA w.L u.cL v.y z.cy (fV s u.d (xV v.x z.x v.cap z.xc (ag (uF t u.ms f z.jc (fA g u.jL h z.jy (ag (CL i u.k j z.kc l))))))))
def wT(y:Ak)(x:rF)(z:PH):=ow (ku y) x/\CO z [] [] x
def Hh(x:Hf):Int:=af (gV x.k x.d x.m).n-(162:Int)
theorem Pv:fnBody (Y Tryz.prog) Tc 83 LV fun _=>[]:=fnBody.of (p :=
 ∀z:Ak,zF z->ai z.k.m.bM->ai (z.k.m.bM+(1:Int))/\∃x:Hf,ag (z.k.m.bM+(1:Int)=x.m.bM/\z.k.m.aS=x.m.aS/\z.k.m.ready=x.m.ready/\z.k.m.frozen=x.m.frozen/\ag (CL z.k x.k z.kc x.cap (fV z.d x.d (zD x/\∀h:Nat,True->aG (gK (gj x.k x.m) != (0:Int)) (∃u:rF,False) (∃u:vA,ag ((2:Int)=af u.from_/\(20:Int)=af u.au/\z.H=u.H/\fV (gV x.k x.d x.m) u.d (G5 u/\∀w:Jl,bT w.H w.y (cK u.from_ u.au u.d)/\(∀t:Nat,oo (u.H t) (w.H t) (bq w.y) t)/\bZ u.ms<=w.cap->ai (Hh x)/\(8:Int)≠(0:Int)/\ai (Int.tdiv (Hh x) (8:Int))/\∃v:kS,ag ((162:Int)=af v.from_/\oF false 200 (Int.tdiv (Hh x) (8:Int))=af v.au/\w.H=v.H/\fV (gV x.k x.d x.m) v.d (zv v.from_ v.au v.d (WZ v.es (fL (cK v.from_ v.au v.d).l))/\∀s:qR,(iX (Ji v) s/\∀f:Nat,oo (v.H f) (s.H f) (bq s.y) f)->ai (z.k.m.bM+(1:Int))->∃g:rF,ag (aR (ax (ag (z.k.m.bM+(1:Int)=(ku z).bM/\Al (Ji v) (ku z) s g (gV x.k x.d x.m) u.ms w.cap (cK u.from_ u.au u.d) w.y (mD x.k x.m) h (s.H=g.H/\wT z g z.H/\True))))))))))))))) (by kernel_rfl) (by
 delta aG ai bR aH oF af aF bn bZ Al bz gK pW zv aR oo ag ax zD fA wT om Hh G5
 rintro⟨k,kc,d,H,ms,es⟩ ok hb;obtain⟨⟨n1,n2⟩,hcl,hsv,⟨k1,k2,k3,k4⟩,hjr,hfl⟩:=ok;dsimp only at *;have hm:mL (nR k.m)=true:=by
  have:=hsv;unfold gj at this;simp only[Bool.and_eq_true]at this;exact this.1
 obtain⟨g1,g2,g3,g4⟩:=CI hm;have g1:0<=k.m.bM+1/\k.m.bM+1<=1099511627776:=g1;obtain⟨D,hD⟩:∃D,D=gV k d (nR k.m):=⟨_,rfl⟩
 have hDn:D.n=d.n:=by rw[hD];unfold gV;split<;>rfl
 have hk0:k.s.at_+1<d.n:=by omega
 have hjr:zz.pre ⟨H,D,2,20,ms⟩:=by rw[hD];exact hjr H
 obtain⟨j1,j2,j3,j4⟩:=hjr;have e:ku ⟨k,kc,d,H,ms,es⟩=⟨D,cK 162 (iK d.n) D,mR es (fL (cK 162 (iK d.n) D).l) es.length,cK 2 20 D,ms,mD k (nR k.m),k.m.bM+1⟩:=by rw[hD];rfl
 rw[e];refine⟨by simp only[bQ];omega,Hf.mk k kc d (nR k.m),?_⟩;dsimp only;rw[hsv,<- hD]
 and_intros<;>first|exact cz|(intro h_;revert h_)|exact cA|skip
 intro b _;refine⟨fun c=>absurd c (by decide),fun _=>⟨vA.mk H D 2 20 ms,?_⟩⟩;dsimp only
 and_intros<;>first|exact cz|exact j2|exact j3|exact j4|(intro h_;revert h_)|exact cA|skip
 rintro⟨H1,y1,jc⟩ ⟨hl1,hf1,hc1⟩;dsimp only at hl1 hf1 hc1 ⊢;have hfl:zu.pre ⟨H1,D,162,iK d.n,es⟩:=by rw[hD];exact hfl H1
 obtain⟨f1,f2,f3⟩:=hfl;have hdv:((D.n:Int)-162).tdiv 8=(((d.n-162)/8:Nat):Int):=by
  rw[hDn,Int.tdiv_eq_ediv_of_nonneg (by omega)];omega
 rw[hdv];have hsg:(bif false then max (200:Int) (((d.n-162)/8:Nat):Int)else min 200 (((d.n-162)/8:Nat):Int))=(iK d.n:Nat):=by
  simp only[cond_false,iK];omega
 refine⟨by simp only[bQ];omega,by decide,by simp only[bQ];omega,kS.mk H1 D 162 (iK d.n) es,?_⟩;dsimp only
 and_intros<;>first|exact cz|exact hsg|exact f1|exact f2|exact f3|(intro h_;revert h_)|exact cA|skip
 rintro⟨H2,y2,x2,xc2⟩ ⟨hat2,hf2⟩ _;dsimp only at hf2 ⊢;refine⟨⟨H2,y2,x2,xc2,y1,jc,b⟩,?_⟩;have hat:ow ⟨D,cK 162 (iK d.n) D,mR es (fL (cK 162 (iK d.n) D).l) es.length,cK 2 20 D,ms,mD k (nR k.m),k.m.bM+1⟩ ⟨H2,y2,x2,xc2,y1,jc,b⟩ :=
  ⟨hat2,hl1.frame fun z hz=>(hf2 z (hl1.dom z hz)).1,fun z hz=>(hf2 z (hl1.dom z hz)).2,hc1⟩
 have hfr:CO H [] [] ⟨H2,y2,x2,xc2,y1,jc,b⟩:=fun z hz _ _=>by
  obtain⟨a1,a2⟩:=hf1 z hz;obtain⟨b1,b2⟩:=hf2 z (by rw[a1];exact hz);exact⟨b1.trans a1,b2,a2⟩
 dsimp only[Ji]
 and_intros<;>first|exact cz|exact hat|exact hfr|(intro h_;revert h_)|exact cA|skip)
theorem callParts:ak (Y Tryz.prog).G.X 83 LV:=aT fF Pv ⟨EG,Pj,Pe,trivial⟩
def eF(d:bw)(i:Nat):bw:=⟨d.n,fun r j=>if r<i/\j<64 then 0 else d.now r j,d.Eb,fun r=>if r<i then true else d.loose r,d.calls+i⟩
structure CP where
 d:bw
 H:PH
def ry(a:CP):Ak:=⟨jw 0,0,ov (eF a.d a.d.n) 0 (eu A7),a.H,[],[]⟩
noncomputable def xW:cF where
 α:=CP
 β:=rF
 m:=3
 m':=17
 pre:=fun a=>192<=a.d.n/\a.d.n<100000/\a.d.calls<100000000000/\zF (ry a)
 args:=fun a=>[.a (.ptr 0 0 0 0)]
 hp:=fun a=>gn 0 1 a.d++[(2,.ct a.H)]
 ro:=fun _=>[]
 post:=fun a b=>ow (ku (ry a)) b/\CO a.H [] [] b
 res:=fun _ _=>.lY [.a (.ptr 3 0 0 0),.a (.lit .i64 0)]
 cS:=fun a b=>vo 3 4 5 0 1 6 7 8 9 10 11 12 13 14 (ku (ry a)) b
def Vs(a:CP):An:=.flat 5 Nat (fun s i=>((s.at_ 0 (.obj 116 [.slc 1 0 129 a.d.n a.d.n,.int .i64 (eF a.d i).calls])).at_ 1 (.arr 158 BS a.d.n (e9 (eF a.d i)))).int 16 i) (fun _ i=>i<=a.d.n) (fun _ i=>a.d.n-i)
noncomputable def Vt:List (Nat×cF):=[(81,oR),(82,LS),(83,LV)]
def wU(x:bw)(y:CP):=iH 192 x.n (x.calls<100000000000/\zF (ry y))
def kz(x y:kY)(z u:rF)(v:Prop):=ax (ag (CN x y z u v))
theorem LW:fnBody (Y Tryz.prog) Vt 46 xW fun a=>[(46,[Vs a],[])]:=fnBody.of (p :=
 ∀x:CP,wU x.d x->aG (aA (af x.d.n) 192) (∃z:rF,False) ((∃z:Nat,aK z (aW x.d.n/\bp (pQ (aV x.d.n x.d.n/\bu x.d.calls (eF x.d z).calls/\bB x.d.n x.d.n 129 (e9 x.d) (e9 (eF x.d z))/\x.H=x.H/\z<=x.d.n/\True))))/\∀z:Nat,z<=x.d.n->bf (af z) x.d.n (lF 64 64 (∃y:KE,ag (bu z y.i/\(0=y.r/\64=y.len/\64=y.cap)/\r5 x.d.n y.d (af (eF x.d z).calls) y.d (e9 (eF x.d z)) (bB y.n 64 1 r8 (bK y.src)) (tP y/\aI (dm z fun v=>aW x.d.n/\bp (pQ (r5 (bw.n (lG y)) x.d (af (bw.calls (lG y))) (eF x.d v) (e9 (lG y)) (x.H=x.H) (bS v x.d.n z)))))))) (∃y:Vr,ag (aK y.at_ (r5 x.d.n y.d (af (eF x.d z).calls) y.d (e9 (eF x.d z)) (y.at_+1<y.d.n/\y.d.n<100000/\y.d.calls<800000000000) (∀v:Nat,True->∃u:Ak,ax (ag (CL (jw y.at_) u.k v u.kc (fV (ov y.d y.at_ (eu A7)) u.d (x.H=u.H/\zF u/\∀w:rF,wT u w u.H->∃s:rF,ag (aR (kz (ku u) (ku (ry x)) w s (w.H=s.H/\wT (ry x) s x.H/\True))))))))))))) (by kernel_rfl) (by
 delta aG aQ bB cC ai bR aH aA af bO bG fk aF bP eM gp aI dm aV bp bS lG lF aP aW aK aR bf r5 ag tP wU r8 bx ax bu iH pQ wT kz
 try dsimp -iota -proj only
 rintro⟨d,H⟩ ⟨h1,h2,h3,hok⟩;dsimp only at *;have h0:aj 64 1 (fun(x j:Nat)=>[Value.int IntKind.u8 (0:Int)].getD j (Value.tuple #[])) (bK fun _=>0):=kg fun _ _=>rfl;refine⟨fun c=>by(exfalso;have:=of_decide_eq_true c;omega),fun _=>⟨⟨0,?_⟩,fun i hi=>⟨fun c=>?_,fun c=>?_⟩⟩⟩
 ·have hr:aj d.n 129 (e9 d) (e9 (eF d 0)):=⟨fun i hi j hj=>by simp[e9,eF]⟩
  have hc:(d.calls:Int)=(eF d 0).calls:=rfl
  and_intros<;>first|exact cz|exact hr|exact hc|(intro h_;revert h_)|exact cA|skip
 ·have hi2:i<d.n:=by have:=of_decide_eq_true c;omega
  have hn:(eF d i).n=d.n:=rfl;have hc:(eF d i).calls<1000000000000:=by show d.calls+i<_;omega
  refine⟨by omega,by omega,by omega,KE.mk (eF d i) i 0 64 64 64 fun _=>0,?_⟩;dsimp only;rw[hn]
  and_intros<;>first|exact cz|exact h0|exact hc|(intro h_;revert h_)|exact cA|skip
  intro _ _;have hr:aj d.n 129 (e9 (fW (eF d i) i 64 fun _=>0)) (e9 (eF d (i+1))):=⟨fun r hr j hj=>by
   simp only[e9,fW,eF];by_cases e:r=i
   ·subst e;by_cases h64:j<64
    ·simp[h64,show r<r+1 by omega]
    ·simp[h64]
   ·by_cases h64:j<64
    ·rw[if_pos h64,if_pos h64,if_neg (by omega)];by_cases hl:r<i
     ·rw[if_pos ⟨hl,h64⟩,if_pos ⟨by omega,h64⟩]
     ·rw[if_neg (by omega),if_neg (by omega)]
    ·rw[if_neg h64,if_neg h64];by_cases h128:j<128
     ·rw[if_pos h128,if_pos h128]
     ·rw[if_neg h128,if_neg h128,if_neg e];by_cases hl:r<i
      ·rw[if_pos hl,if_pos (by omega)]
      ·rw[if_neg hl,if_neg (by omega)]⟩
  have hcl:((fW (eF d i) i 64 fun _=>0).calls:Int)=(eF d (i+1)).calls:=by show((d.calls+i+1:Nat):Int)=(d.calls+(i+1):Nat);omega
  have hn2:(fW (eF d i) i 64 fun _=>0).n=d.n:=rfl;have hn3:d.n<=(fW (eF d i) i 64 fun _=>0).n:=Nat.le_refl _;refine⟨by simp only[bQ];omega,i+1,?_⟩
  and_intros<;>first|exact cz|exact hr|exact hcl|exact hn2|exact hn3|(intro h_;revert h_)|exact cA|skip
 ·have:i=d.n:=by have:=of_decide_eq_false c;omega
  subst this;have hn:(eF d d.n).n=d.n:=rfl;have hc:(eF d d.n).calls<800000000000:=by show d.calls+d.n<_;omega
  refine⟨Vr.mk 0 (eF d d.n),?_⟩;dsimp only;rw[hn]
  and_intros<;>first|exact cz|exact hc|(intro h_;revert h_)|exact cA|skip
  intro b _;have hok2:zF ⟨jw 0,b,ov (eF d d.n) 0 (eu A7),H,[],[]⟩:=⟨hok.n,hok.calls,hok.save,hok.k,hok.jr,hok.fl⟩
  refine⟨⟨jw 0,b,ov (eF d d.n) 0 (eu A7),H,[],[]⟩,?_⟩;dsimp only
  and_intros<;>first|exact cz|exact hok2|(intro h_;revert h_)|exact cA|skip
  rintro q ⟨q1,q2⟩;refine⟨q,?_⟩;have e:ku (ry ⟨d,H⟩)=ku ⟨jw 0,b,ov (eF d d.n) 0 (eu A7),H,[],[]⟩:=rfl;rw[e]
  and_intros<;>first|exact cz|exact q1|exact q2|(intro h_;revert h_)|exact cA|skip)
theorem LX:ak (Y Tryz.prog).G.X 46 xW:=aT fF LW ⟨oK,Pt,callParts,trivial⟩
def lq(s:kY)(ks:List ByteArray):kY:={ s with d:=(gM s.jr ks).d,jL:=(gM s.jr ks).L,ms:=(gM s.jr ks).ms }
def NI(s:kY)(ks:List ByteArray):kY:={ s with d:=(nq s.fl ks).d,cL:=(nq s.fl ks).L,cl:=(nq s.fl ks).l }
def jR(s:kY)(ks:List ByteArray):kY:=if fq ks then NI (lq s ks) ks else s
structure vO where
 s:kY
 p:rF
 ks:List ByteArray
 kc:Nat
structure zG(a:vO):Prop where
 n:a.ks.length<1000
 jr:fq a.ks=true->∀p,bT p.H p.y a.s.jL->a.s.ms.length<=p.cap->EC.pre ⟨a.s.jr,p,a.ks,a.kc⟩
 fl:fq a.ks=true->∀p,iX (lq a.s a.ks).fl p->GP.pre ⟨(lq a.s a.ks).fl,p,a.ks,a.kc⟩
noncomputable def Td:cF where
 α:=vO
 β:=rF
 m:=15
 m':=18
 pre:=fun a=>ow a.s a.p/\zG a
 args:=fun a=>[.a (.ptr 0 0 0 0),.a (.slc 14 0 1 a.ks.length a.kc)]
 hp:=fun a=>vo 0 1 2 3 4 5 6 7 8 9 10 11 12 13 a.s a.p
 ro:=fun a=>[(14,.arr 9 [.str] a.ks.length (aa kO a.ks))]
 post:=fun a b=>ow (jR a.s a.ks) b/\CO a.p.H (bq a.p.cy) (bq a.p.jy) b
 res:=fun a _=>.lY [.a (.int .i64 (if fq a.ks then gL (gM a.s.jr a.ks).ms else 0)),.a (.int .i64 (if fq a.ks then 0 else 1))]
 cS:=fun a b=>vo 0 1 2 3 4 5 15 7 16 9 10 11 12 17 (jR a.s a.ks) b
def Yq(a:vO):An:=.flat 4 Nat (fun s i=>s.int 15 i) (fun _ i=>i<=a.ks.length/\∀j,j<i->dM (gl a.ks j)=true) (fun _ i=>a.ks.length-i)
def W7(a:vO):An:=.mk 9 Unit (fun s _=>s) (fun _ _=>fq a.ks=true) (fun _ _=>0) fun _=>.mk 1000 [] []
noncomputable def Vu:List (Nat×cF):=[(86,KH),(134,EC),(135,GP)]
def zH(x:vO)(y:rF):=ow (jR x.s x.ks) y/\CO x.p.H (bq x.p.cy) (bq x.p.jy) y
def LY(f:Int)(x:vO)(g:Int)(w:qR)(z:ot)(u:oH)(t:Jl):rF->Prop:=fun(v:rF)=>f=wP x.ks x.s.jr/\g=gK (fq x.ks)/\w.H=v.H/\ax (ag (x.s.bM=(jR x.s x.ks).bM/\Al (nq z.m z.ks) (jR x.s x.ks) w v (nq z.m z.ks).d (gM u.m u.ks).ms t.cap (gM u.m u.ks).L t.y x.s.k x.p.kc (zH x v/\True)))
def Hi(v y:kY)(u z:rF)(w:bw)(s:List eH)(t:Nat)(f:bL)(g:gT)(h:Prop):=v.bM=y.bM/\ax (fA v.cL y.cL u.cy z.cy (fV w y.d (xV u.x z.x u.xc z.xc (ag (uF s y.ms t z.jc (fA f y.jL g z.jy (ag (CL v.k y.k u.kc z.kc h))))))))
def Hj(x:vO)(y:Prop):=pQ (aV (aZ x.ks) x.kc/\kz x.s x.s x.p x.p (x.p.H=x.p.H/\kP x.ks/\y))
def CQ(x y:List ByteArray)(z:ByteArray->List Value):=bB (aZ x) (aZ y) 1 (aa z y) (aa z x)
theorem Te:fnBody (Y Tryz.prog) Vu 89 Td fun a=>[(89,[Yq a],[W7 a])]:=fnBody.of (p :=
 ∀z:vO,ow z.s z.p/\zG z->zq z.ks z.kc (fun u=>Hj z ((u<=aZ z.ks/\qK u z.ks)/\True)) (fun u=>∃w:ByteArray,gl z.ks (0+az u)=w/\cH (aG (bC (dM w)) (∃t:rF,(0:Int)=wP z.ks z.s.jr/\(1:Int)=gK (fq z.ks)/\z.p.H=t.H/\kz z.s (jR z.s z.ks) z.p t (zH z t/\True)) (dm u fun t=>ja (aZ z.ks) z.kc (Hj z (dO t (aZ z.ks) (qK t z.ks) u))))) (Hj z (aF (fq z.ks)/\True)) (∃u:oH,eo (ag (aZ z.ks=aZ u.ks/\z.kc=u.kc)) (uF z.s.ms u.m.ms z.p.jc u.p.cap (fA z.s.jL u.m.L z.p.jy u.p.y (fV z.s.d u.m.d (z.p.H=u.p.H/\CQ u.ks z.ks kO/\G1 u/\∀w:Jl,CD w (gM u.m u.ks) u->aG (gK (fq u.ks) != (0:Int)) (∃v:rF,(0:Int)=wP z.ks z.s.jr/\gK (fq u.ks)=gK (fq z.ks)/\w.H=v.H/\ax (ag (Hi z.s (jR z.s z.ks) z.p v (gM u.m u.ks).d (gM u.m u.ks).ms w.cap (gM u.m u.ks).L w.y (zH z v/\True)))) (∃v:ot,ag (ag (aZ z.ks=aZ v.ks/\z.kc=v.cap)/\nN z.s.cL v.m z.p.cy v.p (gM u.m u.ks).d z.p.x z.p.xc (w.H=v.p.H) (CQ v.ks z.ks kO/\GR v/\∀f:qR,iX (nq v.m v.ks) f/\tn v.p f->aG (gK (fq v.ks) != (0:Int)) (Exists (LY 0 z (gK (fq v.ks)) f v u w)) (Exists (LY (wP u.ks u.m) z 0 f v u w))))))))))) (by kernel_rfl) (by
 delta aG av bB cC ai bR az aH aA cn af aZ bO dO aF aU bn eo eM dK jt aI ja bZ nN Al dm bz aV bp kf ay G1 gK aP aW kP LY CD Hi aK bf Hj qK ag dJ GR zH wP bx ax zq bC cH fA pQ CQ kz ji
 try dsimp -iota -proj only
 rintro⟨s,p,ks,kc⟩ ⟨hat,hok⟩;dsimp only at *;have hkn:=hok.n;dsimp only at hkn;have no:fq ks=false->jR s ks=s:=fun e=>if_neg (by rw[e];decide);have bad:∀i,i<ks.length->dM (gl ks i)=false->fq ks=false:=fun i hi h=>by
  rw[Bool.eq_false_iff];intro ha;have:=List.all_eq_true.1 ha (gl ks i) (by rw[bN hi];exact List.getElem_mem _);rw[h]at this;cases this
 have h0:∀j,j<0->dM (gl ks j)=true:=fun j hj=>absurd hj (Nat.not_lt_zero j);have hfr0:CO p.H (bq p.cy) (bq p.jy) p:=fun z _ h1 h2=>⟨rfl,h1,h2⟩
 refine⟨⟨⟨0,?_⟩,fun i hi=>?_⟩,fun _ hK=>?_⟩
 ·and_intros<;>first|exact cz|exact h0|(intro h_;revert h_)|exact cA|skip
 ·obtain⟨hi,hall⟩:=hi;rw[show 0+(i:Int).toNat=i by omega];refine⟨fun c1=>?_,fun c1=>⟨(),?_⟩⟩
  ·have hlt:i<ks.length:=by have:=of_decide_eq_true c1;omega
   refine⟨⟨by omega,by omega⟩,hlt,gl ks i,rfl,trivial,fun _ _=>⟨fun c2=>?_,fun c2=>⟨by simp only[bQ];omega,i+1,?_⟩⟩⟩
   ·have hn:=bad i hlt (by simpa using c2);rw[no hn,hn];refine⟨p,?_⟩
    and_intros<;>first|exact cz|exact hat|exact hfr0|(intro h_;revert h_)|exact cA|skip
   ·have hk:dM (gl ks i)=true:=by simpa using c2
    have h1:∀j,j<i+1->dM (gl ks j)=true:=fun j hj=>by
     by_cases e:j=i
     ·rw[e];exact hk
     ·exact hall j (by omega)
    and_intros<;>first|exact cz|exact h1|(intro h_;revert h_)|exact cA|skip
  ·have hi':i=ks.length:=by have:=of_decide_eq_false c1;omega
   have ha:fq ks=true:=List.all_eq_true.2 fun k hk=>by
    obtain⟨j,hj,rfl⟩:=List.getElem_of_mem hk;rw[<- bN hj];exact hall j (by omega)
   and_intros<;>first|exact cz|exact ha|(intro h_;revert h_)|exact cA|skip
 have hks:jR s ks=NI (lq s ks) ks:=if_pos hK;obtain⟨hf,hl,hsep,hcap⟩:=hat;obtain⟨q1,q2,q3,q4,q5,q6⟩:=hok.jr hK p.jr hl hcap;have q6:=q6 hK;have sep2:∀z,z∈bq p.cy->z∉bq p.jy:=fun z h1 h2=>hsep z h2 h1;refine⟨oH.mk s.jr p.jr ks kc,?_⟩;dsimp only[kY.jr,rF.jr]at q1 q2 q3 q4 q5 q6 ⊢
 and_intros<;>first|exact cz|exact q1|exact q2|exact q3|exact q4|exact q5|exact fun _=>q6|(intro h_;revert h_)|exact cA|skip
 rintro⟨H1,y1,c1⟩ ⟨hl1,hf1,hcp⟩;dsimp only at hl1 hf1 hcp ⊢;have hfc:iX (lq s ks).fl ⟨H1,p.cy,p.x,p.xc⟩:=⟨hf.log.frame fun z hz=>(hf1 z (hf.log.dom z hz) (sep2 z hz)).1,hf.idx⟩
 obtain⟨r1,r2,r3⟩:=hok.fl hK ⟨H1,p.cy,p.x,p.xc⟩ hfc;have r3:=r3 hK;rw[hK];refine⟨fun c=>absurd c (by decide),fun _=>⟨ot.mk (lq s ks).fl ⟨H1,p.cy,p.x,p.xc⟩ ks kc,?_⟩⟩;dsimp only[kY.fl]at r1 r2 r3 ⊢
 and_intros<;>first|exact cz|exact r1|exact r2|exact fun _=>r3|(intro h_;revert h_)|exact cA|skip
 rintro⟨H2,y2,x2,xc2⟩ ⟨hat2,hf2⟩;dsimp only at hat2 hf2 ⊢;rw[hK,hks];refine⟨fun c=>absurd c (by decide),fun _=>⟨⟨H2,y2,x2,xc2,y1,c1,p.kc⟩,?_⟩⟩;have sep3:∀z,z∈bq y1->z∉bq p.cy:=fun z h1 h2=>(hf1 z (hf.log.dom z h2) (sep2 z h2)).2 h1;have hat3:ow (NI (lq s ks) ks) ⟨H2,y2,x2,xc2,y1,c1,p.kc⟩:=⟨hat2,hl1.frame fun z hz=>(hf2 z (hl1.dom z hz) (sep3 z hz)).1,fun z hz=>(hf2 z (hl1.dom z hz) (sep3 z hz)).2,hcp⟩
 have hfr:CO p.H (bq p.cy) (bq p.jy) ⟨H2,y2,x2,xc2,y1,c1,p.kc⟩:=fun z hz n1 n2=>by
  obtain⟨a1,a2⟩:=hf1 z hz n2;have a1:H1 z=p.H z:=a1;obtain⟨b1,b2⟩:=hf2 z (by show H1 z≠none;rw[a1];exact hz) n1;exact⟨b1.trans a1,b2,a2⟩
 and_intros<;>first|exact cz|exact hat3|exact hfr|(intro h_;revert h_)|exact cA|skip)
theorem Tf:ak (Y Tryz.prog).G.X 89 Td:=aT fF Te ⟨xK,SZ,Pb,trivial⟩
theorem Am{f g:Nat->Int}:∀ {n:Nat},(∀k,k<n->f k=g k)->jK f n=jK g n
 |0,_=>rfl
 |n+1,h=>by
  simp only[jK];rw[Am fun k hk=>h k (by omega),h n (by omega)]
theorem Vv{a b:Nat}(ha:a<2^56)(hb:b<256):dy .or .u64 (uw .u64 ((a:Int)*2^8)) b=((a*256+b:Nat):Int):=by
 have e1:uw .u64 ((a:Int)*2^8)=((a*256:Nat):Int):=by simp only[uw];omega
 rw[e1,IP _ _ (by omega) (by omega)];have:=Nat.two_pow_add_eq_or_of_lt (i:=8) (b:=b) hb a;rw[Nat.mul_comm a 256];show((2^8*a ||| b:Nat):Int)=((2^8*a+b:Nat):Int)
 rw[this]
theorem Jp{v:Nat}{len:Nat}(hl:len<=8)(hv:v<256^len):∀k,k<=len->jK (fun k=>H6 v len k) k=((v/256^(len-k):Nat):Int)
 |0,_=>by simp[jK,Nat.div_eq_of_lt hv]
 |k+1,hk=>by
  have ih:=Jp hl hv k (by omega);simp only[jK];rw[ih];have eb:H6 v len k=((v/256^(len-(k+1))%256:Nat):Int):=by
   have e2:(2:Int)^(8*(len-1-k))=((256^(len-(k+1)):Nat):Int):=by
    rw[Int.natCast_pow,show len-1-k=len-(k+1)by omega,Int.pow_mul];rfl
   simp only[H6,uw];rw[e2];omega
  rw[eb];have e3:256^(len-k)=256^(len-(k+1))*256:=by rw[show len-k=len-(k+1)+1 by omega,Nat.pow_succ]
  have e4:v/256^(len-k)=v/256^(len-(k+1))/256:=by rw[e3,Nat.div_div_eq_div_mul]
  have hlt:v/256^(len-k)<2^56:=by
   have h1:v/256^(len-k)<256^k:=Nat.div_lt_of_lt_mul (by rw[<- Nat.pow_add,show len-k+k=len by omega];exact hv);have h2:256^k<=256^7:=Nat.pow_le_pow_right (by decide) (by omega);exact Nat.lt_of_lt_of_le h1 h2
  rw[Vv hlt (Nat.mod_lt _ (by decide)),e4];congr 1;omega
theorem Yr{f:Nat->Int}{v r len:Nat}(hl:len<=8)(hv:v<256^len)(hf:∀k,k<len->f (r+k)=H6 v len k):gB f r len=v:=by
 unfold gB;rw[Am hf,Jp hl hv len (Nat.le_refl _)];simp
theorem NJ{r len:Nat}{f:Nat->Int}(hl:len<=8)(hf:∀k,k<len->f (r+k)=0):gB f r len=0 :=
 Yr (v:=0) hl (Nat.pow_pos (by decide)) fun k hk=>by rw[hf k hk];simp[H6,uw]
theorem Ao{f g:Nat->Int}:∀ {n:Nat},(∀k,k<n->f k=g k)->qi f n=qi g n
 |0,_=>rfl
 |n+1,h=>by
  simp only[qi];rw[Ao fun k hk=>h k (by omega),h n (by omega)]
theorem CR{f g:Nat->Int}(h:∀k,4<=k->k<64->f k=g k):vw f=vw g:=by
 unfold vw;rw[Ao fun k hk=>h (4+k) (by omega) (by omega)]
theorem Pw:vw (fun _=>0)≠0:=by decide +kernel
theorem take_zero{g:dw}{i:Nat}{f:Nat->Int}(hf:∀k,k<64->f k=0):fJ g i f=false:=by
 unfold fJ;have h1:vw f=vw fun _=>0:=CR fun k _ hk=>hf k hk;have h2:gB f 0 4=0:=NJ (by omega) fun k hk=>hf _ (by omega);have:(vw f == gB f 0 4)=false:=by
  rw[h1,h2,beq_eq_false_iff_ne];exact Pw
 rw[this];rfl
theorem NK{L:bL}{d:bw}{k:Nat}(h:∀i,i<8->∀j,j<64->vz L d k i j=0):RW L d k/\mQ L d k=none/\∀i,i<=8->(kF L d k i).run=if i=0 then L.run else max L.run 1:=by
 have hgB:∀i,i<8->uw .i64 (gB (vz L d k i) 10 4)=0:=fun i hi=>by
  rw[NJ (by omega) fun j hj=>h i hi _ (by omega)];rfl
 have key:∀i,i<=8->(0<i->(kF L d k i).ok=false/\(kF L d k i).g.gen=0)/\(kF L d k i).run=if i=0 then L.run else max L.run 1:=by
  intro i
  induction i with
  |zero=>exact fun _=>⟨fun h=>absurd h (Nat.lt_irrefl 0),rfl⟩
  |succ i ih =>
   intro hi;obtain⟨h1,h2⟩:=ih (by omega);obtain⟨R,hR⟩:∃R,R=kF L d k i:=⟨_,rfl⟩
   have hst:kF L d k (i+1)=rdStep R i (vz L d k i):=by rw[hR];rfl
   rw[<- hR]at h1 h2;have hz:=take_zero (g:=R.g) (i:=i) (h i (by omega));rw[hst];refine⟨fun _=>⟨by simp only[rdStep,hz,Bool.and_false],?_⟩,?_⟩
   ·simp only[rdStep,hz,Bool.and_false,Bool.not_false,Bool.true_and];by_cases h0:i=0
    ·rw[if_pos (by simpa using h0)]
    ·rw[if_neg (by simpa using h0),(h1 (by omega)).1];exact(h1 (by omega)).2
   ·simp only[rdStep,hgB i (by omega),h2];rw[if_neg (Nat.succ_ne_zero i)];split<;>omega
 refine⟨⟨fun i hi=>by rw[hgB i hi];omega,fun i hi _ hB=>?_⟩,?_,fun i hi=>(key i hi).2⟩
 ·rw[take_zero (h i hi)]at hB;cases hB
 ·unfold mQ;rw[((key 8 (Nat.le_refl _)).1 (by omega)).2,if_pos (.inl (by omega))]
def pX(r:RecM):List Int:=IV r.body.length r.pos++r.body
def dW(rs:List RecM):List Int:=rs.flatMap pX
structure Tg(r:RecM):Prop where
 len:1<=r.body.length/\r.body.length<=300
 pos:0<=r.pos/\r.pos<140737488355328
theorem Vw(n:Nat)(p:Int):(IV n p).length=8:=rfl
theorem vp(r:RecM):(pX r).length=8+r.body.length:=by simp[pX,Vw]
theorem vq:∀(rs:List RecM),(∀r∈rs,Tg r)->rs.length*9<=(dW rs).length
 |[],_=>Nat.zero_le _
 |r::rs,h=>by
  have ih:=vq rs fun x hx=>h x (List.mem_cons_of_mem _ hx);have:=(h r List.mem_cons_self).len;show(rs.length+1)*9<=(pX r++dW rs).length;rw[List.length_append,vp];omega
theorem lM(rs:List RecM)(r:RecM):dW (rs++[r])=dW rs++pX r:=by simp[dW]
structure xX(fr sg:Nat)(o:Option dw)(run:Int)(d:bw):Prop where
 sec:∀i,i<8->∀j,j<64->d.now (fr+i) j=match o with|none=>0|some g=>if bY i<g.buf.length then oL g i run j else 0
 rest:∀r,fr+8<=r->r<fr+sg*8->∀j,j<64->d.now r j=0
theorem xX.Zp{fr sg k:Nat}{o:Option dw}{run:Int}{d:bw}(h:xX fr sg o run d)(hk:1<=k)(hk2:k<sg){L:bL}(hL:L.from_=fr):∀i,i<8->∀j,j<64->vz L d k i j=0:=fun i hi j hj=>by
 unfold vz;rw[hL];exact h.rest _ (by omega) (by omega) j hj
theorem EI{fr sg:Nat}{run:Int}{d:bw}(h:xX fr sg none run d)(h3:3<=sg/\sg<=200)(hr:fr+sg*8<=d.n)(hn:d.n<100000):qI fr sg d/\cK fr sg d=⟨fr,sg,[],1,1,true⟩:=by
 have hz:∀k,k<sg->∀(L:bL),L.from_=fr->∀i,i<8->∀j,j<64->vz L d k i j=0:=fun k hk L hL i hi j hj=>by
  by_cases h0:k=0
  ·subst h0;unfold vz;rw[hL,Nat.zero_mul,Nat.add_zero];exact h.sec i hi j hj
  ·exact h.Zp (by omega) hk hL i hi j hj
 have key:∀k,k<=sg->oM fr sg d k=⟨fr,sg,[],1,1,true⟩:=by
  intro k
  induction k with
  |zero=>exact fun _=>rfl
  |succ k ih =>
   intro hk;have ih:=ih (by omega);obtain⟨_,e2,e3⟩:=NK (hz k (by omega) ⟨fr,sg,[],1,1,true⟩ rfl);show { oM fr sg d k with l:=(oM fr sg d k).l++(mQ (oM fr sg d k) d k).toList,run:=(kF (oM fr sg d k) d k 8).run }=_;rw[ih,e2,e3 8 (Nat.le_refl _)];rfl
 refine⟨⟨h3,hr,hn,fun k hk=>?_,?_,?_⟩,?_⟩
 ·rw[key k (by omega)];exact(NK (hz k hk ⟨fr,sg,[],1,1,true⟩ rfl)).1
 ·rw[key sg (Nat.le_refl _)];exact Nat.zero_le _
 ·rw[key sg (Nat.le_refl _)];exact fun i hi=>absurd hi (Nat.not_lt_zero i)
 ·unfold cK;rw[key sg (Nat.le_refl _)];rfl
theorem Px{g g':dw}{e:List Int}{i:Nat}{run:Int}(h1:g'.gen=g.gen)(h2:g'.base=g.base)(hb:g'.buf=g.buf++e)(hs:bY (i+1)<=g.buf.length):∀j,j<64->qa g i run j=qa g' i run j:=fun j hj=>by
 have hst:bY (i+1)=bY i+ki i:=by unfold bY ki;split<;>omega
 have u1:sV g.buf.length i=ki i:=by simp only[sV];omega
 have u2:sV g'.buf.length i=ki i:=by rw[hb];simp only[sV,List.length_append];omega
 have hgl:∀k,k<ki i->gl g'.buf (bY i+k)=gl g.buf (bY i+k):=fun k hk=>by rw[hb,bJ (by omega)]
 simp only[qa,h1,h2,u1,u2];by_cases h0:i=0
 ·subst h0;have hr:ki 0=42:=rfl;have hs0:bY 0=0:=rfl;rw[hr,hs0]at hgl;simp only[hr,if_true]
  (repeat' split)<;>first|rfl|(exfalso;omega)|skip
  have:=hgl (j-22) (by assumption);rw[Nat.zero_add]at this;exact this.symm
 ·simp only[if_neg h0]
  (repeat' split)<;>first|rfl|(exfalso;omega)|skip
  exact(hgl _ (by assumption)).symm
theorem Py{g g':dw}{e:List Int}{i:Nat}{run:Int}(h1:g'.gen=g.gen)(h2:g'.base=g.base)(hb:g'.buf=g.buf++e)(hs:bY (i+1)<=g.buf.length):∀j,j<64->oL g i run j=oL g' i run j:=fun j hj=>by
 have h:=Px (run:=run) h1 h2 hb hs;unfold oL;rw[CR fun k _ hk=>h k hk,h j hj]
theorem sE{L:bL}{g:dw}{was:Nat}{d:bw}(hg:(g.gen-1).toNat%L.au=0):∀n r j,j<64 ->
 (cZ L g was d n).now r j=if ∃i,i<n/\r=L.from_+i/\sX was g.buf.length i=true then oL g (r-L.from_) L.run j else d.now r j
 |0,r,j,_=>by rw[if_neg (by rintro⟨i,hi,_⟩;omega)];rfl
 |n+1,r,j,hj=>by
  have ih:=sE (L:=L) (g:=g) (was:=was) (d:=d) hg n r j hj;have hsn:jN L g n=L.from_+n:=by unfold jN;rw[hg,Nat.zero_mul,Nat.add_zero]
  unfold cZ;by_cases hc:sX was g.buf.length n=true
  ·rw[if_pos hc];show(if r=jN L g n/\j<64 then _ else _)=_;rw[hsn];by_cases hr:r=L.from_+n
   ·rw[if_pos ⟨hr,hj⟩,if_pos ⟨n,Nat.lt_succ_self n,hr,hc⟩,hr,Nat.add_sub_cancel_left]
   ·rw[if_neg (fun e=>hr e.1),ih];congr 1;rw[eq_iff_iff];constructor
    ·rintro⟨i,h1,h2,h3⟩;exact⟨i,by omega,h2,h3⟩
    ·rintro⟨i,h1,h2,h3⟩;by_cases e:i=n
     ·subst e;exact absurd h2 hr
     ·exact⟨i,by omega,h2,h3⟩
  ·rw[if_neg hc,ih];congr 1;rw[eq_iff_iff];constructor
   ·rintro⟨i,h1,h2,h3⟩;exact⟨i,by omega,h2,h3⟩
   ·rintro⟨i,h1,h2,h3⟩;by_cases e:i=n
    ·subst e;exact absurd h3 hc
    ·exact⟨i,by omega,h2,h3⟩
theorem Hl{rs:List RecM}{r:RecM}(h:mA rs)(h1:∀x∈rs,x.pos<r.pos)(h2:0<=r.pos/\r.pos<1000000000000):mA (rs++[r]):=by
 have hl:(rs++[r]).length=rs.length+1:=by simp
 refine⟨fun i j hij hj=>?_,fun i hi=>?_⟩
 ·rw[hl]at hj;rw[ko (by omega),ko hj,if_pos (by omega)];split
  ·exact h.lt i j hij (by assumption)
  ·exact h1 _ (by rw[bN (by omega)];exact List.getElem_mem _)
 ·rw[hl]at hi;rw[ko hi];split
  ·exact h.Az i (by assumption)
  ·exact h2
def DK(base:Int):List RecM->List dw
 |[]=>[]
 |r::rs=>[⟨1,base,0,dW (r::rs),r::rs⟩]
theorem NL{base:Int}{rs:List RecM}(h:rs≠[]):DK base rs=[⟨1,base,0,dW rs,rs⟩]:=by
 cases rs with
 |nil=>exact absurd rfl h
 |cons r rs=>rfl
theorem Th(base:Int)(rs:List RecM):fL (DK base rs)=rs:=by
 cases rs<;>simp[DK,fL]
structure gN(L:bL)(d:bw)(n:Nat)(rs:List RecM):Prop where
 au:3<=L.au/\L.au<=200
 room:L.from_+L.au*8<=d.n
 size:d.n<100000
 calls:d.calls<=n
 next:1<=L.next/\L.next<10000000000
 run:0<=L.run/\L.run<4294967296
 good:∀r∈rs,Tg r/\r.pos<L.next
 sort:mA rs
 fits:(dW rs).length<=378
 H7:∃base,0<=base/\base<100000000000/\L.l=DK base rs
 dev:xX L.from_ L.au L.l.head? L.run d
theorem gN.V4{L:bL}{d:bw}{n:Nat}{rs:List RecM}(h:gN L d n rs)(hn:n<900000000000):ud L d:=by
 obtain⟨base,b1,b2,hl⟩:=h.H7;have h9:=vq rs fun r hr=>(h.good r hr).1;have hf:=h.fits;have hc:=h.calls;have hx:=h.next
 have at_:∀i,i<L.l.length->gl L.l i=⟨1,base,0,dW rs,rs⟩:=fun i hi=>by
  rw[hl]at hi ⊢;cases rs with
  |nil=>exact absurd hi (Nat.not_lt_zero i)
  |cons r rs =>
   have:i=0:=by simpa[DK]using hi
   subst this;rfl
 refine⟨?_,h.au,h.room,h.size,by omega,by omega,fun i hi=>?_,fun i hi=>?_,fun i hi=>?_⟩
 ·rw[hl];cases rs<;>simp[DK]
 ·rw[at_ i hi];show(1:Int)<=1/\(1:Int)<100000000000;omega
 ·rw[at_ i hi];exact hf
 ·rw[at_ i hi];exact h9
theorem gN.flush{L:bL}{d:bw}{n:Nat}{rs:List RecM}(h:gN L d n rs):gN L (fZ d) (n+1) rs :=
 ⟨h.au,h.room,h.size,Nat.succ_le_succ h.calls,h.next,h.run,h.good,h.sort,h.fits,h.H7,⟨h.dev.sec,h.dev.rest⟩⟩
theorem gN.need{L:bL}{d:bw}{n:Nat}{rs:List RecM}(h:gN L d n rs){k:Nat}(hk:(dW rs).length+8+k<=378):qn L k=decide (rs=[]):=by
 obtain⟨base,b1,b2,hl⟩:=h.H7;unfold qn jP;rw[hl];cases rs with
 |nil=>simp[DK]
 |cons r rs =>
  have:¬370<(dW (r::rs)).length+k:=by omega
  simp[DK,gl,this]
theorem gN.append{L:bL}{d:bw}{n:Nat}{rs:List RecM}(h:gN L d n rs){body:List Int}(hb:1<=body.length/\body.length<=300)(hx:L.next<9999999999)(hfit:(dW rs).length+8+body.length<=378) :
 gN (lI L body) (nJ L d body) (n+20) (rs++[⟨L.next,body⟩])/\(lI L body).next=L.next+1/\(lI L body).au=L.au/\(lI L body).from_=L.from_:=by
 obtain⟨base,b1,b2,hl⟩:=h.H7;have hneed:=h.need hfit;have hsegs:=h.au;have hroom:=h.room;have hnx:=h.next
 obtain⟨r,hr⟩:∃r:RecM,r=⟨L.next,body⟩:=⟨_,rfl⟩
 have hrb:pX r=IV body.length L.next++body:=by rw[hr];rfl
 have hgr:Tg r:=by rw[hr];exact⟨hb,by show 0<=L.next;omega,by show L.next<140737488355328;omega⟩
 have hbl:(dW (rs++[r])).length=(dW rs).length+8+body.length:=by
  rw[lM,List.length_append,vp,hr];show(dW rs).length+(8+body.length)=_;omega
 obtain⟨L1,hL1⟩:∃L1,L1=dr L body.length:=⟨_,rfl⟩
 obtain⟨d1,hd1⟩:∃d1,d1=kr L d body.length:=⟨_,rfl⟩
 have key:∃base',0<=base'/\base'<100000000000/\L1.l=[⟨1,base',0,dW rs,rs⟩]/\L1.from_=L.from_/\L1.au=L.au/\L1.next=L.next/\L1.run=L.run/\L1.fresh=L.fresh/\d1.n=d.n/\d1.calls<=d.calls+2 /\
  (∀i,i<8->∀j,j<64->(rs=[]/\i=0)\/d1.now (L.from_+i) j=if bY i<(dW rs).length then oL ⟨1,base',0,dW rs,rs⟩ i L.run j else 0)/\∀q,L.from_+8<=q->∀j,d1.now q j=d.now q j:=by
  by_cases he:rs=[]
  ·subst he;have hn:qn L body.length=true:=by rw[hneed];rfl
   have e1:L1=iU L:=by rw[hL1];exact if_pos hn
   have e2:d1=sk L d:=by rw[hd1];exact if_pos hn
   have e3:L.l=[]:=by rw[hl];rfl
   have e4:bk L=⟨1,L.next,0,[],[]⟩:=by unfold bk;rw[e3];rfl
   have e5:jN L (bk L) 0=L.from_:=by rw[e4];simp[jN]
   refine⟨L.next,by omega,by omega,?_,by rw[e1];rfl,by rw[e1];rfl,by rw[e1];rfl,by rw[e1];rfl,by rw[e1];rfl,by rw[e2];rfl,by rw[e2];exact Nat.le_refl _,fun i hi j hj=>?_,fun q hq j=>?_⟩
   ·rw[e1];show sW L++[bk L]=_;rw[show sW L=[]by unfold sW;rw[e3];rfl,e4];rfl
   ·by_cases h0:i=0
    ·exact .inl ⟨rfl,h0⟩
    ·right;rw[e2,if_neg (by simp[dW])];show(if L.from_+i=jN L (bk L) 0/\j<64 then _ else d.now (L.from_+i) j)=0;rw[e5,if_neg (by omega),h.dev.sec i hi j hj,e3];rfl
   ·rw[e2];show(if q=jN L (bk L) 0/\j<64 then _ else d.now q j)=_;rw[e5,if_neg (by omega)]
  ·have hn:qn L body.length=false:=by rw[hneed];exact decide_eq_false he
   have e1:L1=L:=by rw[hL1];exact if_neg (by rw[hn];decide)
   have e2:d1=d:=by rw[hd1];exact if_neg (by rw[hn];decide)
   rw[NL he]at hl;refine⟨base,b1,b2,by rw[e1,hl],by rw[e1],by rw[e1],by rw[e1],by rw[e1],by rw[e1],by rw[e2],by rw[e2];omega,fun i hi j hj=>?_,fun q hq j=>by rw[e2]⟩;right;rw[e2,h.dev.sec i hi j hj,hl];rfl
 obtain⟨base',c1,c2,k1,k2,k3,k4,k5,k6,k7,k8,k9,k10⟩:=key;have hA:lI L body=IX L1 body:=by rw[hL1];rfl
 have hlast:jP L1=⟨1,base',0,dW rs,rs⟩:=by unfold jP;rw[k1];rfl
 obtain⟨g',hg'⟩:∃g':dw,g'=⟨1,base',0,dW (rs++[r]),rs++[r]⟩:=⟨_,rfl⟩
 have hbuf:qD ⟨1,base',0,dW rs,rs⟩ L.next body=dW (rs++[r]):=by
  rw[lM,hrb];simp[qD,List.append_assoc]
 have hl2:(lI L body).l=[g']:=by
  rw[hA];show L1.l.set (L1.l.length-1) (KZ (jP L1) L1.next body)=_;rw[hlast,k1,k4];simp only[KZ,hbuf,hg',hr];rfl
 have hnx2:(lI L body).next=L.next+1:=by rw[hA];show L1.next+1=_;rw[k4]
 have hfr2:(lI L body).from_=L.from_:=by rw[hA];exact k2
 have hsg2:(lI L body).au=L.au:=by rw[hA];exact k3
 have hrn2:(lI L body).run=L.run:=by rw[hA];exact k5
 obtain⟨gw,hgw⟩:∃gw,gw=IW (jP L1) L1.next body:=⟨_,rfl⟩
 have hgw1:gw=⟨1,base',0,dW (rs++[r]),rs⟩:=by rw[hgw,hlast,k4];simp only[IW,hbuf]
 have hsec:∀i j,oL gw i L.run j=oL g' i L.run j:=fun i j=>by rw[hgw1,hg'];rfl
 have hD2:qo L1 d1 body=cZ L1 gw (dW rs).length d1 8:=by unfold qo;rw[<- hgw,hlast]
 have hmod:(gw.gen-1).toNat%L1.au=0:=by rw[hgw1];simp
 obtain⟨w1,w2⟩:=sr L1 gw (dW rs).length d1 8;have hnow:∀q j,(nJ L d body).now q j=(qo L1 d1 body).now q j:=fun q j=>by
  unfold nJ;rw[<- hL1,<- hd1];split<;>rfl
 have hdn:(nJ L d body).n=d.n/\(nJ L d body).calls<=d.calls+11:=by
  unfold nJ;rw[<- hL1,<- hd1,hD2];split
  ·simp only[fZ];omega
  ·omega
 have hgl:gw.buf.length=(dW rs).length+8+body.length:=by rw[hgw1];exact hbl
 refine⟨⟨by rw[hsg2];exact hsegs,by rw[hfr2,hsg2,hdn.1];exact hroom,by rw[hdn.1];exact h.size,by have:=h.calls;omega,by rw[hnx2];omega,by rw[hrn2];exact h.run,?_,?_,?_,?_,?_⟩,hnx2,hsg2,hfr2⟩
 ·rw[hnx2,<- hr];intro x hx;rcases List.mem_append.1 hx with hx|hx
  ·have:=h.good x hx;exact⟨this.1,by omega⟩
  ·have:x=r:=by simpa using hx
   rw[this];refine⟨hgr,?_⟩;rw[hr];show L.next<L.next+1;omega
 ·rw[<- hr];refine Hl h.sort (fun x hx=>?_) (by rw[hr];show 0<=L.next/\L.next<1000000000000;omega);rw[hr];exact(h.good x hx).2
 ·rw[<- hr,hbl];exact hfit
 ·refine⟨base',c1,c2,?_⟩;rw[hl2,<- hr,NL (by simp),hg']
 ·rw[hl2,hfr2,hsg2,hrn2];refine⟨fun i hi j hj=>?_,fun q hq hq2 j hj=>?_⟩
  ·rw[hnow,hD2,sE hmod 8 _ j hj,k2,k5,Nat.add_sub_cancel_left,hsec];have hg'l:g'.buf.length=(dW rs).length+8+body.length:=by rw[hg'];exact hbl
   show _=if bY i<g'.buf.length then oL g' i L.run j else 0;by_cases hs:bY i<g'.buf.length
   ·rw[if_pos hs];by_cases hc:(dW rs).length<bY (i+1)
    ·rw[if_pos ⟨i,hi,rfl,by simp only[sX,Bool.and_eq_true,decide_eq_true_eq];exact⟨hc,by rw[hgl,<- hg'l];exact hs⟩⟩]
    ·rw[if_neg]
     ·have hlt:bY i<(dW rs).length:=by unfold bY at *;omega
      rcases k9 i hi j hj with⟨e,e0⟩|e
      ·subst e;simp[dW]at hlt
      ·rw[e,if_pos hlt];exact Py (e:=pX r) (by rw[hg']) (by rw[hg']) (by rw[hg'];exact lM rs r) (show bY (i+1)<=(dW rs).length by omega) j hj
     ·rintro⟨i',_,e,hcc⟩;have:i'=i:=by omega
      subst this;simp only[sX,Bool.and_eq_true,decide_eq_true_eq]at hcc;exact hc hcc.1
   ·rw[if_neg hs,if_neg]
    ·rcases k9 i hi j hj with⟨e,e0⟩|e
     ·subst e0;exact absurd (show bY 0<g'.buf.length by rw[hg'l];show 0<_;omega) hs
     ·rw[e,if_neg (by omega)]
    ·rintro⟨i',_,e,hcc⟩;have:i'=i:=by omega
     subst this;simp only[sX,Bool.and_eq_true,decide_eq_true_eq]at hcc;omega
  ·rw[hnow,hD2,sE hmod 8 _ j hj,k2,if_neg (by rintro⟨i',_,e,_⟩;omega),k10 q hq];exact h.dev.rest q hq hq2 j hj
theorem nS{rs:List RecM}:mA rs↔rs.Pairwise (fun a b=>a.pos<b.pos)/\∀r∈rs,0<=r.pos/\r.pos<1000000000000:=by
 constructor
 ·rintro⟨h1,h2⟩;refine⟨?_,fun r hr=>?_⟩
  ·rw[List.pairwise_iff_getElem];intro i j hi hj hij;have:=h1 i j hij hj;rwa[bN hi,bN hj]at this
  ·obtain⟨i,hi,rfl⟩:=List.getElem_of_mem hr;have:=h2 i hi;rwa[bN hi]at this
 ·rintro⟨h1,h2⟩;refine⟨fun i j hij hj=>?_,fun i hi=>?_⟩
  ·rw[bN (show i<rs.length by omega),bN hj];exact List.pairwise_iff_getElem.1 h1 i j (by omega) hj hij
  ·rw[bN hi];exact h2 _ (List.getElem_mem _)
theorem Jq:∀ {rs:List RecM} {r:RecM},rs.Pairwise (fun a b=>a.pos<b.pos)->r∈rs->vI rs r.pos=some r.body
 |[],_,_,h=>by cases h
 |a::rs,r,hp,h=>by
  rw[List.pairwise_cons]at hp;by_cases e:a.pos=r.pos
  ·have:a=r:=by
    rcases List.mem_cons.1 h with h|h
    ·exact h.symm
    ·have:=hp.1 r h;omega
   subst this;simp[vI]
  ·have hm:r∈rs:=by
    rcases List.mem_cons.1 h with h|h
    ·exact absurd (by rw[h]) e
    ·exact h
   have:=Jq hp.2 hm;unfold vI at this ⊢;rw[List.find?_cons];simp only[e,decide_false];exact this
theorem LZ{rs:List RecM}{p:Int}(h:∀r∈rs,r.pos≠p):vI rs p=none:=by
 unfold vI;rw[Option.map_eq_none_iff,List.find?_eq_none];intro r hr;simpa using h r hr
theorem Jr:∀ {l:List dw} {r:RecM},(fL l).Pairwise (fun a b=>a.pos<b.pos)->r∈fL l->fT l r.pos=some r.body
 |[],_,_,h=>by cases h
 |g::l,r,hp,h=>by
  have e:fL (g::l)=g.aO++fL l:=rfl;rw[e]at hp h;rw[List.pairwise_append]at hp;simp only[fT,List.findSome?_cons];by_cases hg:r∈g.aO
  ·rw[Jq hp.1 hg]
  ·have hm:r∈fL l:=(List.mem_append.1 h).resolve_left hg;rw[LZ fun x hx=>by have:=hp.2.2 x hx r hm;omega];exact Jr hp.2.1 hm
theorem EJ:∀(l:List dw) (next:Int),iP l next=match fL l with | []=>next|r::_=>r.pos
 |[],_=>rfl
 |g::l,next=>by
  have e:fL (g::l)=g.aO++fL l:=rfl;rw[e];cases hr:g.aO with
  |nil =>
   rw[List.nil_append];have:=EJ l next
   unfold iP at this ⊢;rw[List.find?_cons,hr];exact this
  |cons r rs =>
   unfold iP;rw[List.find?_cons,hr];simp[gl,hr]
structure xY(L:bL)(rs:List RecM):Prop where
 all:fL L.l=rs
 xL:L.l.length<1000
 sort:mA rs
 body:∀r∈rs,1<=r.body.length/\r.body.length<=300
 seg:∀i,i<L.l.length->(gl L.l i).aO.length<=400
theorem gN.rd{L:bL}{d:bw}{n:Nat}{rs:List RecM}(h:gN L d n rs):xY L rs:=by
 obtain⟨base,_,_,hl⟩:=h.H7;have h9:=vq rs fun r hr=>(h.good r hr).1;have hf:=h.fits;refine⟨by rw[hl,Th],?_,h.sort,fun r hr=>(h.good r hr).1.len,fun i hi=>?_⟩
 ·rw[hl];cases rs<;>simp[DK]
 ·rw[hl]at hi ⊢;cases rs with
  |nil=>exact absurd hi (Nat.not_lt_zero i)
  |cons r rs =>
   have:i=0:=by simpa[DK]using hi
   subst this;show(r::rs).length<=400;omega
theorem xY.first{L:bL}{rs:List RecM}(h:xY L rs){r:RecM}(hr:r∈rs):cu L<=r.pos:=by
 unfold cu;rw[EJ,h.all];have hp:=(nS.1 h.sort).1;cases rs with
 |nil=>cases hr
 |cons a rs =>
  show a.pos<=r.pos;rcases List.mem_cons.1 hr with rfl|hr
  ·exact Int.le_refl _
  ·exact Int.le_of_lt ((List.pairwise_cons.1 hp).1 r hr)
def AJ(get:ByteArray->Option aD)(k:ByteArray)(r:Option aD):ByteArray->Option aD:=fun k'=>if k'=k then r else get k'
structure rz(m:nC)(rs:List RecM)(get:ByteArray->Option aD):Prop where
 rd:xY m.L rs
 pos:∀e∈m.l,∃x,get e.1=some x/\x.key=e.1/\fH x=true/\(⟨e.2,aC (some x)⟩:RecM)∈rs
 all:∀k,get k≠none->k∈m.l.map Prod.fst
theorem xY.au{L:bL}{rs:List RecM}(h:xY L rs)(i:Nat)(hi:i<L.l.length):mA (gl L.l i).aO/\(gl L.l i).aO.length<=400/\∀k,k<(gl L.l i).aO.length->1<=(gl (gl L.l i).aO k).body.length/\(gl (gl L.l i).aO k).body.length<=1000:=by
 obtain⟨hs1,hs2⟩:=nS.1 h.sort;refine⟨?_,h.seg i hi,fun k hk=>?_⟩
 ·have hm:gl L.l i∈L.l:=by rw[bN hi];exact List.getElem_mem _
  have hsub:(gl L.l i).aO.Sublist rs:=by rw[<- h.all];exact uc (f:=fun g:dw=>g.aO) hm
  exact nS.2 ⟨hs1.sublist hsub,fun r hr=>hs2 r (hsub.subset hr)⟩
 ·obtain⟨j,hj,e⟩:=GU hi hk;rw[h.all]at hj e;have:=h.body (gl rs j) (by rw[bN hj];exact List.getElem_mem _);rw[e]at this;omega
theorem rz.Za{m:nC}{rs:List RecM}{get:ByteArray->Option aD}(h:rz m rs get):O9 m:=⟨h.rd.xL,h.rd.au,fun e he=>by
 obtain⟨x,_,_,_,hx⟩:=h.pos e he;exact(nS.1 h.rd.sort).2 _ hx⟩
theorem rz.gz{m:nC}{rs:List RecM}{get:ByteArray->Option aD}(h:rz m rs get)(k:ByteArray):Cz m k (get k):=by
 have hs:=(nS.1 h.rd.sort).1;cases hg:get k with
 |none =>
  left;intro hm;obtain⟨e,he,rfl⟩:=List.mem_map.1 hm;obtain⟨x,h1,_⟩:=h.pos e he;rw[hg]at h1;cases h1
 |some x =>
  obtain⟨e,he,rfl⟩:=List.mem_map.1 (h.all k (by rw[hg];simp));obtain⟨x',h1,_,h3,h4⟩:=h.pos e he;rw[hg]at h1;cases h1;rw[<- h.rd.all]at hs h4;exact⟨e.2,he,Jr hs h4,h3⟩
theorem rz.keep{m:nC}{rs:List RecM}{get:ByteArray->Option aD}(h:rz m rs get){L':bL}{rs':List RecM}(hL:xY L' rs')(hs:∀r∈rs,r∈rs'):(m.l.filter fun e=>decide (cu L'<=e.2))=m.l:=by
 rw[List.filter_eq_self];intro e he;obtain⟨x,_,_,_,hx⟩:=h.pos e he;simpa using hL.first (hs _ hx)
theorem vr{l:List (ByteArray×Int)}{k:ByteArray}{e:ByteArray×Int}:e∈lS l k↔e∈l/\e.1≠k:=by
 unfold lS;rw[List.mem_filter];simp
theorem rz.put{m:nC}{rs:List RecM}{get:ByteArray->Option aD}(h:rz m rs get){L':bL}{d':bw}{p:Int}{x:aD}(hx:fH x=true)(hL:xY L' (rs++[⟨p,aC (some x)⟩])) :
 rz ⟨L',d',DJ m.l x.key p⟩ (rs++[⟨p,aC (some x)⟩]) (AJ get x.key (some x)):=by
 refine⟨hL,fun e he=>?_,fun k hk=>?_⟩
 ·rcases List.mem_cons.1 he with rfl|he
  ·exact⟨x,if_pos rfl,rfl,hx,by simp⟩
  ·obtain⟨he,hne⟩:=vr.1 he;obtain⟨x',h1,h2,h3,h4⟩:=h.pos e he;exact⟨x',by unfold AJ;rw[if_neg hne];exact h1,h2,h3,List.mem_append_left _ h4⟩
 ·by_cases e:k=x.key
  ·subst e;exact List.mem_map.2 ⟨(x.key,p),List.mem_cons_self,rfl⟩
  ·have hk:get k≠none:=by unfold AJ at hk;rwa[if_neg e]at hk
   obtain⟨q,hq,rfl⟩:=List.mem_map.1 (h.all k hk);exact List.mem_map.2 ⟨q,List.mem_cons_of_mem _ (vr.2 ⟨hq,e⟩),rfl⟩
theorem rz.drop{m:nC}{rs:List RecM}{get:ByteArray->Option aD}(h:rz m rs get){L':bL}{d':bw}{k0:ByteArray}{r:RecM}(hL:xY L' (rs++[r])) :
 rz ⟨L',d',lS m.l k0⟩ (rs++[r]) (AJ get k0 none):=by
 refine⟨hL,fun e he=>?_,fun k hk=>?_⟩
 ·obtain⟨he,hne⟩:=vr.1 he;obtain⟨x',h1,h2,h3,h4⟩:=h.pos e he;exact⟨x',by unfold AJ;rw[if_neg hne];exact h1,h2,h3,List.mem_append_left _ h4⟩
 ·by_cases e:k=k0
  ·subst e;exact absurd (if_pos rfl) hk
  ·have hk:get k≠none:=by unfold AJ at hk;rwa[if_neg e]at hk
   obtain⟨q,hq,rfl⟩:=List.mem_map.1 (h.all k hk);exact List.mem_map.2 ⟨q,vr.2 ⟨hq,e⟩,rfl⟩
structure qq(m:nC)(n:Nat)(rs:List RecM)(get:ByteArray->Option aD):Prop where
 log:gN m.L m.d n rs
 has:rz m rs get
 xL:m.l.length<=rs.length
theorem gN.len{L:bL}{d:bw}{n:Nat}{rs:List RecM}(h:gN L d n rs):rs.length<=42:=by
 have h9:=vq rs fun r hr=>(h.good r hr).1;have:=h.fits;omega
theorem qq.ok{m:nC}{n k:Nat}{rs:List RecM}{get:ByteArray->Option aD}(h:qq m n rs get)(hn:n<900000000000)(hk:(dW rs).length+8+k<=378):tq m k:=by
 exact⟨h.log.V4 hn,by have:=h.xL;have:=h.log.len;omega⟩
theorem qq.add{m:nC}{n:Nat}{rs:List RecM}{get:ByteArray->Option aD}(h:qq m n rs get){body:List Int}(hb:1<=body.length/\body.length<=300)(hx:m.L.next<9999999999)(hfit:(dW rs).length+8+body.length<=378) :
 gN (ig m body).L (ig m body).d (n+20) (rs++[⟨m.L.next,body⟩])/\(ig m body).L.next=m.L.next+1/\(ig m body).l=m.l/\(ig m body).L.au=m.L.au/\(ig m body).L.from_=m.L.from_:=by
 obtain⟨h1,h2,h3,h4⟩:=h.log.append hb hx hfit;exact⟨h1,h2,h.has.keep h1.rd fun r hr=>List.mem_append_left _ hr,h3,h4⟩
theorem qq.put{m:nC}{n:Nat}{rs:List RecM}{get:ByteArray->Option aD}(h:qq m n rs get){x:aD}(hx:jQ x=true)(hn:m.L.next<9999999999)(hfit:(dW rs).length+8+(aC (some x)).length<=378) :
 qq (nk m x) (n+20) (rs++[⟨m.L.next,aC (some x)⟩]) (AJ get x.key (some x))/\(nk m x).L.next=m.L.next+1/\(nk m x).L.au=m.L.au/\(nk m x).L.from_=m.L.from_:=by
 have hm:fH x=true:=by unfold jQ at hx;simp only[Bool.and_eq_true]at hx;exact hx.1
 obtain⟨b1,b2⟩:=lK (o:=some x) fun z e=>by cases e;exact hm
 obtain⟨h1,h2,h3,h4,h5⟩:=h.add ⟨b1,by omega⟩ hn hfit;have hF:nk m x=⟨(ig m (aC (some x))).L,(ig m (aC (some x))).d,DJ m.l x.key m.L.next⟩:=by
  unfold nk;rw[if_pos hx,h3]
 rw[hF];refine⟨⟨h1,h.has.put hm h1.rd,?_⟩,h2,h4,h5⟩;have:=Jf m.l x.key m.L.next
 have:=h.xL;show(DJ m.l x.key m.L.next).length<=_;rw[List.length_append,List.length_singleton];omega
theorem qq.drop{m:nC}{n:Nat}{rs:List RecM}{get:ByteArray->Option aD}(h:qq m n rs get){k:ByteArray}(hk:dM k=true)(hn:m.L.next<9999999999)(hfit:(dW rs).length+8+(aC (some (iB k))).length<=378) :
 qq (nP m k) (n+20) (rs++[⟨m.L.next,aC (some (iB k))⟩]) (AJ get k none)/\(nP m k).L.next=m.L.next+1/\(nP m k).L.au=m.L.au/\(nP m k).L.from_=m.L.from_:=by
 obtain⟨b1,b2⟩:=lK (o:=some (iB k)) fun z e=>by cases e;exact zn hk
 obtain⟨h1,h2,h3,h4,h5⟩:=h.add ⟨b1,by omega⟩ hn hfit;have hF:nP m k=⟨(ig m (aC (some (iB k)))).L,(ig m (aC (some (iB k)))).d,lS m.l k⟩:=by
  unfold nP;rw[h3]
 rw[hF];refine⟨⟨h1,h.has.drop h1.rd,?_⟩,h2,h4,h5⟩;have:=Ez m.l k;have:=h.xL;show(lS m.l k).length<=_;rw[List.length_append,List.length_singleton];omega
def newF(fr sg:Nat)(d:bw):nC:=⟨⟨fr,sg,[],1,1,true⟩,d,[]⟩
theorem qq.new{fr sg:Nat}{d:bw}{n:Nat}{run:Int}(h3:3<=sg/\sg<=200)(hr:fr+sg*8<=d.n)(hn:d.n<100000)(hc:d.calls<=n)(hd:xX fr sg none run d):qq (newF fr sg d) n [] fun _=>none:=by
 have hl:gN (newF fr sg d).L (newF fr sg d).d n []:=⟨h3,hr,hn,hc,by show(1:Int)<=1/\(1:Int)<10000000000;omega,by show(0:Int)<=1/\(1:Int)<4294967296;omega,fun r hr=>by(cases hr),⟨fun i j _ hj=>absurd hj (Nat.not_lt_zero j),fun i hi=>absurd hi (Nat.not_lt_zero i)⟩,Nat.zero_le _,⟨0,by omega,by omega,rfl⟩,⟨hd.sec,hd.rest⟩⟩
 exact⟨hl,⟨hl.rd,fun e he=>(by cases he),fun k hk=>absurd rfl hk⟩,Nat.le_refl _⟩
end Go.Proofs.YtfjgoonelcaggaaGreat
namespace Go.Proofs
open Go.Shelf
def Tryz.Js:Go.Shelf.Ren:=⟨fun|190=>227|125=>189|258=>253|128=>224|129=>225|302=>266|303=>267|304=>268|305=>269|306=>270|307=>271|308=>272|309=>273|310=>274|333=>279|329=>240|330=>241|334=>280|335=>281|336=>282|344=>284|n=>n,fun|31=>46|9=>9|3=>3|46=>108|0=>0|51=>299|53=>64|4=>4|183=>316|182=>315|131=>321|5=>5|218=>336|222=>340|228=>354|229=>248|n=>n,fun|n=>n⟩
theorem Tryz.NM:Go.Proofs.Lays.n190 Tryz.prog Tryz.Js:={
 mixed:=by kernel_rfl
 f125:=Tryz.func189.trans (congrArg some (by kernel_rfl))
 f128:=Tryz.func224.trans (congrArg some (by kernel_rfl))
 f129:=Tryz.func225.trans (congrArg some (by kernel_rfl))
 f190:=Tryz.func227.trans (congrArg some (by kernel_rfl))
 f258:=Tryz.func253.trans (congrArg some (by kernel_rfl))
 f302:=Tryz.func266.trans (congrArg some (by kernel_rfl))
 f303:=Tryz.func267.trans (congrArg some (by kernel_rfl))
 f304:=Tryz.func268.trans (congrArg some (by kernel_rfl))
 f305:=Tryz.func269.trans (congrArg some (by kernel_rfl))
 f306:=Tryz.func270.trans (congrArg some (by kernel_rfl))
 f307:=Tryz.func271.trans (congrArg some (by kernel_rfl))
 f308:=Tryz.func272.trans (congrArg some (by kernel_rfl))
 f309:=Tryz.func273.trans (congrArg some (by kernel_rfl))
 f310:=Tryz.func274.trans (congrArg some (by kernel_rfl))
 f329:=Tryz.func240.trans (congrArg some (by kernel_rfl))
 f330:=Tryz.func241.trans (congrArg some (by kernel_rfl))
 f333:=Tryz.func279.trans (congrArg some (by kernel_rfl))
 f334:=Tryz.func280.trans (congrArg some (by kernel_rfl))
 f335:=Tryz.func281.trans (congrArg some (by kernel_rfl))
 f336:=Tryz.func282.trans (congrArg some (by kernel_rfl))
 f344:=Tryz.func284.trans (congrArg some (by kernel_rfl))
 t0:=Tryz.underlying0
 a0:=Tryz.isAgg0
 z0:=Tryz.sizeOf0
 v0:=Tryz.zeroValue0
 t3:=Tryz.underlying3
 a3:=Tryz.isAgg3
 z3:=Tryz.sizeOf3
 v3:=Tryz.zeroValue3
 t4:=Tryz.underlying4
 a4:=Tryz.isAgg4
 z4:=Tryz.sizeOf4
 v4:=Tryz.zeroValue4
 t5:=Tryz.underlying5
 a5:=Tryz.isAgg5
 z5:=Tryz.sizeOf5
 v5:=Tryz.zeroValue5
 t9:=Tryz.underlying9
 a9:=Tryz.isAgg9
 z9:=Tryz.sizeOf9
 v9:=Tryz.zeroValue9
 t31:=Tryz.underlying46
 a31:=Tryz.isAgg46
 z31:=Tryz.sizeOf46
 v31:=Tryz.zeroValue46
 t46:=Tryz.underlying108
 a46:=Tryz.isAgg108
 z46:=Tryz.sizeOf108
 v46:=Tryz.zeroValue108
 t51:=Tryz.underlying299
 a51:=Tryz.isAgg299
 z51:=Tryz.sizeOf299
 v51:=Tryz.zeroValue299
 t53:=Tryz.underlying64
 a53:=Tryz.isAgg64
 z53:=Tryz.sizeOf64
 v53:=Tryz.zeroValue64
 t131:=Tryz.underlying321
 a131:=Tryz.isAgg321
 z131:=Tryz.sizeOf321
 v131:=Tryz.zeroValue321
 t182:=Tryz.underlying315
 a182:=Tryz.isAgg315
 z182:=Tryz.sizeOf315
 v182:=Tryz.zeroValue315
 t183:=Tryz.underlying316
 a183:=Tryz.isAgg316
 z183:=Tryz.sizeOf316
 v183:=Tryz.zeroValue316
 t218:=Tryz.underlying336
 a218:=Tryz.isAgg336
 z218:=Tryz.sizeOf336
 v218:=Tryz.zeroValue336
 t222:=Tryz.underlying340
 a222:=Tryz.isAgg340
 z222:=Tryz.sizeOf340
 v222:=Tryz.zeroValue340
 t228:=Tryz.underlying354
 a228:=Tryz.isAgg354
 z228:=Tryz.sizeOf354
 v228:=Tryz.zeroValue354
 t229:=Tryz.underlying248
 a229:=Tryz.isAgg248
 z229:=Tryz.sizeOf248
 v229:=Tryz.zeroValue248 }
open Go.Sort Go.RowKit in
theorem Tryz.slices_Sort_string(blk off cap:Nat)(ss:List (List UInt8))(w:World)(hH:Holds encStr w blk off ss.toArray)(hblk:blk<w.heap.size)(hsz:ss.length<4611686018427387904) :
 Calls Tryz.prog 227 #[.slice (some ⟨blk,off,none⟩) ss.length cap] w fun e w' =>
  e = .returned (.tuple #[])/\∃n os,w'=grow (putRow encStr (Sort.ahead w n) blk off (ss.mergeSort fun x y=>decide (x<=y)).toArray) os:=Any.slices_Sort_string Tryz.NM blk off cap ss w hH hblk hsz
open Go.RowKit Go.Sort in
theorem Tryz.slices_Sort_string_none(p:Option Addr)(cap:Nat)(w:World) :
 Calls Tryz.prog 227 #[.slice p 0 cap] w fun e w'=>e = .returned (.tuple #[])/\w'=w:=Any.slices_Sort_string_none Tryz.NM p cap w
end Go.Proofs
namespace Go.Sx
section
open Go.Sort
structure NN(β:Type) where
 l:List β
 cap:Nat
def nT{β:Type}[Inhabited β](enc:β->Value)(l:List β):Nat->Nat->Value:=aa (fun x=>[enc x]) l
def xZ{β:Type}[Inhabited β](ty:TypeId)(k:CK)(enc:β->Value)(srt:List β->List β):cF where
 α:=NN β
 β:=Unit
 m:=1
 m':=1
 pre:=fun a=>a.l.length<100000
 args:=fun a=>[.a (.slc 0 0 1 a.l.length a.cap)]
 hp:=fun a=>[(0,.arr ty [k] a.l.length (nT enc a.l))]
 ro:=fun _=>[]
 post:=fun _ _=>True
 res:=fun _ _=>.lY []
 cS:=fun a _=>[(0,.arr ty [k] a.l.length (nT enc (srt a.l)))]
theorem Ap{β:Type}[Inhabited β]{enc:β->Value}{l:List β}{i:Nat}:nT enc l i 0=enc (gl l i):=rfl
theorem Ho{β:Type}[Inhabited β]{k:CK}{enc:β->Value}{ty:TypeId}{l:List β}{ρ:Env}{p:Place}{w:World}(h:(Chunk.arr ty [k] l.length (nT enc l)).Sat ρ p w)(h0:l≠[]) :
 ∃vs ty' fr,w.heap[p.blk]? = some (.cells vs ty' fr)/\p.off+p.N<=vs.size/\l.length<=p.N/\rH p.off (p.off+p.N) fr/\(∀b,p.fp b↔b=p.blk)/\(∀i,i<l.length->vs[p.off+i]? = some (enc (gl l i))):=by
 rcases h with⟨hn,_⟩ | ⟨vs,ty',fr,hb,h1,h2,h3,h4,h5⟩
 ·exact absurd (List.eq_nil_of_length_eq_zero hn) h0
 ·simp only[List.length_singleton,Nat.mul_one]at h1 h3 h5;refine⟨vs,ty',fr,hb,h1,h2,h3,h4,fun i hi=>?_⟩;obtain⟨g1,_⟩:=h5 i hi 0 k rfl;exact g1
theorem Ti{β γ:Type}[Inhabited β][Inhabited γ]{X:Cx}{f:Nat}{ty:TypeId}{k:CK}{enc:β->Value}{enc2:γ->Value}{to:β->γ}{srt:List β->List β}{srt2:List γ->List γ}
 (hto:∀x,enc2 (to x)=enc x) (hsrt:∀l,(srt l).map to=srt2 (l.map to)) (hlen:∀l,(srt l).length=l.length) (hin:∀l x,x∈srt l->x∈l)
 (hcall:∀(blk off cap:Nat) (l:List γ) (w:World),Holds enc2 w blk off l.toArray->blk<w.heap.size->l.length<4611686018427387904 ->
  Calls X.P f #[.slice (some ⟨blk,off,none⟩) l.length cap] w fun e w'=>e = .returned (.tuple #[])/\∃n os,w'=grow (putRow enc2 (Sort.ahead w n) blk off (srt2 l).toArray) os)
 (hnone:∀(p:Option Addr) (cap:Nat) (w:World),Calls X.P f #[.slice p 0 cap] w fun e w'=>e = .returned (.tuple #[])/\w'=w) :
 lE X (xZ ty k enc srt) f:=by
 intro a hpre M ρ w vs hn hh hargs;obtain⟨l,cap⟩:=a;obtain⟨v,vs',rfl,hv,rfl⟩:=hargs;obtain⟨hT,hlc,hcm,hv⟩:=hv;have he:=hh.gz ⟨0,true,.arr ty [k] l.length (nT enc l)⟩ (by simp[vb,xZ]);have hsat:=he.ch;simp only at hsat hlc hcm hv hT;by_cases h0:l=[]
 ·subst h0;have hs:srt []=[]:=List.eq_nil_of_length_eq_zero (hlen []);have hcalls:Calls X.P f #[v] w fun e w'=>e = .returned (.tuple #[])/\w'=w:=by
   rcases hv with⟨_,h2,rfl⟩ | ⟨o,rfl,_⟩
   ·exact hnone none 0 w
   ·exact hnone (some _) cap w
  refine hcalls.mono ?_;rintro e w' ⟨rfl,rfl⟩;refine⟨_,rfl,(),ρ,trivial,hn,fun _ _=>rfl,⟨[],rfl,rfl⟩,?_⟩;show ah w' M ρ (vb [(0,.arr ty [k] ([]:List β).length (nT enc (srt [])))]) w';rw[hs];have:(vb ((xZ ty k enc srt).hp ⟨[],cap⟩)++DB ((xZ ty k enc srt).ro ⟨[],cap⟩))=vb [(0,.arr ty [k] ([]:List β).length (nT enc []))]:=by simp[xZ,DB,vb]
  rw[this]at hh;exact hh
 ·obtain⟨vs0,ty',fr,hb,h1,h2,h3,h4,h5⟩:=Ho hsat h0;have hpos:l.length≠0:=fun h=>h0 (List.eq_nil_of_length_eq_zero h);have hlt:(ρ.pl 0).blk<w.heap.size:=he.lt _ ((h4 _).2 rfl);rcases hv with⟨g1,_,_⟩ | ⟨o,rfl,ho⟩
  ·exact absurd g1 hpos
  obtain⟨rfl,_⟩:=ho (by omega);simp only[Nat.add_zero,Nat.mul_one]at *;have hHolds:Holds enc2 w (ρ.pl 0).blk (ρ.pl 0).off (l.map to).toArray:=by
   intro j hj;simp only[List.size_toArray,List.length_map]at hj;refine⟨?_,?_⟩
   ·simp only[World.cell?,hb];rw[h5 j hj,getElem!_pos _ j (by simpa using hj)];simp[hto,bN hj]
   ·simp only[World.frozen?,hb];have:=h3 ((ρ.pl 0).off+j) (by omega) (by omega);obtain⟨lo,hi⟩:=fr;simpa using this
  have hcalls:=hcall (ρ.pl 0).blk (ρ.pl 0).off cap (l.map to) w hHolds hlt (by rw[List.length_map];have:l.length<100000:=hpre;omega);rw[List.length_map]at hcalls;refine hcalls.mono ?_;rintro e w' ⟨rfl,n,os,rfl⟩;refine⟨_,rfl,(),ρ,trivial,hn,fun _ _=>rfl,⟨[],rfl,rfl⟩,?_⟩;have hsz:(srt2 (l.map to)).length=l.length:=by rw[<- hsrt,List.length_map,hlen]
  have hheap:∀b,b<w.heap.size->(grow (putRow enc2 (Sort.ahead w n) (ρ.pl 0).blk (ρ.pl 0).off (srt2 (l.map to)).toArray) os).heap[b]? = (w.heap.modify (ρ.pl 0).blk (onCells (putCells enc2 (ρ.pl 0).off (srt2 (l.map to)).toArray)))[b]?:=by
   intro b hb';rw[heap_grow_old _ _ (by simpa using hb')];rfl
  have hblk:(grow (putRow enc2 (Sort.ahead w n) (ρ.pl 0).blk (ρ.pl 0).off (srt2 (l.map to)).toArray) os).heap[(ρ.pl 0).blk]? = some (.cells (putCells enc2 (ρ.pl 0).off (srt2 (l.map to)).toArray vs0) ty' fr):=by
   rw[hheap _ hlt,Array.getElem?_modify,if_pos rfl,hb];rfl
  have hoth:∀b,b<w.heap.size->b≠(ρ.pl 0).blk->(grow (putRow enc2 (Sort.ahead w n) (ρ.pl 0).blk (ρ.pl 0).off (srt2 (l.map to)).toArray) os).heap[b]? = w.heap[b]?:=by
   intro b hb' hne;rw[hheap b hb',Array.getElem?_modify,if_neg (fun h=>hne h.symm)]
  refine⟨⟨rfl,rfl,rfl,?_,fun b hb' hm=>?_,fun ad had=>?_⟩,?_,?_⟩
  ·simp
  ·exact hoth b hb' fun e=>hm (he.own rfl b ((h4 b).2 e) hb')
  ·rw[frozen?_grow _ _ _ (by simpa using had),frozen?_putRow,frozen?_ahead]
  ·intro e' he';have:e'=⟨0,true,.arr ty [k] l.length (nT enc (srt l))⟩:=by simpa[vb,xZ]using he'
   subst this;refine⟨he.tag,?_,fun b hb'=>?_,he.own⟩
   ·refine .inr ⟨_,ty',fr,hblk,?_,h2,?_,h4,fun i hi j k' hj=>?_⟩
    ·simpa[putCells]using h1
    ·simpa using h3
    ·have hj0:j=0:=by
      cases j with
      |zero=>rfl
      |succ j=>simp at hj
     subst hj0;have hk:k'=k:=by simpa using hj.symm
     subst hk;have hi':i<(srt l).length:=by rw[hlen];exact hi
     have hmem:gl (srt l) i∈l:=hin l _ (FF hi');refine⟨?_,?_⟩
     ·simp only[List.length_singleton,Nat.mul_one,Nat.add_zero,putCells,Array.getElem?_mapIdx,h5 i hi,Option.map_some];rw[if_pos ⟨by omega,by simp;omega⟩,show(ρ.pl 0).off+i-(ρ.pl 0).off=i by omega];rw[getElem!_pos _ i (by simp;omega)];have:(srt2 (l.map to))[i]'(by omega)=to (gl (srt l) i):=by
       simp only[<- hsrt,List.getElem_map,bN hi']
      simp[this,hto,Ap]
     ·obtain⟨i0,hi0,e0⟩:=List.getElem_of_mem hmem;rcases hsat with⟨hn0,_⟩ | ⟨vs1,ty1,fr1,hb1,_,_,_,_,h6⟩
      ·omega
      ·obtain⟨_,g2⟩:=h6 i0 hi0 0 k' rfl;rw[Ap]at g2 ⊢;rw[<- e0,<- bN hi0];exact g2
   ·have:=he.lt b hb';simp;omega
  ·simp[vb,xZ]
end
end Go.Sx
