/-
  
-/
import Derived.Test.YtfjgoonelcaggaaGreatNodeLeaseP3
import Derived.Test.YtfjgoonelcaggaaGreatNodeLeaseP2
import Derived.Shelf.Sort.Plain
import Derived.Shelf.Slices.In.SortNone
import Derived.Test.YtfjgoonelcaggaaGreatProg
import Derived.Sort.Grow
set_option maxRecDepth 100000
set_option maxHeartbeats 4000000
set_option linter.unusedVariables false
set_option linter.unusedSimpArgs false
namespace Go.Proofs.YtfjgoonelcaggaaGreat
open Go.Sx
def pE(from_ au:Nat)(d:bz):Nat->bN
 |0=>⟨from_,au,[],1,1,true⟩
 |k+1=>{ pE from_ au d k with l:=(pE from_ au d k).l++(ni (pE from_ au d k) d k).toList,run:=(kN (pE from_ au d k) d k 8).run }
def G5(l:List dy):Int:=match l.getLast? with
 |none=>1
 |some g=>match g.aR.getLast? with
  |none=>g.base+64
  |some r=>r.pos+65
def cK(from_ au:Nat)(d:bz):bN:={ pE from_ au d au with next:=G5 (pE from_ au d au).l }
structure q9(from_ au:Nat)(d:bz):Prop where
 x7:3<=au/\au<=200
 room:from_+au*8<=d.n
 size:d.n<100000
 rd:∀k,k<au->SJ (pE from_ au d k) d k
 one:(pE from_ au d au).l.length<=1
 A5:∀i,i<(pE from_ au d au).l.length->1<=(gl (pE from_ au d au).l i).gen/\0<=(gl (pE from_ au d au).l i).base/\(gl (pE from_ au d au).l i).base<100000000000 /\
  ∀j,j<(gl (pE from_ au d au).l i).aR.length->0<=(gl (gl (pE from_ au d au).l i).aR j).pos/\(gl (gl (pE from_ au d au).l i).aR j).pos<100000000000
theorem JM(from_ au:Nat)(d:bz):∀k,(pE from_ au d k).from_=from_/\(pE from_ au d k).au=au/\(pE from_ au d k).next=1/\(pE from_ au d k).fresh=true
 |0=>⟨rfl,rfl,rfl,rfl⟩
 |k+1=>JM from_ au d k
theorem N1{from_ au:Nat}{d:bz}(h:q9 from_ au d):∀k,k<=au->0<=(pE from_ au d k).run/\(pE from_ au d k).run<200000000000
 |0,_=>⟨by simp[pE],by simp[pE]⟩
 |k+1,hk=>(CM (h.rd k (by omega)) (N1 h k (by omega)) 8 (Nat.le_refl _)).run
structure IP where
 H:PH
 d:bz
 from_:Nat
 au:Nat
structure VO where
 k:Nat
 H:PH
 y:gQ
noncomputable def G6:cC where
 α:=IP
 β:=mE
 m:=3
 m':=5
 pre:=fun a=>q9 a.from_ a.au a.d
 args:=fun a=>[.a (.ptr 0 0 0 0),.a (.int .i64 a.from_),.a (.int .i64 a.au)]
 hp:=fun a=>[(2,.cA a.H)]
 ro:=fun a=>gG 0 1 a.d
 post:=fun a b=>bU b.H b.y (cK a.from_ a.au a.d)/\∀x,a.H x≠none->b.H x=a.H x/\x∉br b.y
 res:=fun a _=>.mm [.a (.ptr 3 0 0 0),.a (.lit .i64 0)]
 cW:=fun a b=>[(3,fS 0 (cK a.from_ a.au a.d) b.y.lv),(4,.cA b.H)]
def Xs(a:IP):An:=.flat 7 VO (fun s x=>S.cA ((s.at_ (s.tg 8) (fS (s.pK (s.tg 8) 0) (pE a.from_ a.au a.d x.k) x.y.lv)).int 43 x.k) x.H)
 (fun _ x=>x.k<=a.au/\bU x.H x.y (pE a.from_ a.au a.d x.k)/\∀z,a.H z≠none->x.H z=a.H z/\z∉br x.y) (fun _ x=>a.au-x.k)
def sX(x:IP)(y:VO):bN:=pE x.from_ x.au x.d y.k
def G7(x:VO)(u:IP):=bU x.H x.y (sX u x)/\∀z:Nat,oN (u.H z) (x.H z) (br x.y) z
def Mc(x:IP)(u:PH)(z:VO)(v w:Nat)(s:Value)(t f:Int)(g:Bool)(h:Prop):=bu x.au/\ag (bK (aF (af x.d.n-af x.au*(8:Int)) (af x.from_)) (bT (aW (az (cF (af x.from_) (af x.au) (u=z.H) (ag (CB v (sX x z) w s z.y t f g (bu x.au/\gz x.d x.d h))))))))
def Md(z:VO)(u:IP)(v:PH)(x:rR)(w:Value):=aS z.k/\∃y:VO,bx z.k y.k/\Mc u v y x.L.from_ x.L.au w x.L.next (kN x.L x.d x.k 8).run x.L.fresh (dY y.k u.au (G7 y u) z.k)
def xl(x:mE)(z:IP):=bU x.H x.y (cK z.from_ z.au z.d)/\∀u:Nat,oN (z.H u) (x.H u) (br x.y) u
def Me(x:IP)(z:VO)(v:vX)(w:Int):mE->Prop:=fun(u:mE)=>eo (aC 0) (CB (bN.from_ (sX x z)) (cK x.from_ x.au x.d) (bN.au (sX x z)) v.y.lv u.y (w+(64:Int)) (bN.run (sX x z)) (bN.fresh (sX x z)) (z.H=u.H/\xl u x/\True))
theorem PG:fnBody (Y Tryz.prog) [(205,L6),(206,L7),(208,vw)] 175 G6 fun a=>[(175,[Xs a],[])]:=fnBody.of (p :=
 ∀x:IP,q9 x.from_ x.au x.d->ko (af x.au) (aF (af x.au) 3) (∃r:mE,False) (iY (aF 200 (af x.au)) (∃r:mE,False) (aF (af x.from_) 0) (ah (af x.au)->ah (af x.au*(8:Int))/\ah (af x.d.n-af x.au*(8:Int))/\aY (af x.d.n-af x.au*(8:Int)) x.from_ (∃B:mE,False) (ah (af x.au)->ah (af x.au)->(∃z:VO,aA z.k (Mc x x.H z x.from_ x.au gh 1 1 true ((z.k<=x.au/\G7 z x)/\True)))/\∀z:VO,z.k<=x.au/\G7 z x->aY (af z.k) x.au (∃u:rR,eo (bA z.k u.k) (tO (sX x z) u.L z.y.lv u.lv (z.H=u.H/\gz x.d u.d (G2 u/\∀w:NZ,CN u.H w (ni u.L u.d u.k)->(∃t:Option Go.Addr,w.v=Value.pointer t)/\aD (bn (I3 w.v)) (Exists (GL w.H u.lv w.v fun t i j f h=>Md z x (aO (aL w.H u.lv) j f h) u (eW j f (t+1) i))) (Md z x w.H u u.lv))))) (∃u:JL,z.y.lv=u.v/\CO u.v u.n/\aI (Exists (eC z.y.lv)/\aY 0 (dr z.y.lv) (wY z.y (fun w=>z.H w) fun w l=>∃t:vX,z.y.lv=t.y.lv/\az (aP l w=pv t.gb 0/\af x.au=t.s/\z.H=t.H/\xk t/\aI (gC (aP l w) 1 (fun i=>z.H i) fun i j=>ah (js (aP j i)+(64:Int))/\gf (aP l w) 4 (fun f=>z.H f) fun f h=>Exists (eC (aP h f))/\aY 0 (dr (aP h f)) (gf (aP l w) 4 (fun o=>z.H o) fun o c=>ah (dW (dr (aP h f)))/\Exists (iM (aP c o) (dW (dr (aP h f))) fun e A=>∃p q:Nat,pv e (A+aV (dW (dr (aP h f)))*2)=pv p q /\
 mF p q 0 (fun g=>z.H g) (fun g=>ji g) (fun g m=>True) fun g m=>ah (js (aP m g))->nB (js (aP m g)+(1:Int)) 64 (Exists (Me x z t (js (aP m g)+(1:Int)))))) (Exists (Me x z t (js (aP j i))))))) (∃w:mE,eo (aC 0) (tO (sX x z) (cK x.from_ x.au x.d) z.y.lv w.y.lv (z.H=w.H/\xl w x/\True))))))))) (by kernel_rfl) (by
 delta aD aP cF kA ah bq bW aC gH aF af bK kz mF dY bD aX aB dO aV eo bS iY eC aI bT jP bB gA CB gC xk gh wY jH Md xl aS iM aA aW ag aY sX nB gf oN GL bx az G2 iN bn bu bA Me G7 ko dW iu Mc ji jG
 try dsimp -iota -proj only
 rintro⟨H,d,fr,sg⟩ ok;dsimp only at *;have ok:q9 fr sg d:=ok;obtain⟨s1,s2⟩:=ok.x7;have s3:=ok.room;have s4:=ok.size;refine fun _=>⟨fun c=>by exfalso;have:=of_decide_eq_true c;omega,fun _ _=>⟨fun c=>by exfalso;have:=of_decide_eq_true c;omega,fun _=>⟨fun c=>by exfalso;have:=of_decide_eq_true c;omega,fun _ _=>⟨by simp only[bQ];omega,by simp only[bQ];omega,fun c=>by exfalso;have:=of_decide_eq_true c;omega,fun _ _ _=>⟨⟨⟨0,H,⟨.slice none 0 0,[]⟩⟩,?_⟩,?_⟩⟩⟩⟩⟩
 ·have h0:bU H ⟨.slice none 0 0,[]⟩ (pE fr sg d 0):=⟨⟨0,.inl ⟨rfl,rfl,rfl⟩⟩,rfl,fun i hi=>absurd hi (Nat.not_lt_zero i),by simp[fB]⟩
  have h1:∀z,H z≠none->H z=H z/\¬z∈br ⟨.slice none 0 0,[]⟩:=fun z _=>⟨rfl,by simp[br,fB]⟩
  and_intros<;>first|exact dc|exact h0|exact h1|rfl|exact fun _ _=>⟨trivial,by simp[br,fB]⟩
 ·rintro⟨k,X,Y⟩ ⟨hk,hX,hfr⟩;dsimp only at *;obtain⟨e1,_,⟨ea,ec,e2⟩,e3,e5⟩:=hX.qT;obtain⟨m1,m2,m3,m4⟩:=JM fr sg d k;refine⟨fun c1=>?_,fun c1=>?_⟩
  ·have hk':k<sg:=by have:=of_decide_eq_true c1;omega
   have hrd:=ok.rd k hk';obtain⟨hr1,hr2⟩:=N1 ok k (by omega);have hstep:pE fr sg d (k+1)={ pE fr sg d k with l:=(pE fr sg d k).l++(ni (pE fr sg d k) d k).toList,run:=(kN (pE fr sg d k) d k 8).run }:=rfl;obtain⟨L,hL⟩:∃L,L=pE fr sg d k:=⟨_,rfl⟩
   rw[<- hL]at hX e1 e2 e3 m1 m2 m3 m4 hrd hr1 hr2 hstep ⊢;refine⟨rR.mk X L Y.lv d k,?_⟩
   and_intros<;>first|exact dc|exact hrd|(dsimp only;omega)|skip
   rintro⟨X1,sl,v⟩ hpost;dsimp only at hpost ⊢;cases hseg:ni L d k with
   |none =>
    rw[hseg]at hpost;obtain⟨hv,hf⟩:=hpost;dsimp only at hv hf;subst hv;have hX1:bU X1 Y (pE fr sg d (k+1)):=(hX.frame fun x hx=>hf x (hX.dom x hx)).congr (by rw[hstep,hseg];simp);have hz:∀z,H z≠none->X1 z=H z/\¬z∈br Y:=fun z hz=>by
     obtain⟨a1,a2⟩:=hfr z hz;exact⟨(hf z (by rw[a1];exact hz)).trans a1,a2⟩
    refine⟨⟨_,rfl⟩,fun c=>absurd c (by decide),fun _=>⟨by simp only[bQ];omega,⟨k+1,X1,Y⟩,?_⟩⟩
    and_intros<;>first|exact dc|exact hX1|exact hz|(rw[hstep];done)|rfl|skip
   |some g =>
    rw[hseg]at hpost;obtain⟨hv,hs,hf⟩:=hpost;dsimp only at hv hs hf;subst hv;have hXf:bU X1 Y L:=hX.frame fun x hx=>(hf x (hX.dom x hx)).1;refine⟨⟨_,rfl⟩,fun _=>?_,fun c=>absurd c (show ¬(true=false)by decide)⟩;obtain⟨c0,hsl⟩:=hXf.IN;refine⟨_,c0,_,hsl,?_⟩;have hone:L.l.length<=100000:=by
     have:=ok.x7;have:∀j,(pE fr sg d j).l.length<=j:=fun j=>by
      induction j with
      |zero=>exact Nat.le_refl _
      |succ j ih =>
       show((pE fr sg d j).l++(ni (pE fr sg d j) d j).toList).length<=_;rw[List.length_append];have:(ni (pE fr sg d j) d j).toList.length<=1:=by cases ni (pE fr sg d j) d j<;>simp
       omega
     have:=this k;rw[<- hL]at this;omega
    repeat refine kR ?_
    intro cap q1 q2 q3
    repeat refine kR ?_
    intro p1 lo1 cs1 hp1 hl1 hr1;have hpush:=GJ (lo:=lo1) (L':=pE fr sg d (k+1)) hXf hs (fun x hx=>(hf x (hX.dom x hx)).2) hp1 hl1 q1 q2 hr1 (by
     intro i hi;simp only[Nat.zero_add,aZ,zh];rw[kE (by rw[hX.len];exact hi),hX.len];by_cases hin:i<L.l.length
     ·rw[if_pos hin,if_pos hin]
     ·rw[if_neg hin,if_neg hin,show i-L.l.length=0 by omega];rfl) (by rw[hstep,hseg];rfl)
    have hz:∀z,H z≠none->aO (aL X1 Y.lv) p1 lo1 cs1 z=H z/\¬z∈br ⟨eW p1 lo1 (L.l.length+1) cap,Y.ys++[sl]⟩:=fun z hz=>by
     obtain⟨a1,a2⟩:=hfr z hz;obtain⟨b1,b2⟩:=hf z (by rw[a1];exact hz);obtain⟨c1,c2⟩:=hpush.2 z (by rw[b1,a1];exact hz) a2 b2;exact⟨c1.trans (b1.trans a1),c2⟩
    refine⟨by simp only[bQ];omega,⟨k+1,aO (aL X1 Y.lv) p1 lo1 cs1,⟨eW p1 lo1 (L.l.length+1) cap,Y.ys++[sl]⟩⟩,?_⟩
    and_intros<;>first|exact dc|exact hpush.1|exact hz|(rw[hstep];done)|rfl|skip
  ·have hk':k=sg:=by have:=of_decide_eq_false c1;omega
   subst hk';have hone:=ok.one;have hrng:=ok.A5;have hM:(cK fr k d).l=(pE fr k d k).l:=rfl;have hM2:(cK fr k d).next=G5 (pE fr k d k).l:=rfl
   have hM3:(cK fr k d).from_=fr/\(cK fr k d).au=k/\(cK fr k d).run=(pE fr k d k).run/\(cK fr k d).fresh=true:=⟨m1,m2,rfl,m4⟩
   obtain⟨L,hL⟩:∃L,L=pE fr k d k:=⟨_,rfl⟩
   rw[<- hL]at hX e1 e2 e3 m1 m2 m3 m4 hone hrng hM hM2 hM3 ⊢;obtain⟨M,hMM⟩:∃M,M=cK fr k d:=⟨_,rfl⟩
   rw[<- hMM]at hM hM2 hM3 ⊢;obtain⟨n1,n2,n3,n4⟩:=hM3;have hXM:bU X Y M:=hX.congr hM;refine⟨JL.mk Y.lv L.l.length,rfl,⟨hone,⟨ea,ec,e2⟩,e5⟩,fun _ _=>⟨⟨ea,_,ec,e2,e3⟩,fun c2=>?_,fun c2=>⟨⟨X,Y⟩,?_⟩⟩⟩
   ·rw[e1]at c2;have hn:0<L.l.length:=by have:=of_decide_eq_true c2;omega
    have hk1:L.l.length-1<L.l.length:=by omega
    obtain⟨b,lo,o,c,cs,g1,g2,g3,g4⟩:=hX.at_ hk1;have hs:=hX.seg _ hk1;obtain⟨r1,r2,r3⟩:=hs.A5;obtain⟨u1,u2,u3,u4⟩:=hrng _ hk1;have hlast:L.l.getLast? = some (gl L.l (L.l.length-1)):=by rw[bR hk1,List.getLast?_eq_getElem?,List.getElem?_eq_getElem hk1]
    have hall:∀i,i<L.l.length->(gl L.l (L.l.length-1)).gen-(k:Int)<(gl L.l i).gen:=fun i hi=>by
     have:i=L.l.length-1:=by omega
     rw[this];omega
    obtain⟨sl,hsl⟩:∃sl,sl=gl Y.ys (L.l.length-1):=⟨_,rfl⟩
    obtain⟨g,hg⟩:∃g,g=gl L.l (L.l.length-1):=⟨_,rfl⟩
    rw[<- hg]at hs r1 r2 r3 u1 u2 u3 u4 hlast hall;rw[<- hsl]at g3 g4 hs;have e6:((L.l.length:Int)-1).toNat=L.l.length-1:=by omega
    rw[e1];refine⟨by simp only[bQ];omega,_,_,_,_,g1,by omega,b,lo,o+(L.l.length-1)*1,cs,by rw[e6,Nat.add_assoc],g2,⟨⟨_,g3,rfl⟩,trivial⟩,vX.mk X Y L sl.b g.gen k,?_⟩
    and_intros<;>first|exact dc|exact g4|exact hX|exact r1.1|exact r1.2|exact hall|exact⟨_,hs.cell⟩|(dsimp only;omega)|skip
    intro _ _;obtain⟨c9,hrec⟩:=hs.aR;obtain⟨w1,w2,w3,w4,w5,⟨wa,w7⟩,w6⟩:=e9 hrec;refine⟨_,_,g4,?_⟩;refine⟨_,_,rfl,?_⟩;refine⟨_,0,_,_,rfl,hs.cell,?_⟩;refine⟨⟨⟨_,rfl,_,rfl,r2⟩,trivial⟩,fun _=>?_⟩;simp only[show js ((cZ g sl.bv sl.rv).getD 1 (Value.tuple #[]))=g.base from rfl];refine⟨by simp only[bQ];omega,_,_,g4,?_⟩;refine⟨_,_,rfl,?_⟩;refine⟨_,0,_,_,rfl,hs.cell,?_⟩;refine⟨⟨⟨_,rfl,w6⟩,trivial⟩,⟨wa,_,_,w7,by omega⟩,?_⟩;simp only[show(cZ g sl.bv sl.rv).getD 4 (Value.tuple #[])=sl.rv from rfl,w1];refine⟨fun c3=>?_,fun c3=>⟨⟨X,Y⟩,?_⟩⟩
    ·have hq:0<g.aR.length:=by have:=of_decide_eq_true c3;omega
     have hq1:g.aR.length-1<g.aR.length:=by omega
     have hrl:g.aR.getLast? = some (gl g.aR (g.aR.length-1)):=by rw[bR hq1,List.getLast?_eq_getElem?,List.getElem?_eq_getElem hq1]
     have hnx:M.next=(gl g.aR (g.aR.length-1)).pos+65:=by rw[hM2];simp only[G5,hlast,hrl]
     obtain⟨b',lo',o',cs',q1,q2,q3,q4,q5,q6,q7,q8⟩:=uK hrec (k:=g.aR.length-1) hq1;obtain⟨p1,p2⟩:=u4 _ hq1;have e7:((g.aR.length:Int)-1).toNat=g.aR.length-1:=by omega
     refine⟨_,_,g4,?_⟩;refine⟨_,_,rfl,?_⟩;refine⟨_,0,_,_,rfl,hs.cell,?_⟩;refine⟨⟨⟨_,rfl,w6⟩,trivial⟩,by simp only[bQ,aq]at *;omega,?_⟩;simp only[show(cZ g sl.bv sl.rv).getD 4 (Value.tuple #[])=sl.rv from rfl];refine⟨_,_,_,_,q1,by omega,_,_,rfl,b',lo',o'+(g.aR.length-1)*2,cs',by rw[e7];congr 1;omega,q2,⟨⟨_,q3,_,rfl,q6⟩,trivial⟩,fun _=>?_⟩;rw[q7];simp only[js];refine⟨by simp only[bQ];omega,by simp only[bQ];omega,⟨X,Y⟩,?_⟩
     and_intros<;>first|exact dc|exact hXM|exact hfr|(rw[n3];done)|(rw[n4,m4];done)|(dsimp only;omega)|skip
    ·have hq:g.aR.length=0:=by have:=of_decide_eq_false c3;omega
     have hrl:g.aR.getLast? = none:=by rw[List.eq_nil_of_length_eq_zero hq];rfl
     have hnx:M.next=g.base+64:=by rw[hM2];simp only[G5,hlast,hrl]
     and_intros<;>first|exact dc|exact hXM|exact hfr|(rw[n3];done)|(rw[n4,m4];done)|(dsimp only;omega)|skip
   ·rw[e1]at c2;have hn:L.l=[]:=List.eq_nil_of_length_eq_zero (by have:=of_decide_eq_false c2;omega);have hnx:M.next=1:=by rw[hM2,hn];rfl
    and_intros<;>first|exact dc|exact hXM|exact hfr|(rw[n3];done)|(rw[n4,m4];done)|(rw[hnx,m3];done)|(dsimp only;omega)|skip)
theorem EV:ak (Y Tryz.prog).G.X 175 G6:=aU fF PG ⟨PD,PF,Mb,trivial⟩
structure AJ(H:PH)(v:Value)(vs:List Value)(rs:List RecM):Prop where
 rows:∃c,jZ H v rO rs.length c (uE rs vs)
 len:vs.length=rs.length
 body:∀i,i<rs.length->fu H (vs.getD i undef) (gl rs i).body
 sep:∀x∈fB v,x∉vs.flatMap fB
theorem Xt{vs:List Value}{i x:Nat}(hi:i<vs.length)(hx:x∈fB (vs.getD i undef)):x∈vs.flatMap fB:=by
 refine List.mem_flatMap.2 ⟨_,?_,hx⟩;rw[List.getD_eq_getElem?_getD,List.getElem?_eq_getElem hi];exact List.getElem_mem _
theorem AJ.dom{H:PH}{v:Value}{vs:List Value}{rs:List RecM}(h:AJ H v vs rs):∀x,x∈fB v\/x∈vs.flatMap fB->H x≠none:=by
 rintro x (hx|hx)
 ·obtain⟨c,hr⟩:=h.rows;exact mD hr x hx
 ·obtain⟨u,hu,hx⟩:=List.mem_flatMap.1 hx;obtain⟨i,hi,rfl⟩:=List.getElem_of_mem hu;obtain⟨c,hb⟩:=h.body i (by rw[<- h.len];exact hi);rw[List.getD_eq_getElem?_getD,List.getElem?_eq_getElem hi]at hb;exact mD hb x hx
theorem AJ.push{H:PH}{v:Value}{vs:List Value}{rs:List RecM}{r:RecM}{p3 lo3 p4 lo4 cap3 cap4 n:Nat}{cs3 cs4:List Value}(h:AJ H v vs rs)(hn:n=r.body.length)(hp3:H p3=none)
 (hb:fu (aO H p3 lo3 cs3) (eW p3 lo3 n cap3) r.body) (hp4:aL (aO H p3 lo3 cs3) v p4=none)
 (hr:jZ (aO (aL (aO H p3 lo3 cs3) v) p4 lo4 cs4) (eW p4 lo4 (rs.length+1) cap4) rO (rs.length+1) cap4 (uE (rs++[r]) (vs++[eW p3 lo3 n cap3]))) :
 AJ (aO (aL (aO H p3 lo3 cs3) v) p4 lo4 cs4) (eW p4 lo4 (rs.length+1) cap4) (vs++[eW p3 lo3 n cap3]) (rs++[r]) /\
 ∀z,H z≠none->z∉fB v->z∉vs.flatMap fB->aO (aL (aO H p3 lo3 cs3) v) p4 lo4 cs4 z=H z/\z∉fB (eW p4 lo4 (rs.length+1) cap4)/\z∉(vs++[eW p3 lo3 n cap3]).flatMap fB:=by
 have hd:=h.dom;have h3:∀z,H z≠none->z≠p3:=fun z hz e=>hz (by rw[e];exact hp3);have h3v:p3∉fB v:=fun e=>hd p3 (.inl e) hp3;have h34:p4≠p3:=fun e=>by rw[e,kD h3v,dF]at hp4;cases hp4
 have hz4:∀z,H z≠none->z∉fB v->z≠p4:=fun z hz hv e=>by
  rw[<- e,kD hv,cD (h3 z hz)]at hp4;exact hz hp4
 have same:∀z,H z≠none->z∉fB v->aO (aL (aO H p3 lo3 cs3) v) p4 lo4 cs4 z=H z:=fun z hz hv=>by
  rw[cD (hz4 z hz hv),kD hv,cD (h3 z hz)]
 have hvs:∀z∈vs.flatMap fB,z∉fB v:=fun z hz e=>h.sep z e hz;refine⟨⟨⟨cap4,by simpa using hr⟩,by simp[h.len],fun i hi=>?_,fun x hx=>?_⟩,fun z hz hv hs=>⟨same z hz hv,?_,?_⟩⟩
 ·rw[List.length_append,List.length_singleton]at hi;rw[kE hi];by_cases hin:i<rs.length
  ·rw[if_pos hin,List.getD_eq_getElem?_getD,List.getElem?_append_left (by rw[h.len];exact hin),<- List.getD_eq_getElem?_getD];refine(h.body i hin).frame fun x hx=>?_;have hm:=Xt (by rw[h.len];exact hin) hx;exact same x (hd x (.inr hm)) (hvs x hm)
  ·rw[if_neg hin];have e1:(vs++[eW p3 lo3 n cap3]).getD i undef=eW p3 lo3 n cap3:=by
    rw[List.getD_eq_getElem?_getD,List.getElem?_append_right (by rw[h.len];omega),show i-vs.length=0 by rw[h.len];omega];rfl
   rw[e1];refine hb.frame fun x hx=>?_;simp only[fB,eW,List.mem_singleton]at hx;rw[hx,cD h34.symm,kD h3v]
 ·simp only[fB,eW,List.mem_singleton]at hx;subst hx;simp only[List.flatMap_append,List.mem_append,not_or];refine⟨fun e=>?_,by simpa[fB,eW]using h34⟩;exact hz4 x (hd x (.inr e)) (hvs x e) rfl
 ·simp only[fB,eW,List.mem_singleton];exact hz4 z hz hv
 ·simp only[List.flatMap_append,List.mem_append,not_or];exact⟨hs,by simpa[fB,eW]using h3 z hz⟩
def fW(l:List dy):List RecM:=l.flatMap (·.aR)
def nD(l:List dy)(i j:Nat):List RecM:=fW (l.take i)++(gl l i).aR.take j
theorem PI{l:List dy}{i j:Nat}(hj:j<(gl l i).aR.length):nD l i (j+1)=nD l i j++[gl (gl l i).aR j]:=by
 unfold nD;rw[pM hj,List.append_assoc]
theorem PJ{l:List dy}{i j:Nat}(hi:i<l.length)(hj:(gl l i).aR.length<=j):nD l i j=fW (l.take (i+1)):=by
 unfold nD fW;rw[flatMap_push hi,List.take_of_length_le hj]
structure tJ where
 H:PH
 y:gQ
 L:bN
structure vY where
 H:PH
 v:Value
 vs:List Value
structure rS where
 i:Nat
 j:Nat
 H:PH
 v:Value
 vs:List Value
noncomputable def N2:cC where
 α:=tJ
 β:=vY
 m:=3
 m':=4
 pre:=fun a=>bU a.H a.y a.L/\a.L.l.length<1000/\∀i,i<a.L.l.length->(gl a.L.l i).aR.length<=400/\∀k,k<(gl a.L.l i).aR.length->1<=(gl (gl a.L.l i).aR k).body.length/\(gl (gl a.L.l i).aR k).body.length<=1000
 args:=fun a=>[.a (.ptr 0 0 0 0)]
 hp:=fun a=>[(1,.cA a.H)]
 ro:=fun a=>[(0,fS 2 a.L a.y.lv)]
 post:=fun a b=>AJ b.H b.v b.vs (fW a.L.l)/\∀z,a.H z≠none->b.H z=a.H z/\z∉fB b.v/\z∉b.vs.flatMap fB
 res:=fun _ b=>.a (.val b.v)
 cW:=fun _ b=>[(3,.cA b.H)]
structure A9(a:tJ)(x:rS)(rs:List RecM):Prop where
 out:AJ x.H x.v x.vs rs
 fr:∀z,a.H z≠none->x.H z=a.H z/\z∉fB x.v/\z∉x.vs.flatMap fB
def Xu(a:tJ)(i:Nat):An:=.flat 8 rS (fun s x=>S.cA ((s.set 3 (.a (.val x.v))).int 24 x.j) x.H) (fun _ x=>x.j<=(gl a.L.l i).aR.length/\A9 a x (nD a.L.l i x.j)) (fun _ x=>(gl a.L.l i).aR.length-x.j)
def YS(a:tJ):An:=.mk 5 rS (fun s x=>S.cA ((s.set 3 (.a (.val x.v))).int 15 x.i) x.H) (fun _ x=>x.i<=a.L.l.length/\A9 a x (fW (a.L.l.take x.i))) (fun _ x=>a.L.l.length-x.i) fun x=>.mk 60 [Xu a x.i] []
noncomputable def zv(x:vY)(z:tJ):=AJ x.H x.v x.vs (fW z.L.l)/\∀y:Nat,z.H y≠none->x.H y=z.H y/\¬y∈fB x.v/\¬y∈List.flatMap fB x.vs
def zw(x:tJ):=bU x.H x.y x.L/\bB x.L<1000/\∀z:Nat,z<bB x.L->xg x.L z
def Mf(u:rS)(x:tJ)(s:PH)(w:rS)(t f:Nat)(g:List Value)(z:rS):=oG u.i (dr x.y.lv) (cV x.y.lv) (bT (eo (aO (aL s w.v) t f g=z.H) (fq x.L x.y (dY z.j (oM x.L u.i) (A9 x z (nD x.L.l u.i z.j)) w.j))))
theorem SY:fnBody (Y Tryz.prog) [] 176 N2 fun a=>[(176,[YS a],[])]:=fnBody.of (p :=
 ∀x:tJ,zw x->Exists (eC x.y.lv)/\(∃z:rS,aA z.i (gh=z.v/\jj x.y.lv (bT (eo (x.H=z.H) (fq x.L x.y ((z.i<=bB x.L/\A9 x z (fW (List.take z.i x.L.l)))/\True))))))/\∀z:rS,z.i<=bB x.L/\A9 x z (fW (List.take z.i x.L.l))->oZ z.i x.y.lv 1 (fun w=>z.H w) (fun w=>gA w) (fun w g=>True) (fun w g=>gf (aP g w) 4 (fun t=>z.H t) fun t h=>Exists (eC (aP h t))/\(∃u:rS,aA u.j (z.v=u.v/\jj (aP h t) (cV (aP g w)/\oG z.i (dr x.y.lv) (cV x.y.lv) (bT (eo (z.H=u.H) (fq x.L x.y ((u.j<=oM x.L z.i/\A9 x u (nD x.L.l z.i u.j))/\True)))))))/\∀u:rS,u.j<=oM x.L z.i/\A9 x u (nD x.L.l z.i u.j)->uL u.j (aP h t) (fun s=>u.H s) (fun s o=>ah (js (aP o s))->GX (aP o (s+1)) u.H u.v (js (aP o s)) (fun k p m n q=>aS u.j/\∃f:rS,bx u.j f.j/\eW m n (k+1) p=f.v/\jj (aP h t) (cV (aP g w)/\Mf z x u.H u m n q f)) (fun k=>u.H k) fun k p m n q f c d=>aS u.j/\∃r:rS,bx u.j r.j/\eW f c (n+1) q=r.v/\jj (aP h t) (cV (aP g w)/\Mf z x (aO u.H k p m) u f c d r)) (aS z.i/\∃s:rS,bx z.i s.i/\u.v=s.v/\jj x.y.lv (bT (eo (u.H=s.H) (fq x.L x.y (dY s.i (bB x.L) (A9 x s (fW (List.take s.i x.L.l))) z.i)))))) (∃w:vY,z.v=w.v/\z.H=w.H/\zv w x/\True)) (by kernel_rfl) (by
 delta aD aP av cF kA ah bq ay aC gH aF af bK kz mF dY bD aX aB dO aV eo bS cV AF eC bT oZ bB gA fq xg GX gh jH aS iM oG aA uJ jj ag aY zv CD uL gf bx gR iN zw bu Mf oM ji CH
 try dsimp -iota -proj only
 rintro⟨H,y,L⟩ ⟨hl,h1,h2⟩;dsimp only at *;obtain⟨e1,_,⟨ea,ec,e2⟩,e3,_⟩:=hl.qT;refine⟨⟨ea,_,ec,e2,e3⟩,⟨⟨0,0,H,.slice none 0 0,[]⟩,?_⟩,fun x hx=>?_⟩
 ·have h0:A9 ⟨H,y,L⟩ ⟨0,0,H,.slice none 0 0,[]⟩ (fW (L.l.take 0)):=⟨⟨⟨0,.inl ⟨rfl,rfl,rfl⟩⟩,rfl,fun i hi=>absurd hi (Nat.not_lt_zero i),fun x hx=>by cases hx⟩,fun z _=>⟨rfl,by simp[fB],by simp⟩⟩
  and_intros<;>first|exact dc|exact h0
 ·obtain⟨i,j0,X,v,vs⟩:=x;obtain⟨hi,hI⟩:=hx;dsimp only at hi hI ⊢;rw[e1];refine⟨fun c1=>?_,fun c1=>?_⟩
  ·have hi':i<L.l.length:=by have:=of_decide_eq_true c1;omega
   have hX:bU X y L:=hl.frame fun x hx=>(hI.fr x (hl.dom x hx)).1;obtain⟨b,lo,o,c,cs,g1,g2,g3,g4⟩:=hX.at_ hi';have hs:=hX.seg i hi';obtain⟨c9,hrec⟩:=hs.aR;obtain⟨m1,m2,m3,m4,m5,⟨ma,m7⟩,m6⟩:=e9 hrec;obtain⟨hrl,hbl⟩:=h2 i hi';refine⟨_,_,_,_,g1,by omega,b,lo,o+i*1,cs,by rw[Int.toNat_natCast,Nat.add_assoc],g2,⟨⟨_,g3,rfl⟩,trivial⟩,?_⟩;refine⟨_,_,g4,?_⟩;refine⟨_,_,rfl,?_⟩;refine⟨_,0,_,_,rfl,hs.cell,?_⟩;refine⟨⟨⟨_,rfl,m6⟩,trivial⟩,⟨ma,_,_,m7,by omega⟩,?_⟩;simp only[show(cZ (gl L.l i) (gl y.ys i).bv (gl y.ys i).rv).getD 4 (Value.tuple #[])=(gl y.ys i).rv from rfl,m1];refine⟨⟨⟨i,0,X,v,vs⟩,?_⟩,fun x2 hx2=>?_⟩
   ·have h0:A9 ⟨H,y,L⟩ ⟨i,0,X,v,vs⟩ (nD L.l i 0):=by
     have:nD L.l i 0=fW (L.l.take i):=by simp[nD]
     rw[this];exact⟨hI.out,hI.fr⟩
    and_intros<;>first|exact dc|exact h0
   ·obtain⟨i2,j,X,v,vs⟩:=x2;obtain⟨hj,hJ⟩:=hx2;dsimp only at hj hJ ⊢;have hX:bU X y L:=hl.frame fun x hx=>(hJ.fr x (hl.dom x hx)).1;have hs:=hX.seg i hi';obtain⟨c9,hrec⟩:=hs.aR;have hlen:(nD L.l i j).length<=400400:=by
     have a1:=kM (l:=L.l) (f:=fun g:dy=>g.aR) (m:=400) (fun q hq=>(h2 q hq).1) i (by omega);unfold nD fW;rw[List.length_append,List.length_take];omega
    refine⟨fun c2=>?_,fun c2=>⟨by simp only[bQ];omega,⟨i+1,0,X,v,vs⟩,?_⟩⟩
    ·have hj':j<(gl L.l i).aR.length:=by have:=of_decide_eq_true c2;omega
     obtain⟨b',lo',o',cs',q1,q2,q3,q4,q5,q6,q7,q8⟩:=uK hrec (k:=j) hj';obtain⟨cb,hbody⟩:=hs.body j hj';obtain⟨w1,w2,w3,w4,w5,⟨wa,w7⟩,w6⟩:=e9 hbody;obtain⟨hb1,hb2⟩:=hbl j hj';have hnil:D6 ((gl y.ys i).vs.getD j undef)=false:=by
      rcases hbody with⟨_,h0,_⟩ | ⟨b9,lo9,o9,cs9,h9,_⟩
      ·omega
      ·rw[h9];rfl
     refine⟨_,_,_,_,q1,by omega,b',lo',o'+j*2,cs',by rw[Int.toNat_natCast];congr 1;omega,q2,⟨⟨_,q3,_,rfl,q6⟩,⟨_,q4,q5⟩,trivial⟩,fun _=>?_⟩;rw[q7,q8];refine⟨⟨wa,_,_,w7⟩,fun c4=>absurd c4 (by rw[hnil];decide),fun _=>?_⟩
     repeat refine kR ?_
     refine⟨_,cb,_,hbody,?_⟩;simp only[Nat.zero_add]
     repeat refine kR ?_
     intro cap3 u1 u2 u3
     repeat refine kR ?_
     intro p3 lo3 cs3 hp3 hl3 hr3;obtain⟨r,hr⟩:∃r,r=gl (gl L.l i).aR j:=⟨_,rfl⟩
     rw[<- hr]at hbody hb1 hb2 hr3 u1 u3 ⊢;have hCb:fu (aO X p3 lo3 cs3) (eW p3 lo3 r.body.length cap3) r.body:=by
      refine⟨cap3,mI hl3 u1 u2 hr3 fun q hq j hj=>?_⟩;have hj0:j=0:=by simpa using hj
      subst hj0;simp only[aZ,Nat.not_lt_zero,if_false,Nat.sub_zero]
     obtain⟨c8,hout⟩:=hJ.out.rows;have hx3:∀x,X x≠none->x≠p3:=fun x hx e=>hx (by rw[e];exact hp3);have hout4:jZ (aO X p3 lo3 cs3) v rO (nD L.l i j).length c8 (uE (nD L.l i j) vs):=iL hout fun x hx=>cD (hx3 x (mD hout x hx));refine⟨_,c8,_,hout4,?_⟩
     repeat refine kR ?_
     intro cap4 v1 v2 v3
     repeat refine kR ?_
     intro p4 lo4 cs4 hp4 hl4 hr4;have hvl:vs.length=(nD L.l i j).length:=hJ.out.len;have hr5:jZ (aO (aL (aO X p3 lo3 cs3) v) p4 lo4 cs4) (eW p4 lo4 ((nD L.l i j).length+1) cap4) rO ((nD L.l i j).length+1) cap4 (uE (nD L.l i j++[r]) (vs++[eW p3 lo3 r.body.length cap3])):=by
      refine mI hl4 v1 v2 hr4 fun q hq j' hj2=>?_;simp only[aZ,uE,Nat.zero_add];by_cases hin:q<(nD L.l i j).length
      ·rw[if_pos hin,bJ hin];by_cases hj0:j'=0
       ·rw[if_pos hj0,if_pos hj0]
       ·rw[if_neg hj0,if_neg hj0,List.getD_eq_getElem?_getD,List.getD_eq_getElem?_getD,List.getElem?_append_left (by omega)]
      ·rw[if_neg hin];obtain rfl:q=(nD L.l i j).length:=by omega
       rw[Nat.sub_self];have hj2:j'<2:=hj2
       match j',hj2 with
       |0,_=>rw[if_pos rfl,show(nD L.l i j).length=(nD L.l i j).length+0 from rfl,bf];rfl
       |1,_=>rw[if_neg (by decide),List.getD_eq_getElem?_getD,List.getElem?_append_right (by omega),hvl,Nat.sub_self];rfl
     obtain⟨hO,hF⟩:=hJ.out.push (r:=r) rfl hp3 hCb hp4 hr5;have hN:A9 ⟨H,y,L⟩ ⟨i,j+1,aO (aL (aO X p3 lo3 cs3) v) p4 lo4 cs4,eW p4 lo4 ((nD L.l i j).length+1) cap4,vs++[eW p3 lo3 r.body.length cap3]⟩ (nD L.l i (j+1)):=by
      refine⟨by rw[PI hj',<- hr];exact hO,fun z hz=>?_⟩;obtain⟨a1,a2,a3⟩:=hJ.fr z hz;obtain⟨b1,b2,b3⟩:=hF z (by rw[a1];exact hz) a2 a3;exact⟨b1.trans a1,b2,b3⟩
     refine⟨by simp only[bQ];omega,⟨i,j+1,aO (aL (aO X p3 lo3 cs3) v) p4 lo4 cs4,eW p4 lo4 ((nD L.l i j).length+1) cap4,vs++[eW p3 lo3 r.body.length cap3]⟩,?_⟩
     and_intros<;>first|exact dc|exact hN
    ·have hj':¬j<(gl L.l i).aR.length:=by have:=of_decide_eq_false c2;omega
     have hN:A9 ⟨H,y,L⟩ ⟨i+1,0,X,v,vs⟩ (fW (L.l.take (i+1))):=by
      rw[<- PJ hi' (Nat.le_of_not_lt hj')];exact⟨hJ.out,hJ.fr⟩
     and_intros<;>first|exact dc|exact hN
  ·have hi':i=L.l.length:=by have:=of_decide_eq_false c1;omega
   subst hi';rw[List.take_length]at hI;refine⟨⟨X,v,vs⟩,?_⟩
   and_intros<;>first|exact dc|exact hI.out|exact hI.fr|rfl)
theorem JN:ak (Y Tryz.prog).G.X 176 N2:=aU fF SY trivial
end Go.Proofs.YtfjgoonelcaggaaGreat
namespace Go.Proofs.YtfjgoonelcaggaaGreat.Ix
open Go.Sx
def N3(a b:Int):Int:=dA .xor .u64 a b
def QZ(a:Int):Int:=uw .u64 a
def SZ(x:Int):Int:=QZ (N3 x (x/1073741824)*13787848793156543929)
def S0(x:Int):Int:=QZ (N3 x (x/134217728)*10723151780598845931)
def S1(x:Int):Int:=N3 x (x/2147483648)
def qi(x:Int):Int:=S1 (S0 (SZ x))
noncomputable def AL:cC where
 α:=Int
 β:=Unit
 m:=0
 m':=0
 pre:=fun _=>True
 args:=fun a=>[.a (.int .u64 a)]
 hp:=fun _=>[]
 ro:=fun _=>[]
 post:=fun _ _=>True
 res:=fun a _=>.a (.int .u64 (qi a))
 cW:=fun _ _=>[]
def _root_.S2(x y z u:Int):Int:=mA (cQ (mA x (x/y)*z)) (cQ (mA x (x/y)*z)/u)
def _root_.G8(x y:Int):=True->(0:Int)<=30/\(0:Int)<=27/\(0:Int)<=31/\bL (S2 (cQ (mA x (x/(1073741824:Int))*(13787848793156543929:Int))) 134217728 10723151780598845931 2147483648=y)
theorem CP:fnBody (Y Tryz.prog) [] 120 AL fun _=>[]:=fnBody.of (p :=
 ∀x:Int,G8 x (Ix.qi x)) (by kernel_rfl) (by
 delta S2 bL cQ ax mA G8 bl
 intro a _;exact⟨by decide,by decide,by decide,(),rfl,trivial,trivial⟩)
theorem yc:ak (Y Tryz.prog).G.X 120 AL:=aU fF CP trivial
def lV(h:Int)(b:ByteArray):Nat->Int
 |0=>h
 |i+1=>QZ (qi (N3 (lV h b i) ((b.data.getD i 0).toNat:Int))+1)
def S3(h:Int)(b:ByteArray):Int:=qi (N3 (lV h b b.size) (QZ (256+QZ b.size)))
def fC(g:Nat->ByteArray):Nat->Int
 |0=>11400714819323198485
 |i+1=>S3 (fC g i) (g i)
structure PK where
 g:Nat->ByteArray
 n:Nat
 cap:Nat
noncomputable def uQ:cC where
 α:=PK
 β:=Unit
 m:=1
 m':=1
 pre:=fun a=>a.n<100000/\∀i,i<a.n->(a.g i).size<=aq
 args:=fun a=>[.a (.slc 0 0 1 a.n a.cap)]
 hp:=fun _=>[]
 ro:=fun a=>[(0,.arr 9 [.str] a.n (fun i _=>.string (a.g i)))]
 post:=fun _ _=>True
 res:=fun a _=>.a (.int .u64 (fC a.g a.n))
 cW:=fun _ _=>[]
def Xv(a:PK)(i:Nat):An:=.flat 6 Nat (fun s j=>(s.int 15 j).set 3 (.a (.int .u64 (lV (fC a.g i) (a.g i) j)))) (fun _ j=>j<=(a.g i).size) (fun _ j=>(a.g i).size-j)
def Xw(a:PK):An:=.mk 3 Nat (fun s i=>(s.int 9 i).set 3 (.a (.int .u64 (fC a.g i)))) (fun _ i=>i<=a.n) (fun _ i=>a.n-i) (fun i=>.mk 60 [Xv a i] [])
def _root_.dL(x y:Nat)(z:Prop):=bu x/\bC x y/\z
def _root_.zx(y:ByteArray)(u x z:Nat)(v:Nat->ByteArray)(w:Prop):=bu (bp y)/\y=y/\oG u x (bC x z) (aW (bC x z/\(dN x 1 fun s t=>bH (v s))/\w))
def _root_.zy(x y:Nat)(z:Nat->ByteArray)(u:Prop):=dL x y (aW (bC x y/\(dN x 1 fun v w=>bH (z v))/\u))
theorem zz:fnBody (Y Tryz.prog) [(120,AL)] 66 uQ fun a=>[(66,[Xw a],[])]:=fnBody.of (p :=
 ∀x:Ix.PK,(x.n<100000/\∀s:Nat,s<x.n->bp (x.g s)<=aq)->(∃y:Nat,(11400714819323198485:Int)=Ix.fC x.g y/\aA y (zy x.n x.cap (fun z=>x.g z) (y<=x.n/\True)))/\∀y:Nat,fO y x.n ((∃z:Nat,Ix.fC x.g y=Ix.lV (Ix.fC x.g y) (x.g y) z/\aA z (zx (x.g (0+ay y)) y x.n x.cap (fun t=>x.g t) (z<=bp (x.g y)/\True)))/\∀z:Nat,z<=bp (x.g y)->mz (af z) (bp (x.g (0+ay y))) (∃v:Int,mA (Ix.lV (Ix.fC x.g y) (x.g y) z) (af ((x.g (0+ay y)).data.getD (ay z) (0:UInt8)).toNat)=v/\cS (aS z/\∃u:Nat,cQ (Ix.qi v+(1:Int))=Ix.lV (Ix.fC x.g y) (x.g y) u/\bx z u/\zx (x.g (0+ay y)) y x.n x.cap (fun w=>x.g w) (bF u (bp (x.g y)) z))) (∃v:Int,mA (Ix.lV (Ix.fC x.g y) (x.g y) z) (cQ ((256:Int)+cQ (af (bp (x.g (0+ay y))))))=v/\cS (aS y/\∃u:Nat,Ix.qi v=Ix.fC x.g u/\bx y u/\zy x.n x.cap (fun w=>x.g w) (bF u x.n y)))) (bL (Ix.fC x.g y=Ix.fC x.g x.n))) (by kernel_rfl) (by
 delta aD aK cF ah bW ay aC eO aF af bK aX aB aV dN aI gp bp bC bL bH bF dL zx cQ ax aS oG aA aW ag aY mA bx mz fO bl bu zy dQ cS
 try dsimp -iota -proj only
 intro a h;obtain⟨hn,hs⟩:=h;simp only[Nat.zero_add,Int.toNat_natCast];refine⟨⟨0,by and_intros<;>(first|exact trivial|rfl|omega|assumption|exact aj.refl _ _ _|(simp only[bQ];omega)|(simp;done)|(simp;omega)|grind)⟩,fun i hi=>⟨fun h1=>?_,fun h1=>?_⟩⟩
 ·have hi':i<a.n:=by simpa using h1
  have hsz:=hs i hi';refine⟨by omega,hi',⟨0,by and_intros<;>(first|exact trivial|rfl|omega|assumption|exact aj.refl _ _ _|(simp only[bQ];omega)|(simp;done)|(simp;omega)|grind)⟩,fun j hj=>⟨fun h2=>?_,fun h2=>?_⟩⟩
  ·have hj':j<(a.g i).size:=by simpa using h2
   refine⟨by omega,_,rfl,trivial,fun _ _=>⟨by simp only[bQ,aq]at *;omega,j+1,?_⟩⟩
   and_intros<;>(first|exact trivial|rfl|omega|assumption|exact aj.refl _ _ _|(simp only[bQ];omega)|(simp;done)|(simp;omega)|grind)
  ·have hj' : j = (a.g i).size := by have : ¬ j < (a.g i).size := by simpa using h2
                                     omega
   subst hj';refine⟨_,rfl,trivial,fun _ _=>⟨by simp only[bQ];omega,i+1,?_⟩⟩
   and_intros<;>(first|exact trivial|rfl|omega|assumption|exact aj.refl _ _ _|(simp only[bQ];omega)|(simp;done)|(simp;omega)|grind)
 ·have hi' : i = a.n := by have : ¬ i < a.n := by simpa using h1
                           omega
  subst hi';exact⟨(),rfl,trivial,trivial⟩)
theorem vz:ak (Y Tryz.prog).G.X 66 uQ:=aU fF zz ⟨yc,trivial⟩
structure bk where
 key:ByteArray
 pos:Int
 has:Bool
 gone:Bool
 deriving Inhabited
def CQ(p:bk):List Value:=[.string p.key,.int .i64 p.pos,.bool p.has,.bool p.gone]
def Yp:List CK:=[.str,.int .i64,.bool,.bool]
def G9(key:ByteArray):Int:=fC (fun _=>key) 1
def dB(L:Nat)(key:ByteArray):Nat:=(G9 key).toNat%L
def hit(key:ByteArray)(p:bk):Bool:=p.has&&decide (p.key=key)
def bare(p:bk):Bool:=!p.has&&!p.gone
def fe(t:List bk)(key:ByteArray):Nat->Nat->Int->Int×Int
 |0,_,free=>(-1,free)
 |k+1,i,free=>if hit key (gl t i)then((i:Int),(i:Int))else
  let f:=if !(gl t i).has&&decide (free<0)then(i:Int)else free
  if bare (gl t i)then(-1,f)else fe t key k ((i+1)%t.length) f
def bE(t:List bk)(key:ByteArray):Int×Int:=fe t key t.length (dB t.length key) (-1)
def o4(o a:Nat)(t:List bk)(cap n used:Nat):List (Nat×Chunk):=[(o,.obj 247 [.slc a 0 4 t.length cap,.int .i64 n,.int .i64 used]),(a,.arr 251 Yp t.length (aa CQ t))]
theorem VP{k:IntKind}{n:Int}(h:bQ k n):k.wrap n=n:=by
 cases k<;>simp only[bQ]at h<;>simp[IntKind.wrap,IntKind.bits,IntKind.signed,Int.emod_def]<;>omega
theorem PL(a b:Int):0<=N3 a b/\N3 a b<18446744073709551616:=by
 unfold N3 dA;simp only[Er,uw];omega
theorem Eg(key:ByteArray):0<=G9 key:=(PL _ _).1
theorem qj{L:Nat}(key:ByteArray)(h:1<=L):dB L key<L:=Nat.mod_lt _ h
theorem start_eq{L:Nat}(key:ByteArray)(h:1<=L)(h2:L<100000):uw .i64 (fC (fun _=>key) 1%uw .u64 (L:Int))=(dB L key:Int):=by
 have e1:uw .u64 (L:Int)=L:=by simp only[uw];omega
 have h0:=Eg key;have h3:=qj key h;have e2:G9 key%(L:Int)=(dB L key:Int):=by
  unfold dB;rw[Int.natCast_emod,Int.toNat_of_nonneg h0]
 rw[e1];show uw .i64 (G9 key%(L:Int))=_;rw[e2];exact VP (by simp only[bQ];omega)
theorem VQ{i L:Nat}:((i:Int)+1).tmod (L:Int)=(((i+1)%L:Nat):Int):=by
 rw[Int.tmod_eq_emod_of_nonneg (by omega),Int.natCast_emod];rfl
theorem zA{t:List bk}{key:ByteArray}{i at_:Nat}{free:Int}{r:Int×Int}(hi:i<t.length)(h:fe t key (t.length-i) at_ free=r) :
 (if hit key (gl t at_)then((at_:Int),(at_:Int))else
 if bare (gl t at_)then(-1,if !(gl t at_).has&&decide (free<0)then(at_:Int)else free)else fe t key (t.length-(i+1)) ((at_+1)%t.length) (if !(gl t at_).has&&decide (free<0)then(at_:Int)else free))=r:=by
 rw[<- h,show t.length-i=(t.length-(i+1))+1 by omega];rfl
structure oc where
 t:List bk
 cap:Nat
 n:Nat
 used:Nat
 key:ByteArray
noncomputable def EW:cC where
 α:=oc
 β:=Unit
 m:=2
 m':=2
 pre:=fun a=>1<=a.t.length/\a.t.length<100000/\a.key.size<=aq
 args:=fun a=>[.a (.ptr 0 0 0 0),.a (.str a.key)]
 hp:=fun _=>[]
 ro:=fun a=>o4 0 1 a.t a.cap a.n a.used
 post:=fun _ _=>True
 res:=fun a _=>.mm [.a (.int .i64 (bE a.t a.key).1),.a (.int .i64 (bE a.t a.key).2)]
 cW:=fun _ _=>[]
def YT(a:oc):An:=.flat 4 (Nat×Nat×Int) (fun s x=>((s.int 25 x.1).int 7 x.2.1).set 6 (.a (.int .i64 x.2.2)))
 (fun _ x=>x.1<=a.t.length/\x.2.1<a.t.length/\-1<=x.2.2/\x.2.2<a.t.length/\fe a.t a.key (a.t.length-x.1) x.2.1 x.2.2=bE a.t a.key) (fun _ x=>a.t.length-x.1)
def _root_.He(y:Nat×Nat×Int)(x:Ix.oc):=y.snd.fst<x.t.length/\(-1:Int)<=y.snd.snd/\y.snd.snd<af x.t.length/\Ix.fe x.t x.key (x.t.length-y.fst) y.snd.fst y.snd.snd=Ix.bE x.t x.key
def _root_.de(x:List Ix.bk):Nat->Nat->Value:=aa Ix.CQ x
def _root_.Mg(x:Ix.oc)(y:Prop):=cF (af x.t.length) 0 (aC 0) (ag (x.key=x.key/\bC x.t.length x.cap/\cF (af x.n) (af x.used) (dN x.t.length 4 (de x.t)) y))
def _root_.Hf(y:Int)(x:Ix.oc)(z:Int):Unit->Prop:=ax (y=(Ix.bE x.t x.key).fst/\bl (z=(Ix.bE x.t x.key).snd))
def _root_.jI(x:List Ix.bk)(y:Nat):Ix.bk:=gl x (0+ay y)
def _root_.Mh(x:Ix.oc)(y:Nat×Nat×Int)(u:Int):=qu (bn (Ix.bk.has (jI x.t y.snd.fst))) (bn (Ix.bk.gone (jI x.t y.snd.fst))) (Exists (Hf (-1:Int) x u)) (aS y.snd.fst/\af x.t.length≠(0:Int)/\aS y.fst/\∃z:Nat×Nat×Int,u=z.snd.snd/\(af y.snd.fst+(1:Int)).tmod (af x.t.length)=af z.snd.fst/\bx y.fst z.fst/\Mg x (dY z.fst x.t.length (He z x) y.fst))
def _root_.Hg(x:Ix.PK)(z:ByteArray)(u:Prop):=ir 1 x.n 1 x.cap 1 (aM 1 (bD (bH z))) (fun y v=>bH (x.g y)) (x.n<100000/\∀y:Nat,y<x.n->bp (x.g y)<=aq) (aI u)
theorem S4:fnBody (Y Tryz.prog) [(66,uQ)] 168 EW fun a=>[(168,[YT a],[])]:=fnBody.of (p :=
 ∀y:Ix.oc,iu 1 y.t.length (bp y.key<=aq)->∃z:Ix.PK,Hg z y.key (cQ (af y.t.length)≠(0:Int)/\(∃x:Nat×Nat×Int,(-1:Int)=x.snd.snd/\oI (Ix.fC z.g z.n%cQ (af y.t.length))=af x.snd.fst/\aA x.fst (Mg y ((x.fst<=y.t.length/\He x y)/\True)))/\∀x:Nat×Nat×Int,x.fst<=y.t.length/\He x y->aY (af x.fst) y.t.length (dQ x.snd.fst y.t.length (qu (Ix.bk.has (jI y.t x.snd.fst)) (gP (Ix.bk.key (jI y.t x.snd.fst)) y.key) (Exists (Hf (af x.snd.fst) y (af x.snd.fst))) (qu (bn (Ix.bk.has (jI y.t x.snd.fst))) (aF x.snd.snd 0) (Mh y x (af x.snd.fst)) (Mh y x x.snd.snd)))) (Exists (Hf (-1:Int) y x.snd.snd)))) (by kernel_rfl) (by
 delta qu aD aK cF ah bW ay aC eO aF af dY bD aX aB aV bS dN aI bp bC bH Mh cQ ax aS He ir aA ag aY bx Mg bn bl gP Hg dQ iu de Hf jI oI
 try dsimp -iota -proj only
 intro a h;obtain⟨h1,h2,h3⟩:=h;have hst:=qj a.key h1;refine⟨⟨fun _=>a.key,1,1⟩,?_⟩;simp only[Nat.zero_add,Int.toNat_natCast,start_eq a.key h1 h2,VQ];refine⟨⟨trivial,trivial,trivial⟩,⟨Nat.le_refl _,.dR fun j hj=>?_⟩,⟨by omega,fun _ _=>h3⟩,fun _ _=>⟨by simp only[uw];omega,⟨(0,dB a.t.length a.key,-1),?_⟩,fun x hx=>?_⟩⟩
 ·have:j=0:=by omega
  subst this;rfl
 ·dsimp only
  and_intros<;>(first|exact trivial|rfl|omega|assumption|exact aj.refl _ _ _|(simp only[bQ];omega)|(simp;done)|(simp;omega)|grind)
 ·obtain⟨i,at_,free⟩:=x;obtain⟨i1,i2,i3,i4,i5⟩:=hx;dsimp only at *;have hmod:(at_+1)%a.t.length<a.t.length:=Nat.mod_lt _ h1;have stop:i=a.t.length->bE a.t a.key=(-1,free):=by
   intro e;rw[<- i5,e,Nat.sub_self];rfl
  have step:=fun hi=>zA (i:=i) hi i5;simp only[bQ]
  repeat' (first|intro _|apply And.intro|apply Exists.intro ()|apply Exists.intro ((i+1,(at_+1)%a.t.length,_):Nat×Nat×Int))
  all_goals(try with_reducible rfl)
  all_goals(try exact aj.refl _ _ _)
  all_goals(try dsimp only)
  all_goals(try simp only[decide_eq_true_eq,decide_eq_false_iff_not]at *)
  all_goals(try omega)
  all_goals(try(have h9:=step (by omega);grind [hit,bare]))
  all_goals(try(have h9:=stop (by omega);rw[h9])))
theorem yd:ak (Y Tryz.prog).G.X 168 EW:=aU fF S4 ⟨vz,trivial⟩
structure cH where
 t:List bk
 n:Nat
 used:Nat
def nE(x:cH)(key:ByteArray):Int:=if 0<=(bE x.t key).1 then(gl x.t (bE x.t key).1.toNat).pos else 0
def mh(x:cH)(key:ByteArray)(pos:Int):cH :=
 if 0<=(bE x.t key).1 then { x with t:=x.t.set (bE x.t key).1.toNat { gl x.t (bE x.t key).1.toNat with pos:=pos } }
 else⟨x.t.set (bE x.t key).2.toNat ⟨key,pos,true,false⟩,x.n+1,if(gl x.t (bE x.t key).2.toNat).gone then x.used else x.used+1⟩
theorem od(x:cH)(key:ByteArray)(pos:Int):(mh x key pos).t.length=x.t.length:=by unfold mh;split<;>simp
theorem AM(t:List bk)(key:ByteArray)(h:1<=t.length):∀(k i:Nat) (f:Int),i<t.length->f<t.length->(fe t key k i f).1<t.length/\(fe t key k i f).2<t.length
 |0,i,f,hi,hf=>by simp only[fe];omega
 |k+1,i,f,hi,hf=>by
  have h1:(if !(gl t i).has&&decide (f<0)then(i:Int)else f)<t.length:=by split<;>omega
  unfold fe;by_cases hh:hit key (gl t i)=true
  ·rw[if_pos hh];exact⟨by simp only;omega,by simp only;omega⟩
  ·rw[if_neg hh];dsimp only;by_cases hb:bare (gl t i)=true
   ·rw[if_pos hb];exact⟨by simp only;omega,h1⟩
   ·rw[if_neg hb];exact AM t key h k _ _ (Nat.mod_lt _ h) h1
theorem uR{t:List bk}(key:ByteArray)(h:1<=t.length):(bE t key).1<t.length/\(bE t key).2<t.length :=
 AM t key h _ _ _ (qj key h) (by omega)
structure mg where
 x:cH
 cap:Nat
 key:ByteArray
 pos:Int
noncomputable def S5:cC where
 α:=mg
 β:=Unit
 m:=2
 m':=2
 pre:=fun a=>1<=a.x.t.length/\a.x.t.length<100000/\a.key.size<=aq/\2*a.x.used<a.x.t.length/\a.x.n<100000/\((bE a.x.t a.key).1<0->0<=(bE a.x.t a.key).2)
 args:=fun a=>[.a (.ptr 0 0 0 0),.a (.str a.key),.a (.int .i64 a.pos)]
 hp:=fun a=>o4 0 1 a.x.t a.cap a.x.n a.x.used
 ro:=fun _=>[]
 post:=fun _ _=>True
 res:=fun a _=>.a (.int .i64 (nE a.x a.key))
 cW:=fun a _=>o4 0 1 (mh a.x a.key a.pos).t a.cap (mh a.x a.key a.pos).n (mh a.x a.key a.pos).used
noncomputable def S6:cC where
 α:=Unit
 β:=Unit
 m:=1
 m':=1
 pre:=fun _=>False
 args:=fun _=>[.a (.ptr 0 0 0 0)]
 hp:=fun _=>[]
 ro:=fun _=>[]
 post:=fun _ _=>True
 res:=fun _ _=>.a .any
 cW:=fun _ _=>[]
theorem PM(f:Nat):ak (Y Tryz.prog).G.X f S6:=aU fF (je:=[]) (l:=fun _=>[]) ⟨fun a h=>False.elim h⟩ trivial
def _root_.bG(x:Ix.cH):Nat:=x.t.length
def _root_.nF(x:Int)(y:Nat)(z:Prop):=eO x y (0+aV x) z
def _root_.xm(z:ByteArray)(x:Ix.oc)(y:Ix.cH)(u:Nat)(v:Bool)(w:Prop)(s:Int)(f:Prop):=ag (z=x.key/\ag (bG y=x.t.length/\u=x.cap)/\bA y.n x.n/\bA y.used x.used/\aK x.t.length (bG y) 4 (de y.t) (de x.t)/\iu 1 x.t.length (bp x.key<=aq)/\aI (aD v w (nF s (bG y) f)))
def _root_.ri(x:Ix.oc):Nat:=0+aV (Ix.bE x.t x.key).fst
def _root_.N4(z:Ix.mg)(x:Ix.oc)(y:Ix.cH)(u:Nat)(v w s:Prop):=xm z.key x y u (cM 0 (Ix.bE x.t x.key).fst) (nF (Ix.bE x.t x.key).fst (bG y) (ah (gl y.t (ri x)).pos->nF (Ix.bE x.t x.key).fst (bG y) v)) (Ix.bE x.t x.key).snd (aD (bn (gl y.t (0+aV (Ix.bE x.t x.key).snd)).gone) (ah (af y.used)->aS y.used/\nF (Ix.bE x.t x.key).snd (bG y) (ah (af y.n)->aS y.n/\w)) (nF (Ix.bE x.t x.key).snd (bG y) (ah (af y.n)->aS y.n/\s)))
def _root_.mK(y:Nat)(x:Ix.cH)(z u:Nat)(v w:Int)(s:Nat->Nat->Value)(f:Prop):=ag (y=bG x/\z=u)/\v=af x.n/\w=af x.used/\aK (bG x) y 4 s (de x.t)/\f/\True
def _root_.dZ(x:ByteArray)(y:Int)(z:List Value):List Value:=bS (bH x) (bq y z)
def _root_.EX(u:Ix.cH)(x:Ix.mg)(y v:Ix.cH)(w s:Nat)(f:Int)(z:Ix.oc):=(0:Int)=Ix.nE u x.key/\mK (bG y) v w s (af y.n+(1:Int)) f (jY (de y.t) (0+aV (Ix.bE z.t z.key).snd) 0 (dZ x.key x.pos (bS (dK true) (bD gd)))) True
def _root_.N5(x:Ix.cH)(y:Ix.oc)(u:Ix.cH)(z:Ix.mg)(v:Ix.cH)(w s:Nat):=(gl x.t (ri y)).pos=Ix.nE u z.key/\mK (bG x) v w s (af x.n) (af x.used) (jY (de x.t) (ri y) 1 (bq z.pos [])) True
def _root_.Mi(y:Ix.mg):=∃z:Ix.oc,N4 y z y.x y.cap (Exists (ax (N5 y.x z y.x y (Ix.mh y.x y.key y.pos) y.cap y.cap))) (Exists (ax (EX y.x y y.x (Ix.mh y.x y.key y.pos) y.cap y.cap (af y.x.used+(1:Int)) z))) (Exists (ax (EX y.x y y.x (Ix.mh y.x y.key y.pos) y.cap y.cap (af y.x.used) z)))
def _root_.zB(x:Ix.cH)(z:Nat)(y:ByteArray):=2*x.used<z/\x.n<100000/\((Ix.bE x.t y).fst<(0:Int)->(0:Int)<=(Ix.bE x.t y).snd)
theorem S7:fnBody (Y Tryz.prog) [(168,EW),(167,S6)] 123 S5 fun _=>[]:=fnBody.of (p :=
 ∀y:Ix.mg,iu 1 (bG y.x) (bp y.key<=aq/\zB y.x (bG y.x) y.key)->ah (af y.x.used)->mG ((2:Int)*af y.x.used) (af (bG y.x)) (Exists (ax (ag (False/\aI (Mi y))))) (Mi y)) (by kernel_rfl) (by
 delta aD aK ah bq eO bG af bD aX aB dO aV bS N4 EX aI bp N5 bH mK xm ax aS cM gd ag Mi mG zB nF bn dZ bA ri dK iu de
 try dsimp -iota -proj only
 intro a h;obtain⟨h1,h2,h3,h4,h5,h6⟩:=h;obtain⟨l1,l2⟩:=uR a.key h1;have hl:=od a.x a.key a.pos;have yes:0<=(bE a.x.t a.key).1->mh a.x a.key a.pos={ a.x with t:=a.x.t.set (bE a.x.t a.key).1.toNat { gl a.x.t (bE a.x.t a.key).1.toNat with pos:=a.pos } }:=fun e=>if_pos e;have no:¬0<=(bE a.x.t a.key).1->mh a.x a.key a.pos=⟨a.x.t.set (bE a.x.t a.key).2.toNat ⟨a.key,a.pos,true,false⟩,a.x.n+1,if(gl a.x.t (bE a.x.t a.key).2.toNat).gone then a.x.used else a.x.used+1⟩:=fun e=>if_neg e;simp only[Nat.zero_add,bQ];refine fun _=>⟨by omega,fun e=>absurd e (by simp;omega),fun _=>⟨⟨a.x.t,a.cap,a.x.n,a.x.used,a.key⟩,?_⟩⟩
 dsimp only
 repeat' (first|intro _|apply And.intro|apply Exists.intro ())
 all_goals(try with_reducible rfl)
 all_goals(try simp only[decide_eq_true_eq,decide_eq_false_iff_not,Bool.not_eq_true',Bool.not_eq_false']at *)
 all_goals(try exact trivial)
 all_goals(try omega)
 all_goals(try(grind [nE]))
 all_goals(try(with_reducible exact aj.refl _ _ _))
 all_goals(first|(rw[yes (by assumption)];refine .set _ (by omega) (fun i hi=>by simp only[gO hi]) ?_;simp only[iX];rfl)|(rw[no (by assumption)];refine .set _ (by omega) (fun i hi=>by simp only[gO hi]) ?_;simp only[iX];rfl)))
theorem S8:ak (Y Tryz.prog).G.X 123 S5:=aU fF S7 ⟨yd,PM _,trivial⟩
def dU(t:List bk)(y:cH):Nat->cH
 |0=>y
 |i+1=>if(gl t i).has then mh (dU t y i) (gl t i).key (gl t i).pos else dU t y i
def bI(n:Nat):cH:=⟨List.replicate n ⟨.empty,0,false,false⟩,0,0⟩
theorem lD(t:List bk)(y:cH):∀i,(dU t y i).t.length=y.t.length
 |0=>rfl
 |i+1=>by
  unfold dU;split
  ·rw[od,lD t y i]
  ·exact lD t y i
theorem sY{α:Type}[Inhabited α]{n i:Nat}{x:α}(h:i<n):gl (List.replicate n x) i=x:=by
 rw[bR (by simpa using h)];simp
def lE(x:cH):cH:=dU x.t (bI (max 16 (4*x.n))) x.t.length
structure AN where
 x:cH
 cap:Nat
noncomputable def S9:cC where
 α:=AN
 β:=Nat
 m:=2
 m':=3
 pre:=fun a=>1<=a.x.t.length/\a.x.t.length<100000/\a.x.n<10000/\(∀i,i<a.x.t.length->(gl a.x.t i).key.size<=aq) /\
  ∀i,i<a.x.t.length->(gl a.x.t i).has=true->2*(dU a.x.t (bI (max 16 (4*a.x.n))) i).used<max 16 (4*a.x.n)/\(dU a.x.t (bI (max 16 (4*a.x.n))) i).n<100000 /\
   ((bE (dU a.x.t (bI (max 16 (4*a.x.n))) i).t (gl a.x.t i).key).1<0->0<=(bE (dU a.x.t (bI (max 16 (4*a.x.n))) i).t (gl a.x.t i).key).2)
 args:=fun a=>[.a (.ptr 0 0 0 0)]
 hp:=fun a=>[(0,.obj 247 [.slc 1 0 4 a.x.t.length a.cap,.int .i64 a.x.n,.int .i64 a.x.used])]
 ro:=fun a=>[(1,.arr 251 Yp a.x.t.length (aa CQ a.x.t))]
 post:=fun _ _=>True
 res:=fun _ _=>.mm []
 cW:=fun a cap=>o4 0 2 (lE a.x).t cap (lE a.x).n (lE a.x).used
def YU(a:AN):An:=.flat 3 (Nat×Nat) (fun s x=>(((s.at_ (s.tg 0) (.obj 247 [.slc (s.pK (s.tg 0) 0) 0 4 (max 16 (4*a.x.n)) x.2,.int .i64 (dU a.x.t (bI (max 16 (4*a.x.n))) x.1).n,.int .i64 (dU a.x.t (bI (max 16 (4*a.x.n))) x.1).used])).at_ (s.pK (s.tg 0) 0) (.arr 251 Yp (max 16 (4*a.x.n)) (aa CQ (dU a.x.t (bI (max 16 (4*a.x.n))) x.1).t))).int 21 x.1))
 (fun _ x=>x.1<=a.x.t.length) (fun _ x=>a.x.t.length-x.1)
def _root_.mL(y:Ix.AN)(z:Nat):Ix.cH:=Ix.dU y.x.t (Ix.bI (max 16 (4*y.x.n))) z
def _root_.Hh(y:Ix.AN):=iu 1 (bG y.x) (y.x.n<10000/\(∀z:Nat,z<bG y.x->bp (gl y.x.t z).key<=aq)/\∀z:Nat,z<bG y.x->aB (gl y.x.t z).has->zB (mL y z) (max 16 (4*y.x.n)) (gl y.x.t z).key)
def _root_.Mj(v:Nat×Nat)(y:Ix.AN)(w:Nat×Nat->Prop)(u:Ix.cH)(s:Nat):=iq v fun z=>sJ (bG y.x) y.cap (ag (w z/\bA u.n (Ix.cH.n (mL y z.fst))/\bA u.used (Ix.cH.used (mL y z.fst))/\dN (bG y.x) 4 (de y.x.t)/\aK (max 16 (4*y.x.n)) s 4 (de u.t) (de (Ix.cH.t (mL y z.fst)))/\bF z.fst (bG y.x) v.fst))
def _root_.zC(y x:Ix.cH)(z:Nat)(u v:Prop):=bA y.n x.n/\bA y.used x.used/\aK (bG x) z 4 (de y.t) (de x.t)/\u/\v
def _root_.zD(y:Ix.AN):Int:=oW true 16 ((4:Int)*af y.x.n)
def _root_.Hi:Nat->Nat->Value:=fun(y x:Nat)=>aP (dZ cR 0 (bS gd (bD gd))) x
theorem Ta:fnBody (Y Tryz.prog) [(123,S5)] 167 S9 fun a=>[(167,[YU a],[])]:=fnBody.of (p :=
 ∀y:Ix.AN,Hh y->ah (af y.x.n)->ah ((4:Int)*af y.x.n)/\lQ (zD y) ((32:Int)*zD y) ((∃z:Nat×Nat,aA z.fst (sJ (bG y.x) y.cap (ag (ag (aV (zD y)=max 16 (4*y.x.n)/\aV (zD y)=z.snd)/\aA (Ix.cH.n (mL y z.fst)) (aA (Ix.cH.used (mL y z.fst)) (dN (bG y.x) 4 (de y.x.t)/\aK (max 16 (4*y.x.n)) (aV (zD y)) 4 Hi (de (Ix.cH.t (mL y z.fst)))/\z.fst<=bG y.x/\True))))))/\∀z:Nat×Nat,fO z.fst (bG y.x) (aD (Ix.bk.has (jI y.x.t z.fst)) (ah (Ix.bk.pos (jI y.x.t z.fst))->∃u:Ix.mg,ag (Ix.bk.key (jI y.x.t z.fst)=u.key/\Ix.bk.pos (jI y.x.t z.fst)=u.pos/\ag (max 16 (4*y.x.n)=bG u.x/\z.snd=u.cap)/\zC (mL y z.fst) u.x (max 16 (4*y.x.n)) (iu 1 (bG u.x) (bp u.key<=aq/\zB u.x (bG u.x) u.key)) (aI (Mj z y (fun w=>ag (bG (Ix.mh u.x u.key u.pos)=max 16 (4*y.x.n)/\u.cap=w.snd)) (Ix.mh u.x u.key u.pos) (bG (Ix.mh u.x u.key u.pos)))))) (Mj z y (fun v=>bW (max 16 (4*y.x.n)) (z.snd=v.snd)) (mL y z.fst) (max 16 (4*y.x.n)))) (∃v:Nat,mK (max 16 (4*y.x.n)) (Ix.lE y.x) z.snd v (af (Ix.cH.n (mL y z.fst))) (af (Ix.cH.used (mL y z.fst))) (de (Ix.cH.t (mL y z.fst))) True))) (by kernel_rfl) (by
 delta aD aP aK ah bq bW ay aC eO oW aF bG af cR bD aX aB dO aV ur bS dN aI gp bp bC bH bF mL iq mK lQ aS aA gd Hh ag aY Mj zC bx zB fO bu dZ zD bA dQ dK iu de sJ Hi jI
 try dsimp -iota -proj only
 intro a h;obtain⟨h1,h2,h3,h4,h5⟩:=h;obtain⟨M,hM⟩:∃M,M=max 16 (4*a.x.n):=⟨_,rfl⟩
 have hMi:(max 16 (4*(a.x.n:Int)):Int)=(M:Int):=by omega
 simp only[cond_true,<- hM]at h5 ⊢;simp only[hMi,Nat.zero_add,Int.toNat_natCast];have hlen:∀i,(dU a.x.t (bI M) i).t.length=M:=fun i=>by rw[lD];simp[bI]
 have hg:lE a.x=dU a.x.t (bI M) a.x.t.length:=by unfold lE;rw[<- hM]
 rw[hg,hlen];refine fun _=>⟨by simp only[bQ];omega,by omega,by omega,by omega,⟨(0,M),?_⟩,fun x hx=>?_⟩
 ·dsimp only
  and_intros<;>first|exact aj.refl _ _ _|skip
  all_goals first|exact trivial|rfl|omega|skip
  refine .dR fun i hi=>?_;unfold aa;rw[show gl (dU a.x.t (bI M) 0).t i=⟨.empty,0,false,false⟩from sY hi];rfl
 ·obtain⟨i,cap⟩:=x;have hx':i<=a.x.t.length:=hx;have h6:=h5 i;have sy:(gl a.x.t i).has=true->dU a.x.t (bI M) (i+1)=mh (dU a.x.t (bI M) i) (gl a.x.t i).key (gl a.x.t i).pos:=fun e=>if_pos e;have sn:(gl a.x.t i).has=false->dU a.x.t (bI M) (i+1)=dU a.x.t (bI M) i:=fun e=>if_neg (by rw[e];decide);have se:¬i<a.x.t.length->dU a.x.t (bI M) a.x.t.length=dU a.x.t (bI M) i:=fun e=>by rw[show a.x.t.length=i by omega]
  dsimp only at *
  repeat' (first|intro _|apply And.intro|apply Exists.intro (mg.mk (dU a.x.t (bI M) i) cap _ _)|apply Exists.intro ((i+1,cap):Nat×Nat)|apply Exists.intro (cap:Nat))
  all_goals(try with_reducible rfl)
  all_goals(try with_reducible exact aj.refl _ _ _)
  all_goals(try dsimp only)
  all_goals(try simp only[decide_eq_true_eq,decide_eq_false_iff_not,Bool.not_eq_true',Bool.not_eq_false',bQ]at *)
  all_goals(try simp only[hlen,od])
  all_goals(try exact trivial)
  all_goals(try omega)
  all_goals first
   |exact h4 i (by omega)
   |exact(h6 (by omega) (by assumption)).1
   |exact(h6 (by omega) (by assumption)).2.1
   |exact(h6 (by omega) (by assumption)).2.2 (by assumption)
   |(rw[sy (by assumption)];done)
   |(rw[sy (by assumption)];exact aj.refl _ _ _)
   |(rw[sn (by assumption)];done)
   |(rw[sn (by assumption)];exact aj.refl _ _ _)
   |(rw[se (by omega)];done)
   |(rw[se (by omega)];exact aj.refl _ _ _))
theorem Tb:ak (Y Tryz.prog).G.X 167 S9:=aU fF Ta ⟨S8,trivial⟩
def mM(p:bk):ByteArray×Int:=(p.key,p.pos)
def eu(t:List bk):List (ByteArray×Int):=(t.filter (·.has)).map mM
def busy(p:bk):Bool:=!bare p
structure Inv(x:cH):Prop where
 lo:16<=x.t.length
 hi:x.t.length<=40000
 n:x.n=(eu x.t).length
 used:x.used=x.t.countP busy
 half:2*x.used<x.t.length+2
 size:∀i,i<x.t.length->(gl x.t i).key.size<=aq
 Tc:∀i j,i<x.t.length->j<x.t.length->(gl x.t i).has=true->(gl x.t j).has=true->(gl x.t i).key=(gl x.t j).key->i=j
 path:∀i,i<x.t.length->(gl x.t i).has=true->∃d,d<x.t.length/\(dB x.t.length (gl x.t i).key+d)%x.t.length=i/\∀k,k<d->bare (gl x.t ((dB x.t.length (gl x.t i).key+k)%x.t.length))=false
theorem JO{s d L:Nat}:((s+d)%L+1)%L=(s+(d+1))%L:=by rw[Nat.mod_add_mod,Nat.add_assoc]
theorem vA{key:ByteArray}{p:bk}:hit key p=true↔p.has=true/\p.key=key:=by simp[hit]
theorem CR{t:List bk}{key:ByteArray}{i0 d0:Nat}(hL:1<=t.length)(hi:i0<t.length)(hh:hit key (gl t i0)=true)(hd:d0<t.length)
 (hp:(dB t.length key+d0)%t.length=i0) (hb:∀k,k<d0->bare (gl t ((dB t.length key+k)%t.length))=false)
 (hu:∀j,j<t.length->hit key (gl t j)=true->j=i0):∀(m d:Nat) (f:Int),d+m=d0->fe t key (t.length-d) ((dB t.length key+d)%t.length) f=((i0:Int),(i0:Int))
 |0,d,f,hm=>by
  have:d=d0:=by omega
  subst this;rw[hp,show t.length-d=(t.length-d-1)+1 by omega];simp only[fe,hh,if_true]
 |m+1,d,f,hm=>by
  have hlt:(dB t.length key+d)%t.length<t.length:=Nat.mod_lt _ hL;rw[show t.length-d=(t.length-(d+1))+1 by omega];by_cases h:hit key (gl t ((dB t.length key+d)%t.length))=true
  ·have:=hu _ hlt h;rw[this]at h ⊢;simp only[fe,h,if_true]
  ·simp only[fe,h,if_false,hb d (by omega),Bool.false_eq_true];rw[JO];exact CR hL hi hh hd hp hb hu m (d+1) _ (by omega)
theorem EY{t:List bk}{key:ByteArray}(hL:1<=t.length)(hu:∀j,j<t.length->hit key (gl t j)=false):∀(k i:Nat) (f:Int),i<t.length->0<=f->fe t key k i f=(-1,f)
 |0,i,f,hi,hf=>rfl
 |k+1,i,f,hi,hf=>by
  have h1:(!(gl t i).has&&decide (f<0))=false:=by simp;omega
  simp only[fe,hu i hi,Bool.false_eq_true,if_false,h1];split
  ·rfl
  ·exact EY hL hu k _ f (Nat.mod_lt _ hL) hf
theorem EZ{t:List bk}{key:ByteArray}{d0:Nat}(hL:1<=t.length)(hd:d0<t.length)(hu:∀j,j<t.length->hit key (gl t j)=false)
 (hf:(gl t ((dB t.length key+d0)%t.length)).has=false) (hb:∀k,k<d0->(gl t ((dB t.length key+k)%t.length)).has=true) :
 ∀(m d:Nat),d+m=d0->fe t key (t.length-d) ((dB t.length key+d)%t.length) (-1)=(-1,(((dB t.length key+d0)%t.length:Nat):Int))
 |0,d,hm=>by
  have:d=d0:=by omega
  subst this;have hlt:(dB t.length key+d)%t.length<t.length:=Nat.mod_lt _ hL;rw[show t.length-d=(t.length-d-1)+1 by omega];have h1:(!(gl t ((dB t.length key+d)%t.length)).has&&decide ((-1:Int)<0))=true:=by simp[hf]
  simp only[fe,hu _ hlt,Bool.false_eq_true,if_false,h1,if_true];split
  ·rfl
  ·exact EY hL hu _ _ _ (Nat.mod_lt _ hL) (by omega)
 |m+1,d,hm=>by
  have hlt:(dB t.length key+d)%t.length<t.length:=Nat.mod_lt _ hL;rw[show t.length-d=(t.length-(d+1))+1 by omega];have h0:=hb d (by omega);have h1:(!(gl t ((dB t.length key+d)%t.length)).has&&decide ((-1:Int)<0))=false:=by simp[h0]
  have h2:bare (gl t ((dB t.length key+d)%t.length))=false:=by simp[bare,h0]
  simp only[fe,hu _ hlt,Bool.false_eq_true,if_false,h1,h2];rw[JO];exact EZ hL hd hu hf hb m (d+1) (by omega)
theorem E0{L:Nat}{key:ByteArray}(hL:1<=L):(dB L key+0)%L=dB L key:=by
 rw[Nat.add_zero,Nat.mod_eq_of_lt (qj key hL)]
theorem AO{x:cH}(h:Inv x){i:Nat}(hi:i<x.t.length)(hh:(gl x.t i).has=true):bE x.t (gl x.t i).key=((i:Int),(i:Int)):=by
 obtain⟨d,h1,h2,h3⟩:=h.path i hi hh;have hL:1<=x.t.length:=by have:=h.lo;omega
 have:=CR (key:=(gl x.t i).key) hL hi (vA.2 ⟨hh,rfl⟩) h1 h2 h3 (fun j hj hj2=>h.Tc j i hj hi (vA.1 hj2).1 hh (vA.1 hj2).2) d 0 (-1) (by omega);rwa[E0 hL,Nat.sub_zero]at this
theorem road{L s i:Nat}(hs:s<L)(hi:i<L):∃d,d<L/\(s+d)%L=i:=by
 by_cases h:s<=i
 ·exact⟨i-s,by omega,by rw[show s+(i-s)=i by omega];exact Nat.mod_eq_of_lt hi⟩
 ·refine⟨L+i-s,by omega,?_⟩;rw[show s+(L+i-s)=i+L by omega,Nat.add_mod_right];exact Nat.mod_eq_of_lt hi
theorem E3:∀(t:List bk),t.countP busy<t.length->∃i,i<t.length/\(gl t i).has=false
 |[],h=>absurd h (Nat.not_lt_zero _)
 |p::r,h=>by
  cases hp:p.has with
  |false=>exact⟨0,by simp,hp⟩
  |true =>
   have hb:busy p=true:=by simp[busy,bare,hp]
   rw[List.countP_cons_of_pos hb]at h;obtain⟨i,h1,h2⟩:=E3 r (by simpa using h);exact⟨i+1,by simp;omega,h2⟩
theorem first{p:Nat->Bool}:∀d,p d=true->∃d0,d0<=d/\p d0=true/\∀k,k<d0->p k=false:=by
 intro d
 induction d using Nat.strongRecOn with
 |ind d ih =>
  intro h;by_cases hx:∃k,k<d/\p k=true
  ·obtain⟨k,hk,hp⟩:=hx;obtain⟨d0,a,b,c⟩:=ih k hk hp;exact⟨d0,by omega,b,c⟩
  ·refine⟨d,Nat.le_refl _,h,fun k hk=>?_⟩;cases hp:p k with
   |false=>rfl
   |true=>exact absurd ⟨k,hk,hp⟩ hx
def Mk(t:List bk)(key:ByteArray):Prop:=∀j,j<t.length->hit key (gl t j)=false
theorem CS{t:List bk}{key:ByteArray}(hL:1<=t.length)(hu:Mk t key)(hr:t.countP busy<t.length) :
 ∃d i,d<t.length/\(dB t.length key+d)%t.length=i/\i<t.length/\(gl t i).has=false/\(∀k,k<d->(gl t ((dB t.length key+k)%t.length)).has=true)/\bE t key=(-1,(i:Int)):=by
 obtain⟨i,h1,h2⟩:=E3 t hr;obtain⟨d,h3,h4⟩:=road (qj key hL) h1;obtain⟨d0,g1,g2,g3⟩:=first (p:=fun d=>!(gl t ((dB t.length key+d)%t.length)).has) d (by simp[h4,h2])
 simp only[Bool.not_eq_true',Bool.not_eq_false']at g2 g3;have:=EZ hL (show d0<t.length by omega) hu g2 g3 d0 0 (by omega);rw[E0 hL,Nat.sub_zero]at this;exact⟨d0,_,by omega,rfl,Nat.mod_lt _ hL,g2,g3,this⟩
theorem JP{t:List bk}{i:Nat}(h:i<t.length):t=t.take i++gl t i::t.drop (i+1):=by
 rw[bR h,List.getElem_cons_drop,List.take_append_drop]
theorem E4{t:List bk}{i:Nat}{q:bk}(h:i<t.length):t.set i q=t.take i++q::t.drop (i+1):=by
 rw[List.set_eq_take_append_cons_drop,if_pos h]
theorem ye(a b:List bk):eu (a++b)=eu a++eu b:=by simp[eu]
theorem pN(p:bk)(r:List bk):eu (p::r)=(if p.has then[mM p]else[])++eu r:=by
 unfold eu;rw[List.filter_cons];split<;>simp
theorem yf{t:List bk}{i:Nat}(h:i<t.length):eu t=eu (t.take i)++((if(gl t i).has then[mM (gl t i)]else[])++eu (t.drop (i+1))):=by
 conv=>lhs;rw[JP h]
 rw[ye,pN]
theorem CT{t:List bk}{i:Nat}{q:bk}(h:i<t.length):eu (t.set i q)=eu (t.take i)++((if q.has then[mM q]else[])++eu (t.drop (i+1))):=by
 rw[E4 h,ye,pN]
theorem Ml{t:List bk}{i:Nat}(h:i<t.length):t.countP busy=(t.take i).countP busy+((t.drop (i+1)).countP busy+if busy (gl t i)then 1 else 0):=by
 conv=>lhs;rw[JP h]
 rw[List.countP_append,List.countP_cons]
theorem Hj{t:List bk}{i:Nat}{q:bk}(h:i<t.length):(t.set i q).countP busy=(t.take i).countP busy+((t.drop (i+1)).countP busy+if busy q then 1 else 0):=by
 rw[E4 h,List.countP_append,List.countP_cons]
theorem yg{t:List bk}{k:ByteArray}{p:Int}:(k,p)∈eu t↔∃i,i<t.length/\(gl t i).has=true/\(gl t i).key=k/\(gl t i).pos=p:=by
 unfold eu;simp only[List.mem_map,List.mem_filter,mM,Prod.mk.injEq];constructor
 ·rintro⟨q,⟨h1,h2⟩,h3,h4⟩;obtain⟨i,hi,rfl⟩:=List.getElem_of_mem h1;exact⟨i,hi,by rw[bR hi];exact h2,by rw[bR hi];exact h3,by rw[bR hi];exact h4⟩
 ·rintro⟨i,h1,h2,h3,h4⟩;exact⟨_,⟨Gi h1,h2⟩,h3,h4⟩
theorem Mm{t:List bk}{k:ByteArray}:Mk t k↔k∉(eu t).map Prod.fst:=by
 constructor
 ·intro h hm;obtain⟨⟨k',p⟩,h1,rfl⟩:=List.mem_map.1 hm;obtain⟨i,h2,h3,h4,_⟩:=yg.1 h1;have:=h i h2;rw[vA.2 ⟨h3,h4⟩]at this;cases this
 ·intro h j hj;cases hh:hit k (gl t j)with
  |false=>rfl
  |true =>
   obtain⟨h1,h2⟩:=vA.1 hh;exact absurd (List.mem_map.2 ⟨(k,(gl t j).pos),yg.2 ⟨j,hj,h1,h2,rfl⟩,rfl⟩) h
structure Has(x:cH)(l:List (ByteArray×Int)):Prop where
 inv:Inv x
 perm:(eu x.t).Perm l
theorem Has.yh{x:cH}{l m:List (ByteArray×Int)}(h:Has x l)(p:l.Perm m):Has x m:=⟨h.inv,h.perm.trans p⟩
theorem Has.n{x:cH}{l:List (ByteArray×Int)}(h:Has x l):x.n=l.length:=by rw[h.inv.n,h.perm.length_eq]
theorem Has.mem{x:cH}{l:List (ByteArray×Int)}(h:Has x l){k:ByteArray}{p:Int}(hm:(k,p)∈l):∃i:Nat,i<x.t.length/\(gl x.t i).has=true/\(gl x.t i).key=k/\(gl x.t i).pos=p/\bE x.t k=((i:Int),(i:Int)):=by
 obtain⟨i,h1,h2,h3,h4⟩:=yg.1 (h.perm.mem_iff.2 hm);refine⟨i,h1,h2,h3,h4,?_⟩;rw[<- h3];exact AO h.inv h1 h2
theorem Has.none{x:cH}{l:List (ByteArray×Int)}(h:Has x l){k:ByteArray}(hm:k∉l.map Prod.fst):Mk x.t k:=Mm.2 fun hk=>hm ((h.perm.map _).mem_iff.1 hk)
theorem Inv.room{x:cH}(h:Inv x):x.t.countP busy<x.t.length:=by have:=h.half;have:=h.used;have:=h.lo;omega
theorem Has.rT{x:cH}{l:List (ByteArray×Int)}(h:Has x l){k:ByteArray}(hm:k∉l.map Prod.fst):(bE x.t k).1 = -1/\0<=(bE x.t k).2:=by
 obtain⟨d,i,_,_,_,_,_,e⟩:=CS (by have:=h.inv.lo;omega) (h.none hm) h.inv.room;rw[e];exact⟨rfl,by simp⟩
theorem Inv.set{x:cH}(h:Inv x){i:Nat}(hi:i<x.t.length){q:bk}(hb:bare q=false)(hs:q.key.size<=aq)
 (hd:q.has=true->∀j,j<x.t.length->j≠i->(gl x.t j).has=true->(gl x.t j).key≠q.key)
 (hp:q.has=true->∃d,d<x.t.length/\(dB x.t.length q.key+d)%x.t.length=i/\∀k,k<d->bare (gl x.t ((dB x.t.length q.key+k)%x.t.length))=false)
 {n' u':Nat} (hn:n'=(eu (x.t.set i q)).length) (hu:u'=(x.t.set i q).countP busy) (hh:2*u'<x.t.length+2):Inv ⟨x.t.set i q,n',u'⟩:=by
 have hl:(x.t.set i q).length=x.t.length:=by simp
 have key:∀j,gl (x.t.set i q) j=if i=j then q else gl x.t j:=by
  intro j;by_cases e:i=j
  ·subst e;rw[if_pos rfl,uo hi]
  ·rw[if_neg e,yW e]
 have bb:∀j,bare (gl x.t j)=false->bare (gl (x.t.set i q) j)=false:=by
  intro j hj;rw[key];split
  ·exact hb
  ·exact hj
 refine⟨by rw[hl];exact h.lo,by rw[hl];exact h.hi,hn,hu,by rw[hl];exact hh,fun j hj=>?_,fun a b ha hb' h1 h2 h3=>?_,fun j hj hj2=>?_⟩
 ·rw[hl]at hj;rw[key];split
  ·exact hs
  ·exact h.size j hj
 ·simp only[hl]at ha hb';simp only[key]at h1 h2 h3;by_cases e1:i=a
  ·by_cases e2:i=b
   ·omega
   ·rw[if_pos e1]at h1 h3;rw[if_neg e2]at h2 h3;exact absurd h3.symm (hd h1 b hb' (fun e=>e2 e.symm) h2)
  ·by_cases e2:i=b
   ·rw[if_neg e1]at h1 h3;rw[if_pos e2]at h2 h3;exact absurd h3 (hd h2 a ha (fun e=>e1 e.symm) h1)
   ·rw[if_neg e1]at h1 h3;rw[if_neg e2]at h2 h3;exact h.Tc a b ha hb' h1 h2 h3
 ·simp only[hl]at hj ⊢;simp only[key]at hj2;by_cases e:i=j
  ·rw[if_pos e]at hj2;subst e;obtain⟨d,h1,h2,h3⟩:=hp hj2;rw[show gl (x.t.set i q) i=q by rw[key,if_pos rfl]];exact⟨d,h1,h2,fun k hk=>bb _ (h3 k hk)⟩
  ·rw[if_neg e]at hj2;obtain⟨d,h1,h2,h3⟩:=h.path j hj hj2;rw[show gl (x.t.set i q) j=gl x.t j by rw[key,if_neg e]];exact⟨d,h1,h2,fun k hk=>bb _ (h3 k hk)⟩
theorem CU{p:bk}(h:p.has=true):busy p=true:=by simp[busy,bare,h]
theorem PN{x:cH}{l:List (ByteArray×Int)}{k:ByteArray}{p q:Int}(h:Has x ((k,q)::l)):Has (mh x k p) ((k,p)::l)/\nE x k=q/\0<=(bE x.t k).1:=by
 obtain⟨i,h1,h2,h3,h4,h5⟩:=h.mem List.mem_cons_self;have e:mh x k p=⟨x.t.set i { gl x.t i with pos:=p },x.n,x.used⟩:=by
  unfold mh;rw[h5];simp
 have hk:(eu x.t).Perm ((k,q)::(eu (x.t.take i)++eu (x.t.drop (i+1)))):=by
  rw[yf h1,h2];have:mM (gl x.t i)=(k,q):=by simp[mM,h3,h4]
  rw[if_pos rfl,this];exact List.perm_middle
 have hk':(eu (x.t.set i { gl x.t i with pos:=p })).Perm ((k,p)::(eu (x.t.take i)++eu (x.t.drop (i+1)))):=by
  rw[CT h1];simp only[h2,if_true,mM,h3];exact List.perm_middle
 have hl:(eu (x.t.take i)++eu (x.t.drop (i+1))).Perm l:=(List.perm_cons _).1 (hk.symm.trans h.perm);refine⟨⟨?_,?_⟩,by unfold nE;rw[h5];simp[h4],by rw[h5];simp⟩
 ·rw[e];refine h.inv.set (q:={ gl x.t i with pos:=p }) h1 (by simp[bare,h2]) (h.inv.size i h1) (fun _ j hj hne hj2 he=>hne (h.inv.Tc j i hj h1 hj2 h2 he)) (fun _=>h.inv.path i h1 h2) ?_ ?_ h.inv.half
  ·rw[h.inv.n,hk.length_eq,hk'.length_eq];rfl
  ·rw[h.inv.used,Ml h1,Hj h1,CU h2,CU (p:={ gl x.t i with pos:=p }) h2]
 ·rw[e];exact hk'.trans (hl.cons _)
theorem N6{x:cH}{l:List (ByteArray×Int)}{k:ByteArray}{p:Int}(h:Has x l)(hk:k∉l.map Prod.fst)(hs:k.size<=aq)(hr:2*x.used<x.t.length) :
 Has (mh x k p) ((k,p)::l)/\nE x k=0/\(bE x.t k).1<0/\0<=(bE x.t k).2/\(mh x k p).used<=x.used+1/\(mh x k p).n=x.n+1:=by
 obtain⟨d,i,h1,h2,h3,h4,h5,h6⟩:=CS (by have:=h.inv.lo;omega) (h.none hk) h.inv.room;have e:mh x k p=⟨x.t.set i ⟨k,p,true,false⟩,x.n+1,if(gl x.t i).gone then x.used else x.used+1⟩:=by
  unfold mh;rw[h6];simp
 have hp0:eu x.t=eu (x.t.take i)++eu (x.t.drop (i+1)):=by rw[yf h3,h4];simp
 have hp1:(eu (x.t.set i ⟨k,p,true,false⟩)).Perm ((k,p)::eu x.t):=by
  rw[CT h3,hp0];simp only[if_true,mM];exact List.perm_middle
 have hb:busy (gl x.t i)=(gl x.t i).gone:=by simp[busy,bare,h4]
 refine⟨⟨?_,?_⟩,by unfold nE;rw[h6];simp,by rw[h6];simp,by rw[h6];simp,by rw[e];simp only;split<;>omega,by rw[e]⟩
 ·rw[e];refine h.inv.set (q:=⟨k,p,true,false⟩) h3 rfl hs (fun _ j hj hne hj2 he=>?_) (fun _=>⟨d,h1,h2,fun k hk=>by simp[bare,h5 k hk]⟩) ?_ ?_ (by split<;>omega)
  ·have:=h.none hk j hj;rw[vA.2 ⟨hj2,he⟩]at this;cases this
  ·rw[hp1.length_eq,List.length_cons,h.inv.n]
  ·rw[Hj h3,h.inv.used,Ml h3,hb];cases hg:(gl x.t i).gone<;>simp[busy,bare]<;>omega
 ·rw[e];exact hp1.trans (h.perm.cons _)
def vZ:bk:=⟨.empty,0,false,true⟩
def kH(x:cH)(k:ByteArray):cH:=if 0<=(bE x.t k).1 then⟨x.t.set (bE x.t k).1.toNat vZ,x.n-1,x.used⟩else x
theorem CW{x:cH}{l:List (ByteArray×Int)}{k:ByteArray}{q:Int}(h:Has x ((k,q)::l)):Has (kH x k) l/\0<=(bE x.t k).1:=by
 obtain⟨i,h1,h2,h3,h4,h5⟩:=h.mem List.mem_cons_self;have e:kH x k=⟨x.t.set i vZ,x.n-1,x.used⟩:=by unfold kH;rw[h5];simp
 have hk:(eu x.t).Perm ((k,q)::(eu (x.t.take i)++eu (x.t.drop (i+1)))):=by
  rw[yf h1,h2];have:mM (gl x.t i)=(k,q):=by simp[mM,h3,h4]
  rw[if_pos rfl,this];exact List.perm_middle
 have hk':eu (x.t.set i vZ)=eu (x.t.take i)++eu (x.t.drop (i+1)):=by rw[CT h1];rfl
 have hl:(eu (x.t.take i)++eu (x.t.drop (i+1))).Perm l:=(List.perm_cons _).1 (hk.symm.trans h.perm);refine⟨⟨?_,?_⟩,by rw[h5];simp⟩
 ·rw[e];refine h.inv.set (q:=vZ) h1 rfl (by unfold aq;decide) (fun hc=>by cases hc) (fun hc=>by cases hc) ?_ ?_ h.inv.half
  ·rw[h.inv.n,hk.length_eq,hk'];rfl
  ·rw[h.inv.used,Ml h1,Hj h1,CU h2];rfl
 ·rw[e,hk'];exact hl
theorem PO{x:cH}{l:List (ByteArray×Int)}{k:ByteArray}(h:Has x l)(hk:k∉l.map Prod.fst):kH x k=x:=by
 unfold kH;rw[(h.rT hk).1];rfl
def low(p:Int)(q:bk):Bool:=q.has&&decide (q.pos<p)
def ew(t:List bk)(p:Int):Nat->List bk
 |0=>t
 |i+1=>if low p (gl t i)then(ew t p i).set i vZ else ew t p i
def ee(t:List bk)(p:Int):Nat->Nat
 |0=>0
 |i+1=>ee t p i+if low p (gl t i)then 1 else 0
def uS(x:cH)(p:Int):cH:=⟨ew x.t p x.t.length,x.n-ee x.t p x.t.length,x.used⟩
theorem iO(t:List bk)(p:Int):∀i,(ew t p i).length=t.length
 |0=>rfl
 |i+1=>by unfold ew;split<;>simp[iO t p i]
theorem zF(t:List bk)(p:Int):∀i,i<=t.length->∀j,gl (ew t p i) j=if j<i/\low p (gl t j)then vZ else gl t j
 |0,_,j=>by simp[ew]
 |i+1,hi,j=>by
  have ih:=zF t p i (by omega) j;unfold ew;by_cases h:low p (gl t i)=true
  ·rw[if_pos h];by_cases hj:i=j
   ·subst hj;rw[uo (by rw[iO];omega),if_pos ⟨by omega,h⟩]
   ·rw[yW hj,ih]
    grind
  ·rw[if_neg h,ih];by_cases hj:i=j
   ·subst hj;rw[if_neg (by simp),if_neg (fun hc=>h hc.2)]
   ·grind
theorem AP{x:cH}{l:List (ByteArray×Int)}(h:Has x l)(p:Int):∀i,i<=x.t.length ->
 Has ⟨ew x.t p i,x.n-ee x.t p i,x.used⟩ (((x.t.take i).filter fun q=>q.has&&!low p q).map mM++eu (x.t.drop i))/\ee x.t p i=((x.t.take i).filter (low p)).length
 |0,_=>⟨⟨h.inv,by simp[ew]⟩,rfl⟩
 |i+1,hi=>by
  obtain⟨⟨i1,i2⟩,i3⟩:=AP h p i (by omega);have hT:=zF x.t p i (by omega) i;rw[if_neg (by simp)]at hT;have hLen:=iO x.t p i;rw[gv (by omega),List.filter_append,List.filter_append,List.map_append,List.length_append,<- i3];have hdrop:eu (x.t.drop i)=(if(gl x.t i).has then[mM (gl x.t i)]else[])++eu (x.t.drop (i+1)):=by
   rw[<- pN,bR (by omega),List.getElem_cons_drop]
  rw[hdrop]at i2;by_cases hl:low p (gl x.t i)=true
  ·have hh:(gl x.t i).has=true:=by simp[low]at hl;exact hl.1
   have e1:ew x.t p (i+1)=(ew x.t p i).set i vZ:=if_pos hl;have e2:ee x.t p (i+1)=ee x.t p i+1:=by show ee x.t p i+(if low p (gl x.t i)=true then 1 else 0)=_;rw[if_pos hl]
   have h0:Has ⟨ew x.t p i,x.n-ee x.t p i,x.used⟩ ((mM (gl x.t i))::(((x.t.take i).filter fun q=>q.has&&!low p q).map mM++eu (x.t.drop (i+1)))):=by
    refine⟨i1,i2.trans ?_⟩;rw[if_pos hh];exact List.perm_middle
   have h1:=CW (x:=⟨ew x.t p i,x.n-ee x.t p i,x.used⟩) h0;have hf:=AO i1 (i:=i) (by simp only;omega) (by simp only;rw[hT];exact hh);simp only at hf;rw[hT]at hf;have e3:kH ⟨ew x.t p i,x.n-ee x.t p i,x.used⟩ (gl x.t i).key=⟨(ew x.t p i).set i vZ,x.n-(ee x.t p i+1),x.used⟩:=by
    unfold kH;simp only;rw[hf];simp;omega
   refine⟨?_,by rw[e2];simp[hl]⟩;rw[e1,e2,<- e3];simp only[List.filter_cons,hl,hh,Bool.not_true,Bool.and_false,List.filter_nil,List.map_nil,List.append_nil,Bool.false_eq_true,if_false];exact h1.1
  ·have e1:ew x.t p (i+1)=ew x.t p i:=if_neg hl;have e2:ee x.t p (i+1)=ee x.t p i:=by show ee x.t p i+(if low p (gl x.t i)=true then 1 else 0)=_;rw[if_neg hl];rfl
   refine⟨⟨?_,?_⟩,by rw[e2];simp[hl]⟩
   ·rw[e1,e2];exact i1
   ·rw[e1];refine i2.trans (.of_eq ?_);cases hh:(gl x.t i).has<;>simp[hl,hh]
theorem E5{α:Type}(f:α->Bool):∀l:List α,l.length=(l.filter f).length+(l.filter fun e=>!f e).length
 |[]=>rfl
 |a::r=>by
  have:=E5 f r;cases h:f a<;>simp[List.filter_cons,h]<;>omega
theorem PR{x:cH}{l:List (ByteArray×Int)}(h:Has x l)(p:Int):Has (uS x p) (l.filter fun e=>decide (p<=e.2))/\ee x.t p x.t.length=l.length-(l.filter fun e=>decide (p<=e.2)).length/\ee x.t p x.t.length<=l.length:=by
 obtain⟨h1,h2⟩:=AP h p x.t.length (Nat.le_refl _);rw[List.take_length]at h1 h2;rw[List.drop_length]at h1;have e:((x.t.filter fun q=>q.has&&!low p q).map mM++eu [])=(eu x.t).filter fun e=>decide (p<=e.2):=by
  unfold eu;rw[List.filter_map,List.filter_filter];simp only[List.filter_nil,List.map_nil,List.append_nil];congr 1;apply List.filter_congr;intro q _;simp only[Function.comp,low,mM];by_cases hc:q.pos<p
  ·have hd:¬p<=q.pos:=by omega
   cases hq:q.has<;>simp[hc,hd]
  ·have hd:p<=q.pos:=by omega
   cases hq:q.has<;>simp[hc,hd]
 rw[e]at h1;have hp:=(h.perm.filter fun e=>decide (p<=e.2))
 have e2:(x.t.filter (low p)).length=((eu x.t).filter fun e=>!decide (p<=e.2)).length:=by
  unfold eu;rw[List.filter_map,List.length_map,List.filter_filter];congr 1;apply List.filter_congr;intro q _;simp only[Function.comp,low,mM];by_cases hc:q.pos<p
  ·have hd:¬p<=q.pos:=by omega
   cases hq:q.has<;>simp[hc,hd]
  ·have hd:p<=q.pos:=by omega
   cases hq:q.has<;>simp[hc,hd]
 have e3:=E5 (fun e:ByteArray×Int=>decide (p<=e.2)) (eu x.t);refine⟨h1.yh hp,?_,?_⟩
 ·rw[h2,e2,<- hp.length_eq,<- h.perm.length_eq];omega
 ·rw[h2,e2,<- h.perm.length_eq];omega
theorem vC{n:Nat}(h1:16<=n)(h2:n<=40000):Has (bI n) []:=by
 have key:∀i,i<n->gl (List.replicate n (⟨.empty,0,false,false⟩:bk)) i=⟨.empty,0,false,false⟩:=fun i hi=>sY hi;have he:eu (List.replicate n (⟨.empty,0,false,false⟩:bk))=[]:=by simp[eu]
 refine⟨⟨by simpa[bI]using h1,by simpa[bI]using h2,?_,?_,by simp only[bI,List.length_replicate];omega,fun i hi=>?_,fun i j hi hj h=>?_,fun i hi h=>?_⟩,by simp only[bI];rw[he]⟩
 ·simp only[bI];rw[he];rfl
 ·simp[bI,List.countP_replicate,busy,bare]
 ·simp only[bI,List.length_replicate]at hi ⊢;rw[key i hi];simp only[aq];decide
 ·simp only[bI,List.length_replicate]at hi h;rw[key i hi]at h;cases h
 ·simp only[bI,List.length_replicate]at hi h;rw[key i hi]at h;cases h
theorem CX{x:cH}(h:Inv x){i:Nat}(hi:i<x.t.length)(hh:(gl x.t i).has=true):(gl x.t i).key∉(eu (x.t.take i)).map Prod.fst:=by
 intro hm;obtain⟨⟨k,p⟩,h1,h2⟩:=List.mem_map.1 hm;obtain⟨j,h3,h4,h5,_⟩:=yg.1 h1;rw[List.length_take]at h3;rw[NN (by omega)]at h4 h5;have:=h.Tc j i (by omega) hi h4 hh (h5.trans h2);omega
theorem grow_step{x:cH}(h:Inv x)(hn:x.n<10000):∀i,i<=x.t.length ->
 Has (dU x.t (bI (max 16 (4*x.n))) i) (eu (x.t.take i))/\(dU x.t (bI (max 16 (4*x.n))) i).used<=(dU x.t (bI (max 16 (4*x.n))) i).n
 |0,_=>⟨by simpa[dU,eu]using vC (n:=max 16 (4*x.n)) (by omega) (by omega),Nat.le_refl _⟩
 |i+1,hi=>by
  obtain⟨h1,h2⟩:=grow_step h hn i (by omega);have hT:=gv (l:=x.t) (i:=i) (by omega);rw[hT,ye];unfold dU;by_cases hh:(gl x.t i).has=true
  ·rw[if_pos hh];have hcount:(eu (x.t.take i)).length+1<=x.n:=by
    rw[h.n,yf (show i<x.t.length by omega),if_pos hh];simp
   have hlen:(dU x.t (bI (max 16 (4*x.n))) i).t.length=max 16 (4*x.n):=by rw[lD];simp[bI]
   obtain⟨g1,g2,g3,g4,g5,g6⟩:=N6 (p:=(gl x.t i).pos) h1 (CX h (by omega) hh) (h.size i (by omega)) (by rw[hlen];have:=h1.n;omega);refine⟨g1.yh ?_,by omega⟩;rw[pN,if_pos hh];simp only[eu,List.filter_nil,List.map_nil,List.append_nil];exact(List.perm_append_singleton _ _).symm
  ·rw[if_neg hh,pN,if_neg hh];simp only[eu,List.filter_nil,List.map_nil,List.append_nil];exact⟨h1,h2⟩
theorem Td{x:cH}(h:Inv x)(hn:x.n<10000):∀i,i<x.t.length->(gl x.t i).has=true->2*(dU x.t (bI (max 16 (4*x.n))) i).used<max 16 (4*x.n)/\(dU x.t (bI (max 16 (4*x.n))) i).n<100000 /\
 ((bE (dU x.t (bI (max 16 (4*x.n))) i).t (gl x.t i).key).1<0->0<=(bE (dU x.t (bI (max 16 (4*x.n))) i).t (gl x.t i).key).2):=by
 intro i hi hh;obtain⟨h1,h2⟩:=grow_step h hn i (by omega);have hcount:(eu (x.t.take i)).length+1<=x.n:=by
  rw[h.n,yf hi,if_pos hh];simp
 have:=h1.n;exact⟨by omega,by omega,fun _=>(h1.rT (CX h hi hh)).2⟩
theorem Te{x:cH}{l:List (ByteArray×Int)}(h:Has x l)(hn:x.n<10000):Has (lE x) l/\2*(lE x).used<(lE x).t.length:=by
 obtain⟨h1,h2⟩:=grow_step h.inv hn x.t.length (Nat.le_refl _);rw[List.take_length]at h1;refine⟨h1.yh h.perm,?_⟩;have hlen:(lE x).t.length=max 16 (4*x.n):=by unfold lE;rw[lD];simp[bI]
 have e1:=h1.n;have e2:=h.inv.n;rw[hlen];unfold lE;omega
def roomy(x:cH):cH:=if x.t.length<=2*x.used then lE x else x
def tQ(x:cH)(k:ByteArray)(p:Int):cH:=mh (roomy x) k p
theorem zG{x:cH}{l:List (ByteArray×Int)}(h:Has x l)(hn:x.n<10000):Has (roomy x) l/\2*(roomy x).used<(roomy x).t.length:=by
 unfold roomy;split
 ·exact Te h hn
 ·exact⟨h,by omega⟩
theorem Mn{x:cH}{l:List (ByteArray×Int)}{k:ByteArray}{p q:Int}(h:Has x ((k,q)::l))(hn:x.n<10000):Has (tQ x k p) ((k,p)::l)/\nE (roomy x) k=q :=
 let h1:=zG h hn
 let h2:=PN (p:=p) h1.1
 ⟨h2.1,h2.2.1⟩
theorem Tf{x:cH}{l:List (ByteArray×Int)}{k:ByteArray}{p:Int}(h:Has x l)(hn:x.n<10000)(hk:k∉l.map Prod.fst)(hs:k.size<=aq):Has (tQ x k p) ((k,p)::l)/\nE (roomy x) k=0 :=
 let h1:=zG h hn
 let h2:=N6 (p:=p) h1.1 hk hs h1.2
 ⟨h2.1,h2.2.1⟩
theorem Has.free{x:cH}{l:List (ByteArray×Int)}(h:Has x l)(k:ByteArray)(hf:(bE x.t k).1<0):0<=(bE x.t k).2:=by
 by_cases hk:k∈l.map Prod.fst
 ·obtain⟨⟨k',p⟩,h1,rfl⟩:=List.mem_map.1 hk;obtain⟨i,_,_,_,_,e⟩:=h.mem h1;rw[e]at hf;simp at hf;omega
 ·exact(h.rT hk).2
def xo(x:cH)(k:ByteArray):Int×Bool:=if 0<=(bE x.t k).1 then((gl x.t (bE x.t k).1.toNat).pos,true)else(0,false)
theorem E6{x:cH}{l:List (ByteArray×Int)}(h:Has x l){k:ByteArray}{p:Int}(hm:(k,p)∈l):xo x k=(p,true):=by
 obtain⟨i,_,_,_,h4,e⟩:=h.mem hm;unfold xo;rw[e];simp[h4]
theorem get_none{x:cH}{l:List (ByteArray×Int)}(h:Has x l){k:ByteArray}(hm:k∉l.map Prod.fst):xo x k=(0,false):=by
 unfold xo;rw[(h.rT hm).1];rfl
noncomputable def Ci:cC where
 α:=mg
 β:=Nat
 m:=2
 m':=3
 pre:=fun a=>Inv a.x/\a.x.n<9999/\a.key.size<=aq
 args:=fun a=>[.a (.ptr 0 0 0 0),.a (.str a.key),.a (.int .i64 a.pos)]
 hp:=fun a=>o4 0 1 a.x.t a.cap a.x.n a.x.used
 ro:=fun _=>[]
 post:=fun _ _=>True
 res:=fun a _=>.a (.int .i64 (nE (roomy a.x) a.key))
 cW:=fun a cap=>o4 0 2 (tQ a.x a.key a.pos).t cap (tQ a.x a.key a.pos).n (tQ a.x a.key a.pos).used
def _root_.Mo(y:Ix.mg)(z:Ix.cH)(v:Nat):Ix.oc->Prop:=fun(w:Ix.oc)=>N4 y w z v (∃u:Nat,N5 z w (Ix.roomy y.x) y (Ix.tQ y.x y.key y.pos) v u) (∃u:Nat,EX (Ix.roomy y.x) y z (Ix.tQ y.x y.key y.pos) v u (af z.used+(1:Int)) w) (∃u:Nat,EX (Ix.roomy y.x) y z (Ix.tQ y.x y.key y.pos) v u (af z.used) w)
def _root_.zH(y:Ix.mg):=Ix.Inv y.x/\y.x.n<9999/\bp y.key<=aq
theorem Gm:fnBody (Y Tryz.prog) [(168,EW),(167,S9)] 123 Ci fun _=>[]:=fnBody.of (p :=
 ∀y:Ix.mg,zH y->ah (af y.x.used)->mG ((2:Int)*af y.x.used) (af (bG y.x)) (∃z:Ix.AN,ag (ag (bG y.x=bG z.x/\y.cap=z.cap)/\zC y.x z.x (bG y.x) (Hh z) (∀u:Nat,True->Exists (Mo y (Ix.lE z.x) u)))) (Exists (Mo y y.x y.cap))) (by kernel_rfl) (by
 delta aD aK ah bq eO bG af bD aX aB dO aV bS N4 EX aI bp N5 bH mL mK xm aS cM gd Hh ag Mo zC mG zB nF bn dZ bA ri dK iu de zH
 try dsimp -iota -proj only
 intro a h;obtain⟨h1,h2,h3⟩:=h;obtain⟨g1,g2⟩:=zG (Has.mk h1 (List.Perm.refl _)) (show a.x.n<10000 by omega);have k1:=h1.lo;have k2:=h1.hi;have k3:=h1.half;simp only[Nat.zero_add,bQ];refine fun _=>⟨by omega,fun hc=>?_,fun hc=>?_⟩
 ·have hr:roomy a.x=lE a.x:=if_pos (by simp at hc;omega);have hpx:tQ a.x a.key a.pos=mh (lE a.x) a.key a.pos:=by unfold tQ;rw[hr]
  have hn:(lE a.x).n=a.x.n:=by rw[hr]at g1;rw[g1.n,h1.n]
  have hm:=Td h1 (show a.x.n<10000 by omega);simp only[hr,hpx]at g1 g2 ⊢;refine⟨⟨a.x,a.cap⟩,?_⟩;dsimp only
  and_intros<;>first|exact trivial|rfl|omega|exact aj.refl _ _ _|exact h1.size|exact hm|skip
  refine fun cap _=>⟨⟨(lE a.x).t,cap,(lE a.x).n,(lE a.x).used,a.key⟩,?_⟩
  generalize lE a.x=y at *;have m1:=g1.inv.lo;have m2:=g1.inv.hi;have m3:=g1.inv.half;obtain⟨l1,l2⟩:=uR (t:=y.t) a.key (by omega);have l3:=g1.free a.key;have hl:=od y a.key a.pos;have yes:0<=(bE y.t a.key).1->mh y a.key a.pos={ y with t:=y.t.set (bE y.t a.key).1.toNat { gl y.t (bE y.t a.key).1.toNat with pos:=a.pos } }:=fun e=>if_pos e;have no:¬0<=(bE y.t a.key).1->mh y a.key a.pos=⟨y.t.set (bE y.t a.key).2.toNat ⟨a.key,a.pos,true,false⟩,y.n+1,if(gl y.t (bE y.t a.key).2.toNat).gone then y.used else y.used+1⟩:=fun e=>if_neg e;dsimp only
  repeat' (first|intro _|apply And.intro|apply Exists.intro (cap:Nat))
  all_goals(try with_reducible rfl)
  all_goals(try simp only[decide_eq_true_eq,decide_eq_false_iff_not,Bool.not_eq_true',Bool.not_eq_false']at *)
  all_goals(try exact trivial)
  all_goals(try omega)
  all_goals(try(grind [nE]))
  all_goals(try(with_reducible exact aj.refl _ _ _))
  all_goals(first|(rw[yes (by assumption)];refine .set _ (by omega) (fun i hi=>by simp only[gO hi]) ?_;simp only[iX];rfl)|(rw[no (by assumption)];refine .set _ (by omega) (fun i hi=>by simp only[gO hi]) ?_;simp only[iX];rfl))
 ·have hr:roomy a.x=a.x:=if_neg (by simp at hc;omega);have hpx:tQ a.x a.key a.pos=mh a.x a.key a.pos:=by unfold tQ;rw[hr]
  simp only[hr,hpx]at g1 g2 ⊢;refine⟨⟨a.x.t,a.cap,a.x.n,a.x.used,a.key⟩,?_⟩;have hn:a.x.n=a.x.n:=rfl;obtain⟨cap,hcap⟩:∃cap,cap=a.cap:=⟨_,rfl⟩
  rw[<- hcap];generalize hy:a.x=y at *;have m1:=g1.inv.lo;have m2:=g1.inv.hi;have m3:=g1.inv.half;obtain⟨l1,l2⟩:=uR (t:=y.t) a.key (by omega);have l3:=g1.free a.key;have hl:=od y a.key a.pos;have yes:0<=(bE y.t a.key).1->mh y a.key a.pos={ y with t:=y.t.set (bE y.t a.key).1.toNat { gl y.t (bE y.t a.key).1.toNat with pos:=a.pos } }:=fun e=>if_pos e;have no:¬0<=(bE y.t a.key).1->mh y a.key a.pos=⟨y.t.set (bE y.t a.key).2.toNat ⟨a.key,a.pos,true,false⟩,y.n+1,if(gl y.t (bE y.t a.key).2.toNat).gone then y.used else y.used+1⟩:=fun e=>if_neg e;dsimp only
  repeat' (first|intro _|apply And.intro|apply Exists.intro (cap:Nat))
  all_goals(try with_reducible rfl)
  all_goals(try simp only[decide_eq_true_eq,decide_eq_false_iff_not,Bool.not_eq_true',Bool.not_eq_false']at *)
  all_goals(try exact trivial)
  all_goals(try omega)
  all_goals(try(grind [nE]))
  all_goals(try(with_reducible exact aj.refl _ _ _))
  all_goals(first|(rw[yes (by assumption)];refine .set _ (by omega) (fun i hi=>by simp only[gO hi]) ?_;simp only[iX];rfl)|(rw[no (by assumption)];refine .set _ (by omega) (fun i hi=>by simp only[gO hi]) ?_;simp only[iX];rfl)))
structure tR where
 x:cH
 cap:Nat
 key:ByteArray
noncomputable def Jn:cC where
 α:=tR
 β:=Unit
 m:=2
 m':=2
 pre:=fun a=>Inv a.x/\a.key.size<=aq
 args:=fun a=>[.a (.ptr 0 0 0 0),.a (.str a.key)]
 hp:=fun _=>[]
 ro:=fun a=>o4 0 1 a.x.t a.cap a.x.n a.x.used
 post:=fun _ _=>True
 res:=fun a _=>.mm [.a (.int .i64 (xo a.x a.key).1),.a (.bool (xo a.x a.key).2)]
 cW:=fun _ _=>[]
theorem Gn:fnBody (Y Tryz.prog) [(168,EW)] 212 Jn fun _=>[]:=fnBody.of (p :=
 ∀y:Ix.tR,Ix.Inv y.x/\bp y.key<=aq->∃z:Ix.oc,xm y.key z y.x y.cap (aF (Ix.bE z.t z.key).fst 0) (Exists (ax ((0:Int)=(Ix.xo y.x y.key).fst/\fR (Ix.xo y.x y.key).snd True True))) (Ix.bE z.t z.key).fst (ah (gl y.x.t (ri z)).pos->Exists (ax ((gl y.x.t (ri z)).pos=(Ix.xo y.x y.key).fst/\bl (true=(Ix.xo y.x y.key).snd))))) (by kernel_rfl) (by
 delta aD aK ah eO aF bG af aX aB aV fR aI bp xm ax ag nF bl bA ri iu de
 try dsimp -iota -proj only
 intro a h;obtain⟨h1,h2⟩:=h;have k1:=h1.lo;have k2:=h1.hi;obtain⟨l1,l2⟩:=uR (t:=a.x.t) a.key (by omega);refine⟨⟨a.x.t,a.cap,a.x.n,a.x.used,a.key⟩,?_⟩;simp only[Nat.zero_add,bQ]
 repeat' (first|intro _|apply And.intro|apply Exists.intro ())
 all_goals(try with_reducible rfl)
 all_goals(try simp only[decide_eq_true_eq,decide_eq_false_iff_not]at *)
 all_goals(try exact trivial)
 all_goals(try omega)
 all_goals(try(with_reducible exact aj.refl _ _ _))
 all_goals(try(grind [xo])))
noncomputable def N7:cC where
 α:=tR
 β:=Unit
 m:=2
 m':=2
 pre:=fun a=>Inv a.x/\a.x.n<10000/\a.key.size<=aq/\(0<=(bE a.x.t a.key).1->1<=a.x.n)
 args:=fun a=>[.a (.ptr 0 0 0 0),.a (.str a.key)]
 hp:=fun a=>o4 0 1 a.x.t a.cap a.x.n a.x.used
 ro:=fun _=>[]
 post:=fun _ _=>True
 res:=fun a _=>.a (.bool (decide (0<=(bE a.x.t a.key).1)))
 cW:=fun a _=>o4 0 1 (kH a.x a.key).t a.cap (kH a.x a.key).n (kH a.x a.key).used
def _root_.zI(y:Ix.tR):=Ix.Inv y.x/\y.x.n<10000/\bp y.key<=aq/\((0:Int)<=(Ix.bE y.x.t y.key).fst->1<=y.x.n)
theorem Tg:fnBody (Y Tryz.prog) [(168,EW)] 180 N7 fun _=>[]:=fnBody.of (p :=
 ∀y:Ix.tR,zI y->∃z:Ix.oc,xm y.key z y.x y.cap (aF (Ix.bE z.t z.key).fst 0) (Exists (ax (fR (cM 0 (Ix.bE y.x.t y.key).fst) (ag (bG y.x=bG (Ix.kH y.x y.key)/\y.cap=y.cap)) (zC y.x (Ix.kH y.x y.key) (bG y.x) True True)))) (Ix.bE z.t z.key).fst (oL (af y.x.n) 1 (Exists (ax (true=cM 0 (Ix.bE y.x.t y.key).fst/\mK (bG y.x) (Ix.kH y.x y.key) y.cap y.cap (dW y.x.n) (af y.x.used) (jY (de y.x.t) (ri z) 0 (dZ cR 0 (bS gd (bD (dK true))))) True))))) (by kernel_rfl) (by
 delta aD aK ah bq eO aF bG af cR bD aX aB dO aV fR bS aI bp bH mK xm ax cM gd ag zC zI nF dZ bA oL ri dK dW iu de
 try dsimp -iota -proj only
 intro a h;obtain⟨h1,h2,h3,h4⟩:=h;have k1:=h1.lo;have k2:=h1.hi;obtain⟨l1,l2⟩:=uR (t:=a.x.t) a.key (by omega);have yes:0<=(bE a.x.t a.key).1->kH a.x a.key=⟨a.x.t.set (bE a.x.t a.key).1.toNat vZ,a.x.n-1,a.x.used⟩:=fun e=>if_pos e;have no:¬0<=(bE a.x.t a.key).1->kH a.x a.key=a.x:=fun e=>if_neg e;refine⟨⟨a.x.t,a.cap,a.x.n,a.x.used,a.key⟩,?_⟩;simp only[Nat.zero_add,bQ]
 repeat' (first|intro _|apply And.intro|apply Exists.intro ())
 all_goals(try with_reducible rfl)
 all_goals(try simp only[decide_eq_true_eq,decide_eq_false_iff_not]at *)
 all_goals(try exact trivial)
 all_goals(try omega)
 all_goals(try(with_reducible exact aj.refl _ _ _))
 all_goals(try(grind))
 all_goals(first|(rw[yes (by omega)];refine .set _ (by omega) (fun i hi=>by simp only[gO hi]) ?_;simp only[iX];rfl)|(rw[no (by omega)];exact aj.refl _ _ _)|skip))
structure JQ where
 x:cH
 cap:Nat
 pos:Int
noncomputable def Mp:cC where
 α:=JQ
 β:=Unit
 m:=2
 m':=2
 pre:=fun a=>Inv a.x/\a.x.n<10000/\ee a.x.t a.pos a.x.t.length<=a.x.n
 args:=fun a=>[.a (.ptr 0 0 0 0),.a (.int .i64 a.pos)]
 hp:=fun a=>o4 0 1 a.x.t a.cap a.x.n a.x.used
 ro:=fun _=>[]
 post:=fun _ _=>True
 res:=fun a _=>.a (.int .i64 (ee a.x.t a.pos a.x.t.length))
 cW:=fun a _=>o4 0 1 (uS a.x a.pos).t a.cap (uS a.x a.pos).n (uS a.x a.pos).used
def Xx(a:JQ):An:=.flat 5 Nat (fun s i=>((s.at_ (s.pK (s.tg 0) 0) (.arr 251 Yp a.x.t.length (aa CQ (ew a.x.t a.pos i)))).int 15 i).int 5 (ee a.x.t a.pos i))
 (fun _ i=>i<=a.x.t.length) (fun _ i=>a.x.t.length-i)
def _root_.v7(y:Bool)(z:Int)(u:Bool)(v x:Prop):=aD y (ah z->aD u v x) x
def _root_.zJ(y:Ix.JQ)(z:Nat):Int:=af (Ix.ee y.x.t y.pos z)
def _root_.Hl(u:Int)(y:Ix.JQ)(v:Int)(w:Nat->Nat->Value)(s:Nat->Prop):Nat->Prop:=fun(z:Nat)=>u=zJ y z/\v=af z/\dL (bG y.x) y.cap (kY (aC y.pos/\bC (bG y.x) y.cap/\cF (af y.x.n) (af y.x.used) (aK (bG y.x) (bG y.x) 4 w (de (Ix.ew y.x.t y.pos z))) (s z)))
def _root_.Ho(y:Ix.JQ):=Ix.Inv y.x/\y.x.n<10000/\Ix.ee y.x.t y.pos (bG y.x)<=y.x.n
theorem PS:fnBody (Y Tryz.prog) [] 163 Mp fun a=>[(163,[Xx a],[])]:=fnBody.of (p :=
 ∀y:Ix.JQ,Ho y->Exists (Hl 0 y 0 (de y.x.t) fun z=>z<=bG y.x/\True)/\∀z:Nat,fO z (bG y.x) (v7 (Ix.bk.has (jI (Ix.ew y.x.t y.pos z) z)) (Ix.bk.pos (jI (Ix.ew y.x.t y.pos z) z)) (aF (Ix.bk.pos (jI (Ix.ew y.x.t y.pos z) z)) y.pos) (dQ z (bG y.x) (aS (Ix.ee y.x.t y.pos z)/\aS z/\Exists (Hl (zJ y z+(1:Int)) y (af z+(1:Int)) (jY (de (Ix.ew y.x.t y.pos z)) (0+ay z) 0 (dZ cR 0 (bS gd (bD (dK true))))) fun u=>bF u (bG y.x) z))) (aS z/\Exists (Hl (zJ y z) y (af z+(1:Int)) (de (Ix.ew y.x.t y.pos z)) fun u=>bF u (bG y.x) z))) (oL (af y.x.n) (zJ y z) (Exists (ax (bA (Ix.ee y.x.t y.pos z) (Ix.ee y.x.t y.pos (bG y.x))/\mK (bG y.x) (Ix.uS y.x y.pos) y.cap y.cap (af y.x.n-zJ y z) (af y.x.used) (de (Ix.ew y.x.t y.pos z)) True))))) (by kernel_rfl) (by
 delta aD aK cF ah bq bW ay aC eO aF bG af bK cR bD aX aB dO aV bS v7 gp bT bC bH bF dL mK ax aS Hl aW gd ag aY fO bu dZ bA oL dQ dK kY de jI zJ Ho
 try dsimp -iota -proj only
 intro a h;obtain⟨h1,h2,h3⟩:=h;have k1:=h1.lo;have k2:=h1.hi;simp only[Nat.zero_add,bQ];have hlen:=iO a.x.t a.pos;refine⟨⟨0,?_⟩,fun i hi=>?_⟩
 ·and_intros<;>(first|exact trivial|rfl|omega|assumption|exact aj.refl _ _ _|(simp only[bQ];omega)|(simp;done)|(simp;omega)|grind)
 ·have hat:=zF a.x.t a.pos i hi i;rw[if_neg (by simp)]at hat;have sy:low a.pos (gl a.x.t i)=true->ew a.x.t a.pos (i+1)=(ew a.x.t a.pos i).set i vZ:=fun e=>if_pos e;have sn:¬low a.pos (gl a.x.t i)=true->ew a.x.t a.pos (i+1)=ew a.x.t a.pos i:=fun e=>if_neg e;have ny:low a.pos (gl a.x.t i)=true->ee a.x.t a.pos (i+1)=ee a.x.t a.pos i+1:=fun e=>by show _+(if _ then 1 else 0)=_;rw[if_pos e]
  have nn:¬low a.pos (gl a.x.t i)=true->ee a.x.t a.pos (i+1)=ee a.x.t a.pos i:=fun e=>by show _+(if _ then 1 else 0)=_;rw[if_neg e];rfl
  have hn:∀i,ee a.x.t a.pos i<=i:=by
   intro i
   induction i with
   |zero=>exact Nat.le_refl _
   |succ i ih=>show _+(if _ then 1 else 0)<=_;split<;>omega
  have hn1:=hn i;have hfin:¬i<a.x.t.length->uS a.x a.pos=⟨ew a.x.t a.pos i,a.x.n-ee a.x.t a.pos i,a.x.used⟩/\ee a.x.t a.pos a.x.t.length=ee a.x.t a.pos i:=fun e=>by
   have:i=a.x.t.length:=by omega
   rw[this];exact⟨rfl,rfl⟩
  have ll:∀q:bk,low a.pos q=true↔q.has=true/\q.pos<a.pos:=fun q=>by simp[low]
  simp only[Int.toNat_natCast,hat]at *;clear hlen
  repeat' (first|intro _|apply And.intro|apply Exists.intro (i+1:Nat)|apply Exists.intro ())
  all_goals(try with_reducible rfl)
  all_goals(try simp only[decide_eq_true_eq,decide_eq_false_iff_not,iO]at *)
  all_goals(try exact trivial)
  all_goals(try omega)
  all_goals(try(with_reducible exact aj.refl _ _ _))
  all_goals first
   |(rw[ny ((ll _).2 ⟨by assumption,by assumption⟩)];done)
   |(rw[ny ((ll _).2 ⟨by assumption,by assumption⟩)];rfl)
   |rfl
   |(rw[nn (fun e=>by have:=(ll _).1 e;grind)];done)
   |(rw[sy ((ll _).2 ⟨by assumption,by assumption⟩)];refine .set _ (by rw[iO];omega) (fun i hi=>by simp only[gO hi]) ?_;simp only[iX];rfl)
   |(rw[sn (fun e=>by have:=(ll _).1 e;grind)];exact aj.refl _ _ _)
   |(rw[(hfin (by omega)).2];done)
   |(have hf:=hfin (by omega);rw[hf.1];first|rfl|omega|exact aj.refl _ _ _|(simp only;omega)|(simp only[iO];first|done|exact Nat.le_refl _)))
theorem Bo:ak (Y Tryz.prog).G.X 123 Ci:=aU fF Gm ⟨yd,Tb,trivial⟩
theorem Bp:ak (Y Tryz.prog).G.X 212 Jn:=aU fF Gn ⟨yd,trivial⟩
theorem JR:ak (Y Tryz.prog).G.X 180 N7:=aU fF Tg ⟨yd,trivial⟩
theorem PT:ak (Y Tryz.prog).G.X 163 Mp:=aU fF PS trivial
end Go.Proofs.YtfjgoonelcaggaaGreat.Ix
namespace Go.Proofs.YtfjgoonelcaggaaGreat
open Go.Sx
@[reducible] def zK(a b:Ix.cH)(v w:Nat)(p:Prop):Prop:=(0=0/\a.t.length=b.t.length/\v=w)/\(↑a.n:Int)=(↑b.n:Int)/\(↑a.used:Int)=(↑b.used:Int)/\(b.t.length<=a.t.length/\aj b.t.length 4 (aa Ix.CQ a.t) (aa Ix.CQ b.t))/\p
def fU:aG:=⟨.empty,.empty,0,false⟩
def aJ:Option aG->List Int
 |none=>[2]
 |some x=>1::cT x
theorem uT(m:Nat)(n:Int)(h:2*n.toNat<128^(m+1)):(vi n).length<=m+1:=y8 9 m _ h
theorem E7{x:aG}(h:fV x=true):(cT x).length<=x.key.size+x.val.size+10/\1<=(cT x).length:=by
 obtain⟨k1,k2,k3,k4⟩:=qE h;have a1:=uT 0 (x.key.size:Nat) (by simp;omega);have a2:=uT 1 (x.val.size:Nat) (by simp;omega);have a3:=uT 5 x.e (by simp;omega);have a4:(vi (if x.gone then 1 else 0)).length<=1:=by split<;>exact uT 0 _ (by decide)
 have a5:=(iK (x.key.size:Nat)).1;simp only[cT,eL,ic,List.flatMap_cons,List.flatMap_nil,List.append_nil,List.length_append,iU];omega
theorem lW{o:Option aG}(h:∀x,o=some x->fV x=true):1<=(aJ o).length/\(aJ o).length<=251:=by
 cases o with
 |none=>simp[aJ]
 |some x =>
  have h1:=h x rfl;have:=E7 h1;have:=qE h1;simp only[aJ,List.length_cons];omega
structure zL where
 o:Option aG
 cap:Nat
noncomputable def uU:cC where
 α:=zL
 β:=Unit
 m:=1
 m':=1
 pre:=fun a=>(∀x,a.o=some x->fV x=true)/\(aJ a.o).length<=a.cap
 args:=fun a=>[.a (.slc 0 0 1 (aJ a.o).length a.cap)]
 hp:=fun _=>[]
 ro:=fun a=>jh 0 (aJ a.o)
 post:=fun _ _=>True
 res:=fun a _=>.mm [.agg (Co (a.o.getD fU)),.a (.bool a.o.isSome)]
 cW:=fun _ _=>[]
def jk(x:Option aG):aG:=x.getD fU
def v8(y:Bool)(x:Option aG)(z:Prop):=aD y (Exists (ax (cR=aG.key (jk x)/\cR=aG.val (jk x)/\(0:Int)=aG.e (jk x)/\fR (aG.gone (jk x)) (false=x.isSome) (True/\True)))) z
def zM(x:Option aG)(z:Nat):=(∀y:aG,x=some y->aB (fV y))/\av (aJ x)<=z
def zN(y:aG)(x:Option aG)(z:Bool):Unit->Prop:=ax (qb y (jk x) (bl (z=x.isSome)))
theorem E8:fnBody (Y Tryz.prog) [(210,VC)] 179 uU fun _=>[]:=fnBody.of (p :=
 ∀y:zL,zM y.o y.cap->v8 (aF (af (av (aJ y.o))) 1) y.o (eO 0 (av (aJ y.o)) 0 (jE (gl (aJ y.o) 0)->v8 (gl (aJ y.o) 0 != (1:Int)) y.o (cU 1 (av (aJ y.o))/\∃z:Ct,(1=z.r/\av (aJ y.o)-1=av (cT z.x)/\y.cap-1=z.cap)/\cq z.l (aJ y.o) cE/\GC z/\∀u:Nat,True->v8 false y.o (aX 0 1/\0<1/\Exists (zN (gl [z.x] 0) y.o true)))))) (by kernel_rfl) (by
 delta aD av aK eO aF af cR dX aX aB fR cq qb v8 ax jk bl GC jE zM cU zN
 try dsimp -iota -proj only
 rintro⟨o,cap⟩ ⟨h1,h2⟩;dsimp only at *;have hl:=lW h1;cases o with
 |none =>
  have e0:gl (aJ none) 0=2:=rfl;refine⟨fun c=>by exfalso;have:=of_decide_eq_true c;omega,fun _=>?_⟩
  repeat refine kR ?_
  rw[e0];exact fun _=>⟨fun _=>⟨(),by and_intros<;>first|trivial|rfl⟩,fun c=>absurd c (by decide)⟩
 |some x =>
  have e0:gl (aJ (some x)) 0=1:=rfl;have e1:(aJ (some x)).length=(cT x).length+1:=by simp[aJ]
  have hm:=h1 x rfl;have e2:∀i,i<(cT x).length->gl (aJ (some x)) (1+i)=gl (cT x) i:=fun i _=>by
   show gl (([1]:List Int)++cT x) (([1]:List Int).length+i)=_;rw[bf]
  refine⟨fun c=>by exfalso;have:=of_decide_eq_true c;omega,fun _=>?_⟩
  repeat refine kR ?_
  rw[e0];refine fun _=>⟨fun c=>absurd c (by decide),fun _=>?_⟩
  repeat refine kR ?_
  refine⟨Ct.mk (aJ (some x)) 1 (cap-1) x,?_⟩
  (repeat' (first|apply And.intro|(intro _)|apply Exists.intro ()))<;>first|exact dc|exact hm|exact e2 _ (by assumption)|rfl|(exfalso;simp at *;done)|skip)
theorem PU:ak (Y Tryz.prog).G.X 179 uU:=aU fF E8 ⟨NS,trivial⟩
def Bt(a:zL):YN:=⟨5,[.int .u8],(aJ a.o).length,a.cap,aa cE (aJ a.o)⟩
noncomputable def N8:cC:=uU.VK Bt
theorem Th:lM (Y Tryz.prog).G.X uU 179:=Bm fF (fun _=>Bn fF (je:=[(210,VC)]) ⟨NS,trivial⟩) E8.body
theorem Mq:ak (Y Tryz.prog).G.X 179 N8:=fun _ _ _ h=>vr (JJ Th ⟨rfl,fun _=>rfl,fun _=>rfl,fun _=>rfl,fun _ _=>rfl,fun _ _ p hp=>(by cases hp)⟩) h
structure nU where
 L:bN
 d:bz
 l:List (ByteArray×Int)
structure rU where
 H:PH
 y:gQ
 x:Ix.cH
 cap:Nat
def Eh(c lg dv ds ix it pl:Nat)(m:nU)(p:rU):List (Nat×Chunk) :=
 [(c,.obj 205 [.ptr lg 0 0 0,.ptr ix 0 0 0]),(lg,fS dv m.L p.y.lv)]++gG dv ds m.d++Ix.o4 ix it p.x.t p.cap p.x.n p.x.used++[(pl,.cA p.H)]
structure ja(m:nU)(p:rU):Prop where
 log:bU p.H p.y m.L
 idx:Ix.Has p.x m.l
def tS(p p':rU):Prop:=∀z,p.H z≠none->z∉br p.y->p'.H z=p.H z/\z∉br p'.y
structure sZ(m:nU)(n:Nat):Prop where
 log:uI m.L m.d
 x7:m.l.length<9000
def cB(L:bN):Int:=iV L.l L.next
def gZ(m:nU)(body:List Int):nU:=⟨lU m.L body,oa m.L m.d body,m.l.filter fun e=>decide (cB (lU m.L body)<=e.2)⟩
theorem Ti{L:bN}{d:bz}(ok:uI L d){body:List Int}(h:body.length<=300):(lU L body).l.length<=801:=by
 have:=(JE (n:=body.length) ok h).x7;show((dx L body.length).l.set _ _).length<=801;rw[List.length_set];exact this
theorem Bu{x:Ix.cH}{l:List (ByteArray×Int)}(h:Ix.Has x l):x.n=l.length:=h.n
structure Ei where
 m:nU
 p:rU
 body:List Int
 cap:Nat
noncomputable def Tj:cC where
 α:=Ei
 β:=rU
 m:=8
 m':=9
 pre:=fun a=>ja a.m a.p/\sZ a.m a.body.length/\1<=a.body.length/\a.body.length<=300
 args:=fun a=>[.a (.ptr 0 0 0 0),.a (.slc 7 0 1 a.body.length a.cap)]
 hp:=fun a=>Eh 0 1 2 3 4 5 6 a.m a.p
 ro:=fun a=>jh 7 a.body
 post:=fun a b=>ja (gZ a.m a.body) b/\tS a.p b
 res:=fun a _=>.mm [.a (.int .i64 a.m.L.next),.a (.lit .i64 0)]
 cW:=fun a b=>Eh 0 1 2 3 4 5 8 (gZ a.m a.body) b
def oe(v:bN)(u:nU)(w:gQ)(z:rU)(s:bz)(t:Ix.cH)(f:Nat)(g h:Prop):=az (fH v u.L w z.y (gz s u.d (zK t z.x f z.cap (g/\h))))
def oO(u x:bN)(v y:gQ)(w z:PH)(s t:Prop):=tO u x v.lv y.lv (w=z/\(bU z y x/\s)/\t)
theorem VR:fnBody (Y Tryz.prog) [(162,Bs),(164,CI),(163,Ix.Mp)] 121 Tj fun _=>[]:=fnBody.of (p :=
 ∀z:Ei,ja z.m z.p/\sZ z.m (av z.body)/\gR z.body 300->∃u:qV,eo (cN z.body u.body z.cap u.cap) (tO z.m.L u.L z.p.y.lv u.y.lv (gz z.m.d u.d (z.p.H=u.H/\cq u.body z.body cE/\zn u/\∀s:mE,w8 s u->∃w:Ef,az (oO (lU u.L u.body) w.L s.y w.y s.H w.H (bB w.L<1000) (aI (∃v:Ix.JQ,ag (iV w.L.l w.L.next=v.pos/\zK z.p.x v.x z.p.cap v.cap (Ho v/\aI (∃t:rU,u.L.next=z.m.L.next/\aW (s.H=t.H/\oe (lU u.L u.body) (gZ z.m z.body) s.y t (oa u.L u.d u.body) (Ix.uS v.x v.pos) v.cap (ja (gZ z.m z.body) t/\tS z.p t) True))))))))))) (by kernel_rfl) (by
 delta av aK bW aC bG eo cq aI oe bB wX aW ag qe cN az gR oO fH zn w8 Ho
 try dsimp -iota -proj only
 rintro⟨⟨L,d,l⟩,⟨H,y,x,xc⟩,body,cap⟩ ⟨hat,hok,hb1,hb2⟩;obtain⟨hl,hx⟩:=hat;dsimp only at *;have hlen:(lU L body).l.length<=801:=Ti hok.log hb2;have hn:=Bu hx;have hfew:=hok.x7;dsimp only at hfew;obtain⟨q1,q3,q2⟩:=Ix.PR hx (cB (lU L body));refine⟨qV.mk H y L d body cap,?_⟩
 and_intros<;>first|exact dc|exact hl|exact hok.log|skip
 rintro⟨H1,y1⟩ ⟨p1,p2⟩;dsimp only at p1 p2 ⊢;refine⟨Ef.mk H1 y1 (lU L body),?_⟩
 and_intros<;>first|exact dc|exact p1|(dsimp only;omega)|skip
 intro _ _;refine⟨Ix.JQ.mk x xc (cB (lU L body)),?_⟩;dsimp only
 and_intros<;>first|exact dc|exact hx.inv|rfl|(rw[hn];exact q2)|(rw[hn];omega)|skip
 intro _ _;refine⟨⟨H1,y1,Ix.uS x (cB (lU L body)),xc⟩,?_⟩
 and_intros<;>first|exact dc|exact⟨p1,q1⟩|exact p1|exact q1|exact p2|rfl|exact aj.refl _ _ _|exact Nat.le_refl _|skip)
theorem Hp:ak (Y Tryz.prog).G.X 121 Tj:=aU fF VR ⟨CF,zu,Ix.PT,trivial⟩
def l8(l:List (ByteArray×Int))(k:ByteArray):List (ByteArray×Int):=l.filter fun e=>decide (e.1≠k)
def Ej(l:List (ByteArray×Int))(k:ByteArray)(p:Int):List (ByteArray×Int):=(k,p)::l8 l k
theorem E9{x:Ix.cH}{l:List (ByteArray×Int)}(h:Ix.Has x l):(l.map Prod.fst).Nodup:=by
 refine((h.perm.map Prod.fst).nodup_iff).1 ?_;unfold Ix.eu;rw[List.map_map];show List.Pairwise (·≠·) _;rw[List.pairwise_map,List.pairwise_filter,List.pairwise_iff_getElem];intro i j hi hj hij hp hq e;have:=h.inv.Tc i j hi hj (by rw[bR hi];exact hp) (by rw[bR hj];exact hq) (by rw[bR hi,bR hj];exact e);omega
theorem CY{l:List (ByteArray×Int)}{k:ByteArray}(h:k∉l.map Prod.fst):l8 l k=l:=by
 unfold l8;rw[List.filter_eq_self];intro e he;simp only[decide_eq_true_eq];exact fun e'=>h (List.mem_map.2 ⟨e,he,e'⟩)
theorem zO:∀ {l:List (ByteArray×Int)} {k:ByteArray} {q:Int},(l.map Prod.fst).Nodup->(k,q)∈l->l.Perm ((k,q)::l8 l k)
 |[],_,_,_,h=>by cases h
 |a::l,k,q,hn,h=>by
  rw[List.map_cons,List.nodup_cons]at hn;by_cases e:a.1=k
  ·have hk:k∉l.map Prod.fst:=by rw[<- e];exact hn.1
   have ha:a=(k,q):=by
    rcases List.mem_cons.1 h with h|h
    ·exact h.symm
    ·exact absurd (List.mem_map.2 ⟨_,h,rfl⟩) hk
   have:l8 (a::l) k=l:=by
    unfold l8;rw[List.filter_cons,if_neg (by simp[e])];exact CY hk
   rw[this,ha]
  ·have hm:(k,q)∈l:=by
    rcases List.mem_cons.1 h with h|h
    ·exact absurd (by rw[<- h]) e
    ·exact h
   have:l8 (a::l) k=a::l8 l k:=by
    unfold l8;rw[List.filter_cons,if_pos (by simpa using e)]
   rw[this];exact(List.Perm.cons a (zO hn.2 hm)).trans (List.Perm.swap _ _ _)
theorem N9{x:Ix.cH}{l:List (ByteArray×Int)}{k:ByteArray}{p:Int}(h:Ix.Has x l)(hn:l.length<9999)(hk:k.size<=aq):Ix.Has (Ix.tQ x k p) (Ej l k p):=by
 have hx:=h.n;by_cases hm:k∈l.map Prod.fst
 ·obtain⟨⟨k',q⟩,h1,h2⟩:=List.mem_map.1 hm;dsimp only at h2;subst h2;exact(Ix.Mn (h.yh (zO (E9 h) h1)) (by omega)).1
 ·have:=(Ix.Tf (p:=p) h (by omega) hm hk).1;unfold Ej;rw[CY hm];exact this
theorem JS{x:Ix.cH}{l:List (ByteArray×Int)}{k:ByteArray}(h:Ix.Has x l):Ix.Has (Ix.kH x k) (l8 l k)/\(0<=(Ix.bE x.t k).1->1<=x.n):=by
 have hx:=h.n;by_cases hm:k∈l.map Prod.fst
 ·obtain⟨⟨k',q⟩,h1,h2⟩:=List.mem_map.1 hm;dsimp only at h2;subst h2;refine⟨(Ix.CW (h.yh (zO (E9 h) h1))).1,fun _=>?_⟩;have:=List.length_pos_of_mem h1;omega
 ·rw[CY hm];obtain⟨e1,e2⟩:=h.rT hm;exact⟨by rw[Ix.PO h hm];exact h,fun e=>by omega⟩
theorem JT(l:List (ByteArray×Int))(k:ByteArray)(p:Int):(Ej l k p).length<=l.length+1:=by
 simp only[Ej,l8,List.length_cons];have:=List.length_filter_le (fun e:ByteArray×Int=>decide (e.1≠k)) l;omega
theorem Fa(l:List (ByteArray×Int))(k:ByteArray):(l8 l k).length<=l.length:=List.length_filter_le _ _
def jT(x:aG):Bool:=fV x&&!x.gone
def nG(m:nU)(x:aG):nU:=if jT x then { gZ m (aJ (some x))with l:=Ej (gZ m (aJ (some x))).l x.key m.L.next }else m
structure JU where
 m:nU
 p:rU
 x:aG
noncomputable def Tk:cC where
 α:=JU
 β:=rU
 m:=7
 m':=9
 pre:=fun a=>ja a.m a.p/\(jT a.x=true->sZ a.m (aJ (some a.x)).length)
 args:=fun a=>[.a (.ptr 0 0 0 0),.agg (Co a.x)]
 hp:=fun a=>Eh 0 1 2 3 4 5 6 a.m a.p
 ro:=fun _=>[]
 post:=fun a b=>ja (nG a.m a.x) b/\tS a.p b
 res:=fun a b=>.a (.int .i64 (if jT a.x then 0 else 1))
 cW:=fun a b=>Eh 0 1 2 3 4 7 8 (nG a.m a.x) b
def CZ(w t:Nat)(s:nU)(u:rU)(f:Nat->Nat->Value)(g:Ei->rU->Prop):=∃z:Ei,ag (ag (w=av z.body/\t=z.cap)/\oe s.L z.m u.y z.p s.d u.x u.cap (u.H=z.p.H) (aK (av z.body) w 1 f (aa cE z.body)/\(ja z.m z.p/\sZ z.m (av z.body)/\gR z.body 300)/\∀v:rU,ja (gZ z.m z.body) v/\tS z.p v->g z v))
def Hq(y z:ByteArray)(u:Int)(v:Bool)(w:nU)(s:rU)(t:Ei->rU->Prop):=∃x:Ee,ir 1 x.xs.length 1 x.cap 4 (aM 4 (kS (bH y) (bH z) (bq u (bD (dK v))))) (aa kL x.xs) (wR x) (∀i:Nat,True->1<=1/\mB (dD x.xs)/\gH 1 (av (dD x.xs)) 1 1 fun f=>CZ (1+av (dD x.xs)) f w s (aZ (aM 1 (bD (fA 1))) 0 1 (qW cE (dD x.xs))) fun g h=>t g h)
def iw(x:Bool):Int:=if x=true then(0:Int)else(1:Int)
def C0(w:Int)(s:Bool)(z:rU)(t v:nU)(f:bz)(g:rU):rU->Prop:=fun(u:rU)=>w=iw s/\z.H=u.H/\oe t.L v z.y u f z.x z.cap (ja v u/\tS g u) True
def Hr(y:JU):=ja y.m y.p/\(aB (jT y.x)->sZ y.m (av (aJ (some y.x))))
theorem Tl:fnBody (Y Tryz.prog) [(96,yZ),(122,Sj),(121,Tj),(123,Ix.Ci)] 73 Tk fun _=>[]:=fnBody.of (p :=
 ∀z:JU,Hr z->∃t:aG,qb z.x t (cS (iY (bn (fV t)) (Exists (C0 1 (jT z.x) z.p z.m (nG z.m z.x) z.m.d z.p)) z.x.gone (Hq z.x.key z.x.val z.x.e z.x.gone z.m z.p fun v w=>∃u:Ix.mg,ag (z.x.key=u.key/\v.m.L.next=u.pos/\zK w.x u.x w.cap u.cap (zH u/\∀f:Nat,True->∃s:rU,(0:Int)=iw (jT z.x)/\w.H=s.H/\oe (gZ v.m v.body).L (nG z.m z.x) w.y s (gZ v.m v.body).d (Ix.tQ u.x u.key u.pos) f (ja (nG z.m z.x) s/\tS z.p s) True)))))) (by kernel_rfl) (by
 delta aD av aK bq bW gH bD fA aB dO kS bS iY qb aI bp oe bH Hq iw ir ag wR CZ az gR C0 bn mB qW fH dK cS zH Hr
 try dsimp -iota -proj only
 rintro⟨⟨L,d,l⟩,⟨H,y,x,xc⟩,it⟩ ⟨hat,hok⟩;dsimp only at *;have same:jT it=false->nG ⟨L,d,l⟩ it=⟨L,d,l⟩:=fun e=>if_neg (by rw[e];decide);refine⟨it,rfl,rfl,rfl,rfl,trivial,fun _ _=>⟨fun c1=>⟨⟨H,y,x,xc⟩,?_⟩,fun c1=>⟨fun c2=>⟨⟨H,y,x,xc⟩,?_⟩,fun c2=>?_⟩⟩⟩
 ·have hn:jT it=false:=by simp only[jT];rw[show fV it=false by simpa using c1];rfl
  rw[same hn,hn]
  and_intros<;>first|exact dc|rfl|exact aj.refl _ _ _|exact Nat.le_refl _|exact hat|exact hat.log|exact hat.idx|exact fun z _ hn=>⟨rfl,hn⟩
 ·have hn:jT it=false:=by simp only[jT];rw[c2];simp
  rw[same hn,hn]
  and_intros<;>first|exact dc|rfl|exact aj.refl _ _ _|exact Nat.le_refl _|exact hat|exact hat.log|exact hat.idx|exact fun z _ hn=>⟨rfl,hn⟩
 ·have hm:fV it=true:=by simpa using c1
  have hy:jT it=true:=by simp only[jT];rw[c2,hm];rfl
  have hok:=hok hy;have hF:nG ⟨L,d,l⟩ it={ gZ ⟨L,d,l⟩ (aJ (some it))with l:=Ej (gZ ⟨L,d,l⟩ (aJ (some it))).l it.key L.next }:=if_pos hy;rw[hF,hy];obtain⟨hb1,hb2⟩:=lW (o:=some it) (fun x e=>by cases e;exact hm);have hI:dD [it]=cT it:=by simp[dD]
  have hB:(aJ (some it)).length=1+(cT it).length:=by simp only[aJ,List.length_cons];omega
  have hr1:aj 1 4 (aM 4 [Value.string it.key,Value.string it.val,Value.int .i64 it.e,Value.bool it.gone]) (aa kL [it]):=.dR fun i hi=>by
   have:i=0:=by omega
   subst this;rfl
  have hm1:∀i,i < [it].length->fV (gl [it] i)=true:=fun i hi=>by
   have:i=0:=by simp at hi;omega
   subst this;exact hm
  refine⟨Ee.mk [it] 1,?_⟩
  and_intros<;>first|exact dc|exact hr1|exact hm1|exact Nat.le_refl _|decide|skip
  intro c _;rw[hI]
  repeat refine kR ?_
  intro cap q1 q2 q3;refine⟨Ei.mk ⟨L,d,l⟩ ⟨H,y,x,xc⟩ (aJ (some it)) cap,?_⟩;have hr2:aj (aJ (some it)).length 1 (aZ (aM 1 [Value.int .u8 1]) 0 1 fun(i j:Nat)=>aa cE (cT it) (0+i) j) (aa cE (aJ (some it))):=⟨fun i hi j hj=>by
   have hj0:j=0:=by omega
   subst hj0;simp only[aZ,Nat.zero_add];by_cases h0:i<1
   ·have:i=0:=by omega
    subst this;rfl
   ·rw[if_neg h0];obtain⟨q,rfl⟩:∃q,i=q+1:=⟨i-1,by omega⟩
    simp only[aa,aJ,Nat.add_sub_cancel];congr 2⟩
  and_intros<;>first|exact dc|rfl|exact aj.refl _ _ _|exact Nat.le_refl _|exact hr2|exact hat|exact hat.log|exact hat.idx|exact hok.log|exact hok.x7|(dsimp only;omega)|skip
  rintro⟨H1,y1,x1,xc1⟩ ⟨⟨g1,g2⟩,hfr⟩;dsimp only at g1 g2 hfr ⊢;refine⟨Ix.mg.mk x1 xc1 it.key L.next,?_⟩;have hn:=Bu g2;have hln:(gZ ⟨L,d,l⟩ (aJ (some it))).l.length<=l.length:=List.length_filter_le _ _;have hfew:=hok.x7;dsimp only at hfew;have hks:it.key.size<=aq:=by have:=qE hm;simp only[aq];omega
  and_intros<;>first|exact dc|rfl|exact aj.refl _ _ _|exact Nat.le_refl _|exact g2.inv|exact hks|(dsimp only;omega)|skip
  intro c2' _;refine⟨⟨H1,y1,Ix.tQ x1 it.key L.next,c2'⟩,?_⟩;have hp:=N9 (p:=L.next) g2 (by omega) hks
  and_intros<;>first|exact dc|rfl|exact aj.refl _ _ _|exact Nat.le_refl _|exact g1|exact hp|exact hfr|exact⟨g1,hp⟩)
theorem Tm:ak (Y Tryz.prog).G.X 73 Tk:=aU fF Tl ⟨pq,Gy,Hp,Ix.Bo,trivial⟩
def C1(m:nU)(key:ByteArray):Option aG->Prop
 |some x=>∃p,(key,p)∈m.l/\gi m.L.l p=some (aJ (some x))/\fV x=true
 |none=>key∉m.l.map Prod.fst\/∃p,(key,p)∈m.l/\(gi m.L.l p=none\/gi m.L.l p=some (aJ none))
structure PV(m:nU):Prop where
 x7:m.L.l.length<1000
 seg:∀i,i<m.L.l.length->mJ (gl m.L.l i).aR/\(gl m.L.l i).aR.length<=400/\∀k,k<(gl m.L.l i).aR.length->1<=(gl (gl m.L.l i).aR k).body.length/\(gl (gl m.L.l i).aR k).body.length<=1000
 pos:∀e∈m.l,0<=e.2/\e.2<1000000000000
structure Oa where
 m:nU
 p:rU
 key:ByteArray
 r:Option aG
noncomputable def Tn:cC where
 α:=Oa
 β:=Unit
 m:=7
 m':=7
 pre:=fun a=>ja a.m a.p/\PV a.m/\C1 a.m a.key a.r/\a.key.size<=aq
 args:=fun a=>[.a (.ptr 0 0 0 0),.a (.str a.key)]
 hp:=fun _=>[]
 ro:=fun a=>Eh 0 1 2 3 4 5 6 a.m a.p
 post:=fun _ _=>True
 res:=fun a _=>.mm [.agg (Co (a.r.getD fU)),.a (.bool a.r.isSome)]
 cW:=fun _ _=>[]
def xq(x:nU)(z:rU)(y:ByteArray)(u:Option aG):=ja x z/\PV x/\C1 x y u/\bp y<=aq
theorem To:fnBody (Y Tryz.prog) [(212,Ix.Jn),(213,LV),(179,uU)] 184 Tn fun _=>[]:=fnBody.of (p :=
 ∀z:Oa,xq z.m z.p z.key z.r->∃u:Ix.tR,ag (z.key=u.key/\zK z.p.x u.x z.p.cap u.cap ((Ix.Inv u.x/\bp u.key<=aq)/\aI (v8 (bn (Ix.xo u.x u.key).snd) z.r (∃v:JG,eo ((Ix.xo u.x u.key).fst=v.p) (oO z.m.L v.L z.p.y v.y z.p.H v.H (GQ v) (∀s:Nat,av (sU v)<=s->v8 (AG (gi v.L.l v.p) != (0:Int)) z.r (∃w:zL,lT (sU v) (aJ w.o) s w.cap cE (zM w.o w.cap) (aI (Exists (zN (jk w.o) z.r w.o.isSome))))))))))) (by kernel_rfl) (by
 delta aD av aK cR aB fR eo cq qb aI v8 bp bB xg lT ax sU ag cN jk gR oO bn bl xq GQ zM oM zN
 try dsimp -iota -proj only
 rintro⟨⟨L,d,l⟩,⟨H,y,x,xc⟩,key,r⟩ ⟨⟨hl,hx⟩,hrd,hr,hks⟩;dsimp only at *;refine⟨Ix.tR.mk x xc key,?_⟩
 and_intros<;>first|exact dc|rfl|exact aj.refl _ _ _|exact Nat.le_refl _|exact hx.inv|exact hks|skip
 intro _ _;dsimp only;have hcase:(r=none/\Ix.xo x key=(0,false))\/∃p,(key,p)∈l/\Ix.xo x key=(p,true)/\((r=none/\(gi L.l p=none\/gi L.l p=some (aJ none)))\/∃it,r=some it/\gi L.l p=some (aJ (some it))/\fV it=true):=by
  cases r with
  |none =>
   rcases hr with hr | ⟨p,h1,h2⟩
   ·exact .inl ⟨rfl,Ix.get_none hx hr⟩
   ·exact .inr ⟨p,h1,Ix.E6 hx h1,.inl ⟨rfl,h2⟩⟩
  |some it =>
   obtain⟨p,h1,h2,h3⟩:=hr;exact .inr ⟨p,h1,Ix.E6 hx h1,.inr ⟨it,rfl,h2,h3⟩⟩
 rcases hcase with⟨rfl,hg⟩ | ⟨p,hm,hg,hc⟩
 ·rw[hg];refine⟨fun _=>⟨(),?_⟩,fun c=>absurd c (by decide)⟩
  and_intros<;>first|exact dc|rfl|exact aj.refl _ _ _|exact Nat.le_refl _
 ·rw[hg];refine⟨fun c=>absurd c (show ¬((!true)=true)by decide),fun _=>⟨JG.mk H y L p,?_⟩⟩;obtain⟨hp1,hp2⟩:=hrd.pos _ hm
  and_intros<;>first|exact dc|rfl|exact aj.refl _ _ _|exact Nat.le_refl _|exact hl|exact hrd.x7|exact hp1|exact hp2|exact hrd.seg|skip
  intro c hcap;dsimp only at hcap ⊢;rcases hc with⟨rfl,hn|hn⟩ | ⟨it,rfl,hn,hmay⟩
  ·rw[hn];refine⟨fun _=>⟨(),?_⟩,fun c=>absurd c (by decide)⟩
   and_intros<;>first|exact dc|rfl|exact aj.refl _ _ _|exact Nat.le_refl _
  ·rw[hn]at hcap ⊢;refine⟨fun c=>absurd c (by decide),fun _=>⟨zL.mk none c,?_⟩⟩;have hcap:(aJ none).length<=c:=hcap;have hno:∀z:aG,(none:Option aG)=some z->fV z=true:=fun z e=>by cases e
   (repeat' (first|apply And.intro|(intro _)|apply Exists.intro ()))<;>first|exact dc|rfl|exact aj.refl _ _ _|exact Nat.le_refl _|exact hcap|exact hno _ (by assumption)
  ·rw[hn]at hcap ⊢;refine⟨fun c=>absurd c (show ¬((AG (some (aJ (some it))) != 0)=true)by simp[AG]),fun _=>⟨zL.mk (some it) c,?_⟩⟩;have hcap:(aJ (some it)).length<=c:=hcap;have hno:∀z:aG,some it=some z->fV z=true:=fun z e=>by cases e;exact hmay
   (repeat' (first|apply And.intro|(intro _)|apply Exists.intro ()))<;>first|exact dc|rfl|exact aj.refl _ _ _|exact Nat.le_refl _|exact hcap|exact hno _ (by assumption))
theorem Tp:ak (Y Tryz.prog).G.X 184 Tn:=aU fF To ⟨Ix.Bp,Px,PU,trivial⟩
def nH(r:Option aG)(now:Int):Option aG:=r.bind fun x=>if uC x now then some x else none
structure C2 where
 m:nU
 p:rU
 key:ByteArray
 now:Int
 r:Option aG
noncomputable def Tq:cC where
 α:=C2
 β:=Unit
 m:=7
 m':=7
 pre:=fun a=>ja a.m a.p/\PV a.m/\C1 a.m a.key a.r/\a.key.size<=aq
 args:=fun a=>[.a (.ptr 0 0 0 0),.a (.str a.key),.a (.int .i64 a.now)]
 hp:=fun _=>[]
 ro:=fun a=>Eh 0 1 2 3 4 5 6 a.m a.p
 post:=fun _ _=>True
 res:=fun a _=>.mm [.agg (Co ((nH a.r a.now).getD fU)),.a (.bool (nH a.r a.now).isSome)]
 cW:=fun _ _=>[]
theorem Tr:fnBody (Y Tryz.prog) [(184,Tn),(185,Sf)] 136 Tq fun _=>[]:=fnBody.of (p :=
 ∀z:C2,xq z.m z.p z.key z.r->∃u:Oa,ag (z.key=u.key/\oe z.m.L u.m z.p.y u.p z.m.d z.p.x z.p.cap (z.p.H=u.p.H) (xq u.m u.p u.key u.r/\aI (v8 (bn u.r.isSome) (nH z.r z.now) (∃v:NQ,qb (jk u.r) v.x (z.now=v.now/\cS (v8 (bn (uC v.x v.now)) (nH z.r z.now) (Exists (zN (jk u.r) (nH z.r z.now) true))))))))) (by kernel_rfl) (by
 delta aD bW cR aB fR qb aI v8 bp oe ax ag jk az bn bl xq fH cS zN
 rintro⟨⟨L,d,l⟩,⟨H,y,x,xc⟩,key,now,r⟩ ⟨hat,hrd,hr,hks⟩;dsimp only at *;refine⟨Oa.mk ⟨L,d,l⟩ ⟨H,y,x,xc⟩ key r,?_⟩
 and_intros<;>first|exact dc|rfl|exact aj.refl _ _ _|exact Nat.le_refl _|exact hat|exact hrd|exact hr|exact hks|skip
 intro _ _;dsimp only;cases r with
 |none =>
  refine⟨fun _=>⟨(),?_⟩,fun c=>absurd c (by decide)⟩
  and_intros<;>first|exact dc|rfl|exact aj.refl _ _ _|exact Nat.le_refl _
 |some it =>
  refine⟨fun c=>absurd c (show ¬((!true)=true)by decide),fun _=>⟨NQ.mk it now,rfl,rfl,rfl,rfl,rfl,trivial,fun _ _=>⟨fun c=>⟨(),?_⟩,fun c=>⟨(),?_⟩⟩⟩⟩
  ·have:nH (some it) now=none:=by
    have:uC it now=false:=by simpa using c
    simp[nH,this]
   rw[this]
   and_intros<;>first|exact dc|rfl|exact aj.refl _ _ _|exact Nat.le_refl _
  ·have:nH (some it) now=some it:=by
    have:uC it now=true:=by simpa using c
    simp[nH,this]
   rw[this]
   and_intros<;>first|exact dc|rfl|exact aj.refl _ _ _|exact Nat.le_refl _)
theorem Ts:ak (Y Tryz.prog).G.X 136 Tq:=aU fF Tr ⟨Tp,Sk,trivial⟩
def S.fl(s:S)(c:Nat)(m:nU)(p:rU):S :=
 (fun(s3:S)=>(s3.put (s3.hp.del (JD s3))).new (.cA p.H))
 ((fun(s1:S)=>((s1.put (s1.hp.del (s.pK (s.pK c 1) 0))).new (.arr 251 Ix.Yp p.x.t.length (aa Ix.CQ p.x.t))).at_ (s.pK c 1) (.obj 247 [.slc s.nx 0 4 p.x.t.length p.cap,.int .i64 p.x.n,.int .i64 p.x.used]))
  (((s.at_ (s.pK c 0) (fS (s.pK (s.pK c 0) 0) m.L p.y.lv)).at_ (s.pK (s.pK c 0) 0) (.obj 116 [.slc (s.pK (s.pK (s.pK c 0) 0) 0) 0 129 m.d.n m.d.n,.int .i64 m.d.calls])).at_ (s.pK (s.pK (s.pK c 0) 0) 0) (.arr 158 Cj m.d.n (fo m.d))))
def iH(k:ByteArray):aG:=⟨k,.mk #[],0,true⟩
theorem zP{k:ByteArray}(h:dS k=true):fV (iH k)=true:=by
 simp only[fV,iH];rw[h];rfl
def og(m:nU)(k:ByteArray):nU:={ gZ m (aJ (some (iH k)))with l:=l8 (gZ m (aJ (some (iH k)))).l k }
def gj(m:nU)(ks:List ByteArray):Nat->nU
 |0=>m
 |i+1=>og (gj m ks i) (gl ks i)
def fI(ks:List ByteArray):Bool:=ks.all dS
def Hs(m:nU):nU:={ m with d:=gn m.d }
def lY(m:nU)(ks:List ByteArray):nU:=if fI ks then Hs (gj m ks ks.length)else m
structure qk where
 m:nU
 p:rU
 ks:List ByteArray
 cap:Nat
noncomputable def Ht:cC where
 α:=qk
 β:=rU
 m:=8
 m':=10
 pre:=fun a=>ja a.m a.p/\a.ks.length<1000/\(fI a.ks=true->(∀i,i<a.ks.length->sZ (gj a.m a.ks i) (aJ (some (iH (gl a.ks i)))).length)/\(gj a.m a.ks a.ks.length).d.n<100000/\(gj a.m a.ks a.ks.length).d.calls<1000000000000)
 args:=fun a=>[.a (.ptr 0 0 0 0),.a (.slc 7 0 1 a.ks.length a.cap)]
 hp:=fun a=>Eh 0 1 2 3 4 5 6 a.m a.p
 ro:=fun a=>[(7,.arr 9 [.str] a.ks.length (aa kq a.ks))]
 post:=fun a b=>ja (lY a.m a.ks) b/\tS a.p b
 res:=fun a b=>.a (.int .i64 (if fI a.ks then 0 else 1))
 cW:=fun a b=>Eh 0 1 2 3 4 8 9 (lY a.m a.ks) b
structure zQ where
 i:Nat
 p:rU
def VS(a:qk):An:=.flat 4 Nat (fun s i=>s.int 15 i) (fun _ i=>i<=a.ks.length/\∀j,j<i->dS (gl a.ks j)=true) (fun _ i=>a.ks.length-i)
def VT(a:qk):An:=.flat 10 zQ (fun s x=>(S.fl s (s.tg 0) (gj a.m a.ks x.i) x.p).int 25 x.i) (fun _ x=>x.i<=a.ks.length/\fI a.ks=true/\ja (gj a.m a.ks x.i) x.p/\tS a.p x.p) (fun _ x=>a.ks.length-x.i)
def VU(a:qk):An:=.mk 9 Unit (fun s _=>s) (fun _ _=>fI a.ks=true) (fun _ _=>0) fun _=>.mk 1000 [VT a] []
noncomputable def Tt:List (Nat×cC):=[(86,Lt),(122,Sj),(121,Tj),(180,Ix.N7),(169,jC)]
def Mr(u:qk)(w:rU)(z:zQ)(s:nU)(v:Ix.cH)(f:Nat)(g:Prop):=kY (bC (aT u.ks) u.cap/\w.H=z.p.H/\az (fH s.L (gj u.m u.ks z.i).L w.y z.p.y (gz s.d (gj u.m u.ks z.i).d (ag (bG v=bG z.p.x/\f=z.p.cap)/\bA v.n z.p.x.n/\bA v.used z.p.x.used/\kZ u.ks/\aK (bG z.p.x) (bG v) 4 (de v.t) (de z.p.x.t)/\g))))
def Hu(z:qk)(u:Prop):=kY (bC (aT z.ks) z.cap/\oe z.m.L z.m z.p.y z.p z.m.d z.p.x z.p.cap (z.p.H=z.p.H) (kZ z.ks/\u))
def rj(y:Nat)(z:List ByteArray):=∀x:Nat,x<y->aB (dS (gl z x))
def Hv(x:qk):=ja x.m x.p/\aT x.ks<1000/\(aB (fI x.ks)->(∀y:Nat,y<aT x.ks->sZ (gj x.m x.ks y) (av (aJ (some (iH (gl x.ks y))))))/\jF (gj x.m x.ks (aT x.ks)).d)
def zR(y:List ByteArray)(z:Nat)(u v:Nat->Prop)(w s:Prop):=((∃x:Nat,aA x (dL (aT y) z (u x)))/\∀x:Nat,x<=aT y/\rj x y->gp x (aT y) (v x) (Exists (ax w)))/\∀x:Unit,aB (fI y)->s
def Hw(x:qk)(y:zQ):=aB (fI x.ks)/\ja (gj x.m x.ks y.i) y.p/\tS x.p y.p
theorem PW:fnBody (Y Tryz.prog) Tt 135 Ht fun a=>[(135,[VS a],[VU a])]:=fnBody.of (p :=
 ∀y:qk,Hv y->zR y.ks y.cap (fun z=>Hu y ((z<=aT y.ks/\rj z y.ks)/\True)) (fun z=>∃t:ByteArray,gl y.ks (0+ay z)=t/\cS (aD (bn (dS t)) (Exists (C0 1 (fI y.ks) y.p y.m (lY y.m y.ks) y.m.d y.p)) (cO z fun u=>dL (aT y.ks) y.cap (Hu y (dY u (aT y.ks) (rj u y.ks) z))))) (Hu y (aB (fI y.ks)/\True)) ((∃z:zQ,aA z.i (dL (aT y.ks) y.cap (Mr y y.p z y.m y.p.x y.p.cap ((z.i<=aT y.ks/\Hw y z)/\True))))/\∀z:zQ,z.i<=aT y.ks/\Hw y z->gp z.i (aT y.ks) (Hq (gl y.ks (0+ay z.i)) cR 0 true (gj y.m y.ks z.i) z.p fun u s=>∃v:Ix.tR,ag (gl y.ks (0+ay z.i)=v.key/\zK s.x v.x s.cap v.cap (zI v/\aI (aS z.i/\∃w:zQ,bx z.i w.i/\dL (aT y.ks) y.cap (Mr y s w (gZ u.m u.body) (Ix.kH v.x v.key) v.cap (dY w.i (aT y.ks) (Hw y w) z.i)))))) (Exists (kF (gj y.m y.ks z.i).d fun u=>Exists (C0 0 (fI y.ks) z.p (gj y.m y.ks z.i) (lY y.m y.ks) (gn u) y.p))))) (by kernel_rfl) (by
 delta aD av aK ah bq bW ay aC gH eO aF bG af aT bK cR dY bD aX fA aB dO aV kS bS dN aI gp bT bp bC cO oe bH dL Hq jF Mr ax aS iw ir kZ aA aW ag aY Hu rj wR CZ Hv zI bx az gR kF C0 bn bu bA mB zR qW Hw dQ fH dK cS kY de
 try dsimp -iota -proj only
 rintro⟨⟨L,d,l⟩,⟨H,y,x,xc⟩,ks,kc⟩ ⟨hat,hk1,hok⟩;dsimp only at *;obtain⟨m0,hm0⟩:∃m0:nU,m0=⟨L,d,l⟩:=⟨_,rfl⟩
 have hno:fI ks=false->lY ⟨L,d,l⟩ ks=⟨L,d,l⟩:=fun e=>if_neg (by rw[e];decide);have hyes:fI ks=true->lY m0 ks=Hs (gj m0 ks ks.length):=fun e=>if_pos e;refine⟨⟨⟨0,?_⟩,fun i hi=>?_⟩,fun _ hall=>⟨⟨⟨0,⟨H,y,x,xc⟩⟩,?_⟩,fun z hz=>?_⟩⟩
 ·and_intros<;>first|exact dc|rfl|exact aj.refl _ _ _|exact Nat.le_refl _|exact fun j hj=>absurd hj (Nat.not_lt_zero j)
 ·obtain⟨hi,hkb⟩:=hi;simp only[Nat.zero_add,Int.toNat_natCast];refine⟨fun c1=>?_,fun c1=>⟨(),?_⟩⟩
  ·have hi':i<ks.length:=by have:=of_decide_eq_true c1;omega
   refine⟨by omega,by omega,gl ks i,rfl,trivial,fun _ _=>⟨fun c2=>⟨⟨H,y,x,xc⟩,?_⟩,fun c2=>⟨by simp only[bQ];omega,i+1,?_⟩⟩⟩
   ·have hn:fI ks=false:=by
     have c2:dS (gl ks i)=false:=by simpa using c2
     rw[Bool.eq_false_iff];intro h;have:=List.all_eq_true.1 h (gl ks i) (by rw[bR hi'];exact List.getElem_mem _);rw[c2]at this;cases this
    rw[hno hn,hn]
    and_intros<;>first|exact dc|rfl|exact aj.refl _ _ _|exact Nat.le_refl _|exact hat|exact fun z _ hn=>⟨rfl,hn⟩
   ·have c2:dS (gl ks i)=true:=by simpa using c2
    have h1:∀j,j<i+1->dS (gl ks j)=true:=fun j hj=>by
     by_cases e:j=i
     ·rw[e];exact c2
     ·exact hkb j (by omega)
    and_intros<;>first|exact dc|rfl|exact aj.refl _ _ _|exact Nat.le_refl _|exact h1
  ·have hi':i=ks.length:=by have:=of_decide_eq_false c1;omega
   have ha:fI ks=true:=List.all_eq_true.2 fun k hk=>by
    obtain⟨j,hj,rfl⟩:=List.getElem_of_mem hk;rw[<- bR hj];exact hkb j (by omega)
   and_intros<;>first|exact dc|rfl|exact aj.refl _ _ _|exact Nat.le_refl _|exact ha
 ·and_intros<;>first|exact dc|rfl|exact aj.refl _ _ _|exact Nat.le_refl _|exact hat|exact hall|exact fun z _ hn=>⟨rfl,hn⟩
 ·obtain⟨i,⟨H1,y1,x1,xc1⟩⟩:=z;obtain⟨hi,_,hat1,hfr1⟩:=hz;dsimp only at hi hat1 hfr1 ⊢;obtain⟨hok1,hok2,hok3⟩:=hok hall;rw[<- hm0]at hok1 hok2 hok3 hat1 ⊢;have hstep:gj m0 ks (i+1)=og (gj m0 ks i) (gl ks i):=rfl;simp only[Nat.zero_add,Int.toNat_natCast];refine⟨fun c1=>?_,fun c1=>?_⟩
  ·have hi':i<ks.length:=by have:=of_decide_eq_true c1;omega
   have hok1:=hok1 i hi';have hkey:dS (gl ks i)=true:=List.all_eq_true.1 hall (gl ks i) (by rw[bR hi'];exact List.getElem_mem _);obtain⟨it,hit⟩:∃it,it=iH (gl ks i):=⟨_,rfl⟩
   have hm:fV it=true:=by rw[hit];exact zP hkey
   obtain⟨M,hM⟩:∃M,M=gj m0 ks i:=⟨_,rfl⟩
   rw[<- hM]at hok1 hat1 hstep ⊢;rw[<- hit]at hok1;have hdF:og M (gl ks i)={ gZ M (aJ (some it))with l:=l8 (gZ M (aJ (some it))).l (gl ks i) }:=by rw[hit];rfl
   obtain⟨hb1,hb2⟩:=lW (o:=some it) (fun x e=>by cases e;exact hm);have hI:dD [it]=cT it:=by simp[dD]
   have hB:(aJ (some it)).length=1+(cT it).length:=by simp only[aJ,List.length_cons];omega
   have hr1:aj 1 4 (aM 4 [Value.string (gl ks i),Value.string (ByteArray.mk #[]),Value.int .i64 0,Value.bool true]) (aa kL [it]):=.dR fun i hi=>by
    have:i=0:=by omega
    subst this;rw[hit];rfl
   have hm1:∀i,i < [it].length->fV (gl [it] i)=true:=fun i hi=>by
    have:i=0:=by simp at hi;omega
    subst this;exact hm
   refine⟨by omega,by omega,Ee.mk [it] 1,?_⟩
   and_intros<;>first|exact dc|exact hr1|exact hm1|exact Nat.le_refl _|decide|skip
   intro c _;rw[hI]
   repeat refine kR ?_
   intro cap q1 q2 q3;refine⟨Ei.mk M ⟨H1,y1,x1,xc1⟩ (aJ (some it)) cap,?_⟩;have hr2:aj (aJ (some it)).length 1 (aZ (aM 1 [Value.int .u8 1]) 0 1 fun(i j:Nat)=>aa cE (cT it) (0+i) j) (aa cE (aJ (some it))):=⟨fun i hi j hj=>by
    have hj0:j=0:=by omega
    subst hj0;simp only[aZ,Nat.zero_add];by_cases h0:i<1
    ·have:i=0:=by omega
     subst this;rfl
    ·rw[if_neg h0];obtain⟨q,rfl⟩:∃q,i=q+1:=⟨i-1,by omega⟩
     simp only[aa,aJ,Nat.add_sub_cancel];congr 2⟩
   simp only[Nat.zero_add]at hr2
   and_intros<;>first|exact dc|rfl|exact aj.refl _ _ _|exact Nat.le_refl _|exact hr2|exact hat1|exact hat1.log|exact hat1.idx|exact hok1|exact hok1.log|exact hok1.x7|(dsimp only;omega)|skip
   rintro⟨H2,y2,x2,xc2⟩ ⟨⟨g1,g2⟩,hfr⟩;dsimp only at g1 g2 hfr ⊢;refine⟨Ix.tR.mk x2 xc2 (gl ks i),?_⟩;have hn:=Bu g2;have hln:(gZ M (aJ (some it))).l.length<=M.l.length:=List.length_filter_le _ _;have hfew:=hok1.x7;have hks:(gl ks i).size<=aq:=by
    have h40:(gl ks i).size<=40:=by have:=(qE hm).1;rw[hit]at this;exact this
    simp only[aq];omega
   obtain⟨hd1,hd2⟩:=JS (k:=gl ks i) g2
   and_intros<;>first|exact dc|rfl|exact aj.refl _ _ _|exact Nat.le_refl _|exact g2.inv|exact hks|exact hd2|(dsimp only;omega)|skip
   intro _ _;have hat2:ja (og M (gl ks i)) ⟨H2,y2,Ix.kH x2 (gl ks i),xc2⟩:=by rw[hdF];exact⟨g1,hd1⟩
   have hfr2:tS ⟨H,y,x,xc⟩ ⟨H2,y2,Ix.kH x2 (gl ks i),xc2⟩:=fun z hz hn=>by
    obtain⟨a1,a2⟩:=hfr1 z hz hn;obtain⟨b1,b2⟩:=hfr z (by rw[a1];exact hz) a2;exact⟨b1.trans a1,b2⟩
   refine⟨by simp only[bQ];omega,⟨i+1,⟨H2,y2,Ix.kH x2 (gl ks i),xc2⟩⟩,?_⟩;dsimp only;rw[hstep];rw[hdF]at hat2 ⊢
   and_intros<;>first|exact dc|rfl|exact aj.refl _ _ _|exact Nat.le_refl _|exact hat2|exact hfr2|exact hall|skip
  ·have hi':i=ks.length:=by have:=of_decide_eq_false c1;omega
   subst hi';have hat2:ja (Hs (gj m0 ks ks.length)) ⟨H1,y1,x1,xc1⟩:=⟨hat1.log,hat1.idx⟩
   refine⟨(gj m0 ks ks.length).d,?_⟩;rw[hyes hall,hall]
   and_intros<;>first|exact dc|rfl|exact aj.refl _ _ _|exact Nat.le_refl _|exact hok2|exact hok3|skip
   intro _ _;refine⟨⟨H1,y1,x1,xc1⟩,?_⟩
   and_intros<;>first|exact dc|rfl|exact aj.refl _ _ _|exact Nat.le_refl _|exact hat2|exact hfr1)
theorem PX:ak (Y Tryz.prog).G.X 135 Ht:=aU fF PW ⟨x6,Gy,Hp,Ix.JR,iG,trivial⟩
theorem Tu{n:Nat}:aj n 4 (fun(x j:Nat)=>[Go.Value.string { data:=#[] },Go.Value.int Go.IntKind.i64 0,Go.Value.bool Bool.false,Go.Value.bool Bool.false].getD j (Go.Value.tuple #[])) (aa Ix.CQ (Ix.bI n).t):=by
 refine .dR fun i hi=>?_;unfold aa;rw[show gl (Ix.bI n).t i=⟨.empty,0,false,false⟩from Ix.sY hi];rfl
theorem PY:aj 16 4 (fun(x j:Nat)=>[Go.Value.string { data:=#[] },Go.Value.int Go.IntKind.i64 0,Go.Value.bool Bool.false,Go.Value.bool Bool.false].getD j (Go.Value.tuple #[])) (aa Ix.CQ (Ix.bI 16).t):=Tu
noncomputable def Ob:cC where
 α:=Unit
 β:=Unit
 m:=0
 m':=2
 pre:=fun _=>True
 args:=fun _=>[]
 hp:=fun _=>[]
 ro:=fun _=>[]
 post:=fun _ _=>True
 res:=fun _ _=>.a (.ptr 0 0 0 0)
 cW:=fun _ _=>Ix.o4 0 1 (Ix.bI 16).t 16 (Ix.bI 16).n (Ix.bI 16).used
theorem Tv:fnBody (Y Tryz.prog) [] 178 Ob fun _=>[]:=fnBody.of (p :=
 aI (lQ 16 512 (Exists (ax (ag (bC 16 16/\cF 0 0 (aK 16 16 4 Hi (de (Ix.bI 16).t)) (True/\True))))))) (by kernel_rfl) (by
 delta aP aK cF bq bW cR bD dO bS aI bC bH lQ ax gd ag dZ dK de Hi
 try dsimp -iota -proj only
 intro _ _;refine⟨by omega,by omega,by omega,(),?_⟩
 and_intros<;>first|exact dc|rfl|exact aj.refl _ _ _|exact Nat.le_refl _|exact PY)
theorem JV:ak (Y Tryz.prog).G.X 178 Ob:=aU fF Tv trivial
def vD(l:List (ByteArray×Int))(o:Option aG)(pos:Int):List (ByteArray×Int):=match o with
 |none=>[]
 |some x=>if x.gone then l8 l x.key else Ej l x.key pos
def nj(es:List (Option aG))(rs:List RecM):Nat->List (ByteArray×Int)
 |0=>[]
 |i+1=>vD (nj es rs i) (gl es i) (gl rs i).pos
theorem Fb(es:List (Option aG))(rs:List RecM):∀i,(nj es rs i).length<=i
 |0=>Nat.le_refl _
 |i+1=>by
  have:=Fb es rs i;show(vD _ _ _).length<=_;unfold vD;split
  ·simp
  ·split
   ·have:=Fa (nj es rs i) (by assumption:aG).key;omega
   ·have:=JT (nj es rs i) (by assumption:aG).key (gl rs i).pos;omega
theorem Hx{l:List dy}{i k:Nat}(hi:i<l.length)(hk:k<(gl l i).aR.length):∃j,j<(fW l).length/\gl (fW l) j=gl (gl l i).aR k:=by
 have hm:gl (gl l i).aR k∈fW l:=List.mem_flatMap.2 ⟨gl l i,by rw[bR hi];exact List.getElem_mem _,by rw[bR hk];exact List.getElem_mem _⟩;obtain⟨j,hj,e⟩:=List.getElem_of_mem hm;exact⟨j,hj,by rw[bR hj];exact e⟩
structure lq where
 H:PH
 d:bz
 from_:Nat
 au:Nat
 es:List (Option aG)
def JW(a:lq):nU:=⟨cK a.from_ a.au a.d,a.d,nj a.es (fW (cK a.from_ a.au a.d).l) a.es.length⟩
structure Xy(es:List (Option aG))(rs:List RecM):Prop where
 len:es.length=rs.length
 x7:es.length<9000
 at_:∀i,i<es.length->(gl rs i).body=aJ (gl es i)/\∀x,gl es i=some x->fV x=true
noncomputable def zS:cC where
 α:=lq
 β:=rU
 m:=3
 m':=8
 pre:=fun a=>q9 a.from_ a.au a.d/\Xy a.es (fW (cK a.from_ a.au a.d).l)/\∀i,i<(cK a.from_ a.au a.d).l.length->(gl (cK a.from_ a.au a.d).l i).aR.length<=400
 args:=fun a=>[.a (.ptr 0 0 0 0),.a (.int .i64 a.from_),.a (.int .i64 a.au)]
 hp:=fun a=>[(2,.cA a.H)]
 ro:=fun a=>gG 0 1 a.d
 post:=fun a b=>ja (JW a) b/\∀z,a.H z≠none->b.H z=a.H z/\z∉br b.y
 res:=fun a b=>.mm [.a (.ptr 3 0 0 0),.a (.lit .i64 0)]
 cW:=fun a b=>[(3,.obj 205 [.ptr 4 0 0 0,.ptr 5 0 0 0]),(4,fS 0 (JW a).L b.y.lv)]++Ix.o4 5 6 b.x.t b.cap b.x.n b.x.used++[(7,.cA b.H)]
structure uV where
 i:Nat
 x:Ix.cH
 cap:Nat
def S.ix(s:S)(c:Nat)(x:Ix.cH)(cap:Nat):S :=
 (((s.put ((s.hp.del (s.pK (s.pK c 1) 0)).del (s.pK c 1))).new (.arr 251 Ix.Yp x.t.length (aa Ix.CQ x.t))).new (.obj 247 [.slc s.nx 0 4 x.t.length cap,.int .i64 x.n,.int .i64 x.used])).at_ c (.obj 205 [.ptr (s.pK c 0) 0 0 0,.ptr (s.nx+1) 0 0 0])
def Xz(a:lq):An:=.flat 6 uV (fun s z=>(S.ix s (s.tg 10) z.x z.cap).int 32 z.i) (fun _ z=>z.i<=a.es.length/\Ix.Has z.x (nj a.es (fW (cK a.from_ a.au a.d).l) z.i)) (fun _ z=>a.es.length-z.i)
noncomputable def Tw:List (Nat×cC):=[(175,G6),(178,Ob),(176,N2),(179,N8),(180,Ix.N7),(123,Ix.Ci)]
def Hy(z:vY)(x:lq)(u:IP)(w:mE)(s:Prop):=jj z.v (ag (bT (aW (eo (aC 0) (cF (af x.from_) (af x.au) (z.H=z.H) (az (ag (fq (cK u.from_ u.au u.d) w.y (gz x.d x.d s)))))))))
def C3(z:uV)(y:lq):=Ix.Has z.x (nj y.es (fW (cK y.from_ y.au y.d).l) z.i)
def Oc(z:uV)(v:vY)(u:lq)(w:IP)(s:mE)(t:Ix.cH)(f:Nat):=aS z.i/\∃y:uV,bx z.i y.i/\Hy v u w s (zK t y.x f y.cap (dY y.i u.es.length (C3 y u) z.i))
noncomputable def Ms(v:V1 uU.α)(y:uV)(w:vY)(s:lq)(t:IP)(f:mE)(g:List Value)(h:Nat):=qu v.a.o.isSome (aG.gone (jk v.a.o)) (∃u:Ix.tR,ag (aG.key (jk v.a.o)=u.key/\zK y.x u.x y.cap u.cap (zI u/\aI (Oc y w s t f (Ix.kH u.x u.key) u.cap)))) (aD v.a.o.isSome (ah (js (aP g h))->∃z:Ix.mg,ag (aG.key (jk v.a.o)=z.key/\js (aP g h)=z.pos/\zK y.x z.x y.cap z.cap (zH z/\∀i:Nat,True->Oc y w s t f (Ix.tQ z.x z.key z.pos) i))) (Oc y w s t f y.x y.cap))
def zT(x y:Nat)(z:bz)(v:Prop):=q9 x y z/\v/\∀u:Nat,u<bB (cK x y z)->oM (cK x y z) u<=400
theorem PZ:fnBody (Y Tryz.prog) Tw 130 zS fun a=>[(130,[Xz a],[])]:=fnBody.of (p :=
 ∀z:lq,zT z.from_ z.au z.d (Xy z.es (fW (cK z.from_ z.au z.d).l))->∃u:IP,ag (bA z.from_ u.from_/\bA z.au u.au/\z.H=u.H/\gz z.d u.d (q9 u.from_ u.au u.d/\∀k:mE,xl k u->Exists (ax (cS (∃q:tJ,eo (k.H=q.H) (tO (cK u.from_ u.au u.d) q.L k.y.lv q.y.lv (zw q/\∀f:vY,zv f q->Exists (eC f.v)/\(∃w:uV,aA w.i (Hy f z u k (mK 16 w.x 16 w.cap 0 0 (de (Ix.bI 16).t) (w.i<=z.es.length/\C3 w z))))/\∀w:uV,w.i<=z.es.length/\C3 w z->uL w.i f.v (fun s=>f.H s) (fun s h=>∃g:V1 uU.α,aP h (s+1)=g.v/\f.H=g.H/\(zM g.a.o g.a.cap/\jZ g.H g.v (iN (CK.int .u8)) (Bt g.a).n (Bt g.a).cap (Bt g.a).rows)/\∀e:uU.β,True->Exists (eC (aP h (s+1)))/\aD (af (dr (aP h (s+1))) == (1:Int)) (Exists (iM (aP h (s+1)) 0 fun r c=>mF r c 0 (fun m=>f.H m) (fun m=>∃p:Int,m=fA p/\jE p) (fun m p=>True) fun m p=>jE (js (aP p m))->aD (js (aP p m) == (2:Int)) (Exists (ax (cS (aS w.i/\∃j:uV,bx w.i j.i/\Hy f z u k (ag (16=bG j.x/\16=j.cap)/\aA j.x.n (aA j.x.used (aK (bG j.x) 16 4 (de (Ix.bI 16).t) (de j.x.t)/\dY j.i z.es.length (C3 j z) w.i))))))) (Ms g w f z u k h s))) (Ms g w f z u k h s)) (∃s:rU,ag (aW (az (fH (cK u.from_ u.au u.d) (JW z).L k.y s.y (zK w.x s.x w.cap s.cap (f.H=s.H /\
 (ja (JW z) s/\∀h:Nat,oN (z.H h) (s.H h) (br s.y) h)/\True)))))))))))))) (by kernel_rfl) (by
 delta qu aD aP av aK cF ah bW ay aC aF bG af bK mF dY aX fA aB dO aV eo cV Oc eC aI bT bp oZ bB gA fq xg mK Ms ax xl aS iM aA aW jj zT ag aY zv uL Hy oN zI bx jk az gR iN C3 zw bu bA jE zM fH cS oM de ji zH
 try dsimp -iota -proj only
 rintro⟨H,d,fr,sg,es⟩ ⟨ok,hes,hsl⟩;dsimp only at *;obtain⟨L,hL⟩:∃L,L=cK fr sg d:=⟨_,rfl⟩
 have hone:L.l.length<=1:=by rw[hL];exact ok.one
 have hopn:JW ⟨H,d,fr,sg,es⟩=⟨L,d,nj es (fW L.l) es.length⟩:=by rw[hL];rfl
 rw[hopn];rw[<- hL]at hes hsl;refine⟨IP.mk H d fr sg,?_⟩;dsimp only;rw[<- hL]
 and_intros<;>first|exact dc|rfl|exact aj.refl _ _ _|exact Nat.le_refl _|exact ok|skip
 rintro⟨H1,y1⟩ ⟨hl1,hf1⟩;dsimp only at hl1 hf1 ⊢;refine⟨(),trivial,fun _ _=>⟨tJ.mk H1 y1 L,?_⟩⟩;have hrec:∀i,i<L.l.length->(gl L.l i).aR.length<=400/\∀k,k<(gl L.l i).aR.length->1<=(gl (gl L.l i).aR k).body.length/\(gl (gl L.l i).aR k).body.length<=1000:=fun i hi=>⟨hsl i hi,fun k hk=>by
  obtain⟨j,hj,e⟩:=Hx hi hk;obtain⟨e1,e2⟩:=hes.at_ j (by rw[hes.len];exact hj);rw[<- e,e1];have:=lW e2;omega⟩
 and_intros<;>first|exact dc|rfl|exact aj.refl _ _ _|exact Nat.le_refl _|exact hl1|exact hrec|(dsimp only;omega)|skip
 rintro⟨H2,v,vs⟩ ⟨hout,hf2⟩;dsimp only at hout hf2 ⊢;obtain⟨cr,hrows⟩:=hout.rows;obtain⟨s1,s2,s3,s4,s5,⟨sa,s6⟩,s7⟩:=e9 hrows;have hlen:=hes.len;have hfew:=hes.x7;have hlog:bU H2 y1 L:=hl1.frame fun z hz=>(hf2 z (hl1.dom z hz)).1;have hfin:∀z,H z≠none->H2 z=H z/\¬z∈br y1:=fun z hz=>by
  obtain⟨a1,a2⟩:=hf1 z hz;exact⟨(hf2 z (by rw[a1];exact hz)).1.trans a1,a2⟩
 refine⟨⟨sa,_,_,s6,by simp only[aq];omega⟩,⟨⟨0,Ix.bI 16,16⟩,?_⟩,fun q hq=>?_⟩
 ·have h0:Ix.Has (Ix.bI 16) (nj es (fW L.l) 0):=Ix.vC (by omega) (by omega)
  and_intros<;>first|exact dc|rfl|exact aj.refl _ _ _|exact Nat.le_refl _|exact h0
 ·obtain⟨i,x,xc⟩:=q;obtain⟨hi,hx⟩:=hq;dsimp only at hi hx ⊢;have hxl:(nj es (fW L.l) i).length<=i:=Fb es (fW L.l) i;have hn:=Bu hx;have hstep:nj es (fW L.l) (i+1)=vD (nj es (fW L.l) i) (gl es i) (gl (fW L.l) i).pos:=rfl;rw[s1];refine⟨fun c1=>?_,fun c1=>⟨⟨H2,y1,x,xc⟩,?_⟩⟩
  ·have hi':i<es.length:=by have:=of_decide_eq_true c1;omega
   obtain⟨b',lo',o',cs',q1,q2,q3,q4,q5,q6,q7,q8⟩:=uK hrows (k:=i) (by omega);obtain⟨cb,hbody⟩:=hout.body i (by omega);obtain⟨e1,e2⟩:=hes.at_ i hi';rw[e1]at hbody;obtain⟨w1,w2,w3,w4,w5,⟨wa,w7⟩,w6⟩:=e9 hbody;obtain⟨hb1,hb2⟩:=lW e2;refine⟨_,_,_,_,q1,by omega,b',lo',o'+i*2,cs',by rw[Int.toNat_natCast];congr 1;omega,q2,⟨⟨_,q3,_,rfl,q6⟩,⟨_,q4,q5⟩,trivial⟩,?_⟩;rw[q7,q8];refine⟨⟨⟨gl es i,cb⟩,H2,vs.getD i undef⟩,rfl,rfl,⟨⟨e2,w3⟩,hbody⟩,fun _ _=>⟨⟨wa,_,_,w7,by simp only[aq];omega⟩,?_⟩⟩;rw[w1];dsimp only[js];cases ho:gl es i with
   |none =>
    rw[ho]at hbody hstep;refine⟨fun _=>?_,fun c=>absurd c (by simp[aJ])⟩;rcases hbody with⟨_,h0,_⟩ | ⟨b9,lo9,o9,cs9,h9,h91,h92,h93,h94⟩
    ·cases h0
    obtain⟨k1,_⟩:=h94.at_ 0 (by simp[aJ]) 0 (.int .u8) rfl;have k1:cs9[o9]? = some (.int .u8 2):=k1;have k2:cs9.getD o9 (Value.tuple #[]) = .int .u8 2:=by rw[List.getD_eq_getElem?_getD,k1];rfl
    refine⟨_,_,_,_,h9,by simp[aJ],b9,lo9,o9,cs9,rfl,h92,⟨⟨_,k1,2,rfl,by simp only[bQ];omega⟩,trivial⟩,fun _=>?_⟩;rw[k2];dsimp only[js];refine⟨fun _=>⟨(),trivial,fun _ _=>⟨by simp only[bQ];omega,⟨i+1,Ix.bI 16,16⟩,?_⟩⟩,fun c=>absurd c (by decide)⟩;have h0:Ix.Has (Ix.bI 16) (nj es (fW L.l) (i+1)):=by rw[hstep];exact Ix.vC (by omega) (by omega)
    and_intros<;>first|exact dc|rfl|exact aj.refl _ _ _|exact Nat.le_refl _|exact h0|(dsimp only;omega)
   |some it =>
    rw[ho]at hbody hstep e2;have hmay:=e2 it rfl;have hks:it.key.size<=aq:=by have:=qE hmay;simp only[aq];omega
    have hl2:(aJ (some it)).length≠1:=by have:=E7 hmay;simp only[aJ,List.length_cons];omega
    have hl3:(((aJ (some it)).length:Int) == 1)=false:=by rw[beq_eq_false_iff_ne];omega
    refine⟨fun c=>by(rw[hl3]at c;cases c),fun _=>⟨fun _=>⟨fun cg=>⟨Ix.tR.mk x xc it.key,?_⟩,fun cg=>⟨fun _ _=>⟨Ix.mg.mk x xc it.key (gl (fW L.l) i).pos,?_⟩,fun c=>absurd c (show ¬(true=false)by decide)⟩⟩,fun c=>absurd c (show ¬(true=false)by decide)⟩⟩
    ·have cg:it.gone=true:=cg;obtain⟨hd1,hd2⟩:=JS (k:=it.key) hx;have hd3:Ix.Has (Ix.kH x it.key) (nj es (fW L.l) (i+1)):=by rw[hstep];simp only[vD,cg,if_true];exact hd1
     and_intros<;>first|exact dc|rfl|exact aj.refl _ _ _|exact Nat.le_refl _|exact hx.inv|exact hks|exact hd2|(dsimp only;omega)|skip
     intro _ _;refine⟨by simp only[bQ];omega,⟨i+1,Ix.kH x it.key,xc⟩,?_⟩
     and_intros<;>first|exact dc|rfl|exact aj.refl _ _ _|exact Nat.le_refl _|exact hd3|(dsimp only;omega)
    ·have cg:it.gone=false:=cg;have hp1:=N9 (p:=(gl (fW L.l) i).pos) hx (by omega) hks;have hp3:Ix.Has (Ix.tQ x it.key (gl (fW L.l) i).pos) (nj es (fW L.l) (i+1)):=by rw[hstep];simp only[vD,cg];exact hp1
     and_intros<;>first|exact dc|rfl|exact aj.refl _ _ _|exact Nat.le_refl _|exact hx.inv|exact hks|(dsimp only;omega)|skip
     intro c2 _;refine⟨by simp only[bQ];omega,⟨i+1,Ix.tQ x it.key (gl (fW L.l) i).pos,c2⟩,?_⟩
     and_intros<;>first|exact dc|rfl|exact aj.refl _ _ _|exact Nat.le_refl _|exact hp3|(dsimp only;omega)
  ·have hi':i=es.length:=by have:=of_decide_eq_false c1;omega
   subst hi'
   and_intros<;>first|exact dc|rfl|exact aj.refl _ _ _|exact Nat.le_refl _|exact⟨hlog,hx⟩|exact hfin)
theorem P0:ak (Y Tryz.prog).G.X 130 zS:=aU fF PZ ⟨EV,JV,JN,Mq,Ix.JR,Ix.Bo,trivial⟩
structure eR where
 seq:Int
 key:ByteArray
 pos:Int
 deriving Inhabited
def rq:List CK:=[.int .i64,.str,.int .i64]
def cI(x:eR):List Value:=[.int .i64 x.seq,.string x.key,.int .i64 x.pos]
@[reducible] def we(a b:List eR)(v w:Nat)(p:Prop):Prop:=(0=0/\a.length=b.length/\v=w)/\(b.length<=a.length/\aj b.length 3 (aa cI a) (aa cI b))/\p
def dG(f:Int)(ms:List eR):List eR:=ms.filter fun x=>decide (f<=x.pos)
def WD(lg ma:Nat)(n cap:Nat):Chunk:=.obj 226 [.ptr lg 0 0 0,.slc ma 0 3 n cap]
structure nk where
 ms:List eR
 cap:Nat
 H:PH
 y:gQ
 L:bN
noncomputable def Tx:cC where
 α:=nk
 β:=Int
 m:=6
 m':=6
 pre:=fun a=>bU a.H a.y a.L/\a.L.l.length<1000/\a.ms.length<100000
 args:=fun a=>[.a (.slc 0 0 3 a.ms.length a.cap),.Bd 183 [.ptr 1 0 0 0]]
 hp:=fun _=>[]
 ro:=fun a=>[(0,.arr 228 rq a.ms.length (aa cI a.ms)),(1,.obj 85 [.ptr 2 0 0 0]),(2,WD 3 0 a.ms.length a.cap),(3,fS 4 a.L a.y.lv),(5,.cA a.H)]
 post:=fun a r=>(r = -1/\∀i,i<a.ms.length->cB a.L<=(gl a.ms i).pos)\/∃i:Nat,r=i/\i<a.ms.length/\(gl a.ms i).pos<cB a.L/\∀j,j<i->cB a.L<=(gl a.ms j).pos
 res:=fun _ r=>.a (.int .i64 r)
 cW:=fun _ _=>[]
def YV(a:nk):An:=.flat 2 Nat (fun s k=>s.int 8 k) (fun _ k=>k<=a.ms.length/\∀j,j<k->cB a.L<=(gl a.ms j).pos) (fun _ k=>a.ms.length-k)
def bY(x:List eR):Nat:=x.length
def xu(z:Nat)(x:nk):=∀y:Nat,y<z->cB x.L<=(gl x.ms y).pos
def C4(z:Int)(x:nk):=z=(-1:Int)/\xu (bY x.ms) x\/∃y:Nat,z=af y/\y<bY x.ms/\(gl x.ms y).pos<cB x.L/\xu y x
def uW(x y:Nat)(z:Prop):=cF (af x) 0 (bC x y) z
def Mt(x:nk)(z:Prop):=uW (bY x.ms) x.cap (ag (dN (bY x.ms) 3 (aa cI x.ms)/\az (bC (bY x.ms) x.cap/\ag (fq x.L x.y (x.H=x.H/\z)))))
theorem Ty:fnBody (Y Tryz.prog) [(164,CI)] 211 Tx fun a=>[(211,[YV a],[])]:=fnBody.of (p :=
 ∀x:nk,bU x.H x.y x.L/\bB x.L<1000/\bY x.ms<100000->(∃z:Nat,aA z (Mt x ((z<=bY x.ms/\xu z x)/\True)))/\∀z:Nat,z<=bY x.ms/\xu z x->gp z (bY x.ms) (ah (gl x.ms (0+ay z)).pos->∃u:Ef,az (oO x.L u.L x.y u.y x.H u.H (bB u.L<1000) (aI (aD (aF (gl x.ms (0+ay z)).pos (iV u.L.l u.L.next)) (∃v:Int,af z=v/\C4 v x/\True) (cO z fun v=>Mt x (dY v (bY x.ms) (xu v x) z)))))) (∃w:Int,(-1:Int)=w/\C4 w x/\True)) (by kernel_rfl) (by
 delta aD aK cF ah bW ay eO aF af dY aX aB aV dN aI gp bY bC cO bB fq aS C4 aA ag aY bx az oO xu uW Mt dQ
 try dsimp -iota -proj only
 rintro⟨ms,cap,H,y,L⟩ ⟨hl,hf,hn⟩;dsimp only at *;have h0:∀j,j<0->cB L<=(gl ms j).pos:=fun j hj=>absurd hj (Nat.not_lt_zero j);refine⟨⟨0,?_⟩,fun i hi=>?_⟩
 ·and_intros<;>first|exact cm|exact h0|(intro h_;revert h_)|exact cn|skip
 obtain⟨hi,hall⟩:=hi;rw[show 0+(i:Int).toNat=i by omega];refine⟨fun c1=>?_,fun c1=>⟨-1,rfl,.inl ⟨rfl,fun j hj=>hall j (by have:=of_decide_eq_false c1;omega)⟩,trivial⟩⟩;have hlt:i<ms.length:=by have:=of_decide_eq_true c1;omega
 refine⟨⟨by omega,by omega⟩,hlt,fun _=>⟨Ef.mk H y L,?_⟩⟩
 and_intros<;>first|exact cm|exact hl|exact hf|(intro h_;revert h_)|exact cn|skip
 intro _ _;refine⟨fun c2=>⟨i,rfl,.inr ⟨i,rfl,hlt,of_decide_eq_true c2,hall⟩,trivial⟩,fun c2=>⟨by simp only[bQ];omega,i+1,?_⟩⟩;have c2:¬(gl ms i).pos<cB L:=of_decide_eq_false c2;have h1:∀j,j<i+1->cB L<=(gl ms j).pos:=fun j hj=>by
  by_cases e:j=i
  ·subst e;omega
  ·exact hall j (by omega)
 and_intros<;>first|exact cm|exact h1|(intro h_;revert h_)|exact cn|skip)
theorem Tz:ak (Y Tryz.prog).G.X 211 Tx:=aU fF Ty ⟨zu,trivial⟩
def qw(f:Int)(ms:List eR)(j:Nat):List eR:=dG f (ms.take j)++ms.drop (dG f (ms.take j)).length
noncomputable def TA:cC where
 α:=nk
 β:=Unit
 m:=6
 m':=6
 pre:=fun a=>bU a.H a.y a.L/\a.L.l.length<1000/\a.ms.length<100000/\a.ms.length<=a.cap
 args:=fun a=>[.a (.slc 0 0 3 a.ms.length a.cap),.Bd 183 [.ptr 1 0 0 0]]
 hp:=fun a=>[(0,.arr 228 rq a.ms.length (aa cI a.ms))]
 ro:=fun a=>[(1,.obj 85 [.ptr 2 0 0 0]),(2,WD 3 0 a.ms.length a.cap),(3,fS 4 a.L a.y.lv),(5,.cA a.H)]
 post:=fun _ _=>True
 res:=fun a _=>.a (.slc 0 0 3 (dG (cB a.L) a.ms).length a.cap)
 cW:=fun a _=>[(0,.arr 228 rq (dG (cB a.L) a.ms).length (aa cI (dG (cB a.L) a.ms)))]
theorem pO{f:Int}{ms:List eR}{j:Nat}(hj:j<ms.length):dG f (ms.take (j+1))=if f<=(gl ms j).pos then dG f (ms.take j)++[gl ms j]else dG f (ms.take j):=by
 unfold dG;rw[pM hj,List.filter_append];by_cases h:f<=(gl ms j).pos
 ·rw[if_pos h];simp[h]
 ·rw[if_neg h];simp[h]
theorem Bv(f:Int)(ms:List eR)(j:Nat):(dG f (ms.take j)).length<=j:=Nat.le_trans (List.length_filter_le _ _) (by rw[List.length_take];omega)
theorem JX{f:Int}{ms:List eR}(h:∀i,i<ms.length->f<=(gl ms i).pos):dG f ms=ms:=by
 unfold dG;rw[List.filter_eq_self];intro x hx;obtain⟨i,hi,rfl⟩:=List.getElem_of_mem hx;rw[<- bR hi];exact decide_eq_true (h i hi)
theorem AQ{f:Int}{ms:List eR}:∀ {k:Nat},k<=ms.length->(∀i,i<k->f<=(gl ms i).pos)->dG f (ms.take k)=ms.take k
 |0,_,_=>rfl
 |k+1,hk,h=>by rw[pO (by omega),if_pos (h k (by omega)),AQ (by omega) fun i hi=>h i (by omega),pM (by omega)]
theorem VV{f:Int}{ms:List eR}{j:Nat}(hj:j<ms.length):gl (qw f ms j) j=gl ms j:=by
 have h1:=Bv f ms j;obtain⟨q,hq⟩:∃q,j=(dG f (ms.take j)).length+q:=⟨j-(dG f (ms.take j)).length,by omega⟩
 have h2:gl (qw f ms j) ((dG f (ms.take j)).length+q)=gl (ms.drop (dG f (ms.take j)).length) q:=bf;rw[<- hq]at h2;rw[h2,bR (by rw[List.length_drop];omega),bR hj,List.getElem_drop];congr 1;omega
theorem TB{f:Int}{ms:List eR}{j:Nat}(hj:j<ms.length)(h:f<=(gl ms j).pos):qw f ms (j+1)=(qw f ms j).set (dG f (ms.take j)).length (gl ms j):=by
 have h1:=Bv f ms j;unfold qw;rw[pO hj,if_pos h,List.length_append,List.length_singleton,List.set_append_right _ _ (Nat.le_refl _),Nat.sub_self,List.drop_eq_getElem_cons (show(dG f (ms.take j)).length<ms.length by omega),List.set_cons_zero,List.append_assoc];rfl
theorem VW{f:Int}{ms:List eR}{j:Nat}(hj:j<ms.length)(h:¬f<=(gl ms j).pos):qw f ms (j+1)=qw f ms j:=by
 unfold qw;rw[pO hj,if_neg h]
theorem TC(f:Int)(ms:List eR){j:Nat}(hj:j<=ms.length):(qw f ms j).length=ms.length:=by
 have h1:=Bv f ms j;unfold qw;rw[List.length_append,List.length_drop];omega
def YW(a:nk):An:=.flat 5 Nat (fun s j=>((s.at_ 0 (.arr 228 rq a.ms.length (aa cI (qw (cB a.L) a.ms j)))).int 5 ((dG (cB a.L) (a.ms.take j)).length:Nat)).int 6 j) (fun _ j=>j<=a.ms.length) (fun _ j=>a.ms.length-j)
def ql(x:nk)(y:Nat):Nat:=bY (dG (cB x.L) (List.take y x.ms))
def Hz(u:Int)(x:nk)(z:Nat)(v:Int)(w:Nat->Nat->Value)(s:Prop):=u=af (ql x z)/\bK (v == (-1:Int)) (bC (bY x.ms) x.cap/\ag (aK (bY x.ms) (bY x.ms) 3 w (aa cI (qw (cB x.L) x.ms z))/\az (bC (bY x.ms) x.cap/\ag (fq x.L x.y (x.H=x.H/\s)))))
def zU(x:nk)(y:Nat):eR:=gl (qw (cB x.L) x.ms y) (0+ay y)
def HA(z:List eR)(x:nk)(u:Nat)(v:bN)(w:gQ)(s:PH)(t f:Prop):=dP (bY z) (bY x.ms) u x.cap (0=0) 3 (aa cI z) (aa cI x.ms) (az (ag (bY z=bY x.ms/\u=x.cap)/\ag (oO v x.L w x.y s x.H (bB x.L<1000/\t) f)))
theorem TD:fnBody (Y Tryz.prog) [(164,CI),(211,Tx)] 182 TA fun a=>[(182,[YW a],[])]:=fnBody.of (p :=
 ∀x:nk,bU x.H x.y x.L/\bB x.L<1000/\bY x.ms<100000/\bY x.ms<=x.cap->∃s:nk,HA x.ms s x.cap x.L x.y x.H (bY s.ms<100000) (∀u:Int,C4 u s->aD (u == (-1:Int)) (Exists (ax (we x.ms (dG (cB x.L) x.ms) x.cap x.cap (True/\True)))) (ah (u+(1:Int))/\(∃z:Nat,u+(1:Int)=af z/\Hz u x z u (aa cI x.ms) (z<=bY x.ms/\True))/\∀z:Nat,fO z (bY x.ms) (ah (eR.pos (zU x z))->∃v:Ef,az (oO x.L v.L x.y v.y x.H v.H (bB v.L<1000) (aI (aD (bn (aF (eR.pos (zU x z)) (iV v.L.l v.L.next))) (dQ (ql x z) (bY x.ms) (aS (ql x z)/\cO z fun w=>Hz (af (ql x z)+(1:Int)) x w u (jY (aa cI (qw (cB x.L) x.ms z)) (0+ay (ql x z)) 0 (bq (eR.seq (zU x z)) (dZ (eR.key (zU x z)) (eR.pos (zU x z)) []))) (bF w (bY x.ms) z))) (cO z fun w=>Hz (af (ql x z)) x w u (aa cI (qw (cB x.L) x.ms z)) (bF w (bY x.ms) z)))))) (cU (af (ql x z)) (bY x.ms)/\cU (af (ql x z)) x.cap/\Exists (ax (ag (ay (ql x z)-0=bY (dG (cB x.L) x.ms)/\x.cap-0=x.cap)/\bl (aK (bY (dG (cB x.L) x.ms)) (bY x.ms) 3 (fun t=>zj (ql x z) t (bY x.ms) (bq 0 (dZ cR 0 [])) fun v=>aa cI (qw (cB x.L) x.ms z) t v) (aa cI (dG (cB x.L) x.ms))))))))) (by kernel_rfl) (by
 delta aD aP aK ah bq bW ay eO aF af bK cR dX aX aB dO aV bS aI gp bY bC cO bB bH dP bF fq ql ax aS C4 Hz ag aY bx az oO fO bn bl dZ xu zU dQ HA cU zj
 try dsimp -iota -proj only
 rintro⟨ms,cap,H,y,L⟩ ⟨hl,hf,hn,hcap⟩;dsimp only at *;refine⟨nk.mk ms cap H y L,?_⟩
 and_intros<;>first|exact cm|exact hl|exact hf|exact hn|(intro h_;revert h_)|exact cn|skip
 intro b hb;dsimp only at hb;obtain⟨f,hff⟩:∃f,f=cB L:=⟨_,rfl⟩
 rw[<- hff]at hb;rw[<- hff];refine⟨fun c=>⟨(),?_⟩,fun c=>?_⟩
 ·have hk:dG f ms=ms:=by
   rcases hb with⟨_,h⟩ | ⟨i,hi,_⟩
   ·exact JX h
   ·have:=eq_of_beq c;omega
  rw[hk]
  and_intros<;>first|exact cm|(intro h_;revert h_)|exact cn|skip
 rcases hb with⟨h,_⟩ | ⟨i0,rfl,hi0,hlt,hall⟩
 ·rw[h]at c;cases c
 have hk0:dG f (ms.take i0)=ms.take i0:=AQ (by omega) hall;have hk1:dG f (ms.take (i0+1))=ms.take i0:=by rw[pO hi0,if_neg (by omega),hk0]
 have hl0:(dG f (ms.take (i0+1))).length=i0:=by rw[hk1,List.length_take];omega
 have hd0:qw f ms (i0+1)=ms:=by unfold qw;rw[hl0,hk1,List.take_append_drop]
 refine⟨by simp only[bQ];omega,⟨i0+1,?_⟩,fun j hj=>?_⟩
 ·rw[hl0,hd0]
  and_intros<;>first|exact cm|(intro h_;revert h_)|exact cn|skip
 have hcj:=Bv f ms j;obtain⟨c1,hc1⟩:∃c1,c1=(dG f (ms.take j)).length:=⟨_,rfl⟩
 rw[<- hc1]at hcj;rw[<- hc1,show 0+(j:Int).toNat=j by omega,show 0+(c1:Int).toNat=c1 by omega,show(c1:Int).toNat=c1 by omega];refine⟨fun d1=>?_,fun d1=>?_⟩
 ·have hj2:j<ms.length:=by have:=of_decide_eq_true d1;omega
  rw[VV hj2];refine⟨⟨by omega,by omega⟩,hj2,fun _=>⟨Ef.mk H y L,?_⟩⟩
  and_intros<;>first|exact cm|exact hl|exact hf|(intro h_;revert h_)|exact cn|skip
  intro _ _;dsimp only;rw[show iV L.l L.next=f from hff.symm];refine⟨fun d2=>?_,fun d2=>?_⟩
  ·have hp:f<=(gl ms j).pos:=by simp only[Bool.not_eq_true',decide_eq_false_iff_not]at d2;omega
   have hk2:(dG f (ms.take (j+1))).length=c1+1:=by rw[pO hj2,if_pos hp,List.length_append,<- hc1];rfl
   have hr:aj ms.length 3 (jY (aa cI (qw f ms j)) c1 0 [Value.int .i64 (gl ms j).seq,Value.string (gl ms j).key,Value.int .i64 (gl ms j).pos]) (aa cI (qw f ms (j+1))):=by
    rw[TB hj2 hp,<- hc1];exact aj.set c1 (by rw[TC f ms (by omega)];omega) (fun i hi=>gO hi) (by rw[iX];rfl)
   refine⟨⟨by omega,by omega⟩,by omega,by simp only[bQ];omega,by simp only[bQ];omega,j+1,?_⟩;rw[hk2]
   and_intros<;>first|exact cm|exact hr|(intro h_;revert h_)|exact cn|skip
  ·have hp:¬f<=(gl ms j).pos:=by simp only[Bool.not_eq_false',decide_eq_true_eq]at d2;omega
   have hk2:(dG f (ms.take (j+1))).length=c1:=by rw[pO hj2,if_neg hp,<- hc1]
   refine⟨by simp only[bQ];omega,j+1,?_⟩;rw[hk2,VW hj2 hp]
   and_intros<;>first|exact cm|(intro h_;revert h_)|exact cn|skip
 ·have hj2:j=ms.length:=by have:=of_decide_eq_false d1;omega
  subst hj2;have hk:(dG f ms).length=c1:=by rw[hc1,List.take_length]
  rw[hk];have hr:aj c1 3 (fun(i j:Nat)=>if c1<=i/\i<c1+(ms.length-c1)then[Value.int .i64 0,Value.string (ByteArray.mk #[]),Value.int .i64 0].getD j (Value.tuple #[])else aa cI (qw f ms ms.length) i j) (aa cI (dG f ms)):=⟨fun i hi j hj=>by
   rw[if_neg (by omega)];unfold aa qw;rw[bJ (by rw[List.take_length,hk];exact hi),List.take_length]⟩
  refine⟨⟨by omega,by omega⟩,⟨by omega,by omega⟩,(),?_⟩
  and_intros<;>first|exact cm|exact hr|(intro h_;revert h_)|exact cn|skip)
theorem TE:ak (Y Tryz.prog).G.X 182 TA:=aU fF TD ⟨zu,Tz,trivial⟩
def gT(ms:List eR):Int:=if ms.length=0 then 0 else(gl ms (ms.length-1)).seq
structure Ek where
 ms:List eR
 cap:Nat
noncomputable def Od:cC where
 α:=Ek
 β:=Unit
 m:=3
 m':=3
 pre:=fun a=>a.ms.length<100000
 args:=fun a=>[.a (.ptr 0 0 0 0)]
 hp:=fun _=>[]
 ro:=fun a=>[(0,WD 2 1 a.ms.length a.cap),(1,.arr 228 rq a.ms.length (aa cI a.ms))]
 post:=fun _ _=>True
 res:=fun a _=>.a (.int .i64 (gT a.ms))
 cW:=fun _ _=>[]
theorem TF:fnBody (Y Tryz.prog) [] 140 Od fun _=>[]:=fnBody.of (p :=
 ∀x:Ek,bY x.ms<100000->aD (af (bY x.ms) == (0:Int)) (bL ((0:Int)=gT x.ms)) (ah (dW (bY x.ms))/\nF (dW (bY x.ms)) (bY x.ms) (qX (gl x.ms (0+aV (dW (bY x.ms)))).seq (gT x.ms)))) (by kernel_rfl) (by
 delta aD ah eO af aX aB aV bY bL ax qX nF bl dW
 rintro⟨ms,cap⟩ hn;dsimp only at *;refine⟨fun c=>⟨(),?_,trivial,trivial⟩,fun c=>?_⟩
 ·have:=eq_of_beq c;unfold gT;rw[if_pos (by omega)]
 ·have h0:ms.length≠0:=fun e=>by rw[e]at c;cases c
  rw[show 0+((ms.length:Int)-1).toNat=ms.length-1 by omega];refine⟨by simp only[bQ];omega,⟨by omega,by omega⟩,by omega,fun _=>⟨(),?_,trivial,trivial⟩⟩;unfold gT;rw[if_neg h0])
theorem JY:ak (Y Tryz.prog).G.X 140 Od:=aU fF TF trivial
structure IQ where
 L:bN
 d:bz
 ms:List eR
structure IS where
 H:PH
 y:gQ
 cap:Nat
def YX(jr ma lg dv ds pl:Nat)(m:IQ)(p:IS):List (Nat×Chunk):=[(jr,WD lg ma m.ms.length p.cap),(ma,.arr 228 rq m.ms.length (aa cI m.ms)),(lg,fS dv m.L p.y.lv)]++gG dv ds m.d++[(pl,.cA p.H)]
def HB(p p':IS):Prop:=∀z,p.H z≠none->z∉br p.y->p'.H z=p.H z/\z∉br p'.y
def dH(seq:Int)(k:ByteArray):List Int:=vi seq++IL k
def JZ(m:IQ)(k:ByteArray):IQ:=⟨lU m.L (dH (gT m.ms+1) k),oa m.L m.d (dH (gT m.ms+1) k),m.ms++[⟨gT m.ms+1,k,m.L.next⟩]⟩
def dh(m:IQ)(ks:List ByteArray):Nat->IQ
 |0=>m
 |i+1=>JZ (dh m ks i) (gl ks i)
def YY(m:IQ):IQ:={ m with ms:=dG (cB m.L) m.ms }
def iI(m:IQ)(ks:List ByteArray):IQ:=if fI ks then(if ks.length=0 then YY m else { YY (dh m ks ks.length)with d:=gn (dh m ks ks.length).d })else m
theorem oh{k:ByteArray}(h:dS k=true):1<=k.size/\k.size<=40:=by
 simp only[dS,Bool.and_eq_true,decide_eq_true_eq,Bool.not_eq_true',decide_eq_false_iff_not]at h;refine⟨?_,h.2⟩;rcases Nat.eq_zero_or_pos k.size with e|e
 ·exact absurd (by
   obtain⟨⟨l⟩⟩:=k;have:l=[]:=List.eq_nil_of_length_eq_zero e;subst this;rfl) h.1
 ·exact e
theorem zV(m:IQ)(ks:List ByteArray):∀i,(dh m ks i).ms.length=m.ms.length+i
 |0=>rfl
 |i+1=>by
  show((dh m ks i).ms++[_]).length=_;rw[List.length_append,zV m ks i];rfl
theorem Fc{ms:List eR}{x:eR}:aj (ms++[x]).length 3 (aZ (aa cI ms) 0 ms.length fun(i j:Nat)=>aM 3 [Value.int .i64 x.seq,Value.string x.key,Value.int .i64 x.pos] (0+i) j) (aa cI (ms++[x])):=⟨fun i hi j hj=>by
 rw[List.length_append,List.length_singleton]at hi;simp only[aZ,Nat.zero_add];by_cases h:i<ms.length
 ·rw[if_pos h];unfold aa;rw[bJ h]
 ·rw[if_neg h];obtain rfl:i=ms.length:=by omega
  rw[Nat.sub_self];unfold aa;have:gl (ms++[x]) ms.length=x:=by
   have:=bf (l:=ms) (m:=[x]) (i:=0);rw[Nat.add_zero]at this;rw[this];rfl
  rw[this];rcases(by omega:j=0\/j=1\/j=2)with rfl|rfl|rfl<;>rfl⟩
theorem HB.refl(p:IS):HB p p:=fun _ _ hn=>⟨rfl,hn⟩
structure o5 where
 m:IQ
 p:IS
 ks:List ByteArray
 kc:Nat
noncomputable def Fe:cC where
 α:=o5
 β:=IS
 m:=7
 m':=9
 pre:=fun a=>bU a.p.H a.p.y a.m.L/\a.m.L.l.length<800/\a.ks.length<1000/\a.m.ms.length<50000/\a.m.ms.length<=a.p.cap/\(fI a.ks=true->(∀i,i<a.ks.length->uI (dh a.m a.ks i).L (dh a.m a.ks i).d/\0<=gT (dh a.m a.ks i).ms/\gT (dh a.m a.ks i).ms<1000000000000)/\(dh a.m a.ks a.ks.length).d.n<100000/\(dh a.m a.ks a.ks.length).d.calls<1000000000000/\(dh a.m a.ks a.ks.length).L.l.length<1000)
 args:=fun a=>[.a (.ptr 0 0 0 0),.a (.slc 6 0 1 a.ks.length a.kc)]
 hp:=fun a=>YX 0 1 2 3 4 5 a.m a.p
 ro:=fun a=>[(6,.arr 9 [.str] a.ks.length (aa kq a.ks))]
 post:=fun a b=>bU b.H b.y (iI a.m a.ks).L/\HB a.p b/\(iI a.m a.ks).ms.length<=b.cap
 res:=fun a _=>.mm [.a (.int .i64 (if fI a.ks then gT (iI a.m a.ks).ms else 0)),.a (.int .i64 (if fI a.ks then 0 else 1))]
 cW:=fun a b=>YX 0 7 2 3 4 8 (iI a.m a.ks) b
structure AR where
 i:Nat
 p:IS
def S.jr(s:S)(c:Nat)(m:IQ)(p:IS):S :=
 (fun(s1:S)=>((s1.put ((s1.hp.del (JD s1)).del (s.pK c 1))).new (.cA p.H)))
 ((fun(s0:S)=>(s0.new (.arr 228 rq m.ms.length (aa cI m.ms))).at_ c (WD (s.pK c 0) s0.nx m.ms.length p.cap))
  (((s.at_ (s.pK c 0) (fS (s.pK (s.pK c 0) 0) m.L p.y.lv)).at_ (s.pK (s.pK c 0) 0) (.obj 116 [.slc (s.pK (s.pK (s.pK c 0) 0) 0) 0 129 m.d.n m.d.n,.int .i64 m.d.calls])).at_ (s.pK (s.pK (s.pK c 0) 0) 0) (.arr 158 Cj m.d.n (fo m.d))))
def XA(a:o5):An:=.flat 4 Nat (fun s i=>s.int 18 i) (fun _ i=>i<=a.ks.length/\∀j,j<i->dS (gl a.ks j)=true) (fun _ i=>a.ks.length-i)
def XB(a:o5):An:=.flat 10 AR (fun s x=>(S.jr s (s.pK (s.tg 2) 0) (dh a.m a.ks x.i) x.p).int 32 x.i) (fun _ x=>x.i<=a.ks.length/\fI a.ks=true/\bU x.p.H x.p.y (dh a.m a.ks x.i).L/\HB a.p x.p/\(dh a.m a.ks x.i).ms.length<=x.p.cap) (fun _ x=>a.ks.length-x.i)
def XC(a:o5):An:=.mk 9 Unit (fun s _=>s) (fun _ _=>fI a.ks=true) (fun _ _=>0) fun _=>.mk 1000 [XB a] []
noncomputable def VX:List (Nat×cC):=[(140,Od),(165,Cq),(162,Bs),(182,TA),(169,jC)]
def C5(x:IS)(z:IQ)(u:o5):=bU x.H x.y z.L/\HB u.p x/\bY z.ms<=x.cap
def zW(x:List ByteArray)(y:IQ):Int:=if fI x=true then gT (iI y x).ms else(0:Int)
def Mu(v:Int)(x:o5)(w:Int)(u:IS)(s:List eR)(t:Nat)(f:IQ)(g:bz):IS->Prop:=fun(z:IS)=>v=zW x.ks x.m/\w=iw (fI x.ks)/\u.H=z.H/\ag (we s (iI x.m x.ks).ms t z.cap (fH f.L (iI x.m x.ks).L u.y z.y (gz g (iI x.m x.ks).d (C5 z (iI x.m x.ks) x/\True))))
def HC(x:o5)(z:Prop):=qg (ag (bC (aT x.ks) x.kc/\az (we x.m.ms x.m.ms x.p.cap x.p.cap (ag (fq x.m.L x.p.y (gz x.m.d x.m.d (x.p.H=x.p.H/\kZ x.ks/\z)))))))
def HD(x:o5):=bU x.p.H x.p.y x.m.L/\bB x.m.L<800/\aT x.ks<1000/\bY x.m.ms<50000/\bY x.m.ms<=x.p.cap/\(aB (fI x.ks)->(∀z:Nat,z<aT x.ks->uI (dh x.m x.ks z).L (dh x.m x.ks z).d/\aX (gT (dh x.m x.ks z).ms) 1000000000000)/\(dh x.m x.ks (aT x.ks)).d.n<100000/\(dh x.m x.ks (aT x.ks)).d.calls<1000000000000/\bB (dh x.m x.ks (aT x.ks)).L<1000)
def oP(x:o5)(y:AR):List eR:=(dh x.m x.ks y.i).ms
def Mv(x:nk)(z:o5)(u:AR)(v:bz):Ek->Prop:=fun(y:Ek)=>az (we (dG (cB x.L) x.ms) y.ms x.cap y.cap (bY y.ms<100000/\aI (Exists (Mu (gT y.ms) z 0 u.p (dG (cB x.L) x.ms) x.cap (dh z.m z.ks u.i) v))))
def Mw(x:o5)(u:PH)(z:AR)(v w:Nat)(s:bN)(t:gQ)(f:bz)(g h:Prop):=dL (aT x.ks) x.kc (qg (ag (bC (aT x.ks) x.kc/\u=z.p.H/\az (ag (v=bY (oP x z)/\w=z.p.cap)/\fH s (dh x.m x.ks z.i).L t z.p.y (gz f (dh x.m x.ks z.i).d (kZ x.ks/\g/\h))))))
def HE(x:o5)(y:AR):=aB (fI x.ks)/\C5 y.p (dh x.m x.ks y.i) x
theorem TG:fnBody (Y Tryz.prog) VX 134 Fe fun a=>[(134,[XA a],[XC a])]:=fnBody.of (p :=
 ∀x:o5,HD x->zR x.ks x.kc (fun z=>HC x ((z<=aT x.ks/\rj z x.ks)/\True)) (fun z=>iY (gP (gl x.ks (0+ay z)) cR) (Exists (Mu 0 x 1 x.p x.m.ms x.p.cap x.m x.m.d)) (aF 40 (af (sK x.ks z))) (cO z fun f=>dL (aT x.ks) x.kc (HC x (dY f (aT x.ks) (rj f x.ks) z)))) (HC x (aB (fI x.ks)/\True)) ((∃z:AR,aA z.i (Mw x x.p.H z (bY x.m.ms) x.p.cap x.m.L x.p.y x.m.d (aK (bY (oP x z)) (bY x.m.ms) 3 (aa cI x.m.ms) (aa cI (oP x z))) ((z.i<=aT x.ks/\HE x z)/\True)))/\∀z:AR,z.i<=aT x.ks/\HE x z->gp z.i (aT x.ks) (∃w:Ek,az (we (oP x z) w.ms z.p.cap w.cap (bY w.ms<100000/\aI (ah (gT w.ms+(1:Int))/\∃v:lS,(0=av v.l/\0=v.cap)/\y5 1 v (av v.l=0) (gT w.ms+(1:Int)) [] fun g=>mB (v.l++ic v.ns)/\gH (av (v.l++ic v.ns)) (sK x.ks z.i) 1 g fun h=>∃u:qV,eo (ag (av (v.l++ic v.ns)+sK x.ks z.i=av u.body/\h=u.cap)) (tO (dh x.m x.ks z.i).L u.L z.p.y.lv u.y.lv (gz (dh x.m x.ks z.i).d u.d (z.p.H=u.H/\Gv u.body v.l (ic v.ns) x.ks z.i/\zn u/\∀t:mE,w8 t u->jP (bY (oP x z)) 32 z.p.cap fun j=>aS z.i/\∃s:AR,bx z.i s.i/\Mw x t.H s (bY (oP x z)+1) j (lU u.L u.body) t.y (oa u.L u.d u.body) (lC (bY (oP x s)) (bY (oP x z)) 3 (aa cI (oP x z)) (bq (gT w.ms+(1:Int)) (dZ (gl x.ks (0+ay z.i)) u.L.next [])) (aa cI (oP x s))) (dY s.i (aT x.ks) (HE x s) z.i)))))))) (∃w:nk,HA (oP x z) w z.p.cap (dh x.m x.ks z.i).L z.p.y z.p.H (bY w.ms<100000 /\
 bY w.ms<=w.cap) (aI (aY 0 (aT x.ks) (Exists (kF (dh x.m x.ks z.i).d fun v=>Exists (Mv w x z (gn v)))) (Exists (Mv w x z (dh x.m x.ks z.i).d))))))) (by kernel_rfl) (by
 delta aD av aK cF ah bq bW ay aC gH eO aF af aT bK cR dY aX aB dO aV eo bS dN iY aI gp bT bp bY bC cO lC jP bB bH dP fq dL Mu jF wX y5 HC ax HD aS iw kZ aA ag C5 aY rj qe oP Gv bx az gR kF oO qg bu dZ mB zR gP zW Mv dQ fH HA zn w8 y3 Mw jG HE sK
 try dsimp -iota -proj only
 rintro⟨m,p,ks,kc⟩ ⟨hl,hlf,hkn,hmn,hcap,hok⟩;dsimp only at *;have no:fI ks=false->iI m ks=m:=fun e=>if_neg (by rw[e];decide);have bad:∀i,i<ks.length->dS (gl ks i)=false->fI ks=false:=fun i hi h=>by
  rw[Bool.eq_false_iff];intro ha;have:=List.all_eq_true.1 ha (gl ks i) (by rw[bR hi];exact List.getElem_mem _);rw[h]at this;cases this
 have h0:∀j,j<0->dS (gl ks j)=true:=fun j hj=>absurd hj (Nat.not_lt_zero j);have hfr0:=HB.refl p;refine⟨⟨⟨0,?_⟩,fun i hi=>?_⟩,fun _ hK=>⟨⟨⟨0,p⟩,?_⟩,fun x hx=>?_⟩⟩
 ·and_intros<;>first|exact cm|exact h0|(intro h_;revert h_)|exact cn|skip
 ·obtain⟨hi,hall⟩:=hi;rw[show 0+(i:Int).toNat=i by omega];refine⟨fun c1=>?_,fun c1=>⟨(),?_⟩⟩
  ·have hlt:i<ks.length:=by have:=of_decide_eq_true c1;omega
   refine⟨⟨by omega,by omega⟩,hlt,fun c2=>?_,fun c2=>⟨fun c3=>?_,fun c3=>⟨by simp only[bQ];omega,i+1,?_⟩⟩⟩
   ·have hn:=bad i hlt (by unfold dS;rw[c2];rfl);rw[no hn,hn];refine⟨p,?_⟩
    and_intros<;>first|exact cm|exact hl|exact hfr0|exact hcap|(intro h_;revert h_)|exact cn|skip
   ·have hn:=bad i hlt (by
     have c3:=of_decide_eq_true c3;unfold dS;have:decide ((gl ks i).size<=40)=false:=decide_eq_false (by omega);rw[this,Bool.and_false])
    rw[no hn,hn];refine⟨p,?_⟩
    and_intros<;>first|exact cm|exact hl|exact hfr0|exact hcap|(intro h_;revert h_)|exact cn|skip
   ·have hk:dS (gl ks i)=true:=by
     have c3:=of_decide_eq_false c3;unfold dS;rw[c2,show decide ((gl ks i).size<=40)=true from decide_eq_true (by omega)];rfl
    have h1:∀j,j<i+1->dS (gl ks j)=true:=fun j hj=>by
     by_cases e:j=i
     ·rw[e];exact hk
     ·exact hall j (by omega)
    and_intros<;>first|exact cm|exact h1|(intro h_;revert h_)|exact cn|skip
  ·have hi':i=ks.length:=by have:=of_decide_eq_false c1;omega
   have ha:fI ks=true:=List.all_eq_true.2 fun k hk=>by
    obtain⟨j,hj,rfl⟩:=List.getElem_of_mem hk;rw[<- bR hj];exact hall j (by omega)
   and_intros<;>first|exact cm|exact ha|(intro h_;revert h_)|exact cn|skip
 ·have e0:dh m ks 0=m:=rfl;dsimp only;rw[e0]
  and_intros<;>first|exact cm|exact hl|exact hfr0|exact hcap|exact hK|(intro h_;revert h_)|exact cn|skip
 obtain⟨i,q⟩:=x;obtain⟨hi,_,hq,hfr,hqc⟩:=hx;dsimp only at hi hq hfr hqc ⊢;obtain⟨hok1,hok2,hok3,hok4⟩:=hok hK;have hMn:=zV m ks i;rw[show 0+(i:Int).toNat=i by omega];refine⟨fun c1=>?_,fun c1=>?_⟩
 ·have hlt:i<ks.length:=by have:=of_decide_eq_true c1;omega
  obtain⟨ok1,s0,s1⟩:=hok1 i hlt;have hkey:dS (gl ks i)=true:=List.all_eq_true.1 hK (gl ks i) (by rw[bR hlt];exact List.getElem_mem _);obtain⟨k1,k2⟩:=oh hkey;have e:dh m ks (i+1)=JZ (dh m ks i) (gl ks i):=rfl;have hMn1:=zV m ks (i+1);obtain⟨M,hM⟩:∃M,M=dh m ks i:=⟨_,rfl⟩
  rw[<- hM]at hq hqc hMn ok1 s0 s1 e;rw[<- hM];obtain⟨sq,hsq⟩:∃sq,sq=gT M.ms+1:=⟨_,rfl⟩
  have hMs:M.ms.length<100000:=by omega
  refine⟨⟨by omega,by omega⟩,hlt,Ek.mk M.ms q.cap,?_⟩
  and_intros<;>first|exact cm|exact hMs|(intro h_;revert h_)|exact cn|skip
  intro _ _;dsimp only;rw[<- hsq];have eB:[]++ic [sq]=vi sq:=by simp[ic]
  have hv:=iK sq;have hr1:aj [sq].length 1 (aM 1 [Value.int .i64 sq]) (aa encI [sq]):=.dR fun i hi=>by
   have:i=0:=by simp at hi;omega
   subst this;rfl
  have hg1:∀i:Nat,i < [sq].length->0<=gl [sq] i/\gl [sq] i<4611686018427387904:=fun i hi=>by
   have:i=0:=by simp at hi;omega
   subst this;show 0<=sq/\sq<_;omega
  have hg2:[sq].length<100:=by simp
  refine⟨by simp only[bQ];omega,lS.mk [] 0 [sq] 1,?_⟩;dsimp only;rw[eB]
  and_intros<;>first|exact cm|exact hr1|exact hg1|exact hg2|(intro h_;revert h_)|exact cn|skip
  intro b _;have hbl:(dH sq (gl ks i)).length=(vi sq).length+(gl ks i).size:=by unfold dH;rw[List.length_append,iU]
  have hr2:aj (dH sq (gl ks i)).length 1 (aZ (aa cE (vi sq)) 0 (vi sq).length (nu (gl ks i))) (aa cE (dH sq (gl ks i))):=.app rfl (.of_eq (by funext i;rw[Nat.zero_add])) (Cp _ (by omega));refine⟨by omega,by omega,fun c q1 q2 q3=>⟨qV.mk q.H q.y M.L M.d (dH sq (gl ks i)) c,?_⟩⟩
  and_intros<;>first|exact cm|exact hq|exact ok1|exact hr2|(intro h_;revert h_)|exact cn|skip
  rintro⟨H1,y1⟩ ⟨hl1,hf1⟩;dsimp only at hl1 hf1 ⊢;have hr3:=Fc (ms:=M.ms) (x:=⟨sq,gl ks i,M.L.next⟩);have hfr1:HB p ⟨H1,y1,0⟩:=fun z hz hn=>by
   obtain⟨a1,a2⟩:=hfr z hz hn;obtain⟨b1,b2⟩:=hf1 z (by rw[a1];exact hz) a2;exact⟨b1.trans a1,b2⟩
  refine⟨by omega,by omega,by omega,fun c2 w1 w2 w3=>⟨by simp only[bQ];omega,⟨i+1,⟨H1,y1,c2⟩⟩,?_⟩⟩;dsimp only;have e2:JZ M (gl ks i)=⟨lU M.L (dH sq (gl ks i)),oa M.L M.d (dH sq (gl ks i)),M.ms++[⟨sq,gl ks i,M.L.next⟩]⟩:=by rw[hsq];rfl
  rw[e,e2]at hMn1;dsimp only at hMn1;rw[e,e2];dsimp only;have hi2:i+1<=ks.length:=hlt;have hfr2:HB p ⟨H1,y1,c2⟩:=hfr1;have hlt2:ks.length-(i+1)<ks.length-i:=by omega
  have hcap2:(M.ms++[(⟨sq,gl ks i,M.L.next⟩:eR)]).length<=c2:=by omega
  and_intros<;>first|exact cm|exact hl1|exact hfr2|exact hK|exact hr3|exact hcap2|exact hMn1|exact hlt2|(intro h_;revert h_)|exact cn|skip
 ·have hi':i=ks.length:=by have:=of_decide_eq_false c1;omega
  subst hi';obtain⟨M,hM⟩:∃M,M=dh m ks ks.length:=⟨_,rfl⟩
  rw[<- hM]at hq hqc hMn hok2 hok3 hok4;rw[<- hM];have hMs:M.ms.length<100000:=by omega
  have hkl:(dG (cB M.L) M.ms).length<=M.ms.length:=List.length_filter_le _ _;have hks:(dG (cB M.L) M.ms).length<100000:=by omega
  have hkc:(dG (cB M.L) M.ms).length<=q.cap:=by omega
  have hfr2:HB p ⟨q.H,q.y,q.cap⟩:=hfr;refine⟨nk.mk M.ms q.cap q.H q.y M.L,?_⟩
  and_intros<;>first|exact cm|exact hq|exact hok4|exact hMs|exact hqc|(intro h_;revert h_)|exact cn|skip
  intro _ _;dsimp only;rw[hK];refine⟨fun c2=>?_,fun c2=>?_⟩
  ·have hn:ks.length≠0:=by have:=of_decide_eq_true c2;omega
   have e1:iI m ks=⟨M.L,gn M.d,dG (cB M.L) M.ms⟩:=by
    unfold iI;rw[if_pos hK,if_neg hn,<- hM];rfl
   rw[e1];refine⟨M.d,?_⟩
   and_intros<;>first|exact cm|exact hok2|exact hok3|(intro h_;revert h_)|exact cn|skip
   intro _ _;refine⟨Ek.mk (dG (cB M.L) M.ms) q.cap,?_⟩
   and_intros<;>first|exact cm|exact hks|(intro h_;revert h_)|exact cn|skip
   intro _ _;refine⟨⟨q.H,q.y,q.cap⟩,?_⟩
   and_intros<;>first|exact cm|exact hq|exact hfr2|exact hkc|(intro h_;revert h_)|exact cn|skip
  ·have hn:ks.length=0:=by have:=of_decide_eq_false c2;omega
   have e1:iI m ks=⟨M.L,M.d,dG (cB M.L) M.ms⟩:=by
    unfold iI;rw[if_pos hK,if_pos hn,hM,hn];rfl
   rw[e1];refine⟨Ek.mk (dG (cB M.L) M.ms) q.cap,?_⟩
   and_intros<;>first|exact cm|exact hks|(intro h_;revert h_)|exact cn|skip
   intro _ _;refine⟨⟨q.H,q.y,q.cap⟩,?_⟩
   and_intros<;>first|exact cm|exact hq|exact hfr2|exact hkc|(intro h_;revert h_)|exact cn|skip)
theorem TH:ak (Y Tryz.prog).G.X 134 Fe:=aU fF TG ⟨JY,y7,CF,TE,iG,trivial⟩
structure Z0 where
 l:List Int
 cap:Nat
 n:Int
noncomputable def zX:cC where
 α:=Z0
 β:=Unit
 m:=1
 m':=1
 pre:=fun a=>a.l.length<100000/\a.l.length<=a.cap/\0<=a.n/\a.n<4611686018427387904/\(vi a.n).length<=a.l.length/\∀i,i<(vi a.n).length->gl a.l (0+i)=gl (vi a.n) i
 args:=fun a=>[.a (.slc 0 0 1 a.l.length a.cap)]
 hp:=fun _=>[]
 ro:=fun a=>jh 0 a.l
 post:=fun _ _=>True
 res:=fun a _=>.mm [.a (.int .i64 a.n),.a (.int .i64 (vi a.n).length),.a (.lit .i64 0)]
 cW:=fun _ _=>[]
theorem XD{Y:Gx}(hY:Y.Ok){je:List (Nat×cC)}(ht:uq Y.G.X je){f:Nat}{C:cC}{l:C.α->List (Nat×List An×List An)}(hb:fnBody Y je f C l):lM Y.G.X C f:=Bm hY (fun _=>Bn hY ht) hb.body
theorem VY:lM (Y Tryz.prog).G.X Ju 177:=XD fF (je:=[]) trivial Jv
theorem P3{X:Cx}{C D:cC}{f:Nat}(h:lM X C f)(g:D.α->C.α)(h1:∀a,D.pre a->C.pre (g a))(hm:D.m=C.m)(hm':D.m'=C.m')(hβ:D.β=C.β)(h2:∀a,D.hp a=C.hp (g a))(h3:∀a,D.ro a=C.ro (g a))(h4:∀a,D.args a=C.args (g a))
 (h5:∀a o,D.post a (cast hβ.symm o)=C.post (g a) o) (h6:∀a o,D.res a (cast hβ.symm o)=C.res (g a) o) (h7:∀a o,D.cW a (cast hβ.symm o)=C.cW (g a) o):lM X D f:=by
 intro a ha M ρ w vs hn hh hr;rw[h2,h3]at hh;rw[h4]at hr;refine Calls.mono (h (g a) (h1 a ha) M ρ w vs (hn.trans hm) hh hr) fun e w' hq=>?_;obtain⟨v,e1,o,ρ2,q1,q2,q3,q4,q5⟩:=hq;exact⟨v,e1,cast hβ.symm o,ρ2,by rw[h5];exact q1,q2.trans hm'.symm,fun T hT=>q3 T (by rw[<- hm];exact hT),by rw[h6];exact q4,by rw[h7];exact q5⟩
theorem TJ:lM (Y Tryz.prog).G.X zX 177:=P3 (D:=zX) VY (fun a=>(⟨a.l,0,a.l.length,a.cap,a.n⟩:qd)) (fun a h=>⟨by show 0+a.l.length<=a.l.length;omega,h.1,h.2.1,h.2.2.1,h.2.2.2.1,h.2.2.2.2.1,h.2.2.2.2.2⟩) rfl rfl rfl (fun _=>rfl) (fun _=>rfl) (fun _=>rfl) (fun _ _=>rfl) (fun _ _=>rfl) (fun _ _=>rfl)
def HF(a:Z0):YN:=⟨5,[.int .u8],a.l.length,a.cap,aa cE a.l⟩
noncomputable def TK:cC:=zX.VK HF
theorem P4:ak (Y Tryz.prog).G.X 177 TK:=fun _ _ _ h=>vr (JJ TJ ⟨rfl,fun _=>rfl,fun _=>rfl,fun _=>rfl,fun _ _=>rfl,fun _ _ p hp=>(by cases hp)⟩) h
structure XF(ms:List eR)(rs:List RecM):Prop where
 len:ms.length=rs.length
 x7:ms.length<9000
 at_:∀i,i<ms.length->(gl rs i).body=dH (gl ms i).seq (gl ms i).key/\(gl rs i).pos=(gl ms i).pos/\0<=(gl ms i).seq/\(gl ms i).seq<1000000000000/\dS (gl ms i).key=true
 step:∀i,i+1<ms.length->(gl ms (i+1)).seq=(gl ms i).seq+1
structure vO where
 H:PH
 d:bz
 from_:Nat
 au:Nat
 ms:List eR
noncomputable def zY:cC where
 α:=vO
 β:=IS
 m:=3
 m':=7
 pre:=fun a=>20<=a.au/\q9 a.from_ a.au a.d/\XF a.ms (fW (cK a.from_ a.au a.d).l)/\∀i,i<(cK a.from_ a.au a.d).l.length->(gl (cK a.from_ a.au a.d).l i).aR.length<=400
 args:=fun a=>[.a (.ptr 0 0 0 0),.a (.int .i64 a.from_),.a (.int .i64 a.au)]
 hp:=fun a=>[(2,.cA a.H)]
 ro:=fun a=>gG 0 1 a.d
 post:=fun a b=>bU b.H b.y (cK a.from_ a.au a.d)/\(∀z,a.H z≠none->b.H z=a.H z/\z∉br b.y)/\a.ms.length<=b.cap
 res:=fun _ _=>.mm [.a (.ptr 3 0 0 0),.a (.lit .i64 0)]
 cW:=fun a b=>[(3,WD 5 4 a.ms.length b.cap),(4,.arr 228 rq a.ms.length (aa cI a.ms)),(5,fS 0 (cK a.from_ a.au a.d) b.y.lv),(6,.cA b.H)]
def XG(a:vO):An:=.flat 10 (Nat×Nat) (fun s x=>((s.at_ (s.tg 10) (WD (s.pK (s.tg 10) 0) s.nx (a.ms.take x.1).length x.2)).new (.arr 228 rq (a.ms.take x.1).length (aa cI (a.ms.take x.1)))).int 38 x.1) (fun _ x=>x.1<=a.ms.length/\x.1<=x.2) (fun _ x=>a.ms.length-x.1)
theorem TL{ms:List eR}{rs:List RecM}(h:XF ms rs){i:Nat}(hi:i<ms.length)(h0:i≠0):gT (ms.take i)+1=(gl ms i).seq:=by
 have hl:(ms.take i).length=i:=by rw[List.length_take];omega
 have e:gl (ms.take i) (i-1)=gl ms (i-1):=by rw[bR (by omega),bR (by omega),List.getElem_take]
 have:=h.step (i-1) (by omega);rw[Nat.sub_add_cancel (by omega)]at this;unfold gT;rw[hl,if_neg h0,e,this]
theorem Oe{seq:Int}{k:ByteArray}:iE (fun i=>aa cE (dH seq k) ((vi seq).length+i)) 0 ((dH seq k).length-(vi seq).length)=k:=by
 have hn:(dH seq k).length-(vi seq).length=k.size:=by unfold dH;rw[List.length_append,iU];omega
 unfold iE;refine NR hn fun i hi=>?_;show gl (dH seq k) ((vi seq).length+(0+i))=_;unfold dH;rw[bf,Nat.zero_add]
noncomputable def TM:List (Nat×cC):=[(175,G6),(176,N2),(177,TK),(140,Od)]
def HG(z:vY)(x:vO)(w:Nat)(s:Prop)(u:IP)(t:mE)(f g:Prop):=jj z.v (ag (kY (bK (aF (af x.au) 20) (kY (cF (af x.from_) (af x.au) (z.H=z.H) (eo (0=w/\s) (fq (cK u.from_ u.au u.d) t.y (gz x.d x.d (f/\g)))))))))
def nI(x:Nat×Nat)(y:vO):Nat:=bY (List.take x.fst y.ms)
def C6(x:Nat×Nat)(y:vO):Nat->Nat->Value:=aa cI (List.take x.fst y.ms)
noncomputable def Mx(u:List Value)(v:Nat)(w:V1 zX.α)(s:vY)(y:Nat×Nat)(x:vO)(t:IP)(f:mE):=FN (aP u (v+1))/\cU (af (av (vi w.a.n))) (dr (aP u (v+1)))/\Exists (jH s.H (sL u (v+1) (ay (av (vi w.a.n))) (dr (aP u (v+1)))) (CK.int .u8) [] fun g j h=>ah (js (aP u v))->jP (nI y x) 32 y.snd fun i=>iq y fun z=>HG s x 0 (nI y x+1=nI z x/\i=z.snd) t f (lC (nI z x) (nI y x) 3 (C6 y x) (bq w.a.n (dZ (iE h 0 g) (js (aP u v)) [])) (C6 z x)) (dY z.fst (bY x.ms) (z.fst<=z.snd) y.fst))
def HH(x:vO):=20<=x.au/\zT x.from_ x.au x.d (XF x.ms (fW (cK x.from_ x.au x.d).l))
theorem P5:fnBody (Y Tryz.prog) TM 129 zY fun a=>[(129,[XG a],[])]:=fnBody.of (p :=
 ∀x:vO,HH x->aD (aF (af x.au) 20) (∃u:IS,False) (∃u:IP,ag (bA x.from_ u.from_/\bA x.au u.au/\x.H=u.H/\gz x.d u.d (q9 u.from_ u.au u.d/\∀f:mE,xl f u->∃i:tJ,eo (f.H=i.H) (tO (cK u.from_ u.au u.d) i.L f.y.lv i.y.lv (zw i/\∀t:vY,zv t i->Exists (eC t.v)/\(∃z:Nat×Nat,aA z.fst (HG t x (nI z x) (0=z.snd) u f (nI z x=0) ((z.fst<=bY x.ms/\z.fst<=z.snd)/\True)))/\∀z:Nat×Nat,z.fst<=bY x.ms/\z.fst<=z.snd->uL z.fst t.v (fun s=>t.H s) (fun s g=>∃w:V1 zX.α,aP g (s+1)=w.v/\t.H=w.H/\(y9 (av w.a.l) w.a.cap w.a.n w.a.l 0/\jZ w.H w.v (iN (CK.int .u8)) (HF w.a).n (HF w.a).cap (HF w.a).rows)/\∀k:zX.β,True->aD (af (nI z x) == (0:Int)) (Mx g s w t z x u f) (∃j:Ek,az (we (List.take z.fst x.ms) j.ms z.snd j.cap (bY j.ms<100000/\aI (ah (gT j.ms+(1:Int))/\aD (w.a.n == gT j.ms+(1:Int)) (Mx g s w t z x u f) (iq z fun h=>HG t x 0 (nI z x=nI h x/\z.snd=h.snd) u f (aK (nI h x) (nI z x) 3 (C6 z x) (C6 h x)) (dY h.fst (bY x.ms) (h.fst<=h.snd) z.fst))))))) (∃s:IS,eo (aC 0) (we (List.take z.fst x.ms) x.ms z.snd s.cap (ag (oO (cK u.from_ u.au u.d) (cK x.from_ x.au x.d) f.y s.y t.H s.H ((∀g:Nat,oN (x.H g) (s.H g) (br s.y) g)/\bY x.ms<=s.cap) True)))))))))) (by kernel_rfl) (by
 delta aD aP av aK cF ah bq bW ay aC gH aF af bK dX mF dY aX aB dO aV eo bS cV eC aI bT bY oZ lC jP bB gA bH fq xg iq Mx jH y9 xl aS HG iM aA aW jj zT ag aY zv uL oN nI bx az gR oO iN zw bu dZ bA cU kY oM ji jG HH sL C6
 try dsimp -iota -proj only
 rintro⟨H,d,fr,sg,ms⟩ ⟨hsg,ok,hms,hsl⟩;dsimp only at *;obtain⟨L,hL⟩:∃L,L=cK fr sg d:=⟨_,rfl⟩
 have hone:L.l.length<=1:=by rw[hL];exact ok.one
 rw[<- hL]at hms hsl;have hlen:=hms.len;have hfew:=hms.x7;refine⟨fun c=>by(exfalso;have:=of_decide_eq_true c;omega),fun _=>⟨IP.mk H d fr sg,?_⟩⟩;dsimp only;rw[<- hL]
 and_intros<;>first|exact cm|exact ok|(intro h_;revert h_)|exact cn|skip
 rintro⟨H1,y1⟩ ⟨hl1,hf1⟩;dsimp only at hl1 hf1 ⊢;refine⟨tJ.mk H1 y1 L,?_⟩;have hrec:∀i,i<L.l.length->(gl L.l i).aR.length<=400/\∀k,k<(gl L.l i).aR.length->1<=(gl (gl L.l i).aR k).body.length/\(gl (gl L.l i).aR k).body.length<=1000:=fun i hi=>⟨hsl i hi,fun k hk=>by
  obtain⟨j,hj,e⟩:=Hx hi hk;obtain⟨e1,_,_,_,e5⟩:=hms.at_ j (by rw[hlen];exact hj);have a1:=iK (gl ms j).seq;have a2:=oh e5;rw[<- e,e1];unfold dH;rw[List.length_append,iU];omega⟩
 have hL1:L.l.length<1000:=by omega
 and_intros<;>first|exact cm|exact hl1|exact hrec|exact hL1|(intro h_;revert h_)|exact cn|skip
 rintro⟨H2,v,vs⟩ ⟨hout,hf2⟩;dsimp only at hout hf2 ⊢;obtain⟨cr,hrows⟩:=hout.rows;obtain⟨s1,s2,s3,s4,s5,⟨sa,s6⟩,s7⟩:=e9 hrows;have hlog:bU H2 y1 L:=hl1.frame fun z hz=>(hf2 z (hl1.dom z hz)).1;have hfin:∀z,H z≠none->H2 z=H z/\¬z∈br y1:=fun z hz=>by
  obtain⟨a1,a2⟩:=hf1 z hz;exact⟨(hf2 z (by rw[a1];exact hz)).1.trans a1,a2⟩
 rw[s1];refine⟨⟨sa,_,_,s6,by simp only[aq];omega⟩,⟨(0,0),?_⟩,fun q hq=>?_⟩
 ·dsimp only
  and_intros<;>first|exact cm|(intro h_;revert h_)|exact cn|skip
 obtain⟨i,c⟩:=q;obtain⟨hi,hic⟩:=hq;dsimp only at hi hic ⊢;have hti:(ms.take i).length=i:=by rw[List.length_take];omega
 rw[hti];refine⟨fun c1=>?_,fun c1=>?_⟩
 ·have hi':i<ms.length:=by have:=of_decide_eq_true c1;omega
  have hti1:(ms.take (i+1)).length=i+1:=by rw[List.length_take];omega
  have htp:ms.take (i+1)=ms.take i++[gl ms i]:=pM hi';obtain⟨b',lo',o',cs',q1,q2,q3,q4,q5,q6,q7,q8⟩:=uK hrows (k:=i) (by omega);obtain⟨cb,hbody⟩:=hout.body i (by omega);obtain⟨e1,e2,e3,e4,e5⟩:=hms.at_ i hi';have hsq:=fun h0=>TL hms hi' h0;obtain⟨x,hx⟩:∃x,x=gl ms i:=⟨_,rfl⟩
  rw[<- hx]at e1 e2 e3 e4 e5 hsq htp;rw[e1]at hbody;rw[e2]at q3 q6 q7;obtain⟨k1,k2⟩:=oh e5;have hv:=iK x.seq;have hbl:(dH x.seq x.key).length=(vi x.seq).length+x.key.size:=by unfold dH;rw[List.length_append,iU]
  obtain⟨w1,w2,w3,w4,w5,⟨wa,w7⟩,w6⟩:=e9 hbody;have hcut:=Jx (Nat.le_refl _) hbody (sz:=1) (a:=(vi x.seq).length) (e:=(dH x.seq x.key).length) (m:=cb) rfl (by omega) (Nat.le_refl _) w3 (Nat.le_refl _);have hgl:∀j,j<(vi x.seq).length->gl (dH x.seq x.key) (0+j)=gl (vi x.seq) j:=fun j hj=>by
   rw[Nat.zero_add];unfold dH;rw[bJ hj]
  have hr3:=Fc (ms:=ms.take i) (x:=x);rw[hti,<- htp,hti1]at hr3;refine⟨_,_,_,_,q1,by omega,b',lo',o'+i*2,cs',by rw[Int.toNat_natCast];congr 1;omega,q2,⟨⟨_,q3,_,rfl,q6⟩,⟨_,q4,q5⟩,trivial⟩,?_⟩;rw[q7,q8];have hpre:(dH x.seq x.key).length<100000/\(dH x.seq x.key).length<=cb/\0<=x.seq/\x.seq<4611686018427387904/\(vi x.seq).length<=(dH x.seq x.key).length/\∀j,j<(vi x.seq).length->gl (dH x.seq x.key) (0+j)=gl (vi x.seq) j:=⟨by omega,w3,e3,by omega,by omega,hgl⟩
  refine⟨⟨⟨dH x.seq x.key,cb,x.seq⟩,H2,vs.getD i undef⟩,rfl,rfl,⟨hpre,hbody⟩,fun _ _=>?_⟩;rw[w1,w2,show((vi x.seq).length:Int).toNat=(vi x.seq).length by omega];dsimp only[js];refine⟨fun c2=>?_,fun c2=>?_⟩
  ·refine⟨w5,⟨by omega,by omega⟩,_,_,_,hcut,fun _=>⟨by omega,by omega,by omega,fun c2 v1 v2 v3=>⟨by simp only[bQ];omega,(i+1,c2),?_⟩⟩⟩;dsimp only;rw[Oe,hti1]
   and_intros<;>first|exact cm|exact hr3|(intro h_;revert h_)|exact cn|skip
  ·have h0:i≠0:=fun e=>by rw[e]at c2;cases c2
   have hsq:=hsq h0;have htl:(ms.take i).length<100000:=by omega
   refine⟨Ek.mk (ms.take i) c,?_⟩;dsimp only;rw[hti];have hr0:aj i 3 (aa cI (ms.take i)) (aa cI (ms.take i)):=aj.refl _ _ _
   and_intros<;>first|exact cm|exact htl|(intro h_;revert h_)|exact cn|skip
   intro _ _;rw[hsq];refine⟨by simp only[bQ];omega,fun _=>⟨w5,⟨by omega,by omega⟩,_,_,_,hcut,fun _=>⟨by omega,by omega,by omega,fun c2 v1 v2 v3=>⟨by simp only[bQ];omega,(i+1,c2),?_⟩⟩⟩,fun e=>by(exfalso;simp at e)⟩;dsimp only;rw[Oe,hti1]
   and_intros<;>first|exact cm|exact hr3|(intro h_;revert h_)|exact cn|skip
 ·have hi':i=ms.length:=by have:=of_decide_eq_false c1;omega
  subst hi';rw[List.take_length];refine⟨⟨H2,y1,c⟩,?_⟩
  and_intros<;>first|exact cm|exact hlog|exact hfin|(intro h_;revert h_)|exact cn|skip)
theorem P6:ak (Y Tryz.prog).G.X 129 zY:=aU fF P5 ⟨EV,JN,P4,JY,trivial⟩
theorem TN:fnBody (Y Tryz.prog) [] 204 Ci fun a=>[(204,[YA a],[])]:=fnBody.of (p :=
 Gl) (by kernel_rfl) (by
 delta aD aK ah aC aF af bD aX fA aB aV kn bS bL cO bF Gl ax aS aA aY kX bx oH bl bu dW
 try dsimp -iota -proj only
 rintro⟨r,len,cap,v,n,rows⟩ ⟨h1,h2⟩;dsimp only at h1 h2 ⊢;simp only[Int.toNat_natCast,bQ,decide_eq_true_eq,decide_eq_false_iff_not];refine⟨⟨0,?_⟩,fun k hk=>⟨fun c1=>?_,fun c1=>⟨(),?_⟩⟩⟩
 ·(and_intros<;>first|exact vL|skip)
  refine⟨fun i hi j hj=>?_⟩;unfold tN;rw[if_neg (by omega)]
 ·have hk:k<len:=by omega
  have e:((len:Int)-1-k).toNat=len-1-k:=by omega
  rw[e];refine⟨by omega,by omega,by omega,by omega,by omega,by omega,by omega,k+1,?_⟩
  (and_intros<;>first|exact vL|skip)
  refine⟨fun i hi j hj=>?_⟩;have hj:j=0:=by omega
  subst hj;by_cases hik:i=r+(len-1-k)
  ·subst hik;have e3:(8*(k:Int)).toNat=8*(r+len-1-(r+(len-1-k))):=by omega
   rw[iX,e3];show Value.int .u8 _=_;simp only[tN];rw[if_pos (by omega)]
  ·rw[gO hik];simp only[tN];by_cases hq:r+len<=i+k/\i<r+len
   ·rw[if_pos hq,if_pos (by omega)]
   ·rw[if_neg hq,if_neg (by omega)]
 ·have:k=len:=by omega
  subst this
  (and_intros<;>first|exact vL|skip))
theorem TO:ak (Y Tryz.prog).G.X 204 Ci:=aU fF TN trivial
def HI(n:Int)(b:List Int)(j:Nat):Int:=if j<4 then 0 else if j<12 then IM (uw .u64 n) 8 (j-4)else if j=12 then(b.length:Int)else if j-13<b.length then gl b (j-13)else 0
def xw(n:Int)(b:List Int)(j:Nat):Int:=if j<4 then IM (vM (HI n b)) 4 j else HI n b j
structure nJ where
 at_:Nat
 fh:Int
 text:List Int
 slot:Nat
def ZK(dv tx:Nat)(S:nJ)(cap:Nat):List A:=[.ptr dv 0 0 0,.int .i64 S.at_,.int .i64 S.fh,.slc tx 0 1 S.text.length cap,.int .i64 S.slot]
def Ff(su tx dv:Nat)(S:nJ)(cap:Nat):List (Nat×Chunk):=[(su,.obj 262 (ZK dv tx S cap)),(tx,.arr 5 [.int .u8] S.text.length (aa cE S.text))]
def HJ(S:nJ)(slot:Nat)(n:Int)(b:List Int):nJ:=⟨S.at_,n,b,slot⟩
def Ba(S:nJ)(d:bz)(slot:Nat)(n:Int)(b:List Int):bz:=gn (gm d (S.at_+slot) 64 (xw n b))
structure J1 where
 S:nJ
 cap:Nat
 d:bz
 slot:Nat
 n:Int
 b:List Int
 bc:Nat
noncomputable def Bw:cC where
 α:=J1
 β:=Nat
 m:=5
 m':=6
 pre:=fun a=>a.S.at_+1<a.d.n/\a.slot<=1/\a.d.n<100000/\a.d.calls<900000000000/\1<=a.b.length/\a.b.length<=40
 args:=fun a=>[.a (.ptr 0 0 0 0),.a (.int .i64 a.slot),.a (.int .i64 a.n),.a (.slc 4 0 1 a.b.length a.bc)]
 hp:=fun a=>Ff 0 1 2 a.S a.cap++gG 2 3 a.d
 ro:=fun a=>jh 4 a.b
 post:=fun _ _=>True
 res:=fun _ _=>.a (.lit .i64 0)
 cW:=fun a c=>Ff 0 5 2 (HJ a.S a.slot a.n a.b) c++gG 2 3 (Ba a.S a.d a.slot a.n a.b)
def qm(y:nJ)(x:bz)(z:Nat)(u:Prop):=y.at_+1<x.n/\z<=1/\x.n<100000/\x.calls<900000000000/\u
def jm(x:J1):nJ:=HJ x.S x.slot x.n x.b
def xx(x:J1):bz:=Ba x.S x.d x.slot x.n x.b
theorem My:fnBody (Y Tryz.prog) [(204,Ci),(203,Sc),(81,pL),(169,jC)] 174 Bw fun _=>[]:=fnBody.of (p :=
 ∀x:J1,qm x.S x.d x.slot (gR x.b 40)->lQ 64 64 (dX 12 64/\dX 4 12/\wU 4 8 60 (cQ x.n) 64 sM fun y=>aX 12 64/\12<y.n/\dX 13 64/\64<=y.n/\GG (mB x.b) y (oD (jY (kX y y.len) 12 0 (uB (av x.b))) 13 (min (av x.b) 51) (qW cE x.b)) fun z=>ah (af x.S.at_)->ah (af x.S.at_+af x.slot)/\∃u:Lq,ag (af x.S.at_+af x.slot=af u.i/\wV u x.d z.n (kX z z.len) (Exists (kF (lR u) fun w=>zo x.b (∃v:Nat,aW (ag (bA x.S.at_ (nJ.at_ (jm x))/\x.n=nJ.fh (jm x)/\(0=av (nJ.text (jm x))/\0=v)/\bA x.slot (nJ.slot (jm x))/\av (nJ.text (jm x))=0/\gz (gn w) (xx x) (True/\True)))) (gH 0 (av x.b) 1 0 fun v=>∃s:Nat,aW (ag (bA x.S.at_ (nJ.at_ (jm x))/\x.n=nJ.fh (jm x)/\dP (0+av x.b) (av (nJ.text (jm x))) v s (bA x.slot (nJ.slot (jm x))) 1 (uA (qW cE x.b)) (aa cE (nJ.text (jm x))) (gz (gn w) (xx x) (True/\True)))))))))) (by kernel_rfl) (by
 delta aD aP av aK ah bW aC gH af dX bD aX fA aB ur bS aI dP jF GG lR wV lQ cQ qm aW jm ag wU uv kX uz gR sM kF bA uB mB qW xx uu zo uA
 try dsimp -iota -proj only
 rintro⟨u,cap,d,slot,n,b,bc⟩ ⟨h1,h2,h3,h4,h5,h6⟩;dsimp only at *;obtain⟨F1,hF1⟩:∃F:Nat->Int,F=fun k=>if 4<=k/\k<4+8 then IM (uw .u64 n) 8 (k-4)else 0:=⟨_,rfl⟩
 have hb8:uw .u8 (b.length:Int)=b.length:=by simp only[uw];omega
 have h0:aj 64 1 (fun(x j:Nat)=>[Value.int IntKind.u8 (0:Int)].getD j (Value.tuple #[])) (bM fun _=>0):=kr fun _ _=>rfl
 repeat refine kR ?_
 refine⟨mg.mk 4 8 60 (uw .u64 n) 64 (bM fun _=>0),?_⟩
 and_intros<;>first|exact cm|exact h0|(intro h_;revert h_)|exact cn|skip
 intro _ _;rw[show tN (bM fun _=>0) 4 8 (uw .u64 n) 8=bM F1 by rw[wT (by omega),hF1]];have hfin:aj 64 1 (oD (jY (bM F1) 12 0 [Value.int .u8 (uw .u8 (b.length:Int))]) 13 (min b.length 51) fun(i j:Nat)=>aa cE b (0+i) j) (bM (HI n b)):=by
  rw[hb8,show min b.length 51=b.length by omega];refine kr fun k hk=>?_;simp only[oD,bM,aa,cE,List.getD_cons_zero,Nat.zero_add,hF1,HI,qF]
  (repeat' split)<;>first|rfl|(exfalso;omega)|skip
 have hlast:aj 64 1 (tN (bM (HI n b)) 0 4 (vM (HI n b)) 4) (bM (xw n b)):=by
  rw[wT (by omega)];refine kr fun k hk=>?_;simp only[bM,xw,Nat.zero_le,true_and,Nat.zero_add,Nat.sub_zero]
 repeat refine kR ?_
 refine⟨yX.mk 1 4 60 60 64 (bM (HI n b)),?_⟩
 and_intros<;>first|exact cm|exact hfin|(intro h_;revert h_)|exact cn|skip
 intro _ _;refine⟨mg.mk 0 4 64 (vM (HI n b)) 64 (bM (HI n b)),?_⟩
 and_intros<;>first|exact cm|exact hfin|(intro h_;revert h_)|exact cn|skip
 intro _ _ _;refine⟨by simp only[bQ];omega,Lq.mk d (u.at_+slot) 0 64 64 64 (xw n b),?_⟩;dsimp only
 and_intros<;>first|exact cm|exact hlast|(intro h_;revert h_)|exact cn|skip
 intro _ _;refine⟨gm d (u.at_+slot) 64 fun j=>xw n b (0+j),?_⟩;have e0:(fun j=>xw n b (0+j))=xw n b:=by funext j;rw[Nat.zero_add]
 have hn:(gm d (u.at_+slot) 64 (xw n b)).n<100000:=h3;have hc:(gm d (u.at_+slot) 64 (xw n b)).calls<1000000000000:=by show d.calls+1<_;omega
 rw[e0]
 and_intros<;>first|exact cm|exact hn|exact hc|(intro h_;revert h_)|exact cn|skip
 intro _ _ q hq;refine⟨fun e=>by(have:=hq e;exfalso;omega),fun _=>?_⟩;have hr:aj b.length 1 (aZ (aM 1 []) 0 0 fun(i j:Nat)=>aa cE b (0+i) j) (aa cE b):=⟨fun i hi j hj=>by
  simp only[aZ,Nat.not_lt_zero,if_false,Nat.sub_zero,Nat.zero_add]⟩
 refine⟨by omega,by omega,by omega,fun c q1 q2 q3=>⟨c,?_⟩⟩;dsimp only[HJ,Ba]
 and_intros<;>first|exact cm|exact hr|(intro h_;revert h_)|exact cn|skip)
theorem C7:ak (Y Tryz.prog).G.X 174 Bw:=aU fF My ⟨TO,Gk,pn,iG,trivial⟩
structure TP where
 at_:Nat
 d:bz
 b:List Int
 bc:Nat
def oQ(d:bz)(at_:Nat)(b:List Int):bz:=Ba ⟨at_,0,[],0⟩ (gn (gm (gm d at_ 64 fun _=>0) (at_+1) 64 fun _=>0)) 0 1 b
noncomputable def Mz:cC where
 α:=TP
 β:=Nat
 m:=3
 m':=5
 pre:=fun a=>a.at_+1<a.d.n/\a.d.n<100000/\a.d.calls<800000000000/\1<=a.b.length/\a.b.length<=40
 args:=fun a=>[.a (.ptr 0 0 0 0),.a (.int .i64 a.at_),.a (.slc 2 0 1 a.b.length a.bc)]
 hp:=fun a=>gG 0 1 a.d
 ro:=fun a=>jh 2 a.b
 post:=fun _ _=>True
 res:=fun _ _=>.mm [.a (.ptr 3 0 0 0),.a (.lit .i64 0)]
 cW:=fun a c=>Ff 3 4 0 ⟨a.at_,1,a.b,0⟩ c++gG 0 1 (oQ a.d a.at_ a.b)
def HK(x:TP):=x.at_+1<x.d.n/\x.d.n<100000/\x.d.calls<800000000000/\gR x.b 40
theorem P7:fnBody (Y Tryz.prog) [(174,Bw),(81,pL),(169,jC)] 127 Mz fun _=>[]:=fnBody.of (p :=
 ∀y:TP,HK y->aD (cM 0 (af y.at_)) (ah (dW y.d.n)/\iY (bn (aF (af y.at_) (dW y.d.n))) (∃z:Nat,False) (aF 40 (af (av y.b))) (ah (af y.at_+(0:Int))/\lQ 64 64 (∃z:Lq,ag (af y.at_+(0:Int)=af z.i/\wV z y.d 64 sM (aS y.at_/\lQ 64 64 (∃u:Lq,ag (bx y.at_ u.i/\wV u (lR z) 64 sM (Exists (kF (lR u) fun v=>∃x:J1,ag (aA x.slot ((1:Int)=x.n/\cN y.b x.b y.bc x.bc/\ag (bA y.at_ x.S.at_/\(0:Int)=x.S.fh/\(0=av x.S.text/\0=x.cap)/\aA x.S.slot (av x.S.text=0/\gz (gn v) x.d (cq x.b y.b cE/\qm x.S x.d x.slot (gR x.b 40)/\∀w:Nat,True->∃s:Nat,eo (aC 0) (bA (nJ.at_ (jm x)) y.at_/\nJ.fh (jm x)=(1:Int)/\cN (nJ.text (jm x)) y.b w s/\bA (nJ.slot (jm x)) 0/\cq y.b (nJ.text (jm x)) cE/\gz (xx x) (oQ y.d y.at_ y.b) (True/\True)))))))))))))))) (∃z:Nat,False)) (by kernel_rfl) (by
 delta aD aP av aK ah aC aF af bD fA aB eo bS cq iY aI jF lR wV lQ aS qm aA cM jm ag cN uz bx gR sM kF bn bA dW xx HK
 try dsimp -iota -proj only
 rintro⟨at_,d,b,bc⟩ ⟨h1,h2,h3,h4,h5⟩;dsimp only at *;have h0:aj 64 1 (fun(x j:Nat)=>[Value.int IntKind.u8 (0:Int)].getD j (Value.tuple #[])) (bM fun _=>0):=kr fun _ _=>rfl;refine⟨fun _=>⟨by simp only[bQ];omega,fun c=>by(exfalso;simp at c;omega),fun _=>⟨fun c=>by(exfalso;simp at c;omega),fun _=>?_⟩⟩,fun c=>by(exfalso;simp at c)⟩;refine⟨by simp only[bQ];omega,by omega,by omega,by omega,Lq.mk d at_ 0 64 64 64 fun _=>0,?_⟩;dsimp only
 and_intros<;>first|exact cm|exact h0|(intro h_;revert h_)|exact cn|skip
 intro _ _;refine⟨by simp only[bQ];omega,by omega,by omega,by omega,Lq.mk (gm d at_ 64 fun _=>0) (at_+1) 0 64 64 64 fun _=>0,?_⟩;have hn1:at_+1<(gm d at_ 64 fun _=>0).n:=h1;have hn2:(gm d at_ 64 fun _=>0).n<100000:=h2;have hc2:(gm d at_ 64 fun _=>0).calls<1000000000000:=by show d.calls+1<_;omega
 dsimp only
 and_intros<;>first|exact cm|exact h0|exact hn1|exact hn2|exact hc2|(intro h_;revert h_)|exact cn|skip
 intro _ _;obtain⟨D,hD⟩:∃D,D=gm (gm d at_ 64 fun _=>0) (at_+1) 64 fun _=>0:=⟨_,rfl⟩
 rw[<- hD];have hn3:D.n=d.n:=by rw[hD];rfl
 have hc3:D.calls=d.calls+2:=by rw[hD];rfl
 refine⟨D,?_⟩
 and_intros<;>first|exact cm|(intro h_;revert h_)|exact cn|skip
 intro _ _;have hn4:at_+1<(gn D).n:=by show at_+1<D.n;omega
 have hn5:(gn D).n<100000:=by show D.n<_;omega
 have hc4:(gn D).calls<900000000000:=by show D.calls+1<_;omega
 refine⟨J1.mk ⟨at_,0,[],0⟩ 0 (gn D) 0 1 b bc,?_⟩;dsimp only
 and_intros<;>first|exact cm|exact hn4|exact hn5|exact hc4|(intro h_;revert h_)|exact cn|skip
 intro c _;refine⟨c,?_⟩;dsimp only[HJ,oQ];rw[<- hD]
 and_intros<;>first|exact cm|(intro h_;revert h_)|exact cn|skip)
theorem P8:ak (Y Tryz.prog).G.X 127 Mz:=aU fF P7 ⟨C7,pn,iG,trivial⟩
structure MA where
 S:nJ
 cap:Nat
 d:bz
 b:List Int
 bc:Nat
noncomputable def MB:cC where
 α:=MA
 β:=Nat
 m:=5
 m':=6
 pre:=fun a=>a.S.at_+1<a.d.n/\a.S.slot<=1/\a.d.n<100000/\a.d.calls<900000000000/\1<=a.b.length/\a.b.length<=40/\0<=a.S.fh/\a.S.fh<1000000000000
 args:=fun a=>[.a (.ptr 0 0 0 0),.a (.slc 4 0 1 a.b.length a.bc)]
 hp:=fun a=>Ff 0 1 2 a.S a.cap++gG 2 3 a.d
 ro:=fun a=>jh 4 a.b
 post:=fun _ _=>True
 res:=fun _ _=>.a (.lit .i64 0)
 cW:=fun a c=>Ff 0 5 2 (HJ a.S (1-a.S.slot) (a.S.fh+1) a.b) c++gG 2 3 (Ba a.S a.d (1-a.S.slot) (a.S.fh+1) a.b)
def xy(x y:nJ)(z u:Nat)(v w:bz)(s t:Prop):=bA x.at_ y.at_/\x.fh=y.fh/\cN x.text y.text z u/\bA x.slot y.slot/\cq y.text x.text cE/\gz v w (s/\t)
def C8(x:MA):bz:=Ba x.S x.d (1-x.S.slot) (x.S.fh+(1:Int)) x.b
def C9(x:MA):nJ:=HJ x.S (1-x.S.slot) (x.S.fh+(1:Int)) x.b
def HL(x:MA):=qm x.S x.d x.S.slot (1<=av x.b/\av x.b<=40/\aX x.S.fh 1000000000000)
theorem P9:fnBody (Y Tryz.prog) [(174,Bw)] 146 MB fun _=>[]:=fnBody.of (p :=
 ∀x:MA,HL x->aY 40 (av x.b) (∃z:Nat,(1:Int)=0/\ag (xy x.S (C9 x) x.cap z x.d (C8 x) True True)) (ah (af x.S.slot)->ah ((1:Int)-af x.S.slot)/\(ah x.S.fh->ah (x.S.fh+(1:Int))/\∃y:J1,ag ((1:Int)-af x.S.slot=af y.slot/\x.S.fh+(1:Int)=y.n/\cN x.b y.b x.bc y.bc/\ag (xy x.S y.S x.cap y.cap x.d y.d (cq y.b x.b cE) (qm y.S y.d y.slot (gR y.b 40)/\∀u:Nat,True->∃v:Nat,aW (ag (xy (jm y) (C9 x) u v (xx y) (C8 x) True True)))))))) (by kernel_rfl) (by
 delta aD av aK ah aC aF af aX aB cq xy qm aW jm ag aY cN gR bA C8 xx C9 HL
 try dsimp -iota -proj only
 rintro⟨u,cap,d,b,bc⟩ ⟨h1,h2,h3,h4,h5,h6,h8,h9⟩;dsimp only at *;have e:(1:Int)-u.slot=((1-u.slot:Nat):Int):=by omega
 have h2':1-u.slot<=1:=by omega
 refine⟨fun c=>by(exfalso;have:=of_decide_eq_true c;omega),fun _ _=>⟨by simp only[bQ];omega,fun _=>⟨by simp only[bQ];omega,J1.mk u cap d (1-u.slot) (u.fh+1) b bc,?_⟩⟩⟩;dsimp only
 and_intros<;>first|exact cm|exact e|exact h2'|(intro h_;revert h_)|exact cn|skip
 intro c _;refine⟨c,?_⟩
 and_intros<;>first|exact cm|(intro h_;revert h_)|exact cn|skip)
theorem Qa:ak (Y Tryz.prog).G.X 146 MB:=aU fF P9 ⟨C7,trivial⟩
structure MetaM where
 bO:Int
 aQ:Int
 ready:Int
 frozen:Bool
def Da(m:MetaM):List A:=[.int .i64 m.bO,.int .i64 m.aQ,.int .i64 m.ready,.bool m.frozen]
def Bx:MetaM:=⟨0,0,0,false⟩
def Bb(n:Int):Bool:=decide (0<=n)&&decide (n<=1099511627776)
def mZ(m:MetaM):Bool:=Bb m.bO&&(Bb m.aQ&&(Bb m.ready&&((m.ready == 0||decide (m.aQ<m.ready))&&(!m.frozen||decide (0<m.ready)))))
def eU(m:MetaM):List Int:=ic [m.bO,m.aQ,m.ready,if m.frozen then 1 else 0]
theorem Db{m:MetaM}(h:mZ m=true):(0<=m.bO/\m.bO<=1099511627776)/\(0<=m.aQ/\m.aQ<=1099511627776)/\0<=m.ready/\m.ready<=1099511627776:=by
 simp only[mZ,Bb,Bool.and_eq_true,decide_eq_true_eq]at h;omega
def VZ(m:MetaM):List Int:=[m.bO,m.aQ,m.ready]
theorem TQ{m:MetaM}{i:Nat}(hi:i<3)(h:Bb (gl (VZ m) i)=false):mZ m=false:=by
 rcases(by omega:i=0\/i=1\/i=2)with rfl|rfl|rfl
 ·have h:Bb m.bO=false:=h;simp[mZ,h]
 ·have h:Bb m.aQ=false:=h;simp[mZ,h]
 ·have h:Bb m.ready=false:=h;simp[mZ,h]
theorem V0{m:MetaM}(h:∀i,i<3->Bb (gl (VZ m) i)=true):mZ m=((m.ready == 0||decide (m.aQ<m.ready))&&(!m.frozen||decide (0<m.ready))):=by
 have h0:Bb m.bO=true:=h 0 (by omega);have h1:Bb m.aQ=true:=h 1 (by omega);have h2:Bb m.ready=true:=h 2 (by omega);simp[mZ,h0,h1,h2]
noncomputable def TR:cC where
 α:=MetaM
 β:=Unit
 m:=0
 m':=0
 pre:=fun _=>True
 args:=fun m=>[.agg (Da m)]
 hp:=fun _=>[]
 ro:=fun _=>[]
 post:=fun _ _=>True
 res:=fun m _=>.a (.bool (mZ m))
 cW:=fun _ _=>[]
def YZ(m:MetaM):An:=.flat 2 Nat (fun s i=>s.int 13 i) (fun _ i=>i<=3/\∀j,j<i->Bb (gl (VZ m) j)=true) (fun _ i=>3-i)
def zZ(y:Bool)(x:Prop)(z u:Int)(v:Bool)(w:Prop):=aD y x (ah z->ah u->aD v x w)
def z1(x y:Int)(z:Prop)(u:Int)(v:Prop):=ah x->lp x y z u v
def z6(x:MetaM)(y:Prop):=cF x.bO x.aQ (aC x.ready) (bK x.frozen y)
def MC(x:MetaM)(y:Prop):=aC 3/\bC 3 3/\bT (ag (z6 x (dN 3 1 (aM 1 (bq x.bO (bq x.aQ (bq x.ready []))))/\z6 x y)))
theorem TS:fnBody (Y Tryz.prog) [] 145 TR fun m=>[(145,[YZ m],[])]:=fnBody.of (p :=
 ∀x:MetaM,True->ah x.bO->ah x.aQ->ah x.ready->(∃y:Nat,aA y (MC x ((y<=3/\∀z:Nat,z<y->aB (Bb (gl (VZ x) z)))/\True)))/\∀y:Nat,(y<=3/\∀z:Nat,z<y->aB (Bb (gl (VZ x) z)))->aD (aF (af y) 3) (aX (af y) 3/\0+ay y<3/\z1 (js (aM 1 (bq x.bO (bq x.aQ (bq x.ready []))) (0+ay y) 0)) 0 (Exists (eZ (mZ x))) 1099511627776 (cO y fun u=>MC x (dY u 3 (∀v:Nat,v<u->aB (Bb (gl (VZ x) v))) y))) (ah x.ready->zZ (x.ready == (0:Int)) (aD (bn x.frozen) (bL (true=mZ x)) (ah x.ready->bL (aF 0 x.ready=mZ x))) x.ready x.aQ (aF x.aQ x.ready) (Exists (eZ (mZ x))))) (by kernel_rfl) (by
 delta aD aK cF ah bq bW ay aC aF af bK dY aX aB dO aV fR bS dN iY bT bC bL cO zZ ax aS aA ag eZ z1 z6 bx bn bl MC lp
 try dsimp -iota -proj only
 intro m _ _ _ _;have hg:∀i:Nat,i<3->js (aM 1 [Value.int .i64 m.bO,Value.int .i64 m.aQ,Value.int .i64 m.ready] (0+(i:Int).toNat) 0)=gl (VZ m) i:=fun i hi=>by
  rcases(by omega:i=0\/i=1\/i=2)with rfl|rfl|rfl<;>rfl
 have h0:∀j:Nat,j<0->Bb (gl (VZ m) j)=true:=fun j hj=>absurd hj (Nat.not_lt_zero j);refine⟨⟨0,?_⟩,fun i hi=>?_⟩
 ·and_intros<;>first|exact cm|exact h0|(intro h_;revert h_)|exact cn|skip
 obtain⟨hi,hall⟩:=hi;refine⟨fun c1=>?_,fun c1 _=>?_⟩
 ·have hi3:i<3:=by have:=of_decide_eq_true c1;omega
  rw[hg i hi3];refine⟨⟨by omega,by omega⟩,by omega,fun _=>⟨fun c2=>⟨(),?_,trivial,trivial⟩,fun c2=>⟨fun c3=>⟨(),?_,trivial,trivial⟩,fun c3=>⟨by simp only[bQ];omega,i+1,?_⟩⟩⟩⟩
  ·exact(TQ hi3 (by have:=of_decide_eq_true c2;simp only[Bb,Bool.and_eq_false_iff,decide_eq_false_iff_not];omega)).symm
  ·exact(TQ hi3 (by have:=of_decide_eq_true c3;simp only[Bb,Bool.and_eq_false_iff,decide_eq_false_iff_not];omega)).symm
  ·have h1:∀j,j<i+1->Bb (gl (VZ m) j)=true:=fun j hj=>by
    by_cases e:j=i
    ·subst e;have:=of_decide_eq_false c2;have:=of_decide_eq_false c3;simp only[Bb,Bool.and_eq_true,decide_eq_true_eq];omega
    ·exact hall j (by omega)
   and_intros<;>first|exact cm|exact h1|(intro h_;revert h_)|exact cn|skip
 ·have hi3:i=3:=by have:=of_decide_eq_false c1;omega
  subst hi3;rw[V0 hall];refine⟨fun d1=>⟨fun d2=>⟨(),?_⟩,fun d2 _=>⟨(),?_⟩⟩,fun d1 _ _=>⟨fun d2=>⟨fun d3=>⟨(),?_⟩,fun d3 _=>⟨(),?_⟩⟩,fun d2=>⟨(),?_⟩⟩⟩<;>simp[*])
theorem TT:ak (Y Tryz.prog).G.X 145 TR:=aU fF TS trivial
noncomputable def HM:cC where
 α:=MetaM
 β:=Nat
 m:=0
 m':=1
 pre:=fun m=>mZ m=true
 args:=fun m=>[.agg (Da m)]
 hp:=fun _=>[]
 ro:=fun _=>[]
 post:=fun _ _=>True
 res:=fun m c=>.a (.slc 0 0 1 (eU m).length c)
 cW:=fun m _=>jh 0 (eU m)
def MD(x:MetaM)(z:Int):=ah x.bO->ah x.aQ->ah x.ready->∃y:lS,(0=av y.l/\0=y.cap)/\y5 4 y (av y.l=0) x.bO (bq x.aQ (bq x.ready (bq z []))) fun u=>∃v:Nat,lT (y.l++ic y.ns) (eU x) u v cE True True
theorem Qb:fnBody (Y Tryz.prog) [(165,Cq)] 128 HM fun _=>[]:=fnBody.of (p :=
 ∀x:MetaM,aB (mZ x)->aD x.frozen (MD x 1) (MD x 0)) (by kernel_rfl) (by
 delta aD av aK ah bq aX aB dO bS cq dP lT y5 ag cN MD y3
 try dsimp -iota -proj only
 intro m hm;have hr:=Db hm;have key:∀f:Int,0<=f->f<=1->eU m=ic [m.bO,m.aQ,m.ready,f]->∃a:lS,a=⟨[],0,[m.bO,m.aQ,m.ready,f],4⟩/\([]++ic [m.bO,m.aQ,m.ready,f])=eU m/\aj 4 1 (aM 1 [Value.int .i64 m.bO,Value.int .i64 m.aQ,Value.int .i64 m.ready,Value.int .i64 f]) (aa encI [m.bO,m.aQ,m.ready,f])/\∀i:Nat,i<4->0<=gl [m.bO,m.aQ,m.ready,f] i/\gl [m.bO,m.aQ,m.ready,f] i<4611686018427387904:=fun f f0 f1 e=>by
  refine⟨_,rfl,by rw[e];rfl,⟨fun i hi j hj=>?_⟩,fun i hi=>?_⟩
  ·obtain rfl:j=0:=by omega
   rcases(by omega:i=0\/i=1\/i=2\/i=3)with rfl|rfl|rfl|rfl<;>rfl
  ·rcases(by omega:i=0\/i=1\/i=2\/i=3)with rfl|rfl|rfl|rfl
   ·show 0<=m.bO/\m.bO<_;omega
   ·show 0<=m.aQ/\m.aQ<_;omega
   ·show 0<=m.ready/\m.ready<_;omega
   ·show 0<=f/\f<_;omega
 have l100:∀f:Int,[m.bO,m.aQ,m.ready,f].length<100:=fun _=>by simp
 refine⟨fun c _ _ _=>?_,fun c _ _ _=>?_⟩
 ·obtain⟨a,rfl,e1,e2,e3⟩:=key 1 (by omega) (by omega) (by unfold eU;rw[c];rfl);refine⟨lS.mk [] 0 [m.bO,m.aQ,m.ready,1] 4,?_⟩;dsimp only;rw[e1]
  and_intros<;>first|exact cm|exact e2|exact e3|exact l100 _|(intro h_;revert h_)|exact cn|skip
  intro c _;refine⟨c,?_⟩
  and_intros<;>first|exact cm|(intro h_;revert h_)|exact cn|skip
 ·obtain⟨a,rfl,e1,e2,e3⟩:=key 0 (by omega) (by omega) (by unfold eU;rw[c];rfl);refine⟨lS.mk [] 0 [m.bO,m.aQ,m.ready,0] 4,?_⟩;dsimp only;rw[e1]
  and_intros<;>first|exact cm|exact e2|exact e3|exact l100 _|(intro h_;revert h_)|exact cn|skip
  intro c _;refine⟨c,?_⟩
  and_intros<;>first|exact cm|(intro h_;revert h_)|exact cn|skip)
theorem Fg:ak (Y Tryz.prog).G.X 128 HM:=aU fF Qb ⟨y7,trivial⟩
structure qn where
 s:nJ
 m:MetaM
def Dc(ke su tx dv:Nat)(k:qn)(cap:Nat):List (Nat×Chunk):=(ke,.obj 155 (.ptr su 0 0 0::Da k.m))::Ff su tx dv k.s cap
def jx(at_:Nat):qn:=⟨⟨at_,1,eU Bx,0⟩,Bx⟩
theorem J2{m:MetaM}(h:mZ m=true):1<=(eU m).length/\(eU m).length<=40:=by
 have:=Db h;have a1:=iK m.bO;have a2:=iK m.aQ;have a3:=iK m.ready;have a4:=iK (if m.frozen then 1 else 0);simp only[eU,ic,List.flatMap_cons,List.flatMap_nil,List.append_nil,List.length_append];omega
@[reducible] def Fh(a b:qn)(v w:Nat)(p:Prop):Prop:=a.m.bO=b.m.bO/\a.m.aQ=b.m.aQ/\a.m.ready=b.m.ready/\a.m.frozen=b.m.frozen/\0=0/\(↑a.s.at_:Int)=(↑b.s.at_:Int)/\a.s.fh=b.s.fh/\(0=0/\a.s.text.length=b.s.text.length/\v=w)/\(↑a.s.slot:Int)=(↑b.s.slot:Int)/\(b.s.text.length<=a.s.text.length/\aj b.s.text.length 1 (aa cE a.s.text) (aa cE b.s.text))/\p
structure V2 where
 at_:Nat
 d:bz
noncomputable def ME:cC where
 α:=V2
 β:=Nat
 m:=2
 m':=5
 pre:=fun a=>a.at_+1<a.d.n/\a.d.n<100000/\a.d.calls<800000000000
 args:=fun a=>[.a (.ptr 0 0 0 0),.a (.int .i64 a.at_)]
 hp:=fun a=>gG 0 1 a.d
 ro:=fun _=>[]
 post:=fun _ _=>True
 res:=fun _ _=>.mm [.a (.ptr 2 0 0 0),.a (.lit .i64 0)]
 cW:=fun a c=>Dc 2 3 4 0 (jx a.at_) c++gG 0 1 (oQ a.d a.at_ (eU Bx))
def Dd(y:Int)(x:MetaM)(z:Int)(u v:Prop):=y=x.bO/\z=x.aQ/\(0:Int)=x.ready/\fR x.frozen u v
theorem Qc:fnBody (Y Tryz.prog) [(128,HM),(127,Mz)] 82 ME fun _=>[]:=fnBody.of (p :=
 ∀x:V2,x.at_+1<x.d.n/\x.d.n<100000/\x.d.calls<800000000000->∃z:MetaM,Dd 0 z 0 (aB (mZ z)) (∀u:Nat,True->∃y:TP,ag (bA x.at_ y.at_/\cN (eU z) y.b u y.bc/\gz x.d y.d (cq y.b (eU z) cE/\HK y/\∀v:Nat,True->∃w:Nat,eo (aC 0) (Dd 0 (jx x.at_).m 0 (0=0) (bA y.at_ (jx x.at_).s.at_/\(1:Int)=(jx x.at_).s.fh/\cN y.b (jx x.at_).s.text v w/\bA 0 (jx x.at_).s.slot/\cq (jx x.at_).s.text y.b cE/\gz (oQ y.d y.at_ y.b) (oQ x.d x.at_ (eU Bx)) (True/\True))))))) (by kernel_rfl) (by
 delta av aK aC af aB fR eo cq ag cN gR bA HK Dd
 try dsimp -iota -proj only
 rintro⟨at_,d⟩ ⟨h1,h2,h3⟩;dsimp only at *;obtain⟨l1,l2⟩:=J2 (show mZ Bx=true from rfl);refine⟨Bx,rfl,rfl,rfl,rfl,rfl,fun b _=>⟨TP.mk at_ d (eU Bx) b,?_⟩⟩;dsimp only
 and_intros<;>first|exact cm|exact l1|exact l2|(intro h_;revert h_)|exact cn|skip
 intro c _;refine⟨c,?_⟩;dsimp only[jx]
 and_intros<;>first|exact cm|(intro h_;revert h_)|exact cn|skip)
theorem Qd:ak (Y Tryz.prog).G.X 82 ME:=aU fF Qc ⟨Fg,P8,trivial⟩
def gD(k:qn)(m:MetaM):Bool:=mZ m&&(!decide (m.bO<k.m.bO)&&!decide (m.aQ<k.m.aQ))
def mO(k:qn)(m:MetaM):qn:=if gD k m then⟨HJ k.s (1-k.s.slot) (k.s.fh+1) (eU m),m⟩else k
def ig(k:qn)(d:bz)(m:MetaM):bz:=if gD k m then Ba k.s d (1-k.s.slot) (k.s.fh+1) (eU m)else d
structure HN where
 k:qn
 cap:Nat
 d:bz
 m:MetaM
noncomputable def HO:cC where
 α:=HN
 β:=Nat
 m:=5
 m':=6
 pre:=fun a=>a.k.s.at_+1<a.d.n/\a.k.s.slot<=1/\a.d.n<100000/\a.d.calls<900000000000/\0<=a.k.s.fh/\a.k.s.fh<1000000000000
 args:=fun a=>[.a (.ptr 0 0 0 0),.agg (Da a.m)]
 hp:=fun a=>Dc 0 1 2 3 a.k a.cap++gG 3 4 a.d
 ro:=fun _=>[]
 post:=fun _ _=>True
 res:=fun a _=>.a (.int .i64 (if gD a.k a.m then 0 else 1))
 cW:=fun a c=>Dc 0 1 5 3 (mO a.k a.m) c++gG 3 4 (ig a.k a.d a.m)
def s8(x y:MetaM)(z:Prop):=x.bO=y.bO/\x.aQ=y.aQ/\x.ready=y.ready/\x.frozen=y.frozen/\z
def MF(x:HN):Nat->Prop:=fun(y:Nat)=>(1:Int)=iw (gD x.k x.m)/\ag (Fh x.k (mO x.k x.m) x.cap y (gz x.d (ig x.k x.d x.m) (True/\True)))
def z7(x:HN):=qm x.k.s x.d x.k.s.slot (aX x.k.s.fh 1000000000000)
theorem Qe:fnBody (Y Tryz.prog) [(145,TR),(128,HM),(146,MB)] 100 HO fun _=>[]:=fnBody.of (p :=
 ∀x:HN,z7 x->∃u:MetaM,s8 x.m u (cS (zZ (bn (mZ u)) (Exists (MF x)) x.m.bO x.k.m.bO (aF x.m.bO x.k.m.bO) (ah x.m.aQ->ah x.k.m.aQ->aD (aF x.m.aQ x.k.m.aQ) (Exists (MF x)) (∃z:MetaM,s8 x.m z (aB (mZ z)/\∀v:Nat,True->∃y:MA,eo (cN (eU z) y.b v y.bc) (xy x.k.s y.S x.cap y.cap x.d y.d (cq y.b (eU z) cE) (HL y/\∀w:Nat,True->∃t:Nat,(0:Int)=iw (gD x.k x.m)/\ag (s8 x.m (mO x.k x.m).m (ag (xy (C9 y) (mO x.k x.m).s w t (C8 y) (ig x.k x.d x.m) True True))))))))))) (by kernel_rfl) (by
 delta aD av aK ah aF af aX aB eo cq aI xy zZ qm iw ag s8 cN bn MF bA z7 C8 cS C9 HL
 try dsimp -iota -proj only
 rintro⟨k,cap,d,m⟩ ⟨h1,h2,h3,h4,h5,h6⟩;dsimp only at *;have no:gD k m=false->mO k m=k/\ig k d m=d:=fun h=>⟨if_neg (by rw[h];decide),if_neg (by rw[h];decide)⟩
 refine⟨m,rfl,rfl,rfl,rfl,trivial,fun _ _=>⟨fun c=>?_,fun c _ _=>⟨fun c2=>?_,fun c2 _ _=>⟨fun c3=>?_,fun c3=>?_⟩⟩⟩⟩
 ·have hk:gD k m=false:=by unfold gD;simp only[Bool.not_eq_true']at c;rw[c];rfl
  obtain⟨e1,e2⟩:=no hk;rw[e1,e2,hk];refine⟨cap,?_⟩
  and_intros<;>first|exact cm|(intro h_;revert h_)|exact cn|skip
 ·have hk:gD k m=false:=by unfold gD;rw[c2];simp
  obtain⟨e1,e2⟩:=no hk;rw[e1,e2,hk];refine⟨cap,?_⟩
  and_intros<;>first|exact cm|(intro h_;revert h_)|exact cn|skip
 ·have hk:gD k m=false:=by unfold gD;rw[c3];simp
  obtain⟨e1,e2⟩:=no hk;rw[e1,e2,hk];refine⟨cap,?_⟩
  and_intros<;>first|exact cm|(intro h_;revert h_)|exact cn|skip
 ·have hm:mZ m=true:=by simpa using c
  have hk:gD k m=true:=by unfold gD;rw[hm,c2,c3];rfl
  obtain⟨l1,l2⟩:=J2 hm;have e1:mO k m=⟨HJ k.s (1-k.s.slot) (k.s.fh+1) (eU m),m⟩:=if_pos hk;have e2:ig k d m=Ba k.s d (1-k.s.slot) (k.s.fh+1) (eU m):=if_pos hk;rw[e1,e2,hk];refine⟨m,rfl,rfl,rfl,rfl,hm,fun bc _=>⟨MA.mk k.s cap d (eU m) bc,?_⟩⟩;dsimp only
  and_intros<;>first|exact cm|exact l1|exact l2|(intro h_;revert h_)|exact cn|skip
  intro c' _;refine⟨c',?_⟩
  and_intros<;>first|exact cm|(intro h_;revert h_)|exact cn|skip)
theorem Fi:ak (Y Tryz.prog).G.X 100 HO:=aU fF Qe ⟨TT,Fg,Qa,trivial⟩
structure lF where
 d:bz
 cL:bN
 cl:List (ByteArray×Int)
 jL:bN
 ms:List eR
 k:qn
 bO:Int
structure tK where
 H:PH
 cy:gQ
 x:Ix.cH
 xc:Nat
 jy:gQ
 jc:Nat
 kc:Nat
def lF.fl(s:lF):nU:=⟨s.cL,s.d,s.cl⟩
def tK.fl(p:tK):rU:=⟨p.H,p.cy,p.x,p.xc⟩
def lF.jr(s:lF):IQ:=⟨s.jL,s.d,s.ms⟩
def tK.jr(p:tK):IS:=⟨p.H,p.jy,p.jc⟩
def Zq(ca jr ke:Nat)(bO:Int):Chunk:=.obj 88 [.ptr ca 0 0 0,.ptr jr 0 0 0,.ptr ke 0 0 0,.int .i64 bO]
def vE(st ca cl dv ds ix it jr ma jl ke su tx pl:Nat)(s:lF)(p:tK):List (Nat×Chunk) :=
 [(st,Zq ca jr ke s.bO),(ca,.obj 205 [.ptr cl 0 0 0,.ptr ix 0 0 0]),(cl,fS dv s.cL p.cy.lv)]++gG dv ds s.d++Ix.o4 ix it p.x.t p.xc p.x.n p.x.used ++
 [(jr,WD jl ma s.ms.length p.jc),(ma,.arr 228 rq s.ms.length (aa cI s.ms)),(jl,fS dv s.jL p.jy.lv)]++Dc ke su tx dv s.k p.kc++[(pl,.cA p.H)]
structure oR(s:lF)(p:tK):Prop where
 fl:ja s.fl p.fl
 jl:bU p.H p.jy s.jL
 sep:∀z,z∈br p.jy->z∉br p.cy
 cap:s.ms.length<=p.jc
@[reducible] def HP(a b:lF)(p q:tK)(r:Prop):Prop:=a.bO=b.bO/\0=0/\0=0/\0=0/\tO a.cL b.cL p.cy.lv q.cy.lv (gz a.d b.d (zK p.x q.x p.xc q.xc (0=0/\we a.ms b.ms p.jc q.jc (0=0/\tO a.jL b.jL p.jy.lv q.jy.lv (0=0/\Fh a.k b.k p.kc q.kc r)))))
def De(H:PH)(c j:List Nat)(p:tK):Prop:=∀z,H z≠none->z∉c->z∉j->p.H z=H z/\z∉br p.cy/\z∉br p.jy
def om(m:MetaM):MetaM:={ m with bO:=m.bO+1 }
def iP(n:Nat):Nat:=min 200 ((n-162)/8)
structure AS where
 k:qn
 kc:Nat
 d:bz
 H:PH
 ms:List eR
 es:List (Option aG)
def Fj(a:AS):bz:=ig a.k a.d (om a.k.m)
def jU(a:AS):lF:=⟨Fj a,cK 162 (iP a.d.n) (Fj a),nj a.es (fW (cK 162 (iP a.d.n) (Fj a)).l) a.es.length,cK 2 20 (Fj a),a.ms,mO a.k (om a.k.m),a.k.m.bO+1⟩
structure z8(a:AS):Prop where
 n:192<=a.d.n/\a.d.n<100000
 calls:a.d.calls<900000000000
 save:gD a.k (om a.k.m)=true
 k:a.k.s.at_=0/\a.k.s.slot<=1/\0<=a.k.s.fh/\a.k.s.fh<1000000000000
 jr:∀H,zY.pre ⟨H,Fj a,2,20,a.ms⟩
 fl:∀H,zS.pre ⟨H,Fj a,162,iP a.d.n,a.es⟩
noncomputable def MG:cC where
 α:=AS
 β:=tK
 m:=6
 m':=16
 pre:=fun a=>z8 a
 args:=fun a=>[.a (.ptr 0 0 0 0),.a (.ptr 2 0 0 0)]
 hp:=fun a=>Dc 2 3 4 0 a.k a.kc++gG 0 1 a.d++[(5,.cA a.H)]
 ro:=fun _=>[]
 post:=fun a b=>oR (jU a) b/\De a.H [] [] b
 res:=fun _ _=>.mm [.a (.ptr 6 0 0 0),.a (.lit .i64 0)]
 cW:=fun a b=>vE 6 7 8 0 1 9 10 11 12 13 2 3 14 15 (jU a) b
noncomputable def TU:List (Nat×cC):=[(100,HO),(129,zY),(130,zS)]
def uX(u:bz)(z:lF)(v:Ix.cH)(y:tK)(w:Nat)(s:List eR)(t:Nat)(f:bN)(g:gQ)(h:qn)(i:Nat)(j:Prop):=gz u z.d (zK v y.x w y.xc (ag (we s z.ms t y.jc (fH f z.jL g y.jy (ag (Fh h z.k i y.kc j))))))
def Aa(w:nU)(u:lF)(z:rU)(v:tK)(s:bz)(t:List eR)(f:Nat)(g:bN)(h:gQ)(i:qn)(j:Nat)(k:Prop):=az (fH w.L u.cL z.y v.cy (uX s u z.x v z.cap t f g h i j k))
def xz(y:AS)(x:tK)(z:PH):=oR (jU y) x/\De z [] [] x
def HQ(x:HN):Int:=af (ig x.k x.d x.m).n-(162:Int)
theorem Qf:fnBody (Y Tryz.prog) TU 83 MG fun _=>[]:=fnBody.of (p :=
 ∀z:AS,z8 z->ah z.k.m.bO->ah (z.k.m.bO+(1:Int))/\∃x:HN,ag (z.k.m.bO+(1:Int)=x.m.bO/\z.k.m.aQ=x.m.aQ/\z.k.m.ready=x.m.ready/\z.k.m.frozen=x.m.frozen/\ag (Fh z.k x.k z.kc x.cap (gz z.d x.d (z7 x/\∀h:Nat,True->aD (iw (gD x.k x.m) != (0:Int)) (∃u:tK,False) (∃u:vO,ag ((2:Int)=af u.from_/\(20:Int)=af u.au/\z.H=u.H/\gz (ig x.k x.d x.m) u.d (HH u/\∀w:IS,bU w.H w.y (cK u.from_ u.au u.d)/\(∀t:Nat,oN (u.H t) (w.H t) (br w.y) t)/\bY u.ms<=w.cap->ah (HQ x)/\(8:Int)≠(0:Int)/\ah (Int.tdiv (HQ x) (8:Int))/\∃v:lq,ag ((162:Int)=af v.from_/\oW false 200 (Int.tdiv (HQ x) (8:Int))=af v.au/\w.H=v.H/\gz (ig x.k x.d x.m) v.d (zT v.from_ v.au v.d (Xy v.es (fW (cK v.from_ v.au v.d).l))/\∀s:rU,(ja (JW v) s/\∀f:Nat,oN (v.H f) (s.H f) (br s.y) f)->ah (z.k.m.bO+(1:Int))->∃g:tK,ag (aW (az (ag (z.k.m.bO+(1:Int)=(jU z).bO/\Aa (JW v) (jU z) s g (ig x.k x.d x.m) u.ms w.cap (cK u.from_ u.au u.d) w.y (mO x.k x.m) h (s.H=g.H/\xz z g z.H/\True))))))))))))))) (by kernel_rfl) (by
 delta aD ah bW aC oW af aX aB bY bB Aa qm iw aW zT ag oN uX az z7 fH xz oM HQ HH
 rintro⟨k,kc,d,H,ms,es⟩ ok hb;obtain⟨⟨n1,n2⟩,hcl,hsv,⟨k1,k2,k3,k4⟩,hjr,hfl⟩:=ok;dsimp only at *;have hm:mZ (om k.m)=true:=by
  have:=hsv;unfold gD at this;simp only[Bool.and_eq_true]at this;exact this.1
 obtain⟨g1,g2,g3,g4⟩:=Db hm;have g1:0<=k.m.bO+1/\k.m.bO+1<=1099511627776:=g1;obtain⟨D,hD⟩:∃D,D=ig k d (om k.m):=⟨_,rfl⟩
 have hDn:D.n=d.n:=by rw[hD];unfold ig;split<;>rfl
 have hk0:k.s.at_+1<d.n:=by omega
 have hjr:zY.pre ⟨H,D,2,20,ms⟩:=by rw[hD];exact hjr H
 obtain⟨j1,j2,j3,j4⟩:=hjr;have e:jU ⟨k,kc,d,H,ms,es⟩=⟨D,cK 162 (iP d.n) D,nj es (fW (cK 162 (iP d.n) D).l) es.length,cK 2 20 D,ms,mO k (om k.m),k.m.bO+1⟩:=by rw[hD];rfl
 rw[e];refine⟨by simp only[bQ];omega,HN.mk k kc d (om k.m),?_⟩;dsimp only;rw[hsv,<- hD]
 and_intros<;>first|exact cm|(intro h_;revert h_)|exact cn|skip
 intro b _;refine⟨fun c=>absurd c (by decide),fun _=>⟨vO.mk H D 2 20 ms,?_⟩⟩;dsimp only
 and_intros<;>first|exact cm|exact j2|exact j3|exact j4|(intro h_;revert h_)|exact cn|skip
 rintro⟨H1,y1,jc⟩ ⟨hl1,hf1,hc1⟩;dsimp only at hl1 hf1 hc1 ⊢;have hfl:zS.pre ⟨H1,D,162,iP d.n,es⟩:=by rw[hD];exact hfl H1
 obtain⟨f1,f2,f3⟩:=hfl;have hdv:((D.n:Int)-162).tdiv 8=(((d.n-162)/8:Nat):Int):=by
  rw[hDn,Int.tdiv_eq_ediv_of_nonneg (by omega)];omega
 rw[hdv];have hsg:(bif false then max (200:Int) (((d.n-162)/8:Nat):Int)else min 200 (((d.n-162)/8:Nat):Int))=(iP d.n:Nat):=by
  simp only[cond_false,iP];omega
 refine⟨by simp only[bQ];omega,by decide,by simp only[bQ];omega,lq.mk H1 D 162 (iP d.n) es,?_⟩;dsimp only
 and_intros<;>first|exact cm|exact hsg|exact f1|exact f2|exact f3|(intro h_;revert h_)|exact cn|skip
 rintro⟨H2,y2,x2,xc2⟩ ⟨hat2,hf2⟩ _;dsimp only at hf2 ⊢;refine⟨⟨H2,y2,x2,xc2,y1,jc,b⟩,?_⟩;have hat:oR ⟨D,cK 162 (iP d.n) D,nj es (fW (cK 162 (iP d.n) D).l) es.length,cK 2 20 D,ms,mO k (om k.m),k.m.bO+1⟩ ⟨H2,y2,x2,xc2,y1,jc,b⟩ :=
  ⟨hat2,hl1.frame fun z hz=>(hf2 z (hl1.dom z hz)).1,fun z hz=>(hf2 z (hl1.dom z hz)).2,hc1⟩
 have hfr:De H [] [] ⟨H2,y2,x2,xc2,y1,jc,b⟩:=fun z hz _ _=>by
  obtain⟨a1,a2⟩:=hf1 z hz;obtain⟨b1,b2⟩:=hf2 z (by rw[a1];exact hz);exact⟨b1.trans a1,b2,a2⟩
 dsimp only[JW]
 and_intros<;>first|exact cm|exact hat|exact hfr|(intro h_;revert h_)|exact cn|skip)
theorem callParts:ak (Y Tryz.prog).G.X 83 MG:=aU fF Qf ⟨Fi,P6,P0,trivial⟩
def eM(d:bz)(i:Nat):bz:=⟨d.n,fun r j=>if r<i/\j<64 then 0 else d.now r j,d.EM,fun r=>if r<i then true else d.loose r,d.calls+i⟩
structure Df where
 d:bz
 H:PH
def ru(a:Df):AS:=⟨jx 0,0,oQ (eM a.d a.d.n) 0 (eU Bx),a.H,[],[]⟩
noncomputable def yj:cC where
 α:=Df
 β:=tK
 m:=3
 m':=17
 pre:=fun a=>192<=a.d.n/\a.d.n<100000/\a.d.calls<100000000000/\z8 (ru a)
 args:=fun a=>[.a (.ptr 0 0 0 0)]
 hp:=fun a=>gG 0 1 a.d++[(2,.cA a.H)]
 ro:=fun _=>[]
 post:=fun a b=>oR (jU (ru a)) b/\De a.H [] [] b
 res:=fun _ _=>.mm [.a (.ptr 3 0 0 0),.a (.lit .i64 0)]
 cW:=fun a b=>vE 3 4 5 0 1 6 7 8 9 10 11 12 13 14 (jU (ru a)) b
def V3(a:Df):An:=.flat 5 Nat (fun s i=>((s.at_ 0 (.obj 116 [.slc 1 0 129 a.d.n a.d.n,.int .i64 (eM a.d i).calls])).at_ 1 (.arr 158 Cj a.d.n (fo (eM a.d i)))).int 16 i) (fun _ i=>i<=a.d.n) (fun _ i=>a.d.n-i)
noncomputable def V4:List (Nat×cC):=[(81,pL),(82,ME),(83,MG)]
def uY(x:bz)(y:Df):=iu 192 x.n (x.calls<100000000000/\z8 (ru y))
def jo(x y:lF)(z u:tK)(v:Prop):=az (ag (HP x y z u v))
theorem MH:fnBody (Y Tryz.prog) V4 46 yj fun a=>[(46,[V3 a],[])]:=fnBody.of (p :=
 ∀x:Df,uY x.d x->aD (aF (af x.d.n) 192) (∃z:tK,False) ((∃z:Nat,aA z (bu x.d.n/\qg (bC x.d.n x.d.n/\bA x.d.calls (eM x.d z).calls/\aK x.d.n x.d.n 129 (fo x.d) (fo (eM x.d z))/\x.H=x.H/\z<=x.d.n/\True)))/\∀z:Nat,z<=x.d.n->aY (af z) x.d.n (lQ 64 64 (∃y:Lq,ag (bA z y.i/\(0=y.r/\64=y.len/\64=y.cap)/\sI x.d.n y.d (af (eM x.d z).calls) y.d (fo (eM x.d z)) (aK y.n 64 1 sM (bM y.src)) (uz y/\aI (cO z fun v=>bu x.d.n/\qg (sI (bz.n (lR y)) x.d (af (bz.calls (lR y))) (eM x.d v) (fo (lR y)) (x.H=x.H) (bF v x.d.n z))))))) (∃y:V2,ag (aA y.at_ (sI x.d.n y.d (af (eM x.d z).calls) y.d (fo (eM x.d z)) (y.at_+1<y.d.n/\y.d.n<100000/\y.d.calls<800000000000) (∀v:Nat,True->∃u:AS,az (ag (Fh (jx y.at_) u.k v u.kc (gz (oQ y.d y.at_ (eU Bx)) u.d (x.H=u.H/\z8 u/\∀w:tK,xz u w u.H->∃s:tK,ag (aW (jo (jU u) (jU (ru x)) w s (w.H=s.H/\xz (ru x) s x.H/\True))))))))))))) (by kernel_rfl) (by
 delta aD aP aK cF ah bW aC aF af bK bD fA aB bS aI bT bC cO dP bF lR lQ aS aA aW ag aY sI uY uz bx az sM qg bu bA jo iu xz
 try dsimp -iota -proj only
 rintro⟨d,H⟩ ⟨h1,h2,h3,hok⟩;dsimp only at *;have h0:aj 64 1 (fun(x j:Nat)=>[Value.int IntKind.u8 (0:Int)].getD j (Value.tuple #[])) (bM fun _=>0):=kr fun _ _=>rfl;refine⟨fun c=>by(exfalso;have:=of_decide_eq_true c;omega),fun _=>⟨⟨0,?_⟩,fun i hi=>⟨fun c=>?_,fun c=>?_⟩⟩⟩
 ·have hr:aj d.n 129 (fo d) (fo (eM d 0)):=⟨fun i hi j hj=>by simp[fo,eM]⟩
  have hc:(d.calls:Int)=(eM d 0).calls:=rfl
  and_intros<;>first|exact cm|exact hr|exact hc|(intro h_;revert h_)|exact cn|skip
 ·have hi2:i<d.n:=by have:=of_decide_eq_true c;omega
  have hn:(eM d i).n=d.n:=rfl;have hc:(eM d i).calls<1000000000000:=by show d.calls+i<_;omega
  refine⟨by omega,by omega,by omega,Lq.mk (eM d i) i 0 64 64 64 fun _=>0,?_⟩;dsimp only;rw[hn]
  and_intros<;>first|exact cm|exact h0|exact hc|(intro h_;revert h_)|exact cn|skip
  intro _ _;have hr:aj d.n 129 (fo (gm (eM d i) i 64 fun _=>0)) (fo (eM d (i+1))):=⟨fun r hr j hj=>by
   simp only[fo,gm,eM];by_cases e:r=i
   ·subst e;by_cases h64:j<64
    ·simp[h64,show r<r+1 by omega]
    ·simp[h64]
   ·by_cases h64:j<64
    ·rw[if_pos h64,if_pos h64,if_neg (by omega)];by_cases hl:r<i
     ·rw[if_pos ⟨hl,h64⟩,if_pos ⟨by omega,h64⟩]
     ·rw[if_neg (by omega),if_neg (by omega)]
    ·rw[if_neg h64,if_neg h64];by_cases h128:j<128
     ·rw[if_pos h128,if_pos h128]
     ·rw[if_neg h128,if_neg h128,if_neg e];by_cases hl:r<i
      ·rw[if_pos hl,if_pos (by omega)]
      ·rw[if_neg hl,if_neg (by omega)]⟩
  have hcl:((gm (eM d i) i 64 fun _=>0).calls:Int)=(eM d (i+1)).calls:=by show((d.calls+i+1:Nat):Int)=(d.calls+(i+1):Nat);omega
  have hn2:(gm (eM d i) i 64 fun _=>0).n=d.n:=rfl;have hn3:d.n<=(gm (eM d i) i 64 fun _=>0).n:=Nat.le_refl _;refine⟨by simp only[bQ];omega,i+1,?_⟩
  and_intros<;>first|exact cm|exact hr|exact hcl|exact hn2|exact hn3|(intro h_;revert h_)|exact cn|skip
 ·have:i=d.n:=by have:=of_decide_eq_false c;omega
  subst this;have hn:(eM d d.n).n=d.n:=rfl;have hc:(eM d d.n).calls<800000000000:=by show d.calls+d.n<_;omega
  refine⟨V2.mk 0 (eM d d.n),?_⟩;dsimp only;rw[hn]
  and_intros<;>first|exact cm|exact hc|(intro h_;revert h_)|exact cn|skip
  intro b _;have hok2:z8 ⟨jx 0,b,oQ (eM d d.n) 0 (eU Bx),H,[],[]⟩:=⟨hok.n,hok.calls,hok.save,hok.k,hok.jr,hok.fl⟩
  refine⟨⟨jx 0,b,oQ (eM d d.n) 0 (eU Bx),H,[],[]⟩,?_⟩;dsimp only
  and_intros<;>first|exact cm|exact hok2|(intro h_;revert h_)|exact cn|skip
  rintro q ⟨q1,q2⟩;refine⟨q,?_⟩;have e:jU (ru ⟨d,H⟩)=jU ⟨jx 0,b,oQ (eM d d.n) 0 (eU Bx),H,[],[]⟩:=rfl;rw[e]
  and_intros<;>first|exact cm|exact q1|exact q2|(intro h_;revert h_)|exact cn|skip)
theorem MI:ak (Y Tryz.prog).G.X 46 yj:=aU fF MH ⟨pn,Qd,callParts,trivial⟩
def lG(s:lF)(ks:List ByteArray):lF:={ s with d:=(iI s.jr ks).d,jL:=(iI s.jr ks).L,ms:=(iI s.jr ks).ms }
def Of(s:lF)(ks:List ByteArray):lF:={ s with d:=(lY s.fl ks).d,cL:=(lY s.fl ks).L,cl:=(lY s.fl ks).l }
def jV(s:lF)(ks:List ByteArray):lF:=if fI ks then Of (lG s ks) ks else s
structure wg where
 s:lF
 p:tK
 ks:List ByteArray
 kc:Nat
structure Ab(a:wg):Prop where
 n:a.ks.length<1000
 jr:fI a.ks=true->∀p,bU p.H p.y a.s.jL->a.s.ms.length<=p.cap->Fe.pre ⟨a.s.jr,p,a.ks,a.kc⟩
 fl:fI a.ks=true->∀p,ja (lG a.s a.ks).fl p->Ht.pre ⟨(lG a.s a.ks).fl,p,a.ks,a.kc⟩
noncomputable def TV:cC where
 α:=wg
 β:=tK
 m:=15
 m':=18
 pre:=fun a=>oR a.s a.p/\Ab a
 args:=fun a=>[.a (.ptr 0 0 0 0),.a (.slc 14 0 1 a.ks.length a.kc)]
 hp:=fun a=>vE 0 1 2 3 4 5 6 7 8 9 10 11 12 13 a.s a.p
 ro:=fun a=>[(14,.arr 9 [.str] a.ks.length (aa kq a.ks))]
 post:=fun a b=>oR (jV a.s a.ks) b/\De a.p.H (br a.p.cy) (br a.p.jy) b
 res:=fun a _=>.mm [.a (.int .i64 (if fI a.ks then gT (iI a.s.jr a.ks).ms else 0)),.a (.int .i64 (if fI a.ks then 0 else 1))]
 cW:=fun a b=>vE 0 1 2 3 4 5 15 7 16 9 10 11 12 17 (jV a.s a.ks) b
def Y0(a:wg):An:=.flat 4 Nat (fun s i=>s.int 15 i) (fun _ i=>i<=a.ks.length/\∀j,j<i->dS (gl a.ks j)=true) (fun _ i=>a.ks.length-i)
def XH(a:wg):An:=.mk 9 Unit (fun s _=>s) (fun _ _=>fI a.ks=true) (fun _ _=>0) fun _=>.mk 1000 [] []
noncomputable def V5:List (Nat×cC):=[(86,Lt),(134,Fe),(135,Ht)]
def Dg(x:wg)(y:tK):=oR (jV x.s x.ks) y/\De x.p.H (br x.p.cy) (br x.p.jy) y
def Og(w:Int)(x:wg)(t:Int)(f:PH)(g:bN)(h:gQ)(i:bz)(j:Ix.cH)(l:Nat)(z:o5)(v:IS):tK->Prop:=fun(u:tK)=>w=zW x.ks x.s.jr/\t=iw (fI x.ks)/\f=u.H/\az (ag (x.s.bO=(jV x.s x.ks).bO/\az (fH g (jV x.s x.ks).cL h u.cy (uX i (jV x.s x.ks) j u l (iI z.m z.ks).ms v.cap (iI z.m z.ks).L v.y x.s.k x.p.kc (Dg x u/\True)))))
def HR(x:wg)(y:Prop):=qg (bC (aT x.ks) x.kc/\jo x.s x.s x.p x.p (x.p.H=x.p.H/\kZ x.ks/\y))
def Dh(x y:List ByteArray)(z:ByteArray->List Value):=aK (aT x) (aT y) 1 (aa z y) (aa z x)
theorem TW:fnBody (Y Tryz.prog) V5 89 TV fun a=>[(89,[Y0 a],[XH a])]:=fnBody.of (p :=
 ∀z:wg,oR z.s z.p/\Ab z->zR z.ks z.kc (fun u=>HR z ((u<=aT z.ks/\rj u z.ks)/\True)) (fun u=>∃t:ByteArray,gl z.ks (0+ay u)=t/\cS (aD (bn (dS t)) (∃f:tK,(0:Int)=zW z.ks z.s.jr/\(1:Int)=iw (fI z.ks)/\z.p.H=f.H/\jo z.s (jV z.s z.ks) z.p f (Dg z f/\True)) (cO u fun f=>dL (aT z.ks) z.kc (HR z (dY f (aT z.ks) (rj f z.ks) u))))) (HR z (aB (fI z.ks)/\True)) (∃u:o5,eo (ag (aT z.ks=aT u.ks/\z.kc=u.kc)) (we z.s.ms u.m.ms z.p.jc u.p.cap (fH z.s.jL u.m.L z.p.jy u.p.y (gz z.s.d u.m.d (z.p.H=u.p.H/\Dh u.ks z.ks kq/\HD u/\∀t:IS,C5 t (iI u.m u.ks) u->aD (iw (fI u.ks) != (0:Int)) (Exists (Og 0 z (iw (fI u.ks)) t.H z.s.cL z.p.cy (iI u.m u.ks).d z.p.x z.p.xc u t)) (∃v:qk,ag (ag (aT z.ks=aT v.ks/\z.kc=v.cap)/\oe z.s.cL v.m z.p.cy v.p (iI u.m u.ks).d z.p.x z.p.xc (t.H=v.p.H) (Dh v.ks z.ks kq/\Hv v/\∀w:rU,ja (lY v.m v.ks) w/\tS v.p w->aD (iw (fI v.ks) != (0:Int)) (Exists (Og 0 z (iw (fI v.ks)) w.H (lY v.m v.ks).L w.y (lY v.m v.ks).d w.x w.cap u t)) (Exists (Og (zW u.ks u.m) z 0 w.H (lY v.m v.ks).L w.y (lY v.m v.ks).d w.x w.cap u t))))))))))) (by kernel_rfl) (by
 delta aD av aK cF ah bW ay aC eO aF af aT bK dY aX aB aV eo dN aI gp bT bY bC cO oe Og bB dL jF ax HD aS iw kZ aA ag C5 aY HR rj uX Hv bx az qg bn bu zR zW Dg dQ fH jo cS Dh
 try dsimp -iota -proj only
 rintro⟨s,p,ks,kc⟩ ⟨hat,hok⟩;dsimp only at *;have hkn:=hok.n;dsimp only at hkn;have no:fI ks=false->jV s ks=s:=fun e=>if_neg (by rw[e];decide);have bad:∀i,i<ks.length->dS (gl ks i)=false->fI ks=false:=fun i hi h=>by
  rw[Bool.eq_false_iff];intro ha;have:=List.all_eq_true.1 ha (gl ks i) (by rw[bR hi];exact List.getElem_mem _);rw[h]at this;cases this
 have h0:∀j,j<0->dS (gl ks j)=true:=fun j hj=>absurd hj (Nat.not_lt_zero j);have hfr0:De p.H (br p.cy) (br p.jy) p:=fun z _ h1 h2=>⟨rfl,h1,h2⟩
 refine⟨⟨⟨0,?_⟩,fun i hi=>?_⟩,fun _ hK=>?_⟩
 ·and_intros<;>first|exact cm|exact h0|(intro h_;revert h_)|exact cn|skip
 ·obtain⟨hi,hall⟩:=hi;rw[show 0+(i:Int).toNat=i by omega];refine⟨fun c1=>?_,fun c1=>⟨(),?_⟩⟩
  ·have hlt:i<ks.length:=by have:=of_decide_eq_true c1;omega
   refine⟨⟨by omega,by omega⟩,hlt,gl ks i,rfl,trivial,fun _ _=>⟨fun c2=>?_,fun c2=>⟨by simp only[bQ];omega,i+1,?_⟩⟩⟩
   ·have hn:=bad i hlt (by simpa using c2);rw[no hn,hn];refine⟨p,?_⟩
    and_intros<;>first|exact cm|exact hat|exact hfr0|(intro h_;revert h_)|exact cn|skip
   ·have hk:dS (gl ks i)=true:=by simpa using c2
    have h1:∀j,j<i+1->dS (gl ks j)=true:=fun j hj=>by
     by_cases e:j=i
     ·rw[e];exact hk
     ·exact hall j (by omega)
    and_intros<;>first|exact cm|exact h1|(intro h_;revert h_)|exact cn|skip
  ·have hi':i=ks.length:=by have:=of_decide_eq_false c1;omega
   have ha:fI ks=true:=List.all_eq_true.2 fun k hk=>by
    obtain⟨j,hj,rfl⟩:=List.getElem_of_mem hk;rw[<- bR hj];exact hall j (by omega)
   and_intros<;>first|exact cm|exact ha|(intro h_;revert h_)|exact cn|skip
 have hks:jV s ks=Of (lG s ks) ks:=if_pos hK;obtain⟨hf,hl,hsep,hcap⟩:=hat;obtain⟨q1,q2,q3,q4,q5,q6⟩:=hok.jr hK p.jr hl hcap;have q6:=q6 hK;have sep2:∀z,z∈br p.cy->z∉br p.jy:=fun z h1 h2=>hsep z h2 h1;refine⟨o5.mk s.jr p.jr ks kc,?_⟩;dsimp only[lF.jr,tK.jr]at q1 q2 q3 q4 q5 q6 ⊢
 and_intros<;>first|exact cm|exact q1|exact q2|exact q3|exact q4|exact q5|exact fun _=>q6|(intro h_;revert h_)|exact cn|skip
 rintro⟨H1,y1,c1⟩ ⟨hl1,hf1,hcp⟩;dsimp only at hl1 hf1 hcp ⊢;have hfc:ja (lG s ks).fl ⟨H1,p.cy,p.x,p.xc⟩:=⟨hf.log.frame fun z hz=>(hf1 z (hf.log.dom z hz) (sep2 z hz)).1,hf.idx⟩
 obtain⟨r1,r2,r3⟩:=hok.fl hK ⟨H1,p.cy,p.x,p.xc⟩ hfc;have r3:=r3 hK;rw[hK];refine⟨fun c=>absurd c (by decide),fun _=>⟨qk.mk (lG s ks).fl ⟨H1,p.cy,p.x,p.xc⟩ ks kc,?_⟩⟩;dsimp only[lF.fl]at r1 r2 r3 ⊢
 and_intros<;>first|exact cm|exact r1|exact r2|exact fun _=>r3|(intro h_;revert h_)|exact cn|skip
 rintro⟨H2,y2,x2,xc2⟩ ⟨hat2,hf2⟩;dsimp only at hat2 hf2 ⊢;rw[hK,hks];refine⟨fun c=>absurd c (by decide),fun _=>⟨⟨H2,y2,x2,xc2,y1,c1,p.kc⟩,?_⟩⟩;have sep3:∀z,z∈br y1->z∉br p.cy:=fun z h1 h2=>(hf1 z (hf.log.dom z h2) (sep2 z h2)).2 h1;have hat3:oR (Of (lG s ks) ks) ⟨H2,y2,x2,xc2,y1,c1,p.kc⟩:=⟨hat2,hl1.frame fun z hz=>(hf2 z (hl1.dom z hz) (sep3 z hz)).1,fun z hz=>(hf2 z (hl1.dom z hz) (sep3 z hz)).2,hcp⟩
 have hfr:De p.H (br p.cy) (br p.jy) ⟨H2,y2,x2,xc2,y1,c1,p.kc⟩:=fun z hz n1 n2=>by
  obtain⟨a1,a2⟩:=hf1 z hz n2;have a1:H1 z=p.H z:=a1;obtain⟨b1,b2⟩:=hf2 z (by show H1 z≠none;rw[a1];exact hz) n1;exact⟨b1.trans a1,b2,a2⟩
 and_intros<;>first|exact cm|exact hat3|exact hfr|(intro h_;revert h_)|exact cn|skip)
theorem TX:ak (Y Tryz.prog).G.X 89 TV:=aU fF TW ⟨x6,TH,PX,trivial⟩
theorem AT{f g:Nat->Int}:∀ {n:Nat},(∀k,k<n->f k=g k)->jN f n=jN g n
 |0,_=>rfl
 |n+1,h=>by
  simp only[jN];rw[AT fun k hk=>h k (by omega),h n (by omega)]
theorem V6{a b:Nat}(ha:a<2^56)(hb:b<256):dA .or .u64 (uw .u64 ((a:Int)*2^8)) b=((a*256+b:Nat):Int):=by
 have e1:uw .u64 ((a:Int)*2^8)=((a*256:Nat):Int):=by simp only[uw];omega
 rw[e1,Jt _ _ (by omega) (by omega)];have:=Nat.two_pow_add_eq_or_of_lt (i:=8) (b:=b) hb a;rw[Nat.mul_comm a 256];show((2^8*a ||| b:Nat):Int)=((2^8*a+b:Nat):Int)
 rw[this]
theorem J3{v:Nat}{len:Nat}(hl:len<=8)(hv:v<256^len):∀k,k<=len->jN (fun k=>IM v len k) k=((v/256^(len-k):Nat):Int)
 |0,_=>by simp[jN,Nat.div_eq_of_lt hv]
 |k+1,hk=>by
  have ih:=J3 hl hv k (by omega);simp only[jN];rw[ih];have eb:IM v len k=((v/256^(len-(k+1))%256:Nat):Int):=by
   have e2:(2:Int)^(8*(len-1-k))=((256^(len-(k+1)):Nat):Int):=by
    rw[Int.natCast_pow,show len-1-k=len-(k+1)by omega,Int.pow_mul];rfl
   simp only[IM,uw];rw[e2];omega
  rw[eb];have e3:256^(len-k)=256^(len-(k+1))*256:=by rw[show len-k=len-(k+1)+1 by omega,Nat.pow_succ]
  have e4:v/256^(len-k)=v/256^(len-(k+1))/256:=by rw[e3,Nat.div_div_eq_div_mul]
  have hlt:v/256^(len-k)<2^56:=by
   have h1:v/256^(len-k)<256^k:=Nat.div_lt_of_lt_mul (by rw[<- Nat.pow_add,show len-k+k=len by omega];exact hv);have h2:256^k<=256^7:=Nat.pow_le_pow_right (by decide) (by omega);exact Nat.lt_of_lt_of_le h1 h2
  rw[V6 hlt (Nat.mod_lt _ (by decide)),e4];congr 1;omega
theorem Y3{f:Nat->Int}{v r len:Nat}(hl:len<=8)(hv:v<256^len)(hf:∀k,k<len->f (r+k)=IM v len k):gB f r len=v:=by
 unfold gB;rw[AT hf,J3 hl hv len (Nat.le_refl _)];simp
theorem Oh{r len:Nat}{f:Nat->Int}(hl:len<=8)(hf:∀k,k<len->f (r+k)=0):gB f r len=0 :=
 Y3 (v:=0) hl (Nat.pow_pos (by decide)) fun k hk=>by rw[hf k hk];simp[IM,uw]
theorem AU{f g:Nat->Int}:∀ {n:Nat},(∀k,k<n->f k=g k)->qD f n=qD g n
 |0,_=>rfl
 |n+1,h=>by
  simp only[qD];rw[AU fun k hk=>h k (by omega),h n (by omega)]
theorem Di{f g:Nat->Int}(h:∀k,4<=k->k<64->f k=g k):vM f=vM g:=by
 unfold vM;rw[AU fun k hk=>h (4+k) (by omega) (by omega)]
theorem Qg:vM (fun _=>0)≠0:=by decide +kernel
theorem take_zero{g:dy}{i:Nat}{f:Nat->Int}(hf:∀k,k<64->f k=0):fT g i f=false:=by
 unfold fT;have h1:vM f=vM fun _=>0:=Di fun k _ hk=>hf k hk;have h2:gB f 0 4=0:=Oh (by omega) fun k hk=>hf _ (by omega);have:(vM f == gB f 0 4)=false:=by
  rw[h1,h2,beq_eq_false_iff_ne];exact Qg
 rw[this];rfl
theorem Oi{L:bN}{d:bz}{k:Nat}(h:∀i,i<8->∀j,j<64->vN L d k i j=0):SJ L d k/\ni L d k=none/\∀i,i<=8->(kN L d k i).run=if i=0 then L.run else max L.run 1:=by
 have hgB:∀i,i<8->uw .i64 (gB (vN L d k i) 10 4)=0:=fun i hi=>by
  rw[Oh (by omega) fun j hj=>h i hi _ (by omega)];rfl
 have key:∀i,i<=8->(0<i->(kN L d k i).ok=false/\(kN L d k i).g.gen=0)/\(kN L d k i).run=if i=0 then L.run else max L.run 1:=by
  intro i
  induction i with
  |zero=>exact fun _=>⟨fun h=>absurd h (Nat.lt_irrefl 0),rfl⟩
  |succ i ih =>
   intro hi;obtain⟨h1,h2⟩:=ih (by omega);obtain⟨R,hR⟩:∃R,R=kN L d k i:=⟨_,rfl⟩
   have hst:kN L d k (i+1)=rdStep R i (vN L d k i):=by rw[hR];rfl
   rw[<- hR]at h1 h2;have hz:=take_zero (g:=R.g) (i:=i) (h i (by omega));rw[hst];refine⟨fun _=>⟨by simp only[rdStep,hz,Bool.and_false],?_⟩,?_⟩
   ·simp only[rdStep,hz,Bool.and_false,Bool.not_false,Bool.true_and];by_cases h0:i=0
    ·rw[if_pos (by simpa using h0)]
    ·rw[if_neg (by simpa using h0),(h1 (by omega)).1];exact(h1 (by omega)).2
   ·simp only[rdStep,hgB i (by omega),h2];rw[if_neg (Nat.succ_ne_zero i)];split<;>omega
 refine⟨⟨fun i hi=>by rw[hgB i hi];omega,fun i hi _ hB=>?_⟩,?_,fun i hi=>(key i hi).2⟩
 ·rw[take_zero (h i hi)]at hB;cases hB
 ·unfold ni;rw[((key 8 (Nat.le_refl _)).1 (by omega)).2,if_pos (.inl (by omega))]
def qo(r:RecM):List Int:=Jz r.body.length r.pos++r.body
def ef(rs:List RecM):List Int:=rs.flatMap qo
structure TY(r:RecM):Prop where
 len:1<=r.body.length/\r.body.length<=300
 pos:0<=r.pos/\r.pos<140737488355328
theorem V7(n:Nat)(p:Int):(Jz n p).length=8:=rfl
theorem vF(r:RecM):(qo r).length=8+r.body.length:=by simp[qo,V7]
theorem vG:∀(rs:List RecM),(∀r∈rs,TY r)->rs.length*9<=(ef rs).length
 |[],_=>Nat.zero_le _
 |r::rs,h=>by
  have ih:=vG rs fun x hx=>h x (List.mem_cons_of_mem _ hx);have:=(h r List.mem_cons_self).len;show(rs.length+1)*9<=(qo r++ef rs).length;rw[List.length_append,vF];omega
theorem lZ(rs:List RecM)(r:RecM):ef (rs++[r])=ef rs++qo r:=by simp[ef]
structure yl(fr sg:Nat)(o:Option dy)(run:Int)(d:bz):Prop where
 sec:∀i,i<8->∀j,j<64->d.now (fr+i) j=match o with|none=>0|some g=>if bZ i<g.buf.length then pz g i run j else 0
 rest:∀r,fr+8<=r->r<fr+sg*8->∀j,j<64->d.now r j=0
theorem yl.ZZ{fr sg k:Nat}{o:Option dy}{run:Int}{d:bz}(h:yl fr sg o run d)(hk:1<=k)(hk2:k<sg){L:bN}(hL:L.from_=fr):∀i,i<8->∀j,j<64->vN L d k i j=0:=fun i hi j hj=>by
 unfold vN;rw[hL];exact h.rest _ (by omega) (by omega) j hj
theorem Fk{fr sg:Nat}{run:Int}{d:bz}(h:yl fr sg none run d)(h3:3<=sg/\sg<=200)(hr:fr+sg*8<=d.n)(hn:d.n<100000):q9 fr sg d/\cK fr sg d=⟨fr,sg,[],1,1,true⟩:=by
 have hz:∀k,k<sg->∀(L:bN),L.from_=fr->∀i,i<8->∀j,j<64->vN L d k i j=0:=fun k hk L hL i hi j hj=>by
  by_cases h0:k=0
  ·subst h0;unfold vN;rw[hL,Nat.zero_mul,Nat.add_zero];exact h.sec i hi j hj
  ·exact h.ZZ (by omega) hk hL i hi j hj
 have key:∀k,k<=sg->pE fr sg d k=⟨fr,sg,[],1,1,true⟩:=by
  intro k
  induction k with
  |zero=>exact fun _=>rfl
  |succ k ih =>
   intro hk;have ih:=ih (by omega);obtain⟨_,e2,e3⟩:=Oi (hz k (by omega) ⟨fr,sg,[],1,1,true⟩ rfl);show { pE fr sg d k with l:=(pE fr sg d k).l++(ni (pE fr sg d k) d k).toList,run:=(kN (pE fr sg d k) d k 8).run }=_;rw[ih,e2,e3 8 (Nat.le_refl _)];rfl
 refine⟨⟨h3,hr,hn,fun k hk=>?_,?_,?_⟩,?_⟩
 ·rw[key k (by omega)];exact(Oi (hz k hk ⟨fr,sg,[],1,1,true⟩ rfl)).1
 ·rw[key sg (Nat.le_refl _)];exact Nat.zero_le _
 ·rw[key sg (Nat.le_refl _)];exact fun i hi=>absurd hi (Nat.not_lt_zero i)
 ·unfold cK;rw[key sg (Nat.le_refl _)];rfl
theorem Qh{g g':dy}{e:List Int}{i:Nat}{run:Int}(h1:g'.gen=g.gen)(h2:g'.base=g.base)(hb:g'.buf=g.buf++e)(hs:bZ (i+1)<=g.buf.length):∀j,j<64->qv g i run j=qv g' i run j:=fun j hj=>by
 have hst:bZ (i+1)=bZ i+ku i:=by unfold bZ ku;split<;>omega
 have u1:tF g.buf.length i=ku i:=by simp only[tF];omega
 have u2:tF g'.buf.length i=ku i:=by rw[hb];simp only[tF,List.length_append];omega
 have hgl:∀k,k<ku i->gl g'.buf (bZ i+k)=gl g.buf (bZ i+k):=fun k hk=>by rw[hb,bJ (by omega)]
 simp only[qv,h1,h2,u1,u2];by_cases h0:i=0
 ·subst h0;have hr:ku 0=42:=rfl;have hs0:bZ 0=0:=rfl;rw[hr,hs0]at hgl;simp only[hr,if_true]
  (repeat' split)<;>first|rfl|(exfalso;omega)|skip
  have:=hgl (j-22) (by assumption);rw[Nat.zero_add]at this;exact this.symm
 ·simp only[if_neg h0]
  (repeat' split)<;>first|rfl|(exfalso;omega)|skip
  exact(hgl _ (by assumption)).symm
theorem Qi{g g':dy}{e:List Int}{i:Nat}{run:Int}(h1:g'.gen=g.gen)(h2:g'.base=g.base)(hb:g'.buf=g.buf++e)(hs:bZ (i+1)<=g.buf.length):∀j,j<64->pz g i run j=pz g' i run j:=fun j hj=>by
 have h:=Qh (run:=run) h1 h2 hb hs;unfold pz;rw[Di fun k _ hk=>h k hk,h j hj]
theorem s9{L:bN}{g:dy}{was:Nat}{d:bz}(hg:(g.gen-1).toNat%L.au=0):∀n r j,j<64 ->
 (dg L g was d n).now r j=if ∃i,i<n/\r=L.from_+i/\tH was g.buf.length i=true then pz g (r-L.from_) L.run j else d.now r j
 |0,r,j,_=>by rw[if_neg (by rintro⟨i,hi,_⟩;omega)];rfl
 |n+1,r,j,hj=>by
  have ih:=s9 (L:=L) (g:=g) (was:=was) (d:=d) hg n r j hj;have hsn:jQ L g n=L.from_+n:=by unfold jQ;rw[hg,Nat.zero_mul,Nat.add_zero]
  unfold dg;by_cases hc:tH was g.buf.length n=true
  ·rw[if_pos hc];show(if r=jQ L g n/\j<64 then _ else _)=_;rw[hsn];by_cases hr:r=L.from_+n
   ·rw[if_pos ⟨hr,hj⟩,if_pos ⟨n,Nat.lt_succ_self n,hr,hc⟩,hr,Nat.add_sub_cancel_left]
   ·rw[if_neg (fun e=>hr e.1),ih];congr 1;rw[eq_iff_iff];constructor
    ·rintro⟨i,h1,h2,h3⟩;exact⟨i,by omega,h2,h3⟩
    ·rintro⟨i,h1,h2,h3⟩;by_cases e:i=n
     ·subst e;exact absurd h2 hr
     ·exact⟨i,by omega,h2,h3⟩
  ·rw[if_neg hc,ih];congr 1;rw[eq_iff_iff];constructor
   ·rintro⟨i,h1,h2,h3⟩;exact⟨i,by omega,h2,h3⟩
   ·rintro⟨i,h1,h2,h3⟩;by_cases e:i=n
    ·subst e;exact absurd h3 hc
    ·exact⟨i,by omega,h2,h3⟩
theorem HS{rs:List RecM}{r:RecM}(h:mJ rs)(h1:∀x∈rs,x.pos<r.pos)(h2:0<=r.pos/\r.pos<1000000000000):mJ (rs++[r]):=by
 have hl:(rs++[r]).length=rs.length+1:=by simp
 refine⟨fun i j hij hj=>?_,fun i hi=>?_⟩
 ·rw[hl]at hj;rw[kE (by omega),kE hj,if_pos (by omega)];split
  ·exact h.lt i j hij (by assumption)
  ·exact h1 _ (by rw[bR (by omega)];exact List.getElem_mem _)
 ·rw[hl]at hi;rw[kE hi];split
  ·exact h.A5 i (by assumption)
  ·exact h2
def El(base:Int):List RecM->List dy
 |[]=>[]
 |r::rs=>[⟨1,base,0,ef (r::rs),r::rs⟩]
theorem Oj{base:Int}{rs:List RecM}(h:rs≠[]):El base rs=[⟨1,base,0,ef rs,rs⟩]:=by
 cases rs with
 |nil=>exact absurd rfl h
 |cons r rs=>rfl
theorem TZ(base:Int)(rs:List RecM):fW (El base rs)=rs:=by
 cases rs<;>simp[El,fW]
structure gU(L:bN)(d:bz)(n:Nat)(rs:List RecM):Prop where
 au:3<=L.au/\L.au<=200
 room:L.from_+L.au*8<=d.n
 size:d.n<100000
 calls:d.calls<=n
 next:1<=L.next/\L.next<10000000000
 run:0<=L.run/\L.run<4294967296
 good:∀r∈rs,TY r/\r.pos<L.next
 sort:mJ rs
 fits:(ef rs).length<=378
 IN:∃base,0<=base/\base<100000000000/\L.l=El base rs
 dev:yl L.from_ L.au L.l.head? L.run d
theorem gU.WE{L:bN}{d:bz}{n:Nat}{rs:List RecM}(h:gU L d n rs)(hn:n<900000000000):uI L d:=by
 obtain⟨base,b1,b2,hl⟩:=h.IN;have h9:=vG rs fun r hr=>(h.good r hr).1;have hf:=h.fits;have hc:=h.calls;have hx:=h.next
 have at_:∀i,i<L.l.length->gl L.l i=⟨1,base,0,ef rs,rs⟩:=fun i hi=>by
  rw[hl]at hi ⊢;cases rs with
  |nil=>exact absurd hi (Nat.not_lt_zero i)
  |cons r rs =>
   have:i=0:=by simpa[El]using hi
   subst this;rfl
 refine⟨?_,h.au,h.room,h.size,by omega,by omega,fun i hi=>?_,fun i hi=>?_,fun i hi=>?_⟩
 ·rw[hl];cases rs<;>simp[El]
 ·rw[at_ i hi];show(1:Int)<=1/\(1:Int)<100000000000;omega
 ·rw[at_ i hi];exact hf
 ·rw[at_ i hi];exact h9
theorem gU.flush{L:bN}{d:bz}{n:Nat}{rs:List RecM}(h:gU L d n rs):gU L (gn d) (n+1) rs :=
 ⟨h.au,h.room,h.size,Nat.succ_le_succ h.calls,h.next,h.run,h.good,h.sort,h.fits,h.IN,⟨h.dev.sec,h.dev.rest⟩⟩
theorem gU.need{L:bN}{d:bz}{n:Nat}{rs:List RecM}(h:gU L d n rs){k:Nat}(hk:(ef rs).length+8+k<=378):qG L k=decide (rs=[]):=by
 obtain⟨base,b1,b2,hl⟩:=h.IN;unfold qG jS;rw[hl];cases rs with
 |nil=>simp[El]
 |cons r rs =>
  have:¬370<(ef (r::rs)).length+k:=by omega
  simp[El,gl,this]
theorem gU.append{L:bN}{d:bz}{n:Nat}{rs:List RecM}(h:gU L d n rs){body:List Int}(hb:1<=body.length/\body.length<=300)(hx:L.next<9999999999)(hfit:(ef rs).length+8+body.length<=378) :
 gU (lU L body) (oa L d body) (n+20) (rs++[⟨L.next,body⟩])/\(lU L body).next=L.next+1/\(lU L body).au=L.au/\(lU L body).from_=L.from_:=by
 obtain⟨base,b1,b2,hl⟩:=h.IN;have hneed:=h.need hfit;have hsegs:=h.au;have hroom:=h.room;have hnx:=h.next
 obtain⟨r,hr⟩:∃r:RecM,r=⟨L.next,body⟩:=⟨_,rfl⟩
 have hrb:qo r=Jz body.length L.next++body:=by rw[hr];rfl
 have hgr:TY r:=by rw[hr];exact⟨hb,by show 0<=L.next;omega,by show L.next<140737488355328;omega⟩
 have hbl:(ef (rs++[r])).length=(ef rs).length+8+body.length:=by
  rw[lZ,List.length_append,vF,hr];show(ef rs).length+(8+body.length)=_;omega
 obtain⟨L1,hL1⟩:∃L1,L1=dx L body.length:=⟨_,rfl⟩
 obtain⟨d1,hd1⟩:∃d1,d1=kG L d body.length:=⟨_,rfl⟩
 have key:∃base',0<=base'/\base'<100000000000/\L1.l=[⟨1,base',0,ef rs,rs⟩]/\L1.from_=L.from_/\L1.au=L.au/\L1.next=L.next/\L1.run=L.run/\L1.fresh=L.fresh/\d1.n=d.n/\d1.calls<=d.calls+2 /\
  (∀i,i<8->∀j,j<64->(rs=[]/\i=0)\/d1.now (L.from_+i) j=if bZ i<(ef rs).length then pz ⟨1,base',0,ef rs,rs⟩ i L.run j else 0)/\∀q,L.from_+8<=q->∀j,d1.now q j=d.now q j:=by
  by_cases he:rs=[]
  ·subst he;have hn:qG L body.length=true:=by rw[hneed];rfl
   have e1:L1=iZ L:=by rw[hL1];exact if_pos hn
   have e2:d1=sP L d:=by rw[hd1];exact if_pos hn
   have e3:L.l=[]:=by rw[hl];rfl
   have e4:bh L=⟨1,L.next,0,[],[]⟩:=by unfold bh;rw[e3];rfl
   have e5:jQ L (bh L) 0=L.from_:=by rw[e4];simp[jQ]
   refine⟨L.next,by omega,by omega,?_,by rw[e1];rfl,by rw[e1];rfl,by rw[e1];rfl,by rw[e1];rfl,by rw[e1];rfl,by rw[e2];rfl,by rw[e2];exact Nat.le_refl _,fun i hi j hj=>?_,fun q hq j=>?_⟩
   ·rw[e1];show tG L++[bh L]=_;rw[show tG L=[]by unfold tG;rw[e3];rfl,e4];rfl
   ·by_cases h0:i=0
    ·exact .inl ⟨rfl,h0⟩
    ·right;rw[e2,if_neg (by simp[ef])];show(if L.from_+i=jQ L (bh L) 0/\j<64 then _ else d.now (L.from_+i) j)=0;rw[e5,if_neg (by omega),h.dev.sec i hi j hj,e3];rfl
   ·rw[e2];show(if q=jQ L (bh L) 0/\j<64 then _ else d.now q j)=_;rw[e5,if_neg (by omega)]
  ·have hn:qG L body.length=false:=by rw[hneed];exact decide_eq_false he
   have e1:L1=L:=by rw[hL1];exact if_neg (by rw[hn];decide)
   have e2:d1=d:=by rw[hd1];exact if_neg (by rw[hn];decide)
   rw[Oj he]at hl;refine⟨base,b1,b2,by rw[e1,hl],by rw[e1],by rw[e1],by rw[e1],by rw[e1],by rw[e1],by rw[e2],by rw[e2];omega,fun i hi j hj=>?_,fun q hq j=>by rw[e2]⟩;right;rw[e2,h.dev.sec i hi j hj,hl];rfl
 obtain⟨base',c1,c2,k1,k2,k3,k4,k5,k6,k7,k8,k9,k10⟩:=key;have hA:lU L body=JB L1 body:=by rw[hL1];rfl
 have hlast:jS L1=⟨1,base',0,ef rs,rs⟩:=by unfold jS;rw[k1];rfl
 obtain⟨g',hg'⟩:∃g':dy,g'=⟨1,base',0,ef (rs++[r]),rs++[r]⟩:=⟨_,rfl⟩
 have hbuf:qU ⟨1,base',0,ef rs,rs⟩ L.next body=ef (rs++[r]):=by
  rw[lZ,hrb];simp[qU,List.append_assoc]
 have hl2:(lU L body).l=[g']:=by
  rw[hA];show L1.l.set (L1.l.length-1) (LL (jS L1) L1.next body)=_;rw[hlast,k1,k4];simp only[LL,hbuf,hg',hr];rfl
 have hnx2:(lU L body).next=L.next+1:=by rw[hA];show L1.next+1=_;rw[k4]
 have hfr2:(lU L body).from_=L.from_:=by rw[hA];exact k2
 have hsg2:(lU L body).au=L.au:=by rw[hA];exact k3
 have hrn2:(lU L body).run=L.run:=by rw[hA];exact k5
 obtain⟨gw,hgw⟩:∃gw,gw=JA (jS L1) L1.next body:=⟨_,rfl⟩
 have hgw1:gw=⟨1,base',0,ef (rs++[r]),rs⟩:=by rw[hgw,hlast,k4];simp only[JA,hbuf]
 have hsec:∀i j,pz gw i L.run j=pz g' i L.run j:=fun i j=>by rw[hgw1,hg'];rfl
 have hD2:qH L1 d1 body=dg L1 gw (ef rs).length d1 8:=by unfold qH;rw[<- hgw,hlast]
 have hmod:(gw.gen-1).toNat%L1.au=0:=by rw[hgw1];simp
 obtain⟨w1,w2⟩:=sQ L1 gw (ef rs).length d1 8;have hnow:∀q j,(oa L d body).now q j=(qH L1 d1 body).now q j:=fun q j=>by
  unfold oa;rw[<- hL1,<- hd1];split<;>rfl
 have hdn:(oa L d body).n=d.n/\(oa L d body).calls<=d.calls+11:=by
  unfold oa;rw[<- hL1,<- hd1,hD2];split
  ·simp only[gn];omega
  ·omega
 have hgl:gw.buf.length=(ef rs).length+8+body.length:=by rw[hgw1];exact hbl
 refine⟨⟨by rw[hsg2];exact hsegs,by rw[hfr2,hsg2,hdn.1];exact hroom,by rw[hdn.1];exact h.size,by have:=h.calls;omega,by rw[hnx2];omega,by rw[hrn2];exact h.run,?_,?_,?_,?_,?_⟩,hnx2,hsg2,hfr2⟩
 ·rw[hnx2,<- hr];intro x hx;rcases List.mem_append.1 hx with hx|hx
  ·have:=h.good x hx;exact⟨this.1,by omega⟩
  ·have:x=r:=by simpa using hx
   rw[this];refine⟨hgr,?_⟩;rw[hr];show L.next<L.next+1;omega
 ·rw[<- hr];refine HS h.sort (fun x hx=>?_) (by rw[hr];show 0<=L.next/\L.next<1000000000000;omega);rw[hr];exact(h.good x hx).2
 ·rw[<- hr,hbl];exact hfit
 ·refine⟨base',c1,c2,?_⟩;rw[hl2,<- hr,Oj (by simp),hg']
 ·rw[hl2,hfr2,hsg2,hrn2];refine⟨fun i hi j hj=>?_,fun q hq hq2 j hj=>?_⟩
  ·rw[hnow,hD2,s9 hmod 8 _ j hj,k2,k5,Nat.add_sub_cancel_left,hsec];have hg'l:g'.buf.length=(ef rs).length+8+body.length:=by rw[hg'];exact hbl
   show _=if bZ i<g'.buf.length then pz g' i L.run j else 0;by_cases hs:bZ i<g'.buf.length
   ·rw[if_pos hs];by_cases hc:(ef rs).length<bZ (i+1)
    ·rw[if_pos ⟨i,hi,rfl,by simp only[tH,Bool.and_eq_true,decide_eq_true_eq];exact⟨hc,by rw[hgl,<- hg'l];exact hs⟩⟩]
    ·rw[if_neg]
     ·have hlt:bZ i<(ef rs).length:=by unfold bZ at *;omega
      rcases k9 i hi j hj with⟨e,e0⟩|e
      ·subst e;simp[ef]at hlt
      ·rw[e,if_pos hlt];exact Qi (e:=qo r) (by rw[hg']) (by rw[hg']) (by rw[hg'];exact lZ rs r) (show bZ (i+1)<=(ef rs).length by omega) j hj
     ·rintro⟨i',_,e,hcc⟩;have:i'=i:=by omega
      subst this;simp only[tH,Bool.and_eq_true,decide_eq_true_eq]at hcc;exact hc hcc.1
   ·rw[if_neg hs,if_neg]
    ·rcases k9 i hi j hj with⟨e,e0⟩|e
     ·subst e0;exact absurd (show bZ 0<g'.buf.length by rw[hg'l];show 0<_;omega) hs
     ·rw[e,if_neg (by omega)]
    ·rintro⟨i',_,e,hcc⟩;have:i'=i:=by omega
     subst this;simp only[tH,Bool.and_eq_true,decide_eq_true_eq]at hcc;omega
  ·rw[hnow,hD2,s9 hmod 8 _ j hj,k2,if_neg (by rintro⟨i',_,e,_⟩;omega),k10 q hq];exact h.dev.rest q hq hq2 j hj
theorem oo{rs:List RecM}:mJ rs↔rs.Pairwise (fun a b=>a.pos<b.pos)/\∀r∈rs,0<=r.pos/\r.pos<1000000000000:=by
 constructor
 ·rintro⟨h1,h2⟩;refine⟨?_,fun r hr=>?_⟩
  ·rw[List.pairwise_iff_getElem];intro i j hi hj hij;have:=h1 i j hij hj;rwa[bR hi,bR hj]at this
  ·obtain⟨i,hi,rfl⟩:=List.getElem_of_mem hr;have:=h2 i hi;rwa[bR hi]at this
 ·rintro⟨h1,h2⟩;refine⟨fun i j hij hj=>?_,fun i hi=>?_⟩
  ·rw[bR (show i<rs.length by omega),bR hj];exact List.pairwise_iff_getElem.1 h1 i j (by omega) hj hij
  ·rw[bR hi];exact h2 _ (List.getElem_mem _)
theorem J4:∀ {rs:List RecM} {r:RecM},rs.Pairwise (fun a b=>a.pos<b.pos)->r∈rs->vW rs r.pos=some r.body
 |[],_,_,h=>by cases h
 |a::rs,r,hp,h=>by
  rw[List.pairwise_cons]at hp;by_cases e:a.pos=r.pos
  ·have:a=r:=by
    rcases List.mem_cons.1 h with h|h
    ·exact h.symm
    ·have:=hp.1 r h;omega
   subst this;simp[vW]
  ·have hm:r∈rs:=by
    rcases List.mem_cons.1 h with h|h
    ·exact absurd (by rw[h]) e
    ·exact h
   have:=J4 hp.2 hm;unfold vW at this ⊢;rw[List.find?_cons];simp only[e,decide_false];exact this
theorem MJ{rs:List RecM}{p:Int}(h:∀r∈rs,r.pos≠p):vW rs p=none:=by
 unfold vW;rw[Option.map_eq_none_iff,List.find?_eq_none];intro r hr;simpa using h r hr
theorem J5:∀ {l:List dy} {r:RecM},(fW l).Pairwise (fun a b=>a.pos<b.pos)->r∈fW l->gi l r.pos=some r.body
 |[],_,_,h=>by cases h
 |g::l,r,hp,h=>by
  have e:fW (g::l)=g.aR++fW l:=rfl;rw[e]at hp h;rw[List.pairwise_append]at hp;simp only[gi,List.findSome?_cons];by_cases hg:r∈g.aR
  ·rw[J4 hp.1 hg]
  ·have hm:r∈fW l:=(List.mem_append.1 h).resolve_left hg;rw[MJ fun x hx=>by have:=hp.2.2 x hx r hm;omega];exact J5 hp.2.1 hm
theorem Fl:∀(l:List dy) (next:Int),iV l next=match fW l with | []=>next|r::_=>r.pos
 |[],_=>rfl
 |g::l,next=>by
  have e:fW (g::l)=g.aR++fW l:=rfl;rw[e];cases hr:g.aR with
  |nil =>
   rw[List.nil_append];have:=Fl l next
   unfold iV at this ⊢;rw[List.find?_cons,hr];exact this
  |cons r rs =>
   unfold iV;rw[List.find?_cons,hr];simp[gl,hr]
structure ym(L:bN)(rs:List RecM):Prop where
 all:fW L.l=rs
 x7:L.l.length<1000
 sort:mJ rs
 body:∀r∈rs,1<=r.body.length/\r.body.length<=300
 seg:∀i,i<L.l.length->(gl L.l i).aR.length<=400
theorem gU.rd{L:bN}{d:bz}{n:Nat}{rs:List RecM}(h:gU L d n rs):ym L rs:=by
 obtain⟨base,_,_,hl⟩:=h.IN;have h9:=vG rs fun r hr=>(h.good r hr).1;have hf:=h.fits;refine⟨by rw[hl,TZ],?_,h.sort,fun r hr=>(h.good r hr).1.len,fun i hi=>?_⟩
 ·rw[hl];cases rs<;>simp[El]
 ·rw[hl]at hi ⊢;cases rs with
  |nil=>exact absurd hi (Nat.not_lt_zero i)
  |cons r rs =>
   have:i=0:=by simpa[El]using hi
   subst this;show(r::rs).length<=400;omega
theorem ym.first{L:bN}{rs:List RecM}(h:ym L rs){r:RecM}(hr:r∈rs):cB L<=r.pos:=by
 unfold cB;rw[Fl,h.all];have hp:=(oo.1 h.sort).1;cases rs with
 |nil=>cases hr
 |cons a rs =>
  show a.pos<=r.pos;rcases List.mem_cons.1 hr with rfl|hr
  ·exact Int.le_refl _
  ·exact Int.le_of_lt ((List.pairwise_cons.1 hp).1 r hr)
def vP(get:ByteArray->Option aG)(k:ByteArray)(r:Option aG):ByteArray->Option aG:=fun k'=>if k'=k then r else get k'
structure rV(m:nU)(rs:List RecM)(get:ByteArray->Option aG):Prop where
 rd:ym m.L rs
 pos:∀e∈m.l,∃x,get e.1=some x/\x.key=e.1/\fV x=true/\(⟨e.2,aJ (some x)⟩:RecM)∈rs
 all:∀k,get k≠none->k∈m.l.map Prod.fst
theorem ym.au{L:bN}{rs:List RecM}(h:ym L rs)(i:Nat)(hi:i<L.l.length):mJ (gl L.l i).aR/\(gl L.l i).aR.length<=400/\∀k,k<(gl L.l i).aR.length->1<=(gl (gl L.l i).aR k).body.length/\(gl (gl L.l i).aR k).body.length<=1000:=by
 obtain⟨hs1,hs2⟩:=oo.1 h.sort;refine⟨?_,h.seg i hi,fun k hk=>?_⟩
 ·have hm:gl L.l i∈L.l:=by rw[bR hi];exact List.getElem_mem _
  have hsub:(gl L.l i).aR.Sublist rs:=by rw[<- h.all];exact uH (f:=fun g:dy=>g.aR) hm
  exact oo.2 ⟨hs1.sublist hsub,fun r hr=>hs2 r (hsub.subset hr)⟩
 ·obtain⟨j,hj,e⟩:=Hx hi hk;rw[h.all]at hj e;have:=h.body (gl rs j) (by rw[bR hj];exact List.getElem_mem _);rw[e]at this;omega
theorem rV.ZL{m:nU}{rs:List RecM}{get:ByteArray->Option aG}(h:rV m rs get):PV m:=⟨h.rd.x7,h.rd.au,fun e he=>by
 obtain⟨x,_,_,_,hx⟩:=h.pos e he;exact(oo.1 h.rd.sort).2 _ hx⟩
theorem rV.gJ{m:nU}{rs:List RecM}{get:ByteArray->Option aG}(h:rV m rs get)(k:ByteArray):C1 m k (get k):=by
 have hs:=(oo.1 h.rd.sort).1;cases hg:get k with
 |none =>
  left;intro hm;obtain⟨e,he,rfl⟩:=List.mem_map.1 hm;obtain⟨x,h1,_⟩:=h.pos e he;rw[hg]at h1;cases h1
 |some x =>
  obtain⟨e,he,rfl⟩:=List.mem_map.1 (h.all k (by rw[hg];simp));obtain⟨x',h1,_,h3,h4⟩:=h.pos e he;rw[hg]at h1;cases h1;rw[<- h.rd.all]at hs h4;exact⟨e.2,he,J5 hs h4,h3⟩
theorem rV.keep{m:nU}{rs:List RecM}{get:ByteArray->Option aG}(h:rV m rs get){L':bN}{rs':List RecM}(hL:ym L' rs')(hs:∀r∈rs,r∈rs'):(m.l.filter fun e=>decide (cB L'<=e.2))=m.l:=by
 rw[List.filter_eq_self];intro e he;obtain⟨x,_,_,_,hx⟩:=h.pos e he;simpa using hL.first (hs _ hx)
theorem vH{l:List (ByteArray×Int)}{k:ByteArray}{e:ByteArray×Int}:e∈l8 l k↔e∈l/\e.1≠k:=by
 unfold l8;rw[List.mem_filter];simp
theorem rV.put{m:nU}{rs:List RecM}{get:ByteArray->Option aG}(h:rV m rs get){L':bN}{d':bz}{p:Int}{x:aG}(hx:fV x=true)(hL:ym L' (rs++[⟨p,aJ (some x)⟩])) :
 rV ⟨L',d',Ej m.l x.key p⟩ (rs++[⟨p,aJ (some x)⟩]) (vP get x.key (some x)):=by
 refine⟨hL,fun e he=>?_,fun k hk=>?_⟩
 ·rcases List.mem_cons.1 he with rfl|he
  ·exact⟨x,if_pos rfl,rfl,hx,by simp⟩
  ·obtain⟨he,hne⟩:=vH.1 he;obtain⟨x',h1,h2,h3,h4⟩:=h.pos e he;exact⟨x',by unfold vP;rw[if_neg hne];exact h1,h2,h3,List.mem_append_left _ h4⟩
 ·by_cases e:k=x.key
  ·subst e;exact List.mem_map.2 ⟨(x.key,p),List.mem_cons_self,rfl⟩
  ·have hk:get k≠none:=by unfold vP at hk;rwa[if_neg e]at hk
   obtain⟨q,hq,rfl⟩:=List.mem_map.1 (h.all k hk);exact List.mem_map.2 ⟨q,List.mem_cons_of_mem _ (vH.2 ⟨hq,e⟩),rfl⟩
theorem rV.drop{m:nU}{rs:List RecM}{get:ByteArray->Option aG}(h:rV m rs get){L':bN}{d':bz}{k0:ByteArray}{r:RecM}(hL:ym L' (rs++[r])) :
 rV ⟨L',d',l8 m.l k0⟩ (rs++[r]) (vP get k0 none):=by
 refine⟨hL,fun e he=>?_,fun k hk=>?_⟩
 ·obtain⟨he,hne⟩:=vH.1 he;obtain⟨x',h1,h2,h3,h4⟩:=h.pos e he;exact⟨x',by unfold vP;rw[if_neg hne];exact h1,h2,h3,List.mem_append_left _ h4⟩
 ·by_cases e:k=k0
  ·subst e;exact absurd (if_pos rfl) hk
  ·have hk:get k≠none:=by unfold vP at hk;rwa[if_neg e]at hk
   obtain⟨q,hq,rfl⟩:=List.mem_map.1 (h.all k hk);exact List.mem_map.2 ⟨q,vH.2 ⟨hq,e⟩,rfl⟩
structure qI(m:nU)(n:Nat)(rs:List RecM)(get:ByteArray->Option aG):Prop where
 log:gU m.L m.d n rs
 has:rV m rs get
 x7:m.l.length<=rs.length
theorem gU.len{L:bN}{d:bz}{n:Nat}{rs:List RecM}(h:gU L d n rs):rs.length<=42:=by
 have h9:=vG rs fun r hr=>(h.good r hr).1;have:=h.fits;omega
theorem qI.ok{m:nU}{n k:Nat}{rs:List RecM}{get:ByteArray->Option aG}(h:qI m n rs get)(hn:n<900000000000)(hk:(ef rs).length+8+k<=378):sZ m k:=by
 exact⟨h.log.WE hn,by have:=h.x7;have:=h.log.len;omega⟩
theorem qI.add{m:nU}{n:Nat}{rs:List RecM}{get:ByteArray->Option aG}(h:qI m n rs get){body:List Int}(hb:1<=body.length/\body.length<=300)(hx:m.L.next<9999999999)(hfit:(ef rs).length+8+body.length<=378) :
 gU (gZ m body).L (gZ m body).d (n+20) (rs++[⟨m.L.next,body⟩])/\(gZ m body).L.next=m.L.next+1/\(gZ m body).l=m.l/\(gZ m body).L.au=m.L.au/\(gZ m body).L.from_=m.L.from_:=by
 obtain⟨h1,h2,h3,h4⟩:=h.log.append hb hx hfit;exact⟨h1,h2,h.has.keep h1.rd fun r hr=>List.mem_append_left _ hr,h3,h4⟩
theorem qI.put{m:nU}{n:Nat}{rs:List RecM}{get:ByteArray->Option aG}(h:qI m n rs get){x:aG}(hx:jT x=true)(hn:m.L.next<9999999999)(hfit:(ef rs).length+8+(aJ (some x)).length<=378) :
 qI (nG m x) (n+20) (rs++[⟨m.L.next,aJ (some x)⟩]) (vP get x.key (some x))/\(nG m x).L.next=m.L.next+1/\(nG m x).L.au=m.L.au/\(nG m x).L.from_=m.L.from_:=by
 have hm:fV x=true:=by unfold jT at hx;simp only[Bool.and_eq_true]at hx;exact hx.1
 obtain⟨b1,b2⟩:=lW (o:=some x) fun z e=>by cases e;exact hm
 obtain⟨h1,h2,h3,h4,h5⟩:=h.add ⟨b1,by omega⟩ hn hfit;have hF:nG m x=⟨(gZ m (aJ (some x))).L,(gZ m (aJ (some x))).d,Ej m.l x.key m.L.next⟩:=by
  unfold nG;rw[if_pos hx,h3]
 rw[hF];refine⟨⟨h1,h.has.put hm h1.rd,?_⟩,h2,h4,h5⟩;have:=JT m.l x.key m.L.next
 have:=h.x7;show(Ej m.l x.key m.L.next).length<=_;rw[List.length_append,List.length_singleton];omega
theorem qI.drop{m:nU}{n:Nat}{rs:List RecM}{get:ByteArray->Option aG}(h:qI m n rs get){k:ByteArray}(hk:dS k=true)(hn:m.L.next<9999999999)(hfit:(ef rs).length+8+(aJ (some (iH k))).length<=378) :
 qI (og m k) (n+20) (rs++[⟨m.L.next,aJ (some (iH k))⟩]) (vP get k none)/\(og m k).L.next=m.L.next+1/\(og m k).L.au=m.L.au/\(og m k).L.from_=m.L.from_:=by
 obtain⟨b1,b2⟩:=lW (o:=some (iH k)) fun z e=>by cases e;exact zP hk
 obtain⟨h1,h2,h3,h4,h5⟩:=h.add ⟨b1,by omega⟩ hn hfit;have hF:og m k=⟨(gZ m (aJ (some (iH k)))).L,(gZ m (aJ (some (iH k)))).d,l8 m.l k⟩:=by
  unfold og;rw[h3]
 rw[hF];refine⟨⟨h1,h.has.drop h1.rd,?_⟩,h2,h4,h5⟩;have:=Fa m.l k;have:=h.x7;show(l8 m.l k).length<=_;rw[List.length_append,List.length_singleton];omega
def newF(fr sg:Nat)(d:bz):nU:=⟨⟨fr,sg,[],1,1,true⟩,d,[]⟩
theorem qI.new{fr sg:Nat}{d:bz}{n:Nat}{run:Int}(h3:3<=sg/\sg<=200)(hr:fr+sg*8<=d.n)(hn:d.n<100000)(hc:d.calls<=n)(hd:yl fr sg none run d):qI (newF fr sg d) n [] fun _=>none:=by
 have hl:gU (newF fr sg d).L (newF fr sg d).d n []:=⟨h3,hr,hn,hc,by show(1:Int)<=1/\(1:Int)<10000000000;omega,by show(0:Int)<=1/\(1:Int)<4294967296;omega,fun r hr=>by(cases hr),⟨fun i j _ hj=>absurd hj (Nat.not_lt_zero j),fun i hi=>absurd hi (Nat.not_lt_zero i)⟩,Nat.zero_le _,⟨0,by omega,by omega,rfl⟩,⟨hd.sec,hd.rest⟩⟩
 exact⟨hl,⟨hl.rd,fun e he=>(by cases he),fun k hk=>absurd rfl hk⟩,Nat.le_refl _⟩
end Go.Proofs.YtfjgoonelcaggaaGreat
namespace Go.Proofs
open Go.Shelf
def Tryz.J6:Go.Shelf.Ren:=⟨fun|190=>227|125=>189|258=>253|128=>224|129=>225|302=>266|303=>267|304=>268|305=>269|306=>270|307=>271|308=>272|309=>273|310=>274|333=>279|329=>240|330=>241|334=>280|335=>281|336=>282|344=>284|n=>n,fun|31=>46|9=>9|3=>3|46=>108|0=>0|51=>299|53=>64|4=>4|183=>316|182=>315|131=>321|5=>5|218=>336|222=>340|228=>354|229=>248|n=>n,fun|n=>n⟩
theorem Tryz.Ol:Go.Proofs.Lays.n190 Tryz.prog Tryz.J6:={
 mixed:=by kernel_rfl
 f125:=Tryz.func189.trans (congrArg some (by kernel_rfl))
 f128:=Tryz.func224.trans (congrArg some (by kernel_rfl))
 f129:=Tryz.func225.trans (congrArg some (by kernel_rfl))
 f190:=Tryz.func227.trans (congrArg some (by kernel_rfl))
 f258:=Tryz.func253.trans (congrArg some (by kernel_rfl))
 f302:=Tryz.func266.trans (congrArg some (by kernel_rfl))
 f303:=Tryz.func267.trans (congrArg some (by kernel_rfl))
 f304:=Tryz.func268.trans (congrArg some (by kernel_rfl))
 f305:=Tryz.func269.trans (congrArg some (by kernel_rfl))
 f306:=Tryz.func270.trans (congrArg some (by kernel_rfl))
 f307:=Tryz.func271.trans (congrArg some (by kernel_rfl))
 f308:=Tryz.func272.trans (congrArg some (by kernel_rfl))
 f309:=Tryz.func273.trans (congrArg some (by kernel_rfl))
 f310:=Tryz.func274.trans (congrArg some (by kernel_rfl))
 f329:=Tryz.func240.trans (congrArg some (by kernel_rfl))
 f330:=Tryz.func241.trans (congrArg some (by kernel_rfl))
 f333:=Tryz.func279.trans (congrArg some (by kernel_rfl))
 f334:=Tryz.func280.trans (congrArg some (by kernel_rfl))
 f335:=Tryz.func281.trans (congrArg some (by kernel_rfl))
 f336:=Tryz.func282.trans (congrArg some (by kernel_rfl))
 f344:=Tryz.func284.trans (congrArg some (by kernel_rfl))
 t0:=Tryz.underlying0
 a0:=Tryz.isAgg0
 z0:=Tryz.sizeOf0
 v0:=Tryz.zeroValue0
 t3:=Tryz.underlying3
 a3:=Tryz.isAgg3
 z3:=Tryz.sizeOf3
 v3:=Tryz.zeroValue3
 t4:=Tryz.underlying4
 a4:=Tryz.isAgg4
 z4:=Tryz.sizeOf4
 v4:=Tryz.zeroValue4
 t5:=Tryz.underlying5
 a5:=Tryz.isAgg5
 z5:=Tryz.sizeOf5
 v5:=Tryz.zeroValue5
 t9:=Tryz.underlying9
 a9:=Tryz.isAgg9
 z9:=Tryz.sizeOf9
 v9:=Tryz.zeroValue9
 t31:=Tryz.underlying46
 a31:=Tryz.isAgg46
 z31:=Tryz.sizeOf46
 v31:=Tryz.zeroValue46
 t46:=Tryz.underlying108
 a46:=Tryz.isAgg108
 z46:=Tryz.sizeOf108
 v46:=Tryz.zeroValue108
 t51:=Tryz.underlying299
 a51:=Tryz.isAgg299
 z51:=Tryz.sizeOf299
 v51:=Tryz.zeroValue299
 t53:=Tryz.underlying64
 a53:=Tryz.isAgg64
 z53:=Tryz.sizeOf64
 v53:=Tryz.zeroValue64
 t131:=Tryz.underlying321
 a131:=Tryz.isAgg321
 z131:=Tryz.sizeOf321
 v131:=Tryz.zeroValue321
 t182:=Tryz.underlying315
 a182:=Tryz.isAgg315
 z182:=Tryz.sizeOf315
 v182:=Tryz.zeroValue315
 t183:=Tryz.underlying316
 a183:=Tryz.isAgg316
 z183:=Tryz.sizeOf316
 v183:=Tryz.zeroValue316
 t218:=Tryz.underlying336
 a218:=Tryz.isAgg336
 z218:=Tryz.sizeOf336
 v218:=Tryz.zeroValue336
 t222:=Tryz.underlying340
 a222:=Tryz.isAgg340
 z222:=Tryz.sizeOf340
 v222:=Tryz.zeroValue340
 t228:=Tryz.underlying354
 a228:=Tryz.isAgg354
 z228:=Tryz.sizeOf354
 v228:=Tryz.zeroValue354
 t229:=Tryz.underlying248
 a229:=Tryz.isAgg248
 z229:=Tryz.sizeOf248
 v229:=Tryz.zeroValue248 }
open Go.Sort Go.RowKit in
theorem Tryz.slices_Sort_string(blk off cap:Nat)(ss:List (List UInt8))(w:World)(hH:Holds encStr w blk off ss.toArray)(hblk:blk<w.heap.size)(hsz:ss.length<4611686018427387904) :
 Calls Tryz.prog 227 #[.slice (some ⟨blk,off,none⟩) ss.length cap] w fun e w' =>
  e = .returned (.tuple #[])/\∃n os,w'=grow (putRow encStr (Sort.ahead w n) blk off (ss.mergeSort fun x y=>decide (x<=y)).toArray) os:=Any.slices_Sort_string Tryz.Ol blk off cap ss w hH hblk hsz
open Go.RowKit Go.Sort in
theorem Tryz.slices_Sort_string_none(p:Option Addr)(cap:Nat)(w:World) :
 Calls Tryz.prog 227 #[.slice p 0 cap] w fun e w'=>e = .returned (.tuple #[])/\w'=w:=Any.slices_Sort_string_none Tryz.Ol p cap w
end Go.Proofs
namespace Go.Sx
section
open Go.Sort
structure Om(β:Type) where
 l:List β
 cap:Nat
def oq{β:Type}[Inhabited β](enc:β->Value)(l:List β):Nat->Nat->Value:=aa (fun x=>[enc x]) l
def yo{β:Type}[Inhabited β](ty:TypeId)(k:CK)(enc:β->Value)(srt:List β->List β):cC where
 α:=Om β
 β:=Unit
 m:=1
 m':=1
 pre:=fun a=>a.l.length<100000
 args:=fun a=>[.a (.slc 0 0 1 a.l.length a.cap)]
 hp:=fun a=>[(0,.arr ty [k] a.l.length (oq enc a.l))]
 ro:=fun _=>[]
 post:=fun _ _=>True
 res:=fun _ _=>.mm []
 cW:=fun a _=>[(0,.arr ty [k] a.l.length (oq enc (srt a.l)))]
theorem AV{β:Type}[Inhabited β]{enc:β->Value}{l:List β}{i:Nat}:oq enc l i 0=enc (gl l i):=rfl
theorem HT{β:Type}[Inhabited β]{k:CK}{enc:β->Value}{ty:TypeId}{l:List β}{ρ:Env}{p:Place}{w:World}(h:(Chunk.arr ty [k] l.length (oq enc l)).Sat ρ p w)(h0:l≠[]) :
 ∃vs ty' fr,w.heap[p.blk]? = some (.cells vs ty' fr)/\p.off+p.N<=vs.size/\l.length<=p.N/\r7 p.off (p.off+p.N) fr/\(∀b,p.fp b↔b=p.blk)/\(∀i,i<l.length->vs[p.off+i]? = some (enc (gl l i))):=by
 rcases h with⟨hn,_⟩ | ⟨vs,ty',fr,hb,h1,h2,h3,h4,h5⟩
 ·exact absurd (List.eq_nil_of_length_eq_zero hn) h0
 ·simp only[List.length_singleton,Nat.mul_one]at h1 h3 h5;refine⟨vs,ty',fr,hb,h1,h2,h3,h4,fun i hi=>?_⟩;obtain⟨g1,_⟩:=h5 i hi 0 k rfl;exact g1
theorem T0{β γ:Type}[Inhabited β][Inhabited γ]{X:Cx}{f:Nat}{ty:TypeId}{k:CK}{enc:β->Value}{enc2:γ->Value}{to:β->γ}{srt:List β->List β}{srt2:List γ->List γ}
 (hto:∀x,enc2 (to x)=enc x) (hsrt:∀l,(srt l).map to=srt2 (l.map to)) (hlen:∀l,(srt l).length=l.length) (hin:∀l x,x∈srt l->x∈l)
 (hcall:∀(blk off cap:Nat) (l:List γ) (w:World),Holds enc2 w blk off l.toArray->blk<w.heap.size->l.length<4611686018427387904 ->
  Calls X.P f #[.slice (some ⟨blk,off,none⟩) l.length cap] w fun e w'=>e = .returned (.tuple #[])/\∃n os,w'=grow (putRow enc2 (Sort.ahead w n) blk off (srt2 l).toArray) os)
 (hnone:∀(p:Option Addr) (cap:Nat) (w:World),Calls X.P f #[.slice p 0 cap] w fun e w'=>e = .returned (.tuple #[])/\w'=w) :
 lM X (yo ty k enc srt) f:=by
 intro a hpre M ρ w vs hn hh hargs;obtain⟨l,cap⟩:=a;obtain⟨v,vs',rfl,hv,rfl⟩:=hargs;obtain⟨hT,hlc,hcm,hv⟩:=hv;have he:=hh.gJ ⟨0,true,.arr ty [k] l.length (oq enc l)⟩ (by simp[vp,yo]);have hsat:=he.ch;simp only at hsat hlc hcm hv hT;by_cases h0:l=[]
 ·subst h0;have hs:srt []=[]:=List.eq_nil_of_length_eq_zero (hlen []);have hcalls:Calls X.P f #[v] w fun e w'=>e = .returned (.tuple #[])/\w'=w:=by
   rcases hv with⟨_,h2,rfl⟩ | ⟨o,rfl,_⟩
   ·exact hnone none 0 w
   ·exact hnone (some _) cap w
  refine hcalls.mono ?_;rintro e w' ⟨rfl,rfl⟩;refine⟨_,rfl,(),ρ,trivial,hn,fun _ _=>rfl,⟨[],rfl,rfl⟩,?_⟩;show ai w' M ρ (vp [(0,.arr ty [k] ([]:List β).length (oq enc (srt [])))]) w';rw[hs];have:(vp ((yo ty k enc srt).hp ⟨[],cap⟩)++Eb ((yo ty k enc srt).ro ⟨[],cap⟩))=vp [(0,.arr ty [k] ([]:List β).length (oq enc []))]:=by simp[yo,Eb,vp]
  rw[this]at hh;exact hh
 ·obtain⟨vs0,ty',fr,hb,h1,h2,h3,h4,h5⟩:=HT hsat h0;have hpos:l.length≠0:=fun h=>h0 (List.eq_nil_of_length_eq_zero h);have hlt:(ρ.pl 0).blk<w.heap.size:=he.lt _ ((h4 _).2 rfl);rcases hv with⟨g1,_,_⟩ | ⟨o,rfl,ho⟩
  ·exact absurd g1 hpos
  obtain⟨rfl,_⟩:=ho (by omega);simp only[Nat.add_zero,Nat.mul_one]at *;have hHolds:Holds enc2 w (ρ.pl 0).blk (ρ.pl 0).off (l.map to).toArray:=by
   intro j hj;simp only[List.size_toArray,List.length_map]at hj;refine⟨?_,?_⟩
   ·simp only[World.cell?,hb];rw[h5 j hj,getElem!_pos _ j (by simpa using hj)];simp[hto,bR hj]
   ·simp only[World.frozen?,hb];have:=h3 ((ρ.pl 0).off+j) (by omega) (by omega);obtain⟨lo,hi⟩:=fr;simpa using this
  have hcalls:=hcall (ρ.pl 0).blk (ρ.pl 0).off cap (l.map to) w hHolds hlt (by rw[List.length_map];have:l.length<100000:=hpre;omega);rw[List.length_map]at hcalls;refine hcalls.mono ?_;rintro e w' ⟨rfl,n,os,rfl⟩;refine⟨_,rfl,(),ρ,trivial,hn,fun _ _=>rfl,⟨[],rfl,rfl⟩,?_⟩;have hsz:(srt2 (l.map to)).length=l.length:=by rw[<- hsrt,List.length_map,hlen]
  have hheap:∀b,b<w.heap.size->(grow (putRow enc2 (Sort.ahead w n) (ρ.pl 0).blk (ρ.pl 0).off (srt2 (l.map to)).toArray) os).heap[b]? = (w.heap.modify (ρ.pl 0).blk (onCells (putCells enc2 (ρ.pl 0).off (srt2 (l.map to)).toArray)))[b]?:=by
   intro b hb';rw[heap_grow_old _ _ (by simpa using hb')];rfl
  have hblk:(grow (putRow enc2 (Sort.ahead w n) (ρ.pl 0).blk (ρ.pl 0).off (srt2 (l.map to)).toArray) os).heap[(ρ.pl 0).blk]? = some (.cells (putCells enc2 (ρ.pl 0).off (srt2 (l.map to)).toArray vs0) ty' fr):=by
   rw[hheap _ hlt,Array.getElem?_modify,if_pos rfl,hb];rfl
  have hoth:∀b,b<w.heap.size->b≠(ρ.pl 0).blk->(grow (putRow enc2 (Sort.ahead w n) (ρ.pl 0).blk (ρ.pl 0).off (srt2 (l.map to)).toArray) os).heap[b]? = w.heap[b]?:=by
   intro b hb' hne;rw[hheap b hb',Array.getElem?_modify,if_neg (fun h=>hne h.symm)]
  refine⟨⟨rfl,rfl,rfl,?_,fun b hb' hm=>?_,fun ad had=>?_⟩,?_,?_⟩
  ·simp
  ·exact hoth b hb' fun e=>hm (he.own rfl b ((h4 b).2 e) hb')
  ·rw[frozen?_grow _ _ _ (by simpa using had),frozen?_putRow,frozen?_ahead]
  ·intro e' he';have:e'=⟨0,true,.arr ty [k] l.length (oq enc (srt l))⟩:=by simpa[vp,yo]using he'
   subst this;refine⟨he.tag,?_,fun b hb'=>?_,he.own⟩
   ·refine .inr ⟨_,ty',fr,hblk,?_,h2,?_,h4,fun i hi j k' hj=>?_⟩
    ·simpa[putCells]using h1
    ·simpa using h3
    ·have hj0:j=0:=by
      cases j with
      |zero=>rfl
      |succ j=>simp at hj
     subst hj0;have hk:k'=k:=by simpa using hj.symm
     subst hk;have hi':i<(srt l).length:=by rw[hlen];exact hi
     have hmem:gl (srt l) i∈l:=hin l _ (Gi hi');refine⟨?_,?_⟩
     ·simp only[List.length_singleton,Nat.mul_one,Nat.add_zero,putCells,Array.getElem?_mapIdx,h5 i hi,Option.map_some];rw[if_pos ⟨by omega,by simp;omega⟩,show(ρ.pl 0).off+i-(ρ.pl 0).off=i by omega];rw[getElem!_pos _ i (by simp;omega)];have:(srt2 (l.map to))[i]'(by omega)=to (gl (srt l) i):=by
       simp only[<- hsrt,List.getElem_map,bR hi']
      simp[this,hto,AV]
     ·obtain⟨i0,hi0,e0⟩:=List.getElem_of_mem hmem;rcases hsat with⟨hn0,_⟩ | ⟨vs1,ty1,fr1,hb1,_,_,_,_,h6⟩
      ·omega
      ·obtain⟨_,g2⟩:=h6 i0 hi0 0 k' rfl;rw[AV]at g2 ⊢;rw[<- e0,<- bR hi0];exact g2
   ·have:=he.lt b hb';simp;omega
  ·simp[vp,yo]
end
end Go.Sx
