/-
  
-/
import Derived.Test.YtfjgoonelcaggaaGreatNodeAloneP4
import Derived.Test.YtfjgoonelcaggaaGreatNodeAloneP2
import Derived.Below
import Derived.ChangeSame
import Derived.Carry
import Derived.ChangeArms
import Derived.OpenShut
import Derived.RowKit3
import Derived.Test.YtfjgoonelcaggaaGreatNodeAloneP3
import Derived.Shelf.SlSortCmp.WholeK
import Derived.Shelf.SlSortCmp.NoneTotal
import Derived.Test.YtfjgoonelcaggaaGreatProg
import Derived.ProofKit
import Derived.WalkKit
set_option maxRecDepth 100000
set_option maxHeartbeats 4000000
set_option linter.unusedVariables false
set_option linter.unusedSimpArgs false
noncomputable section
namespace Go.Proofs.YtfjgoonelcaggaaGreat
open Go.Sx
variable{d:bH}
theorem Tk{L:cn}{n:Nat}{rs:List RecM}(h:dW L d n rs)(hx:L.next<9999990000)(hn1:n<4000000000) :
 rH L.from_ L.au d/\fV (cH L.from_ L.au d).l=rs/\(∀i,i<(cH L.from_ L.au d).l.length->(gl (cH L.from_ L.au d).l i).bn.length<=400)/\dW (cH L.from_ L.au d) d (n+1) rs/\(cH L.from_ L.au d).from_=L.from_/\(cH L.from_ L.au d).au=L.au/\(cH L.from_ L.au d).next<=L.next+64:=by
 have hc:=h.calls;obtain⟨o1,o2,o3,o4,o5,_⟩:=h.open_ (d':=d) (n':=n+1) (fun _ _ _ _ _=>rfl) rfl (by omega) hx hn1 (by omega)
 grind [o2.all,o2.rd.seg]
theorem Yl{fr sg:Nat}{n:Nat}{run:Int}(h3:3<=sg/\sg<=200)(hr:fr+sg*8<=d.n)(hn:d.n<100000)(hc:d.calls<=n)(hd:EA fr sg none run d):qb ⟨⟨fr,sg,[],1,1,true⟩,d,[]⟩ n [] []/\dW ⟨fr,sg,[],1,1,true⟩ d n []:=⟨qb.new h3 hr hn hc hd,(qb.new h3 hr hn hc hd).one.log⟩
theorem DX{c:Nat}(hn:192<=d.n/\d.n<3000)(hc:d.calls<=c)(hc2:c<900000000)(H:PH) :
 Ew.pre ⟨d,H⟩/\fq (iN (zC ⟨d,H⟩)) (c+d.n+100) [] 0 0/\(iN (zC ⟨d,H⟩)).k.m=⟨1,0,0,false⟩/\(iN (zC ⟨d,H⟩)).ms=[]/\(∀r,(iN (zC ⟨d,H⟩)).d.loose r=false)/\(∀r j,(iN (zC ⟨d,H⟩)).d.ru r j=(iN (zC ⟨d,H⟩)).d.now r j)/\(iN (zC ⟨d,H⟩)).d.n=d.n:=by
 obtain⟨D0,hD0⟩:∃D,D=uJ (iS d d.n) 0 (fT Is):=⟨_,rfl⟩
 have hnow:∀r j,j<64->r<d.n->D0.now r j=if r=0 then xR 1 (fT Is) j else 0:=fun r j hj hr=>by
  rw[hD0];show(if r=0+0/\j<64 then xR 1 (fT Is) j else if r=0+1/\j<64 then 0 else if r=0/\j<64 then 0 else if r<d.n/\j<64 then 0 else d.now r j)=_;omega
 have hDn:D0.n=d.n:=by rw[hD0];rfl
 have hDc:D0.calls<=c+d.n+5:=by rw[hD0];show d.calls+d.n+1+1+1+1+1<=_;omega
 have hK:wB (od 0) D0:=⟨rfl,by decide,by decide,rfl,rfl,fun j hj=>by
  grind [od],.inl fun j hj=>by
  grind [od]⟩
 have hs:kA (od 0) (iM Is)=true:=by decide
 obtain⟨k1,k2,k3,k4,k5,k6⟩:=hK.save hs (by decide);obtain⟨D,hD⟩:∃D,D=ga (od 0) D0 (iM Is):=⟨_,rfl⟩
 have hDD:D=jq (jX D0 (0+1) 64 (xR 2 (fT (iM Is)))):=by rw[hD];unfold ga;rw[if_pos hs];rfl
 rw[<- hD]at k1 k4 k5 k6;obtain⟨s1,s2,s3⟩:=xu hn.1;have hz:∀r,2<=r->r<d.n->∀j,j<64->D.now r j=0:=fun r h1 h2 j hj=>by grind
 have hd1:EA 2 20 none 1 D:=⟨fun i hi j hj=>hz _ (by omega) (by omega) j hj,fun r h1 h2 j hj=>hz r (by omega) (by omega) j hj⟩
 have hd2:EA 162 (gd d.n) none 1 D:=⟨fun i hi j hj=>hz _ (by omega) (by omega) j hj,fun r h1 h2 j hj=>hz r (by omega) (by omega) j hj⟩
 obtain⟨a1,a2⟩:=Nc hd1 (by omega) (by omega) (by omega);obtain⟨b1,b2⟩:=Nc hd2 (by omega) (by omega) (by omega);have e0:zC ⟨d,H⟩=⟨od 0,0,D0,H,[],[]⟩:=by rw[hD0];rfl
 have e1:iN (zC ⟨d,H⟩)=⟨D,⟨162,gd d.n,[],1,1,true⟩,[],⟨2,20,[],1,1,true⟩,[],pI (od 0) (iM Is),1⟩:=by
  rw[e0];show(⟨ga (od 0) D0 (iM Is),cH 162 (gd D0.n) (ga (od 0) D0 (iM Is)),_,cH 2 20 (ga (od 0) D0 (iM Is)),_,_,_⟩:pY)=_;rw[<- hD,hDn,a2,b2];rfl
 obtain⟨n1,_⟩:=Yl (n:=c+d.n+100) (d:=D) ⟨s1,s2⟩ (by omega) (by omega) (by omega) hd2;obtain⟨_,n2⟩:=Yl (n:=c+d.n+100) (d:=D) (show 3<=20/\20<=200 by omega) (by omega) (by omega) (by omega) hd1;refine⟨⟨hn.1,by grind,by grind,?_⟩,?_,?_,?_,?_,?_,?_⟩
 ·rw[e0];refine⟨by grind,by grind,hs,⟨rfl,by show(0:Nat)<=1;omega,by show(0:Int)<=1;omega,by show(1:Int)<1000000000000;omega⟩,fun H=>?_,fun H=>?_⟩
  ·show DA.pre ⟨H,ga (od 0) D0 (iM Is),2,20,[]⟩;rw[<- hD];refine⟨cW _,a1,?_,?_⟩
   ·rw[show cH (Ba.mk H D 2 20 []).from_ (Ba.mk H D 2 20 []).au (Ba.mk H D 2 20 []).d=_ from a2];exact⟨rfl,by grind,fun i hi=>absurd hi (uh i),fun i hi=>absurd hi (uh _)⟩
   grind
  ·show zx.pre ⟨H,ga (od 0) D0 (iM Is),162,gd D0.n,[]⟩;rw[<- hD,hDn];refine⟨b1,?_,?_⟩
   ·rw[show cH (sU.mk H D 162 (gd d.n) []).from_ (sU.mk H D 162 (gd d.n) []).au (sU.mk H D 162 (gd d.n) []).d=_ from b2];exact⟨rfl,by grind,fun i hi=>absurd hi (uh i)⟩
   grind
 all_goals rw[e1]
 ·exact⟨⟨[],n1,cW _⟩,n2,cW _,fun i hi=>absurd hi (uh i),by dsimp only;rw[k3];show _/\_/\(1:Int)+1<=_;omega,⟨rfl,by grind,rfl,rfl⟩,by grind,k1,by dsimp only;rw[k2];rfl⟩
 ·exact k2
 ·rw[hDD];exact fun _=>rfl
 ·rw[hDD];exact fun _ _=>rfl
 grind
theorem fq.Qo{s:pY}{n:Nat}{es:List (Option aW)}{cb jb:Nat}(h:fq s n es cb jb){d':bH}{c:Nat}(hd:∀r j,d'.now r j=s.d.now r j)(hn:d'.n=s.d.n)(hc:d'.calls<=c)(hc2:c<900000000)(hb:s.k.m.bP<1000000)(hn2:n<900000000)(H:PH) :
 Ex.pre ⟨d',H,s.k.m,s.ms,es⟩/\(iN (zD ⟨d',H,s.k.m,s.ms,es⟩)).k.m=iM s.k.m/\(iN (zD ⟨d',H,s.k.m,s.ms,es⟩)).bP=s.k.m.bP+1/\(iN (zD ⟨d',H,s.k.m,s.ms,es⟩)).ms=s.ms /\
 fq (iN (zD ⟨d',H,s.k.m,s.ms,es⟩)) (c+100+n) es cb jb/\(∀r,(iN (zD ⟨d',H,s.k.m,s.ms,es⟩)).d.loose r=false)/\(∀r j,(iN (zD ⟨d',H,s.k.m,s.ms,es⟩)).d.ru r j=(iN (zD ⟨d',H,s.k.m,s.ms,es⟩)).d.now r j)/\(iN (zD ⟨d',H,s.k.m,s.ms,es⟩)).d.n=s.d.n:=by
 have hdn:=h.dn;have hkt:=h.keep.fW;have hnx:=h.nx;have hK:wB s.k d':=h.keep.dev' fun r _ j _=>hd r j;obtain⟨o1,o2⟩:=hK.open_ (by omega);have hmo:=Eu h.keep.may;have hs:kA s.k (iM s.k.m)=true:=by
  have hm:=h.keep.may;unfold kA;have:pq (iM s.k.m)=true:=by
   unfold pq at hm ⊢;simp only[iM,jB]at hm ⊢;exact⟨by simp only[Hx,jB,tB];omega,hm.2⟩
  rw[this,show decide ((iM s.k.m).bP<s.k.m.bP)=false from Ml (by show ¬(s.k.m.bP+1<s.k.m.bP);omega),show decide ((iM s.k.m).ay<s.k.m.ay)=false from Ml (by show ¬(s.k.m.ay<s.k.m.ay);omega)];rfl
 obtain⟨k1,k2,k3,k4,k5,k6⟩:=hK.save hs (by omega);obtain⟨D,hD⟩:∃D,D=ga s.k d' (iM s.k.m):=⟨_,rfl⟩
 have hDD:D=jq (jX d' (s.k.s.at_+(1-s.k.s.slot)) 64 (xR (s.k.s.fW+1) (fT (iM s.k.m)))):=by rw[hD];unfold ga;rw[if_pos hs];rfl
 rw[<- hD]at k1 k4 k5 k6;obtain⟨g1,g2,g3,g4⟩:=h.Yj;obtain⟨s1,s2,s3⟩:=xu hdn.1;have hsame:∀r,2<=r->∀j,D.now r j=s.d.now r j:=fun r hr j=>(k6 r hr j).trans (hd r j);have hDn:D.n=s.d.n:=k4.trans hn;obtain⟨cr,hf,hcb⟩:=h.fl;have hf2:qb ⟨s.cL,D,s.cl⟩ (c+10+n) cr es:=hf.dev' (fun r h1 _ j _=>hsame r (by omega) j) hDn (by omega);have hj2:dW s.jL D (c+10+n) (s.ms.map Bh):=h.jl.dev' (fun r h1 _ j _=>hsame r (by omega) j) hDn (by omega);obtain⟨a1,a2,a3,a4,a5,a6,a7⟩:=Tk hj2 (by omega) (by omega);rw[g3,g4]at a1 a2 a3 a4 a5 a6 a7;have e0:zD ⟨d',H,s.k.m,s.ms,es⟩=⟨s.k,0,d',H,s.ms,es⟩:=by
  show(⟨⟨fZ 0 d' 2,s.k.m⟩,0,d',H,s.ms,es⟩:xl)=_;rw[o1]
 have hfo:∀H,zx.pre ⟨H,D,162,gd s.d.n,es⟩:=fun H=>by
  have:=(Go.Proofs.YtfjgoonelcaggaaGreat.Qo hf2 (d':=D) (fun _ _=>rfl) rfl H (by grind) (by omega)).1
  grind
 refine⟨⟨o2,?_⟩,?_,?_,?_,?_,?_,?_,?_⟩
 ·rw[e0];refine⟨by grind,by grind,hs,⟨h.keep.at_,h.keep.slot,by grind,by grind⟩,fun H=>?_,fun H=>?_⟩
  ·show DA.pre ⟨H,ga s.k d' (iM s.k.m),2,20,s.ms⟩;rw[<- hD];refine⟨cW _,a1,?_,a3⟩;rw[show fV (cH (Ba.mk H D 2 20 s.ms).from_ (Ba.mk H D 2 20 s.ms).au (Ba.mk H D 2 20 s.ms).d).l=_ from a2];have hl:=h.len;refine⟨by simp,by grind,fun i hi=>?_,fun i hi=>?_⟩
   ·obtain⟨q1,q2⟩:=h.ms i hi;have:gl (s.ms.map Bh) i=Bh (gl s.ms i):=by
     rw[b8 (by grind),b8 hi,zBQ]
    dsimp only;rw[this];exact⟨rfl,rfl,by rw[q1];omega,by grind,q2⟩
   ·dsimp only at hi ⊢;rw[(h.ms _ hi).1,(h.ms i (by omega)).1];omega
  ·show zx.pre ⟨H,ga s.k d' (iM s.k.m),162,gd d'.n,es⟩
   grind
 ·rw[e0];exact k2
 ·rw[e0];rfl
 ·rw[e0];rfl
 ·have hnc:s.cL.next<=n:=hnx.1
  obtain⟨_,b2,b3,_⟩:=Go.Proofs.YtfjgoonelcaggaaGreat.Qo hf2 (d':=D) (fun _ _=>rfl) rfl H (by grind) (by omega);obtain⟨_,_,_,b4,b5,b6,b7⟩:=Tk hf2.one.log (by grind) (by omega);dsimp only at b2 b3 b4 b5 b6 b7;rw[g1,g2]at b2 b3 b4 b5 b6 b7;have e1:iN (zD ⟨d',H,s.k.m,s.ms,es⟩)=⟨D,cH 162 (gd s.d.n) D,(HX ⟨H,D,162,gd s.d.n,es⟩).l,cH 2 20 D,s.ms,pI s.k (iM s.k.m),s.k.m.bP+1⟩:=by
   rw[e0];show(⟨ga s.k d' (iM s.k.m),cH 162 (gd d'.n) (ga s.k d' (iM s.k.m)),oL es (fV (cH 162 (gd d'.n) (ga s.k d' (iM s.k.m))).l) es.length,cH 2 20 (ga s.k d' (iM s.k.m)),s.ms,_,_⟩:pY)=_;rw[<- hD,hn];rfl
  rw[e1];exact⟨⟨cr,⟨⟨b4.up (by omega),b2,by have:=hf2.len;show(HX ⟨H,D,162,gd s.d.n,es⟩).l.length<=_;omega⟩,hf2.len,hf2.body⟩,hcb⟩,a4.up (by omega),h.jb,h.ms,by grind,⟨b5,by grind,a5,a6⟩,by grind,k1,by dsimp only;rw[k2];rfl⟩
 ·rw[e0];show ∀r,(ga s.k d' (iM s.k.m)).loose r=false;rw[<- hD,hDD];exact fun _=>rfl
 ·rw[e0];show ∀r j,(ga s.k d' (iM s.k.m)).ru r j=(ga s.k d' (iM s.k.m)).now r j;rw[<- hD,hDD];exact fun _ _=>rfl
 ·rw[e0];show(ga s.k d' (iM s.k.m)).n=_
  grind
def u9(s:pY)(ks:List ByteArray)(i:Nat):pY:={ s with d:=(eM s.jr ks i).d,jL:=(eM s.jr ks i).L,ms:=(eM s.jr ks i).ms }
def uK(s:pY)(ks:List ByteArray)(i:Nat):pY:={ s with d:=(je s.fl ks i).d,cL:=(je s.fl ks i).L,cl:=(je s.fl ks i).l }
structure ajF(s:pY)(n:Nat)(es:List (Option aW))(cb jb:Nat)(ks:List ByteArray)(i:Nat):Prop where
 one:fq (u9 s ks i) n es cb jb
 len:(u9 s ks i).ms.length=s.ms.length+i
 ok:∀j,j<i->AT (eM s.jr ks j).L (eM s.jr ks j).d/\0<=lU (eM s.jr ks j).ms/\lU (eM s.jr ks j).ms<1000000000000
 key:∀j,j<i->(gl (u9 s ks i).ms (s.ms.length+j)).key=gl ks j
 dn:(u9 s ks i).d.n=s.d.n
theorem fq.ajG{s:pY}{n:Nat}{es:List (Option aW)}{cb jb:Nat}(h:fq s n es cb jb){ks:List ByteArray}(hK:∀i,i<ks.length->dB (gl ks i)=true){w:Nat}(hw:∀i,i<ks.length->8+(fK (s.ms.length+i+1) (gl ks i)).length<=w)(hn:n+20*ks.length<900000000)(hfit:jb+w*ks.length<=3780) :
 ∀i,i<=ks.length->ajF s (n+20*i) es cb (jb+w*i) ks i
 |0,_=>⟨h,rfl,fun j hj=>absurd hj (uh j),fun j hj=>absurd hj (uh j),rfl⟩
 |i+1,hi=>by
  have ih:=fq.ajG h hK hw hn hfit i (by omega);have hl:=ih.len;have hfit2:jb+w*i+w<=3780:=by
   have:w*(i+1)<=w*ks.length:=zBM w hi;rw[Nat.mul_add,T9]at this;omega
  have hw2:8+(fK ((u9 s ks i).ms.length+1) (gl ks i)).length<=w:=by
   have:=hw i (by omega);rw[hl];push_cast;exact this
  obtain⟨a1,a2,a3⟩:=ih.one.amp (hK i (by omega)) hw2 (by omega) hfit2;have e:u9 s ks (i+1)=Yk (u9 s ks i) (gl ks i):=rfl;have hsq:=ih.one.seq;have hlen:=ih.one.len;refine⟨by grind,by grind,fun j hj=>?_,fun j hj=>?_,?_⟩
  ·by_cases ej:j=i
   ·grind [u9]
   ·exact ih.ok j (by omega)
  ·rw[e,a3,jQ (by omega)];by_cases ej:j=i
   ·grind
   ·rw[if_pos (by omega)];exact ih.key j (by omega)
  ·rw[e,<- ih.dn];exact zH _ _ _
structure ahr(s:pY)(n:Nat)(es:List (Option aW))(cb jb:Nat)(ks:List ByteArray)(i:Nat):Prop where
 one:fq (uK s ks i) n es cb jb
 ok:∀j,j<i->Aw (je s.fl ks j) (bl (some (lT (gl ks j)))).length
 dn:(uK s ks i).d.n=s.d.n
theorem fq.aiz{s:pY}{n:Nat}{es:List (Option aW)}{cb jb:Nat}(h:fq s n es cb jb){ks:List ByteArray}(hK:∀i,i<ks.length->dB (gl ks i)=true){w:Nat}(hw:∀i,i<ks.length->8+(bl (some (lT (gl ks i)))).length<=w)(hn:n+20*ks.length<900000000)(hfit:cb+w*ks.length<=378\/cb+w*ks.length<=189*gd s.d.n) :
 ∀i,i<=ks.length->ahr s (n+20*i) (es++(ks.take i).map fun q=>some (lT q)) (cb+w*i) jb ks i
 |0,_=>⟨by rw[List.take_zero,zBI,z6];exact h,fun j hj=>absurd hj (uh j),rfl⟩
 |i+1,hi=>by
  have ih:=fq.aiz h hK hw hn hfit i (by omega);have hfit2:cb+w*i+w<=378\/cb+w*i+w<=189*gd (uK s ks i).d.n:=by
   rw[ih.dn];have:w*(i+1)<=w*ks.length:=zBM w hi;rw[Nat.mul_add,T9]at this;omega
  obtain⟨a1,a2⟩:=ih.one.ala (hK i (by omega)) (hw i (by omega)) (by omega) hfit2;have e:uK s ks (i+1)=aer (uK s ks i) (gl ks i):=rfl;have es':es++(ks.take (i+1)).map (fun q=>some (lT q))=es++(ks.take i).map (fun q=>some (lT q))++[some (lT (gl ks i))]:=by
   rw[sJ (by omega)];simp
  refine⟨by grind,fun j hj=>?_,?_⟩
  ·by_cases ej:j=i
   ·subst ej;exact a2
   ·exact ih.ok j (by omega)
  ·rw[e,<- ih.dn];exact zH _ _ _
variable{cb jb w wc wj:Nat}{es:List (Option aW)}{ks:List ByteArray}{s:pY}
theorem fq.Tl{n:Nat}(h:fq s n es cb jb):gv (dK s.jL) s.ms=s.ms:=S1 fun i hi=>by
 have hm:Bh (gl s.ms i)∈s.ms.map Bh:=kj.2 ⟨_,by grind [b8],rfl⟩;exact h.jl.rd.first hm
structure ajH(s:pY)(n:Nat)(es:List (Option aW))(cb jb:Nat)(ks:List ByteArray):Prop where
 one:fq (lV s ks) n es cb jb
 len:(lV s ks).ms.length=s.ms.length+ks.length
 seq:lU (kU s.jr ks).ms=s.ms.length+ks.length
 key:∀j,j<ks.length->(gl (lV s ks).ms (s.ms.length+j)).key=gl ks j
 dn:(lV s ks).d.n=s.d.n
 k:(lV s ks).k=s.k/\(lV s ks).bP=s.bP
 still:(∀r,(lV s ks).d.loose r=false)/\∀r j,(lV s ks).d.ru r j=(lV s ks).d.now r j
theorem aao{n:Nat}(h:fq s n es cb jb)(hA:iG ks=true)(hw:∀i,i<ks.length->8+(fK (s.ms.length+i+1) (gl ks i)).length<=w)(hn:n+20*ks.length<900000000)(hfit:jb+w*ks.length<=3780)(hl:ks.length<=20) :
 fq (mS s ks) (n+20*ks.length+1) es cb (jb+w*ks.length)/\(mS s ks).ms=(u9 s ks ks.length).ms/\(mS s ks).d.n=s.d.n/\(mS s ks).k=s.k/\(mS s ks).bP=s.bP/\(∀p kc,cV p.H p.y s.jL->s.ms.length<=p.cap->M5.pre ⟨s.jr,p,ks,kc⟩):=by
 have hK:∀i,i<ks.length->dB (gl ks i)=true:=fun i hi=>RO.1 hA (gl ks i) (by grind [b8]);have ha:=h.ajG hK hw hn hfit ks.length (cW _);have hpre:∀p kc,cV p.H p.y s.jL->s.ms.length<=p.cap->M5.pre ⟨s.jr,p,ks,kc⟩:=fun p kc h1 h2=>by
  have l1:=h.jl.wN;have l2:=ha.one.jl.wN;have m1:=h.Yj.2.2.2;have m2:=ha.one.Yj.2.2.2;have l3:=h.len;have hd:=h.dn;obtain⟨cr,hf,_⟩:=ha.one.fl;have hc:=hf.one.log.calls;refine⟨h1,by show s.jL.l.length<800;omega,by grind,by show s.ms.length<50000;omega,h2,fun _=>⟨ha.ok,?_,?_,?_⟩⟩
  ·show(u9 s ks ks.length).d.n<_;rw[ha.dn];omega
  ·show(u9 s ks ks.length).d.calls<_;have:(u9 s ks ks.length).d.calls<=n+20*ks.length:=hc;omega
  ·show(u9 s ks ks.length).jL.l.length<_;omega
 by_cases h0:ks.length=0
 ·have e:mS s ks=s:=by
   have:kU s.jr ks=⟨s.jL,s.d,s.ms⟩:=by
    unfold kU;rw[if_pos hA,if_pos h0];show(⟨s.jL,s.d,gv (dK s.jL) s.ms⟩:RJ)=_;rw[h.Tl]
   unfold mS;rw[this]
  rw[e,h0];obtain⟨cr,hf,hcb⟩:=h.fl;have hc:=hf.one.log.calls;have hc:s.d.calls<=n:=hc;have hnx:=h.nx;refine⟨⟨⟨cr,hf.dev' (fun _ _ _ _ _=>rfl) rfl (by show s.d.calls<=_;omega),hcb⟩,h.jl.dev' (fun _ _ _ _ _=>rfl) rfl (by omega),h.jb,h.ms,by push_cast;omega,h.Yj,h.dn,h.keep,h.bP⟩,rfl,rfl,rfl,rfl,hpre⟩
 ·have e:mS s ks=flS (u9 s ks ks.length):=by
   have:kU s.jr ks=⟨(eM s.jr ks ks.length).L,jq (eM s.jr ks ks.length).d,(eM s.jr ks ks.length).ms⟩:=by
    unfold kU;rw[if_pos hA,if_neg h0];show(⟨(eM s.jr ks ks.length).L,jq (eM s.jr ks ks.length).d,gv (dK (eM s.jr ks ks.length).L) (eM s.jr ks ks.length).ms⟩:RJ)=_;rw[show gv (dK (eM s.jr ks ks.length).L) (eM s.jr ks ks.length).ms=(eM s.jr ks ks.length).ms from ha.one.Tl]
   unfold mS;rw[this];rfl
  rw[e];exact⟨ha.one.flush,rfl,ha.dn,rfl,rfl,hpre⟩
theorem fq.kill{n:Nat}(h:fq s n es cb jb)(hA:iG ks=true)(hwj:∀i,i<ks.length->8+(fK (s.ms.length+i+1) (gl ks i)).length<=wj)(hwc:∀i,i<ks.length->8+(bl (some (lT (gl ks i)))).length<=wc)(hn:n<800000000)(hfj:jb+wj*ks.length<=3780)(hfc:cb+wc*ks.length<=378\/cb+wc*ks.length<=189*gd s.d.n)(hl:ks.length<=20) :
 (∀p kc,Gn ⟨s,p,ks,kc⟩)/\ajH s (n+40*ks.length+2) (es++ks.map fun q=>some (lT q)) (cb+wc*ks.length) (jb+wj*ks.length) ks:=by
 have hK:∀i,i<ks.length->dB (gl ks i)=true:=fun i hi=>RO.1 hA (gl ks i) (by rw[b8 hi];exact List.getElem_mem _);have ha:=h.ajG hK hwj (by omega) hfj ks.length (cW _);obtain⟨j1,j2,j3,j4,j5,j6⟩:=aao h hA hwj (by omega) hfj hl;have hd:=j1.aiz hK hwc (by omega) (by rw[j3];exact hfc) ks.length (cW _);have ek:lV s ks=flS (uK (mS s ks) ks ks.length):=by
  unfold lV;rw[if_pos hA];unfold M9 oK;rw[if_pos hA];rfl
 have hms:(lV s ks).ms=(u9 s ks ks.length).ms:=by rw[ek];exact j2
 refine⟨fun p kc=>⟨by show ks.length<1000;omega,fun _ q h1 h2=>j6 q kc h1 h2,fun _ q h1=>⟨h1,by show ks.length<1000;omega,fun _=>⟨hd.ok,?_,?_⟩⟩⟩,?_⟩
 ·show(uK (mS s ks) ks ks.length).d.n<_;rw[hd.dn,j3];have:=h.dn;omega
 ·show(uK (mS s ks) ks ks.length).d.calls<_;obtain⟨cr,hf,_⟩:=hd.one.fl;have hc:=hf.one.log.calls;have:(uK (mS s ks) ks ks.length).d.calls<=n+20*ks.length+1+20*ks.length:=hc;omega
 ·have h1:=hd.one.flush;rw[zBd,show n+20*ks.length+1+20*ks.length+1=n+40*ks.length+2 by omega,<- ek]at h1;refine⟨h1,by rw[hms];exact ha.len,?_,fun j hj=>by rw[hms];exact ha.key j hj,by rw[ek];show(uK (mS s ks) ks ks.length).d.n=_;rw[hd.dn,j3],by rw[ek];exact⟨j4,j5⟩,by rw[ek];exact⟨fun _=>rfl,fun _ _=>rfl⟩⟩;have h2:=h1.seq;rw[hms,ha.len]at h2;have:(kU s.jr ks).ms=(u9 s ks ks.length).ms:=j2;rw[this,h2];push_cast;rfl
theorem fq.get{n:Nat}(h:fq s n es cb jb)(k:ByteArray):Z0 s.fl/\Kf s.fl k (gE es k):=by
 obtain⟨cr,hf,_⟩:=h.fl;exact⟨hf.one.has.amo,hf.one.has.jk k⟩
end Go.Proofs.YtfjgoonelcaggaaGreat
namespace Go.Sx
theorem iy.below{w w':World}(h:iy (fun _=>False) w w'):Go.RowKit.Below w.heap.size w w':=⟨h.os,h.tape,h.output,h.size,fun k hk=>h.block k hk id⟩
open Go.WideShapes Go.ChangeShapes in
theorem Qp{H:Type}{enc:TypeId×Value->H}{P:Program}{f:Func}{s:ChangeSpec}{apart fresh handsOn again:Bool}{W W':World}{args:Array Value}{v:Value}{ds gs:List (DataW H)}{pa:List MemPlace}
 (hW:DataW.Whole enc P f.params.toList s.vars apart W args.toList ds gs (pa++[]))
 (hres:∀(b:Nat) (sp:Nat->Bool) (hd:Bool),DataW.TrodAll enc P W' b sp hd f.resultTypes.toList (v.resultList f.resultTypes.size) (s.fn H (ds++gs)).results [])
 (hargs:∀sp:Nat->Bool,(∀p∈pa++[],sp p.block=true)->DataW.TrodAll enc P W' 0 sp true f.params.toList args.toList (s.fn H (ds++gs)).args pa)
 (hvars:∀sp:Nat->Bool,(∀p∈pa++[],sp p.block=true)->DataW.TrodVars enc P W' sp s.vars (s.fn H (ds++gs)).vars [])
 (hk:iy (fun _=>False) W W')
 (hok:∀(j:Nat) (t:TypeId) (r:Value),f.resultTypes[j]? = some t->(v.resultList f.resultTypes.size)[j]? = some r->Value.okWide P W' .any 0 t r) :
 s.post enc P f apart fresh handsOn again W args v W':=by
 have hl:=hW.lt;have hall:∀p∈pa++[],(fun _=>true:Nat->Bool) p.block=true:=fun _ _=>rfl;have hold:∀p∈pa++[],(fun b=>decide (b<W.heap.size)) p.block=true:=fun p hp=>zBg (hl p hp);have hmem:∀p,p∈([]++pa)++[]->p∈pa++[]:=fun p hp=>by simpa using hp
 refine⟨ds,gs,pa++[],[],pa,[],hW,hres _ _ _,hargs _ hold,hvars _ hold,World.keptBut_mono (may:=(·∈pa++[])) (fun p hp=>⟨hp,.inr (by simpa using hp)⟩) (hk.below.frame _),fun _=>?_⟩;obtain⟨_,_,_,_,_,hz,hn⟩:=hW;refine⟨hok,_,_,([]++pa)++[],⟨[]++pa,[],trodAll_append (hargs _ hall) (hres _ _ _),hvars _ hall,rfl,fun b off hp=>?_,fun ha=>by grind⟩,fun p hp _=>by simpa using hp⟩;rw[hk.frz _ (hl _ (hmem _ hp))];exact hz b off (hmem _ hp)
open Go.RowKit
def Kz(P:Program)(g:TypeId->Option (List CK)):List Field->Nat->Option (List CK)
 |[],_=>some []
 |f::r,o=>match g f.type,Kz P g r (o+P.cellsOf f.type)with
  |some ks,some l=>bif Nat.beq f.offset o&&Nat.beq ks.length (P.cellsOf f.type)then some (ks++l)else none
  |_,_=>none
def wC(dp:Bool)(P:Program):Nat->TypeId->Option (List CK)
 |0,_=>none
 |d+1,t=>match P.underlying t with
  |some (.slice _)=>bif dp then some [.deep]else none
  |some .bool=>some [.bool]
  |some (.int k)=>some [.int k]
  |some .string=>some [.str]
  |some (.struct fs)=>match Kz P (wC dp P d) fs.toList 0 with
   |some ks=>bif Nat.beq ks.length (P.cellsOf t)then some ks else none
   |none=>none
  |some (.array n e)=>match wC dp P d e with
   |some ks=>bif Nat.beq ks.length (P.cellsOf e)&&Nat.beq (n*ks.length) (P.cellsOf t)then some (rep n ks)else none
   |none=>none
  |_=>none
def amq(P:Program):Nat->TypeId->Option (List CK):=wC false P
structure Ch(ks:List CK)(cs:List Value):Prop where
 len:cs.length=ks.length
 ok:∀(j:Nat) (k:CK) (v:Value),ks[j]? = some k->cs[j]? = some v->k.ok v
theorem Ch.append{ks ls:List CK}{cs ds:List Value}(h:Ch ks cs)(g:Ch ls ds):Ch (ks++ls) (cs++ds):=by
 refine⟨by simp[h.len,g.len],fun j k v hk hv=>?_⟩;by_cases hj:j<ks.length
 ·rw[YM hj]at hk;rw[YM (by grind [h.len])]at hv;exact h.ok j k v hk hv
 ·rw[zAQ (by omega)]at hk;rw[zAQ (by rw[h.len];omega),h.len]at hv;exact g.ok _ k v hk hv
section
variable {H:Type} {enc:TypeId×Value->H} {P:Program} {w:World} {base:Nat} {spare:Nat->Bool} {held:Bool}
theorem Ni{g:TypeId->Option (List CK)}{n:Nat}{cs:List Value}
 (hg:∀t cs x ks,DataW.trod enc P w base spare held n t cs=some x->g t=some ks->Ch ks cs) :
 ∀(fs:List Field) (o:Nat) (ks:List CK),Kz P g fs o=some ks->(∀f∈fs,∃x,DataW.trod enc P w base spare held n f.type ((cs.drop f.offset).take (P.cellsOf f.type))=some x)->o+ks.length=cs.length->Ch ks (cs.drop o)
 |[],o,ks,h,_,hl=>by
  simp[Kz]at h;subst h;refine⟨by grind,fun j k v hk=>by simp at hk⟩
 |f::r,o,ks,h,hf,hl=>by
  simp only[Kz]at h;split at h
  ·rename_i k1 l1 e1 e2;cases hb:(Nat.beq f.offset o&&Nat.beq k1.length (P.cellsOf f.type))
   ·grind
   rw[hb]at h;simp only[iU,T2]at h;subst h;simp only[jB]at hb;have ho:=Nat.eq_of_beq_eq_true hb.1;have hk:=Nat.eq_of_beq_eq_true hb.2;obtain⟨x,hx⟩:=hf f List.mem_cons_self;rw[ho]at hx;have h1:=hg _ _ _ _ hx e1;have h2:=Ni hg r _ l1 e2 (fun f hf'=>hf f (CP _ hf')) (by grind);have e:cs.drop o=(cs.drop o).take (P.cellsOf f.type)++cs.drop (o+P.cellsOf f.type):=by
    rw[<- List.drop_drop,List.take_append_drop]
   rw[e];exact h1.append h2
  ·cases h
theorem aes{ks:List CK}{cs:List Value}:∀(n:Nat) (o:Nat),(∀i,i<n->Ch ks ((cs.drop (o+i*ks.length)).take ks.length))->o+n*ks.length=cs.length->Ch (rep n ks) (cs.drop o)
 |0,o,_,hl=>⟨by grind [rep],fun j k v hk=>by grind⟩
 |n+1,o,h,hl=>by
  have h1:=h 0 (by omega);have h2:=aes (ks:=ks) (cs:=cs) n (o+ks.length) (fun i hi=>by
   grind) (by grind)
  have e:cs.drop o=(cs.drop o).take ks.length++cs.drop (o+ks.length):=by
   rw[<- List.drop_drop,List.take_append_drop]
  grind [rep,Ch.append]
theorem Qq{dp:Bool}:∀(d n:Nat) (t:TypeId) (cs:List Value) (x:DataW H×List MemPlace) (ks:List CK),DataW.trod enc P w base spare held n t cs=some x->wC dp P d t=some ks->Ch ks cs
 |0,_,_,_,_,_,_,h=>by simp[wC]at h
 |d+1,n,t,cs,x,ks,hx,h=>by
  simp only[wC]at h;split at h
  ·rename_i e hu;cases dp with
   |false=>cases h
   |true =>
    simp only[iU,T2]at h;subst h;have one:∃v:Value,cs=[v]/\v.oneCell'=true:=by
     rcases DataW.trod_slice hu hx with⟨hv,_⟩ | ⟨a,len,cap,elems,rest,m,_,hv,_⟩<;>exact⟨_,hv,rfl⟩
    obtain⟨v,rfl,hv⟩:=one;refine⟨rfl,fun j k u hk hv'=>?_⟩;cases j with
    |zero=>simp at hk hv';subst hk hv';exact hv
    |succ j=>simp at hk
  ·rename_i hu;cases h;obtain⟨b,rfl,_⟩:=DataW.trod_bool hu hx;refine⟨rfl,fun j k v hk hv=>?_⟩;cases j with
   |zero=>simp at hk hv;subst hk hv;exact⟨b,rfl⟩
   |succ j=>simp at hk
  ·rename_i k hu;cases h;obtain⟨m,rfl,_,hw⟩:=DataW.trod_int hu hx;refine⟨rfl,fun j k' v hk hv=>?_⟩;cases j with
   |zero=>simp at hk hv;subst hk hv;exact⟨m,rfl,by grind [Xe,Lit.wf]⟩
   |succ j=>simp at hk
  ·rename_i hu;cases h;obtain⟨s,rfl,_,hs⟩:=DataW.trod_string hu hx;refine⟨rfl,fun j k' v hk hv=>?_⟩;cases j with
   |zero=>simp at hk hv;subst hk hv;exact⟨s,rfl,by grind [aB,maxLen]⟩
   |succ j=>simp at hk
  ·rename_i fs hu;obtain⟨xs,m,rfl,_,hl,hlen,hget⟩:=DataW.trod_struct hu hx;split at h
   ·rename_i ks' e;cases hb:Nat.beq ks'.length (P.cellsOf t)
    ·grind
    rw[hb]at h;cases h;have hb:=Nat.eq_of_beq_eq_true hb;have:=Ni (enc:=enc) (w:=w) (base:=base) (spare:=spare) (held:=held) (n:=m) (cs:=cs) (fun t cs x ks h1 h2=>Qq d m t cs x ks h1 h2) fs.toList 0 ks e (fun f hf=>by
     obtain⟨i,hi,e⟩:=List.getElem_of_mem hf;have hi':i<fs.size:=by simpa using hi
     have h1:=hget i f (by grind)
     grind) (by omega)
    grind
   ·cases h
  ·rename_i k e hu;obtain⟨xs,m,rfl,_,hl,hlen,hget⟩:=DataW.trod_array hu hx;split at h
   ·rename_i ks' e';cases hb:(Nat.beq ks'.length (P.cellsOf e)&&Nat.beq (k*ks'.length) (P.cellsOf t))
    ·grind
    rw[hb]at h;cases h;simp only[jB]at hb;have hb1:=Nat.eq_of_beq_eq_true hb.1;have hb2:=Nat.eq_of_beq_eq_true hb.2;have:=aes (ks:=ks') (cs:=cs) k 0 (fun i hi=>by
     have h1:=hget i hi;rw[IC (by omega)]at h1;rw[hb1,mA];exact Qq d m e _ _ _ h1 e') (by omega)
    grind
   ·cases h
  ·cases h
theorem KA{w:World}{base:Nat}{a:Addr}:∀ {n:Nat} {cs:List Value},w.cells? base a n=some cs->cs.length=n/\base<=a.block/\∀i,i<n->w.cell? (a.add i)=cs[i]?:=by
 intro n cs h;unfold World.cells? at h;split at h
 ·rename_i hb;have hl:=mapM_some_length h;refine⟨by simpa using hl,hb,fun i hi=>?_⟩;exact mapM_some_get h i i (by simp[hi])
 ·cases h
theorem Addr.ahs(a:Addr)(n:Nat)(h:a.spot=none):a.add n=⟨a.block,a.off+n,none⟩:=by
 unfold Addr.add;split
 ·subst_vars;cases a;simp_all
 grind
theorem Nj{dp:Bool}{t e:TypeId}{ks:List CK}{d fuel:Nat}{v:Value}{dd:DataW H}{ps:List MemPlace}(ht:P.underlying t=some (.slice e))(hf:wC dp P d e=some ks)(hk:ks.length=P.cellsOf e)(hk1:1<=ks.length)
 (h:DataW.trod enc P w 0 (fun _=>true) held fuel t [v]=some (dd,ps)) (hz:∀b off,MemPlace.cell b off∈ps->w.frozen? ⟨b,off,none⟩=false) :
 ∃(p:Place) (n cap:Nat) (rows:Nat->Nat->Value),n<=cap/\cap<=aB/\(∀i,i<n->∀(j:Nat) (k:CK),ks[j]? = some k->k.ok (rows i j))/\(∀b,p.fp b->b<w.heap.size) /\
  (∀(ρ:Env) (T:Nat),T<ρ.n->ρ.pl T=p->(A.slc T 0 ks.length n cap).cT ρ v)/\(∀(ρ:Env),(Chunk.arr e ks n rows).Sat ρ p w) /\
  ∀i,i<n->∃(m:Nat) (cs:List Value) (x:DataW H×List MemPlace),DataW.trod enc P w 0 (fun _=>true) held m e cs=some x/\(∀b off,MemPlace.cell b off∈x.2->w.frozen? ⟨b,off,none⟩=false)/\Ch ks cs/\∀j,j<ks.length->cs[j]? = some (rows i j):=by
 rcases DataW.trod_slice ht h with⟨hv,_⟩ | ⟨a,len,cap,elems,rest,m,rfl,hv,hx,_,hlc,hcm,hel,hget,hsp,_⟩
 ·cases hv;refine⟨AI,0,0,fun _ _=>undef,cW _,Az _,fun i hi=>absurd hi (uh _),fun b hb=>hb.elim,fun ρ T hT _=>⟨hT,cW _,Az _,.inl ⟨rfl,rfl,rfl⟩⟩,fun ρ=>.inl ⟨rfl,rfl,fun b hb=>hb⟩,fun i hi=>absurd hi (uh _)⟩
 ·cases hv;obtain⟨hr1,hr2⟩:=hsp rfl;by_cases hc0:cap=0
  ·subst hc0;have hl0:len=0:=by omega
   subst hl0;exact⟨⟨a.block,a.off,0,fun _=>False⟩,0,0,fun _ _=>undef,cW _,Az _,fun i hi=>absurd hi (uh _),fun b hb=>hb.elim,fun ρ T hT hp=>⟨hT,cW _,Az _,.inr ⟨a,rfl,fun h=>absurd rfl h⟩⟩,fun ρ=>.inl ⟨rfl,rfl,fun b hb=>hb⟩,fun i hi=>absurd hi (uh _)⟩
  have hspot:a.spot=none:=by
   have fin:∀(o:Option (DataW H×List MemPlace)),(∃x,o=some x)->(w.cells? 0 (a.add (0*P.cellsOf e)) (P.cellsOf e)).bind (DataW.trod enc P w 0 (fun _=>true) held m e)=o->a.spot=none:=by
    rintro o ⟨x,rfl⟩ ho;obtain⟨cs,hcs,hx⟩:=Option.bind_eq_some_iff.1 ho;obtain⟨h1,_,hc⟩:=KA hcs;have:=hc 0 (by omega);rw[zBt,show ∀a:Addr,(a.add 0).add 0=a from fun a=>rfl,IC (by omega)]at this;unfold World.cell? at this;split at this
    ·cases hsp:a.spot with
     |none=>rfl
     |some s=>grind
    ·cases this
   by_cases h1:0<len
   ·grind
   ·have:=hr2 0 (by omega)
    grind
  have row:∀i,i<cap->∃cs:List Value,(Ch ks cs/\∀j,j<ks.length->w.cell? ⟨a.block,a.off+i*ks.length+j,none⟩=cs[j]?)/\(i<len->∃x∈elems,DataW.trod enc P w 0 (fun _=>true) held m e cs=some x):=by
   intro i hi;have fin:∀(x:DataW H×List MemPlace),(w.cells? 0 (a.add (i*P.cellsOf e)) (P.cellsOf e)).bind (DataW.trod enc P w 0 (fun _=>true) held m e)=some x->∃cs:List Value,(Ch ks cs/\∀j,j<ks.length->w.cell? ⟨a.block,a.off+i*ks.length+j,none⟩=cs[j]?)/\DataW.trod enc P w 0 (fun _=>true) held m e cs=some x:=by
    intro x ho;obtain⟨cs,hcs,hx⟩:=Option.bind_eq_some_iff.1 ho;obtain⟨_,_,hc⟩:=KA hcs;refine⟨cs,⟨Qq d m e cs x ks hx hf,fun j hj=>?_⟩,hx⟩;have:=hc j (by omega);rw[Addr.ahs a _ hspot,Addr.add_plain,<- hk]at this;exact this
   by_cases h1:i<len
   ·obtain⟨cs,g1,g2⟩:=fin (elems[i]'(by omega)) ((hget i h1).trans (IC _));exact⟨cs,g1,fun _=>⟨_,List.getElem_mem _,g2⟩⟩
   ·have:=hr2 (i-len) (by omega)
    grind
  ·have hcell:∀i,i<cap->∀(j:Nat) (k:CK),ks[j]? = some k->∃v,w.cell? ⟨a.block,a.off+i*ks.length+j,none⟩=some v/\k.ok v:=by
    intro i hi j k hj;have hjl:j<ks.length:=(Cj.1 hj).1;obtain⟨cs,⟨h1,h2⟩,_⟩:=row i hi;have hlt:j<cs.length:=by rw[h1.len];exact hjl
    exact⟨cs[j],by grind,h1.ok j k _ hj (IC hlt)⟩
   have hblk:∃vs ty fr,w.heap[a.block]? = some (.cells vs ty fr):=by
    obtain⟨v,hv,_⟩:=hcell 0 (by omega) 0 (ks[0]'(by omega)) (IC _);unfold World.cell? at hv;split at hv
    ·grind
    ·cases hv
   obtain⟨vs,ty,fr,hb⟩:=hblk;have hget2:∀i,i<cap->∀(j:Nat) (k:CK),ks[j]? = some k->∃v,vs[a.off+i*ks.length+j]? = some v/\k.ok v:=by
    intro i hi j k hj;obtain⟨v,hv,hok⟩:=hcell i hi j k hj;rw[cell_of hb]at hv;exact⟨v,hv,hok⟩
   have hfit:a.off+cap*ks.length<=vs.size:=by
    obtain⟨v,hv,_⟩:=hget2 (cap-1) (by omega) (ks.length-1) (ks[ks.length-1]'(by omega)) (IC _);obtain⟨hlt,_⟩:=zBF.1 hv;have:(cap-1)*ks.length+ks.length=cap*ks.length:=by
     rw[<- Nat.succ_mul];congr 1;omega
    omega
   have hblt:a.block<w.heap.size:=by
    obtain⟨hlt,_⟩:=zBF.1 hb;exact hlt
   refine⟨⟨a.block,a.off,cap,fun b=>b=a.block⟩,len,cap,fun i j=>vs[a.off+i*ks.length+j]?.getD undef,hlc,by grind [aB,maxLen],fun i hi j k hj=>?_,fun b hb=>by omega,fun ρ T hT hp=>⟨hT,hlc,by grind [aB,maxLen],.inr ⟨a,rfl,fun _=>⟨by rw[hp];cases a;grind,by rw[hp];simp⟩⟩⟩,fun ρ=>.inr ⟨vs,ty,fr,hb,hfit,hlc,fun o h1 h2=>?_,fun _=>Iff.rfl,fun i hi j k hj=>?_⟩,fun i hi=>?_⟩
   ·obtain⟨v,hv,hok⟩:=hget2 i (by omega) j k hj
    grind
   ·have hmem:MemPlace.cell a.block o∈ps:=by
     have e:ps=MemPlace.row a ((elems.length+rest.length)*P.cellsOf e)++(elems++rest).flatMap (·.2):=tJ Prod.snd hx;rw[e];refine CQ _ (kj.2 ⟨o-a.off,?_,?_⟩)
     ·grind
     ·grind
    have:=hz _ _ hmem;simp only[World.frozen?,hb]at this
    grind
   ·obtain⟨v,hv,hok⟩:=hget2 i (by omega) j k hj
    grind
   ·obtain⟨cs,⟨g1,g2⟩,g3⟩:=row i (by omega);obtain⟨x,hxm,hxt⟩:=g3 hi;refine⟨m,cs,x,hxt,fun b off hm=>hz b off ?_,g1,fun j hj=>?_⟩
    ·grind
    ·have h2:=g2 j hj;rw[cell_of hb]at h2;have hlt:j<cs.length:=by rw[g1.len];exact hj
     grind
theorem aht{Y:Gx}(hY:Y.Ok){C:cB}{ch:C.α->k9}(hch:∀a,Sb Y.G.X (ch a)){lh:C.α->Nat->LH}{f:Nat}(hb:Ee Y C ch lh f)(a:C.α)(hp:C.pre a)(hhp:C.hp a=[])(hres:∀o,C.res a o = .a .tt){w:World}{ρ:Env}{vs:List Value}
 (hn:ρ.n=C.m) (hh:ak w (fun _=>False) ρ (EV (C.ro a)) w) (hargs:ko ρ (C.args a) vs):Calls Y.G.X.P f vs.toArray w fun e w'=>e = .returned (.bool true)/\iy (fun _=>False) w w':=by
 refine(Ec hY (hch a) (hb a hp) w (fun _=>False) ρ w vs hn ?_ hargs).mono ?_
 ·show ak w (fun _=>False) ρ (ql (C.hp a)++EV (C.ro a)) w;rw[hhp];exact hh
 ·rintro e w' ⟨v,rfl,sv,s',ρ',hK,_,_,_,_,hrep,hh'⟩;refine⟨?_,hh'.keeps⟩;obtain⟨o,hK⟩:=hK;obtain⟨τ,_,_,hw,q⟩:=yf hK (Wf.nil _ _);have:=q ρ' (lu ρ' τ C.m') v (qP hw) hrep;rw[hres o]at this;rw[show v = .bool true from this]
theorem HC:∀ {ts:List TypeId} {vs:List Value} {ds:List (DataW H)} {ps:List MemPlace},DataW.TrodAll enc P w base spare held ts vs ds ps->ds.length=ts.length
 |[],[],[],_,_=>rfl
 |_::_,_::_,_::_,_,⟨_,_,_,h,_⟩=>by simp[HC h]
 |[],[],_::_,_,h=>h.elim
 |[],_::_,_,_,h=>h.elim
 |_::_,[],_,_,h=>h.elim
 |_::_,_::_,[],_,h=>h.elim
theorem CG(hl:laidOutB P=true){W W':World}(hk:iy (fun _=>False) W W'){sp:Nat->Bool}:∀ {ts:List TypeId} {vs:List Value} {ds:List (DataW H)} {ps:List MemPlace},(∀t∈ts,P.readableRec t=true/\t<P.types.size) ->
 DataW.TrodAll enc P W 0 (fun _=>true) true ts vs ds ps->(∀p∈ps,p.block<W.heap.size/\sp p.block=true)->DataW.TrodAll enc P W' 0 sp true ts vs ds ps
 |[],[],[],_,_,h,_=>h
 |t::ts,v::vs,d::ds,ps,ht,⟨p1,p2,h1,h2,e⟩,hp=>by
  subst e;have hb:Below W.heap.size W W':=⟨hk.os,hk.tape,hk.output,hk.size,fun b hb=>hk.block b hb id⟩
  obtain⟨a1,a2⟩:=ht t List.mem_cons_self;exact⟨p1,p2,WideElems.Trod_stays hl a1 a2 h1 (fun x hx=>hb.same (hp x (CQ _ hx)).1) (fun x hx=>(hp x (CQ _ hx)).2),
   CG hl hk (fun t h=>ht t (CP _ h)) h2 fun x hx=>hp x (LQ _ hx),rfl⟩
 |[],[],_::_,_,_,h,_=>h.elim
 |[],_::_,_,_,_,h,_=>h.elim
 |_::_,[],_,_,_,h,_=>h.elim
 |_::_,_::_,[],_,_,h,_=>h.elim
end
end Go.Sx
namespace Go.Proofs.YtfjgoonelcaggaaGreat
open Go.Sx
def mL(m:r9):r9:=PG { kT m [2]with l:=[] }
structure Nk where
 m:r9
 p:yH
def Wd:cB where
 α:=Nk
 β:=yH
 m:=7
 m':=10
 pre:=fun a=>mK a.m a.p/\Aw a.m 1/\(kT a.m [2]).d.n<100000/\(kT a.m [2]).d.calls<1000000000000
 args:=fun _=>[.a (.ptr 0 0 0 0)]
 hp:=fun a=>Md 0 1 2 3 4 5 6 a.m a.p
 post:=fun a b=>mK (mL a.m) b/\Av a.p b
 res:=fun _ _=>.a (.lit .i64 0)
 eV:=fun a b=>Md 0 1 2 3 7 8 9 (mL a.m) b
def KB(x:Nk):=mK x.m x.p/\Aw x.m 1/\nE (kT x.m [(2:Int)]).d
theorem aap:fnBody (Y Tryz.prog) [(121,adD),(178,X9),(169,nC)] 142 Wd fun _=>[]:=fnBody.of (p :=
 ∀z:Nk,KB z->Exists (Kb 1 1 z.m z.p (aV 1 (kq 2)) fun v w=>Exists (aD (cZ (oE (kT v.m v.body).d fun s=>∃u:yH,aJ (w.H=u.H/\aM (cK (kT v.m v.body).L (mL z.m).L w.y u.y (iZ (jq s) (mL z.m).d (Ki u.x u.cap ((mK (mL z.m) u/\Av z.p u)/\True)))))))))) (by kernel_rfl) (by
 delta aj aA az aM p5 aP ag dh cK oJ aJ nE ah aS aD kq iR Ki ax Kb oE cZ KB dc
 try dsimp -iota -proj only
 rintro⟨m,p⟩ ⟨hat,hok,hw1,hw2⟩;have hr:af 1 1 (aV 1 [Value.int .u8 2]) (aa dA [2]):=.fN fun i hi=>by
  have:i=0:=by omega
  subst this;rfl
 have h0:Aw m ([2]:List Int).length:=hok;have h1:1<=([2]:List Int).length:=by decide
 have h2:([2]:List Int).length<=300:=by decide
 refine⟨J9.mk m p [2] 1,?_⟩
 and_intros<;>first|exact cU|exact hat|exact h0|exact h1|exact h2|exact hr|(intro h_;revert h_)|omega|grind [af.refl]|rfl|grind|grind|(dsimp only;omega)|skip
 rintro p2 ⟨hat2,hf2⟩;have e:kT (J9.mk m p [2] 1).m (J9.mk m p [2] 1).body=kT m [2]:=rfl;refine⟨(),trivial,fun _ _=>⟨(kT m [2]).d,?_⟩⟩
 and_intros<;>first|exact cU|exact hw1|exact hw2|(intro h_;revert h_)|omega|grind [af.refl]|rfl|grind|grind|(dsimp only;omega)|skip
 intro _ _;have h3:mK (mL m) ⟨p2.H,p2.y,Ix.cS 16,16⟩:=⟨hat2.log,Ix.B3 (by omega) (by omega)⟩
 have h4:Av p ⟨p2.H,p2.y,Ix.cS 16,16⟩:=hf2;refine⟨⟨p2.H,p2.y,Ix.cS 16,16⟩,?_⟩
 and_intros<;>first|exact cU|exact h3|exact h4|exact kL|skip)
theorem Nl:av (Y Tryz.prog).G.X 142 Wd:=bp gf aap ⟨PC,S0,lR,trivial⟩
variable{es:List (Option aW)}{rs:List RecM}
theorem aaq{p:Int}(hl:es.length=rs.length)(h:∀i,i<es.length->(gl rs i).body=bl (gl es i)/\∀x,gl es i=some x->jJ x=true) :
 (es++[none]).length=(rs++[(⟨p,[2]⟩:RecM)]).length/\∀i,i<(es++[none]).length->(gl (rs++[(⟨p,[2]⟩:RecM)]) i).body=bl (gl (es++[none]) i)/\∀z,gl (es++[none]) i=some z->jJ z=true:=by
 refine⟨by simp[hl],fun i hi=>?_⟩;rw[wM,ID]at hi;rw[jQ hi,jQ (by omega),hl];by_cases hin:i<rs.length
 ·grind
 ·rw[if_neg hin,if_neg hin];exact⟨rfl,fun z e=>by cases e⟩
theorem qb.ajI{m:r9}{n:Nat}(h:qb m n rs es)(hn:m.L.next<9999999999)(hfit:2*((gX rs).length+8+1)<=379*m.L.au) :
 qb (mL m) (n+21) (rs++[⟨m.L.next,[2]⟩]) (es++[none])/\(mL m).L.next=m.L.next+1/\(mL m).L.au=m.L.au/\(mL m).L.from_=m.L.from_:=by
 obtain⟨h1,h2,h3,h4,h5⟩:=h.one.add (body:=[2]) (by decide) hn hfit;obtain⟨b1,b2⟩:=aaq (p:=m.L.next) h.len h.body;refine⟨⟨⟨h1.flush,?_,Az _⟩,b1,b2⟩,h2,h4,h5⟩;rw[zG];exact⟨h1.flush.rd,fun e he=>(by cases he),fun k hk=>absurd rfl hk⟩
def DH(s:pY):pY:={ s with d:=(mL s.fl).d,cL:=(mL s.fl).L,cl:=(mL s.fl).l }
theorem fq.ajI{s:pY}{n:Nat}{es:List (Option aW)}{cb jb:Nat}(h:fq s n es cb jb)(hn:n<900000000)(hfit:cb+9<=378\/cb+9<=189*gd s.d.n) :
 fq (DH s) (n+21) (es++[none]) (cb+9) jb/\Aw s.fl 1/\(kT s.fl [2]).d.n<100000/\(kT s.fl [2]).d.calls<1000000000000:=by
 obtain⟨cr,hf,hb⟩:=h.fl;have hnx:=h.nx;have hnx1:s.fl.L.next<=n:=hnx.1
 have hsl:s.fl.L.au=gd s.d.n:=h.Yj.2.1;obtain⟨q1,q2,_⟩:=xu h.dn.1;obtain⟨f1,f2,f3,f4⟩:=hf.ajI (by omega) (by omega);obtain⟨g1,g2,g3,g4⟩:=h.Yj;obtain⟨s1,s2,s3⟩:=xu h.dn.1;have hdn:(mL s.fl).d.n=s.d.n:=zH _ _ _;have hcl:(mL s.fl).d.calls<=n+21:=f1.one.log.calls;have hcl2:(mL s.fl).d.calls=(kT s.fl [2]).d.calls+1:=rfl;have hdd:=h.dn;have hout:∀r,r<162->∀j,(mL s.fl).d.now r j=s.d.now r j:=fun r hr j=>by
  have e:(mL s.fl).d.now r j=(sN s.cL s.d [2]).now r j:=rfl
  grind [Ky]
 refine⟨⟨⟨_,f1,by grind [tG,gX]⟩,h.jl.dev' (fun r _ h2 j _=>hout r (by omega) j) hdn hcl,h.jb,h.ms,?_,⟨f4.trans g1,?_,g3,g4⟩,?_,h.keep.dev' fun r hr j _=>hout r (by omega) j,h.bP⟩,hf.one.ok (by omega) (by omega),?_,by omega⟩
 ·have e:(DH s).cL.next=s.cL.next+1:=f2
  refine⟨by omega,?_,?_⟩
  ·show s.jL.next<=_;omega
  ·show s.k.s.fW<=_;omega
 ·show(mL s.fl).L.au=gd (mL s.fl).d.n
  grind
 ·show 192<=(mL s.fl).d.n/\(mL s.fl).d.n<3000;omega
 ·have e:(kT s.fl [2]).d.n=s.d.n:=zH _ _ _;rw[e];omega
theorem ahu(es:List (Option aW))(k:ByteArray):gE (es++[none]) k=none:=by rw[zG];rfl
def Tm(s:pY)(m:MetaM):pY:={ s with d:=ga s.k s.d m,k:=pI s.k m }
theorem fq.save{s:pY}{n:Nat}{es:List (Option aW)}{cb jb:Nat}(h:fq s n es cb jb){m:MetaM}(hs:kA s.k m=true)(hb:m.bP=s.bP)(hn:n<800000000) :
 fq (Tm s m) (n+2) es cb jb/\(Tm s m).k.m=m/\(Tm s m).d.n=s.d.n/\(Tm s m).d.calls=s.d.calls+2:=by
 have hnx:=h.nx;obtain⟨k1,k2,k3,k4,k5,k6⟩:=h.keep.save hs (by omega);obtain⟨cr,hf,hcb⟩:=h.fl;obtain⟨g1,g2,g3,g4⟩:=h.Yj;have hcl:s.d.calls<=n:=hf.one.log.calls;have hcl2:(Tm s m).d.calls<=n+2:=by show(ga s.k s.d m).calls<=_;rw[k5];omega
 refine⟨⟨⟨cr,hf.dev' (fun r h1 _ j _=>k6 r (by omega) j) k4 hcl2,hcb⟩,h.jl.dev' (fun r h1 _ j _=>k6 r (by omega) j) k4 hcl2,h.jb,h.ms,?_,⟨g1,?_,g3,g4⟩,?_,k1,?_⟩,k2,k4,k5⟩
 ·refine⟨?_,?_,?_⟩
  ·show s.cL.next<=_;omega
  ·show s.jL.next<=_;omega
  ·show(pI s.k m).s.fW<=_;omega
 ·show s.cL.au=gd (ga s.k s.d m).n
  grind
 ·show 192<=(ga s.k s.d m).n/\(ga s.k s.d m).n<3000
  grind [h.dn]
 ·show s.bP=(pI s.k m).m.bP;rw[k2,hb]
structure kM where
 id:Int
 blk:Nat
 key:ByteArray
 good:Bool
 born:Nat
 deriving Inhabited
structure nL where
 last:Int
 l:List kM
 fM:Nat
def kM.enc(e:kM):jC:=⟨e.id,pv e.blk 0,e.born⟩
def Mg(mb:Nat)(t:nL):Chunk:=.obj 197 [.int .i64 t.last,.val (.map (some mb))]
def CH(mb:Nat)(t:nL):Chunk:=.abs (qN mb .i64 (t.l.map kM.enc) t.fM)
structure jt(H:PH)(t:nL):Prop where
 at_:∀e∈t.l,H e.blk=some (0,[.string e.key,.bool e.good])/\e.key.size<=aB
 blk:(t.l.map (·.blk)).Nodup
 id:∀e∈t.l,1<=e.id/\e.id<=t.last/\e.born<t.fM
 ids:(t.l.map (·.id)).Nodup
 born:(t.l.map (·.born)).Nodup
 last:0<=t.last/\t.last<=1099511627776
variable{H:PH}{f:ByteArray->Bool}{t:nL}{y:kM}
theorem jt.ok(h:jt H t):LOk .i64 (t.l.map kM.enc) t.fM:=⟨fun e he=>by
 obtain⟨x,hx,rfl⟩:=kj.1 he;obtain⟨a1,a2,a3⟩:=h.id x hx;have:=h.last;exact⟨rfl,a3,by simp only[kM.enc,bZ];omega⟩,by rw[T4];exact h.born⟩
structure Gp where
 mb:Nat
 t:nL
 H:PH
 key:ByteArray
def va(t:nL)(key:ByteArray)(b:Nat):nL:=⟨t.last+1,t.l++[⟨t.last+1,b,key,true,t.fM⟩],t.fM+1⟩
def We:cB where
 α:=Gp
 β:=Nat
 m:=3
 m':=4
 pre:=fun a=>jt a.H a.t/\a.t.last<1099511627776/\a.key.size<=aB
 args:=fun a=>[.a (.ptr 0 0 0 0),.a (.str a.key)]
 hp:=fun a=>[(0,Mg a.mb a.t),(1,CH a.mb a.t),(2,.dg a.H)]
 post:=fun a b=>a.H b=none
 res:=fun a _=>.a (.int .i64 (a.t.last+1))
 eV:=fun a b=>[(0,Mg a.mb (va a.t a.key b)),(1,CH a.mb (va a.t a.key b)),(3,.dg (bB a.H b 0 [.string a.key,.bool true]))]
theorem ajJ{l:List jC}{n:Int}(h:∀e∈l,e.key≠n):I2 l n=false:=by
 grind [I2]
theorem aet(n:Int)(u:Value)(fM:Nat):∀l:List jC,(∀e∈l,e.key≠n)->I1 n u fM l=l++[⟨n,u,fM⟩]
 |[],_=>rfl
 |e::r,h=>by
  unfold I1;rw[if_neg (h e List.mem_cons_self),aet n u fM r fun x hx=>h x (CP _ hx)];rfl
def dY(y:Nat)(x:nL):Sx.Place->Go.World->Prop:=qN y .i64 (List.map kM.enc x.l) x.fM
def fL(x y:Option Nat):=Value.map x=Value.map y
def eE(x:Option Nat):=fL x x
def fh(x y:Nat):=fL (some x) (some y)
def uL(v w:Nat)(s:nL)(u:IntKind)(t:Nat->List jC->Nat->Prop):=∃x:Nat,∃y:List jC,∃z:Nat,fh v x/\dY w s=qN x u y z/\LOk u y z/\t x y z
def KC(x:Gp)(y:Nat):PH:=bB x.H y 0 (ia (bR x.key) (cF true) [])
def Wg(z:Prop)(u:Sx.Place->Go.World->Prop)(x:Gp)(v:PH)(w:Int):=∃y:Nat,z/\u=dY x.mb (va x.t x.key y)/\v=KC x y/\w=(va x.t x.key y).last/\eE (some x.mb)/\x.H y=none/\True
theorem aar:fnBody (Y Tryz.prog) [] 137 We fun _=>[]:=fnBody.of (p :=
 ∀x:Gp,jt x.H x.t/\x.t.last<(1099511627776:Int)/\aT x.key<=aB->ai x.t.last->aK (bF 1099511627776 x.t.last) (Wg ((0:Int)=x.t.last+(1:Int)) (dY x.mb x.t) x x.H x.t.last) (oG x.t.last 1 (fe x.t.last->aT x.key<=aB->∀y:Nat,x.H y=none->uL x.mb x.mb x.t .i64 fun v u z=>aq (bif bif Nat.beq 0 1 then true else bif Nat.beq 0 1 then true else false then false else true)/\(fe x.t.last->Wg (az (x.t.last+(1:Int))) (qN v .i64 (I1 (x.t.last+(1:Int)) (pv y 0) z u) (bif I2 u (x.t.last+(1:Int))then z else z+1)) x (KC x y) (x.t.last+(1:Int)))))) (by kernel_rfl) (by
 delta aK ai dY az eE ia fL aU aT aq bR bF uL cF fh oG KC Wg fe
 try dsimp -iota -proj only
 rintro⟨mb,t,H,key⟩ ⟨h1,h2,h3⟩ _;dsimp only at *;have hno:∀e∈t.l.map kM.enc,e.key≠t.last+1:=fun e he=>by
  obtain⟨x,hx,rfl⟩:=kj.1 he;have:=h1.id x hx;simp only[kM.enc];omega
 have hl:=h1.last;have hok:=h1.ok;refine⟨fun c=>by grind,fun _ _=>⟨by simp only[bZ];omega,fun _ _ b hb=>⟨mb,t.l.map kM.enc,t.fM,rfl,rfl,hok,rfl,fun _=>⟨b,?_⟩⟩⟩⟩;have e:qN mb .i64 (I1 (t.last+1) (pv b 0) t.fM (t.l.map kM.enc)) (bif I2 (t.l.map kM.enc) (t.last+1)then t.fM else t.fM+1)=qN mb .i64 ((va t key b).l.map kM.enc) (va t key b).fM:=by
  rw[aet _ _ _ _ hno,ajJ hno];unfold va;rw[T3];rfl
 and_intros<;>first|exact cU|exact e|exact hb|exact kL|skip)
theorem aas:av (Y Tryz.prog).G.X 137 We:=bp gf aar trivial
structure EF where
 mb:Nat
 t:nL
 H:PH
 id:Int
def oe(t:nL)(id:Int):Option kM:=t.l.find? fun e=>e.id == id
def qC(t:nL)(id:Int):nL:={ t with l:=t.l.filter fun e=>!(e.id == id) }
def aeu:cB where
 α:=EF
 m:=3
 m':=3
 pre:=fun a=>jt a.H a.t/\bZ .i64 a.id
 args:=fun a=>[.a (.ptr 0 0 0 0),.a (.int .i64 a.id)]
 hp:=fun a=>[(0,Mg a.mb a.t),(1,CH a.mb a.t)]
 ro:=fun a=>[(2,.dg a.H)]
 res:=fun a _=>.nR [.a (.str (match oe a.t a.id with|some e=>e.key|none=>ByteArray.mk #[])),.a (.bool (match oe a.t a.id with|some e=>e.good|none=>false))]
 eV:=fun a _=>[(0,Mg a.mb (qC a.t a.id)),(1,CH a.mb (qC a.t a.id))]
theorem Tn(id:Int):∀l:List kM,getM (l.map kM.enc) id=(l.find? fun e=>e.id == id).map fun e=>pv e.blk 0
 |[]=>rfl
 |e::r=>by
  have ih:=Tn id r;unfold getM at ih ⊢;rw[LS,zBS,zBS];show Option.map _ (match e.id == id with|true=>_|false=>_)=_;cases e.id == id with
  |true=>rfl
  |false=>exact ih
theorem KD(id:Int):∀l:List kM,(l.map (·.id)).Nodup->I3 id (l.map kM.enc)=(l.filter fun e=>!(e.id == id)).map kM.enc
 |[],_=>rfl
 |e::r,h=>by
  rw[LS,zBT]at h;rw[LS];unfold I3;by_cases he:e.id=id
  ·have hr:r.filter (fun e=>!(e.id == id))=r:=List.filter_eq_self.2 fun x hx=>by
    grind
   rw[if_pos (show(kM.enc e).key=id from he),List.filter_cons,show(!(e.id == id))=false by simp[he],if_neg (by decide),hr]
  ·rw[if_neg (show ¬(kM.enc e).key=id from he),List.filter_cons,show(!(e.id == id))=true by simp[he],if_pos rfl,LS,KD id r h.2]
def Qr(z:ByteArray)(x:EF)(u:Bool)(v:Sx.Place->Go.World->Prop):=Exists (aD ((z=match oe x.t x.id with|some y=>y.key|none=>dx)/\(u=match oe x.t x.id with|some y=>y.good|none=>false)/\v=dY x.mb (qC x.t x.id)/\x.t.last=(qC x.t x.id).last/\bA (eE (some x.mb))))
def Gq(y:Option Nat)(z u:Prop):Option Nat->Prop:=fun(x:Option Nat)=>fL y x/\(x=none->z)/\(x≠none->u)
theorem aev:fnBody (Y Tryz.prog) [] 72 aeu fun _=>[]:=fnBody.of (p :=
 ∀x:EF,jt x.H x.t/\ai x.id->Exists (Gq (some x.mb) (Qr dx x false (dY x.mb x.t)) (uL x.mb x.mb x.t .i64 fun k f l=>(∃v:Option Go.Addr,L0 (getM f x.id)=Value.pointer v)/\aK (R4 (L0 (getM f x.id))) (Qr dx x false (dY x.mb x.t)) (Exists (Gq (some x.mb) (uL x.mb x.mb x.t .i64 fun v w g=>aO true/\False) (uL x.mb x.mb x.t .i64 fun v w g=>uL x.mb x.mb x.t .i64 fun h i j=>aO true/\Exists (nZ (L0 (getM w x.id)) 0 (fun y=>x.H y) (fun y=>∃u:ByteArray,y=bR u/\aT u<=aB) fun y u=>Exists (nZ (L0 (getM w x.id)) 1 (fun z=>x.H z) (fun z=>∃s:Bool,z=cF s) fun z s=>Qr (LM (aL u y)) x (HO (aL s z)) (qN h .i64 (I3 x.id i) j))))))))) (by kernel_rfl) (by
 delta aK aL aO ai dY nZ eE nY fL aU dx aT aq bR uL Qr cF aD fh bA Gq
 try dsimp -iota -proj only
 rintro⟨mb,t,H,id⟩ ⟨h1,h2⟩;dsimp only at *;have hok:=h1.ok;have hg:=Tn id t.l;have hd:=KD id t.l h1.ids;refine⟨some mb,rfl,fun c=>(by cases c),fun _=>⟨mb,t.l.map kM.enc,t.fM,rfl,rfl,hok,?_⟩⟩;cases hf:t.l.find? (fun e=>e.id == id)with
 |none =>
  have hff:oe t id=none:=hf;have hu:qC t id=t:=by
   have:t.l.filter (fun e=>!(e.id == id))=t.l:=List.filter_eq_self.2 fun x hx=>by
    grind
   unfold qC;rw[this]
  have hgv:L0 (getM (t.l.map kM.enc) id) = .pointer none:=by rw[hg,hf];rfl
  refine⟨⟨none,hgv⟩,fun _=>⟨(),?_⟩,fun c=>(by rw[hgv]at c;cases c)⟩
  grind
 |some e =>
  have hff:oe t id=some e:=hf;have he:e∈t.l:=List.mem_of_find?_eq_some hf;obtain⟨a1,a2⟩:=h1.at_ e he;have hgv:L0 (getM (t.l.map kM.enc) id)=pv e.blk 0:=by rw[hg,hf];rfl
  refine⟨⟨_,hgv⟩,fun c=>(by rw[hgv]at c;cases c),fun _=>⟨some mb,rfl,fun c=>(by cases c),fun _=>⟨mb,t.l.map kM.enc,t.fM,rfl,rfl,hok,mb,t.l.map kM.enc,t.fM,rfl,rfl,hok,rfl,e.blk,0,hgv,e.blk,0,rfl,e.blk,0,0,[.string e.key,.bool e.good],rfl,a1,⟨⟨_,rfl,_,rfl,a2⟩,trivial⟩,e.blk,0,hgv,e.blk,0,rfl,e.blk,0,1,[.string e.key,.bool e.good],rfl,a1,⟨⟨_,rfl,_,rfl⟩,trivial⟩,(),?_⟩⟩⟩;rw[hff];have e2:qN mb .i64 (I3 id (t.l.map kM.enc)) t.fM=qN mb .i64 ((qC t id).l.map kM.enc) (qC t id).fM:=by rw[hd];rfl
  and_intros<;>first|exact cU|exact e2|exact kL|skip)
theorem aew:av (Y Tryz.prog).G.X 72 aeu:=bp gf aev trivial
structure To where
 ks:List ByteArray
 cap:Nat
 key:ByteArray
def hasB(ks:List ByteArray)(k:ByteArray):Bool:=ks.any fun q=>decide (k=q)
def aex:cB where
 α:=To
 m:=1
 m':=1
 pre:=fun a=>a.ks.length<100000
 args:=fun a=>[.a (.slc 0 0 1 a.ks.length a.cap),.a (.str a.key)]
 ro:=fun a=>[(0,.arr 9 [.str] a.ks.length (aa ic a.ks))]
 res:=fun a _=>.a (.bool (hasB a.ks a.key))
def alb(a:To):An:=.flat 2 Nat (fun s i=>s.int 8 i) (fun _ i=>i<=a.ks.length/\∀j,j<i->a.key≠gl a.ks j) (fun _ i=>a.ks.length-i)
theorem aey:fnBody (Y Tryz.prog) [] 133 aex fun a=>[(181,[alb a],[])]:=fnBody.of (p :=
 ∀x:To,aF x.ks<100000->(∃y:Nat,aS y (A9 (aF x.ks) x.cap (x.key=x.key/\eO x.ks/\(y<=aF x.ks/\∀z:Nat,z<y->x.key≠gl x.ks z)/\True)))/\∀y:Nat,mZ y (aF x.ks) (∀z:Nat,z<y->x.key≠gl x.ks z) (aK (fc x.key (iC x.ks y)) (Exists (bN (bF 0 (ag y)=hasB x.ks x.key))) (bQ y fun z=>A9 (aF x.ks) x.cap (x.key=x.key/\eO x.ks/\dG z (aF x.ks) (∀u:Nat,u<z->x.key≠gl x.ks u) y))) (l6 (hasB x.ks x.key))) (by kernel_rfl) (by
 delta cE aK cR aQ ai aA aG aN aF bK aU gI bI bN aZ ag eO dG aq bQ bF aC aS aI aD mZ fc aY bA bS l6 iC A9 bw bM
 try dsimp -iota -proj only
 rintro⟨ks,cap,key⟩ h;dsimp only at *;have h0:∀j,j<0->key≠gl ks j:=fun j hj=>absurd hj (uh j);refine⟨⟨0,?_⟩,fun i ⟨hi,hall⟩=>?_⟩
 ·grind [af.refl]
 rw[show 0+(i:Int).toNat=i by omega];refine⟨fun c1=>?_,fun c1=>⟨(),?_,trivial,trivial⟩⟩
 ·have hlt:i<ks.length:=by have:=qi c1;omega
  refine⟨⟨by omega,by omega⟩,hlt,fun c2=>⟨(),?_,trivial,trivial⟩,fun c2=>⟨by simp only[bZ];omega,i+1,?_⟩⟩
  ·grind [hasB,b8]
  grind [af.refl]
 ·have hn:¬i<ks.length:=by have:=ug c1;omega
  grind [hasB,List.getElem_of_mem,b8])
theorem aez:av (Y Tryz.prog).G.X 133 aex:=bp gf aey trivial
structure KE where
 mb:Nat
 t:nL
 H:PH
 ks:List ByteArray
 cap:Nat
def jZ(t:nL)(f:ByteArray->Bool):nL:={ t with l:=t.l.map fun e=>{ e with good:=e.good&&!f e.key } }
structure Tp where
 seen:List Nat
 H:PH
 n:Int
variable{x:Tp}
def RL(t:nL)(seen:List Nat):Nat:=(t.l.filter fun e=>!decide (e.born∈seen)).length
structure Ym(t:nL)(H:PH)(f:ByteArray->Bool)(x:Tp):Prop where
 old:∀z,z∉t.l.map (·.blk)->x.H z=H z
 at_:∀e∈t.l,x.H e.blk=some (0,[.string e.key,.bool (e.good&&!(decide (e.born∈x.seen)&&f e.key))])
 n:0<=x.n/\x.n+(RL t x.seen:Nat)<=(t.l.length:Nat)
theorem Yn{seen:List Nat}(hy:y∈t.l)(hn:y.born∉seen):RL t (seen++[y.born])<RL t seen :=
 Go.filter_lt (fun e:kM=>!decide (e.born∈seen)) (fun e=>!decide (e.born∈seen++[y.born])) (fun x hx=>by
  grind) y (by simpa using hn) (by simp) t.l hy
theorem KF{α β:Type}{f:α->β}{l:List α}(h:(l.map f).Nodup){a b:α}(ha:a∈l)(hb:b∈l)(e:f a=f b):a=b:=by
 induction l with
 |nil=>cases ha
 |cons x r ih =>
  grind
theorem Ym.skip(h:Ym t H f x)(ht:jt H t)(hy:y∈t.l)(hn:y.born∉x.seen)(hf:(y.good&&f y.key)=false):Ym t H f ⟨x.seen++[y.born],x.H,x.n⟩:=by
 refine⟨h.old,fun e he=>?_,h.n.1,?_⟩
 ·rw[h.at_ e he];by_cases hb:e.born=y.born
  ·obtain rfl:=KF ht.born he hy hb;have e1:decide (e.born∈x.seen)=false:=Ml hn;have e2:decide (e.born∈x.seen++[e.born])=true:=zBg (by simp);rw[e1,e2]
   revert hf
   cases e.good<;>cases f e.key<;>simp
  grind
 ·have:=Yn hy hn;have:=h.n.2
  grind
theorem Ym.hit(h:Ym t H f x)(ht:jt H t)(hy:y∈t.l)(hn:y.born∉x.seen)(hf:f y.key=true):Ym t H f ⟨x.seen++[y.born],bB x.H y.blk 0 [.string y.key,.bool false],x.n+1⟩:=by
 refine⟨fun z hz=>?_,fun e he=>?_,by have:=h.n.1;grind,?_⟩
 ·have:z≠y.blk:=fun e=>hz (kj.2 ⟨y,hy,e.symm⟩);show bB x.H y.blk 0 _ z=H z;rw[dM this];exact h.old z hz
 ·show bB x.H y.blk 0 _ e.blk=_;by_cases hb:e.blk=y.blk
  ·grind [KF,ht.blk,fJ]
  ·have hb2:e.born≠y.born:=fun e3=>hb (by rw[KF ht.born he hy e3]);have e1:decide (e.born∈x.seen++[y.born])=decide (e.born∈x.seen):=by
    rw[Bool.eq_iff_iff];simp[hb2]
   rw[dM hb,h.at_ e he,e1]
 ·have:=Yn hy hn;have:=h.n.2
  grind
theorem Ym.all(h:Ym t H f x)(ht:jt H t)(ha:∀e∈t.l,e.born∈x.seen):jt x.H (jZ t f):=by
 have e1:∀ {γ:Type} (g:kM->γ),(∀e b,g { e with good:=b }=g e)->(jZ t f).l.map g=t.l.map g:=fun g hg=>by
  grind [jZ,List.map_congr_left]
 refine⟨fun e he=>?_,by grind [ht.blk],fun e he=>?_,by grind [ht.ids],by grind [ht.born],ht.last⟩
 ·obtain⟨y,hy,rfl⟩:=kj.1 he;have:=h.at_ y hy;rw[zBg (ha y hy),Bool.true_and]at this;exact⟨this,(ht.at_ y hy).2⟩
 ·obtain⟨y,hy,rfl⟩:=kj.1 he;exact ht.id y hy
def Wh:cB where
 α:=KE
 β:=PH×Int
 m:=4
 m':=4
 pre:=fun a=>jt a.H a.t/\a.ks.length<100000/\a.t.l.length<100000
 args:=fun a=>[.a (.ptr 0 0 0 0),.a (.slc 3 0 1 a.ks.length a.cap)]
 hp:=fun a=>[(0,Mg a.mb a.t),(1,CH a.mb a.t),(2,.dg a.H)]
 ro:=fun a=>[(3,.arr 9 [.str] a.ks.length (aa ic a.ks))]
 post:=fun a b=>jt b.1 (jZ a.t (hasB a.ks))/\∀z,z∉a.t.l.map (·.blk)->b.1 z=a.H z
 res:=fun _ b=>.a (.int .i64 b.2)
 eV:=fun a b=>[(0,Mg a.mb (jZ a.t (hasB a.ks))),(1,CH a.mb (jZ a.t (hasB a.ks))),(2,.dg b.1)]
def aeA(mb:Nat)(t:nL)(H:PH)(f:ByteArray->Bool):An:=.flat 5 Tp (fun s x=>(((s.at_ (s.tg 14) (.abs (qY mb x.seen t.fM))).at_ (SF s) (.dg x.H)).set 5 (.a (.int .i64 x.n)))) (fun _ x=>Ym t H f x) (fun _ x=>RL t x.seen)
def zI(x:List Nat)(y:jC):List Nat:=x++[y.born]
def Bi(y:PH×Int)(z:nL)(u:ByteArray->Bool)(v:Nat->Option (Nat×List Value)):=jt y.fst (jZ z u)/\∀x:Nat,¬x∈List.map (fun(w:kM)=>w.blk) z.l->y.fst x=v x
def lD(x:Prop):=ah (bD (aJ x))
def Qs(l:PH)(y:nL)(c:Prop)(z:Nat)(d:Nat->Nat->Tp->Prop)(g:ByteArray->Bool)(e:Nat->Option (Nat×List Value))(A:Tp->List Nat->Nat->Nat->jC->jC->Nat->List Value->Prop)(B:Tp->List Nat->Nat->Nat->jC->Tp->Prop):=jt l y/\c->uL z z y .i64 fun C M D=>(∃x:Tp,(0:Int)=x.n/\lD (d C D x))/\∀x:Tp,Ym y l g x->∃E:IntKind,∃m:Nat,∃w:List Nat,∃s:Nat,qY z x.seen y.fM=qY m w s/\uL m z y E fun i o F=>F=s/\aO true/\((∀u:jC,u∈o->u.born∈w)->∃j:PH×Int,x.n=j.snd/\dY z y=dY z (jZ y g)/\x.H=j.fst/\y.last=(jZ y g).last/\eE (some z)/\(Bi j y g fun G=>e G)/\True)/\∀u:jC,u∈o->¬u.born∈w->∃I:IntKind,∃p:Nat,∃q:List Nat,∃r:Nat,qY i (zI w u) s=qY p q r/\uL p z y I fun N J K=>K=r/\∃L:List Nat,∃t:jC,q=zI L t/\t∈J/\Exists (nZ t.val 1 (fun f=>x.H f) (fun f=>∃k:Bool,f=cF k) fun f k=>aK (HO (aL k f)) (Exists (nZ t.val 0 (fun v=>x.H v) (fun v=>∃h:ByteArray,v=bR h/\aT h<=aB) fun v h=>A x w s i u t v h)) (∃v:Tp,x.n=v.n/\lD (B x w s i u v)))
def KG(z:Nat)(u:List Nat)(v:Nat)(x:KE)(y:Tp)(w:PH)(s:Prop):=aM (qY z u v=qY x.mb y.seen x.t.fM/\aQ (aF x.ks) x.cap/\az x.t.last/\eE (some x.mb)/\dY x.mb x.t=dY x.mb x.t/\w=y.H/\eO x.ks/\Ym x.t x.H (hasB x.ks) y/\s)
theorem aat:fnBody (Y Tryz.prog) [(133,aex)] 88 Wh fun a=>[(131,[aeA a.mb a.t a.H (hasB a.ks)],[])]:=fnBody.of (p :=
 ∀x:KE,Qs x.H x.t (aF x.ks<100000/\x.t.l.length<100000) x.mb (fun y v w=>KG y [] v x w x.H True) (hasB x.ks) (fun y=>x.H y) (fun y v w s f g j k=>∃u:To,dF (aF x.ks) (aF u.ks) x.cap u.cap (LM (aL k j)=u.key) 1 (aa ic x.ks) (aa ic u.ks) (aF u.ks<100000/\aP (aK (hasB u.ks u.key) (Exists (nY g.val 1 (fun z=>y.H z) (fun z h=>z+1<=h.length) fun z h m o=>fe y.n/\∃i:Tp,y.n+(1:Int)=i.n/\lD (KG s (zI v f) w x i (bB y.H z h (uD m o (bW (cF false)) 1)) (RL x.t i.seen<RL x.t y.seen)))) (∃z:Tp,y.n=z.n/\lD (KG s (zI v f) w x z y.H (RL x.t z.seen<RL x.t y.seen)))))) fun y v w s f g=>KG s (zI v f) w x g y.H (RL x.t g.seen<RL x.t y.seen)) (by kernel_rfl) (by
 delta cE aK aQ aL aO ai dY aA az nZ aM aF eE nY fL bK aU aP bD aT eO aq Qs dF bR uL aJ bW ah KG cF fh ax zI uD Bi lD fe
 try dsimp -iota -proj only
 rintro⟨mb,t,H,ks,cap⟩ ⟨h1,h2,h3⟩;dsimp only at *;have hok:=h1.ok;obtain⟨f,hf⟩:∃f,f=hasB ks:=⟨_,rfl⟩
 refine⟨mb,t.l.map kM.enc,t.fM,rfl,rfl,hok,⟨⟨[],H,0⟩,?_⟩,fun x hI=>?_⟩
 ·have hI:Ym t H (hasB ks) ⟨[],H,0⟩:=⟨fun _ _=>rfl,fun e he=>by
   have:=(h1.at_ e he).1
   grind,by grind,by
   show(0:Int)+(RL t []:Nat)<=(t.l.length:Nat)
   have:RL t []<=t.l.length:=T1 _ _;omega⟩
  grind [af.refl]
 rw[<- hf]at hI ⊢;refine⟨.i64,mb,x.seen,t.fM,rfl,mb,t.l.map kM.enc,t.fM,rfl,rfl,hok,rfl,rfl,fun hall=>⟨(x.H,x.n),?_⟩,fun e he hns=>?_⟩
 ·have ha:=hI.all h1 fun e he=>hall _ (kj.2 ⟨e,he,rfl⟩);have hm:qN mb .i64 (t.l.map kM.enc) t.fM=qN mb .i64 ((jZ t f).l.map kM.enc) (jZ t f).fM:=by
   unfold jZ;rw[T4];rfl
  have ho:=hI.old
  and_intros<;>first|exact cU|exact hm|exact ha|exact ho|exact kL|skip
 obtain⟨y,hy,rfl⟩:=kj.1 he;have hns:y.born∉x.seen:=hns;have hg:x.H y.blk=some (0,[.string y.key,.bool y.good]):=by
  rw[hI.at_ y hy,Ml hns];simp
 have hmu:=Yn hy hns;refine⟨.i64,mb,x.seen++[y.born],t.fM,rfl,mb,t.l.map kM.enc,t.fM,rfl,rfl,hok,rfl,x.seen,kM.enc y,rfl,he,y.blk,0,rfl,y.blk,0,rfl,y.blk,0,1,[.string y.key,.bool y.good],rfl,hg,⟨⟨_,rfl,_,rfl⟩,trivial⟩,fun c1=>?_,fun c1=>?_⟩
 ·have c1:y.good=true:=c1;have hyk:=(h1.at_ y hy).2;refine⟨y.blk,0,rfl,y.blk,0,rfl,y.blk,0,0,[.string y.key,.bool y.good],rfl,hg,⟨⟨_,rfl,_,rfl,hyk⟩,trivial⟩,To.mk ks cap y.key,?_⟩;have hrk:af ks.length 1 (aa ic ks) (aa ic ks):=af.refl _ _ _;have hkk:LM ([Value.string y.key,.bool y.good].getD 0 (.tuple #[]))=y.key:=rfl
  and_intros<;>first|exact cU|exact hkk|exact hrk|exact h2|(intro h_;revert h_)|omega|grind|rfl|grind|grind|(dsimp only;omega)|skip
  intro _ _;dsimp only;rw[<- hf];refine⟨fun c2=>⟨y.blk,0,rfl,y.blk,0,rfl,y.blk,0,1,[.string y.key,.bool y.good],rfl,hg,(cW 2),?_,⟨x.seen++[y.born],bB x.H y.blk 0 [.string y.key,.bool false],x.n+1⟩,?_⟩,fun c2=>⟨⟨x.seen++[y.born],x.H,x.n⟩,?_⟩⟩
  ·have:=hI.n;have:=T1 (fun e:kM=>!decide (e.born∈x.seen)) t.l;simp only[bZ];omega
  ·have hI2:=hI.hit h1 hy hns c2
   and_intros<;>first|exact cU|exact hI2|exact hmu|exact kL|skip
  ·have hI2:=hI.skip h1 hy hns (by grind)
   and_intros<;>first|exact cU|exact hI2|exact hmu|exact kL|skip
 ·have c1:y.good=false:=c1;have hI2:=hI.skip h1 hy hns (by rw[c1];rfl);refine⟨⟨x.seen++[y.born],x.H,x.n⟩,?_⟩
  and_intros<;>first|exact cU|exact hI2|exact hmu|exact kL|skip)
theorem aau:av (Y Tryz.prog).G.X 88 Wh:=bp gf aat ⟨aez,trivial⟩
def Bj(_:ByteArray):Bool:=true
structure Nn where
 mb:Nat
 t:nL
 H:PH
def Qt:cB where
 α:=Nn
 β:=PH×Int
 m:=3
 m':=3
 pre:=fun a=>jt a.H a.t/\a.t.l.length<100000
 args:=fun a=>[.a (.ptr 0 0 0 0)]
 hp:=fun a=>[(0,Mg a.mb a.t),(1,CH a.mb a.t),(2,.dg a.H)]
 post:=fun a b=>jt b.1 (jZ a.t Bj)/\∀z,z∉a.t.l.map (·.blk)->b.1 z=a.H z
 res:=fun _ b=>.a (.int .i64 b.2)
 eV:=fun a b=>[(0,Mg a.mb (jZ a.t Bj)),(1,CH a.mb (jZ a.t Bj)),(2,.dg b.1)]
def Qu(z:Nat)(u:List Nat)(v:Nat)(x:Nn)(y:Tp)(w:PH)(s:Prop):=ah (qY z u v=qY x.mb y.seen x.t.fM/\az x.t.last/\eE (some x.mb)/\dY x.mb x.t=dY x.mb x.t/\w=y.H/\Ym x.t x.H Bj y/\s)
theorem Wi:fnBody (Y Tryz.prog) [] 107 Qt fun a=>[(131,[aeA a.mb a.t a.H Bj],[])]:=fnBody.of (p :=
 ∀x:Nn,Qs x.H x.t (x.t.l.length<100000) x.mb (fun y z u=>Qu y [] z x u x.H True) Bj (fun y=>x.H y) (fun y z u s f w k m=>Exists (nY w.val 1 (fun v=>y.H v) (fun v g=>v+1<=g.length) fun v g i j=>fe y.n/\∃h:Tp,y.n+(1:Int)=h.n/\lD (Qu s (zI z f) u x h (bB y.H v g (uD i j (bW (cF false)) 1)) (RL x.t h.seen<RL x.t y.seen)))) fun y z u s f w=>Qu s (zI z f) u x w y.H (RL x.t w.seen<RL x.t y.seen)) (by kernel_rfl) (by
 delta aK aL aO ai dY az nZ eE nY fL aU bD aT aq Qs bR uL aJ bW ah cF fh Qu zI uD Bi lD fe
 try dsimp -iota -proj only
 rintro⟨mb,t,H⟩ ⟨h1,h3⟩;dsimp only at *;have hok:=h1.ok;refine⟨mb,t.l.map kM.enc,t.fM,rfl,rfl,hok,⟨⟨[],H,0⟩,?_⟩,fun x hI=>?_⟩
 ·have hI:Ym t H Bj ⟨[],H,0⟩:=⟨fun _ _=>rfl,fun e he=>by
   have:=(h1.at_ e he).1
   grind,by grind,by
   show(0:Int)+(RL t []:Nat)<=(t.l.length:Nat)
   have:RL t []<=t.l.length:=T1 _ _;omega⟩
  grind
 refine⟨.i64,mb,x.seen,t.fM,rfl,mb,t.l.map kM.enc,t.fM,rfl,rfl,hok,rfl,rfl,fun hall=>⟨(x.H,x.n),?_⟩,fun e he hns=>?_⟩
 ·have ha:=hI.all h1 fun e he=>hall _ (kj.2 ⟨e,he,rfl⟩);have hm:qN mb .i64 (t.l.map kM.enc) t.fM=qN mb .i64 ((jZ t Bj).l.map kM.enc) (jZ t Bj).fM:=by
   unfold jZ;rw[T4];rfl
  have ho:=hI.old
  and_intros<;>first|exact cU|exact hm|exact ha|exact ho|exact kL|skip
 obtain⟨y,hy,rfl⟩:=kj.1 he;have hns:y.born∉x.seen:=hns;have hg:x.H y.blk=some (0,[.string y.key,.bool y.good]):=by
  rw[hI.at_ y hy,Ml hns];simp
 have hmu:=Yn hy hns;refine⟨.i64,mb,x.seen++[y.born],t.fM,rfl,mb,t.l.map kM.enc,t.fM,rfl,rfl,hok,rfl,x.seen,kM.enc y,rfl,he,y.blk,0,rfl,y.blk,0,rfl,y.blk,0,1,[.string y.key,.bool y.good],rfl,hg,⟨⟨_,rfl,_,rfl⟩,trivial⟩,fun c1=>?_,fun c1=>?_⟩
 ·have c1:y.good=true:=c1;have hyk:=(h1.at_ y hy).2;refine⟨y.blk,0,rfl,y.blk,0,rfl,y.blk,0,0,[.string y.key,.bool y.good],rfl,hg,⟨⟨_,rfl,_,rfl,hyk⟩,trivial⟩,y.blk,0,rfl,y.blk,0,rfl,y.blk,0,1,[.string y.key,.bool y.good],rfl,hg,(cW 2),?_,⟨x.seen++[y.born],bB x.H y.blk 0 [.string y.key,.bool false],x.n+1⟩,?_⟩
  ·have:=hI.n;have:=T1 (fun e:kM=>!decide (e.born∈x.seen)) t.l;simp only[bZ];omega
  ·have hI2:=hI.hit h1 hy hns rfl
   and_intros<;>first|exact cU|exact hI2|exact hmu|exact kL|skip
 ·have c1:y.good=false:=c1;have hI2:=hI.skip h1 hy hns (by rw[c1];rfl);refine⟨⟨x.seen++[y.born],x.H,x.n⟩,?_⟩
  and_intros<;>first|exact cU|exact hI2|exact hmu|exact kL|skip)
theorem KH:av (Y Tryz.prog).G.X 107 Qt:=bp gf Wi trivial
structure ot where
 node:Int
 id:Int
 op:Int
 key:ByteArray
 deriving Inhabited
structure jv where
 w:ot
 id:Int
 to:Int
 tick:Int
 deriving Inhabited
structure kI where
 w:ot
 tok:Int
 deriving Inhabited
def aiA:List CK:=[.int .i64,.int .i64,.int .i64,.str]
def aeB(w:ot):List Value:=[.int .i64 w.node,.int .i64 w.id,.int .i64 w.op,.string w.key]
def Gr:List CK:=aiA++[.int .i64,.int .i64,.int .i64]
def iI(x:jv):List Value:=aeB x.w++[.int .i64 x.id,.int .i64 x.to,.int .i64 x.tick]
def Gs:List CK:=aiA++[.int .i64]
def fD(x:kI):List Value:=aeB x.w++[.int .i64 x.tok]
structure iJ where
 ay:Int
 end_:Int
 top:Int
structure bG where
 s:pY
 id:Int
 now:Int
 le:iJ
 t:nL
 ws:List jv
 rs:List kI
 asked:Int
structure dP where
 p:Ai
 mb:Nat
 wc:Nat
 rc:Nat
def Wj(rg ma ra:A)(st le tk wa rd:Nat)(n:bG)(p:dP):Chunk:=.obj 83 [.ptr st 0 0 0,.ptr le 0 0 0,.int .i64 n.id,rg,.ptr tk 0 0 0,.bool false,.dJ,.val (.map none),.val (.map none),.slc wa 0 7 n.ws.length p.wc,.slc rd 0 5 n.rs.length p.rc,.int .i64 n.asked,ma,ra]
def wS(rg:A)(st le tk wa rd:Nat)(n:bG)(p:dP):Chunk:=Wj rg .dJ .dJ st le tk wa rd n p
def Mh(ck:Nat)(l:iJ):Chunk:=.obj 127 [.ptr ck 0 0 0,.int .i64 l.ay,.int .i64 l.end_,.int .i64 l.top]
def Qv(now:Int):Chunk:=.obj 24 [.int .i64 now]
def aiB(rg:A)(nd le ck tk mp wa rd st ca cl dv ds ix it jr ma jl ke su tx pl:Nat)(n:bG)(p:dP):List (Nat×Chunk) :=
 [(nd,wS rg st le tk wa rd n p),(le,Mh ck n.le),(ck,Qv n.now),(tk,Mg p.mb n.t),(mp,CH p.mb n.t),(wa,.arr 125 Gr n.ws.length (aa iI n.ws)),(rd,.arr 134 Gs n.rs.length (aa fD n.rs))]++zA st ca cl dv ds ix it jr ma jl ke su tx pl n.s p.p
structure bz(n:bG)(p:dP):Prop where
 st:sX n.s p.p
 tok:jt p.p.H n.t
 sep:∀e∈n.t.l,e.blk∉cC p.p.cy/\e.blk∉cC p.p.jy
 wc:n.ws.length<=p.wc
 rc:n.rs.length<=p.rc
def t00:nL:=⟨0,[],0⟩
structure Gt where
 id:Int
 now:Int
 d:bH
 H:PH
def B6(a:Gt):bG:=⟨iN (zC ⟨a.d,a.H⟩),a.id,a.now,⟨0,0,0⟩,t00,[],[],0⟩
def qD:cB where
 α:=Gt
 β:=dP
 m:=4
 m':=40
 pre:=fun a=>1<=a.id/\a.id<=5/\Ew.pre ⟨a.d,a.H⟩
 args:=fun a=>[.a (.int .i64 a.id),.a (.ptr 0 0 0 0),.a (.ptr 3 0 0 0)]
 hp:=fun a=>gW 0 1 a.d++[(2,.dg a.H),(3,Qv a.now)]
 post:=fun a b=>bz (B6 a) b
 res:=fun _ _=>.nR [.a (.ptr 4 0 0 0),.a (.lit .i64 0)]
 eV:=fun a b=>aiB .nil 4 5 3 6 7 8 9 10 11 12 0 1 13 14 15 16 17 18 19 20 21 (B6 a) b
def cw(x:bG):Nat:=x.rs.length
def bU(x:bG):Nat:=x.ws.length
def di(x:Prop):=dN (aO false) (eE none) x
def Qw(u:xl)(w:PH)(f:Int)(x:bG)(g:Int):=∀z:Ai,zB u z w->∀v:Nat,∃y:dP,ah (aJ (aM (f=x.id/\ah (di ((0=bU x/\0=y.wc)/\(0=cw x/\0=y.rc)/\(0:Int)=x.asked/\ah ((0:Int)=x.le.ay/\(0:Int)=x.le.end_/\(0:Int)=x.le.top/\g=x.now/\(0:Int)=x.t.last/\fh v y.mb/\qN v .i64 [] 0=dY y.mb x.t/\bU x=0/\cw x=0/\bC (sY (iN u) x.s z y.p (z.H=y.p.H/\bz x y/\True))))))))
def DI(x:Gt):=(1:Int)<=x.id/\x.id<=(5:Int)/\Bc x.d { d:=x.d,H:=x.H }
theorem aav:fnBody (Y Tryz.prog) [(46,Ew)] 11 qD fun _=>[]:=fnBody.of (p :=
 ∀x:Gt,DI x->uE x.id (∃y:dP,False) 5 (∃y:Kr,ah (iZ x.d y.d (x.H=y.H/\Bc y.d y/\Qw (zC y) y.H x.id (B6 x) x.now)))) (by kernel_rfl) (by
 delta aK aO dY az aM aN eE cw dN fL aU jo aq Qw aJ ah bU di DI fh kz bC zB uE Bc
 rintro⟨id,now,d,H⟩ ⟨h1,h2,h3,h4,h5,h6⟩;dsimp only at *;refine⟨fun c=>(by grind),fun _=>⟨fun c=>(by grind),fun _=>⟨Kr.mk d H,?_⟩⟩⟩
 and_intros<;>first|exact cU|exact h3|exact h4|exact h5|exact h6.1|exact h6.2|exact h6.3|exact h6.4|exact h6.5|exact h6.6|(intro h_;revert h_)|omega|grind [af.refl]|rfl|grind|grind|(dsimp only;omega)|skip
 rintro p ⟨hat,_⟩ mb;refine⟨⟨p,mb,0,0⟩,?_⟩;have hN:bz (B6 ⟨id,now,d,H⟩) ⟨p,mb,0,0⟩:=⟨hat,⟨fun e he=>(by cases he),zBo,fun e he=>(by cases he),zBo,zBo,by show(0:Int)<=0/\(0:Int)<=_;omega⟩,fun e he=>(by cases he),cW 0,cW 0⟩
 and_intros<;>first|exact cU|exact hN|exact kL|skip)
theorem No:av (Y Tryz.prog).G.X 11 qD:=bp gf aav ⟨V8,trivial⟩
theorem sX.frame{s:pY}{p:Ai}(h:sX s p){H':PH}(e:∀z,z∈cC p.cy\/z∈cC p.jy->H' z=p.H z):sX s { p with H:=H' } :=
 ⟨⟨h.fl.log.frame fun z hz=>e z (.inl hz),h.fl.idx⟩,h.jl.frame fun z hz=>e z (.inr hz),h.sep,h.cap⟩
theorem sX.dom{s:pY}{p:Ai}(h:sX s p){z:Nat}(hz:z∈cC p.cy\/z∈cC p.jy):p.H z≠none:=by
 rcases hz with hz|hz
 ·exact h.fl.log.dom z hz
 ·exact h.jl.dom z hz
variable{H':PH}{p:dP}
theorem jt.frame(h:jt H t)(e:∀x∈t.l,H' x.blk=H x.blk):jt H' t :=
 ⟨fun x hx=>⟨by rw[e x hx];exact(h.at_ x hx).1,(h.at_ x hx).2⟩,h.blk,h.id,h.ids,h.born,h.last⟩
theorem bz.store{n:bG}(h:bz n p){s:pY}{b:Ai}(h1:sX s b)(h2:HZ p.p.H (cC p.p.cy) (cC p.p.jy) b):bz { n with s:=s } { p with p:=b }:=by
 have hx:∀e∈n.t.l,b.H e.blk=p.p.H e.blk/\e.blk∉cC b.cy/\e.blk∉cC b.jy:=fun e he =>
  h2 e.blk (by rw[(h.tok.at_ e he).1];simp) (h.sep e he).1 (h.sep e he).2
 exact⟨h1,h.tok.frame fun e he=>(hx e he).1,fun e he=>(hx e he).2,h.wc,h.rc⟩
theorem jt.ajK(h:jt H t){key:ByteArray}{b:Nat}(hb:H b=none)(hk:key.size<=aB)(hl:t.last<1099511627776):jt (bB H b 0 [.string key,.bool true]) (va t key b):=by
 have hne:∀e∈t.l,e.blk≠b:=fun e he h0=>by
  have:=(h.at_ e he).1
  grind
 have hlast:=h.last;refine⟨fun e he=>?_,?_,fun e he=>?_,?_,?_,by show 0<=t.last+1/\t.last+1<=_;omega⟩
 ·rcases yG.1 he with he|he
  ·exact⟨by rw[dM (hne e he)];exact(h.at_ e he).1,(h.at_ e he).2⟩
  grind [fJ]
 ·show((t.l++[_]).map _).Nodup
  grind [h.blk]
 ·rcases yG.1 he with he|he
  ·have:=h.id e he;show 1<=e.id/\e.id<=t.last+1/\e.born<t.fM+1;omega
  ·rw[zAZ]at he;subst he;show 1<=t.last+1/\t.last+1<=t.last+1/\t.fM<t.fM+1;omega
 ·show((t.l++[_]).map _).Nodup;rw[T3,YO];refine⟨h.ids,by simp,fun x hx y hy=>?_⟩;obtain⟨e,he,rfl⟩:=kj.1 hx;have:y=t.last+1:=by simpa using hy
  have:=h.id e he;omega
 ·show((t.l++[_]).map _).Nodup;rw[T3,YO];refine⟨h.born,by simp,fun x hx y hy=>?_⟩;obtain⟨e,he,rfl⟩:=kj.1 hx;have:y=t.fM:=by simpa using hy
  have:=h.id e he;omega
theorem bz.ajK{n:bG}{p:dP}(h:bz n p){key:ByteArray}{b:Nat}(hb:p.p.H b=none)(hk:key.size<=aB)(hl:n.t.last<1099511627776):bz { n with t:=va n.t key b } { p with p:={ p.p with H:=bB p.p.H b 0 [.string key,.bool true] } }:=by
 have hne:∀z,z∈cC p.p.cy\/z∈cC p.p.jy->z≠b:=fun z hz h0=>h.st.dom hz (by grind);refine⟨h.st.frame fun z hz=>dM (hne z hz),h.tok.ajK hb hk hl,fun e he=>?_,h.wc,h.rc⟩;rcases yG.1 he with he|he
 ·exact h.sep e he
 grind
theorem bz.aeC{n:bG}(h:bz n p)(h1:jt H' (jZ n.t f))(h2:∀z,z∉n.t.l.map (·.blk)->H' z=p.p.H z):bz { n with t:=jZ n.t f } { p with p:={ p.p with H:=H' } }:=by
 refine⟨h.st.frame fun z hz=>h2 z fun hm=>?_,h1,fun e he=>?_,h.wc,h.rc⟩
 ·obtain⟨e,he,rfl⟩:=kj.1 hm;rcases hz with hz|hz
  ·exact(h.sep e he).1 hz
  ·exact(h.sep e he).2 hz
 ·obtain⟨y,hy,rfl⟩:=kj.1 he;exact h.sep y hy
structure vj where
 id:Int
 op:Int
 key:ByteArray
 err:Int
 val:ByteArray
 has:Bool
 deriving Inhabited
def Yo:List CK:=[.int .i64,.int .i64,.str,.int .i64,.str,.bool]
def nc(r:vj):List Value:=[.int .i64 r.id,.int .i64 r.op,.string r.key,.int .i64 r.err,.string r.val,.bool r.has]
def oN:ByteArray:=ByteArray.mk #[]
structure KI where
 n:bG
 p:dP
 id:Int
 op:Int
 key:ByteArray
def zJ(op:Int)(key:ByteArray)(e:Int):Int:=if(op=1\/op=2)/\dB key=true then e else 1
def aaw(a:KI):vj:=⟨a.id,a.op,a.key,zJ a.op a.key 6,oN,false⟩
def KJ:cB where
 α:=KI
 β:=Nat
 m:=8
 m':=9
 pre:=fun a=>a.key.size<=aB
 args:=fun a=>[.a (.ptr 0 0 0 0),.a (.int .i64 a.id),.a (.int .i64 a.op),.a (.str a.key)]
 hp:=fun a=>[(0,wS .nil 7 1 3 5 6 a.n a.p)]
 res:=fun _ c=>.agg [.dJ,.slc 8 0 6 1 c]
 eV:=fun a _=>[(0,wS .nil 7 1 3 5 6 a.n a.p),(8,.arr 61 Yo 1 (aa nc [aaw a]))]
def iA(x y:bG)(z u:dP)(v:Prop)(w s:Int)(t f:Prop):=ax (bU x) (bU y) z.wc u.wc/\v/\w=s/\t/\f
def k8(v w:Prop)(x y:bG)(z u:dP)(s t:Prop):=ah (v/\w/\ah (di (iA x y z u (ax (cw x) (cw y) z.rc u.rc) x.asked y.asked s t)))
def s8(x:bG)(y:dP)(z u:Prop):=k8 (0=0) (az x.id) x x y y z u
def Qx(x:KI)(y:Int):=ai x.id->ai x.op->1<=1/\eu 64 1 fun z=>∃u:Nat,tO 1 z u/\aA 1 1 6 (ja 6 (cI x.id (cI x.op (rI x.key y (bR dx) false)))) (aa nc [aaw x])/\s8 x.n x.p True True
theorem aax:fnBody (Y Tryz.prog) [(66,Ix.zu),(86,UQ)] 13 KJ fun _=>[]:=fnBody.of (p :=
 ∀x:KI,aT x.key<=aB->Exists (FP x.key fun z=>aP (ai x.op->tV (x.op != (1:Int)) x.op (x.op != (2:Int)) (Qx x 1) (∃y:ByteArray,x.key=y/\cZ (aK (bg (dB y)) (Qx x 1) (Qx x 6)))))) (by kernel_rfl) (by
 delta k8 aK aO ai aA az cI eE cw ia dN fL fB aU iA tO tV dx aP aT aq bR iQ Qx bW ah bU cF di bg FP rI s8 ax ja cZ eu
 try dsimp -iota -proj only
 rintro⟨n,p,id,op,key⟩ h;have h:key.size<=aB:=h;have hr:af 1 1 (aV 1 [Go.Value.string key]) (fun(i x:Nat)=>Go.Value.string key):=.fN fun i hi=>by
  have:i=0:=by omega
  subst this;rfl
 have hs:∀i:Nat,i<1->key.size<=aB:=fun _ _=>h;have hrep:∀e:Int,zJ op key 6=e->af 1 6 (fun(i j:Nat)=>aV 6 [Value.int .i64 id,Value.int .i64 op,Value.string key,Value.int .i64 e,Value.string (ByteArray.mk #[]),Value.bool false] (0+i) j) (aa nc [aaw ⟨n,p,id,op,key⟩]):=fun e he=>.fN fun i hi=>by
  have:i=0:=by omega
  subst this;subst he;rfl
 refine⟨⟨fun _=>key,1,1⟩,?_⟩
 and_intros<;>first|exact cU|exact hr|exact hs|(intro h_;revert h_)|omega|grind|rfl|grind|grind|grind|skip
 intro _ _ _;dsimp only;have hk1:∀ {c:Bool},dB key=c->(op=1\/op=2)->zJ op key 6=if c=true then 6 else 1:=fun {c} hc ho=>by
  grind [zJ]
 refine⟨fun c1 _=>⟨fun c2 _ _=>?_,fun c2=>⟨key,rfl,trivial,fun _ _=>⟨fun c3 _ _=>?_,fun c3 _ _=>?_⟩⟩⟩,fun c1=>⟨key,rfl,trivial,fun _ _=>⟨fun c3 _ _=>?_,fun c3 _ _=>?_⟩⟩⟩
 ·grind [zJ]
 ·grind
 ·grind
 ·grind
 grind)
theorem Np:av (Y Tryz.prog).G.X 13 KJ:=bp gf aax ⟨Ix.yu,Ej,trivial⟩
structure s9 where
 kind:Int
 ir:Int
 to:Int
 ay:Int
 tick:Int
 seq:Int
 n:Int
 id:Int
 op:Int
 key:ByteArray
 err:Int
 last:Bool
 item:aW
 base:Int
 deriving Inhabited
def Gu:List CK:=[.int .i64,.int .i64,.int .i64,.int .i64,.int .i64,.int .i64,.int .i64,.int .i64,.int .i64,.str,.int .i64,.bool,.str,.str,.int .i64,.bool,.deep,.deep,.deep,.int .i64,.deep]
def eo(m:s9):List Value:=[.int .i64 m.kind,.int .i64 m.ir,.int .i64 m.to,.int .i64 m.ay,.int .i64 m.tick,.int .i64 m.seq,.int .i64 m.n,.int .i64 m.id,.int .i64 m.op,.string m.key,.int .i64 m.err,.bool m.last,.string m.item.key,.string m.item.val,.int .i64 m.item.e,.bool m.item.gone,.slice none 0 0,.slice none 0 0,.slice none 0 0,.int .i64 m.base,.slice none 0 0]
def xw(t:Nat)(l:List s9):Nat×Chunk:=(t,.arr 45 Gu l.length (aa eo l))
def Bk(t:Nat)(l:List vj):Nat×Chunk:=(t,.arr 61 Yo l.length (aa nc l))
structure nw where
 n:bG
 p:dP
 q:List s9
 qc:Nat
 l:List s9
 lc:Nat
def Tq(id:Int)(l:List s9):List s9:=l.map fun m=>{ m with ir:=id }
def nw.to(a:nw)(i:Nat):List s9:=a.q++Tq a.n.id (a.l.take i)
def Tr(rg:A):cB where
 α:=nw
 β:=Nat
 m:=12
 m':=13
 pre:=fun a=>a.l.length<1000/\a.q.length<1000
 args:=fun a=>[.a (.ptr 0 0 0 0),.a (.slc 10 0 21 a.l.length a.lc)]
 hp:=fun a=>[(0,Wj rg (.slc 11 0 21 a.q.length a.qc) .dJ 7 1 3 5 6 a.n a.p),xw 11 a.q]
 ro:=fun a=>[xw 10 a.l]
 post:=fun a c=>a.l.length=0->c=a.qc
 res:=fun _ _=>.nR []
 eV:=fun a c=>[(0,Wj rg (.slc 12 0 21 (a.to a.l.length).length c) .dJ 7 1 3 5 6 a.n a.p),xw 12 (a.to a.l.length)]
def alc(rg:A)(a:nw):An:=.flat 1 (Nat×Nat) (fun s x=>((((s.put (s.hp.del 11)).new (.arr 45 Gu (a.to x.1).length (aa eo (a.to x.1)))).at_ 0 (Wj rg (.slc s.nx 0 21 (a.to x.1).length x.2) .dJ 7 1 3 5 6 a.n a.p)).int 8 x.1)) (fun _ x=>x.1<=a.l.length/\(x.1=0->x.2=a.qc)) (fun _ x=>a.l.length-x.1)
theorem Yp{a:nw}{i:Nat}(h:i<a.l.length):a.to (i+1)=a.to i++[{ gl a.l i with ir:=a.n.id }]:=by
 unfold nw.to Tq;rw[gU h,T3,zAY];rfl
theorem aeD(a:nw)(i:Nat):(a.to i).length=a.q.length+min i a.l.length:=by
 unfold nw.to Tq;simp
def bJ(x:List s9):Nat:=x.length
def Tt(x:s9)(y:Int):List Value:=Ad .i64 x.kind y x.to (fB x.ay) x.tick x.seq x.n (cI x.id (cI x.op (bR x.key::cI x.err (ia (cF x.last) (bR x.item.key) (bR x.item.val::cI x.item.e (ia (cF x.item.gone) jd (ia jd jd (cI x.base (bW jd)))))))))
def nM(x y:List s9):=aA (bJ x) (bJ y) 21 (aa eo y) (aa eo x)
def jf(x:List s9):=cE (bJ x) 21 (aa eo x)
def Qy(x:nw)(y z:Nat×Nat):=jf x.l/\iO (bJ (x.to y.fst)) (bJ (x.to z.fst)) 21 (aa eo (x.to z.fst)) (Tt (gl x.l (0+aG z.fst)) x.n.id) (aa eo (x.to y.fst))/\dG y.fst (bJ x.l) (y.fst=0->y.snd=x.qc) z.fst
def Qz(x:nw)(z:Nat×Nat->Prop)(u:Nat×Nat->Nat->Nat×Nat->Prop)(v:Nat×Nat->Nat->Prop):=bJ x.l<1000/\bJ x.q<1000->jM (fun y=>dU (bJ x.l) x.lc (ah (aQ (bJ x.l) x.lc/\z y))) fun y=>mZ y.fst (bJ x.l) (y.fst=0->y.snd=x.qc) (ai x.n.id->jF (bJ (x.to y.fst)) 256 y.snd fun w=>iP y fun s=>dU (bJ x.l) x.lc (ah (aQ (bJ x.l) x.lc/\u y w s))) (∃t:Nat,v y t)
def QA(x:nw)(y:Nat×Nat):=jf x.l/\nM (x.to y.fst) x.q/\(y.fst<=bJ x.l/\(y.fst=0->y.snd=x.qc))/\True
theorem aeE:fnBody (Y Tryz.prog) [] 51 (Tr .nil) fun a=>[(51,[alc .nil a],[])]:=fnBody.of (p :=
 ∀x:nw,Qz x (fun y=>s8 x.n x.p (ax (bJ x.q) (bJ (x.to y.fst)) x.qc y.snd) (QA x y)) (fun y z u=>s8 x.n x.p (ax (bJ (x.to y.fst)+1) (bJ (x.to u.fst)) z u.snd) (Qy x u y)) fun y z=>s8 x.n x.p (ax (bJ (x.to y.fst)) (bJ (x.to (bJ x.l))) y.snd z) (nM (x.to (bJ x.l)) (x.to y.fst)/\(bJ x.l=0->z=x.qc)/\True)) (by kernel_rfl) (by
 delta k8 cE aK aQ aO Ad ai aA az cI aG gq aN eE cw ia dN fL fB bK p5 aU iA gI bI aZ bJ ag Tt jF iO dG aq dU nM bR iP aC jd bW ah bU aS cF aI di mZ bf Qy s8 aY ax Qz jf bS ja eu jM bw bM QA
 try dsimp -iota -proj only
 intro a ⟨h1,h2⟩;have e0:a.to 0=a.q:=by unfold nw.to Tq;simp
 have h0:(0:Nat)=0->a.qc=a.qc:=fun _=>rfl;refine⟨⟨(0,a.qc),?_⟩,fun⟨i,c⟩ ⟨hi,hc⟩=>⟨fun c1=>?_,fun c1=>⟨c,?_⟩⟩⟩
 ·grind [af.refl]
 ·dsimp only at *;have hi:i<a.l.length:=by have:=qi c1;omega
  have hl:=aeD a i;have hs:=Yp hi;have hz:0+(i:Int).toNat=i:=by omega
  rw[hz];refine⟨by omega,hi,fun _=>⟨by omega,by omega,by omega,fun cap _ _ _=>⟨by simp only[bZ];omega,(i+1,cap),?_⟩⟩⟩;dsimp only;rw[hs];have hp:af ((a.to i)++[{ gl a.l i with ir:=a.n.id }]).length 21 (bq (aa eo (a.to i)) 0 (a.to i).length fun i_1 j=>aV 21 (eo { gl a.l i with ir:=a.n.id }) (0+i_1) j) (aa eo ((a.to i)++[{ gl a.l i with ir:=a.n.id }])):=.push rfl (by simp) rfl;have h1:i+1=0->cap=a.qc:=fun e=>by omega
  and_intros<;>first|exact cU|exact hp|exact by simp|exact h1|omega|omega|with_reducible exact af.refl _ _ _|rfl|exact af.refl _ _ _|exact cW _|(dsimp only;omega)|skip
 ·dsimp only at *;have hi:i=a.l.length:=by have:=ug c1;omega
  grind [af.refl])
def kV(x:bG)(y:dP)(z u:Prop):=ah (k8 (az x.id) (0=0) x x y y z u)
theorem aeF:fnBody (Y Tryz.prog) [] 51 (Tr (.ptr 9 0 0 0)) fun a=>[(51,[alc (.ptr 9 0 0 0) a],[])]:=fnBody.of (p :=
 ∀x:nw,Qz x (fun y=>kV x.n x.p (ax (bJ x.q) (bJ (x.to y.fst)) x.qc y.snd) (QA x y)) (fun y z u=>kV x.n x.p (ax (bJ (x.to y.fst)+1) (bJ (x.to u.fst)) z u.snd) (Qy x u y)) fun y z=>kV x.n x.p (ax (bJ (x.to y.fst)) (bJ (x.to (bJ x.l))) y.snd z) (nM (x.to (bJ x.l)) (x.to y.fst)/\(bJ x.l=0->z=x.qc)/\True)) (by kernel_rfl) (by
 delta k8 cE aK aQ aO Ad ai aA az cI aG gq aN eE cw ia dN fL fB bK p5 aU iA gI bI aZ bJ ag Tt jF iO dG aq dU nM bR iP aC kV jd bW ah bU aS cF aI di mZ bf Qy aY ax Qz jf bS ja eu jM bw bM QA
 try dsimp -iota -proj only
 intro a ⟨h1,h2⟩;have e0:a.to 0=a.q:=by unfold nw.to Tq;simp
 have h0:(0:Nat)=0->a.qc=a.qc:=fun _=>rfl;refine⟨⟨(0,a.qc),?_⟩,fun⟨i,c⟩ ⟨hi,hc⟩=>⟨fun c1=>?_,fun c1=>⟨c,?_⟩⟩⟩
 ·grind [af.refl]
 ·dsimp only at *;have hi:i<a.l.length:=by have:=qi c1;omega
  have hl:=aeD a i;have hs:=Yp hi;have hz:0+(i:Int).toNat=i:=by omega
  rw[hz];refine⟨by omega,hi,fun _=>⟨by omega,by omega,by omega,fun cap _ _ _=>⟨by simp only[bZ];omega,(i+1,cap),?_⟩⟩⟩;dsimp only;rw[hs];have hp:af ((a.to i)++[{ gl a.l i with ir:=a.n.id }]).length 21 (bq (aa eo (a.to i)) 0 (a.to i).length fun i_1 j=>aV 21 (eo { gl a.l i with ir:=a.n.id }) (0+i_1) j) (aa eo ((a.to i)++[{ gl a.l i with ir:=a.n.id }])):=.push rfl (by simp) rfl;have h1:i+1=0->cap=a.qc:=fun e=>by omega
  and_intros<;>first|exact cU|exact hp|exact by simp|exact h1|omega|omega|with_reducible exact af.refl _ _ _|rfl|exact af.refl _ _ _|exact cW _|(dsimp only;omega)|skip
 ·dsimp only at *;have hi:i=a.l.length:=by have:=ug c1;omega
  grind [af.refl])
theorem aeG:av (Y Tryz.prog).G.X 51 (Tr .nil):=bp gf aeE trivial
theorem KK:av (Y Tryz.prog).G.X 51 (Tr (.ptr 9 0 0 0)):=bp gf aeF trivial
def Y2(P:Program):Gx:=⟨⟨⟨P,Tab.T,false,false⟩,Jo P (53::Tab.ids),(53,[0,2,5,12,23])::Tab.I⟩,(53,[])::Tab.R⟩
theorem amr:(Jo Tryz.prog (53::Tab.ids)).all (fnB ((53,[])::Tab.R))=true:=by kernel_rfl
theorem ajL:(Y2 Tryz.prog).Ok:=acn (dp:=true) okT mixed (Sn _ _) amr
def Yq:cB where
 α:=Unit
 m:=0
 m':=0
 args:=fun _=>[.a .nil]
 res:=fun _ _=>.a .dJ
theorem aeH:fnBody (Y2 Tryz.prog) [] 53 Yq fun _=>[]:=fnBody.of (p :=
 aP (Exists (aD (True/\True)))) (by kernel_rfl) (by
 delta aP aD
 exact fun _ _=>⟨(),trivial,trivial⟩)
theorem Tu:av (Y Tryz.prog).G.X 53 Yq:=bp ajL aeH trivial
def noW:List jv:=[]
def rN(n:bG):s9:=⟨1,n.id,0,n.s.k.m.ay,n.now,n.s.k.m.ready,0,0,0,oN,0,false,gQ,0⟩
structure kC where
 n:bG
 p:dP
def EG:cB where
 α:=kC
 β:=Nat
 m:=14
 m':=17
 pre:=fun a=>a.n.ws=[]
 args:=fun _=>[.a (.ptr 0 0 0 0)]
 hp:=fun a=>[(0,wS .nil 7 1 3 5 6 a.n a.p)]
 ro:=fun a=>[(1,Mh 2 a.n.le),(2,Qv a.n.now),(7,stO 8 9 10 a.n.s.bP),(10,.obj 155 (.ptr 11 0 0 0::Ah a.n.s.k.m))]
 res:=fun _ c=>.agg [.slc 14 0 21 1 c,.slc 15 0 6 0 0]
 eV:=fun a _=>[(14,.arr 45 Gu 1 (aa eo [rN a.n])),(0,wS .nil 7 1 3 16 6 { a.n with ws:=noW } { a.p with wc:=0 }),(16,.arr 125 Gr noW.length (aa iI noW))]
def Yr:An:=.flat 5 Nat (fun s i=>s.int 3 (1+(i:Int))) (fun _ i=>i<=5) (fun _ i=>5-i)
def Bl(x:bG)(y:Prop):=cR x.le.ay x.le.end_ (az x.le.top) (az x.now/\bC (az x.s.bP/\ah (gC x.s.k.m y)))
def Bm(x:nw)(z:Nat->Prop):=(bJ x.l<1000/\bJ x.q<1000)/\∀y:Nat,(bJ x.l=0->y=x.qc)->z y
def KL(x:nw)(y z:Int)(u:bG)(v w t f:Int)(g:ByteArray)(h:Nat->Prop):=bJ x.q=0/\aA (bJ x.l) 1 21 (aV 21 (Ad .i64 y 0 z (fB u.s.k.m.ay) v w 0 (cI t (cI f (bR g::cI 0 (ia (cF false) (bR dx) (bR dx::cI 0 (ia (cF false) jd (ia jd jd (cI 0 (bW jd))))))))))) (aa eo x.l)/\Bm x fun i=>h i
def oO(x:bG):List s9:=[rN x]
def jg(x y:bG)(z u:dP)(v w:Prop):=k8 (0=0) (x.id=y.id) x y z u v w
def QB(v:nw)(y:kC)(w:Nat->Nat->Prop)(t:Nat->Nat->nw->Prop)(f:Nat->Nat->Prop):=KL v 1 0 y.n y.n.now y.n.s.k.m.ready 0 0 dx fun z=>(∃x:Nat,(1:Int)=1+ag x/\bD (aM (w z x)))/\∀x:Nat,x<=5->aK (bF ((1:Int)+ag x) 5) (Exists (Gq none (Exists (aD (cZ (∃u:nw,ah ((0=bJ u.l/\0=u.lc)/\t z x u))))) False)) (f z x)
def xS(x:nw)(y:List s9)(z u:Nat):=ax (bJ (x.to (bJ x.l))) (bJ y) z u
def DJ(x:nw)(y:Nat):=aQ (bJ (x.to (bJ x.l))) y
def Bn(y:nw->Prop):nw->Prop:=fun(x:nw)=>ah (ax 1 (bJ x.l) 1 x.lc/\y x)
def xT(y:List s9)(x:nw):=nM y (x.to (bJ x.l))
theorem Wk:fnBody (Y2 Tryz.prog) [(51,Tr .nil),(53,Yq)] 15 EG fun _=>[(15,[Yr],[])]:=fnBody.of (p :=
 ∀z:kC,z.n.ws=[]->ai z.n.now->Exists (Bn fun x=>jg z.n x.n z.p x.p (0=bJ x.q/\0=x.qc) (QB x z (fun u v=>s8 x.n x.p (DJ x u) (jf (x.to (bJ x.l))/\ah (Bl z.n (bE v 5)))) (fun u v y=>jg x.n y.n x.p y.p (xS x y.q u y.qc) (xT y.q x/\bJ y.l=0/\Bm y fun s=>fe ((1:Int)+ag v)/\∃w:Nat,(1:Int)+ag v+(1:Int)=1+ag w/\bD (aM (jg y.n x.n y.p x.p (xS y (x.to (bJ x.l)) s u) (xT (x.to (bJ x.l)) y/\ah (Bl z.n (bL w 5 v))))))) fun u v=>aI 0 (ag (bU x.n)) (aZ 0 (ag (bU x.n))/\False) (∃y:Nat,dF (bJ (x.to (bJ x.l))) 1 u y (ah (0=0)) 21 (aa eo (x.to (bJ x.l))) (aa eo (oO z.n)) (aM (x.n.id=z.n.id/\ah (di ((0=noW.length/\0=0)/\ax (cw x.n) (cw z.n) x.p.rc z.p.rc/\x.n.asked=z.n.asked/\ah (True/\True))))))))) (by kernel_rfl) (by
 delta k8 cE aK cR aQ aO Ad ai aA az cI aM aN eE cw ia dN fL fB bK p5 aU iA dx aP aZ bJ ag bD Bl bL aq KL dF nM bR bF jd bW gC ah bU cF aI aD di oO jg s8 ax jf QB Bm cZ bC xS DJ Gq Bn bM fe xT bE
 try dsimp -iota -proj only
 rintro⟨n,p⟩ h0 _;have h0:n.ws=[]:=h0;have hr:af 1 21 (aV 21 (eo ⟨1,0,0,n.s.k.m.ay,n.now,n.s.k.m.ready,0,0,0,oN,0,false,gQ,0⟩)) (aa eo [⟨1,0,0,n.s.k.m.ay,n.now,n.s.k.m.ready,0,0,0,oN,0,false,gQ,0⟩]):=.fN fun i hi=>by
  have:i=0:=by omega
  subst this;rfl
 have k0:(0:Nat)<1000:=by omega
 have k1:(1:Nat)<1000:=by omega
 refine⟨nw.mk n p [] 0 [⟨1,0,0,n.s.k.m.ay,n.now,n.s.k.m.ready,0,0,0,oN,0,false,gQ,0⟩] 1,?_⟩
 and_intros<;>first|exact cU|exact hr|exact k1|exact k0|(intro h_;revert h_)|omega|grind|rfl|grind|grind|(dsimp only;omega)|skip
 intro b _;refine⟨⟨0,?_⟩,fun i hi=>⟨fun c1=>⟨none,rfl,fun _=>⟨(),trivial,fun _ _=>⟨nw.mk n p [rN n] b [] 0,?_⟩⟩,fun c=>absurd rfl c⟩,fun c1=>⟨fun c2=>?_,fun c2=>⟨b,?_⟩⟩⟩⟩
 ·grind [af.refl]
 ·have c1:=qi c1;have e1:((nw.mk n p [] 0 [⟨1,0,0,n.s.k.m.ay,n.now,n.s.k.m.ready,0,0,0,oN,0,false,gQ,0⟩] 1).to 1)=[rN n]:=rfl;have e2:((nw.mk n p [rN n] b [] 0).to 0)=[rN n]:=rfl
  and_intros<;>first|exact cU|exact k1|exact k0|(intro h_;revert h_)|omega|grind [af.refl]|rfl|exact af.refl _ _ _|grind|(dsimp only;omega)|skip
  intro b2 hb2;have hb2:b2=b:=hb2 rfl;subst hb2;refine⟨by simp only[bZ];omega,i+1,?_⟩
  grind [af.refl]
 ·grind
 ·and_intros<;>first|exact cU|exact kL|skip)
theorem KM:av (Y Tryz.prog).G.X 15 EG:=bp ajL Wk ⟨aeG,Tu,trivial⟩
end Go.Proofs.YtfjgoonelcaggaaGreat
namespace Go.Proofs.YtfjgoonelcaggaaGreat.Rg
open Go.Sx
def XW(a b:Int):Int:=eW .xor .u64 a b
def w64(a:Int):Int:=uw .u64 a
def adk(x:Int):Int:=w64 (XW x (x/1073741824)*13787848793156543929)
def adl(x:Int):Int:=w64 (XW x (x/134217728)*10723151780598845931)
def adm(x:Int):Int:=XW x (x/2147483648)
def wg(x:Int):Int:=adm (adl (adk x))
def Hp:cB where
 α:=Int
 m:=0
 m':=0
 args:=fun a=>[.a (.int .u64 a)]
 res:=fun a _=>.a (.int .u64 (wg a))
theorem JZ:fnBody (Y Tryz.prog) [] 120 Hp fun _=>[]:=fnBody.of (p :=
 ∀x:Int,Pp x (Rg.wg x)) (by kernel_rfl) (by
 delta bN adn dI aD rA bA Pp
 intro a _;exact⟨by decide,by decide,by decide,(),rfl,trivial,trivial⟩)
theorem Eo:av (Y Tryz.prog).G.X 120 Hp:=bp gf JZ trivial
def qy(h:Int)(b:ByteArray):Nat->Int
 |0=>h
 |i+1=>w64 (wg (XW (qy h b i) ((b.data.getD i 0).toNat:Int))+1)
def ado(h:Int)(b:ByteArray):Int:=wg (XW (qy h b b.size) (w64 (256+w64 b.size)))
def iE(g:Nat->ByteArray):Nat->Int
 |0=>11400714819323198485
 |i+1=>ado (iE g i) (g i)
structure ZQ where
 g:Nat->ByteArray
 n:Nat
 cap:Nat
def zu:cB where
 α:=ZQ
 m:=1
 m':=1
 pre:=fun a=>a.n<100000/\∀i,i<a.n->(a.g i).size<=aB
 args:=fun a=>[.a (.slc 0 0 1 a.n a.cap)]
 ro:=fun a=>[(0,.arr 9 [.str] a.n (fun i _=>.string (a.g i)))]
 res:=fun a _=>.a (.int .u64 (iE a.g a.n))
def ajq(a:ZQ)(i:Nat):An:=.flat 6 Nat (fun s j=>(s.int 15 j).set 3 (.a (.int .u64 (qy (iE a.g i) (a.g i) j)))) (fun _ j=>j<=(a.g i).size) (fun _ j=>(a.g i).size-j)
def ajr(a:ZQ):An:=.mk 3 Nat (fun s i=>(s.int 9 i).set 3 (.a (.int .u64 (iE a.g i)))) (fun _ i=>i<=a.n) (fun _ i=>a.n-i) (fun i=>.mk 60 [ajq a i] [])
theorem FN:fnBody (Y Tryz.prog) [(120,Hp)] 66 zu fun a=>[(66,[ajr a],[])]:=fnBody.of (p :=
 ∀x:Rg.ZQ,(x.n<100000/\∀s:Nat,s<x.n->aT (x.g s)<=aB)->(∃y:Nat,(11400714819323198485:Int)=Rg.iE x.g y/\aS y (FM x.n x.cap (fun z=>x.g z) (bE y x.n)))/\∀y:Nat,fS y x.n ((∃z:Nat,Rg.iE x.g y=Rg.qy (Rg.iE x.g y) (x.g y) z/\aS z (FL (x.g (0+aG y)) y x.n x.cap (fun t=>x.g t) (bE z (aT (x.g y)))))/\∀z:Nat,z<=aT (x.g y)->bS z (aT (x.g (0+aG y))) (aZ (ag z) (ag (aT (x.g (0+aG y))))/\∃v:Int,rA (Rg.qy (Rg.iE x.g y) (x.g y) z) (ag ((x.g (0+aG y)).data.getD (aG z) (0:UInt8)).toNat)=v/\cZ (aY z (∃u:Nat,dI (Rg.wg v+(1:Int))=Rg.qy (Rg.iE x.g y) (x.g y) u/\bw z u (FL (x.g (0+aG y)) y x.n x.cap (fun w=>x.g w) (bL u (aT (x.g y)) z))))) (∃v:Int,rA (Rg.qy (Rg.iE x.g y) (x.g y) z) (dI ((256:Int)+dI (ag (aT (x.g (0+aG y))))))=v/\cZ (aY y (∃u:Nat,Rg.wg v=Rg.iE x.g u/\bw y u (FM x.n x.cap (fun w=>x.g w) (bL u x.n y)))))) (Exists (bN (Rg.iE x.g y=Rg.iE x.g x.n)))) (by kernel_rfl) (by
 delta cE aK cR aQ aO ai aA az aG aN bK aU gI bI bN aP aZ ag aT bL aq dU bR dI aJ aC FL aS fS aI aD uy bf rA aY bA bS cZ FM bw bM bE
 try dsimp -iota -proj only
 intro a h;obtain⟨hn,hs⟩:=h;simp only[mA,Ay];refine⟨⟨0,by and_intros<;>(first|exact trivial|rfl|omega|assumption|exact af.refl _ _ _|(simp only[bZ];omega)|(simp;done)|(simp;omega)|grind)⟩,fun i hi=>⟨fun h1=>?_,fun h1=>?_⟩⟩
 ·have hi':i<a.n:=by simpa using h1
  have hsz:=hs i hi';refine⟨by omega,hi',⟨0,by and_intros<;>(first|exact trivial|rfl|omega|assumption|exact af.refl _ _ _|(simp only[bZ];omega)|(simp;done)|(simp;omega)|grind)⟩,fun j hj=>⟨fun h2=>?_,fun h2=>?_⟩⟩
  ·have hj':j<(a.g i).size:=by simpa using h2
   refine⟨by omega,_,rfl,trivial,fun _ _=>⟨by simp only[bZ,aB]at *;omega,j+1,?_⟩⟩
   and_intros<;>(first|exact trivial|rfl|omega|assumption|exact af.refl _ _ _|(simp only[bZ];omega)|(simp;done)|(simp;omega)|grind)
  ·have hj' : j = (a.g i).size := by have : ¬ j < (a.g i).size := by simpa using h2
                                     omega
   subst hj';refine⟨_,rfl,trivial,fun _ _=>⟨by simp only[bZ];omega,i+1,?_⟩⟩
   and_intros<;>(first|exact trivial|rfl|omega|assumption|exact af.refl _ _ _|(simp only[bZ];omega)|(simp;done)|(simp;omega)|grind)
 ·have hi' : i = a.n := by have : ¬ i < a.n := by simpa using h1
                           omega
  subst hi';exact⟨(),rfl,trivial,trivial⟩)
theorem yu:av (Y Tryz.prog).G.X 66 zu:=bp gf FN ⟨Eo,trivial⟩
def DK(n i:Int):Int:=wg (w64 (n*1000003+i))
def Wl:cB where
 α:=Int×Int
 m:=0
 m':=0
 pre:=fun a=>0<=a.1/\a.1<=100/\0<=a.2/\a.2<=100
 args:=fun a=>[.a (.int .i64 a.1),.a (.int .i64 a.2)]
 res:=fun a _=>.a (.int .u64 (DK a.1 a.2))
theorem aay:fnBody (Y Tryz.prog) [(120,Hp)] 190 Wl fun _=>[]:=fnBody.of (p :=
 ∀x:Int×Int,(0:Int)<=x.fst/\x.fst<=(100:Int)/\cO x.snd 100->sM (x.fst*(1000003:Int)) x.snd (∃y:Int,dI (x.fst*(1000003:Int)+x.snd)=y/\cZ (Exists (bN (Rg.wg y=Rg.DK x.fst x.snd))))) (by kernel_rfl) (by
 delta ai bN aP dI aD cO sM bA cZ
 intro a h;obtain⟨h1,h2,h3,h4⟩:=h;simp only[bZ];exact⟨by omega,by omega,_,rfl,trivial,fun _ _=>⟨(),rfl,trivial,trivial⟩⟩)
theorem aaz:av (Y Tryz.prog).G.X 190 Wl:=bp gf aay ⟨Eo,trivial⟩
end Go.Proofs.YtfjgoonelcaggaaGreat.Rg
namespace Go.Proofs
open Go.Shelf
def Tryz.Wm:Go.Shelf.Ren:=⟨fun|6=>191|15=>189|14=>226|28=>224|29=>225|20=>245|21=>246|22=>247|23=>248|24=>249|25=>250|26=>251|27=>252|46=>263|47=>240|48=>241|49=>264|50=>265|57=>278|n=>n,fun|22=>159|24=>208|25=>286|3=>3|39=>108|0=>0|53=>299|55=>64|4=>4|46=>316|45=>315|50=>321|5=>5|9=>9|66=>336|70=>340|76=>354|77=>248|n=>n,fun|n=>n⟩
theorem Tryz.ajM:Go.Proofs.SlLaysF0.n6 Tryz.prog Tryz.Wm:={
 mixed:=by kernel_rfl
 f6:=⟨Tryz.f191.name,by decide,Tryz.func191.trans (tJ some (by kernel_rfl))⟩
 f14:=⟨Tryz.f226.name,by decide,Tryz.func226.trans (tJ some (by kernel_rfl))⟩
 f15:=Tryz.func189.trans (tJ some (by kernel_rfl))
 f20:=⟨Tryz.f245.name,by decide,Tryz.func245.trans (tJ some (by kernel_rfl))⟩
 f21:=⟨Tryz.f246.name,by decide,Tryz.func246.trans (tJ some (by kernel_rfl))⟩
 f22:=⟨Tryz.f247.name,by decide,Tryz.func247.trans (tJ some (by kernel_rfl))⟩
 f23:=⟨Tryz.f248.name,by decide,Tryz.func248.trans (tJ some (by kernel_rfl))⟩
 f24:=⟨Tryz.f249.name,by decide,Tryz.func249.trans (tJ some (by kernel_rfl))⟩
 f25:=⟨Tryz.f250.name,by decide,Tryz.func250.trans (tJ some (by kernel_rfl))⟩
 f26:=⟨Tryz.f251.name,by decide,Tryz.func251.trans (tJ some (by kernel_rfl))⟩
 f27:=⟨Tryz.f252.name,by decide,Tryz.func252.trans (tJ some (by kernel_rfl))⟩
 f28:=Tryz.func224.trans (tJ some (by kernel_rfl))
 f29:=Tryz.func225.trans (tJ some (by kernel_rfl))
 f46:=⟨Tryz.f263.name,by decide,Tryz.func263.trans (tJ some (by kernel_rfl))⟩
 f47:=Tryz.func240.trans (tJ some (by kernel_rfl))
 f48:=Tryz.func241.trans (tJ some (by kernel_rfl))
 f49:=⟨Tryz.f264.name,by decide,Tryz.func264.trans (tJ some (by kernel_rfl))⟩
 f50:=⟨Tryz.f265.name,by decide,Tryz.func265.trans (tJ some (by kernel_rfl))⟩
 f57:=⟨Tryz.f278.name,by decide,Tryz.func278.trans (tJ some (by kernel_rfl))⟩
 t0:=Tryz.underlying0
 a0:=Tryz.isAgg0
 z0:=Tryz.sizeOf0
 v0:=Tryz.zeroValue0
 t3:=Tryz.underlying3
 a3:=Tryz.isAgg3
 z3:=Tryz.sizeOf3
 v3:=Tryz.zeroValue3
 t4:=Tryz.underlying4
 a4:=Tryz.isAgg4
 z4:=Tryz.sizeOf4
 v4:=Tryz.zeroValue4
 t5:=Tryz.underlying5
 a5:=Tryz.isAgg5
 z5:=Tryz.sizeOf5
 v5:=Tryz.zeroValue5
 t9:=Tryz.underlying9
 a9:=Tryz.isAgg9
 z9:=Tryz.sizeOf9
 v9:=Tryz.zeroValue9
 t22:=Tryz.underlying159
 a22:=Tryz.isAgg159
 z22:=Tryz.sizeOf159
 v22:=Tryz.zeroValue159
 t25:=Tryz.underlying286
 a25:=Tryz.isAgg286
 z25:=Tryz.sizeOf286
 v25:=Tryz.zeroValue286
 t39:=Tryz.underlying108
 a39:=Tryz.isAgg108
 z39:=Tryz.sizeOf108
 v39:=Tryz.zeroValue108
 t45:=Tryz.underlying315
 a45:=Tryz.isAgg315
 z45:=Tryz.sizeOf315
 v45:=Tryz.zeroValue315
 t46:=Tryz.underlying316
 a46:=Tryz.isAgg316
 z46:=Tryz.sizeOf316
 v46:=Tryz.zeroValue316
 t50:=Tryz.underlying321
 a50:=Tryz.isAgg321
 z50:=Tryz.sizeOf321
 v50:=Tryz.zeroValue321
 t53:=Tryz.underlying299
 a53:=Tryz.isAgg299
 z53:=Tryz.sizeOf299
 v53:=Tryz.zeroValue299
 t55:=Tryz.underlying64
 a55:=Tryz.isAgg64
 z55:=Tryz.sizeOf64
 v55:=Tryz.zeroValue64
 t66:=Tryz.underlying336
 a66:=Tryz.isAgg336
 z66:=Tryz.sizeOf336
 v66:=Tryz.zeroValue336
 t70:=Tryz.underlying340
 a70:=Tryz.isAgg340
 z70:=Tryz.sizeOf340
 v70:=Tryz.zeroValue340
 t76:=Tryz.underlying354
 a76:=Tryz.isAgg354
 z76:=Tryz.sizeOf354
 v76:=Tryz.zeroValue354
 t77:=Tryz.underlying248
 a77:=Tryz.isAgg248
 z77:=Tryz.sizeOf248
 v77:=Tryz.zeroValue248 }
end Go.Proofs
namespace Go.Proofs.YtfjgoonelcaggaaGreat.Rg
open Go.Shelf Go.RowKit Go.Lib Go.Sort
def mu(x:Int×Int):List Value:=[.int .u64 x.1,.int .i64 x.2]
def ta(x y:Int×Int):Bool:=decide (x.1<y.1)||(decide (x.1=y.1)&&decide (x.2<y.2))
def wT(x y:Int×Int):Int:=if ta x y then -1 else if ta y x then 1 else 0
theorem Tv(x y:Int×Int)(W:World):Calls Tryz.prog 192 #[.agg #[.int .u64 x.1,.int .i64 x.2],.agg #[.int .u64 y.1,.int .i64 y.2]] W fun e w'=>e = .returned (.int .i64 (wT x y))/\∃q os',w'=grow (W.drewN q) os':=by
 go_enter Tryz.func192,Tryz.ntmps192
 go_wp2
 all_goals go_ret
 all_goals first
  |exact⟨by rw[show wT x y = -1 by grind [wT,ta]];rfl,0,_,by rw[alloc_eq_grow,alloc_eq_grow,alloc_eq_grow,alloc_eq_grow,alloc_eq_grow,alloc_eq_grow,grow_grow,grow_grow,grow_grow,grow_grow,grow_grow];rfl⟩
  |exact⟨by rw[show wT x y = -1 by grind [wT,ta]];rfl,0,_,by rw[alloc_eq_grow,alloc_eq_grow,alloc_eq_grow,alloc_eq_grow,grow_grow,grow_grow,grow_grow];rfl⟩
  |exact⟨by rw[show wT x y=1 by grind [wT,ta]];rfl,0,_,by rw[alloc_eq_grow,alloc_eq_grow,alloc_eq_grow,alloc_eq_grow,alloc_eq_grow,alloc_eq_grow,grow_grow,grow_grow,grow_grow,grow_grow,grow_grow];rfl⟩
  |exact⟨by rw[show wT x y=1 by grind [wT,ta]];rfl,0,_,by rw[alloc_eq_grow,alloc_eq_grow,alloc_eq_grow,alloc_eq_grow,grow_grow,grow_grow,grow_grow];rfl⟩
  |exact⟨by rw[show wT x y=0 by grind [wT,ta]];rfl,0,_,by rw[alloc_eq_grow,alloc_eq_grow,alloc_eq_grow,alloc_eq_grow,alloc_eq_grow,alloc_eq_grow,grow_grow,grow_grow,grow_grow,grow_grow,grow_grow];rfl⟩
  |exact⟨by rw[show wT x y=0 by grind [wT,ta]];rfl,0,_,by rw[alloc_eq_grow,alloc_eq_grow,alloc_eq_grow,alloc_eq_grow,grow_grow,grow_grow,grow_grow];rfl⟩
theorem ald(blk off size:Nat)(w:World):CmpLays Tryz.prog 192 #[] mu 2 wT blk off size w:=fun _ _ _ _ x y=>Tv x y _
theorem ahv(x y:Int×Int):ltOf wT x y=ta x y:=by grind [ltOf,wT]
theorem ale:SWO (ltOf wT) where
 irrefl x:=by rw[ahv];simp[ta]
 trans x y z h1 h2:=by
  rw[ahv]at *;simp only[ta,IE,jB,tB]at *;omega
 ntrans x y z h1 h2:=by
  grind [ahv,ta]
theorem alf(x y:Int×Int)(h1:ltOf wT x y=false)(h2:ltOf wT y x=false):x=y:=by
 grind [ahv,ta]
theorem ajN(blk off cap:Nat)(d:Array (Int×Int))(w:World)(hH:HoldsK mu 2 w blk off d)(hblk:blk<w.heap.size)(hsz:d.size<4611686018427387904) :
 Calls Tryz.prog 191 #[.slice (some ⟨blk,off,none⟩) d.size cap,.func (.func 192) #[] #[]] w fun e w' =>
  e = .returned (.tuple #[])/\∃n os,w'=sortWorldK mu 2 w blk off n (d.toList.mergeSort fun x y=>!(ltOf wT) y x).toArray os :=
 AnyQ.slices_SortFunc_total Tryz.ajM 2 Tryz.isAgg208 Tryz.sizeOf208 mu (fun _=>rfl) (fun x v hv=>by simp[mu]at hv;rcases hv with rfl|rfl<;>rfl) wT ale 192 #[] blk off cap d w
  (enters_of Tryz.func192 (by kernel_rfl) rfl) (ald _ _ _ _) hH hblk hsz alf
end Go.Proofs.YtfjgoonelcaggaaGreat.Rg
namespace Go.Sx
section
open Go.Sort Go.Proofs
variable{β:Type}
def KN[Inhabited β](ty:TypeId)(ks:List CK)(enc:β->List Value)(g:Nat)(srt:List β->List β):cB where
 α:=Yg β
 β:=Unit
 m:=1
 m':=1
 pre:=fun a=>a.l.length<100000/\1<=a.l.length
 args:=fun a=>[.a (.slc 0 0 ks.length a.l.length a.cap),.a (.fn g)]
 hp:=fun a=>[(0,.arr ty ks a.l.length (aa enc a.l))]
 ro:=fun _=>[]
 post:=fun _ _=>True
 res:=fun _ _=>.nR []
 eV:=fun a _=>[(0,.arr ty ks a.l.length (aa enc (srt a.l)))]
theorem aaA{l:List Value}{j:Nat}(h:j<l.length):l[j]! = l.getD j undef:=by
 grind
theorem aaB[Inhabited β]{X:Cx}{f g:Nat}{ty:TypeId}{ks:List CK}{enc:β->List Value}{srt:List β->List β}(hk:∀x,(enc x).length=ks.length)(hk0:0<ks.length)
 (hlen:∀l,(srt l).length=l.length) (hin:∀l x,x∈srt l->x∈l)
 (hcall:∀(blk off cap:Nat) (d:Array β) (w:World),HoldsK enc ks.length w blk off d->blk<w.heap.size->d.size<4611686018427387904 ->
  Calls X.P f #[.slice (some ⟨blk,off,none⟩) d.size cap,.func (.func g) #[] #[]] w fun e w'=>e = .returned (.tuple #[])/\∃n os,w'=sortWorldK enc ks.length w blk off n (srt d.toList).toArray os) :
 gN X (KN ty ks enc g srt) f:=by
 intro a hpre M ρ w vs hn hh hargs;obtain⟨l,cap⟩:=a;obtain⟨hp1,hp2⟩:=hpre;obtain⟨v,vs',rfl,hv,v2,vs2,rfl,hv2,rfl⟩:=hargs;have hv2':v2 = .func (.func g) #[] #[]:=hv2;subst hv2';obtain⟨hT,hlc,hcm,hv⟩:=hv;have he:=hh.jk ⟨0,true,.arr ty ks l.length (aa enc l)⟩ (by simp[ql,KN]);have hsat:=he.ch;simp only at hsat hlc hcm hv hT hp1 hp2;rcases hsat with⟨h0,_⟩ | ⟨vs0,ty',fr,hb,h1,h2,h3,h4,h5⟩
 ·omega
 have hlt:(ρ.pl 0).blk<w.heap.size:=he.lt _ ((h4 _).2 rfl);rcases hv with⟨g1,_,_⟩ | ⟨o,rfl,ho⟩
 ·omega
 obtain⟨rfl,_⟩:=ho (by omega);simp only[zBt,EZ]at *;have hcell:∀t,t<l.length*ks.length->vs0[(ρ.pl 0).off+t]? = some ((enc (gl l (t/ks.length))).getD (t%ks.length) undef):=by
  intro t ht;have hm:t%ks.length<ks.length:=Nat.mod_lt _ hk0;have hi:t/ks.length<l.length:=zBx (by grind);obtain⟨q,_⟩:=h5 (t/ks.length) hi (t%ks.length) (ks[t%ks.length]) (IC hm);have e:(ρ.pl 0).off+t/ks.length*ks.length+t%ks.length=(ρ.pl 0).off+t:=by
   have:=Nat.div_add_mod t ks.length;rw[Nat.mul_comm]at this;omega
  rw[e]at q;exact q
 have hsz0:(ρ.pl 0).off+l.length*ks.length<=vs0.size:=YP (Nat.add_le_add_left (xz _ h2) _) h1;have hnk:l.length*ks.length<=(ρ.pl 0).N*ks.length:=xz _ h2;have hHolds:HoldsK enc ks.length w (ρ.pl 0).blk (ρ.pl 0).off l.toArray:=by
  intro t ht;have ht':t<l.length*ks.length:=by simpa using ht
  have hm:t%ks.length<ks.length:=Nat.mod_lt _ hk0;have hi:t/ks.length<l.length:=zBx (by grind);refine⟨?_,?_⟩
  ·simp only[World.cell?,hb];rw[hcell t ht',get_flatK _ _ _ t (by omega)];have e:(l.toArray)[t/ks.length]! = gl l (t/ks.length):=by rw[getElem!_pos _ _ (by simpa using hi),b8 hi];simp
   grind
  ·simp only[World.frozen?,hb];have:=h3 ((ρ.pl 0).off+t) (by omega) (by omega)
   grind
 have hcalls:=hcall (ρ.pl 0).blk (ρ.pl 0).off cap l.toArray w hHolds hlt (by simp;omega);simp only[List.size_toArray]at hcalls;refine hcalls.mono ?_;rintro e w' ⟨rfl,n,os,rfl⟩;refine⟨_,rfl,(),ρ,trivial,hn,fun _ _=>rfl,⟨[],rfl,rfl⟩,?_⟩;obtain⟨F,hF⟩:∃F,F=flatK enc ks.length (srt l).toArray:=⟨_,rfl⟩
 have hFs:F.size=l.length*ks.length:=by rw[hF];simp[hlen]
 have hw:sortWorldK enc ks.length w (ρ.pl 0).blk (ρ.pl 0).off n (srt l).toArray os=grow (putRow id (Sort.ahead w n) (ρ.pl 0).blk (ρ.pl 0).off F) os:=by rw[hF];rfl
 rw[hw];have hheap:∀b,b<w.heap.size->(grow (putRow id (Sort.ahead w n) (ρ.pl 0).blk (ρ.pl 0).off F) os).heap[b]? = (w.heap.modify (ρ.pl 0).blk (onCells (putCells id (ρ.pl 0).off F)))[b]?:=by
  intro b hb';rw[heap_grow_old _ _ (by simpa using hb')];rfl
 have hblk:(grow (putRow id (Sort.ahead w n) (ρ.pl 0).blk (ρ.pl 0).off F) os).heap[(ρ.pl 0).blk]? = some (.cells (putCells id (ρ.pl 0).off F vs0) ty' fr):=by
  rw[hheap _ hlt,zBv,if_pos rfl,hb];rfl
 have hoth:∀b,b<w.heap.size->b≠(ρ.pl 0).blk->(grow (putRow id (Sort.ahead w n) (ρ.pl 0).blk (ρ.pl 0).off F) os).heap[b]? = w.heap[b]?:=by
  intro b hb' hne;rw[hheap b hb',zBv,if_neg (fun h=>hne h.symm)]
 refine⟨⟨rfl,rfl,rfl,?_,fun b hb' hm=>?_,fun ad had=>?_⟩,?_,?_⟩
 ·simp
 ·exact hoth b hb' fun e=>hm (he.own rfl b ((h4 b).2 e) hb')
 ·rw[frozen?_grow _ _ _ (by simpa using had),frozen?_putRow,frozen?_ahead]
 ·intro e' he';have:e'=⟨0,true,.arr ty ks l.length (aa enc (srt l))⟩:=by simpa[ql,KN]using he'
  subst this;refine⟨he.tag,?_,fun b hb'=>?_,he.own⟩
  ·refine .inr ⟨_,ty',fr,hblk,?_,h2,?_,h4,fun i hi j kk hj=>?_⟩
   ·grind [putCells]
   ·simpa using h3
   ·have hjl:j<ks.length:=(Cj.1 hj).1;have hi':i<(srt l).length:=by rw[hlen];exact hi
    have hmem:gl (srt l) i∈l:=hin l _ (Ju hi');have ht:i*ks.length+j<l.length*ks.length:=by
     have:=xz ks.length hi;rw[Nat.succ_mul]at this;omega
    have d1:(i*ks.length+j)/ks.length=i:=by
     rw[Nat.mul_comm,Nat.mul_add_div hk0,Nat.div_eq_of_lt hjl,EZ]
    have d2:(i*ks.length+j)%ks.length=j:=by
     rw[Nat.mul_comm,Nat.mul_add_mod,Nat.mod_eq_of_lt hjl]
    refine⟨?_,?_⟩
    ·have hc:=hcell (i*ks.length+j) ht;rw[<- T8]at hc;simp only[putCells,Array.getElem?_mapIdx,hc,zBU,hFs];rw[if_pos ⟨by omega,by omega⟩,show(ρ.pl 0).off+i*ks.length+j-(ρ.pl 0).off=i*ks.length+j by omega];rw[hF,get_flatK _ _ _ _ (by grind),d1,d2];have e:((srt l).toArray)[i]! = gl (srt l) i:=by rw[getElem!_pos _ _ (by omega),b8 hi'];simp
     rw[e,aaA (by grind)];rfl
    grind [List.getElem_of_mem,aa,b8]
  grind
 ·simp[ql,KN]
end
end Go.Sx
namespace Go.Proofs.YtfjgoonelcaggaaGreat.Rg
open Go.Sx
def encI(p:Int):List Value:=[.int .i64 p]
def EH(l:List Int)(i:Nat):Bool:=decide (1<=gl l i)&&decide (gl l i<=5)&&(decide (i=0)||decide (gl l (i-1)<gl l i))
def yA(l:List Int):Nat->Bool
 |0=>true
 |i+1=>yA l i&&EH l i
def jE(l:List Int):Bool:=yA l l.length&&decide (0<l.length)
theorem Tw{l:List Int}:∀ {i j:Nat},yA l i=true->j<i->EH l j=true
 |i+1,j,h,hj=>by
  simp only[yA,jB]at h;by_cases e:j=i
  ·grind
  ·exact Tw h.1 (by omega)
theorem HD{l:List Int}{j:Nat}(h:EH l j=false):∀ {i:Nat},j<i->yA l i=false
 |i+1,hj=>by
  simp only[yA,Bool.and_eq_false_iff];by_cases e:j=i
  ·grind
  ·exact .inl (HD h (by omega))
variable{l:List Int}
theorem Iu(h:jE l=true){j:Nat}(hj:j<l.length):1<=gl l j/\gl l j<=5/\(j=0\/gl l (j-1)<gl l j):=by
 simp only[jE,jB]at h;have:=Tw h.1 hj;simpa[EH,and_assoc]using this
theorem Tx(h:jE l=true):0<l.length:=by
 simp only[jE,jB,tB]at h;exact h.2
theorem KO{l:List Int}(h:jE l=true):∀j,j<l.length->(j:Int)+1<=gl l j
 |0,hj=>by have:=Iu h hj;omega
 |j+1,hj=>by
  have h1:=KO h j (by omega);have h2:=Iu h hj
  grind
theorem tZ(h:jE l=true):l.length<=5:=by
 have h0:=Tx h;have h1:=KO h (l.length-1) (by omega);have h2:=Iu h (show l.length-1<l.length by omega);omega
structure me where
 l:List Int
 cap:Nat
def C6:cB where
 α:=me
 m:=1
 m':=1
 pre:=fun a=>a.l.length<100000
 args:=fun a=>[.a (.slc 0 0 1 a.l.length a.cap)]
 ro:=fun a=>[(0,.arr 3 [.int .i64] a.l.length (aa encI a.l))]
 res:=fun a _=>.a (.bool (jE a.l))
def ams(k slot:Nat)(a:me):An:=.flat k Nat (fun s i=>s.int slot i) (fun _ i=>i<=a.l.length/\yA a.l i=true) (fun _ i=>a.l.length-i)
def _root_.Wn(y:Nat)(x:Rg.me):=bQ y fun z=>dU (aj x.l) x.cap (bD (aQ (aj x.l) x.cap/\iq x.l Rg.encI/\dG z (aj x.l) (aq (Rg.yA x.l z)) y))
theorem Ox:fnBody (Y Tryz.prog) [] 56 C6 fun a=>[(56,[ams 2 7 a],[])]:=fnBody.of (p :=
 ∀x:Rg.me,aj x.l<100000->(∃y:Nat,aS y (dU (aj x.l) x.cap (bD (aQ (aj x.l) x.cap/\iq x.l Rg.encI/\(y<=aj x.l/\aq (Rg.yA x.l y))/\True))))/\∀y:Nat,mZ y (aj x.l) (aq (Rg.yA x.l y)) (Gk (gl x.l (0+aG y)) 1 (false=Rg.jE x.l) 5 (aI 0 (ag y) (qw y/\mR (ag y-(1:Int)) (aj x.l) (ai (gl x.l (0+aC (ag y-(1:Int))))->aK (bF (gl x.l (0+aG y)) (gl x.l (0+aC (ag y-(1:Int))))) (l6 (Rg.jE x.l)) (Wn y x))) (Wn y x))) (Exists (bN (aN 0 (ag (aj x.l))=Rg.jE x.l)))) (by kernel_rfl) (by
 delta cE aK aQ aO aj ai aA az aG aN mR bK aU gI bI bN aZ jo ag bD dG aq dU bQ bF dS aC aS aI aD iq mZ bf Gk aY bA bS l6 Wn bw bM qw
 try dsimp -iota -proj only
 intro a h;simp only[mA,Ay,bZ];refine⟨⟨0,?_⟩,fun i ⟨i1,i2⟩=>⟨fun c1=>?_,fun c1=>⟨(),?_,trivial,trivial⟩⟩⟩
 ·and_intros<;>first|rfl|trivial|exact cW _|omega|(dsimp only;omega)|exact af.refl _ _ _
 ·simp only[tB]at c1;have hi:i<a.l.length:=by omega
  have hpre:((i:Int)-1).toNat=i-1:=by omega
  rw[hpre];have bad:EH a.l i=false->false=jE a.l:=fun e=>by grind [jE,HD]
  have good:EH a.l i=true->yA a.l (i+1)=true:=fun e=>by grind [yA]
  repeat' (first|intro _|apply And.intro|apply Exists.intro (i+1:Nat)|apply Exists.intro ())
  all_goals(try with_reducible rfl)
  all_goals(try exact trivial)
  all_goals(try simp only[tB,decide_eq_false_iff_not]at *)
  all_goals(try omega)
  all_goals(try exact af.refl _ _ _)
  all_goals first
   |grind [EH]
   |exact good (by simp only[EH,jB,IE,tB];omega)
 ·simp only[decide_eq_false_iff_not]at c1;have e:i=a.l.length:=by omega
  grind [jE])
theorem pn:av (Y Tryz.prog).G.X 56 C6:=bp gf Ox trivial
def QC:List CK:=[.int .u64,.int .i64]
def Ax(n:Int)(k:Nat):List (Int×Int):=(List.range k).map fun j:Nat=>(DK n (j:Int),n)
def jT(l:List Int):List (Int×Int):=l.flatMap fun n=>Ax n 8
def EI(l:List (Int×Int)):List (Int×Int):=l.mergeSort fun x y=>!(Go.Proofs.ltOf wT) y x
def lW(l:List Int):List (Int×Int):=if jE l then EI (jT l)else[]
def QD:cB:=KN 208 QC mu 192 EI
theorem aeI(blk off cap:Nat)(d:Array (Int×Int))(w:World)(hH:Go.Sort.HoldsK mu QC.length w blk off d)(hblk:blk<w.heap.size)(hsz:d.size<4611686018427387904) :
 Calls Tryz.prog 191 #[.slice (some ⟨blk,off,none⟩) d.size cap,.func (.func 192) #[] #[]] w fun e w' =>
  e = .returned (.tuple #[])/\∃n os,w'=Go.Proofs.sortWorldK mu QC.length w blk off n (EI d.toList).toArray os:=ajN blk off cap d w hH hblk hsz
theorem EJ(l:List (Int×Int)):(EI l).length=l.length:=List.length_mergeSort _
theorem KP(l:List (Int×Int)):(EI l).Perm l:=List.mergeSort_perm _ _
theorem aaC:gN (Y Tryz.prog).G.X QD 191 :=
 aaB (ks:=QC) (enc:=mu) (g:=192) (srt:=EI) (fun _=>rfl) (by decide) EJ (fun l x hx=>(KP l).mem_iff.1 hx) aeI
theorem Wo:av (Y Tryz.prog).G.X 191 QD:=fun _ _ _ h=>y6 aaC h
def QE:cB where
 α:=me
 β:=Nat
 m:=1
 m':=2
 pre:=fun a=>a.l.length<100000
 args:=fun a=>[.a (.slc 0 0 1 a.l.length a.cap)]
 ro:=fun a=>[(0,.arr 3 [.int .i64] a.l.length (aa encI a.l))]
 res:=fun a cap=>.a (.slc 1 0 2 (lW a.l).length cap)
 eV:=fun a _=>[(1,.arr 208 QC (lW a.l).length (aa mu (lW a.l)))]
def alg(a:me)(i:Nat):An:=.flat 8 (Nat×Nat) (fun s x=>((s.at_ (s.tg 3) (.arr 208 QC (jT (a.l.take i)++Ax (gl a.l i) x.1).length (aa mu (jT (a.l.take i)++Ax (gl a.l i) x.1)))).set 3 (.a (.slc (s.tg 3) 0 2 (jT (a.l.take i)++Ax (gl a.l i) x.1).length x.2))).int 16 x.1)
 (fun _ x=>x.1<=8) (fun _ x=>8-x.1)
def amt(a:me):An:=.mk 5 (Nat×Nat) (fun s x=>((s.new (.arr 208 QC (jT (a.l.take x.1)).length (aa mu (jT (a.l.take x.1))))).set 3 (.a (.slc s.nx 0 2 (jT (a.l.take x.1)).length x.2))).int 12 x.1)
 (fun _ x=>x.1<=a.l.length) (fun _ x=>a.l.length-x.1) fun x=>.mk 60 [alg a x.1] []
theorem aaD(n:Int)(k:Nat):Ax n (k+1)=Ax n k++[(DK n k,n)]:=by
 grind [Ax,List.range_succ]
theorem HE(n:Int)(k:Nat):(Ax n k).length=k:=by simp[Ax]
theorem Ty{i:Nat}(h:i<l.length):jT (l.take (i+1))=jT (l.take i)++Ax (gl l i) 8:=by
 grind [jT,gU]
theorem tH:∀l:List Int,(jT l).length=8*l.length
 |[]=>rfl
 |a::l=>by
  have:=tH l
  grind [jT,HE]
def _root_.Gv(x:Nat×Nat)(y:Rg.me):List (Int×Int):=Rg.jT (List.take x.fst y.l)
def _root_.tf(x:Nat×Nat)(y:Rg.me)(z:Nat×Nat):List (Int×Int):=Gv x y++Rg.Ax (gl y.l x.fst) z.fst
def _root_.rO(y:List Int)(z:Nat)(u:Rg.me->Prop):Rg.me->Prop:=fun(x:Rg.me)=>mX y x.l z x.cap Rg.encI (aj x.l<100000) (u x)
def _root_.zK(x:Nat×Nat)(y:Rg.me):Nat:=List.length (Gv x y)
def _root_.KQ(y x:Rg.me)(z u:Prop):=aO (bg (Rg.jE y.l))/\aQ (aj x.l) x.cap/\z/\iq x.l Rg.encI/\u
theorem aaE:fnBody (Y Tryz.prog) [(56,C6),(190,Wl),(191,QD)] 152 QE fun a=>[(152,[amt a],[])]:=fnBody.of (p :=
 ∀x:Rg.me,aj x.l<100000->Exists (rO x.l x.cap fun w=>aP (aK (bg (Rg.jE w.l)) (OB (Rg.lW x.l).length) (jM (fun y=>(0=zK y x/\0=y.snd)/\dU (aj x.l) x.cap (KQ w x (zK y x=0) (bE y.fst (aj x.l)))) fun y=>fS y.fst (aj x.l) (ai (gl x.l (0+aG y.fst))->jM (fun z=>ax (zK y x) (List.length (tf y x z)) y.snd z.snd/\az (gl x.l (0+aG y.fst))/\uy y.fst (aj x.l) (aQ (aj x.l) x.cap) (KQ w x (aA (List.length (tf y x z)) (zK y x) 2 (aa Rg.mu (Gv y x)) (aa Rg.mu (tf y x z))) (bE z.fst 8))) fun z=>z.fst<=8->aI (ag z.fst) 8 (∃u:Int×Int,gl x.l (0+aG y.fst)=u.fst/\ag z.fst=u.snd/\((0:Int)<=u.fst/\u.fst<=(100:Int)/\cO u.snd 100)/\aP (zF (List.length (tf y x z)) 16 z (fun s=>List.length (tf y x s)) fun s=>az (gl x.l (0+aG y.fst))/\uy y.fst (aj x.l) (aQ (aj x.l) x.cap) (KQ w x (iO (List.length (tf y x s)) (List.length (tf y x z)) 2 (aa Rg.mu (tf y x z)) (p5 .u64 (Rg.DK u.fst u.snd) (gm (gl x.l (0+aG y.fst)))) (aa Rg.mu (tf y x s))) (bL s.fst 8 z.fst)))) (iP y fun u=>ax (List.length (tf y x z)) (zK u x) z.snd u.snd/\dU (aj x.l) x.cap (KQ w x (aA (zK u x) (List.length (tf y x z)) 2 (aa Rg.mu (tf y x z)) (aa Rg.mu (Gv u x))) (bL u.fst (aj x.l) y.fst)))) (∃(v:Yg (Int×Int)),iQ (zK y x) v.l.length y.snd v.cap 2 (aa Rg.mu (Gv y x)) (aa Rg.mu v.l) (v.l.length<100000 /\
 1<=v.l.length) (aP (∃z:Nat,ax (zK y x) (Rg.lW x.l).length y.snd z/\bA (aA (Rg.lW x.l).length v.l.length 2 (aa Rg.mu (Rg.EI v.l)) (aa Rg.mu (Rg.lW x.l)))))))))) (by kernel_rfl) (by
 delta cE aK cR aQ aO aj ai aA az cI aG gq aN fB bK p5 aU dr gI bI aP aZ ag jF iO bL aq dU iQ iP mX aC tf ah aS fS aI iq uy cO rO bf bg zK aY ax gm bA cN bS ja KQ eu zF jM bw bM dc bE Gv OB
 try dsimp -iota -proj only
 intro a h;refine⟨⟨a.l,a.cap⟩,?_⟩
 and_intros<;>first|rfl|trivial|exact cW _|omega|(dsimp only;omega)|exact af.refl _ _ _|skip
 refine fun _ _=>⟨fun c0=>⟨0,?_⟩,fun c0=>?_⟩
 ·grind [lW]
 have hm:jE a.l=true:=by simpa using c0
 have hl:=tZ hm;have hl0:=Tx hm;have e:lW a.l=EI (jT a.l):=if_pos hm;simp only[mA,Ay,bZ];refine⟨⟨(0,0),?_⟩,fun x hx=>⟨fun c1=>?_,fun c1=>?_⟩⟩
 ·grind [jT,af.refl]
 ·obtain⟨i,cap⟩:=x;dsimp only at c1 hx ⊢;simp only[tB]at c1;have hi:i<a.l.length:=by omega
  have hb:=Iu hm hi;have hr:=tH (a.l.take i);rw[zBj]at hr;refine⟨by omega,by omega,fun _=>⟨⟨(0,cap),?_⟩,fun y hy=>⟨fun c2=>?_,fun c2=>?_⟩⟩⟩
  ·grind [Ax,af.refl]
  ·obtain⟨k,c⟩:=y;dsimp only at c2 hy ⊢;simp only[tB]at c2;have hk:k<8:=by omega
   have hn:(jT (a.l.take i)++Ax (gl a.l i) k).length=8*min i a.l.length+k:=by rw[wM,HE,hr]
   have hs:jT (a.l.take i)++Ax (gl a.l i) (k+1)=(jT (a.l.take i)++Ax (gl a.l i) k)++[(DK (gl a.l i) k,gl a.l i)]:=by rw[aaD,zAY]
   have hn1:((jT (a.l.take i)++Ax (gl a.l i) k)++[(DK (gl a.l i) k,gl a.l i)]).length=(jT (a.l.take i)++Ax (gl a.l i) k).length+1:=wM;refine⟨(gl a.l i,(k:Int)),rfl,rfl,⟨by omega,by omega,by omega,by omega⟩,fun _ _=>⟨by omega,by omega,by omega,fun c3 _ _ _=>⟨by omega,⟨(k+1,c3),?_⟩⟩⟩⟩;dsimp only;rw[hs,hn1]
   and_intros<;>first|rfl|trivial|exact cW _|omega|(dsimp only;omega)|exact af.refl _ _ _|exact .push rfl (by omega) rfl
  ·obtain⟨k,c⟩:=y;dsimp only at c2 hy ⊢;simp only[decide_eq_false_iff_not]at c2;have hk:k=8:=by omega
   subst hk;have hs:=Ty hi;refine⟨by omega,⟨(i+1,c),?_⟩⟩
   grind [af.refl]
 ·obtain⟨i,cap⟩:=x;dsimp only at c1 hx ⊢;simp only[decide_eq_false_iff_not]at c1;have hi:i=a.l.length:=by omega
  subst hi;have hr:=tH a.l;have hsl:=EJ (jT a.l);rw[zBd,e];refine⟨⟨jT a.l,cap⟩,?_⟩
  grind [af.refl])
theorem Gw:av (Y Tryz.prog).G.X 152 QE:=bp gf aaE ⟨pn,aaz,Wo,trivial⟩
theorem aeJ{n:Int}{k:Nat}{e:Int×Int}(h:e∈Ax n k):e.2=n:=by
 obtain⟨j,_,rfl⟩:=kj.1 h;rfl
theorem aeK(h:jE l=true):lW l=EI (jT l):=if_pos h
theorem KR(h:jE l=true):(lW l).Perm (jT l):=by grind [aeK,KP]
theorem QF(h:jE l=true):(lW l).length=8*l.length:=by rw[(KR h).length_eq,tH]
theorem aeL{n:Int}(h1:1<=n)(h2:n<=5):jE [n]=true:=by grind [jE,yA,EH,gl]
def Bo(L:List (Int×Int))(h:Int):Int:=match L.find? (fun e=>decide (h<=e.1))with|some e=>e.2|none=>(gl L 0).2
theorem aaF{α:Type}{p:α->Bool}{L:List α}{k:Nat}{x:α}(h:(L.take k).find? p=some x):L.find? p=some x:=by
 grind [List.take_append_drop]
variable{h:Int}{i:Nat}
theorem aeM{L:List (Int×Int)}(hi:i<L.length)(h1:(L.take i).find? (fun e=>decide (h<=e.1))=none)(h2:h<=(gl L i).1):Bo L h=(gl L i).2:=by
 have:L.find? (fun e=>decide (h<=e.1))=some (gl L i):=by
  refine aaF (k:=i+1) ?_;rw[gU hi,List.find?_append,h1];simp[h2]
 grind [Bo]
theorem aaG{L:List (Int×Int)}(h1:L.find? (fun e=>decide (h<=e.1))=none):Bo L h=(gl L 0).2:=by
 grind [Bo]
theorem FO{L:List (Int×Int)}(hi:i<L.length)(h1:(L.take i).find? (fun e=>decide (h<=e.1))=none)(h2:¬h<=(gl L i).1):(L.take (i+1)).find? (fun e=>decide (h<=e.1))=none:=by
 grind [gU]
structure dy where
 e:Int
 l:List Int
 c1:Nat
 L:List (Int×Int)
 c2:Nat
def Wp(a:dy):List (Nat×Chunk):=[(0,.obj 161 [.int .i64 a.e,.slc 1 0 1 a.l.length a.c1,.slc 2 0 2 a.L.length a.c2]),(1,.arr 3 [.int .i64] a.l.length (aa encI a.l)),(2,.arr 208 QC a.L.length (aa mu a.L))]
structure Gy where
 r:dy
 h:Int
def Wq:cB where
 α:=Gy
 m:=3
 m':=3
 pre:=fun a=>a.r.L.length<100000/\0<a.r.L.length
 args:=fun a=>[.a (.ptr 0 0 0 0),.a (.int .u64 a.h)]
 ro:=fun a=>Wp a.r
 res:=fun a _=>.a (.int .i64 (Bo a.r.L a.h))
def ajO(a:Gy):An:=.flat 4 Nat (fun s i=>s.int 14 i) (fun _ i=>i<=a.r.L.length/\(a.r.L.take i).find? (fun e=>decide (a.h<=e.1))=none) (fun _ i=>a.r.L.length-i)
def _root_.wD(x:Rg.dy)(y:Prop):=aQ x.L.length x.c2/\iq x.l Rg.encI/\cE x.L.length 2 (aa Rg.mu x.L)/\y
def _root_.QG(x:Rg.Gy)(y:Nat):=List.find? (fun z=>bF x.h z.fst) (List.take y x.r.L)=none
def _root_.Wr(x:Rg.Gy)(y:Prop):=dU x.r.L.length x.r.c2 (lB (cR x.h x.r.e (aQ (aj x.r.l) x.r.c1) (wD x.r y)))
theorem aaH:fnBody (Y Tryz.prog) [] 78 Wq fun a=>[(78,[ajO a],[])]:=fnBody.of (p :=
 ∀x:Rg.Gy,x.r.L.length<100000/\0<x.r.L.length->(∃y:Nat,aS y (Wr x ((y<=x.r.L.length/\QG x y)/\True)))/\∀y:Nat,mZ y x.r.L.length (QG x y) (bZ .u64 (gl x.r.L (0+aG y)).fst->aK (bF x.h (gl x.r.L (0+aG y)).fst) (xL (gl x.r.L (0+aG y)).snd (Rg.Bo x.r.L x.h)) (bQ y fun z=>Wr x (dG z x.r.L.length (QG x z) y))) (dS 0 x.r.L.length 0 (xL (gl x.r.L 0).snd (Rg.Bo x.r.L x.h)))) (by kernel_rfl) (by
 delta cE aK cR aQ aO aj ai aA az aG aN bK aU gI bI bN aZ ag bD wD dG aq dU bQ bF dS aJ aC ah aS aI aD iq mZ bf aY bA xL bS lB QG Wr bw bM
 try dsimp -iota -proj only
 rintro⟨⟨e,l,c1,L,c2⟩,h⟩ ⟨h1,h2⟩;dsimp only at h1 h2 ⊢;simp only[mA,Ay,bZ];refine⟨⟨0,?_⟩,fun i ⟨i1,i2⟩=>⟨fun d1=>?_,fun d1=>?_⟩⟩
 ·grind [af.refl]
 ·simp only[tB]at d1;have hi:i<L.length:=by omega
  refine⟨by omega,hi,fun _=>⟨fun d2 _=>⟨(),?_,trivial,trivial⟩,fun d2=>⟨by omega,i+1,?_⟩⟩⟩
  ·simp only[tB]at d2
   grind [aeM]
  grind [decide_eq_false_iff_not,FO,af.refl]
 ·simp only[decide_eq_false_iff_not]at d1;have hi:i=L.length:=by omega
  grind [aaG])
theorem aaI:av (Y Tryz.prog).G.X 78 Wq:=bp gf aaH trivial
structure QH where
 r:dy
 key:ByteArray
def aeN:cB where
 α:=QH
 m:=3
 m':=3
 pre:=fun a=>a.r.L.length<100000/\0<a.r.L.length/\a.key.size<=aB
 args:=fun a=>[.a (.ptr 0 0 0 0),.a (.str a.key)]
 ro:=fun a=>Wp a.r
 res:=fun a _=>.a (.int .i64 (Bo a.r.L (iE (fun _=>a.key) 1)))
def _root_.qd(u:Int)(x:Rg.dy)(y:List Int)(v:Nat)(z:List (Int×Int))(w:Nat)(s t:Prop):=u=x.e/\cN y x.l v x.c1/\dF z.length x.L.length w x.c2 (dr x.l y Rg.encI) 2 (aa Rg.mu z) (aa Rg.mu x.L) (s/\t)
def _root_.nA(x y:Rg.dy)(z u:Prop):=qd x.e y x.l x.c1 x.L x.c2 z u
def _root_.uM(x:Rg.dy)(y:Prop):=x.L.length<100000/\0<x.L.length/\y
def _root_.uN(x:Rg.QH):Int:=Rg.Bo x.r.L (Rg.iE (fun y=>x.key) 1)
theorem Ws:fnBody (Y Tryz.prog) [(66,zu),(78,Wq)] 44 aeN fun _=>[]:=fnBody.of (p :=
 ∀z:Rg.QH,uM z.r (aT z.key<=aB)->∃y:Rg.ZQ,iQ 1 y.n 1 y.cap 1 (aV 1 (bW (bR z.key))) (fun x u=>bR (y.g x)) (y.n<100000/\∀x:Nat,x<y.n->aT (y.g x)<=aB) (aP (∃x:Rg.Gy,ah (Rg.iE y.g y.n=x.h/\nA z.r x.r (x.r.L.length<100000/\0<x.r.L.length) (aP (Exists (bN (Rg.Bo x.r.L x.h=uN z)))))))) (by kernel_rfl) (by
 delta qd aj aA dr bN aP nA aT dF bR iQ bW ah aD uM uN ax bA cN dc
 try dsimp -iota -proj only
 rintro⟨⟨e,l,c1,L,c2⟩,key⟩ ⟨h1,h2,h3⟩;dsimp only at h1 h2 h3 ⊢;have hr:af 1 1 (aV 1 [Go.Value.string key]) (fun(i x:Nat)=>Go.Value.string key):=.fN fun i hi=>by
  have:i=0:=by omega
  subst this;rfl
 refine⟨⟨fun _=>key,1,1⟩,?_⟩
 (and_intros<;>first|exact MG|skip)
 refine fun _ _=>⟨⟨⟨e,l,c1,L,c2⟩,iE (fun _=>key) 1⟩,?_⟩
 grind [af.refl])
theorem DL:av (Y Tryz.prog).G.X 44 aeN:=bp gf Ws ⟨yu,aaI,trivial⟩
def QI:cB where
 α:=me
 β:=Nat
 m:=1
 m':=2
 pre:=fun a=>a.l.length<100000
 args:=fun a=>[.a (.slc 0 0 1 a.l.length a.cap)]
 ro:=fun a=>[(0,.arr 3 [.int .i64] a.l.length (aa encI a.l))]
 res:=fun a cap=>.a (.slc 1 0 1 a.l.length cap)
 eV:=fun a _=>[(1,.arr 3 [.int .i64] a.l.length (aa encI a.l))]
theorem aaJ:fnBody (Y Tryz.prog) [] 151 QI fun _=>[]:=fnBody.of (p :=
 ∀x:Rg.me,aj x.l<100000->Qa x.l (fun y=>True) 8 Rg.encI fun y=>True) (by kernel_rfl) (by
 delta aK aj aA gq aU aq iQ ah Qa ax qu vY vR eu Dp
 try dsimp -iota -proj only
 rintro⟨l,cap⟩ h;dsimp only at h ⊢;have hr:af l.length 1 (bq (aV 1 []) 0 0 fun(i j:Nat)=>aa encI l (0+i) j) (aa encI l):=by
  have:=af.app (enc:=encI) (n:=l.length) (m:=1) (s:=0) (l:=[]) (q:=l) (r0:=aV 1 []) (r1:=fun(i j:Nat)=>aa encI l (0+i) j) (k:=0) rfl .zero (.of_eq (by grind));simpa using this
 grind)
theorem Gz:av (Y Tryz.prog).G.X 151 QI:=bp gf aaJ trivial
structure ahw where
 l:List Int
 cap:Nat
 n:Int
def ajP:cB where
 α:=ahw
 m:=1
 m':=1
 pre:=fun a=>a.l.length<100000
 args:=fun a=>[.a (.slc 0 0 1 a.l.length a.cap),.a (.int .i64 a.n)]
 ro:=fun a=>[(0,.arr 3 [.int .i64] a.l.length (aa encI a.l))]
 res:=fun a _=>.a (.bool (decide (a.n∈a.l)))
def ajQ(a:ahw):An:=.flat 2 Nat (fun s i=>s.int 8 i) (fun _ i=>i<=a.l.length/\a.n∉a.l.take i) (fun _ i=>a.l.length-i)
theorem QJ:fnBody (Y Tryz.prog) [] 91 ajP fun a=>[(138,[ajQ a],[])]:=fnBody.of (p :=
 ∀x:Rg.ahw,aj x.l<100000->(∃y:Nat,aS y (A9 (aj x.l) x.cap (az x.n/\iq x.l Rg.encI/\(y<=aj x.l/\¬x.n∈List.take y x.l)/\True)))/\∀y:Nat,mZ y (aj x.l) (¬x.n∈List.take y x.l) (ai (gl x.l (0+aG y))->aK (x.n == gl x.l (0+aG y)) (Exists (bN (bF 0 (ag y)=decide (x.n∈x.l)))) (bQ y fun z=>A9 (aj x.l) x.cap (az x.n/\iq x.l Rg.encI/\dG z (aj x.l) (¬x.n∈List.take z x.l) y))) (l6 (decide (x.n∈x.l)))) (by kernel_rfl) (by
 delta cE aK cR aQ aj ai aA az aG aN bK aU gI bI bN aZ ag dG aq bQ bF aC aS aI aD iq mZ aY bA bS l6 A9 bw bM
 try dsimp -iota -proj only
 rintro⟨l,cap,n⟩ h;dsimp only at *;simp only[mA,Ay,bZ];refine⟨⟨0,?_⟩,fun i ⟨i1,i2⟩=>⟨fun c1=>?_,fun c1=>⟨(),?_,trivial,trivial⟩⟩⟩
 ·grind [af.refl]
 ·simp only[tB]at c1;have hi:i<l.length:=by omega
  refine⟨by omega,hi,fun _=>⟨fun c2=>⟨(),?_,trivial,trivial⟩,fun c2=>⟨by omega,i+1,?_⟩⟩⟩
  ·simp only[beq_iff_eq]at c2
   grind [Ju]
  grind [gU,af.refl]
 grind)
theorem QK:av (Y Tryz.prog).G.X 91 ajP:=bp gf QJ trivial
structure Ys where
 r:dy
 n:Int
def aeO:cB where
 α:=Ys
 m:=3
 m':=3
 pre:=fun a=>a.r.l.length<100000
 args:=fun a=>[.a (.ptr 0 0 0 0),.a (.int .i64 a.n)]
 ro:=fun a=>Wp a.r
 res:=fun a _=>.a (.bool (decide (a.n∈a.r.l)))
theorem aeP:fnBody (Y Tryz.prog) [(91,ajP)] 50 aeO fun _=>[]:=fnBody.of (p :=
 ∀x:Rg.Ys,aj x.r.l<100000->∃y:Rg.ahw,cN x.r.l y.l x.r.c1 y.cap/\x.n=y.n/\dr y.l x.r.l Rg.encI/\aj y.l<100000/\aP (Exists (bN (decide (y.n∈y.l)=decide (x.n∈x.r.l))))) (by kernel_rfl) (by
 delta aj aA dr bN aP ah aD ax bA cN dc
 try dsimp -iota -proj only
 rintro⟨⟨e,l,c1,L,c2⟩,n⟩ h;dsimp only at h ⊢;refine⟨⟨l,c1,n⟩,?_⟩
 grind [af.refl])
theorem aeQ:av (Y Tryz.prog).G.X 50 aeO:=bp gf aeP ⟨QK,trivial⟩
def Th(a e:Int×Int):Int×Int:=if a.2=0\/e.1<a.1\/e.1=a.1/\e.2<a.2 then e else a
end Go.Proofs.YtfjgoonelcaggaaGreat.Rg
namespace Go.Proofs.YtfjgoonelcaggaaGreat
open Go.Sx
structure InA where
 g:Int
 n:Nat
 cap:Nat
 rows:Nat->Nat->Value
def cIn:cB where
 α:=InA
 m:=1
 m':=1
 pre:=fun a=>a.n<=1000/\∀i,i<a.n->0<=dR (a.rows i 0)/\dR (a.rows i 0)<=a.g
 args:=fun a=>[.a (.int .i64 a.g),.a (.slc 0 0 1 a.n a.cap)]
 ro:=fun a=>[(0,.arr 2 [.int .i64] a.n a.rows)]
 res:=fun _ _=>.a .tt
def iIn(a:InA):An:=.flat 2 Nat (fun s i=>s.int 9 i) (fun _ i=>i<=a.n) (fun _ i=>a.n-i)
theorem ajR:fnBody (Y Tryz.prog) [] 95 cIn fun a=>[(95,[iIn a],[])]:=fnBody.of (p :=
 ∀x:InA,(x.n<=1000/\∀z:Nat,z<x.n->cO (dR (x.rows z 0)) x.g)->(∃y:Nat,aS y (dU x.n x.cap (bD (az x.g/\aQ x.n x.cap/\cE x.n 1 x.rows/\bE y x.n))))/\∀y:Nat,fS y x.n (Gk (dR (x.rows (0+aG y) 0)) 0 (aq false) x.g (bQ y fun u=>dU x.n x.cap (bD (az x.g/\aQ x.n x.cap/\cE x.n 1 x.rows/\bL u x.n y)))) (Exists (bN (aO true)))) (by kernel_rfl) (by
 delta cE aK aQ aO ai aA az aG aN bK aU gI bI bN aZ jo ag bD bL aq dU bQ aC aS fS aI aD cO bf Gk aY bA bS bw bM bE
 try dsimp -iota -proj only
 rintro⟨g,n,cap,rows⟩ ⟨h1,h2⟩;dsimp only at h1 h2 ⊢;simp only[mA,Ay,bZ];refine⟨⟨0,?_⟩,fun i hi=>⟨fun c1=>?_,fun _=>⟨(),trivial,trivial,trivial⟩⟩⟩
 ·grind [af.refl]
 ·simp only[tB]at c1;have hi:i<n:=by omega
  obtain⟨g1,g2⟩:=h2 i hi;refine⟨by omega,hi,fun _=>⟨fun g=>(by grind),fun _=>⟨fun g=>(by grind),fun _=>⟨by omega,i+1,?_⟩⟩⟩⟩
  grind [af.refl])
theorem ajS:av (Y Tryz.prog).G.X 95 cIn:=bp gf ajR trivial
def alh(m:s9)(mem:A):List A:=[.int .i64 m.kind,.int .i64 m.ir,.int .i64 m.to,.int .i64 m.ay,.int .i64 m.tick,.int .i64 m.seq,.int .i64 m.n,.int .i64 m.id,.int .i64 m.op,.str m.key,.int .i64 m.err,.bool m.last,.str m.item.key,.str m.item.val,.int .i64 m.item.e,.bool m.item.gone,.dJ,.dJ,mem,.int .i64 m.base,.dJ]
def Nq(n:Int):Prop:=0<=n/\n<=1099511627776
structure ua(m:s9):Prop where
 kind:1<=m.kind/\m.kind<=14
 ft:m.ir≠m.to
 ir:0<=m.ir/\m.ir<=5
 to:0<=m.to/\m.to<=5
 ay:Nq m.ay
 tick:Nq m.tick
 seq:Nq m.seq
 id:Nq m.id
 base:Nq m.base
 n:0<=m.n/\m.n<=1073741824
 op:0<=m.op/\m.op<=2
 err:0<=m.err/\m.err<=10
 item:m.item=gQ\/jJ m.item=true
structure Aj where
 m:s9
 l:List Int
 cap:Nat
def Nr:cB where
 α:=Aj
 m:=1
 m':=1
 pre:=fun a=>ua a.m/\(a.l=[]\/Rg.jE a.l=true)
 args:=fun a=>[.agg (alh a.m (.slc 0 0 1 a.l.length a.cap))]
 ro:=fun a=>[(0,.arr 3 [.int .i64] a.l.length (aa Rg.encI a.l))]
 res:=fun a _=>.a (.bool (decide (a.m.key.size<=40)))
def GA(u v:Int)(y:Nat)(w:Int)(s:List Value)(t:Prop):=ai u->∃x:InA,v=x.g/\iQ y x.n y x.cap 1 (aV 1 (cI w s)) x.rows (x.n<=1000/\∀z:Nat,z<x.n->cO (dR (x.rows z 0)) x.g) (aP t)
def Bp(x:Bool)(y:Aj):=Exists (bN (x=decide (aT y.m.key<=40)))
def Wt(x:Aj):=aK (ag (aj x.l) == (0:Int)) (Bp true x) (Exists (rO x.l x.cap fun y=>aP (aK (Rg.jE y.l) (Bp true x) (Bp false x))))
theorem aeR:fnBody (Y Tryz.prog) [(95,cIn),(96,C6),(56,Rg.C6)] 55 Nr fun _=>[]:=fnBody.of (p :=
 ∀x:Aj,ua x.m/\(x.l=[]\/aq (Rg.jE x.l))->ai x.m.kind->aI x.m.kind 1 (Bp false x) (ai x.m.kind->Gj (aN 14 x.m.kind) (Bp false x) x.m.ir x.m.to (x.m.ir == x.m.to) (ai x.m.ir->GA x.m.to 5 2 x.m.ir (gm x.m.to) (ai x.m.ay->ai x.m.tick->ai x.m.seq->ai x.m.id->GA x.m.base 1099511627776 5 x.m.ay (cI x.m.tick (cI x.m.seq (cI x.m.id (gm x.m.base)))) (GA x.m.n 1073741824 1 x.m.n [] (GA x.m.op 2 1 x.m.op [] (aI 40 (ag (aT x.m.key)) (Bp false x) (GA x.m.err 10 1 x.m.err [] (aK (fc x.m.item.key dx&&(fc x.m.item.val dx&&(x.m.item.e == (0:Int)&&(x.m.item.gone == false&&true)))) (Wt x) (∃y:aW,uB x.m.item y (cZ (aK (jJ y) (Wt x) (Bp false x))))))))))))) (by kernel_rfl) (by
 delta aK aj ai aA cI aN fB aU dr dx bN aP ag aT aq iQ mX uB GA ah Gj aI aD Bp cO rO fc ax gm bA cN Wt cZ dc
 try dsimp -iota -proj only
 rintro⟨m,l,cap⟩ ⟨ok,hl⟩;obtain⟨⟨q0,q1⟩,ft,⟨f0,f1⟩,⟨t0,t1⟩,⟨e0,e1⟩,⟨i0,i1⟩,⟨s0,s1⟩,⟨d0,d1⟩,⟨b0,b1⟩,⟨n0,n1⟩,⟨p0,p1⟩,⟨r0,r1⟩,hit⟩:=ok;dsimp only at *;simp only[bZ,tB,decide_eq_false_iff_not,beq_iff_eq];refine fun _=>⟨fun c=>absurd c (by omega),fun _ _=>⟨fun c=>absurd c (by omega),fun _ _ _=>⟨fun c=>absurd c ft,fun _ _ _=>⟨⟨5,2,2,aV 1 [.int .i64 m.ir,.int .i64 m.to]⟩,?_⟩⟩⟩⟩
 (and_intros<;>first|exact MG|skip)
 ·intro i hi
  match i,(show i<2 from hi)with
  |0,_=>exact⟨f0,f1⟩
  |1,_=>exact⟨t0,t1⟩
 refine fun _ _ _ _ _ _ _=>⟨⟨1099511627776,5,5,aV 1 [.int .i64 m.ay,.int .i64 m.tick,.int .i64 m.seq,.int .i64 m.id,.int .i64 m.base]⟩,?_⟩
 (and_intros<;>first|exact MG|skip)
 ·intro i hi
  match i,(show i<5 from hi)with
  |0,_=>exact⟨e0,e1⟩
  |1,_=>exact⟨i0,i1⟩
  |2,_=>exact⟨s0,s1⟩
  |3,_=>exact⟨d0,d1⟩
  |4,_=>exact⟨b0,b1⟩
 refine fun _ _ _=>⟨⟨1073741824,1,1,aV 1 [.int .i64 m.n]⟩,?_⟩
 (and_intros<;>first|exact MG|skip)
 ·intro i hi
  match i,(show i<1 from hi)with
  |0,_=>exact⟨n0,n1⟩
 refine fun _ _ _=>⟨⟨2,1,1,aV 1 [.int .i64 m.op]⟩,?_⟩
 (and_intros<;>first|exact MG|skip)
 ·intro i hi
  match i,(show i<1 from hi)with
  |0,_=>exact⟨p0,p1⟩
 refine fun _ _=>⟨fun c=>⟨(),(Ml (by omega)).symm,trivial,trivial⟩,fun c _=>⟨⟨10,1,1,aV 1 [.int .i64 m.err]⟩,?_⟩⟩
 have hy:true=decide (m.key.size<=40):=(zBg (by omega)).symm
 (and_intros<;>first|exact MG|skip)
 ·intro i hi
  match i,(show i<1 from hi)with
  |0,_=>exact⟨r0,r1⟩
 have hl1:l.length<100000:=by
  rcases hl with rfl|h
  ·decide
  ·grind [Rg.tZ]
 have hl2:¬(l.length:Int)=0->Rg.jE l=true:=fun h=>hl.resolve_left fun e=>h (by rw[e];rfl);refine fun _ _=>⟨fun _=>⟨fun _=>⟨(),hy,trivial,trivial⟩,fun e=>?_⟩,fun c=>⟨m.item,?_⟩⟩
 ·refine⟨⟨l,cap⟩,?_⟩
  grind [af.refl]
 ·have hne:m.item≠gQ:=fun e=>by rw[e]at c;revert c;decide
  have hmay:=hit.resolve_left hne
  (and_intros<;>first|exact MG|skip)
  refine fun _ _=>⟨fun _=>⟨fun _=>⟨(),hy,trivial,trivial⟩,fun e=>?_⟩,fun g=>absurd hmay (by simp[g])⟩
  refine⟨⟨l,cap⟩,?_⟩
  grind [af.refl])
theorem yB:av (Y Tryz.prog).G.X 55 Nr:=bp gf aeR ⟨ajS,pn,Rg.pn,trivial⟩
def ali(w:ot):List A:=[.int .i64 w.node,.int .i64 w.id,.int .i64 w.op,.str w.key]
structure sA where
 n:bG
 p:dP
 w:ot
 err:Int
 val:ByteArray
 has:Bool
def Bq(w:ot)(err:Int)(val:ByteArray)(has:Bool):aW:=if w.op=1/\err=0 then⟨w.key,val,0,!has⟩else gQ
def GB(id:Int)(w:ot)(err:Int)(val:ByteArray)(has:Bool):List s9:=if w.node=0 then[]else[⟨14,id,w.node,0,0,0,0,w.id,0,oN,err,false,Bq w err val has,0⟩]
def zL(w:ot)(err:Int)(val:ByteArray)(has:Bool):List vj:=if w.node=0 then[⟨w.id,w.op,w.key,err,val,has⟩]else[]
def Yt:cB where
 α:=sA
 β:=Nat×Nat
 m:=10
 m':=12
 pre:=fun a=>a.w.key.size<=aB/\a.val.size<=aB
 args:=fun a=>[.a (.ptr 0 0 0 0),.agg (ali a.w),.a (.int .i64 a.err),.a (.str a.val),.a (.bool a.has)]
 hp:=fun a=>[(0,wS (.ptr 9 0 0 0) 7 1 3 5 6 a.n a.p)]
 res:=fun _ _=>.nR []
 eV:=fun a b=>[(0,Wj (.ptr 9 0 0 0) (.slc 10 0 21 (GB a.n.id a.w a.err a.val a.has).length b.1) (.slc 11 0 6 (zL a.w a.err a.val a.has).length b.2) 7 1 3 5 6 a.n a.p),xw 10 (GB a.n.id a.w a.err a.val a.has),Bk 11 (zL a.w a.err a.val a.has)]
def og(a:sA):s9:=⟨14,0,a.w.node,0,0,0,0,a.w.id,0,oN,a.err,false,Bq a.w a.err a.val a.has,0⟩
def alj(m:s9):List A:=alh m .dJ
def ajT(a:sA):An:=.mk 6 Unit (fun s _=>s.at_ (s.tg 10) (.obj 45 (alj (og a)))) (fun _ _=>True) (fun _ _=>0) fun _=>.mk 60 [] []
def zM(y:Int)(x:s9)(z u v:Int)(w:ByteArray)(s:Int)(t f:ByteArray)(g:Bool)(h i:Prop):=y=x.to/\z=x.ay/\u=x.tick/\(0:Int)=x.seq/\(0:Int)=x.n/\v=x.id/\(0:Int)=x.op/\w=x.key/\s=x.err/\false=x.last/\t=x.item.key/\f=x.item.val/\(0:Int)=x.item.e/\g=x.item.gone/\h/\i
def zN(z:Int)(x:s9)(u v w s t:Int)(y:ByteArray)(f:Int)(g h:Prop):=z=x.kind/\u=x.ir/\zM v x w s t y f y y false g h
def th(x:ot)(y:Prop):=cR x.node x.id (az x.op) (x.key=x.key/\y)
def gn(x y:bG)(z u:dP)(v w:Prop):=ah (k8 (x.id=y.id) (0=0) x y z u v w)
def bT(x:List vj):Nat:=x.length
def wE(x:sA):List s9:=GB x.n.id x.w x.err x.val x.has
def tj(x:sA):List vj:=zL x.w x.err x.val x.has
def Wu(x:sA)(y:Prop):=Exists (aD (ah (aO (x.w.node == (0:Int))/\aM (th x.w (az x.err/\x.val=x.val/\aO x.has/\y)))))
theorem aeS:fnBody (Y Tryz.prog) [(51,Tr (.ptr 9 0 0 0))] 54 Yt fun a=>[(54,[],[ajT a])]:=fnBody.of (p :=
 ∀x:sA,aT x.w.key<=aB/\aT x.val<=aB->jK x.w.node 0 (ai x.w.id->ai x.w.op->1<=1/\eu 64 1 fun y=>∃z:Nat×Nat,kV x.n x.p (0=bJ (wE x)/\0=z.fst) (dF 1 (bT (tj x)) y z.snd (bJ (wE x)=0) 6 (ja 6 (cI x.w.id (cI x.w.op (rI x.w.key x.err (bR x.val) x.has)))) (aa nc (tj x)) (True/\True))) (ai x.w.node->ai x.w.id->(ai x.w.op->rV (x.w.op == (1:Int)) (x.err == (0:Int)) (Wu x ((14:Int)=(og x).kind/\(0:Int)=(og x).ir/\zM x.w.node (og x) 0 0 x.w.id dx x.err x.w.key x.val (bg x.has) ((0:Int)=(og x).base) (th x.w (kV x.n x.p True True)))) (Wu x (zN 14 (og x) 0 x.w.node 0 0 x.w.id dx x.err ((0:Int)=(og x).base) (th x.w (kV x.n x.p True True)))))/\aP (Exists (Bn fun y=>gn x.n y.n x.p y.p (0=bJ y.q/\0=y.qc) (bJ y.q=0/\aA (bJ y.l) 1 21 (aV 21 (Tt (og x) (og x).ir)) (aa eo y.l)/\Bm y fun z=>∃u:Nat×Nat,gn y.n x.n y.p x.p (xS y (wE x) z u.fst) ((0=bT (tj x)/\0=u.snd)/\xT (wE x) y/\bA (bT (tj x)=0))))))) (by kernel_rfl) (by
 delta rV k8 aK cR aO Ad ai aA az cI aM eE cw ia dN fL fB p5 aU iA dx aP bJ Tt aT zN aq dF nM bR th gn kV jd bW ah bU cF aD di bT bg rI wE ax jK tj bA ja Bm zM xS eu Wu Bn xT
 try dsimp -iota -proj only
 rintro⟨n,p,w,err,val,has⟩ ⟨h1,h2⟩ _;dsimp only at *;refine⟨fun c=>?_,fun c _ _=>⟨fun _=>⟨fun d=>⟨fun e=>⟨(),?_⟩,fun e=>⟨(),?_⟩⟩,fun d=>⟨(),?_⟩⟩,fun _ _=>?_⟩⟩
 ·have hw:w.node=0:=by simpa using c
  have e1:GB n.id w err val has=[]:=if_pos hw;have e2:zL w err val has=[⟨w.id,w.op,w.key,err,val,has⟩]:=if_pos hw;rw[e1,e2];have hr:af 1 6 (fun i j=>aV 6 (nc ⟨w.id,w.op,w.key,err,val,has⟩) (0+i) j) (aa nc [⟨w.id,w.op,w.key,err,val,has⟩]):=.fN fun i hi=>by
   have:i=0:=by omega
   subst this;rfl
  refine fun _ _=>⟨by omega,by omega,fun cap _ _=>⟨(0,cap),?_⟩⟩
  and_intros<;>first|exact cU|exact hr|grind|omega|grind|rfl|grind|grind|(dsimp only;omega)|skip
 ·have e1:Bq w err val has=⟨w.key,val,0,!has⟩:=if_pos ⟨by simpa using d,by simpa using e⟩;simp only[og,e1]
  and_intros<;>first|exact cU|exact kL|skip
 ·have e1:Bq w err val has=gQ:=if_neg fun h=>by grind
  simp only[og,e1]
  and_intros<;>first|exact cU|exact kL|skip
 ·have e1:Bq w err val has=gQ:=if_neg fun h=>by grind
  simp only[og,e1]
  and_intros<;>first|exact cU|exact kL|skip
 ·have hw:¬w.node=0:=by simpa using c
  have e1:GB n.id w err val has=[{ og ⟨n,p,w,err,val,has⟩with ir:=n.id }]:=if_neg hw;have e2:zL w err val has=[]:=if_neg hw;rw[e1,e2];generalize og ⟨n,p,w,err,val,has⟩=m;have hr:af 1 21 (aV 21 (eo m)) (aa eo [m]):=.fN fun i hi=>by
   have:i=0:=by omega
   subst this;rfl
  have k0:(0:Nat)<1000:=by omega
  have k1:(1:Nat)<1000:=by omega
  refine⟨nw.mk n p [] 0 [m] 1,?_⟩
  and_intros<;>first|exact cU|exact hr|exact k1|exact k0|(intro h_;revert h_)|omega|grind|rfl|grind|grind|(dsimp only;omega)|skip
  intro b _;refine⟨(b,0),?_⟩
  and_intros<;>first|exact cU|exact kL|skip)
theorem Tz:av (Y Tryz.prog).G.X 54 Yt:=bp gf aeS ⟨KK,trivial⟩
def CI(a b c:Nat)(r:Rg.dy):List (Nat×Chunk):=[(a,.obj 161 [.int .i64 r.e,.slc b 0 1 r.l.length r.c1,.slc c 0 2 r.L.length r.c2]),(b,.arr 3 [.int .i64] r.l.length (aa Rg.encI r.l)),(c,.arr 208 Rg.QC r.L.length (aa Rg.mu r.L))]
def Br(r:Rg.dy)(k:ByteArray):Int:=Rg.Bo r.L (Rg.iE (fun _=>k) 1)
def oP(le:iJ)(now ep:Int):Bool:=decide (0<ep)&&(decide (ep=le.ay)&&decide (now<le.end_))
def gJ(n:bG)(r:Rg.dy)(k:ByteArray):Bool:=decide (Br r k=n.id)&&oP n.le n.now n.s.k.m.ay
structure wF where
 n:bG
 p:dP
 r:Rg.dy
 key:ByteArray
def KS:cB where
 α:=wF
 m:=17
 m':=17
 pre:=fun a=>a.r.L.length<100000/\0<a.r.L.length/\a.key.size<=aB/\a.n.s.k.m.frozen=false
 args:=fun a=>[.a (.ptr 0 0 0 0),.a (.str a.key)]
 ro:=fun a=>[(0,wS (.ptr 14 0 0 0) 7 1 3 5 6 a.n a.p),(1,Mh 2 a.n.le),(2,Qv a.n.now),(7,stO 8 9 10 a.n.s.bP),(10,.obj 155 (.ptr 11 0 0 0::Ah a.n.s.k.m))]++CI 14 15 16 a.r
 res:=fun a _=>.a (.bool (gJ a.n a.r a.key))
def QL(z:Int)(x:bG)(y u:Prop):=aP (aK (z != x.id) (Exists (bN y)) (tV (aN 0 x.s.k.m.ay) x.le.ay (x.s.k.m.ay == x.le.ay) (ai x.le.end_->ai x.now->aK (bg (aN x.now x.le.end_)) (Exists (bN y)) (aK (bg x.s.k.m.frozen) (Exists (bN u)) False)) (Exists (bN y))))
def Bs(x:wF):=uM x.r (aT x.key<=aB/\aU x.n.s.k.m.frozen)
theorem aeT:fnBody (Y Tryz.prog) [(44,Rg.aeN)] 19 KS fun _=>[]:=fnBody.of (p :=
 ∀x:wF,Bs x->ai x.n.id->∃y:Rg.QH,ah (x.key=y.key/\nA x.r y.r (uM y.r (aT y.key<=aB)) (QL (uN y) x.n (false=gJ x.n x.r x.key) (true=gJ x.n x.r x.key)))) (by kernel_rfl) (by
 delta aK qd aj ai aA aN aU tV dr bN aP nA aT aq dF ah aD QL uM bg uN ax bA cN Bs dc
 try dsimp -iota -proj only
 rintro⟨n,p,r,key⟩ ⟨h1,h2,h3,h4⟩ _;dsimp only at *;refine⟨Rg.QH.mk r key,?_⟩
 and_intros<;>first|exact cU|exact h1|exact h2|exact h3|(intro h_;revert h_)|omega|grind [af.refl]|rfl|grind|grind|(dsimp only;omega)|skip
 intro _ _;dsimp only;have e0:Rg.Bo r.L (Rg.iE (fun _=>key) 1)=Br r key:=rfl;rw[e0];unfold gJ oP;refine⟨fun c=>⟨(),?_,trivial,trivial⟩,fun c=>⟨fun c1 _=>⟨fun c2 _ _=>⟨fun c3=>⟨(),?_,trivial,trivial⟩,fun c3=>⟨fun _=>⟨(),?_,trivial,trivial⟩,fun c4=>by grind⟩⟩,fun c2=>⟨(),?_,trivial,trivial⟩⟩,fun c1=>⟨(),?_,trivial,trivial⟩⟩⟩
 ·grind
 ·grind
 ·grind
 ·grind
 grind)
theorem EK:av (Y Tryz.prog).G.X 19 KS:=bp gf aeT ⟨Rg.DL,trivial⟩
structure Ak where
 n:bG
 p:dP
def aH(l:List kI):List ByteArray:=l.map fun x=>x.w.key
def TA:cB where
 α:=Ak
 β:=Nat
 m:=15
 m':=16
 pre:=fun a=>a.n.rs.length<1000
 args:=fun a=>[.a (.ptr 0 0 0 0)]
 ro:=fun a=>[(0,wS (.ptr 14 0 0 0) 7 1 3 5 6 a.n a.p),(6,.arr 134 Gs a.n.rs.length (aa fD a.n.rs))]
 res:=fun a c=>.a (.slc 15 0 1 (aH a.n.rs).length c)
 eV:=fun a _=>[(15,.arr 9 [.str] (aH a.n.rs).length (aa ic (aH a.n.rs)))]
def aiC(a:Ak):An:=.flat 5 (Nat×Nat) (fun s x=>((s.new (.arr 9 [.str] (aH (a.n.rs.take x.1)).length (aa ic (aH (a.n.rs.take x.1))))).set 3 (.a (.slc s.nx 0 1 (aH (a.n.rs.take x.1)).length x.2))).int 13 x.1) (fun _ x=>x.1<=a.n.rs.length) (fun _ x=>a.n.rs.length-x.1)
def DM(x:List kI)(y:bG)(z:Nat):Nat->Prop:=fun(u:Nat)=>iQ (aF (aH x)) (aF (aH y.rs)) z u 1 (aa ic (aH x)) (aa ic (aH y.rs)) True True
def xU(x:Nat×Nat)(y:Ak):List ByteArray:=aH (List.take x.fst y.n.rs)
def QM(x:Ak)(u:Nat×Nat->Prop)(v:Nat×Nat->Nat×Nat->Prop):=cw x.n<1000->jM (fun y=>(0=aF (xU y x)/\0=y.snd)/\dU (cw x.n) x.p.rc (bD (ah (aF (xU y x)=0/\u y)))) fun y=>fS y.fst (cw x.n) (zF (aF (xU y x)) 16 y (fun z=>aF (xU z x)) fun z=>dU (cw x.n) x.p.rc (bD (ah (iO (aF (xU z x)) (aF (xU y x)) 1 (aa ic (xU y x)) (bW (bR (gl x.n.rs (0+aG y.fst)).w.key)) (aa ic (xU z x))/\v y z)))) (Exists (DM (List.take y.fst x.n.rs) x.n y.snd))
def uO(x:bG):=cE (cw x) 5 (aa fD x.rs)
theorem aeU:fnBody (Y Tryz.prog) [] 17 TA fun a=>[(17,[aiC a],[])]:=fnBody.of (p :=
 ∀x:Ak,QM x (fun y=>kV x.n x.p (uO x.n) (bE y.fst (cw x.n))) fun y z=>kV x.n x.p (uO x.n) (bL z.fst (cw x.n) y.fst)) (by kernel_rfl) (by
 delta k8 cE aK aQ aO ai aA az aG gq aN aF eE cw dN fL bK aU iA gI bI aZ ag bD jF iO bL aq dU bR iQ iP QM aC kV bW ah bU aS fS aI di bf DM aY ax xU bS uO ja eu zF jM bw bM bE
 try dsimp -iota -proj only
 rintro⟨n,p⟩ h;have h:n.rs.length<1000:=h;have hl:∀i,(aH (List.take i n.rs)).length=min i n.rs.length:=fun i=>by simp[aH]
 refine⟨⟨(0,0),?_⟩,fun⟨i,c⟩ hi=>⟨fun c1=>?_,fun c1=>⟨c,?_⟩⟩⟩
 ·grind [af.refl]
 ·dsimp only at *;have hi:i<n.rs.length:=by have:=qi c1;omega
  have hs:aH (List.take (i+1) n.rs)=aH (List.take i n.rs)++[(gl n.rs i).w.key]:=by
   unfold aH;rw[gU hi,T3];rfl
  have hz:0+(i:Int).toNat=i:=by omega
  have hli:=hl i;rw[hz];refine⟨by omega,hi,by omega,by omega,by omega,fun cap _ _ _=>⟨by simp only[bZ];omega,(i+1,cap),?_⟩⟩;dsimp only;rw[hs];have hp:af (aH (List.take i n.rs)++[(gl n.rs i).w.key]).length 1 (bq (aa ic (aH (List.take i n.rs))) 0 (aH (List.take i n.rs)).length fun i_1 j=>aV 1 (ic (gl n.rs i).w.key) (0+i_1) j) (aa ic (aH (List.take i n.rs)++[(gl n.rs i).w.key])):=.push rfl (by simp) rfl
  and_intros<;>first|exact cU|exact hp|exact by simp|omega|omega|with_reducible exact af.refl _ _ _|rfl|exact af.refl _ _ _|exact cW _|(dsimp only;omega)|skip
 ·dsimp only at *;have hi:i=n.rs.length:=by have:=ug c1;omega
  grind [af.refl])
theorem TB:av (Y Tryz.prog).G.X 17 TA:=bp gf aeU trivial
structure yC where
 n:bG
 p:dP
 r:Rg.dy
 w:ot
 g:Option aW
structure pz where
 p:dP
 b:Nat
 mc:Nat
 rc:Nat
structure gD where
 n:bG
 ms:List s9
 rs:List vj
def zO(w:ot):Bool:=(!decide (w.op=1)&&!decide (w.op=2))||!dB w.key
def qe(n:bG)(w:ot)(err:Int)(val:ByteArray)(has:Bool):gD:=⟨n,GB n.id w err val has,zL w err val has⟩
def TC(n:bG)(r:Rg.dy)(w:ot):jv:=⟨w,n.s.bP*1048576+(n.asked+1),Br r w.key,n.now⟩
def KT(n:bG)(r:Rg.dy)(w:ot):s9:=⟨13,n.id,Br r w.key,n.s.k.m.ay,0,0,0,n.s.bP*1048576+(n.asked+1),w.op,w.key,0,false,gQ,0⟩
def mw(n:bG)(k:ByteArray):bG:={ n with t:=jZ n.t (hasB [k]),s:=lV n.s [k] }
def KU(n:bG)(r:Rg.dy)(w:ot):bG:={ n with asked:=n.asked+1,ws:=n.ws++[TC n r w] }
def jw(n:bG)(w:ot)(b:Nat):bG:={ n with t:=va n.t w.key b,rs:=n.rs++[⟨w,n.t.last+1⟩] }
def kW(n:bG)(r:Rg.dy)(w:ot)(g:Option aW)(b:Nat):gD :=
 if zO w=true then qe n w 1 oN false
 else if Br r w.key≠n.id then⟨KU n r w,[KT n r w],[]⟩
 else if gJ n r w.key=false then qe n w 6 oN false
 else if w.op=2 then qe (mw n w.key) w 0 oN false
 else match sS g n.now with
  |some x=>qe n w 0 x.val true
  |none=>⟨jw n w b,[],[]⟩
def Bt(rg ma ra:A)(nd st le tk mp wa rd ca cl dv ds ix it jr mk jl ke su tx pl:Nat)(n:bG)(p:dP):List (Nat×Chunk) :=
 zA st ca cl dv ds ix it jr mk jl ke su tx pl n.s p.p++[(mp,CH p.mb n.t),(nd,Wj rg ma ra st le tk wa rd n p),(tk,Mg p.mb n.t),(wa,.arr 125 Gr n.ws.length (aa iI n.ws)),(rd,.arr 134 Gs n.rs.length (aa fD n.rs))]
def ahx(le ck a b c:Nat)(n:bG)(r:Rg.dy):List (Nat×Chunk):=[(le,Mh ck n.le),(ck,Qv n.now)]++CI a b c r
structure wG(a:yC):Prop where
 at_:bz a.n a.p
 ring:a.r.L.length<100000/\0<a.r.L.length
 key:a.w.key.size<=aB
 free:a.n.s.k.m.frozen=false
 last:a.n.t.last<1099511627776
 room:a.n.ws.length<1000/\a.n.rs.length<1000/\a.n.t.l.length<1000
 asked:0<=a.n.asked/\a.n.asked<1000000/\0<=a.n.s.bP/\a.n.s.bP<1000000
 rd:Z0 a.n.s.fl
 jk:Kf a.n.s.fl a.w.key a.g
 kill:a.w.op=2->dB a.w.key=true->Gn ⟨a.n.s,a.p.p,[a.w.key],1⟩
def ajU:cB where
 α:=yC
 β:=pz
 m:=24
 m':=31
 pre:=wG
 args:=fun a=>[.a (.ptr 0 0 0 0),.agg (ali a.w)]
 hp:=fun a=>Bt (.ptr 21 0 0 0) .dJ .dJ 0 7 1 3 4 5 6 8 9 10 11 12 13 14 15 16 17 18 19 20 a.n a.p
 ro:=fun a=>ahx 1 2 21 22 23 a.n a.r
 post:=fun a b=>bz (kW a.n a.r a.w a.g b.b).n b.p
 res:=fun _ _=>.nR []
 eV:=fun a b=>Bt (.ptr 21 0 0 0) (.slc 29 0 21 (kW a.n a.r a.w a.g b.b).ms.length b.mc) (.slc 30 0 6 (kW a.n a.r a.w a.g b.b).rs.length b.rc) 0 7 1 3 4 27 28 8 9 10 11 12 24 14 25 16 17 18 19 26 (kW a.n a.r a.w a.g b.b).n b.p++[xw 29 (kW a.n a.r a.w a.g b.b).ms,Bk 30 (kW a.n a.r a.w a.g b.b).rs]
def ajV:List (Nat×cB):=[(44,Rg.aeN),(86,UQ),(54,Yt),(19,KS),(51,Tr (.ptr 9 0 0 0)),(88,Wh),(137,We),(89,aed),(136,adK)]
def alk(a:yC):An:=.mk 0 Bool (fun s b=>s.set 18 (.a (.bool b))) (fun _ b=>b=zO a.w) (fun _ _=>0) fun _=>.mk 60 [] []
def alm(a:yC):An:=.mk 2 Unit (fun s _=>((s.new (.obj 40 (JB ((sS a.g a.n.now).getD gQ)))).set 4 (.a (.ptr s.nx 0 0 0))).set 5 (.a (.bool (sS a.g a.n.now).isSome))) (fun _ _=>True) (fun _ _=>0) fun _=>.mk 60 [] []
variable{g:Option aW}{now:Int}{x:aW}
theorem aaK(h:sS g now=some x):g=some x:=by
 unfold sS at h;cases g with
 |none=>cases h
 |some y =>
  grind
theorem aeV{m:r9}{k:ByteArray}(he:Kf m k g)(h:sS g now=some x):x.val.size<=aB:=by
 rw[aaK h]at he;obtain⟨_,_,_,hm⟩:=he;unfold jJ at hm;simp only[jB,tB]at hm;exact YP hm.1.1.1.2 (by decide)
def mg(x y:bG):=aA (bU x) (bU y) 7 (aa iI y.ws) (aa iI x.ws)
def pJ(z:Nat)(u:dP)(x v:bG)(y:List kI)(w s:Prop):=fh z u.mb/\mg x v/\aA (cw x) y.length 5 (aa fD y) (aa fD x.rs)/\w/\s
def dZ(x:yC)(y:pz):gD:=kW x.n x.r x.w x.g y.b
def gF(x y:iJ)(z:Prop):=x.ay=y.ay/\x.end_=y.end_/\x.top=y.top/\z
def mz(x y:iJ)(z u:Prop):=gF x y (z/\u)
def tn(x:List vj)(y:Nat)(z:List vj)(u:Prop):=aA (bT x) y 6 (aa nc z) (aa nc x)/\aM u
def rP(z:pY)(x:bG)(u:Ai)(y:dP):=sY z x.s u y.p (bz x y/\True)
def Bu(x y:ot)(z:Prop):=x.id=y.id/\x.op=y.op/\x.key=y.key/\z
def TD(z:yC)(g:Int)(h:ByteArray)(i:Bool)(u:Ai)(v:Nat)(s:nL)(j:pY):sA->Prop:=fun(x:sA)=>ah (z.w.node=x.w.node/\Bu z.w x.w (g=x.err/\h=x.val/\i=x.has/\gn z.n x.n z.p x.p (aT x.w.key<=aB/\aT x.val<=aB) (∀f:Nat×Nat,True->∃y:pz,u.H=y.p.p.H/\dY v s=dY y.p.mb (gD.n (dZ z y)).t/\gn x.n (gD.n (dZ z y)) x.p y.p (ax (bJ (wE x)) (bJ (gD.ms (dZ z y))) f.fst y.mc) (ax (bT (tj x)) (bT (gD.rs (dZ z y))) f.snd y.rc/\s.last=(gD.n (dZ z y)).t.last/\pJ v y.p (gD.n (dZ z y)) z.n z.n.rs (nM (gD.ms (dZ z y)) (wE x)) (tn (gD.rs (dZ z y)) (bT (tj x)) (tj x) (ah (rP j (gD.n (dZ z y)) u y.p)))))))
def fH(x y:dP)(z u:bG)(v:Prop):=x.p.H=y.p.H/\dY x.mb z.t=dY y.mb u.t/\v
def KW(x:bG)(y:Rg.dy)(z:Prop):=ah (cR x.le.ay x.le.end_ (az x.le.top) (cR x.now y.e (aQ (aj y.l) y.c1) (wD y z)))
def uP(x:bG):=cE (bU x) 7 (aa iI x.ws)
def QN(x:yC)(y:Prop):=th x.w (fH x.p x.p x.n x.n (kV x.n x.p (az x.n.t.last) (eE (some x.p.mb)/\uP x.n/\uO x.n/\KW x.n x.r (bC (sY x.n.s x.n.s x.p.p x.p.p y)))))
def Yu(y:yC):Kg->Prop:=fun(z:Kg)=>ah (y.w.key=z.key/\y.n.now=z.now/\oJ y.n.s.cL z.m y.p.p.cy z.p y.n.s.d y.p.p.x y.p.p.xc (y.p.p.H=z.p.H) (Dy z.m z.p z.key z.r/\aP (Exists (aD ((sS z.r z.now).isSome=(sS y.g y.n.now).isSome/\bC (th y.w (uB (nK (sS z.r z.now)) (nK (sS y.g y.n.now)) (QN y (th y.w (True/\True))))))))))
def iu(y x:bG)(z:Int)(u:Prop):=mz y.le x.le (z=x.now) u
def Bv(z:bG)(x:wF)(u y:bG)(v:Rg.dy)(w:Prop):=iu z x.n u.now (bC (y.s.bP=x.n.s.bP/\rM y.s.k.m.bP x.n.s.k.m y.s.k.m.ay y.s.k.m.ready y.s.k.m.frozen (nA v x.r (Bs x) (aP w))))
def tq(x y:bG):=aA (cw x) (cw y) 5 (aa fD y.rs) (aa fD x.rs)
def KY(y x:bG)(u z:dP)(v w:Nat)(s t:Prop):=aM (y.id=x.id/\aM (di (iA y x u z (ax v (cw x) w z.rc) y.asked x.asked s t)))
def Bw(x:bG)(y:nL)(z:dP)(u:Nat)(v w:PH)(s f:Prop):=x.t.last=y.last/\fh z.mb u/\dY z.mb x.t=dY u y/\v=w/\s/\f
theorem ahy:fnBody (Y Tryz.prog) ajV 48 ajU fun a=>[(48,[],[alk a]),(90,[],[alm a])]:=fnBody.of (p :=
 ∀x:yC,wG x->∃f:Rg.QH,ah (x.w.key=f.key/\nA x.r f.r (uM f.r (aT f.key<=aB)) (aP ((ai x.w.op->tV (x.w.op != (1:Int)) x.w.op (x.w.op != (2:Int)) (∃j:Bool,true=j/\az (uN f)/\aM (th x.w (QN x (j=zO x.w/\True)))) (∃j:ByteArray,x.w.key=j/\cZ (∃m:Bool,bg (dB j)=m/\az (uN f)/\aM (th x.w (QN x (m=zO x.w/\True))))))/\∀o:Bool,o=zO x.w->aK o (Exists (TD x 1 dx false x.p.p x.p.mb x.n.t x.n.s)) (ai x.n.id->aK (uN f != x.n.id) (oG x.n.asked 1 (fe x.n.asked->ai x.n.s.bP->sM (x.n.s.bP*(1048576:Int)) (x.n.asked+(1:Int)) (ai x.n.now->jF (bU x.n) 64 x.p.wc fun k=>ai x.w.op->Exists (Bn fun y=>aM (x.n.id=y.n.id/\aM (di (ax (bU x.n+1) (bU y.n) k y.p.wc/\ax (cw x.n) (cw y.n) x.p.rc y.p.rc/\x.n.asked+(1:Int)=y.n.asked/\(0=bJ y.q/\0=y.qc)/\KL y 13 (uN f) x.n 0 0 (x.n.s.bP*(1048576:Int)+(x.n.asked+(1:Int))) x.w.op x.w.key fun c=>∃u:pz,fH x.p u.p x.n (gD.n (dZ x u)) (gn y.n (gD.n (dZ x u)) y.p u.p (xS y (gD.ms (dZ x u)) c u.mc) ((0=bT (gD.rs (dZ x u))/\0=u.rc)/\x.n.t.last=(gD.n (dZ x u)).t.last/\fh x.p.mb u.p.mb/\iO (bU (gD.n (dZ x u))) (bU x.n) 7 (aa iI x.n.ws) (Ad .i64 x.w.node x.w.id x.w.op (bR x.w.key) (x.n.s.bP*(1048576:Int)+(x.n.asked+(1:Int))) (uN f) x.n.now []) (aa iI (gD.n (dZ x u)).ws) /\
 tq (gD.n (dZ x u)) x.n/\xT (gD.ms (dZ x u)) y/\bT (gD.rs (dZ x u))=0/\bC (rP x.n.s (gD.n (dZ x u)) x.p.p u.p)))))))))) (∃h:wF,ah (x.w.key=h.key/\gn x.n h.n x.p h.p (0=0) (Bv x.n h x.n x.n x.r (aK (bg (gJ h.n h.r h.key)) (Exists (TD x 6 dx false x.p.p x.p.mb x.n.t x.n.s)) (jK x.w.op 2 (∃z:KE,ah (ax 1 (aF z.ks) 1 z.cap/\Bw x.n z.t x.p z.mb x.p.p.H z.H (aA (aF z.ks) 1 1 (aV 1 (bW (bR x.w.key))) (aa ic z.ks)) ((jt z.H z.t/\aF z.ks<100000/\z.t.l.length<100000)/\∀i:PH×Int,(Bi i z.t (hasB z.ks) fun k=>z.H k)->∃v:CD,ah (ax 1 (aF v.ks) 1 v.kc/\bC (sY x.n.s v.s x.p.p v.p (i.fst=v.p.H/\aA (aF v.ks) 1 1 (aV 1 (bW (bR x.w.key))) (aa ic v.ks)/\(sX v.s v.p/\Gn v)/\∀y:Ai,Ks v y->Exists (TD x (lC (iG v.ks)) dx false y z.mb (jZ z.t (hasB z.ks)) (lV v.s v.ks)))))))) (((ai x.n.now->Exists (Yu x)/\Exists (Yu x))/\(ai x.n.now->Exists (Yu x)))/\aP (aK (sS x.g x.n.now).isSome (Exists (TD x 0 (aW.val (nK (sS x.g x.n.now))) true x.p.p x.p.mb x.n.t x.n.s)) (∃z:Gp,ah (x.w.key=z.key/\Bw x.n z.t x.p z.mb x.p.p.H z.H (jt z.H z.t/\z.t.last<(1099511627776:Int)/\aT z.key<=aB) (∀i:Nat,z.H i=none->jF (cw x.n) 48 x.p.rc fun v=>∃y:pz,KC z i=y.p.p.H/\dY z.mb (va z.t z.key i)=dY y.p.mb (gD.n (dZ x y)).t /\
 KY x.n (gD.n (dZ x y)) x.p y.p (cw x.n+1) v (0=bJ (gD.ms (dZ x y))/\0=y.mc) ((0=bT (gD.rs (dZ x y))/\0=y.rc)/\(va z.t z.key i).last=(gD.n (dZ x y)).t.last/\fh z.mb y.p.mb/\mg (gD.n (dZ x y)) x.n/\iO (cw (gD.n (dZ x y))) (cw x.n) 5 (aa fD x.n.rs) (cI x.w.node (cI x.w.id (wu x.w.op x.w.key (z.t.last+(1:Int))))) (aa fD (gD.n (dZ x y)).rs)/\bJ (gD.ms (dZ x y))=0/\bT (gD.rs (dZ x y))=0/\bC (rP x.n.s (gD.n (dZ x y)) x.p.p y.p))))))))))))))))) (by kernel_rfl) (by
 delta k8 cE aK cR qd aQ aO aj Ad pJ ai dY aA az cI gq aM dZ aF mz eE cw ia dN fL fB bK p5 aU iA tV dr TD Yu dx aP nA bJ jF aT iO wD aq Bv KL cK QN dF nM bR th oJ fH gn uB kV jd gF bW ah bU cF aD di iq lC fh bT tq uM bg uN wE ax sM KW jK tj gm tn rP oG rM cN KC nK uO uP ja Bm cZ iu KY Bu Ks Dy mg bC xS Bw Bi eu Bs wu Bn fe dc xT
 try dsimp -iota -proj only
 rintro⟨n,p,r,w,g⟩ ok;obtain⟨hat,⟨r1,r2⟩,hkey,hfr,hlast,⟨m1,m2,m3⟩,⟨s1,s2,s3,s4⟩,hrd,hent,hkil⟩:=ok;dsimp only at *;refine⟨Rg.QH.mk r w.key,?_⟩
 and_intros<;>first|exact cU|exact r1|exact r2|exact hkey|(intro h_;revert h_)|omega|grind [af.refl]|rfl|grind|grind|(dsimp only;omega)|skip
 intro _ _;dsimp only;have e0:Rg.Bo r.L (Rg.iE (fun _=>w.key) 1)=Br r w.key:=rfl;rw[e0];refine⟨fun _=>⟨fun c1 _=>⟨fun c2=>⟨true,?_⟩,fun c2=>⟨w.key,rfl,trivial,fun _ _=>⟨!dB w.key,?_⟩⟩⟩,fun c1=>⟨w.key,rfl,trivial,fun _ _=>⟨!dB w.key,?_⟩⟩⟩,fun b hb=>⟨fun hbt=>?_,fun hbf _=>?_⟩⟩
 ·grind [zO,af.refl]
 ·grind [zO,af.refl]
 ·grind [zO,af.refl]
 ·have eN:∀b,kW n r w g b=qe n w 1 oN false:=fun b=>if_pos (hb.symm.trans hbt);have hv:oN.size<=aB:=by decide
  refine⟨sA.mk n p w 1 oN false,?_⟩
  and_intros<;>first|exact cU|exact hkey|exact hv|exact kL|skip
  rintro⟨mc,rc⟩ _;refine⟨pz.mk p 0 mc rc,?_⟩
  grind [qe,af.refl]
 have hbad:zO w=false:=hb.symm.trans hbf;have hn0:¬zO w=true:=by rw[hbad];decide
 refine⟨fun c1 _=>⟨by simp only[bZ];omega,fun _ _=>⟨by simp only[bZ];omega,by simp only[bZ];omega,fun _=>⟨by omega,by omega,by omega,fun cap hcap _ _ _=>?_⟩⟩⟩,fun c1=>?_⟩
 ·have hne:Br r w.key≠n.id:=by simpa using c1
  have eN:∀b,kW n r w g b=⟨KU n r w,[KT n r w],[]⟩:=fun b=>by grind [kW]
  have hr:af 1 21 (aV 21 (eo { KT n r w with ir:=0 })) (aa eo [{ KT n r w with ir:=0 }]):=.fN fun i hi=>by
   have:i=0:=by omega
   subst this;rfl
  have k0:(0:Nat)<1000:=by omega
  have k1:(1:Nat)<1000:=by omega
  have hl:n.ws.length+1=(KU n r w).ws.length:=by simp[KU]
  refine⟨nw.mk (KU n r w) { p with wc:=cap } [] 0 [{ KT n r w with ir:=0 }] 1,?_⟩
  and_intros<;>first|exact cU|exact hr|exact k1|exact k0|exact hl|(intro h_;revert h_)|omega|with_reducible exact af.refl _ _ _|rfl|grind|grind|(dsimp only;omega)|skip
  intro b _;refine⟨pz.mk { p with wc:=cap } 0 b 0,?_⟩;have hN:bz (KU n r w) { p with wc:=cap }:=⟨hat.st,hat.tok,hat.sep,by grind,hat.rc⟩
  have hp:af (n.ws++[TC n r w]).length 7 (bq (aa iI n.ws) 0 n.ws.length fun i j=>aV 7 (iI (TC n r w)) (0+i) j) (aa iI (n.ws++[TC n r w])):=.push rfl (by simp) rfl;have hl2:(n.ws++[TC n r w]).length<=n.ws.length+1:=by simp
  dsimp only;rw[eN];dsimp only[KU]
  and_intros<;>first|exact cU|exact hN|exact hp|exact hl2|exact kL|skip
 have how:Br r w.key=n.id:=by simpa using c1
 have hn1:¬Br r w.key≠n.id:=fun h=>h how;refine⟨wF.mk n p r w.key,?_⟩
 and_intros<;>first|exact cU|exact r1|exact r2|exact hkey|exact hfr|(intro h_;revert h_)|omega|grind [af.refl]|rfl|grind|grind|(dsimp only;omega)|skip
 intro _ _;dsimp only;refine⟨fun c2=>?_,fun c2 _=>?_⟩
 ·have hsv:gJ n r w.key=false:=by simpa using c2
  have eN:∀b,kW n r w g b=qe n w 6 oN false:=fun b=>by grind [kW]
  have hv:oN.size<=aB:=by decide
  refine⟨sA.mk n p w 6 oN false,?_⟩
  and_intros<;>first|exact cU|exact hkey|exact hv|exact kL|skip
  rintro⟨mc,rc⟩ _;refine⟨pz.mk p 0 mc rc,?_⟩
  grind [qe,af.refl]
 have hn2:¬gJ n r w.key=false:=by
  have:gJ n r w.key=true:=by simpa using c2
  rw[this];decide
 refine⟨fun c3=>?_,fun c3=>?_⟩
 ·have hop:w.op=2:=by simpa using c3
  have hkB:dB w.key=true:=by
   revert hbad;unfold zO;cases dB w.key<;>simp
  have hall:iG [w.key]=true:=by simp[iG,hkB]
  have eN:∀b,kW n r w g b=qe (mw n w.key) w 0 oN false:=fun b=>by grind [kW]
  have hr:af 1 1 (aV 1 [Value.string w.key]) (aa ic [w.key]):=.fN fun i hi=>by
   have:i=0:=by omega
   subst this;rfl
  have hv:oN.size<=aB:=by decide
  have k1:(1:Nat)<100000:=by omega
  have k2:n.t.l.length<100000:=by omega
  refine⟨KE.mk p.mb n.t p.p.H [w.key] 1,?_⟩
  and_intros<;>first|exact cU|exact hr|exact k1|exact k2|exact hat.tok|(intro h_;revert h_)|omega|grind|rfl|grind|grind|(dsimp only;omega)|skip
  rintro⟨H1,cnt⟩ ⟨ht1,ht2⟩;have hat1:=hat.aeC ht1 ht2;have hkil:=hkil hop hkB;have hkil1:Gn ⟨n.s,{ p.p with H:=H1 },[w.key],1⟩:=⟨hkil.n,hkil.jr,hkil.fl⟩
  have hst1:sX n.s { p.p with H:=H1 }:=hat1.st;refine⟨CD.mk n.s { p.p with H:=H1 } [w.key] 1,?_⟩
  and_intros<;>first|exact cU|exact hr|exact hkil1|exact hst1|(intro h_;revert h_)|omega|with_reducible exact af.refl _ _ _|rfl|grind|grind|(dsimp only;omega)|skip
  rintro b ⟨q1,q2⟩;have hat2:bz (mw n w.key) { p with p:=b }:=hat1.store q1 q2;have he:(if iG [w.key]=true then(0:Int)else 1)=0:=if_pos hall;refine⟨sA.mk n p w 0 oN false,?_⟩
  and_intros<;>first|exact cU|exact hkey|exact hv|exact he|exact kL|skip
  rintro⟨mc,rc⟩ _;refine⟨pz.mk { p with p:=b } 0 mc rc,?_⟩
  grind [qe,mw,af.refl]
 ·have hop:¬w.op=2:=by simpa using c3
  refine⟨?_,fun _ _=>⟨fun c4=>?_,fun c4=>?_⟩⟩
  ·have hG:mK n.s.fl p.p.fl:=hat.st.fl;refine⟨fun _=>⟨⟨Kg.mk n.s.fl p.p.fl w.key n.now g,?_⟩,⟨Kg.mk n.s.fl p.p.fl w.key n.now g,?_⟩⟩,fun _=>⟨Kg.mk n.s.fl p.p.fl w.key n.now g,?_⟩⟩ <;>
   ·and_intros<;>first|exact cU|exact hG|exact hrd|exact hent|exact hkey|exact kL|skip
    intro _ _;refine⟨(),?_⟩
    grind [af.refl]
  ·obtain⟨x,hx⟩:=zBK.1 c4;have eN:∀b,kW n r w g b=qe n w 0 x.val true:=fun b=>by grind [kW]
   have hv:x.val.size<=aB:=aeV hent hx;rw[hx];refine⟨sA.mk n p w 0 x.val true,?_⟩
   and_intros<;>first|exact cU|exact hkey|exact hv|(intro h_;revert h_)|omega|grind|rfl|exact af.refl _ _ _|exact cW _|(dsimp only;omega)|skip
   rintro⟨mc,rc⟩ _;refine⟨pz.mk p 0 mc rc,?_⟩
   grind [qe,af.refl]
  ·have hx:sS g n.now=none:=by simpa using c4
   have eN:∀b,kW n r w g b=⟨jw n w b,[],[]⟩:=fun b=>by grind [kW]
   refine⟨Gp.mk p.mb n.t p.p.H w.key,?_⟩
   and_intros<;>first|exact cU|exact hat.tok|exact hlast|exact hkey|exact kL|skip
   intro b hb;have hat1:=hat.ajK hb hkey hlast;refine⟨by omega,by omega,by omega,fun cap hcap _ _=>⟨pz.mk { p with p:={ p.p with H:=bB p.p.H b 0 [.string w.key,.bool true] },rc:=cap } b 0 0,?_⟩⟩;have hN:bz (jw n w b) { p with p:={ p.p with H:=bB p.p.H b 0 [.string w.key,.bool true] },rc:=cap }:=⟨hat1.st,hat1.tok,hat1.sep,hat.wc,by grind [jw]⟩
   have hp:af (n.rs++[(⟨w,n.t.last+1⟩:kI)]).length 5 (bq (aa fD n.rs) 0 n.rs.length fun i j=>aV 5 (fD ⟨w,n.t.last+1⟩) (0+i) j) (aa fD (n.rs++[⟨w,n.t.last+1⟩])):=.push rfl (by simp) rfl;have hl2:(n.rs++[(⟨w,n.t.last+1⟩:kI)]).length<=n.rs.length+1:=by simp
   have hl3:n.rs.length+1=(n.rs++[(⟨w,n.t.last+1⟩:kI)]).length:=by simp
   dsimp only;rw[eN];dsimp only[jw]
   and_intros<;>first|exact cU|exact hN|exact hp|exact hl2|exact hl3|(intro h_;revert h_)|omega|grind [af.refl]|rfl|grind|grind|(dsimp only;omega)|skip)
theorem ahz:av (Y Tryz.prog).G.X 48 ajU:=bp gf ahy ⟨Rg.DL,Ej,Tz,EK,KK,aau,aas,aef,adM,trivial⟩
def KZ:cB where
 α:=yC
 β:=pz
 m:=24
 m':=31
 pre:=fun a=>wG a/\a.w.node=0
 args:=fun a=>[.a (.ptr 0 0 0 0),.a (.int .i64 a.w.id),.a (.int .i64 a.w.op),.a (.str a.w.key)]
 hp:=fun a=>Bt (.ptr 21 0 0 0) .dJ .dJ 0 7 1 3 4 5 6 8 9 10 11 12 13 14 15 16 17 18 19 20 a.n a.p
 ro:=fun a=>ahx 1 2 21 22 23 a.n a.r
 post:=fun a b=>bz (kW a.n a.r a.w a.g b.b).n b.p
 res:=fun a b=>.agg [.slc 29 0 21 (kW a.n a.r a.w a.g b.b).ms.length b.mc,.slc 30 0 6 (kW a.n a.r a.w a.g b.b).rs.length b.rc]
 eV:=fun a b=>Bt (.ptr 21 0 0 0) .dJ .dJ 0 7 1 3 4 27 28 8 9 10 11 12 24 14 25 16 17 18 19 26 (kW a.n a.r a.w a.g b.b).n b.p++[xw 29 (kW a.n a.r a.w a.g b.b).ms,Bk 30 (kW a.n a.r a.w a.g b.b).rs]
def rQ(z u:bG)(y v:dP)(w:Prop):=aM (cK z.s.cL u.s.cL y.p.cy v.p.cy (jS z.s.d u.s y.p.x v.p y.p.xc z.s.ms y.p.jc z.s.jL y.p.jy z.s.k y.p.kc w))
def pK(u z:dP)(x y v:bG)(w:dP)(s:Prop):=fH u z x y (gn v y w z (x.t.last=y.t.last) (pJ u.mb z y x x.rs (0=0) s))
def GC(x:bG)(y:gD)(z:dP)(u:pz)(v w:Prop):=sY x.s y.n.s z.p u.p.p (gn x y.n z u.p (x.t.last=y.n.t.last) (pJ z.mb u.p y.n x x.rs v w))
def HF(v w:bG)(s t:Rg.dy)(f:Prop)(g z u:pz->gD)(h i:pz->Prop):=ah (iu v w v.now (nA s t f (∀x:pz,bz (g x).n x.p->∃y:pz,ax (bJ (z x).ms) (bJ (u y).ms) x.mc y.mc/\ax (bT (z x).rs) (bT (u y).rs) x.rc y.rc/\fH x.p y.p (z x).n (u y).n (nM (u y).ms (z x).ms/\tn (u y).rs (bT (z x).rs) (z x).rs (ah (GC (z x).n (u y) x.p y (h y) (i y)))))))
def mh(x y:bG)(z u:dP)(v:Prop):=x.s.bP=y.s.bP/\rQ x y z u v
theorem aaL:fnBody (Y Tryz.prog) [(48,ajU)] 13 KZ fun _=>[]:=fnBody.of (p :=
 ∀x:yC,wG x/\x.w.node=(0:Int)->∃y:yC,ah ((0:Int)=y.w.node/\Bu x.w y.w (pK x.p y.p x.n y.n x.n x.p (aM (mh x.n y.n x.p y.p (HF x.n y.n x.r y.r (wG y) (fun z=>dZ y z) (fun z=>dZ y z) (fun z=>dZ x z) (fun z=>bz (gD.n (dZ x z)) z.p) fun z=>True)))))) (by kernel_rfl) (by
 delta k8 qd aO aj pJ dY aA aM dZ mz eE cw dN fL iA rQ dr pK HF nA bJ cK dF nM fH gn gF ah bU jS di fh bT mh ax tn cN iu Bu mg GC dc
 try dsimp -iota -proj only
 grind [af.refl])
theorem Ns:av (Y Tryz.prog).G.X 13 KZ:=bp gf aaL ⟨ahz,trivial⟩
def xV(now:Int)(l:iJ)(sent ep:Int):Bool:=decide (ep<1)||decide (ep<l.top)||decide (sent<0)||decide (now<sent)||decide (20<=now-sent)
def kJ(now:Int)(l:iJ)(sent ep:Int):iJ:=if xV now l sent ep=true then l else if ep=l.ay/\sent+20<=l.end_ then l else⟨ep,sent+20,ep⟩
structure Bx where
 l:iJ
 now:Int
 sent:Int
 ep:Int
def K0:cB where
 α:=Bx
 m:=2
 m':=2
 pre:=fun a=>a.now<1000000000000000
 args:=fun a=>[.a (.ptr 0 0 0 0),.a (.int .i64 a.sent),.a (.int .i64 a.ep)]
 hp:=fun a=>[(0,Mh 1 a.l)]
 ro:=fun a=>[(1,Qv a.now)]
 res:=fun _ _=>.a .any
 eV:=fun a _=>[(0,Mh 1 (kJ a.now a.l a.sent a.ep))]
def uQ(x:Bx):iJ:=kJ x.now x.l x.sent x.ep
def GD(x:Bx):Unit->Prop:=aD (ah (mz x.l (uQ x) True True))
def QO(x:Bx):=ai (x.sent+(20:Int))/\(ai x.l.ay->tV (x.ep == x.l.ay) x.l.end_ (bF (x.sent+(20:Int)) x.l.end_) (Exists (GD x)) (Exists (aD (ah (x.ep=iJ.ay (uQ x)/\x.sent+(20:Int)=iJ.end_ (uQ x)/\bA (x.ep=iJ.top (uQ x)))))))
def nN(x:Int):=x<(1000000000000000:Int)
theorem aaM:fnBody (Y Tryz.prog) [] 99 K0 fun _=>[]:=fnBody.of (p :=
 ∀x:Bx,nN x.now->aI x.ep 1 (Exists (GD x)) (ai x.l.top->jo (aN x.ep x.l.top) (Exists (GD x)) (aN x.sent 0) (ai x.now->aI x.now x.sent (Exists (GD x)) (aI x.sent 0 (QO x) (ai x.now->aI x.now x.sent (QO x) (qx x.now x.sent (aK (bF 20 (x.now-x.sent)) (Exists (GD x)) (QO x)))))))) (by kernel_rfl) (by
 delta aK ai aN mz aU tV jo aq bF QO gF ah aI aD qx GD bA uQ nN
 rintro⟨l,now,sent,ep⟩ h;have h:now<1000000000000000:=h;dsimp only;have no:xV now l sent ep=true->kJ now l sent ep=l:=fun e=>if_pos e;have yes:xV now l sent ep=false->ep=l.ay->sent+20<=l.end_->kJ now l sent ep=l:=fun e h1 h2=>by grind [kJ]
 have new:xV now l sent ep=false->¬(ep=l.ay/\sent+20<=l.end_)->kJ now l sent ep=⟨ep,sent+20,ep⟩:=fun e h1=>by grind [kJ]
 unfold xV at no yes new;simp only[IE,Bool.or_eq_false_iff,tB,decide_eq_false_iff_not,beq_iff_eq,beq_eq_false_iff_ne]at *;refine⟨fun c1=>⟨(),?_⟩,fun c1 _=>⟨fun c2=>⟨(),?_⟩,fun c2=>⟨fun c3=>⟨(),?_⟩,fun c3 _=>⟨fun c4=>⟨(),?_⟩,fun c4=>⟨fun c5=>absurd c5 c3,fun _ _=>⟨fun c6=>absurd c6 c4,fun _ _=>⟨by simp only[bZ];omega,fun c7=>⟨(),?_⟩,fun c7=>⟨by simp only[bZ];omega,fun _=>⟨fun c8 _=>⟨fun c9=>⟨(),?_⟩,fun c9=>⟨(),?_⟩⟩,fun c8=>⟨(),?_⟩⟩⟩⟩⟩⟩⟩⟩⟩⟩
 ·grind
 ·grind
 ·grind
 ·grind
 ·grind
 ·grind
 ·grind
 grind)
theorem B7:av (Y Tryz.prog).G.X 99 K0:=bp gf aaM trivial
def Al:LH:=.mk 60 [] []
def jx(n:bG)(ir ep tick:Int):s9:=⟨2,ir,n.id,ep,tick,0,0,0,0,oN,0,false,gQ,0⟩
def Mi(k:Int)(ir to ep tick id op:A)(key:ByteArray)(mem:A):List A:=[.lit .i64 k,ir,to,ep,tick,.lit .i64 0,.lit .i64 0,id,op,.str key,.lit .i64 0,.ff,.str oN,.str oN,.lit .i64 0,.ff,.dJ,.dJ,mem,.lit .i64 0,.dJ]
structure GF where
 n:bG
 p:dP
 r:Rg.dy
 ir:Int
 ep:Int
 tick:Int
 l:List Int
 cap:Nat
def Yv:cB where
 α:=GF
 m:=18
 m':=20
 pre:=fun a=>a.n.now<1000000000000000/\ua (jx a.n a.ir a.ep a.tick)/\Rg.jE a.l=true/\a.ep=a.n.s.k.m.ay/\a.n.s.k.m.ready=0
 args:=fun a=>[.a (.ptr 0 0 0 0),.agg (Mi 2 (.int .i64 a.ir) (.int .i64 a.n.id) (.int .i64 a.ep) (.int .i64 a.tick) (.lit .i64 0) (.lit .i64 0) oN (.slc 17 0 1 a.l.length a.cap))]
 hp:=fun a=>[(0,wS (.ptr 14 0 0 0) 7 1 3 5 6 a.n a.p),(1,Mh 2 a.n.le)]
 ro:=fun a=>[(2,Qv a.n.now),(7,stO 8 9 10 a.n.s.bP),(10,.obj 155 (.ptr 11 0 0 0::Ah a.n.s.k.m)),(17,.arr 3 [.int .i64] a.l.length (aa Rg.encI a.l))]++CI 14 15 16 a.r
 res:=fun _ _=>.agg [.slc 18 0 21 0 0,.slc 19 0 6 0 0]
 eV:=fun a _=>[(0,wS (.ptr 14 0 0 0) 7 1 3 5 6 a.n a.p),(1,Mh 2 (kJ a.n.now a.n.le a.tick a.ep))]
def ajW:List (Nat×cB):=[(55,Nr),(56,Rg.C6),(99,K0)]
def HG(x:bG)(u:List Int)(v:Nat)(y:Int)(w z t:Prop):=x.s.k.m.ready=(0:Int)/\Exists (rO u v fun f=>aP (aK (Rg.jE f.l) (ai y->aI y x.s.k.m.ay w (jK y x.s.k.m.ay z z)) t))
def By(y:bG)(u:Prop)(v w s:Int)(z:List Int)(t:Nat)(f:Aj->Prop):=ai y.id->ai y.id->aK (y.id != y.id) u (∃x:Aj,zN 2 x.m v y.id w s 0 oN 0 (cN z x.l t x.cap) ((0:Int)=x.m.base/\dr x.l z Rg.encI/\(ua x.m/\(x.l=[]\/aq (Rg.jE x.l)))/\aP (f x)))
def DN(y:bG)(x:Prop)(w z s:Int)(u:List Int)(v:Nat)(t f:Prop):=By y x w z s u v fun g=>aK (bg (decide (aT g.m.key<=40))) x (HG y u v z t f x)
def zP(x:GF)(y:Prop):=ua (jx x.n x.ir x.ep x.tick)/\aq (Rg.jE x.l)/\y/\x.n.s.k.m.ready=(0:Int)
def tu(x:Prop):=ah (0=0)/\ah (0=0)/\x
def Wv(x:GF)(y:iJ):Unit->Prop:=aD (tu (kV x.n x.p (0=0) (mz y (kJ x.n.now x.n.le x.tick x.ep) True True)))
def DO(y z:Int)(u:Bx->Prop):=ai y->ai z->∃x:Bx,ah (y=x.sent/\z=x.ep/\ah (u x))
theorem aeW:fnBody (Y Tryz.prog) ajW 16 Yv fun _=>[(16,[],[.T6 4 5 0 Al]),(57,[],[.Em 0 28 false Al]),(98,[],[.Em 0 20 true Al])]:=fnBody.of (p :=
 ∀x:GF,nN x.n.now/\zP x (x.ep=x.n.s.k.m.ay)->DN x.n (Exists (Wv x x.n.le)) x.ir x.ep x.tick x.l x.cap False (ai x.ep->ai x.n.s.k.m.ay->aq (x.ep == x.n.s.k.m.ay)/\DO x.tick x.ep fun y=>mz x.n.le y.l (x.n.now=y.now) (nN y.now/\aP (Exists (Wv x (uQ y)))))) (by kernel_rfl) (by
 delta k8 aK aO aj ai aA az aN mz eE cw dN fL aU iA HG dr aP aT zN aq DN mX kV gF ah bU aI aD di zP rO bg ax jK cN tu uQ nN zM By Wv DO dc
 try dsimp -iota -proj only
 rintro⟨n,p,r,ir,ep,tick,l,cap⟩ ⟨h1,hm,hl,he,hr⟩ _ _;dsimp only at *;subst he;have hl1:l.length<100000:=by have:=Rg.tZ hl;omega
 have ho:l=[]\/Rg.jE l=true:=.inr hl;refine⟨fun c=>by simp at c,fun _=>⟨Aj.mk (jx n ir n.s.k.m.ay tick) l cap,?_⟩⟩
 and_intros<;>first|exact cU|exact hm|exact ho|(intro h_;revert h_)|omega|with_reducible exact af.refl _ _ _|rfl|grind|grind|(dsimp only;omega)|skip
 intro _ _;have hz:(!decide ((jx n ir n.s.k.m.ay tick).key.size<=40))=false:=rfl;refine⟨fun c=>absurd (hz.symm.trans c) (by decide),fun _=>⟨hr,⟨l,cap⟩,?_⟩⟩
 and_intros<;>first|exact cU|exact hl1|(intro h_;revert h_)|omega|grind [af.refl]|rfl|grind|grind|(dsimp only;omega)|skip
 intro _ _;refine⟨fun _ _=>⟨fun c=>?_,fun _ _=>⟨fun _ _ _=>⟨?_,fun _ _=>⟨Bx.mk n.le n.now tick n.s.k.m.ay,?_⟩⟩,fun c=>by simp at c⟩⟩,fun c=>by grind⟩
 ·simp at c
 ·simp
 grind)
theorem aeX:av (Y Tryz.prog).G.X 16 Yv:=bp gf aeW ⟨yB,Rg.pn,B7,trivial⟩
structure Ww where
 n:bG
 p:dP
 key:ByteArray
def QS:cB where
 α:=Ww
 m:=14
 m':=14
 pre:=fun a=>a.key.size<=aB/\1<=a.n.id
 args:=fun a=>[.a (.ptr 0 0 0 0),.a (.str a.key)]
 ro:=fun a=>[(0,wS .nil 7 1 3 5 6 a.n a.p),(1,Mh 2 a.n.le),(2,Qv a.n.now),(7,stO 8 9 10 a.n.s.bP),(10,.obj 155 (.ptr 11 0 0 0::Ah a.n.s.k.m))]
 res:=fun _ _=>.a .ff
theorem aaN:fnBody (Y Tryz.prog) [(66,Ix.zu)] 19 QS fun _=>[]:=fnBody.of (p :=
 ∀x:Ww,aT x.key<=aB/\(1:Int)<=x.n.id->ai x.n.id->Exists (FP x.key fun y=>QL 0 x.n (aO false) (aU true))) (by kernel_rfl) (by
 delta aK aO ai aA aN aU tV bN aP aT aq bR iQ bW ah aD QL bg FP ax bA
 try dsimp -iota -proj only
 rintro⟨n,p,key⟩ ⟨h1,h2⟩ _;dsimp only at *;have hr:af 1 1 (aV 1 [Go.Value.string key]) (fun(i x:Nat)=>Go.Value.string key):=.fN fun i hi=>by
  have:i=0:=by omega
  subst this;rfl
 have hs:∀i:Nat,i<1->key.size<=aB:=fun _ _=>h1;refine⟨⟨fun _=>key,1,1⟩,?_⟩
 grind)
theorem aaO:av (Y Tryz.prog).G.X 19 QS:=bp gf aaN ⟨Ix.yu,trivial⟩
def QT:cB where
 α:=Ak
 β:=Nat
 m:=15
 m':=16
 pre:=fun a=>a.n.rs.length<1000
 args:=fun a=>[.a (.ptr 0 0 0 0)]
 ro:=fun a=>[(0,wS .nil 7 1 3 5 6 a.n a.p),(6,.arr 134 Gs a.n.rs.length (aa fD a.n.rs))]
 res:=fun a c=>.a (.slc 15 0 1 (aH a.n.rs).length c)
 eV:=fun a _=>[(15,.arr 9 [.str] (aH a.n.rs).length (aa ic (aH a.n.rs)))]
theorem aaP:fnBody (Y Tryz.prog) [] 17 QT fun a=>[(17,[aiC a],[])]:=fnBody.of (p :=
 ∀x:Ak,QM x (fun y=>s8 x.n x.p (uO x.n) (bE y.fst (cw x.n))) fun y z=>s8 x.n x.p (uO x.n) (bL z.fst (cw x.n) y.fst)) (by kernel_rfl) (by
 delta k8 cE aK aQ aO ai aA az aG gq aN aF eE cw dN fL bK aU iA gI bI aZ ag bD jF iO bL aq dU bR iQ iP QM aC bW ah bU aS fS aI di bf s8 DM aY ax xU bS uO ja eu zF jM bw bM bE
 try dsimp -iota -proj only
 rintro⟨n,p⟩ h;have h:n.rs.length<1000:=h;have hl:∀i,(aH (List.take i n.rs)).length=min i n.rs.length:=fun i=>by simp[aH]
 refine⟨⟨(0,0),?_⟩,fun⟨i,c⟩ hi=>⟨fun c1=>?_,fun c1=>⟨c,?_⟩⟩⟩
 ·grind [af.refl]
 ·dsimp only at *;have hi:i<n.rs.length:=by have:=qi c1;omega
  have hs:aH (List.take (i+1) n.rs)=aH (List.take i n.rs)++[(gl n.rs i).w.key]:=by
   unfold aH;rw[gU hi,T3];rfl
  have hz:0+(i:Int).toNat=i:=by omega
  have hli:=hl i;rw[hz];refine⟨by omega,hi,by omega,by omega,by omega,fun cap _ _ _=>⟨by simp only[bZ];omega,(i+1,cap),?_⟩⟩;dsimp only;rw[hs];have hp:af (aH (List.take i n.rs)++[(gl n.rs i).w.key]).length 1 (bq (aa ic (aH (List.take i n.rs))) 0 (aH (List.take i n.rs)).length fun i_1 j=>aV 1 (ic (gl n.rs i).w.key) (0+i_1) j) (aa ic (aH (List.take i n.rs)++[(gl n.rs i).w.key])):=.push rfl (by simp) rfl
  and_intros<;>first|exact cU|exact hp|exact by simp|omega|omega|with_reducible exact af.refl _ _ _|rfl|exact af.refl _ _ _|exact cW _|(dsimp only;omega)|skip
 ·dsimp only at *;have hi:i=n.rs.length:=by have:=ug c1;omega
  grind [af.refl])
theorem aaQ:av (Y Tryz.prog).G.X 17 QT:=bp gf aaP trivial
def aeY:List (Nat×cB):=[(55,Nr),(56,Rg.C6)]
def QU:cB where
 α:=GF
 m:=18
 m':=20
 pre:=fun a=>ua (jx a.n a.ir a.ep a.tick)/\Rg.jE a.l=true/\a.ep<a.n.s.k.m.ay/\a.n.s.k.m.ready=0
 args:=fun a=>[.a (.ptr 0 0 0 0),.agg (Mi 2 (.int .i64 a.ir) (.int .i64 a.n.id) (.int .i64 a.ep) (.int .i64 a.tick) (.lit .i64 0) (.lit .i64 0) oN (.slc 17 0 1 a.l.length a.cap))]
 hp:=fun a=>[(0,wS .nil 7 1 3 5 6 a.n a.p)]
 ro:=fun a=>[(7,stO 8 9 10 a.n.s.bP),(10,.obj 155 (.ptr 11 0 0 0::Ah a.n.s.k.m)),(17,.arr 3 [.int .i64] a.l.length (aa Rg.encI a.l))]
 res:=fun _ _=>.agg [.slc 18 0 21 0 0,.slc 19 0 6 0 0]
 eV:=fun a _=>[(0,wS .nil 7 1 3 5 6 a.n a.p)]
def QV(x:GF)(y:Prop):=zP x (x.ep<x.n.s.k.m.ay)->DN x.n (Exists (aD (tu y))) x.ir x.ep x.tick x.l x.cap (Exists (aD (tu y))) False
theorem aaR:fnBody (Y Tryz.prog) aeY 16 QU fun _=>[(16,[],[.T6 4 5 0 Al]),(57,[],[.Em 0 28 true Al])]:=fnBody.of (p :=
 ∀x:GF,QV x (s8 x.n x.p True True)) (by kernel_rfl) (by
 delta k8 aK aO aj ai aA az aN eE cw dN fL aU iA HG dr aP aT zN aq DN mX ah bU aI aD di zP rO bg s8 ax jK QV cN tu zM By dc
 try dsimp -iota -proj only
 rintro⟨n,p,r,ir,ep,tick,l,cap⟩ ⟨hm,hl,he,hr⟩ _ _;dsimp only at *;have hl1:l.length<100000:=by have:=Rg.tZ hl;omega
 have ho:l=[]\/Rg.jE l=true:=.inr hl;have hz:(!decide ((jx n ir ep tick).key.size<=40))=false:=rfl;refine⟨fun c=>by simp at c,fun _=>⟨Aj.mk (jx n ir ep tick) l cap,?_⟩⟩
 and_intros<;>first|exact cU|exact hm|exact ho|(intro h_;revert h_)|omega|with_reducible exact af.refl _ _ _|rfl|grind|grind|(dsimp only;omega)|skip
 intro _ _;refine⟨fun c=>absurd (hz.symm.trans c) (by decide),fun _=>⟨hr,⟨l,cap⟩,?_⟩⟩
 grind [af.refl])
theorem aaS:av (Y Tryz.prog).G.X 16 QU:=bp gf aaR ⟨yB,Rg.pn,trivial⟩
def QW:cB where
 α:=GF
 m:=18
 m':=20
 pre:=fun a=>ua (jx a.n a.ir a.ep a.tick)/\Rg.jE a.l=true/\a.ep<a.n.s.k.m.ay/\a.n.s.k.m.ready=0
 args:=fun a=>[.a (.ptr 0 0 0 0),.agg (Mi 2 (.int .i64 a.ir) (.int .i64 a.n.id) (.int .i64 a.ep) (.int .i64 a.tick) (.lit .i64 0) (.lit .i64 0) oN (.slc 17 0 1 a.l.length a.cap))]
 hp:=fun a=>[(0,wS (.ptr 14 0 0 0) 7 1 3 5 6 a.n a.p)]
 ro:=fun a=>[(7,stO 8 9 10 a.n.s.bP),(10,.obj 155 (.ptr 11 0 0 0::Ah a.n.s.k.m)),(17,.arr 3 [.int .i64] a.l.length (aa Rg.encI a.l))]
 res:=fun _ _=>.agg [.slc 18 0 21 0 0,.slc 19 0 6 0 0]
 eV:=fun a _=>[(0,wS (.ptr 14 0 0 0) 7 1 3 5 6 a.n a.p)]
theorem aaT:fnBody (Y Tryz.prog) aeY 16 QW fun _=>[(16,[],[.T6 4 5 0 Al]),(57,[],[.Em 0 28 true Al])]:=fnBody.of (p :=
 ∀x:GF,QV x (kV x.n x.p True True)) (by kernel_rfl) (by
 delta k8 aK aO aj ai aA az aN eE cw dN fL aU iA HG dr aP aT zN aq DN mX kV ah bU aI aD di zP rO bg ax jK QV cN tu zM By dc
 try dsimp -iota -proj only
 rintro⟨n,p,r,ir,ep,tick,l,cap⟩ ⟨hm,hl,he,hr⟩ _ _;dsimp only at *;have hl1:l.length<100000:=by have:=Rg.tZ hl;omega
 have ho:l=[]\/Rg.jE l=true:=.inr hl;have hz:(!decide ((jx n ir ep tick).key.size<=40))=false:=rfl;refine⟨fun c=>by simp at c,fun _=>⟨Aj.mk (jx n ir ep tick) l cap,?_⟩⟩
 and_intros<;>first|exact cU|exact hm|exact ho|(intro h_;revert h_)|omega|with_reducible exact af.refl _ _ _|rfl|grind|grind|(dsimp only;omega)|skip
 intro _ _;refine⟨fun c=>absurd (hz.symm.trans c) (by decide),fun _=>⟨hr,⟨l,cap⟩,?_⟩⟩
 grind [af.refl])
theorem aaU:av (Y Tryz.prog).G.X 16 QW:=bp gf aaT ⟨yB,Rg.pn,trivial⟩
theorem aeZ{α:Type}[Inhabited α]{l:List α}{i j:Nat}:gl (l.eraseIdx i) j=if j<i then gl l j else gl l (j+1):=by
 grind [gl]
structure Bz where
 l:List kI
 cap:Nat
 k:Nat
def af0:cB where
 α:=Bz
 β:=Nat
 m:=1
 m':=2
 pre:=fun a=>a.l.length<2000/\a.l.length<=a.cap/\a.k<a.l.length
 args:=fun a=>[.a (.slc 0 0 5 a.l.length a.cap),.a (.int .i64 a.k),.a (.int .i64 (a.k+1))]
 hp:=fun a=>[(0,.arr 134 Gs a.l.length (aa fD a.l))]
 post:=fun a cap=>(a.l.eraseIdx a.k).length<=cap
 res:=fun a cap=>.a (.slc 1 0 5 (a.l.eraseIdx a.k).length cap)
 eV:=fun a _=>[(1,.arr 134 Gs (a.l.eraseIdx a.k).length (aa fD (a.l.eraseIdx a.k)))]
def BA(x:Bz):List kI:=x.l.eraseIdx x.k
def tv(x:Bz):Nat:=List.length (BA x)
def QX(x:Bz):Nat:=aG x.k-0+(x.l.length-aC (bI x.k))
def GG(y:Int)(x z u v:Nat)(w:Nat->Prop):=fm y x/\0+(z-0)<=x/\0+aC y+(x-aC y)<=x/\gq (z-0) (x-aC y) u (v-0) fun s=>w s
def QY(x:Bz):=x.l.length<2000/\x.l.length<=x.cap/\x.k<x.l.length
theorem af1:fnBody (Y Tryz.prog) [] 71 af0 fun _=>[]:=fnBody.of (p :=
 ∀x:Bz,QY x->fm (ag x.l.length) x.cap/\sL (bI x.k) (aG x.l.length) (ag x.k) (aK (ag x.k == bI x.k) (∃y:Nat,iQ x.l.length (tv x) x.cap y 5 (aa fD x.l) (aa fD (BA x)) (tv x<=y) True) (fm (ag x.k) x.cap/\GG (bI x.k) x.l.length (aG x.k) 48 x.cap fun y=>fm (ag x.l.length) y/\fm (ag (QX x)) (aG x.l.length)/\∃z:Nat,iQ (QX x) (tv x) y z 5 (fun u=>FA (QX x) u (aG x.l.length) (cI 0 (cI 0 (wu 0 dx 0))) fun v=>bq (aa fD x.l) 0 (aG x.k-0) (fun w s=>aa fD x.l (0+aC (bI x.k)+w) s) u v) (aa fD (BA x)) (tv x<=z) True))) (by kernel_rfl) (by
 delta aK aL aA cI aG gq fB aU bI fm dx ag aq bR iQ aC ah tv cO ax gm QX GG sL BA eu wu QY FA
 try dsimp -iota -proj only
 rintro⟨l,cap,k⟩ ⟨h1,h2,h3⟩;dsimp only at *;have el:(l.eraseIdx k).length=l.length-1:=by rw[List.length_eraseIdx];simp[h3]
 have e1:((k:Int)+1).toNat=k+1:=by omega
 have e2:k+(l.length-(k+1))=l.length-1:=by omega
 simp only[mA,Ay,e1,el,LL,e2];refine⟨by omega,by omega,by omega,fun g=>(by grind),fun _=>⟨by omega,by omega,by omega,by omega,by omega,fun c' g1 g2 g3=>⟨by omega,by omega,c',?_⟩⟩⟩;have hr:af (l.length-1) 5 (fun i j=>if l.length-1<=i/\i<l.length-1+(l.length-(l.length-1))then(fD default).getD j (Value.tuple #[])else bq (aa fD l) 0 k (fun i j=>aa fD l (k+1+i) j) i j) (aa fD (l.eraseIdx k)):=⟨fun i hi j hj=>by
  rw[if_neg (by omega)];simp only[bq,aa,aeZ,mA]
  grind⟩
 (and_intros<;>first|exact MG|skip))
theorem af2:av (Y Tryz.prog).G.X 71 af0:=bp gf af1 trivial
structure uR where
 n:bG
 p:dP
 r:Rg.dy
 k:Nat
 val:ByteArray
 has:Bool
def uR.rd(a:uR):kI:=gl a.n.rs a.k
def jh(val:ByteArray)(has:Bool):ByteArray:=if has=true then val else oN
def mT(n:bG)(x:kI):Bool:=match oe n.t x.tok with|some e=>e.good|none=>false
def jG(x:kI)(val:ByteArray):aW:=⟨x.w.key,val,0,false⟩
def sB(n:bG)(r:Rg.dy)(x:kI)(val:ByteArray)(has:Bool):Bool:=mT n x&&(has&&(decide ((jh val has).size<=200)&&gJ n r x.w.key))
def mM(n:bG)(r:Rg.dy)(k:Nat)(val:ByteArray)(has:Bool):bG:={ n with rs:=n.rs.eraseIdx k,t:=qC n.t (gl n.rs k).tok,s:=if sB n r (gl n.rs k) val has=true then flS (Tj n.s (jG (gl n.rs k) (jh val has)))else n.s }
def aaV(n:bG)(r:Rg.dy)(k:Nat)(val:ByteArray)(has:Bool):gD:=qe (mM n r k val has) (gl n.rs k).w 0 (jh val has) has
def uR.q(a:uR):gD:=aaV a.n a.r a.k a.val a.has
structure CJ(a:uR):Prop where
 at_:bz a.n a.p
 ring:a.r.L.length<100000/\0<a.r.L.length
 free:a.n.s.k.m.frozen=false
 k:a.k<a.n.rs.length
 room:a.n.rs.length<1000
 tok:bZ .i64 a.rd.tok
 key:dB a.rd.w.key=true
 val:a.val.size<=aB
 put:(jh a.val a.has).size<=200->Aw a.n.s.fl (bl (some (jG a.rd (jh a.val a.has)))).length
 dev:(jh a.val a.has).size<=200->(Tj a.n.s (jG a.rd (jh a.val a.has))).d.calls<1000000000000/\(Tj a.n.s (jG a.rd (jh a.val a.has))).d.n<100000
def TE:cB where
 α:=uR
 β:=pz
 m:=24
 m':=31
 pre:=CJ
 args:=fun a=>[.a (.ptr 0 0 0 0),.a (.int .i64 a.k),.a (.str a.val),.a (.bool a.has)]
 hp:=fun a=>Bt (.ptr 21 0 0 0) .dJ .dJ 0 7 1 3 4 5 6 8 9 10 11 12 13 14 15 16 17 18 19 20 a.n a.p
 ro:=fun a=>ahx 1 2 21 22 23 a.n a.r
 post:=fun a b=>bz a.q.n b.p
 res:=fun a b=>.agg [.slc 29 0 21 a.q.ms.length b.mc,.slc 30 0 6 a.q.rs.length b.rc]
 eV:=fun a b=>Bt (.ptr 21 0 0 0) .dJ .dJ 0 7 1 3 4 27 28 8 9 10 11 12 24 14 25 16 17 18 19 26 a.q.n b.p++[xw 29 a.q.ms,Bk 30 a.q.rs]
def ajX:List (Nat×cB):=[(71,af0),(72,aeu),(19,KS),(73,adE),(169,nC),(54,Yt)]
def aiD(a:uR):An:=.mk 7 Unit (fun s _=>s.set 2 (.a (.str (jh a.val a.has)))) (fun _ _=>True) (fun _ _=>0) fun _=>.mk 60 [] [.Em 8 999 true (.mk 60 [] [.mk 0 Bool (fun s b=>s.set 73 (.a (.bool b))) (fun _ b=>b=sB a.n a.r a.rd a.val a.has) (fun _ _=>0) fun _=>.mk 60 [] [.Em 0 87 true Al]])]
theorem jt.use{H:PH}{t:nL}(h:jt H t)(id:Int):jt H (qC t id):=by
 have hs:∀e∈(qC t id).l,e∈t.l:=fun e he=>(zBc.1 he).1;exact⟨fun e he=>h.at_ e (hs e he),(h.blk.sublist (zBC.map _)),fun e he=>h.id e (hs e he),(h.ids.sublist (zBC.map _)),(h.born.sublist (zBC.map _)),h.last⟩
def Ai.BB(p:Ai)(b:yH):Ai:={ p with H:=b.H,cy:=b.y,x:=b.x,xc:=b.cap }
theorem sX.put{s:pY}{p:Ai}(h:sX s p){b:yH}(h1:mK (rK s.fl x) b)(h2:Av p.fl b):sX (flS (Tj s x)) (p.BB b)/\HZ p.H (cC p.cy) (cC p.jy) (p.BB b):=by
 have hj:∀z∈cC p.jy,b.H z=p.H z/\z∉cC b.y:=fun z hz=>h2 z (h.jl.dom z hz) (h.sep z hz);exact⟨⟨⟨h1.log,h1.idx⟩,h.jl.frame fun z hz=>(hj z hz).1,fun z hz=>(hj z hz).2,h.cap⟩,fun z hz hc hjz=>⟨(h2 z hz hc).1,(h2 z hz hc).2,hjz⟩⟩
theorem bz.ajY{n:bG}{p:dP}(h:bz n p)(k:Nat){c:Nat}(hc:(n.rs.eraseIdx k).length<=c)(id:Int):bz { n with rs:=n.rs.eraseIdx k,t:=qC n.t id } { p with rc:=c } :=
 ⟨h.st,h.tok.use id,fun e he=>h.sep e ((zBc.1 he).1),h.wc,hc⟩
theorem K1{x:kI}{v:ByteArray}(hk:dB x.w.key=true)(hv:v.size<=200):oc (jG x v)=true:=by
 grind [oc,jG,jJ]
def wH(x:uR):kI:=gl x.n.rs (0+aG x.k)
def Wx(x:EF):Bool:=match oe x.t x.id with|some y=>y.good|none=>false
def Yw(v:Bool)(y:EF)(x:uR)(z:Bz)(f:Nat):Bool->Prop:=fun(u:Bool)=>v=u/\aO (Wx y)/\jh x.val x.has=jh x.val x.has/\ah (bD (aM (bf x.k/\aO x.has/\dY y.mb (qC y.t y.id)=dY y.mb (qC y.t y.id)/\th (kI.w (wH x)) (az (kI.tok (wH x))/\x.p.p.H=x.p.p.H/\aM (az x.n.id/\aM (di (aQ (bU x.n) x.p.wc/\aQ (tv z) f/\az x.n.asked/\uP x.n/\KW x.n x.r (az (qC y.t y.id).last/\eE (some y.mb)/\cE (tv z) 5 (aa fD (BA z))/\bC (sY x.n.s x.n.s x.p.p x.p.p (u=sB x.n x.r x.rd x.val x.has/\True))))))))))
def QZ(y:Bool)(z x u:Prop):=aK y (Exists (aD (z/\x))) (Exists (aD (u/\x)))
def Wy(y:uR)(s:Bz)(f:Nat)(g:PH)(u:EF)(h:sA->pz->Prop):=∃x:sA,ah ((kI.w (wH y)).node=x.w.node/\Bu (kI.w (wH y)) x.w ((0:Int)=x.err/\jh y.val y.has=x.val/\y.has=x.has/\KY y.n x.n y.p x.p (tv s) f (aT x.w.key<=aB/\aT x.val<=aB) (∀v:Nat×Nat,True->∃z:pz,ax (bJ (wE x)) (bJ y.q.ms) v.fst z.mc/\ax (bT (tj x)) (bT y.q.rs) v.snd z.rc/\g=z.p.p.H/\dY u.mb (qC u.t u.id)=dY z.p.mb y.q.n.t/\nM y.q.ms (wE x)/\tn y.q.rs (bT (tj x)) (tj x) (ah (h x z)))))
def Wz(u:sA)(x:uR)(y:pz)(z:EF)(v:Bz):=gn u.n x.q.n u.p y.p ((qC z.t z.id).last=x.q.n.t.last) (pJ z.mb y.p x.q.n x.n (BA v) (bz x.q.n y.p) True)
theorem af3:fnBody (Y Tryz.prog) ajX 25 TE fun a=>[(25,[],[.Em 0 26 false (.mk 60 [] [aiD a]),aiD a])]:=fnBody.of (p :=
 ∀z:uR,CJ z->aI (ag z.k) 0 False (aU (bF (ag (cw z.n)) (ag z.k))/\fO z.k (cw z.n) (aY z.k (∃u:Bz,ax (cw z.n) u.l.length z.p.rc u.cap/\cm z.k u.k/\bI z.k=bI u.k/\aA u.l.length (cw z.n) 5 (aa fD z.n.rs) (aa fD u.l)/\QY u/\∀i:Nat,tv u<=i->QZ (bg z.has) (dx=jh z.val z.has) (ah (bD (aM (bf z.k/\aO z.has/\th (kI.w (wH z)) (az (kI.tok (wH z))/\fH z.p z.p z.n z.n (aM (az z.n.id/\aM (di (aQ (bU z.n) z.p.wc/\aQ (tv u) i/\cR z.n.asked z.n.t.last (eE (some z.p.mb)) (uP z.n/\KW z.n z.r (cE (tv u) 5 (aa fD (BA u))/\bC (sY z.n.s z.n.s z.p.p z.p.p (True/\True))))))))))))) (z.val=jh z.val z.has)/\aP (ai (kI.tok (wH z))->∃f:EF,ah (kI.tok (wH z)=f.id/\Bw z.n f.t z.p f.mb z.p.p.H f.H (jt f.H f.t/\ai f.id) (aP (rV (Wx f) z.has (aK (bF (ag (aT (jh z.val z.has))) 200) (∃g:wF,ah ((kI.w (wH z)).key=g.key/\KY z.n g.n z.p g.p (tv u) i (0=0) (Bv z.n g z.n z.n z.r (Exists (Yw (gJ g.n g.r g.key) f z u i))))) (Exists (Yw false f z u i))) (Exists (Yw false f z u i))/\∀g:Bool,g=sB z.n z.r z.rd z.val z.has->aK g (∃v:SZ,ah ((kI.w (wH z)).key=v.x.key/\jh z.val z.has=v.x.val/\(0:Int)=v.x.e/\false=v.x.gone /\
 oJ z.n.s.cL v.m z.p.p.cy v.p z.n.s.d z.p.p.x z.p.p.xc (z.p.p.H=v.p.H) (PF v/\∀h:yH,mK (rK v.m v.x) h/\Av v.p h->aq (lC (oc v.x) == (0:Int))/\oE (rK v.m v.x).d fun o=>Wy z u i h.H f fun c j=>z.n.s.bP=z.q.n.s.bP/\aM (cK (rK v.m v.x).L z.q.n.s.cL h.y j.p.p.cy (jS (jq o) z.q.n.s h.x j.p.p h.cap z.n.s.ms z.p.p.jc z.n.s.jL z.p.p.jy z.n.s.k z.p.p.kc (Wz c z j f u)))))) (Wy z u i z.p.p.H f fun v h=>sY z.n.s z.q.n.s z.p.p h.p.p (Wz v z h f u)))))))))) (by kernel_rfl) (by
 delta rV k8 cE aK cR qd aQ aO aj pJ ai dY aA az aG aM aN mz eE cm cw dN fL bK aU iA dr bI dx Yw aP aZ nA bJ ag bD aT wD aq QZ Bv cK Wy dF nM bF dS th oJ fH aC gn nE gF ah bU jS aI aD di iq lC tv fh bT bf fO uM bg wE aY ax wH KW tj tn oE rM cN uP iu KY Bu mg BA bC Bw Bs Wz Wx QY PF dc
 try dsimp -iota -proj only
 intro a ok;obtain⟨n,p,r,k,val,has⟩:=a;obtain⟨hat,⟨r1,r2⟩,hfr,hk,hroom,htok,hkey,hval,hput,hdev⟩:=ok;obtain⟨x,hx⟩:∃x,x=gl n.rs k:=⟨_,rfl⟩
 have hrd:∀p r val has,uR.rd ⟨n,p,r,k,val,has⟩=x:=fun _ _ _ _=>hx.symm;simp only[hrd]at htok hkey hput hdev ⊢;have hz:0+((k:Nat):Int).toNat=k:=by omega
 have hkl:x.w.key.size<=aB:=by have:=(nu hkey).2;unfold aB;omega
 dsimp only at *;rw[hz,<- hx];have hv:(jh val has).size<=aB:=by
  unfold jh;cases has
  ·exact Az _
  ·exact hval
 refine⟨fun c=>(by grind),fun _=>⟨Ml (by omega),by omega,hk,by simp only[bZ];omega,Bz.mk n.rs p.rc k,?_⟩⟩;have h2000:n.rs.length<2000:=by omega
 have hrc:=hat.rc
 and_intros<;>first|exact cU|exact h2000|exact hrc|exact hk|(intro h_;revert h_)|omega|grind [af.refl]|rfl|grind|grind|(dsimp only;omega)|skip
 intro c hc;dsimp only at hc ⊢;have hat1:=hat.ajY k hc x.tok;refine⟨⟨fun e=>⟨(),?_⟩,fun e=>⟨(),?_⟩⟩,fun _ _ _=>⟨EF.mk p.mb n.t p.p.H x.tok,?_⟩⟩
 ·have e:has=false:=by simpa using e
  have ev:ByteArray.mk #[]=jh val has:=by rw[e];rfl
  grind [af.refl]
 ·grind [jh,af.refl]
 and_intros<;>first|exact cU|exact hat.tok|exact htok.1|exact htok.2|exact kL|skip
 intro _ _;have eg:(match oe n.t x.tok with|some e=>e.good|none=>false)=mT n x:=rfl;dsimp only;simp only[eg];refine⟨⟨fun g1=>⟨fun g2=>⟨fun g3=>⟨wF.mk { n with rs:=n.rs.eraseIdx k,t:=qC n.t x.tok } { p with rc:=c } r x.w.key,?_⟩,fun g3=>⟨false,?_⟩⟩,fun g2=>⟨false,?_⟩⟩,fun g1=>⟨false,?_⟩⟩,fun b hb=>⟨fun hbt=>?_,fun hbf=>?_⟩⟩
 ·grind [af.refl,gJ,sB]
 ·grind [sB,af.refl]
 ·grind [sB,af.refl]
 ·grind [sB,af.refl]
 ·have hf:sB n r x val has=true:=hb.symm.trans hbt;have hsz:(jh val has).size<=200:=by
   unfold sB at hf;simp only[jB,tB]at hf;exact hf.2.2.1
  have hpo:=K1 (x:=x) hkey hsz;have eN:uR.q ⟨n,p,r,k,val,has⟩=qe { n with rs:=n.rs.eraseIdx k,t:=qC n.t x.tok,s:=flS (Tj n.s (jG x (jh val has))) } x.w 0 (jh val has) has:=by
   unfold uR.q aaV mM;dsimp only;rw[<- hx,if_pos hf]
  have hfl:mK n.s.fl p.p.fl:=hat.st.fl;have hpu:=hput hsz;have hpu:oc (jG x (jh val has))=true->Aw n.s.fl (bl (some (jG x (jh val has)))).length:=fun _=>hpu;obtain⟨hq1,hq2⟩:=hdev hsz;refine⟨SZ.mk n.s.fl p.p.fl (jG x (jh val has)),?_⟩
  and_intros<;>first|exact cU|exact hfl|exact hpu|exact kL|skip
  rintro b2 ⟨q1,q2⟩;have he:((if oc (jG x (jh val has))=true then(0:Int)else 1) == 0)=true:=by rw[if_pos hpo];rfl
  refine⟨he,(rK n.s.fl (jG x (jh val has))).d,?_⟩
  and_intros<;>first|exact cU|exact hq1|exact hq2|(intro h_;revert h_)|omega|grind [af.refl]|rfl|grind|grind|(dsimp only;omega)|skip
  intro _ _;obtain⟨w1,w2⟩:=hat1.st.put q1 q2;have hat2:=hat1.store w1 w2;refine⟨sA.mk { n with rs:=n.rs.eraseIdx k,t:=qC n.t x.tok } { p with rc:=c } x.w 0 (jh val has) has,?_⟩
  and_intros<;>first|exact cU|exact hkl|exact hv|exact kL|skip
  rintro⟨mc,rc⟩ _;refine⟨pz.mk { p with rc:=c,p:=p.p.BB b2 } 0 mc rc,?_⟩;dsimp only;rw[eN];dsimp only[qe]
  and_intros<;>first|exact cU|exact hat2|exact kL|skip
 ·have hf:sB n r x val has=false:=hb.symm.trans hbf;have eN:uR.q ⟨n,p,r,k,val,has⟩=qe { n with rs:=n.rs.eraseIdx k,t:=qC n.t x.tok } x.w 0 (jh val has) has:=by
   unfold uR.q aaV mM;dsimp only;rw[<- hx,if_neg (by grind)]
  refine⟨sA.mk { n with rs:=n.rs.eraseIdx k,t:=qC n.t x.tok } { p with rc:=c } x.w 0 (jh val has) has,?_⟩
  and_intros<;>first|exact cU|exact hkl|exact hv|exact kL|skip
  rintro⟨mc,rc⟩ _;refine⟨pz.mk { p with rc:=c } 0 mc rc,?_⟩
  grind [qe,af.refl])
theorem TF:av (Y Tryz.prog).G.X 25 TE:=bp gf af3 ⟨af2,aew,EK,adG,lR,Tz,trivial⟩
def uc(n:bG)(ep:Int):MetaM:=⟨n.s.k.m.bP,ep,0,false⟩
def Iv(n:bG)(ep tick:Int):bG:={ n with s:=Tm (DH n.s) (uc n ep),le:=kJ n.now ⟨0,0,0⟩ tick ep,t:=jZ n.t Bj,ws:=noW }
structure gR where
 n:bG
 p:dP
 ir:Int
 ep:Int
 tick:Int
 l:List Int
 cap:Nat
def gR.q(a:gR):bG:=Iv a.n a.ep a.tick
structure wI where
 p:dP
 c1:Nat
 c2:Nat
def dQ(ep:Int)(l:List Int)(c1 c2:Nat):Rg.dy:=⟨ep,l,c1,Rg.lW l,c2⟩
structure CL(a:gR):Prop where
 at_:bz a.n a.p
 msg:ua (jx a.n a.ir a.ep a.tick)
 mem:Rg.jE a.l=true
 ws:a.n.ws=[]
 ep:1<=a.ep/\a.ep<=1099511627776/\a.n.s.k.m.ay<a.ep/\a.n.s.k.m.ready=0
 now:a.n.now<1000000000000000
 wN:a.n.t.l.length<1000
 fl:Aw a.n.s.fl 1/\(kT a.n.s.fl [2]).d.n<100000/\(kT a.n.s.fl [2]).d.calls<900000000000
 k:a.n.s.k.s.at_+1<(DH a.n.s).d.n/\a.n.s.k.s.slot<=1/\(DH a.n.s).d.n<100000/\(DH a.n.s).d.calls<900000000000/\0<=a.n.s.k.s.fW/\a.n.s.k.s.fW<1000000000000
 save:kA a.n.s.k (uc a.n a.ep)=true
theorem sX.aiE{s s':pY}{p:Ai}(h:sX s p){b:yH}(h1:mK s'.fl b)(h2:Av p.fl b)(hj:s'.jL=s.jL)(hm:s'.ms=s.ms):sX s' (p.BB b)/\HZ p.H (cC p.cy) (cC p.jy) (p.BB b):=by
 have hh:∀z∈cC p.jy,b.H z=p.H z/\z∉cC b.y:=fun z hz=>h2 z (h.jl.dom z hz) (h.sep z hz);exact⟨⟨⟨h1.log,h1.idx⟩,by rw[hj];exact h.jl.frame fun z hz=>(hh z hz).1,fun z hz=>(hh z hz).2,by rw[hm];exact h.cap⟩,fun z hz hc hjz=>⟨(h2 z hz hc).1,(h2 z hz hc).2,hjz⟩⟩
theorem Nt{x:Ix.dO}(h:Ix.Has x []):Ix.keysOf x.t=[]:=by
 grind [h.perm.length_eq,Ix.keysOf]
def TG:cB where
 α:=gR
 β:=wI
 m:=22
 m':=33
 pre:=CL
 args:=fun a=>[.a (.ptr 0 0 0 0),.agg (Mi 2 (.int .i64 a.ir) (.int .i64 a.n.id) (.int .i64 a.ep) (.int .i64 a.tick) (.lit .i64 0) (.lit .i64 0) oN (.slc 21 0 1 a.l.length a.cap))]
 hp:=fun a=>Bt .nil .dJ .dJ 0 7 1 3 4 5 6 8 9 10 11 12 13 14 15 16 17 18 19 20 a.n a.p++[(1,Mh 2 a.n.le)]
 ro:=fun a=>[(2,Qv a.n.now),(21,.arr 3 [.int .i64] a.l.length (aa Rg.encI a.l))]
 post:=fun a b=>bz a.q b.p
 res:=fun _ _=>.agg [.slc 31 0 21 0 0,.slc 32 0 6 0 0]
 eV:=fun a b=>Bt (.ptr 22 0 0 0) .dJ .dJ 0 7 1 3 4 26 6 8 9 10 11 27 28 14 15 16 17 18 29 30 a.q b.p++[(1,Mh 2 a.q.le)]++CI 22 23 24 (dQ a.ep a.l b.c1 b.c2)
def af4:List (Nat×cB):=[(55,Nr),(56,Rg.C6),(99,K0),(142,Wd),(100,Qc),(151,Rg.QI),(152,Rg.QE),(194,Ix.Yh),(107,Qt)]
def TH(x y:iJ)(z:Prop):=ah (gF x y z)
def af5(x:bG)(y:MetaM)(z u:Int)(v:Bool)(w t:Prop):=rM x.s.k.m.bP y z u v (w/\t)
def qE(x:gR)(y:wI):Rg.dy:=dQ x.ep x.l y.c1 y.c2
def K2(x:gR)(y:Rg.me->Nat->Rg.me->Nat->Prop):=uE x.ep False 1099511627776 (Exists (rO x.l x.cap fun z=>aP (aU (bg (Rg.jE z.l))/\Exists (rO x.l x.cap fun u=>∀v:Nat,True->Exists (rO x.l x.cap fun w=>∀s:Nat,True->y u v w s)))))
def Q0(o:gR->wI->Prop):=∀z:gR,CL z->By z.n False z.ir z.ep z.tick z.l z.cap fun r=>aU (bg (decide (aT r.m.key<=40)))/\HG z.n z.l z.cap z.ep False (ai z.ep->ai z.n.s.k.m.ay->aU (z.ep == z.n.s.k.m.ay)/\(ai z.n.s.k.m.ready->aq (z.ep != z.n.s.k.m.ready)/\∃v:Nk,aM (aM (Fv z.n.s.cL v.m.L z.p.p.cy.lv v.p.y.lv (iZ z.n.s.d v.m.d (Cf z.p.p.x v.p.x z.p.p.xc v.p.cap (z.p.p.H=v.p.H/\KB v/\∀g:yH,mK (mL v.m) g/\Av v.p g->ai z.n.s.k.m.bP->∃w:Mf,af5 z.n w.m z.ep 0 false (0=0) (M7 z.n.s.k w.k z.p.p.kc w.cap (iZ (mL v.m).d w.d (DD w/\∀c:Nat,True->K2 z fun e A B C=>∃i:Ix.wQ,ah (Cf g.x i.x g.cap i.cap (dh i.x<100000/\∀F:Nat,True->ag (aF (Ix.keysOf i.x.t))=(0:Int)/\∃u:Nn,ah (Bw z.n u.t z.p u.mb g.H u.H (jt u.H u.t/\u.t.l.length<100000) (∀j:PH×Int,(Bi j u.t Bj fun D=>u.H D)->ag (bU z.n)=(0:Int)/\DO z.tick z.ep fun h=>(0:Int)=h.l.ay/\(0:Int)=h.l.end_/\(0:Int)=h.l.top/\z.n.now=h.now/\nN h.now/\aP (∃f:wI,tu (j.fst=f.p.p.H/\dY u.mb (jZ u.t Bj)=dY f.p.mb z.q.t/\aM (z.n.id=z.q.id/\aM (di ((0=bU z.q/\0=f.p.wc)/\ax (cw z.n) (cw z.q) z.p.rc f.p.rc/\z.n.asked=z.q.asked/\(jZ u.t Bj).last=z.q.t.last/\fh u.mb f.p.mb/\bU z.q=0/\tq z.q z.n/\TH (uQ h) z.q.le (qd z.ep (qE z f) e.l A (Rg.lW B.l) C (0=0) (aM (z.n.s.bP=z.q.s.bP /\
 aM (cK (mL v.m).L z.q.s.cL g.y f.p.p.cy (jS (ga w.k w.d w.m) z.q.s g.x f.p.p g.cap z.n.s.ms z.p.p.jc z.n.s.jL z.p.p.jy (pI w.k w.m) c (bz z.q f.p/\True))))))))))))))))))))))))) (∃E:wI,tu (o z E))
theorem af6:fnBody (Y Tryz.prog) af4 16 TG fun _=>[(16,[],[.T6 4 5 0 Al,.ZH 0 [(22,false),(48,true)] (.mk 60 [] [.T6 4 5 0 Al])]),(57,[],[.Em 0 28 false Al]),(98,[],[.ZH 0 [(20,false),(40,true)] (.mk 60 [] [.Em 0 40 true (.mk 60 [] [.T6 15 85 0 Al]),.T6 15 85 0 Al]),.T6 15 85 0 Al]),(104,[],[.T6 2 15 0 (.mk 60 [] [.Em 0 30 false Al]),.Em 0 30 false Al]),(103,[],[.Em 0 15 false Al])]:=fnBody.of (p :=
 Q0 fun x y=>fH x.p y.p x.n x.q (aM (x.n.id=x.q.id/\False))) (by kernel_rfl) (by
 delta aK qd aO aj ai dY aA aM aN aF eE cw dN fL TH aU af5 HG dr aP aZ jo ag dh aT zN aq Q0 cK dF fH mX nE gF ah bU jS aI di uI fh rO tq bg ax jK rM cN kz qE tu uQ nN zM DD K2 Bw By Bi KB uE DO dc
 try dsimp -iota -proj only
 intro a ok;obtain⟨n,p,ir,ep,tick,l,cap⟩:=a;obtain⟨hat,hm,hl,hws,⟨e1,e2,e3,e4⟩,hnow,hfew,⟨f1,f2,f3⟩,⟨k1,k2,k3,k4,k5,k6⟩,hsv⟩:=ok;dsimp only at *;have ho:l=[]\/Rg.jE l=true:=.inr hl;have hl1:l.length<100000:=by have:=Rg.tZ hl;omega
 have hz:(!decide ((jx n ir ep tick).key.size<=40))=false:=rfl;have hne:(ep == n.s.k.m.ay)=false:=by rw[beq_eq_false_iff_ne];omega
 refine fun _ _=>⟨fun c=>by simp at c,fun _=>⟨Aj.mk (jx n ir ep tick) l cap,?_⟩⟩
 and_intros<;>first|exact cU|exact hm|exact ho|(intro h_;revert h_)|omega|with_reducible exact af.refl _ _ _|rfl|grind|grind|(dsimp only;omega)|skip
 intro _ _;refine⟨hz,e4,⟨l,cap⟩,?_⟩
 and_intros<;>first|exact cU|exact hl1|(intro h_;revert h_)|omega|grind [af.refl]|rfl|grind|grind|(dsimp only;omega)|skip
 intro _ _;refine⟨fun _ _=>⟨fun c=>by grind,fun _ _=>⟨fun c=>absurd (c.symm.trans hne) (by decide),fun _ _ _=>⟨hne,fun _=>⟨?_,Nk.mk n.s.fl p.p.fl,?_⟩⟩⟩⟩,fun c=>by grind⟩
 ·grind
 have hfl:mK n.s.fl p.p.fl:=hat.st.fl;have f4:(kT n.s.fl [2]).d.calls<1000000000000:=by omega
 and_intros<;>first|exact cU|exact hfl|exact f1|exact f2|exact f4|exact kL|skip
 rintro b ⟨b1,b2⟩ _;refine⟨Mf.mk n.s.k p.p.kc (mL n.s.fl).d (uc n ep),?_⟩
 and_intros<;>first|exact cU|exact k1|exact k2|exact k3|exact k4|exact k5|exact k6|(intro h_;revert h_)|omega|with_reducible exact af.refl _ _ _|rfl|grind|grind|(dsimp only;omega)|skip
 intro kc _;have hN:(!Rg.jE l)=false:=by rw[hl];rfl
 refine⟨fun c=>by grind,fun _=>⟨fun c=>by grind,fun _=>⟨⟨l,cap⟩,?_⟩⟩⟩
 and_intros<;>first|exact cU|exact hl1|(intro h_;revert h_)|omega|grind [af.refl]|rfl|grind|grind|(dsimp only;omega)|skip
 intro _ _;refine⟨hN,⟨l,cap⟩,?_⟩
 and_intros<;>first|exact cU|exact hl1|(intro h_;revert h_)|omega|grind [af.refl]|rfl|grind|grind|(dsimp only;omega)|skip
 intro c1 _;refine⟨⟨l,cap⟩,?_⟩
 and_intros<;>first|exact cU|exact hl1|(intro h_;revert h_)|omega|grind [af.refl]|rfl|grind|grind|(dsimp only;omega)|skip
 intro c2 _;have hks:=Nt b1.idx;have hlen:b.x.t.length<100000:=by have:=b1.idx.inv.hi;omega
 refine⟨Ix.wQ.mk b.x b.cap oN,?_⟩
 and_intros<;>first|exact cU|exact hlen|(intro h_;revert h_)|omega|grind [af.refl]|rfl|grind|grind|(dsimp only;omega)|skip
 intro _ _;have hk0:((Ix.keysOf b.x.t).length:Int)=0:=by rw[hks];rfl
 obtain⟨w1,w2⟩:=hat.st.aiE (s':=DH n.s) b1 b2 rfl rfl;have w3:sX (Tm (DH n.s) (uc n ep)) { p.p.BB b with kc:=kc }:=⟨⟨w1.fl.log,w1.fl.idx⟩,w1.jl,w1.sep,w1.cap⟩
 have hat1:=hat.store w3 w2;have hf2:n.t.l.length<100000:=by omega
 have htk:jt b.H n.t:=hat1.tok;refine⟨hk0,Nn.mk p.mb n.t b.H,?_⟩
 and_intros<;>first|exact cU|exact htk|exact hf2|exact kL|skip
 rintro⟨H1,cnt⟩ ⟨q1,q2⟩;have hat2:=hat1.aeC q1 q2;have hw0:(n.ws.length:Int)=0:=by rw[hws];rfl
 refine⟨hw0,fun _ _=>⟨Bx.mk ⟨0,0,0⟩ n.now tick ep,?_⟩⟩
 and_intros<;>first|exact cU|exact hnow|exact kL|skip
 intro _ _;refine⟨wI.mk ⟨{ p.p.BB b with kc:=kc,H:=H1 },p.mb,0,p.rc⟩ c1 c2,?_⟩;have hat3:bz (Iv n ep tick) ⟨{ p.p.BB b with kc:=kc,H:=H1 },p.mb,0,p.rc⟩:=⟨hat2.st,hat2.tok,hat2.sep,cW 0,hat2.rc⟩
 have eN:gR.q ⟨n,p,ir,ep,tick,l,cap⟩=Iv n ep tick:=rfl;rw[eN];dsimp only
 and_intros<;>first|exact cU|exact hat3|exact kL|skip)
theorem TJ:av (Y Tryz.prog).G.X 16 TG:=bp gf af6 ⟨yB,Rg.pn,B7,Nl,Gm,Rg.Gz,Rg.Gw,Ix.Kx,KH,trivial⟩
structure Nu(a:gR):Prop where
 at_:bz a.n a.p
 msg:ua (jx a.n a.ir a.ep a.tick)
 mem:Rg.jE a.l=true
 ep:1<=a.ep/\a.ep<=1099511627776/\a.ep=a.n.s.k.m.ay/\a.n.s.k.m.ready=0
 now:a.n.now<1000000000000000
 key:∀k∈Ix.keysOf a.p.p.x.t,k.size<=aB
 wN:a.p.p.x.t.length<100000/\(Ix.keysOf a.p.p.x.t).length<100000
 pts:0<(Rg.lW a.l).length/\(Rg.lW a.l).length<100000
 own:∀k c1 c2,Br (dQ a.ep a.l c1 c2) k=a.n.id
def Yx:cB where
 α:=gR
 β:=Nat×Nat
 m:=22
 m':=27
 pre:=Nu
 args:=fun a=>[.a (.ptr 0 0 0 0),.agg (Mi 2 (.int .i64 a.ir) (.int .i64 a.n.id) (.int .i64 a.ep) (.int .i64 a.tick) (.lit .i64 0) (.lit .i64 0) oN (.slc 21 0 1 a.l.length a.cap))]
 hp:=fun a=>[(0,wS .nil 7 1 3 5 6 a.n a.p),(1,Mh 2 a.n.le)]
 ro:=fun a=>[(2,Qv a.n.now),(7,stO 8 9 10 a.n.s.bP),(10,.obj 155 (.ptr 11 0 0 0::Ah a.n.s.k.m)),(8,.obj 205 [.ptr 12 0 0 0,.ptr 13 0 0 0]),(21,.arr 3 [.int .i64] a.l.length (aa Rg.encI a.l))]++Ix.tS 13 14 a.p.p.x.t a.p.p.xc a.p.p.x.n a.p.p.x.used
 res:=fun _ _=>.agg [.slc 25 0 21 0 0,.slc 26 0 6 0 0]
 eV:=fun a b=>[(0,wS (.ptr 22 0 0 0) 7 1 3 5 6 a.n a.p),(1,Mh 2 (kJ a.n.now a.n.le a.tick a.ep))]++CI 22 23 24 (dQ a.ep a.l b.1 b.2)
def ajZ:List (Nat×cB):=[(55,Nr),(56,Rg.C6),(99,K0),(151,Rg.QI),(152,Rg.QE),(194,Ix.Yh),(44,Rg.aeN)]
def ak0(a:gR):An:=.mk 2 Nat (fun s i=>s.int 16 i) (fun _ i=>i<=(Ix.keysOf a.p.p.x.t).length) (fun _ i=>(Ix.keysOf a.p.p.x.t).length-i) fun _=>.mk 60 [] [.Em 0 22 false Al]
def uS(x:ByteArray)(y z:Prop):=x=oN/\aJ (dN (aO false) (x=oN) (aJ (bD (y/\aJ z))))
def WA(x:gR)(y:Prop):=cR 2 x.ir (az x.n.id) (cR x.ep x.tick (az 0) (mI 0 (uS oN (aQ (aj x.l) x.cap) y)))
def WB(u:Ix.wQ)(y:gR)(v:Rg.me)(w:Nat)(z:Rg.me)(f:Nat)(g:Prop):=aM (cE (aF (Ix.keysOf u.x.t)) 1 (aa Ix.ic (Ix.tW (Ix.keysOf u.x.t)))/\aM (k8 (az y.n.id) (0=0) y.n y.n y.p y.p (0=0) (Bl y.n (aM (Cf y.p.p.x y.p.p.x y.p.p.xc y.p.p.xc (az y.ep/\aQ (aj v.l) w/\aQ (Rg.lW z.l).length f/\cE (Rg.lW z.l).length 2 (aa Rg.mu (Rg.lW z.l))/\iq v.l Rg.encI/\gC y.n.s.k.m (WA y (iq y.l Rg.encI/\WA y g))))))))
theorem af7:fnBody (Y Tryz.prog) ajZ 16 Yx fun a=>[(16,[],[.T6 4 5 0 Al]),(57,[],[.Em 0 28 false Al]),(98,[],[.ZH 0 [(20,true)] (.mk 60 [] [.ZH 0 [] (.mk 60 [] [.Em 0 34 true Al])])]),(104,[ak0 a],[]),(103,[],[.Em 0 15 false Al])]:=fnBody.of (p :=
 ∀y:gR,Nu y->DN y.n (∃q:Nat×Nat,tu (aM (az y.n.id/\False))) y.ir y.ep y.tick y.l y.cap False (ai y.ep->ai y.n.s.k.m.ay->aq (y.ep == y.n.s.k.m.ay)/\K2 y fun w f g h=>ai y.n.s.k.m.ready->aq (y.n.s.k.m.ready == (0:Int))/\∃z:Ix.wQ,ah (Cf y.p.p.x z.x y.p.p.xc z.cap (dh z.x<100000/\∀j:Nat,True->(∃u:Nat,aS u (dU (aF (Ix.keysOf z.x.t)) j (WB z y w f g h (bE u (aF (Ix.keysOf y.p.p.x.t))))))/\∀u:Nat,u<=aF (Ix.keysOf y.p.p.x.t)->gI u (aF (Ix.keysOf z.x.t)) 0 (aF (Ix.keysOf z.x.t)) (ai y.n.id->∃v:Rg.QH,ah (iC (Ix.tW (Ix.keysOf z.x.t)) u=v.key/\qd y.ep v.r w.l f (Rg.lW g.l) h (uM v.r (aT v.key<=aB)) (aP (aK (uN v != y.n.id) (1<=1/\eu 16 1 fun o=>bQ u fun c=>dU (aF (Ix.keysOf z.x.t)) j False) (bQ u fun o=>dU (aF (Ix.keysOf z.x.t)) j (WB z y w f g h (bL o (aF (Ix.keysOf y.p.p.x.t)) u))))))) (DO y.tick y.ep fun i=>mz y.n.le i.l (y.n.now=i.now) (nN i.now/\aP (∃v:Nat×Nat,tu (kV y.n y.p (0=0) (gF (uQ i) (kJ y.n.now y.n.le y.tick y.ep) (qd y.ep (dQ y.ep y.l v.fst v.snd) w.l f (Rg.lW g.l) h True True)))))))))) (by kernel_rfl) (by
 delta k8 cE aK cR qd aQ aO aj ai aA az aG aM aN aF mz eE cw dN fL bK aU iA HG dr gI bI aP aZ jo ag bD dh aT Bl zN bL aq DN dU bQ dF WB mX aJ aC kV gF gC ah bU aS aI di iq rO bf uM bg uS uN aY ax jK cN bS tu uQ nN mI iC zM bC K2 By eu WA bw bM uE DO dc bE
 try dsimp -iota -proj only
 intro a ok;obtain⟨n,p,ir,ep,tick,l,cap⟩:=a;obtain⟨hat,hm,hl,⟨e1,e4,e2,e3⟩,hnow,hkey,⟨hfew,hkf⟩,⟨p1,p2⟩,hown⟩:=ok;dsimp only at *;have ho:l=[]\/Rg.jE l=true:=.inr hl;have hl1:l.length<100000:=by have:=Rg.tZ hl;omega
 have hz:(!decide ((jx n ir ep tick).key.size<=40))=false:=rfl;have heq:(ep == n.s.k.m.ay)=true:=by rw[e2];simp
 have hrd:(n.s.k.m.ready == 0)=true:=by rw[e3];rfl
 have hN:(!Rg.jE l)=false:=by rw[hl];rfl
 refine fun _ _=>⟨fun c=>by simp at c,fun _=>⟨Aj.mk (jx n ir ep tick) l cap,?_⟩⟩
 and_intros<;>first|exact cU|exact hm|exact ho|(intro h_;revert h_)|omega|with_reducible exact af.refl _ _ _|rfl|grind|grind|(dsimp only;omega)|skip
 intro _ _;refine⟨fun c=>absurd (hz.symm.trans c) (by decide),fun _=>⟨e3,⟨l,cap⟩,?_⟩⟩
 and_intros<;>first|exact cU|exact hl1|(intro h_;revert h_)|omega|grind [af.refl]|rfl|grind|grind|(dsimp only;omega)|skip
 intro _ _;refine⟨fun _ _=>⟨fun c=>by grind,fun _ _=>⟨fun _ _ _=>⟨heq,fun c=>by grind,fun _=>⟨fun c=>by grind,fun _=>⟨⟨l,cap⟩,?_⟩⟩⟩,fun c=>absurd (c.symm.trans heq) (by decide)⟩⟩,fun c=>by grind⟩
 and_intros<;>first|exact cU|exact hl1|(intro h_;revert h_)|omega|grind [af.refl]|rfl|grind|grind|(dsimp only;omega)|skip
 intro _ _;refine⟨hN,⟨l,cap⟩,?_⟩
 and_intros<;>first|exact cU|exact hl1|(intro h_;revert h_)|omega|grind [af.refl]|rfl|grind|grind|(dsimp only;omega)|skip
 intro c1 _;refine⟨⟨l,cap⟩,?_⟩
 and_intros<;>first|exact cU|exact hl1|(intro h_;revert h_)|omega|grind [af.refl]|rfl|grind|grind|(dsimp only;omega)|skip
 intro c2 _;refine fun _=>⟨hrd,Ix.wQ.mk p.p.x p.p.xc oN,?_⟩
 and_intros<;>first|exact cU|exact hfew|(intro h_;revert h_)|omega|grind [af.refl]|rfl|grind|grind|(dsimp only;omega)|skip
 intro c3 _;dsimp only;have hsl:(Ix.tW (Ix.keysOf p.p.x.t)).length=(Ix.keysOf p.p.x.t).length:=Ix.ED _;refine⟨⟨0,?_⟩,fun i hi=>⟨fun c=>?_,fun c=>?_⟩⟩
 ·have h0:0<=(Ix.keysOf p.p.x.t).length:=Az _
  grind [af.refl]
 ·have hi2:i<(Ix.keysOf p.p.x.t).length:=by have:=qi c;omega
  refine⟨⟨by omega,by omega⟩,by omega,fun _=>⟨Rg.QH.mk (dQ ep l c1 c2) (gl (Ix.tW (Ix.keysOf p.p.x.t)) i),?_⟩⟩;have hz0:0+(i:Int).toNat=i:=by omega
  rw[hz0];have hkk:(gl (Ix.tW (Ix.keysOf p.p.x.t)) i).size<=aB:=hkey _ ((Ix.Kw _).mem_iff.1 (by grind [b8]));have hoo:Rg.Bo (Rg.lW l) (Rg.iE (fun _=>gl (Ix.tW (Ix.keysOf p.p.x.t)) i) 1)=n.id:=hown _ c1 c2
  and_intros<;>first|exact cU|exact hkk|exact p1|exact p2|exact kL|skip
  intro _ _;refine⟨fun c=>?_,fun _=>⟨by simp only[bZ];omega,i+1,?_⟩⟩
  ·exfalso;have c:(Rg.Bo (Rg.lW l) (Rg.iE (fun _=>gl (Ix.tW (Ix.keysOf p.p.x.t)) i) 1) != n.id)=true:=c
   grind
  grind [af.refl]
 ·refine fun _ _=>⟨Bx.mk n.le n.now tick ep,?_⟩
  and_intros<;>first|exact cU|exact hnow|exact kL|skip
  intro _ _;refine⟨(c1,c2),?_⟩
  and_intros<;>first|exact cU|exact kL|skip)
theorem af8:av (Y Tryz.prog).G.X 16 Yx:=bp gf af7 ⟨yB,Rg.pn,B7,Rg.Gz,Rg.Gw,Ix.Kx,Rg.DL,trivial⟩
def Yy:cB where
 α:=gR
 β:=wI
 m:=23
 m':=34
 pre:=CL
 args:=fun a=>[.a (.ptr 0 0 0 0),.agg (Mi 2 (.int .i64 a.ir) (.int .i64 a.n.id) (.int .i64 a.ep) (.int .i64 a.tick) (.lit .i64 0) (.lit .i64 0) oN (.slc 21 0 1 a.l.length a.cap))]
 hp:=fun a=>Bt (.ptr 22 0 0 0) .dJ .dJ 0 7 1 3 4 5 6 8 9 10 11 12 13 14 15 16 17 18 19 20 a.n a.p++[(1,Mh 2 a.n.le)]
 ro:=fun a=>[(2,Qv a.n.now),(21,.arr 3 [.int .i64] a.l.length (aa Rg.encI a.l))]
 post:=fun a b=>bz a.q b.p
 res:=fun _ _=>.agg [.slc 32 0 21 0 0,.slc 33 0 6 0 0]
 eV:=fun a b=>Bt (.ptr 23 0 0 0) .dJ .dJ 0 7 1 3 4 27 6 8 9 10 11 28 29 14 15 16 17 18 30 31 a.q b.p++[(1,Mh 2 a.q.le)]++CI 23 24 25 (dQ a.ep a.l b.c1 b.c2)
theorem af9:fnBody (Y Tryz.prog) af4 16 Yy fun _=>[(16,[],[.T6 4 5 0 Al,.ZH 0 [(22,false),(48,true)] (.mk 60 [] [.T6 4 5 0 Al])]),(57,[],[.Em 0 28 false Al]),(98,[],[.ZH 0 [(20,false),(40,true)] (.mk 60 [] [.Em 0 40 true (.mk 60 [] [.T6 15 85 0 Al]),.T6 15 85 0 Al]),.T6 15 85 0 Al]),(104,[],[.T6 2 15 0 (.mk 60 [] [.Em 0 30 false Al]),.Em 0 30 false Al]),(103,[],[.Em 0 15 false Al])]:=fnBody.of (p :=
 Q0 fun x y=>pK x.p y.p x.n x.q x.n x.p (gF x.n.le x.q.le False)) (by kernel_rfl) (by
 delta k8 aK qd aO aj pJ ai dY aA aM aN aF eE cw dN fL TH aU iA af5 HG dr pK aP aZ jo ag dh aT zN aq Q0 cK dF fH mX gn nE gF ah bU jS aI di uI fh rO tq bg ax jK rM cN kz qE tu uQ nN mg zM DD K2 Bw By Bi KB uE DO dc
 try dsimp -iota -proj only
 intro a ok;obtain⟨n,p,ir,ep,tick,l,cap⟩:=a;obtain⟨hat,hm,hl,hws,⟨e1,e2,e3,e4⟩,hnow,hfew,⟨f1,f2,f3⟩,⟨k1,k2,k3,k4,k5,k6⟩,hsv⟩:=ok;dsimp only at *;have ho:l=[]\/Rg.jE l=true:=.inr hl;have hl1:l.length<100000:=by have:=Rg.tZ hl;omega
 have hz:(!decide ((jx n ir ep tick).key.size<=40))=false:=rfl;have hne:(ep == n.s.k.m.ay)=false:=by rw[beq_eq_false_iff_ne];omega
 refine fun _ _=>⟨fun c=>by simp at c,fun _=>⟨Aj.mk (jx n ir ep tick) l cap,?_⟩⟩
 and_intros<;>first|exact cU|exact hm|exact ho|(intro h_;revert h_)|omega|with_reducible exact af.refl _ _ _|rfl|grind|grind|(dsimp only;omega)|skip
 intro _ _;refine⟨hz,e4,⟨l,cap⟩,?_⟩
 and_intros<;>first|exact cU|exact hl1|(intro h_;revert h_)|omega|grind [af.refl]|rfl|grind|grind|(dsimp only;omega)|skip
 intro _ _;refine⟨fun _ _=>⟨fun c=>by grind,fun _ _=>⟨fun c=>absurd (c.symm.trans hne) (by decide),fun _ _ _=>⟨hne,fun _=>⟨?_,Nk.mk n.s.fl p.p.fl,?_⟩⟩⟩⟩,fun c=>by grind⟩
 ·grind
 have hfl:mK n.s.fl p.p.fl:=hat.st.fl;have f4:(kT n.s.fl [2]).d.calls<1000000000000:=by omega
 and_intros<;>first|exact cU|exact hfl|exact f1|exact f2|exact f4|exact kL|skip
 rintro b ⟨b1,b2⟩ _;refine⟨Mf.mk n.s.k p.p.kc (mL n.s.fl).d (uc n ep),?_⟩
 and_intros<;>first|exact cU|exact k1|exact k2|exact k3|exact k4|exact k5|exact k6|(intro h_;revert h_)|omega|with_reducible exact af.refl _ _ _|rfl|grind|grind|(dsimp only;omega)|skip
 intro kc _;have hN:(!Rg.jE l)=false:=by rw[hl];rfl
 refine⟨fun c=>by grind,fun _=>⟨fun c=>by grind,fun _=>⟨⟨l,cap⟩,?_⟩⟩⟩
 and_intros<;>first|exact cU|exact hl1|(intro h_;revert h_)|omega|grind [af.refl]|rfl|grind|grind|(dsimp only;omega)|skip
 intro _ _;refine⟨hN,⟨l,cap⟩,?_⟩
 and_intros<;>first|exact cU|exact hl1|(intro h_;revert h_)|omega|grind [af.refl]|rfl|grind|grind|(dsimp only;omega)|skip
 intro c1 _;refine⟨⟨l,cap⟩,?_⟩
 and_intros<;>first|exact cU|exact hl1|(intro h_;revert h_)|omega|grind [af.refl]|rfl|grind|grind|(dsimp only;omega)|skip
 intro c2 _;have hks:=Nt b1.idx;have hlen:b.x.t.length<100000:=by have:=b1.idx.inv.hi;omega
 refine⟨Ix.wQ.mk b.x b.cap oN,?_⟩
 and_intros<;>first|exact cU|exact hlen|(intro h_;revert h_)|omega|grind [af.refl]|rfl|grind|grind|(dsimp only;omega)|skip
 intro _ _;have hk0:((Ix.keysOf b.x.t).length:Int)=0:=by rw[hks];rfl
 obtain⟨w1,w2⟩:=hat.st.aiE (s':=DH n.s) b1 b2 rfl rfl;have w3:sX (Tm (DH n.s) (uc n ep)) { p.p.BB b with kc:=kc }:=⟨⟨w1.fl.log,w1.fl.idx⟩,w1.jl,w1.sep,w1.cap⟩
 have hat1:=hat.store w3 w2;have hf2:n.t.l.length<100000:=by omega
 have htk:jt b.H n.t:=hat1.tok;refine⟨hk0,Nn.mk p.mb n.t b.H,?_⟩
 and_intros<;>first|exact cU|exact htk|exact hf2|exact kL|skip
 rintro⟨H1,cnt⟩ ⟨q1,q2⟩;have hat2:=hat1.aeC q1 q2;have hw0:(n.ws.length:Int)=0:=by rw[hws];rfl
 refine⟨hw0,fun _ _=>⟨Bx.mk ⟨0,0,0⟩ n.now tick ep,?_⟩⟩
 and_intros<;>first|exact cU|exact hnow|exact kL|skip
 intro _ _;refine⟨wI.mk ⟨{ p.p.BB b with kc:=kc,H:=H1 },p.mb,0,p.rc⟩ c1 c2,?_⟩;have hat3:bz (Iv n ep tick) ⟨{ p.p.BB b with kc:=kc,H:=H1 },p.mb,0,p.rc⟩:=⟨hat2.st,hat2.tok,hat2.sep,cW 0,hat2.rc⟩
 have eN:gR.q ⟨n,p,ir,ep,tick,l,cap⟩=Iv n ep tick:=rfl;rw[eN];dsimp only
 and_intros<;>first|exact cU|exact hat3|exact kL|skip)
theorem afa:av (Y Tryz.prog).G.X 16 Yy:=bp gf af9 ⟨yB,Rg.pn,B7,Nl,Gm,Rg.Gz,Rg.Gw,Ix.Kx,KH,trivial⟩
structure K3 where
 n:bG
 p:dP
 k:Int
 val:ByteArray
 has:Bool
def Iw:cB where
 α:=K3
 m:=15
 m':=15
 pre:=fun a=>a.k<0\/(a.n.rs.length:Int)<=a.k
 args:=fun a=>[.a (.ptr 0 0 0 0),.a (.int .i64 a.k),.a (.str a.val),.a (.bool a.has)]
 ro:=fun a=>[(0,wS .nil 7 1 3 5 6 a.n a.p)]
 res:=fun _ _=>.agg [.dJ,.dJ]
def Q1:=∀x:K3,x.k<(0:Int)\/ag (cw x.n)<=x.k->aI x.k 0 (Exists (aD (True/\True))) (aq (bF (ag (cw x.n)) x.k)/\Exists (aD (True/\True)))
theorem WC:fnBody (Y Tryz.prog) [] 25 Iw fun _=>[(25,[],[.Em 0 26 true Al])]:=fnBody.of (p :=
 Q1) (by kernel_rfl) (by
 delta aK aN cw aU ag aq bF aI aD Q1
 grind)
theorem WD:av (Y Tryz.prog).G.X 25 Iw:=bp gf WC trivial
def Iy:cB where
 α:=K3
 m:=15
 m':=15
 pre:=fun a=>a.k<0\/(a.n.rs.length:Int)<=a.k
 args:=fun a=>[.a (.ptr 0 0 0 0),.a (.int .i64 a.k),.a (.str a.val),.a (.bool a.has)]
 ro:=fun a=>[(0,wS (.ptr 14 0 0 0) 7 1 3 5 6 a.n a.p)]
 res:=fun _ _=>.agg [.dJ,.dJ]
theorem WE:fnBody (Y Tryz.prog) [] 25 Iy fun _=>[(25,[],[.Em 0 26 true Al])]:=fnBody.of (p :=
 Q1) (by kernel_rfl) (by
 delta aK aN cw aU ag aq bF aI aD Q1
 grind)
theorem WG:av (Y Tryz.prog).G.X 25 Iy:=bp gf WE trivial
structure ng where
 key:ByteArray
 val:ByteArray
 fl:Bool
 deriving Inhabited
def Nv:List CK:=[.str,.str,.bool]
def kD(c:ng):List Value:=[.string c.key,.string c.val,.bool c.fl]
def Mj(k:ByteArray)(l:List ng):List ng:=l.filter fun c=>!decide (c.key=k)
def uT(l:List ng)(k v:ByteArray):List ng:=Mj k l++[⟨k,v,true⟩]
theorem afb(k:ByteArray)(l:List ng)(c:ng):Mj k (l++[c])=if c.key=k then Mj k l else Mj k l++[c]:=by
 grind [Mj]
structure TK where
 l:List ng
 cap:Nat
 key:ByteArray
 val:ByteArray
def afc:cB where
 α:=TK
 β:=Nat
 m:=1
 m':=2
 pre:=fun a=>a.l.length<1000
 args:=fun a=>[.a (.slc 0 0 3 a.l.length a.cap),.a (.str a.key),.a (.str a.val)]
 ro:=fun a=>[(0,.arr 101 Nv a.l.length (aa kD a.l))]
 post:=fun a c=>(uT a.l a.key a.val).length<=c
 res:=fun a c=>.a (.slc 1 0 3 (uT a.l a.key a.val).length c)
 eV:=fun a _=>[(1,.arr 101 Nv (uT a.l a.key a.val).length (aa kD (uT a.l a.key a.val)))]
def aln(a:TK):An:=.flat 3 (Nat×Nat) (fun s x=>((s.new (.arr 101 Nv (Mj a.key (a.l.take x.1)).length (aa kD (Mj a.key (a.l.take x.1))))).set 7 (.a (.slc s.nx 0 3 (Mj a.key (a.l.take x.1)).length x.2))).int 8 x.1) (fun _ x=>x.1<=a.l.length) (fun _ x=>a.l.length-x.1)
def bV(x:List ng):Nat:=x.length
def kX(x y:List ng):=aA (bV x) (bV y) 3 (aa kD y) (aa kD x)
def oQ(x:TK)(y:Nat×Nat):List ng:=Mj x.key (List.take y.fst x.l)
def mm(x:List ng):=cE (bV x) 3 (aa kD x)
def BC(x:TK):Nat:=bV (uT x.l x.key x.val)
def Q2(x:TK)(y z:Prop):=aQ (bV x.l) x.cap/\x.key=x.key/\x.val=x.val/\y/\mm x.l/\z
theorem afd:fnBody (Y Tryz.prog) [] 40 afc fun a=>[(40,[aln a],[])]:=fnBody.of (p :=
 ∀x:TK,bV x.l<1000->jM (fun y=>(0=bV (oQ x y)/\0=y.snd)/\Q2 x (bV (oQ x y)=0) (bE y.fst (bV x.l))) fun y=>fS y.fst (bV x.l) (aK (bg (fc (gl x.l (0+aG y.fst)).key x.key)) (fO y.fst (bV x.l) (zF (bV (oQ x y)) 40 y (fun z=>bV (oQ x z)) fun z=>Q2 x (iO (bV (oQ x z)) (bV (oQ x y)) 3 (aa kD (oQ x y)) (ia (bR (gl x.l (0+aG y.fst)).key) (bR (gl x.l (0+aG y.fst)).val) (bW (cF (gl x.l (0+aG y.fst)).fl))) (aa kD (oQ x z))) (bL z.fst (bV x.l) y.fst))) (iP y fun z=>ax (bV (oQ x y)) (bV (oQ x z)) y.snd z.snd/\Q2 x (kX (oQ x z) (oQ x y)) (bL z.fst (bV x.l) y.fst))) (jF (bV (oQ x y)) 40 y.snd fun z=>∃u:Nat,ax (bV (oQ x y)+1) (BC x) z u/\iO (BC x) (bV (oQ x y)) 3 (aa kD (oQ x y)) (ia (bR x.key) (bR x.val) (bW (cF true))) (aa kD (uT x.l x.key x.val))/\bE (BC x) u)) (by kernel_rfl) (by
 delta cE aK aQ ai aA aG gq aN ia bK aU gI bI aZ ag bV jF iO bL aq bR iP dS aC kX bW ah aS cF fS aI oQ fO bg fc aY ax mm bS ja eu BC zF Q2 jM bw bM bE
 try dsimp -iota -proj only
 rintro⟨l,cp,key,val⟩ h;have h:l.length<1000:=h;have hl:∀i,(Mj key (List.take i l)).length<=i:=fun i=>by
  grind [Mj]
 refine⟨⟨(0,0),?_⟩,fun⟨i,c⟩ hi=>⟨fun c1=>?_,fun c1=>?_⟩⟩
 ·have e:Mj key (List.take 0 l)=[]:=rfl;have h0:0<=l.length:=Az _
  grind [af.refl]
 ·dsimp only at *;have hi:i<l.length:=by have:=qi c1;omega
  have hs:=afb key (List.take i l) (gl l i);rw[<- gU hi]at hs;have hz:0+(i:Int).toNat=i:=by omega
  have hli:=hl i;rw[hz];refine⟨⟨by omega,by omega⟩,hi,fun c2=>?_,fun c2=>?_⟩
  ·have hk:¬(gl l i).key=key:=by simpa using c2
   rw[if_neg hk]at hs;refine⟨⟨by omega,by omega⟩,hi,by omega,by omega,by omega,fun cap _ _ _=>⟨by simp only[bZ];omega,(i+1,cap),?_⟩⟩;dsimp only;rw[hs];have hp:af (Mj key (List.take i l)++[gl l i]).length 3 (bq (aa kD (Mj key (List.take i l))) 0 (Mj key (List.take i l)).length fun i_1 j=>aV 3 [Value.string (gl l i).key,Value.string (gl l i).val,Value.bool (gl l i).fl] (0+i_1) j) (aa kD (Mj key (List.take i l)++[gl l i])):=.push rfl (by simp) rfl
   and_intros<;>first|exact cU|exact hp|exact by simp|omega|omega|with_reducible exact af.refl _ _ _|rfl|exact af.refl _ _ _|exact cW _|(dsimp only;omega)|skip
  ·have hk:(gl l i).key=key:=by simpa using c2
   rw[if_pos hk]at hs;refine⟨by simp only[bZ];omega,(i+1,c),?_⟩
   grind [af.refl]
 ·dsimp only at *;have hi:i=l.length:=by have:=ug c1;omega
  subst hi;have hli:=hl l.length;rw[zBd]at hli ⊢;refine⟨by omega,by omega,by omega,fun cap hcap _ _=>⟨cap,?_⟩⟩;have hq3:(uT l key val).length<=cap:=by simpa[uT]using hcap
  have hp:af (uT l key val).length 3 (bq (aa kD (Mj key l)) 0 (Mj key l).length fun i_1 j=>aV 3 [Value.string key,Value.string val,Value.bool true] (0+i_1) j) (aa kD (uT l key val)):=.push rfl (by simp[uT]) rfl
  grind [uT])
theorem afe:av (Y Tryz.prog).G.X 40 afc:=bp gf afd trivial
structure aff where
 xs:List ByteArray
 c1:Nat
 c2:Nat
def ak1:cB where
 α:=aff
 m:=2
 m':=2
 pre:=fun a=>a.xs.length<1000
 args:=fun a=>[.a (.slc 0 0 1 a.xs.length a.c1),.a (.slc 1 0 1 a.xs.length a.c2)]
 ro:=fun a=>[(0,.arr 9 [.str] a.xs.length (aa ic a.xs)),(1,.arr 9 [.str] a.xs.length (aa ic a.xs))]
 res:=fun _ _=>.a .tt
def amu(a:aff):An:=.mk 4 Nat (fun s i=>s.int 5 i) (fun _ i=>i<=a.xs.length) (fun _ i=>a.xs.length-i) fun _=>.mk 60 [] [.Em 0 25 false Al]
def lE(x:Bool)(y:Prop):=aK x (Exists (bN (aq false))) y
def WH(x:aff)(y:Prop):=aO (ag (aF x.xs) != ag (aF x.xs))/\bD (aQ (aF x.xs) x.c1/\dN (aQ (aF x.xs) x.c2) (eO x.xs) y)
theorem ahA:fnBody (Y Tryz.prog) [] 41 ak1 fun a=>[(41,[amu a],[])]:=fnBody.of (p :=
 ∀x:aff,aF x.xs<1000->lE (ag (aF x.xs) != ag (aF x.xs)) ((∃y:Nat,aS y (WH x (bE y (aF x.xs))))/\∀y:Nat,fS y (aF x.xs) (fO y (aF x.xs) (aU (bg (fc (iC x.xs y) (iC x.xs y)))/\bQ y fun z=>WH x (bL z (aF x.xs) y))) (Exists (bN (aO true))))) (by kernel_rfl) (by
 delta cE aK aQ aO ai aA aG aN aF dN bK aU gI bI bN aZ ag bD bL eO aq bQ dS aC aS fS aI aD lE fO bg fc aY bA bS iC WH bw bM bE
 try dsimp -iota -proj only
 rintro⟨xs,c1,c2⟩ h;have h:xs.length<1000:=h;refine⟨fun c=>absurd c (by simp),fun _=>⟨⟨0,?_⟩,fun i hi=>⟨fun c=>?_,fun _=>⟨(),rfl,trivial,trivial⟩⟩⟩⟩
 ·and_intros<;>first|exact cU|exact Az _|(intro h_;revert h_)|omega|grind [af.refl]|rfl|exact af.refl _ _ _|exact cW _|(dsimp only;omega)|skip
 ·have hi':i<xs.length:=by have:=qi c;dsimp only at this;omega
  rw[show 0+(i:Int).toNat=i by omega];refine⟨⟨by omega,by grind⟩,hi',⟨by omega,by grind⟩,hi',by simp,by simp only[bZ];omega,i+1,?_⟩
  grind [af.refl])
theorem ahB:av (Y Tryz.prog).G.X 41 ak1:=bp gf ahA trivial
end Go.Proofs.YtfjgoonelcaggaaGreat
namespace Go.Sx
section
def Iz:List cB->List SV->S->KV->Prop
 |[],_,_,_=>False
 |c::r,args,s,K=>match r with
  |[]=>rq c args s K
  |r=>rq c args s K\/Iz r args s K
def Nw(X:Cx)(f:Nat):List cB->Prop
 |[]=>True
 |c::r=>av X f c/\Nw X f r
theorem Nw.any{X:Cx}{f:Nat}:∀ {l:List cB},Nw X f l->∀args s K,Iz l args s K->xB X f args s K
 |[],_,_,_,_,h=>h.elim
 |[c],h,args,s,K,hK=>h.1 args s K hK
 |c::d::r,h,args,s,K,hK=>by
  rcases(show rq c args s K\/Iz (d::r) args s K from hK)with hK|hK
  ·exact h.1 args s K hK
  ·exact Nw.any (l:=d::r) h.2 args s K hK
variable{C:cB}{Cs:List cB}{X:Cx}{f:Nat}
theorem K4(hb:∀a,C.pre a->xB X f (C.args a) (aj7 C a) (aj6 C a)):gN X C f:=by
 intro a hpre M ρ w vs hn hJ hargs;refine(hb a hpre w M ρ w vs hn hJ hargs).mono ?_;rintro e w' ⟨v,rfl,sv,s',ρ1,hK,_,_,hle1,hn1,hrep1,hh1⟩;refine⟨v,rfl,?_⟩;obtain⟨o,hK⟩:=hK;obtain⟨τ1,k1,f1,v1,q1⟩:=yf hK (Wf.nil _ _);obtain⟨τ,rest',⟨hpo,_⟩,f2,v2,gt⟩:=mV k1 v1;have hft:Fits ρ1 (lu ρ1 τ C.m') τ:=qP v2;refine⟨o,lu ρ1 τ C.m',hpo,rfl,fun T hTm=>?_,q1 ρ1 _ v (hft.ext f2) hrep1,gt.sat hft hh1⟩;rw[<- hle1.pl T (by omega)];show(match nq τ T with|some x=>placeOf ρ1 x|none=>ρ1.pl T)=_;split
 ·rename_i x hx;rw[v2.id T x hx hTm];rfl
 ·rfl
def TL(C:cB)(Cs:List cB):Prop:=∀a,C.pre a->Iz Cs (C.args a) (aj7 C a) (aj6 C a)
structure cD(C:cB)(Cs:List cB):Prop where
 body:TL C Cs
theorem cD.of{p:Prop}(h:TL C Cs=p)(hp:p):cD C Cs:=⟨h.mpr hp⟩
theorem WI(hc:Nw X f Cs)(hb:cD C Cs):av X f C :=
 fun _ _ _ h=>y6 (K4 fun a hp=>hc.any _ _ _ (hb.body a hp)) h
def WJ(slot:Nat)(s:S)(K:S->Prop):Prop:=match look s.fr slot with
 |.a (.bool b)=>(b=true->K (s.set slot (.a .tt)))/\(b=false->K (s.set slot (.a .ff)))
 |_=>K s
theorem aaW(slot:Nat):∀s K,WJ slot s K->xC s K:=by
 intro s K h w0 M ρ a w hs;unfold WJ at h;split at h
 ·rename_i b hb;have hr:=hs.frame slot;rw[hb]at hr;have hr:a.tmps.getD slot undef = .bool b:=hr;cases b
  ·exact⟨_,ρ,h.2 rfl,Env.le.refl ρ,hs.Uz (by rw[hr];rfl)⟩
  ·exact⟨_,ρ,h.1 rfl,Env.le.refl ρ,hs.Uz (by rw[hr];rfl)⟩
 grind [Env.le.refl]
def An.split(key slot:Nat)(next:LH):An:=.view key (WJ slot) (aaW slot) next
end
end Go.Sx
namespace Go.Proofs.YtfjgoonelcaggaaGreat
open Go.Sx
def ud(n:bG)(ep tick:Int):bG:=if ep<n.s.k.m.ay then n else if ep=n.s.k.m.ay then { n with le:=kJ n.now n.le tick ep }else Iv n ep tick
def grR(n:bG)(r:Rg.dy)(ep:Int)(l:List Int)(c1 c2:Nat):Rg.dy:=if ep<=n.s.k.m.ay then r else dQ ep l c1 c2
structure WK where
 a:gR
 r:Rg.dy
structure Nx(a:WK):Prop where
 at_:bz a.a.n a.a.p
 msg:ua (jx a.a.n a.a.ir a.a.ep a.a.tick)
 mem:Rg.jE a.a.l=true
 rdy:a.a.n.s.k.m.ready=0
 now:a.a.n.now<1000000000000000
 new:a.a.n.s.k.m.ay<a.a.ep->CL a.a
def afg:cB where
 α:=WK
 β:=wI
 m:=25
 m':=37
 pre:=Nx
 args:=fun a=>[.a (.ptr 0 0 0 0),.agg (Mi 2 (.int .i64 a.a.ir) (.int .i64 a.a.n.id) (.int .i64 a.a.ep) (.int .i64 a.a.tick) (.lit .i64 0) (.lit .i64 0) oN (.slc 21 0 1 a.a.l.length a.a.cap))]
 hp:=fun a=>Bt (.ptr 22 0 0 0) .dJ .dJ 0 7 1 3 4 5 6 8 9 10 11 12 13 14 15 16 17 18 19 20 a.a.n a.a.p++[(1,Mh 2 a.a.n.le)]++CI 22 23 24 a.r
 ro:=fun a=>[(2,Qv a.a.n.now),(21,.arr 3 [.int .i64] a.a.l.length (aa Rg.encI a.a.l))]
 post:=fun a b=>bz (ud a.a.n a.a.ep a.a.tick) b.p
 res:=fun _ _=>.agg [.slc 35 0 21 0 0,.slc 36 0 6 0 0]
 eV:=fun a b=>Bt (.ptr 25 0 0 0) .dJ .dJ 0 7 1 3 34 28 6 8 9 10 11 29 30 14 15 16 17 18 31 32 (ud a.a.n a.a.ep a.a.tick) b.p++[(1,Mh 2 (ud a.a.n a.a.ep a.a.tick).le)]++CI 25 26 27 (grR a.a.n a.r a.a.ep a.a.l b.c1 b.c2)
def pL(x y:bG)(z u:Prop):=ah (nv x.s.k.m y.s.k.m z u)
def zQ(x:gR)(y:Int)(z:bG)(u v:Int)(w:List Int)(s:Nat)(t:Prop):=ah (az 2/\x.ir=y/\x.n.id=z.id/\x.ep=u/\x.tick=v/\mI 0 (aJ (uS oN (cN x.l w x.cap s) t)))
def GH(z:dP)(u:bG)(x:gR)(v:bG)(w:dP)(t:iJ)(f:Rg.dy)(g:wI->Rg.dy):=∃y:wI,aQ 0 0/\aQ 0 0/\pK z y.p u (ud x.n x.ep x.tick) v w (gF t (ud x.n x.ep x.tick).le (nA f (g y) (0=0) (aM (rP u.s (ud x.n x.ep x.tick) z.p y.p))))
def uU(x y:bG)(z u:Prop):=iu x y x.now (bC (x.s.bP=y.s.bP/\pL x y z u))
def Q3(y x:gR)(u:wI->Rg.dy):=gF y.n.le x.n.le (bC (mh y.n x.n y.p x.p (y.n.now=x.n.now/\dr x.l y.l Rg.encI/\CL x/\∀z:wI,bz x.q z.p->GH z.p x.q y x.q z.p x.q.le (qE x z) fun v=>u v)))
def DP(x:WK)(y:wI):Rg.dy:=grR x.a.n x.r x.a.ep x.a.l y.c1 y.c2
def zR(y x:gR)(z:Prop):=zQ y x.ir x.n x.ep x.tick x.l x.cap z
def Q4(y:gR)(x:GF)(z:Prop):=aM (y.n.s.bP=x.n.s.bP/\pL y.n x.n (dr x.l y.l Rg.encI) (zP x (x.ep<x.n.s.k.m.ay)/\aP z))
theorem ahC:cD afg [QW,Yv,Yy]:=cD.of (p :=
 ∀y:WK,Nx y->(∃x:GF,zQ y.a x.ir x.n x.ep x.tick x.l x.cap (gn y.a.n x.n y.a.p x.p (0=0) (Q4 y.a x (GH y.a.p y.a.n y.a x.n x.p y.a.n.le y.r fun z=>DP y z))))\/(∃x:GF,zQ y.a x.ir x.n x.ep x.tick x.l x.cap (gn y.a.n x.n y.a.p x.p (0=0) (uU y.a.n x.n (dr x.l y.a.l Rg.encI) (nA y.r x.r (nN x.n.now/\zP x (x.ep=x.n.s.k.m.ay)) (aP (GH y.a.p y.a.n y.a x.n x.p (kJ x.n.now x.n.le x.tick x.ep) y.r fun z=>DP y z))))))\/∃x:gR,zR y.a x (pK y.a.p x.p y.a.n x.n y.a.n y.a.p (Q3 y.a x fun z=>DP y z))) (by kernel_rfl) (by
 delta k8 cR qd aQ aO aj pJ dY aA az pL aM mz eE cw dN fL bK nv iA rQ dr pK aP nA bD aq zQ GH cK dF fH aJ gn gF ah bU jS uU di zP fh mh uS ax rP Q3 DP cN qE iu nN mI mg bC zR Q4 dc
 try dsimp -iota -proj only
 rintro⟨⟨n,p,ir,ep,tick,l,cap⟩,r⟩ ⟨hat,hm,hl,hrd,hnow,hnew⟩;dsimp only at *;by_cases h1:ep<n.s.k.m.ay
 ·have e1:ud n ep tick=n:=if_pos h1;have e2:∀c1 c2,grR n r ep l c1 c2=r:=fun _ _=>if_pos (by omega);left;refine⟨⟨n,p,r,ir,ep,tick,l,cap⟩,?_⟩
  and_intros<;>first|exact cU|exact hm|exact hl|exact h1|exact hrd|(intro h_;revert h_)|omega|grind [af.refl]|rfl|grind|grind|(dsimp only;omega)|skip
  intro _ _;refine⟨⟨p,0,0⟩,?_⟩
  grind [af.refl]
 by_cases h2:ep=n.s.k.m.ay
 ·have e1:ud n ep tick={ n with le:=kJ n.now n.le tick ep }:=by unfold ud;rw[if_neg h1,if_pos h2]
  have e2:∀c1 c2,grR n r ep l c1 c2=r:=fun _ _=>if_pos (by omega);have hat2:bz { n with le:=kJ n.now n.le tick ep } p:=⟨hat.st,hat.tok,hat.sep,hat.wc,hat.rc⟩
  right;left;refine⟨⟨n,p,r,ir,ep,tick,l,cap⟩,?_⟩
  and_intros<;>first|exact cU|exact hnow|exact hm|exact hl|exact h2|exact hrd|(intro h_;revert h_)|omega|grind [af.refl]|rfl|grind|grind|(dsimp only;omega)|skip
  intro _ _;refine⟨⟨p,0,0⟩,?_⟩
  grind [af.refl]
 ·have e1:ud n ep tick=Iv n ep tick:=by unfold ud;rw[if_neg h1,if_neg h2]
  have e2:∀c1 c2,grR n r ep l c1 c2=dQ ep l c1 c2:=fun _ _=>if_neg (by omega);have hn:=hnew (by omega);right;right;refine⟨⟨n,p,ir,ep,tick,l,cap⟩,?_⟩
  and_intros<;>first|exact cU|exact hn|exact kL|skip
  intro b hb;have hb:bz (Iv n ep tick) b.p:=hb;refine⟨b,?_⟩;rw[e1,e2]
  and_intros<;>first|exact cU|exact hb|exact kL|skip)
theorem Yz:av (Y Tryz.prog).G.X 16 afg:=WI (Cs:=[QW,Yv,Yy]) ⟨aaU,aeX,afa,trivial⟩ ahC
def Ny:cB where
 α:=gR
 β:=wI
 m:=22
 m':=35
 pre:=fun a=>bz a.n a.p/\a.n.s.k.m.ay<=a.ep/\(a.ep=a.n.s.k.m.ay->Nu a)/\(a.n.s.k.m.ay<a.ep->CL a)
 args:=fun a=>[.a (.ptr 0 0 0 0),.agg (Mi 2 (.int .i64 a.ir) (.int .i64 a.n.id) (.int .i64 a.ep) (.int .i64 a.tick) (.lit .i64 0) (.lit .i64 0) oN (.slc 21 0 1 a.l.length a.cap))]
 hp:=fun a=>Bt .nil .dJ .dJ 0 7 1 3 4 5 6 8 9 10 11 12 13 14 15 16 17 18 19 20 a.n a.p++[(1,Mh 2 a.n.le)]
 ro:=fun a=>[(2,Qv a.n.now),(21,.arr 3 [.int .i64] a.l.length (aa Rg.encI a.l))]
 post:=fun a b=>bz (ud a.n a.ep a.tick) b.p
 res:=fun _ _=>.agg [.slc 33 0 21 0 0,.slc 34 0 6 0 0]
 eV:=fun a b=>Bt (.ptr 22 0 0 0) .dJ .dJ 0 7 1 3 32 26 6 8 9 10 11 27 28 14 15 16 17 18 29 30 (ud a.n a.ep a.tick) b.p++[(1,Mh 2 (ud a.n a.ep a.tick).le)]++CI 22 23 24 (dQ a.ep a.l b.c1 b.c2)
def xW(z u:dP)(x y:bG)(v:Prop):=fH z u x y (jg x y z u (x.t.last=y.t.last) (pJ z.mb u y x x.rs (0=0) v))
def K5(x:gR):=bz x.n x.p/\x.n.s.k.m.ay<=x.ep/\(x.ep=x.n.s.k.m.ay->Nu x)/\(x.n.s.k.m.ay<x.ep->CL x)
theorem afh:cD Ny [Yx,TG]:=cD.of (p :=
 ∀z:gR,K5 z->(∃y:gR,zR z y (jg z.n y.n z.p y.p (0=0) (uU z.n y.n (0=0) (ah (dr y.l z.l Rg.encI/\Cf z.p.p.x y.p.p.x z.p.p.xc y.p.p.xc (Nu y/\∀u:Nat×Nat,True->GH z.p z.n z y.n y.p (kJ y.n.now y.n.le y.tick y.ep) (dQ y.ep y.l u.fst u.snd) fun v=>qE z v))))))\/∃y:gR,zR z y (xW z.p y.p z.n y.n (Q3 z y fun u=>qE z u))) (by kernel_rfl) (by
 delta k8 cR qd aQ aO aj pJ dY aA az pL aM mz eE cw dN fL bK nv iA rQ dr pK nA bD zQ GH cK dF fH aJ gn gF ah bU jS uU di xW fh jg mh uS K5 ax rP Q3 cN qE iu mI mg bC zR dc
 try dsimp -iota -proj only
 rintro⟨n,p,ir,ep,tick,l,cap⟩ ⟨hat,h0,hs,hnew⟩;dsimp only at *;by_cases h2:ep=n.s.k.m.ay
 ·have e1:ud n ep tick={ n with le:=kJ n.now n.le tick ep }:=by unfold ud;rw[if_neg (by omega),if_pos h2]
  have hat2:bz { n with le:=kJ n.now n.le tick ep } p:=⟨hat.st,hat.tok,hat.sep,hat.wc,hat.rc⟩
  have hn:=hs h2;left;refine⟨⟨n,p,ir,ep,tick,l,cap⟩,?_⟩
  and_intros<;>first|exact cU|exact hn|(intro h_;revert h_)|omega|grind [af.refl]|rfl|grind|grind|(dsimp only;omega)|skip
  intro b _;refine⟨⟨p,b.1,b.2⟩,?_⟩
  grind [af.refl]
 ·have e1:ud n ep tick=Iv n ep tick:=by unfold ud;rw[if_neg (by omega),if_neg h2]
  have hn:=hnew (by omega);right;refine⟨⟨n,p,ir,ep,tick,l,cap⟩,?_⟩
  and_intros<;>first|exact cU|exact hn|exact kL|skip
  intro b hb;have hb:bz (Iv n ep tick) b.p:=hb;refine⟨b,?_⟩;rw[e1]
  and_intros<;>first|exact cU|exact hb|exact kL|skip)
theorem afi:av (Y Tryz.prog).G.X 16 Ny:=WI (Cs:=[Yx,TG]) ⟨af8,TJ,trivial⟩ afh
def afj(n:bG)(r:Rg.dy)(k:Int)(val:ByteArray)(has:Bool):gD:=if 0<=k/\k<n.rs.length then aaV n r k.toNat val has else⟨n,[],[]⟩
structure Am where
 n:bG
 p:dP
 r:Rg.dy
 k:Int
 val:ByteArray
 has:Bool
def Am.q(a:Am):gD:=afj a.n a.r a.k a.val a.has
def YA:cB where
 α:=Am
 β:=pz
 m:=24
 m':=31
 pre:=fun a=>bz a.n a.p/\(0<=a.k/\a.k<a.n.rs.length->CJ ⟨a.n,a.p,a.r,a.k.toNat,a.val,a.has⟩)
 args:=fun a=>[.a (.ptr 0 0 0 0),.a (.int .i64 a.k),.a (.str a.val),.a (.bool a.has)]
 hp:=fun a=>Bt (.ptr 21 0 0 0) .dJ .dJ 0 7 1 3 4 5 6 8 9 10 11 12 13 14 15 16 17 18 19 20 a.n a.p
 ro:=fun a=>ahx 1 2 21 22 23 a.n a.r
 post:=fun a b=>bz a.q.n b.p
 res:=fun a b=>.agg [.slc 29 0 21 a.q.ms.length b.mc,.slc 30 0 6 a.q.rs.length b.rc]
 eV:=fun a b=>Bt (.ptr 21 0 0 0) .dJ .dJ 0 7 1 3 4 27 28 8 9 10 11 12 24 14 25 16 17 18 19 26 a.q.n b.p++[xw 29 a.q.ms,Bk 30 a.q.rs]
def K6(x:Am):=bz x.n x.p/\(aZ x.k (ag (cw x.n))->CJ { n:=x.n,p:=x.p,r:=x.r,k:=aC x.k,val:=x.val,has:=x.has })
theorem afk:cD YA [Iy,TE]:=cD.of (p :=
 ∀x:Am,K6 x->(∃y:K3,ah (x.k=y.k/\x.val=y.val/\x.has=y.has/\gn x.n y.n x.p y.p (y.k<(0:Int)\/ag (cw y.n)<=y.k) (aP (∃z:pz,(0=bJ x.q.ms/\0=z.mc)/\(0=bT x.q.rs/\0=z.rc)/\fH x.p z.p x.n x.q.n (bJ x.q.ms=0/\bT x.q.rs=0/\bC (GC x.n x.q x.p z (bz x.q.n z.p) True))))))\/∃y:uR,ah (x.k=ag y.k/\x.val=y.val/\x.has=y.has/\pK x.p y.p x.n y.n x.n x.p (aM (mh x.n y.n x.p y.p (HF x.n y.n x.r y.r (CJ y) (fun z=>y.q) (fun z=>y.q) (fun z=>x.q) (fun z=>bz x.q.n z.p) fun z=>True))))) (by kernel_rfl) (by
 delta k8 qd aO aj pJ dY aA aM mz eE cw dN fL iA rQ dr pK HF aP aZ nA bJ ag cK dF nM fH aC gn gF ah bU jS di fh bT mh ax K6 tn cN iu mg bC GC dc
 try dsimp -iota -proj only
 rintro⟨n,p,r,k,val,has⟩ ⟨hat,hok⟩;dsimp only at *;by_cases h:0<=k/\k<n.rs.length
 ·have e1:Am.q ⟨n,p,r,k,val,has⟩=uR.q ⟨n,p,r,k.toNat,val,has⟩:=if_pos h
  grind [af.refl]
 ·have e1:Am.q ⟨n,p,r,k,val,has⟩=⟨n,[],[]⟩:=if_neg h;have hk:k<0\/(n.rs.length:Int)<=k:=by omega
  left;refine⟨⟨n,p,k,val,has⟩,?_⟩
  and_intros<;>first|exact cU|exact hk|exact kL|skip
  intro _ _;refine⟨⟨p,0,0,0⟩,?_⟩
  grind [af.refl])
theorem afl:av (Y Tryz.prog).G.X 25 YA:=WI (Cs:=[Iy,TE]) ⟨WG,TF,trivial⟩ afk
def wO(now:Int)(l:iJ):Chunk:=.obj 94 [.int .i64 now,.int .i64 l.end_,.int .i64 l.ay,.int .i64 l.top]
structure Ci where
 now:Int
 l:iJ
 ep:Int
 sent:Int
def WL:cB where
 α:=Ci
 m:=1
 m':=1
 args:=fun a=>[.a (.ptr 0 0 0 0),.a (.int .i64 a.ep)]
 ro:=fun a=>[(0,wO a.now a.l)]
 res:=fun a _=>.a (.bool (oP a.l a.now a.ep))
theorem aaX:fnBody (Y Tryz.prog) [] 36 WL fun _=>[]:=fnBody.of (p :=
 ∀x:Ci,True->tV (aN 0 x.ep) x.l.ay (x.ep == x.l.ay) (ai x.now->ai x.l.end_->Exists (bN (aN x.now x.l.end_=oP x.l x.now x.ep))) (l6 (oP x.l x.now x.ep))) (by kernel_rfl) (by
 delta aK ai aN aU tV bN aq aD bA l6
 rintro⟨now,l,ep,sent⟩ _;refine⟨fun c1 _=>⟨fun c2 _ _=>⟨(),?_,trivial,trivial⟩,fun c2=>⟨(),?_,trivial,trivial⟩⟩,fun c1=>⟨(),?_,trivial,trivial⟩⟩
 ·grind [oP]
 ·grind [oP]
 grind [oP])
theorem aaY:av (Y Tryz.prog).G.X 36 WL:=bp gf aaX trivial
def WM:cB where
 α:=Ci
 m:=1
 m':=1
 args:=fun _=>[.a (.ptr 0 0 0 0)]
 hp:=fun a=>[(0,wO a.now a.l)]
 res:=fun _ _=>.nR []
 eV:=fun a _=>[(0,wO a.now ⟨0,0,0⟩)]
theorem aaZ:fnBody (Y Tryz.prog) [] 37 WM fun _=>[]:=fnBody.of (p :=
 ∀x:Ci,True->Exists (aD (mI x.now (aJ (True/\True))))) (by kernel_rfl) (by
 delta cR az aJ aD mI
 rintro⟨now,l,ep,sent⟩ _;refine⟨(),?_⟩
 grind)
theorem ab0:av (Y Tryz.prog).G.X 37 WM:=bp gf aaZ trivial
def WN:cB where
 α:=Ci
 m:=1
 m':=1
 pre:=fun a=>a.now<1000000000000000/\0<=a.sent/\a.sent<=a.now
 args:=fun a=>[.a (.ptr 0 0 0 0),.a (.int .i64 a.sent),.a (.int .i64 a.ep)]
 hp:=fun a=>[(0,wO a.now a.l)]
 res:=fun _ _=>.a .any
 eV:=fun a _=>[(0,wO a.now (kJ a.now a.l a.sent a.ep))]
def pW(x y:iJ)(z u:Prop):=x.end_=y.end_/\x.ay=y.ay/\x.top=y.top/\z/\u
def Q5(y:Bool)(z u v w:Int)(s x:Prop):=aK y (ai z->ai u/\aK (bF v w) s x) x
def zS(x:Ci):iJ:=kJ x.now x.l x.sent x.ep
def GI(x:Ci):=Exists (aD (az x.now/\pW x.l (zS x) True True))
theorem ab1:fnBody (Y Tryz.prog) [] 38 WN fun _=>[]:=fnBody.of (p :=
 ∀x:Ci,nN x.now/\cO x.sent x.now->aI x.sent 0 (GI x) (ai x.now->aI x.now x.sent (GI x) (ai x.now->ai (x.sent+(20:Int))/\aK (bF (x.sent+(20:Int)) x.now) (GI x) (ai x.l.top->jo (aN x.ep x.l.top) (GI x) (aN x.ep 1) (ai x.l.ay->Q5 (x.ep == x.l.ay) x.l.end_ (x.sent+(20:Int)) (x.sent+(20:Int)) x.l.end_ (GI x) (ai (x.sent+(20:Int))/\Exists (aD (az x.now/\x.sent+(20:Int)=iJ.end_ (zS x)/\x.ep=iJ.ay (zS x)/\bA (x.ep=iJ.top (zS x)))))))))) (by kernel_rfl) (by
 delta aK ai az aN aU jo aq bF pW aI aD Q5 cO GI bA nN zS
 rintro⟨now,l,ep,sent⟩ ⟨h1,h2,h3⟩;dsimp only at *;have no:xV now l sent ep=true->kJ now l sent ep=l:=fun e=>if_pos e;have yes:xV now l sent ep=false->ep=l.ay->sent+20<=l.end_->kJ now l sent ep=l:=fun e h1 h2=>by grind [kJ]
 have new:xV now l sent ep=false->¬(ep=l.ay/\sent+20<=l.end_)->kJ now l sent ep=⟨ep,sent+20,ep⟩:=fun e h1=>by grind [kJ]
 unfold xV at no yes new;simp only[IE,Bool.or_eq_false_iff,tB,decide_eq_false_iff_not,beq_iff_eq,beq_eq_false_iff_ne]at *;have hI:bZ .i64 (sent+20):=by simp only[bZ];omega
 refine⟨fun c1=>absurd c1 (by omega),fun c1 _=>⟨fun c2=>absurd c2 (by omega),fun c2 _=>⟨hI,fun c3=>⟨(),?_⟩,fun c3 _=>⟨fun c4=>⟨(),?_⟩,fun c4=>⟨fun c5=>⟨(),?_⟩,fun c5 _=>⟨fun c6 _=>⟨hI,fun c7=>⟨(),?_⟩,fun c7=>⟨hI,(),?_⟩⟩,fun c6=>⟨hI,(),?_⟩⟩⟩⟩⟩⟩⟩
 ·grind
 ·grind
 ·grind
 ·grind
 ·grind
 grind)
theorem ab2:av (Y Tryz.prog).G.X 38 WN:=bp gf ab1 trivial
def WO:cB where
 α:=vj
 m:=0
 m':=0
 args:=fun a=>[.agg [.int .i64 a.id,.int .i64 a.op,.str a.key,.int .i64 a.err,.str a.val,.bool a.has],.agg [.int .i64 a.id,.int .i64 a.op,.str a.key,.int .i64 a.err,.str a.val,.bool a.has]]
 res:=fun _ _=>.a .tt
def GJ(x y:Int)(z:Bool)(u:Prop):=ai x->rV (x == y) z u (Exists (bN (aq false)))
theorem ab3:fnBody (Y Tryz.prog) [] 39 WO fun _=>[]:=fnBody.of (p :=
 ∀x:vj,True->ai x.id->jK x.id x.id (ai x.op->GJ x.op x.op (fc x.key x.key) (ai x.err->GJ x.err x.err (fc x.val x.val) (Exists (bN (aq (x.has == x.has)))))) (Exists (bN (aq false)))) (by kernel_rfl) (by
 delta rV aK ai aU bN aq aD fc jK bA GJ
 grind)
theorem ab4:av (Y Tryz.prog).G.X 39 WO:=bp gf ab3 trivial
structure jH(n:bG)(k:Nat)(get:ByteArray->Option aW)(cb jb:Nat):Prop where
 one:∃c es,fq n.s c es cb jb/\gE es=get/\c<=2000+100*k
 lt:k<100
 met:n.s.k.m.ready=0/\n.s.k.m.frozen=false/\0<=n.s.k.m.bP/\n.s.k.m.bP<1000/\0<=n.s.k.m.ay/\n.s.k.m.ay<1000
 id:1<=n.id/\n.id<=5
 now:0<=n.now/\n.now<1000
 num:0<=n.asked/\n.asked<=k/\0<=n.t.last/\n.t.last<=k/\n.t.l.length<=k/\n.ws.length<=k/\n.rs.length<=k
 rs:∀x∈n.rs,dB x.w.key=true/\0<=x.tok/\x.tok<=k
variable{b cap cb cb' i jb k:Nat}{ep ir tick:Int}{p:dP}{r:Rg.dy}{w:ot}
theorem fq.wide{s:pY}{n:Nat}{es:List (Option aW)}(h:fq s n es cb jb)(hc:cb<=cb'):fq s n es cb' jb:=by
 obtain⟨cr,h1,h2⟩:=h.fl;exact⟨⟨cr,h1,by omega⟩,h.jl,h.jb,h.ms,h.nx,h.Yj,h.dn,h.keep,h.bP⟩
theorem jH.make{id now:Int}{d:bH}(h1:1<=id/\id<=5)(h2:0<=now/\now<1000)(hn:192<=d.n/\d.n<1500)(hc:d.calls=0)(H:PH):qD.pre ⟨id,now,d,H⟩/\jH (B6 ⟨id,now,d,H⟩) 0 (fun _=>none) 0 0:=by
 obtain⟨m1,m2,m3,m4,_⟩:=DX (c:=0) (show 192<=d.n/\d.n<3000 by omega) (by omega) (by omega) H;have hm:(B6 ⟨id,now,d,H⟩).s.k.m=⟨1,0,0,false⟩:=m3;refine⟨⟨h1.1,h1.2,m1⟩,⟨_,_,m2,rfl,by omega⟩,by omega,by grind,h1,h2,?_,fun x hx=>by cases hx⟩;exact⟨zBw 0,zBw 0,zBw 0,zBw 0,cW 0,cW 0,cW 0⟩
theorem ak2:Nq 0:=⟨zBw 0,by decide⟩
theorem EL{n:bG}(hf:0<=ir/\ir<=5/\ir≠n.id)(hid:1<=n.id/\n.id<=5)(he:0<=ep/\ep<1000)(ht:0<=tick/\tick<1000):ua (jx n ir ep tick) :=
 ⟨(show(1:Int)<=2/\(2:Int)<=14 by omega),hf.2.2,⟨hf.1,hf.2.1⟩,(show 0<=n.id/\n.id<=5 by omega),(show 0<=ep/\ep<=_ by omega),(show 0<=tick/\tick<=_ by omega),ak2,ak2,ak2,(show(0:Int)<=0/\(0:Int)<=1073741824 by omega),(show(0:Int)<=0/\(0:Int)<=2 by omega),(show(0:Int)<=0/\(0:Int)<=10 by omega),.inl rfl⟩
theorem jH.gr{n:bG}{get:ByteArray->Option aW}(h:jH n k get cb jb)(hat:bz n p){l:List Int}(hf:0<=ir/\ir<=5/\ir≠n.id)(he:n.s.k.m.ay<ep/\ep<1000)(ht:0<=tick/\tick<1000)(hl:Rg.jE l=true)(hw:n.ws=[])(hfit:cb+9<=378\/cb+9<=189*gd n.s.d.n)(hk:k<99) :
 CL ⟨n,p,ir,ep,tick,l,cap⟩/\jH (Iv n ep tick) (k+1) (fun _=>none) (cb+9) jb/\(Iv n ep tick).s.k.m.ay=ep:=by
 obtain⟨c,es,o1,o2,o3⟩:=h.one;have hn:=h.num;have hm:=h.met;have hid:=h.id;have hnw:=h.now;obtain⟨w1,w2,w3,w4⟩:=o1.ajI (by omega) hfit;have hms:pq (uc n ep)=true:=by
  have a1:Hx n.s.k.m.bP=true:=by simp only[Hx,jB,tB];omega
  have a2:Hx ep=true:=by simp only[Hx,jB,tB];omega
  unfold pq uc;dsimp only;rw[a1,a2];rfl
 have hsv:kA n.s.k (uc n ep)=true:=by
  unfold kA;rw[hms,show decide ((uc n ep).bP<n.s.k.m.bP)=false from Ml (by show ¬(n.s.k.m.bP<n.s.k.m.bP);omega),show decide ((uc n ep).ay<n.s.k.m.ay)=false from Ml (by show ¬(ep<n.s.k.m.ay);omega)];rfl
 obtain⟨s1,s2,s3,s4⟩:=w1.save (m:=uc n ep) hsv (by show n.s.k.m.bP=n.s.bP;exact o1.bP.symm) (by omega);obtain⟨cr,hfl,hcb⟩:=w1.fl;have hcl:(DH n.s).d.calls<=c+21:=hfl.one.log.calls;have hcl2:(DH n.s).d.calls=(kT n.s.fl [2]).d.calls+1:=rfl;have hdn:=w1.dn;have hkp:=o1.keep;have hms2:(Iv n ep tick).s.k.m=uc n ep:=s2;refine⟨⟨hat,EL (n:=n) (ir:=ir) (ep:=ep) (tick:=tick) hf hid ⟨by omega,by omega⟩ (by omega),hl,hw,by grind,by grind,by grind,⟨w2,w3,by grind⟩,⟨by grind [hkp.at_],hkp.slot,by grind,by grind,by grind [hkp.fW],by grind [hkp.fW]⟩,hsv⟩,⟨⟨_,_,s1,by grind [ahu],by omega⟩,by omega,by rw[hms2];exact⟨rfl,rfl,hm.2.2.1,hm.2.2.2.1,by show 0<=ep;omega,he.2⟩,hid,hnw,⟨hn.1,by show n.asked<=_;omega,hn.2.2.1,by show n.t.last<=_;omega,by show(jZ n.t Bj).l.length<=_;grind [jZ],Az _,by show n.rs.length<=_;omega⟩,fun x hx=>by have:=h.rs x hx;grind⟩,by rw[hms2];rfl⟩
theorem Nz{k:ByteArray}(h:k.size<64):(bl (some (lT k))).length=k.size+5:=Wc (x:=lT k) h (by show(0:Nat)<64;omega) rfl
theorem K7{s:Nat}(h:s<8000)(k:ByteArray):(fK ((s:Int)+1) k).length<=k.size+2:=by
 unfold fK;have:=wm 1 ((s:Int)+1) (by simp;omega);rw[wM,mW];omega
theorem afm{x:aW}(h1:x.key.size<64)(h2:x.val.size<8000)(h3:x.e=0):(bl (some x)).length<=x.key.size+x.val.size+6:=by
 have a1:(vi (x.key.size:Nat)).length=1:=DG (by omega);have a2:=wm 1 (x.val.size:Nat) (by simp;omega);have a3:(vi x.e).length=1:=DG (by omega);have a4:(vi (if x.gone then 1 else 0)).length=1:=by split<;>exact DG (by decide)
 simp only[bl,List.length_cons,eF,iB,lp,zBy,zBH,z6,wM,mW];omega
theorem jH.ask{n:bG}{get:ByteArray->Option aW}(h:jH n k get cb jb)(hat:bz n p)(hr:r.L.length<100000/\0<r.L.length)(hk:w.key.size<=aB)(hkill:w.op=2->dB w.key=true->(cb+(w.key.size+13)<=378\/cb+(w.key.size+13)<=189*gd n.s.d.n)/\jb+(w.key.size+10)<=3780):wG ⟨n,p,r,w,get w.key⟩:=by
 obtain⟨c,es,o1,o2,o3⟩:=h.one;subst o2;have hn:=h.num;have hm:=h.met;have hkk:=h.lt;have hb:=o1.bP;obtain⟨g1,g2⟩:=o1.get w.key;refine⟨hat,hr,hk,hm.2.1,by grind,by grind,by grind,g1,g2,fun h1 h2=>?_⟩;have h2:dB w.key=true:=h2;obtain⟨f1,f2⟩:=hkill h1 h2;have hl:=o1.len;have hks:=nu h2;have hA:iG [w.key]=true:=by simp[iG,h2]
 have h0:∀i,i < [w.key].length->gl [w.key] i=w.key:=fun i hi=>by
  have:i=0:=by simp at hi;omega
  subst this;rfl
 have hwj:∀i,i < [w.key].length->8+(fK (n.s.ms.length+i+1) (gl [w.key] i)).length<=w.key.size+10:=fun i hi=>by
  have:i=0:=by simpa using hi
  subst this;have e:((n.s.ms.length:Int)+((0:Nat):Int)+1)=(n.s.ms.length:Int)+1:=by omega
  have hm2:=K7 (s:=n.s.ms.length) (by omega) w.key
  grind
 have hwc:∀i,i < [w.key].length->8+(bl (some (lT (gl [w.key] i)))).length<=w.key.size+13:=fun i hi=>by grind [Nz]
 have hK:=(o1.kill (ks:=[w.key]) hA (wj:=w.key.size+10) (wc:=w.key.size+13) hwj hwc (by omega) (by grind) (by grind) (by grind)).1;exact hK p.p 1
theorem jH.kill{n:bG}{key:ByteArray}{k:Nat}{get:ByteArray->Option aW}{cb jb:Nat}(h:jH n k get cb jb)(hk:dB key=true)(f1:cb+(key.size+13)<=378\/cb+(key.size+13)<=189*gd n.s.d.n)(f2:jb+(key.size+10)<=3780)(h99:k<99):jH (mw n key) (k+1) (vh get key none) (cb+(key.size+13)) (jb+(key.size+10))/\(mw n key).s.k=n.s.k:=by
 obtain⟨c,es,o1,o2,o3⟩:=h.one;subst o2;have hn:=h.num;have hl:=o1.len;have hks:=nu hk;have hA:iG [key]=true:=by simp[iG,hk]
 have h0:∀i,i < [key].length->gl [key] i=key:=fun i hi=>by
  have:i=0:=by simp at hi;omega
  subst this;rfl
 have hwj:∀i,i < [key].length->8+(fK (n.s.ms.length+i+1) (gl [key] i)).length<=key.size+10:=fun i hi=>by
  have:i=0:=by simpa using hi
  subst this;have e:((n.s.ms.length:Int)+((0:Nat):Int)+1)=(n.s.ms.length:Int)+1:=by omega
  have hm2:=K7 (s:=n.s.ms.length) (by omega) key;rw[h0 0 (by simp),e];omega
 have hK:=(o1.kill hA (wj:=key.size+10) (wc:=key.size+13) hwj (fun i hi=>by rw[h0 i hi,Nz (k:=key) (by omega)];omega) (by omega) (by rw[ID];omega) (by rw[ID];omega) (by rw[ID];omega)).2;have hk2:(mw n key).s.k=n.s.k:=hK.k.1;have h1:=hK.one;simp only[ID,T9,LS,zBI]at h1;refine⟨⟨⟨_,_,h1,?_,by omega⟩,by omega,by rw[hk2];exact h.met,h.id,h.now,⟨hn.1,by show n.asked<=_;push_cast;omega,hn.2.2.1,by show n.t.last<=_;push_cast;omega,by show(jZ n.t _).l.length<=_;unfold jZ;rw[T7];omega,by show n.ws.length<=_;omega,by show n.rs.length<=_;omega⟩,fun x hx=>by have:=h.rs x hx;exact⟨this.1,this.2.1,by push_cast;omega⟩⟩,hk2⟩;rw[zG];rfl
theorem jH.read{n:bG}{get:ByteArray->Option aW}(h:jH n k get cb jb)(hk:dB w.key=true)(h99:k<99):jH (jw n w b) (k+1) get cb jb:=by
 obtain⟨c,es,o1,o2,o3⟩:=h.one;have hn:=h.num;refine⟨⟨c,es,o1,o2,by omega⟩,by omega,h.met,h.id,h.now,⟨hn.1,by show n.asked<=_;push_cast;omega,by show 0<=n.t.last+1;omega,by show n.t.last+1<=_;push_cast;omega,by show(n.t.l++[_]).length<=_;rw[wM,ID];omega,by show n.ws.length<=_;omega,by show(n.rs++[_]).length<=_;rw[wM,ID];omega⟩,fun x hx=>?_⟩;rcases yG.1 hx with hx|hx
 ·have:=h.rs x hx;exact⟨this.1,this.2.1,by push_cast;omega⟩
 ·rw[zAZ]at hx;subst hx;exact⟨hk,by show 0<=n.t.last+1;omega,by show n.t.last+1<=_;push_cast;omega⟩
theorem jH.red{n:bG}{val:ByteArray}{has:Bool}{get:ByteArray->Option aW}(h:jH n k get cb jb)(hat:bz n p)(hr:r.L.length<100000/\0<r.L.length)(hi:i<n.rs.length)(hv:val.size<=200)(hfit:cb+((gl n.rs i).w.key.size+val.size+14)<=378\/cb+((gl n.rs i).w.key.size+val.size+14)<=189*gd n.s.d.n)(h99:k<99) :
 CJ ⟨n,p,r,i,val,has⟩/\jH (mM n r i val has) (k+1) (if sB n r (gl n.rs i) val has=true then vh get (gl n.rs i).w.key (some (jG (gl n.rs i) (jh val has)))else get) (cb+((gl n.rs i).w.key.size+val.size+14)) jb/\(mM n r i val has).s.k=n.s.k:=by
 obtain⟨c,es,o1,o2,o3⟩:=h.one;subst o2;have hn:=h.num;have hmem:gl n.rs i∈n.rs:=by rw[b8 hi];exact List.getElem_mem _
 obtain⟨x1,x2,x3⟩:=h.rs _ hmem;obtain⟨x,hx⟩:∃x,x=gl n.rs i:=⟨_,rfl⟩
 rw[<- hx]at x1 x2 x3 hfit ⊢;have hks:=nu x1;have hvs:(jh val has).size<=val.size:=by
  unfold jh;cases has
  ·exact Az _
  ·exact cW _
 have hlen:(bl (some (jG x (jh val has)))).length<=x.w.key.size+(jh val has).size+6:=afm (x:=jG x (jh val has)) (by show x.w.key.size<64;omega) (by show(jh val has).size<8000;omega) rfl;have hpo:oc (jG x (jh val has))=true:=K1 x1 (by omega);obtain⟨p1,p2⟩:=o1.put hpo (w:=x.w.key.size+val.size+14) (by omega) (by omega) hfit;obtain⟨cr,hfl,hcb⟩:=p1.fl;have hcl:(Tj n.s (jG x (jh val has))).d.calls<=c+20:=hfl.one.log.calls;have hdn:=p1.dn;have hrd:uR.rd ⟨n,p,r,i,val,has⟩=x:=hx.symm;have hsz:∀(a b:bG),a.rs=n.rs.eraseIdx i->a.rs.length<=k:=fun a _ e=>by rw[e,List.length_eraseIdx];split<;>omega
 have hul:(qC n.t x.tok).l.length<=k:=YP (T1 _ _) (by omega);have hrs:∀y∈n.rs.eraseIdx i,dB y.w.key=true/\0<=y.tok/\y.tok<=((k+1:Nat):Int):=fun y hy=>by
  have:=h.rs y (List.eraseIdx_subset hy);exact⟨this.1,this.2.1,by push_cast;omega⟩
 have hel:(n.rs.eraseIdx i).length<=k:=by rw[List.length_eraseIdx];split<;>omega
 have hnum:0<=n.asked/\n.asked<=((k+1:Nat):Int)/\0<=n.t.last/\n.t.last<=((k+1:Nat):Int)/\(qC n.t x.tok).l.length<=k+1/\n.ws.length<=k+1/\(n.rs.eraseIdx i).length<=k+1:=by push_cast;omega
 refine⟨⟨hat,hr,h.met.2.1,hi,by dsimp only;omega,by rw[hrd];simp only[bZ];omega,by rw[hrd];exact x1,by show val.size<=aB;unfold aB;omega,fun _=>by rw[hrd];exact p2,fun _=>by rw[hrd];dsimp only;omega⟩,?_⟩;by_cases hf:sB n r x val has=true
 ·have eT:mM n r i val has={ n with rs:=n.rs.eraseIdx i,t:=qC n.t x.tok,s:=flS (Tj n.s (jG x (jh val has))) }:=by unfold mM;rw[<- hx,if_pos hf]
  rw[if_pos hf,eT];exact⟨⟨⟨_,_,p1.flush,by rw[zG];rfl,by omega⟩,by omega,h.met,h.id,h.now,hnum,hrs⟩,rfl⟩
 ·have eT:mM n r i val has={ n with rs:=n.rs.eraseIdx i,t:=qC n.t x.tok }:=by unfold mM;rw[<- hx,if_neg hf]
  rw[if_neg hf,eT];exact⟨⟨⟨c,es,o1.wide (by omega),rfl,by omega⟩,by omega,h.met,h.id,h.now,hnum,hrs⟩,rfl⟩
structure ahD where
 id:Int
 now:Int
 o:yy
def HH(a:ahD):bG:=⟨iN (zD a.o),a.id,a.now,⟨0,0,0⟩,t00,[],[],0⟩
def xX:cB where
 α:=ahD
 β:=dP
 m:=4
 m':=40
 pre:=fun a=>1<=a.id/\a.id<=5/\Ex.pre a.o
 args:=fun a=>[.a (.int .i64 a.id),.a (.ptr 0 0 0 0),.a (.ptr 3 0 0 0)]
 hp:=fun a=>gW 0 1 a.o.d++[(2,.dg a.o.H),(3,Qv a.now)]
 post:=fun a b=>bz (HH a) b
 res:=fun _ _=>.nR [.a (.ptr 4 0 0 0),.a (.lit .i64 0)]
 eV:=fun a b=>aiB .nil 4 5 3 6 7 8 9 10 11 12 0 1 13 14 15 16 17 18 19 20 21 (HH a) b
theorem ab5:fnBody (Y Tryz.prog) [(77,Ex)] 34 xX fun _=>[]:=fnBody.of (p :=
 ∀x:ahD,(1:Int)<=x.id/\x.id<=(5:Int)/\Bd x.o->uE x.id (∃y:dP,False) 5 (∃y:yy,ah (iZ x.o.d y.d (x.o.H=y.H/\Bd y/\Qw (zD y) y.H x.id (HH x) x.now)))) (by kernel_rfl) (by
 delta aK aO dY az aM aN eE cw dN fL aU jo Ev aq Qw aJ ah bU di fh zy bC zB Bd uE
 rintro⟨id,now,⟨d,H,m,ms,es⟩⟩ ⟨h1,h2,h3,h4⟩;dsimp only at *;refine⟨fun c=>(by grind),fun _=>⟨fun c=>(by grind),fun _=>⟨yy.mk d H m ms es,?_⟩⟩⟩
 and_intros<;>first|exact cU|exact h3.1.1|exact h3.1.2.1|exact h3.1.2.2.1|exact h3.1.2.2.2|exact h3.2.1|exact h3.2.2|exact h4|(intro h_;revert h_)|omega|grind [af.refl]|rfl|grind|grind|(dsimp only;omega)|skip
 rintro p ⟨hat,_⟩ mb;refine⟨⟨p,mb,0,0⟩,?_⟩;have hN:bz (HH ⟨id,now,⟨d,H,m,ms,es⟩⟩) ⟨p,mb,0,0⟩:=⟨hat,⟨fun e he=>(by cases he),zBo,fun e he=>(by cases he),zBo,zBo,by show(0:Int)<=0/\(0:Int)<=_;omega⟩,fun e he=>(by cases he),cW 0,cW 0⟩
 and_intros<;>first|exact cU|exact hN|exact kL|skip)
theorem NA:av (Y Tryz.prog).G.X 34 xX:=bp gf ab5 ⟨Wa,trivial⟩
theorem jH.open_{n:bG}{get:ByteArray->Option aW}(h:jH n k get cb jb){d':bH}{now:Int}(hd:∀r j,d'.now r j=n.s.d.now r j)(hn:d'.n=n.s.d.n)(hc:d'.calls=0)(hb:n.s.k.m.bP<998)(hk:k<99)(hnow:0<=now/\now<1000)(H:PH) :
 ∃o:yy,o.d=d'/\o.H=H/\xX.pre ⟨n.id,now,o⟩/\jH (HH ⟨n.id,now,o⟩) (k+1) get cb jb/\(HH ⟨n.id,now,o⟩).s.k.m=iM n.s.k.m /\
  (∀r,(HH ⟨n.id,now,o⟩).s.d.loose r=false)/\(∀r j,(HH ⟨n.id,now,o⟩).s.d.ru r j=(HH ⟨n.id,now,o⟩).s.d.now r j)/\(HH ⟨n.id,now,o⟩).s.d.n=n.s.d.n:=by
 obtain⟨c,es,o1,o2,o3⟩:=h.one;have hm:=h.met;obtain⟨r1,r2,r3,r4,r5,r6,r7,r8⟩:=o1.Qo (c:=0) hd hn (by omega) (by omega) (by omega) (by omega) H;refine⟨⟨d',H,n.s.k.m,n.s.ms,es⟩,rfl,rfl,⟨h.id.1,h.id.2,r1⟩,⟨⟨0+100+c,es,r5,o2,by omega⟩,by omega,?_,h.id,hnow,?_,fun x hx=>by cases hx⟩,r2,r6,r7,r8⟩
 ·have e:(HH ⟨n.id,now,⟨d',H,n.s.k.m,n.s.ms,es⟩⟩).s.k.m=iM n.s.k.m:=r2;rw[e];exact⟨hm.1,hm.2.1,by show 0<=n.s.k.m.bP+1;omega,by show n.s.k.m.bP+1<1000;omega,hm.2.2.2.2.1,hm.2.2.2.2.2⟩
 ·exact⟨zBw 0,by show(0:Int)<=_;omega,zBw 0,by show(0:Int)<=_;omega,Az _,Az _,Az _⟩
theorem jH.le_{n:bG}{get:ByteArray->Option aW}(h:jH n k get cb jb)(l:iJ):jH { n with le:=l } k get cb jb:=⟨h.one,h.lt,h.met,h.id,h.now,h.num,h.rs⟩
theorem jH.amv{n:bG}{get:ByteArray->Option aW}(h:jH n k get cb jb){t:Int}(ht:0<=t/\t<1000):jH { n with now:=t } k get cb jb:=⟨h.one,h.lt,h.met,h.id,ht,h.num,h.rs⟩
theorem jH.ws_{n:bG}{get:ByteArray->Option aW}(h:jH n k get cb jb):jH { n with ws:=noW } k get cb jb:=⟨h.one,h.lt,h.met,h.id,h.now,⟨h.num.1,h.num.2.1,h.num.2.2.1,h.num.2.2.2.1,h.num.2.2.2.2.1,Az _,h.num.2.2.2.2.2.2⟩,h.rs⟩
def Still(d:bH):Prop:=(∀r,d.loose r=false)/\∀r j,d.ru r j=d.now r j
theorem TM(d:bH):Still (jq d):=⟨fun _=>rfl,fun _ _=>rfl⟩
theorem WQ{n:bG}{key:ByteArray}{get:ByteArray->Option aW}(h:jH n k get cb jb)(hk:dB key=true):Still (mw n key).s.d:=by
 have hA:iG [key]=true:=by simp[iG,hk]
 have ek:lV n.s [key]=flS (uK (mS n.s [key]) [key] [key].length):=by
  unfold lV;rw[if_pos hA];unfold M9 oK;rw[if_pos hA];rfl
 have e:(mw n key).s=lV n.s [key]:=rfl;rw[e,ek];exact TM _
theorem TN{d:bH}(h:Still d)(m:Nat)(keep:Nat->Bool)(r j:Nat):(mG d m keep).now r j=d.now r j:=(aam h.1 r j).trans (h.2 r j)
theorem afn{n:bG}(hs:kA n.s.k (uc n ep)=true):Still (Iv n ep tick).s.d:=by
 show Still (ga n.s.k (DH n.s).d (uc n ep));unfold ga;rw[if_pos hs];exact⟨fun _=>rfl,fun _ _=>rfl⟩
theorem WR{n:bG}{val:ByteArray}{has:Bool}(h:Still n.s.d):Still (mM n r i val has).s.d:=by
 unfold mM;dsimp only;split
 ·exact TM _
 ·exact h
def NB(n:bG)(r:Rg.dy):Prop:=∀k,gJ n r k=true
variable{c1 c2:Nat}{g:Option aW}{i now:Int}{k v:ByteArray}
theorem YB{L:List (Int×Int)}(h0:0<L.length)(h:∀e∈L,e.2=i)(x:Int):Rg.Bo L x=i:=by
 grind [Rg.Bo,b8]
theorem B8(h:1<=i/\i<=5):(Rg.lW [i]).length=8/\∀e∈Rg.lW [i],e.2=i:=by
 have hm:=Rg.aeL h.1 h.2;refine⟨Rg.QF hm,fun e he=>?_⟩
 grind [Rg.KR,Rg.jT,Rg.aeJ]
theorem YC(h:1<=i/\i<=5):(dQ ep [i] c1 c2).L.length<100000/\0<(dQ ep [i] c1 c2).L.length:=by
 have:=(B8 h).1;show(Rg.lW [i]).length<100000/\0<(Rg.lW [i]).length;omega
theorem NB.alone{n:bG}(h:1<=n.id/\n.id<=5)(hg:oP n.le n.now n.s.k.m.ay=true):NB n (dQ ep [n.id] c1 c2):=fun k=>by
 have e:Br (dQ ep [n.id] c1 c2) k=n.id:=YB (by grind [B8]) (B8 h).2 _
 grind [gJ]
theorem afo(h1:1<=ep)(h2:0<=tick)(h3:tick<=now)(h4:now-tick<20):kJ now ⟨0,0,0⟩ tick ep=⟨ep,tick+20,ep⟩:=by
 grind [xV,kJ]
theorem afp(h1:1<=ep)(h4:now-tick<20):oP ⟨ep,tick+20,ep⟩ now ep=true:=by
 simp only[oP,jB,tB]
 grind
theorem NB.gr{n:bG}(h:1<=n.id/\n.id<=5)(h1:1<=ep)(h2:0<=tick)(h3:tick<=n.now)(h4:n.now-tick<20)(he:(Iv n ep tick).s.k.m.ay=ep):NB (Iv n ep tick) (dQ ep [n.id] c1 c2) :=
 NB.alone (n:=Iv n ep tick) h (by
  rw[he];show oP (kJ n.now ⟨0,0,0⟩ tick ep) n.now ep=true
  grind [afo,afp])
theorem NB.own{n:bG}(h:NB n r)(k:ByteArray):¬Br r k≠n.id:=by
 have:=h k;unfold gJ at this
 grind
theorem NB.same{n m:bG}(h:NB n r)(h1:m.id=n.id)(h2:m.le=n.le)(h3:m.now=n.now)(h4:m.s.k.m.ay=n.s.k.m.ay):NB m r:=fun k=>by
 have:=h k
 grind [gJ]
theorem ahE{n:bG}(hb:zO w=true):kW n r w g b=qe n w 1 oN false:=if_pos hb
theorem TO{n:bG}(hs:NB n r)(hb:zO w=false)(ho:w.op=1)(hg:sS g n.now=none):kW n r w g b=⟨jw n w b,[],[]⟩:=by
 unfold kW;rw[if_neg (by grind),if_neg (hs.own _),if_neg (by rw[hs];decide),if_neg (by omega),hg]
theorem YD{n:bG}{x:aW}(hs:NB n r)(hb:zO w=false)(ho:w.op=1)(hg:sS g n.now=some x):kW n r w g b=qe n w 0 x.val true:=by
 unfold kW;rw[if_neg (by grind),if_neg (hs.own _),if_neg (by rw[hs];decide),if_neg (by omega),hg]
theorem TP{n:bG}(hs:NB n r)(hb:zO w=false)(ho:w.op=2):kW n r w g b=qe (mw n w.key) w 0 oN false:=by
 unfold kW;rw[if_neg (by grind),if_neg (hs.own _),if_neg (by rw[hs];decide),if_pos ho]
theorem TQ{x:kI}(now:Int)(hk:dB x.w.key=true)(hv:v.size<=200):sS (some (jG x v)) now=some (jG x v):=by
 grind [Ct,jG,jJ,sS]
theorem TR{H:PH}{t:nL}(h:jt H t)(key:ByteArray)(b:Nat):oe (va t key b) (t.last+1)=some ⟨t.last+1,b,key,true,t.fM⟩:=by
 unfold oe va;dsimp only;rw[List.find?_append,List.find?_eq_none.2 fun e he=>by
  have:=(h.id e he).2.1;simp;omega]
 simp
theorem CM{n:bG}(hat:bz n p)(w:ot)(b:Nat):mT (jw n w b) ⟨w,n.t.last+1⟩=true:=by
 grind [mT,jw,TR,hat.tok]
theorem afq{n:bG}(hat:bz n p)(hs:NB n r)(w:ot)(b:Nat)(hv:v.size<=200):sB (jw n w b) r ⟨w,n.t.last+1⟩ v true=true:=by
 have hs2:NB (jw n w b) r:=hs.same rfl rfl rfl rfl;unfold sB;rw[CM hat,hs2,show jh v true=v from rfl,zBg hv];rfl
theorem DQ(ho:w.op=1\/w.op=2)(hk:dB w.key=true):zO w=false:=by
 grind [zO]
theorem afr{n:bG}(ho:Br r w.key=n.id)(hs:gJ n r w.key=false)(hb:zO w=false):kW n r w g b=qe n w 6 oN false:=by
 grind [kW]
theorem NC(h:1<=i/\i<=5)(k:ByteArray):Br (dQ ep [i] c1 c2) k=i:=YB (by grind [B8]) (B8 h).2 _
theorem GK{n:bG}(h:Br r k=n.id):gJ n r k=oP n.le n.now n.s.k.m.ay:=by
 grind [gJ]
end Go.Proofs.YtfjgoonelcaggaaGreat
