/-
  
-/
import Derived.Test.YtfjgoonelcaggaaGreatNodeAloneP3
import Derived.Shelf.Sort.Plain
import Derived.Shelf.Slices.In.SortNone
import Derived.Test.YtfjgoonelcaggaaGreatProg
import Derived.Test.YtfjgoonelcaggaaGreatNodeAloneP2
import Derived.Sort.Grow
import Derived.Sort.KeysCollected
set_option maxRecDepth 100000
set_option maxHeartbeats 4000000
set_option linter.unusedVariables false
set_option linter.unusedSimpArgs false
noncomputable section
namespace Go.Proofs.YtfjgoonelcaggaaGreat.Ix
open Go.Sx
def rJ(p:bX):ByteArray×Int:=(p.key,p.pos)
def gV(t:List bX):List (ByteArray×Int):=(t.filter (·.has)).map rJ
def busy(p:bX):Bool:=!bare p
structure Inv(x:dO):Prop where
 lo:16<=x.t.length
 hi:x.t.length<=40000
 n:x.n=(gV x.t).length
 used:x.used=x.t.countP busy
 half:2*x.used<x.t.length+2
 size:∀i,i<x.t.length->(gl x.t i).key.size<=aB
 HW:∀i j,i<x.t.length->j<x.t.length->(gl x.t i).has=true->(gl x.t j).has=true->(gl x.t i).key=(gl x.t j).key->i=j
 path:∀i,i<x.t.length->(gl x.t i).has=true->∃d,d<x.t.length/\(fC x.t.length (gl x.t i).key+d)%x.t.length=i/\∀k,k<d->bare (gl x.t ((fC x.t.length (gl x.t i).key+k)%x.t.length))=false
variable{d i s:Nat}{k:ByteArray}{l m:List (ByteArray×Int)}{p:Int}{t:List bX}{x:dO}
theorem SQ{L:Nat}:((s+d)%L+1)%L=(s+(d+1))%L:=by rw[Nat.mod_add_mod,T8]
theorem B1{key:ByteArray}{p:bX}:hit key p=true↔p.has=true/\p.key=key:=by simp[hit]
theorem J1{t:List bX}{key:ByteArray}{i0 d0:Nat}(hL:1<=t.length)(hi:i0<t.length)(hh:hit key (gl t i0)=true)(hd:d0<t.length)
 (hp:(fC t.length key+d0)%t.length=i0) (hb:∀k,k<d0->bare (gl t ((fC t.length key+k)%t.length))=false)
 (hu:∀j,j<t.length->hit key (gl t j)=true->j=i0):∀(m d:Nat) (f:Int),d+m=d0->iF t key (t.length-d) ((fC t.length key+d)%t.length) f=((i0:Int),(i0:Int))
 |0,d,f,hm=>by
  have:d=d0:=by omega
  subst this;rw[hp,show t.length-d=(t.length-d-1)+1 by omega];simp only[iF,hh,if_true]
 |m+1,d,f,hm=>by
  have hlt:(fC t.length key+d)%t.length<t.length:=Nat.mod_lt _ hL;rw[show t.length-d=(t.length-(d+1))+1 by omega];by_cases h:hit key (gl t ((fC t.length key+d)%t.length))=true
  ·have:=hu _ hlt h;rw[this]at h ⊢;simp only[iF,h,if_true]
  ·simp only[iF,h,if_false,hb d (by omega),RF];rw[SQ];exact J1 hL hi hh hd hp hb hu m (d+1) _ (by omega)
theorem MS{t:List bX}{key:ByteArray}(hL:1<=t.length)(hu:∀j,j<t.length->hit key (gl t j)=false):∀(k i:Nat) (f:Int),i<t.length->0<=f->iF t key k i f=(-1,f)
 |0,i,f,hi,hf=>rfl
 |k+1,i,f,hi,hf=>by
  have h1:(!(gl t i).has&&decide (f<0))=false:=by simp;omega
  simp only[iF,hu i hi,RF,if_false,h1];split
  ·rfl
  ·exact MS hL hu k _ f (Nat.mod_lt _ hL) hf
theorem MT{t:List bX}{key:ByteArray}{d0:Nat}(hL:1<=t.length)(hd:d0<t.length)(hu:∀j,j<t.length->hit key (gl t j)=false)
 (hf:(gl t ((fC t.length key+d0)%t.length)).has=false) (hb:∀k,k<d0->(gl t ((fC t.length key+k)%t.length)).has=true) :
 ∀(m d:Nat),d+m=d0->iF t key (t.length-d) ((fC t.length key+d)%t.length) (-1)=(-1,(((fC t.length key+d0)%t.length:Nat):Int))
 |0,d,hm=>by
  have:d=d0:=by omega
  subst this;have hlt:(fC t.length key+d)%t.length<t.length:=Nat.mod_lt _ hL;rw[show t.length-d=(t.length-d-1)+1 by omega];have h1:(!(gl t ((fC t.length key+d)%t.length)).has&&decide ((-1:Int)<0))=true:=by simp[hf]
  simp only[iF,hu _ hlt,RF,if_false,h1,if_true]
  grind [MS,Nat.mod_lt]
 |m+1,d,hm=>by
  have hlt:(fC t.length key+d)%t.length<t.length:=Nat.mod_lt _ hL;rw[show t.length-d=(t.length-(d+1))+1 by omega];have h0:=hb d (by omega);have h1:(!(gl t ((fC t.length key+d)%t.length)).has&&decide ((-1:Int)<0))=false:=by simp[h0]
  have h2:bare (gl t ((fC t.length key+d)%t.length))=false:=by simp[bare,h0]
  simp only[iF,hu _ hlt,RF,if_false,h1,h2];rw[SQ];exact MT hL hd hu hf hb m (d+1) (by omega)
theorem MU{L:Nat}{key:ByteArray}(hL:1<=L):(fC L key+0)%L=fC L key:=by
 rw[EZ,Nat.mod_eq_of_lt (wh key hL)]
theorem Hs(h:Inv x)(hi:i<x.t.length)(hh:(gl x.t i).has=true):cM x.t (gl x.t i).key=((i:Int),(i:Int)):=by
 obtain⟨d,h1,h2,h3⟩:=h.path i hi hh;have hL:1<=x.t.length:=by have:=h.lo;omega
 have:=J1 (key:=(gl x.t i).key) hL hi (B1.2 ⟨hh,rfl⟩) h1 h2 h3 (fun j hj hj2=>h.HW j i hj hi (B1.1 hj2).1 hh (B1.1 hj2).2) d 0 (-1) (by omega);rwa[MU hL,LL]at this
theorem road{L:Nat}(hs:s<L)(hi:i<L):∃d,d<L/\(s+d)%L=i:=by
 by_cases h:s<=i
 ·exact⟨i-s,by omega,by grind [Nat.mod_eq_of_lt]⟩
 ·refine⟨L+i-s,by omega,?_⟩;rw[show s+(L+i-s)=i+L by omega,Nat.add_mod_right];exact Nat.mod_eq_of_lt hi
theorem MV:∀(t:List bX),t.countP busy<t.length->∃i,i<t.length/\(gl t i).has=false
 |[],h=>absurd h (uh _)
 |p::r,h=>by
  cases hp:p.has with
  |false=>exact⟨0,by simp,hp⟩
  |true =>
   have hb:busy p=true:=by simp[busy,bare,hp]
   rw[List.countP_cons_of_pos hb]at h;obtain⟨i,h1,h2⟩:=MV r (by simpa using h);exact⟨i+1,by simp;omega,h2⟩
theorem first{p:Nat->Bool}:∀d,p d=true->∃d0,d0<=d/\p d0=true/\∀k,k<d0->p k=false:=by
 intro d
 induction d using Nat.strongRecOn with
 |ind d ih =>
  grind
def VE(t:List bX)(key:ByteArray):Prop:=∀j,j<t.length->hit key (gl t j)=false
theorem J3{key:ByteArray}(hL:1<=t.length)(hu:VE t key)(hr:t.countP busy<t.length) :
 ∃d i,d<t.length/\(fC t.length key+d)%t.length=i/\i<t.length/\(gl t i).has=false/\(∀k,k<d->(gl t ((fC t.length key+k)%t.length)).has=true)/\cM t key=(-1,(i:Int)):=by
 obtain⟨i,h1,h2⟩:=MV t hr;obtain⟨d,h3,h4⟩:=road (wh key hL) h1;obtain⟨d0,g1,g2,g3⟩:=first (p:=fun d=>!(gl t ((fC t.length key+d)%t.length)).has) d (by simp[h4,h2])
 simp only[RM,zBm]at g2 g3;have:=MT hL (show d0<t.length by omega) hu g2 g3 d0 0 (by omega);rw[MU hL,LL]at this;exact⟨d0,_,by omega,rfl,Nat.mod_lt _ hL,g2,g3,this⟩
theorem SR(h:i<t.length):t=t.take i++gl t i::t.drop (i+1):=by
 rw[b8 h,List.getElem_cons_drop,List.take_append_drop]
theorem MW{q:bX}(h:i<t.length):t.set i q=t.take i++q::t.drop (i+1):=by
 grind [List.set_eq_take_append_cons_drop]
theorem J4(a b:List bX):gV (a++b)=gV a++gV b:=by simp[gV]
theorem B2(p:bX)(r:List bX):gV (p::r)=(if p.has then[rJ p]else[])++gV r:=by
 grind [gV]
theorem Er(h:i<t.length):gV t=gV (t.take i)++((if(gl t i).has then[rJ (gl t i)]else[])++gV (t.drop (i+1))):=by
 grind [SR,J4,B2]
theorem J5{q:bX}(h:i<t.length):gV (t.set i q)=gV (t.take i)++((if q.has then[rJ q]else[])++gV (t.drop (i+1))):=by
 rw[MW h,J4,B2]
theorem ajs(h:i<t.length):t.countP busy=(t.take i).countP busy+((t.drop (i+1)).countP busy+if busy (gl t i)then 1 else 0):=by
 grind [SR]
theorem ah1{q:bX}(h:i<t.length):(t.set i q).countP busy=(t.take i).countP busy+((t.drop (i+1)).countP busy+if busy q then 1 else 0):=by
 rw[MW h,List.countP_append,List.countP_cons]
theorem A6:(k,p)∈gV t↔∃i,i<t.length/\(gl t i).has=true/\(gl t i).key=k/\(gl t i).pos=p:=by
 unfold gV;simp only[kj,zBc,rJ,Prod.mk.injEq];constructor
 ·rintro⟨q,⟨h1,h2⟩,h3,h4⟩;obtain⟨i,hi,rfl⟩:=List.getElem_of_mem h1;exact⟨i,hi,by grind [b8],by grind [b8],by grind [b8]⟩
 grind [Ju]
theorem VF:VE t k↔k∉(gV t).map Prod.fst:=by
 constructor
 ·intro h hm;obtain⟨⟨k',p⟩,h1,rfl⟩:=kj.1 hm;obtain⟨i,h2,h3,h4,_⟩:=A6.1 h1;have:=h i h2
  grind [B1]
 ·intro h j hj;cases hh:hit k (gl t j)with
  |false=>rfl
  |true =>
   obtain⟨h1,h2⟩:=B1.1 hh;exact absurd (kj.2 ⟨(k,(gl t j).pos),A6.2 ⟨j,hj,h1,h2,rfl⟩,rfl⟩) h
structure Has(x:dO)(l:List (ByteArray×Int)):Prop where
 inv:Inv x
 perm:(gV x.t).Perm l
theorem Has.Et(h:Has x l)(p:l.Perm m):Has x m:=⟨h.inv,h.perm.trans p⟩
theorem Has.n{x:dO}{l:List (ByteArray×Int)}(h:Has x l):x.n=l.length:=by rw[h.inv.n,h.perm.length_eq]
theorem Has.mem(h:Has x l)(hm:(k,p)∈l):∃i:Nat,i<x.t.length/\(gl x.t i).has=true/\(gl x.t i).key=k/\(gl x.t i).pos=p/\cM x.t k=((i:Int),(i:Int)):=by
 obtain⟨i,h1,h2,h3,h4⟩:=A6.1 (h.perm.mem_iff.2 hm)
 grind [Hs,h.inv]
theorem Has.none(h:Has x l)(hm:k∉l.map Prod.fst):VE x.t k:=VF.2 fun hk=>hm ((h.perm.map _).mem_iff.1 hk)
theorem Inv.room(h:Inv x):x.t.countP busy<x.t.length:=by grind [h.half,h.used,h.lo]
theorem Has.yw(h:Has x l)(hm:k∉l.map Prod.fst):(cM x.t k).1 = -1/\0<=(cM x.t k).2:=by
 obtain⟨d,i,_,_,_,_,_,e⟩:=J3 (by grind [h.inv.lo]) (h.none hm) h.inv.room
 grind
theorem Inv.set{x:dO}(h:Inv x){i:Nat}(hi:i<x.t.length){q:bX}(hb:bare q=false)(hs:q.key.size<=aB)
 (hd:q.has=true->∀j,j<x.t.length->j≠i->(gl x.t j).has=true->(gl x.t j).key≠q.key)
 (hp:q.has=true->∃d,d<x.t.length/\(fC x.t.length q.key+d)%x.t.length=i/\∀k,k<d->bare (gl x.t ((fC x.t.length q.key+k)%x.t.length))=false)
 {n' u':Nat} (hn:n'=(gV (x.t.set i q)).length) (hu:u'=(x.t.set i q).countP busy) (hh:2*u'<x.t.length+2):Inv ⟨x.t.set i q,n',u'⟩:=by
 have hl:(x.t.set i q).length=x.t.length:=by simp
 have key:∀j,gl (x.t.set i q) j=if i=j then q else gl x.t j:=by
  intro j;by_cases e:i=j
  ·grind [AJ]
  ·grind [Fj]
 have bb:∀j,bare (gl x.t j)=false->bare (gl (x.t.set i q) j)=false:=by
  intro j hj;rw[key];split
  ·exact hb
  ·exact hj
 refine⟨by grind [h.lo],by grind [h.hi],hn,hu,by grind,fun j hj=>?_,fun a b ha hb' h1 h2 h3=>?_,fun j hj hj2=>?_⟩
 ·rw[hl]at hj;rw[key];split
  ·exact hs
  ·exact h.size j hj
 ·simp only[hl]at ha hb';simp only[key]at h1 h2 h3;by_cases e1:i=a
  ·grind
  ·by_cases e2:i=b
   ·grind
   ·rw[if_neg e1]at h1 h3;rw[if_neg e2]at h2 h3;exact h.HW a b ha hb' h1 h2 h3
 ·simp only[hl]at hj ⊢;simp only[key]at hj2;by_cases e:i=j
  ·rw[if_pos e]at hj2;subst e;obtain⟨d,h1,h2,h3⟩:=hp hj2;rw[show gl (x.t.set i q) i=q by grind];exact⟨d,h1,h2,fun k hk=>bb _ (h3 k hk)⟩
  ·rw[if_neg e]at hj2;obtain⟨d,h1,h2,h3⟩:=h.path j hj hj2;rw[show gl (x.t.set i q) j=gl x.t j by grind];exact⟨d,h1,h2,fun k hk=>bb _ (h3 k hk)⟩
theorem SS{p:bX}(h:p.has=true):busy p=true:=by simp[busy,bare,h]
theorem ZT{q:Int}(h:Has x ((k,q)::l)):Has (qW x k p) ((k,p)::l)/\sQ x k=q/\0<=(cM x.t k).1:=by
 obtain⟨i,h1,h2,h3,h4,h5⟩:=h.mem List.mem_cons_self;have e:qW x k p=⟨x.t.set i { gl x.t i with pos:=p },x.n,x.used⟩:=by
  unfold qW;rw[h5];simp
 have hk:(gV x.t).Perm ((k,q)::(gV (x.t.take i)++gV (x.t.drop (i+1)))):=by
  rw[Er h1,h2];have:rJ (gl x.t i)=(k,q):=by simp[rJ,h3,h4]
  rw[if_pos rfl,this];exact zBP
 have hk':(gV (x.t.set i { gl x.t i with pos:=p })).Perm ((k,p)::(gV (x.t.take i)++gV (x.t.drop (i+1)))):=by
  rw[J5 h1];simp only[h2,if_true,rJ,h3];exact zBP
 have hl:(gV (x.t.take i)++gV (x.t.drop (i+1))).Perm l:=(List.perm_cons _).1 (hk.symm.trans h.perm);refine⟨⟨?_,?_⟩,by grind [sQ],by rw[h5];simp⟩
 ·rw[e];refine h.inv.set (q:={ gl x.t i with pos:=p }) h1 (by simp[bare,h2]) (h.inv.size i h1) (fun _ j hj hne hj2 he=>hne (h.inv.HW j i hj h1 hj2 h2 he)) (fun _=>h.inv.path i h1 h2) ?_ ?_ h.inv.half
  ·rw[h.inv.n,hk.length_eq,hk'.length_eq];rfl
  grind [h.inv.used,SS,gl]
 ·rw[e];exact hk'.trans (hl.cons _)
theorem XX(h:Has x l)(hk:k∉l.map Prod.fst)(hs:k.size<=aB)(hr:2*x.used<x.t.length) :
 Has (qW x k p) ((k,p)::l)/\sQ x k=0/\(cM x.t k).1<0/\0<=(cM x.t k).2/\(qW x k p).used<=x.used+1/\(qW x k p).n=x.n+1:=by
 obtain⟨d,i,h1,h2,h3,h4,h5,h6⟩:=J3 (by omega) (h.none hk) h.inv.room;have e:qW x k p=⟨x.t.set i ⟨k,p,true,false⟩,x.n+1,if(gl x.t i).gone then x.used else x.used+1⟩:=by
  unfold qW;rw[h6];simp
 have hp0:gV x.t=gV (x.t.take i)++gV (x.t.drop (i+1)):=by rw[Er h3,h4];simp
 have hp1:(gV (x.t.set i ⟨k,p,true,false⟩)).Perm ((k,p)::gV x.t):=by
  rw[J5 h3,hp0];simp only[if_true,rJ];exact zBP
 have hb:busy (gl x.t i)=(gl x.t i).gone:=by simp[busy,bare,h4]
 refine⟨⟨?_,?_⟩,by grind [sQ],by rw[h6];simp,by rw[h6];simp,by grind,by rw[e]⟩
 ·rw[e];refine h.inv.set (q:=⟨k,p,true,false⟩) h3 rfl hs (fun _ j hj hne hj2 he=>?_) (fun _=>⟨d,h1,h2,fun k hk=>by grind [bare]⟩) ?_ ?_ (by grind)
  ·have:=h.none hk j hj
   grind [B1]
  ·rw[hp1.length_eq,List.length_cons,h.inv.n]
  grind [h.inv.used,gl,busy,bare]
 ·rw[e];exact hp1.trans (h.perm.cons _)
def CB:bX:=⟨.empty,0,false,true⟩
def ob(x:dO)(k:ByteArray):dO:=if 0<=(cM x.t k).1 then⟨x.t.set (cM x.t k).1.toNat CB,x.n-1,x.used⟩else x
theorem J6{q:Int}(h:Has x ((k,q)::l)):Has (ob x k) l/\0<=(cM x.t k).1:=by
 obtain⟨i,h1,h2,h3,h4,h5⟩:=h.mem List.mem_cons_self;have e:ob x k=⟨x.t.set i CB,x.n-1,x.used⟩:=by unfold ob;rw[h5];simp
 have hk:(gV x.t).Perm ((k,q)::(gV (x.t.take i)++gV (x.t.drop (i+1)))):=by
  rw[Er h1,h2];have:rJ (gl x.t i)=(k,q):=by simp[rJ,h3,h4]
  rw[if_pos rfl,this];exact zBP
 have hk':gV (x.t.set i CB)=gV (x.t.take i)++gV (x.t.drop (i+1)):=by rw[J5 h1];rfl
 have hl:(gV (x.t.take i)++gV (x.t.drop (i+1))).Perm l:=(List.perm_cons _).1 (hk.symm.trans h.perm);refine⟨⟨?_,?_⟩,by rw[h5];simp⟩
 ·rw[e];refine h.inv.set (q:=CB) h1 rfl (by unfold aB;decide) (fun hc=>by cases hc) (fun hc=>by cases hc) ?_ ?_ h.inv.half
  ·grind [h.inv.n,hk.length_eq]
  ·rw[h.inv.used,ajs h1,ah1 h1,SS h2];rfl
 grind
theorem ZU(h:Has x l)(hk:k∉l.map Prod.fst):ob x k=x:=by
 unfold ob;rw[(h.yw hk).1];rfl
def low(p:Int)(q:bX):Bool:=q.has&&decide (q.pos<p)
def gZ(t:List bX)(p:Int):Nat->List bX
 |0=>t
 |i+1=>if low p (gl t i)then(gZ t p i).set i CB else gZ t p i
def fu(t:List bX)(p:Int):Nat->Nat
 |0=>0
 |i+1=>fu t p i+if low p (gl t i)then 1 else 0
def A7(x:dO)(p:Int):dO:=⟨gZ x.t p x.t.length,x.n-fu x.t p x.t.length,x.used⟩
theorem l9(t:List bX)(p:Int):∀i,(gZ t p i).length=t.length
 |0=>rfl
 |i+1=>by unfold gZ;split<;>simp[l9 t p i]
theorem FW(t:List bX)(p:Int):∀i,i<=t.length->∀j,gl (gZ t p i) j=if j<i/\low p (gl t j)then CB else gl t j
 |0,_,j=>by simp[gZ]
 |i+1,hi,j=>by
  have ih:=FW t p i (by omega) j
  grind [gZ,AJ,l9,Fj]
theorem Ht{x:dO}{l:List (ByteArray×Int)}(h:Has x l)(p:Int):∀i,i<=x.t.length ->
 Has ⟨gZ x.t p i,x.n-fu x.t p i,x.used⟩ (((x.t.take i).filter fun q=>q.has&&!low p q).map rJ++gV (x.t.drop i))/\fu x.t p i=((x.t.take i).filter (low p)).length
 |0,_=>⟨⟨h.inv,by simp[gZ]⟩,rfl⟩
 |i+1,hi=>by
  obtain⟨⟨i1,i2⟩,i3⟩:=Ht h p i (by omega);have hT:=FW x.t p i (by omega) i;rw[if_neg (by simp)]at hT;have hLen:=l9 x.t p i;rw[gU (by omega),List.filter_append,List.filter_append,T3,wM,<- i3];have hdrop:gV (x.t.drop i)=(if(gl x.t i).has then[rJ (gl x.t i)]else[])++gV (x.t.drop (i+1)):=by
   rw[<- B2,b8 (by omega),List.getElem_cons_drop]
  rw[hdrop]at i2;by_cases hl:low p (gl x.t i)=true
  ·have hh:(gl x.t i).has=true:=by simp[low]at hl;exact hl.1
   have e1:gZ x.t p (i+1)=(gZ x.t p i).set i CB:=if_pos hl;have e2:fu x.t p (i+1)=fu x.t p i+1:=by show fu x.t p i+(if low p (gl x.t i)=true then 1 else 0)=_;rw[if_pos hl]
   have h0:Has ⟨gZ x.t p i,x.n-fu x.t p i,x.used⟩ ((rJ (gl x.t i))::(((x.t.take i).filter fun q=>q.has&&!low p q).map rJ++gV (x.t.drop (i+1)))):=by
    refine⟨i1,i2.trans ?_⟩;rw[if_pos hh];exact zBP
   have h1:=J6 (x:=⟨gZ x.t p i,x.n-fu x.t p i,x.used⟩) h0;have hf:=Hs i1 (i:=i) (by grind) (by grind);simp only at hf;rw[hT]at hf;have e3:ob ⟨gZ x.t p i,x.n-fu x.t p i,x.used⟩ (gl x.t i).key=⟨(gZ x.t p i).set i CB,x.n-(fu x.t p i+1),x.used⟩:=by
    unfold ob;simp only;rw[hf];simp;omega
   grind
  ·have e1:gZ x.t p (i+1)=gZ x.t p i:=if_neg hl;have e2:fu x.t p (i+1)=fu x.t p i:=by show fu x.t p i+(if low p (gl x.t i)=true then 1 else 0)=_;rw[if_neg hl];rfl
   refine⟨⟨?_,?_⟩,by grind⟩
   ·grind
   grind
theorem MX{α:Type}(f:α->Bool):∀l:List α,l.length=(l.filter f).length+(l.filter fun e=>!f e).length
 |[]=>rfl
 |a::r=>by
  have:=MX f r
  grind
theorem ZV(h:Has x l)(p:Int):Has (A7 x p) (l.filter fun e=>decide (p<=e.2))/\fu x.t p x.t.length=l.length-(l.filter fun e=>decide (p<=e.2)).length/\fu x.t p x.t.length<=l.length:=by
 obtain⟨h1,h2⟩:=Ht h p x.t.length (cW _);rw[zBd]at h1 h2;rw[List.drop_length]at h1;have e:((x.t.filter fun q=>q.has&&!low p q).map rJ++gV [])=(gV x.t).filter fun e=>decide (p<=e.2):=by
  unfold gV;rw[List.filter_map,List.filter_filter];simp only[List.filter_nil,zBI,z6];congr 1;apply List.filter_congr;intro q _;simp only[Function.comp,low,rJ];by_cases hc:q.pos<p
  ·grind
  ·grind
 rw[e]at h1;have hp:=(h.perm.filter fun e=>decide (p<=e.2))
 have e2:(x.t.filter (low p)).length=((gV x.t).filter fun e=>!decide (p<=e.2)).length:=by
  unfold gV;rw[List.filter_map,T7,List.filter_filter];congr 1;apply List.filter_congr;intro q _;simp only[Function.comp,low,rJ];by_cases hc:q.pos<p
  ·grind
  ·grind
 have e3:=MX (fun e:ByteArray×Int=>decide (p<=e.2)) (gV x.t);refine⟨h1.Et hp,?_,?_⟩
 ·grind [hp.length_eq,h.perm.length_eq]
 grind [h.perm.length_eq]
theorem B3{n:Nat}(h1:16<=n)(h2:n<=40000):Has (cS n) []:=by
 have key:∀i,i<n->gl (List.replicate n (⟨.empty,0,false,false⟩:bX)) i=⟨.empty,0,false,false⟩:=fun i hi=>zv hi;have he:gV (List.replicate n (⟨.empty,0,false,false⟩:bX))=[]:=by simp[gV]
 refine⟨⟨by grind [cS],by grind [cS],?_,?_,by grind [cS],fun i hi=>?_,fun i j hi hj h=>?_,fun i hi h=>?_⟩,by simp only[cS];rw[he]⟩
 ·grind [cS]
 ·simp[cS,List.countP_replicate,busy,bare]
 ·simp only[cS,List.length_replicate]at hi ⊢;rw[key i hi];simp only[aB];decide
 ·grind [cS]
 grind [cS]
theorem J7(h:Inv x)(hi:i<x.t.length)(hh:(gl x.t i).has=true):(gl x.t i).key∉(gV (x.t.take i)).map Prod.fst:=by
 intro hm;obtain⟨⟨k,p⟩,h1,h2⟩:=kj.1 hm;obtain⟨j,h3,h4,h5,_⟩:=A6.1 h1;rw[zBj]at h3;rw[XC (by omega)]at h4 h5;have:=h.HW j i (by omega) hi h4 hh (h5.trans h2);omega
theorem grow_step{x:dO}(h:Inv x)(hn:x.n<10000):∀i,i<=x.t.length ->
 Has (gA x.t (cS (max 16 (4*x.n))) i) (gV (x.t.take i))/\(gA x.t (cS (max 16 (4*x.n))) i).used<=(gA x.t (cS (max 16 (4*x.n))) i).n
 |0,_=>⟨by grind [gA,gV,B3],cW _⟩
 |i+1,hi=>by
  obtain⟨h1,h2⟩:=grow_step h hn i (by omega);have hT:=gU (l:=x.t) (i:=i) (by omega);rw[hT,J4];unfold gA;by_cases hh:(gl x.t i).has=true
  ·rw[if_pos hh];have hcount:(gV (x.t.take i)).length+1<=x.n:=by
    rw[h.n,Er (show i<x.t.length by omega),if_pos hh];simp
   have hlen:(gA x.t (cS (max 16 (4*x.n))) i).t.length=max 16 (4*x.n):=by rw[qa];simp[cS]
   obtain⟨g1,g2,g3,g4,g5,g6⟩:=XX (p:=(gl x.t i).pos) h1 (J7 h (by omega) hh) (h.size i (by omega)) (by grind [h1.n]);refine⟨g1.Et ?_,by omega⟩;rw[B2,if_pos hh];simp only[gV,List.filter_nil,zBI,z6];exact(List.perm_append_singleton _ _).symm
  grind [gV]
theorem adx(h:Inv x)(hn:x.n<10000):∀i,i<x.t.length->(gl x.t i).has=true->2*(gA x.t (cS (max 16 (4*x.n))) i).used<max 16 (4*x.n)/\(gA x.t (cS (max 16 (4*x.n))) i).n<100000 /\
 ((cM (gA x.t (cS (max 16 (4*x.n))) i).t (gl x.t i).key).1<0->0<=(cM (gA x.t (cS (max 16 (4*x.n))) i).t (gl x.t i).key).2):=by
 intro i hi hh;obtain⟨h1,h2⟩:=grow_step h hn i (by omega);have hcount:(gV (x.t.take i)).length+1<=x.n:=by
  rw[h.n,Er hi,if_pos hh];simp
 have:=h1.n;exact⟨by omega,by omega,fun _=>(h1.yw (J7 h hi hh)).2⟩
theorem ady(h:Has x l)(hn:x.n<10000):Has (pH x) l/\2*(pH x).used<(pH x).t.length:=by
 obtain⟨h1,h2⟩:=grow_step h.inv hn x.t.length (cW _);rw[zBd]at h1;refine⟨h1.Et h.perm,?_⟩
 grind [pH,qa,cS,h1.n,h.inv.n]
def roomy(x:dO):dO:=if x.t.length<=2*x.used then pH x else x
def yx(x:dO)(k:ByteArray)(p:Int):dO:=qW (roomy x) k p
theorem FX(h:Has x l)(hn:x.n<10000):Has (roomy x) l/\2*(roomy x).used<(roomy x).t.length:=by
 grind [roomy,ady]
theorem VG{q:Int}(h:Has x ((k,q)::l))(hn:x.n<10000):Has (yx x k p) ((k,p)::l)/\sQ (roomy x) k=q :=
 let h1:=FX h hn
 let h2:=ZT (p:=p) h1.1
 ⟨h2.1,h2.2.1⟩
theorem adz(h:Has x l)(hn:x.n<10000)(hk:k∉l.map Prod.fst)(hs:k.size<=aB):Has (yx x k p) ((k,p)::l)/\sQ (roomy x) k=0 :=
 let h1:=FX h hn
 let h2:=XX (p:=p) h1.1 hk hs h1.2
 ⟨h2.1,h2.2.1⟩
theorem Has.free(h:Has x l)(k:ByteArray)(hf:(cM x.t k).1<0):0<=(cM x.t k).2:=by
 by_cases hk:k∈l.map Prod.fst
 ·obtain⟨⟨k',p⟩,h1,rfl⟩:=kj.1 hk;obtain⟨i,_,_,_,_,e⟩:=h.mem h1
  grind
 ·exact(h.yw hk).2
def Dx(x:dO)(k:ByteArray):Int×Bool:=if 0<=(cM x.t k).1 then((gl x.t (cM x.t k).1.toNat).pos,true)else(0,false)
theorem MY(h:Has x l)(hm:(k,p)∈l):Dx x k=(p,true):=by
 obtain⟨i,_,_,_,h4,e⟩:=h.mem hm
 grind [Dx]
theorem get_none(h:Has x l)(hm:k∉l.map Prod.fst):Dx x k=(0,false):=by
 unfold Dx;rw[(h.yw hm).1];rfl
def Jx:cB where
 α:=qo
 β:=Nat
 m:=2
 m':=3
 pre:=fun a=>Inv a.x/\a.x.n<9999/\a.key.size<=aB
 args:=fun a=>[.a (.ptr 0 0 0 0),.a (.str a.key),.a (.int .i64 a.pos)]
 hp:=fun a=>tS 0 1 a.x.t a.cap a.x.n a.x.used
 res:=fun a _=>.a (.int .i64 (sQ (roomy a.x) a.key))
 eV:=fun a cap=>tS 0 2 (yx a.x a.key a.pos).t cap (yx a.x a.key a.pos).n (yx a.x a.key a.pos).used
def _root_.VH(y:Ix.qo)(z:Ix.dO)(v:Nat):=∃w:Ix.tT,Pu y w z v (∃u:Nat,Pv z w (Ix.roomy y.x) y (Ix.yx y.x y.key y.pos) v u) (∃u:Nat,FQ (Ix.roomy y.x) y z (Ix.yx y.x y.key y.pos) v u (bI z.used=ag (Ix.yx y.x y.key y.pos).used) w) (∃u:Nat,FQ (Ix.roomy y.x) y z (Ix.yx y.x y.key y.pos) v u (cm z.used (Ix.yx y.x y.key y.pos).used) w)
def _root_.FY(y:Ix.qo):=Ix.Inv y.x/\y.x.n<9999/\aT y.key<=aB
theorem Ol:fnBody (Y Tryz.prog) [(168,MR),(167,adu)] 123 Jx fun _=>[]:=fnBody.of (p :=
 ∀y:Ix.qo,FY y->ai (ag y.x.used)->zh ((2:Int)*ag y.x.used) (ag (dh y.x)) (∃z:Ix.Hr,ah (A4 y.x z.x.t y.cap z.cap (cm y.x.n z.x.n) (cm y.x.used z.x.used) (aa Ix.p9 y.x.t) (Px z) (∀u:Nat,True->VH y (Ix.pH z.x) u))) (VH y y.x y.cap)) (by kernel_rfl) (by
 delta aK ai aA cI mR cm ia fB aU bI A4 aP aZ ag dh aT aq Pu FQ bR bF Pv sR dS aC ah cF VH Px Dw bg rI aY ax gm FR xN zh wk FY
 try dsimp -iota -proj only
 intro a h;obtain⟨h1,h2,h3⟩:=h;obtain⟨g1,g2⟩:=FX (Has.mk h1 (List.Perm.refl _)) (show a.x.n<10000 by omega);have k1:=h1.lo;have k2:=h1.hi;have k3:=h1.half;simp only[mA,bZ];refine fun _=>⟨by omega,fun hc=>?_,fun hc=>?_⟩
 ·have hr:roomy a.x=pH a.x:=if_pos (by grind);have hpx:yx a.x a.key a.pos=qW (pH a.x) a.key a.pos:=by unfold yx;rw[hr]
  have hn:(pH a.x).n=a.x.n:=by rw[hr]at g1;rw[g1.n,h1.n]
  have hm:=adx h1 (show a.x.n<10000 by omega);simp only[hr,hpx]at g1 g2 ⊢;refine⟨⟨a.x,a.cap⟩,?_⟩;dsimp only
  and_intros<;>first|exact trivial|rfl|omega|exact af.refl _ _ _|exact h1.size|exact hm|skip
  refine fun cap _=>⟨⟨(pH a.x).t,cap,(pH a.x).n,(pH a.x).used,a.key⟩,?_⟩
  generalize pH a.x=y at *;have m1:=g1.inv.lo;have m2:=g1.inv.hi;have m3:=g1.inv.half;obtain⟨l1,l2⟩:=A3 (t:=y.t) a.key (by omega);have l3:=g1.free a.key;have hl:=tU y a.key a.pos;have yes:0<=(cM y.t a.key).1->qW y a.key a.pos={ y with t:=y.t.set (cM y.t a.key).1.toNat { gl y.t (cM y.t a.key).1.toNat with pos:=a.pos } }:=fun e=>if_pos e;have no:¬0<=(cM y.t a.key).1->qW y a.key a.pos=⟨y.t.set (cM y.t a.key).2.toNat ⟨a.key,a.pos,true,false⟩,y.n+1,if(gl y.t (cM y.t a.key).2.toNat).gone then y.used else y.used+1⟩:=fun e=>if_neg e;dsimp only
  repeat' (first|intro _|apply And.intro|apply Exists.intro (cap:Nat))
  all_goals(try with_reducible rfl)
  all_goals(try simp only[tB,decide_eq_false_iff_not,RM,zBm]at *)
  all_goals(try exact trivial)
  all_goals(try omega)
  all_goals(try(grind [sQ]))
  all_goals(try(with_reducible exact af.refl _ _ _))
  all_goals(first|(rw[yes (by assumption)];refine .set _ (by omega) (fun i hi=>by grind [iY]) ?_;simp only[kK];rfl)|(rw[no (by assumption)];refine .set _ (by omega) (fun i hi=>by grind [iY]) ?_;simp only[kK];rfl))
 ·have hr:roomy a.x=a.x:=if_neg (by grind);have hpx:yx a.x a.key a.pos=qW a.x a.key a.pos:=by unfold yx;rw[hr]
  simp only[hr,hpx]at g1 g2 ⊢;refine⟨⟨a.x.t,a.cap,a.x.n,a.x.used,a.key⟩,?_⟩;have hn:a.x.n=a.x.n:=rfl;obtain⟨cap,hcap⟩:∃cap,cap=a.cap:=⟨_,rfl⟩
  rw[<- hcap];generalize hy:a.x=y at *;have m1:=g1.inv.lo;have m2:=g1.inv.hi;have m3:=g1.inv.half;obtain⟨l1,l2⟩:=A3 (t:=y.t) a.key (by omega);have l3:=g1.free a.key;have hl:=tU y a.key a.pos;have yes:0<=(cM y.t a.key).1->qW y a.key a.pos={ y with t:=y.t.set (cM y.t a.key).1.toNat { gl y.t (cM y.t a.key).1.toNat with pos:=a.pos } }:=fun e=>if_pos e;have no:¬0<=(cM y.t a.key).1->qW y a.key a.pos=⟨y.t.set (cM y.t a.key).2.toNat ⟨a.key,a.pos,true,false⟩,y.n+1,if(gl y.t (cM y.t a.key).2.toNat).gone then y.used else y.used+1⟩:=fun e=>if_neg e;dsimp only
  repeat' (first|intro _|apply And.intro|apply Exists.intro (cap:Nat))
  all_goals(try with_reducible rfl)
  all_goals(try simp only[tB,decide_eq_false_iff_not,RM,zBm]at *)
  all_goals(try exact trivial)
  all_goals(try omega)
  all_goals(try(grind [sQ]))
  all_goals(try(with_reducible exact af.refl _ _ _))
  all_goals(first|(rw[yes (by assumption)];refine .set _ (by omega) (fun i hi=>by grind [iY]) ?_;simp only[kK];rfl)|(rw[no (by assumption)];refine .set _ (by omega) (fun i hi=>by grind [iY]) ?_;simp only[kK];rfl)))
structure wQ where
 x:dO
 cap:Nat
 key:ByteArray
def Jy:cB where
 α:=wQ
 m:=2
 m':=2
 pre:=fun a=>Inv a.x/\a.key.size<=aB
 args:=fun a=>[.a (.ptr 0 0 0 0),.a (.str a.key)]
 ro:=fun a=>tS 0 1 a.x.t a.cap a.x.n a.x.used
 res:=fun a _=>.nR [.a (.int .i64 (Dx a.x a.key).1),.a (.bool (Dx a.x a.key).2)]
theorem On:fnBody (Y Tryz.prog) [(168,MR)] 212 Jy fun _=>[]:=fnBody.of (p :=
 ∀y:Ix.wQ,Ix.Inv y.x/\aT y.key<=aB->∃z:Ix.tT,Dw y.key z y.x y.cap (aI (Ix.cM z.t z.key).fst 0 (Exists (aD ((0:Int)=(Ix.Dx y.x y.key).fst/\bA (false=(Ix.Dx y.x y.key).snd)))) (mR (Ix.cM z.t z.key).fst (dh y.x) (ai (gl y.x.t (xN z)).pos->Exists (aD ((gl y.x.t (xN z)).pos=(Ix.Dx y.x y.key).fst/\bA (true=(Ix.Dx y.x y.key).snd))))))) (by kernel_rfl) (by
 delta aK ai aA aN mR cm aU A4 aP aZ ag dh aT aq dS aC ah aI aD Dw ax bA xN wk
 try dsimp -iota -proj only
 intro a h;obtain⟨h1,h2⟩:=h;have k1:=h1.lo;have k2:=h1.hi;obtain⟨l1,l2⟩:=A3 (t:=a.x.t) a.key (by omega);refine⟨⟨a.x.t,a.cap,a.x.n,a.x.used,a.key⟩,?_⟩;simp only[mA,bZ]
 repeat' (first|intro _|apply And.intro|apply Exists.intro ())
 all_goals(try with_reducible rfl)
 all_goals(try simp only[tB,decide_eq_false_iff_not]at *)
 all_goals(try exact trivial)
 all_goals(try omega)
 all_goals(try(with_reducible exact af.refl _ _ _))
 all_goals grind [Dx])
def XY:cB where
 α:=wQ
 m:=2
 m':=2
 pre:=fun a=>Inv a.x/\a.x.n<10000/\a.key.size<=aB/\(0<=(cM a.x.t a.key).1->1<=a.x.n)
 args:=fun a=>[.a (.ptr 0 0 0 0),.a (.str a.key)]
 hp:=fun a=>tS 0 1 a.x.t a.cap a.x.n a.x.used
 res:=fun a _=>.a (.bool (decide (0<=(cM a.x.t a.key).1)))
 eV:=fun a _=>tS 0 1 (ob a.x a.key).t a.cap (ob a.x a.key).n (ob a.x a.key).used
def _root_.FZ(y:Ix.wQ):=Ix.Inv y.x/\y.x.n<10000/\aT y.key<=aB/\((0:Int)<=(Ix.cM y.x.t y.key).fst->1<=y.x.n)
def _root_.Pz(x:Ix.dO)(z:Int)(v:Prop)(y:Ix.dO)(u:Nat)(w:Nat->Nat->Value):=qx (ag x.n) z (Exists (aD (v/\A4 x y.t u u (ag x.n-z=ag y.n) (cm x.used y.used) w True True)))
theorem adA:fnBody (Y Tryz.prog) [(168,MR)] 180 XY fun _=>[]:=fnBody.of (p :=
 ∀y:Ix.wQ,FZ y->∃z:Ix.tT,Dw y.key z y.x y.cap (aI (Ix.cM z.t z.key).fst 0 (Exists (aD (false=bF 0 (Ix.cM y.x.t y.key).fst/\A4 y.x (Ix.ob y.x y.key).t y.cap y.cap (cm y.x.n (Ix.ob y.x y.key).n) (cm y.x.used (Ix.ob y.x y.key).used) (aa Ix.p9 y.x.t) True True))) (mR (Ix.cM z.t z.key).fst (dh y.x) (Pz y.x 1 (true=bF 0 (Ix.cM y.x.t y.key).fst) (Ix.ob y.x y.key) y.cap (mO (aa Ix.p9 y.x.t) (xN z) 0 (A5 true)))))) (by kernel_rfl) (by
 delta aK ai aA cI aN mR cm ia fB aU A4 dx aP aZ ag dh aT aq bR bF dS aC ah cF aI aD Dw qx rI ax FZ Pz xN wk A5
 try dsimp -iota -proj only
 intro a h;obtain⟨h1,h2,h3,h4⟩:=h;have k1:=h1.lo;have k2:=h1.hi;obtain⟨l1,l2⟩:=A3 (t:=a.x.t) a.key (by omega);have yes:0<=(cM a.x.t a.key).1->ob a.x a.key=⟨a.x.t.set (cM a.x.t a.key).1.toNat CB,a.x.n-1,a.x.used⟩:=fun e=>if_pos e;have no:¬0<=(cM a.x.t a.key).1->ob a.x a.key=a.x:=fun e=>if_neg e;refine⟨⟨a.x.t,a.cap,a.x.n,a.x.used,a.key⟩,?_⟩;simp only[mA,bZ]
 repeat' (first|intro _|apply And.intro|apply Exists.intro ())
 all_goals(try with_reducible rfl)
 all_goals(try simp only[tB,decide_eq_false_iff_not]at *)
 all_goals(try exact trivial)
 all_goals(try omega)
 all_goals(try(with_reducible exact af.refl _ _ _))
 all_goals(try(grind))
 all_goals(first|(rw[yes (by omega)];refine .set _ (by omega) (fun i hi=>by grind [iY]) ?_;simp only[kK];rfl)|grind [af.refl]|skip))
structure VJ where
 x:dO
 cap:Nat
 pos:Int
def VK:cB where
 α:=VJ
 m:=2
 m':=2
 pre:=fun a=>Inv a.x/\a.x.n<10000/\fu a.x.t a.pos a.x.t.length<=a.x.n
 args:=fun a=>[.a (.ptr 0 0 0 0),.a (.int .i64 a.pos)]
 hp:=fun a=>tS 0 1 a.x.t a.cap a.x.n a.x.used
 res:=fun a _=>.a (.int .i64 (fu a.x.t a.pos a.x.t.length))
 eV:=fun a _=>tS 0 1 (A7 a.x a.pos).t a.cap (A7 a.x a.pos).n (A7 a.x a.pos).used
def ajt(a:VJ):An:=.flat 5 Nat (fun s i=>((s.at_ (s.uZ (s.tg 0) 0) (.arr 251 ksP a.x.t.length (aa p9 (gZ a.x.t a.pos i)))).int 15 i).int 5 (fu a.x.t a.pos i))
 (fun _ i=>i<=a.x.t.length) (fun _ i=>a.x.t.length-i)
def _root_.tV(y:Bool)(z:Int)(u:Bool)(v x:Prop):=aK y (ai z->aK u v x) x
def _root_.PA(y:Ix.VJ)(z:Nat->Nat->Value)(u:Nat)(v:Prop):=dU (dh y.x) y.cap (lB (az y.pos/\aQ (dh y.x) y.cap/\cR (ag y.x.n) (ag y.x.used) (aA (dh y.x) (dh y.x) 4 z (aa Ix.p9 (Ix.gZ y.x.t y.pos u))) v))
def _root_.PB(y:Ix.VJ):=Ix.Inv y.x/\y.x.n<10000/\Ix.fu y.x.t y.pos (dh y.x)<=y.x.n
theorem ZW:fnBody (Y Tryz.prog) [] 163 VK fun a=>[(163,[ajt a],[])]:=fnBody.of (p :=
 ∀y:Ix.VJ,PB y->(∃z:Nat,aS (Ix.fu y.x.t y.pos z) (aS z (PA y (aa Ix.p9 y.x.t) z (bE z (dh y.x)))))/\∀z:Nat,fS z (dh y.x) (tV (Ix.bX.has (nJ (Ix.gZ y.x.t y.pos z) z)) (Ix.bX.pos (nJ (Ix.gZ y.x.t y.pos z) z)) (aN (Ix.bX.pos (nJ (Ix.gZ y.x.t y.pos z) z)) y.pos) (fO z (dh y.x) (aY (Ix.fu y.x.t y.pos z) (aY z (∃u:Nat,bw (Ix.fu y.x.t y.pos z) (Ix.fu y.x.t y.pos u) (bw z u (PA y (mO (aa Ix.p9 (Ix.gZ y.x.t y.pos z)) (0+aG z) 0 (A5 true)) u (bL u (dh y.x) z))))))) (aY z (∃u:Nat,cm (Ix.fu y.x.t y.pos z) (Ix.fu y.x.t y.pos u)/\bw z u (PA y (aa Ix.p9 (Ix.gZ y.x.t y.pos z)) u (bL u (dh y.x) z))))) (Pz y.x (ag (Ix.fu y.x.t y.pos z)) (cm (Ix.fu y.x.t y.pos z) (Ix.fu y.x.t y.pos (dh y.x))) (Ix.A7 y.x y.pos) y.cap (aa Ix.p9 (Ix.gZ y.x.t y.pos z)))) (by kernel_rfl) (by
 delta aK cR aQ aO ai aA az cI aG aN cm ia fB bK aU tV gI bI A4 dx aZ ag bD dh bL aq dU bR dS aJ aC ah aS cF fS aI aD PA bf fO qx rI aY ax Pz bS lB A5 bw bM nJ PB bE
 try dsimp -iota -proj only
 intro a h;obtain⟨h1,h2,h3⟩:=h;have k1:=h1.lo;have k2:=h1.hi;simp only[mA,bZ];have hlen:=l9 a.x.t a.pos;refine⟨⟨0,?_⟩,fun i hi=>?_⟩
 ·and_intros<;>(first|exact trivial|rfl|omega|assumption|exact af.refl _ _ _|(simp only[bZ];omega)|(simp;done)|(simp;omega)|grind)
 ·have hat:=FW a.x.t a.pos i hi i;rw[if_neg (by simp)]at hat;have sy:low a.pos (gl a.x.t i)=true->gZ a.x.t a.pos (i+1)=(gZ a.x.t a.pos i).set i CB:=fun e=>if_pos e;have sn:¬low a.pos (gl a.x.t i)=true->gZ a.x.t a.pos (i+1)=gZ a.x.t a.pos i:=fun e=>if_neg e;have ny:low a.pos (gl a.x.t i)=true->fu a.x.t a.pos (i+1)=fu a.x.t a.pos i+1:=fun e=>by show _+(if _ then 1 else 0)=_;rw[if_pos e]
  have nn:¬low a.pos (gl a.x.t i)=true->fu a.x.t a.pos (i+1)=fu a.x.t a.pos i:=fun e=>by show _+(if _ then 1 else 0)=_;grind
  have hn:∀i,fu a.x.t a.pos i<=i:=by
   intro i
   induction i with
   |zero=>exact cW _
   |succ i ih=>show _+(if _ then 1 else 0)<=_;grind
  have hn1:=hn i;have hfin:¬i<a.x.t.length->A7 a.x a.pos=⟨gZ a.x.t a.pos i,a.x.n-fu a.x.t a.pos i,a.x.used⟩/\fu a.x.t a.pos a.x.t.length=fu a.x.t a.pos i:=fun e=>by
   have:i=a.x.t.length:=by omega
   rw[this];exact⟨rfl,rfl⟩
  have ll:∀q:bX,low a.pos q=true↔q.has=true/\q.pos<a.pos:=fun q=>by simp[low]
  simp only[Ay,hat]at *;clear hlen
  repeat' (first|intro _|apply And.intro|apply Exists.intro (i+1:Nat)|apply Exists.intro ())
  all_goals(try with_reducible rfl)
  all_goals(try simp only[tB,decide_eq_false_iff_not,l9]at *)
  all_goals(try exact trivial)
  all_goals(try omega)
  all_goals(try(with_reducible exact af.refl _ _ _))
  all_goals first
   |(rw[ny ((ll _).2 ⟨by assumption,by assumption⟩)];done)
   |(rw[ny ((ll _).2 ⟨by assumption,by assumption⟩)];rfl)
   |rfl
   |(rw[nn (fun e=>by grind)];done)
   |(rw[sy ((ll _).2 ⟨by assumption,by assumption⟩)];refine .set _ (by rw[l9];omega) (fun i hi=>by grind [iY]) ?_;simp only[kK];rfl)
   |(rw[sn (fun e=>by grind)];exact af.refl _ _ _)
   |(rw[(hfin (by omega)).2];done)
   |grind [af.refl,l9])
theorem Ik:av (Y Tryz.prog).G.X 123 Jx:=bp gf Ol ⟨Ep,adw,trivial⟩
theorem Il:av (Y Tryz.prog).G.X 212 Jy:=bp gf On ⟨Ep,trivial⟩
theorem SU:av (Y Tryz.prog).G.X 180 XY:=bp gf adA ⟨Ep,trivial⟩
theorem ZX:av (Y Tryz.prog).G.X 163 VK:=bp gf ZW trivial
end Go.Proofs.YtfjgoonelcaggaaGreat.Ix
namespace Go.Proofs.YtfjgoonelcaggaaGreat
open Go.Sx
@[reducible] def Cf(a b:Ix.dO)(v w:Nat)(p:Prop):Prop:=(0=0/\a.t.length=b.t.length/\v=w)/\(↑a.n:Int)=(↑b.n:Int)/\(↑a.used:Int)=(↑b.used:Int)/\(b.t.length<=a.t.length/\af b.t.length 4 (aa Ix.p9 a.t) (aa Ix.p9 b.t))/\p
def gQ:aW:=⟨.empty,.empty,0,false⟩
def bl:Option aW->List Int
 |none=>[2]
 |some x=>1::eF x
theorem wm(m:Nat)(n:Int)(h:2*n.toNat<128^(m+1)):(vi n).length<=m+1:=Ft 9 m _ h
theorem MZ{x:aW}(h:jJ x=true):(eF x).length<=x.key.size+x.val.size+10/\1<=(eF x).length:=by
 obtain⟨k1,k2,k3,k4⟩:=wZ h;have a1:=wm 0 (x.key.size:Nat) (by simp;omega);have a2:=wm 1 (x.val.size:Nat) (by simp;omega);have a3:=wm 5 x.e (by simp;omega);have a4:(vi (if x.gone then 1 else 0)).length<=1:=by split<;>exact wm 0 _ (by decide)
 have a5:=(nG (x.key.size:Nat)).1
 grind [eF,iB,lp,mW]
theorem qz{o:Option aW}(h:∀x,o=some x->jJ x=true):1<=(bl o).length/\(bl o).length<=251:=by
 cases o with
 |none=>simp[bl]
 |some x =>
  grind [MZ,wZ,bl]
structure F0 where
 o:Option aW
 cap:Nat
def A8:cB where
 α:=F0
 m:=1
 m':=1
 pre:=fun a=>(∀x,a.o=some x->jJ x=true)/\(bl a.o).length<=a.cap
 args:=fun a=>[.a (.slc 0 0 1 (bl a.o).length a.cap)]
 ro:=fun a=>mH 0 (bl a.o)
 res:=fun a _=>.nR [.agg (JB (a.o.getD gQ)),.a (.bool a.o.isSome)]
def nK(x:Option aW):aW:=x.getD gQ
def J8(y:ByteArray)(x:Option aW)(z:ByteArray)(u:Int)(v w:Bool):Unit->Prop:=aD (y=aW.key (nK x)/\z=aW.val (nK x)/\u=aW.e (nK x)/\v=aW.gone (nK x)/\bA (w=x.isSome))
def F5(x:aW)(y:Option aW)(z:Bool):Unit->Prop:=J8 x.key y x.val x.e x.gone z
def xO(x:Option aW):=Exists (J8 dx x dx 0 false false)
def F6(x:Option aW)(z:Nat):=(∀y:aW,x=some y->aq (jJ y))/\aj (bl x)<=z
def zw(x:Prop):=aZ 0 1/\0<1/\x
theorem M0:fnBody (Y Tryz.prog) [(210,agK)] 179 A8 fun _=>[]:=fnBody.of (p :=
 ∀y:F0,F6 y.o y.cap->aI (ag (aj (bl y.o))) 1 (xO y.o) (dS 0 (aj (bl y.o)) 0 (lz (gl (bl y.o) 0)->aK (gl (bl y.o) 0 != (1:Int)) (xO y.o) (fm 1 (aj (bl y.o))/\∃z:OG,(1=z.r/\aj (bl y.o)-1=aj (eF z.x)/\y.cap-1=z.cap)/\dr z.l (bl y.o) dA/\OJ z/\∀u:Nat,True->aK false (xO y.o) (zw (Exists (F5 (gl [z.x] 0) y.o true))))))) (by kernel_rfl) (by
 delta aK aj aA aN aU dr fm dx aZ ag J8 aq dS zc aI aD cO F5 xO bA lz nK F6 zw OJ dc
 try dsimp -iota -proj only
 rintro⟨o,cap⟩ ⟨h1,h2⟩;dsimp only at *;have hl:=qz h1;cases o with
 |none =>
  have e0:gl (bl none) 0=2:=rfl;refine⟨fun c=>by grind,fun _=>?_⟩
  repeat(first|refine And.intro (by omega) ?_|refine And.intro (by omega) ?_|refine And.intro (by omega) ?_)
  rw[e0];exact fun _=>⟨fun _=>⟨(),by and_intros<;>first|trivial|rfl⟩,fun c=>absurd c (by decide)⟩
 |some x =>
  have e0:gl (bl (some x)) 0=1:=rfl;have e1:(bl (some x)).length=(eF x).length+1:=by simp[bl]
  have hm:=h1 x rfl;have e2:∀i,i<(eF x).length->gl (bl (some x)) (1+i)=gl (eF x) i:=fun i _=>by
   show gl (([1]:List Int)++eF x) (([1]:List Int).length+i)=_;rw[bt]
  refine⟨fun c=>by grind,fun _=>?_⟩
  repeat(first|refine And.intro (by omega) ?_|refine And.intro (by omega) ?_|refine And.intro (by omega) ?_)
  rw[e0];refine fun _=>⟨fun c=>absurd c (by decide),fun _=>?_⟩
  repeat(first|refine And.intro (by omega) ?_|refine And.intro (by omega) ?_|refine And.intro (by omega) ?_)
  refine⟨OG.mk (bl (some x)) 1 (cap-1) x,?_⟩
  (repeat' (first|apply And.intro|(intro _)|apply Exists.intro ()))<;>first|exact kG|exact hm|exact e2 _ (by assumption)|rfl|(exfalso;simp at *;done)|skip)
theorem ZY:av (Y Tryz.prog).G.X 179 A8:=bp gf M0 ⟨XJ,trivial⟩
def Ip(a:F0):Sl1:=⟨5,[.int .u8],(bl a.o).length,a.cap,aa dA (bl a.o)⟩
def XZ:cB:=A8.agU Ip
theorem adB:gN (Y Tryz.prog).G.X A8 179:=Oh gf (fun _=>Ii gf (mB:=[(210,agK)]) ⟨XJ,trivial⟩) M0.body
theorem VL:av (Y Tryz.prog).G.X 179 XZ:=fun _ _ _ h=>y6 (SM adB ⟨rfl,fun _=>rfl,fun _=>rfl,fun _=>rfl,fun _ _=>rfl,fun _ _ p hp=>(by cases hp)⟩) h
structure r9 where
 L:cn
 d:bH
 l:List (ByteArray×Int)
structure yH where
 H:PH
 y:jD
 x:Ix.dO
 cap:Nat
def Md(c lg dv ds ix it pl:Nat)(m:r9)(p:yH):List (Nat×Chunk) :=
 [(c,.obj 205 [.ptr lg 0 0 0,.ptr ix 0 0 0]),(lg,js dv m.L p.y.lv)]++gW dv ds m.d++Ix.tS ix it p.x.t p.cap p.x.n p.x.used++[(pl,.dg p.H)]
structure mK(m:r9)(p:yH):Prop where
 log:cV p.H p.y m.L
 idx:Ix.Has p.x m.l
def Av(p p':yH):Prop:=∀z,p.H z≠none->z∉cC p.y->p'.H z=p.H z/\z∉cC p'.y
structure Aw(m:r9)(n:Nat):Prop where
 log:AT m.L m.d
 wN:m.l.length<9000
def dK(L:cn):Int:=mE L.l L.next
def kT(m:r9)(body:List Int):r9:=⟨p7 m.L body,sN m.L m.d body,m.l.filter fun e=>decide (dK (p7 m.L body)<=e.2)⟩
theorem adC{L:cn}{d:bH}(ok:AT L d){body:List Int}(h:body.length<=300):(p7 L body).l.length<=801:=by
 have:=(SG (n:=body.length) ok h).wN;show((dX L body.length).l.set _ _).length<=801
 grind
theorem Iq{x:Ix.dO}{l:List (ByteArray×Int)}(h:Ix.Has x l):x.n=l.length:=h.n
structure J9 where
 m:r9
 p:yH
 body:List Int
 cap:Nat
def adD:cB where
 α:=J9
 β:=yH
 m:=8
 m':=9
 pre:=fun a=>mK a.m a.p/\Aw a.m a.body.length/\1<=a.body.length/\a.body.length<=300
 args:=fun a=>[.a (.ptr 0 0 0 0),.a (.slc 7 0 1 a.body.length a.cap)]
 hp:=fun a=>Md 0 1 2 3 4 5 6 a.m a.p
 ro:=fun a=>mH 7 a.body
 post:=fun a b=>mK (kT a.m a.body) b/\Av a.p b
 res:=fun a _=>.nR [.a (.int .i64 a.m.L.next),.a (.lit .i64 0)]
 eV:=fun a b=>Md 0 1 2 3 4 5 8 (kT a.m a.body) b
def oJ(v:cn)(u:r9)(w:jD)(z:yH)(s:bH)(t:Ix.dO)(f:Nat)(g h:Prop):=aM (cK v u.L w z.y (iZ s u.d (Cf t z.x f z.cap (g/\h))))
def F7(z:cn)(u:jD)(v:PH)(w:Mb->Prop):Mb->Prop:=fun(x:Mb)=>aM (Fv z x.L u.lv x.y.lv (v=x.H/\(cV x.H x.y x.L/\bY x.L<1000)/\aP (w x)))
theorem ah2:fnBody (Y Tryz.prog) [(162,Im),(164,JR),(163,Ix.VK)] 121 adD fun _=>[]:=fnBody.of (p :=
 ∀z:J9,mK z.m z.p/\Aw z.m (aj z.body)/\iR z.body 300->∃u:zj,ah (cN z.body u.body z.cap u.cap/\cK z.m.L u.L z.p.y u.y (iZ z.m.d u.d (z.p.H=u.H/\dr u.body z.body dA/\FE u/\∀w:qV,Dn w u->Exists (F7 (p7 u.L u.body) w.y w.H fun t=>∃v:Ix.VJ,ah (mE t.L.l t.L.next=v.pos/\Cf z.p.x v.x z.p.cap v.cap (PB v/\aP (∃s:yH,u.L.next=z.m.L.next/\aJ (w.H=s.H/\oJ (p7 u.L u.body) (kT z.m z.body) w.y s (sN u.L u.d u.body) (Ix.A7 v.x v.pos) v.cap (mK (kT z.m z.body) s/\Av z.p s) True))))))))) (by kernel_rfl) (by
 delta aj aA az aM dr aP bY dh cK oJ aJ ah Dj iR ax vT cN F7 FE Dn dc PB
 try dsimp -iota -proj only
 rintro⟨⟨L,d,l⟩,⟨H,y,x,xc⟩,body,cap⟩ ⟨hat,hok,hb1,hb2⟩;obtain⟨hl,hx⟩:=hat;dsimp only at *;have hlen:(p7 L body).l.length<=801:=adC hok.log hb2;have hn:=Iq hx;have hfew:=hok.wN;dsimp only at hfew;obtain⟨q1,q3,q2⟩:=Ix.ZV hx (dK (p7 L body));refine⟨zj.mk H y L d body cap,?_⟩
 and_intros<;>first|exact kG|exact hl|exact hok.log|skip
 rintro⟨H1,y1⟩ ⟨p1,p2⟩;dsimp only at p1 p2 ⊢;refine⟨Mb.mk H1 y1 (p7 L body),?_⟩
 and_intros<;>first|exact kG|exact p1|(dsimp only;omega)|skip
 intro _ _;refine⟨Ix.VJ.mk x xc (dK (p7 L body)),?_⟩;dsimp only
 and_intros<;>first|exact kG|exact hx.inv|rfl|(rw[hn];exact q2)|(rw[hn];omega)|skip
 intro _ _;refine⟨⟨H1,y1,Ix.A7 x (dK (p7 L body)),xc⟩,?_⟩
 and_intros<;>first|exact kG|exact⟨p1,q1⟩|exact p1|exact q1|exact p2|rfl|exact af.refl _ _ _|exact cW _|skip)
theorem PC:av (Y Tryz.prog).G.X 121 adD:=bp gf ah2 ⟨JP,FI,Ix.ZX,trivial⟩
def qR(l:List (ByteArray×Int))(k:ByteArray):List (ByteArray×Int):=l.filter fun e=>decide (e.1≠k)
def PD(l:List (ByteArray×Int))(k:ByteArray)(p:Int):List (ByteArray×Int):=(k,p)::qR l k
variable{k:ByteArray}{l:List (ByteArray×Int)}{x:Ix.dO}
theorem M3(h:Ix.Has x l):(l.map Prod.fst).Nodup:=by
 refine((h.perm.map Prod.fst).nodup_iff).1 ?_;unfold Ix.gV;rw[T4];show List.Pairwise (·≠·) _;rw[RN,List.pairwise_filter,List.pairwise_iff_getElem];intro i j hi hj hij hp hq e;have:=h.inv.HW i j hi hj (by grind [b8]) (by grind [b8]) (by rw[b8 hi,b8 hj];exact e);omega
theorem Ka(h:k∉l.map Prod.fst):qR l k=l:=by
 unfold qR;rw[List.filter_eq_self]
 grind
theorem F8:∀ {l:List (ByteArray×Int)} {k:ByteArray} {q:Int},(l.map Prod.fst).Nodup->(k,q)∈l->l.Perm ((k,q)::qR l k)
 |[],_,_,_,h=>by cases h
 |a::l,k,q,hn,h=>by
  rw[LS,zBT]at hn;by_cases e:a.1=k
  ·have hk:k∉l.map Prod.fst:=by rw[<- e];exact hn.1
   have ha:a=(k,q):=by
    rcases uf.1 h with h|h
    ·exact h.symm
    ·grind
   have:qR (a::l) k=l:=by
    unfold qR;rw[List.filter_cons,if_neg (by simp[e])];exact Ka hk
   rw[this,ha]
  ·have hm:(k,q)∈l:=by
    rcases uf.1 h with h|h
    ·grind
    ·exact h
   have:qR (a::l) k=a::qR l k:=by
    unfold qR;rw[List.filter_cons,if_pos (by simpa using e)]
   rw[this];exact(List.Perm.cons a (F8 hn.2 hm)).trans (List.Perm.swap _ _ _)
theorem X7{p:Int}(h:Ix.Has x l)(hn:l.length<9999)(hk:k.size<=aB):Ix.Has (Ix.yx x k p) (PD l k p):=by
 have hx:=h.n;by_cases hm:k∈l.map Prod.fst
 ·obtain⟨⟨k',q⟩,h1,h2⟩:=kj.1 hm;dsimp only at h2;subst h2;exact(Ix.VG (h.Et (F8 (M3 h) h1)) (by omega)).1
 grind [Ix.adz,PD,Ka]
theorem SX(h:Ix.Has x l):Ix.Has (Ix.ob x k) (qR l k)/\(0<=(Ix.cM x.t k).1->1<=x.n):=by
 have hx:=h.n;by_cases hm:k∈l.map Prod.fst
 ·obtain⟨⟨k',q⟩,h1,h2⟩:=kj.1 hm;dsimp only at h2;subst h2;refine⟨(Ix.J6 (h.Et (F8 (M3 h) h1))).1,fun _=>?_⟩
  grind
 ·rw[Ka hm];obtain⟨e1,e2⟩:=h.yw hm
  grind [Ix.ZU]
theorem SY(l:List (ByteArray×Int))(k:ByteArray)(p:Int):(PD l k p).length<=l.length+1:=by
 grind [PD,qR]
theorem ZZ(l:List (ByteArray×Int))(k:ByteArray):(qR l k).length<=l.length:=T1 _ _
def oc(x:aW):Bool:=jJ x&&!x.gone
def rK(m:r9)(x:aW):r9:=if oc x then { kT m (bl (some x))with l:=PD (kT m (bl (some x))).l x.key m.L.next }else m
structure SZ where
 m:r9
 p:yH
 x:aW
def adE:cB where
 α:=SZ
 β:=yH
 m:=7
 m':=9
 pre:=fun a=>mK a.m a.p/\(oc a.x=true->Aw a.m (bl (some a.x)).length)
 args:=fun a=>[.a (.ptr 0 0 0 0),.agg (JB a.x)]
 hp:=fun a=>Md 0 1 2 3 4 5 6 a.m a.p
 post:=fun a b=>mK (rK a.m a.x) b/\Av a.p b
 res:=fun a b=>.a (.int .i64 (if oc a.x then 0 else 1))
 eV:=fun a b=>Md 0 1 2 3 4 7 8 (rK a.m a.x) b
def Kb(w t:Nat)(s:r9)(u:yH)(f:Nat->Nat->Value)(g:J9->yH->Prop):J9->Prop:=fun(z:J9)=>ah (ax w (aj z.body) t z.cap/\oJ s.L z.m u.y z.p s.d u.x u.cap (u.H=z.p.H) (dc z.body w f dA/\(mK z.m z.p/\Aw z.m (aj z.body)/\iR z.body 300)/\∀v:yH,mK (kT z.m z.body) v/\Av z.p v->g z v))
def PE(y z:ByteArray)(u:Int)(v:Bool)(w:r9)(s:yH)(t:J9->yH->Prop):=∃x:Ma,iQ 1 x.xs.length 1 x.cap 4 (aV 4 (ia (bR y) (bR z) (cI u (bW (cF v))))) (aa pe x.xs) (Da x) (∀i:Nat,True->1<=1/\qu (gh x.xs)/\gq 1 (aj (gh x.xs)) 1 1 fun f=>Exists (Kb (1+aj (gh x.xs)) f w s (bq (aV 1 (kq 1)) 0 1 (vY dA (gh x.xs))) fun g h=>t g h))
def lC(x:Bool):Int:=if x=true then(0:Int)else(1:Int)
def Ke(w:Int)(s:Bool)(z:yH)(t v:r9)(f:bH)(g:yH):yH->Prop:=fun(u:yH)=>w=lC s/\z.H=u.H/\oJ t.L v z.y u f z.x z.cap (mK v u/\Av g u) True
def PF(y:SZ):=mK y.m y.p/\(aq (oc y.x)->Aw y.m (aj (bl (some y.x))))
theorem adF:fnBody (Y Tryz.prog) [(96,C6),(122,acz),(121,adD),(123,Ix.Jx)] 73 adE fun _=>[]:=fnBody.of (p :=
 ∀z:SZ,PF z->∃t:aW,uB z.x t (cZ (jo (bg (jJ t)) (Exists (Ke 1 (oc z.x) z.p z.m (rK z.m z.x) z.m.d z.p)) z.x.gone (PE z.x.key z.x.val z.x.e z.x.gone z.m z.p fun v w=>∃u:Ix.qo,ah (z.x.key=u.key/\v.m.L.next=u.pos/\Cf w.x u.x w.cap u.cap (FY u/\∀f:Nat,True->∃s:yH,(0:Int)=lC (oc z.x)/\w.H=s.H/\oJ (kT v.m v.body).L (rK z.m z.x) w.y s (kT v.m v.body).d (Ix.yx u.x u.key u.pos) f (mK (rK z.m z.x) s/\Av z.p s) True)))))) (by kernel_rfl) (by
 delta aK aj aA cI gq aM ia fB p5 aU aP jo aT aq cK bR iQ PE oJ uB bW ah cF lC kq bg iR Da ax Kb Ke cZ qu vY eu FY PF dc
 try dsimp -iota -proj only
 rintro⟨⟨L,d,l⟩,⟨H,y,x,xc⟩,it⟩ ⟨hat,hok⟩;dsimp only at *;have same:oc it=false->rK ⟨L,d,l⟩ it=⟨L,d,l⟩:=fun e=>if_neg (by rw[e];decide);refine⟨it,rfl,rfl,rfl,rfl,trivial,fun _ _=>⟨fun c1=>⟨⟨H,y,x,xc⟩,?_⟩,fun c1=>⟨fun c2=>⟨⟨H,y,x,xc⟩,?_⟩,fun c2=>?_⟩⟩⟩
 ·have hn:oc it=false:=by simp only[oc];rw[show jJ it=false by simpa using c1];rfl
  rw[same hn,hn]
  and_intros<;>first|exact kG|rfl|exact af.refl _ _ _|exact cW _|exact hat|exact hat.log|exact hat.idx|exact fun z _ hn=>⟨rfl,hn⟩
 ·have hn:oc it=false:=by simp only[oc];rw[c2];simp
  rw[same hn,hn]
  and_intros<;>first|exact kG|rfl|exact af.refl _ _ _|exact cW _|exact hat|exact hat.log|exact hat.idx|exact fun z _ hn=>⟨rfl,hn⟩
 ·have hm:jJ it=true:=by simpa using c1
  have hy:oc it=true:=by simp only[oc];rw[c2,hm];rfl
  have hok:=hok hy;have hF:rK ⟨L,d,l⟩ it={ kT ⟨L,d,l⟩ (bl (some it))with l:=PD (kT ⟨L,d,l⟩ (bl (some it))).l it.key L.next }:=if_pos hy;rw[hF,hy];obtain⟨hb1,hb2⟩:=qz (o:=some it) (fun x e=>by grind);have hI:gh [it]=eF it:=by simp[gh]
  have hB:(bl (some it)).length=1+(eF it).length:=by simp only[bl,List.length_cons];omega
  have hr1:af 1 4 (aV 4 [Value.string it.key,Value.string it.val,Value.int .i64 it.e,Value.bool it.gone]) (aa pe [it]):=.fN fun i hi=>by
   have:i=0:=by omega
   subst this;rfl
  have hm1:∀i,i < [it].length->jJ (gl [it] i)=true:=fun i hi=>by
   have:i=0:=by simp at hi;omega
   subst this;exact hm
  refine⟨Ma.mk [it] 1,?_⟩
  and_intros<;>first|exact kG|exact hr1|exact hm1|exact cW _|decide|skip
  intro c _;rw[hI]
  repeat(first|refine And.intro (by omega) ?_|refine And.intro (by omega) ?_|refine And.intro (by omega) ?_)
  intro cap q1 q2 q3;refine⟨J9.mk ⟨L,d,l⟩ ⟨H,y,x,xc⟩ (bl (some it)) cap,?_⟩;have hr2:af (bl (some it)).length 1 (bq (aV 1 [Value.int .u8 1]) 0 1 fun(i j:Nat)=>aa dA (eF it) (0+i) j) (aa dA (bl (some it))):=⟨fun i hi j hj=>by
   have hj0:j=0:=by omega
   subst hj0;simp only[bq,mA];by_cases h0:i<1
   ·have:i=0:=by omega
    subst this;rfl
   ·rw[if_neg h0];obtain⟨q,rfl⟩:∃q,i=q+1:=⟨i-1,by omega⟩
    simp only[aa,bl,Nat.add_sub_cancel];congr 2⟩
  and_intros<;>first|exact kG|rfl|exact af.refl _ _ _|exact cW _|exact hr2|exact hat|exact hat.log|exact hat.idx|exact hok.log|exact hok.wN|(dsimp only;omega)|skip
  rintro⟨H1,y1,x1,xc1⟩ ⟨⟨g1,g2⟩,hfr⟩;dsimp only at g1 g2 hfr ⊢;refine⟨Ix.qo.mk x1 xc1 it.key L.next,?_⟩;have hn:=Iq g2;have hln:(kT ⟨L,d,l⟩ (bl (some it))).l.length<=l.length:=T1 _ _;have hfew:=hok.wN;dsimp only at hfew;have hks:it.key.size<=aB:=by have:=wZ hm;simp only[aB];omega
  and_intros<;>first|exact kG|rfl|exact af.refl _ _ _|exact cW _|exact g2.inv|exact hks|(dsimp only;omega)|skip
  intro c2' _;refine⟨⟨H1,y1,Ix.yx x1 it.key L.next,c2'⟩,?_⟩;have hp:=X7 (p:=L.next) g2 (by omega) hks
  and_intros<;>first|exact kG|rfl|exact af.refl _ _ _|exact cW _|exact g1|exact hp|exact hfr|exact⟨g1,hp⟩)
theorem adG:av (Y Tryz.prog).G.X 73 adE:=bp gf adF ⟨pn,OC,PC,Ix.Ik,trivial⟩
def Kf(m:r9)(key:ByteArray):Option aW->Prop
 |some x=>∃p,(key,p)∈m.l/\jR m.L.l p=some (bl (some x))/\jJ x=true
 |none=>key∉m.l.map Prod.fst\/∃p,(key,p)∈m.l/\(jR m.L.l p=none\/jR m.L.l p=some (bl none))
structure Z0(m:r9):Prop where
 wN:m.L.l.length<1000
 seg:∀i,i<m.L.l.length->rG (gl m.L.l i).bn/\(gl m.L.l i).bn.length<=400/\∀k,k<(gl m.L.l i).bn.length->1<=(gl (gl m.L.l i).bn k).body.length/\(gl (gl m.L.l i).bn k).body.length<=1000
 pos:∀e∈m.l,0<=e.2/\e.2<1000000000000
structure X8 where
 m:r9
 p:yH
 key:ByteArray
 r:Option aW
def adH:cB where
 α:=X8
 m:=7
 m':=7
 pre:=fun a=>mK a.m a.p/\Z0 a.m/\Kf a.m a.key a.r/\a.key.size<=aB
 args:=fun a=>[.a (.ptr 0 0 0 0),.a (.str a.key)]
 ro:=fun a=>Md 0 1 2 3 4 5 6 a.m a.p
 res:=fun a _=>.nR [.agg (JB (a.r.getD gQ)),.a (.bool a.r.isSome)]
def Dy(x:r9)(z:yH)(y:ByteArray)(u:Option aW):=mK x z/\Z0 x/\Kf x y u/\aT y<=aB
theorem adI:fnBody (Y Tryz.prog) [(212,Ix.Jy),(213,Ve),(179,A8)] 184 adH fun _=>[]:=fnBody.of (p :=
 ∀z:X8,Dy z.m z.p z.key z.r->∃u:Ix.wQ,ah (z.key=u.key/\Cf z.p.x u.x z.p.cap u.cap ((Ix.Inv u.x/\aT u.key<=aB)/\aP (aK (bg (Ix.Dx u.x u.key).snd) (xO z.r) (∃v:SJ,ah ((Ix.Dx u.x u.key).fst=v.p/\cK z.m.L v.L z.p.y v.y (z.p.H=v.H/\OY v/\∀s:Nat,aj (zm v)<=s->aK (Hl (jR v.L.l v.p) != (0:Int)) (xO z.r) (∃w:F0,mX (zm v) (bl w.o) s w.cap dA (F6 w.o w.cap) (aP (Exists (F5 (nK w.o) z.r w.o.isSome))))))))))) (by kernel_rfl) (by
 delta aK aj aA aU dr dx aP bY aT J8 aq cK Dr mX ah aD zm F5 bg iR ax xO bA cN OY nK Dy F6 uF dc oH
 try dsimp -iota -proj only
 rintro⟨⟨L,d,l⟩,⟨H,y,x,xc⟩,key,r⟩ ⟨⟨hl,hx⟩,hrd,hr,hks⟩;dsimp only at *;refine⟨Ix.wQ.mk x xc key,?_⟩
 and_intros<;>first|exact kG|rfl|exact af.refl _ _ _|exact cW _|exact hx.inv|exact hks|skip
 intro _ _;dsimp only;have hcase:(r=none/\Ix.Dx x key=(0,false))\/∃p,(key,p)∈l/\Ix.Dx x key=(p,true)/\((r=none/\(jR L.l p=none\/jR L.l p=some (bl none)))\/∃it,r=some it/\jR L.l p=some (bl (some it))/\jJ it=true):=by
  cases r with
  |none =>
   rcases hr with hr | ⟨p,h1,h2⟩
   ·grind [Ix.get_none]
   grind [Ix.MY]
  |some it =>
   obtain⟨p,h1,h2,h3⟩:=hr
   grind [Ix.MY]
 rcases hcase with⟨rfl,hg⟩ | ⟨p,hm,hg,hc⟩
 ·rw[hg];refine⟨fun _=>⟨(),?_⟩,fun c=>absurd c (by decide)⟩
  and_intros<;>first|exact kG|rfl|exact af.refl _ _ _|exact cW _
 ·rw[hg];refine⟨fun c=>absurd c (show ¬((!true)=true)by decide),fun _=>⟨SJ.mk H y L p,?_⟩⟩;obtain⟨hp1,hp2⟩:=hrd.pos _ hm
  and_intros<;>first|exact kG|rfl|exact af.refl _ _ _|exact cW _|exact hl|exact hrd.wN|exact hp1|exact hp2|exact hrd.seg|skip
  intro c hcap;dsimp only at hcap ⊢;rcases hc with⟨rfl,hn|hn⟩ | ⟨it,rfl,hn,hmay⟩
  ·rw[hn];refine⟨fun _=>⟨(),?_⟩,fun c=>absurd c (by decide)⟩
   and_intros<;>first|exact kG|rfl|exact af.refl _ _ _|exact cW _
  ·rw[hn]at hcap ⊢;refine⟨fun c=>absurd c (by decide),fun _=>⟨F0.mk none c,?_⟩⟩
   grind [af.refl]
  ·rw[hn]at hcap ⊢;refine⟨fun c=>absurd c (show ¬((Hl (some (bl (some it))) != 0)=true)by simp[Hl]),fun _=>⟨F0.mk (some it) c,?_⟩⟩
   grind [af.refl])
theorem adJ:av (Y Tryz.prog).G.X 184 adH:=bp gf adI ⟨Ix.Il,Zz,ZY,trivial⟩
def sS(r:Option aW)(now:Int):Option aW:=r.bind fun x=>if Ct x now then some x else none
structure Kg where
 m:r9
 p:yH
 key:ByteArray
 now:Int
 r:Option aW
def adK:cB where
 α:=Kg
 m:=7
 m':=7
 pre:=fun a=>mK a.m a.p/\Z0 a.m/\Kf a.m a.key a.r/\a.key.size<=aB
 args:=fun a=>[.a (.ptr 0 0 0 0),.a (.str a.key),.a (.int .i64 a.now)]
 ro:=fun a=>Md 0 1 2 3 4 5 6 a.m a.p
 res:=fun a _=>.nR [.agg (JB ((sS a.r a.now).getD gQ)),.a (.bool (sS a.r a.now).isSome)]
theorem adL:fnBody (Y Tryz.prog) [(184,adH),(185,acu)] 136 adK fun _=>[]:=fnBody.of (p :=
 ∀z:Kg,Dy z.m z.p z.key z.r->∃u:X8,ah (z.key=u.key/\oJ z.m.L u.m z.p.y u.p z.m.d z.p.x z.p.cap (z.p.H=u.p.H) (Dy u.m u.p u.key u.r/\aP (aK (bg u.r.isSome) (xO (sS z.r z.now)) (∃v:XG,uB (nK u.r) v.x (z.now=v.now/\cZ (aK (bg (Ct v.x v.now)) (xO (sS z.r z.now)) (Exists (F5 (nK u.r) (sS z.r z.now) true))))))))) (by kernel_rfl) (by
 delta aK aM aU dx aP aT J8 aq cK oJ uB ah aD F5 bg xO bA nK cZ Dy
 rintro⟨⟨L,d,l⟩,⟨H,y,x,xc⟩,key,now,r⟩ ⟨hat,hrd,hr,hks⟩;dsimp only at *;refine⟨X8.mk ⟨L,d,l⟩ ⟨H,y,x,xc⟩ key r,?_⟩
 and_intros<;>first|exact kG|rfl|exact af.refl _ _ _|exact cW _|exact hat|exact hrd|exact hr|exact hks|skip
 intro _ _;dsimp only;cases r with
 |none =>
  refine⟨fun _=>⟨(),?_⟩,fun c=>absurd c (by decide)⟩
  and_intros<;>first|exact kG|rfl|exact af.refl _ _ _|exact cW _
 |some it =>
  refine⟨fun c=>absurd c (show ¬((!true)=true)by decide),fun _=>⟨XG.mk it now,rfl,rfl,rfl,rfl,rfl,trivial,fun _ _=>⟨fun c=>⟨(),?_⟩,fun c=>⟨(),?_⟩⟩⟩⟩
  ·have:sS (some it) now=none:=by
    have:Ct it now=false:=by simpa using c
    simp[sS,this]
   rw[this]
   and_intros<;>first|exact kG|rfl|exact af.refl _ _ _|exact cW _
  ·have:sS (some it) now=some it:=by
    have:Ct it now=true:=by simpa using c
    simp[sS,this]
   rw[this]
   and_intros<;>first|exact kG|rfl|exact af.refl _ _ _|exact cW _)
theorem adM:av (Y Tryz.prog).G.X 136 adK:=bp gf adL ⟨adJ,acA,trivial⟩
def S.fl(s:S)(c:Nat)(m:r9)(p:yH):S :=
 (fun(s3:S)=>(s3.put (s3.hp.del (SF s3))).new (.dg p.H))
 ((fun(s1:S)=>((s1.put (s1.hp.del (s.uZ (s.uZ c 1) 0))).new (.arr 251 Ix.ksP p.x.t.length (aa Ix.p9 p.x.t))).at_ (s.uZ c 1) (.obj 247 [.slc s.nx 0 4 p.x.t.length p.cap,.int .i64 p.x.n,.int .i64 p.x.used]))
  (((s.at_ (s.uZ c 0) (js (s.uZ (s.uZ c 0) 0) m.L p.y.lv)).at_ (s.uZ (s.uZ c 0) 0) (.obj 116 [.slc (s.uZ (s.uZ (s.uZ c 0) 0) 0) 0 129 m.d.n m.d.n,.int .i64 m.d.calls])).at_ (s.uZ (s.uZ (s.uZ c 0) 0) 0) (.arr 158 Hf m.d.n (eZ m.d))))
def lT(k:ByteArray):aW:=⟨k,.mk #[],0,true⟩
theorem F9(h:dB k=true):jJ (lT k)=true:=by
 simp only[jJ,lT];rw[h];rfl
def sw(m:r9)(k:ByteArray):r9:={ kT m (bl (some (lT k)))with l:=qR (kT m (bl (some (lT k)))).l k }
def je(m:r9)(ks:List ByteArray):Nat->r9
 |0=>m
 |i+1=>sw (je m ks i) (gl ks i)
def iG(ks:List ByteArray):Bool:=ks.all dB
def PG(m:r9):r9:={ m with d:=jq m.d }
def oK(m:r9)(ks:List ByteArray):r9:=if iG ks then PG (je m ks ks.length)else m
structure wo where
 m:r9
 p:yH
 ks:List ByteArray
 cap:Nat
def PI:cB where
 α:=wo
 β:=yH
 m:=8
 m':=10
 pre:=fun a=>mK a.m a.p/\a.ks.length<1000/\(iG a.ks=true->(∀i,i<a.ks.length->Aw (je a.m a.ks i) (bl (some (lT (gl a.ks i)))).length)/\(je a.m a.ks a.ks.length).d.n<100000/\(je a.m a.ks a.ks.length).d.calls<1000000000000)
 args:=fun a=>[.a (.ptr 0 0 0 0),.a (.slc 7 0 1 a.ks.length a.cap)]
 hp:=fun a=>Md 0 1 2 3 4 5 6 a.m a.p
 ro:=fun a=>[(7,.arr 9 [.str] a.ks.length (aa ic a.ks))]
 post:=fun a b=>mK (oK a.m a.ks) b/\Av a.p b
 res:=fun a b=>.a (.int .i64 (if iG a.ks then 0 else 1))
 eV:=fun a b=>Md 0 1 2 3 4 8 9 (oK a.m a.ks) b
structure Ga where
 i:Nat
 p:yH
def ah3(a:wo):An:=.flat 4 Nat (fun s i=>s.int 15 i) (fun _ i=>i<=a.ks.length/\∀j,j<i->dB (gl a.ks j)=true) (fun _ i=>a.ks.length-i)
def ah4(a:wo):An:=.flat 10 Ga (fun s x=>(S.fl s (s.tg 0) (je a.m a.ks x.i) x.p).int 25 x.i) (fun _ x=>x.i<=a.ks.length/\iG a.ks=true/\mK (je a.m a.ks x.i) x.p/\Av a.p x.p) (fun _ x=>a.ks.length-x.i)
def ah5(a:wo):An:=.mk 9 Unit (fun s _=>s) (fun _ _=>iG a.ks=true) (fun _ _=>0) fun _=>.mk 1000 [ah4 a] []
def adN:List (Nat×cB):=[(86,UQ),(122,acz),(121,adD),(180,Ix.XY),(169,nC)]
def mZ(y x:Nat)(z u v:Prop):=y<=x/\z->gI y x 0 x u v
def PJ(z:wo)(u:Prop):=lB (aQ (aF z.ks) z.cap/\oJ z.m.L z.m z.p.y z.p z.m.d z.p.x z.p.cap (z.p.H=z.p.H) (eO z.ks/\u))
def xP(y:Nat)(z:List ByteArray):=∀x:Nat,x<y->aq (dB (gl z x))
def PK(x:wo):=mK x.m x.p/\aF x.ks<1000/\(aq (iG x.ks)->(∀y:Nat,y<aF x.ks->Aw (je x.m x.ks y) (aj (bl (some (lT (gl x.ks y))))))/\nE (je x.m x.ks (aF x.ks)).d)
def VM(z:wo)(v:yH)(u:Ga)(w:r9)(s:Ix.dO)(t:Nat)(f:Prop):=dU (aF z.ks) z.cap (lB (aQ (aF z.ks) z.cap/\v.H=u.p.H/\aM (cK w.L (je z.m z.ks u.i).L v.y u.p.y (iZ w.d (je z.m z.ks u.i).d (Pw s (dh u.p.x) t u.p.cap u.p.x (eO z.ks) f)))))
def PL(x:wo)(y:Ga):=aq (iG x.ks)/\mK (je x.m x.ks y.i) y.p/\Av x.p y.p
def Gb(y:List ByteArray)(z:Nat)(u v:Nat->Prop)(w s:Prop):=((∃x:Nat,aS x (dU (aF y) z (u x)))/\∀x:Nat,mZ x (aF y) (xP x y) (v x) (Exists (aD w)))/\∀x:Unit,aq (iG y)->s
theorem Z1:fnBody (Y Tryz.prog) adN 135 PI fun a=>[(135,[ah3 a],[ah5 a])]:=fnBody.of (p :=
 ∀y:wo,PK y->Gb y.ks y.cap (fun z=>PJ y ((z<=aF y.ks/\xP z y.ks)/\True)) (fun z=>∃u:ByteArray,iC y.ks z=u/\cZ (aK (bg (dB u)) (Exists (Ke 1 (iG y.ks) y.p y.m (oK y.m y.ks) y.m.d y.p)) (bQ z fun w=>dU (aF y.ks) y.cap (PJ y (dG w (aF y.ks) (xP w y.ks) z))))) (PJ y (aq (iG y.ks)/\True)) ((∃z:Ga,aS z.i (VM y y.p z y.m y.p.x y.p.cap ((z.i<=aF y.ks/\PL y z)/\True)))/\∀z:Ga,mZ z.i (aF y.ks) (PL y z) (PE (iC y.ks z.i) dx 0 true (je y.m y.ks z.i) z.p fun u w=>∃v:Ix.wQ,ah (iC y.ks z.i=v.key/\Cf w.x v.x w.cap v.cap (FZ v/\aP (aY z.i (∃s:Ga,bw z.i s.i (VM y w s (kT u.m u.body) (Ix.ob v.x v.key) v.cap (dG s.i (aF y.ks) (PL y s) z.i))))))) (oE (je y.m y.ks z.i).d fun u=>Exists (Ke 0 (iG y.ks) z.p (je y.m y.ks z.i) (oK y.m y.ks) (jq u) y.p)))) (by kernel_rfl) (by
 delta cE aK aQ aO aj ai aA az cI aG gq aM aN aF cm ia fB bK p5 aU gI bI dx aP aZ ag bD dh aT eO dG aq dU bQ cK bR iQ PE oJ aJ aC nE bW ah aS cF aI Pw aD lC mZ bf kq bg PJ iR xP aY Da ax PK FZ VM Kb oE Ke bS lB cZ qu iC vY PL FT Gb eu bw bM dc
 try dsimp -iota -proj only
 rintro⟨⟨L,d,l⟩,⟨H,y,x,xc⟩,ks,kc⟩ ⟨hat,hk1,hok⟩;dsimp only at *;obtain⟨m0,hm0⟩:∃m0:r9,m0=⟨L,d,l⟩:=⟨_,rfl⟩
 have hno:iG ks=false->oK ⟨L,d,l⟩ ks=⟨L,d,l⟩:=fun e=>if_neg (by rw[e];decide);have hyes:iG ks=true->oK m0 ks=PG (je m0 ks ks.length):=fun e=>if_pos e;refine⟨⟨⟨0,?_⟩,fun i hi=>?_⟩,fun _ hall=>⟨⟨⟨0,⟨H,y,x,xc⟩⟩,?_⟩,fun z hz=>?_⟩⟩
 ·grind [af.refl]
 ·obtain⟨hi,hkb⟩:=hi;simp only[mA,Ay];refine⟨fun c1=>?_,fun c1=>⟨(),?_⟩⟩
  ·have hi':i<ks.length:=by have:=qi c1;omega
   refine⟨by omega,by omega,gl ks i,rfl,trivial,fun _ _=>⟨fun c2=>⟨⟨H,y,x,xc⟩,?_⟩,fun c2=>⟨by simp only[bZ];omega,i+1,?_⟩⟩⟩
   ·have hn:iG ks=false:=by
     have c2:dB (gl ks i)=false:=by simpa using c2
     rw[zBz];intro h;have:=RO.1 h (gl ks i) (by grind [b8]);rw[c2]at this;cases this
    rw[hno hn,hn]
    and_intros<;>first|exact kG|rfl|exact af.refl _ _ _|exact cW _|exact hat|exact fun z _ hn=>⟨rfl,hn⟩
   grind [af.refl]
  ·have hi':i=ks.length:=by have:=ug c1;omega
   grind [iG,List.getElem_of_mem,b8,af.refl]
 ·and_intros<;>first|exact kG|rfl|exact af.refl _ _ _|exact cW _|exact hat|exact hall|exact fun z _ hn=>⟨rfl,hn⟩
 ·obtain⟨i,⟨H1,y1,x1,xc1⟩⟩:=z;obtain⟨hi,_,hat1,hfr1⟩:=hz;dsimp only at hi hat1 hfr1 ⊢;obtain⟨hok1,hok2,hok3⟩:=hok hall;rw[<- hm0]at hok1 hok2 hok3 hat1 ⊢;have hstep:je m0 ks (i+1)=sw (je m0 ks i) (gl ks i):=rfl;simp only[mA,Ay];refine⟨fun c1=>?_,fun c1=>?_⟩
  ·have hi':i<ks.length:=by have:=qi c1;omega
   have hok1:=hok1 i hi';have hkey:dB (gl ks i)=true:=RO.1 hall (gl ks i) (by grind [b8]);obtain⟨it,hit⟩:∃it,it=lT (gl ks i):=⟨_,rfl⟩
   have hm:jJ it=true:=by rw[hit];exact F9 hkey
   obtain⟨M,hM⟩:∃M,M=je m0 ks i:=⟨_,rfl⟩
   rw[<- hM]at hok1 hat1 hstep ⊢;rw[<- hit]at hok1;have hdF:sw M (gl ks i)={ kT M (bl (some it))with l:=qR (kT M (bl (some it))).l (gl ks i) }:=by rw[hit];rfl
   obtain⟨hb1,hb2⟩:=qz (o:=some it) (fun x e=>by grind);have hI:gh [it]=eF it:=by simp[gh]
   have hB:(bl (some it)).length=1+(eF it).length:=by simp only[bl,List.length_cons];omega
   have hr1:af 1 4 (aV 4 [Value.string (gl ks i),Value.string (ByteArray.mk #[]),Value.int .i64 0,Value.bool true]) (aa pe [it]):=.fN fun i hi=>by
    have:i=0:=by omega
    subst this;rw[hit];rfl
   have hm1:∀i,i < [it].length->jJ (gl [it] i)=true:=fun i hi=>by
    have:i=0:=by simp at hi;omega
    subst this;exact hm
   refine⟨by omega,by omega,Ma.mk [it] 1,?_⟩
   and_intros<;>first|exact kG|exact hr1|exact hm1|exact cW _|decide|skip
   intro c _;rw[hI]
   repeat(first|refine And.intro (by omega) ?_|refine And.intro (by omega) ?_|refine And.intro (by omega) ?_)
   intro cap q1 q2 q3;refine⟨J9.mk M ⟨H1,y1,x1,xc1⟩ (bl (some it)) cap,?_⟩;have hr2:af (bl (some it)).length 1 (bq (aV 1 [Value.int .u8 1]) 0 1 fun(i j:Nat)=>aa dA (eF it) (0+i) j) (aa dA (bl (some it))):=⟨fun i hi j hj=>by
    have hj0:j=0:=by omega
    subst hj0;simp only[bq,mA];by_cases h0:i<1
    ·have:i=0:=by omega
     subst this;rfl
    ·rw[if_neg h0];obtain⟨q,rfl⟩:∃q,i=q+1:=⟨i-1,by omega⟩
     simp only[aa,bl,Nat.add_sub_cancel];congr 2⟩
   simp only[mA]at hr2
   and_intros<;>first|exact kG|rfl|exact af.refl _ _ _|exact cW _|exact hr2|exact hat1|exact hat1.log|exact hat1.idx|exact hok1|exact hok1.log|exact hok1.wN|(dsimp only;omega)|skip
   rintro⟨H2,y2,x2,xc2⟩ ⟨⟨g1,g2⟩,hfr⟩;dsimp only at g1 g2 hfr ⊢;refine⟨Ix.wQ.mk x2 xc2 (gl ks i),?_⟩;have hn:=Iq g2;have hln:(kT M (bl (some it))).l.length<=M.l.length:=T1 _ _;have hfew:=hok1.wN;have hks:(gl ks i).size<=aB:=by
    have h40:(gl ks i).size<=40:=by have:=(wZ hm).1;rw[hit]at this;exact this
    simp only[aB];omega
   obtain⟨hd1,hd2⟩:=SX (k:=gl ks i) g2
   and_intros<;>first|exact kG|rfl|exact af.refl _ _ _|exact cW _|exact g2.inv|exact hks|exact hd2|(dsimp only;omega)|skip
   intro _ _;have hat2:mK (sw M (gl ks i)) ⟨H2,y2,Ix.ob x2 (gl ks i),xc2⟩:=by rw[hdF];exact⟨g1,hd1⟩
   have hfr2:Av ⟨H,y,x,xc⟩ ⟨H2,y2,Ix.ob x2 (gl ks i),xc2⟩:=fun z hz hn=>by
    obtain⟨a1,a2⟩:=hfr1 z hz hn;obtain⟨b1,b2⟩:=hfr z (by grind) a2
    grind
   refine⟨by simp only[bZ];omega,⟨i+1,⟨H2,y2,Ix.ob x2 (gl ks i),xc2⟩⟩,?_⟩
   grind [af.refl]
  ·have hi':i=ks.length:=by have:=ug c1;omega
   subst hi';have hat2:mK (PG (je m0 ks ks.length)) ⟨H1,y1,x1,xc1⟩:=⟨hat1.log,hat1.idx⟩
   refine⟨(je m0 ks ks.length).d,?_⟩;rw[hyes hall,hall]
   and_intros<;>first|exact kG|rfl|exact af.refl _ _ _|exact cW _|exact hok2|exact hok3|skip
   intro _ _;refine⟨⟨H1,y1,x1,xc1⟩,?_⟩
   and_intros<;>first|exact kG|rfl|exact af.refl _ _ _|exact cW _|exact hat2|exact hfr1)
theorem Z2:av (Y Tryz.prog).G.X 135 PI:=bp gf Z1 ⟨Ej,OC,PC,Ix.SU,lR,trivial⟩
theorem adO{n:Nat}:af n 4 (fun(x j:Nat)=>[Go.Value.string { data:=#[] },Go.Value.int Go.IntKind.i64 0,Go.Value.bool Bool.false,Go.Value.bool Bool.false].getD j (Go.Value.tuple #[])) (aa Ix.p9 (Ix.cS n).t):=by
 refine .fN fun i hi=>?_;unfold aa;rw[show gl (Ix.cS n).t i=⟨.empty,0,false,false⟩from Ix.zv hi];rfl
theorem Z3:af 16 4 (fun(x j:Nat)=>[Go.Value.string { data:=#[] },Go.Value.int Go.IntKind.i64 0,Go.Value.bool Bool.false,Go.Value.bool Bool.false].getD j (Go.Value.tuple #[])) (aa Ix.p9 (Ix.cS 16).t):=adO
def X9:cB where
 α:=Unit
 m:=0
 m':=2
 args:=fun _=>[]
 res:=fun _ _=>.a (.ptr 0 0 0 0)
 eV:=fun _ _=>Ix.tS 0 1 (Ix.cS 16).t 16 (Ix.cS 16).n (Ix.cS 16).used
theorem adP:fnBody (Y Tryz.prog) [] 178 X9 fun _=>[]:=fnBody.of (p :=
 aP (qp 16 512 (Exists (aD (ah (aQ 16 16/\cR 0 0 (aA 16 16 4 (qq (A5 false)) (aa Ix.p9 (Ix.cS 16).t)) (True/\True))))))) (by kernel_rfl) (by
 delta cR aQ aL aA cI ia fB bK dx aP bR ah qp cF aD rI qq A5
 try dsimp -iota -proj only
 intro _ _;refine⟨by omega,by omega,by omega,(),?_⟩
 grind [Z3])
theorem S0:av (Y Tryz.prog).G.X 178 X9:=bp gf adP trivial
def xk(l:List (ByteArray×Int))(o:Option aW)(pos:Int):List (ByteArray×Int):=match o with
 |none=>[]
 |some x=>if x.gone then qR l x.key else PD l x.key pos
def oL(es:List (Option aW))(rs:List RecM):Nat->List (ByteArray×Int)
 |0=>[]
 |i+1=>xk (oL es rs i) (gl es i) (gl rs i).pos
theorem Gc(es:List (Option aW))(rs:List RecM):∀i,(oL es rs i).length<=i
 |0=>cW _
 |i+1=>by
  have:=Gc es rs i;show(xk _ _ _).length<=_;unfold xk
  grind [ZZ,SY]
theorem PM{l:List cQ}{i k:Nat}(hi:i<l.length)(hk:k<(gl l i).bn.length):∃j,j<(fV l).length/\gl (fV l) j=gl (gl l i).bn k:=by
 have hm:gl (gl l i).bn k∈fV l:=zBD.2 ⟨gl l i,by grind [b8],by grind [b8]⟩;obtain⟨j,hj,e⟩:=List.getElem_of_mem hm;exact⟨j,hj,by grind [b8]⟩
structure sU where
 H:PH
 d:bH
 from_:Nat
 au:Nat
 es:List (Option aW)
def HX(a:sU):r9:=⟨cH a.from_ a.au a.d,a.d,oL a.es (fV (cH a.from_ a.au a.d).l) a.es.length⟩
structure aju(es:List (Option aW))(rs:List RecM):Prop where
 len:es.length=rs.length
 wN:es.length<9000
 at_:∀i,i<es.length->(gl rs i).body=bl (gl es i)/\∀x,gl es i=some x->jJ x=true
def zx:cB where
 α:=sU
 β:=yH
 m:=3
 m':=8
 pre:=fun a=>rH a.from_ a.au a.d/\aju a.es (fV (cH a.from_ a.au a.d).l)/\∀i,i<(cH a.from_ a.au a.d).l.length->(gl (cH a.from_ a.au a.d).l i).bn.length<=400
 args:=fun a=>[.a (.ptr 0 0 0 0),.a (.int .i64 a.from_),.a (.int .i64 a.au)]
 hp:=fun a=>[(2,.dg a.H)]
 ro:=fun a=>gW 0 1 a.d
 post:=fun a b=>mK (HX a) b/\∀z,a.H z≠none->b.H z=a.H z/\z∉cC b.y
 res:=fun a b=>.nR [.a (.ptr 3 0 0 0),.a (.lit .i64 0)]
 eV:=fun a b=>[(3,.obj 205 [.ptr 4 0 0 0,.ptr 5 0 0 0]),(4,js 0 (HX a).L b.y.lv)]++Ix.tS 5 6 b.x.t b.cap b.x.n b.x.used++[(7,.dg b.H)]
structure wq where
 i:Nat
 x:Ix.dO
 cap:Nat
def S.ix(s:S)(c:Nat)(x:Ix.dO)(cap:Nat):S :=
 (((s.put ((s.hp.del (s.uZ (s.uZ c 1) 0)).del (s.uZ c 1))).new (.arr 251 Ix.ksP x.t.length (aa Ix.p9 x.t))).new (.obj 247 [.slc s.nx 0 4 x.t.length cap,.int .i64 x.n,.int .i64 x.used])).at_ c (.obj 205 [.ptr (s.uZ c 0) 0 0 0,.ptr (s.nx+1) 0 0 0])
def ajv(a:sU):An:=.flat 6 wq (fun s z=>(S.ix s (s.tg 10) z.x z.cap).int 32 z.i) (fun _ z=>z.i<=a.es.length/\Ix.Has z.x (oL a.es (fV (cH a.from_ a.au a.d).l) z.i)) (fun _ z=>a.es.length-z.i)
def adQ:List (Nat×cB):=[(175,Pn),(178,X9),(176,XV),(179,XZ),(180,Ix.XY),(123,Ix.Jx)]
def PN(z:CA)(x:sU)(u:Pm)(w:qV)(s:Prop):=mY z.v (ah (lB (aJ (ah (cR (ag x.from_) (ag x.au) (z.H=z.H) (aM (nI (cH u.from_ u.au u.d) w.y (iZ x.d x.d s))))))))
def Kh(z:wq)(y:sU):=Ix.Has z.x (oL y.es (fV (cH y.from_ y.au y.d).l) z.i)
def Ya(u:CA)(z:sU)(v:Pm)(w:qV)(s:Ix.dO)(y:wq)(t:Nat)(f:wq):=PN u z v w (Cf s y.x t y.cap (dG y.i z.es.length (Kh y z) f.i))
def VN(v:V1 A8.α)(y:wq)(w:CA)(s:sU)(t:Pm)(f:qV)(g:List Value)(h:Nat):=rV v.a.o.isSome (aW.gone (nK v.a.o)) (∃u:Ix.wQ,ah (aW.key (nK v.a.o)=u.key/\Cf y.x u.x y.cap u.cap (FZ u/\aP (aY y.i (∃z:wq,bw y.i z.i (Ya w s t f (Ix.ob u.x u.key) z u.cap y)))))) (aK v.a.o.isSome (ai (dR (aL g h))->∃z:Ix.qo,ah (aW.key (nK v.a.o)=z.key/\dR (aL g h)=z.pos/\Cf y.x z.x y.cap z.cap (FY z/\∀k:Nat,True->aY y.i (∃j:wq,bw y.i j.i (Ya w s t f (Ix.yx z.x z.key z.pos) j k y))))) (aY y.i (∃u:wq,bw y.i u.i (Ya w s t f y.x u y.cap y))))
def Gd(x y:Nat)(z:bH)(v:Prop):=rH x y z/\v/\∀u:Nat,u<bY (cH x y z)->uF (cH x y z) u<=400
def Ki(x:Ix.dO)(y:Nat)(z:Prop):=ax 16 (dh x) 16 y/\aS x.n (aS x.used (aA (dh x) 16 4 (aa Ix.p9 (Ix.cS 16).t) (aa Ix.p9 x.t)/\z))
def PO(w:qV)(z:Pm)(s:CA->Prop):Ag->Prop:=fun(x:Ag)=>ah (w.H=x.H/\cK (cH z.from_ z.au z.d) x.L w.y x.y (JY x/\∀u:CA,JX u x->Exists (fF u.v)/\s u))
theorem Z4:fnBody (Y Tryz.prog) adQ 130 zx fun a=>[(130,[ajv a],[])]:=fnBody.of (p :=
 ∀z:sU,Gd z.from_ z.au z.d (aju z.es (fV (cH z.from_ z.au z.d).l))->∃u:Pm,ah (cm z.from_ u.from_/\cm z.au u.au/\z.H=u.H/\iZ z.d u.d (rH u.from_ u.au u.d/\∀h:qV,Dv h u->Exists (aD (cZ (Exists (PO h u fun g=>(∃w:wq,aS w.i (PN g z u h (Ki w.x w.cap ((w.i<=z.es.length/\Kh w z)/\True))))/\∀w:wq,w.i<=z.es.length/\Kh w z->AW w.i g.v (fun s=>g.H s) (fun s f=>∃t:V1 A8.α,aL f (s+1)=t.v/\g.H=t.H/\(F6 t.a.o t.a.cap/\oo t.H t.v l8 (Ip t.a).n (Ip t.a).cap (Ip t.a).rows)/\∀r:A8.β,True->Exists (fF (aL f (s+1)))/\aK (ag (eC (aL f (s+1))) == (1:Int)) (ku (aL f (s+1)) 0 fun p q=>pG p q 0 (fun j=>g.H j) (fun j=>∃k:Int,j=jm k/\lz k) (fun j k=>True) fun j k=>lz (dR (aL k j))->aK (dR (aL k j) == (2:Int)) (Exists (aD (cZ (aY w.i (∃m:wq,bw w.i m.i (PN g z u h (Ki m.x m.cap (dG m.i z.es.length (Kh m z) w.i)))))))) (VN t w g z u h f s)) (VN t w g z u h f s)) (∃s:yH,ah (aJ (aM (cK (cH u.from_ u.au u.d) (HX z).L h.y s.y (Cf w.x s.x w.cap s.cap (g.H=s.H/\(mK (HX z) s/\∀f:Nat,zq (z.H f) (s.H f) s.y f)/\True))))))))))))) (by kernel_rfl) (by
 delta rV aK cR aL aO aj ai aA az aG aM aN cm fB pG gu aU bI aP aZ Ya bY ag bD dh fF aT dG aq ku cK jm Dr VN aJ aC AW ah l8 aS Dv aI aD PN Gd bf JX iR Ki aY ax mY FZ zq lz bS Kh JY nK lB cZ F6 nI uF mJ FY bw bM FF PO oH
 try dsimp -iota -proj only
 rintro⟨H,d,fr,sg,es⟩ ⟨ok,hes,hsl⟩;dsimp only at *;obtain⟨L,hL⟩:∃L,L=cH fr sg d:=⟨_,rfl⟩
 have hone:L.l.length<=200:=by rw[hL];have h1:(cH fr sg d).l.length<=sg:=Io fr sg d sg;have h2:=ok.wN;omega
 have hopn:HX ⟨H,d,fr,sg,es⟩=⟨L,d,oL es (fV L.l) es.length⟩:=by rw[hL];rfl
 rw[hopn];rw[<- hL]at hes hsl;refine⟨Pm.mk H d fr sg,?_⟩;dsimp only;rw[<- hL]
 and_intros<;>first|exact kG|rfl|exact af.refl _ _ _|exact cW _|exact ok|skip
 rintro⟨H1,y1⟩ ⟨hl1,hf1⟩;dsimp only at hl1 hf1 ⊢;refine⟨(),trivial,fun _ _=>⟨Ag.mk H1 y1 L,?_⟩⟩;have hrec:∀i,i<L.l.length->(gl L.l i).bn.length<=400/\∀k,k<(gl L.l i).bn.length->1<=(gl (gl L.l i).bn k).body.length/\(gl (gl L.l i).bn k).body.length<=1000:=fun i hi=>⟨hsl i hi,fun k hk=>by
  obtain⟨j,hj,e⟩:=PM hi hk;obtain⟨e1,e2⟩:=hes.at_ j (by grind [hes.len])
  grind [qz]⟩
 and_intros<;>first|exact kG|rfl|exact af.refl _ _ _|exact cW _|exact hl1|exact hrec|(dsimp only;omega)|skip
 rintro⟨H2,v,vs⟩ ⟨hout,hf2⟩;dsimp only at hout hf2 ⊢;obtain⟨cr,hrows⟩:=hout.rows;obtain⟨s1,s2,s3,s4,s5,⟨sa,s6⟩,s7⟩:=iD hrows;have hlen:=hes.len;have hfew:=hes.wN;have hlog:cV H2 y1 L:=hl1.frame fun z hz=>(hf2 z (hl1.dom z hz)).1;have hfin:∀z,H z≠none->H2 z=H z/\¬z∈cC y1:=fun z hz=>by
  grind
 refine⟨⟨sa,_,_,s6,by omega⟩,⟨⟨0,Ix.cS 16,16⟩,?_⟩,fun q hq=>?_⟩
 ·grind [Ix.cS,oL,Ix.B3,af.refl]
 ·obtain⟨i,x,xc⟩:=q;obtain⟨hi,hx⟩:=hq;dsimp only at hi hx ⊢;have hxl:(oL es (fV L.l) i).length<=i:=Gc es (fV L.l) i;have hn:=Iq hx;have hstep:oL es (fV L.l) (i+1)=xk (oL es (fV L.l) i) (gl es i) (gl (fV L.l) i).pos:=rfl;rw[s1];refine⟨fun c1=>?_,fun c1=>⟨⟨H2,y1,x,xc⟩,?_⟩⟩
  ·have hi':i<es.length:=by have:=qi c1;omega
   obtain⟨b',lo',o',cs',q1,q2,q3,q4,q5,q6,q7,q8⟩:=AV hrows (k:=i) (by omega);obtain⟨cb,hbody⟩:=hout.body i (by omega);obtain⟨e1,e2⟩:=hes.at_ i hi';rw[e1]at hbody;obtain⟨w1,w2,w3,w4,w5,⟨wa,w7⟩,w6⟩:=iD hbody;obtain⟨hb1,hb2⟩:=qz e2;refine⟨_,_,_,_,q1,by omega,b',lo',o'+i*2,cs',by grind,q2,⟨⟨_,q3,_,rfl,q6⟩,⟨_,q4,q5⟩,trivial⟩,?_⟩;rw[q7,q8];refine⟨⟨⟨gl es i,cb⟩,H2,vs.getD i undef⟩,rfl,rfl,⟨⟨e2,w3⟩,hbody⟩,fun _ _=>⟨⟨wa,_,_,w7,by omega⟩,?_⟩⟩;rw[w1];dsimp only[dR];cases ho:gl es i with
   |none =>
    rw[ho]at hbody hstep;refine⟨fun _=>?_,fun c=>absurd c (by simp[bl])⟩;rcases hbody with⟨_,h0,_⟩ | ⟨b9,lo9,o9,cs9,h9,h91,h92,h93,h94⟩
    ·cases h0
    obtain⟨k1,_⟩:=h94.at_ 0 (by simp[bl]) 0 (.int .u8) rfl;have k1:cs9[o9]? = some (.int .u8 2):=k1;have k2:cs9.getD o9 (Value.tuple #[]) = .int .u8 2:=by rw[LP,k1];rfl
    refine⟨_,_,_,_,h9,by simp[bl],b9,lo9,o9,cs9,rfl,h92,⟨⟨_,k1,2,rfl,by simp only[bZ];omega⟩,trivial⟩,fun _=>?_⟩;rw[k2];dsimp only[dR];refine⟨fun _=>⟨(),trivial,fun _ _=>⟨by simp only[bZ];omega,⟨i+1,Ix.cS 16,16⟩,?_⟩⟩,fun c=>absurd c (by decide)⟩;have h0:Ix.Has (Ix.cS 16) (oL es (fV L.l) (i+1)):=by rw[hstep];exact Ix.B3 (by omega) (by omega)
    and_intros<;>first|exact kG|rfl|exact af.refl _ _ _|exact cW _|exact h0|(dsimp only;omega)
   |some it =>
    rw[ho]at hbody hstep e2;have hmay:=e2 it rfl;have hks:it.key.size<=aB:=by have:=wZ hmay;simp only[aB];omega
    have hl2:(bl (some it)).length≠1:=by have:=MZ hmay;simp only[bl,List.length_cons];omega
    have hl3:(((bl (some it)).length:Int) == 1)=false:=by rw[beq_eq_false_iff_ne];omega
    refine⟨fun c=>by grind,fun _=>⟨fun _=>⟨fun cg=>⟨Ix.wQ.mk x xc it.key,?_⟩,fun cg=>⟨fun _ _=>⟨Ix.qo.mk x xc it.key (gl (fV L.l) i).pos,?_⟩,fun c=>absurd c (show ¬(true=false)by decide)⟩⟩,fun c=>absurd c (show ¬(true=false)by decide)⟩⟩
    ·have cg:it.gone=true:=cg;obtain⟨hd1,hd2⟩:=SX (k:=it.key) hx;have hd3:Ix.Has (Ix.ob x it.key) (oL es (fV L.l) (i+1)):=by rw[hstep];simp only[xk,cg,if_true];exact hd1
     and_intros<;>first|exact kG|rfl|exact af.refl _ _ _|exact cW _|exact hx.inv|exact hks|exact hd2|(dsimp only;omega)|skip
     intro _ _;refine⟨by simp only[bZ];omega,⟨i+1,Ix.ob x it.key,xc⟩,?_⟩
     grind [af.refl]
    ·have cg:it.gone=false:=cg;have hp1:=X7 (p:=(gl (fV L.l) i).pos) hx (by omega) hks;have hp3:Ix.Has (Ix.yx x it.key (gl (fV L.l) i).pos) (oL es (fV L.l) (i+1)):=by rw[hstep];simp only[xk,cg];exact hp1
     and_intros<;>first|exact kG|rfl|exact af.refl _ _ _|exact cW _|exact hx.inv|exact hks|(dsimp only;omega)|skip
     intro c2 _;refine⟨by simp only[bZ];omega,⟨i+1,Ix.yx x it.key (gl (fV L.l) i).pos,c2⟩,?_⟩
     grind [af.refl]
  ·have hi':i=es.length:=by have:=ug c1;omega
   subst hi'
   and_intros<;>first|exact kG|rfl|exact af.refl _ _ _|exact cW _|exact⟨hlog,hx⟩|exact hfin)
theorem Z5:av (Y Tryz.prog).G.X 130 zx:=bp gf Z4 ⟨MQ,S0,SP,VL,Ix.SU,Ix.Ik,trivial⟩
structure iH where
 seq:Int
 key:ByteArray
 pos:Int
 deriving Inhabited
def xQ:List CK:=[.int .i64,.str,.int .i64]
def dV(x:iH):List Value:=[.int .i64 x.seq,.string x.key,.int .i64 x.pos]
@[reducible] def CC(a b:List iH)(v w:Nat)(p:Prop):Prop:=(0=0/\a.length=b.length/\v=w)/\(b.length<=a.length/\af b.length 3 (aa dV a) (aa dV b))/\p
def gv(f:Int)(ms:List iH):List iH:=ms.filter fun x=>decide (f<=x.pos)
def jrO(lg ma:Nat)(n cap:Nat):Chunk:=.obj 226 [.ptr lg 0 0 0,.slc ma 0 3 n cap]
structure sx where
 ms:List iH
 cap:Nat
 H:PH
 y:jD
 L:cn
def adR:cB where
 α:=sx
 β:=Int
 m:=6
 m':=6
 pre:=fun a=>cV a.H a.y a.L/\a.L.l.length<1000/\a.ms.length<100000
 args:=fun a=>[.a (.slc 0 0 3 a.ms.length a.cap),.E0 183 [.ptr 1 0 0 0]]
 ro:=fun a=>[(0,.arr 228 xQ a.ms.length (aa dV a.ms)),(1,.obj 85 [.ptr 2 0 0 0]),(2,jrO 3 0 a.ms.length a.cap),(3,js 4 a.L a.y.lv),(5,.dg a.H)]
 post:=fun a r=>(r = -1/\∀i,i<a.ms.length->dK a.L<=(gl a.ms i).pos)\/∃i:Nat,r=i/\i<a.ms.length/\(gl a.ms i).pos<dK a.L/\∀j,j<i->dK a.L<=(gl a.ms j).pos
 res:=fun _ r=>.a (.int .i64 r)
def akW(a:sx):An:=.flat 2 Nat (fun s k=>s.int 8 k) (fun _ k=>k<=a.ms.length/\∀j,j<k->dK a.L<=(gl a.ms j).pos) (fun _ k=>a.ms.length-k)
def cq(x:List iH):Nat:=x.length
def Dz(z:Nat)(x:sx):=∀y:Nat,y<z->dK x.L<=(gl x.ms y).pos
def Kj(z:Int)(x:sx):=z=(-1:Int)/\Dz (cq x.ms) x\/∃y:Nat,z=ag y/\y<cq x.ms/\(gl x.ms y).pos<dK x.L/\Dz y x
def A9(x y:Nat)(z:Prop):=cR (ag x) 0 (aQ x y) z
def VP(x:sx)(z:Prop):=A9 (cq x.ms) x.cap (ah (cE (cq x.ms) 3 (aa dV x.ms)/\aM (aQ (cq x.ms) x.cap/\nI x.L x.y (x.H=x.H/\z))))
theorem adS:fnBody (Y Tryz.prog) [(164,JR)] 211 adR fun a=>[(211,[akW a],[])]:=fnBody.of (p :=
 ∀x:sx,oH x.H x.y x.L (cq x.ms<100000)->(∃z:Nat,aS z (VP x ((z<=cq x.ms/\Dz z x)/\True)))/\∀z:Nat,mZ z (cq x.ms) (Dz z x) (ai (gl x.ms (0+aG z)).pos->Exists (F7 x.L x.y x.H fun v=>aI (gl x.ms (0+aG z)).pos (mE v.L.l v.L.next) (∃u:Int,ag z=u/\Kj u x/\True) (bQ z fun u=>VP x (dG u (cq x.ms) (Dz u x) z)))) (∃w:Int,(-1:Int)=w/\Kj w x/\True)) (by kernel_rfl) (by
 delta cE aK cR aQ ai aA aG aM aN bK aU gI bI aP aZ bY ag dG aq cq bQ cK aC ah aS aI Kj mZ aY VP bS Dz F7 nI A9 bw bM oH
 try dsimp -iota -proj only
 rintro⟨ms,cap,H,y,L⟩ ⟨hl,hf,hn⟩;dsimp only at *;have h0:∀j,j<0->dK L<=(gl ms j).pos:=fun j hj=>absurd hj (uh j);refine⟨⟨0,?_⟩,fun i hi=>?_⟩
 ·grind [af.refl]
 obtain⟨hi,hall⟩:=hi;rw[show 0+(i:Int).toNat=i by omega];refine⟨fun c1=>?_,fun c1=>⟨-1,rfl,.inl ⟨rfl,fun j hj=>hall j (by grind)⟩,trivial⟩⟩;have hlt:i<ms.length:=by have:=qi c1;omega
 refine⟨⟨by omega,by omega⟩,hlt,fun _=>⟨Mb.mk H y L,?_⟩⟩
 and_intros<;>first|exact cU|exact hl|exact hf|exact kL|skip
 intro _ _;refine⟨fun c2=>⟨i,rfl,.inr ⟨i,rfl,hlt,qi c2,hall⟩,trivial⟩,fun c2=>⟨by simp only[bZ];omega,i+1,?_⟩⟩
 grind [dK,af.refl])
theorem adT:av (Y Tryz.prog).G.X 211 adR:=bp gf adS ⟨FI,trivial⟩
def wR(f:Int)(ms:List iH)(j:Nat):List iH:=gv f (ms.take j)++ms.drop (gv f (ms.take j)).length
def adU:cB where
 α:=sx
 m:=6
 m':=6
 pre:=fun a=>cV a.H a.y a.L/\a.L.l.length<1000/\a.ms.length<100000/\a.ms.length<=a.cap
 args:=fun a=>[.a (.slc 0 0 3 a.ms.length a.cap),.E0 183 [.ptr 1 0 0 0]]
 hp:=fun a=>[(0,.arr 228 xQ a.ms.length (aa dV a.ms))]
 ro:=fun a=>[(1,.obj 85 [.ptr 2 0 0 0]),(2,jrO 3 0 a.ms.length a.cap),(3,js 4 a.L a.y.lv),(5,.dg a.H)]
 res:=fun a _=>.a (.slc 0 0 3 (gv (dK a.L) a.ms).length a.cap)
 eV:=fun a _=>[(0,.arr 228 xQ (gv (dK a.L) a.ms).length (aa dV (gv (dK a.L) a.ms)))]
variable{f:Int}{j:Nat}{ms:List iH}
theorem vt(hj:j<ms.length):gv f (ms.take (j+1))=if f<=(gl ms j).pos then gv f (ms.take j)++[gl ms j]else gv f (ms.take j):=by
 grind [gv,sJ]
theorem PR(f:Int)(ms:List iH)(j:Nat):(gv f (ms.take j)).length<=j:=YP (T1 _ _) (by grind)
theorem S1(h:∀i,i<ms.length->f<=(gl ms i).pos):gv f ms=ms:=by
 grind [gv,List.filter_eq_self,List.getElem_of_mem,b8]
theorem Hu{f:Int}{ms:List iH}:∀ {k:Nat},k<=ms.length->(∀i,i<k->f<=(gl ms i).pos)->gv f (ms.take k)=ms.take k
 |0,_,_=>rfl
 |k+1,hk,h=>by rw[vt (by omega),if_pos (h k (by omega)),Hu (by omega) fun i hi=>h i (by omega),sJ (by omega)]
theorem ah6(hj:j<ms.length):gl (wR f ms j) j=gl ms j:=by
 grind [gv,wR,b8]
theorem adV(hj:j<ms.length)(h:f<=(gl ms j).pos):wR f ms (j+1)=(wR f ms j).set (gv f (ms.take j)).length (gl ms j):=by
 have h1:=PR f ms j;unfold wR;rw[vt hj,if_pos h,wM,ID,List.set_append_right _ _ (cW _),zBr,List.drop_eq_getElem_cons (show(gv f (ms.take j)).length<ms.length by omega),List.set_cons_zero,zAY];rfl
theorem ah7(hj:j<ms.length)(h:¬f<=(gl ms j).pos):wR f ms (j+1)=wR f ms j:=by
 grind [wR,vt]
theorem adW(f:Int)(ms:List iH)(hj:j<=ms.length):(wR f ms j).length=ms.length:=by
 grind [PR,wR]
def akX(a:sx):An:=.flat 5 Nat (fun s j=>((s.at_ 0 (.arr 228 xQ a.ms.length (aa dV (wR (dK a.L) a.ms j)))).int 5 ((gv (dK a.L) (a.ms.take j)).length:Nat)).int 6 j) (fun _ j=>j<=a.ms.length) (fun _ j=>a.ms.length-j)
def sV(x:sx)(y:Nat):Nat:=cq (gv (dK x.L) (List.take y x.ms))
def PS(z:Int)(x:sx)(u:Nat->Nat->Value)(v:Nat)(w:Prop):=aO (z == (-1:Int))/\aQ (cq x.ms) x.cap/\ah (aA (cq x.ms) (cq x.ms) 3 u (aa dV (wR (dK x.L) x.ms v))/\aM (aQ (cq x.ms) x.cap/\nI x.L x.y (x.H=x.H/\w)))
def PT(z:List iH)(x:sx)(u:Nat)(v:cn)(w:jD)(s:PH)(t f:Prop):=dF (cq z) (cq x.ms) u x.cap (0=0) 3 (aa dV z) (aa dV x.ms) (aM (ax (cq z) (cq x.ms) u x.cap/\cK v x.L w x.y (s=x.H/\oH x.H x.y x.L t/\f)))
def Ge(x:sx)(y:Nat):iH:=gl (wR (dK x.L) x.ms y) (0+aG y)
def wu(x:Int)(y:ByteArray)(z:Int):List Value:=cI x (bR y::gm z)
theorem adX:fnBody (Y Tryz.prog) [(164,JR),(211,adR)] 182 adU fun a=>[(182,[akX a],[])]:=fnBody.of (p :=
 ∀x:sx,oH x.H x.y x.L (cq x.ms<100000/\cq x.ms<=x.cap)->∃s:sx,PT x.ms s x.cap x.L x.y x.H (cq s.ms<100000) (∀u:Int,Kj u s->aK (u == (-1:Int)) (Exists (aD (CC x.ms (gv (dK x.L) x.ms) x.cap x.cap (True/\True)))) (fe u/\(∃z:Nat,u+(1:Int)=ag z/\u=ag (sV x z)/\PS u x (aa dV x.ms) z (bE z (cq x.ms)))/\∀z:Nat,fS z (cq x.ms) (ai (iH.pos (Ge x z))->Exists (F7 x.L x.y x.H fun w=>aK (bg (aN (iH.pos (Ge x z)) (mE w.L.l w.L.next))) (fO (sV x z) (cq x.ms) (aY (sV x z) (bQ z fun v=>bw (sV x z) (sV x v) (PS u x (mO (aa dV (wR (dK x.L) x.ms z)) (0+aG (sV x z)) 0 (wu (iH.seq (Ge x z)) (iH.key (Ge x z)) (iH.pos (Ge x z)))) v (bL v (cq x.ms) z))))) (bQ z fun v=>cm (sV x z) (sV x v)/\PS u x (aa dV (wR (dK x.L) x.ms z)) v (bL v (cq x.ms) z)))) (fm (ag (sV x z)) (cq x.ms)/\fm (ag (sV x z)) x.cap/\Exists (aD (ah (aG (sV x z)-0=cq (gv (dK x.L) x.ms)/\x.cap-0=x.cap)/\bA (aA (cq (gv (dK x.L) x.ms)) (cq x.ms) 3 (fun t=>FA (sV x z) t (cq x.ms) (wu 0 dx 0) fun w=>aa dV (wR (dK x.L) x.ms z) t w) (aa dV (gv (dK x.L) x.ms))))))))) (by kernel_rfl) (by
 delta aK aQ aL aO ai aA cI aG aM aN cm fB bK aU gI bI fm dx aP aZ bY ag bL aq cq bQ cK dF bR dS aC ah sV fS aI aD Kj PS cO fO bg aY ax gm bA bS Dz F7 PT Ge nI wu bw bM fe FA bE oH
 try dsimp -iota -proj only
 rintro⟨ms,cap,H,y,L⟩ ⟨hl,hf,hn,hcap⟩;dsimp only at *;refine⟨sx.mk ms cap H y L,?_⟩
 and_intros<;>first|exact cU|exact hl|exact hf|exact hn|(intro h_;revert h_)|omega|grind [af.refl]|rfl|grind|grind|(dsimp only;omega)|skip
 intro b hb;dsimp only at hb;obtain⟨f,hff⟩:∃f,f=dK L:=⟨_,rfl⟩
 rw[<- hff]at hb;rw[<- hff];refine⟨fun c=>⟨(),?_⟩,fun c=>?_⟩
 ·have hk:gv f ms=ms:=by
   rcases hb with⟨_,h⟩ | ⟨i,hi,_⟩
   ·exact S1 h
   ·grind
  grind [af.refl]
 rcases hb with⟨h,_⟩ | ⟨i0,rfl,hi0,hlt,hall⟩
 ·grind
 have hk0:gv f (ms.take i0)=ms.take i0:=Hu (by omega) hall;have hk1:gv f (ms.take (i0+1))=ms.take i0:=by rw[vt hi0,if_neg (by omega),hk0]
 have hl0:(gv f (ms.take (i0+1))).length=i0:=by rw[hk1,zBj];omega
 have hd0:wR f ms (i0+1)=ms:=by unfold wR;rw[hl0,hk1,List.take_append_drop]
 refine⟨by simp only[bZ];omega,⟨i0+1,?_⟩,fun j hj=>?_⟩
 ·grind [af.refl]
 have hcj:=PR f ms j;obtain⟨c1,hc1⟩:∃c1,c1=(gv f (ms.take j)).length:=⟨_,rfl⟩
 rw[<- hc1]at hcj;rw[<- hc1,show 0+(j:Int).toNat=j by omega,show 0+(c1:Int).toNat=c1 by omega,show(c1:Int).toNat=c1 by omega];refine⟨fun d1=>?_,fun d1=>?_⟩
 ·have hj2:j<ms.length:=by have:=qi d1;omega
  rw[ah6 hj2];refine⟨⟨by omega,by omega⟩,hj2,fun _=>⟨Mb.mk H y L,?_⟩⟩
  and_intros<;>first|exact cU|exact hl|exact hf|exact kL|skip
  intro _ _;dsimp only;rw[show mE L.l L.next=f from hff.symm];refine⟨fun d2=>?_,fun d2=>?_⟩
  ·have hp:f<=(gl ms j).pos:=by simp only[RM,decide_eq_false_iff_not]at d2;omega
   have hk2:(gv f (ms.take (j+1))).length=c1+1:=by rw[vt hj2,if_pos hp,wM,<- hc1];rfl
   have hr:af ms.length 3 (mO (aa dV (wR f ms j)) c1 0 [Value.int .i64 (gl ms j).seq,Value.string (gl ms j).key,Value.int .i64 (gl ms j).pos]) (aa dV (wR f ms (j+1))):=by
    rw[adV hj2 hp,<- hc1];exact af.set c1 (by grind [adW]) (fun i hi=>iY hi) (by rw[kK];rfl)
   refine⟨⟨by omega,by omega⟩,by omega,by simp only[bZ];omega,by simp only[bZ];omega,j+1,?_⟩
   grind
  ·have hp:¬f<=(gl ms j).pos:=by simp only[zBm,tB]at d2;omega
   have hk2:(gv f (ms.take (j+1))).length=c1:=by rw[vt hj2,if_neg hp,<- hc1]
   refine⟨by simp only[bZ];omega,j+1,?_⟩
   grind [ah7,af.refl]
 ·have hj2:j=ms.length:=by have:=ug d1;omega
  subst hj2;have hk:(gv f ms).length=c1:=by rw[hc1,zBd]
  rw[hk];have hr:af c1 3 (fun(i j:Nat)=>if c1<=i/\i<c1+(ms.length-c1)then[Value.int .i64 0,Value.string (ByteArray.mk #[]),Value.int .i64 0].getD j (Value.tuple #[])else aa dV (wR f ms ms.length) i j) (aa dV (gv f ms)):=⟨fun i hi j hj=>by
   grind [aa,wR,cu]⟩
  refine⟨⟨by omega,by omega⟩,⟨by omega,by omega⟩,(),?_⟩
  grind)
theorem adY:av (Y Tryz.prog).G.X 182 adU:=bp gf adX ⟨FI,adT,trivial⟩
def lU(ms:List iH):Int:=if ms.length=0 then 0 else(gl ms (ms.length-1)).seq
structure Me where
 ms:List iH
 cap:Nat
def Yb:cB where
 α:=Me
 m:=3
 m':=3
 pre:=fun a=>a.ms.length<100000
 args:=fun a=>[.a (.ptr 0 0 0 0)]
 ro:=fun a=>[(0,jrO 2 1 a.ms.length a.cap),(1,.arr 228 xQ a.ms.length (aa dV a.ms))]
 res:=fun a _=>.a (.int .i64 (lU a.ms))
theorem adZ:fnBody (Y Tryz.prog) [] 140 Yb fun _=>[]:=fnBody.of (p :=
 ∀x:Me,cq x.ms<100000->aK (ag (cq x.ms) == (0:Int)) (Exists (bN ((0:Int)=lU x.ms))) (qw (cq x.ms)/\mR (ag (cq x.ms)-(1:Int)) (cq x.ms) (xL (gl x.ms (0+aC (ag (cq x.ms)-(1:Int)))).seq (lU x.ms)))) (by kernel_rfl) (by
 delta aK ai mR aU bN aZ ag aq cq dS aC aD bA xL qw
 rintro⟨ms,cap⟩ hn;dsimp only at *;refine⟨fun c=>⟨(),?_,trivial,trivial⟩,fun c=>?_⟩
 ·have:=eq_of_beq c
  grind [lU]
 ·have h0:ms.length≠0:=fun e=>by grind
  rw[show 0+((ms.length:Int)-1).toNat=ms.length-1 by omega];refine⟨by simp only[bZ];omega,⟨by omega,by omega⟩,by omega,fun _=>⟨(),?_,trivial,trivial⟩⟩
  grind [lU])
theorem S2:av (Y Tryz.prog).G.X 140 Yb:=bp gf adZ trivial
structure RJ where
 L:cn
 d:bH
 ms:List iH
structure RK where
 H:PH
 y:jD
 cap:Nat
def akY(jr ma lg dv ds pl:Nat)(m:RJ)(p:RK):List (Nat×Chunk):=[(jr,jrO lg ma m.ms.length p.cap),(ma,.arr 228 xQ m.ms.length (aa dV m.ms)),(lg,js dv m.L p.y.lv)]++gW dv ds m.d++[(pl,.dg p.H)]
def PU(p p':RK):Prop:=∀z,p.H z≠none->z∉cC p.y->p'.H z=p.H z/\z∉cC p'.y
def fK(seq:Int)(k:ByteArray):List Int:=vi seq++RI k
def S3(m:RJ)(k:ByteArray):RJ:=⟨p7 m.L (fK (lU m.ms+1) k),sN m.L m.d (fK (lU m.ms+1) k),m.ms++[⟨lU m.ms+1,k,m.L.next⟩]⟩
def eM(m:RJ)(ks:List ByteArray):Nat->RJ
 |0=>m
 |i+1=>S3 (eM m ks i) (gl ks i)
def akZ(m:RJ):RJ:={ m with ms:=gv (dK m.L) m.ms }
def kU(m:RJ)(ks:List ByteArray):RJ:=if iG ks then(if ks.length=0 then akZ m else { akZ (eM m ks ks.length)with d:=jq (eM m ks ks.length).d })else m
theorem nu(h:dB k=true):1<=k.size/\k.size<=40:=by
 simp only[dB,jB,tB,RM,decide_eq_false_iff_not]at h;refine⟨?_,h.2⟩;rcases Nat.eq_zero_or_pos k.size with e|e
 ·exact absurd (by
   obtain⟨⟨l⟩⟩:=k;have:l=[]:=zAP e
   grind) h.1
 ·exact e
theorem Gf(m:RJ)(ks:List ByteArray):∀i,(eM m ks i).ms.length=m.ms.length+i
 |0=>rfl
 |i+1=>by
  show((eM m ks i).ms++[_]).length=_;rw[wM,Gf m ks i];rfl
theorem M4{x:iH}:af (ms++[x]).length 3 (bq (aa dV ms) 0 ms.length fun(i j:Nat)=>aV 3 [Value.int .i64 x.seq,Value.string x.key,Value.int .i64 x.pos] (0+i) j) (aa dV (ms++[x])):=⟨fun i hi j hj=>by
 rw[wM,ID]at hi;simp only[bq,mA];by_cases h:i<ms.length
 ·grind [aa,cu]
 ·rw[if_neg h];obtain rfl:i=ms.length:=by omega
  rw[zBr];unfold aa;have:gl (ms++[x]) ms.length=x:=by
   have:=bt (l:=ms) (m:=[x]) (i:=0);rw[EZ]at this;rw[this];rfl
  rw[this];rcases(by omega:j=0\/j=1\/j=2)with rfl|rfl|rfl<;>rfl⟩
theorem PU.refl(p:RK):PU p p:=fun _ _ hn=>⟨rfl,hn⟩
structure u0 where
 m:RJ
 p:RK
 ks:List ByteArray
 kc:Nat
def M5:cB where
 α:=u0
 β:=RK
 m:=7
 m':=9
 pre:=fun a=>cV a.p.H a.p.y a.m.L/\a.m.L.l.length<800/\a.ks.length<1000/\a.m.ms.length<50000/\a.m.ms.length<=a.p.cap/\(iG a.ks=true->(∀i,i<a.ks.length->AT (eM a.m a.ks i).L (eM a.m a.ks i).d/\0<=lU (eM a.m a.ks i).ms/\lU (eM a.m a.ks i).ms<1000000000000)/\(eM a.m a.ks a.ks.length).d.n<100000/\(eM a.m a.ks a.ks.length).d.calls<1000000000000/\(eM a.m a.ks a.ks.length).L.l.length<1000)
 args:=fun a=>[.a (.ptr 0 0 0 0),.a (.slc 6 0 1 a.ks.length a.kc)]
 hp:=fun a=>akY 0 1 2 3 4 5 a.m a.p
 ro:=fun a=>[(6,.arr 9 [.str] a.ks.length (aa ic a.ks))]
 post:=fun a b=>cV b.H b.y (kU a.m a.ks).L/\PU a.p b/\(kU a.m a.ks).ms.length<=b.cap
 res:=fun a _=>.nR [.a (.int .i64 (if iG a.ks then lU (kU a.m a.ks).ms else 0)),.a (.int .i64 (if iG a.ks then 0 else 1))]
 eV:=fun a b=>akY 0 7 2 3 4 8 (kU a.m a.ks) b
structure Hv where
 i:Nat
 p:RK
def S.jr(s:S)(c:Nat)(m:RJ)(p:RK):S :=
 (fun(s1:S)=>((s1.put ((s1.hp.del (SF s1)).del (s.uZ c 1))).new (.dg p.H)))
 ((fun(s0:S)=>(s0.new (.arr 228 xQ m.ms.length (aa dV m.ms))).at_ c (jrO (s.uZ c 0) s0.nx m.ms.length p.cap))
  (((s.at_ (s.uZ c 0) (js (s.uZ (s.uZ c 0) 0) m.L p.y.lv)).at_ (s.uZ (s.uZ c 0) 0) (.obj 116 [.slc (s.uZ (s.uZ (s.uZ c 0) 0) 0) 0 129 m.d.n m.d.n,.int .i64 m.d.calls])).at_ (s.uZ (s.uZ (s.uZ c 0) 0) 0) (.arr 158 Hf m.d.n (eZ m.d))))
def ajw(a:u0):An:=.flat 4 Nat (fun s i=>s.int 18 i) (fun _ i=>i<=a.ks.length/\∀j,j<i->dB (gl a.ks j)=true) (fun _ i=>a.ks.length-i)
def ajx(a:u0):An:=.flat 10 Hv (fun s x=>(S.jr s (s.uZ (s.tg 2) 0) (eM a.m a.ks x.i) x.p).int 32 x.i) (fun _ x=>x.i<=a.ks.length/\iG a.ks=true/\cV x.p.H x.p.y (eM a.m a.ks x.i).L/\PU a.p x.p/\(eM a.m a.ks x.i).ms.length<=x.p.cap) (fun _ x=>a.ks.length-x.i)
def ajy(a:u0):An:=.mk 9 Unit (fun s _=>s) (fun _ _=>iG a.ks=true) (fun _ _=>0) fun _=>.mk 1000 [ajx a] []
def ah8:List (Nat×cB):=[(140,Yb),(165,JD),(162,Im),(182,adU),(169,nC)]
def Kk(x:RK)(z:RJ)(u:u0):=cV x.H x.y z.L/\PU u.p x/\cq z.ms<=x.cap
def Gg(x:List ByteArray)(y:RJ):Int:=if iG x=true then lU (kU y x).ms else(0:Int)
def VQ(v:Int)(x:u0)(w:Int)(u:RK)(s:List iH)(t:Nat)(f:RJ)(g:bH):=∃z:RK,v=Gg x.ks x.m/\w=lC (iG x.ks)/\u.H=z.H/\ah (CC s (kU x.m x.ks).ms t z.cap (cK f.L (kU x.m x.ks).L u.y z.y (iZ g (kU x.m x.ks).d (Kk z (kU x.m x.ks) x/\True))))
def PV(x:u0):=cV x.p.H x.p.y x.m.L/\bY x.m.L<800/\aF x.ks<1000/\cq x.m.ms<50000/\cq x.m.ms<=x.p.cap/\(aq (iG x.ks)->(∀z:Nat,z<aF x.ks->AT (eM x.m x.ks z).L (eM x.m x.ks z).d/\aZ (lU (eM x.m x.ks z).ms) 1000000000000)/\kz (eM x.m x.ks (aF x.ks)).d 1000000000000 (bY (eM x.m x.ks (aF x.ks)).L<1000))
def PW(x:u0)(z:Prop):=vW (ah (aQ (aF x.ks) x.kc/\aM (CC x.m.ms x.m.ms x.p.cap x.p.cap (nI x.m.L x.p.y (iZ x.m.d x.m.d (x.p.H=x.p.H/\eO x.ks/\z))))))
def uH(x:u0)(y:Hv):List iH:=(eM x.m x.ks y.i).ms
def VR(x:sx)(z:u0)(u:Hv)(v:bH):Me->Prop:=fun(y:Me)=>aM (CC (gv (dK x.L) x.ms) y.ms x.cap y.cap (cq y.ms<100000/\aP (VQ (lU y.ms) z 0 u.p (gv (dK x.L) x.ms) x.cap (eM z.m z.ks u.i) v)))
def VS(x:u0)(u:PH)(z:Hv)(v w:Nat)(s:cn)(t:jD)(f:bH)(g h:Prop):=dU (aF x.ks) x.kc (vW (ah (aQ (aF x.ks) x.kc/\u=z.p.H/\aM (ax v (cq (uH x z)) w z.p.cap/\cK s (eM x.m x.ks z.i).L t z.p.y (iZ f (eM x.m x.ks z.i).d (eO x.ks/\g/\h))))))
def PX(x:u0)(y:Hv):=aq (iG x.ks)/\Kk y.p (eM x.m x.ks y.i) x
theorem ae0:fnBody (Y Tryz.prog) ah8 134 M5 fun a=>[(134,[ajw a],[ajy a])]:=fnBody.of (p :=
 ∀x:u0,PV x->Gb x.ks x.kc (fun z=>PW x ((z<=aF x.ks/\xP z x.ks)/\True)) (fun z=>jo (fc (iC x.ks z) dx) (VQ 0 x 1 x.p x.m.ms x.p.cap x.m x.m.d) (aN 40 (ag (aT (iC x.ks z)))) (bQ z fun u=>dU (aF x.ks) x.kc (PW x (dG u (aF x.ks) (xP u x.ks) z)))) (PW x (aq (iG x.ks)/\True)) ((∃z:Hv,aS z.i (VS x x.p.H z (cq x.m.ms) x.p.cap x.m.L x.p.y x.m.d (aA (cq (uH x z)) (cq x.m.ms) 3 (aa dV x.m.ms) (aa dV (uH x z))) ((z.i<=aF x.ks/\PX x z)/\True)))/\∀z:Hv,mZ z.i (aF x.ks) (PX x z) (∃u:Me,aM (CC (uH x z) u.ms z.p.cap u.cap (cq u.ms<100000/\aP (fe (lU u.ms)/\∃w:qt,(0=aj w.l/\0=w.cap)/\Fq 1 w (aj w.l=0) (lU u.ms+(1:Int)) [] fun f=>qu (w.l++lp w.ns)/\gq (aj (w.l++lp w.ns)) (aT (iC x.ks z.i)) 1 f fun g=>∃v:zj,ah (ax (aj (w.l++lp w.ns)+aT (iC x.ks z.i)) (aj v.body) g v.cap/\cK (eM x.m x.ks z.i).L v.L z.p.y v.y (iZ (eM x.m x.ks z.i).d v.d (z.p.H=v.H/\Oz v.body w.l (lp w.ns) x.ks z.i/\FE v/\∀t:qV,Dn t v->jF (cq (uH x z)) 32 z.p.cap fun h=>aY z.i (∃s:Hv,bw z.i s.i (VS x t.H s (cq (uH x z)+1) h (p7 v.L v.body) t.y (sN v.L v.d v.body) (iO (cq (uH x s)) (cq (uH x z)) 3 (aa dV (uH x z)) (wu (lU u.ms+(1:Int)) (iC x.ks z.i) v.L.next) (aa dV (uH x s))) (dG s.i (aF x.ks) (PX x s) z.i)))))))))) (∃u:sx,PT (uH x z) u z.p.cap (eM x.m x.ks z.i).L z.p.y z.p.H (cq u.ms<100000 /\
 cq u.ms<=u.cap) (aP (aI 0 (ag (aF x.ks)) (oE (eM x.m x.ks z.i).d fun w=>Exists (VR u x z (jq w))) (Exists (VR u x z (eM x.m x.ks z.i).d))))))) (by kernel_rfl) (by
 delta cE aK cR aQ aO aj ai aA az cI aG gq aM aN aF fB bK aU gI bI dx aP aZ jo bY ag bD jF aT iO eO dG aq cq dU bQ cK dF bR VQ aC nE ah Dj aS Fq PV aI aD PW lC mZ bf Kk iR fc xP aY ax vT uH gm Oz oE vW bS kz ja VR qu Gg PT iC nI FE Dn Fo Gb eu VS wu PX bw bM fe dc oH
 try dsimp -iota -proj only
 rintro⟨m,p,ks,kc⟩ ⟨hl,hlf,hkn,hmn,hcap,hok⟩;dsimp only at *;have no:iG ks=false->kU m ks=m:=fun e=>if_neg (by rw[e];decide);have bad:∀i,i<ks.length->dB (gl ks i)=false->iG ks=false:=fun i hi h=>by
  rw[zBz];intro ha;have:=RO.1 ha (gl ks i) (by grind [b8])
  grind
 have h0:∀j,j<0->dB (gl ks j)=true:=fun j hj=>absurd hj (uh j);have hfr0:=PU.refl p;refine⟨⟨⟨0,?_⟩,fun i hi=>?_⟩,fun _ hK=>⟨⟨⟨0,p⟩,?_⟩,fun x hx=>?_⟩⟩
 ·grind [af.refl]
 ·obtain⟨hi,hall⟩:=hi;rw[show 0+(i:Int).toNat=i by omega];refine⟨fun c1=>?_,fun c1=>⟨(),?_⟩⟩
  ·have hlt:i<ks.length:=by have:=qi c1;omega
   refine⟨⟨by omega,by omega⟩,hlt,fun c2=>?_,fun c2=>⟨fun c3=>?_,fun c3=>⟨by simp only[bZ];omega,i+1,?_⟩⟩⟩
   ·grind [dB,af.refl]
   ·have hn:=bad i hlt (by
     have c3:=qi c3;unfold dB
     grind)
    grind [af.refl]
   grind [dB,af.refl]
  ·have hi':i=ks.length:=by have:=ug c1;omega
   grind [iG,List.getElem_of_mem,b8,af.refl]
 ·grind [eM,af.refl]
 obtain⟨i,q⟩:=x;obtain⟨hi,_,hq,hfr,hqc⟩:=hx;dsimp only at hi hq hfr hqc ⊢;obtain⟨hok1,hok2,hok3,hok4⟩:=hok hK;have hMn:=Gf m ks i;rw[show 0+(i:Int).toNat=i by omega];refine⟨fun c1=>?_,fun c1=>?_⟩
 ·have hlt:i<ks.length:=by have:=qi c1;omega
  obtain⟨ok1,s0,s1⟩:=hok1 i hlt;have hkey:dB (gl ks i)=true:=RO.1 hK (gl ks i) (by grind [b8]);obtain⟨k1,k2⟩:=nu hkey;have e:eM m ks (i+1)=S3 (eM m ks i) (gl ks i):=rfl;have hMn1:=Gf m ks (i+1);obtain⟨M,hM⟩:∃M,M=eM m ks i:=⟨_,rfl⟩
  rw[<- hM]at hq hqc hMn ok1 s0 s1 e;rw[<- hM];obtain⟨sq,hsq⟩:∃sq,sq=lU M.ms+1:=⟨_,rfl⟩
  have hMs:M.ms.length<100000:=by omega
  refine⟨⟨by omega,by omega⟩,hlt,Me.mk M.ms q.cap,?_⟩
  and_intros<;>first|exact cU|exact hMs|(intro h_;revert h_)|omega|grind [af.refl]|rfl|grind|grind|(dsimp only;omega)|skip
  intro _ _;dsimp only;rw[<- hsq];have eB:[]++lp [sq]=vi sq:=by simp[lp]
  have hv:=nG sq;have hr1:af [sq].length 1 (aV 1 [Value.int .i64 sq]) (aa encI [sq]):=.fN fun i hi=>by
   have:i=0:=by simp at hi;omega
   subst this;rfl
  have hg1:∀i:Nat,i < [sq].length->0<=gl [sq] i/\gl [sq] i<4611686018427387904:=fun i hi=>by
   have:i=0:=by simp at hi;omega
   subst this;show 0<=sq/\sq<_;omega
  have hg2:[sq].length<100:=by simp
  refine⟨by simp only[bZ];omega,qt.mk [] 0 [sq] 1,?_⟩;dsimp only;rw[eB]
  and_intros<;>first|exact cU|exact hr1|exact hg1|exact hg2|(intro h_;revert h_)|omega|grind|rfl|grind|grind|(dsimp only;omega)|skip
  intro b _;have hbl:(fK sq (gl ks i)).length=(vi sq).length+(gl ks i).size:=by unfold fK;rw[wM,mW]
  have hr2:af (fK sq (gl ks i)).length 1 (bq (aa dA (vi sq)) 0 (vi sq).length (sC (gl ks i))) (aa dA (fK sq (gl ks i))):=.app rfl (.of_eq (by grind)) (JC _ (by omega));refine⟨by omega,by omega,fun c q1 q2 q3=>⟨zj.mk q.H q.y M.L M.d (fK sq (gl ks i)) c,?_⟩⟩
  and_intros<;>first|exact cU|exact hq|exact ok1|exact hr2|(intro h_;revert h_)|omega|grind [af.refl]|rfl|grind|grind|grind|skip
  rintro⟨H1,y1⟩ ⟨hl1,hf1⟩;dsimp only at hl1 hf1 ⊢;have hr3:=M4 (ms:=M.ms) (x:=⟨sq,gl ks i,M.L.next⟩);have hfr1:PU p ⟨H1,y1,0⟩:=fun z hz hn=>by
   obtain⟨a1,a2⟩:=hfr z hz hn
   grind
  refine⟨by omega,by omega,by omega,fun c2 w1 w2 w3=>⟨by simp only[bZ];omega,⟨i+1,⟨H1,y1,c2⟩⟩,?_⟩⟩;dsimp only;have e2:S3 M (gl ks i)=⟨p7 M.L (fK sq (gl ks i)),sN M.L M.d (fK sq (gl ks i)),M.ms++[⟨sq,gl ks i,M.L.next⟩]⟩:=by rw[hsq];rfl
  rw[e,e2]at hMn1;dsimp only at hMn1;rw[e,e2];dsimp only;have hi2:i+1<=ks.length:=hlt;have hfr2:PU p ⟨H1,y1,c2⟩:=hfr1;have hlt2:ks.length-(i+1)<ks.length-i:=by omega
  grind [af.refl]
 ·have hi':i=ks.length:=by have:=ug c1;omega
  subst hi';obtain⟨M,hM⟩:∃M,M=eM m ks ks.length:=⟨_,rfl⟩
  rw[<- hM]at hq hqc hMn hok2 hok3 hok4;rw[<- hM];have hMs:M.ms.length<100000:=by omega
  have hkl:(gv (dK M.L) M.ms).length<=M.ms.length:=T1 _ _;have hks:(gv (dK M.L) M.ms).length<100000:=by omega
  have hkc:(gv (dK M.L) M.ms).length<=q.cap:=by omega
  have hfr2:PU p ⟨q.H,q.y,q.cap⟩:=hfr;refine⟨sx.mk M.ms q.cap q.H q.y M.L,?_⟩
  and_intros<;>first|exact cU|exact hq|exact hok4|exact hMs|exact hqc|(intro h_;revert h_)|omega|grind [af.refl]|rfl|grind|grind|(dsimp only;omega)|skip
  intro _ _;dsimp only;rw[hK];refine⟨fun c2=>?_,fun c2=>?_⟩
  ·have hn:ks.length≠0:=by have:=qi c2;omega
   have e1:kU m ks=⟨M.L,jq M.d,gv (dK M.L) M.ms⟩:=by
    unfold kU;rw[if_pos hK,if_neg hn,<- hM];rfl
   rw[e1];refine⟨M.d,?_⟩
   and_intros<;>first|exact cU|exact hok2|exact hok3|(intro h_;revert h_)|omega|grind [af.refl]|rfl|exact af.refl _ _ _|exact cW _|(dsimp only;omega)|skip
   intro _ _;refine⟨Me.mk (gv (dK M.L) M.ms) q.cap,?_⟩
   grind [af.refl]
  ·have hn:ks.length=0:=by have:=ug c2;omega
   have e1:kU m ks=⟨M.L,M.d,gv (dK M.L) M.ms⟩:=by
    unfold kU;rw[if_pos hK,if_pos hn,hM,hn];rfl
   rw[e1];refine⟨Me.mk (gv (dK M.L) M.ms) q.cap,?_⟩
   grind [af.refl])
theorem ae1:av (Y Tryz.prog).G.X 134 M5:=bp gf ae0 ⟨S2,Fs,JP,adY,lR,trivial⟩
structure NG0 where
 l:List Int
 cap:Nat
 n:Int
def Gh:cB where
 α:=NG0
 m:=1
 m':=1
 pre:=fun a=>a.l.length<100000/\a.l.length<=a.cap/\0<=a.n/\a.n<4611686018427387904/\(vi a.n).length<=a.l.length/\∀i,i<(vi a.n).length->gl a.l (0+i)=gl (vi a.n) i
 args:=fun a=>[.a (.slc 0 0 1 a.l.length a.cap)]
 ro:=fun a=>mH 0 a.l
 res:=fun a _=>.nR [.a (.int .i64 a.n),.a (.int .i64 (vi a.n).length),.a (.lit .i64 0)]
theorem ajz{Y:Gx}(hY:Y.Ok){mB:List (Nat×cB)}(ht:Ac Y.G.X mB){f:Nat}{C:cB}{l:C.α->List (Nat×List An×List An)}(hb:fnBody Y mB f C l):gN Y.G.X C f:=Oh hY (fun _=>Ii hY ht) hb.body
theorem ah9:gN (Y Tryz.prog).G.X MI 177:=ajz gf (mB:=[]) trivial Sz
theorem Z6{X:Cx}{C D:cB}{f:Nat}(h:gN X C f)(g:D.α->C.α)(h1:∀a,D.pre a->C.pre (g a))(hm:D.m=C.m)(hm':D.m'=C.m')(hβ:D.β=C.β)(h2:∀a,D.hp a=C.hp (g a))(h3:∀a,D.ro a=C.ro (g a))(h4:∀a,D.args a=C.args (g a))
 (h5:∀a o,D.post a (cast hβ.symm o)=C.post (g a) o) (h6:∀a o,D.res a (cast hβ.symm o)=C.res (g a) o) (h7:∀a o,D.eV a (cast hβ.symm o)=C.eV (g a) o):gN X D f:=by
 intro a ha M ρ w vs hn hh hr;rw[h2,h3]at hh;rw[h4]at hr;refine Calls.mono (h (g a) (h1 a ha) M ρ w vs (hn.trans hm) hh hr) fun e w' hq=>?_
 grind
theorem ae2:gN (Y Tryz.prog).G.X Gh 177:=Z6 (D:=Gh) ah9 (fun a=>(⟨a.l,0,a.l.length,a.cap,a.n⟩:nW)) (fun a h=>⟨by grind,h.1,h.2.1,h.2.2.1,h.2.2.2.1,h.2.2.2.2.1,h.2.2.2.2.2⟩) rfl rfl rfl (fun _=>rfl) (fun _=>rfl) (fun _=>rfl) (fun _ _=>rfl) (fun _ _=>rfl) (fun _ _=>rfl)
def PY(a:NG0):Sl1:=⟨5,[.int .u8],a.l.length,a.cap,aa dA a.l⟩
def ae3:cB:=Gh.agU PY
theorem Z7:av (Y Tryz.prog).G.X 177 ae3:=fun _ _ _ h=>y6 (SM ae2 ⟨rfl,fun _=>rfl,fun _=>rfl,fun _=>rfl,fun _ _=>rfl,fun _ _ p hp=>(by cases hp)⟩) h
structure ajA(ms:List iH)(rs:List RecM):Prop where
 len:ms.length=rs.length
 wN:ms.length<9000
 at_:∀i,i<ms.length->(gl rs i).body=fK (gl ms i).seq (gl ms i).key/\(gl rs i).pos=(gl ms i).pos/\0<=(gl ms i).seq/\(gl ms i).seq<1000000000000/\dB (gl ms i).key=true
 step:∀i,i+1<ms.length->(gl ms (i+1)).seq=(gl ms i).seq+1
structure Ba where
 H:PH
 d:bH
 from_:Nat
 au:Nat
 ms:List iH
def DA:cB where
 α:=Ba
 β:=RK
 m:=3
 m':=7
 pre:=fun a=>20<=a.au/\rH a.from_ a.au a.d/\ajA a.ms (fV (cH a.from_ a.au a.d).l)/\∀i,i<(cH a.from_ a.au a.d).l.length->(gl (cH a.from_ a.au a.d).l i).bn.length<=400
 args:=fun a=>[.a (.ptr 0 0 0 0),.a (.int .i64 a.from_),.a (.int .i64 a.au)]
 hp:=fun a=>[(2,.dg a.H)]
 ro:=fun a=>gW 0 1 a.d
 post:=fun a b=>cV b.H b.y (cH a.from_ a.au a.d)/\(∀z,a.H z≠none->b.H z=a.H z/\z∉cC b.y)/\a.ms.length<=b.cap
 res:=fun _ _=>.nR [.a (.ptr 3 0 0 0),.a (.lit .i64 0)]
 eV:=fun a b=>[(3,jrO 5 4 a.ms.length b.cap),(4,.arr 228 xQ a.ms.length (aa dV a.ms)),(5,js 0 (cH a.from_ a.au a.d) b.y.lv),(6,.dg b.H)]
def ajB(a:Ba):An:=.flat 10 (Nat×Nat) (fun s x=>((s.at_ (s.tg 10) (jrO (s.uZ (s.tg 10) 0) s.nx (a.ms.take x.1).length x.2)).new (.arr 228 xQ (a.ms.take x.1).length (aa dV (a.ms.take x.1)))).int 38 x.1) (fun _ x=>x.1<=a.ms.length/\x.1<=x.2) (fun _ x=>a.ms.length-x.1)
theorem ae4{rs:List RecM}(h:ajA ms rs){i:Nat}(hi:i<ms.length)(h0:i≠0):lU (ms.take i)+1=(gl ms i).seq:=by
 have hl:(ms.take i).length=i:=by rw[zBj];omega
 have e:gl (ms.take i) (i-1)=gl ms (i-1):=by rw[b8 (by omega),b8 (by omega),List.getElem_take]
 have:=h.step (i-1) (by omega)
 grind [lU]
theorem Yc{seq:Int}:lP (fun i=>aa dA (fK seq k) ((vi seq).length+i)) 0 ((fK seq k).length-(vi seq).length)=k:=by
 have hn:(fK seq k).length-(vi seq).length=k.size:=by unfold fK;rw[wM,mW];omega
 unfold lP;refine XH hn fun i hi=>?_;show gl (fK seq k) ((vi seq).length+(0+i))=_;unfold fK;rw[bt,mA]
def ae5:List (Nat×cB):=[(175,Pn),(176,XV),(177,ae3),(140,Yb)]
def PZ(z:CA)(x:Ba)(w:Prop)(u:Pm)(s:qV)(t f:Prop):=mY z.v (ah (lB (aO (aN (ag x.au) 20)/\lB (cR (ag x.from_) (ag x.au) (z.H=z.H) (ah (w/\nI (cH u.from_ u.au u.d) s.y (iZ x.d x.d (t/\f))))))))
def sW(x:Nat×Nat)(y:Ba):Nat:=cq (List.take x.fst y.ms)
def Kl(x:Nat×Nat)(y:Ba):Nat->Nat->Value:=aa dV (List.take x.fst y.ms)
def VT(u:List Value)(v:Nat)(w:V1 Gh.α)(s:CA)(y:Nat×Nat)(x:Ba)(t:Pm)(f:qV):=NS (aL u (v+1))/\fm (ag (aj (vi w.a.n))) (eC (aL u (v+1)))/\Exists (nH s.H (ze u (v+1) (aG (aj (vi w.a.n))) (eC (aL u (v+1)))) l8 fun g j h=>ai (dR (aL u v))->jF (sW y x) 32 y.snd fun i=>iP y fun z=>PZ s x (ax (sW y x+1) (sW z x) i z.snd) t f (iO (sW z x) (sW y x) 3 (Kl y x) (wu w.a.n (lP h 0 g) (dR (aL u v))) (Kl z x)) (dG z.fst (cq x.ms) (z.fst<=z.snd) y.fst))
def P3(x:RK)(z:Ba):=cV x.H x.y (cH z.from_ z.au z.d)/\(∀u:Nat,zq (z.H u) (x.H u) x.y u)/\cq z.ms<=x.cap
def P4(x:Ba):=20<=x.au/\Gd x.from_ x.au x.d (ajA x.ms (fV (cH x.from_ x.au x.d).l))
theorem Z8:fnBody (Y Tryz.prog) ae5 129 DA fun a=>[(129,[ajB a],[])]:=fnBody.of (p :=
 ∀x:Ba,P4 x->aI (ag x.au) 20 (∃u:RK,False) (∃u:Pm,ah (cm x.from_ u.from_/\cm x.au u.au/\x.H=u.H/\iZ x.d u.d (rH u.from_ u.au u.d/\∀f:qV,Dv f u->Exists (PO f u fun t=>jM (fun z=>PZ t x (0=sW z x/\0=z.snd) u f (sW z x=0) ((z.fst<=cq x.ms/\z.fst<=z.snd)/\True)) fun z=>z.fst<=cq x.ms/\z.fst<=z.snd->AW z.fst t.v (fun s=>t.H s) (fun s i=>∃w:V1 Gh.α,aL i (s+1)=w.v/\t.H=w.H/\(Db (aj w.a.l) w.a.cap w.a.n w.a.l 0/\oo w.H w.v l8 (PY w.a).n (PY w.a).cap (PY w.a).rows)/\∀j:Gh.β,True->aK (ag (sW z x) == (0:Int)) (VT i s w t z x u f) (∃h:Me,aM (CC (List.take z.fst x.ms) h.ms z.snd h.cap (cq h.ms<100000/\aP (fe (lU h.ms)/\aK (w.a.n == lU h.ms+(1:Int)) (VT i s w t z x u f) (iP z fun g=>PZ t x (ax (sW z x) (sW g x) z.snd g.snd) u f (aA (sW g x) (sW z x) 3 (Kl z x) (Kl g x)) (dG g.fst (cq x.ms) (g.fst<=g.snd) z.fst))))))) (∃s:RK,ah (aJ (ah (CC (List.take z.fst x.ms) x.ms z.snd s.cap (cK (cH u.from_ u.au u.d) (cH x.from_ x.au x.d) f.y s.y (t.H=s.H/\P3 s x/\True))))))))))) (by kernel_rfl) (by
 delta aK cR aL aO aj ai aA az cI aG gq aM aN cm fB pG gu aU bI fm aP aZ bY ag bD jF fF iO dG aq ku cq cK bR iP VT Dr aJ aC AW ah l8 zc aS PZ Dv aI cO Gd bf JX iR aY sW ax mY gm zq bS JY nH ja lB nI uF eu wu P3 mJ jM bw bM Db fe P4 ze FF PO oH Kl
 try dsimp -iota -proj only
 rintro⟨H,d,fr,sg,ms⟩ ⟨hsg,ok,hms,hsl⟩;dsimp only at *;obtain⟨L,hL⟩:∃L,L=cH fr sg d:=⟨_,rfl⟩
 have hone:L.l.length<=200:=by rw[hL];have h1:(cH fr sg d).l.length<=sg:=Io fr sg d sg;have h2:=ok.wN;omega
 rw[<- hL]at hms hsl;have hlen:=hms.len;have hfew:=hms.wN;refine⟨fun c=>by grind,fun _=>⟨Pm.mk H d fr sg,?_⟩⟩;dsimp only;rw[<- hL]
 and_intros<;>first|exact cU|exact ok|(intro h_;revert h_)|omega|grind [af.refl]|rfl|exact af.refl _ _ _|exact cW _|(dsimp only;omega)|skip
 rintro⟨H1,y1⟩ ⟨hl1,hf1⟩;dsimp only at hl1 hf1 ⊢;refine⟨Ag.mk H1 y1 L,?_⟩;have hrec:∀i,i<L.l.length->(gl L.l i).bn.length<=400/\∀k,k<(gl L.l i).bn.length->1<=(gl (gl L.l i).bn k).body.length/\(gl (gl L.l i).bn k).body.length<=1000:=fun i hi=>⟨hsl i hi,fun k hk=>by
  obtain⟨j,hj,e⟩:=PM hi hk;obtain⟨e1,_,_,_,e5⟩:=hms.at_ j (by omega)
  grind [nG,nu,fK,mW]⟩
 have hL1:L.l.length<1000:=by omega
 and_intros<;>first|exact cU|exact hl1|exact hrec|exact hL1|exact kL|skip
 rintro⟨H2,v,vs⟩ ⟨hout,hf2⟩;dsimp only at hout hf2 ⊢;obtain⟨cr,hrows⟩:=hout.rows;obtain⟨s1,s2,s3,s4,s5,⟨sa,s6⟩,s7⟩:=iD hrows;have hlog:cV H2 y1 L:=hl1.frame fun z hz=>(hf2 z (hl1.dom z hz)).1;have hfin:∀z,H z≠none->H2 z=H z/\¬z∈cC y1:=fun z hz=>by
  grind
 rw[s1];refine⟨⟨sa,_,_,s6,by omega⟩,⟨(0,0),?_⟩,fun q hq=>?_⟩
 ·grind [af.refl]
 obtain⟨i,c⟩:=q;obtain⟨hi,hic⟩:=hq;dsimp only at hi hic ⊢;have hti:(ms.take i).length=i:=by rw[zBj];omega
 rw[hti];refine⟨fun c1=>?_,fun c1=>?_⟩
 ·have hi':i<ms.length:=by have:=qi c1;omega
  have hti1:(ms.take (i+1)).length=i+1:=by rw[zBj];omega
  have htp:ms.take (i+1)=ms.take i++[gl ms i]:=sJ hi';obtain⟨b',lo',o',cs',q1,q2,q3,q4,q5,q6,q7,q8⟩:=AV hrows (k:=i) (by omega);obtain⟨cb,hbody⟩:=hout.body i (by omega);obtain⟨e1,e2,e3,e4,e5⟩:=hms.at_ i hi';have hsq:=fun h0=>ae4 hms hi' h0;obtain⟨x,hx⟩:∃x,x=gl ms i:=⟨_,rfl⟩
  rw[<- hx]at e1 e2 e3 e4 e5 hsq htp;rw[e1]at hbody;rw[e2]at q3 q6 q7;obtain⟨k1,k2⟩:=nu e5;have hv:=nG x.seq;have hbl:(fK x.seq x.key).length=(vi x.seq).length+x.key.size:=by unfold fK;rw[wM,mW]
  obtain⟨w1,w2,w3,w4,w5,⟨wa,w7⟩,w6⟩:=iD hbody;have hcut:=SA (cW _) hbody (sz:=1) (a:=(vi x.seq).length) (e:=(fK x.seq x.key).length) (m:=cb) rfl (by omega) (cW _) w3 (cW _);have hgl:∀j,j<(vi x.seq).length->gl (fK x.seq x.key) (0+j)=gl (vi x.seq) j:=fun j hj=>by
   rw[mA];grind [fK,cu]
  have hr3:=M4 (ms:=ms.take i) (x:=x);rw[hti,<- htp,hti1]at hr3;refine⟨_,_,_,_,q1,by omega,b',lo',o'+i*2,cs',by grind,q2,⟨⟨_,q3,_,rfl,q6⟩,⟨_,q4,q5⟩,trivial⟩,?_⟩;rw[q7,q8];have hpre:(fK x.seq x.key).length<100000/\(fK x.seq x.key).length<=cb/\0<=x.seq/\x.seq<4611686018427387904/\(vi x.seq).length<=(fK x.seq x.key).length/\∀j,j<(vi x.seq).length->gl (fK x.seq x.key) (0+j)=gl (vi x.seq) j:=⟨by omega,w3,e3,by omega,by omega,hgl⟩
  refine⟨⟨⟨fK x.seq x.key,cb,x.seq⟩,H2,vs.getD i undef⟩,rfl,rfl,⟨hpre,hbody⟩,fun _ _=>?_⟩;rw[w1,w2,show((vi x.seq).length:Int).toNat=(vi x.seq).length by omega];dsimp only[dR];refine⟨fun c2=>?_,fun c2=>?_⟩
  ·refine⟨w5,⟨by omega,by omega⟩,_,_,_,hcut,fun _=>⟨by omega,by omega,by omega,fun c2 v1 v2 v3=>⟨by simp only[bZ];omega,(i+1,c2),?_⟩⟩⟩
   grind [Yc,af.refl]
  ·have h0:i≠0:=fun e=>by grind
   have hsq:=hsq h0;have htl:(ms.take i).length<100000:=by omega
   refine⟨Me.mk (ms.take i) c,?_⟩;dsimp only;rw[hti];have hr0:af i 3 (aa dV (ms.take i)) (aa dV (ms.take i)):=af.refl _ _ _
   and_intros<;>first|exact cU|exact htl|(intro h_;revert h_)|omega|grind|rfl|exact af.refl _ _ _|exact cW _|(dsimp only;omega)|skip
   intro _ _;rw[hsq];refine⟨by simp only[bZ];omega,fun _=>⟨w5,⟨by omega,by omega⟩,_,_,_,hcut,fun _=>⟨by omega,by omega,by omega,fun c2 v1 v2 v3=>⟨by simp only[bZ];omega,(i+1,c2),?_⟩⟩⟩,fun e=>by grind⟩
   grind [Yc,af.refl]
 ·have hi':i=ms.length:=by have:=ug c1;omega
  subst hi';rw[zBd];refine⟨⟨H2,y1,c⟩,?_⟩
  grind [af.refl])
theorem Z9:av (Y Tryz.prog).G.X 129 DA:=bp gf Z8 ⟨MQ,SP,Z7,S2,trivial⟩
theorem ae6:fnBody (Y Tryz.prog) [] 204 Jx fun a=>[(204,[akC a],[])]:=fnBody.of (p :=
 Oj) (by kernel_rfl) (by
 delta aK ai aA az aN bK p5 aU bI bN aZ ag bL aq bQ Oj aC aS aI aD bf kq pQ aY bA lZ bS uz bw bM bE
 try dsimp -iota -proj only
 rintro⟨r,len,cap,v,n,rows⟩ ⟨h1,h2⟩;dsimp only at h1 h2 ⊢;simp only[Ay,bZ,tB,decide_eq_false_iff_not];refine⟨⟨0,?_⟩,fun k hk=>⟨fun c1=>?_,fun c1=>⟨(),?_⟩⟩⟩
 ·(and_intros<;>first|exact MG|skip)
  refine⟨fun i hi j hj=>?_⟩
  grind [Ar]
 ·have hk:k<len:=by omega
  have e:((len:Int)-1-k).toNat=len-1-k:=by omega
  rw[e];refine⟨by omega,by omega,by omega,by omega,by omega,by omega,by omega,k+1,?_⟩
  (and_intros<;>first|exact MG|skip)
  refine⟨fun i hi j hj=>?_⟩;have hj:j=0:=by omega
  subst hj;by_cases hik:i=r+(len-1-k)
  ·subst hik;have e3:(8*(k:Int)).toNat=8*(r+len-1-(r+(len-1-k))):=by omega
   rw[kK,e3];show Value.int .u8 _=_
   grind [Ar]
  ·rw[iY hik]
   grind [Ar]
 grind [af.refl])
theorem ae7:av (Y Tryz.prog).G.X 204 Jx:=bp gf ae6 trivial
theorem ae8:fnBody (Y Tryz.prog) [] 202 Jy fun a=>[(202,[akD a],[])]:=fnBody.of (p :=
 Om) (by kernel_rfl) (by
 delta cE aK ai aA az aG aN bK aU gI bI bN aZ ag bL aq bQ Om dI aJ aC aS aI aD bf aY sI bA lz bS bw bM bE
 try dsimp -iota -proj only
 rintro⟨r,len,cap,n,rows⟩ ⟨h1,h2⟩;dsimp only at h1 h2 ⊢;simp only[Ay,bZ,tB,decide_eq_false_iff_not];refine⟨⟨0,?_⟩,fun k hk=>⟨fun c1=>?_,fun c1=>⟨(),?_⟩⟩⟩
 ·(and_intros<;>first|exact MG|skip)
 ·have hk:k<len:=by omega
  refine⟨by omega,by omega,fun _=>⟨by omega,by omega,k+1,?_⟩⟩
  (and_intros<;>first|exact MG|skip)
 grind)
theorem ae9:av (Y Tryz.prog).G.X 202 Jy:=bp gf ae8 trivial
def DB(n:Int)(b:List Int)(j:Nat):Int:=if j<4 then 0 else if j<12 then EW (uw .u64 n) 8 (j-4)else if j=12 then(b.length:Int)else if j-13<b.length then gl b (j-13)else 0
def xR(n:Int)(b:List Int)(j:Nat):Int:=if j<4 then EW (p6 (DB n b)) 4 j else DB n b j
structure pU where
 at_:Nat
 fW:Int
 text:List Int
 slot:Nat
def al0(dv tx:Nat)(S:pU)(cap:Nat):List A:=[.ptr dv 0 0 0,.int .i64 S.at_,.int .i64 S.fW,.slc tx 0 1 S.text.length cap,.int .i64 S.slot]
def Hw(su tx dv:Nat)(S:pU)(cap:Nat):List (Nat×Chunk):=[(su,.obj 262 (al0 dv tx S cap)),(tx,.arr 5 [.int .u8] S.text.length (aa dA S.text))]
def P5(S:pU)(slot:Nat)(n:Int)(b:List Int):pU:=⟨S.at_,n,b,slot⟩
def HY(S:pU)(d:bH)(slot:Nat)(n:Int)(b:List Int):bH:=jq (jX d (S.at_+slot) 64 (xR n b))
structure S4 where
 S:pU
 cap:Nat
 d:bH
 slot:Nat
 n:Int
 b:List Int
 bc:Nat
def Ir:cB where
 α:=S4
 β:=Nat
 m:=5
 m':=6
 pre:=fun a=>a.S.at_+1<a.d.n/\a.slot<=1/\a.d.n<100000/\a.d.calls<900000000000/\1<=a.b.length/\a.b.length<=40
 args:=fun a=>[.a (.ptr 0 0 0 0),.a (.int .i64 a.slot),.a (.int .i64 a.n),.a (.slc 4 0 1 a.b.length a.bc)]
 hp:=fun a=>Hw 0 1 2 a.S a.cap++gW 2 3 a.d
 ro:=fun a=>mH 4 a.b
 res:=fun _ _=>.a (.lit .i64 0)
 eV:=fun a c=>Hw 0 5 2 (P5 a.S a.slot a.n a.b) c++gW 2 3 (HY a.S a.d a.slot a.n a.b)
def uI(y:pU)(x:bH)(z:Nat)(u:Prop):=y.at_+1<x.n/\z<=1/\kz x 900000000000 u
def oM(x:S4):pU:=P5 x.S x.slot x.n x.b
def qA(y:Nat)(x:pU)(z:Int)(u:Prop):=cm y x.at_/\z=x.fW/\u
def DC(x:S4):bH:=HY x.S x.d x.slot x.n x.b
theorem VU:fnBody (Y Tryz.prog) [(204,Jx),(203,Zo),(81,vq),(169,nC)] 174 Ir fun _=>[]:=fnBody.of (p :=
 ∀x:S4,uI x.S x.d x.slot (iR x.b 40)->qp 64 64 (cO 12 64/\cO 4 12/\Exists (Df 4 8 60 (dI x.n) 64 (qq (kq 0)) fun y=>aZ 12 64/\12<y.n/\cO 13 64/\64<=y.n/\OM (qu x.b) y (ur (mO (pQ y y.len) 12 0 (kq (lZ (ag (aj x.b))))) 13 (min (aj x.b) 51) (vY dA x.b)) fun z=>oG (ag x.S.at_) (ag x.slot) (∃u:UL,ah (ag x.S.at_+ag x.slot=ag u.i/\Dh u x.d z.n (pQ z z.len) (oE (ry u) fun w=>Dp x.b (∃v:Nat,aJ (ah (qA x.S.at_ (oM x) x.n ((0=aj (pU.text (oM x))/\0=v)/\cm x.slot (pU.slot (oM x))/\aj (pU.text (oM x))=0/\l5 (jq w) (DC x))))) (gq 0 (aj x.b) 1 0 fun v=>∃s:Nat,aJ (ah (qA x.S.at_ (oM x) x.n (dF (0+aj x.b) (aj (pU.text (oM x))) v s (cm x.slot (pU.slot (oM x))) 1 (vR (vY dA x.b)) (aa dA (pU.text (oM x))) (l5 (jq w) (DC x)))))))))))) (by kernel_rfl) (by
 delta aK aL aj ai aA az gq cm dN p5 aU tO aP aZ ag aq dF dI aJ OM nE ah ry Dh qp uI xD cO oM kq Df pQ iR ax AN oE oG lZ Dg qq kz qu vY l5 vR eu qA DC y7 Dp
 try dsimp -iota -proj only
 rintro⟨u,cap,d,slot,n,b,bc⟩ ⟨h1,h2,h3,h4,h5,h6⟩;dsimp only at *;obtain⟨F1,hF1⟩:∃F:Nat->Int,F=fun k=>if 4<=k/\k<4+8 then EW (uw .u64 n) 8 (k-4)else 0:=⟨_,rfl⟩
 have hb8:uw .u8 (b.length:Int)=b.length:=by simp only[uw];omega
 have h0:af 64 1 (fun(x j:Nat)=>[Value.int IntKind.u8 (0:Int)].getD j (Value.tuple #[])) (cG fun _=>0):=oz fun _ _=>rfl
 repeat(first|refine And.intro (by omega) ?_|refine And.intro (by omega) ?_|refine And.intro (by omega) ?_)
 refine⟨qo.mk 4 8 60 (uw .u64 n) 64 (cG fun _=>0),?_⟩
 and_intros<;>first|exact cU|exact h0|(intro h_;revert h_)|omega|grind|rfl|grind|grind|grind|skip
 intro _ _;rw[show Ar (cG fun _=>0) 4 8 (uw .u64 n) 8=cG F1 by grind [De]];have hfin:af 64 1 (ur (mO (cG F1) 12 0 [Value.int .u8 (uw .u8 (b.length:Int))]) 13 (min b.length 51) fun(i j:Nat)=>aa dA b (0+i) j) (cG (DB n b)):=by
  rw[hb8,show min b.length 51=b.length by omega];refine oz fun k hk=>?_;simp only[ur,cG,aa,dA,G3,mA,hF1,DB,w8]
  (repeat' split)<;>first|rfl|(exfalso;omega)|skip
 have hlast:af 64 1 (Ar (cG (DB n b)) 0 4 (p6 (DB n b)) 4) (cG (xR n b)):=by
  rw[De (by omega)];refine oz fun k hk=>?_;simp only[cG,xR,Az,true_and,mA,LL]
 repeat(first|refine And.intro (by omega) ?_|refine And.intro (by dsimp only;omega) ?_|refine And.intro (by omega) ?_)
 refine⟨C3.mk 1 4 60 60 64 (cG (DB n b)),?_⟩
 and_intros<;>first|exact cU|exact hfin|(intro h_;revert h_)|omega|grind|rfl|grind|grind|grind|skip
 intro _ _;refine⟨qo.mk 0 4 64 (p6 (DB n b)) 64 (cG (DB n b)),?_⟩
 and_intros<;>first|exact cU|exact hfin|(intro h_;revert h_)|omega|with_reducible exact af.refl _ _ _|rfl|grind|grind|grind|skip
 intro _ _ _;refine⟨by simp only[bZ];omega,UL.mk d (u.at_+slot) 0 64 64 64 (xR n b),?_⟩;dsimp only
 and_intros<;>first|exact cU|exact hlast|(intro h_;revert h_)|omega|grind [af.refl]|rfl|exact af.refl _ _ _|exact cW _|(dsimp only;omega)|skip
 intro _ _;refine⟨jX d (u.at_+slot) 64 fun j=>xR n b (0+j),?_⟩;have e0:(fun j=>xR n b (0+j))=xR n b:=by funext j;rw[mA]
 have hn:(jX d (u.at_+slot) 64 (xR n b)).n<100000:=h3;have hc:(jX d (u.at_+slot) 64 (xR n b)).calls<1000000000000:=by show d.calls+1<_;omega
 rw[e0]
 and_intros<;>first|exact cU|exact hn|exact hc|(intro h_;revert h_)|omega|grind [af.refl]|rfl|exact af.refl _ _ _|exact cW _|(dsimp only;omega)|skip
 intro _ _ q hq;refine⟨fun e=>by grind,fun _=>?_⟩;have hr:af b.length 1 (bq (aV 1 []) 0 0 fun(i j:Nat)=>aa dA b (0+i) j) (aa dA b):=⟨fun i hi j hj=>by
  simp only[bq,uh,if_false,LL,mA]⟩
 refine⟨by omega,by omega,by omega,fun c q1 q2 q3=>⟨c,?_⟩⟩
 grind [P5,HY,af.refl])
theorem Km:av (Y Tryz.prog).G.X 174 Ir:=bp gf VU ⟨ae7,Ij,ve,lR,trivial⟩
structure aha where
 at_:Nat
 d:bH
 b:List Int
 bc:Nat
def uJ(d:bH)(at_:Nat)(b:List Int):bH:=HY ⟨at_,0,[],0⟩ (jq (jX (jX d at_ 64 fun _=>0) (at_+1) 64 fun _=>0)) 0 1 b
def VV:cB where
 α:=aha
 β:=Nat
 m:=3
 m':=5
 pre:=fun a=>a.at_+1<a.d.n/\a.d.n<100000/\a.d.calls<800000000000/\1<=a.b.length/\a.b.length<=40
 args:=fun a=>[.a (.ptr 0 0 0 0),.a (.int .i64 a.at_),.a (.slc 2 0 1 a.b.length a.bc)]
 hp:=fun a=>gW 0 1 a.d
 ro:=fun a=>mH 2 a.b
 res:=fun _ _=>.nR [.a (.ptr 3 0 0 0),.a (.lit .i64 0)]
 eV:=fun a c=>Hw 3 4 0 ⟨a.at_,1,a.b,0⟩ c++gW 0 1 (uJ a.d a.at_ a.b)
theorem aa0:fnBody (Y Tryz.prog) [(174,Ir),(81,vq),(169,nC)] 127 VV fun _=>[]:=fnBody.of (p :=
 ∀x:aha,x.at_+1<x.d.n/\kz x.d 800000000000 (iR x.b 40)->aK (bF 0 (ag x.at_)) (qw x.d.n/\jo (bg (aN (ag x.at_) (ag x.d.n-(1:Int)))) (∃z:Nat,False) (aN 40 (ag (aj x.b))) (ai (ag x.at_+(0:Int))/\qp 64 64 (∃z:UL,ah (ag x.at_+(0:Int)=ag z.i/\Dh z x.d 64 (qq (kq 0)) (aY x.at_ (qp 64 64 (∃u:UL,ah (bw x.at_ u.i (Dh u (ry z) 64 (qq (kq 0)) (oE (ry u) fun v=>∃y:S4,ah (aS y.slot ((1:Int)=y.n/\cN x.b y.b x.bc y.bc/\ah (qA x.at_ y.S 0 ((0=aj y.S.text/\0=y.cap)/\aS y.S.slot (aj y.S.text=0/\iZ (jq v) y.d (dr y.b x.b dA/\uI y.S y.d y.slot (iR y.b 40)/\∀w:Nat,True->∃s:Nat,ah (aJ (ah (cm (pU.at_ (oM y)) x.at_/\pU.fW (oM y)=(1:Int)/\cN (pU.text (oM y)) x.b w s/\cm (pU.slot (oM y)) 0/\dr x.b (pU.text (oM y)) dA/\l5 (DC y) (uJ x.d x.at_ x.b)))))))))))))))))))) (∃z:Nat,False)) (by kernel_rfl) (by
 delta aK aL aj ai aA az aN cm p5 aU dr bI aP jo ag aq bF aJ nE ah ry Dh aS qp uI oM kq bg iR aY ax AN oE cN qq kz l5 qA DC bw dc qw
 try dsimp -iota -proj only
 rintro⟨at_,d,b,bc⟩ ⟨h1,h2,h3,h4,h5⟩;dsimp only at *;have h0:af 64 1 (fun(x j:Nat)=>[Value.int IntKind.u8 (0:Int)].getD j (Value.tuple #[])) (cG fun _=>0):=oz fun _ _=>rfl;refine⟨fun _=>⟨by simp only[bZ];omega,fun c=>by grind,fun _=>⟨fun c=>by grind,fun _=>?_⟩⟩,fun c=>by grind⟩;refine⟨by simp only[bZ];omega,by omega,by omega,by omega,UL.mk d at_ 0 64 64 64 fun _=>0,?_⟩;dsimp only
 and_intros<;>first|exact cU|exact h0|(intro h_;revert h_)|omega|grind [af.refl]|rfl|exact af.refl _ _ _|exact cW _|(dsimp only;omega)|skip
 intro _ _;refine⟨by simp only[bZ];omega,by omega,by omega,by omega,UL.mk (jX d at_ 64 fun _=>0) (at_+1) 0 64 64 64 fun _=>0,?_⟩;have hn1:at_+1<(jX d at_ 64 fun _=>0).n:=h1;have hn2:(jX d at_ 64 fun _=>0).n<100000:=h2;have hc2:(jX d at_ 64 fun _=>0).calls<1000000000000:=by show d.calls+1<_;omega
 dsimp only
 and_intros<;>first|exact cU|exact h0|exact hn1|exact hn2|exact hc2|(intro h_;revert h_)|omega|grind [af.refl]|rfl|exact af.refl _ _ _|exact cW _|(dsimp only;omega)|skip
 intro _ _;obtain⟨D,hD⟩:∃D,D=jX (jX d at_ 64 fun _=>0) (at_+1) 64 fun _=>0:=⟨_,rfl⟩
 rw[<- hD];have hn3:D.n=d.n:=by rw[hD];rfl
 have hc3:D.calls=d.calls+2:=by rw[hD];rfl
 refine⟨D,?_⟩
 and_intros<;>first|exact cU|(intro h_;revert h_)|omega|grind [af.refl]|rfl|exact af.refl _ _ _|exact cW _|(dsimp only;omega)|skip
 intro _ _;have hn4:at_+1<(jq D).n:=by show at_+1<D.n;omega
 have hn5:(jq D).n<100000:=by show D.n<_;omega
 have hc4:(jq D).calls<900000000000:=by show D.calls+1<_;omega
 refine⟨S4.mk ⟨at_,0,[],0⟩ 0 (jq D) 0 1 b bc,?_⟩;dsimp only
 and_intros<;>first|exact cU|exact hn4|exact hn5|exact hc4|(intro h_;revert h_)|omega|grind [af.refl]|rfl|exact af.refl _ _ _|exact cW _|(dsimp only;omega)|skip
 grind [P5,uJ,af.refl])
theorem aa1:av (Y Tryz.prog).G.X 127 VV:=bp gf aa0 ⟨Km,ve,lR,trivial⟩
def VW(f:Nat->Int):Int:=uw .i64 (gB f 4 8)
def Cg(S:pU)(f:Nat->Int):Bool:=(p6 f == gB f 0 4)&&(decide (S.fW<VW f)&&decide (f 12<=40))
def tF(S:pU)(k:Nat)(f:Nat->Int):pU:=if Cg S f then⟨S.at_,VW f,(List.range (f 12).toNat).map fun i=>f (13+i),k⟩else S
def fZ(at_:Nat)(d:bH):Nat->pU
 |0=>⟨at_,0,[],0⟩
 |k+1=>tF (fZ at_ d k) k (d.now (at_+k))
structure P6 where
 at_:Nat
 d:bH
def P7:cB where
 α:=P6
 β:=Nat
 m:=2
 m':=4
 pre:=fun a=>a.at_+1<a.d.n/\a.d.n<100000/\(fZ a.at_ a.d 2).fW≠0/\(∀k,k<2->Cg (fZ a.at_ a.d k) (a.d.now (a.at_+k))=true->1<=a.d.now (a.at_+k) 12)
 args:=fun a=>[.a (.ptr 0 0 0 0),.a (.int .i64 a.at_)]
 hp:=fun a=>[]
 ro:=fun a=>gW 0 1 a.d
 res:=fun _ _=>.nR [.a (.ptr 2 0 0 0),.a (.lit .i64 0)]
 eV:=fun a c=>Hw 2 3 0 (fZ a.at_ a.d 2) c
def S.sup(s:S)(su dv:Nat)(u:pU)(cap:Nat):S:=(s.at_ su (.obj 262 (al0 dv s.nx u cap))).new (.arr 5 [.int .u8] u.text.length (aa dA u.text))
def ajC(a:P6):An:=.flat 7 (Nat×Nat) (fun s x=>(S.sup s (s.tg 6) 0 (fZ a.at_ a.d x.1) x.2).int 23 x.1) (fun _ x=>x.1<=2) (fun _ x=>2-x.1)
def Kn(x y:pU)(z u:Nat)(v:Prop):=qA x.at_ y x.fW (cN x.text y.text z u/\cm x.slot y.slot/\v)
def rL(x y:pU)(z u:Nat)(v:Prop):=Kn x y z u (dr y.text x.text dA/\v)
def P8(x:P6)(y:Prop):=ah (aO (bg (aN (ag x.at_) (ag x.d.n-(1:Int))))/\lB (bf x.at_/\ah y))
def zy(y:Nat)(x:bH):=y+1<x.n/\x.n<100000/\(fZ y x 2).fW≠(0:Int)/\∀z:Nat,z<2->aq (Cg (fZ y x z) (x.now (y+z)))->(1:Int)<=x.now (y+z) 12
def zz(x:P6)(y:Nat×Nat):List Int:=(fZ x.at_ x.d y.fst).text
def VX(y:Nat×Nat)(x:P6):=iP y fun z=>P8 x (Kn (fZ x.at_ x.d y.fst) (fZ x.at_ x.d z.fst) y.snd z.snd (iZ x.d x.d (dr (zz x z) (zz x y) dA/\bL z.fst 2 y.fst)))
def VY(x:P6)(y z:Nat×Nat)(u:As)(v w:Prop):=P8 x (qA (fZ x.at_ x.d y.fst).at_ (fZ x.at_ x.d z.fst) (xh u) (v/\cm y.fst (fZ x.at_ x.d z.fst).slot/\iZ x.d x.d (w/\bL z.fst 2 y.fst)))
def Gi(x:RdA):Nat:=aC ((13:Int)+x.d.now x.i 12)-13
theorem aa2:fnBody (Y Tryz.prog) [(202,Jy),(203,Zo),(201,Eh)] 170 P7 fun a=>[(170,[ajC a],[])]:=fnBody.of (p :=
 ∀x:P6,zy x.at_ x.d->aK (bF 0 (ag x.at_)) (qw x.d.n/\aK (bg (aN (ag x.at_) (ag x.d.n-(1:Int)))) (∃z:Nat,False) (jM (fun z=>P8 x (qA x.at_ (fZ x.at_ x.d z.fst) 0 ((0=aj (zz x z)/\0=z.snd)/\aS (fZ x.at_ x.d z.fst).slot (iZ x.d x.d (aj (zz x z)=0/\bE z.fst 2))))) fun z=>z.fst<=2->aI (ag z.fst) 2 (ai (ag x.at_+ag z.fst)/\∃y:RdA,ah (ag x.at_+ag z.fst=ag y.i/\iZ x.d y.d ((y.i<y.d.n/\y.d.n<100000)/\∀u:Nat,64<=u->fm 12 u/\cO 4 12/\vZ 4 8 u 4 (y.d.now y.i) fun s=>cO 4 64/\fm 4 u/\Exists (Dg (u-4) 64 (cG (y.d.now y.i)) fun t=>vZ 0 4 u 0 (y.d.now y.i) fun f=>tV (xD t t.len == sI f f.len) (fZ x.at_ x.d z.fst).fW (aN (fZ x.at_ x.d z.fst).fW (xh s)) (aZ 12 64/\12<64/\(lz (y.d.now y.i 12)->aK (bF (y.d.now y.i 12) 40) (aZ 12 64/\12<64/\(lz (y.d.now y.i 12)->ai ((13:Int)+y.d.now y.i 12)/\sL ((13:Int)+y.d.now y.i 12) u 13 (∀g:Bool,(aq g->Gi y=0)->aK g (iP z fun v=>VY x z v s (0=aj (zz x v)/\0=v.snd) (aj (zz x v)=0)) (0<=0/\13+Gi y<=64/\gq 0 (Gi y) 1 0 fun v=>iP z fun w=>VY x z w s (ax (0+Gi y) (aj (zz x w)) v w.snd) (dc (zz x w) (0+Gi y) (vR fun h j=>jm (y.d.now y.i (13+h))) dA))))) (VX z x))) (VX z x))))) (jK (fZ x.at_ x.d z.fst).fW 0 (∃y:Nat,False) (∃y:Nat,ah (aJ (ah (rL (fZ x.at_ x.d z.fst) (fZ x.at_ x.d 2) z.snd y (True /\
 True)))))))) (∃z:Nat,False)) (by kernel_rfl) (by
 delta aK aO aj ai aA az gq aN cm aU tO tV dr bI fm aP aZ Kn ag bD xh bL aq bF iP jm aJ aC vZ ah rL aS aI P8 xD cO zy bf bg aY ax jK sI VX Dg cN lz lB sL zz VY Gi vR eu qA y7 jM bw bM dc sK bE qw
 try dsimp -iota -proj only
 rintro⟨at_,d⟩ ⟨h1,h2,h3,h4⟩;dsimp only at *;refine⟨fun _=>⟨by simp only[bZ];omega,fun c=>by grind,fun _=>⟨⟨(0,0),?_⟩,fun x hx=>?_⟩⟩,fun c=>by grind⟩
 ·grind [fZ,af.refl]
 obtain⟨k,cap⟩:=x;have hk:k<=2:=hx;dsimp only;refine⟨fun c1=>?_,fun c1 hr=>?_⟩
 ·have hk2:k<2:=by have:=qi c1;omega
  have hd4:=h4 k hk2;have hst:fZ at_ d (k+1)=tF (fZ at_ d k) k (d.now (at_+k)):=rfl;obtain⟨u,hu⟩:∃u,u=fZ at_ d k:=⟨_,rfl⟩
  obtain⟨F,hF⟩:∃F,F=d.now (at_+k):=⟨_,rfl⟩
  rw[<- hu,<- hF]at hst hd4;rw[<- hu];have hin:at_+k<d.n:=by omega
  refine⟨by simp only[bZ];omega,RdA.mk d (at_+k),?_⟩;dsimp only;rw[<- hF]
  and_intros<;>first|exact cU|(intro h_;revert h_)|omega|grind [af.refl]|rfl|exact af.refl _ _ _|exact cW _|(dsimp only;omega)|skip
  intro b hb
  repeat(first|refine And.intro (by omega) ?_|refine And.intro (by omega) ?_|refine And.intro (by omega) ?_)
  have eG:∀r len,mF (fun i=>u8 (cG F) (r+i)) len=gB F r len:=fun _ _=>rfl;have eS:eW .xor .u32 4294967295 (vQ (fun i=>u8 (cG F) (4+i)) 60)=p6 F:=rfl;refine⟨As.mk 4 8 (b-4) 64 (cG F),?_⟩
  and_intros<;>first|exact cU|(intro h_;revert h_)|omega|grind [af.refl]|rfl|grind|grind|grind|skip
  intro _ _
  repeat(first|refine And.intro (by omega) ?_|refine And.intro (by omega) ?_|refine And.intro (by omega) ?_)
  refine⟨C3.mk 1 4 60 (b-4) 64 (cG F),?_⟩
  and_intros<;>first|exact cU|(intro h_;revert h_)|omega|grind [af.refl]|rfl|grind|grind|grind|skip
  intro _ _;refine⟨As.mk 0 4 (b-0) 64 (cG F),?_⟩
  and_intros<;>first|exact cU|(intro h_;revert h_)|omega|grind [af.refl]|rfl|grind|grind|grind|skip
  intro _ _;dsimp only;rw[eG,eG,eS,show uw .i64 (gB F 4 8)=VW F from rfl];refine⟨fun c2 r1=>⟨fun c3=>⟨⟨by omega,by omega⟩,by omega,fun r2=>⟨fun c4=>⟨⟨by omega,by omega⟩,by omega,fun _=>?_⟩,fun c4=>?_⟩⟩,fun c3=>?_⟩,fun c2=>?_⟩
  ·have hG:Cg u F=true:=by unfold Cg;rw[c2,c3,c4];rfl
   have c4:=qi c4;have h12:=hd4 hG;obtain⟨m,hm⟩:∃m:Nat,F 12=m:=⟨(F 12).toNat,by omega⟩
   have hs:fZ at_ d (k+1)=⟨u.at_,VW F,(List.range m).map fun i=>F (13+i),k⟩:=by
    rw[hst];unfold tF;rw[hG,hm];rfl
   rw[hm,show((13:Int)+(m:Int)).toNat-13=m by omega];refine⟨by simp only[bZ];omega,⟨by omega,by omega⟩,⟨by omega,by omega⟩,fun q hq=>⟨fun e=>by grind,fun _=>⟨by omega,by omega,by omega,fun c q1 q2 q3=>⟨by simp only[bZ];omega,(k+1,c),?_⟩⟩⟩⟩;have hr:af m 1 (bq (aV 1 []) 0 0 fun(i j:Nat)=>Value.int IntKind.u8 (F (13+i))) (aa dA ((List.range m).map fun i=>F (13+i))):=⟨fun i hi j hj=>by
    obtain rfl:j=0:=by omega
    simp only[bq,uh,if_false,LL,aa,dA,G3]
    grind [b8]⟩
   grind [af.refl]
  ·have hG:Cg u F=false:=by unfold Cg;rw[c2,c3,c4];rfl
   have hs:fZ at_ d (k+1)=u:=by rw[hst];unfold tF;rw[hG];rfl
   refine⟨by simp only[bZ];omega,(k+1,cap),?_⟩
   grind [af.refl]
  ·have hG:Cg u F=false:=by unfold Cg;rw[c2,c3];rfl
   have hs:fZ at_ d (k+1)=u:=by rw[hst];unfold tF;rw[hG];rfl
   refine⟨by simp only[bZ];omega,(k+1,cap),?_⟩
   grind [af.refl]
  ·have hG:Cg u F=false:=by unfold Cg;rw[c2];rfl
   have hs:fZ at_ d (k+1)=u:=by rw[hst];unfold tF;rw[hG];rfl
   refine⟨by simp only[bZ];omega,(k+1,cap),?_⟩
   grind [af.refl]
 ·have:k=2:=by have:=ug c1;omega
  subst this;refine⟨fun c=>absurd (eq_of_beq c) h3,fun _=>⟨cap,?_⟩⟩
  grind [af.refl])
theorem aa3:av (Y Tryz.prog).G.X 170 P7:=bp gf aa2 ⟨ae9,Ij,Hg,trivial⟩
structure VZ where
 S:pU
 cap:Nat
 d:bH
 b:List Int
 bc:Nat
def V0:cB where
 α:=VZ
 β:=Nat
 m:=5
 m':=6
 pre:=fun a=>a.S.at_+1<a.d.n/\a.S.slot<=1/\a.d.n<100000/\a.d.calls<900000000000/\1<=a.b.length/\a.b.length<=40/\0<=a.S.fW/\a.S.fW<1000000000000
 args:=fun a=>[.a (.ptr 0 0 0 0),.a (.slc 4 0 1 a.b.length a.bc)]
 hp:=fun a=>Hw 0 1 2 a.S a.cap++gW 2 3 a.d
 ro:=fun a=>mH 4 a.b
 res:=fun _ _=>.a (.lit .i64 0)
 eV:=fun a c=>Hw 0 5 2 (P5 a.S (1-a.S.slot) (a.S.fW+1) a.b) c++gW 2 3 (HY a.S a.d (1-a.S.slot) (a.S.fW+1) a.b)
def Ko(x:VZ):bH:=HY x.S x.d (1-x.S.slot) (x.S.fW+(1:Int)) x.b
def Kp(x:VZ):pU:=P5 x.S (1-x.S.slot) (x.S.fW+(1:Int)) x.b
def P9(x:VZ):=uI x.S x.d x.S.slot (1<=aj x.b/\aj x.b<=40/\aZ x.S.fW 1000000000000)
theorem aa4:fnBody (Y Tryz.prog) [(174,Ir)] 146 V0 fun _=>[]:=fnBody.of (p :=
 ∀x:VZ,P9 x->aI 40 (ag (aj x.b)) (∃z:Nat,(1:Int)=0/\ah (rL x.S (Kp x) x.cap z (l5 x.d (Ko x)))) (ai (ag x.S.slot)->ai ((1:Int)-ag x.S.slot)/\oG x.S.fW 1 (∃y:S4,ah ((1:Int)-ag x.S.slot=ag y.slot/\x.S.fW+(1:Int)=y.n/\cN x.b y.b x.bc y.bc/\ah (rL x.S y.S x.cap y.cap (iZ x.d y.d (dr y.b x.b dA/\uI y.S y.d y.slot (iR y.b 40)/\∀u:Nat,True->∃v:Nat,aJ (ah (rL (oM y) (Kp x) u v (l5 (DC y) (Ko x))))))))))) (by kernel_rfl) (by
 delta aK aj ai aA az aN cm aU dr aZ Kn ag aq aJ ah rL aI uI oM iR ax oG cN kz l5 Ko qA DC Kp P9 dc
 try dsimp -iota -proj only
 rintro⟨u,cap,d,b,bc⟩ ⟨h1,h2,h3,h4,h5,h6,h8,h9⟩;dsimp only at *;have e:(1:Int)-u.slot=((1-u.slot:Nat):Int):=by omega
 have h2':1-u.slot<=1:=by omega
 refine⟨fun c=>by grind,fun _ _=>⟨by simp only[bZ];omega,fun _=>⟨by simp only[bZ];omega,S4.mk u cap d (1-u.slot) (u.fW+1) b bc,?_⟩⟩⟩
 grind [af.refl])
theorem aa5:av (Y Tryz.prog).G.X 146 V0:=bp gf aa4 ⟨Km,trivial⟩
structure ahb where
 S:pU
 cap:Nat
def V2:cB where
 α:=ahb
 β:=Nat
 m:=3
 m':=4
 pre:=fun a=>1<=a.S.text.length/\a.S.text.length<=40
 args:=fun a=>[.a (.ptr 0 0 0 0)]
 ro:=fun a=>Hw 0 1 2 a.S a.cap
 post:=fun a c=>a.S.text.length<=c
 res:=fun a c=>.a (.slc 3 0 1 a.S.text.length c)
 eV:=fun a _=>mH 3 a.S.text
def Qa(x:List Int)(v:Nat->Prop)(w:Nat)(z:Int->List Value)(s:Nat->Prop):=Dp x (∃y:Nat,(0=aj x/\0=y)/\aj x=0/\v y/\True) (gq 0 (aj x) w 0 fun y=>∃u:Nat,iQ (0+aj x) (aj x) y u 1 (vR (vY z x)) (aa z x) (s u) True)
theorem aa6:fnBody (Y Tryz.prog) [] 171 V2 fun _=>[]:=fnBody.of (p :=
 ∀x:ahb,iR x.S.text 40->Qa x.S.text (fun y=>aj x.S.text<=y) 1 dA fun y=>aj x.S.text<=y) (by kernel_rfl) (by
 delta aK aj aA gq aU aq iQ ah Qa iR ax qu vY vR eu Dp
 try dsimp -iota -proj only
 rintro⟨u,cap⟩ ⟨h1,h2⟩;dsimp only at *;intro q hq;refine⟨fun e=>by grind,fun _=>⟨by omega,by omega,by omega,fun c q1 q2 q3=>⟨c,?_⟩⟩⟩;have hr:af u.text.length 1 (bq (aV 1 []) 0 0 fun(i j:Nat)=>aa dA u.text (0+i) j) (aa dA u.text):=⟨fun i hi j hj=>by
  simp only[bq,uh,if_false,LL,mA]⟩
 grind)
theorem aa7:av (Y Tryz.prog).G.X 171 V2:=bp gf aa6 trivial
structure MetaM where
 bP:Int
 ay:Int
 ready:Int
 frozen:Bool
def Ah(m:MetaM):List A:=[.int .i64 m.bP,.int .i64 m.ay,.int .i64 m.ready,.bool m.frozen]
def Is:MetaM:=⟨0,0,0,false⟩
def Hx(n:Int):Bool:=decide (0<=n)&&decide (n<=1099511627776)
def pq(m:MetaM):Bool:=Hx m.bP&&(Hx m.ay&&(Hx m.ready&&((m.ready == 0||decide (m.ay<m.ready))&&(!m.frozen||decide (0<m.ready)))))
def fT(m:MetaM):List Int:=lp [m.bP,m.ay,m.ready,if m.frozen then 1 else 0]
variable{m:MetaM}
theorem Eu(h:pq m=true):(0<=m.bP/\m.bP<=1099511627776)/\(0<=m.ay/\m.ay<=1099511627776)/\0<=m.ready/\m.ready<=1099511627776:=by
 simp only[pq,Hx,jB,tB]at h;omega
def nsM(m:MetaM):List Int:=[m.bP,m.ay,m.ready]
theorem aea{i:Nat}(hi:i<3)(h:Hx (gl (nsM m) i)=false):pq m=false:=by
 rcases(by omega:i=0\/i=1\/i=2)with rfl|rfl|rfl
 ·have h:Hx m.bP=false:=h;simp[pq,h]
 ·have h:Hx m.ay=false:=h;simp[pq,h]
 ·have h:Hx m.ready=false:=h;simp[pq,h]
theorem ahc(h:∀i,i<3->Hx (gl (nsM m) i)=true):pq m=((m.ready == 0||decide (m.ay<m.ready))&&(!m.frozen||decide (0<m.ready))):=by
 have h0:Hx m.bP=true:=h 0 (by omega);have h1:Hx m.ay=true:=h 1 (by omega);have h2:Hx m.ready=true:=h 2 (by omega)
 grind [pq]
def Yd:cB where
 α:=MetaM
 m:=0
 m':=0
 args:=fun m=>[.agg (Ah m)]
 res:=fun m _=>.a (.bool (pq m))
def al1(m:MetaM):An:=.flat 2 Nat (fun s i=>s.int 13 i) (fun _ i=>i<=3/\∀j,j<i->Hx (gl (nsM m) j)=true) (fun _ i=>3-i)
def gC(x:MetaM)(y:Prop):=cR x.bP x.ay (az x.ready) (aO x.frozen/\y)
def Gj(y:Bool)(x:Prop)(z u:Int)(v:Bool)(w:Prop):=aK y x (ai z->ai u->aK v x w)
def Gk(x y:Int)(z:Prop)(u:Int)(v:Prop):=ai x->jo (aN x y) (Exists (bN z)) (aN u x) v
def V3(x:MetaM)(y:Prop):=az 3/\aQ 3 3/\bD (ah (gC x (cE 3 1 (aV 1 (cI x.bP (cI x.ay (gm x.ready))))/\gC x y)))
theorem aeb:fnBody (Y Tryz.prog) [] 145 Yd fun m=>[(145,[al1 m],[])]:=fnBody.of (p :=
 ∀x:MetaM,True->ai x.bP->ai x.ay->ai x.ready->(∃y:Nat,aS y (V3 x ((y<=3/\∀z:Nat,z<y->aq (Hx (gl (nsM x) z)))/\True)))/\∀y:Nat,(y<=3/\∀z:Nat,z<y->aq (Hx (gl (nsM x) z)))->aI (ag y) 3 (aZ (ag y) 3/\0+aG y<3/\Gk (dR (aV 1 (cI x.bP (cI x.ay (gm x.ready))) (0+aG y) 0)) 0 (false=pq x) 1099511627776 (bQ y fun u=>V3 x (dG u 3 (∀v:Nat,v<u->aq (Hx (gl (nsM x) v))) y))) (ai x.ready->Gj (x.ready == (0:Int)) (aK (bg x.frozen) (Exists (bN (true=pq x))) (ai x.ready->Exists (bN (aN 0 x.ready=pq x)))) x.ready x.ay (aN x.ay x.ready) (l6 (pq x)))) (by kernel_rfl) (by
 delta cE aK cR aQ aO ai aA az cI aG aN fB bK aU bI bN aZ jo ag bD dG aq bQ aC gC ah Gj aS aI aD bg Gk aY gm bA l6 V3 bw bM
 try dsimp -iota -proj only
 intro m _ _ _ _;have hg:∀i:Nat,i<3->dR (aV 1 [Value.int .i64 m.bP,Value.int .i64 m.ay,Value.int .i64 m.ready] (0+(i:Int).toNat) 0)=gl (nsM m) i:=fun i hi=>by
  rcases(by omega:i=0\/i=1\/i=2)with rfl|rfl|rfl<;>rfl
 have h0:∀j:Nat,j<0->Hx (gl (nsM m) j)=true:=fun j hj=>absurd hj (uh j);refine⟨⟨0,?_⟩,fun i hi=>?_⟩
 ·grind [af.refl]
 obtain⟨hi,hall⟩:=hi;refine⟨fun c1=>?_,fun c1 _=>?_⟩
 ·have hi3:i<3:=by have:=qi c1;omega
  rw[hg i hi3];refine⟨⟨by omega,by omega⟩,by omega,fun _=>⟨fun c2=>⟨(),?_,trivial,trivial⟩,fun c2=>⟨fun c3=>⟨(),?_,trivial,trivial⟩,fun c3=>⟨by simp only[bZ];omega,i+1,?_⟩⟩⟩⟩
  ·grind [aea,Hx]
  ·grind [aea,Hx]
  ·have h1:∀j,j<i+1->Hx (gl (nsM m) j)=true:=fun j hj=>by
    by_cases e:j=i
    ·subst e;have:=ug c2;have:=ug c3;simp only[Hx,jB,tB];omega
    grind
   grind [af.refl]
 grind [ahc])
theorem S5:av (Y Tryz.prog).G.X 145 Yd:=bp gf aeb trivial
def Qb:cB where
 α:=MetaM
 β:=Nat
 m:=0
 m':=1
 pre:=fun m=>pq m=true
 args:=fun m=>[.agg (Ah m)]
 res:=fun m c=>.a (.slc 0 0 1 (fT m).length c)
 eV:=fun m _=>mH 0 (fT m)
def V4(x:MetaM)(z:Int):=ai x.bP->ai x.ay->ai x.ready->∃y:qt,(0=aj y.l/\0=y.cap)/\Fq 4 y (aj y.l=0) x.bP (cI x.ay (cI x.ready (gm z))) fun u=>∃v:Nat,mX (y.l++lp y.ns) (fT x) u v dA True True
theorem aa8:fnBody (Y Tryz.prog) [(165,JD)] 128 Qb fun _=>[]:=fnBody.of (p :=
 ∀x:MetaM,aq (pq x)->aK x.frozen (V4 x 1) (V4 x 0)) (by kernel_rfl) (by
 delta aK aj ai aA cI fB aU dr aZ aq dF mX ah Fq ax gm V4 cN Fo dc
 try dsimp -iota -proj only
 intro m hm;have hr:=Eu hm;have key:∀f:Int,0<=f->f<=1->fT m=lp [m.bP,m.ay,m.ready,f]->∃a:qt,a=⟨[],0,[m.bP,m.ay,m.ready,f],4⟩/\([]++lp [m.bP,m.ay,m.ready,f])=fT m/\af 4 1 (aV 1 [Value.int .i64 m.bP,Value.int .i64 m.ay,Value.int .i64 m.ready,Value.int .i64 f]) (aa encI [m.bP,m.ay,m.ready,f])/\∀i:Nat,i<4->0<=gl [m.bP,m.ay,m.ready,f] i/\gl [m.bP,m.ay,m.ready,f] i<4611686018427387904:=fun f f0 f1 e=>by
  refine⟨_,rfl,by rw[e];rfl,⟨fun i hi j hj=>?_⟩,fun i hi=>?_⟩
  ·obtain rfl:j=0:=by omega
   rcases(by omega:i=0\/i=1\/i=2\/i=3)with rfl|rfl|rfl|rfl<;>rfl
  ·rcases(by omega:i=0\/i=1\/i=2\/i=3)with rfl|rfl|rfl|rfl
   ·show 0<=m.bP/\m.bP<_;omega
   ·show 0<=m.ay/\m.ay<_;omega
   ·show 0<=m.ready/\m.ready<_;omega
   ·show 0<=f/\f<_;omega
 have l100:∀f:Int,[m.bP,m.ay,m.ready,f].length<100:=fun _=>by simp
 refine⟨fun c _ _ _=>?_,fun c _ _ _=>?_⟩
 ·obtain⟨a,rfl,e1,e2,e3⟩:=key 1 (by omega) (by omega) (by grind [fT]);refine⟨qt.mk [] 0 [m.bP,m.ay,m.ready,1] 4,?_⟩
  grind [af.refl]
 ·obtain⟨a,rfl,e1,e2,e3⟩:=key 0 (by omega) (by omega) (by grind [fT]);refine⟨qt.mk [] 0 [m.bP,m.ay,m.ready,0] 4,?_⟩
  grind [af.refl])
theorem M6:av (Y Tryz.prog).G.X 128 Qb:=bp gf aa8 ⟨Fs,trivial⟩
structure wv where
 s:pU
 m:MetaM
def Gl(ke su tx dv:Nat)(k:wv)(cap:Nat):List (Nat×Chunk):=(ke,.obj 155 (.ptr su 0 0 0::Ah k.m))::Hw su tx dv k.s cap
def od(at_:Nat):wv:=⟨⟨at_,1,fT Is,0⟩,Is⟩
theorem Bb(h:pq m=true):1<=(fT m).length/\(fT m).length<=40:=by
 grind [nG,fT,lp]
@[reducible] def M7(a b:wv)(v w:Nat)(p:Prop):Prop:=a.m.bP=b.m.bP/\a.m.ay=b.m.ay/\a.m.ready=b.m.ready/\a.m.frozen=b.m.frozen/\0=0/\(↑a.s.at_:Int)=(↑b.s.at_:Int)/\a.s.fW=b.s.fW/\(0=0/\a.s.text.length=b.s.text.length/\v=w)/\(↑a.s.slot:Int)=(↑b.s.slot:Int)/\(b.s.text.length<=a.s.text.length/\af b.s.text.length 1 (aa dA a.s.text) (aa dA b.s.text))/\p
structure ahd where
 at_:Nat
 d:bH
def V5:cB where
 α:=ahd
 β:=Nat
 m:=2
 m':=5
 pre:=fun a=>a.at_+1<a.d.n/\a.d.n<100000/\a.d.calls<800000000000
 args:=fun a=>[.a (.ptr 0 0 0 0),.a (.int .i64 a.at_)]
 hp:=fun a=>gW 0 1 a.d
 res:=fun _ _=>.nR [.a (.ptr 2 0 0 0),.a (.lit .i64 0)]
 eV:=fun a c=>Gl 2 3 4 0 (od a.at_) c++gW 0 1 (uJ a.d a.at_ (fT Is))
def rM(y:Int)(x:MetaM)(z u:Int)(v:Bool)(w:Prop):=ah (y=x.bP/\z=x.ay/\u=x.ready/\v=x.frozen/\w)
theorem aa9:fnBody (Y Tryz.prog) [(128,Qb),(127,VV)] 82 V5 fun _=>[]:=fnBody.of (p :=
 ∀y:ahd,y.at_+1<y.d.n/\y.d.n<100000/\y.d.calls<800000000000->∃z:MetaM,(0:Int)=z.bP/\(0:Int)=z.ay/\(0:Int)=z.ready/\false=z.frozen/\aq (pq z)/\∀u:Nat,True->∃x:aha,ah (cm y.at_ x.at_/\cN (fT z) x.b u x.bc/\iZ y.d x.d (dr x.b (fT z) dA/\(x.at_+1<x.d.n/\kz x.d 800000000000 (iR x.b 40))/\∀v:Nat,True->∃w:Nat,ah (aJ (rM 0 (od y.at_).m 0 0 false (ah (qA x.at_ (od y.at_).s 1 (cN x.b (od y.at_).s.text v w/\cm 0 (od y.at_).s.slot/\dr (od y.at_).s.text x.b dA/\l5 (uJ x.d x.at_ x.b) (uJ y.d y.at_ (fT Is)))))))))) (by kernel_rfl) (by
 delta aj aA az cm dr ag aq aJ ah iR ax rM cN kz l5 qA dc
 try dsimp -iota -proj only
 rintro⟨at_,d⟩ ⟨h1,h2,h3⟩;dsimp only at *;obtain⟨l1,l2⟩:=Bb (show pq Is=true from rfl);refine⟨Is,rfl,rfl,rfl,rfl,rfl,fun b _=>⟨aha.mk at_ d (fT Is) b,?_⟩⟩;dsimp only
 and_intros<;>first|exact cU|exact l1|exact l2|(intro h_;revert h_)|omega|grind [af.refl]|rfl|exact af.refl _ _ _|exact cW _|(dsimp only;omega)|skip
 intro c _;refine⟨c,?_⟩;dsimp only[od]
 and_intros<;>first|exact cU|(intro h_;revert h_)|omega|grind [af.refl]|rfl|exact af.refl _ _ _|exact cW _|(dsimp only;omega)|skip)
theorem aaa:av (Y Tryz.prog).G.X 82 V5:=bp gf aa9 ⟨M6,aa1,trivial⟩
structure ahe where
 at_:Nat
 d:bH
 m:MetaM
def Kq:cB where
 α:=ahe
 β:=Nat
 m:=2
 m':=5
 pre:=fun a=>P7.pre ⟨a.at_,a.d⟩/\(fZ a.at_ a.d 2).text=fT a.m/\pq a.m=true
 args:=fun a=>[.a (.ptr 0 0 0 0),.a (.int .i64 a.at_)]
 ro:=fun a=>gW 0 1 a.d
 res:=fun _ _=>.nR [.a (.ptr 2 0 0 0),.a (.lit .i64 0)]
 eV:=fun a c=>Gl 2 3 4 0 ⟨fZ a.at_ a.d 2,a.m⟩ c
def Ev(x:Nat)(y:bH)(z:MetaM):=zy x y/\(fZ x y 2).text=fT z/\aq (pq z)
theorem aab:fnBody (Y Tryz.prog) [(170,P7),(171,V2),(177,MI),(145,Yd)] 125 Kq fun _=>[]:=fnBody.of (p :=
 ∀y:ahe,Ev y.at_ y.d y.m->∃z:P6,ah (cm y.at_ z.at_/\iZ y.d z.d (zy z.at_ z.d/\∀g:Nat,True->∃x:ahb,aM (rL (fZ z.at_ z.d 2) x.S g x.cap (iR x.S.text 40/\∀t:Nat,aj x.S.text<=t->aZ 0 4/\fm 0 (aj x.S.text)/\Exists (Dd 0 (aj x.S.text-0) (t-0) x.S.text fun u=>ai (xG 0 u)/\OI 1 4 (xG 0 u) (aj x.S.text) 0 (aC (xG 0 u)) t x.S.text 2 fun w s=>aZ 3 4/\OH (xH (xG 0 u) w s) (aj x.S.text) 0 t x.S.text (xH 0 u w) s fun f=>ai f.n->aK (xH (xH 0 u w) s f != ag (aj x.S.text)) (∃v:Nat,False) (∃v:MetaM,u.n=v.bP/\w.n=v.ay/\s.n=v.ready/\(f.n == (1:Int))=v.frozen/\cZ (aK (bg (pq v)) (∃h:Nat,False) (∃h:Nat,ah (aJ (rM u.n y.m w.n s.n (f.n == (1:Int)) (ah (rL (fZ z.at_ z.d 2) (fZ y.at_ y.d 2) g h (True/\True)))))))))))))) (by kernel_rfl) (by
 delta aK aj ai aA az aM cm aU dr fm aP aZ Kn ag Ev Fu aq OI aJ aC xH ah zc rL cO zy bg iR OH ax rM cN cZ qA xG Dd Db dc
 try dsimp -iota -proj only
 rintro⟨at_,d,m⟩ ⟨hp,htx,hm⟩;dsimp only at *;obtain⟨l1,l2⟩:=Bb hm;obtain⟨g1,g2,g3,g4⟩:=Eu hm;obtain⟨u,hu⟩:∃u,u=fZ at_ d 2:=⟨_,rfl⟩
 obtain⟨f,hf⟩:∃f:Int,f=if m.frozen then 1 else 0:=⟨_,rfl⟩
 have hf0:0<=f/\f<=1:=by rw[hf];split<;>omega
 obtain⟨P,hP⟩:∃P,P=vi m.bP:=⟨_,rfl⟩
 obtain⟨Q,hQ⟩:∃Q,Q=vi m.ay:=⟨_,rfl⟩
 obtain⟨R,hR⟩:∃R,R=vi m.ready:=⟨_,rfl⟩
 obtain⟨G,hG⟩:∃G,G=vi f:=⟨_,rfl⟩
 obtain⟨T,hT⟩:∃T,T=fT m:=⟨_,rfl⟩
 have hI:T=P++(Q++(R++G)):=by
  rw[hT];simp only[fT,lp,zBy,zBH,z6,hP,hQ,hR,hG,hf]
 have hL:T.length=P.length+(Q.length+(R.length+G.length)):=by rw[hI];simp only[wM]
 have fP:∀i,i<P.length->gl T (0+i)=gl P i:=fun i hi=>by rw[mA,hI,cu hi]
 have fQ:∀i,i<Q.length->gl T (P.length+i)=gl Q i:=fun i hi=>by
  rw[hI,bt,cu hi]
 have fR:∀i,i<R.length->gl T (P.length+Q.length+i)=gl R i:=fun i hi=>by
  rw[hI,T8,bt,bt,cu hi]
 have fG:∀i,i<G.length->gl T (P.length+Q.length+R.length+i)=gl G i:=fun i hi=>by
  rw[hI,T8,T8,bt,bt,bt]
 rw[<- hT]at htx l1 l2;rw[<- hu]at htx;refine⟨P6.mk at_ d,?_⟩;dsimp only;rw[<- hu]
 and_intros<;>first|exact cU|exact hp.1|exact hp.2.1|exact hp.2.2.1|exact hp.2.2.2|exact hp|(intro h_;revert h_)|omega|grind [af.refl]|rfl|exact af.refl _ _ _|exact cW _|(dsimp only;omega)|skip
 all_goals first|(rw[hu];exact hp.2.2.1)|skip
 intro b _;refine⟨ahb.mk u b,?_⟩;dsimp only;rw[htx]
 and_intros<;>first|exact cU|(intro h_;revert h_)|omega|grind [af.refl]|rfl|exact af.refl _ _ _|exact cW _|(dsimp only;omega)|skip
 intro c hc
 repeat(first|refine And.intro (by omega) ?_|refine And.intro (by omega) ?_|refine And.intro (by omega) ?_)
 refine⟨nW.mk T 0 T.length c m.bP,?_⟩;simp only[<- hP]
 and_intros<;>first|exact cU|exact fP|(intro h_;revert h_)|omega|grind [af.refl]|rfl|exact af.refl _ _ _|exact cW _|(dsimp only;omega)|skip
 intro _ _;refine⟨by simp only[bZ];omega,⟨by omega,by omega⟩,⟨by omega,by omega⟩,nW.mk T P.length (T.length-P.length) (c-P.length) m.ay,?_⟩;simp only[<- hQ]
 and_intros<;>first|exact cU|exact fQ|(intro h_;revert h_)|omega|grind [af.refl]|rfl|exact af.refl _ _ _|exact cW _|(dsimp only;omega)|skip
 intro _ _;refine⟨by simp only[bZ];omega,⟨by omega,by omega⟩,⟨by omega,by omega⟩,nW.mk T (P.length+Q.length) (T.length-(P.length+Q.length)) (c-(P.length+Q.length)) m.ready,?_⟩;simp only[<- hR]
 and_intros<;>first|exact cU|exact fR|(intro h_;revert h_)|omega|grind [af.refl]|rfl|exact af.refl _ _ _|exact cW _|(dsimp only;omega)|skip
 intro _ _;refine⟨by simp only[bZ];omega,⟨by omega,by omega⟩,⟨by omega,by omega⟩,nW.mk T (P.length+Q.length+R.length) (T.length-(P.length+Q.length+R.length)) (c-(P.length+Q.length+R.length)) f,?_⟩;simp only[<- hG]
 and_intros<;>first|exact cU|exact fG|(intro h_;revert h_)|omega|grind [af.refl]|rfl|exact af.refl _ _ _|exact cW _|(dsimp only;omega)|skip
 intro _ _;have hfz:(f == 1)=m.frozen:=by rw[hf];cases m.frozen<;>rfl
 refine⟨by simp only[bZ];omega,fun _=>⟨fun e=>by grind,fun _=>⟨m,rfl,rfl,rfl,hfz,trivial,fun _ _=>⟨fun e=>by grind,fun _=>⟨b,?_⟩⟩⟩⟩⟩
 grind [af.refl])
theorem aac:av (Y Tryz.prog).G.X 125 Kq:=bp gf aab ⟨aa3,aa7,JG,S5,trivial⟩
def kA(k:wv)(m:MetaM):Bool:=pq m&&(!decide (m.bP<k.m.bP)&&!decide (m.ay<k.m.ay))
def pI(k:wv)(m:MetaM):wv:=if kA k m then⟨P5 k.s (1-k.s.slot) (k.s.fW+1) (fT m),m⟩else k
def ga(k:wv)(d:bH)(m:MetaM):bH:=if kA k m then HY k.s d (1-k.s.slot) (k.s.fW+1) (fT m)else d
structure Mf where
 k:wv
 cap:Nat
 d:bH
 m:MetaM
def Qc:cB where
 α:=Mf
 β:=Nat
 m:=5
 m':=6
 pre:=fun a=>a.k.s.at_+1<a.d.n/\a.k.s.slot<=1/\a.d.n<100000/\a.d.calls<900000000000/\0<=a.k.s.fW/\a.k.s.fW<1000000000000
 args:=fun a=>[.a (.ptr 0 0 0 0),.agg (Ah a.m)]
 hp:=fun a=>Gl 0 1 2 3 a.k a.cap++gW 3 4 a.d
 res:=fun a _=>.a (.int .i64 (if kA a.k a.m then 0 else 1))
 eV:=fun a c=>Gl 0 1 5 3 (pI a.k a.m) c++gW 3 4 (ga a.k a.d a.m)
def nv(x y:MetaM)(z u:Prop):=x.bP=y.bP/\x.ay=y.ay/\x.ready=y.ready/\x.frozen=y.frozen/\z/\u
def V6(x:Mf):=∃y:Nat,(1:Int)=lC (kA x.k x.m)/\ah (M7 x.k (pI x.k x.m) x.cap y (l5 x.d (ga x.k x.d x.m)))
def DD(x:Mf):=uI x.k.s x.d x.k.s.slot (aZ x.k.s.fW 1000000000000)
theorem aad:fnBody (Y Tryz.prog) [(145,Yd),(128,Qb),(146,V0)] 100 Qc fun _=>[]:=fnBody.of (p :=
 ∀x:Mf,DD x->∃u:MetaM,nv x.m u True (aP (Gj (bg (pq u)) (V6 x) x.m.bP x.k.m.bP (aN x.m.bP x.k.m.bP) (ai x.m.ay->ai x.k.m.ay->aI x.m.ay x.k.m.ay (V6 x) (∃z:MetaM,nv x.m z (aq (pq z)) (∀v:Nat,True->∃y:VZ,ah (cN (fT z) y.b v y.bc/\ah (rL x.k.s y.S x.cap y.cap (iZ x.d y.d (dr y.b (fT z) dA/\P9 y/\∀w:Nat,True->∃t:Nat,(0:Int)=lC (kA x.k x.m)/\ah (nv x.m (pI x.k x.m).m (0=0) (rL (Kp y) (pI x.k x.m).s w t (l5 (Ko y) (ga x.k x.d x.m)))))))))))))) (by kernel_rfl) (by
 delta aK aj ai aA aN cm nv aU dr aP aZ Kn ag aq ah Gj rL aI uI lC bg ax cN kz V6 DD l5 Ko qA Kp P9 dc
 try dsimp -iota -proj only
 rintro⟨k,cap,d,m⟩ ⟨h1,h2,h3,h4,h5,h6⟩;dsimp only at *;have no:kA k m=false->pI k m=k/\ga k d m=d:=fun h=>⟨if_neg (by rw[h];decide),if_neg (by rw[h];decide)⟩
 refine⟨m,rfl,rfl,rfl,rfl,trivial,fun _ _=>⟨fun c=>?_,fun c _ _=>⟨fun c2=>?_,fun c2 _ _=>⟨fun c3=>?_,fun c3=>?_⟩⟩⟩⟩
 ·grind [kA,af.refl]
 ·grind [kA,af.refl]
 ·grind [kA,af.refl]
 ·have hm:pq m=true:=by simpa using c
  have hk:kA k m=true:=by unfold kA;rw[hm,c2,c3];rfl
  obtain⟨l1,l2⟩:=Bb hm;have e1:pI k m=⟨P5 k.s (1-k.s.slot) (k.s.fW+1) (fT m),m⟩:=if_pos hk;have e2:ga k d m=HY k.s d (1-k.s.slot) (k.s.fW+1) (fT m):=if_pos hk;rw[e1,e2,hk];refine⟨m,rfl,rfl,rfl,rfl,hm,fun bc _=>⟨VZ.mk k.s cap d (fT m) bc,?_⟩⟩
  grind [af.refl])
theorem Gm:av (Y Tryz.prog).G.X 100 Qc:=bp gf aad ⟨S5,M6,aa5,trivial⟩
structure pY where
 d:bH
 cL:cn
 cl:List (ByteArray×Int)
 jL:cn
 ms:List iH
 k:wv
 bP:Int
structure Ai where
 H:PH
 cy:jD
 x:Ix.dO
 xc:Nat
 jy:jD
 jc:Nat
 kc:Nat
def pY.fl(s:pY):r9:=⟨s.cL,s.d,s.cl⟩
def Ai.fl(p:Ai):yH:=⟨p.H,p.cy,p.x,p.xc⟩
def pY.jr(s:pY):RJ:=⟨s.jL,s.d,s.ms⟩
def Ai.jr(p:Ai):RK:=⟨p.H,p.jy,p.jc⟩
def stO(ca jr ke:Nat)(bP:Int):Chunk:=.obj 88 [.ptr ca 0 0 0,.ptr jr 0 0 0,.ptr ke 0 0 0,.int .i64 bP]
def zA(st ca cl dv ds ix it jr ma jl ke su tx pl:Nat)(s:pY)(p:Ai):List (Nat×Chunk) :=
 [(st,stO ca jr ke s.bP),(ca,.obj 205 [.ptr cl 0 0 0,.ptr ix 0 0 0]),(cl,js dv s.cL p.cy.lv)]++gW dv ds s.d++Ix.tS ix it p.x.t p.xc p.x.n p.x.used ++
 [(jr,jrO jl ma s.ms.length p.jc),(ma,.arr 228 xQ s.ms.length (aa dV s.ms)),(jl,js dv s.jL p.jy.lv)]++Gl ke su tx dv s.k p.kc++[(pl,.dg p.H)]
structure sX(s:pY)(p:Ai):Prop where
 fl:mK s.fl p.fl
 jl:cV p.H p.jy s.jL
 sep:∀z,z∈cC p.jy->z∉cC p.cy
 cap:s.ms.length<=p.jc
@[reducible] def sY(a b:pY)(p q:Ai)(r:Prop):Prop:=a.bP=b.bP/\0=0/\0=0/\0=0/\Fv a.cL b.cL p.cy.lv q.cy.lv (iZ a.d b.d (Cf p.x q.x p.xc q.xc (0=0/\CC a.ms b.ms p.jc q.jc (0=0/\Fv a.jL b.jL p.jy.lv q.jy.lv (0=0/\M7 a.k b.k p.kc q.kc r)))))
def HZ(H:PH)(c j:List Nat)(p:Ai):Prop:=∀z,H z≠none->z∉c->z∉j->p.H z=H z/\z∉cC p.cy/\z∉cC p.jy
def iM(m:MetaM):MetaM:={ m with bP:=m.bP+1 }
def gd(n:Nat):Nat:=min 200 ((n-162)/8)
structure xl where
 k:wv
 kc:Nat
 d:bH
 H:PH
 ms:List iH
 es:List (Option aW)
def M8(a:xl):bH:=ga a.k a.d (iM a.k.m)
def iN(a:xl):pY:=⟨M8 a,cH 162 (gd a.d.n) (M8 a),oL a.es (fV (cH 162 (gd a.d.n) (M8 a)).l) a.es.length,cH 2 20 (M8 a),a.ms,pI a.k (iM a.k.m),a.k.m.bP+1⟩
structure wz(a:xl):Prop where
 n:192<=a.d.n/\a.d.n<100000
 calls:a.d.calls<900000000000
 save:kA a.k (iM a.k.m)=true
 k:a.k.s.at_=0/\a.k.s.slot<=1/\0<=a.k.s.fW/\a.k.s.fW<1000000000000
 jr:∀H,DA.pre ⟨H,M8 a,2,20,a.ms⟩
 fl:∀H,zx.pre ⟨H,M8 a,162,gd a.d.n,a.es⟩
def Qd:cB where
 α:=xl
 β:=Ai
 m:=6
 m':=16
 pre:=fun a=>wz a
 args:=fun a=>[.a (.ptr 0 0 0 0),.a (.ptr 2 0 0 0)]
 hp:=fun a=>Gl 2 3 4 0 a.k a.kc++gW 0 1 a.d++[(5,.dg a.H)]
 post:=fun a b=>sX (iN a) b/\HZ a.H [] [] b
 res:=fun _ _=>.nR [.a (.ptr 6 0 0 0),.a (.lit .i64 0)]
 eV:=fun a b=>zA 6 7 8 0 1 9 10 11 12 13 2 3 14 15 (iN a) b
def aec:List (Nat×cB):=[(100,Qc),(129,DA),(130,zx)]
def jS(u:bH)(z:pY)(v:Ix.dO)(y:Ai)(w:Nat)(s:List iH)(t:Nat)(f:cn)(g:jD)(h:wv)(i:Nat)(j:Prop):=iZ u z.d (Cf v y.x w y.xc (ah (CC s z.ms t y.jc (cK f z.jL g y.jy (ah (M7 h z.k i y.kc j))))))
def bC(x:Prop):=aM (ah x)
def zB(y:xl)(x:Ai)(z:PH):=sX (iN y) x/\HZ z [] [] x
def Qe(x:Mf):Int:=ag (ga x.k x.d x.m).n-(162:Int)
theorem aae:fnBody (Y Tryz.prog) aec 83 Qd fun _=>[]:=fnBody.of (p :=
 ∀u:xl,wz u->oG u.k.m.bP 1 (∃z:Mf,rM (u.k.m.bP+(1:Int)) z.m u.k.m.ay u.k.m.ready u.k.m.frozen (ah (M7 u.k z.k u.kc z.cap (iZ u.d z.d (DD z/\∀h:Nat,True->aK (lC (kA z.k z.m) != (0:Int)) (∃w:Ai,False) (∃w:Ba,ah ((2:Int)=ag w.from_/\(20:Int)=ag w.au/\u.H=w.H/\iZ (ga z.k z.d z.m) w.d (P4 w/\∀t:RK,P3 t w->ai (Qe z)/\(8:Int)≠(0:Int)/\ai (Int.tdiv (Qe z) (8:Int))/\∃v:sU,ah ((162:Int)=ag v.from_/\qQ false 200 (Int.tdiv (Qe z) (8:Int))=ag v.au/\t.H=v.H/\iZ (ga z.k z.d z.m) v.d (Gd v.from_ v.au v.d (aju v.es (fV (cH v.from_ v.au v.d).l))/\∀s:yH,(mK (HX v) s/\∀g:Nat,zq (v.H g) (s.H g) s.y g)->fe u.k.m.bP->∃f:Ai,ah (aJ (bC (u.k.m.bP+(1:Int)=(iN u).bP/\aM (cK (HX v).L (iN u).cL s.y f.cy (jS (ga z.k z.d z.m) (iN u) s.x f s.cap w.ms t.cap (cH w.from_ w.au w.d) t.y (pI z.k z.m) h (s.H=f.H/\zB u f u.H/\True))))))))))))))))) (by kernel_rfl) (by
 delta aK ai az aM aU qQ aZ bY ag aq cq cK aJ ah jS uI lC Gd zq oG rM kz bC DD zB uF P3 Qe fe P4
 rintro⟨k,kc,d,H,ms,es⟩ ok hb;obtain⟨⟨n1,n2⟩,hcl,hsv,⟨k1,k2,k3,k4⟩,hjr,hfl⟩:=ok;dsimp only at *;have hm:pq (iM k.m)=true:=by
  have:=hsv;unfold kA at this;simp only[jB]at this;exact this.1
 obtain⟨g1,g2,g3,g4⟩:=Eu hm;have g1:0<=k.m.bP+1/\k.m.bP+1<=1099511627776:=g1;obtain⟨D,hD⟩:∃D,D=ga k d (iM k.m):=⟨_,rfl⟩
 have hDn:D.n=d.n:=by rw[hD];unfold ga;split<;>rfl
 have hk0:k.s.at_+1<d.n:=by omega
 have hjr:DA.pre ⟨H,D,2,20,ms⟩:=by rw[hD];exact hjr H
 obtain⟨j1,j2,j3,j4⟩:=hjr;have e:iN ⟨k,kc,d,H,ms,es⟩=⟨D,cH 162 (gd d.n) D,oL es (fV (cH 162 (gd d.n) D).l) es.length,cH 2 20 D,ms,pI k (iM k.m),k.m.bP+1⟩:=by rw[hD];rfl
 rw[e];refine⟨by simp only[bZ];omega,Mf.mk k kc d (iM k.m),?_⟩;dsimp only;rw[hsv,<- hD]
 and_intros<;>first|exact cU|exact kL|skip
 intro b _;refine⟨fun c=>absurd c (by decide),fun _=>⟨Ba.mk H D 2 20 ms,?_⟩⟩;dsimp only
 and_intros<;>first|exact cU|exact j2|exact j3|exact j4|(intro h_;revert h_)|omega|grind [af.refl]|rfl|exact af.refl _ _ _|exact cW _|(dsimp only;omega)|skip
 rintro⟨H1,y1,jc⟩ ⟨hl1,hf1,hc1⟩;dsimp only at hl1 hf1 hc1 ⊢;have hfl:zx.pre ⟨H1,D,162,gd d.n,es⟩:=by rw[hD];exact hfl H1
 obtain⟨f1,f2,f3⟩:=hfl;have hdv:((D.n:Int)-162).tdiv 8=(((d.n-162)/8:Nat):Int):=by
  rw[hDn,Int.tdiv_eq_ediv_of_nonneg (by omega)];omega
 rw[hdv];have hsg:(bif false then max (200:Int) (((d.n-162)/8:Nat):Int)else min 200 (((d.n-162)/8:Nat):Int))=(gd d.n:Nat):=by
  simp only[vv,gd];omega
 refine⟨by simp only[bZ];omega,by decide,by simp only[bZ];omega,sU.mk H1 D 162 (gd d.n) es,?_⟩;dsimp only
 and_intros<;>first|exact cU|exact hsg|exact f1|exact f2|exact f3|(intro h_;revert h_)|omega|grind [af.refl]|rfl|exact af.refl _ _ _|exact cW _|(dsimp only;omega)|skip
 rintro⟨H2,y2,x2,xc2⟩ ⟨hat2,hf2⟩ _;dsimp only at hf2 ⊢;refine⟨⟨H2,y2,x2,xc2,y1,jc,b⟩,?_⟩;have hat:sX ⟨D,cH 162 (gd d.n) D,oL es (fV (cH 162 (gd d.n) D).l) es.length,cH 2 20 D,ms,pI k (iM k.m),k.m.bP+1⟩ ⟨H2,y2,x2,xc2,y1,jc,b⟩ :=
  ⟨hat2,hl1.frame fun z hz=>(hf2 z (hl1.dom z hz)).1,fun z hz=>(hf2 z (hl1.dom z hz)).2,hc1⟩
 have hfr:HZ H [] [] ⟨H2,y2,x2,xc2,y1,jc,b⟩:=fun z hz _ _=>by
  grind
 grind [HX,af.refl])
theorem callParts:av (Y Tryz.prog).G.X 83 Qd:=bp gf aae ⟨Gm,Z9,Z5,trivial⟩
def iS(d:bH)(i:Nat):bH:=⟨d.n,fun r j=>if r<i/\j<64 then 0 else d.now r j,d.ru,fun r=>if r<i then true else d.loose r,d.calls+i⟩
structure Kr where
 d:bH
 H:PH
def zC(a:Kr):xl:=⟨od 0,0,uJ (iS a.d a.d.n) 0 (fT Is),a.H,[],[]⟩
def Ew:cB where
 α:=Kr
 β:=Ai
 m:=3
 m':=17
 pre:=fun a=>192<=a.d.n/\a.d.n<100000/\a.d.calls<100000000000/\wz (zC a)
 args:=fun a=>[.a (.ptr 0 0 0 0)]
 hp:=fun a=>gW 0 1 a.d++[(2,.dg a.H)]
 post:=fun a b=>sX (iN (zC a)) b/\HZ a.H [] [] b
 res:=fun _ _=>.nR [.a (.ptr 3 0 0 0),.a (.lit .i64 0)]
 eV:=fun a b=>zA 3 4 5 0 1 6 7 8 9 10 11 12 13 14 (iN (zC a)) b
def ahf(a:Kr):An:=.flat 5 Nat (fun s i=>((s.at_ 0 (.obj 116 [.slc 1 0 129 a.d.n a.d.n,.int .i64 (iS a.d i).calls])).at_ 1 (.arr 158 Hf a.d.n (eZ (iS a.d i)))).int 16 i) (fun _ i=>i<=a.d.n) (fun _ i=>a.d.n-i)
def ahg:List (Nat×cB):=[(81,vq),(82,V5),(83,Qd)]
def Qf(w:bH)(x:xl)(u:PH)(v:xl):=iZ w x.d (u=x.H/\wz x/\∀y:Ai,zB x y x.H->∃z:Ai,ah (aJ (bC (sY (iN x) (iN v) y z (y.H=z.H/\zB v z u/\True)))))
def Qg(x y z u:bH)(v w:Prop):=dF x.n y.n x.n y.n (cm z.calls u.calls) 129 (eZ z) (eZ u) (v/\w)
def Bc(x:bH)(y:Kr):=192<=x.n/\kz x 100000000000 (wz (zC y))
theorem V7:fnBody (Y Tryz.prog) ahg 46 Ew fun a=>[(46,[ahf a],[])]:=fnBody.of (p :=
 ∀x:Kr,Bc x.d x->aI (ag x.d.n) 192 (∃z:Ai,False) ((∃z:Nat,aS z (bf x.d.n/\vW (aQ x.d.n x.d.n/\cm x.d.calls (iS x.d z).calls/\aA x.d.n x.d.n 129 (eZ x.d) (eZ (iS x.d z))/\x.H=x.H/\bE z x.d.n)))/\∀z:Nat,z<=x.d.n->bS z x.d.n (qp 64 64 (∃y:UL,ah (cm z y.i/\(0=y.r/\64=y.len/\64=y.cap)/\Qg x.d y.d (iS x.d z) y.d (aA y.n 64 1 (qq (kq 0)) (cG y.src)) (AN y/\aP (bQ z fun u=>bf x.d.n/\vW (Qg (ry y) x.d (ry y) (iS x.d u) (x.H=x.H) (bL u x.d.n z))))))) (∃y:ahd,ah (aS y.at_ (Qg x.d y.d (iS x.d z) y.d (y.at_+1<y.d.n/\y.d.n<100000/\y.d.calls<800000000000) (∀u:Nat,True->∃v:xl,bC (M7 (od y.at_) v.k u v.kc (Qf (uJ y.d y.at_ (fT Is)) v x.H (zC x))))))))) (by kernel_rfl) (by
 delta aK cR aQ aL aO ai aA az aM aN cm bK p5 aU bI aP ag bD bL aq bQ dF aJ ah ry aS qp aI bf kq Qf aY ax AN vW bS qq kz bC Qg zB bw bM Bc bE
 try dsimp -iota -proj only
 rintro⟨d,H⟩ ⟨h1,h2,h3,hok⟩;dsimp only at *;have h0:af 64 1 (fun(x j:Nat)=>[Value.int IntKind.u8 (0:Int)].getD j (Value.tuple #[])) (cG fun _=>0):=oz fun _ _=>rfl;refine⟨fun c=>by grind,fun _=>⟨⟨0,?_⟩,fun i hi=>⟨fun c=>?_,fun c=>?_⟩⟩⟩
 ·have hr:af d.n 129 (eZ d) (eZ (iS d 0)):=⟨fun i hi j hj=>by simp[eZ,iS]⟩
  grind [iS]
 ·have hi2:i<d.n:=by have:=qi c;omega
  have hn:(iS d i).n=d.n:=rfl;have hc:(iS d i).calls<1000000000000:=by show d.calls+i<_;omega
  refine⟨by omega,by omega,by omega,UL.mk (iS d i) i 0 64 64 64 fun _=>0,?_⟩;dsimp only;rw[hn]
  and_intros<;>first|exact cU|exact h0|exact hc|(intro h_;revert h_)|omega|grind [af.refl]|rfl|exact af.refl _ _ _|exact cW _|(dsimp only;omega)|skip
  intro _ _;have hr:af d.n 129 (eZ (jX (iS d i) i 64 fun _=>0)) (eZ (iS d (i+1))):=⟨fun r hr j hj=>by
   simp only[eZ,jX,iS]
   grind⟩
  have hcl:((jX (iS d i) i 64 fun _=>0).calls:Int)=(iS d (i+1)).calls:=by show((d.calls+i+1:Nat):Int)=(d.calls+(i+1):Nat);omega
  have hn2:(jX (iS d i) i 64 fun _=>0).n=d.n:=rfl;have hn3:d.n<=(jX (iS d i) i 64 fun _=>0).n:=cW _;refine⟨by simp only[bZ];omega,i+1,?_⟩
  grind
 ·have:i=d.n:=by have:=ug c;omega
  subst this;have hn:(iS d d.n).n=d.n:=rfl;have hc:(iS d d.n).calls<800000000000:=by show d.calls+d.n<_;omega
  refine⟨ahd.mk 0 (iS d d.n),?_⟩;dsimp only;rw[hn]
  and_intros<;>first|exact cU|exact hc|(intro h_;revert h_)|omega|grind [af.refl]|rfl|exact af.refl _ _ _|exact cW _|(dsimp only;omega)|skip
  intro b _;have hok2:wz ⟨od 0,b,uJ (iS d d.n) 0 (fT Is),H,[],[]⟩:=⟨hok.n,hok.calls,hok.save,hok.k,hok.jr,hok.fl⟩
  refine⟨⟨od 0,b,uJ (iS d d.n) 0 (fT Is),H,[],[]⟩,?_⟩;dsimp only
  and_intros<;>first|exact cU|exact hok2|(intro h_;revert h_)|omega|grind [af.refl]|rfl|exact af.refl _ _ _|exact cW _|(dsimp only;omega)|skip
  rintro q ⟨q1,q2⟩;refine⟨q,?_⟩;have e:iN (zC ⟨d,H⟩)=iN ⟨od 0,b,uJ (iS d d.n) 0 (fT Is),H,[],[]⟩:=rfl
  grind [af.refl])
theorem V8:av (Y Tryz.prog).G.X 46 Ew:=bp gf V7 ⟨ve,aaa,callParts,trivial⟩
structure yy where
 d:bH
 H:PH
 m:MetaM
 ms:List iH
 es:List (Option aW)
def zD(a:yy):xl:=⟨⟨fZ 0 a.d 2,a.m⟩,0,a.d,a.H,a.ms,a.es⟩
def Ex:cB where
 α:=yy
 β:=Ai
 m:=3
 m':=17
 pre:=fun a=>Kq.pre ⟨0,a.d,a.m⟩/\wz (zD a)
 args:=fun a=>[.a (.ptr 0 0 0 0)]
 hp:=fun a=>gW 0 1 a.d++[(2,.dg a.H)]
 post:=fun a b=>sX (iN (zD a)) b/\HZ a.H [] [] b
 res:=fun _ _=>.nR [.a (.ptr 3 0 0 0),.a (.lit .i64 0)]
 eV:=fun a b=>zA 3 4 5 0 1 6 7 8 9 10 11 12 13 14 (iN (zD a)) b
def ahh:List (Nat×cB):=[(125,Kq),(83,Qd)]
def Bd(x:yy):=Ev 0 x.d x.m/\wz (zD x)
theorem V9:fnBody (Y Tryz.prog) ahh 77 Ex fun _=>[]:=fnBody.of (p :=
 ∀y:yy,Bd y->aI (ag y.d.n) 192 (∃x:Ai,False) (∃x:ahe,ah (aS x.at_ (iZ y.d x.d (Ev x.at_ x.d x.m/\∀u:Nat,True->∃z:xl,bC (nv x.m z.k.m (0=0) (rL (fZ x.at_ x.d 2) z.k.s u z.kc (Qf y.d z y.H (zD y))))))))) (by kernel_rfl) (by
 delta aK aj aA az aM aN cm nv aU dr Kn ag Ev aq aJ ah rL aS aI zy Qf ax cN bC zB qA Bd dc
 try dsimp -iota -proj only
 rintro⟨d,H,m,ms,es⟩ ⟨⟨h1,h2,h3⟩,hok⟩;dsimp only at *;obtain⟨n1,n2⟩:=hok.n;have n1:192<=d.n:=n1;refine⟨fun c=>by grind,fun _=>⟨ahe.mk 0 d m,?_⟩⟩;dsimp only
 and_intros<;>first|exact cU|exact h1.1|exact h1.2.1|exact h1.2.2.1|exact h1.2.2.2|exact h2|exact h3|(intro h_;revert h_)|omega|grind [af.refl]|rfl|exact af.refl _ _ _|exact cW _|(dsimp only;omega)|skip
 intro b _;have hok2:wz ⟨⟨fZ 0 d 2,m⟩,b,d,H,ms,es⟩:=⟨hok.n,hok.calls,hok.save,hok.k,hok.jr,hok.fl⟩
 refine⟨⟨⟨fZ 0 d 2,m⟩,b,d,H,ms,es⟩,?_⟩;dsimp only
 and_intros<;>first|exact cU|exact hok2|(intro h_;revert h_)|omega|grind [af.refl]|rfl|exact af.refl _ _ _|exact cW _|(dsimp only;omega)|skip
 rintro q ⟨q1,q2⟩;refine⟨q,?_⟩;have e:iN (zD ⟨d,H,m,ms,es⟩)=iN ⟨⟨fZ 0 d 2,m⟩,b,d,H,ms,es⟩:=rfl
 grind [af.refl])
theorem Wa:av (Y Tryz.prog).G.X 77 Ex:=bp gf V9 ⟨aac,callParts,trivial⟩
def mS(s:pY)(ks:List ByteArray):pY:={ s with d:=(kU s.jr ks).d,jL:=(kU s.jr ks).L,ms:=(kU s.jr ks).ms }
def M9(s:pY)(ks:List ByteArray):pY:={ s with d:=(oK s.fl ks).d,cL:=(oK s.fl ks).L,cl:=(oK s.fl ks).l }
def lV(s:pY)(ks:List ByteArray):pY:=if iG ks then M9 (mS s ks) ks else s
structure CD where
 s:pY
 p:Ai
 ks:List ByteArray
 kc:Nat
structure Gn(a:CD):Prop where
 n:a.ks.length<1000
 jr:iG a.ks=true->∀p,cV p.H p.y a.s.jL->a.s.ms.length<=p.cap->M5.pre ⟨a.s.jr,p,a.ks,a.kc⟩
 fl:iG a.ks=true->∀p,mK (mS a.s a.ks).fl p->PI.pre ⟨(mS a.s a.ks).fl,p,a.ks,a.kc⟩
def aed:cB where
 α:=CD
 β:=Ai
 m:=15
 m':=18
 pre:=fun a=>sX a.s a.p/\Gn a
 args:=fun a=>[.a (.ptr 0 0 0 0),.a (.slc 14 0 1 a.ks.length a.kc)]
 hp:=fun a=>zA 0 1 2 3 4 5 6 7 8 9 10 11 12 13 a.s a.p
 ro:=fun a=>[(14,.arr 9 [.str] a.ks.length (aa ic a.ks))]
 post:=fun a b=>sX (lV a.s a.ks) b/\HZ a.p.H (cC a.p.cy) (cC a.p.jy) b
 res:=fun a _=>.nR [.a (.int .i64 (if iG a.ks then lU (kU a.s.jr a.ks).ms else 0)),.a (.int .i64 (if iG a.ks then 0 else 1))]
 eV:=fun a b=>zA 0 1 2 3 4 5 15 7 16 9 10 11 12 17 (lV a.s a.ks) b
def al2(a:CD):An:=.flat 4 Nat (fun s i=>s.int 15 i) (fun _ i=>i<=a.ks.length/\∀j,j<i->dB (gl a.ks j)=true) (fun _ i=>a.ks.length-i)
def ajD(a:CD):An:=.mk 9 Unit (fun s _=>s) (fun _ _=>iG a.ks=true) (fun _ _=>0) fun _=>.mk 1000 [] []
def ahi:List (Nat×cB):=[(86,UQ),(134,M5),(135,PI)]
def Ks(x:CD)(y:Ai):=sX (lV x.s x.ks) y/\HZ x.p.H (cC x.p.cy) (cC x.p.jy) y
def Qh(w:Int)(x:CD)(t:Int)(f:PH)(g:cn)(h:jD)(i:bH)(j:Ix.dO)(l:Nat)(z:u0)(v:RK):=∃u:Ai,w=Gg x.ks x.s.jr/\t=lC (iG x.ks)/\f=u.H/\bC (x.s.bP=(lV x.s x.ks).bP/\aM (cK g (lV x.s x.ks).cL h u.cy (jS i (lV x.s x.ks) j u l (kU z.m z.ks).ms v.cap (kU z.m z.ks).L v.y x.s.k x.p.kc (Ks x u/\True))))
def Qi(x:CD)(y:Prop):=vW (aQ (aF x.ks) x.kc/\bC (sY x.s x.s x.p x.p (x.p.H=x.p.H/\eO x.ks/\y)))
def wA(x y:List ByteArray)(z:ByteArray->List Value):=aA (aF x) (aF y) 1 (aa z y) (aa z x)
theorem aee:fnBody (Y Tryz.prog) ahi 89 aed fun a=>[(89,[al2 a],[ajD a])]:=fnBody.of (p :=
 ∀z:CD,sX z.s z.p/\Gn z->Gb z.ks z.kc (fun u=>Qi z ((u<=aF z.ks/\xP u z.ks)/\True)) (fun u=>∃t:ByteArray,iC z.ks u=t/\cZ (aK (bg (dB t)) (∃f:Ai,(0:Int)=Gg z.ks z.s.jr/\(1:Int)=lC (iG z.ks)/\z.p.H=f.H/\bC (sY z.s (lV z.s z.ks) z.p f (Ks z f/\True))) (bQ u fun f=>dU (aF z.ks) z.kc (Qi z (dG f (aF z.ks) (xP f z.ks) u))))) (Qi z (aq (iG z.ks)/\True)) (∃u:u0,ah (ax (aF z.ks) (aF u.ks) z.kc u.kc/\ah (CC z.s.ms u.m.ms z.p.jc u.p.cap (cK z.s.jL u.m.L z.p.jy u.p.y (iZ z.s.d u.m.d (z.p.H=u.p.H/\wA u.ks z.ks ic/\PV u/\∀t:RK,Kk t (kU u.m u.ks) u->aK (lC (iG u.ks) != (0:Int)) (Qh 0 z (lC (iG u.ks)) t.H z.s.cL z.p.cy (kU u.m u.ks).d z.p.x z.p.xc u t) (∃v:wo,ah (ax (aF z.ks) (aF v.ks) z.kc v.cap/\oJ z.s.cL v.m z.p.cy v.p (kU u.m u.ks).d z.p.x z.p.xc (t.H=v.p.H) (wA v.ks z.ks ic/\PK v/\∀w:yH,mK (oK v.m v.ks) w/\Av v.p w->aK (lC (iG v.ks) != (0:Int)) (Qh 0 z (lC (iG v.ks)) w.H (oK v.m v.ks).L w.y (oK v.m v.ks).d w.x w.cap u t) (Qh (Gg u.ks u.m) z 0 w.H (oK v.m v.ks).L w.y (oK v.m v.ks).d w.x w.cap u t))))))))))) (by kernel_rfl) (by
 delta cE aK cR aQ aO aj ai aA az aG aM aN aF bK aU gI bI aP aZ bY ag bD eO dG aq cq dU bQ cK Qh oJ aC nE ah aS jS PV aI aD lC mZ bf Kk bg Qi xP aY wA ax PK vW bS kz cZ Gg Ks iC bC Gb bw bM
 try dsimp -iota -proj only
 rintro⟨s,p,ks,kc⟩ ⟨hat,hok⟩;dsimp only at *;have hkn:=hok.n;dsimp only at hkn;have no:iG ks=false->lV s ks=s:=fun e=>if_neg (by rw[e];decide);have bad:∀i,i<ks.length->dB (gl ks i)=false->iG ks=false:=fun i hi h=>by
  rw[zBz];intro ha;have:=RO.1 ha (gl ks i) (by grind [b8])
  grind
 have h0:∀j,j<0->dB (gl ks j)=true:=fun j hj=>absurd hj (uh j);have hfr0:HZ p.H (cC p.cy) (cC p.jy) p:=fun z _ h1 h2=>⟨rfl,h1,h2⟩
 refine⟨⟨⟨0,?_⟩,fun i hi=>?_⟩,fun _ hK=>?_⟩
 ·grind [af.refl]
 ·obtain⟨hi,hall⟩:=hi;rw[show 0+(i:Int).toNat=i by omega];refine⟨fun c1=>?_,fun c1=>⟨(),?_⟩⟩
  ·have hlt:i<ks.length:=by have:=qi c1;omega
   refine⟨⟨by omega,by omega⟩,hlt,gl ks i,rfl,trivial,fun _ _=>⟨fun c2=>?_,fun c2=>⟨by simp only[bZ];omega,i+1,?_⟩⟩⟩
   ·grind [af.refl]
   grind [af.refl]
  ·have hi':i=ks.length:=by have:=ug c1;omega
   grind [iG,List.getElem_of_mem,b8,af.refl]
 have hks:lV s ks=M9 (mS s ks) ks:=if_pos hK;obtain⟨hf,hl,hsep,hcap⟩:=hat;obtain⟨q1,q2,q3,q4,q5,q6⟩:=hok.jr hK p.jr hl hcap;have q6:=q6 hK;have sep2:∀z,z∈cC p.cy->z∉cC p.jy:=fun z h1 h2=>hsep z h2 h1;refine⟨u0.mk s.jr p.jr ks kc,?_⟩;dsimp only[pY.jr,Ai.jr]at q1 q2 q3 q4 q5 q6 ⊢
 and_intros<;>first|exact cU|exact q1|exact q2|exact q3|exact q4|exact q5|exact fun _=>q6|(intro h_;revert h_)|omega|grind [af.refl]|rfl|exact af.refl _ _ _|exact cW _|(dsimp only;omega)|skip
 rintro⟨H1,y1,c1⟩ ⟨hl1,hf1,hcp⟩;dsimp only at hl1 hf1 hcp ⊢;have hfc:mK (mS s ks).fl ⟨H1,p.cy,p.x,p.xc⟩:=⟨hf.log.frame fun z hz=>(hf1 z (hf.log.dom z hz) (sep2 z hz)).1,hf.idx⟩
 obtain⟨r1,r2,r3⟩:=hok.fl hK ⟨H1,p.cy,p.x,p.xc⟩ hfc;have r3:=r3 hK;rw[hK];refine⟨fun c=>absurd c (by decide),fun _=>⟨wo.mk (mS s ks).fl ⟨H1,p.cy,p.x,p.xc⟩ ks kc,?_⟩⟩;dsimp only[pY.fl]at r1 r2 r3 ⊢
 and_intros<;>first|exact cU|exact r1|exact r2|exact fun _=>r3|exact kL|skip
 rintro⟨H2,y2,x2,xc2⟩ ⟨hat2,hf2⟩;dsimp only at hat2 hf2 ⊢;rw[hK,hks];refine⟨fun c=>absurd c (by decide),fun _=>⟨⟨H2,y2,x2,xc2,y1,c1,p.kc⟩,?_⟩⟩;have sep3:∀z,z∈cC y1->z∉cC p.cy:=fun z h1 h2=>(hf1 z (hf.log.dom z h2) (sep2 z h2)).2 h1;have hat3:sX (M9 (mS s ks) ks) ⟨H2,y2,x2,xc2,y1,c1,p.kc⟩:=⟨hat2,hl1.frame fun z hz=>(hf2 z (hl1.dom z hz) (sep3 z hz)).1,fun z hz=>(hf2 z (hl1.dom z hz) (sep3 z hz)).2,hcp⟩
 have hfr:HZ p.H (cC p.cy) (cC p.jy) ⟨H2,y2,x2,xc2,y1,c1,p.kc⟩:=fun z hz n1 n2=>by
  obtain⟨a1,a2⟩:=hf1 z hz n2;have a1:H1 z=p.H z:=a1;obtain⟨b1,b2⟩:=hf2 z (by grind) n1
  grind
 and_intros<;>first|exact cU|exact hat3|exact hfr|exact kL|skip)
theorem aef:av (Y Tryz.prog).G.X 89 aed:=bp gf aee ⟨Ej,ae1,Z2,trivial⟩
theorem qS{f g:Nat->Int}:∀ {n:Nat},(∀k,k<n->f k=g k)->mF f n=mF g n
 |0,_=>rfl
 |n+1,h=>by
  simp only[mF];rw[qS fun k hk=>h k (by omega),h n (by omega)]
theorem ahj{a b:Nat}(ha:a<2^56)(hb:b<256):eW .or .u64 (uw .u64 ((a:Int)*2^8)) b=((a*256+b:Nat):Int):=by
 have e1:uw .u64 ((a:Int)*2^8)=((a*256:Nat):Int):=by simp only[uw];omega
 rw[e1,Sy _ _ (by omega) (by omega)];have:=Nat.two_pow_add_eq_or_of_lt (i:=8) (b:=b) hb a
 grind
theorem S6{v:Nat}{len:Nat}(hl:len<=8)(hv:v<256^len):∀k,k<=len->mF (fun k=>EW v len k) k=((v/256^(len-k):Nat):Int)
 |0,_=>by simp[mF,Nat.div_eq_of_lt hv]
 |k+1,hk=>by
  have ih:=S6 hl hv k (by omega);simp only[mF];rw[ih];have eb:EW v len k=((v/256^(len-(k+1))%256:Nat):Int):=by
   have e2:(2:Int)^(8*(len-1-k))=((256^(len-(k+1)):Nat):Int):=by
    rw[Int.natCast_pow,show len-1-k=len-(k+1)by omega,Int.pow_mul];rfl
   simp only[EW,uw];rw[e2];omega
  rw[eb];have e3:256^(len-k)=256^(len-(k+1))*256:=by rw[show len-k=len-(k+1)+1 by omega,Nat.pow_succ]
  have e4:v/256^(len-k)=v/256^(len-(k+1))/256:=by rw[e3,Nat.div_div_eq_div_mul]
  have hlt:v/256^(len-k)<2^56:=by
   have h1:v/256^(len-k)<256^k:=zBx (by rw[<- Nat.pow_add,show len-k+k=len by omega];exact hv);have h2:256^k<=256^7:=Nat.pow_le_pow_right (by decide) (by omega);exact LR h1 h2
  rw[ahj hlt (Nat.mod_lt _ (by decide)),e4];omega
variable{f g:Nat->Int}{r:Nat}
theorem Ey{v len:Nat}(hl:len<=8)(hv:v<256^len)(hf:∀k,k<len->f (r+k)=EW v len k):gB f r len=v:=by
 unfold gB;rw[qS hf,S6 hl hv len (cW _)];simp
theorem Ez{len:Nat}(hl:len<=8)(hf:∀k,k<len->f (r+k)=0):gB f r len=0 :=
 Ey (v:=0) hl (Nat.pow_pos (by decide)) fun k hk=>by rw[hf k hk];simp[EW,uw]
theorem Hy{f g:Nat->Int}:∀ {n:Nat},(∀k,k<n->f k=g k)->vQ f n=vQ g n
 |0,_=>rfl
 |n+1,h=>by
  simp only[vQ];rw[Hy fun k hk=>h k (by omega),h n (by omega)]
theorem sZ(h:∀k,4<=k->k<64->f k=g k):p6 f=p6 g:=by
 grind [p6,Hy]
theorem S7(f:Nat->Int):0<=p6 f/\p6 f<4294967296:=by
 grind [p6,eW,IJ,uw]
theorem Na:p6 (fun _=>0)≠0:=by decide +kernel
structure Kt(g:cQ)(run:Int):Prop where
 gen:0<=g.gen/\g.gen<281474976710656
 base:0<=g.base/\g.base<281474976710656
 run:0<=run/\run<4294967296
 len:g.buf.length<=378
variable{f':Nat->Int}{g:cQ}{i k:Nat}{run x:Int}
theorem B4(h0:0<=x)(h1:x<281474976710656):uw .u64 x=(x.toNat:Int):=by grind [uw]
theorem ahk(g:cQ)(i:Nat)(run:Int):gB (jN g i run) 0 4=p6 (pR g i run)/\p6 (jN g i run)=p6 (pR g i run):=by
 obtain⟨h1,h2⟩:=S7 (pR g i run);refine⟨?_,sZ fun k hk _=>by grind [jN]⟩;obtain⟨v,hv⟩:∃v:Nat,p6 (pR g i run)=v:=⟨(p6 (pR g i run)).toNat,by omega⟩
 rw[hv];refine Ey (by omega) (show v<256^4 by omega) fun k hk=>?_;simp only[jN,mA]
 grind
theorem ahl(h:Kt g run):gB (jN g i run) 4 6=g.gen:=by
 grind [h.gen,Ey,jN,pR,B4]
theorem Qj(h:Kt g run):gB (jN g i run) 10 4=run:=by
 grind [h.run,Ey,jN,pR,B4]
theorem aeg(h:Kt g run):gB (jN g 0 run) 16 6=g.base:=by
 grind [h.base,Ey,jN,pR,B4]
theorem S8(g:cQ)(i:Nat)(run:Int):jN g i run 14=i/\jN g i run 15=mq g.buf.length i:=by
 simp[jN,pR]
theorem aeh(g:cQ)(i:Nat)(run:Int)(hk:k<mq g.buf.length i):jN g i run (uG i+k)=gl g.buf (bh i+k):=by
 have hr:mq g.buf.length i<=kH i:=Nat.min_le_left _ _;by_cases hi:i=0
 ·subst hi;simp only[jN,pR,uG,bh,kH,if_true]at *
  grind
 grind [jN,pR,uG]
theorem DF(h0:0<=x)(h1:x<281474976710656):uw .i64 x=x:=gH (by simp only[bZ];omega)
theorem take_zero(hf:∀k,k<64->f k=0):iz g i f=false:=by
 grind [iz,sZ,Ez,Na]
theorem Hz(h:∀j,j<64->f j=f' j):iz g i f=iz g i f':=by
 have a1:p6 f=p6 f':=sZ fun k _ hk=>h k hk;have a2:∀r len,r+len<=64->gB f r len=gB f' r len:=fun r len hl=>qS fun k hk=>h _ (by omega)
 grind [iz,p8]
theorem S9(h:∀j,j<64->f j=f' j):kS g i f=kS g i f':=by
 have a2:∀r len,r+len<=64->gB f r len=gB f' r len:=fun r len hl=>qS fun k hk=>h _ (by omega);have hB:=Hz (g:=g) (i:=i) h;have hG:p8 g i f=p8 g i f':=by unfold p8;rw[a2 4 6 (by omega),a2 16 6 (by omega)]
 unfold kS;rw[hB,hG,a2 10 4 (by omega),h 15 (by omega)];split
 ·rename_i hb;have ho:=(MO hb).1
  grind [kH,uG,List.map_congr_left]
 ·rfl
theorem It{L:cn}{d:bH}(h:∀i,i<8->∀j,j<64->rW L d k i j=0):ZA L d k/\tR L d k=none/\∀i,i<=8->(lS L d k i).run=if i=0 then L.run else max L.run 1:=by
 have hgB:∀i,i<8->uw .i64 (gB (rW L d k i) 10 4)=0:=fun i hi=>by
  rw[Ez (by omega) fun j hj=>h i hi _ (by omega)];rfl
 have key:∀i,i<=8->(0<i->(lS L d k i).ok=false/\(lS L d k i).g.gen=0)/\(lS L d k i).run=if i=0 then L.run else max L.run 1:=by
  intro i
  induction i with
  |zero=>exact fun _=>⟨fun h=>absurd h (Nat.lt_irrefl 0),rfl⟩
  |succ i ih =>
   intro hi;obtain⟨h1,h2⟩:=ih (by omega);obtain⟨R,hR⟩:∃R,R=lS L d k i:=⟨_,rfl⟩
   have hst:lS L d k (i+1)=rdStep R i (rW L d k i):=by rw[hR];rfl
   rw[<- hR]at h1 h2;have hz:=take_zero (g:=R.g) (i:=i) (h i (by omega));rw[hst];refine⟨fun _=>⟨by simp only[rdStep,hz,RP],?_⟩,?_⟩
   ·simp only[rdStep,hz,RP,Bool.not_false,Bool.true_and]
    grind
   ·simp only[rdStep,hgB i (by omega),h2];omega
 refine⟨⟨fun i hi=>by grind,fun i hi _ hB=>?_⟩,?_,fun i hi=>(key i hi).2⟩
 ·grind [take_zero]
 grind [tR]
def jY(r:RecM):List Int:=HS r.body.length r.pos++r.body
def gX(rs:List RecM):List Int:=rs.flatMap jY
structure HA(r:RecM):Prop where
 len:1<=r.body.length/\r.body.length<=300
 pos:0<=r.pos/\r.pos<140737488355328
variable{base gen p:Int}{d:bH}{fr sg:Nat}
theorem al3{n:Nat}(h:n<65536):∀k,k<2->gl (HS n p) k=EW n 2 k:=by
 have e:uw .u64 (n:Int)=n:=by simp only[uw];omega
 intro k hk
 match k,hk with
 |0,_=>show uw .u8 (uw .u64 (n:Int)/256)=_;grind [EW]
 |1,_=>show uw .u8 (uw .u64 (n:Int)/1)=_;grind [EW]
theorem al4{n:Nat}(h0:0<=p)(h1:p<140737488355328):∀k,k<6->gl (HS n p) (2+k)=EW p.toNat 6 k:=by
 have e:uw .u64 p=(p.toNat:Int):=B4 h0 (by omega);intro k hk
 match k,hk with
 |0,_=>show uw .u8 (uw .u64 p/1099511627776)=_;grind [EW]
 |1,_=>show uw .u8 (uw .u64 p/4294967296)=_;grind [EW]
 |2,_=>show uw .u8 (uw .u64 p/16777216)=_;grind [EW]
 |3,_=>show uw .u8 (uw .u64 p/65536)=_;grind [EW]
 |4,_=>show uw .u8 (uw .u64 p/256)=_;grind [EW]
 |5,_=>show uw .u8 (uw .u64 p/1)=_;grind [EW]
theorem Qk(n:Nat)(p:Int):(HS n p).length=8:=rfl
theorem tG(r:RecM):(jY r).length=8+r.body.length:=by simp[jY,Qk]
theorem aaf{pre rest:List Int}{r:RecM}(h:HA r):v7 (pre++(jY r++rest)) pre.length=true/\HT (pre++(jY r++rest)) pre.length=r.body.length/\recAt (pre++(jY r++rest)) pre.length=r:=by
 obtain⟨l1,l2⟩:=h.len;obtain⟨p1,p2⟩:=h.pos;obtain⟨buf,hbuf⟩:∃b,b=pre++(jY r++rest):=⟨_,rfl⟩
 have at_:∀k,k<8->gl buf (pre.length+k)=gl (HS r.body.length r.pos) k:=fun k hk=>by
  grind [bt,cu,jY,Qk]
 have hN:HT buf pre.length=r.body.length:=by
  unfold HT;have:mF (fun k=>gl buf (pre.length+k)) 2=(r.body.length:Int):=by
   have:=Ey (f:=fun k=>gl buf k) (v:=r.body.length) (r:=pre.length) (len:=2) (by omega) (by omega) fun k hk=>by
    show gl buf (pre.length+k)=_
    grind [al3]
   exact this
  rw[this,DF (by omega) (by omega)]
 have hP:agT buf pre.length=r.pos:=by
  unfold agT;have:mF (fun k=>gl buf (pre.length+2+k)) 6=(r.pos.toNat:Int):=by
   have:=Ey (f:=fun k=>gl buf k) (v:=r.pos.toNat) (r:=pre.length+2) (len:=6) (by omega) (by omega) fun k hk=>by
    show gl buf (pre.length+2+k)=_;rw[T8,at_ (2+k) (by omega),al4 p1 p2 k hk]
   exact this
  rw[this,DF (by omega) (by omega)];omega
 have hlen:buf.length=pre.length+(8+r.body.length+rest.length):=by rw[hbuf];simp[tG]
 rw[<- hbuf];refine⟨?_,hN,?_⟩
 ·unfold v7;rw[hN,hlen]
  grind
 ·unfold recAt;rw[hN,hP];have:(buf.drop (pre.length+8)).take ((r.body.length:Nat):Int).toNat=r.body:=by
   have e:buf=(pre++HS r.body.length r.pos)++(r.body++rest):=by rw[hbuf,jY];simp[zAY]
   rw[e,List.drop_left' (by simp[Qk]),Ay,List.take_left' rfl]
  rw[this]
theorem Nb:∀(rs:List RecM) (pre:List Int) (k:Nat),rs.length<=k->(∀r∈rs,HA r)->gP (pre++gX rs) k pre.length=(rs,(pre++gX rs).length)
 |[],pre,k,_,_=>by
  have e:gX []=[]:=rfl;rw[e,z6];cases k with
  |zero=>rfl
  |succ k =>
   have:v7 pre pre.length=false:=by
    unfold v7;rw[show decide (pre.length+8<=pre.length)=false from Ml (by omega)];rfl
   simp[gP,this]
 |r::rs,pre,0,hk,_=>by simp at hk
 |r::rs,pre,k+1,hk,hg=>by
  have e:gX (r::rs)=jY r++gX rs:=rfl;obtain⟨f1,f2,f3⟩:=aaf (pre:=pre) (rest:=gX rs) (hg r List.mem_cons_self);have ih:=Nb rs (pre++jY r) k (by simpa using hk) fun x hx=>hg x (CP _ hx);have hpl:(pre++jY r).length=pre.length+8+r.body.length:=by simp[tG];omega
  grind [gP]
theorem vu:∀(rs:List RecM),(∀r∈rs,HA r)->rs.length*9<=(gX rs).length
 |[],_=>Az _
 |r::rs,h=>by
  have ih:=vu rs fun x hx=>h x (CP _ hx);have:=(h r List.mem_cons_self).len;show(rs.length+1)*9<=(jY r++gX rs).length;rw[wM,tG];omega
theorem qB(rs:List RecM)(r:RecM):gX (rs++[r])=gX rs++jY r:=by simp[gX]
theorem aag{rs:List RecM}(h:∀r∈rs,HA r)(hl:(gX rs).length<=378):yo ⟨gen,base,run,gX rs,[]⟩=⟨gen,base,run,gX rs,rs⟩:=by
 have h9:=vu rs h;have hp:=Nb rs [] 50 (by omega) h
 grind [yo]
structure EA(fr sg:Nat)(o:Option cQ)(run:Int)(d:bH):Prop where
 sec:∀i,i<8->∀j,j<64->d.now (fr+i) j=match o with|none=>0|some g=>if bh i<g.buf.length then jN g i run j else 0
 rest:∀r,fr+8<=r->r<fr+sg*8->∀j,j<64->d.now r j=0
theorem EA.far{o:Option cQ}(h:EA fr sg o run d)(hk:1<=k)(hk2:k<sg){L:cn}(hL:L.from_=fr):∀i,i<8->∀j,j<64->rW L d k i j=0:=fun i hi j hj=>by
 unfold rW;rw[hL];exact h.rest _ (by omega) (by omega) j hj
theorem Nc(h:EA fr sg none run d)(h3:3<=sg/\sg<=200)(hr:fr+sg*8<=d.n)(hn:d.n<100000):rH fr sg d/\cH fr sg d=⟨fr,sg,[],1,1,true⟩:=by
 have hz:∀k,k<sg->∀(L:cn),L.from_=fr->∀i,i<8->∀j,j<64->rW L d k i j=0:=fun k hk L hL i hi j hj=>by
  by_cases h0:k=0
  ·subst h0;unfold rW;rw[hL,zBt,EZ];exact h.sec i hi j hj
  ·exact h.far (by omega) hk hL i hi j hj
 have key:∀k,k<=sg->oT fr sg d k=⟨fr,sg,[],1,1,true⟩:=by
  intro k
  induction k with
  |zero=>exact fun _=>rfl
  |succ k ih =>
   intro hk;have ih:=ih (by omega);obtain⟨_,e2,e3⟩:=It (hz k (by omega) ⟨fr,sg,[],1,1,true⟩ rfl)
   grind [oT]
 refine⟨⟨h3,hr,hn,fun k hk=>?_,?_,?_,?_⟩,?_⟩
 ·grind [It]
 ·grind
 ·grind
 ·grind
 ·unfold cH;rw[key sg (cW _)];rfl
def rlR(g:cQ)(rn:Nat->Int):Nat->Int
 |0=>0
 |i+1=>if bh i<g.buf.length then rn i else rlR g rn i
def H6(g:cQ)(rn:Nat->Int)(i:Nat):cQ:=if i=0 then g0 else⟨g.gen,g.base,rlR g rn i,g.buf.take (bh i),[]⟩
variable{rn:Nat->Int}
theorem aei(hrn:run=rn i)(h:Kt g run)(hrl:rlR g rn i<=run)(hi:i<8)(hs:bh i<g.buf.length):iz (H6 g rn i) i (jN g i run)=true/\kS (H6 g rn i) i (jN g i run)=H6 g rn (i+1):=by
 obtain⟨s1,s2⟩:=ahk g i run;have s3:=ahl (i:=i) h;have s4:=Qj (i:=i) h;obtain⟨s5,s6⟩:=S8 g i run;have hr0:=h.run;have hg0:=h.gen;have hb0:=h.base;have e1:uw .i64 g.gen=g.gen:=DF hg0.1 hg0.2;have e2:uw .i64 run=run:=DF hr0.1 (by omega);have e3:uw .i64 g.base=g.base:=DF hb0.1 hb0.2;have hu:mq g.buf.length i<=kH i:=Nat.min_le_left _ _;have hlen:(H6 g rn i).buf.length=bh i:=by
  unfold H6;split
  ·rename_i h0;subst h0;rfl
  ·simp;omega
 have htg:p8 (H6 g rn i) i (jN g i run)={ H6 g rn i with gen:=g.gen,base:=g.base }:=by
  unfold p8;by_cases h0:i=0
  ·grind [aeg]
  ·grind [H6]
 have hB:iz (H6 g rn i) i (jN g i run)=true:=by
  unfold iz;rw[htg,s1,s2,s3,s4,s5,s6,e1,e2,hlen];have hrun:¬run<(H6 g rn i).run:=by
   unfold H6;split
   ·show ¬run<0;omega
   ·grind
  simp[hrun];omega
 refine⟨hB,?_⟩;have hbuf:(H6 g rn i).buf++(List.range (mq g.buf.length i)).map (fun k=>jN g i run (uG i+k))=g.buf.take (bh (i+1)):=by
  have hb:(H6 g rn i).buf=g.buf.take (bh i):=by
   unfold H6;split
   ·rename_i h0;subst h0;simp[g0,bh]
   ·rfl
  have hm:(List.range (mq g.buf.length i)).map (fun k=>jN g i run (uG i+k))=(g.buf.drop (bh i)).take (mq g.buf.length i):=by
   refine zBR (by grind [mq]) fun k h1 h2=>?_;rw[zBQ,List.getElem_range,aeh g i run (by simpa using h1),b8 (by grind)];simp
  have hst:bh (i+1)=bh i+kH i:=by unfold bh kH;split<;>omega
  rw[hb,hm,hst,List.take_add];congr 1;by_cases hc:g.buf.length-bh i<=kH i
  ·rw[show mq g.buf.length i=g.buf.length-bh i by grind [mq],List.take_of_length_le (by simp),List.take_of_length_le (by simp;omega)]
  ·rw[show mq g.buf.length i=kH i by grind [mq]]
 unfold kS;rw[if_pos hB,htg,s4,s6,e2];have:((mq g.buf.length i:Nat):Int).toNat=mq g.buf.length i:=by omega
 rw[this,hbuf];have:(H6 g rn i).bn=[]:=by unfold H6;split<;>rfl
 show(⟨g.gen,g.base,run,List.take (bh (i+1)) g.buf,(H6 g rn i).bn⟩:cQ)=_;rw[this];unfold H6;rw[if_neg (Nat.succ_ne_zero i)];have:rlR g rn (i+1)=run:=by show(if bh i<g.buf.length then rn i else rlR g rn i)=run;rw[if_pos hs,hrn]
 rw[this]
structure Be(L:cn)(d:bH)(k:Nat)(g:cQ)(rn:Nat->Int):Prop where
 num:∀i,Kt g (rn i)
 mono:∀i,rn i<=rn (i+1)
 some_:0<g.buf.length
 sec:∀i,i<8->∀j,j<64->rW L d k i j=if bh i<g.buf.length then jN g i (rn i) j else 0
theorem Be.rl{L:cn}{d:bH}{k:Nat}{g:cQ}{rn:Nat->Int}(h:Be L d k g rn):∀i,rlR g rn i<=rn i
 |0=>(h.num 0).run.1
 |i+1=>by
  have h1:=h.mono i;have h2:=Be.rl h i;show(if bh i<g.buf.length then rn i else rlR g rn i)<=_;omega
theorem aej{L:cn}{d:bH}{k:Nat}{g:cQ}{rn:Nat->Int}(h:Be L d k g rn):∀i,i<=8->(lS L d k i).g=H6 g rn i/\(lS L d k i).ok=decide (i=0\/bh (i-1)<g.buf.length)
 |0,_=>⟨by simp[H6,lS],by simp[lS]⟩
 |i+1,hi=>by
  obtain⟨e1,e2⟩:=aej h i (by omega);have hn:=h.some_;obtain⟨R,hR⟩:∃R,R=lS L d k i:=⟨_,rfl⟩
  have hst:lS L d k (i+1)=rdStep R i (rW L d k i):=by rw[hR];rfl
  rw[<- hR]at e1 e2;rw[hst];by_cases hs:bh i<g.buf.length
  ·have hf:∀j,j<64->rW L d k i j=jN g i (rn i) j:=fun j hj=>by rw[h.sec i (by omega) j hj,if_pos hs]
   obtain⟨t1,t2⟩:=aei rfl (h.num i) (h.rl i) (by omega) hs;have hok:R.ok=true:=by
    rw[e2];simp only[tB];by_cases h0:i=0
    ·exact .inl h0
    ·grind [bh]
   grind [rdStep,Hz,S9]
  ·have hf:∀j,j<64->rW L d k i j=0:=fun j hj=>by rw[h.sec i (by omega) j hj,if_neg hs]
   have hi0:i≠0:=fun e=>by subst e;exact hs (show bh 0<g.buf.length from hn)
   have hz:=take_zero (g:=R.g) (i:=i) hf;have htk:H6 g rn (i+1)=H6 g rn i:=by
    unfold H6;have:rlR g rn (i+1)=rlR g rn i:=if_neg hs;rw[if_neg (by omega),if_neg hi0,this,List.take_of_length_le (by grind [bh]),List.take_of_length_le (by omega)]
   refine⟨?_,?_⟩
   ·simp only[rdStep,hz,RP,Bool.not_false,Bool.true_and]
    grind [SN,p8]
   ·simp only[rdStep,hz,RP]
    grind
theorem aah{L:cn}(h:Be L d k g rn):ZA L d k:=by
 refine⟨fun i hi=>?_,fun i hi hok hB=>?_⟩
 ·have e:gB (rW L d k i) 10 4=if bh i<g.buf.length then rn i else 0:=by
   split
   ·rename_i hs;rw[<- Qj (i:=i) (h.num i)];exact qS fun j hj=>by rw[h.sec i hi _ (by omega),if_pos hs]
   ·rename_i hs;exact Ez (by omega) fun j hj=>by rw[h.sec i hi _ (by omega),if_neg hs]
  rw[e];have:=(h.num i).run
  grind [DF]
 ·by_cases hs:bh i<g.buf.length
  ·rw[h.sec i hi 15 (by omega),if_pos hs,(S8 g i (rn i)).2];have:0<mq g.buf.length i:=by unfold mq kH;split<;>omega
   omega
  ·rw[take_zero (fun j hj=>by rw[h.sec i hi j hj,if_neg hs])]at hB;cases hB
theorem ahm{L:cn}(h:Be L d k g rn)(hg:1<=g.gen)(hk:(g.gen-1).tmod L.au=k):tR L d k=some (yo ⟨g.gen,g.base,rlR g rn 8,g.buf,[]⟩):=by
 obtain⟨e1,_⟩:=aej h 8 (cW _);have e2:H6 g rn 8=⟨g.gen,g.base,rlR g rn 8,g.buf,[]⟩:=by
  unfold H6;rw[if_neg (by decide),List.take_of_length_le (by have:=(h.num 0).len;grind [bh])]
 grind [tR]
variable{e:List Int}{g':cQ}{rs:List RecM}
theorem aai(h1:g'.gen=g.gen)(h2:g'.base=g.base)(hb:g'.buf=g.buf++e)(hs:bh (i+1)<=g.buf.length):∀j,j<64->pR g i run j=pR g' i run j:=fun j hj=>by
 have hst:bh (i+1)=bh i+kH i:=by unfold bh kH;split<;>omega
 have u1:mq g.buf.length i=kH i:=by simp only[mq];omega
 have u2:mq g'.buf.length i=kH i:=by rw[hb];simp only[mq,wM];omega
 have hgl:∀k,k<kH i->gl g'.buf (bh i+k)=gl g.buf (bh i+k):=fun k hk=>by grind [cu]
 simp only[pR,h1,h2,u1,u2];by_cases h0:i=0
 ·subst h0;have hr:kH 0=42:=rfl;have hs0:bh 0=0:=rfl
  grind
 grind
theorem aaj(h1:g'.gen=g.gen)(h2:g'.base=g.base)(hb:g'.buf=g.buf++e)(hs:bh (i+1)<=g.buf.length):∀j,j<64->jN g i run j=jN g' i run j:=fun j hj=>by
 grind [aai,jN,sZ]
theorem Ql{r:RecM}(h:rG rs)(h1:∀x∈rs,x.pos<r.pos)(h2:0<=r.pos/\r.pos<1000000000000):rG (rs++[r]):=by
 have hl:(rs++[r]).length=rs.length+1:=by simp
 refine⟨fun i j hij hj=>?_,fun i hi=>?_⟩
 ·rw[hl]at hj;rw[jQ (by omega),jQ hj,if_pos (by omega)];split
  ·exact h.lt i j hij (by assumption)
  grind [b8]
 ·rw[hl]at hi;rw[jQ hi];split
  ·exact h.AA i (by assumption)
  ·exact h2
theorem qT:rG rs↔rs.Pairwise (fun a b=>a.pos<b.pos)/\∀r∈rs,0<=r.pos/\r.pos<1000000000000:=by
 constructor
 ·rintro⟨h1,h2⟩
  grind [List.pairwise_iff_getElem,b8,List.getElem_of_mem]
 ·rintro⟨h1,h2⟩;refine⟨fun i j hij hj=>?_,fun i hi=>?_⟩
  ·rw[b8 (show i<rs.length by omega),b8 hj]
   grind [List.pairwise_iff_getElem]
  grind [b8]
def CE(n:Nat):Nat:=(n+5)/48
theorem Bf{n:Nat}(h:0<n):bh i<n↔i<=CE n:=by unfold bh CE;omega
def Ku(n:Nat)(rn:Nat->Int)(i:Nat):Int:=rn (min i (CE n))
structure aak(g:cQ)(k:Nat):Prop where
 gen:g.gen=(k:Int)+1
 base:0<=g.base/\g.base<20000000000
 buf:g.buf=gX g.bn
 len:g.buf.length<=378
 some_:g.bn≠[]
structure ahn(fr sg:Nat)(l:List cQ)(run:Int)(d:bH)(rns:Nat->Nat->Int):Prop where
 AA:∀k,k<l.length->∀i,i<8->bh i<(gl l k).buf.length->0<=rns k i/\rns k i<=run
 mono:∀k,k<l.length->∀i,bh (i+1)<(gl l k).buf.length->rns k i<=rns k (i+1)
 sec:∀k,k<l.length->∀i,i<8->∀j,j<64->d.now (fr+k*8+i) j=if bh i<(gl l k).buf.length then jN (gl l k) i (rns k i) j else 0
 rest:∀r,fr+l.length*8<=r->r<fr+sg*8->∀j,j<64->d.now r j=0
structure dW(L:cn)(d:bH)(n:Nat)(rs:List RecM):Prop where
 au:3<=L.au/\L.au<=200
 room:L.from_+L.au*8<=d.n
 size:d.n<100000
 calls:d.calls<=n
 next:1<=L.next/\L.next<10000000000
 run:1<=L.run/\L.run<=(n:Int)+1
 good:∀r∈rs,HA r/\r.pos<L.next
 sort:rG rs
 all:fV L.l=rs
 wN:L.l.length<=L.au
 seg:∀k,k<L.l.length->aak (gl L.l k) k
 dev:∃rns,ahn L.from_ L.au L.l L.run d rns
 ful:∀P g,L.l=P++[g]->379*P.length+g.buf.length<=2*(gX rs).length
theorem aal(h:rs≠[]):0<(gX rs).length:=by
 cases rs with
 |nil=>grind
 |cons r rs =>
  grind [gX,tG]
theorem aak.pos(h:aak g k):0<g.buf.length:=by rw[h.buf];exact aal h.some_
variable{L':cn}{d':bH}{rns:Nat->Nat->Int}
theorem dW.on{L:cn}{n:Nat}(h:dW L d n rs)(hn:n<4000000000)(hr:ahn L.from_ L.au L.l L.run d rns)(hd:∀r,L.from_<=r->r<L.from_+L.au*8->∀j,j<64->d'.now r j=d.now r j)(hL:L'.from_=L.from_)(hk:k<L.l.length) :
 Be L' d' k (gl L.l k) (Ku (gl L.l k).buf.length (rns k)):=by
 have hs:=h.seg k hk;have hp:=hs.pos;have hlen:=hs.len;have hfew:=h.wN;have hb:=hs.base;have hnx:=h.next
 have hrun:=h.run;have hsg:=h.au;have hl7:CE (gl L.l k).buf.length<=7:=by unfold CE;omega
 refine⟨fun i=>?_,fun i=>?_,hp,fun i hi j hj=>?_⟩
 ·have hu:bh (min i (CE (gl L.l k).buf.length))<(gl L.l k).buf.length:=(Bf hp).2 (by omega);have:=hr.AA k hk _ (by omega) hu;exact⟨by rw[hs.gen];omega,by omega,by grind [Ku],hlen⟩
 ·unfold Ku;by_cases hi:i<CE (gl L.l k).buf.length
  ·have hu:bh (i+1)<(gl L.l k).buf.length:=(Bf hp).2 (by omega);have:=hr.mono k hk i hu
   grind
  grind
 ·have hkk:k*8+8<=L.au*8:=by omega
  have e:rW L' d' k i j=d.now (L.from_+k*8+i) j:=by
   unfold rW;rw[hL];exact hd _ (by omega) (by omega) j hj
  rw[e,hr.sec k hk i hi j hj]
  grind [Bf,Ku]
theorem dW.far{L:cn}{n:Nat}(h:dW L d n rs)(hr:ahn L.from_ L.au L.l L.run d rns)(hd:∀r,L.from_<=r->r<L.from_+L.au*8->∀j,j<64->d'.now r j=d.now r j)(hL:L'.from_=L.from_)(hk:L.l.length<=k)(hk2:k<L.au) :
 ∀i,i<8->∀j,j<64->rW L' d' k i j=0:=fun i hi j hj=>by
 have h1:k*8+8<=L.au*8:=by omega
 have h2:L.l.length*8<=k*8:=by omega
 unfold rW;rw[hL,hd _ (by omega) (by omega) j hj];exact hr.rest _ (by omega) (by omega) j hj
theorem Ye{L:cn}{d:bH}{k:Nat}{g:cQ}{rn:Nat->Int}(h:Be L d k g rn){B:Int}(hB:0<=B)(hb:∀i,rn i<=B):∀i,i<=8->L.run<=(lS L d k i).run/\(lS L d k i).run<=max L.run (B+1)/\∀q,q<i->bh q<g.buf.length->rn q+1<=(lS L d k i).run
 |0,_=>⟨zBw _,by show L.run<=_;omega,fun q hq=>absurd hq (uh q)⟩
 |i+1,hi=>by
  obtain⟨h1,h2,h3⟩:=Ye h hB hb i (by omega);have e:(lS L d k (i+1)).run=max (lS L d k i).run ((if bh i<g.buf.length then rn i else 0)+1):=by
   show max (lS L d k i).run (uw .i64 (gB (rW L d k i) 10 4)+1)=_;have hn:=(h.num i).run;split
   ·rename_i hs;have:gB (rW L d k i) 10 4=rn i:=by
     rw[<- Qj (i:=i) (h.num i)];exact qS fun j hj=>by rw[h.sec i (by omega) _ (by omega),if_pos hs]
    grind [DF]
   ·rename_i hs;have:gB (rW L d k i) 10 4=0:=Ez (by omega) fun j hj=>by rw[h.sec i (by omega) _ (by omega),if_neg hs]
    rw[this];rfl
  grind
theorem aho(l:List cQ):(List.range l.length).map (gl l)=l:=by
 refine zBR (by simp) fun i h1 h2=>?_
 grind [b8]
variable{F:Nat->cQ}{l:List cQ}
theorem vg{n:Nat}(h:i<n):gl ((List.range n).map F) i=F i:=by
 grind [b8]
theorem aek(h:∀i,i<l.length->(F i).bn=(gl l i).bn):fV ((List.range l.length).map F)=fV l:=by
 have e:fV l=fV ((List.range l.length).map (gl l)):=by rw[aho]
 rw[e];unfold fV;rw[List.flatMap_map,List.flatMap_map];have:∀m,m<=l.length->(List.range m).flatMap (fun i=>(F i).bn)=(List.range m).flatMap (fun i=>(gl l i).bn):=by
  intro m
  induction m with
  |zero=>intro _;rfl
  |succ m ih =>
   grind [List.range_succ]
 grind
theorem EB{r:RecM}(hk:k<l.length)(h:r∈(gl l k).bn):r∈fV l:=by
 refine zBD.2 ⟨gl l k,?_,h⟩
 grind [b8]
def opn(g:cQ)(rn:Nat->Int):cQ:={ g with run:=rlR g rn 8 }
theorem ael(h:aak g k)(hg:∀r∈g.bn,HA r):yo ⟨g.gen,g.base,rlR g rn 8,g.buf,[]⟩=opn g rn:=by
 grind [h.len,h.buf,aag,opn]
theorem EC(P:List cQ)(g:cQ)(L:cn)(h:L.l=P++[g]):mP L=g:=by
 grind [mP,jQ]
theorem B5(h:l≠[]):∃P g,l=P++[g]:=⟨l.dropLast,l.getLast h,(List.dropLast_concat_getLast h).symm⟩
theorem ahp(h1:g'.gen=g.gen)(h2:g'.base=g.base)(h3:g'.buf=g.buf)(i:Nat)(run:Int)(j:Nat):jN g' i run j=jN g i run j:=by
 cases g;cases g';dsimp only at h1 h2 h3;subst h1 h2 h3;rfl
theorem dW.open_{L:cn}{n n':Nat}(h:dW L d n rs)(hd:∀r,L.from_<=r->r<L.from_+L.au*8->∀j,j<64->d'.now r j=d.now r j)(hn:d'.n=d.n)(hc:d'.calls<=n')(hx:L.next<9999990000)(hn1:n<4000000000)(hrun:n<n') :
 rH L.from_ L.au d'/\dW (cH L.from_ L.au d') d' n' rs/\(cH L.from_ L.au d').from_=L.from_/\(cH L.from_ L.au d').au=L.au/\(cH L.from_ L.au d').next<=L.next+64/\(cH L.from_ L.au d').run<=L.run+1:=by
 obtain⟨rns,hr⟩:=h.dev;obtain⟨F,hF⟩:∃F:Nat->cQ,F=fun k=>opn (gl L.l k) (Ku (gl L.l k).buf.length (rns k)):=⟨_,rfl⟩
 have hgood:∀k,k<L.l.length->∀r∈(gl L.l k).bn,HA r:=fun k hk r hm=>(h.good r (by grind [h.all,EB])).1;obtain⟨s3,s200⟩:=h.au;have hfew:=h.wN;have hr1:=h.run;have hseg:∀k,k<L.l.length->∀L':cn,L'.from_=L.from_->L'.au=L.au->tR L' d' k=some (F k):=fun k hk L' e1 e2=>by
  have ho:=h.on hn1 hr hd e1 hk;have hs:=h.seg k hk;have hg:=hs.gen;rw[ahm ho (by omega) (by rw[hg,e2,show(k:Int)+1-1=k by omega,Int.tmod_eq_emod_of_nonneg (by omega),Int.emod_eq_of_lt (by omega) (by omega)]),ael hs (hgood k hk),hF]
 have key:∀k,k<=L.au->(oT L.from_ L.au d' k).l=(List.range (min k L.l.length)).map F/\1<=(oT L.from_ L.au d' k).run/\(oT L.from_ L.au d' k).run<=L.run+1 /\
  ∀q,q<k->q<L.l.length->∀i,i<8->bh i<(gl L.l q).buf.length->rns q i+1<=(oT L.from_ L.au d' k).run:=by
  intro k
  induction k with
  |zero=>exact fun _=>⟨by rw[Nat.zero_min];rfl,zBw _,by show(1:Int)<=_;omega,fun q hq=>absurd hq (uh q)⟩
  |succ k ih =>
   intro hk;obtain⟨i1,i2,i3,i4⟩:=ih (by omega);obtain⟨m1,m2,_,_⟩:=A2 L.from_ L.au d' k;obtain⟨M,hM⟩:∃M,M=oT L.from_ L.au d' k:=⟨_,rfl⟩
   have hst:oT L.from_ L.au d' (k+1)={ M with l:=M.l++(tR M d' k).toList,run:=(lS M d' k 8).run }:=by rw[hM];rfl
   rw[hst];rw[<- hM]at i1 i2 i3 i4 m1 m2;by_cases hkl:k<L.l.length
   ·have ho:=h.on hn1 hr hd m1 hkl;have hs:=h.seg k hkl;have hp:=hs.pos;have hlen:=hs.len;have hl7:CE (gl L.l k).buf.length<=7:=by unfold CE;omega
    have hb:∀i,Ku (gl L.l k).buf.length (rns k) i<=L.run:=fun i=>by
     have hu:bh (min i (CE (gl L.l k).buf.length))<(gl L.l k).buf.length:=(Bf hp).2 (by omega);exact(hr.AA k hkl _ (by omega) hu).2
    obtain⟨r1,r2,r3⟩:=Ye ho (by omega) hb 8 (cW _);refine⟨?_,by grind,by grind,fun q hq hql i hi hu=>?_⟩
    ·show M.l++_=_;rw[i1,hseg k hkl M m1 m2,show min (k+1) L.l.length=k+1 by omega,show min k L.l.length=k by omega,List.range_succ,T3];rfl
    grind [Bf,Ku]
   ·have hz:=h.far hr hd m1 (by omega) (show k<L.au by omega);obtain⟨_,e2,e3⟩:=It hz
    grind
 obtain⟨k1,k2,k3,k4⟩:=key L.au (cW _);rw[show min L.au L.l.length=L.l.length by omega]at k1;obtain⟨m1,m2,_,_⟩:=A2 L.from_ L.au d' L.au;have hlen:((List.range L.l.length).map F).length=L.l.length:=by simp
 have hFs:∀k,k<L.l.length->(F k).gen=(k:Int)+1/\(F k).base=(gl L.l k).base/\(F k).buf=(gl L.l k).buf/\(F k).bn=(gl L.l k).bn:=fun k hk=>by
  rw[hF];exact⟨(h.seg k hk).gen,rfl,rfl,rfl⟩
 have hall:fV ((List.range L.l.length).map F)=rs:=by rw[aek fun i hi=>(hFs i hi).2.2.2,h.all]
 have hnext:xM ((List.range L.l.length).map F)=match rs.getLast? with|none=>1|some r=>r.pos+65:=by
  by_cases h0:L.l.length=0
  ·have:L.l=[]:=List.length_eq_zero_iff.1 h0;rw[h0]at hall ⊢;rw[<- hall];rfl
  ·obtain⟨m,hm⟩:∃m,L.l.length=m+1:=⟨L.l.length-1,by omega⟩
   have hrec:=(hFs m (by omega)).2.2.2;have hne:(F m).bn≠[]:=by rw[hrec];exact(h.seg m (by omega)).some_
   rw[hm,List.range_succ,T3]at hall ⊢;have:rs.getLast? = (F m).bn.getLast?:=by
    rw[<- hall];unfold fV;rw[zBL];simp only[LS,zBI,zBy,zBH,z6];rw[List.getLast?_append,List.getLast?_eq_some_getLast hne];rfl
   grind [xM,List.getLast?_eq_some_getLast]
 have hM:cH L.from_ L.au d'={ oT L.from_ L.au d' L.au with next:=xM ((List.range L.l.length).map F) }:=by unfold cH;rw[k1]
 have hnx:1<=xM ((List.range L.l.length).map F)/\xM ((List.range L.l.length).map F)<=L.next+64/\∀r∈rs,r.pos<xM ((List.range L.l.length).map F):=by
  have hnn:=h.next
  rw[hnext];cases hgl:rs.getLast? with
  |none =>
   grind
  |some x =>
   have hx:=List.mem_of_getLast? hgl;have h1:=h.good x hx
   grind [List.getLast?_eq_some_iff,qT,h.sort]
 have hrm:=h.room;have hsz:=h.size;refine⟨⟨⟨s3,s200⟩,by omega,by omega,fun k hk=>?_,?_,?_,?_⟩,⟨by grind,?_,by omega,hc,?_,?_,?_,h.sort,?_,?_,?_,?_,?_⟩,by grind,by grind,by grind,by grind⟩
 ·obtain⟨m1,m2,_,_⟩:=A2 L.from_ L.au d' k;by_cases hkl:k<L.l.length
  ·exact aah (h.on hn1 hr hd m1 hkl)
  ·exact(It (h.far hr hd m1 (by omega) hk)).1
 ·grind [vg]
 ·rw[k1,hlen];intro i hi;rw[vg (by omega),vg hi,(hFs i hi).1,(hFs (L.l.length-1) (by omega)).1];omega
 ·rw[k1,hlen];intro i hi;obtain⟨f1,f2,f3,f4⟩:=hFs i hi;have hb:=(h.seg i hi).base;rw[vg hi,f1,f2,f4];refine⟨by omega,hb.1,by omega,fun j hj=>?_⟩;have hm:gl (gl L.l i).bn j∈(gl L.l i).bn:=by rw[b8 hj];exact List.getElem_mem _
  have h1:=h.good _ (by rw[<- h.all];exact EB hi hm);have:=h1.1.pos;omega
 ·grind
 ·grind
 ·grind
 ·rw[hM];exact fun r hr=>⟨(h.good r hr).1,hnx.2.2 r hr⟩
 ·rw[hM];show fV (oT L.from_ L.au d' L.au).l=rs;rw[k1];exact hall
 ·rw[hM];show(oT L.from_ L.au d' L.au).l.length<=(oT L.from_ L.au d' L.au).au;rw[k1,hlen,m2];exact hfew
 ·rw[hM];show ∀k,k<(oT L.from_ L.au d' L.au).l.length->aak (gl (oT L.from_ L.au d' L.au).l k) k;rw[k1,hlen];intro k hk;obtain⟨f1,f2,f3,f4⟩:=hFs k hk;have hs:=h.seg k hk;rw[vg hk];exact⟨f1,by rw[f2];exact hs.base,by rw[f3,f4];exact hs.buf,by rw[f3];exact hs.len,by rw[f4];exact hs.some_⟩
 ·rw[hM];show ∃rns,ahn (oT L.from_ L.au d' L.au).from_ (oT L.from_ L.au d' L.au).au (oT L.from_ L.au d' L.au).l (oT L.from_ L.au d' L.au).run d' rns;rw[m1,m2,k1];refine⟨rns,⟨?_,?_,?_,?_⟩⟩
  ·rw[hlen];intro k hk i hi hu;rw[vg hk,(hFs k hk).2.2.1]at hu;have h1:=k4 k (by omega) hk i hi hu;have h2:=hr.AA k hk i hi hu;exact⟨h2.1,by omega⟩
  ·rw[hlen];intro k hk i hu;rw[vg hk,(hFs k hk).2.2.1]at hu;exact hr.mono k hk i hu
  ·rw[hlen];intro k hk i hi j hj;have hkk:k*8+8<=L.au*8:=by omega
   rw[vg hk,hd _ (by omega) (by omega) j hj,hr.sec k hk i hi j hj];obtain⟨f1,f2,f3,f4⟩:=hFs k hk;rw[f3,ahp (by rw[f1];exact(h.seg k hk).gen.symm) f2 f3]
  ·rw[hlen];intro r hr1 hr2 j hj;rw[hd _ (by omega) hr2 j hj];exact hr.rest r hr1 hr2 j hj
 ·rw[hM];intro P g hPg;have hPg:(oT L.from_ L.au d' L.au).l=P++[g]:=hPg;rw[k1]at hPg;have hl1:L.l.length=P.length+1:=by rw[<- hlen,hPg];simp
  obtain⟨P0,g0,h0⟩:=B5 (l:=L.l) (by intro e;rw[e]at hl1;cases hl1);have hl2:P0.length=P.length:=by rw[h0]at hl1;simpa using hl1
  have e1:gl ((List.range L.l.length).map F) P.length=g:=by rw[hPg,jQ (by omega),if_neg (Nat.lt_irrefl _)]
  have e2:gl L.l P.length=g0:=by rw[h0,jQ (by omega),if_neg (by omega)]
  rw[vg (by omega)]at e1;have e3:=(hFs P.length (by omega)).2.2.1;rw[e1,e2]at e3;have:=h.ful P0 g0 h0;rw[hl2]at this;rw[e3];exact this
theorem Bg{L:cn}{g:cQ}{was k:Nat}{d:bH}(hg:(g.gen-1).toNat%L.au=k):∀n r j,j<64 ->
 (eL L g was d n).now r j=if ∃i,i<n/\r=L.from_+k*8+i/\AS was g.buf.length i=true then jN g (r-(L.from_+k*8)) L.run j else d.now r j
 |0,r,j,_=>by rw[if_neg (by omega)];rfl
 |n+1,r,j,hj=>by
  have ih:=Bg (L:=L) (g:=g) (was:=was) (d:=d) hg n r j hj;have hsn:oC L g n=L.from_+k*8+n:=by unfold oC;rw[hg]
  unfold eL;by_cases hc:AS was g.buf.length n=true
  ·rw[if_pos hc];show(if r=oC L g n/\j<64 then _ else _)=_;rw[hsn];by_cases hr:r=L.from_+k*8+n
   ·rw[if_pos ⟨hr,hj⟩,if_pos ⟨n,zBi n,hr,hc⟩,hr,zBB]
   ·rw[if_neg (fun e=>hr e.1),ih];congr 1
    grind
  ·rw[if_neg hc,ih];congr 1
   grind
theorem Ta(P:List cQ)(g:cQ):fV (P++[g])=fV P++g.bn:=by simp[fV]
structure amj(m:Nat)(L:cn)(L1:cn)(d d1:bH)(rs:List RecM)(P:List cQ)(g:cQ)(rns:Nat->Nat->Int):Prop where
 l:L1.l=P++[g]
 from_:L1.from_=L.from_
 au:L1.au=L.au
 next:L1.next=L.next
 run:L1.run=L.run
 wN:P.length<L.au
 all:fV P++g.bn=rs
 amk:∀k,k<P.length->aak (gl P k) k
 gen:g.gen=(P.length:Int)+1
 ful:379*P.length+g.buf.length<=2*(gX rs).length+(8+m)
 base:0<=g.base/\g.base<20000000000
 buf:g.buf=gX g.bn
 dn:d1.n=d.n
 calls:d1.calls<=d.calls+2
 aml:∀k,k<P.length->∀i,i<8->bh i<(gl P k).buf.length->0<=rns k i/\rns k i<=L.run
 al5:∀i,i<8->bh i<g.buf.length->0<=rns P.length i/\rns P.length i<=L.run
 al6:∀k,k<P.length->∀i,bh (i+1)<(gl P k).buf.length->rns k i<=rns k (i+1)
 al7:∀i,bh (i+1)<g.buf.length->rns P.length i<=rns P.length (i+1)
 amm:∀k,k<P.length->∀i,i<8->∀j,j<64->d1.now (L.from_+k*8+i) j=if bh i<(gl P k).buf.length then jN (gl P k) i (rns k i) j else 0
 al8:∀i,i<8->∀j,j<64->(g.bn=[]/\i=0)\/d1.now (L.from_+P.length*8+i) j=if bh i<g.buf.length then jN g i (rns P.length i) j else 0
 rest:∀r,L.from_+P.length*8+8<=r->r<L.from_+L.au*8->∀j,j<64->d1.now r j=0
variable{m n':Nat}
theorem dW.pre{L:cn}{n:Nat}(h:dW L d n rs)(hfew:tQ L m=true->L.l.length<L.au)(hm:m<=300) :
 ∃P g rns,amj m L (dX L m) d (mQ L d m) rs P g rns/\g.buf.length+m<=370:=by
 obtain⟨rns,hr⟩:=h.dev;have hnx:=h.next
 have hsegs:=h.au;by_cases hn:tQ L m=true
 ·have hlt:=hfew hn;have e1:dX L m=oD L:=if_pos hn;have e2:mQ L d m=xJ L d:=if_pos hn;have hgen:cA L=⟨(L.l.length:Int)+1,L.next,0,[],[]⟩:=by
   unfold cA;cases hl:L.l.getLast? with
   |none=>grind
   |some g =>
    have hne:L.l≠[]:=by intro e;rw[e]at hl;cases hl
    have hp:=List.length_pos_iff.2 hne;have hg:g=gl L.l (L.l.length-1):=by
     rw[List.getLast?_eq_some_getLast hne,T2]at hl;rw[<- hl,b8 (by omega),List.getLast_eq_getElem]
    have:=(h.seg (L.l.length-1) (by omega)).gen
    grind
  have hkeep:Ae L=L.l:=by
   unfold Ae;rw[List.filter_eq_self];intro g hg;obtain⟨k,hk,rfl⟩:=List.getElem_of_mem hg;have:=(h.seg k hk).gen;rw[b8 hk]at this;unfold n9;rw[hgen,this];simp only[tB];omega
  have hsn:oC L (cA L) 0=L.from_+L.l.length*8:=by
   unfold oC;rw[hgen,show(((L.l.length:Int)+1-1).toNat)=L.l.length by omega,Nat.mod_eq_of_lt hlt];rfl
  have hnow:∀r j,r≠L.from_+L.l.length*8->(xJ L d).now r j=d.now r j:=fun r j hne=>by
   show(if r=oC L (cA L) 0/\j<64 then _ else d.now r j)=_;omega
  have hb0:(gX ([]:List RecM)).length=0:=rfl;refine⟨L.l,cA L,rns,⟨by rw[e1];show Ae L++_=_;rw[hkeep],by rw[e1];rfl,by rw[e1];rfl,by rw[e1];rfl,by rw[e1];rfl,hlt,by grind [h.all],h.seg,by rw[hgen],?_,?_,by rw[hgen];rfl,by rw[e2];rfl,by rw[e2];exact cW _,hr.AA,?_,hr.mono,?_,fun k hk i hi j hj=>?_,fun i hi j hj=>?_,fun r h1 h2 j hj=>?_⟩,?_⟩
  ·rw[hgen];show 379*L.l.length+0<=_;by_cases h0:L.l=[]
   ·grind
   ·obtain⟨P0,g0,hl0⟩:=B5 h0;have h1:=h.ful P0 g0 hl0;have h2:=EC P0 g0 L hl0;have h3:L.l.length=P0.length+1:=by rw[hl0];simp
    have h4:370<g0.buf.length+m:=by
     unfold tQ at hn;rw[h2,IE]at hn;rcases hn with hn|hn
     ·grind
     ·grind
    omega
  ·grind
  ·grind
  ·grind
  ·rw[e2,hnow _ _ (by omega)];exact hr.sec k hk i hi j hj
  ·by_cases h0:i=0
   ·grind
   ·right;rw[e2,hnow _ _ (by omega),hgen];show _=if bh i<0 then _ else _;rw[if_neg (uh _)];exact hr.rest _ (by omega) (by omega) j hj
  ·rw[e2,hnow _ _ (by omega)];exact hr.rest _ (by omega) h2 j hj
  grind
 ·have e1:dX L m=L:=if_neg hn;have e2:mQ L d m=d:=if_neg hn;have hne:L.l≠[]:=by
   intro e;apply hn;unfold tQ;rw[e];rfl
  have hfit:(mP L).buf.length+m<=370:=by
   by_cases hh:370<(mP L).buf.length+m
   ·exact absurd (by unfold tQ;grind) hn
   ·omega
  obtain⟨P,g,hl⟩:=B5 hne;have hlg:=EC P g L hl;rw[hlg]at hfit;have hlen:L.l.length=P.length+1:=by rw[hl];simp
  have hP:∀k,k<P.length->gl L.l k=gl P k:=fun k hk=>by grind [jQ]
  have hG:gl L.l P.length=g:=by rw[hl,jQ (by omega),if_neg (Nat.lt_irrefl _)]
  have hfw:=h.wN;have hsg:=h.seg P.length (by omega);rw[hG]at hsg;refine⟨P,g,rns,⟨by rw[e1,hl],by rw[e1],by rw[e1],by rw[e1],by rw[e1],by omega,by grind [Ta,h.all],fun k hk=>by rw[<- hP k hk];exact h.seg k (by omega),hsg.gen,by have:=h.ful P g hl;omega,hsg.base,hsg.buf,by rw[e2],by rw[e2];omega,?_,?_,?_,?_,?_,?_,?_⟩,hfit⟩
  ·intro k hk i hi hu;rw[<- hP k hk]at hu;exact hr.AA k (by omega) i hi hu
  ·intro i hi hu;rw[<- hG]at hu;exact hr.AA P.length (by omega) i hi hu
  ·intro k hk i hu;rw[<- hP k hk]at hu;exact hr.mono k (by omega) i hu
  ·intro i hu;rw[<- hG]at hu;exact hr.mono P.length (by omega) i hu
  ·intro k hk i hi j hj;rw[e2,<- hP k hk];exact hr.sec k (by omega) i hi j hj
  ·intro i hi j hj;right;rw[e2];have:=hr.sec P.length (by omega) i hi j hj
   grind
  ·intro r h1 h2 j hj;rw[e2];exact hr.rest r (by omega) h2 j hj
theorem dW.amn{L:cn}{n:Nat}(h:dW L d n rs)(hfit:2*((gX rs).length+8+m)<=379*L.au)(hn:tQ L m=true):L.l.length<L.au:=by
 have hs:=h.au;by_cases h0:L.l=[]
 ·grind
 ·obtain⟨P0,g0,hl0⟩:=B5 h0;have h1:=h.ful P0 g0 hl0;have h2:=EC P0 g0 L hl0;have h3:L.l.length=P0.length+1:=by rw[hl0];simp
  have h4:370<g0.buf.length+m:=by
   unfold tQ at hn;rw[h2,IE]at hn;rcases hn with hn|hn
   ·grind
   ·grind
  omega
theorem dW.append{L:cn}{n:Nat}(h:dW L d n rs){body:List Int}(hb:1<=body.length/\body.length<=300)(hx:L.next<9999999999)(hfit:2*((gX rs).length+8+body.length)<=379*L.au) :
 dW (p7 L body) (sN L d body) (n+20) (rs++[⟨L.next,body⟩])/\(p7 L body).next=L.next+1/\(p7 L body).au=L.au/\(p7 L body).from_=L.from_/\(p7 L body).run=L.run/\(sN L d body).n=d.n:=by
 obtain⟨P,g,rns,hp,hgf⟩:=h.pre (h.amn hfit) hb.2;have hnx:=h.next
 have hsegs:=h.au;have hrun:=h.run;have hroom:=h.room;obtain⟨L1,hL1⟩:∃L1,L1=dX L body.length:=⟨_,rfl⟩
 obtain⟨d1,hd1⟩:∃d1,d1=mQ L d body.length:=⟨_,rfl⟩
 rw[<- hL1,<- hd1]at hp;obtain⟨r,hr⟩:∃r:RecM,r=⟨L.next,body⟩:=⟨_,rfl⟩
 have hrb:jY r=HS body.length L.next++body:=by rw[hr];rfl
 have hgr:HA r:=by rw[hr];exact⟨hb,by grind,by grind⟩
 have hlast:mP L1=g:=EC P g L1 hp.l;have hbuf:xK g L.next body=gX (g.bn++[r]):=by
  rw[qB,hrb];simp[xK,zAY,hp.buf]
 have hbl:(gX (g.bn++[r])).length=g.buf.length+8+body.length:=by
  rw[qB,wM,tG,hr,hp.buf];show(gX g.bn).length+(8+body.length)=_;omega
 obtain⟨g',hg'⟩:∃g':cQ,g'=⟨g.gen,g.base,g.run,gX (g.bn++[r]),g.bn++[r]⟩:=⟨_,rfl⟩
 have hA:p7 L body=SD L1 body:=by rw[hL1];rfl
 have hl2:(p7 L body).l=P++[g']:=by
  rw[hA];show L1.l.set (L1.l.length-1) (OT (mP L1) L1.next body)=_;rw[hlast,hp.l,hp.next];have e:OT g L.next body=g':=by simp only[OT,hbuf,hg',hr]
  rw[e];simp
 have hnx2:(p7 L body).next=L.next+1:=by rw[hA];show L1.next+1=_;rw[hp.next]
 have hfr2:(p7 L body).from_=L.from_:=by rw[hA];exact hp.from_
 have hsg2:(p7 L body).au=L.au:=by rw[hA];exact hp.au
 have hrn2:(p7 L body).run=L.run:=by rw[hA];exact hp.run
 obtain⟨gw,hgw⟩:∃gw,gw=SC (mP L1) L1.next body:=⟨_,rfl⟩
 have hgw1:gw=⟨g.gen,g.base,g.run,gX (g.bn++[r]),g.bn⟩:=by rw[hgw,hlast,hp.next];simp only[SC,hbuf]
 have hsec:∀i j,jN gw i L.run j=jN g' i L.run j:=fun i j=>by rw[hgw1,hg'];rfl
 have hD2:xg L1 d1 body=eL L1 gw g.buf.length d1 8:=by unfold xg;rw[<- hgw,hlast]
 have hmod:(gw.gen-1).toNat%L1.au=P.length:=by
  have hgg:gw.gen=(P.length:Int)+1:=by rw[hgw1];exact hp.gen
  rw[hgg,hp.au,show((P.length:Int)+1-1).toNat=P.length by omega,Nat.mod_eq_of_lt hp.wN]
 obtain⟨w1,w2⟩:=zi L1 gw g.buf.length d1 8;have hnow:∀q j,(sN L d body).now q j=(xg L1 d1 body).now q j:=fun q j=>by
  unfold sN;rw[<- hL1,<- hd1];split<;>rfl
 have hpn:=hp.dn;have hpc:=hp.calls;have hdn:(sN L d body).n=d.n/\(sN L d body).calls<=d.calls+11:=by
  unfold sN;rw[<- hL1,<- hd1,hD2];split
  ·grind [jq]
  ·omega
 have hgl:gw.buf.length=g.buf.length+8+body.length:=by rw[hgw1];exact hbl
 have hg'l:g'.buf.length=g.buf.length+8+body.length:=by rw[hg'];exact hbl
 have hpf:=hp.wN;have hPk:∀k,k<P.length->gl (P++[g']) k=gl P k:=fun k hk=>by grind [jQ]
 have hPg:gl (P++[g']) P.length=g':=by rw[jQ (by omega),if_neg (Nat.lt_irrefl _)]
 have hPl:(P++[g']).length=P.length+1:=by simp
 have hcond:∀i,AS g.buf.length gw.buf.length i=true↔(g.buf.length<bh (i+1)/\bh i<g'.buf.length):=fun i=>by
  simp only[AS,jB,tB,hgl,hg'l]
 refine⟨⟨by omega,by omega,by grind [h.size],by grind [h.calls],by omega,by omega,?_,?_,?_,?_,?_,?_,?_⟩,hnx2,hsg2,hfr2,hrn2,hdn.1⟩
 ·rw[hnx2,<- hr];intro x hx;rcases yG.1 hx with hx|hx
  ·have:=h.good x hx;grind
  grind
 ·rw[<- hr];refine Ql h.sort (fun x hx=>?_) (by grind);rw[hr];exact(h.good x hx).2
 ·grind [Ta,hp.all]
 ·grind
 ·rw[hl2,hPl];intro k hk;by_cases e:k=P.length
  ·subst e;rw[hPg,hg'];exact⟨hp.gen,hp.base,rfl,by grind,by simp⟩
  ·rw[hPk k (by omega)];exact hp.amk k (by omega)
 ·refine⟨fun k i=>if k=P.length/\g.buf.length<bh (i+1)then L.run else rns k i,?_⟩;rw[hl2,hfr2,hsg2,hrn2];refine⟨?_,?_,?_,?_⟩
  ·rw[hPl];intro k hk i hi hu
   try dsimp only
   by_cases e:k=P.length
   ·subst e;by_cases hc:g.buf.length<bh (i+1)
    ·omega
    ·rw[if_neg (fun e=>hc e.2)];exact hp.al5 i hi (by grind [bh])
   ·rw[if_neg (fun x=>e x.1)];rw[hPk k (by omega)]at hu;exact hp.aml k (by omega) i hi hu
  ·rw[hPl];intro k hk i hu
   try dsimp only
   by_cases e:k=P.length
   ·subst e;rw[hPg]at hu;by_cases hc:g.buf.length<bh (i+1)
    ·rw[if_pos ⟨rfl,hc⟩,if_pos ⟨rfl,by grind [bh]⟩];omega
    ·rw[if_neg (fun e=>hc e.2)];by_cases hc2:g.buf.length<bh (i+1+1)
     ·rw[if_pos ⟨rfl,hc2⟩];exact(hp.al5 i (by grind [bh]) (by grind [bh])).2
     ·rw[if_neg (fun e=>hc2 e.2)];exact hp.al7 i (by grind [bh])
   ·rw[if_neg (fun x=>e x.1),if_neg (fun x=>e x.1)];rw[hPk k (by omega)]at hu;exact hp.al6 k (by omega) i hu
  ·rw[hPl];intro k hk i hi j hj
   try dsimp only
   rw[hnow,hD2,Bg hmod 8 _ j hj,hp.from_,hp.run];by_cases e:k=P.length
   ·subst e;rw[hPg,zBB,hsec];by_cases hs:bh i<g'.buf.length
    ·rw[if_pos hs];by_cases hc:g.buf.length<bh (i+1)
     ·rw[if_pos ⟨i,hi,rfl,(hcond i).2 ⟨hc,hs⟩⟩,if_pos ⟨rfl,hc⟩]
     ·rw[if_neg,if_neg (fun e=>hc e.2)]
      ·have hlt:bh i<g.buf.length:=by unfold bh at *;omega
       rcases hp.al8 i hi j hj with⟨e,e0⟩|e
       ·rw[hp.buf,e]at hlt;exact absurd hlt (uh _)
       ·rw[e,if_pos hlt];exact aaj (e:=jY r) (by rw[hg']) (by rw[hg']) (by grind [hp.buf,qB]) (show bh (i+1)<=g.buf.length by omega) j hj
      grind
    ·rw[if_neg hs,if_neg]
     ·rcases hp.al8 i hi j hj with⟨e,e0⟩|e
      ·subst e0;exact absurd (show bh 0<g'.buf.length by rw[hg'l];show 0<_;omega) hs
      omega
     grind
   ·rw[if_neg (by omega),if_neg (fun x:k=P.length/\_=>e x.1),hPk k (by omega)];exact hp.amm k (by omega) i hi j hj
  ·rw[hPl];intro q hq hq2 j hj;rw[hnow,hD2,Bg hmod 8 _ j hj,hp.from_,if_neg (by omega)];exact hp.rest q (by omega) hq2 j hj
 ·rw[hl2,<- hr];intro P2 g2 he;have hl3:P2.length=P.length:=by have:=tJ List.length he;simpa using this.symm
  have hg2:g2=g':=by
   have e1:gl (P++[g']) P.length=g2:=by rw[he,<- hl3,jQ (by omega),if_neg (Nat.lt_irrefl _)]
   rw[<- e1,hPg]
  have hf:=hp.ful;have htot:(gX (rs++[r])).length=(gX rs).length+8+body.length:=by
   rw[qB,wM,tG,hr];show(gX rs).length+(8+body.length)=_;omega
  grind
theorem dW.aiy{L:cn}{n:Nat}(h:dW L d n rs)(hn:n<900000000000):AT L d:=by
 have hc:=h.calls;have hx:=h.next
 have hf:=h.wN;have hs:=h.au;refine⟨by omega,hs,h.room,h.size,by omega,by omega,fun i hi=>?_,fun i hi=>(h.seg i hi).len,fun i hi=>?_⟩
 ·have:=(h.seg i hi).gen;omega
 ·have:=vu (gl L.l i).bn fun r hr=>(h.good r (by grind [h.all,EB])).1;rw[(h.seg i hi).buf];exact this
theorem dW.dev'{L:cn}{n:Nat}(h:dW L d n rs)(hd:∀r,L.from_<=r->r<L.from_+L.au*8->∀j,j<64->d'.now r j=d.now r j)(hn:d'.n=d.n)(hc:d'.calls<=n')(hle:n<=n':=by omega):dW L d' n' rs:=by
 obtain⟨rns,hr⟩:=h.dev;refine⟨h.au,by grind [h.room],by grind [h.size],hc,h.next,by grind [h.run],h.good,h.sort,h.all,h.wN,h.seg,⟨rns,⟨hr.AA,hr.mono,fun k hk i hi j hj=>?_,fun r h1 h2 j hj=>?_⟩⟩,h.ful⟩
 ·have:=h.wN;have hkk:k*8+8<=L.au*8:=by omega
  rw[hd _ (by omega) (by omega) j hj];exact hr.sec k hk i hi j hj
 ·rw[hd _ (by omega) h2 j hj];exact hr.rest r h1 h2 j hj
theorem dW.up{L:cn}{n:Nat}(h:dW L d n rs)(hc:d.calls<=n')(hle:n<=n':=by omega):dW L d n' rs:=h.dev' (fun _ _ _ _ _=>rfl) rfl hc hle
theorem dW.flush{L:cn}{n:Nat}(h:dW L d n rs):dW L (jq d) (n+1) rs:=h.dev' (fun _ _ _ _ _=>rfl) rfl (Nat.succ_le_succ h.calls)
theorem dW.new{n:Nat}(h3:3<=sg/\sg<=200)(hr:fr+sg*8<=d.n)(hn:d.n<100000)(hc:d.calls<=n)(hd:EA fr sg none run d):dW ⟨fr,sg,[],1,1,true⟩ d n [] :=
 ⟨h3,hr,hn,hc,by grind,by grind,fun r hr=>by(cases hr),⟨fun i j _ hj=>absurd hj (uh j),fun i hi=>absurd hi (uh i)⟩,rfl,Az _,fun k hk=>absurd hk (uh k),
  ⟨fun _ _=>0,⟨fun k hk=>absurd hk (uh k),fun k hk=>absurd hk (uh k),fun k hk=>absurd hk (uh k),fun r h1 h2 j hj=>by
   have h1:fr+0*8<=r:=h1;by_cases h:r<fr+8
   ·have:=hd.sec (r-fr) (by omega) j hj
    grind
   ·exact hd.rest r (by omega) h2 j hj⟩⟩,fun P g e=>by have:=tJ List.length e;simp at this⟩
theorem Tb:∀(l:List cQ),(∀g∈l,g.bn.length<=42)->(fV l).length<=42*l.length
 |[],_=>Az _
 |g::l,h=>by
  have:=Tb l fun x hx=>h x (CP _ hx);have:=h g List.mem_cons_self;show(g.bn++fV l).length<=42*(l.length+1)
  grind
theorem dW.len{L:cn}{d:bH}{n:Nat}{rs:List RecM}(h:dW L d n rs):rs.length<=42*L.au:=by
 rw[<- h.all];have h1:=Tb L.l fun g hg=>by
  obtain⟨k,hk,rfl⟩:=List.getElem_of_mem hg;have hs:=h.seg k hk;rw[b8 hk]at hs;have h1:=vu (L.l[k]).bn fun r hr=>(h.good r (by rw[<- h.all];exact zBD.2 ⟨_,hg,hr⟩)).1
  grind [hs.len,hs.buf]
 grind [h.wN]
theorem Tc:∀ {rs:List RecM} {r:RecM},rs.Pairwise (fun a b=>a.pos<b.pos)->r∈rs->Cv rs r.pos=some r.body
 |[],_,_,h=>by cases h
 |a::rs,r,hp,h=>by
  rw[List.pairwise_cons]at hp;by_cases e:a.pos=r.pos
  ·grind [Cv]
  ·have hm:r∈rs:=by
    rcases uf.1 h with h|h
    ·grind
    ·exact h
   have:=Tc hp.2 hm
   grind [Cv]
theorem Wb(h:∀r∈rs,r.pos≠p):Cv rs p=none:=by
 grind [Cv]
theorem Td:∀ {l:List cQ} {r:RecM},(fV l).Pairwise (fun a b=>a.pos<b.pos)->r∈fV l->jR l r.pos=some r.body
 |[],_,_,h=>by cases h
 |g::l,r,hp,h=>by
  have e:fV (g::l)=g.bn++fV l:=rfl;rw[e]at hp h;rw[zBp]at hp;simp only[jR,List.findSome?_cons];by_cases hg:r∈g.bn
  ·rw[Tc hp.1 hg]
  ·have hm:r∈fV l:=(yG.1 h).resolve_left hg;rw[Wb fun x hx=>by grind];exact Td hp.2.1 hm
theorem Nd:∀(l:List cQ) (next:Int),mE l next=match fV l with | []=>next|r::_=>r.pos
 |[],_=>rfl
 |g::l,next=>by
  have e:fV (g::l)=g.bn++fV l:=rfl;rw[e];cases hr:g.bn with
  |nil =>
   rw[List.nil_append];have:=Nd l next
   grind [mE]
  |cons r rs =>
   grind [mE,gl]
structure CF(L:cn)(rs:List RecM):Prop where
 all:fV L.l=rs
 wN:L.l.length<1000
 sort:rG rs
 body:∀r∈rs,1<=r.body.length/\r.body.length<=300
 seg:∀i,i<L.l.length->(gl L.l i).bn.length<=400
theorem dW.rd{L:cn}{n:Nat}(h:dW L d n rs):CF L rs:=by
 have hf:=h.wN;have hs:=h.au;refine⟨h.all,by omega,h.sort,fun r hr=>(h.good r hr).1.len,fun i hi=>?_⟩;have h1:=vu (gl L.l i).bn fun r hr=>(h.good r (by grind [h.all,EB])).1;have h2:=(h.seg i hi).len;rw[(h.seg i hi).buf]at h2;omega
variable{m:r9}{r:RecM}
theorem CF.first{L:cn}(h:CF L rs)(hr:r∈rs):dK L<=r.pos:=by
 unfold dK;rw[Nd,h.all];have hp:=(qT.1 h.sort).1;cases rs with
 |nil=>cases hr
 |cons a rs =>
  show a.pos<=r.pos;rcases uf.1 hr with rfl|hr
  ·omega
  grind [List.pairwise_cons]
def vh(get:ByteArray->Option aW)(k:ByteArray)(r:Option aW):ByteArray->Option aW:=fun k'=>if k'=k then r else get k'
structure xm(m:r9)(rs:List RecM)(get:ByteArray->Option aW):Prop where
 rd:CF m.L rs
 pos:∀e∈m.l,∃x,get e.1=some x/\x.key=e.1/\jJ x=true/\(⟨e.2,bl (some x)⟩:RecM)∈rs
 all:∀k,get k≠none->k∈m.l.map Prod.fst
theorem CF.au{L:cn}(h:CF L rs)(i:Nat)(hi:i<L.l.length):rG (gl L.l i).bn/\(gl L.l i).bn.length<=400/\∀k,k<(gl L.l i).bn.length->1<=(gl (gl L.l i).bn k).body.length/\(gl (gl L.l i).bn k).body.length<=1000:=by
 obtain⟨hs1,hs2⟩:=qT.1 h.sort;refine⟨?_,h.seg i hi,fun k hk=>?_⟩
 ·have hm:gl L.l i∈L.l:=by rw[b8 hi];exact List.getElem_mem _
  have hsub:(gl L.l i).bn.Sublist rs:=by rw[<- h.all];exact Hj (f:=fun g:cQ=>g.bn) hm
  grind [qT]
 ·obtain⟨j,hj,e⟩:=PM hi hk;rw[h.all]at hj e;have:=h.body (gl rs j) (by grind [b8])
  grind
theorem xm.amo{get:ByteArray->Option aW}(h:xm m rs get):Z0 m:=⟨h.rd.wN,h.rd.au,fun e he=>by
 obtain⟨x,_,_,_,hx⟩:=h.pos e he
 grind [qT,h.rd.sort]⟩
theorem xm.jk{get:ByteArray->Option aW}(h:xm m rs get)(k:ByteArray):Kf m k (get k):=by
 have hs:=(qT.1 h.rd.sort).1;cases hg:get k with
 |none =>
  left;intro hm;obtain⟨e,he,rfl⟩:=kj.1 hm;obtain⟨x,h1,_⟩:=h.pos e he
  grind
 |some x =>
  obtain⟨e,he,rfl⟩:=kj.1 (h.all k (by rw[hg];simp));obtain⟨x',h1,_,h3,h4⟩:=h.pos e he;rw[hg]at h1;cases h1;rw[<- h.rd.all]at hs h4;exact⟨e.2,he,Td hs h4,h3⟩
theorem xm.keep{get:ByteArray->Option aW}(h:xm m rs get){rs':List RecM}(hL:CF L' rs')(hs:∀r∈rs,r∈rs'):(m.l.filter fun e=>decide (dK L'<=e.2))=m.l:=by
 rw[List.filter_eq_self];intro e he;obtain⟨x,_,_,_,hx⟩:=h.pos e he;simpa using hL.first (hs _ hx)
theorem qU{l:List (ByteArray×Int)}{k:ByteArray}{e:ByteArray×Int}:e∈qR l k↔e∈l/\e.1≠k:=by
 grind [qR]
theorem xm.put{get:ByteArray->Option aW}(h:xm m rs get){x:aW}(hx:jJ x=true)(hL:CF L' (rs++[⟨p,bl (some x)⟩])) :
 xm ⟨L',d',PD m.l x.key p⟩ (rs++[⟨p,bl (some x)⟩]) (vh get x.key (some x)):=by
 refine⟨hL,fun e he=>?_,fun k hk=>?_⟩
 ·rcases uf.1 he with rfl|he
  ·exact⟨x,if_pos rfl,rfl,hx,by simp⟩
  ·obtain⟨he,hne⟩:=qU.1 he;obtain⟨x',h1,h2,h3,h4⟩:=h.pos e he
   grind [vh]
 ·by_cases e:k=x.key
  ·subst e;exact kj.2 ⟨(x.key,p),List.mem_cons_self,rfl⟩
  ·have hk:get k≠none:=by unfold vh at hk;rwa[if_neg e]at hk
   obtain⟨q,hq,rfl⟩:=kj.1 (h.all k hk);exact kj.2 ⟨q,CP _ (qU.2 ⟨hq,e⟩),rfl⟩
theorem xm.drop{get:ByteArray->Option aW}(h:xm m rs get){k0:ByteArray}(hL:CF L' (rs++[r])) :
 xm ⟨L',d',qR m.l k0⟩ (rs++[r]) (vh get k0 none):=by
 refine⟨hL,fun e he=>?_,fun k hk=>?_⟩
 ·obtain⟨he,hne⟩:=qU.1 he;obtain⟨x',h1,h2,h3,h4⟩:=h.pos e he
  grind [vh]
 ·by_cases e:k=k0
  ·subst e;exact absurd (if_pos rfl) hk
  ·have hk:get k≠none:=by unfold vh at hk;rwa[if_neg e]at hk
   obtain⟨q,hq,rfl⟩:=kj.1 (h.all k hk)
   grind [qU]
structure xq(m:r9)(n:Nat)(rs:List RecM)(get:ByteArray->Option aW):Prop where
 log:dW m.L m.d n rs
 has:xm m rs get
 wN:m.l.length<=rs.length
theorem xq.ok{n:Nat}{get:ByteArray->Option aW}(h:xq m n rs get)(hn:n<900000000000)(hk:2*((gX rs).length+8+k)<=379*m.L.au):Aw m k:=by
 exact⟨h.log.aiy hn,by grind [h.wN,h.log.len,h.log.au]⟩
theorem xq.add{n:Nat}{get:ByteArray->Option aW}(h:xq m n rs get){body:List Int}(hb:1<=body.length/\body.length<=300)(hx:m.L.next<9999999999)(hfit:2*((gX rs).length+8+body.length)<=379*m.L.au) :
 dW (kT m body).L (kT m body).d (n+20) (rs++[⟨m.L.next,body⟩])/\(kT m body).L.next=m.L.next+1/\(kT m body).l=m.l/\(kT m body).L.au=m.L.au/\(kT m body).L.from_=m.L.from_:=by
 obtain⟨h1,h2,h3,h4,_⟩:=h.log.append hb hx hfit;exact⟨h1,h2,h.has.keep h1.rd fun r hr=>CQ _ hr,h3,h4⟩
theorem xq.put{m:r9}{n:Nat}{rs:List RecM}{get:ByteArray->Option aW}(h:xq m n rs get){x:aW}(hx:oc x=true)(hn:m.L.next<9999999999)(hfit:2*((gX rs).length+8+(bl (some x)).length)<=379*m.L.au) :
 xq (rK m x) (n+20) (rs++[⟨m.L.next,bl (some x)⟩]) (vh get x.key (some x))/\(rK m x).L.next=m.L.next+1/\(rK m x).L.au=m.L.au/\(rK m x).L.from_=m.L.from_:=by
 have hm:jJ x=true:=by unfold oc at hx;simp only[jB]at hx;exact hx.1
 obtain⟨b1,b2⟩:=qz (o:=some x) fun z e=>by grind
 obtain⟨h1,h2,h3,h4,h5⟩:=h.add ⟨b1,by omega⟩ hn hfit;have hF:rK m x=⟨(kT m (bl (some x))).L,(kT m (bl (some x))).d,PD m.l x.key m.L.next⟩:=by
  unfold rK;rw[if_pos hx,h3]
 rw[hF];refine⟨⟨h1,h.has.put hm h1.rd,?_⟩,h2,h4,h5⟩
 grind [SY,h.wN]
theorem xq.drop{m:r9}{n:Nat}{rs:List RecM}{get:ByteArray->Option aW}(h:xq m n rs get){k:ByteArray}(hk:dB k=true)(hn:m.L.next<9999999999)(hfit:2*((gX rs).length+8+(bl (some (lT k))).length)<=379*m.L.au) :
 xq (sw m k) (n+20) (rs++[⟨m.L.next,bl (some (lT k))⟩]) (vh get k none)/\(sw m k).L.next=m.L.next+1/\(sw m k).L.au=m.L.au/\(sw m k).L.from_=m.L.from_:=by
 obtain⟨b1,b2⟩:=qz (o:=some (lT k)) fun z e=>by grind [F9]
 obtain⟨h1,h2,h3,h4,h5⟩:=h.add ⟨b1,by omega⟩ hn hfit;have hF:sw m k=⟨(kT m (bl (some (lT k)))).L,(kT m (bl (some (lT k)))).d,qR m.l k⟩:=by
  unfold sw;rw[h3]
 rw[hF];refine⟨⟨h1,h.has.drop h1.rd,?_⟩,h2,h4,h5⟩
 grind [h.wN,qR]
def newF(fr sg:Nat)(d:bH):r9:=⟨⟨fr,sg,[],1,1,true⟩,d,[]⟩
theorem xq.new{fr sg:Nat}{d:bH}{n:Nat}{run:Int}(h3:3<=sg/\sg<=200)(hr:fr+sg*8<=d.n)(hn:d.n<100000)(hc:d.calls<=n)(hd:EA fr sg none run d):xq (newF fr sg d) n [] fun _=>none:=by
 have hl:dW (newF fr sg d).L (newF fr sg d).d n []:=dW.new h3 hr hn hc hd;exact⟨hl,⟨hl.rd,fun e he=>(by cases he),fun k hk=>absurd rfl hk⟩,cW _⟩
theorem aam{mC:Nat}{keep:Nat->Bool}(h:∀r,d.loose r=false)(r j:Nat):(mG d mC keep).now r j=d.ru r j:=by
 show ow d mC keep r j=_
 grind [ow]
end Go.Proofs.YtfjgoonelcaggaaGreat
namespace Go.Proofs
open Go.Shelf
def Tryz.Te:Go.Shelf.Ren:=⟨fun|190=>227|125=>189|258=>253|128=>224|129=>225|302=>266|303=>267|304=>268|305=>269|306=>270|307=>271|308=>272|309=>273|310=>274|333=>279|329=>240|330=>241|334=>280|335=>281|336=>282|344=>284|n=>n,fun|31=>46|9=>9|3=>3|46=>108|0=>0|51=>299|53=>64|4=>4|183=>316|182=>315|131=>321|5=>5|218=>336|222=>340|228=>354|229=>248|n=>n,fun|n=>n⟩
theorem Tryz.Yf:Go.Proofs.Lays.n190 Tryz.prog Tryz.Te:={
 mixed:=by kernel_rfl
 f125:=Tryz.func189.trans (tJ some (by kernel_rfl))
 f128:=Tryz.func224.trans (tJ some (by kernel_rfl))
 f129:=Tryz.func225.trans (tJ some (by kernel_rfl))
 f190:=Tryz.func227.trans (tJ some (by kernel_rfl))
 f258:=Tryz.func253.trans (tJ some (by kernel_rfl))
 f302:=Tryz.func266.trans (tJ some (by kernel_rfl))
 f303:=Tryz.func267.trans (tJ some (by kernel_rfl))
 f304:=Tryz.func268.trans (tJ some (by kernel_rfl))
 f305:=Tryz.func269.trans (tJ some (by kernel_rfl))
 f306:=Tryz.func270.trans (tJ some (by kernel_rfl))
 f307:=Tryz.func271.trans (tJ some (by kernel_rfl))
 f308:=Tryz.func272.trans (tJ some (by kernel_rfl))
 f309:=Tryz.func273.trans (tJ some (by kernel_rfl))
 f310:=Tryz.func274.trans (tJ some (by kernel_rfl))
 f329:=Tryz.func240.trans (tJ some (by kernel_rfl))
 f330:=Tryz.func241.trans (tJ some (by kernel_rfl))
 f333:=Tryz.func279.trans (tJ some (by kernel_rfl))
 f334:=Tryz.func280.trans (tJ some (by kernel_rfl))
 f335:=Tryz.func281.trans (tJ some (by kernel_rfl))
 f336:=Tryz.func282.trans (tJ some (by kernel_rfl))
 f344:=Tryz.func284.trans (tJ some (by kernel_rfl))
 t0:=Tryz.underlying0
 a0:=Tryz.isAgg0
 z0:=Tryz.sizeOf0
 v0:=Tryz.zeroValue0
 t3:=Tryz.underlying3
 a3:=Tryz.isAgg3
 z3:=Tryz.sizeOf3
 v3:=Tryz.zeroValue3
 t4:=Tryz.underlying4
 a4:=Tryz.isAgg4
 z4:=Tryz.sizeOf4
 v4:=Tryz.zeroValue4
 t5:=Tryz.underlying5
 a5:=Tryz.isAgg5
 z5:=Tryz.sizeOf5
 v5:=Tryz.zeroValue5
 t9:=Tryz.underlying9
 a9:=Tryz.isAgg9
 z9:=Tryz.sizeOf9
 v9:=Tryz.zeroValue9
 t31:=Tryz.underlying46
 a31:=Tryz.isAgg46
 z31:=Tryz.sizeOf46
 v31:=Tryz.zeroValue46
 t46:=Tryz.underlying108
 a46:=Tryz.isAgg108
 z46:=Tryz.sizeOf108
 v46:=Tryz.zeroValue108
 t51:=Tryz.underlying299
 a51:=Tryz.isAgg299
 z51:=Tryz.sizeOf299
 v51:=Tryz.zeroValue299
 t53:=Tryz.underlying64
 a53:=Tryz.isAgg64
 z53:=Tryz.sizeOf64
 v53:=Tryz.zeroValue64
 t131:=Tryz.underlying321
 a131:=Tryz.isAgg321
 z131:=Tryz.sizeOf321
 v131:=Tryz.zeroValue321
 t182:=Tryz.underlying315
 a182:=Tryz.isAgg315
 z182:=Tryz.sizeOf315
 v182:=Tryz.zeroValue315
 t183:=Tryz.underlying316
 a183:=Tryz.isAgg316
 z183:=Tryz.sizeOf316
 v183:=Tryz.zeroValue316
 t218:=Tryz.underlying336
 a218:=Tryz.isAgg336
 z218:=Tryz.sizeOf336
 v218:=Tryz.zeroValue336
 t222:=Tryz.underlying340
 a222:=Tryz.isAgg340
 z222:=Tryz.sizeOf340
 v222:=Tryz.zeroValue340
 t228:=Tryz.underlying354
 a228:=Tryz.isAgg354
 z228:=Tryz.sizeOf354
 v228:=Tryz.zeroValue354
 t229:=Tryz.underlying248
 a229:=Tryz.isAgg248
 z229:=Tryz.sizeOf248
 v229:=Tryz.zeroValue248 }
open Go.Sort Go.RowKit in
theorem Tryz.slices_Sort_string(blk off cap:Nat)(ss:List (List UInt8))(w:World)(hH:Holds encStr w blk off ss.toArray)(hblk:blk<w.heap.size)(hsz:ss.length<4611686018427387904) :
 Calls Tryz.prog 227 #[.slice (some ⟨blk,off,none⟩) ss.length cap] w fun e w' =>
  e = .returned (.tuple #[])/\∃n os,w'=grow (putRow encStr (Sort.ahead w n) blk off (ss.mergeSort fun x y=>decide (x<=y)).toArray) os:=Any.slices_Sort_string Tryz.Yf blk off cap ss w hH hblk hsz
open Go.RowKit Go.Sort in
theorem Tryz.slices_Sort_string_none(p:Option Addr)(cap:Nat)(w:World) :
 Calls Tryz.prog 227 #[.slice p 0 cap] w fun e w'=>e = .returned (.tuple #[])/\w'=w:=Any.slices_Sort_string_none Tryz.Yf p cap w
end Go.Proofs
namespace Go.Sx
section
open Go.Sort
structure Yg(β:Type) where
 l:List β
 cap:Nat
variable{k:CK}{β γ:Type}
def yz[Inhabited β](enc:β->Value)(l:List β):Nat->Nat->Value:=aa (fun x=>[enc x]) l
def Kv[Inhabited β](ty:TypeId)(k:CK)(enc:β->Value)(srt:List β->List β):cB where
 α:=Yg β
 β:=Unit
 m:=1
 m':=1
 pre:=fun a=>a.l.length<100000
 args:=fun a=>[.a (.slc 0 0 1 a.l.length a.cap)]
 hp:=fun a=>[(0,.arr ty [k] a.l.length (yz enc a.l))]
 ro:=fun _=>[]
 post:=fun _ _=>True
 res:=fun _ _=>.nR []
 eV:=fun a _=>[(0,.arr ty [k] a.l.length (yz enc (srt a.l)))]
theorem HB[Inhabited β]{enc:β->Value}{l:List β}{i:Nat}:yz enc l i 0=enc (gl l i):=rfl
theorem Qm[Inhabited β]{enc:β->Value}{ty:TypeId}{l:List β}{ρ:Env}{p:Place}{w:World}(h:(Chunk.arr ty [k] l.length (yz enc l)).Sat ρ p w)(h0:l≠[]) :
 ∃vs ty' fr,w.heap[p.blk]? = some (.cells vs ty' fr)/\p.off+p.N<=vs.size/\l.length<=p.N/\vz p.off (p.off+p.N) fr/\(∀b,p.fp b↔b=p.blk)/\(∀i,i<l.length->vs[p.off+i]? = some (enc (gl l i))):=by
 rcases h with⟨hn,_⟩ | ⟨vs,ty',fr,hb,h1,h2,h3,h4,h5⟩
 ·grind
 ·simp only[ID,T9]at h1 h3 h5;refine⟨vs,ty',fr,hb,h1,h2,h3,h4,fun i hi=>?_⟩;obtain⟨g1,_⟩:=h5 i hi 0 k rfl;exact g1
theorem aem[Inhabited β][Inhabited γ]{X:Cx}{f:Nat}{ty:TypeId}{enc:β->Value}{enc2:γ->Value}{to:β->γ}{srt:List β->List β}{srt2:List γ->List γ}
 (hto:∀x,enc2 (to x)=enc x) (hsrt:∀l,(srt l).map to=srt2 (l.map to)) (hlen:∀l,(srt l).length=l.length) (hin:∀l x,x∈srt l->x∈l)
 (hcall:∀(blk off cap:Nat) (l:List γ) (w:World),Holds enc2 w blk off l.toArray->blk<w.heap.size->l.length<4611686018427387904 ->
  Calls X.P f #[.slice (some ⟨blk,off,none⟩) l.length cap] w fun e w'=>e = .returned (.tuple #[])/\∃n os,w'=grow (putRow enc2 (Sort.ahead w n) blk off (srt2 l).toArray) os)
 (hnone:∀(p:Option Addr) (cap:Nat) (w:World),Calls X.P f #[.slice p 0 cap] w fun e w'=>e = .returned (.tuple #[])/\w'=w) :
 gN X (Kv ty k enc srt) f:=by
 intro a hpre M ρ w vs hn hh hargs;obtain⟨l,cap⟩:=a;obtain⟨v,vs',rfl,hv,rfl⟩:=hargs;obtain⟨hT,hlc,hcm,hv⟩:=hv;have he:=hh.jk ⟨0,true,.arr ty [k] l.length (yz enc l)⟩ (by simp[ql,Kv]);have hsat:=he.ch;simp only at hsat hlc hcm hv hT;by_cases h0:l=[]
 ·subst h0;have hs:srt []=[]:=zAP (hlen []);have hcalls:Calls X.P f #[v] w fun e w'=>e = .returned (.tuple #[])/\w'=w:=by
   rcases hv with⟨_,h2,rfl⟩ | ⟨o,rfl,_⟩
   ·grind
   ·grind
  refine hcalls.mono ?_;rintro e w' ⟨rfl,rfl⟩;refine⟨_,rfl,(),ρ,trivial,hn,fun _ _=>rfl,⟨[],rfl,rfl⟩,?_⟩
  grind [Kv,EV]
 ·obtain⟨vs0,ty',fr,hb,h1,h2,h3,h4,h5⟩:=Qm hsat h0;have hpos:l.length≠0:=fun h=>h0 (zAP h);have hlt:(ρ.pl 0).blk<w.heap.size:=he.lt _ ((h4 _).2 rfl);rcases hv with⟨g1,_,_⟩ | ⟨o,rfl,ho⟩
  ·omega
  obtain⟨rfl,_⟩:=ho (by omega);simp only[EZ,T9]at *;have hHolds:Holds enc2 w (ρ.pl 0).blk (ρ.pl 0).off (l.map to).toArray:=by
   intro j hj;simp only[List.size_toArray,T7]at hj;refine⟨?_,?_⟩
   ·simp only[World.cell?,hb]
    grind [b8]
   ·simp only[World.frozen?,hb];have:=h3 ((ρ.pl 0).off+j) (by omega) (by omega)
    grind
  have hcalls:=hcall (ρ.pl 0).blk (ρ.pl 0).off cap (l.map to) w hHolds hlt (by rw[T7];have:l.length<100000:=hpre;omega);rw[T7]at hcalls;refine hcalls.mono ?_;rintro e w' ⟨rfl,n,os,rfl⟩;refine⟨_,rfl,(),ρ,trivial,hn,fun _ _=>rfl,⟨[],rfl,rfl⟩,?_⟩;have hsz:(srt2 (l.map to)).length=l.length:=by rw[<- hsrt,T7,hlen]
  have hheap:∀b,b<w.heap.size->(grow (putRow enc2 (Sort.ahead w n) (ρ.pl 0).blk (ρ.pl 0).off (srt2 (l.map to)).toArray) os).heap[b]? = (w.heap.modify (ρ.pl 0).blk (onCells (putCells enc2 (ρ.pl 0).off (srt2 (l.map to)).toArray)))[b]?:=by
   intro b hb';rw[heap_grow_old _ _ (by simpa using hb')];rfl
  have hblk:(grow (putRow enc2 (Sort.ahead w n) (ρ.pl 0).blk (ρ.pl 0).off (srt2 (l.map to)).toArray) os).heap[(ρ.pl 0).blk]? = some (.cells (putCells enc2 (ρ.pl 0).off (srt2 (l.map to)).toArray vs0) ty' fr):=by
   rw[hheap _ hlt,zBv,if_pos rfl,hb];rfl
  have hoth:∀b,b<w.heap.size->b≠(ρ.pl 0).blk->(grow (putRow enc2 (Sort.ahead w n) (ρ.pl 0).blk (ρ.pl 0).off (srt2 (l.map to)).toArray) os).heap[b]? = w.heap[b]?:=by
   intro b hb' hne;rw[hheap b hb',zBv,if_neg (fun h=>hne h.symm)]
  refine⟨⟨rfl,rfl,rfl,?_,fun b hb' hm=>?_,fun ad had=>?_⟩,?_,?_⟩
  ·simp
  ·exact hoth b hb' fun e=>hm (he.own rfl b ((h4 b).2 e) hb')
  ·rw[frozen?_grow _ _ _ (by simpa using had),frozen?_putRow,frozen?_ahead]
  ·intro e' he';have:e'=⟨0,true,.arr ty [k] l.length (yz enc (srt l))⟩:=by simpa[ql,Kv]using he'
   subst this;refine⟨he.tag,?_,fun b hb'=>?_,he.own⟩
   ·refine .inr ⟨_,ty',fr,hblk,?_,h2,?_,h4,fun i hi j k' hj=>?_⟩
    ·grind [putCells]
    ·simpa using h3
    ·have hj0:j=0:=by
      cases j with
      |zero=>rfl
      |succ j=>simp at hj
     subst hj0;have hk:k'=k:=by simpa using hj.symm
     subst hk;have hi':i<(srt l).length:=by rw[hlen];exact hi
     have hmem:gl (srt l) i∈l:=hin l _ (Ju hi');refine⟨?_,?_⟩
     ·simp only[ID,T9,EZ,putCells,Array.getElem?_mapIdx,h5 i hi,zBU]
      grind [b8,HB]
     ·obtain⟨i0,hi0,e0⟩:=List.getElem_of_mem hmem;rcases hsat with⟨hn0,_⟩ | ⟨vs1,ty1,fr1,hb1,_,_,_,_,h6⟩
      ·omega
      grind [HB,b8]
   grind
  ·simp[ql,Kv]
end
end Go.Sx
namespace Go.Proofs.YtfjgoonelcaggaaGreat.Ix
open Go.Sx
def ic(b:ByteArray):List Value:=[.string b]
def tl(b:ByteArray):List UInt8:=b.data.toList
def tW(l:List ByteArray):List ByteArray:=((l.map tl).mergeSort fun x y=>decide (x<=y)).map fun x=>⟨x.toArray⟩
theorem aan(l:List ByteArray):(tW l).map tl=(l.map tl).mergeSort fun x y=>decide (x<=y):=by
 unfold tW;rw[T4];exact(List.map_congr_left fun x _=>by simp[tl]).trans (List.map_id _)
theorem ED(l:List ByteArray):(tW l).length=l.length:=by simp[tW]
theorem Tf(l:List ByteArray):(l.map tl).map (fun x=>(⟨x.toArray⟩:ByteArray))=l:=by
 rw[T4];refine(List.map_congr_left fun x _=>?_).trans (List.map_id _);cases x;simp[tl]
theorem Kw(l:List ByteArray):(tW l).Perm l:=by
 have:=(List.mergeSort_perm (l.map tl) fun x y=>decide (x<=y)).map fun x=>(⟨x.toArray⟩:ByteArray)
 rwa[Tf]at this
theorem aen:av (Y Tryz.prog).G.X 227 (Kv 9 .str Value.string tW):=fun _ _ _ h =>
 y6 (aem (enc2:=encStr) (to:=tl) (srt2:=fun l=>l.mergeSort fun x y=>decide (x<=y)) (fun x=>by cases x;simp[tl,encStr]) aan ED (fun l x hx=>(Kw l).mem_iff.1 hx)
  (fun blk off cap l w h1 h2 h3=>Tryz.slices_Sort_string blk off cap l w h1 h2 h3) (fun p cap w=>Tryz.slices_Sort_string_none p cap w)) h
def keysOf(t:List bX):List ByteArray:=(gV t).map Prod.fst
def Yh:cB where
 α:=wQ
 β:=Nat
 m:=2
 m':=3
 pre:=fun a=>a.x.t.length<100000
 args:=fun _=>[.a (.ptr 0 0 0 0)]
 ro:=fun a=>tS 0 1 a.x.t a.cap a.x.n a.x.used
 res:=fun a cap=>.a (.slc 2 0 1 (keysOf a.x.t).length cap)
 eV:=fun a _=>[(2,.arr 9 [.str] (keysOf a.x.t).length (aa ic (tW (keysOf a.x.t))))]
def al9(a:wQ):An:=.flat 5 (Nat×Nat) (fun s x=>((s.new (.arr 9 [.str] (keysOf (a.x.t.take x.1)).length (aa ic (keysOf (a.x.t.take x.1))))).set 3 (.a (.slc s.nx 0 1 (keysOf (a.x.t.take x.1)).length x.2))).int 13 x.1) (fun _ x=>x.1<=a.x.t.length) (fun _ x=>a.x.t.length-x.1)
theorem Tg{t:List bX}{i:Nat}(h:i<t.length):keysOf (t.take (i+1))=keysOf (t.take i)++if(gl t i).has then[(gl t i).key]else[]:=by
 grind [keysOf,gU,gV,rJ]
theorem Nf(t:List bX):(keysOf t).length<=t.length:=by
 grind [keysOf,gV]
def _root_.pV(y:Nat×Nat)(z:Ix.wQ):List ByteArray:=Ix.keysOf (List.take y.fst z.x.t)
def _root_.Qn(y:Ix.wQ)(z u:Prop):=dU (dh y.x) y.cap (bD (ah (z/\aQ (dh y.x) y.cap/\cR (ag y.x.n) (ag y.x.used) (FV y.x) u)))
def _root_.zF(y u:Nat)(z:Nat×Nat)(v:Nat×Nat->Nat)(w:Nat×Nat->Prop):=jF y u z.snd fun s=>iP z fun x=>ax (y+1) (v x) s x.snd/\w x
theorem aeo:fnBody (Y Tryz.prog) [(227,Kv 9 .str Value.string tW)] 194 Yh fun a=>[(194,[al9 a],[])]:=fnBody.of (p :=
 ∀y:Ix.wQ,dh y.x<100000->jM (fun z=>(0=aF (pV z y)/\0=z.snd)/\Qn y (aF (pV z y)=0) (bE z.fst (dh y.x))) fun z=>fS z.fst (dh y.x) (aK (Ix.bX.has (nJ y.x.t z.fst)) (zF (aF (pV z y)) 16 z (fun u=>aF (pV u y)) fun u=>Qn y (iO (aF (pV u y)) (aF (pV z y)) 1 (aa Ix.ic (pV z y)) (bW (bR (Ix.bX.key (nJ y.x.t z.fst)))) (aa Ix.ic (pV u y))) (bL u.fst (dh y.x) z.fst)) (iP z fun u=>ax (aF (pV z y)) (aF (pV u y)) z.snd u.snd/\Qn y (wA (pV u y) (pV z y) Ix.ic) (bL u.fst (dh y.x) z.fst))) (∃u:Yg ByteArray,iQ (aF (pV z y)) (aF u.l) z.snd u.cap 1 (aa Ix.ic (pV z y)) (aa (fun v=>bW (bR v)) u.l) (aF u.l<100000) (aP (∃v:Nat,ax (aF (pV z y)) (aF (Ix.keysOf y.x.t)) z.snd v/\bA (aA (aF (Ix.keysOf y.x.t)) (aF u.l) 1 (aa (fun w=>bW (bR w)) (Ix.tW u.l)) (aa Ix.ic (Ix.tW (Ix.keysOf y.x.t)))))))) (by kernel_rfl) (by
 delta cE aK cR aQ aO ai aA az aG gq aN aF bK aU gI bI aP aZ ag bD dh jF iO bL aq dU bR iQ iP aC bW ah aS fS aI pV bf Qn aY wA ax bA bS ja eu FV zF jM bw bM nJ bE
 try dsimp -iota -proj only
 intro a h;refine⟨⟨(0,0),?_⟩,fun x hx=>⟨fun c1=>?_,fun c1=>?_⟩⟩
 ·dsimp only;have e:keysOf (a.x.t.take 0)=[]:=rfl
  grind [af.refl]
 ·obtain⟨i,cap0⟩:=x;simp only[tB]at c1;have hi:i<a.x.t.length:=by omega
  have hle:=Nf (a.x.t.take i);rw[zBj]at hle;have hst:=Tg hi;simp only[mA,Ay,bZ];refine⟨by omega,by omega,fun hh=>⟨by omega,by omega,by omega,fun cap _ _ _=>⟨by omega,⟨(i+1,cap),?_⟩⟩⟩,fun hh=>⟨by omega,⟨(i+1,cap0),?_⟩⟩⟩
  ·rw[hh]at hst;dsimp only;rw[hst]
   and_intros<;>first|rfl|trivial|exact cW _|omega|(dsimp only;omega)|exact af.refl _ _ _|(simp;done)|exact .push rfl (by simp) rfl
  ·rw[hh]at hst;simp only[RF,if_false,z6]at hst
   grind [af.refl]
 ·obtain⟨i,cap0⟩:=x;simp only[decide_eq_false_iff_not]at c1
  have hi : i = a.x.t.length := by have : i ≤ a.x.t.length := hx
                                   omega
  subst hi;have hle:=Nf a.x.t;rw[zBd];refine⟨⟨keysOf a.x.t,cap0⟩,?_⟩
  and_intros<;>first|rfl|trivial|exact cW _|omega|(dsimp only;omega)|exact af.refl _ _ _|skip
  refine fun _ _=>⟨cap0,?_⟩
  and_intros<;>first|rfl|trivial|exact cW _|omega|(dsimp only;omega)|exact af.refl _ _ _)
theorem Kx:av (Y Tryz.prog).G.X 194 Yh:=bp gf aeo ⟨aen,trivial⟩
end Go.Proofs.YtfjgoonelcaggaaGreat.Ix
namespace Go.Proofs.YtfjgoonelcaggaaGreat
open Go.Sx
def Th(get:ByteArray->Option aW)(o:Option aW):ByteArray->Option aW:=match o with
 |none=>fun _=>none
 |some x=>vh get x.key (if x.gone then none else some x)
def gE(es:List (Option aW)):ByteArray->Option aW:=es.foldl Th fun _=>none
theorem zG(es:List (Option aW))(o:Option aW):gE (es++[o])=Th (gE es) o:=by simp[gE]
structure qb(m:r9)(n:Nat)(rs:List RecM)(es:List (Option aW)):Prop where
 one:xq m n rs (gE es)
 len:es.length=rs.length
 body:∀i,i<es.length->(gl rs i).body=bl (gl es i)/\∀x,gl es i=some x->jJ x=true
variable{es:List (Option aW)}{rs:List RecM}
theorem Ng{p:Int}{x:aW}(hl:es.length=rs.length)(h:∀i,i<es.length->(gl rs i).body=bl (gl es i)/\∀x,gl es i=some x->jJ x=true)(hx:jJ x=true) :
 (es++[some x]).length=(rs++[(⟨p,bl (some x)⟩:RecM)]).length/\∀i,i<(es++[some x]).length->(gl (rs++[(⟨p,bl (some x)⟩:RecM)]) i).body=bl (gl (es++[some x]) i)/\∀z,gl (es++[some x]) i=some z->jJ z=true:=by
 refine⟨by simp[hl],fun i hi=>?_⟩;rw[wM,ID]at hi;rw[jQ hi,jQ (by omega),hl]
 grind
theorem qb.put{m:r9}{n:Nat}{rs:List RecM}{es:List (Option aW)}(h:qb m n rs es){x:aW}(hx:oc x=true)(hn:m.L.next<9999999999)(hfit:2*((gX rs).length+8+(bl (some x)).length)<=379*m.L.au) :
 qb (rK m x) (n+20) (rs++[⟨m.L.next,bl (some x)⟩]) (es++[some x])/\(rK m x).L.next=m.L.next+1/\(rK m x).L.au=m.L.au/\(rK m x).L.from_=m.L.from_:=by
 have hx2:jJ x=true/\x.gone=false:=by unfold oc at hx;simpa using hx
 obtain⟨h1,h2⟩:=h.one.put hx hn hfit;obtain⟨b1,b2⟩:=Ng (p:=m.L.next) h.len h.body hx2.1;refine⟨⟨?_,b1,b2⟩,h2⟩
 grind [zG,Th]
theorem qb.drop{m:r9}{n:Nat}{rs:List RecM}{es:List (Option aW)}(h:qb m n rs es){k:ByteArray}(hk:dB k=true)(hn:m.L.next<9999999999)(hfit:2*((gX rs).length+8+(bl (some (lT k))).length)<=379*m.L.au) :
 qb (sw m k) (n+20) (rs++[⟨m.L.next,bl (some (lT k))⟩]) (es++[some (lT k)])/\(sw m k).L.next=m.L.next+1/\(sw m k).L.au=m.L.au/\(sw m k).L.from_=m.L.from_:=by
 obtain⟨h1,h2⟩:=h.one.drop hk hn hfit;obtain⟨b1,b2⟩:=Ng (p:=m.L.next) h.len h.body (F9 hk);refine⟨⟨?_,b1,b2⟩,h2⟩;rw[zG];exact h1
theorem qb.new{fr sg:Nat}{d:bH}{n:Nat}{run:Int}(h3:3<=sg/\sg<=200)(hr:fr+sg*8<=d.n)(hn:d.n<100000)(hc:d.calls<=n)(hd:EA fr sg none run d):qb (newF fr sg d) n [] []:=⟨xq.new h3 hr hn hc hd,rfl,fun i hi=>absurd hi (uh i)⟩
theorem Yi{rs:List RecM}{es:List (Option aW)}(hl:es.length=rs.length)(h:∀i,i<es.length->(gl rs i).body=bl (gl es i)/\∀x,gl es i=some x->jJ x=true):∀i,i<=es.length ->
 (∀e∈oL es rs i,∃x,gE (es.take i) e.1=some x/\x.key=e.1/\jJ x=true/\(⟨e.2,bl (some x)⟩:RecM)∈rs)/\∀k,gE (es.take i) k≠none->k∈(oL es rs i).map Prod.fst
 |0,_=>⟨fun e he=>(by cases he),fun k hk=>absurd rfl hk⟩
 |i+1,hi=>by
  obtain⟨h1,h2⟩:=Yi hl h i (by omega);obtain⟨hb,hm⟩:=h i (by omega);have hst:oL es rs (i+1)=xk (oL es rs i) (gl es i) (gl rs i).pos:=rfl;rw[hst,sJ (show i<es.length by omega),zG];cases ho:gl es i with
  |none=>exact⟨fun e he=>(by cases he),fun k hk=>absurd rfl hk⟩
  |some x =>
   rw[ho]at hb hm;have hx:=hm x rfl;have hmem:(⟨(gl rs i).pos,bl (some x)⟩:RecM)∈rs:=by
    rw[<- hb,b8 (show i<rs.length by omega)];exact List.getElem_mem _
   simp only[xk,Th];cases hg:x.gone with
   |true =>
    simp only[if_true];refine⟨fun e he=>?_,fun k hk=>?_⟩
    ·grind [qU,vh]
    ·by_cases e:k=x.key
     ·subst e;exact absurd (if_pos rfl) hk
     ·have hk:gE (es.take i) k≠none:=by unfold vh at hk;rwa[if_neg e]at hk
      obtain⟨q,hq,rfl⟩:=kj.1 (h2 k hk)
      grind [qU]
   |false =>
    refine⟨fun e he=>?_,fun k hk=>?_⟩
    ·rcases uf.1 he with rfl|he
     ·exact⟨x,if_pos rfl,rfl,hx,hmem⟩
     grind [qU,vh]
    ·by_cases e:k=x.key
     ·subst e;exact kj.2 ⟨(x.key,(gl rs i).pos),List.mem_cons_self,rfl⟩
     ·have hk:gE (es.take i) k≠none:=by unfold vh at hk;rwa[if_neg e]at hk
      obtain⟨q,hq,rfl⟩:=kj.1 (h2 k hk);exact kj.2 ⟨q,CP _ (qU.2 ⟨hq,e⟩),rfl⟩
theorem Qo{m:r9}{n:Nat}(h:qb m n rs es){d':bH}(hd:∀r j,d'.now r j=m.d.now r j)(hn:d'.n=m.d.n)(H:PH)(hx:m.L.next<9999990000)(hn1:n<4000000000) :
 zx.pre ⟨H,d',m.L.from_,m.L.au,es⟩/\xm (HX ⟨H,d',m.L.from_,m.L.au,es⟩) rs (gE es)/\(HX ⟨H,d',m.L.from_,m.L.au,es⟩).l.length<=es.length/\∀n',d'.calls<=n'->n<n'->dW (cH m.L.from_ m.L.au d') d' n' rs:=by
 have hl:=h.one.log;have hsg:=hl.au;have hlen:=hl.len;have hop:∀n',d'.calls<=n'->n<n'->rH m.L.from_ m.L.au d'/\dW (cH m.L.from_ m.L.au d') d' n' rs:=fun n' h1 h2=>by
  obtain⟨o1,o2,_⟩:=hl.open_ (d':=d') (fun r _ _ j _=>hd r j) hn h1 hx hn1 h2
  grind
 have key:rH m.L.from_ m.L.au d'/\CF (cH m.L.from_ m.L.au d') rs:=by
  obtain⟨o1,o2⟩:=hop (d'.calls+n+1) (by omega) (by omega);exact⟨o1,o2.rd⟩
 obtain⟨k1,k2⟩:=key;have hall:=k2.all;obtain⟨g1,g2⟩:=Yi h.len h.body es.length (cW _);rw[zBd]at g1 g2;refine⟨⟨k1,⟨by grind [h.len],by show es.length<9000;grind [h.len],by grind [h.body]⟩,k2.seg⟩,⟨k2,?_,?_⟩,?_,fun n' h1 h2=>(hop n' h1 h2).2⟩
 ·show ∀e∈oL es (fV (cH m.L.from_ m.L.au d').l) es.length,_
  grind
 ·show ∀k,gE es k≠none->k∈(oL es (fV (cH m.L.from_ m.L.au d').l) es.length).map Prod.fst
  grind
 ·exact Gc _ _ _
theorem zH(L:cn)(d:bH)(body:List Int):(sN L d body).n=d.n:=by
 have h1:(mQ L d body.length).n=d.n:=by unfold mQ;split<;>rfl
 have h2:=(zi (dX L body.length) (SC (mP (dX L body.length)) (dX L body.length).next body) (mP (dX L body.length)).buf.length (mQ L d body.length) 8).1;unfold sN xg;split
 ·exact h2.trans h1
 omega
theorem DG{n:Int}(h:n.toNat<64):(vi n).length=1:=by
 have:=wm 0 n (by simp;omega)
 grind [nG]
theorem Wc{x:aW}(h1:x.key.size<64)(h2:x.val.size<64)(h3:x.e=0):(bl (some x)).length=x.key.size+x.val.size+5:=by
 have a1:(vi (x.key.size:Nat)).length=1:=DG (by omega);have a2:(vi (x.val.size:Nat)).length=1:=DG (by omega);have a3:(vi x.e).length=1:=DG (by omega);have a4:(vi (if x.gone then 1 else 0)).length=1:=by split<;>exact DG (by decide)
 simp only[bl,List.length_cons,eF,iB,lp,zBy,zBH,z6,wM,mW];omega
theorem aep(m:r9)(b:List Int):(kT m b).d.n=m.d.n:=zH _ _ _
theorem ajE(m:r9)(x:aW):(rK m x).d.n=m.d.n:=by
 grind [rK,aep]
theorem ahq(m:r9)(k:ByteArray):(sw m k).d.n=m.d.n:=aep _ _
theorem Nh{L:cn}{g:cQ}{i:Nat}(hi:i<8)(h3:1<=L.au):L.from_<=oC L g i/\oC L g i<L.from_+L.au*8:=by
 have:=Nat.mod_lt (g.gen-1).toNat (show 0<L.au by omega)
 grind [oC]
theorem EE{L:cn}{g:cQ}{was:Nat}{d:bH}(h3:1<=L.au){r j:Nat}(hr:r<L.from_\/L.from_+L.au*8<=r):∀n,n<=8->(eL L g was d n).now r j=d.now r j
 |0,_=>rfl
 |n+1,hn=>by
  have ih:=EE (g:=g) (was:=was) (d:=d) h3 (j:=j) hr n (by omega);have hs:=Nh (L:=L) (g:=g) (i:=n) (by omega) h3;unfold eL;split
  ·show(if r=oC L g n/\j<64 then _ else(eL L g was d n).now r j)=_;omega
  ·exact ih
variable{F:Nat->Int}{b body:List Int}{cb jb w:Nat}{d d':bH}{k:wv}{s:pY}
theorem Ky{L:cn}(h3:1<=L.au){r j:Nat}(hr:r<L.from_\/L.from_+L.au*8<=r):(sN L d body).now r j=d.now r j:=by
 have e1:(dX L body.length).from_=L.from_/\(dX L body.length).au=L.au:=by unfold dX;split<;>exact⟨rfl,rfl⟩
 have e2:(mQ L d body.length).now r j=d.now r j:=by
  unfold mQ;split
  ·have hs:=Nh (L:=L) (g:=cA L) (i:=0) (by omega) h3;show(if r=oC L (cA L) 0/\j<64 then _ else d.now r j)=_;omega
  ·rfl
 have e3:(xg (dX L body.length) (mQ L d body.length) body).now r j=d.now r j:=by
  unfold xg;rw[EE (by omega) (by omega) 8 (cW _)];exact e2
 unfold sN;split
 ·exact e3
 ·exact e3
theorem qb.dev'{L:cn}{d d':bH}{l:List (ByteArray×Int)}{n n':Nat}{rs:List RecM}{es:List (Option aW)}(h:qb ⟨L,d,l⟩ n rs es)(hd:∀r,L.from_<=r->r<L.from_+L.au*8->∀j,j<64->d'.now r j=d.now r j)(hn:d'.n=d.n)(hc:d'.calls<=n')(hle:n<=n':=by omega):qb ⟨L,d',l⟩ n' rs es :=
 ⟨⟨h.one.log.dev' hd hn hc hle,⟨h.one.has.rd,h.one.has.pos,h.one.has.all⟩,h.one.wN⟩,h.len,h.body⟩
theorem Ti{n:Int}(hF:∀j,j<64->F j=xR n b j)(hn:0<=n/\n<4611686018427387904)(hb:b.length<=40) :
 (p6 F == gB F 0 4)=true/\VW F=n/\F 12=b.length/\(List.range (F 12).toNat).map (fun i=>F (13+i))=b:=by
 have hu:uw .u64 n=(n.toNat:Int):=by simp only[uw];omega
 have h12:F 12=b.length:=by rw[hF 12 (by omega)];rfl
 have hs:p6 F=p6 (DB n b):=sZ fun k h1 h2=>by grind [xR]
 refine⟨?_,?_,h12,?_⟩
 ·obtain⟨r1,r2⟩:=S7 (DB n b);obtain⟨v,hv⟩:∃v:Nat,p6 (DB n b)=v:=⟨(p6 (DB n b)).toNat,by omega⟩
  have:gB F 0 4=v:=Ey (by omega) (show v<256^4 by omega) fun k hk=>by
   rw[mA,hF k (by omega)];grind [xR]
  grind
 ·have:gB F 4 8=n.toNat:=Ey (by omega) (show n.toNat<256^8 by omega) fun k hk=>by
   grind [xR,DB]
  unfold VW;rw[this,show uw .i64 ((n.toNat:Nat):Int)=(n.toNat:Int)from gH (by simp only[bZ];omega)];omega
 ·rw[h12];refine zBR (by simp) fun i h1 h2=>?_
  grind [xR,DB,b8]
theorem aeq(hF:∀j,j<64->F j=0):(p6 F == gB F 0 4)=false:=by
 grind [sZ,Ez,Na]
structure wB(k:wv)(d:bH):Prop where
 at_:k.s.at_=0
 slot:k.s.slot<=1
 fW:1<=k.s.fW/\k.s.fW<1000000000
 text:k.s.text=fT k.m
 may:pq k.m=true
 this:∀j,j<64->d.now k.s.slot j=xR k.s.fW k.s.text j
 other:(∀j,j<64->d.now (1-k.s.slot) j=0)\/∃n m,0<=n/\n<k.s.fW/\pq m=true/\∀j,j<64->d.now (1-k.s.slot) j=xR n (fT m) j
theorem wB.dev'(h:wB k d)(hd:∀r,r<2->∀j,j<64->d'.now r j=d.now r j):wB k d' :=
 ⟨h.at_,h.slot,h.fW,h.text,h.may,fun j hj=>by rw[hd _ (by grind [h.slot]) j hj];exact h.this j hj,by
  rcases h.other with h1 | ⟨n,m,h1,h2,h3,h4⟩
  ·grind
  ·exact .inr ⟨n,m,h1,h2,h3,fun j hj=>by grind⟩⟩
theorem wB.open_(h:wB k d)(hn:1<d.n/\d.n<100000):fZ 0 d 2=k.s/\Kq.pre ⟨0,d,k.m⟩:=by
 obtain⟨⟨at_,fW,text,slot⟩,m⟩:=k;obtain⟨h1,h2,h3,h4,h5,h6,h7⟩:=h;dsimp only at h1 h2 h3 h4 h5 h6 h7;subst h1 h4;obtain⟨l1,l2⟩:=Bb h5;obtain⟨a1,a2,a3,a4⟩:=Ti h6 (by omega) l2;have hoth:(p6 (d.now (1-slot)) == gB (d.now (1-slot)) 0 4)=false\/∃n m',0<=n/\n<fW/\VW (d.now (1-slot))=n/\(1:Int)<=d.now (1-slot) 12/\pq m'=true:=by
  rcases h7 with h7 | ⟨n,m',g1,g2,g3,g4⟩
  ·exact .inl (aeq h7)
  ·obtain⟨q1,q2⟩:=Bb g3;obtain⟨b1,b2,b3,b4⟩:=Ti g4 (by omega) q2;exact .inr ⟨n,m',g1,g2,b2,by rw[b3];omega,g3⟩
 have hgood:∀S:pU,S.fW<fW->Cg S (d.now slot)=true:=fun S hS=>by
  grind [Cg]
 have hstep:∀S:pU,S.fW<fW->tF S slot (d.now slot)=⟨S.at_,fW,fT m,slot⟩:=fun S hS=>by
  grind [tF]
 have e1:(1:Int)<=d.now slot 12:=by rw[a3];omega
 have key:fZ 0 d 2=⟨0,fW,fT m,slot⟩/\∀k,k<2->Cg (fZ 0 d k) (d.now (0+k))=true->(1:Int)<=d.now (0+k) 12:=by
  rcases(by omega:slot=0\/slot=1)with rfl|rfl
  ·grind [fZ,Cg,decide,tF]
  ·grind [fZ,tF,Cg]
 obtain⟨k1,k2⟩:=key;exact⟨k1,⟨by grind,hn.2,by grind,k2⟩,by grind,h5⟩
theorem wB.save{m:MetaM}(h:wB k d)(hs:kA k m=true)(ht:k.s.fW<900000000):wB (pI k m) (ga k d m)/\(pI k m).m=m/\(pI k m).s.fW=k.s.fW+1/\(ga k d m).n=d.n/\(ga k d m).calls=d.calls+2/\∀r,2<=r->∀j,(ga k d m).now r j=d.now r j:=by
 have e1:pI k m=⟨P5 k.s (1-k.s.slot) (k.s.fW+1) (fT m),m⟩:=if_pos hs;have e2:ga k d m=HY k.s d (1-k.s.slot) (k.s.fW+1) (fT m):=if_pos hs;have hm:pq m=true:=by unfold kA at hs;simp only[jB]at hs;exact hs.1
 have h2:=h.slot;have h0:=h.at_;have hnow:∀r j,(HY k.s d (1-k.s.slot) (k.s.fW+1) (fT m)).now r j=if r=1-k.s.slot/\j<64 then xR (k.s.fW+1) (fT m) j else d.now r j:=fun r j=>by
  show(if r=k.s.at_+(1-k.s.slot)/\j<64 then _ else _)=_;omega
 rw[e1,e2];refine⟨⟨h0,by show 1-k.s.slot<=1;omega,by have:=h.fW;show 1<=k.s.fW+1/\k.s.fW+1<_;omega,rfl,hm,fun j hj=>?_,.inr ⟨k.s.fW,k.m,by grind [h.fW],by show k.s.fW<k.s.fW+1;omega,h.may,fun j hj=>?_⟩⟩,rfl,rfl,rfl,rfl,fun r hr j=>?_⟩
 ·show(HY k.s d (1-k.s.slot) (k.s.fW+1) (fT m)).now (1-k.s.slot) j=_;rw[hnow,if_pos ⟨rfl,hj⟩];rfl
 ·show(HY k.s d (1-k.s.slot) (k.s.fW+1) (fT m)).now (1-(1-k.s.slot)) j=_;rw[hnow,if_neg (by omega),show 1-(1-k.s.slot)=k.s.slot by omega,h.this j hj,h.text]
 grind
def Bh(x:iH):RecM:=⟨x.pos,fK x.seq x.key⟩
structure fq(s:pY)(n:Nat)(es:List (Option aW))(cb jb:Nat):Prop where
 fl:∃cr,qb s.fl n cr es/\(gX cr).length<=cb
 jl:dW s.jL s.d n (s.ms.map Bh)
 jb:(gX (s.ms.map Bh)).length<=jb
 ms:∀i,i<s.ms.length->(gl s.ms i).seq=(i:Int)+1/\dB (gl s.ms i).key=true
 nx:s.cL.next<=n/\s.jL.next<=n/\s.k.s.fW<=n
 Yj:s.cL.from_=162/\s.cL.au=gd s.d.n/\s.jL.from_=2/\s.jL.au=20
 dn:192<=s.d.n/\s.d.n<3000
 keep:wB s.k s.d
 bP:s.bP=s.k.m.bP
theorem xu{n:Nat}(h:192<=n):3<=gd n/\gd n<=200/\162+gd n*8<=n:=by grind [gd]
def Tj(s:pY)(x:aW):pY:={ s with d:=(rK s.fl x).d,cL:=(rK s.fl x).L,cl:=(rK s.fl x).l }
def aer(s:pY)(k:ByteArray):pY:={ s with d:=(sw s.fl k).d,cL:=(sw s.fl k).L,cl:=(sw s.fl k).l }
def Yk(s:pY)(k:ByteArray):pY:={ s with d:=(S3 s.jr k).d,jL:=(S3 s.jr k).L,ms:=(S3 s.jr k).ms }
def flS(s:pY):pY:={ s with d:=jq s.d }
theorem fq.cache{n:Nat}(h:fq s n es cb jb){m:r9}{o:Option aW}{cr:List RecM}(hn:n<900000000)
 (h1:qb m (n+20) cr (es++[o])) (hb:(gX cr).length<=cb+w) (hd:m.d=sN s.cL s.d body) (hx:m.L.next=s.cL.next+1) (hs:m.L.au=s.cL.au/\m.L.from_=s.cL.from_) :
 fq { s with d:=m.d,cL:=m.L,cl:=m.l } (n+20) (es++[o]) (cb+w) jb:=by
 obtain⟨g1,g2,g3,g4⟩:=h.Yj;obtain⟨s1,s2,s3⟩:=xu h.dn.1;have hdn:m.d.n=s.d.n:=by rw[hd];exact zH _ _ _
 have hcl:m.d.calls<=n+20:=h1.one.log.calls;have hout:∀r,r<162->∀j,m.d.now r j=s.d.now r j:=fun r hr j=>by grind [Ky]
 have hnx:=h.nx;exact⟨⟨cr,h1,hb⟩,h.jl.dev' (fun r _ h2 j _=>hout r (by omega) j) hdn hcl,h.jb,h.ms,by grind,⟨by grind,by grind,g3,g4⟩,by grind [h.dn],h.keep.dev' fun r hr j _=>hout r (by omega) j,h.bP⟩
theorem fq.put{s:pY}{n:Nat}{es:List (Option aW)}{cb jb:Nat}(h:fq s n es cb jb){x:aW}(hx:oc x=true){w:Nat}(hw:8+(bl (some x)).length<=w)(hn:n<900000000)(hfit:cb+w<=378\/cb+w<=189*gd s.d.n) :
 fq (Tj s x) (n+20) (es++[some x]) (cb+w) jb/\Aw s.fl (bl (some x)).length:=by
 obtain⟨cr,hf,hb⟩:=h.fl;have hnx:s.fl.L.next<=n:=h.nx.1
 have hsl:s.fl.L.au=gd s.d.n:=h.Yj.2.1;obtain⟨q1,q2,_⟩:=xu h.dn.1;obtain⟨f1,f2,f3,f4⟩:=hf.put hx (by omega) (by omega);have hd:(rK s.fl x).d=sN s.cL s.d (bl (some x)):=by unfold rK;rw[if_pos hx];rfl
 exact⟨h.cache hn f1 (by grind [qB,tG]) hd f2 ⟨f3,f4⟩,hf.one.ok (by omega) (by omega)⟩
theorem fq.ala{n:Nat}(h:fq s n es cb jb){k:ByteArray}(hk:dB k=true)(hw:8+(bl (some (lT k))).length<=w)(hn:n<900000000)(hfit:cb+w<=378\/cb+w<=189*gd s.d.n) :
 fq (aer s k) (n+20) (es++[some (lT k)]) (cb+w) jb/\Aw s.fl (bl (some (lT k))).length:=by
 obtain⟨cr,hf,hb⟩:=h.fl;have hnx:s.fl.L.next<=n:=h.nx.1
 have hsl:s.fl.L.au=gd s.d.n:=h.Yj.2.1;obtain⟨q1,q2,_⟩:=xu h.dn.1;obtain⟨f1,f2,f3,f4⟩:=hf.drop hk (by omega) (by omega);exact⟨h.cache hn f1 (by grind [qB,tG]) rfl f2 ⟨f3,f4⟩,hf.one.ok (by omega) (by omega)⟩
theorem fq.flush{n:Nat}(h:fq s n es cb jb):fq (flS s) (n+1) es cb jb:=by
 obtain⟨cr,hf,hb⟩:=h.fl;have hc:=hf.one.log.calls;have hc:(jq s.d).calls<=n+1:=by show s.d.calls+1<=_;have:s.d.calls<=n:=hc;omega
 have hnx:=h.nx;exact⟨⟨cr,hf.dev' (fun _ _ _ _ _=>rfl) rfl hc,hb⟩,h.jl.dev' (fun _ _ _ _ _=>rfl) rfl hc,h.jb,h.ms,by grind [flS],h.Yj,h.dn,h.keep.dev' fun _ _ _ _=>rfl,h.bP⟩
theorem fq.seq{n:Nat}(h:fq s n es cb jb):lU s.ms=s.ms.length:=by
 unfold lU;split
 ·omega
 ·rename_i h0;rw[(h.ms _ (by omega)).1];omega
theorem fq.len{s:pY}{n:Nat}{es:List (Option aW)}{cb jb:Nat}(h:fq s n es cb jb):s.ms.length<=840/\s.ms.length*9<=jb:=by
 have h1:=h.jl.len;have h2:=vu (s.ms.map Bh) fun r hr=>(h.jl.good r hr).1
 grind [h.jb,h.Yj]
theorem fq.amp{n:Nat}(h:fq s n es cb jb){k:ByteArray}(hk:dB k=true)(hw:8+(fK (s.ms.length+1) k).length<=w)(hn:n<900000000)(hfit:jb+w<=3780) :
 fq (Yk s k) (n+20) es cb (jb+w)/\AT s.jL s.d/\(Yk s k).ms=s.ms++[⟨s.ms.length+1,k,s.jL.next⟩]:=by
 obtain⟨g1,g2,g3,g4⟩:=h.Yj;obtain⟨s1,s2,s3⟩:=xu h.dn.1;have hsq:=h.seq;have hkl:=nu hk;have hv:=nG ((s.ms.length:Int)+1);have hbl:1<=(fK (s.ms.length+1) k).length/\(fK (s.ms.length+1) k).length<=300:=by unfold fK;rw[wM,mW];omega
 have hnx:=h.nx;have hjb:=h.jb;obtain⟨l1,l2,l3,l4,_⟩:=h.jl.append (body:=fK (s.ms.length+1) k) hbl (by omega) (by omega);have e:Yk s k={ s with d:=sN s.jL s.d (fK (s.ms.length+1) k),jL:=p7 s.jL (fK (s.ms.length+1) k),ms:=s.ms++[⟨s.ms.length+1,k,s.jL.next⟩] }:=by
  have:S3 s.jr k=⟨p7 s.jL (fK (s.ms.length+1) k),sN s.jL s.d (fK (s.ms.length+1) k),s.ms++[⟨s.ms.length+1,k,s.jL.next⟩]⟩:=by
   unfold S3;rw[show lU s.jr.ms=s.ms.length from hsq];rfl
  show({ s with d:=_,jL:=_,ms:=_ }:pY)=_;rw[this]
 have hout:∀r,(r<2\/162<=r)->∀j,(sN s.jL s.d (fK (s.ms.length+1) k)).now r j=s.d.now r j:=fun r hr j=>Ky (by omega) (by omega);have hdn:(sN s.jL s.d (fK (s.ms.length+1) k)).n=s.d.n:=zH _ _ _;have hm:(s.ms++[(⟨s.ms.length+1,k,s.jL.next⟩:iH)]).map Bh=s.ms.map Bh++[⟨s.jL.next,fK (s.ms.length+1) k⟩]:=by simp[Bh]
 obtain⟨cr,hf,hb⟩:=h.fl;refine⟨?_,h.jl.aiy (by omega),by rw[e]⟩;rw[e];refine⟨⟨cr,hf.dev' (fun r h1 _ j _=>hout r (.inr (by omega)) j) hdn l1.calls,hb⟩,by grind,by grind [qB,tG],fun i hi=>?_,by grind,⟨g1,by grind,by grind,by grind⟩,by grind [h.dn],h.keep.dev' fun r hr j _=>hout r (.inl hr) j,h.bP⟩;have hi:i<s.ms.length+1:=by simpa using hi
 dsimp only;rw[jQ hi];by_cases hl:i<s.ms.length
 ·rw[if_pos hl];exact h.ms i hl
 grind
end Go.Proofs.YtfjgoonelcaggaaGreat
