/-
  
-/
import Derived.Test.YtfjgoonelcaggaaGreatNodeLeaseP4
import Derived.Sort.KeysCollected
import Derived.Test.YtfjgoonelcaggaaGreatNodeLeaseP2
import Derived.Below
import Derived.ChangeSame
import Derived.Carry
import Derived.ChangeArms
import Derived.OpenShut
import Derived.RowKit3
import Derived.Test.YtfjgoonelcaggaaGreatNodeLeaseP3
import Derived.Shelf.SlSortCmp.WholeK
import Derived.Shelf.SlSortCmp.NoneTotal
import Derived.Test.YtfjgoonelcaggaaGreatProg
import Derived.ProofKit
import Derived.WalkKit
set_option maxRecDepth 100000
set_option maxHeartbeats 4000000
set_option linter.unusedVariables false
set_option linter.unusedSimpArgs false
namespace Go.Proofs.YtfjgoonelcaggaaGreat.Ix
open Go.Sx
def kq(b:ByteArray):List Value:=[.string b]
def tl(b:ByteArray):List UInt8:=b.data.toList
def wh(l:List ByteArray):List ByteArray:=((l.map tl).mergeSort fun x y=>decide (x<=y)).map fun x=>⟨x.toArray⟩
theorem Qj(l:List ByteArray):(wh l).map tl=(l.map tl).mergeSort fun x y=>decide (x<=y):=by
 unfold wh;rw[List.map_map];exact(List.map_congr_left fun x _=>by simp[tl]).trans (List.map_id _)
theorem HU(l:List ByteArray):(wh l).length=l.length:=by simp[wh]
theorem J7(l:List ByteArray):(l.map tl).map (fun x=>(⟨x.toArray⟩:ByteArray))=l:=by
 rw[List.map_map];refine(List.map_congr_left fun x _=>?_).trans (List.map_id _);cases x;simp[tl]
theorem MK(l:List ByteArray):(wh l).Perm l:=by
 have:=(List.mergeSort_perm (l.map tl) fun x y=>decide (x<=y)).map fun x=>(⟨x.toArray⟩:ByteArray)
 rwa[J7]at this
theorem T1:ak (Y Tryz.prog).G.X 227 (yo 9 .str Value.string wh):=fun _ _ _ h =>
 vr (T0 (enc2:=encStr) (to:=tl) (srt2:=fun l=>l.mergeSort fun x y=>decide (x<=y)) (fun x=>by cases x;simp[tl,encStr]) Qj HU (fun l x hx=>(MK l).mem_iff.1 hx)
  (fun blk off cap l w h1 h2 h3=>Tryz.slices_Sort_string blk off cap l w h1 h2 h3) (fun p cap w=>Tryz.slices_Sort_string_none p cap w)) h
def keysOf(t:List bk):List ByteArray:=(eu t).map Prod.fst
noncomputable def T2:cC where
 α:=tR
 β:=Nat
 m:=2
 m':=3
 pre:=fun a=>a.x.t.length<100000
 args:=fun _=>[.a (.ptr 0 0 0 0)]
 hp:=fun _=>[]
 ro:=fun a=>o4 0 1 a.x.t a.cap a.x.n a.x.used
 post:=fun _ _=>True
 res:=fun a cap=>.a (.slc 2 0 1 (keysOf a.x.t).length cap)
 cW:=fun a _=>[(2,.arr 9 [.str] (keysOf a.x.t).length (aa kq (wh (keysOf a.x.t))))]
def Y4(a:tR):An:=.flat 5 (Nat×Nat) (fun s x=>((s.new (.arr 9 [.str] (keysOf (a.x.t.take x.1)).length (aa kq (keysOf (a.x.t.take x.1))))).set 3 (.a (.slc s.nx 0 1 (keysOf (a.x.t.take x.1)).length x.2))).int 13 x.1) (fun _ x=>x.1<=a.x.t.length) (fun _ x=>a.x.t.length-x.1)
theorem J8{t:List bk}{i:Nat}(h:i<t.length):keysOf (t.take (i+1))=keysOf (t.take i)++if(gl t i).has then[(gl t i).key]else[]:=by
 unfold keysOf;rw[gv h,ye,List.map_append,pN];cases(gl t i).has<;>simp[eu,mM]
theorem Fm(t:List bk):(keysOf t).length<=t.length:=by
 unfold keysOf eu;simp only[List.length_map];exact List.length_filter_le _ _
def _root_.kI(y:Nat×Nat)(z:Ix.tR):List ByteArray:=Ix.keysOf (List.take y.fst z.x.t)
def _root_.HV(y:Ix.tR)(z u:Prop):=dL (bG y.x) y.cap (bT (ag (z/\bC (bG y.x) y.cap/\cF (af y.x.n) (af y.x.used) (dN (bG y.x) 4 (de y.x.t)) u)))
theorem T3:fnBody (Y Tryz.prog) [(227,yo 9 .str Value.string wh)] 194 T2 fun a=>[(194,[Y4 a],[])]:=fnBody.of (p :=
 ∀y:Ix.tR,bG y.x<100000->(∃z:Nat×Nat,aA z.fst ((0=aT (kI z y)/\0=z.snd)/\HV y (aT (kI z y)=0) (z.fst<=bG y.x/\True)))/\∀z:Nat×Nat,fO z.fst (bG y.x) (aD (Ix.bk.has (jI y.x.t z.fst)) (jP (aT (kI z y)) 16 z.snd fun u=>iq z fun v=>ag (aT (kI z y)+1=aT (kI v y)/\u=v.snd)/\HV y (lC (aT (kI v y)) (aT (kI z y)) 1 (aa Ix.kq (kI z y)) (bD (bH (Ix.bk.key (jI y.x.t z.fst)))) (aa Ix.kq (kI v y))) (bF v.fst (bG y.x) z.fst)) (iq z fun u=>ag (aT (kI z y)=aT (kI u y)/\z.snd=u.snd)/\HV y (Dh (kI u y) (kI z y) Ix.kq) (bF u.fst (bG y.x) z.fst))) (∃u:Om ByteArray,ir (aT (kI z y)) (aT u.l) z.snd u.cap 1 (aa Ix.kq (kI z y)) (aa (fun v=>bD (bH v)) u.l) (aT u.l<100000) (aI (∃v:Nat,ag (aT (kI z y)=aT (Ix.keysOf y.x.t)/\z.snd=v)/\bl (aK (aT (Ix.keysOf y.x.t)) (aT u.l) 1 (aa (fun w=>bD (bH w)) (Ix.wh u.l)) (aa Ix.kq (Ix.wh (Ix.keysOf y.x.t)))))))) (by kernel_rfl) (by
 delta aD aK cF ah bW ay aC gH eO aF bG af aT bK bD aX aB aV bS dN aI gp bT bC lC jP bH bF iq dL aS kI ir aA ag aY HV bx fO bl bu dQ Dh de jG jI
 try dsimp -iota -proj only
 intro a h;refine⟨⟨(0,0),?_⟩,fun x hx=>⟨fun c1=>?_,fun c1=>?_⟩⟩
 ·dsimp only;have e:keysOf (a.x.t.take 0)=[]:=rfl;rw[e]
  and_intros<;>first|rfl|trivial|exact Nat.le_refl _|omega|(dsimp only;omega)|exact aj.refl _ _ _
 ·obtain⟨i,cap0⟩:=x;simp only[decide_eq_true_eq]at c1;have hi:i<a.x.t.length:=by omega
  have hle:=Fm (a.x.t.take i);rw[List.length_take]at hle;have hst:=J8 hi;simp only[Nat.zero_add,Int.toNat_natCast,bQ];refine⟨by omega,by omega,fun hh=>⟨by omega,by omega,by omega,fun cap _ _ _=>⟨by omega,⟨(i+1,cap),?_⟩⟩⟩,fun hh=>⟨by omega,⟨(i+1,cap0),?_⟩⟩⟩
  ·rw[hh]at hst;dsimp only;rw[hst]
   and_intros<;>first|rfl|trivial|exact Nat.le_refl _|omega|(dsimp only;omega)|exact aj.refl _ _ _|(simp;done)|exact .push rfl (by simp) rfl
  ·rw[hh]at hst;simp only[Bool.false_eq_true,if_false,List.append_nil]at hst;dsimp only;rw[hst]
   and_intros<;>first|rfl|trivial|exact Nat.le_refl _|omega|(dsimp only;omega)|exact aj.refl _ _ _
 ·obtain⟨i,cap0⟩:=x;simp only[decide_eq_false_iff_not]at c1
  have hi : i = a.x.t.length := by have : i ≤ a.x.t.length := hx
                                   omega
  subst hi;have hle:=Fm a.x.t;rw[List.take_length];refine⟨⟨keysOf a.x.t,cap0⟩,?_⟩
  and_intros<;>first|rfl|trivial|exact Nat.le_refl _|omega|(dsimp only;omega)|exact aj.refl _ _ _|skip
  refine fun _ _=>⟨cap0,?_⟩
  and_intros<;>first|rfl|trivial|exact Nat.le_refl _|omega|(dsimp only;omega)|exact aj.refl _ _ _)
theorem T4:ak (Y Tryz.prog).G.X 194 T2:=aU fF T3 ⟨T1,trivial⟩
end Go.Proofs.YtfjgoonelcaggaaGreat.Ix
namespace Go.Proofs.YtfjgoonelcaggaaGreat
open Go.Sx
def On(get:ByteArray->Option aG)(o:Option aG):ByteArray->Option aG:=match o with
 |none=>fun _=>none
 |some x=>vP get x.key (if x.gone then none else some x)
def gE(es:List (Option aG)):ByteArray->Option aG:=es.foldl On fun _=>none
theorem vI(es:List (Option aG))(o:Option aG):gE (es++[o])=On (gE es) o:=by simp[gE]
structure mP(m:nU)(n:Nat)(rs:List RecM)(es:List (Option aG)):Prop where
 one:qI m n rs (gE es)
 len:es.length=rs.length
 body:∀i,i<es.length->(gl rs i).body=aJ (gl es i)/\∀x,gl es i=some x->fV x=true
theorem Fo{rs:List RecM}{es:List (Option aG)}{p:Int}{x:aG}(hl:es.length=rs.length)(h:∀i,i<es.length->(gl rs i).body=aJ (gl es i)/\∀x,gl es i=some x->fV x=true)(hx:fV x=true) :
 (es++[some x]).length=(rs++[(⟨p,aJ (some x)⟩:RecM)]).length/\∀i,i<(es++[some x]).length->(gl (rs++[(⟨p,aJ (some x)⟩:RecM)]) i).body=aJ (gl (es++[some x]) i)/\∀z,gl (es++[some x]) i=some z->fV z=true:=by
 refine⟨by simp[hl],fun i hi=>?_⟩;rw[List.length_append,List.length_singleton]at hi;rw[kE hi,kE (by rw[<- hl];exact hi),hl];by_cases hin:i<rs.length
 ·rw[if_pos hin,if_pos hin];exact h i (by omega)
 ·rw[if_neg hin,if_neg hin];exact⟨rfl,fun z e=>by cases e;exact hx⟩
theorem mP.put{m:nU}{n:Nat}{rs:List RecM}{es:List (Option aG)}(h:mP m n rs es){x:aG}(hx:jT x=true)(hn:m.L.next<9999999999)(hfit:(ef rs).length+8+(aJ (some x)).length<=378) :
 mP (nG m x) (n+20) (rs++[⟨m.L.next,aJ (some x)⟩]) (es++[some x])/\(nG m x).L.next=m.L.next+1/\(nG m x).L.au=m.L.au/\(nG m x).L.from_=m.L.from_:=by
 have hx2:fV x=true/\x.gone=false:=by unfold jT at hx;simpa using hx
 obtain⟨h1,h2⟩:=h.one.put hx hn hfit;obtain⟨b1,b2⟩:=Fo (p:=m.L.next) h.len h.body hx2.1;refine⟨⟨?_,b1,b2⟩,h2⟩;rw[vI];simp only[On,hx2.2];exact h1
theorem mP.drop{m:nU}{n:Nat}{rs:List RecM}{es:List (Option aG)}(h:mP m n rs es){k:ByteArray}(hk:dS k=true)(hn:m.L.next<9999999999)(hfit:(ef rs).length+8+(aJ (some (iH k))).length<=378) :
 mP (og m k) (n+20) (rs++[⟨m.L.next,aJ (some (iH k))⟩]) (es++[some (iH k)])/\(og m k).L.next=m.L.next+1/\(og m k).L.au=m.L.au/\(og m k).L.from_=m.L.from_:=by
 obtain⟨h1,h2⟩:=h.one.drop hk hn hfit;obtain⟨b1,b2⟩:=Fo (p:=m.L.next) h.len h.body (zP hk);refine⟨⟨?_,b1,b2⟩,h2⟩;rw[vI];exact h1
theorem mP.new{fr sg:Nat}{d:bz}{n:Nat}{run:Int}(h3:3<=sg/\sg<=200)(hr:fr+sg*8<=d.n)(hn:d.n<100000)(hc:d.calls<=n)(hd:yl fr sg none run d):mP (newF fr sg d) n [] []:=⟨qI.new h3 hr hn hc hd,rfl,fun i hi=>absurd hi (Nat.not_lt_zero i)⟩
theorem Ac(L:bN)(d:bz)(body:List Int):(oa L d body).n=d.n:=by
 have h1:(kG L d body.length).n=d.n:=by unfold kG;split<;>rfl
 have h2:=(sQ (dx L body.length) (JA (jS (dx L body.length)) (dx L body.length).next body) (jS (dx L body.length)).buf.length (kG L d body.length) 8).1;unfold oa qH;split
 ·exact h2.trans h1
 ·exact h2.trans h1
theorem Dj{n:Int}(h:n.toNat<64):(vi n).length=1:=by
 have:=uT 0 n (by simp;omega);have:=(iK n).1;omega
theorem Dk{x:aG}(h1:x.key.size<64)(h2:x.val.size<64)(h3:x.e=0):(aJ (some x)).length=x.key.size+x.val.size+5:=by
 have a1:(vi (x.key.size:Nat)).length=1:=Dj (by omega);have a2:(vi (x.val.size:Nat)).length=1:=Dj (by omega);have a3:(vi x.e).length=1:=Dj (by rw[h3];decide);have a4:(vi (if x.gone then 1 else 0)).length=1:=by split<;>exact Dj (by decide)
 simp only[aJ,List.length_cons,cT,eL,ic,List.flatMap_cons,List.flatMap_nil,List.append_nil,List.length_append,iU];omega
theorem Fp{L:bN}{g:dy}{i:Nat}(hi:i<8)(h3:1<=L.au):L.from_<=jQ L g i/\jQ L g i<L.from_+L.au*8:=by
 have:=Nat.mod_lt (g.gen-1).toNat (show 0<L.au by omega);unfold jQ;omega
theorem yp{L:bN}{g:dy}{was:Nat}{d:bz}(h3:1<=L.au){r j:Nat}(hr:r<L.from_\/L.from_+L.au*8<=r):∀n,n<=8->(dg L g was d n).now r j=d.now r j
 |0,_=>rfl
 |n+1,hn=>by
  have ih:=yp (g:=g) (was:=was) (d:=d) h3 (j:=j) hr n (by omega);have hs:=Fp (L:=L) (g:=g) (i:=n) (by omega) h3;unfold dg;split
  ·show(if r=jQ L g n/\j<64 then _ else(dg L g was d n).now r j)=_;rw[if_neg (by omega)];exact ih
  ·exact ih
theorem Dl{L:bN}{d:bz}{body:List Int}(h3:1<=L.au){r j:Nat}(hr:r<L.from_\/L.from_+L.au*8<=r):(oa L d body).now r j=d.now r j:=by
 have e1:(dx L body.length).from_=L.from_/\(dx L body.length).au=L.au:=by unfold dx;split<;>exact⟨rfl,rfl⟩
 have e2:(kG L d body.length).now r j=d.now r j:=by
  unfold kG;split
  ·have hs:=Fp (L:=L) (g:=bh L) (i:=0) (by omega) h3;show(if r=jQ L (bh L) 0/\j<64 then _ else d.now r j)=_;rw[if_neg (by omega)]
  ·rfl
 have e3:(qH (dx L body.length) (kG L d body.length) body).now r j=d.now r j:=by
  unfold qH;rw[yp (by rw[e1.2];exact h3) (by rw[e1.1,e1.2];exact hr) 8 (Nat.le_refl _)];exact e2
 unfold oa;split
 ·exact e3
 ·exact e3
theorem gU.dev'{L:bN}{d d':bz}{n n':Nat}{rs:List RecM}(h:gU L d n rs)(hd:∀r,L.from_<=r->r<L.from_+L.au*8->∀j,j<64->d'.now r j=d.now r j)(hn:d'.n=d.n)(hc:d'.calls<=n'):gU L d' n' rs :=
 ⟨h.au,by rw[hn];exact h.room,by rw[hn];exact h.size,hc,h.next,h.run,h.good,h.sort,h.fits,h.IN,⟨fun i hi j hj=>by rw[hd _ (by omega) (by have:=h.au;omega) j hj];exact h.dev.sec i hi j hj,fun r h1 h2 j hj=>by rw[hd r (by omega) h2 j hj];exact h.dev.rest r h1 h2 j hj⟩⟩
theorem mP.dev'{L:bN}{d d':bz}{l:List (ByteArray×Int)}{n n':Nat}{rs:List RecM}{es:List (Option aG)}(h:mP ⟨L,d,l⟩ n rs es)(hd:∀r,L.from_<=r->r<L.from_+L.au*8->∀j,j<64->d'.now r j=d.now r j)(hn:d'.n=d.n)(hc:d'.calls<=n'):mP ⟨L,d',l⟩ n' rs es :=
 ⟨⟨h.one.log.dev' hd hn hc,⟨h.one.has.rd,h.one.has.pos,h.one.has.all⟩,h.one.x7⟩,h.len,h.body⟩
structure uZ(k:qn)(d:bz):Prop where
 at_:k.s.at_=0
 slot:k.s.slot<=1
 fh:1<=k.s.fh/\k.s.fh<1000000000
 text:k.s.text=eU k.m
 may:mZ k.m=true
 this:∀j,j<64->d.now k.s.slot j=xw k.s.fh k.s.text j
 other:(∀j,j<64->d.now (1-k.s.slot) j=0)\/∃n m,0<=n/\n<k.s.fh/\mZ m=true/\∀j,j<64->d.now (1-k.s.slot) j=xw n (eU m) j
theorem uZ.dev'{k:qn}{d d':bz}(h:uZ k d)(hd:∀r,r<2->∀j,j<64->d'.now r j=d.now r j):uZ k d' :=
 ⟨h.at_,h.slot,h.fh,h.text,h.may,fun j hj=>by rw[hd _ (by have:=h.slot;omega) j hj];exact h.this j hj,by
  rcases h.other with h1 | ⟨n,m,h1,h2,h3,h4⟩
  ·exact .inl fun j hj=>by rw[hd _ (by omega) j hj];exact h1 j hj
  ·exact .inr ⟨n,m,h1,h2,h3,fun j hj=>by rw[hd _ (by omega) j hj];exact h4 j hj⟩⟩
theorem uZ.save{k:qn}{d:bz}{m:MetaM}(h:uZ k d)(hs:gD k m=true)(ht:k.s.fh<900000000):uZ (mO k m) (ig k d m)/\(mO k m).m=m/\(mO k m).s.fh=k.s.fh+1/\(ig k d m).n=d.n/\(ig k d m).calls=d.calls+2/\∀r,2<=r->∀j,(ig k d m).now r j=d.now r j:=by
 have e1:mO k m=⟨HJ k.s (1-k.s.slot) (k.s.fh+1) (eU m),m⟩:=if_pos hs;have e2:ig k d m=Ba k.s d (1-k.s.slot) (k.s.fh+1) (eU m):=if_pos hs;have hm:mZ m=true:=by unfold gD at hs;simp only[Bool.and_eq_true]at hs;exact hs.1
 have h2:=h.slot;have h0:=h.at_;have hnow:∀r j,(Ba k.s d (1-k.s.slot) (k.s.fh+1) (eU m)).now r j=if r=1-k.s.slot/\j<64 then xw (k.s.fh+1) (eU m) j else d.now r j:=fun r j=>by
  show(if r=k.s.at_+(1-k.s.slot)/\j<64 then _ else _)=_;rw[h0,Nat.zero_add]
 rw[e1,e2];refine⟨⟨h0,by show 1-k.s.slot<=1;omega,by have:=h.fh;show 1<=k.s.fh+1/\k.s.fh+1<_;omega,rfl,hm,fun j hj=>?_,.inr ⟨k.s.fh,k.m,by have:=h.fh;omega,by show k.s.fh<k.s.fh+1;omega,h.may,fun j hj=>?_⟩⟩,rfl,rfl,rfl,rfl,fun r hr j=>?_⟩
 ·show(Ba k.s d (1-k.s.slot) (k.s.fh+1) (eU m)).now (1-k.s.slot) j=_;rw[hnow,if_pos ⟨rfl,hj⟩];rfl
 ·show(Ba k.s d (1-k.s.slot) (k.s.fh+1) (eU m)).now (1-(1-k.s.slot)) j=_;rw[hnow,if_neg (by omega),show 1-(1-k.s.slot)=k.s.slot by omega,h.this j hj,h.text]
 ·rw[hnow,if_neg (by omega)]
def Dm(x:eR):RecM:=⟨x.pos,dH x.seq x.key⟩
structure dM(s:lF)(n:Nat)(es:List (Option aG))(cb jb:Nat):Prop where
 fl:∃cr,mP s.fl n cr es/\(ef cr).length<=cb
 jl:gU s.jL s.d n (s.ms.map Dm)
 jb:(ef (s.ms.map Dm)).length<=jb
 ms:∀i,i<s.ms.length->(gl s.ms i).seq=(i:Int)+1/\dS (gl s.ms i).key=true
 nx:s.cL.next<=n/\s.jL.next<=n/\s.k.s.fh<=n
 XI:s.cL.from_=162/\s.cL.au=iP s.d.n/\s.jL.from_=2/\s.jL.au=20
 dn:192<=s.d.n/\s.d.n<3000
 keep:uZ s.k s.d
 bO:s.bO=s.k.m.bO
theorem By{n:Nat}(h:192<=n):3<=iP n/\iP n<=200/\162+iP n*8<=n:=by unfold iP;omega
def J9(s:lF)(x:aG):lF:={ s with d:=(nG s.fl x).d,cL:=(nG s.fl x).L,cl:=(nG s.fl x).l }
def T5(s:lF)(k:ByteArray):lF:={ s with d:=(og s.fl k).d,cL:=(og s.fl k).L,cl:=(og s.fl k).l }
def Oo(s:lF)(k:ByteArray):lF:={ s with d:=(JZ s.jr k).d,jL:=(JZ s.jr k).L,ms:=(JZ s.jr k).ms }
def WG(s:lF):lF:={ s with d:=gn s.d }
theorem dM.cache{s:lF}{n:Nat}{es:List (Option aG)}{cb jb:Nat}(h:dM s n es cb jb){m:nU}{body:List Int}{o:Option aG}{cr:List RecM}{w:Nat}(hn:n<900000000)
 (h1:mP m (n+20) cr (es++[o])) (hb:(ef cr).length<=cb+w) (hd:m.d=oa s.cL s.d body) (hx:m.L.next=s.cL.next+1) (hs:m.L.au=s.cL.au/\m.L.from_=s.cL.from_) :
 dM { s with d:=m.d,cL:=m.L,cl:=m.l } (n+20) (es++[o]) (cb+w) jb:=by
 obtain⟨g1,g2,g3,g4⟩:=h.XI;obtain⟨s1,s2,s3⟩:=By h.dn.1;have hdn:m.d.n=s.d.n:=by rw[hd];exact Ac _ _ _
 have hcl:m.d.calls<=n+20:=h1.one.log.calls;have hout:∀r,r<162->∀j,m.d.now r j=s.d.now r j:=fun r hr j=>by rw[hd];exact Dl (by omega) (.inl (by omega))
 have hnx:=h.nx;exact⟨⟨cr,h1,hb⟩,h.jl.dev' (fun r _ h2 j _=>hout r (by omega) j) hdn hcl,h.jb,h.ms,by dsimp only;rw[hx];push_cast;omega,⟨by rw[hs.2];exact g1,by dsimp only;rw[hs.1,hdn];exact g2,g3,g4⟩,by dsimp only;rw[hdn];exact h.dn,h.keep.dev' fun r hr j _=>hout r (by omega) j,h.bO⟩
theorem dM.put{s:lF}{n:Nat}{es:List (Option aG)}{cb jb:Nat}(h:dM s n es cb jb){x:aG}(hx:jT x=true){w:Nat}(hw:8+(aJ (some x)).length<=w)(hn:n<900000000)(hfit:cb+w<=378) :
 dM (J9 s x) (n+20) (es++[some x]) (cb+w) jb/\sZ s.fl (aJ (some x)).length:=by
 obtain⟨cr,hf,hb⟩:=h.fl;have hnx:s.fl.L.next<=n:=h.nx.1
 obtain⟨f1,f2,f3,f4⟩:=hf.put hx (by omega) (by omega);have hd:(nG s.fl x).d=oa s.cL s.d (aJ (some x)):=by unfold nG;rw[if_pos hx];rfl
 exact⟨h.cache hn f1 (by rw[lZ,List.length_append,vF];dsimp only;omega) hd f2 ⟨f3,f4⟩,hf.one.ok (by omega) (by omega)⟩
theorem dM.Y5{s:lF}{n:Nat}{es:List (Option aG)}{cb jb:Nat}(h:dM s n es cb jb){k:ByteArray}(hk:dS k=true){w:Nat}(hw:8+(aJ (some (iH k))).length<=w)(hn:n<900000000)(hfit:cb+w<=378) :
 dM (T5 s k) (n+20) (es++[some (iH k)]) (cb+w) jb/\sZ s.fl (aJ (some (iH k))).length:=by
 obtain⟨cr,hf,hb⟩:=h.fl;have hnx:s.fl.L.next<=n:=h.nx.1
 obtain⟨f1,f2,f3,f4⟩:=hf.drop hk (by omega) (by omega);exact⟨h.cache hn f1 (by rw[lZ,List.length_append,vF];dsimp only;omega) rfl f2 ⟨f3,f4⟩,hf.one.ok (by omega) (by omega)⟩
theorem dM.flush{s:lF}{n:Nat}{es:List (Option aG)}{cb jb:Nat}(h:dM s n es cb jb):dM (WG s) (n+1) es cb jb:=by
 obtain⟨cr,hf,hb⟩:=h.fl;have hc:=hf.one.log.calls;have hc:(gn s.d).calls<=n+1:=by show s.d.calls+1<=_;have:s.d.calls<=n:=hc;omega
 have hnx:=h.nx;exact⟨⟨cr,hf.dev' (fun _ _ _ _ _=>rfl) rfl hc,hb⟩,h.jl.dev' (fun _ _ _ _ _=>rfl) rfl hc,h.jb,h.ms,by dsimp only[WG];push_cast;omega,h.XI,h.dn,h.keep.dev' fun _ _ _ _=>rfl,h.bO⟩
theorem dM.seq{s:lF}{n:Nat}{es:List (Option aG)}{cb jb:Nat}(h:dM s n es cb jb):gT s.ms=s.ms.length:=by
 unfold gT;split
 ·rename_i h0;rw[h0];rfl
 ·rename_i h0;rw[(h.ms _ (by omega)).1];omega
theorem dM.len{s:lF}{n:Nat}{es:List (Option aG)}{cb jb:Nat}(h:dM s n es cb jb):s.ms.length<=42:=by
 have:=h.jl.len;rwa[List.length_map]at this
theorem dM.ZM{s:lF}{n:Nat}{es:List (Option aG)}{cb jb:Nat}(h:dM s n es cb jb){k:ByteArray}(hk:dS k=true){w:Nat}(hw:8+(dH (s.ms.length+1) k).length<=w)(hn:n<900000000)(hfit:jb+w<=378) :
 dM (Oo s k) (n+20) es cb (jb+w)/\uI s.jL s.d/\(Oo s k).ms=s.ms++[⟨s.ms.length+1,k,s.jL.next⟩]:=by
 obtain⟨g1,g2,g3,g4⟩:=h.XI;obtain⟨s1,s2,s3⟩:=By h.dn.1;have hsq:=h.seq;have hkl:=oh hk;have hv:=iK ((s.ms.length:Int)+1);have hbl:1<=(dH (s.ms.length+1) k).length/\(dH (s.ms.length+1) k).length<=300:=by unfold dH;rw[List.length_append,iU];omega
 have hnx:=h.nx;have hjb:=h.jb;obtain⟨l1,l2,l3,l4⟩:=h.jl.append (body:=dH (s.ms.length+1) k) hbl (by omega) (by omega);have e:Oo s k={ s with d:=oa s.jL s.d (dH (s.ms.length+1) k),jL:=lU s.jL (dH (s.ms.length+1) k),ms:=s.ms++[⟨s.ms.length+1,k,s.jL.next⟩] }:=by
  have:JZ s.jr k=⟨lU s.jL (dH (s.ms.length+1) k),oa s.jL s.d (dH (s.ms.length+1) k),s.ms++[⟨s.ms.length+1,k,s.jL.next⟩]⟩:=by
   unfold JZ;rw[show gT s.jr.ms=s.ms.length from hsq];rfl
  show({ s with d:=_,jL:=_,ms:=_ }:lF)=_;rw[this]
 have hout:∀r,(r<2\/162<=r)->∀j,(oa s.jL s.d (dH (s.ms.length+1) k)).now r j=s.d.now r j:=fun r hr j=>Dl (by omega) (by omega);have hdn:(oa s.jL s.d (dH (s.ms.length+1) k)).n=s.d.n:=Ac _ _ _;have hm:(s.ms++[(⟨s.ms.length+1,k,s.jL.next⟩:eR)]).map Dm=s.ms.map Dm++[⟨s.jL.next,dH (s.ms.length+1) k⟩]:=by simp[Dm]
 obtain⟨cr,hf,hb⟩:=h.fl;refine⟨?_,h.jl.WE (by omega),by rw[e]⟩;rw[e];refine⟨⟨cr,hf.dev' (fun r h1 _ j _=>hout r (.inr (by have:s.fl.L.from_=162:=g1;omega)) j) hdn l1.calls,hb⟩,by dsimp only;rw[hm];exact l1,by dsimp only;rw[hm,lZ,List.length_append,vF];dsimp only;omega,fun i hi=>?_,by dsimp only;rw[l2];push_cast;omega,⟨g1,by dsimp only;rw[hdn];exact g2,by dsimp only;rw[l4];exact g3,by dsimp only;rw[l3];exact g4⟩,by dsimp only;rw[hdn];exact h.dn,h.keep.dev' fun r hr j _=>hout r (.inl hr) j,h.bO⟩;have hi:i<s.ms.length+1:=by simpa using hi
 dsimp only;rw[kE hi];by_cases hl:i<s.ms.length
 ·rw[if_pos hl];exact h.ms i hl
 ·rw[if_neg hl];have:i=s.ms.length:=by omega
  subst this;exact⟨rfl,hk⟩
theorem Oq{L:bN}{d:bz}{n:Nat}{rs:List RecM}(h:gU L d n rs):L.l.length<=1:=by
 obtain⟨base,_,_,hl⟩:=h.IN;rw[hl];cases rs with
 |nil=>exact Nat.zero_le _
 |cons r rs=>exact Nat.le_refl _
theorem Ot{fr sg:Nat}{d:bz}{n:Nat}{run:Int}(h3:3<=sg/\sg<=200)(hr:fr+sg*8<=d.n)(hn:d.n<100000)(hc:d.calls<=n)(hd:yl fr sg none run d):mP ⟨⟨fr,sg,[],1,1,true⟩,d,[]⟩ n [] []/\gU ⟨fr,sg,[],1,1,true⟩ d n []:=⟨mP.new h3 hr hn hc hd,(mP.new h3 hr hn hc hd).one.log⟩
theorem xK{d:bz}{c:Nat}(hn:192<=d.n/\d.n<3000)(hc:d.calls<=c)(hc2:c<900000000)(H:PH) :
 yj.pre ⟨d,H⟩/\dM (jU (ru ⟨d,H⟩)) (c+d.n+100) [] 0 0/\(jU (ru ⟨d,H⟩)).k.m=⟨1,0,0,false⟩/\(jU (ru ⟨d,H⟩)).ms=[]/\(∀r,(jU (ru ⟨d,H⟩)).d.loose r=false)/\(∀r j,(jU (ru ⟨d,H⟩)).d.EM r j=(jU (ru ⟨d,H⟩)).d.now r j)/\(jU (ru ⟨d,H⟩)).d.n=d.n:=by
 obtain⟨D0,hD0⟩:∃D,D=oQ (eM d d.n) 0 (eU Bx):=⟨_,rfl⟩
 have hnow:∀r j,j<64->r<d.n->D0.now r j=if r=0 then xw 1 (eU Bx) j else 0:=fun r j hj hr=>by
  rw[hD0];show(if r=0+0/\j<64 then xw 1 (eU Bx) j else if r=0+1/\j<64 then 0 else if r=0/\j<64 then 0 else if r<d.n/\j<64 then 0 else d.now r j)=_;by_cases h0:r=0
  ·rw[if_pos (by omega),if_pos h0]
  ·rw[if_neg (by omega),if_neg h0];by_cases h1:r=1
   ·rw[if_pos (by omega)]
   ·rw[if_neg (by omega),if_neg (by omega),if_pos (by omega)]
 have hDn:D0.n=d.n:=by rw[hD0];rfl
 have hDc:D0.calls<=c+d.n+5:=by rw[hD0];show d.calls+d.n+1+1+1+1+1<=_;omega
 have hK:uZ (jx 0) D0:=⟨rfl,by decide,by decide,rfl,rfl,fun j hj=>by
  rw[show(jx 0).s.slot=0 from rfl,hnow 0 j hj (by omega),if_pos rfl];rfl,.inl fun j hj=>by
  rw[show 1-(jx 0).s.slot=1 from rfl,hnow 1 j hj (by omega),if_neg (by omega)]⟩
 have hs:gD (jx 0) (om Bx)=true:=by decide
 obtain⟨k1,k2,k3,k4,k5,k6⟩:=hK.save hs (by decide);obtain⟨D,hD⟩:∃D,D=ig (jx 0) D0 (om Bx):=⟨_,rfl⟩
 have hDD:D=gn (gm D0 (0+1) 64 (xw 2 (eU (om Bx)))):=by rw[hD];unfold ig;rw[if_pos hs];rfl
 rw[<- hD]at k1 k4 k5 k6;obtain⟨s1,s2,s3⟩:=By hn.1;have hz:∀r,2<=r->r<d.n->∀j,j<64->D.now r j=0:=fun r h1 h2 j hj=>by rw[k6 r h1 j,hnow r j hj h2,if_neg (by omega)]
 have hd1:yl 2 20 none 1 D:=⟨fun i hi j hj=>hz _ (by omega) (by omega) j hj,fun r h1 h2 j hj=>hz r (by omega) (by omega) j hj⟩
 have hd2:yl 162 (iP d.n) none 1 D:=⟨fun i hi j hj=>hz _ (by omega) (by omega) j hj,fun r h1 h2 j hj=>hz r (by omega) (by omega) j hj⟩
 obtain⟨a1,a2⟩:=Fk hd1 (by omega) (by omega) (by omega);obtain⟨b1,b2⟩:=Fk hd2 (by omega) (by omega) (by omega);have e0:ru ⟨d,H⟩=⟨jx 0,0,D0,H,[],[]⟩:=by rw[hD0];rfl
 have e1:jU (ru ⟨d,H⟩)=⟨D,⟨162,iP d.n,[],1,1,true⟩,[],⟨2,20,[],1,1,true⟩,[],mO (jx 0) (om Bx),1⟩:=by
  rw[e0];show(⟨ig (jx 0) D0 (om Bx),cK 162 (iP D0.n) (ig (jx 0) D0 (om Bx)),_,cK 2 20 (ig (jx 0) D0 (om Bx)),_,_,_⟩:lF)=_;rw[<- hD,hDn,a2,b2];rfl
 obtain⟨n1,_⟩:=Ot (n:=c+d.n+100) (d:=D) ⟨s1,s2⟩ (by omega) (by omega) (by omega) hd2;obtain⟨_,n2⟩:=Ot (n:=c+d.n+100) (d:=D) (show 3<=20/\20<=200 by omega) (by omega) (by omega) (by omega) hd1;refine⟨⟨hn.1,by show d.n<100000;omega,by show d.calls<_;omega,?_⟩,?_,?_,?_,?_,?_,?_⟩
 ·rw[e0];refine⟨by dsimp only;omega,by dsimp only;omega,hs,⟨rfl,by show(0:Nat)<=1;omega,by show(0:Int)<=1;omega,by show(1:Int)<1000000000000;omega⟩,fun H=>?_,fun H=>?_⟩
  ·show zY.pre ⟨H,ig (jx 0) D0 (om Bx),2,20,[]⟩;rw[<- hD];refine⟨Nat.le_refl _,a1,?_,?_⟩
   ·rw[show cK (vO.mk H D 2 20 []).from_ (vO.mk H D 2 20 []).au (vO.mk H D 2 20 []).d=_ from a2];exact⟨rfl,by show(0:Nat)<9000;omega,fun i hi=>absurd hi (Nat.not_lt_zero i),fun i hi=>absurd hi (Nat.not_lt_zero _)⟩
   ·rw[show cK (vO.mk H D 2 20 []).from_ (vO.mk H D 2 20 []).au (vO.mk H D 2 20 []).d=_ from a2];exact fun i hi=>absurd hi (Nat.not_lt_zero i)
  ·show zS.pre ⟨H,ig (jx 0) D0 (om Bx),162,iP D0.n,[]⟩;rw[<- hD,hDn];refine⟨b1,?_,?_⟩
   ·rw[show cK (lq.mk H D 162 (iP d.n) []).from_ (lq.mk H D 162 (iP d.n) []).au (lq.mk H D 162 (iP d.n) []).d=_ from b2];exact⟨rfl,by show(0:Nat)<9000;omega,fun i hi=>absurd hi (Nat.not_lt_zero i)⟩
   ·rw[show cK (lq.mk H D 162 (iP d.n) []).from_ (lq.mk H D 162 (iP d.n) []).au (lq.mk H D 162 (iP d.n) []).d=_ from b2];exact fun i hi=>absurd hi (Nat.not_lt_zero i)
 all_goals rw[e1]
 ·exact⟨⟨[],n1,Nat.le_refl _⟩,n2,Nat.le_refl _,fun i hi=>absurd hi (Nat.not_lt_zero i),by dsimp only;rw[k3];show _/\_/\(1:Int)+1<=_;omega,⟨rfl,by dsimp only;rw[k4,hDn],rfl,rfl⟩,by dsimp only;rw[k4,hDn];exact hn,k1,by dsimp only;rw[k2];rfl⟩
 ·exact k2
 ·rw[hDD];exact fun _=>rfl
 ·rw[hDD];exact fun _ _=>rfl
 ·exact k4.trans hDn
def ot(s:lF)(ks:List ByteArray)(i:Nat):lF:={ s with d:=(dh s.jr ks i).d,jL:=(dh s.jr ks i).L,ms:=(dh s.jr ks i).ms }
def ta(s:lF)(ks:List ByteArray)(i:Nat):lF:={ s with d:=(gj s.fl ks i).d,cL:=(gj s.fl ks i).L,cl:=(gj s.fl ks i).l }
structure XJ(s:lF)(n:Nat)(es:List (Option aG))(cb jb:Nat)(ks:List ByteArray)(i:Nat):Prop where
 one:dM (ot s ks i) n es cb jb
 len:(ot s ks i).ms.length=s.ms.length+i
 ok:∀j,j<i->uI (dh s.jr ks j).L (dh s.jr ks j).d/\0<=gT (dh s.jr ks j).ms/\gT (dh s.jr ks j).ms<1000000000000
 key:∀j,j<i->(gl (ot s ks i).ms (s.ms.length+j)).key=gl ks j
 dn:(ot s ks i).d.n=s.d.n
theorem dM.XK{s:lF}{n:Nat}{es:List (Option aG)}{cb jb:Nat}(h:dM s n es cb jb){ks:List ByteArray}(hK:∀i,i<ks.length->dS (gl ks i)=true){w:Nat}(hw:∀i,i<ks.length->8+(dH (s.ms.length+i+1) (gl ks i)).length<=w)(hn:n+20*ks.length<900000000)(hfit:jb+w*ks.length<=378) :
 ∀i,i<=ks.length->XJ s (n+20*i) es cb (jb+w*i) ks i
 |0,_=>⟨h,rfl,fun j hj=>absurd hj (Nat.not_lt_zero j),fun j hj=>absurd hj (Nat.not_lt_zero j),rfl⟩
 |i+1,hi=>by
  have ih:=dM.XK h hK hw hn hfit i (by omega);have hl:=ih.len;have hfit2:jb+w*i+w<=378:=by
   have:w*(i+1)<=w*ks.length:=Nat.mul_le_mul_left w hi;rw[Nat.mul_add,Nat.mul_one]at this;omega
  have hw2:8+(dH ((ot s ks i).ms.length+1) (gl ks i)).length<=w:=by
   have:=hw i (by omega);rw[hl];push_cast;exact this
  obtain⟨a1,a2,a3⟩:=ih.one.ZM (hK i (by omega)) hw2 (by omega) hfit2;have e:ot s ks (i+1)=Oo (ot s ks i) (gl ks i):=rfl;have hsq:=ih.one.seq;have hlen:=ih.one.len;refine⟨by rw[e,show n+20*(i+1)=n+20*i+20 by omega,show jb+w*(i+1)=jb+w*i+w by rw[Nat.mul_add];omega];exact a1,by rw[e,a3,List.length_append,hl];rfl,fun j hj=>?_,fun j hj=>?_,?_⟩
  ·by_cases ej:j=i
   ·subst ej;refine⟨a2,?_⟩;show 0<=gT (ot s ks j).ms/\gT (ot s ks j).ms<_;rw[hsq];omega
   ·exact ih.ok j (by omega)
  ·rw[e,a3,kE (by omega)];by_cases ej:j=i
   ·subst ej;rw[if_neg (by omega)]
   ·rw[if_pos (by omega)];exact ih.key j (by omega)
  ·rw[e,<- ih.dn];exact Ac _ _ _
structure V8(s:lF)(n:Nat)(es:List (Option aG))(cb jb:Nat)(ks:List ByteArray)(i:Nat):Prop where
 one:dM (ta s ks i) n es cb jb
 ok:∀j,j<i->sZ (gj s.fl ks j) (aJ (some (iH (gl ks j)))).length
 dn:(ta s ks i).d.n=s.d.n
theorem dM.WH{s:lF}{n:Nat}{es:List (Option aG)}{cb jb:Nat}(h:dM s n es cb jb){ks:List ByteArray}(hK:∀i,i<ks.length->dS (gl ks i)=true){w:Nat}(hw:∀i,i<ks.length->8+(aJ (some (iH (gl ks i)))).length<=w)(hn:n+20*ks.length<900000000)(hfit:cb+w*ks.length<=378) :
 ∀i,i<=ks.length->V8 s (n+20*i) (es++(ks.take i).map fun q=>some (iH q)) (cb+w*i) jb ks i
 |0,_=>⟨by rw[List.take_zero,List.map_nil,List.append_nil];exact h,fun j hj=>absurd hj (Nat.not_lt_zero j),rfl⟩
 |i+1,hi=>by
  have ih:=dM.WH h hK hw hn hfit i (by omega);have hfit2:cb+w*i+w<=378:=by
   have:w*(i+1)<=w*ks.length:=Nat.mul_le_mul_left w hi;rw[Nat.mul_add,Nat.mul_one]at this;omega
  obtain⟨a1,a2⟩:=ih.one.Y5 (hK i (by omega)) (hw i (by omega)) (by omega) hfit2;have e:ta s ks (i+1)=T5 (ta s ks i) (gl ks i):=rfl;have es':es++(ks.take (i+1)).map (fun q=>some (iH q))=es++(ks.take i).map (fun q=>some (iH q))++[some (iH (gl ks i))]:=by
   rw[pM (by omega)];simp
  refine⟨by rw[e,es',show n+20*(i+1)=n+20*i+20 by omega,show cb+w*(i+1)=cb+w*i+w by rw[Nat.mul_add];omega];exact a1,fun j hj=>?_,?_⟩
  ·by_cases ej:j=i
   ·subst ej;exact a2
   ·exact ih.ok j (by omega)
  ·rw[e,<- ih.dn];exact Ac _ _ _
theorem dM.Ka{s:lF}{n:Nat}{es:List (Option aG)}{cb jb:Nat}(h:dM s n es cb jb):dG (cB s.jL) s.ms=s.ms:=JX fun i hi=>by
 have hm:Dm (gl s.ms i)∈s.ms.map Dm:=List.mem_map.2 ⟨_,by rw[bR hi];exact List.getElem_mem _,rfl⟩;exact h.jl.rd.first hm
structure XL(s:lF)(n:Nat)(es:List (Option aG))(cb jb:Nat)(ks:List ByteArray):Prop where
 one:dM (jV s ks) n es cb jb
 len:(jV s ks).ms.length=s.ms.length+ks.length
 seq:gT (iI s.jr ks).ms=s.ms.length+ks.length
 key:∀j,j<ks.length->(gl (jV s ks).ms (s.ms.length+j)).key=gl ks j
 dn:(jV s ks).d.n=s.d.n
 k:(jV s ks).k=s.k/\(jV s ks).bO=s.bO
 still:(∀r,(jV s ks).d.loose r=false)/\∀r j,(jV s ks).d.EM r j=(jV s ks).d.now r j
theorem Qk{s:lF}{n:Nat}{es:List (Option aG)}{cb jb:Nat}(h:dM s n es cb jb){ks:List ByteArray}(hA:fI ks=true){w:Nat}(hw:∀i,i<ks.length->8+(dH (s.ms.length+i+1) (gl ks i)).length<=w)(hn:n+20*ks.length<900000000)(hfit:jb+w*ks.length<=378)(hl:ks.length<=20) :
 dM (lG s ks) (n+20*ks.length+1) es cb (jb+w*ks.length)/\(lG s ks).ms=(ot s ks ks.length).ms/\(lG s ks).d.n=s.d.n/\(lG s ks).k=s.k/\(lG s ks).bO=s.bO/\(∀p kc,bU p.H p.y s.jL->s.ms.length<=p.cap->Fe.pre ⟨s.jr,p,ks,kc⟩):=by
 have hK:∀i,i<ks.length->dS (gl ks i)=true:=fun i hi=>List.all_eq_true.1 hA (gl ks i) (by rw[bR hi];exact List.getElem_mem _);have ha:=h.XK hK hw hn hfit ks.length (Nat.le_refl _);have hpre:∀p kc,bU p.H p.y s.jL->s.ms.length<=p.cap->Fe.pre ⟨s.jr,p,ks,kc⟩:=fun p kc h1 h2=>by
  have l1:=Oq h.jl;have l2:=Oq ha.one.jl;have l3:=h.len;have hd:=h.dn;obtain⟨cr,hf,_⟩:=ha.one.fl;have hc:=hf.one.log.calls;refine⟨h1,by show s.jL.l.length<800;omega,by show ks.length<1000;omega,by show s.ms.length<50000;omega,h2,fun _=>⟨ha.ok,?_,?_,?_⟩⟩
  ·show(ot s ks ks.length).d.n<_;rw[ha.dn];omega
  ·show(ot s ks ks.length).d.calls<_;have:(ot s ks ks.length).d.calls<=n+20*ks.length:=hc;omega
  ·show(ot s ks ks.length).jL.l.length<_;omega
 by_cases h0:ks.length=0
 ·have e:lG s ks=s:=by
   have:iI s.jr ks=⟨s.jL,s.d,s.ms⟩:=by
    unfold iI;rw[if_pos hA,if_pos h0];show(⟨s.jL,s.d,dG (cB s.jL) s.ms⟩:IQ)=_;rw[h.Ka]
   unfold lG;rw[this]
  rw[e,h0];obtain⟨cr,hf,hcb⟩:=h.fl;have hc:=hf.one.log.calls;have hc:s.d.calls<=n:=hc;have hnx:=h.nx;refine⟨⟨⟨cr,hf.dev' (fun _ _ _ _ _=>rfl) rfl (by show s.d.calls<=_;omega),hcb⟩,h.jl.dev' (fun _ _ _ _ _=>rfl) rfl (by omega),h.jb,h.ms,by push_cast;omega,h.XI,h.dn,h.keep,h.bO⟩,rfl,rfl,rfl,rfl,hpre⟩
 ·have e:lG s ks=WG (ot s ks ks.length):=by
   have:iI s.jr ks=⟨(dh s.jr ks ks.length).L,gn (dh s.jr ks ks.length).d,(dh s.jr ks ks.length).ms⟩:=by
    unfold iI;rw[if_pos hA,if_neg h0];show(⟨(dh s.jr ks ks.length).L,gn (dh s.jr ks ks.length).d,dG (cB (dh s.jr ks ks.length).L) (dh s.jr ks ks.length).ms⟩:IQ)=_;rw[show dG (cB (dh s.jr ks ks.length).L) (dh s.jr ks ks.length).ms=(dh s.jr ks ks.length).ms from ha.one.Ka]
   unfold lG;rw[this];rfl
  rw[e];exact⟨ha.one.flush,rfl,ha.dn,rfl,rfl,hpre⟩
theorem dM.kill{s:lF}{n:Nat}{es:List (Option aG)}{cb jb:Nat}(h:dM s n es cb jb){ks:List ByteArray}(hA:fI ks=true){wj wc:Nat}(hwj:∀i,i<ks.length->8+(dH (s.ms.length+i+1) (gl ks i)).length<=wj)(hwc:∀i,i<ks.length->8+(aJ (some (iH (gl ks i)))).length<=wc)(hn:n<800000000)(hfj:jb+wj*ks.length<=378)(hfc:cb+wc*ks.length<=378)(hl:ks.length<=20) :
 (∀p kc,Ab ⟨s,p,ks,kc⟩)/\XL s (n+40*ks.length+2) (es++ks.map fun q=>some (iH q)) (cb+wc*ks.length) (jb+wj*ks.length) ks:=by
 have hK:∀i,i<ks.length->dS (gl ks i)=true:=fun i hi=>List.all_eq_true.1 hA (gl ks i) (by rw[bR hi];exact List.getElem_mem _);have ha:=h.XK hK hwj (by omega) hfj ks.length (Nat.le_refl _);obtain⟨j1,j2,j3,j4,j5,j6⟩:=Qk h hA hwj (by omega) hfj hl;have hd:=j1.WH hK hwc (by omega) hfc ks.length (Nat.le_refl _);have ek:jV s ks=WG (ta (lG s ks) ks ks.length):=by
  unfold jV;rw[if_pos hA];unfold Of lY;rw[if_pos hA];rfl
 have hms:(jV s ks).ms=(ot s ks ks.length).ms:=by rw[ek];exact j2
 refine⟨fun p kc=>⟨by show ks.length<1000;omega,fun _ q h1 h2=>j6 q kc h1 h2,fun _ q h1=>⟨h1,by show ks.length<1000;omega,fun _=>⟨hd.ok,?_,?_⟩⟩⟩,?_⟩
 ·show(ta (lG s ks) ks ks.length).d.n<_;rw[hd.dn,j3];have:=h.dn;omega
 ·show(ta (lG s ks) ks ks.length).d.calls<_;obtain⟨cr,hf,_⟩:=hd.one.fl;have hc:=hf.one.log.calls;have:(ta (lG s ks) ks ks.length).d.calls<=n+20*ks.length+1+20*ks.length:=hc;omega
 ·have h1:=hd.one.flush;rw[List.take_length,show n+20*ks.length+1+20*ks.length+1=n+40*ks.length+2 by omega,<- ek]at h1;refine⟨h1,by rw[hms];exact ha.len,?_,fun j hj=>by rw[hms];exact ha.key j hj,by rw[ek];show(ta (lG s ks) ks ks.length).d.n=_;rw[hd.dn,j3],by rw[ek];exact⟨j4,j5⟩,by rw[ek];exact⟨fun _=>rfl,fun _ _=>rfl⟩⟩;have h2:=h1.seq;rw[hms,ha.len]at h2;have:(iI s.jr ks).ms=(ot s ks ks.length).ms:=j2;rw[this,h2];push_cast;rfl
theorem dM.get{s:lF}{n:Nat}{es:List (Option aG)}{cb jb:Nat}(h:dM s n es cb jb)(k:ByteArray):PV s.fl/\C1 s.fl k (gE es k):=by
 obtain⟨cr,hf,_⟩:=h.fl;exact⟨hf.one.has.ZL,hf.one.has.gJ k⟩
end Go.Proofs.YtfjgoonelcaggaaGreat
namespace Go.Sx
theorem ey.below{w w':World}(h:ey (fun _=>False) w w'):Go.RowKit.Below w.heap.size w w':=⟨h.os,h.tape,h.output,h.size,fun k hk=>h.block k hk id⟩
open Go.WideShapes Go.ChangeShapes in
theorem HW{H:Type}{enc:TypeId×Value->H}{P:Program}{f:Func}{s:ChangeSpec}{apart fresh handsOn again:Bool}{W W':World}{args:Array Value}{v:Value}{ds gs:List (DataW H)}{pa:List MemPlace}
 (hW:DataW.Whole enc P f.params.toList s.vars apart W args.toList ds gs (pa++[]))
 (hres:∀(b:Nat) (sp:Nat->Bool) (hd:Bool),DataW.TrodAll enc P W' b sp hd f.resultTypes.toList (v.resultList f.resultTypes.size) (s.fn H (ds++gs)).results [])
 (hargs:∀sp:Nat->Bool,(∀p∈pa++[],sp p.block=true)->DataW.TrodAll enc P W' 0 sp true f.params.toList args.toList (s.fn H (ds++gs)).args pa)
 (hvars:∀sp:Nat->Bool,(∀p∈pa++[],sp p.block=true)->DataW.TrodVars enc P W' sp s.vars (s.fn H (ds++gs)).vars [])
 (hk:ey (fun _=>False) W W')
 (hok:∀(j:Nat) (t:TypeId) (r:Value),f.resultTypes[j]? = some t->(v.resultList f.resultTypes.size)[j]? = some r->Value.okWide P W' .any 0 t r) :
 s.post enc P f apart fresh handsOn again W args v W':=by
 have hl:=hW.lt;have hall:∀p∈pa++[],(fun _=>true:Nat->Bool) p.block=true:=fun _ _=>rfl;have hold:∀p∈pa++[],(fun b=>decide (b<W.heap.size)) p.block=true:=fun p hp=>decide_eq_true (hl p hp);have hmem:∀p,p∈([]++pa)++[]->p∈pa++[]:=fun p hp=>by simpa using hp
 refine⟨ds,gs,pa++[],[],pa,[],hW,hres _ _ _,hargs _ hold,hvars _ hold,World.keptBut_mono (may:=(·∈pa++[])) (fun p hp=>⟨hp,.inr (by simpa using hp)⟩) (hk.below.frame _),fun _=>?_⟩;obtain⟨_,_,_,_,_,hz,hn⟩:=hW;refine⟨hok,_,_,([]++pa)++[],⟨[]++pa,[],trodAll_append (hargs _ hall) (hres _ _ _),hvars _ hall,rfl,fun b off hp=>?_,fun ha=>by simpa using hn ha⟩,fun p hp _=>by simpa using hp⟩;rw[hk.Yi _ (hl _ (hmem _ hp))];exact hz b off (hmem _ hp)
open Go.RowKit
def Dn(P:Program)(g:TypeId->Option (List CK)):List Field->Nat->Option (List CK)
 |[],_=>some []
 |f::r,o=>match g f.type,Dn P g r (o+P.cellsOf f.type)with
  |some ks,some l=>bif Nat.beq f.offset o&&Nat.beq ks.length (P.cellsOf f.type)then some (ks++l)else none
  |_,_=>none
def tc(dp:Bool)(P:Program):Nat->TypeId->Option (List CK)
 |0,_=>none
 |d+1,t=>match P.underlying t with
  |some (.slice _)=>bif dp then some [.deep]else none
  |some .bool=>some [.bool]
  |some (.int k)=>some [.int k]
  |some .string=>some [.str]
  |some (.struct fs)=>match Dn P (tc dp P d) fs.toList 0 with
   |some ks=>bif Nat.beq ks.length (P.cellsOf t)then some ks else none
   |none=>none
  |some (.array n e)=>match tc dp P d e with
   |some ks=>bif Nat.beq ks.length (P.cellsOf e)&&Nat.beq (n*ks.length) (P.cellsOf t)then some (rep n ks)else none
   |none=>none
  |_=>none
def HX(P:Program):Nat->TypeId->Option (List CK):=tc false P
structure u0(ks:List CK)(cs:List Value):Prop where
 len:cs.length=ks.length
 ok:∀(j:Nat) (k:CK) (v:Value),ks[j]? = some k->cs[j]? = some v->k.ok v
theorem u0.append{ks ls:List CK}{cs ds:List Value}(h:u0 ks cs)(g:u0 ls ds):u0 (ks++ls) (cs++ds):=by
 refine⟨by simp[h.len,g.len],fun j k v hk hv=>?_⟩;by_cases hj:j<ks.length
 ·rw[List.getElem?_append_left hj]at hk;rw[List.getElem?_append_left (by rw[h.len];exact hj)]at hv;exact h.ok j k v hk hv
 ·rw[List.getElem?_append_right (by omega)]at hk;rw[List.getElem?_append_right (by rw[h.len];omega),h.len]at hv;exact g.ok _ k v hk hv
section
variable {H:Type} {enc:TypeId×Value->H} {P:Program} {w:World} {base:Nat} {spare:Nat->Bool} {held:Bool}
theorem Fq{g:TypeId->Option (List CK)}{n:Nat}{cs:List Value}
 (hg:∀t cs x ks,DataW.trod enc P w base spare held n t cs=some x->g t=some ks->u0 ks cs) :
 ∀(fs:List Field) (o:Nat) (ks:List CK),Dn P g fs o=some ks->(∀f∈fs,∃x,DataW.trod enc P w base spare held n f.type ((cs.drop f.offset).take (P.cellsOf f.type))=some x)->o+ks.length=cs.length->u0 ks (cs.drop o)
 |[],o,ks,h,_,hl=>by
  simp[Dn]at h;subst h;refine⟨by simp at hl ⊢;omega,fun j k v hk=>by simp at hk⟩
 |f::r,o,ks,h,hf,hl=>by
  simp only[Dn]at h;split at h
  ·rename_i k1 l1 e1 e2;cases hb:(Nat.beq f.offset o&&Nat.beq k1.length (P.cellsOf f.type))
   ·rw[hb]at h;cases h
   rw[hb]at h;simp only[cond_true,Option.some.injEq]at h;subst h;simp only[Bool.and_eq_true]at hb;have ho:=Nat.eq_of_beq_eq_true hb.1;have hk:=Nat.eq_of_beq_eq_true hb.2;obtain⟨x,hx⟩:=hf f List.mem_cons_self;rw[ho]at hx;have h1:=hg _ _ _ _ hx e1;have h2:=Fq hg r _ l1 e2 (fun f hf'=>hf f (List.mem_cons_of_mem _ hf')) (by rw[<- hk];simp at hl;omega);have e:cs.drop o=(cs.drop o).take (P.cellsOf f.type)++cs.drop (o+P.cellsOf f.type):=by
    rw[<- List.drop_drop,List.take_append_drop]
   rw[e];exact h1.append h2
  ·cases h
theorem T6{ks:List CK}{cs:List Value}:∀(n:Nat) (o:Nat),(∀i,i<n->u0 ks ((cs.drop (o+i*ks.length)).take ks.length))->o+n*ks.length=cs.length->u0 (rep n ks) (cs.drop o)
 |0,o,_,hl=>⟨by simp at hl;simp[rep];omega,fun j k v hk=>by simp[rep]at hk⟩
 |n+1,o,h,hl=>by
  have h1:=h 0 (by omega);have h2:=T6 (ks:=ks) (cs:=cs) n (o+ks.length) (fun i hi=>by
   have:=h (i+1) (by omega);rwa[Nat.succ_mul,show o+(i*ks.length+ks.length)=o+ks.length+i*ks.length by omega]at this) (by rw[Nat.succ_mul]at hl;omega)
  have e:cs.drop o=(cs.drop o).take ks.length++cs.drop (o+ks.length):=by
   rw[<- List.drop_drop,List.take_append_drop]
  rw[e,rep];exact u0.append (by simpa using h1) h2
theorem yq{dp:Bool}:∀(d n:Nat) (t:TypeId) (cs:List Value) (x:DataW H×List MemPlace) (ks:List CK),DataW.trod enc P w base spare held n t cs=some x->tc dp P d t=some ks->u0 ks cs
 |0,_,_,_,_,_,_,h=>by simp[tc]at h
 |d+1,n,t,cs,x,ks,hx,h=>by
  simp only[tc]at h;split at h
  ·rename_i e hu;cases dp with
   |false=>cases h
   |true =>
    simp only[cond_true,Option.some.injEq]at h;subst h;have one:∃v:Value,cs=[v]/\v.oneCell'=true:=by
     rcases DataW.trod_slice hu hx with⟨hv,_⟩ | ⟨a,len,cap,elems,rest,m,_,hv,_⟩<;>exact⟨_,hv,rfl⟩
    obtain⟨v,rfl,hv⟩:=one;refine⟨rfl,fun j k u hk hv'=>?_⟩;cases j with
    |zero=>simp at hk hv';subst hk hv';exact hv
    |succ j=>simp at hk
  ·rename_i hu;cases h;obtain⟨b,rfl,_⟩:=DataW.trod_bool hu hx;refine⟨rfl,fun j k v hk hv=>?_⟩;cases j with
   |zero=>simp at hk hv;subst hk hv;exact⟨b,rfl⟩
   |succ j=>simp at hk
  ·rename_i k hu;cases h;obtain⟨m,rfl,_,hw⟩:=DataW.trod_int hu hx;refine⟨rfl,fun j k' v hk hv=>?_⟩;cases j with
   |zero=>simp at hk hv;subst hk hv;exact⟨m,rfl,by rw[FI];simpa[Lit.wf]using hw⟩
   |succ j=>simp at hk
  ·rename_i hu;cases h;obtain⟨s,rfl,_,hs⟩:=DataW.trod_string hu hx;refine⟨rfl,fun j k' v hk hv=>?_⟩;cases j with
   |zero=>simp at hk hv;subst hk hv;exact⟨s,rfl,by unfold aq;unfold maxLen at hs;exact hs⟩
   |succ j=>simp at hk
  ·rename_i fs hu;obtain⟨xs,m,rfl,_,hl,hlen,hget⟩:=DataW.trod_struct hu hx;split at h
   ·rename_i ks' e;cases hb:Nat.beq ks'.length (P.cellsOf t)
    ·rw[hb]at h;cases h
    rw[hb]at h;cases h;have hb:=Nat.eq_of_beq_eq_true hb;have:=Fq (enc:=enc) (w:=w) (base:=base) (spare:=spare) (held:=held) (n:=m) (cs:=cs) (fun t cs x ks h1 h2=>yq d m t cs x ks h1 h2) fs.toList 0 ks e (fun f hf=>by
     obtain⟨i,hi,e⟩:=List.getElem_of_mem hf;have hi':i<fs.size:=by simpa using hi
     have h1:=hget i f (by rw[Array.getElem?_eq_getElem hi'];congr 1);rw[h1];exact⟨xs[i]'(by omega),List.getElem?_eq_getElem _⟩) (by omega)
    simpa using this
   ·cases h
  ·rename_i k e hu;obtain⟨xs,m,rfl,_,hl,hlen,hget⟩:=DataW.trod_array hu hx;split at h
   ·rename_i ks' e';cases hb:(Nat.beq ks'.length (P.cellsOf e)&&Nat.beq (k*ks'.length) (P.cellsOf t))
    ·rw[hb]at h;cases h
    rw[hb]at h;cases h;simp only[Bool.and_eq_true]at hb;have hb1:=Nat.eq_of_beq_eq_true hb.1;have hb2:=Nat.eq_of_beq_eq_true hb.2;have:=T6 (ks:=ks') (cs:=cs) k 0 (fun i hi=>by
     have h1:=hget i hi;rw[List.getElem?_eq_getElem (by omega)]at h1;rw[hb1,Nat.zero_add];exact yq d m e _ _ _ h1 e') (by rw[hb2];omega)
    simpa using this
   ·cases h
  ·cases h
inductive RK where
 |c (k:CK)
 |s (e:TypeId) (ks:List CK)
inductive AK where
 |int (k:IntKind)
 |bool
 |str
 |agg (ks:List CK)
 |slc (e:TypeId) (ks:List CK)
 |V9 (fs:List RK)
def T7(P:Program)(u:TypeId):Bool:=match P.underlying u with
 |some (.slice _)=>true
 |_=>false
def Fs(P:Program)(d:Nat)(ts:List TypeId):List Field->Nat->Option (List RK)
 |[],_=>some []
 |f::r,o=>bif Nat.beq f.offset o then
  (match P.underlying f.type with
  |some (.slice e)=>match HX P d e,ts[o]?,Fs P d ts r (o+1)with
   |some ks,some u,some l=>bif Nat.beq ks.length (P.cellsOf e)&&(Nat.ble 1 ks.length&&(Nat.beq (P.cellsOf f.type) 1&&T7 P u))then some (.s e ks::l)else none
   |_,_,_=>none
  |_=>match HX P d f.type,Fs P d ts r (o+P.cellsOf f.type)with
   |some ks,some l=>bif Nat.beq ks.length (P.cellsOf f.type)then some (ks.map .c++l)else none
   |_,_=>none)else none
def Y6(P:Program)(d:Nat)(t:TypeId):Option AK :=
 match P.underlying t with
 |some .bool=>some .bool
 |some (.int k)=>some (.int k)
 |some .string=>some .str
 |some (.struct fs)=>match HX P d t with
  |some ks=>some (.agg ks)
  |none=>match P.cellTypes P.depth t with
   |some ts=>match Fs P d ts fs.toList 0 with
    |some l=>bif Nat.beq l.length (P.cellsOf t)&&Nat.beq ts.length (P.cellsOf t)then some (.V9 l)else none
    |none=>none
   |none=>none
 |some (.slice e)=>match tc true P d e with
  |some ks=>bif Nat.beq ks.length (P.cellsOf e)&&Nat.ble 1 ks.length then some (.slc e ks)else none
  |none=>none
 |_=>none
def Dp(P:Program)(d:Nat):List TypeId->Option (List AK)
 |[]=>some []
 |t::r=>match Y6 P d t,Dp P d r with
  |some k,some l=>some (k::l)
  |_,_=>none
inductive RD where
 |a (x:A)
 |s (m n cap:Nat) (rows:Nat->Nat->Value)
inductive AD where
 |a (x:A)
 |agg (xs:List A)
 |slc (m n cap:Nat) (rows:Nat->Nat->Value)
 |V9 (xs:List RD)
def ZN:RK->RD->Prop
 |.c k,d=>∃v,d = .a (lJ k v)/\k.ok v
 |.s _ ks,d=>∃n cap rows,d = .s ks.length n cap rows/\n<=cap/\cap<=aq/\∀i,i<n->∀(j:Nat) (k:CK),ks[j]? = some k->k.ok (rows i j)
def Kb:List RK->List RD->Prop
 |[],l=>l=[]
 |k::ks,l=>∃d r,l=d::r/\ZN k d/\Kb ks r
def XM:Nat->List RD->List A
 |_,[]=>[]
 |n,.a x::r=>x::XM n r
 |n,.s m l c _::r=>.slc n 0 m l c::XM (n+1) r
def yu:Nat->List RK->List RD->List (Nat×Chunk)
 |n,.s e ks::r,.s _ l _ rows::q=>(n,.arr e ks l rows)::yu (n+1) r q
 |n,_::r,_::q=>yu n r q
 |_,_,_=>[]
def rN:List RD->Nat
 |[]=>0
 |.s _ _ _ _::r=>rN r+1
 |_::r=>rN r
def ZO:AK->AD->Prop
 |.int k,d=>∃n,d = .a (.int k n)/\bQ k n
 |.bool,d=>∃b,d = .a (.bool b)
 |.str,d=>∃s,d = .a (.str s)/\s.size<=aq
 |.agg ks,d=>∃r:Nat->Value,d = .agg (atoms r ks 0)/\∀(j:Nat) (k:CK),ks[j]? = some k->k.ok (r j)
 |.slc _ ks,d=>∃n cap rows,d = .slc ks.length n cap rows/\n<=cap/\cap<=aq/\∀i,i<n->∀(j:Nat) (k:CK),ks[j]? = some k->k.ok (rows i j)
 |.V9 fs,d=>∃xs,d = .V9 xs/\Kb fs xs
def Ke:List AK->List AD->Prop
 |[],l=>l=[]
 |k::ks,l=>∃d r,l=d::r/\ZO k d/\Ke ks r
def WI:Nat->List AD->List SV
 |_,[]=>[]
 |n,.a x::r=>.a x::WI n r
 |n,.agg xs::r=>.agg xs::WI n r
 |n,.slc m l c _::r=>.a (.slc n 0 m l c)::WI (n+1) r
 |n,.V9 xs::r=>.agg (XM n xs)::WI (n+rN xs) r
def ML:Nat->List AK->List AD->List (Nat×Chunk)
 |n,.slc e ks::r,.slc _ l _ rows::s=>(n,.arr e ks l rows)::ML (n+1) r s
 |n,.V9 fs::r,.V9 xs::s=>yu n fs xs++ML (n+rN xs) r s
 |n,_::r,_::s=>ML n r s
 |_,_,_=>[]
def HY:List AD->Nat
 |[]=>0
 |.slc _ _ _ _::r=>HY r+1
 |.V9 xs::r=>HY r+rN xs
 |_::r=>HY r
theorem Dq{w:World}{base:Nat}{a:Addr}:∀ {n:Nat} {cs:List Value},w.cells? base a n=some cs->cs.length=n/\base<=a.block/\∀i,i<n->w.cell? (a.add i)=cs[i]?:=by
 intro n cs h;unfold World.cells? at h;split at h
 ·rename_i hb;have hl:=mapM_some_length h;refine⟨by simpa using hl,hb,fun i hi=>?_⟩;exact mapM_some_get h i i (by simp[hi])
 ·cases h
theorem Addr.Wa(a:Addr)(n:Nat)(h:a.spot=none):a.add n=⟨a.block,a.off+n,none⟩:=by
 unfold Addr.add;split
 ·subst_vars;cases a;simp_all
 ·cases a;simp_all
theorem Ft{dp:Bool}{t e:TypeId}{ks:List CK}{d fuel:Nat}{v:Value}{dd:DataW H}{ps:List MemPlace}(ht:P.underlying t=some (.slice e))(hf:tc dp P d e=some ks)(hk:ks.length=P.cellsOf e)(hk1:1<=ks.length)
 (h:DataW.trod enc P w 0 (fun _=>true) held fuel t [v]=some (dd,ps)) (hz:∀b off,MemPlace.cell b off∈ps->w.frozen? ⟨b,off,none⟩=false) :
 ∃(p:Place) (n cap:Nat) (rows:Nat->Nat->Value),n<=cap/\cap<=aq/\(∀i,i<n->∀(j:Nat) (k:CK),ks[j]? = some k->k.ok (rows i j))/\(∀b,p.fp b->b<w.heap.size) /\
  (∀(ρ:Env) (T:Nat),T<ρ.n->ρ.pl T=p->(A.slc T 0 ks.length n cap).cc ρ v)/\(∀(ρ:Env),(Chunk.arr e ks n rows).Sat ρ p w) /\
  ∀i,i<n->∃(m:Nat) (cs:List Value) (x:DataW H×List MemPlace),DataW.trod enc P w 0 (fun _=>true) held m e cs=some x/\(∀b off,MemPlace.cell b off∈x.2->w.frozen? ⟨b,off,none⟩=false)/\u0 ks cs/\∀j,j<ks.length->cs[j]? = some (rows i j):=by
 rcases DataW.trod_slice ht h with⟨hv,_⟩ | ⟨a,len,cap,elems,rest,m,rfl,hv,hx,_,hlc,hcm,hel,hget,hsp,_⟩
 ·cases hv;refine⟨xT,0,0,fun _ _=>undef,Nat.le_refl _,Nat.zero_le _,fun i hi=>absurd hi (Nat.not_lt_zero _),fun b hb=>hb.elim,fun ρ T hT _=>⟨hT,Nat.le_refl _,Nat.zero_le _,.inl ⟨rfl,rfl,rfl⟩⟩,fun ρ=>.inl ⟨rfl,rfl,fun b hb=>hb⟩,fun i hi=>absurd hi (Nat.not_lt_zero _)⟩
 ·cases hv;obtain⟨hr1,hr2⟩:=hsp rfl;by_cases hc0:cap=0
  ·subst hc0;have hl0:len=0:=by omega
   subst hl0;exact⟨⟨a.block,a.off,0,fun _=>False⟩,0,0,fun _ _=>undef,Nat.le_refl _,Nat.zero_le _,fun i hi=>absurd hi (Nat.not_lt_zero _),fun b hb=>hb.elim,fun ρ T hT hp=>⟨hT,Nat.le_refl _,Nat.zero_le _,.inr ⟨a,rfl,fun h=>absurd rfl h⟩⟩,fun ρ=>.inl ⟨rfl,rfl,fun b hb=>hb⟩,fun i hi=>absurd hi (Nat.not_lt_zero _)⟩
  have hspot:a.spot=none:=by
   have fin:∀(o:Option (DataW H×List MemPlace)),(∃x,o=some x)->(w.cells? 0 (a.add (0*P.cellsOf e)) (P.cellsOf e)).bind (DataW.trod enc P w 0 (fun _=>true) held m e)=o->a.spot=none:=by
    rintro o ⟨x,rfl⟩ ho;obtain⟨cs,hcs,hx⟩:=Option.bind_eq_some_iff.1 ho;obtain⟨h1,_,hc⟩:=Dq hcs;have:=hc 0 (by omega);rw[Nat.zero_mul,show ∀a:Addr,(a.add 0).add 0=a from fun a=>rfl,List.getElem?_eq_getElem (by omega)]at this;unfold World.cell? at this;split at this
    ·cases hsp:a.spot with
     |none=>rfl
     |some s=>rw[hsp]at this;simp at this
    ·cases this
   by_cases h1:0<len
   ·exact fin _ ⟨elems[0]'(by omega),List.getElem?_eq_getElem _⟩ (hget 0 h1)
   ·have:=hr2 0 (by omega);rw[show len+0=0 by omega]at this;exact fin _ ⟨rest[0]'(by omega),List.getElem?_eq_getElem _⟩ this
  have row:∀i,i<cap->∃cs:List Value,(u0 ks cs/\∀j,j<ks.length->w.cell? ⟨a.block,a.off+i*ks.length+j,none⟩=cs[j]?)/\(i<len->∃x∈elems,DataW.trod enc P w 0 (fun _=>true) held m e cs=some x):=by
   intro i hi;have fin:∀(x:DataW H×List MemPlace),(w.cells? 0 (a.add (i*P.cellsOf e)) (P.cellsOf e)).bind (DataW.trod enc P w 0 (fun _=>true) held m e)=some x->∃cs:List Value,(u0 ks cs/\∀j,j<ks.length->w.cell? ⟨a.block,a.off+i*ks.length+j,none⟩=cs[j]?)/\DataW.trod enc P w 0 (fun _=>true) held m e cs=some x:=by
    intro x ho;obtain⟨cs,hcs,hx⟩:=Option.bind_eq_some_iff.1 ho;obtain⟨_,_,hc⟩:=Dq hcs;refine⟨cs,⟨yq d m e cs x ks hx hf,fun j hj=>?_⟩,hx⟩;have:=hc j (by omega);rw[Addr.Wa a _ hspot,Addr.add_plain,<- hk]at this;exact this
   by_cases h1:i<len
   ·obtain⟨cs,g1,g2⟩:=fin (elems[i]'(by omega)) ((hget i h1).trans (List.getElem?_eq_getElem _));exact⟨cs,g1,fun _=>⟨_,List.getElem_mem _,g2⟩⟩
   ·have:=hr2 (i-len) (by omega);rw[show len+(i-len)=i by omega]at this;obtain⟨cs,g1,g2⟩:=fin (rest[i-len]'(by omega)) (this.trans (List.getElem?_eq_getElem _));exact⟨cs,g1,fun h=>absurd h h1⟩
  ·have hcell:∀i,i<cap->∀(j:Nat) (k:CK),ks[j]? = some k->∃v,w.cell? ⟨a.block,a.off+i*ks.length+j,none⟩=some v/\k.ok v:=by
    intro i hi j k hj;have hjl:j<ks.length:=(List.getElem?_eq_some_iff.1 hj).1;obtain⟨cs,⟨h1,h2⟩,_⟩:=row i hi;have hlt:j<cs.length:=by rw[h1.len];exact hjl
    exact⟨cs[j],by rw[h2 j hjl,List.getElem?_eq_getElem hlt],h1.ok j k _ hj (List.getElem?_eq_getElem hlt)⟩
   have hblk:∃vs ty fr,w.heap[a.block]? = some (.cells vs ty fr):=by
    obtain⟨v,hv,_⟩:=hcell 0 (by omega) 0 (ks[0]'(by omega)) (List.getElem?_eq_getElem _);unfold World.cell? at hv;split at hv
    ·rename_i vs ty fr hh;exact⟨vs,ty,fr,hh⟩
    ·cases hv
   obtain⟨vs,ty,fr,hb⟩:=hblk;have hget2:∀i,i<cap->∀(j:Nat) (k:CK),ks[j]? = some k->∃v,vs[a.off+i*ks.length+j]? = some v/\k.ok v:=by
    intro i hi j k hj;obtain⟨v,hv,hok⟩:=hcell i hi j k hj;rw[cell_of hb]at hv;exact⟨v,hv,hok⟩
   have hfit:a.off+cap*ks.length<=vs.size:=by
    obtain⟨v,hv,_⟩:=hget2 (cap-1) (by omega) (ks.length-1) (ks[ks.length-1]'(by omega)) (List.getElem?_eq_getElem _);obtain⟨hlt,_⟩:=Array.getElem?_eq_some_iff.1 hv;have:(cap-1)*ks.length+ks.length=cap*ks.length:=by
     rw[<- Nat.succ_mul];congr 1;omega
    omega
   have hblt:a.block<w.heap.size:=by
    obtain⟨hlt,_⟩:=Array.getElem?_eq_some_iff.1 hb;exact hlt
   refine⟨⟨a.block,a.off,cap,fun b=>b=a.block⟩,len,cap,fun i j=>vs[a.off+i*ks.length+j]?.getD undef,hlc,by unfold aq;unfold maxLen at hcm;exact hcm,fun i hi j k hj=>?_,fun b hb=>by rw[hb];exact hblt,fun ρ T hT hp=>⟨hT,hlc,by unfold aq;unfold maxLen at hcm;exact hcm,.inr ⟨a,rfl,fun _=>⟨by rw[hp];cases a;simp at hspot;subst hspot;simp,by rw[hp];simp⟩⟩⟩,fun ρ=>.inr ⟨vs,ty,fr,hb,hfit,hlc,fun o h1 h2=>?_,fun _=>Iff.rfl,fun i hi j k hj=>?_⟩,fun i hi=>?_⟩
   ·obtain⟨v,hv,hok⟩:=hget2 i (by omega) j k hj;simp only;rw[hv];exact hok
   ·have hmem:MemPlace.cell a.block o∈ps:=by
     have e:ps=MemPlace.row a ((elems.length+rest.length)*P.cellsOf e)++(elems++rest).flatMap (·.2):=congrArg Prod.snd hx;rw[e];refine List.mem_append_left _ (List.mem_map.2 ⟨o-a.off,?_,?_⟩)
     ·rw[List.mem_range,hel,hr1,<- hk];simp only at h1 h2;rw[show len+(cap-len)=cap by omega];omega
     ·simp only at h1;show MemPlace.cell a.block (a.off+(o-a.off))=_;rw[show a.off+(o-a.off)=o by omega]
    have:=hz _ _ hmem;simp only[World.frozen?,hb]at this;obtain⟨lo,hi⟩:=fr;simpa using this
   ·obtain⟨v,hv,hok⟩:=hget2 i (by omega) j k hj;simp only;rw[hv];exact⟨rfl,hok⟩
   ·obtain⟨cs,⟨g1,g2⟩,g3⟩:=row i (by omega);obtain⟨x,hxm,hxt⟩:=g3 hi;refine⟨m,cs,x,hxt,fun b off hm=>hz b off ?_,g1,fun j hj=>?_⟩
    ·have e:ps=MemPlace.row a ((elems.length+rest.length)*P.cellsOf e)++(elems++rest).flatMap (·.2):=congrArg Prod.snd hx;rw[e];exact List.mem_append_right _ (List.mem_flatMap.2 ⟨x,List.mem_append_left _ hxm,hm⟩)
    ·have h2:=g2 j hj;rw[cell_of hb]at h2;have hlt:j<cs.length:=by rw[g1.len];exact hj
     rw[List.getElem?_eq_getElem hlt]at h2 ⊢;simp only;rw[h2];rfl
theorem MM{t e:TypeId}{ks:List CK}{d:Nat}{v:Value}{dd:DataW H}{ps:List MemPlace}{r:Reach}{b0:Nat}(ht:P.underlying t=some (.slice e))(hf:tc true P d e=some ks)(hk:ks.length=P.cellsOf e)(hk1:1<=ks.length)
 (hval:Value.okWide P w r b0 t v) (h:DataW.Trod enc P w 0 (fun _=>true) held t v dd ps) (hz:∀b off,MemPlace.cell b off∈ps->w.frozen? ⟨b,off,none⟩=false) :
 ∃(p:Place) (n cap:Nat) (rows:Nat->Nat->Value),n<=cap/\cap<=aq/\(∀i,i<n->∀(j:Nat) (k:CK),ks[j]? = some k->k.ok (rows i j))/\(∀b,p.fp b->b<w.heap.size) /\
  (∀(ρ:Env) (T:Nat),T<ρ.n->ρ.pl T=p->(A.slc T 0 ks.length n cap).cc ρ v)/\∀(ρ:Env),(Chunk.arr e ks n rows).Sat ρ p w:=by
 obtain⟨fuel,h⟩:=h;have hv2:Cell.okWide P w r b0 t v:=by unfold Value.okWide at hval;rw[ht]at hval;exact hval
 have hone:∀o l c,v.cells.toList=[.slice o l c]->v = .slice o l c:=by
  intro o l c hv;cases v<;>simp[Value.cells]at hv<;>first|exact hv|(simp[hv];done)|skip
  all_goals(unfold Cell.okWide Cell.ok at hv2;rw[ht]at hv2;simp at hv2)
 have hc:v.cells.toList=[v]:=by
  rcases DataW.trod_slice ht h with⟨hv,_⟩ | ⟨a,len,cap,elems,rest,m,_,hv,_⟩
  ·rw[hone _ _ _ hv];rfl
  ·rw[hone _ _ _ hv];rfl
 rw[hc]at h;obtain⟨p,n,cap,rows,g1,g2,g3,g4,g5,g6,_⟩:=Ft ht hf hk hk1 h hz;exact⟨p,n,cap,rows,g1,g2,g3,g4,g5,g6⟩
theorem Fu:∀ {ks:List CK} {l:List RK} {vs:List Value} {xs:List RD},u0 ks vs->Kb l xs->Kb (ks.map .c++l) ((List.zipWith (fun k v=>RD.a (lJ k v)) ks vs)++xs)
 |[],l,vs,xs,h,hx=>by
  have:vs=[]:=List.eq_nil_of_length_eq_zero (by simpa using h.len);subst this;exact hx
 |k::ks,l,[],xs,h,hx=>by have:=h.len;simp at this
 |k::ks,l,v::vs,xs,h,hx=>⟨_,_,rfl,⟨v,rfl,h.ok 0 k v rfl rfl⟩,Fu (ks:=ks) (vs:=vs) ⟨by have:=h.len;simpa using this,fun j k' v' hk hv=>h.ok (j+1) k' v' (by simpa using hk) (by simpa using hv)⟩ hx⟩
theorem Ou:∀(n:Nat) (ks:List CK) (vs:List Value) (xs:List RD),XM n ((List.zipWith (fun k v=>RD.a (lJ k v)) ks vs)++xs)=List.zipWith lJ ks vs++XM n xs
 |_,[],_,_=>by simp
 |_,_::_,[],_=>by simp
 |n,k::ks,v::vs,xs=>by simp[XM,Ou n ks vs xs]
theorem T8:∀(ks:List CK) (vs:List Value) (xs:List RD),rN ((List.zipWith (fun k v=>RD.a (lJ k v)) ks vs)++xs)=rN xs
 |[],_,_=>by simp
 |_::_,[],_=>by simp
 |k::ks,v::vs,xs=>by simp[rN,T8 ks vs xs]
theorem Kf:∀(n:Nat) {ks:List CK} {vs:List Value} (l:List RK) (xs:List RD),vs.length=ks.length->yu n (ks.map .c++l) ((List.zipWith (fun k v=>RD.a (lJ k v)) ks vs)++xs)=yu n l xs
 |_,[],[],_,_,_=>by simp
 |_,[],_::_,_,_,h=>by simp at h
 |_,_::_,[],_,_,h=>by simp at h
 |n,k::ks,v::vs,l,xs,h=>by
  have:=Kf n (ks:=ks) (vs:=vs) l xs (by simpa using h);simpa[yu]using this
theorem Kg{ρ:Env}:∀ {ks:List CK} {vs:List Value},u0 ks vs->ct ρ (List.zipWith lJ ks vs) vs
 |[],vs,h=>by
  have:vs=[]:=List.eq_nil_of_length_eq_zero (by simpa using h.len);subst this;rfl
 |k::ks,[],h=>by have:=h.len;simp at this
 |k::ks,v::vs,h=>⟨v,vs,rfl,nr (h.ok 0 k v rfl rfl) ρ,Kg ⟨by have:=h.len;simpa using this,fun j k' v' hk hv=>h.ok (j+1) k' v' (by simpa using hk) (by simpa using hv)⟩⟩
theorem qp:∀(n:Nat) (fs:List RK) (xs:List RD),∀p∈yu n fs xs,n<=p.1/\p.1<n+rN xs
 |_,[],_,_,h=>by simp[yu]at h
 |_,_::_,[],_,h=>by simp[yu]at h
 |n,k::r,x::s,p,h=>by
  cases k<;>cases x<;>simp only[yu,List.mem_cons]at h
  ·exact qp n r s p h
  ·have:=qp n r s p h;simp only[rN];omega
  ·exact qp n r s p h
  ·rcases h with rfl|h
   ·simp only[rN];omega
   ·have:=qp (n+1) r s p h;simp only[rN];omega
theorem Dr{r:Reach}{b0 d n:Nat}{ts:List TypeId}{cs:List Value}(hts:∀(i:Nat) (v:Value),cs[i]? = some v->∃u:TypeId,ts[i]? = some u/\Cell.okWide P w r b0 u v) :
 ∀(fs:List Field) (o:Nat) (l:List RK) (ρ0:Env),Fs P d ts fs o=some l ->
  (∀f∈fs,∃x,DataW.trod enc P w 0 (fun _=>true) held n f.type ((cs.drop f.offset).take (P.cellsOf f.type))=some x/\∀b off,MemPlace.cell b off∈x.2->w.frozen? ⟨b,off,none⟩=false)->o+l.length=cs.length ->
  ∃(xs:List RD) (ρ:Env),Kb l xs/\ρ0.le ρ/\ρ.n=ρ0.n+rN xs/\ct ρ (XM ρ0.n xs) (cs.drop o)/\ai w (fun _=>False) ρ (Eb (yu ρ0.n l xs)) w
 |[],o,l,ρ0,h,_,hl=>by
  simp[Fs]at h;subst h;refine⟨[],ρ0,rfl,Env.le.refl _,rfl,?_,⟨ey.refl _ _,fun e he=>(by cases he),.nil⟩⟩;have:cs.drop o=[]:=List.drop_eq_nil_of_le (by simp at hl;omega);rw[this];rfl
 |f::fs,o,l,ρ0,h,hf,hl=>by
  simp only[Fs]at h;cases ho:Nat.beq f.offset o with
  |false=>rw[ho]at h;cases h
  |true =>
  rw[ho]at h;simp only[cond_true]at h;have ho':=Nat.eq_of_beq_eq_true ho;obtain⟨x,hx,hz⟩:=hf f List.mem_cons_self;rw[ho']at hx;have hfr:∀g∈fs,∃x,DataW.trod enc P w 0 (fun _=>true) held n g.type ((cs.drop g.offset).take (P.cellsOf g.type))=some x/\∀b off,MemPlace.cell b off∈x.2->w.frozen? ⟨b,off,none⟩=false:=fun g hg=>hf g (List.mem_cons_of_mem _ hg);split at h
  ·rename_i e hu;split at h
   ·rename_i ks u l1 e1 e2 e3;cases hb:(Nat.beq ks.length (P.cellsOf e)&&(Nat.ble 1 ks.length&&(Nat.beq (P.cellsOf f.type) 1&&T7 P u)))
    ·rw[hb]at h;cases h
    rw[hb]at h;simp only[cond_true,Option.some.injEq]at h;subst h;simp only[Bool.and_eq_true]at hb;obtain⟨h1,h2,h3,h4⟩:=hb;have hlt:o<cs.length:=by simp at hl;omega
    have hc1:=Nat.eq_of_beq_eq_true h3;have hone:(cs.drop o).take (P.cellsOf f.type)=[cs[o]]:=by
     rw[hc1,List.drop_eq_getElem_cons hlt];rfl
    rw[hone]at hx;obtain⟨u',hu',hok⟩:=hts o cs[o] (List.getElem?_eq_getElem hlt);rw[e2]at hu';cases hu';obtain⟨p,m,cap,rows,hn,hc,hrows,hlt2,hrep,hsat,_⟩:=Ft hu e1 (Nat.eq_of_beq_eq_true h1) (Nat.le_of_ble_eq_true h2) (dd:=x.1) (ps:=x.2) hx hz;obtain⟨xs,ρ,g1,g2,g3,g4,g5⟩:=Dr hts fs (o+1) l1 (ρ0.ext p) e3 hfr (by simp at hl ⊢;omega);have hpl:ρ.pl ρ0.n=p:=by rw[g2.pl _ (Nat.lt_succ_self _)];exact ρ0.dw p
    have hlt':ρ0.n<ρ.n:=g2.n;refine⟨.s ks.length m cap rows::xs,ρ,⟨_,_,rfl,⟨m,cap,rows,rfl,hn,hc,hrows⟩,g1⟩,(ρ0.dV p).trans g2,by rw[g3];simp[rN,Env.ext];omega,?_,?_⟩
    ·rw[List.drop_eq_getElem_cons hlt];exact⟨_,_,rfl,hrep ρ ρ0.n hlt' hpl,g4⟩
    ·refine ai.cons g5 ⟨hlt',by simp only;rw[hpl];exact hsat ρ,by simp only;rw[hpl];exact hlt2,fun h=>(by cases h)⟩ fun y hy=>⟨?_,fun h=>?_⟩
     ·obtain⟨q,hq,rfl⟩:=List.mem_map.1 hy;have:=(qp _ _ _ _ hq).1;simp only[Env.ext]at this ⊢;omega
     ·rw[Cf hy]at h;cases h
   ·cases h
  ·split at h
   ·rename_i ks l1 e1 e3;cases hb:Nat.beq ks.length (P.cellsOf f.type)
    ·rw[hb]at h;cases h
    rw[hb]at h;simp only[cond_true,Option.some.injEq]at h;subst h;have hb':=Nat.eq_of_beq_eq_true hb;have hks:=yq d n f.type _ _ ks hx e1;obtain⟨xs,ρ,g1,g2,g3,g4,g5⟩:=Dr hts fs (o+P.cellsOf f.type) l1 ρ0 e3 hfr (by rw[<- hb'];simp at hl;omega);refine⟨(List.zipWith (fun k v=>RD.a (lJ k v)) ks ((cs.drop o).take (P.cellsOf f.type)))++xs,ρ,Fu hks g1,g2,by rw[T8];exact g3,?_,?_⟩
    ·rw[Ou];have e:cs.drop o=(cs.drop o).take (P.cellsOf f.type)++cs.drop (o+P.cellsOf f.type):=by
      rw[<- List.drop_drop,List.take_append_drop]
     rw[e,List.take_append_of_le_length (by rw[hks.len,hb'];exact Nat.le_refl _),List.take_take,Nat.min_self];exact(Kg hks).append g4
    ·rw[Kf _ _ _ hks.len];exact g5
   ·cases h
theorem HZ:∀(n:Nat) (aks:List AK) (ads:List AD),∀p∈ML n aks ads,n<=p.1
 |_,[],_,_,h=>by simp[ML]at h
 |_,_::_,[],_,h=>by simp[ML]at h
 |n,k::r,a::s,p,h=>by
  have key:∀m,n<=m->p∈ML m r s->n<=p.1:=fun m hm h=>Nat.le_trans hm (HZ m r s p h);cases k<;>cases a<;>simp only[ML,List.mem_cons,List.mem_append]at h<;>first|exact key n (Nat.le_refl _) h|skip
  ·rcases h with rfl|h
   ·exact Nat.le_refl _
   ·exact key (n+1) (Nat.le_succ _) h
  ·rcases h with h|h
   ·exact(qp _ _ _ _ h).1
   ·exact key _ (Nat.le_add_right _ _) h
theorem MN{ρ:Env}{ks:List CK}{cs:List Value}(h:u0 ks cs):ct ρ (atoms (fun j=>cs.getD j undef) ks 0) cs:=by
 have:=vg ρ (fun j=>cs.getD j undef) ks 0 (fun j k hk=>by
  have hj:j<cs.length:=by rw[h.len];exact(List.getElem?_eq_some_iff.1 hk).1
  rw[Nat.zero_add];refine h.ok j k _ hk ?_;simp[List.getD,List.getElem?_eq_getElem hj])
 have e:(List.range' 0 ks.length).map (fun j=>cs.getD j undef)=cs:=by
  apply List.ext_getElem
  ·simp[h.len]
  ·intro i h1 h2;simp[List.getD,List.getElem?_eq_getElem h2]
 rwa[e]at this
theorem Fv{r:Reach}{b0 d:Nat}:∀(ts:List TypeId) (aks:List AK) (vs:List Value) (ds:List (DataW H)) (ps:List MemPlace) (ρ0:Env),Dp P d ts=some aks->DataW.TrodAll enc P w 0 (fun _=>true) held ts vs ds ps ->
 (∀(j:Nat) (t:TypeId) (v:Value),ts[j]? = some t->vs[j]? = some v->Value.okWide P w r b0 t v)->(∀b off,MemPlace.cell b off∈ps->w.frozen? ⟨b,off,none⟩=false) ->
 ∃(ads:List AD) (ρ:Env),Ke aks ads/\ρ0.le ρ/\ρ.n=ρ0.n+HY ads/\iT ρ (WI ρ0.n ads) vs/\ai w (fun _=>False) ρ (Eb (ML ρ0.n aks ads)) w
 |[],aks,[],[],ps,ρ0,h,hA,_,_=>by
  simp[Dp]at h;subst h;exact⟨[],ρ0,rfl,Env.le.refl _,rfl,rfl,⟨ey.refl _ _,fun e he=>(by cases he),.nil⟩⟩
 |t::ts,aks,v::vs,dd::ds,ps,ρ0,h,hA,hval,hz=>by
  obtain⟨p1,p2,hT,hA',rfl⟩:=hA;simp only[Dp]at h;split at h
  ·rename_i k l e1 e2;cases h;have hv0:=hval 0 t v rfl rfl;have rec_:=fun ρ=>Fv (r:=r) (b0:=b0) (d:=d) ts l vs ds p2 ρ e2 hA' (fun j t v hj hv=>hval (j+1) t v (by simpa using hj) (by simpa using hv)) (fun b off hm=>hz b off (List.mem_append_right _ hm));have hz1:∀b off,MemPlace.cell b off∈p1->w.frozen? ⟨b,off,none⟩=false:=fun b off hm=>hz b off (List.mem_append_left _ hm);obtain⟨fuel,hx⟩:=hT;have one:∀u,v.cells.toList=[u]->u.oneCell'=true->(∀x,v≠.agg x)->v=u:=by
    intro u hv hu hna;cases v<;>simp[Value.cells]at hv<;>first|exact hv|exact hv.symm|(rename_i x;exact absurd rfl (hna x))|(subst hv;simp[Value.oneCell']at hu)
   have nagg:∀x:Array Value,v = .agg x->(∃fs,P.underlying t=some (.struct fs))\/∃n e,P.underlying t=some (.array n e):=by
    intro x hx;subst hx;unfold Value.okWide at hv0;split at hv0
    ·rename_i fs hu;exact .inl ⟨fs,hu⟩
    ·rename_i n e hu;exact .inr ⟨n,e,hu⟩
    ·rename_i h1 h2;unfold Cell.okWide at hv0;split at hv0<;>first|(cases ‹Value.agg x=_›;done)|skip
     all_goals(first|(rename_i e;cases e;done)|skip)
     unfold Cell.ok at hv0;split at hv0<;>first|(rename_i e;cases e;done)|exact hv0.elim|skip
   unfold Y6 at e1;split at e1
   ·rename_i hu;cases e1;obtain⟨b,hb,_⟩:=DataW.trod_bool hu hx;have hv:=one _ hb rfl (fun x hx=>by rcases nagg x hx with⟨_,h⟩ | ⟨_,_,h⟩<;>rw[hu]at h<;>cases h);subst hv;obtain⟨ads,ρ,h1,h2,h3,h4,h5⟩:=rec_ ρ0;exact⟨.a (.bool b)::ads,ρ,⟨_,_,rfl,⟨b,rfl⟩,h1⟩,h2,h3,⟨_,_,rfl,rfl,h4⟩,h5⟩
   ·rename_i kk hu;cases e1;obtain⟨m,hb,_,hw⟩:=DataW.trod_int hu hx;have hv:=one _ hb rfl (fun x hx=>by rcases nagg x hx with⟨_,h⟩ | ⟨_,_,h⟩<;>rw[hu]at h<;>cases h);subst hv;have hin:bQ kk m:=by rw[FI];simpa[Lit.wf]using hw
    obtain⟨ads,ρ,h1,h2,h3,h4,h5⟩:=rec_ ρ0;exact⟨.a (.int kk m)::ads,ρ,⟨_,_,rfl,⟨m,rfl,hin⟩,h1⟩,h2,h3,⟨_,_,rfl,⟨rfl,hin⟩,h4⟩,h5⟩
   ·rename_i hu;cases e1;obtain⟨s,hb,_,hs⟩:=DataW.trod_string hu hx;have hv:=one _ hb rfl (fun x hx=>by rcases nagg x hx with⟨_,h⟩ | ⟨_,_,h⟩<;>rw[hu]at h<;>cases h);subst hv;have hs':s.size<=aq:=by unfold aq;unfold maxLen at hs;exact hs
    obtain⟨ads,ρ,h1,h2,h3,h4,h5⟩:=rec_ ρ0;exact⟨.a (.str s)::ads,ρ,⟨_,_,rfl,⟨s,rfl,hs'⟩,h1⟩,h2,h3,⟨_,_,rfl,⟨rfl,hs'⟩,h4⟩,h5⟩
   ·rename_i fs hu;cases hf:HX P d t with
    |none =>
     rw[hf]at e1;simp only at e1;split at e1
     ·rename_i tys hty;split at e1
      ·rename_i fl hfl;cases hb:(Nat.beq fl.length (P.cellsOf t)&&Nat.beq tys.length (P.cellsOf t))
       ·rw[hb]at e1;cases e1
       rw[hb]at e1;simp only[cond_true,Option.some.injEq]at e1;subst e1;simp only[Bool.and_eq_true]at hb;have hb1:=Nat.eq_of_beq_eq_true hb.1;have hb2:=Nat.eq_of_beq_eq_true hb.2;have hv:∃cs:Array Value,v = .agg cs/\cs.size=P.cellsOf t/\Row.okWide P w r b0 t cs:=by
        unfold Value.okWide at hv0;rw[hu]at hv0;exact hv0
       obtain⟨cs,rfl,hcs,hrow⟩:=hv;obtain⟨tys',hty',_,hcell⟩:=hrow;rw[hty]at hty';cases hty';obtain⟨xs,m,rfl,hxx,hl,hlen,hget⟩:=DataW.trod_struct hu hx;have hps:p1=xs.flatMap (·.2):=congrArg Prod.snd hxx;obtain⟨rd,ρ1,g1,g2,g3,g4,g5⟩:=Dr (r:=r) (b0:=b0) (d:=d) (n:=m) (ts:=tys) (cs:=cs.toList) (enc:=enc) (held:=held) (P:=P) (w:=w) (fun i v hi=>by
        have hi':cs[i]? = some v:=by simpa using hi
        obtain⟨u,h1,h2⟩:=hcell i v hi';have hlt:=(Array.getElem?_eq_some_iff.1 hi').1;rw[Nat.mod_eq_of_lt (by omega)]at h1;exact⟨u,h1,h2⟩) fs.toList 0 fl ρ0 hfl (fun f hf=>by
        obtain⟨i,hi,e⟩:=List.getElem_of_mem hf;have hi':i<fs.size:=by simpa using hi
        have h1:=hget i f (by rw[Array.getElem?_eq_getElem hi'];congr 1);refine⟨xs[i]'(by omega),by rw[<- List.getElem?_eq_getElem (by omega)];exact h1,fun b off hm=>hz1 b off ?_⟩;rw[hps];exact List.mem_flatMap.2 ⟨_,List.getElem_mem _,hm⟩) (by simp[hb1,hcs])
       obtain⟨ads,ρ,h1,h2,h3,h4,h5⟩:=rec_ ρ1;rw[g3]at h4 h5;refine⟨.V9 rd::ads,ρ,⟨_,_,rfl,⟨rd,rfl,g1⟩,h1⟩,g2.trans h2,by rw[h3,g3];simp[HY];omega,⟨_,_,rfl,⟨cs.toList,by simp,?_⟩,h4⟩,?_⟩
       ·have:=g4.mono h2;simpa using this
       ·show ai w (fun _=>False) ρ (Eb (yu ρ0.n fl rd++ML (ρ0.n+rN rd) l ads)) w;rw[show Eb (yu ρ0.n fl rd++ML (ρ0.n+rN rd) l ads)=Eb (yu ρ0.n fl rd)++Eb (ML (ρ0.n+rN rd) l ads)from List.map_append ..];refine(g5.mono h2).app h5 fun x hx y hy=>⟨?_,fun h=>?_⟩
        ·obtain⟨q,hq,rfl⟩:=List.mem_map.1 hx;obtain⟨q',hq',rfl⟩:=List.mem_map.1 hy;have a1:=qp _ _ _ _ hq;have a2:=HZ _ _ _ _ hq';simp only;omega
        ·rw[Cf hx,Cf hy]at h;cases h
      ·cases e1
     ·cases e1
    |some ks =>
     rw[hf]at e1;cases e1;have hks:=yq d fuel t _ _ ks hx hf;have hv:∃cs:Array Value,v = .agg cs:=by
      unfold Value.okWide at hv0;rw[hu]at hv0;obtain⟨cs,h,_⟩:=hv0;exact⟨cs,h⟩
     obtain⟨cs,rfl⟩:=hv;have hks:u0 ks cs.toList:=hks;obtain⟨ads,ρ,h1,h2,h3,h4,h5⟩:=rec_ ρ0;refine⟨.agg (atoms (fun j=>cs.toList.getD j undef) ks 0)::ads,ρ,⟨_,_,rfl,⟨_,rfl,fun j k hj=>?_⟩,h1⟩,h2,h3,⟨_,_,rfl,⟨cs.toList,by simp,MN hks⟩,h4⟩,h5⟩;have hjl:j<cs.toList.length:=by rw[hks.len];exact(List.getElem?_eq_some_iff.1 hj).1
     exact hks.ok j k _ hj (by simp[List.getD,List.getElem?_eq_getElem hjl])
   ·rename_i e hu;split at e1
    ·rename_i ks hf;cases hb:(Nat.beq ks.length (P.cellsOf e)&&Nat.ble 1 ks.length)
     ·rw[hb]at e1;cases e1
     rw[hb]at e1;cases e1;simp only[Bool.and_eq_true]at hb;obtain⟨p,n,cap,rows,hn,hc,hrows,hlt,hrep,hsat⟩:=MM hu hf (Nat.eq_of_beq_eq_true hb.1) (Nat.le_of_ble_eq_true hb.2) hv0 ⟨fuel,hx⟩ hz1;obtain⟨ads,ρ,h1,h2,h3,h4,h5⟩:=rec_ (ρ0.ext p);have hpl:ρ.pl ρ0.n=p:=by rw[h2.pl _ (Nat.lt_succ_self _)];exact ρ0.dw p
     have hlt':ρ0.n<ρ.n:=h2.n;refine⟨.slc ks.length n cap rows::ads,ρ,⟨_,_,rfl,⟨n,cap,rows,rfl,hn,hc,hrows⟩,h1⟩,(ρ0.dV p).trans h2,by rw[h3];simp[HY,Env.ext];omega,⟨_,_,rfl,hrep ρ ρ0.n hlt' hpl,h4⟩,?_⟩;refine ai.cons h5 ⟨hlt',by simp only;rw[hpl];exact hsat ρ,by simp only;rw[hpl];exact hlt,fun h=>(by cases h)⟩ fun x hx=>⟨?_,fun h=>?_⟩
     ·obtain⟨q,hq,rfl⟩:=List.mem_map.1 hx;have:=HZ _ _ _ _ hq;simp only[Env.ext]at this ⊢;omega
     ·rw[Cf hx]at h;cases h
    ·cases e1
   ·cases e1
  ·cases h
 |[],_,[],_::_,_,_,_,h,_,_=>h.elim
 |[],_,_::_,_,_,_,_,h,_,_=>h.elim
 |_::_,_,[],_,_,_,_,h,_,_=>h.elim
 |_::_,_,_::_,[],_,_,_,h,_,_=>h.elim
theorem Wb{Y:Gx}(hY:Y.Ok){C:cC}{ch:C.α->gN}(hch:∀a,IK Y.G.X (ch a)){lh:C.α->Nat->LH}{f:Nat}(hb:vq Y C ch lh f)(a:C.α)(hp:C.pre a)(hhp:C.hp a=[])(hres:∀o,C.res a o = .a .tt){w:World}{ρ:Env}{vs:List Value}
 (hn:ρ.n=C.m) (hh:ai w (fun _=>False) ρ (Eb (C.ro a)) w) (hargs:iT ρ (C.args a) vs):Calls Y.G.X.P f vs.toArray w fun e w'=>e = .returned (.bool true)/\ey (fun _=>False) w w':=by
 refine(xY hY (hch a) (hb a hp) w (fun _=>False) ρ w vs hn ?_ hargs).mono ?_
 ·show ai w (fun _=>False) ρ (vp (C.hp a)++Eb (C.ro a)) w;rw[hhp];exact hh
 ·rintro e w' ⟨v,rfl,sv,s',ρ',hK,_,_,_,_,hrep,hh'⟩;refine⟨?_,hh'.keeps⟩;obtain⟨o,hK⟩:=hK;obtain⟨τ,_,_,hw,q⟩:=vo hK (Wf.nil _ _);have:=q ρ' (iW ρ' τ C.m') v (nZ hw) hrep;rw[hres o]at this;rw[show v = .bool true from this]
theorem Wc{Y:Gx}(hY:Y.Ok){C:cC}{ch:C.α->gN}(hch:∀a,IK Y.G.X (ch a)){lh:C.α->Nat->LH}{f:Nat}(hb:vq Y C ch lh f){ts:List TypeId}{aks:List AK}{d:Nat}(hk:Dp Y.G.X.P d ts=some aks)(hhp:∀a,C.hp a=[])(hres:∀a o,C.res a o = .a .tt)
 (hinst:∀ads,Ke aks ads->∃a,C.pre a/\C.args a=WI 0 ads/\C.ro a=ML 0 aks ads/\C.m=HY ads) {W:World} {args:Array Value} {ds:List (DataW H)} {ps:List MemPlace} {r:Reach} {b0:Nat}
 (hA:DataW.TrodAll enc Y.G.X.P W 0 (fun _=>true) held ts args.toList ds ps) (hval:∀(j:Nat) (t:TypeId) (v:Value),ts[j]? = some t->args.toList[j]? = some v->Value.okWide Y.G.X.P W r b0 t v)
 (hz:∀b off,MemPlace.cell b off∈ps->W.frozen? ⟨b,off,none⟩=false):Calls Y.G.X.P f args W fun e w'=>e = .returned (.bool true)/\ey (fun _=>False) W w':=by
 obtain⟨ads,ρ,h1,_,h3,h4,h5⟩:=Fv (r:=r) (b0:=b0) (d:=d) ts aks args.toList ds ps ⟨0,fun _=>xT⟩ hk hA hval hz;obtain⟨a,g1,g2,g3,g4⟩:=hinst ads h1;have:=Wb hY hch hb a g1 (hhp a) (hres a) (w:=W) (ρ:=ρ) (vs:=args.toList) (by rw[h3,g4];simp) (by rw[g3];exact h5) (by rw[g2];exact h4);simpa using this
theorem AW:∀ {ts:List TypeId} {vs:List Value} {ds:List (DataW H)} {ps:List MemPlace},DataW.TrodAll enc P w base spare held ts vs ds ps->ds.length=ts.length
 |[],[],[],_,_=>rfl
 |_::_,_::_,_::_,_,⟨_,_,_,h,_⟩=>by simp[AW h]
 |[],[],_::_,_,h=>h.elim
 |[],_::_,_,_,h=>h.elim
 |_::_,[],_,_,h=>h.elim
 |_::_,_::_,[],_,h=>h.elim
theorem wk(hl:laidOutB P=true){W W':World}(hk:ey (fun _=>False) W W'){sp:Nat->Bool}:∀ {ts:List TypeId} {vs:List Value} {ds:List (DataW H)} {ps:List MemPlace},(∀t∈ts,P.readableRec t=true/\t<P.types.size) ->
 DataW.TrodAll enc P W 0 (fun _=>true) true ts vs ds ps->(∀p∈ps,p.block<W.heap.size/\sp p.block=true)->DataW.TrodAll enc P W' 0 sp true ts vs ds ps
 |[],[],[],_,_,h,_=>h
 |t::ts,v::vs,d::ds,ps,ht,⟨p1,p2,h1,h2,e⟩,hp=>by
  subst e;have hb:Below W.heap.size W W':=⟨hk.os,hk.tape,hk.output,hk.size,fun b hb=>hk.block b hb id⟩
  obtain⟨a1,a2⟩:=ht t List.mem_cons_self;exact⟨p1,p2,WideElems.Trod_stays hl a1 a2 h1 (fun x hx=>hb.same (hp x (List.mem_append_left _ hx)).1) (fun x hx=>(hp x (List.mem_append_left _ hx)).2),
   wk hl hk (fun t h=>ht t (List.mem_cons_of_mem _ h)) h2 fun x hx=>hp x (List.mem_append_right _ hx),rfl⟩
 |[],[],_::_,_,_,h,_=>h.elim
 |[],_::_,_,_,_,h,_=>h.elim
 |_::_,[],_,_,_,h,_=>h.elim
 |_::_,_::_,[],_,_,h,_=>h.elim
end
end Go.Sx
namespace Go.Proofs.YtfjgoonelcaggaaGreat
open Go.Sx
def jf(m:nU):nU:=Hs { gZ m [2]with l:=[] }
structure Ov where
 m:nU
 p:rU
noncomputable def MO:cC where
 α:=Ov
 β:=rU
 m:=7
 m':=10
 pre:=fun a=>ja a.m a.p/\sZ a.m 1/\(gZ a.m [2]).d.n<100000/\(gZ a.m [2]).d.calls<1000000000000
 args:=fun _=>[.a (.ptr 0 0 0 0)]
 hp:=fun a=>Eh 0 1 2 3 4 5 6 a.m a.p
 ro:=fun _=>[]
 post:=fun a b=>ja (jf a.m) b/\tS a.p b
 res:=fun _ _=>.a (.lit .i64 0)
 cW:=fun a b=>Eh 0 1 2 3 7 8 9 (jf a.m) b
def nK(x:Int):List Int:=[x]
theorem Ql:fnBody (Y Tryz.prog) [(121,Tj),(178,Ob),(169,jC)] 142 MO fun _=>[]:=fnBody.of (p :=
 ∀z:Ov,ja z.m z.p/\sZ z.m 1/\jF (gZ z.m (nK 2)).d->CZ 1 1 z.m z.p (aM 1 (bD (fA 2))) fun v w=>Exists (ax (cS (Exists (kF (gZ v.m v.body).d fun s=>∃u:rU,aW (w.H=u.H/\az (fH (gZ v.m v.body).L (jf z.m).L w.y u.y (gz (gn s) (jf z.m).d (mK 16 u.x 16 u.cap 0 0 (de (Ix.bI 16).t) (ja (jf z.m) u/\tS z.p u)))))))))) (by kernel_rfl) (by
 delta av aK bW aC bG af bD fA bS aI oe mK jF ax aW ag CZ az gR kF nK fH cS de
 try dsimp -iota -proj only
 rintro⟨m,p⟩ ⟨hat,hok,hw1,hw2⟩;have hr:aj 1 1 (aM 1 [Value.int .u8 2]) (aa cE [2]):=.dR fun i hi=>by
  have:i=0:=by omega
  subst this;rfl
 have h0:sZ m ([2]:List Int).length:=hok;have h1:1<=([2]:List Int).length:=by decide
 have h2:([2]:List Int).length<=300:=by decide
 refine⟨Ei.mk m p [2] 1,?_⟩
 and_intros<;>first|exact cm|exact hat|exact h0|exact h1|exact h2|exact hr|(intro h_;revert h_)|exact cn|skip
 rintro p2 ⟨hat2,hf2⟩;have e:gZ (Ei.mk m p [2] 1).m (Ei.mk m p [2] 1).body=gZ m [2]:=rfl;refine⟨(),trivial,fun _ _=>⟨(gZ m [2]).d,?_⟩⟩
 and_intros<;>first|exact cm|exact hw1|exact hw2|(intro h_;revert h_)|exact cn|skip
 intro _ _;have h3:ja (jf m) ⟨p2.H,p2.y,Ix.bI 16,16⟩:=⟨hat2.log,Ix.vC (by omega) (by omega)⟩
 have h4:tS p ⟨p2.H,p2.y,Ix.bI 16,16⟩:=hf2;refine⟨⟨p2.H,p2.y,Ix.bI 16,16⟩,?_⟩
 and_intros<;>first|exact cm|exact h3|exact h4|(intro h_;revert h_)|exact cn|skip)
theorem Qm:ak (Y Tryz.prog).G.X 142 MO:=aU fF Ql ⟨Hp,JV,iG,trivial⟩
theorem Qn{rs:List RecM}{es:List (Option aG)}{p:Int}(hl:es.length=rs.length)(h:∀i,i<es.length->(gl rs i).body=aJ (gl es i)/\∀x,gl es i=some x->fV x=true) :
 (es++[none]).length=(rs++[(⟨p,[2]⟩:RecM)]).length/\∀i,i<(es++[none]).length->(gl (rs++[(⟨p,[2]⟩:RecM)]) i).body=aJ (gl (es++[none]) i)/\∀z,gl (es++[none]) i=some z->fV z=true:=by
 refine⟨by simp[hl],fun i hi=>?_⟩;rw[List.length_append,List.length_singleton]at hi;rw[kE hi,kE (by rw[<- hl];exact hi),hl];by_cases hin:i<rs.length
 ·rw[if_pos hin,if_pos hin];exact h i (by omega)
 ·rw[if_neg hin,if_neg hin];exact⟨rfl,fun z e=>by cases e⟩
theorem mP.XN{m:nU}{n:Nat}{rs:List RecM}{es:List (Option aG)}(h:mP m n rs es)(hn:m.L.next<9999999999)(hfit:(ef rs).length+8+1<=378) :
 mP (jf m) (n+21) (rs++[⟨m.L.next,[2]⟩]) (es++[none])/\(jf m).L.next=m.L.next+1/\(jf m).L.au=m.L.au/\(jf m).L.from_=m.L.from_:=by
 obtain⟨h1,h2,h3,h4,h5⟩:=h.one.add (body:=[2]) (by decide) hn hfit;obtain⟨b1,b2⟩:=Qn (p:=m.L.next) h.len h.body;refine⟨⟨⟨h1.flush,?_,Nat.zero_le _⟩,b1,b2⟩,h2,h4,h5⟩;rw[vI];exact⟨h1.flush.rd,fun e he=>(by cases he),fun k hk=>absurd rfl hk⟩
def Em(s:lF):lF:={ s with d:=(jf s.fl).d,cL:=(jf s.fl).L,cl:=(jf s.fl).l }
theorem dM.XN{s:lF}{n:Nat}{es:List (Option aG)}{cb jb:Nat}(h:dM s n es cb jb)(hn:n<900000000)(hfit:cb+9<=378) :
 dM (Em s) (n+21) (es++[none]) (cb+9) jb/\sZ s.fl 1/\(gZ s.fl [2]).d.n<100000/\(gZ s.fl [2]).d.calls<1000000000000:=by
 obtain⟨cr,hf,hb⟩:=h.fl;have hnx:=h.nx;have hnx1:s.fl.L.next<=n:=hnx.1
 obtain⟨f1,f2,f3,f4⟩:=hf.XN (by omega) (by omega);obtain⟨g1,g2,g3,g4⟩:=h.XI;obtain⟨s1,s2,s3⟩:=By h.dn.1;have hdn:(jf s.fl).d.n=s.d.n:=Ac _ _ _;have hcl:(jf s.fl).d.calls<=n+21:=f1.one.log.calls;have hcl2:(jf s.fl).d.calls=(gZ s.fl [2]).d.calls+1:=rfl;have hdd:=h.dn;have hout:∀r,r<162->∀j,(jf s.fl).d.now r j=s.d.now r j:=fun r hr j=>by
  have e:(jf s.fl).d.now r j=(oa s.cL s.d [2]).now r j:=rfl;rw[e];exact Dl (by omega) (.inl (by omega))
 refine⟨⟨⟨_,f1,by rw[lZ,List.length_append,vF];show(ef cr).length+(8+1)<=_;omega⟩,h.jl.dev' (fun r _ h2 j _=>hout r (by omega) j) hdn hcl,h.jb,h.ms,?_,⟨f4.trans g1,?_,g3,g4⟩,?_,h.keep.dev' fun r hr j _=>hout r (by omega) j,h.bO⟩,hf.one.ok (by omega) (by show _+8+1<=_;omega),?_,by omega⟩
 ·have e:(Em s).cL.next=s.cL.next+1:=f2
  refine⟨by rw[e];push_cast;omega,?_,?_⟩
  ·show s.jL.next<=_;push_cast;omega
  ·show s.k.s.fh<=_;push_cast;omega
 ·show(jf s.fl).L.au=iP (jf s.fl).d.n;rw[hdn];exact f3.trans g2
 ·show 192<=(jf s.fl).d.n/\(jf s.fl).d.n<3000;rw[hdn];exact h.dn
 ·have e:(gZ s.fl [2]).d.n=s.d.n:=Ac _ _ _;rw[e];omega
theorem Wd(es:List (Option aG))(k:ByteArray):gE (es++[none]) k=none:=by rw[vI];rfl
def MP(s:lF)(m:MetaM):lF:={ s with d:=ig s.k s.d m,k:=mO s.k m }
theorem dM.save{s:lF}{n:Nat}{es:List (Option aG)}{cb jb:Nat}(h:dM s n es cb jb){m:MetaM}(hs:gD s.k m=true)(hb:m.bO=s.bO)(hn:n<800000000) :
 dM (MP s m) (n+2) es cb jb/\(MP s m).k.m=m/\(MP s m).d.n=s.d.n/\(MP s m).d.calls=s.d.calls+2:=by
 have hnx:=h.nx;obtain⟨k1,k2,k3,k4,k5,k6⟩:=h.keep.save hs (by omega);obtain⟨cr,hf,hcb⟩:=h.fl;obtain⟨g1,g2,g3,g4⟩:=h.XI;have hcl:s.d.calls<=n:=hf.one.log.calls;have hcl2:(MP s m).d.calls<=n+2:=by show(ig s.k s.d m).calls<=_;rw[k5];omega
 refine⟨⟨⟨cr,hf.dev' (fun r h1 _ j _=>k6 r (by have h1:s.cL.from_<=r:=h1;omega) j) k4 hcl2,hcb⟩,h.jl.dev' (fun r h1 _ j _=>k6 r (by omega) j) k4 hcl2,h.jb,h.ms,?_,⟨g1,?_,g3,g4⟩,?_,k1,?_⟩,k2,k4,k5⟩
 ·refine⟨?_,?_,?_⟩
  ·show s.cL.next<=_;push_cast;omega
  ·show s.jL.next<=_;push_cast;omega
  ·show(mO s.k m).s.fh<=_;rw[k3];push_cast;omega
 ·show s.cL.au=iP (ig s.k s.d m).n;rw[k4];exact g2
 ·show 192<=(ig s.k s.d m).n/\(ig s.k s.d m).n<3000;rw[k4];exact h.dn
 ·show s.bO=(mO s.k m).m.bO;rw[k2,hb]
structure gL where
 id:Int
 blk:Nat
 key:ByteArray
 good:Bool
 born:Nat
 deriving Inhabited
structure jJ where
 last:Int
 l:List gL
 dJ:Nat
def gL.enc(e:gL):fN:=⟨e.id,pv e.blk 0,e.born⟩
def En(mb:Nat)(t:jJ):Chunk:=.obj 197 [.int .i64 t.last,.val (.map (some mb))]
def wm(mb:Nat)(t:jJ):Chunk:=.abs (kQ mb .i64 (t.l.map gL.enc) t.dJ)
structure gq(H:PH)(t:jJ):Prop where
 at_:∀e∈t.l,H e.blk=some (0,[.string e.key,.bool e.good])/\e.key.size<=aq
 blk:(t.l.map (·.blk)).Nodup
 id:∀e∈t.l,1<=e.id/\e.id<=t.last/\e.born<t.dJ
 ids:(t.l.map (·.id)).Nodup
 born:(t.l.map (·.born)).Nodup
 last:0<=t.last/\t.last<=1099511627776
theorem gq.ok{H:PH}{t:jJ}(h:gq H t):Vk .i64 (t.l.map gL.enc) t.dJ:=⟨fun e he=>by
 obtain⟨x,hx,rfl⟩:=List.mem_map.1 he;obtain⟨a1,a2,a3⟩:=h.id x hx;have:=h.last;exact⟨rfl,a3,by simp only[gL.enc,bQ];omega⟩,by rw[List.map_map];exact h.born⟩
structure Ad where
 mb:Nat
 t:jJ
 H:PH
 key:ByteArray
def qJ(t:jJ)(key:ByteArray)(b:Nat):jJ:=⟨t.last+1,t.l++[⟨t.last+1,b,key,true,t.dJ⟩],t.dJ+1⟩
noncomputable def MQ:cC where
 α:=Ad
 β:=Nat
 m:=3
 m':=4
 pre:=fun a=>gq a.H a.t/\a.t.last<1099511627776/\a.key.size<=aq
 args:=fun a=>[.a (.ptr 0 0 0 0),.a (.str a.key)]
 hp:=fun a=>[(0,En a.mb a.t),(1,wm a.mb a.t),(2,.cA a.H)]
 ro:=fun _=>[]
 post:=fun a b=>a.H b=none
 res:=fun a _=>.a (.int .i64 (a.t.last+1))
 cW:=fun a b=>[(0,En a.mb (qJ a.t a.key b)),(1,wm a.mb (qJ a.t a.key b)),(3,.cA (aO a.H b 0 [.string a.key,.bool true]))]
theorem XO{l:List fN}{n:Int}(h:∀e∈l,e.key≠n):BR l n=false:=by
 unfold BR;rw[List.any_eq_false];intro e he;simpa using h e he
theorem T9(n:Int)(u:Value)(dJ:Nat):∀l:List fN,(∀e∈l,e.key≠n)->BQ n u dJ l=l++[⟨n,u,dJ⟩]
 |[],_=>rfl
 |e::r,h=>by
  unfold BQ;rw[if_neg (h e List.mem_cons_self),T9 n u dJ r fun x hx=>h x (List.mem_cons_of_mem _ hx)];rfl
def eV(y:Nat)(x:jJ):Sx.Place->Go.World->Prop:=kQ y .i64 (List.map gL.enc x.l) x.dJ
def qq(x:Nat):Value:=Value.map (some x)
def iQ(x y:Nat):=qq x=qq y
def ry(u:Nat)(v:jJ)(w:Nat->List fN->Nat->Prop):Nat->Prop:=fun(x:Nat)=>∃y:List fN,∃z:Nat,iQ u x/\eV u v=kQ x .i64 y z/\Vk .i64 y z/\w x y z
def Ds(x:Ad)(y:Nat):PH:=aO x.H y 0 (bS (bH x.key) (bD (dK true)))
def MR(z:Prop)(u:Sx.Place->Go.World->Prop)(x:Ad)(v:PH)(w:Int):=∃y:Nat,z/\u=eV x.mb (qJ x.t x.key y)/\v=Ds x y/\w=(qJ x.t x.key y).last/\iQ x.mb x.mb/\x.H y=none/\True
theorem Qo:fnBody (Y Tryz.prog) [] 137 MQ fun _=>[]:=fnBody.of (p :=
 ∀x:Ad,gq x.H x.t/\x.t.last<(1099511627776:Int)/\bp x.key<=aq->ko x.t.last (cM 1099511627776 x.t.last) (MR ((0:Int)=x.t.last+(1:Int)) (eV x.mb x.t) x x.H x.t.last) (ah (x.t.last+(1:Int))/\(ah (x.t.last+(1:Int))->bp x.key<=aq->∀y:Nat,x.H y=none->Exists (ry x.mb x.t fun v u z=>aB (bif bif Nat.beq 0 1 then true else bif Nat.beq 0 1 then true else false then false else true)/\(ah (x.t.last+(1:Int))->MR (aC (x.t.last+(1:Int))) (kQ v .i64 (BQ (x.t.last+(1:Int)) (pv y 0) z u) (bif BR u (x.t.last+(1:Int))then z else z+1)) x (Ds x y) (x.t.last+(1:Int))))))) (by kernel_rfl) (by
 delta aD ah eV aC iQ bD aB bS qq bp bH ry cM Ds dK ko MR
 try dsimp -iota -proj only
 rintro⟨mb,t,H,key⟩ ⟨h1,h2,h3⟩ _;dsimp only at *;have hno:∀e∈t.l.map gL.enc,e.key≠t.last+1:=fun e he=>by
  obtain⟨x,hx,rfl⟩:=List.mem_map.1 he;have:=h1.id x hx;simp only[gL.enc];omega
 have hl:=h1.last;have hok:=h1.ok;refine⟨fun c=>by(exfalso;have:=of_decide_eq_true c;omega),fun _ _=>⟨by simp only[bQ];omega,fun _ _ b hb=>⟨mb,t.l.map gL.enc,t.dJ,rfl,rfl,hok,rfl,fun _=>⟨b,?_⟩⟩⟩⟩;have e:kQ mb .i64 (BQ (t.last+1) (pv b 0) t.dJ (t.l.map gL.enc)) (bif BR (t.l.map gL.enc) (t.last+1)then t.dJ else t.dJ+1)=kQ mb .i64 ((qJ t key b).l.map gL.enc) (qJ t key b).dJ:=by
  rw[T9 _ _ _ _ hno,XO hno];unfold qJ;rw[List.map_append];rfl
 and_intros<;>first|exact cm|exact e|exact hb|(intro h_;revert h_)|exact cn|skip)
theorem Qp:ak (Y Tryz.prog).G.X 137 MQ:=aU fF Qo trivial
structure wo where
 mb:Nat
 t:jJ
 H:PH
 id:Int
def u5(t:jJ)(id:Int):Option gL:=t.l.find? fun e=>e.id == id
def mQ(t:jJ)(id:Int):jJ:={ t with l:=t.l.filter fun e=>!(e.id == id) }
noncomputable def Ua:cC where
 α:=wo
 β:=Unit
 m:=3
 m':=3
 pre:=fun a=>gq a.H a.t/\bQ .i64 a.id
 args:=fun a=>[.a (.ptr 0 0 0 0),.a (.int .i64 a.id)]
 hp:=fun a=>[(0,En a.mb a.t),(1,wm a.mb a.t)]
 ro:=fun a=>[(2,.cA a.H)]
 post:=fun _ _=>True
 res:=fun a _=>.mm [.a (.str (match u5 a.t a.id with|some e=>e.key|none=>ByteArray.mk #[])),.a (.bool (match u5 a.t a.id with|some e=>e.good|none=>false))]
 cW:=fun a _=>[(0,En a.mb (mQ a.t a.id)),(1,wm a.mb (mQ a.t a.id))]
theorem Kh(id:Int):∀l:List gL,getM (l.map gL.enc) id=(l.find? fun e=>e.id == id).map fun e=>pv e.blk 0
 |[]=>rfl
 |e::r=>by
  have ih:=Kh id r;unfold getM at ih ⊢;rw[List.map_cons,List.find?_cons,List.find?_cons];show Option.map _ (match e.id == id with|true=>_|false=>_)=_;cases e.id == id with
  |true=>rfl
  |false=>exact ih
theorem Dt(id:Int):∀l:List gL,(l.map (·.id)).Nodup->BS id (l.map gL.enc)=(l.filter fun e=>!(e.id == id)).map gL.enc
 |[],_=>rfl
 |e::r,h=>by
  rw[List.map_cons,List.nodup_cons]at h;rw[List.map_cons];unfold BS;by_cases he:e.id=id
  ·have hr:r.filter (fun e=>!(e.id == id))=r:=List.filter_eq_self.2 fun x hx=>by
    have:x.id≠id:=fun e2=>h.1 (List.mem_map.2 ⟨x,hx,by rw[e2,he]⟩);simp[this]
   rw[if_pos (show(gL.enc e).key=id from he),List.filter_cons,show(!(e.id == id))=false by simp[he],if_neg (by decide),hr]
  ·rw[if_neg (show ¬(gL.enc e).key=id from he),List.filter_cons,show(!(e.id == id))=true by simp[he],if_pos rfl,List.map_cons,Dt id r h.2]
def MS(x:wo):Bool:=match u5 x.t x.id with|some y=>y.good|none=>false
def MT(x:wo):ByteArray:=match u5 x.t x.id with|some y=>y.key|none=>cR
def MU(x:wo):Unit->Prop:=ax (cR=MT x/\fR (MS x) (eV x.mb x.t=eV x.mb (mQ x.t x.id)) (x.t.last=(mQ x.t x.id).last/\bl (iQ x.mb x.mb)))
def Du(y:Value)(z u:Prop):=∃x:Option Nat,y=Value.map x/\(x=none->z)/\(x≠none->u)
theorem Ub:fnBody (Y Tryz.prog) [] 72 Ua fun _=>[]:=fnBody.of (p :=
 ∀x:wo,gq x.H x.t/\ah x.id->Du (qq x.mb) (Exists (MU x)) (Exists (ry x.mb x.t fun k f l=>(∃v:Option Go.Addr,D7 (getM f x.id)=Value.pointer v)/\aD (I3 (D7 (getM f x.id))) (Exists (MU x)) (Du (qq x.mb) (Exists (ry x.mb x.t fun v w g=>bK true False)) (Exists (ry x.mb x.t fun v w g=>Exists (ry x.mb x.t fun h i j=>bK true (kA (D7 (getM w x.id)) 0 (fun y=>x.H y) (fun y=>∃u:ByteArray,y=bH u/\bp u<=aq) fun y u=>kA (D7 (getM w x.id)) 1 (fun z=>x.H z) (fun z=>∃s:Bool,z=dK s) fun z s=>Exists (ax (Zo (aP u y)=MT x/\Zu (aP s z)=MS x/\kQ h .i64 (BS x.id i) j=eV x.mb (mQ x.t x.id)/\x.t.last=(mQ x.t x.id).last/\bl (iQ x.mb x.mb))))))))))) (by kernel_rfl) (by
 delta aD aP kA ah eV iQ bK cR kz aB fR qq bp bH ax ry MU bl dK Du MS MT
 try dsimp -iota -proj only
 rintro⟨mb,t,H,id⟩ ⟨h1,h2⟩;dsimp only at *;have hok:=h1.ok;have hg:=Kh id t.l;have hd:=Dt id t.l h1.ids;refine⟨some mb,rfl,fun c=>(by cases c),fun _=>⟨mb,t.l.map gL.enc,t.dJ,rfl,rfl,hok,?_⟩⟩;cases hf:t.l.find? (fun e=>e.id == id)with
 |none =>
  have hff:u5 t id=none:=hf;have hu:mQ t id=t:=by
   have:t.l.filter (fun e=>!(e.id == id))=t.l:=List.filter_eq_self.2 fun x hx=>by
    have:=List.find?_eq_none.1 hf x hx;simpa using this
   unfold mQ;rw[this]
  have hgv:D7 (getM (t.l.map gL.enc) id) = .pointer none:=by rw[hg,hf];rfl
  refine⟨⟨none,hgv⟩,fun _=>⟨(),?_⟩,fun c=>(by rw[hgv]at c;cases c)⟩;rw[hff,hu]
  and_intros<;>first|exact cm|(intro h_;revert h_)|exact cn|skip
 |some e =>
  have hff:u5 t id=some e:=hf;have he:e∈t.l:=List.mem_of_find?_eq_some hf;obtain⟨a1,a2⟩:=h1.at_ e he;have hgv:D7 (getM (t.l.map gL.enc) id)=pv e.blk 0:=by rw[hg,hf];rfl
  refine⟨⟨_,hgv⟩,fun c=>(by rw[hgv]at c;cases c),fun _=>⟨some mb,rfl,fun c=>(by cases c),fun _=>⟨mb,t.l.map gL.enc,t.dJ,rfl,rfl,hok,mb,t.l.map gL.enc,t.dJ,rfl,rfl,hok,rfl,e.blk,0,hgv,e.blk,0,rfl,e.blk,0,0,[.string e.key,.bool e.good],rfl,a1,⟨⟨_,rfl,_,rfl,a2⟩,trivial⟩,e.blk,0,hgv,e.blk,0,rfl,e.blk,0,1,[.string e.key,.bool e.good],rfl,a1,⟨⟨_,rfl,_,rfl⟩,trivial⟩,(),?_⟩⟩⟩;rw[hff];have e2:kQ mb .i64 (BS id (t.l.map gL.enc)) t.dJ=kQ mb .i64 ((mQ t id).l.map gL.enc) (mQ t id).dJ:=by rw[hd];rfl
  and_intros<;>first|exact cm|exact e2|(intro h_;revert h_)|exact cn|skip)
theorem Uc:ak (Y Tryz.prog).G.X 72 Ua:=aU fF Ub trivial
structure Ki where
 ks:List ByteArray
 cap:Nat
 key:ByteArray
def hasB(ks:List ByteArray)(k:ByteArray):Bool:=ks.any fun q=>decide (k=q)
noncomputable def Ud:cC where
 α:=Ki
 β:=Unit
 m:=1
 m':=1
 pre:=fun a=>a.ks.length<100000
 args:=fun a=>[.a (.slc 0 0 1 a.ks.length a.cap),.a (.str a.key)]
 hp:=fun _=>[]
 ro:=fun a=>[(0,.arr 9 [.str] a.ks.length (aa kq a.ks))]
 post:=fun _ _=>True
 res:=fun a _=>.a (.bool (hasB a.ks a.key))
 cW:=fun _ _=>[]
def Y7(a:Ki):An:=.flat 2 Nat (fun s i=>s.int 8 i) (fun _ i=>i<=a.ks.length/\∀j,j<i->a.key≠gl a.ks j) (fun _ i=>a.ks.length-i)
theorem Ue:fnBody (Y Tryz.prog) [] 133 Ud fun a=>[(181,[Y7 a],[])]:=fnBody.of (p :=
 ∀x:Ki,aT x.ks<100000->(∃y:Nat,aA y (uW (aT x.ks) x.cap (x.key=x.key/\kZ x.ks/\(y<=aT x.ks/\∀z:Nat,z<y->x.key≠gl x.ks z)/\True)))/\∀y:Nat,(y<=aT x.ks/\∀z:Nat,z<y->x.key≠gl x.ks z)->gp y (aT x.ks) (aD (gP x.key (gl x.ks (0+ay y))) (bL (cM 0 (af y)=hasB x.ks x.key)) (cO y fun u=>uW (aT x.ks) x.cap (x.key=x.key/\kZ x.ks/\dY u (aT x.ks) (∀v:Nat,v<u->x.key≠gl x.ks v) y))) (Exists (eZ (hasB x.ks x.key)))) (by kernel_rfl) (by
 delta aD aK cF ah bW ay eO aF af aT dY aX aB aV fR dN gp bC bL cO ax aS kZ aA cM ag eZ aY bx bl gP uW dQ
 try dsimp -iota -proj only
 rintro⟨ks,cap,key⟩ h;dsimp only at *;have h0:∀j,j<0->key≠gl ks j:=fun j hj=>absurd hj (Nat.not_lt_zero j);refine⟨⟨0,?_⟩,fun i ⟨hi,hall⟩=>?_⟩
 ·and_intros<;>first|exact cm|exact h0|(intro h_;revert h_)|exact cn|skip
 rw[show 0+(i:Int).toNat=i by omega];refine⟨fun c1=>?_,fun c1=>⟨(),?_,trivial,trivial⟩⟩
 ·have hlt:i<ks.length:=by have:=of_decide_eq_true c1;omega
  refine⟨⟨by omega,by omega⟩,hlt,fun c2=>⟨(),?_,trivial,trivial⟩,fun c2=>⟨by simp only[bQ];omega,i+1,?_⟩⟩
  ·have c2:=of_decide_eq_true c2;have e:hasB ks key=true:=List.any_eq_true.2 ⟨gl ks i,by rw[bR hlt];exact List.getElem_mem _,decide_eq_true c2⟩;rw[e];exact decide_eq_true (by omega)
  ·have c2:=of_decide_eq_false c2;have h1:∀j,j<i+1->key≠gl ks j:=fun j hj=>by
    by_cases e:j=i
    ·rw[e];exact c2
    ·exact hall j (by omega)
   and_intros<;>first|exact cm|exact h1|(intro h_;revert h_)|exact cn|skip
 ·have hn:¬i<ks.length:=by have:=of_decide_eq_false c1;omega
  have e:hasB ks key=false:=by
   unfold hasB;rw[List.any_eq_false];intro q hq;obtain⟨j,hj,rfl⟩:=List.getElem_of_mem hq;rw[<- bR hj];simpa using hall j (by omega)
  rw[e])
theorem Uf:ak (Y Tryz.prog).G.X 133 Ud:=aU fF Ue trivial
structure Dv where
 mb:Nat
 t:jJ
 H:PH
 ks:List ByteArray
 cap:Nat
def ij(t:jJ)(f:ByteArray->Bool):jJ:={ t with l:=t.l.map fun e=>{ e with good:=e.good&&!f e.key } }
structure MV where
 seen:List Nat
 H:PH
 n:Int
def IT(t:jJ)(seen:List Nat):Nat:=(t.l.filter fun e=>!decide (e.born∈seen)).length
structure Ow(t:jJ)(H:PH)(f:ByteArray->Bool)(x:MV):Prop where
 old:∀z,z∉t.l.map (·.blk)->x.H z=H z
 at_:∀e∈t.l,x.H e.blk=some (0,[.string e.key,.bool (e.good&&!(decide (e.born∈x.seen)&&f e.key))])
 n:0<=x.n/\x.n+(IT t x.seen:Nat)<=(t.l.length:Nat)
theorem Ox{t:jJ}{seen:List Nat}{y:gL}(hy:y∈t.l)(hn:y.born∉seen):IT t (seen++[y.born])<IT t seen :=
 Go.filter_lt (fun e:gL=>!decide (e.born∈seen)) (fun e=>!decide (e.born∈seen++[y.born])) (fun x hx=>by
  simp only[Bool.not_eq_true',decide_eq_false_iff_not,List.mem_append,not_or]at hx ⊢;exact hx.1) y (by simpa using hn) (by simp) t.l hy
theorem Dw{α β:Type}{f:α->β}{l:List α}(h:(l.map f).Nodup){a b:α}(ha:a∈l)(hb:b∈l)(e:f a=f b):a=b:=by
 induction l with
 |nil=>cases ha
 |cons x r ih =>
  rw[List.map_cons,List.nodup_cons]at h;obtain⟨g1,g2⟩:=h;rcases List.mem_cons.1 ha with a1|a1
  ·rcases List.mem_cons.1 hb with b1|b1
   ·rw[a1,b1]
   ·exact absurd (List.mem_map.2 ⟨b,b1,by rw[<- e,a1]⟩) g1
  ·rcases List.mem_cons.1 hb with b1|b1
   ·exact absurd (List.mem_map.2 ⟨a,a1,by rw[e,b1]⟩) g1
   ·exact ih g2 a1 b1
theorem Ow.skip{t:jJ}{H:PH}{f:ByteArray->Bool}{x:MV}(h:Ow t H f x)(ht:gq H t){y:gL}(hy:y∈t.l)(hn:y.born∉x.seen)(hf:(y.good&&f y.key)=false):Ow t H f ⟨x.seen++[y.born],x.H,x.n⟩:=by
 refine⟨h.old,fun e he=>?_,h.n.1,?_⟩
 ·rw[h.at_ e he];by_cases hb:e.born=y.born
  ·obtain rfl:=Dw ht.born he hy hb;have e1:decide (e.born∈x.seen)=false:=decide_eq_false hn;have e2:decide (e.born∈x.seen++[e.born])=true:=decide_eq_true (by simp);rw[e1,e2]
   revert hf
   cases e.good<;>cases f e.key<;>simp
  ·have e1:decide (e.born∈x.seen++[y.born])=decide (e.born∈x.seen):=by
    rw[Bool.eq_iff_iff];simp[hb]
   rw[e1]
 ·have:=Ox hy hn;have:=h.n.2;dsimp only;omega
theorem Ow.hit{t:jJ}{H:PH}{f:ByteArray->Bool}{x:MV}(h:Ow t H f x)(ht:gq H t){y:gL}(hy:y∈t.l)(hn:y.born∉x.seen)(hf:f y.key=true):Ow t H f ⟨x.seen++[y.born],aO x.H y.blk 0 [.string y.key,.bool false],x.n+1⟩:=by
 refine⟨fun z hz=>?_,fun e he=>?_,by have:=h.n.1;dsimp only;omega,?_⟩
 ·have:z≠y.blk:=fun e=>hz (List.mem_map.2 ⟨y,hy,e.symm⟩);show aO x.H y.blk 0 _ z=H z;rw[cD this];exact h.old z hz
 ·show aO x.H y.blk 0 _ e.blk=_;by_cases hb:e.blk=y.blk
  ·obtain rfl:=Dw ht.blk he hy hb;have e2:decide (e.born∈x.seen++[e.born])=true:=decide_eq_true (by simp);rw[dF,e2,hf];simp
  ·have hb2:e.born≠y.born:=fun e3=>hb (by rw[Dw ht.born he hy e3]);have e1:decide (e.born∈x.seen++[y.born])=decide (e.born∈x.seen):=by
    rw[Bool.eq_iff_iff];simp[hb2]
   rw[cD hb,h.at_ e he,e1]
 ·have:=Ox hy hn;have:=h.n.2;dsimp only;omega
theorem Ow.all{t:jJ}{H:PH}{f:ByteArray->Bool}{x:MV}(h:Ow t H f x)(ht:gq H t)(ha:∀e∈t.l,e.born∈x.seen):gq x.H (ij t f):=by
 have e1:∀ {γ:Type} (g:gL->γ),(∀e b,g { e with good:=b }=g e)->(ij t f).l.map g=t.l.map g:=fun g hg=>by
  unfold ij;rw[List.map_map];exact List.map_congr_left fun e _=>hg _ _
 refine⟨fun e he=>?_,by rw[e1 _ fun _ _=>rfl];exact ht.blk,fun e he=>?_,by rw[e1 _ fun _ _=>rfl];exact ht.ids,by rw[e1 _ fun _ _=>rfl];exact ht.born,ht.last⟩
 ·obtain⟨y,hy,rfl⟩:=List.mem_map.1 he;have:=h.at_ y hy;rw[decide_eq_true (ha y hy),Bool.true_and]at this;exact⟨this,(ht.at_ y hy).2⟩
 ·obtain⟨y,hy,rfl⟩:=List.mem_map.1 he;exact ht.id y hy
noncomputable def MW:cC where
 α:=Dv
 β:=PH×Int
 m:=4
 m':=4
 pre:=fun a=>gq a.H a.t/\a.ks.length<100000/\a.t.l.length<100000
 args:=fun a=>[.a (.ptr 0 0 0 0),.a (.slc 3 0 1 a.ks.length a.cap)]
 hp:=fun a=>[(0,En a.mb a.t),(1,wm a.mb a.t),(2,.cA a.H)]
 ro:=fun a=>[(3,.arr 9 [.str] a.ks.length (aa kq a.ks))]
 post:=fun a b=>gq b.1 (ij a.t (hasB a.ks))/\∀z,z∉a.t.l.map (·.blk)->b.1 z=a.H z
 res:=fun _ b=>.a (.int .i64 b.2)
 cW:=fun a b=>[(0,En a.mb (ij a.t (hasB a.ks))),(1,wm a.mb (ij a.t (hasB a.ks))),(2,.cA b.1)]
def Ug(mb:Nat)(t:jJ)(H:PH)(f:ByteArray->Bool):An:=.flat 5 MV (fun s x=>(((s.at_ (s.tg 14) (.abs (mq mb x.seen t.dJ))).at_ (JD s) (.cA x.H)).set 5 (.a (.int .i64 x.n)))) (fun _ x=>Ow t H f x) (fun _ x=>IT t x.seen)
def tf(x:List Nat)(y:fN):List Nat:=x++[y.born]
def xA(y:PH×Int)(z:jJ)(u:ByteArray->Bool)(v:Nat->Option (Nat×List Value)):=gq y.fst (ij z u)/\∀x:Nat,¬x∈List.map (fun(w:gL)=>w.blk) z.l->y.fst x=v x
def xB(y:Int)(z:MV->Prop):MV->Prop:=fun(x:MV)=>y=x.n/\ag (bT (aW (z x)))
def H6(q:PH)(x:jJ)(D:Prop)(z:Nat)(E:Nat->Nat->MV->Prop)(h:ByteArray->Bool)(F:Nat->Option (Nat×List Value))(G:MV->List Nat->Nat->Nat->fN->fN->Nat->List Value->Prop)(I:MV->List Nat->Nat->Nat->fN->MV->Prop):=gq q x/\D->Exists (ry z x fun J N K=>Exists (xB 0 fun y=>E J K y)/\∀y:MV,Ow x q h y->∃r:IntKind,∃c:Nat,∃w:List Nat,∃s:Nat,mq z y.seen x.dJ=mq c w s/\∃t:Nat,∃i:List fN,∃k:Nat,iQ c t/\eV z x=kQ t r i k/\Vk r i k/\k=s/\bK true (((∀u:fN,u∈i->u.born∈w)->∃l:PH×Int,y.n=l.snd/\eV z x=eV z (ij x h)/\y.H=l.fst/\x.last=(ij x h).last/\iQ z z/\(xA l x h fun L=>F L)/\True)/\∀u:fN,u∈i->¬u.born∈w->∃d:IntKind,∃e:Nat,∃A:List Nat,∃B:Nat,mq t (tf w u) s=mq e A B/\∃C:Nat,∃m:List fN,∃o:Nat,iQ e C/\eV z x=kQ C d m o/\Vk d m o/\o=B/\∃M:List Nat,∃f:fN,A=tf M f/\f∈m/\kA f.val 1 (fun g=>y.H g) (fun g=>∃p:Bool,g=dK p) fun g p=>aD (Zu (aP p g)) (kA f.val 0 (fun v=>y.H v) (fun v=>∃j:ByteArray,v=bH j/\bp j<=aq) fun v j=>G y w s t u f v j) (Exists (xB y.n fun v=>I y w s t u v))))
def Dx(z:Nat)(u:List Nat)(v:Nat)(x:Dv)(y:MV)(w:PH)(s:Prop):=az (mq z u v=mq x.mb y.seen x.t.dJ/\bC (aT x.ks) x.cap/\aC x.t.last/\iQ x.mb x.mb/\eV x.mb x.t=eV x.mb x.t/\w=y.H/\kZ x.ks/\Ow x.t x.H (hasB x.ks) y/\s)
theorem Qq:fnBody (Y Tryz.prog) [(133,Ud)] 88 MW fun a=>[(131,[Ug a.mb a.t a.H (hasB a.ks)],[])]:=fnBody.of (p :=
 ∀x:Dv,H6 x.H x.t (aT x.ks<100000/\x.t.l.length<100000) x.mb (fun y v w=>Dx y [] v x w x.H True) (hasB x.ks) (fun y=>x.H y) (fun y v w s f g j k=>∃u:Ki,dP (aT x.ks) (aT u.ks) x.cap u.cap (Zo (aP k j)=u.key) 1 (aa kq x.ks) (aa kq u.ks) (aT u.ks<100000/\aI (aD (hasB u.ks u.key) (kz g.val 1 (fun z=>y.H z) (fun z h=>z+1<=h.length) fun z h m o=>ah (y.n+(1:Int))/\Exists (xB (y.n+(1:Int)) fun i=>Dx s (tf v f) w x i (aO y.H z h (qf m o (bD gd) 1)) (IT x.t i.seen<IT x.t y.seen))) (Exists (xB y.n fun z=>Dx s (tf v f) w x z y.H (IT x.t z.seen<IT x.t y.seen)))))) fun y v w s f g=>Dx s (tf v f) w x g y.H (IT x.t g.seen<IT x.t y.seen)) (by kernel_rfl) (by
 delta aD aP aK kA ah eV bW aC iQ aT bK kz bD aB bS qq dN aI bT bp bC bH dP H6 Dx ry kZ aW gd ag az tf dK xA qf xB
 try dsimp -iota -proj only
 rintro⟨mb,t,H,ks,cap⟩ ⟨h1,h2,h3⟩;dsimp only at *;have hok:=h1.ok;obtain⟨f,hf⟩:∃f,f=hasB ks:=⟨_,rfl⟩
 refine⟨mb,t.l.map gL.enc,t.dJ,rfl,rfl,hok,⟨⟨[],H,0⟩,?_⟩,fun x hI=>?_⟩
 ·have hI:Ow t H (hasB ks) ⟨[],H,0⟩:=⟨fun _ _=>rfl,fun e he=>by
   have:=(h1.at_ e he).1;show H e.blk=_;rw[this];simp,by show(0:Int)<=0;decide,by
   show(0:Int)+(IT t []:Nat)<=(t.l.length:Nat)
   have:IT t []<=t.l.length:=List.length_filter_le _ _;omega⟩
  and_intros<;>first|exact cm|exact hI|(intro h_;revert h_)|exact cn|skip
 rw[<- hf]at hI ⊢;refine⟨.i64,mb,x.seen,t.dJ,rfl,mb,t.l.map gL.enc,t.dJ,rfl,rfl,hok,rfl,rfl,fun hall=>⟨(x.H,x.n),?_⟩,fun e he hns=>?_⟩
 ·have ha:=hI.all h1 fun e he=>hall _ (List.mem_map.2 ⟨e,he,rfl⟩);have hm:kQ mb .i64 (t.l.map gL.enc) t.dJ=kQ mb .i64 ((ij t f).l.map gL.enc) (ij t f).dJ:=by
   unfold ij;rw[List.map_map];rfl
  have ho:=hI.old
  and_intros<;>first|exact cm|exact hm|exact ha|exact ho|(intro h_;revert h_)|exact cn|skip
 obtain⟨y,hy,rfl⟩:=List.mem_map.1 he;have hns:y.born∉x.seen:=hns;have hg:x.H y.blk=some (0,[.string y.key,.bool y.good]):=by
  rw[hI.at_ y hy,decide_eq_false hns];simp
 have hmu:=Ox hy hns;refine⟨.i64,mb,x.seen++[y.born],t.dJ,rfl,mb,t.l.map gL.enc,t.dJ,rfl,rfl,hok,rfl,x.seen,gL.enc y,rfl,he,y.blk,0,rfl,y.blk,0,rfl,y.blk,0,1,[.string y.key,.bool y.good],rfl,hg,⟨⟨_,rfl,_,rfl⟩,trivial⟩,fun c1=>?_,fun c1=>?_⟩
 ·have c1:y.good=true:=c1;have hyk:=(h1.at_ y hy).2;refine⟨y.blk,0,rfl,y.blk,0,rfl,y.blk,0,0,[.string y.key,.bool y.good],rfl,hg,⟨⟨_,rfl,_,rfl,hyk⟩,trivial⟩,Ki.mk ks cap y.key,?_⟩;have hrk:aj ks.length 1 (aa kq ks) (aa kq ks):=aj.refl _ _ _;have hkk:Zo ([Value.string y.key,.bool y.good].getD 0 (.tuple #[]))=y.key:=rfl
  and_intros<;>first|exact cm|exact hkk|exact hrk|exact h2|(intro h_;revert h_)|exact cn|skip
  intro _ _;dsimp only;rw[<- hf];refine⟨fun c2=>⟨y.blk,0,rfl,y.blk,0,rfl,y.blk,0,1,[.string y.key,.bool y.good],rfl,hg,(Nat.le_refl 2),?_,⟨x.seen++[y.born],aO x.H y.blk 0 [.string y.key,.bool false],x.n+1⟩,?_⟩,fun c2=>⟨⟨x.seen++[y.born],x.H,x.n⟩,?_⟩⟩
  ·have:=hI.n;have:=List.length_filter_le (fun e:gL=>!decide (e.born∈x.seen)) t.l;simp only[bQ];omega
  ·have hI2:=hI.hit h1 hy hns c2
   and_intros<;>first|exact cm|exact hI2|exact hmu|(intro h_;revert h_)|exact cn|skip
  ·have hI2:=hI.skip h1 hy hns (by rw[c1,c2];rfl)
   and_intros<;>first|exact cm|exact hI2|exact hmu|(intro h_;revert h_)|exact cn|skip
 ·have c1:y.good=false:=c1;have hI2:=hI.skip h1 hy hns (by rw[c1];rfl);refine⟨⟨x.seen++[y.born],x.H,x.n⟩,?_⟩
  and_intros<;>first|exact cm|exact hI2|exact hmu|(intro h_;revert h_)|exact cn|skip)
theorem Qr:ak (Y Tryz.prog).G.X 88 MW:=aU fF Qq ⟨Uf,trivial⟩
def yw(_:ByteArray):Bool:=true
structure Kj where
 mb:Nat
 t:jJ
 H:PH
noncomputable def H7:cC where
 α:=Kj
 β:=PH×Int
 m:=3
 m':=3
 pre:=fun a=>gq a.H a.t/\a.t.l.length<100000
 args:=fun a=>[.a (.ptr 0 0 0 0)]
 hp:=fun a=>[(0,En a.mb a.t),(1,wm a.mb a.t),(2,.cA a.H)]
 ro:=fun _=>[]
 post:=fun a b=>gq b.1 (ij a.t yw)/\∀z,z∉a.t.l.map (·.blk)->b.1 z=a.H z
 res:=fun _ b=>.a (.int .i64 b.2)
 cW:=fun a b=>[(0,En a.mb (ij a.t yw)),(1,wm a.mb (ij a.t yw)),(2,.cA b.1)]
def H8(z:Nat)(u:List Nat)(v:Nat)(x:Kj)(y:MV)(w:PH)(s:Prop):=ag (mq z u v=mq x.mb y.seen x.t.dJ/\aC x.t.last/\iQ x.mb x.mb/\eV x.mb x.t=eV x.mb x.t/\w=y.H/\Ow x.t x.H yw y/\s)
theorem MX:fnBody (Y Tryz.prog) [] 107 H7 fun a=>[(131,[Ug a.mb a.t a.H yw],[])]:=fnBody.of (p :=
 ∀x:Kj,H6 x.H x.t (x.t.l.length<100000) x.mb (fun y z u=>H8 y [] z x u x.H True) yw (fun y=>x.H y) (fun y z u s f w k m=>kz w.val 1 (fun v=>y.H v) (fun v g=>v+1<=g.length) fun v g i j=>ah (y.n+(1:Int))/\Exists (xB (y.n+(1:Int)) fun h=>H8 s (tf z f) u x h (aO y.H v g (qf i j (bD gd) 1)) (IT x.t h.seen<IT x.t y.seen))) fun y z u s f w=>H8 s (tf z f) u x w y.H (IT x.t w.seen<IT x.t y.seen)) (by kernel_rfl) (by
 delta aD aP kA ah eV aC iQ bK kz bD aB bS qq bT bp bH H6 ry aW gd ag H8 tf dK xA qf xB
 try dsimp -iota -proj only
 rintro⟨mb,t,H⟩ ⟨h1,h3⟩;dsimp only at *;have hok:=h1.ok;refine⟨mb,t.l.map gL.enc,t.dJ,rfl,rfl,hok,⟨⟨[],H,0⟩,?_⟩,fun x hI=>?_⟩
 ·have hI:Ow t H yw ⟨[],H,0⟩:=⟨fun _ _=>rfl,fun e he=>by
   have:=(h1.at_ e he).1;show H e.blk=_;rw[this];simp,by show(0:Int)<=0;decide,by
   show(0:Int)+(IT t []:Nat)<=(t.l.length:Nat)
   have:IT t []<=t.l.length:=List.length_filter_le _ _;omega⟩
  and_intros<;>first|exact cm|exact hI|(intro h_;revert h_)|exact cn|skip
 refine⟨.i64,mb,x.seen,t.dJ,rfl,mb,t.l.map gL.enc,t.dJ,rfl,rfl,hok,rfl,rfl,fun hall=>⟨(x.H,x.n),?_⟩,fun e he hns=>?_⟩
 ·have ha:=hI.all h1 fun e he=>hall _ (List.mem_map.2 ⟨e,he,rfl⟩);have hm:kQ mb .i64 (t.l.map gL.enc) t.dJ=kQ mb .i64 ((ij t yw).l.map gL.enc) (ij t yw).dJ:=by
   unfold ij;rw[List.map_map];rfl
  have ho:=hI.old
  and_intros<;>first|exact cm|exact hm|exact ha|exact ho|(intro h_;revert h_)|exact cn|skip
 obtain⟨y,hy,rfl⟩:=List.mem_map.1 he;have hns:y.born∉x.seen:=hns;have hg:x.H y.blk=some (0,[.string y.key,.bool y.good]):=by
  rw[hI.at_ y hy,decide_eq_false hns];simp
 have hmu:=Ox hy hns;refine⟨.i64,mb,x.seen++[y.born],t.dJ,rfl,mb,t.l.map gL.enc,t.dJ,rfl,rfl,hok,rfl,x.seen,gL.enc y,rfl,he,y.blk,0,rfl,y.blk,0,rfl,y.blk,0,1,[.string y.key,.bool y.good],rfl,hg,⟨⟨_,rfl,_,rfl⟩,trivial⟩,fun c1=>?_,fun c1=>?_⟩
 ·have c1:y.good=true:=c1;have hyk:=(h1.at_ y hy).2;refine⟨y.blk,0,rfl,y.blk,0,rfl,y.blk,0,0,[.string y.key,.bool y.good],rfl,hg,⟨⟨_,rfl,_,rfl,hyk⟩,trivial⟩,y.blk,0,rfl,y.blk,0,rfl,y.blk,0,1,[.string y.key,.bool y.good],rfl,hg,(Nat.le_refl 2),?_,⟨x.seen++[y.born],aO x.H y.blk 0 [.string y.key,.bool false],x.n+1⟩,?_⟩
  ·have:=hI.n;have:=List.length_filter_le (fun e:gL=>!decide (e.born∈x.seen)) t.l;simp only[bQ];omega
  ·have hI2:=hI.hit h1 hy hns rfl
   and_intros<;>first|exact cm|exact hI2|exact hmu|(intro h_;revert h_)|exact cn|skip
 ·have c1:y.good=false:=c1;have hI2:=hI.skip h1 hy hns (by rw[c1];rfl);refine⟨⟨x.seen++[y.born],x.H,x.n⟩,?_⟩
  and_intros<;>first|exact cm|exact hI2|exact hmu|(intro h_;revert h_)|exact cn|skip)
theorem MY:ak (Y Tryz.prog).G.X 107 H7:=aU fF MX trivial
structure nL where
 node:Int
 id:Int
 op:Int
 key:ByteArray
 deriving Inhabited
structure Fw where
 w:nL
 id:Int
 to:Int
 tick:Int
 deriving Inhabited
structure gV where
 w:nL
 tok:Int
 deriving Inhabited
def WJ:List CK:=[.int .i64,.int .i64,.int .i64,.str]
def Uh(w:nL):List Value:=[.int .i64 w.node,.int .i64 w.id,.int .i64 w.op,.string w.key]
def MZ:List CK:=WJ++[.int .i64,.int .i64,.int .i64]
def jW(x:Fw):List Value:=Uh x.w++[.int .i64 x.id,.int .i64 x.to,.int .i64 x.tick]
def Dy:List CK:=WJ++[.int .i64]
def fZ(x:gV):List Value:=Uh x.w++[.int .i64 x.tok]
structure nM where
 aQ:Int
 end_:Int
 top:Int
structure cG where
 s:lF
 id:Int
 now:Int
 le:nM
 t:jJ
 ws:List Fw
 rs:List gV
 asked:Int
structure iy where
 p:tK
 mb:Nat
 wc:Nat
 rc:Nat
def Qs(rg ma ra:A)(st le tk wa rd:Nat)(n:cG)(p:iy):Chunk:=.obj 83 [.ptr st 0 0 0,.ptr le 0 0 0,.int .i64 n.id,rg,.ptr tk 0 0 0,.bool false,.bV,.val (.map none),.val (.map none),.slc wa 0 7 n.ws.length p.wc,.slc rd 0 5 n.rs.length p.rc,.int .i64 n.asked,ma,ra]
def Eo(rg:A)(st le tk wa rd:Nat)(n:cG)(p:iy):Chunk:=Qs rg .bV .bV st le tk wa rd n p
def U1(ck:Nat)(l:nM):Chunk:=.obj 127 [.ptr ck 0 0 0,.int .i64 l.aQ,.int .i64 l.end_,.int .i64 l.top]
def Ui(now:Int):Chunk:=.obj 24 [.int .i64 now]
def Y8(rg:A)(nd le ck tk mp wa rd st ca cl dv ds ix it jr ma jl ke su tx pl:Nat)(n:cG)(p:iy):List (Nat×Chunk) :=
 [(nd,Eo rg st le tk wa rd n p),(le,U1 ck n.le),(ck,Ui n.now),(tk,En p.mb n.t),(mp,wm p.mb n.t),(wa,.arr 125 MZ n.ws.length (aa jW n.ws)),(rd,.arr 134 Dy n.rs.length (aa fZ n.rs))]++vE st ca cl dv ds ix it jr ma jl ke su tx pl n.s p.p
structure dI(n:cG)(p:iy):Prop where
 st:oR n.s p.p
 tok:gq p.p.H n.t
 sep:∀e∈n.t.l,e.blk∉br p.p.cy/\e.blk∉br p.p.jy
 wc:n.ws.length<=p.wc
 rc:n.rs.length<=p.rc
def Z3:jJ:=⟨0,[],0⟩
structure Kk where
 id:Int
 now:Int
 d:bz
 H:PH
def pP(a:Kk):cG:=⟨jU (ru ⟨a.d,a.H⟩),a.id,a.now,⟨0,0,0⟩,Z3,[],[],0⟩
noncomputable def Dz:cC where
 α:=Kk
 β:=iy
 m:=4
 m':=40
 pre:=fun a=>1<=a.id/\a.id<=5/\yj.pre ⟨a.d,a.H⟩
 args:=fun a=>[.a (.int .i64 a.id),.a (.ptr 0 0 0 0),.a (.ptr 3 0 0 0)]
 hp:=fun a=>gG 0 1 a.d++[(2,.cA a.H),(3,Ui a.now)]
 ro:=fun _=>[]
 post:=fun a b=>dI (pP a) b
 res:=fun _ _=>.mm [.a (.ptr 4 0 0 0),.a (.lit .i64 0)]
 cW:=fun a b=>Y8 .nil 4 5 3 6 7 8 9 10 11 12 0 1 13 14 15 16 17 18 19 20 21 (pP a) b
def kT:=cV (Value.map none)
def cz(x:List gV):Nat:=x.length
def Fy(y:Int)(x:nM)(z u:Int)(v w:Prop):=ag (y=x.aQ/\z=x.end_/\u=x.top/\v/\w)
theorem Qt:fnBody (Y Tryz.prog) [(46,yj)] 11 Dz fun _=>[]:=fnBody.of (p :=
 ∀x:Kk,(1:Int)<=x.id/\x.id<=(5:Int)/\uY x.d { d:=x.d,H:=x.H }->lp x.id 1 (∃y:iy,False) 5 (∃y:Df,ag (gz x.d y.d (x.H=y.H/\uY y.d y/\∀u:tK,xz (ru y) u y.H->∀v:Nat,∃z:iy,ag (aW (az (x.id=(pP x).id/\ag (bT (kT/\kT/\(0=(pP x).ws.length/\0=z.wc)/\(0=cz (pP x).rs/\0=z.rc)/\(0:Int)=(pP x).asked/\Fy 0 (pP x).le 0 0 (x.now=(pP x).now) ((0:Int)=(pP x).t.last/\iQ v z.mb/\kQ v .i64 [] 0=eV z.mb (pP x).t/\(pP x).ws.length=0/\cz (pP x).rs=0/\jo (jU (ru y)) (pP x).s u z.p (u.H=z.p.H/\dI (pP x) z/\True))))))))))) (by kernel_rfl) (by
 delta aD eV bW aC iQ aF bK kT cz aB Fy cV qq iY bT aW ag uY az jo iu xz lp
 rintro⟨id,now,d,H⟩ ⟨h1,h2,h3,h4,h5,h6⟩;dsimp only at *;refine⟨fun c=>(by exfalso;have:=of_decide_eq_true c;omega),fun _=>⟨fun c=>(by exfalso;have:=of_decide_eq_true c;omega),fun _=>⟨Df.mk d H,?_⟩⟩⟩
 and_intros<;>first|exact cm|exact h3|exact h4|exact h5|exact h6.1|exact h6.2|exact h6.3|exact h6.4|exact h6.5|exact h6.6|(intro h_;revert h_)|exact cn|skip
 rintro p ⟨hat,_⟩ mb;refine⟨⟨p,mb,0,0⟩,?_⟩;have hN:dI (pP ⟨id,now,d,H⟩) ⟨p,mb,0,0⟩:=⟨hat,⟨fun e he=>(by cases he),List.nodup_nil,fun e he=>(by cases he),List.nodup_nil,List.nodup_nil,by show(0:Int)<=0/\(0:Int)<=_;omega⟩,fun e he=>(by cases he),Nat.le_refl 0,Nat.le_refl 0⟩
 and_intros<;>first|exact cm|exact hN|(intro h_;revert h_)|exact cn|skip)
theorem Fz:ak (Y Tryz.prog).G.X 11 Dz:=aU fF Qt ⟨MI,trivial⟩
theorem oR.frame{s:lF}{p:tK}(h:oR s p){H':PH}(e:∀z,z∈br p.cy\/z∈br p.jy->H' z=p.H z):oR s { p with H:=H' } :=
 ⟨⟨h.fl.log.frame fun z hz=>e z (.inl hz),h.fl.idx⟩,h.jl.frame fun z hz=>e z (.inr hz),h.sep,h.cap⟩
theorem oR.dom{s:lF}{p:tK}(h:oR s p){z:Nat}(hz:z∈br p.cy\/z∈br p.jy):p.H z≠none:=by
 rcases hz with hz|hz
 ·exact h.fl.log.dom z hz
 ·exact h.jl.dom z hz
theorem gq.frame{H H':PH}{t:jJ}(h:gq H t)(e:∀x∈t.l,H' x.blk=H x.blk):gq H' t :=
 ⟨fun x hx=>⟨by rw[e x hx];exact(h.at_ x hx).1,(h.at_ x hx).2⟩,h.blk,h.id,h.ids,h.born,h.last⟩
theorem dI.store{n:cG}{p:iy}(h:dI n p){s:lF}{b:tK}(h1:oR s b)(h2:De p.p.H (br p.p.cy) (br p.p.jy) b):dI { n with s:=s } { p with p:=b }:=by
 have hx:∀e∈n.t.l,b.H e.blk=p.p.H e.blk/\e.blk∉br b.cy/\e.blk∉br b.jy:=fun e he =>
  h2 e.blk (by rw[(h.tok.at_ e he).1];simp) (h.sep e he).1 (h.sep e he).2
 exact⟨h1,h.tok.frame fun e he=>(hx e he).1,fun e he=>(hx e he).2,h.wc,h.rc⟩
theorem gq.XP{H:PH}{t:jJ}(h:gq H t){key:ByteArray}{b:Nat}(hb:H b=none)(hk:key.size<=aq)(hl:t.last<1099511627776):gq (aO H b 0 [.string key,.bool true]) (qJ t key b):=by
 have hne:∀e∈t.l,e.blk≠b:=fun e he h0=>by
  have:=(h.at_ e he).1;rw[h0,hb]at this;cases this
 have hlast:=h.last;refine⟨fun e he=>?_,?_,fun e he=>?_,?_,?_,by show 0<=t.last+1/\t.last+1<=_;omega⟩
 ·rcases List.mem_append.1 he with he|he
  ·exact⟨by rw[cD (hne e he)];exact(h.at_ e he).1,(h.at_ e he).2⟩
  ·rw[List.mem_singleton]at he;subst he;exact⟨dF _ _ _ _,hk⟩
 ·show((t.l++[_]).map _).Nodup;rw[List.map_append,List.nodup_append];refine⟨h.blk,by simp,fun x hx y hy=>?_⟩;obtain⟨e,he,rfl⟩:=List.mem_map.1 hx;have:y=b:=by simpa using hy
  rw[this];exact hne e he
 ·rcases List.mem_append.1 he with he|he
  ·have:=h.id e he;show 1<=e.id/\e.id<=t.last+1/\e.born<t.dJ+1;omega
  ·rw[List.mem_singleton]at he;subst he;show 1<=t.last+1/\t.last+1<=t.last+1/\t.dJ<t.dJ+1;omega
 ·show((t.l++[_]).map _).Nodup;rw[List.map_append,List.nodup_append];refine⟨h.ids,by simp,fun x hx y hy=>?_⟩;obtain⟨e,he,rfl⟩:=List.mem_map.1 hx;have:y=t.last+1:=by simpa using hy
  have:=h.id e he;omega
 ·show((t.l++[_]).map _).Nodup;rw[List.map_append,List.nodup_append];refine⟨h.born,by simp,fun x hx y hy=>?_⟩;obtain⟨e,he,rfl⟩:=List.mem_map.1 hx;have:y=t.dJ:=by simpa using hy
  have:=h.id e he;omega
theorem dI.XP{n:cG}{p:iy}(h:dI n p){key:ByteArray}{b:Nat}(hb:p.p.H b=none)(hk:key.size<=aq)(hl:n.t.last<1099511627776):dI { n with t:=qJ n.t key b } { p with p:={ p.p with H:=aO p.p.H b 0 [.string key,.bool true] } }:=by
 have hne:∀z,z∈br p.p.cy\/z∈br p.p.jy->z≠b:=fun z hz h0=>h.st.dom hz (by rw[h0];exact hb);refine⟨h.st.frame fun z hz=>cD (hne z hz),h.tok.XP hb hk hl,fun e he=>?_,h.wc,h.rc⟩;rcases List.mem_append.1 he with he|he
 ·exact h.sep e he
 ·rw[List.mem_singleton]at he;subst he;exact⟨fun hz=>hne b (.inl hz) rfl,fun hz=>hne b (.inr hz) rfl⟩
theorem dI.WK{n:cG}{p:iy}(h:dI n p){f:ByteArray->Bool}{H':PH}(h1:gq H' (ij n.t f))(h2:∀z,z∉n.t.l.map (·.blk)->H' z=p.p.H z):dI { n with t:=ij n.t f } { p with p:={ p.p with H:=H' } }:=by
 refine⟨h.st.frame fun z hz=>h2 z fun hm=>?_,h1,fun e he=>?_,h.wc,h.rc⟩
 ·obtain⟨e,he,rfl⟩:=List.mem_map.1 hm;rcases hz with hz|hz
  ·exact(h.sep e he).1 hz
  ·exact(h.sep e he).2 hz
 ·obtain⟨y,hy,rfl⟩:=List.mem_map.1 he;exact h.sep y hy
structure qx where
 id:Int
 op:Int
 key:ByteArray
 err:Int
 val:ByteArray
 has:Bool
 deriving Inhabited
def WL:List CK:=[.int .i64,.int .i64,.str,.int .i64,.str,.bool]
def th(r:qx):List Value:=[.int .i64 r.id,.int .i64 r.op,.string r.key,.int .i64 r.err,.string r.val,.bool r.has]
def tj:ByteArray:=ByteArray.mk #[]
structure FA where
 n:cG
 p:iy
 id:Int
 op:Int
 key:ByteArray
def Ae(op:Int)(key:ByteArray)(e:Int):Int:=if(op=1\/op=2)/\dS key=true then e else 1
def Qu(a:FA):qx:=⟨a.id,a.op,a.key,Ae a.op a.key 6,tj,false⟩
noncomputable def M0:cC where
 α:=FA
 β:=Nat
 m:=8
 m':=9
 pre:=fun a=>a.key.size<=aq
 args:=fun a=>[.a (.ptr 0 0 0 0),.a (.int .i64 a.id),.a (.int .i64 a.op),.a (.str a.key)]
 hp:=fun a=>[(0,Eo .nil 7 1 3 5 6 a.n a.p)]
 ro:=fun _=>[]
 post:=fun _ _=>True
 res:=fun _ c=>.agg [.bV,.slc 8 0 6 1 c]
 cW:=fun a _=>[(0,Eo .nil 7 1 3 5 6 a.n a.p),(8,.arr 61 WL 1 (aa th [Qu a]))]
def ou(x:List Fw)(y:cG)(z:Nat)(u:iy):=ag (x.length=y.ws.length/\z=u.wc)
def jd(y:Prop)(z:List gV)(x:cG)(u:Nat)(v:iy)(w:Int)(s:Prop):=bT (kT/\kT/\y/\ag (cz z=cz x.rs/\u=v.rc)/\w=x.asked/\s)
def pF(x y:cG)(z u:iy)(v w:Prop):=ag (jd (ou x.ws y z.wc u) x.rs y z.rc u x.asked (v/\w))
def H9(x:FA)(z:Int):=ah x.id->ah x.op->1<=1/\64<=140737488355328/\∀y:Nat,1<=y->y<=aq->∃u:Nat,bW 1 (y=u)/\aK 1 1 6 (jG 6 (bq x.id (bq x.op (dZ x.key z (bS (bH cR) (bD gd)))))) (aa th [Qu x])/\az (aC x.n.id/\pF x.n x.n x.p x.p True True)
theorem Qv:fnBody (Y Tryz.prog) [(66,Ix.uQ),(86,Lt)] 13 M0 fun _=>[]:=fnBody.of (p :=
 ∀x:FA,bp x.key<=aq->∃z:Ix.PK,Hg z x.key (ah x.op->v7 (x.op != (1:Int)) x.op (x.op != (2:Int)) (H9 x 1) (∃y:ByteArray,x.key=y/\cS (aD (bn (dS y)) (H9 x 1) (H9 x 6))))) (by kernel_rfl) (by
 delta aD pF aK ah bq bW aC bK cR kT cz bD aB dO bS cV ou v7 aI bT bp bH H9 ir gd ag jd az bn dZ Hg dK cS jG
 try dsimp -iota -proj only
 rintro⟨n,p,id,op,key⟩ h;have h:key.size<=aq:=h;have hr:aj 1 1 (aM 1 [Go.Value.string key]) (fun(i x:Nat)=>Go.Value.string key):=.dR fun i hi=>by
  have:i=0:=by omega
  subst this;rfl
 have hs:∀i:Nat,i<1->key.size<=aq:=fun _ _=>h;have hrep:∀e:Int,Ae op key 6=e->aj 1 6 (fun(i j:Nat)=>aM 6 [Value.int .i64 id,Value.int .i64 op,Value.string key,Value.int .i64 e,Value.string (ByteArray.mk #[]),Value.bool false] (0+i) j) (aa th [Qu ⟨n,p,id,op,key⟩]):=fun e he=>.dR fun i hi=>by
  have:i=0:=by omega
  subst this;subst he;rfl
 refine⟨⟨fun _=>key,1,1⟩,?_⟩
 and_intros<;>first|exact cm|exact hr|exact hs|(intro h_;revert h_)|exact cn|skip
 intro _ _ _;dsimp only;have hk1:∀ {c:Bool},dS key=c->(op=1\/op=2)->Ae op key 6=if c=true then 6 else 1:=fun {c} hc ho=>by
  unfold Ae;rw[hc];cases c<;>simp[ho]
 refine⟨fun c1 _=>⟨fun c2 _ _=>?_,fun c2=>⟨key,rfl,trivial,fun _ _=>⟨fun c3 _ _=>?_,fun c3 _ _=>?_⟩⟩⟩,fun c1=>⟨key,rfl,trivial,fun _ _=>⟨fun c3 _ _=>?_,fun c3 _ _=>?_⟩⟩⟩
 ·have he:=hrep 1 (by unfold Ae;rw[if_neg];rintro⟨ho,_⟩;rcases ho with ho|ho<;>simp[ho]at c1 c2);refine⟨Nat.le_refl 1,by decide,fun cap _ _=>⟨cap,?_⟩⟩
  and_intros<;>first|exact cm|exact he|(intro h_;revert h_)|exact cn|skip
 ·have he:=hrep 1 (by rw[hk1 (c:=false) (by simpa using c3) (.inr (by simpa using c2))];rfl);refine⟨Nat.le_refl 1,by decide,fun cap _ _=>⟨cap,?_⟩⟩
  and_intros<;>first|exact cm|exact he|(intro h_;revert h_)|exact cn|skip
 ·have he:=hrep 6 (by rw[hk1 (c:=true) (by simpa using c3) (.inr (by simpa using c2))];rfl);refine⟨Nat.le_refl 1,by decide,fun cap _ _=>⟨cap,?_⟩⟩
  and_intros<;>first|exact cm|exact he|(intro h_;revert h_)|exact cn|skip
 ·have he:=hrep 1 (by rw[hk1 (c:=false) (by simpa using c3) (.inl (by simpa using c1))];rfl);refine⟨Nat.le_refl 1,by decide,fun cap _ _=>⟨cap,?_⟩⟩
  and_intros<;>first|exact cm|exact he|(intro h_;revert h_)|exact cn|skip
 ·have he:=hrep 6 (by rw[hk1 (c:=true) (by simpa using c3) (.inl (by simpa using c1))];rfl);refine⟨Nat.le_refl 1,by decide,fun cap _ _=>⟨cap,?_⟩⟩
  and_intros<;>first|exact cm|exact he|(intro h_;revert h_)|exact cn|skip)
theorem Qw:ak (Y Tryz.prog).G.X 13 M0:=aU fF Qv ⟨Ix.vz,x6,trivial⟩
structure pG where
 kind:Int
 l9:Int
 to:Int
 aQ:Int
 tick:Int
 seq:Int
 n:Int
 id:Int
 op:Int
 key:ByteArray
 err:Int
 last:Bool
 item:aG
 base:Int
 deriving Inhabited
def M3:List CK:=[.int .i64,.int .i64,.int .i64,.int .i64,.int .i64,.int .i64,.int .i64,.int .i64,.int .i64,.str,.int .i64,.bool,.str,.str,.int .i64,.bool,.deep,.deep,.deep,.int .i64,.deep]
def eE(m:pG):List Value:=[.int .i64 m.kind,.int .i64 m.l9,.int .i64 m.to,.int .i64 m.aQ,.int .i64 m.tick,.int .i64 m.seq,.int .i64 m.n,.int .i64 m.id,.int .i64 m.op,.string m.key,.int .i64 m.err,.bool m.last,.string m.item.key,.string m.item.val,.int .i64 m.item.e,.bool m.item.gone,.slice none 0 0,.slice none 0 0,.slice none 0 0,.int .i64 m.base,.slice none 0 0]
def DA(t:Nat)(l:List pG):Nat×Chunk:=(t,.arr 45 M3 l.length (aa eE l))
def Oy(t:Nat)(l:List qx):Nat×Chunk:=(t,.arr 61 WL l.length (aa th l))
structure mR where
 n:cG
 p:iy
 q:List pG
 qc:Nat
 l:List pG
 lc:Nat
def Kl(id:Int)(l:List pG):List pG:=l.map fun m=>{ m with l9:=id }
def mR.to(a:mR)(i:Nat):List pG:=a.q++Kl a.n.id (a.l.take i)
noncomputable def M4(rg:A):cC where
 α:=mR
 β:=Nat
 m:=12
 m':=13
 pre:=fun a=>a.l.length<1000/\a.q.length<1000
 args:=fun a=>[.a (.ptr 0 0 0 0),.a (.slc 10 0 21 a.l.length a.lc)]
 hp:=fun a=>[(0,Qs rg (.slc 11 0 21 a.q.length a.qc) .bV 7 1 3 5 6 a.n a.p),DA 11 a.q]
 ro:=fun a=>[DA 10 a.l]
 post:=fun a c=>a.l.length=0->c=a.qc
 res:=fun _ _=>.mm []
 cW:=fun a c=>[(0,Qs rg (.slc 12 0 21 (a.to a.l.length).length c) .bV 7 1 3 5 6 a.n a.p),DA 12 (a.to a.l.length)]
def Y9(rg:A)(a:mR):An:=.flat 1 (Nat×Nat) (fun s x=>((((s.put (s.hp.del 11)).new (.arr 45 M3 (a.to x.1).length (aa eE (a.to x.1)))).at_ 0 (Qs rg (.slc s.nx 0 21 (a.to x.1).length x.2) .bV 7 1 3 5 6 a.n a.p)).int 8 x.1)) (fun _ x=>x.1<=a.l.length/\(x.1=0->x.2=a.qc)) (fun _ x=>a.l.length-x.1)
theorem Oz{a:mR}{i:Nat}(h:i<a.l.length):a.to (i+1)=a.to i++[{ gl a.l i with l9:=a.n.id }]:=by
 unfold mR.to Kl;rw[gv h,List.map_append,List.append_assoc];rfl
theorem Uj(a:mR)(i:Nat):(a.to i).length=a.q.length+min i a.l.length:=by
 unfold mR.to Kl;simp
def Km(x:pG)(y:Int):List Value:=Ed .i64 x.kind y x.to (dO x.aQ) x.tick x.seq x.n (bq x.id (bq x.op (dZ x.key x.err (kS (dK x.last) (bH x.item.key) (dZ x.item.val x.item.e (kS (dK x.item.gone) gh (kS gh gh (bq x.base (bD gh)))))))))
def bP(x:List pG):Nat:=x.length
def mS(x y:List pG):=aK (bP x) (bP y) 21 (aa eE y) (aa eE x)
def Af(x:mR)(z:Prop)(y:List pG)(u:Prop):=pF x.n x.n x.p x.p z (dN (bP y) 21 (aa eE y)/\u)
def Ia(x:mR)(z y:Nat×Nat)(u:Nat):=Af x (ag (bP (x.to z.fst)+1=bP (x.to y.fst)/\u=y.snd)) x.l (lC (bP (x.to y.fst)) (bP (x.to z.fst)) 21 (aa eE (x.to z.fst)) (Km (gl x.l (0+ay z.fst)) x.n.id) (aa eE (x.to y.fst))/\dY y.fst (bP x.l) (y.fst=0->y.snd=x.qc) z.fst)
def Ib(x:mR)(z:Nat×Nat->Prop)(u:Nat×Nat->Nat->Nat×Nat->Prop)(v:Nat×Nat->Nat->Prop):=bP x.l<1000/\bP x.q<1000->(∃y:Nat×Nat,aA y.fst (dL (bP x.l) x.lc (ag (bC (bP x.l) x.lc/\az (aC x.n.id/\z y)))))/\∀y:Nat×Nat,y.fst<=bP x.l/\(y.fst=0->y.snd=x.qc)->gp y.fst (bP x.l) (ah x.n.id->jP (bP (x.to y.fst)) 256 y.snd fun w=>iq y fun s=>dL (bP x.l) x.lc (ag (bC (bP x.l) x.lc/\az (aC x.n.id/\u y w s)))) (∃t:Nat,az (aC x.n.id/\v y t))
def Ic(x:mR)(y:Nat×Nat):=Af x (ag (bP x.q=bP (x.to y.fst)/\x.qc=y.snd)) x.l (mS (x.to y.fst) x.q/\(y.fst<=bP x.l/\(y.fst=0->y.snd=x.qc))/\True)
def Ag(y x:mR)(z u v:Nat)(w:Prop):=pF y.n x.n y.p x.p (ag (bP (y.to z)=bP (x.to (bP x.l))/\u=v)) (mS (x.to (bP x.l)) (y.to z)/\w)
theorem Uk:fnBody (Y Tryz.prog) [] 51 (M4 .nil) fun a=>[(51,[Y9 .nil a],[])]:=fnBody.of (p :=
 ∀x:mR,Ib x (fun y=>Ic x y) (fun y z u=>Ia x y u z) fun y z=>Ag x x y.fst y.snd z ((bP x.l=0->z=x.qc)/\True)) (by kernel_rfl) (by
 delta aD pF Ed aK ah bq bW ay aC gH eO aF af bK kT dY cz bD aX aB dO aV kS bS cV ou dN Km gp bP bT bC lC jP bH iq mS dL gh aS aA Ia ag aY Ib jd Ic Ag bx az bu dZ dQ dK Af jG
 try dsimp -iota -proj only
 intro a ⟨h1,h2⟩;have e0:a.to 0=a.q:=by unfold mR.to Kl;simp
 have h0:(0:Nat)=0->a.qc=a.qc:=fun _=>rfl;refine⟨⟨(0,a.qc),?_⟩,fun⟨i,c⟩ ⟨hi,hc⟩=>⟨fun c1=>?_,fun c1=>⟨c,?_⟩⟩⟩
 ·dsimp only;rw[e0]
  and_intros<;>first|exact cm|exact h0|(intro h_;revert h_)|exact cn|skip
 ·dsimp only at *;have hi:i<a.l.length:=by have:=of_decide_eq_true c1;omega
  have hl:=Uj a i;have hs:=Oz hi;have hz:0+(i:Int).toNat=i:=by omega
  rw[hz];refine⟨by omega,hi,fun _=>⟨by omega,by omega,by omega,fun cap _ _ _=>⟨by simp only[bQ];omega,(i+1,cap),?_⟩⟩⟩;dsimp only;rw[hs];have hp:aj ((a.to i)++[{ gl a.l i with l9:=a.n.id }]).length 21 (aZ (aa eE (a.to i)) 0 (a.to i).length fun i_1 j=>aM 21 (eE { gl a.l i with l9:=a.n.id }) (0+i_1) j) (aa eE ((a.to i)++[{ gl a.l i with l9:=a.n.id }])):=.push rfl (by simp) rfl;have h1:i+1=0->cap=a.qc:=fun e=>by omega
  and_intros<;>first|exact cm|exact hp|exact by simp|exact h1|(intro h_;revert h_)|exact cn|skip
 ·dsimp only at *;have hi:i=a.l.length:=by have:=of_decide_eq_false c1;omega
  subst hi
  and_intros<;>first|exact cm|exact hc|(intro h_;revert h_)|exact cn|skip)
theorem Ul:fnBody (Y Tryz.prog) [] 51 (M4 (.ptr 9 0 0 0)) fun a=>[(51,[Y9 (.ptr 9 0 0 0) a],[])]:=fnBody.of (p :=
 ∀x:mR,Ib x (fun y=>ag (Ic x y)) (fun y z u=>ag (Ia x y u z)) fun y z=>ag (Ag x x y.fst y.snd z ((bP x.l=0->z=x.qc)/\True))) (by kernel_rfl) (by
 delta aD pF Ed aK ah bq bW ay aC gH eO aF af bK kT dY cz bD aX aB dO aV kS bS cV ou dN Km gp bP bT bC lC jP bH iq mS dL gh aS aA Ia ag aY Ib jd Ic Ag bx az bu dZ dQ dK Af jG
 try dsimp -iota -proj only
 intro a ⟨h1,h2⟩;have e0:a.to 0=a.q:=by unfold mR.to Kl;simp
 have h0:(0:Nat)=0->a.qc=a.qc:=fun _=>rfl;refine⟨⟨(0,a.qc),?_⟩,fun⟨i,c⟩ ⟨hi,hc⟩=>⟨fun c1=>?_,fun c1=>⟨c,?_⟩⟩⟩
 ·dsimp only;rw[e0]
  and_intros<;>first|exact cm|exact h0|(intro h_;revert h_)|exact cn|skip
 ·dsimp only at *;have hi:i<a.l.length:=by have:=of_decide_eq_true c1;omega
  have hl:=Uj a i;have hs:=Oz hi;have hz:0+(i:Int).toNat=i:=by omega
  rw[hz];refine⟨by omega,hi,fun _=>⟨by omega,by omega,by omega,fun cap _ _ _=>⟨by simp only[bQ];omega,(i+1,cap),?_⟩⟩⟩;dsimp only;rw[hs];have hp:aj ((a.to i)++[{ gl a.l i with l9:=a.n.id }]).length 21 (aZ (aa eE (a.to i)) 0 (a.to i).length fun i_1 j=>aM 21 (eE { gl a.l i with l9:=a.n.id }) (0+i_1) j) (aa eE ((a.to i)++[{ gl a.l i with l9:=a.n.id }])):=.push rfl (by simp) rfl;have h1:i+1=0->cap=a.qc:=fun e=>by omega
  and_intros<;>first|exact cm|exact hp|exact by simp|exact h1|(intro h_;revert h_)|exact cn|skip
 ·dsimp only at *;have hi:i=a.l.length:=by have:=of_decide_eq_false c1;omega
  subst hi
  and_intros<;>first|exact cm|exact hc|(intro h_;revert h_)|exact cn|skip)
theorem Um:ak (Y Tryz.prog).G.X 51 (M4 .nil):=aU fF Uk trivial
theorem Kn:ak (Y Tryz.prog).G.X 51 (M4 (.ptr 9 0 0 0)):=aU fF Ul trivial
def Y2(P:Program):Gx:=⟨⟨⟨P,Tab.T,false,false⟩,AA P (53::Tab.ids),(53,[0,2,5,12,23])::Tab.I⟩,(53,[])::Tab.R⟩
theorem ZP:(AA Tryz.prog (53::Tab.ids)).all (Xe ((53,[])::Tab.R))=true:=by kernel_rfl
theorem Za:(Y2 Tryz.prog).Ok:=Gf (dp:=true) Zz mixed (uh _ _) ZP
noncomputable def Un:cC where
 α:=Unit
 β:=Unit
 m:=0
 m':=0
 pre:=fun _=>True
 args:=fun _=>[.a .nil]
 hp:=fun _=>[]
 ro:=fun _=>[]
 post:=fun _ _=>True
 res:=fun _ _=>.a .bV
 cW:=fun _ _=>[]
theorem Uo:fnBody (Y2 Tryz.prog) [] 53 Un fun _=>[]:=fnBody.of (p :=
 aI (Exists (ax (True/\True)))) (by kernel_rfl) (by
 delta aI ax
 exact fun _ _=>⟨(),trivial,trivial⟩)
theorem Up:ak (Y Tryz.prog).G.X 53 Un:=aU Za Uo trivial
def U2:List Fw:=[]
def tn(n:cG):pG:=⟨1,n.id,0,n.s.k.m.aQ,n.now,n.s.k.m.ready,0,0,0,tj,0,false,fU,0⟩
structure Ie where
 n:cG
 p:iy
noncomputable def Ig:cC where
 α:=Ie
 β:=Nat
 m:=14
 m':=17
 pre:=fun a=>a.n.ws=[]
 args:=fun _=>[.a (.ptr 0 0 0 0)]
 hp:=fun a=>[(0,Eo .nil 7 1 3 5 6 a.n a.p)]
 ro:=fun a=>[(1,U1 2 a.n.le),(2,Ui a.n.now),(7,Zq 8 9 10 a.n.s.bO),(10,.obj 155 (.ptr 11 0 0 0::Da a.n.s.k.m))]
 post:=fun _ _=>True
 res:=fun _ c=>.agg [.slc 14 0 21 1 c,.slc 15 0 6 0 0]
 cW:=fun a _=>[(14,.arr 45 M3 1 (aa eE [tn a.n])),(0,Eo .nil 7 1 3 16 6 { a.n with ws:=U2 } { a.p with wc:=0 }),(16,.arr 125 MZ U2.length (aa jW U2))]
def We:An:=.flat 5 Nat (fun s i=>s.int 3 (1+(i:Int))) (fun _ i=>i<=5) (fun _ i=>5-i)
def u6(x:cG)(y:Prop):=ag (cF x.le.aQ x.le.end_ (aC x.le.top) (aC x.now/\y))
def Ah(x:mR)(z:Nat->Prop):=(bP x.l<1000/\bP x.q<1000)/\∀y:Nat,(bP x.l=0->y=x.qc)->z y
def Ih(x:mR)(y z:Int)(u:cG)(v w t f:Int)(g:ByteArray)(h:Nat->Prop):=bP x.q=0/\aK (bP x.l) 1 21 (aM 21 (Ed .i64 y 0 z (dO u.s.k.m.aQ) v w 0 (bq t (bq f (dZ g 0 (kS gd (bH cR) (dZ cR 0 (kS gd gh (kS gh gh (bq 0 (bD gh))))))))))) (aa eE x.l)/\Ah x fun i=>h i
def iz(x y:cG)(z:Prop):=az (x.id=y.id/\z)
theorem M5:fnBody (Y2 Tryz.prog) [(51,M4 .nil),(53,Un)] 15 Ig fun _=>[(15,[We],[])]:=fnBody.of (p :=
 ∀y:Ie,y.n.ws=[]->ah y.n.now->∃x:mR,ag (ag (1=bP x.l/\1=x.lc)/\iz y.n x.n (pF y.n x.n y.p x.p (0=bP x.q/\0=x.qc) (Ih x 1 0 y.n y.n.now y.n.s.k.m.ready 0 0 cR fun v=>(∃u:Nat,(1:Int)=1+af u/\bT (az (az (aC x.n.id/\Af x (bC (bP (x.to (bP x.l))) v) (x.to (bP x.l)) (u6 y.n (az (eo (aC y.n.s.bO) (z6 y.n.s.k.m (u<=5/\True)))))))))/\∀u:Nat,u<=5->aD (cM ((1:Int)+af u) 5) (Du (Value.map none) (Exists (ax (cS (∃z:mR,ag ((0=bP z.l/\0=z.lc)/\iz x.n z.n (pF x.n z.n x.p z.p (ag (bP (x.to (bP x.l))=bP z.q/\v=z.qc)) (mS z.q (x.to (bP x.l))/\bP z.l=0/\Ah z fun t=>ah ((1:Int)+af u+(1:Int))/\∃w:Nat,(1:Int)+af u+(1:Int)=1+af w/\bT (az (iz z.n x.n (Ag z x (bP z.l) t v (u6 y.n (az (eo (aC y.n.s.bO) (z6 y.n.s.k.m (bF w 5 u))))))))))))))) False) (mz 0 x.n.ws.length False (∃z:Nat,dP (bP (x.to (bP x.l))) 1 v z (ag (0=0)) 21 (aa eE (x.to (bP x.l))) (aa eE [tn y.n]) (iz x.n y.n (ag (jd (0=U2.length/\0=0) x.n.rs y.n x.p.rc y.p x.n.asked (ag (True/\True))))))))))) (by kernel_rfl) (by
 delta aD pF Ed aK cF ah bq bW aC aF af bK cR kT cz bD aX aB dO kS eo bS cV ou dN aI bP bT bC bH dP bF mS gh ax cM gd ag aY jd u6 z6 Ih Ag mz az dZ dK Du cS Af Ah iz
 try dsimp -iota -proj only
 rintro⟨n,p⟩ h0 _;have h0:n.ws=[]:=h0;have hr:aj 1 21 (aM 21 (eE ⟨1,0,0,n.s.k.m.aQ,n.now,n.s.k.m.ready,0,0,0,tj,0,false,fU,0⟩)) (aa eE [⟨1,0,0,n.s.k.m.aQ,n.now,n.s.k.m.ready,0,0,0,tj,0,false,fU,0⟩]):=.dR fun i hi=>by
  have:i=0:=by omega
  subst this;rfl
 have k0:(0:Nat)<1000:=by omega
 have k1:(1:Nat)<1000:=by omega
 refine⟨mR.mk n p [] 0 [⟨1,0,0,n.s.k.m.aQ,n.now,n.s.k.m.ready,0,0,0,tj,0,false,fU,0⟩] 1,?_⟩
 and_intros<;>first|exact cm|exact hr|exact k1|exact k0|(intro h_;revert h_)|exact cn|skip
 intro b _;refine⟨⟨0,?_⟩,fun i hi=>⟨fun c1=>⟨none,rfl,fun _=>⟨(),trivial,fun _ _=>⟨mR.mk n p [tn n] b [] 0,?_⟩⟩,fun c=>absurd rfl c⟩,fun c1=>⟨fun c2=>?_,fun c2=>⟨b,?_⟩⟩⟩⟩
 ·and_intros<;>first|exact cm|(intro h_;revert h_)|exact cn|skip
 ·have c1:=of_decide_eq_true c1;have e1:((mR.mk n p [] 0 [⟨1,0,0,n.s.k.m.aQ,n.now,n.s.k.m.ready,0,0,0,tj,0,false,fU,0⟩] 1).to 1)=[tn n]:=rfl;have e2:((mR.mk n p [tn n] b [] 0).to 0)=[tn n]:=rfl
  and_intros<;>first|exact cm|exact k1|exact k0|(intro h_;revert h_)|exact cn|skip
  intro b2 hb2;have hb2:b2=b:=hb2 rfl;subst hb2;refine⟨by simp only[bQ];omega,i+1,?_⟩
  and_intros<;>first|exact cm|(intro h_;revert h_)|exact cn|skip
 ·exfalso;have c2:=of_decide_eq_true c2;have c2:(0:Int)<(n.ws.length:Nat):=c2;rw[h0]at c2;exact absurd c2 (by decide)
 ·and_intros<;>first|exact cm|(intro h_;revert h_)|exact cn|skip)
theorem M6:ak (Y Tryz.prog).G.X 15 Ig:=aU Za M5 ⟨Um,Up,trivial⟩
end Go.Proofs.YtfjgoonelcaggaaGreat
namespace Go.Proofs.YtfjgoonelcaggaaGreat.Rg
open Go.Sx
def N3(a b:Int):Int:=dA .xor .u64 a b
def QZ(a:Int):Int:=uw .u64 a
def SZ(x:Int):Int:=QZ (N3 x (x/1073741824)*13787848793156543929)
def S0(x:Int):Int:=QZ (N3 x (x/134217728)*10723151780598845931)
def S1(x:Int):Int:=N3 x (x/2147483648)
def qi(x:Int):Int:=S1 (S0 (SZ x))
noncomputable def AL:cC where
 α:=Int
 β:=Unit
 m:=0
 m':=0
 pre:=fun _=>True
 args:=fun a=>[.a (.int .u64 a)]
 hp:=fun _=>[]
 ro:=fun _=>[]
 post:=fun _ _=>True
 res:=fun a _=>.a (.int .u64 (qi a))
 cW:=fun _ _=>[]
theorem CP:fnBody (Y Tryz.prog) [] 120 AL fun _=>[]:=fnBody.of (p :=
 ∀x:Int,G8 x (Rg.qi x)) (by kernel_rfl) (by
 delta S2 bL cQ ax mA G8 bl
 intro a _;exact⟨by decide,by decide,by decide,(),rfl,trivial,trivial⟩)
theorem yc:ak (Y Tryz.prog).G.X 120 AL:=aU fF CP trivial
def lV(h:Int)(b:ByteArray):Nat->Int
 |0=>h
 |i+1=>QZ (qi (N3 (lV h b i) ((b.data.getD i 0).toNat:Int))+1)
def S3(h:Int)(b:ByteArray):Int:=qi (N3 (lV h b b.size) (QZ (256+QZ b.size)))
def fC(g:Nat->ByteArray):Nat->Int
 |0=>11400714819323198485
 |i+1=>S3 (fC g i) (g i)
structure PK where
 g:Nat->ByteArray
 n:Nat
 cap:Nat
noncomputable def uQ:cC where
 α:=PK
 β:=Unit
 m:=1
 m':=1
 pre:=fun a=>a.n<100000/\∀i,i<a.n->(a.g i).size<=aq
 args:=fun a=>[.a (.slc 0 0 1 a.n a.cap)]
 hp:=fun _=>[]
 ro:=fun a=>[(0,.arr 9 [.str] a.n (fun i _=>.string (a.g i)))]
 post:=fun _ _=>True
 res:=fun a _=>.a (.int .u64 (fC a.g a.n))
 cW:=fun _ _=>[]
def Xv(a:PK)(i:Nat):An:=.flat 6 Nat (fun s j=>(s.int 15 j).set 3 (.a (.int .u64 (lV (fC a.g i) (a.g i) j)))) (fun _ j=>j<=(a.g i).size) (fun _ j=>(a.g i).size-j)
def Xw(a:PK):An:=.mk 3 Nat (fun s i=>(s.int 9 i).set 3 (.a (.int .u64 (fC a.g i)))) (fun _ i=>i<=a.n) (fun _ i=>a.n-i) (fun i=>.mk 60 [Xv a i] [])
theorem zz:fnBody (Y Tryz.prog) [(120,AL)] 66 uQ fun a=>[(66,[Xw a],[])]:=fnBody.of (p :=
 ∀x:Rg.PK,(x.n<100000/\∀s:Nat,s<x.n->bp (x.g s)<=aq)->(∃y:Nat,(11400714819323198485:Int)=Rg.fC x.g y/\aA y (zy x.n x.cap (fun z=>x.g z) (y<=x.n/\True)))/\∀y:Nat,fO y x.n ((∃z:Nat,Rg.fC x.g y=Rg.lV (Rg.fC x.g y) (x.g y) z/\aA z (zx (x.g (0+ay y)) y x.n x.cap (fun t=>x.g t) (z<=bp (x.g y)/\True)))/\∀z:Nat,z<=bp (x.g y)->mz (af z) (bp (x.g (0+ay y))) (∃v:Int,mA (Rg.lV (Rg.fC x.g y) (x.g y) z) (af ((x.g (0+ay y)).data.getD (ay z) (0:UInt8)).toNat)=v/\cS (aS z/\∃u:Nat,cQ (Rg.qi v+(1:Int))=Rg.lV (Rg.fC x.g y) (x.g y) u/\bx z u/\zx (x.g (0+ay y)) y x.n x.cap (fun w=>x.g w) (bF u (bp (x.g y)) z))) (∃v:Int,mA (Rg.lV (Rg.fC x.g y) (x.g y) z) (cQ ((256:Int)+cQ (af (bp (x.g (0+ay y))))))=v/\cS (aS y/\∃u:Nat,Rg.qi v=Rg.fC x.g u/\bx y u/\zy x.n x.cap (fun w=>x.g w) (bF u x.n y)))) (bL (Rg.fC x.g y=Rg.fC x.g x.n))) (by kernel_rfl) (by
 delta aD aK cF ah bW ay aC eO aF af bK aX aB aV dN aI gp bp bC bL bH bF dL zx cQ ax aS oG aA aW ag aY mA bx mz fO bl bu zy dQ cS
 try dsimp -iota -proj only
 intro a h;obtain⟨hn,hs⟩:=h;simp only[Nat.zero_add,Int.toNat_natCast];refine⟨⟨0,by and_intros<;>(first|exact trivial|rfl|omega|assumption|exact aj.refl _ _ _|(simp only[bQ];omega)|(simp;done)|(simp;omega)|grind)⟩,fun i hi=>⟨fun h1=>?_,fun h1=>?_⟩⟩
 ·have hi':i<a.n:=by simpa using h1
  have hsz:=hs i hi';refine⟨by omega,hi',⟨0,by and_intros<;>(first|exact trivial|rfl|omega|assumption|exact aj.refl _ _ _|(simp only[bQ];omega)|(simp;done)|(simp;omega)|grind)⟩,fun j hj=>⟨fun h2=>?_,fun h2=>?_⟩⟩
  ·have hj':j<(a.g i).size:=by simpa using h2
   refine⟨by omega,_,rfl,trivial,fun _ _=>⟨by simp only[bQ,aq]at *;omega,j+1,?_⟩⟩
   and_intros<;>(first|exact trivial|rfl|omega|assumption|exact aj.refl _ _ _|(simp only[bQ];omega)|(simp;done)|(simp;omega)|grind)
  ·have hj' : j = (a.g i).size := by have : ¬ j < (a.g i).size := by simpa using h2
                                     omega
   subst hj';refine⟨_,rfl,trivial,fun _ _=>⟨by simp only[bQ];omega,i+1,?_⟩⟩
   and_intros<;>(first|exact trivial|rfl|omega|assumption|exact aj.refl _ _ _|(simp only[bQ];omega)|(simp;done)|(simp;omega)|grind)
 ·have hi' : i = a.n := by have : ¬ i < a.n := by simpa using h1
                           omega
  subst hi';exact⟨(),rfl,trivial,trivial⟩)
theorem vz:ak (Y Tryz.prog).G.X 66 uQ:=aU fF zz ⟨yc,trivial⟩
def xC(n i:Int):Int:=qi (QZ (n*1000003+i))
noncomputable def M7:cC where
 α:=Int×Int
 β:=Unit
 m:=0
 m':=0
 pre:=fun a=>0<=a.1/\a.1<=100/\0<=a.2/\a.2<=100
 args:=fun a=>[.a (.int .i64 a.1),.a (.int .i64 a.2)]
 hp:=fun _=>[]
 ro:=fun _=>[]
 post:=fun _ _=>True
 res:=fun a _=>.a (.int .u64 (xC a.1 a.2))
 cW:=fun _ _=>[]
theorem Qx:fnBody (Y Tryz.prog) [(120,AL)] 190 M7 fun _=>[]:=fnBody.of (p :=
 ∀x:Int×Int,(0:Int)<=x.fst/\x.fst<=(100:Int)/\dX x.snd 100->nB (x.fst*(1000003:Int)) x.snd (∃y:Int,cQ (x.fst*(1000003:Int)+x.snd)=y/\cS (bL (Rg.qi y=Rg.xC x.fst x.snd)))) (by kernel_rfl) (by
 delta ah dX aI bL cQ ax nB bl cS
 intro a h;obtain⟨h1,h2,h3,h4⟩:=h;simp only[bQ];exact⟨by omega,by omega,_,rfl,trivial,fun _ _=>⟨(),rfl,trivial,trivial⟩⟩)
theorem Qy:ak (Y Tryz.prog).G.X 190 M7:=aU fF Qx ⟨yc,trivial⟩
end Go.Proofs.YtfjgoonelcaggaaGreat.Rg
namespace Go.Proofs
open Go.Shelf
def Tryz.M8:Go.Shelf.Ren:=⟨fun|6=>191|15=>189|14=>226|28=>224|29=>225|20=>245|21=>246|22=>247|23=>248|24=>249|25=>250|26=>251|27=>252|46=>263|47=>240|48=>241|49=>264|50=>265|57=>278|n=>n,fun|22=>159|24=>208|25=>286|3=>3|39=>108|0=>0|53=>299|55=>64|4=>4|46=>316|45=>315|50=>321|5=>5|9=>9|66=>336|70=>340|76=>354|77=>248|n=>n,fun|n=>n⟩
theorem Tryz.XR:Go.Proofs.SlLaysF0.n6 Tryz.prog Tryz.M8:={
 mixed:=by kernel_rfl
 f6:=⟨Tryz.f191.name,by decide,Tryz.func191.trans (congrArg some (by kernel_rfl))⟩
 f14:=⟨Tryz.f226.name,by decide,Tryz.func226.trans (congrArg some (by kernel_rfl))⟩
 f15:=Tryz.func189.trans (congrArg some (by kernel_rfl))
 f20:=⟨Tryz.f245.name,by decide,Tryz.func245.trans (congrArg some (by kernel_rfl))⟩
 f21:=⟨Tryz.f246.name,by decide,Tryz.func246.trans (congrArg some (by kernel_rfl))⟩
 f22:=⟨Tryz.f247.name,by decide,Tryz.func247.trans (congrArg some (by kernel_rfl))⟩
 f23:=⟨Tryz.f248.name,by decide,Tryz.func248.trans (congrArg some (by kernel_rfl))⟩
 f24:=⟨Tryz.f249.name,by decide,Tryz.func249.trans (congrArg some (by kernel_rfl))⟩
 f25:=⟨Tryz.f250.name,by decide,Tryz.func250.trans (congrArg some (by kernel_rfl))⟩
 f26:=⟨Tryz.f251.name,by decide,Tryz.func251.trans (congrArg some (by kernel_rfl))⟩
 f27:=⟨Tryz.f252.name,by decide,Tryz.func252.trans (congrArg some (by kernel_rfl))⟩
 f28:=Tryz.func224.trans (congrArg some (by kernel_rfl))
 f29:=Tryz.func225.trans (congrArg some (by kernel_rfl))
 f46:=⟨Tryz.f263.name,by decide,Tryz.func263.trans (congrArg some (by kernel_rfl))⟩
 f47:=Tryz.func240.trans (congrArg some (by kernel_rfl))
 f48:=Tryz.func241.trans (congrArg some (by kernel_rfl))
 f49:=⟨Tryz.f264.name,by decide,Tryz.func264.trans (congrArg some (by kernel_rfl))⟩
 f50:=⟨Tryz.f265.name,by decide,Tryz.func265.trans (congrArg some (by kernel_rfl))⟩
 f57:=⟨Tryz.f278.name,by decide,Tryz.func278.trans (congrArg some (by kernel_rfl))⟩
 t0:=Tryz.underlying0
 a0:=Tryz.isAgg0
 z0:=Tryz.sizeOf0
 v0:=Tryz.zeroValue0
 t3:=Tryz.underlying3
 a3:=Tryz.isAgg3
 z3:=Tryz.sizeOf3
 v3:=Tryz.zeroValue3
 t4:=Tryz.underlying4
 a4:=Tryz.isAgg4
 z4:=Tryz.sizeOf4
 v4:=Tryz.zeroValue4
 t5:=Tryz.underlying5
 a5:=Tryz.isAgg5
 z5:=Tryz.sizeOf5
 v5:=Tryz.zeroValue5
 t9:=Tryz.underlying9
 a9:=Tryz.isAgg9
 z9:=Tryz.sizeOf9
 v9:=Tryz.zeroValue9
 t22:=Tryz.underlying159
 a22:=Tryz.isAgg159
 z22:=Tryz.sizeOf159
 v22:=Tryz.zeroValue159
 t25:=Tryz.underlying286
 a25:=Tryz.isAgg286
 z25:=Tryz.sizeOf286
 v25:=Tryz.zeroValue286
 t39:=Tryz.underlying108
 a39:=Tryz.isAgg108
 z39:=Tryz.sizeOf108
 v39:=Tryz.zeroValue108
 t45:=Tryz.underlying315
 a45:=Tryz.isAgg315
 z45:=Tryz.sizeOf315
 v45:=Tryz.zeroValue315
 t46:=Tryz.underlying316
 a46:=Tryz.isAgg316
 z46:=Tryz.sizeOf316
 v46:=Tryz.zeroValue316
 t50:=Tryz.underlying321
 a50:=Tryz.isAgg321
 z50:=Tryz.sizeOf321
 v50:=Tryz.zeroValue321
 t53:=Tryz.underlying299
 a53:=Tryz.isAgg299
 z53:=Tryz.sizeOf299
 v53:=Tryz.zeroValue299
 t55:=Tryz.underlying64
 a55:=Tryz.isAgg64
 z55:=Tryz.sizeOf64
 v55:=Tryz.zeroValue64
 t66:=Tryz.underlying336
 a66:=Tryz.isAgg336
 z66:=Tryz.sizeOf336
 v66:=Tryz.zeroValue336
 t70:=Tryz.underlying340
 a70:=Tryz.isAgg340
 z70:=Tryz.sizeOf340
 v70:=Tryz.zeroValue340
 t76:=Tryz.underlying354
 a76:=Tryz.isAgg354
 z76:=Tryz.sizeOf354
 v76:=Tryz.zeroValue354
 t77:=Tryz.underlying248
 a77:=Tryz.isAgg248
 z77:=Tryz.sizeOf248
 v77:=Tryz.zeroValue248 }
end Go.Proofs
namespace Go.Proofs.YtfjgoonelcaggaaGreat.Rg
open Go.Shelf Go.RowKit Go.Lib Go.Sort
def kU(x:Int×Int):List Value:=[.int .u64 x.1,.int .i64 x.2]
def mT(x y:Int×Int):Bool:=decide (x.1<y.1)||(decide (x.1=y.1)&&decide (x.2<y.2))
def qy(x y:Int×Int):Int:=if mT x y then -1 else if mT y x then 1 else 0
theorem Ko(x y:Int×Int)(W:World):Calls Tryz.prog 192 #[.agg #[.int .u64 x.1,.int .i64 x.2],.agg #[.int .u64 y.1,.int .i64 y.2]] W fun e w'=>e = .returned (.int .i64 (qy x y))/\∃q os',w'=grow (W.drewN q) os':=by
 go_enter Tryz.func192,Tryz.ntmps192
 go_wp2
 all_goals go_ret
 all_goals first
  |exact⟨by rw[show qy x y = -1 by grind [qy,mT]];rfl,0,_,by rw[alloc_eq_grow,alloc_eq_grow,alloc_eq_grow,alloc_eq_grow,alloc_eq_grow,alloc_eq_grow,grow_grow,grow_grow,grow_grow,grow_grow,grow_grow];rfl⟩
  |exact⟨by rw[show qy x y = -1 by grind [qy,mT]];rfl,0,_,by rw[alloc_eq_grow,alloc_eq_grow,alloc_eq_grow,alloc_eq_grow,grow_grow,grow_grow,grow_grow];rfl⟩
  |exact⟨by rw[show qy x y=1 by grind [qy,mT]];rfl,0,_,by rw[alloc_eq_grow,alloc_eq_grow,alloc_eq_grow,alloc_eq_grow,alloc_eq_grow,alloc_eq_grow,grow_grow,grow_grow,grow_grow,grow_grow,grow_grow];rfl⟩
  |exact⟨by rw[show qy x y=1 by grind [qy,mT]];rfl,0,_,by rw[alloc_eq_grow,alloc_eq_grow,alloc_eq_grow,alloc_eq_grow,grow_grow,grow_grow,grow_grow];rfl⟩
  |exact⟨by rw[show qy x y=0 by grind [qy,mT]];rfl,0,_,by rw[alloc_eq_grow,alloc_eq_grow,alloc_eq_grow,alloc_eq_grow,alloc_eq_grow,alloc_eq_grow,grow_grow,grow_grow,grow_grow,grow_grow,grow_grow];rfl⟩
  |exact⟨by rw[show qy x y=0 by grind [qy,mT]];rfl,0,_,by rw[alloc_eq_grow,alloc_eq_grow,alloc_eq_grow,alloc_eq_grow,grow_grow,grow_grow,grow_grow];rfl⟩
theorem Zb(blk off size:Nat)(w:World):CmpLays Tryz.prog 192 #[] kU 2 qy blk off size w:=fun _ _ _ _ x y=>Ko x y _
theorem Wg(x y:Int×Int):ltOf qy x y=mT x y:=by unfold ltOf;grind [qy,mT]
theorem Zc:SWO (ltOf qy) where
 irrefl x:=by rw[Wg];simp[mT]
 trans x y z h1 h2:=by
  rw[Wg]at *;simp only[mT,Bool.or_eq_true,Bool.and_eq_true,decide_eq_true_eq]at *;omega
 ntrans x y z h1 h2:=by
  rw[Wg]at *;simp only[mT,Bool.or_eq_false_iff,Bool.and_eq_false_iff,decide_eq_false_iff_not]at *;omega
theorem Zd(x y:Int×Int)(h1:ltOf qy x y=false)(h2:ltOf qy y x=false):x=y:=by
 rw[Wg]at h1 h2;cases x;cases y;simp only[mT,Bool.or_eq_false_iff,Bool.and_eq_false_iff,decide_eq_false_iff_not]at h1 h2;simp only[Prod.mk.injEq];omega
theorem XS(blk off cap:Nat)(d:Array (Int×Int))(w:World)(hH:HoldsK kU 2 w blk off d)(hblk:blk<w.heap.size)(hsz:d.size<4611686018427387904) :
 Calls Tryz.prog 191 #[.slice (some ⟨blk,off,none⟩) d.size cap,.func (.func 192) #[] #[]] w fun e w' =>
  e = .returned (.tuple #[])/\∃n os,w'=sortWorldK kU 2 w blk off n (d.toList.mergeSort fun x y=>!(ltOf qy) y x).toArray os :=
 AnyQ.slices_SortFunc_total Tryz.XR 2 Tryz.isAgg208 Tryz.sizeOf208 kU (fun _=>rfl) (fun x v hv=>by simp[kU]at hv;rcases hv with rfl|rfl<;>rfl) qy Zc 192 #[] blk off cap d w
  (enters_of Tryz.func192 (by kernel_rfl) rfl) (Zb _ _ _ _) hH hblk hsz Zd
end Go.Proofs.YtfjgoonelcaggaaGreat.Rg
namespace Go.Sx
section
open Go.Sort Go.Proofs
def DB{β:Type}[Inhabited β](ty:TypeId)(ks:List CK)(enc:β->List Value)(g:Nat)(srt:List β->List β):cC where
 α:=Om β
 β:=Unit
 m:=1
 m':=1
 pre:=fun a=>a.l.length<100000/\1<=a.l.length
 args:=fun a=>[.a (.slc 0 0 ks.length a.l.length a.cap),.a (.fn g)]
 hp:=fun a=>[(0,.arr ty ks a.l.length (aa enc a.l))]
 ro:=fun _=>[]
 post:=fun _ _=>True
 res:=fun _ _=>.mm []
 cW:=fun a _=>[(0,.arr ty ks a.l.length (aa enc (srt a.l)))]
theorem FB{l:List Value}{j:Nat}(h:j<l.length):l[j]! = l.getD j undef:=by
 rw[getElem!_pos l j h];simp[List.getD,h]
theorem Qz{β:Type}[Inhabited β]{X:Cx}{f g:Nat}{ty:TypeId}{ks:List CK}{enc:β->List Value}{srt:List β->List β}(hk:∀x,(enc x).length=ks.length)(hk0:0<ks.length)
 (hlen:∀l,(srt l).length=l.length) (hin:∀l x,x∈srt l->x∈l)
 (hcall:∀(blk off cap:Nat) (d:Array β) (w:World),HoldsK enc ks.length w blk off d->blk<w.heap.size->d.size<4611686018427387904 ->
  Calls X.P f #[.slice (some ⟨blk,off,none⟩) d.size cap,.func (.func g) #[] #[]] w fun e w'=>e = .returned (.tuple #[])/\∃n os,w'=sortWorldK enc ks.length w blk off n (srt d.toList).toArray os) :
 lM X (DB ty ks enc g srt) f:=by
 intro a hpre M ρ w vs hn hh hargs;obtain⟨l,cap⟩:=a;obtain⟨hp1,hp2⟩:=hpre;obtain⟨v,vs',rfl,hv,v2,vs2,rfl,hv2,rfl⟩:=hargs;have hv2':v2 = .func (.func g) #[] #[]:=hv2;subst hv2';obtain⟨hT,hlc,hcm,hv⟩:=hv;have he:=hh.gJ ⟨0,true,.arr ty ks l.length (aa enc l)⟩ (by simp[vp,DB]);have hsat:=he.ch;simp only at hsat hlc hcm hv hT hp1 hp2;rcases hsat with⟨h0,_⟩ | ⟨vs0,ty',fr,hb,h1,h2,h3,h4,h5⟩
 ·omega
 have hlt:(ρ.pl 0).blk<w.heap.size:=he.lt _ ((h4 _).2 rfl);rcases hv with⟨g1,_,_⟩ | ⟨o,rfl,ho⟩
 ·omega
 obtain⟨rfl,_⟩:=ho (by omega);simp only[Nat.zero_mul,Nat.add_zero]at *;have hcell:∀t,t<l.length*ks.length->vs0[(ρ.pl 0).off+t]? = some ((enc (gl l (t/ks.length))).getD (t%ks.length) undef):=by
  intro t ht;have hm:t%ks.length<ks.length:=Nat.mod_lt _ hk0;have hi:t/ks.length<l.length:=Nat.div_lt_of_lt_mul (by rw[Nat.mul_comm];exact ht);obtain⟨q,_⟩:=h5 (t/ks.length) hi (t%ks.length) (ks[t%ks.length]) (List.getElem?_eq_getElem hm);have e:(ρ.pl 0).off+t/ks.length*ks.length+t%ks.length=(ρ.pl 0).off+t:=by
   have:=Nat.div_add_mod t ks.length;rw[Nat.mul_comm]at this;omega
  rw[e]at q;exact q
 have hsz0:(ρ.pl 0).off+l.length*ks.length<=vs0.size:=Nat.le_trans (Nat.add_le_add_left (Nat.mul_le_mul_right _ h2) _) h1;have hnk:l.length*ks.length<=(ρ.pl 0).N*ks.length:=Nat.mul_le_mul_right _ h2;have hHolds:HoldsK enc ks.length w (ρ.pl 0).blk (ρ.pl 0).off l.toArray:=by
  intro t ht;have ht':t<l.length*ks.length:=by simpa using ht
  have hm:t%ks.length<ks.length:=Nat.mod_lt _ hk0;have hi:t/ks.length<l.length:=Nat.div_lt_of_lt_mul (by rw[Nat.mul_comm];exact ht');refine⟨?_,?_⟩
  ·simp only[World.cell?,hb];rw[hcell t ht',get_flatK _ _ _ t (by simpa using ht')];have e:(l.toArray)[t/ks.length]! = gl l (t/ks.length):=by rw[getElem!_pos _ _ (by simpa using hi),bR hi];simp
   rw[e,FB (by rw[hk];exact hm)];rfl
  ·simp only[World.frozen?,hb];have:=h3 ((ρ.pl 0).off+t) (by omega) (by omega);obtain⟨lo,hi⟩:=fr;simpa using this
 have hcalls:=hcall (ρ.pl 0).blk (ρ.pl 0).off cap l.toArray w hHolds hlt (by simp;omega);simp only[List.size_toArray]at hcalls;refine hcalls.mono ?_;rintro e w' ⟨rfl,n,os,rfl⟩;refine⟨_,rfl,(),ρ,trivial,hn,fun _ _=>rfl,⟨[],rfl,rfl⟩,?_⟩;obtain⟨F,hF⟩:∃F,F=flatK enc ks.length (srt l).toArray:=⟨_,rfl⟩
 have hFs:F.size=l.length*ks.length:=by rw[hF];simp[hlen]
 have hw:sortWorldK enc ks.length w (ρ.pl 0).blk (ρ.pl 0).off n (srt l).toArray os=grow (putRow id (Sort.ahead w n) (ρ.pl 0).blk (ρ.pl 0).off F) os:=by rw[hF];rfl
 rw[hw];have hheap:∀b,b<w.heap.size->(grow (putRow id (Sort.ahead w n) (ρ.pl 0).blk (ρ.pl 0).off F) os).heap[b]? = (w.heap.modify (ρ.pl 0).blk (onCells (putCells id (ρ.pl 0).off F)))[b]?:=by
  intro b hb';rw[heap_grow_old _ _ (by simpa using hb')];rfl
 have hblk:(grow (putRow id (Sort.ahead w n) (ρ.pl 0).blk (ρ.pl 0).off F) os).heap[(ρ.pl 0).blk]? = some (.cells (putCells id (ρ.pl 0).off F vs0) ty' fr):=by
  rw[hheap _ hlt,Array.getElem?_modify,if_pos rfl,hb];rfl
 have hoth:∀b,b<w.heap.size->b≠(ρ.pl 0).blk->(grow (putRow id (Sort.ahead w n) (ρ.pl 0).blk (ρ.pl 0).off F) os).heap[b]? = w.heap[b]?:=by
  intro b hb' hne;rw[hheap b hb',Array.getElem?_modify,if_neg (fun h=>hne h.symm)]
 refine⟨⟨rfl,rfl,rfl,?_,fun b hb' hm=>?_,fun ad had=>?_⟩,?_,?_⟩
 ·simp
 ·exact hoth b hb' fun e=>hm (he.own rfl b ((h4 b).2 e) hb')
 ·rw[frozen?_grow _ _ _ (by simpa using had),frozen?_putRow,frozen?_ahead]
 ·intro e' he';have:e'=⟨0,true,.arr ty ks l.length (aa enc (srt l))⟩:=by simpa[vp,DB]using he'
  subst this;refine⟨he.tag,?_,fun b hb'=>?_,he.own⟩
  ·refine .inr ⟨_,ty',fr,hblk,?_,h2,?_,h4,fun i hi j kk hj=>?_⟩
   ·simpa[putCells]using h1
   ·simpa using h3
   ·have hjl:j<ks.length:=(List.getElem?_eq_some_iff.1 hj).1;have hi':i<(srt l).length:=by rw[hlen];exact hi
    have hmem:gl (srt l) i∈l:=hin l _ (Gi hi');have ht:i*ks.length+j<l.length*ks.length:=by
     have:=Nat.mul_le_mul_right ks.length hi;rw[Nat.succ_mul]at this;omega
    have d1:(i*ks.length+j)/ks.length=i:=by
     rw[Nat.mul_comm,Nat.mul_add_div hk0,Nat.div_eq_of_lt hjl,Nat.add_zero]
    have d2:(i*ks.length+j)%ks.length=j:=by
     rw[Nat.mul_comm,Nat.mul_add_mod,Nat.mod_eq_of_lt hjl]
    refine⟨?_,?_⟩
    ·have hc:=hcell (i*ks.length+j) ht;rw[<- Nat.add_assoc]at hc;simp only[putCells,Array.getElem?_mapIdx,hc,Option.map_some,hFs];rw[if_pos ⟨by omega,by omega⟩,show(ρ.pl 0).off+i*ks.length+j-(ρ.pl 0).off=i*ks.length+j by omega];rw[hF,get_flatK _ _ _ _ (by simpa[hlen]using ht),d1,d2];have e:((srt l).toArray)[i]! = gl (srt l) i:=by rw[getElem!_pos _ _ (by simpa using hi'),bR hi'];simp
     rw[e,FB (by rw[hk];exact hjl)];rfl
    ·obtain⟨i0,hi0,e0⟩:=List.getElem_of_mem hmem;obtain⟨_,g2⟩:=h5 i0 hi0 j kk hj;unfold aa at g2 ⊢;rw[<- e0,<- bR hi0];exact g2
  ·have:=he.lt b hb';simp;omega
 ·simp[vp,DB]
end
end Go.Sx
namespace Go.Proofs.YtfjgoonelcaggaaGreat.Rg
open Go.Sx
def encI(p:Int):List Value:=[.int .i64 p]
def yx(l:List Int)(i:Nat):Bool:=decide (1<=gl l i)&&decide (gl l i<=5)&&(decide (i=0)||decide (gl l (i-1)<gl l i))
def qK(l:List Int):Nat->Bool
 |0=>true
 |i+1=>qK l i&&yx l i
def jK(l:List Int):Bool:=qK l l.length&&decide (0<l.length)
theorem Kp{l:List Int}:∀ {i j:Nat},qK l i=true->j<i->yx l j=true
 |i+1,j,h,hj=>by
  simp only[qK,Bool.and_eq_true]at h;by_cases e:j=i
  ·subst e;exact h.2
  ·exact Kp h.1 (by omega)
theorem AX{l:List Int}{j:Nat}(h:yx l j=false):∀ {i:Nat},j<i->qK l i=false
 |i+1,hj=>by
  simp only[qK,Bool.and_eq_false_iff];by_cases e:j=i
  ·subst e;exact .inr h
  ·exact .inl (AX h (by omega))
theorem Bz{l:List Int}(h:jK l=true){j:Nat}(hj:j<l.length):1<=gl l j/\gl l j<=5/\(j=0\/gl l (j-1)<gl l j):=by
 simp only[jK,Bool.and_eq_true]at h;have:=Kp h.1 hj;simpa[yx,and_assoc]using this
theorem Kq{l:List Int}(h:jK l=true):0<l.length:=by
 simp only[jK,Bool.and_eq_true,decide_eq_true_eq]at h;exact h.2
theorem DC{l:List Int}(h:jK l=true):∀j,j<l.length->(j:Int)+1<=gl l j
 |0,hj=>by have:=Bz h hj;omega
 |j+1,hj=>by
  have h1:=DC h j (by omega);have h2:=Bz h hj;simp at h2;omega
theorem yy{l:List Int}(h:jK l=true):l.length<=5:=by
 have h0:=Kq h;have h1:=DC h (l.length-1) (by omega);have h2:=Bz h (show l.length-1<l.length by omega);omega
structure lu where
 l:List Int
 cap:Nat
noncomputable def yZ:cC where
 α:=lu
 β:=Unit
 m:=1
 m':=1
 pre:=fun a=>a.l.length<100000
 args:=fun a=>[.a (.slc 0 0 1 a.l.length a.cap)]
 hp:=fun _=>[]
 ro:=fun a=>[(0,.arr 3 [.int .i64] a.l.length (aa encI a.l))]
 post:=fun _ _=>True
 res:=fun a _=>.a (.bool (jK a.l))
 cW:=fun _ _=>[]
def ZQ(k slot:Nat)(a:lu):An:=.flat k Nat (fun s i=>s.int slot i) (fun _ i=>i<=a.l.length/\qK a.l i=true) (fun _ i=>a.l.length-i)
def _root_.Ii(x:Rg.lu)(y:Prop):=dL (av x.l) x.cap (bT (bC (av x.l) x.cap/\cq x.l x.l Rg.encI/\y))
theorem Gt:fnBody (Y Tryz.prog) [] 56 yZ fun a=>[(56,[ZQ 2 7 a],[])]:=fnBody.of (p :=
 ∀x:Rg.lu,av x.l<100000->(∃y:Nat,aA y (Ii x ((y<=av x.l/\aB (Rg.qK x.l y))/\True)))/\∀y:Nat,y<=av x.l/\aB (Rg.qK x.l y)->gp y (av x.l) (z1 (gl x.l (0+ay y)) 1 (Exists (eZ (Rg.jK x.l))) 5 (aY 0 y (ah (dW y)/\nF (dW y) (av x.l) (ah (gl x.l (0+aV (dW y)))->aD (cM (gl x.l (0+ay y)) (gl x.l (0+aV (dW y)))) (Exists (eZ (Rg.jK x.l))) (cO y fun z=>Ii x (dY z (av x.l) (aB (Rg.qK x.l z)) y)))) (cO y fun u=>Ii x (dY u (av x.l) (aB (Rg.qK x.l u)) y)))) (bL (aF 0 (af (av x.l))=Rg.jK x.l))) (by kernel_rfl) (by
 delta aD av aK ah bW ay aC eO aF af bK dY aX aB aV fR cq iY gp bT bC bL cO dL ax aS aA cM ag eZ aY z1 bx nF bl bu Ii dQ dW lp
 try dsimp -iota -proj only
 intro a h;simp only[Nat.zero_add,Int.toNat_natCast,bQ];refine⟨⟨0,?_⟩,fun i ⟨i1,i2⟩=>⟨fun c1=>?_,fun c1=>⟨(),?_,trivial,trivial⟩⟩⟩
 ·and_intros<;>first|rfl|trivial|exact Nat.le_refl _|omega|(dsimp only;omega)|exact aj.refl _ _ _
 ·simp only[decide_eq_true_eq]at c1;have hi:i<a.l.length:=by omega
  have hpre:((i:Int)-1).toNat=i-1:=by omega
  rw[hpre];have bad:yx a.l i=false->false=jK a.l:=fun e=>by unfold jK;rw[AX e hi];rfl
  have good:yx a.l i=true->qK a.l (i+1)=true:=fun e=>by simp only[qK,i2,e,Bool.and_self]
  repeat' (first|intro _|apply And.intro|apply Exists.intro (i+1:Nat)|apply Exists.intro ())
  all_goals(try with_reducible rfl)
  all_goals(try exact trivial)
  all_goals(try simp only[decide_eq_true_eq,decide_eq_false_iff_not]at *)
  all_goals(try omega)
  all_goals(try exact aj.refl _ _ _)
  all_goals first
   |exact bad (by simp only[yx,Bool.and_eq_false_iff,Bool.or_eq_false_iff,decide_eq_false_iff_not];omega)
   |exact good (by simp only[yx,Bool.and_eq_true,Bool.or_eq_true,decide_eq_true_eq];omega)
 ·simp only[decide_eq_false_iff_not]at c1;have e:i=a.l.length:=by omega
  subst e;unfold jK;rw[i2];simp)
theorem pq:ak (Y Tryz.prog).G.X 56 yZ:=aU fF Gt trivial
def Ij:List CK:=[.int .u64,.int .i64]
def tT(n:Int)(k:Nat):List (Int×Int):=(List.range k).map fun j:Nat=>(xC n (j:Int),n)
def fJ(l:List Int):List (Int×Int):=l.flatMap fun n=>tT n 8
def yz(l:List (Int×Int)):List (Int×Int):=l.mergeSort fun x y=>!(Go.Proofs.ltOf qy) y x
def mU(l:List Int):List (Int×Int):=if jK l then yz (fJ l)else[]
noncomputable def Ik:cC:=DB 208 Ij kU 192 yz
theorem Uq(blk off cap:Nat)(d:Array (Int×Int))(w:World)(hH:Go.Sort.HoldsK kU Ij.length w blk off d)(hblk:blk<w.heap.size)(hsz:d.size<4611686018427387904) :
 Calls Tryz.prog 191 #[.slice (some ⟨blk,off,none⟩) d.size cap,.func (.func 192) #[] #[]] w fun e w' =>
  e = .returned (.tuple #[])/\∃n os,w'=Go.Proofs.sortWorldK kU Ij.length w blk off n (yz d.toList).toArray os:=XS blk off cap d w hH hblk hsz
theorem yA(l:List (Int×Int)):(yz l).length=l.length:=List.length_mergeSort _
theorem DD(l:List (Int×Int)):(yz l).Perm l:=List.mergeSort_perm _ _
theorem QA:lM (Y Tryz.prog).G.X Ik 191 :=
 Qz (ks:=Ij) (enc:=kU) (g:=192) (srt:=yz) (fun _=>rfl) (by decide) yA (fun l x hx=>(DD l).mem_iff.1 hx) Uq
theorem M9:ak (Y Tryz.prog).G.X 191 Ik:=fun _ _ _ h=>vr QA h
noncomputable def Na:cC where
 α:=lu
 β:=Nat
 m:=1
 m':=2
 pre:=fun a=>a.l.length<100000
 args:=fun a=>[.a (.slc 0 0 1 a.l.length a.cap)]
 hp:=fun _=>[]
 ro:=fun a=>[(0,.arr 3 [.int .i64] a.l.length (aa encI a.l))]
 post:=fun _ _=>True
 res:=fun a cap=>.a (.slc 1 0 2 (mU a.l).length cap)
 cW:=fun a _=>[(1,.arr 208 Ij (mU a.l).length (aa kU (mU a.l)))]
def Ze(a:lu)(i:Nat):An:=.flat 8 (Nat×Nat) (fun s x=>((s.at_ (s.tg 3) (.arr 208 Ij (fJ (a.l.take i)++tT (gl a.l i) x.1).length (aa kU (fJ (a.l.take i)++tT (gl a.l i) x.1)))).set 3 (.a (.slc (s.tg 3) 0 2 (fJ (a.l.take i)++tT (gl a.l i) x.1).length x.2))).int 16 x.1)
 (fun _ x=>x.1<=8) (fun _ x=>8-x.1)
def ZR(a:lu):An:=.mk 5 (Nat×Nat) (fun s x=>((s.new (.arr 208 Ij (fJ (a.l.take x.1)).length (aa kU (fJ (a.l.take x.1))))).set 3 (.a (.slc s.nx 0 2 (fJ (a.l.take x.1)).length x.2))).int 12 x.1)
 (fun _ x=>x.1<=a.l.length) (fun _ x=>a.l.length-x.1) fun x=>.mk 60 [Ze a x.1] []
theorem QB(n:Int)(k:Nat):tT n (k+1)=tT n k++[(xC n k,n)]:=by
 unfold tT;rw[List.range_succ,List.map_append];rfl
theorem AY(n:Int)(k:Nat):(tT n k).length=k:=by simp[tT]
theorem Kr{l:List Int}{i:Nat}(h:i<l.length):fJ (l.take (i+1))=fJ (l.take i)++tT (gl l i) 8:=by
 unfold fJ;rw[gv h,List.flatMap_append];simp
theorem nV:∀l:List Int,(fJ l).length=8*l.length
 |[]=>rfl
 |a::l=>by
  have:=nV l;unfold fJ at *;rw[List.flatMap_cons,List.length_append,AY,this,List.length_cons];omega
def _root_.oS(x:Nat×Nat)(y:Rg.lu):List (Int×Int):=Rg.fJ (List.take x.fst y.l)
def _root_.nN(x:Nat×Nat)(y:Rg.lu)(z:Nat×Nat):List (Int×Int):=oS x y++Rg.tT (gl y.l x.fst) z.fst
def _root_.cw(x:List (Int×Int)):Nat:=x.length
def _root_.rz(y:List Int)(z:Nat)(u:Rg.lu->Prop):Rg.lu->Prop:=fun(x:Rg.lu)=>lT y x.l z x.cap Rg.encI (av x.l<100000) (u x)
def _root_.DF(y x:Rg.lu)(z u:Prop):=bK (bn (Rg.jK y.l)) (bC (av x.l) x.cap/\z/\cq x.l x.l Rg.encI/\u)
def _root_.Il(x y z:List (Int×Int)):=aK (cw x) (cw y) 2 (aa Rg.kU z) (aa Rg.kU x)
theorem QC:fnBody (Y Tryz.prog) [(56,yZ),(190,M7),(191,Ik)] 152 Na fun a=>[(152,[ZR a],[])]:=fnBody.of (p :=
 ∀x:Rg.lu,av x.l<100000->Exists (rz x.l x.cap fun w=>aI (aD (bn (Rg.jK w.l)) (y6 (cw (Rg.mU x.l))) ((∃y:Nat×Nat,aA y.fst ((0=cw (oS y x)/\0=y.snd)/\dL (av x.l) x.cap (DF w x (cw (oS y x)=0) (y.fst<=av x.l/\True))))/\∀y:Nat×Nat,fO y.fst (av x.l) (ah (gl x.l (0+ay y.fst))->(∃z:Nat×Nat,aA z.fst (ag (cw (oS y x)=cw (nN y x z)/\y.snd=z.snd)/\aC (gl x.l (0+ay y.fst))/\oG y.fst (av x.l) (bC (av x.l) x.cap) (DF w x (Il (nN y x z) (oS y x) (oS y x)) (z.fst<=8/\True))))/\∀z:Nat×Nat,z.fst<=8->aD (aF (af z.fst) 8) (∃u:Int×Int,gl x.l (0+ay y.fst)=u.fst/\af z.fst=u.snd/\((0:Int)<=u.fst/\u.fst<=(100:Int)/\dX u.snd 100)/\aI (jP (cw (nN y x z)) 16 z.snd fun t=>iq z fun s=>ag (cw (nN y x z)+1=cw (nN y x s)/\t=s.snd)/\aC (gl x.l (0+ay y.fst))/\oG y.fst (av x.l) (bC (av x.l) x.cap) (DF w x (lC (cw (nN y x s)) (cw (nN y x z)) 2 (aa Rg.kU (nN y x z)) (bS (Value.int .u64 (Rg.xC u.fst u.snd)) (bq (gl x.l (0+ay y.fst)) [])) (aa Rg.kU (nN y x s))) (bF s.fst 8 z.fst)))) (iq y fun u=>ag (cw (nN y x z)=cw (oS u x)/\z.snd=u.snd)/\dL (av x.l) x.cap (DF w x (Il (oS u x) (nN y x z) (nN y x z)) (bF u.fst (av x.l) y.fst)))) (∃(v:Om (Int×Int)),ir (cw (oS y x)) (cw v.l) y.snd v.cap 2 (aa Rg.kU (oS y x)) (aa Rg.kU v.l) (cw v.l<100000 /\
 1<=cw v.l) (aI (∃z:Nat,ag (cw (oS y x)=cw (Rg.mU x.l)/\y.snd=z)/\bl (Il (Rg.mU x.l) v.l (Rg.yz v.l))))))))) (by kernel_rfl) (by
 delta aD av aK cF ah bq bW ay aC gH eO aF af bK dX aX aB dO aV bS cq aI gp bC lC jP bF iq dL nN lT cw aS ir oG aA ag aY cN oS bx fO rz bn bl bu DF dQ y6 Il jG
 try dsimp -iota -proj only
 intro a h;refine⟨⟨a.l,a.cap⟩,?_⟩
 and_intros<;>first|rfl|trivial|exact Nat.le_refl _|omega|(dsimp only;omega)|exact aj.refl _ _ _|skip
 refine fun _ _=>⟨fun c0=>⟨0,?_⟩,fun c0=>?_⟩
 ·have e:mU a.l=[]:=if_neg (by simpa using c0);rw[e]
  and_intros<;>first|rfl|trivial|exact Nat.le_refl _|omega|(dsimp only;omega)|exact aj.refl _ _ _
 have hm:jK a.l=true:=by simpa using c0
 have hl:=yy hm;have hl0:=Kq hm;have e:mU a.l=yz (fJ a.l):=if_pos hm;simp only[Nat.zero_add,Int.toNat_natCast,bQ];refine⟨⟨(0,0),?_⟩,fun x hx=>⟨fun c1=>?_,fun c1=>?_⟩⟩
 ·have e0:fJ (a.l.take 0)=[]:=rfl;dsimp only;rw[e0]
  and_intros<;>first|rfl|trivial|exact Nat.le_refl _|omega|(dsimp only;omega)|exact aj.refl _ _ _
 ·obtain⟨i,cap⟩:=x;dsimp only at c1 hx ⊢;simp only[decide_eq_true_eq]at c1;have hi:i<a.l.length:=by omega
  have hb:=Bz hm hi;have hr:=nV (a.l.take i);rw[List.length_take]at hr;refine⟨by omega,by omega,fun _=>⟨⟨(0,cap),?_⟩,fun y hy=>⟨fun c2=>?_,fun c2=>?_⟩⟩⟩
  ·have e0:fJ (a.l.take i)++tT (gl a.l i) 0=fJ (a.l.take i):=List.append_nil _;dsimp only;rw[e0]
   and_intros<;>first|rfl|trivial|exact Nat.le_refl _|omega|(dsimp only;omega)|exact aj.refl _ _ _
  ·obtain⟨k,c⟩:=y;dsimp only at c2 hy ⊢;simp only[decide_eq_true_eq]at c2;have hk:k<8:=by omega
   have hn:(fJ (a.l.take i)++tT (gl a.l i) k).length=8*min i a.l.length+k:=by rw[List.length_append,AY,hr]
   have hs:fJ (a.l.take i)++tT (gl a.l i) (k+1)=(fJ (a.l.take i)++tT (gl a.l i) k)++[(xC (gl a.l i) k,gl a.l i)]:=by rw[QB,List.append_assoc]
   have hn1:((fJ (a.l.take i)++tT (gl a.l i) k)++[(xC (gl a.l i) k,gl a.l i)]).length=(fJ (a.l.take i)++tT (gl a.l i) k).length+1:=List.length_append;refine⟨(gl a.l i,(k:Int)),rfl,rfl,⟨by omega,by omega,by omega,by omega⟩,fun _ _=>⟨by omega,by omega,by omega,fun c3 _ _ _=>⟨by omega,⟨(k+1,c3),?_⟩⟩⟩⟩;dsimp only;rw[hs,hn1]
   and_intros<;>first|rfl|trivial|exact Nat.le_refl _|omega|(dsimp only;omega)|exact aj.refl _ _ _|exact .push rfl (by omega) rfl
  ·obtain⟨k,c⟩:=y;dsimp only at c2 hy ⊢;simp only[decide_eq_false_iff_not]at c2;have hk:k=8:=by omega
   subst hk;have hs:=Kr hi;refine⟨by omega,⟨(i+1,c),?_⟩⟩;dsimp only;rw[hs]
   and_intros<;>first|rfl|trivial|exact Nat.le_refl _|omega|(dsimp only;omega)|exact aj.refl _ _ _
 ·obtain⟨i,cap⟩:=x;dsimp only at c1 hx ⊢;simp only[decide_eq_false_iff_not]at c1;have hi:i=a.l.length:=by omega
  subst hi;have hr:=nV a.l;have hsl:=yA (fJ a.l);rw[List.take_length,e];refine⟨⟨fJ a.l,cap⟩,?_⟩
  and_intros<;>first|rfl|trivial|exact Nat.le_refl _|omega|(dsimp only;omega)|exact aj.refl _ _ _|skip
  refine fun _ _=>⟨cap,?_⟩
  and_intros<;>first|rfl|trivial|exact Nat.le_refl _|omega|(dsimp only;omega)|exact aj.refl _ _ _)
theorem QD:ak (Y Tryz.prog).G.X 152 Na:=aU fF QC ⟨pq,Qy,M9,trivial⟩
theorem Ur{n:Int}{k:Nat}{e:Int×Int}(h:e∈tT n k):e.2=n:=by
 obtain⟨j,_,rfl⟩:=List.mem_map.1 h;rfl
theorem Us{l:List Int}(h:jK l=true):mU l=yz (fJ l):=if_pos h
theorem DG{l:List Int}(h:jK l=true):(mU l).Perm (fJ l):=by rw[Us h];exact DD _
theorem Im{l:List Int}(h:jK l=true):(mU l).length=8*l.length:=by rw[(DG h).length_eq,nV]
theorem Ut{n:Int}(h1:1<=n)(h2:n<=5):jK [n]=true:=by simp[jK,qK,yx,gl,h1,h2]
def xD(L:List (Int×Int))(h:Int):Int:=match L.find? (fun e=>decide (h<=e.1))with|some e=>e.2|none=>(gl L 0).2
theorem QE{α:Type}{p:α->Bool}{L:List α}{k:Nat}{x:α}(h:(L.take k).find? p=some x):L.find? p=some x:=by
 rw[<- List.take_append_drop k L,List.find?_append,h];rfl
theorem Uu{L:List (Int×Int)}{h:Int}{i:Nat}(hi:i<L.length)(h1:(L.take i).find? (fun e=>decide (h<=e.1))=none)(h2:h<=(gl L i).1):xD L h=(gl L i).2:=by
 have:L.find? (fun e=>decide (h<=e.1))=some (gl L i):=by
  refine QE (k:=i+1) ?_;rw[gv hi,List.find?_append,h1];simp[h2]
 unfold xD;rw[this]
theorem QF{L:List (Int×Int)}{h:Int}(h1:L.find? (fun e=>decide (h<=e.1))=none):xD L h=(gl L 0).2:=by
 unfold xD;rw[h1]
theorem zA{L:List (Int×Int)}{h:Int}{i:Nat}(hi:i<L.length)(h1:(L.take i).find? (fun e=>decide (h<=e.1))=none)(h2:¬h<=(gl L i).1):(L.take (i+1)).find? (fun e=>decide (h<=e.1))=none:=by
 rw[gv hi,List.find?_append,h1];simp[h2]
structure fL where
 e:Int
 l:List Int
 c1:Nat
 L:List (Int×Int)
 c2:Nat
def Nb(a:fL):List (Nat×Chunk):=[(0,.obj 161 [.int .i64 a.e,.slc 1 0 1 a.l.length a.c1,.slc 2 0 2 a.L.length a.c2]),(1,.arr 3 [.int .i64] a.l.length (aa encI a.l)),(2,.arr 208 Ij a.L.length (aa kU a.L))]
structure DH where
 r:fL
 h:Int
noncomputable def Nc:cC where
 α:=DH
 β:=Unit
 m:=3
 m':=3
 pre:=fun a=>a.r.L.length<100000/\0<a.r.L.length
 args:=fun a=>[.a (.ptr 0 0 0 0),.a (.int .u64 a.h)]
 hp:=fun _=>[]
 ro:=fun a=>Nb a.r
 post:=fun _ _=>True
 res:=fun a _=>.a (.int .i64 (xD a.r.L a.h))
 cW:=fun _ _=>[]
def XT(a:DH):An:=.flat 4 Nat (fun s i=>s.int 14 i) (fun _ i=>i<=a.r.L.length/\(a.r.L.take i).find? (fun e=>decide (a.h<=e.1))=none) (fun _ i=>a.r.L.length-i)
def _root_.qs(y:List Int)(x:Rg.fL)(u:Nat)(z:List (Int×Int))(v:Nat)(w:Prop):=cN y x.l u x.c1/\dP (cw z) (cw x.L) v x.c2 (cq x.l y Rg.encI) 2 (aa Rg.kU z) (aa Rg.kU x.L) w
def _root_.pH(x y:Rg.fL)(z u:Prop):=x.e=y.e/\qs x.l y x.c1 x.L x.c2 (z/\u)
def _root_.Io(y:Nat)(x:Rg.DH):=y<=cw x.r.L/\List.find? (fun z=>cM x.h z.fst) (List.take y x.r.L)=none
theorem QG:fnBody (Y Tryz.prog) [] 78 Nc fun a=>[(78,[XT a],[])]:=fnBody.of (p :=
 ∀x:Rg.DH,cw x.r.L<100000/\0<cw x.r.L->(∃y:Nat,aA y (dL (cw x.r.L) x.r.c2 (kY (aC x.h/\pH x.r x.r (Io y x) True))))/\∀y:Nat,Io y x->gp y (cw x.r.L) (bQ .u64 (gl x.r.L (0+ay y)).fst->aD (cM x.h (gl x.r.L (0+ay y)).fst) (qX (gl x.r.L (0+ay y)).snd (Rg.xD x.r.L x.h)) (cO y fun z=>dL (cw x.r.L) x.r.c2 (kY (aC x.h/\pH x.r x.r (Io z x) (cw x.r.L-z<cw x.r.L-y))))) (eO 0 (cw x.r.L) 0 (qX (gl x.r.L 0).snd (Rg.xD x.r.L x.h)))) (by kernel_rfl) (by
 delta aD pH av aK ah bW ay aC eO aF af bK aX aB aV cq gp bT bC bL cO dP dL cw ax aS aA cM aW ag aY cN bx qX Io bl bu dQ qs kY
 try dsimp -iota -proj only
 rintro⟨⟨e,l,c1,L,c2⟩,h⟩ ⟨h1,h2⟩;dsimp only at h1 h2 ⊢;simp only[Nat.zero_add,Int.toNat_natCast,bQ];refine⟨⟨0,?_⟩,fun i ⟨i1,i2⟩=>⟨fun d1=>?_,fun d1=>?_⟩⟩
 ·(and_intros<;>first|exact vL|skip)
 ·simp only[decide_eq_true_eq]at d1;have hi:i<L.length:=by omega
  refine⟨by omega,hi,fun _=>⟨fun d2 _=>⟨(),?_,trivial,trivial⟩,fun d2=>⟨by omega,i+1,?_⟩⟩⟩
  ·simp only[decide_eq_true_eq]at d2;exact(Uu hi i2 d2).symm
  ·simp only[decide_eq_false_iff_not]at d2;have:=zA hi i2 d2
   (and_intros<;>first|exact vL|skip)
 ·simp only[decide_eq_false_iff_not]at d1;have hi:i=L.length:=by omega
  subst hi;rw[List.take_length]at i2;refine⟨by omega,h2,fun _=>⟨(),(QF i2).symm,trivial,trivial⟩⟩)
theorem QH:ak (Y Tryz.prog).G.X 78 Nc:=aU fF QG trivial
structure Ks where
 r:fL
 key:ByteArray
noncomputable def Wh:cC where
 α:=Ks
 β:=Unit
 m:=3
 m':=3
 pre:=fun a=>a.r.L.length<100000/\0<a.r.L.length/\a.key.size<=aq
 args:=fun a=>[.a (.ptr 0 0 0 0),.a (.str a.key)]
 hp:=fun _=>[]
 ro:=fun a=>Nb a.r
 post:=fun _ _=>True
 res:=fun a _=>.a (.int .i64 (xD a.r.L (fC (fun _=>a.key) 1)))
 cW:=fun _ _=>[]
def _root_.rA(x:Rg.Ks):Int:=Rg.xD x.r.L (Rg.fC (fun y=>x.key) 1)
def _root_.Ai(x:Rg.Ks):=cw x.r.L<100000/\0<cw x.r.L/\bp x.key<=aq
theorem Nd:fnBody (Y Tryz.prog) [(66,uQ),(78,Nc)] 44 Wh fun _=>[]:=fnBody.of (p :=
 ∀z:Rg.Ks,Ai z->∃y:Rg.PK,ir 1 y.n 1 y.cap 1 (aM 1 (bD (bH z.key))) (fun x u=>bH (y.g x)) (y.n<100000/\∀x:Nat,x<y.n->bp (y.g x)<=aq) (aI (∃x:Rg.DH,ag (Rg.fC y.g y.n=x.h/\pH z.r x.r (cw x.r.L<100000/\0<cw x.r.L) (aI (bL (Rg.xD x.r.L x.h=rA z))))))) (by kernel_rfl) (by
 delta pH av aK bD bS cq aI bp bL bH dP cw ax ir ag cN rA bl Ai qs
 try dsimp -iota -proj only
 rintro⟨⟨e,l,c1,L,c2⟩,key⟩ ⟨h1,h2,h3⟩;dsimp only at h1 h2 h3 ⊢;have hr:aj 1 1 (aM 1 [Go.Value.string key]) (fun(i x:Nat)=>Go.Value.string key):=.dR fun i hi=>by
  have:i=0:=by omega
  subst this;rfl
 refine⟨⟨fun _=>key,1,1⟩,?_⟩
 (and_intros<;>first|exact vL|skip)
 refine fun _ _=>⟨⟨⟨e,l,c1,L,c2⟩,fC (fun _=>key) 1⟩,?_⟩
 (and_intros<;>first|exact vL|skip)
 exact fun _ _=>⟨(),rfl,trivial,trivial⟩)
theorem DI:ak (Y Tryz.prog).G.X 44 Wh:=aU fF Nd ⟨vz,QH,trivial⟩
noncomputable def Nf:cC where
 α:=lu
 β:=Nat
 m:=1
 m':=2
 pre:=fun a=>a.l.length<100000
 args:=fun a=>[.a (.slc 0 0 1 a.l.length a.cap)]
 hp:=fun _=>[]
 ro:=fun a=>[(0,.arr 3 [.int .i64] a.l.length (aa encI a.l))]
 post:=fun _ _=>True
 res:=fun a cap=>.a (.slc 1 0 1 a.l.length cap)
 cW:=fun a _=>[(1,.arr 3 [.int .i64] a.l.length (aa encI a.l))]
theorem QI:fnBody (Y Tryz.prog) [] 151 Nf fun _=>[]:=fnBody.of (p :=
 ∀x:Rg.lu,av x.l<100000->zo x.l (y6 (av x.l)) (gH 0 (av x.l) 8 0 fun y=>∃z:Nat,ir (0+av x.l) (av x.l) y z 1 (uA (qW Rg.encI x.l)) (aa Rg.encI x.l) True True)) (by kernel_rfl) (by
 delta aD av aK gH aB ir ag bl mB qW y6 zo uA
 try dsimp -iota -proj only
 rintro⟨l,cap⟩ h;dsimp only at h ⊢;have hr:aj l.length 1 (aZ (aM 1 []) 0 0 fun(i j:Nat)=>aa encI l (0+i) j) (aa encI l):=by
  have:=aj.app (enc:=encI) (n:=l.length) (m:=1) (s:=0) (l:=[]) (q:=l) (r0:=aM 1 []) (r1:=fun(i j:Nat)=>aa encI l (0+i) j) (k:=0) rfl .zero (.of_eq (by funext i j;rw[Nat.zero_add]));simpa using this
 refine fun b hb=>⟨fun hc=>⟨0,?_⟩,fun _=>?_⟩
 ·have h0:=hb hc
  (and_intros<;>first|exact vL|skip)
 ·(and_intros<;>first|exact vL|skip)
  refine fun c _ _ _=>⟨c,?_⟩
  (and_intros<;>first|exact vL|skip))
theorem QJ:ak (Y Tryz.prog).G.X 151 Nf:=aU fF QI trivial
structure Wi where
 l:List Int
 cap:Nat
 n:Int
noncomputable def XU:cC where
 α:=Wi
 β:=Unit
 m:=1
 m':=1
 pre:=fun a=>a.l.length<100000
 args:=fun a=>[.a (.slc 0 0 1 a.l.length a.cap),.a (.int .i64 a.n)]
 hp:=fun _=>[]
 ro:=fun a=>[(0,.arr 3 [.int .i64] a.l.length (aa encI a.l))]
 post:=fun _ _=>True
 res:=fun a _=>.a (.bool (decide (a.n∈a.l)))
 cW:=fun _ _=>[]
def XV(a:Wi):An:=.flat 2 Nat (fun s i=>s.int 8 i) (fun _ i=>i<=a.l.length/\a.n∉a.l.take i) (fun _ i=>a.l.length-i)
theorem Ip:fnBody (Y Tryz.prog) [] 91 XU fun a=>[(138,[XV a],[])]:=fnBody.of (p :=
 ∀x:Rg.Wi,av x.l<100000->(∃y:Nat,aA y (uW (av x.l) x.cap (aC x.n/\cq x.l x.l Rg.encI/\(y<=av x.l/\¬x.n∈List.take y x.l)/\True)))/\∀y:Nat,y<=av x.l/\¬x.n∈List.take y x.l->gp y (av x.l) (ah (gl x.l (0+ay y))->aD (x.n == gl x.l (0+ay y)) (bL (cM 0 (af y)=decide (x.n∈x.l))) (cO y fun z=>uW (av x.l) x.cap (aC x.n/\cq x.l x.l Rg.encI/\dY z (av x.l) (¬x.n∈List.take z x.l) y))) (Exists (eZ (decide (x.n∈x.l))))) (by kernel_rfl) (by
 delta aD av aK cF ah bW ay aC eO aF af dY aX aB aV fR cq gp bC bL cO ax aS aA cM ag eZ aY bx bl uW dQ
 try dsimp -iota -proj only
 rintro⟨l,cap,n⟩ h;dsimp only at *;simp only[Nat.zero_add,Int.toNat_natCast,bQ];refine⟨⟨0,?_⟩,fun i ⟨i1,i2⟩=>⟨fun c1=>?_,fun c1=>⟨(),?_,trivial,trivial⟩⟩⟩
 ·and_intros<;>first|rfl|trivial|exact Nat.le_refl _|omega|(dsimp only;omega)|exact aj.refl _ _ _|simp
 ·simp only[decide_eq_true_eq]at c1;have hi:i<l.length:=by omega
  refine⟨by omega,hi,fun _=>⟨fun c2=>⟨(),?_,trivial,trivial⟩,fun c2=>⟨by omega,i+1,?_⟩⟩⟩
  ·simp only[beq_iff_eq]at c2;have:n∈l:=by rw[c2];exact Gi hi
   simp[this]
  ·simp only[beq_eq_false_iff_ne]at c2;have:n∉l.take (i+1):=by
    rw[gv hi,List.mem_append,List.mem_singleton];rintro(h|h)
    ·exact i2 h
    ·exact c2 h
   and_intros<;>first|rfl|trivial|exact Nat.le_refl _|omega|(dsimp only;omega)|exact aj.refl _ _ _|exact this
 ·simp only[decide_eq_false_iff_not]at c1;have e:i=l.length:=by omega
  subst e;rw[List.take_length]at i2;simp[i2])
theorem Iq:ak (Y Tryz.prog).G.X 91 XU:=aU fF Ip trivial
structure OA where
 r:fL
 n:Int
noncomputable def Uv:cC where
 α:=OA
 β:=Unit
 m:=3
 m':=3
 pre:=fun a=>a.r.l.length<100000
 args:=fun a=>[.a (.ptr 0 0 0 0),.a (.int .i64 a.n)]
 hp:=fun _=>[]
 ro:=fun a=>Nb a.r
 post:=fun _ _=>True
 res:=fun a _=>.a (.bool (decide (a.n∈a.r.l)))
 cW:=fun _ _=>[]
theorem Uw:fnBody (Y Tryz.prog) [(91,XU)] 50 Uv fun _=>[]:=fnBody.of (p :=
 ∀x:Rg.OA,av x.r.l<100000->∃y:Rg.Wi,cN x.r.l y.l x.r.c1 y.cap/\x.n=y.n/\cq y.l x.r.l Rg.encI/\av y.l<100000/\aI (bL (decide (y.n∈y.l)=decide (x.n∈x.r.l)))) (by kernel_rfl) (by
 delta av aK cq aI bL ax ag cN bl
 try dsimp -iota -proj only
 rintro⟨⟨e,l,c1,L,c2⟩,n⟩ h;dsimp only at h ⊢;refine⟨⟨l,c1,n⟩,?_⟩
 (and_intros<;>first|exact vL|skip)
 exact fun _ _=>⟨(),rfl,trivial,trivial⟩)
theorem Ux:ak (Y Tryz.prog).G.X 50 Uv:=aU fF Uw ⟨Iq,trivial⟩
def On(a e:Int×Int):Int×Int:=if a.2=0\/e.1<a.1\/e.1=a.1/\e.2<a.2 then e else a
end Go.Proofs.YtfjgoonelcaggaaGreat.Rg
namespace Go.Proofs.YtfjgoonelcaggaaGreat
open Go.Sx
structure Zr where
 g:Int
 n:Nat
 cap:Nat
 rows:Nat->Nat->Value
noncomputable def ZS:cC where
 α:=Zr
 β:=Unit
 m:=1
 m':=1
 pre:=fun a=>a.n<=1000/\∀i,i<a.n->0<=js (a.rows i 0)/\js (a.rows i 0)<=a.g
 args:=fun a=>[.a (.int .i64 a.g),.a (.slc 0 0 1 a.n a.cap)]
 hp:=fun _=>[]
 ro:=fun a=>[(0,.arr 2 [.int .i64] a.n a.rows)]
 post:=fun _ _=>True
 res:=fun _ _=>.a .tt
 cW:=fun _ _=>[]
def Z4(a:Zr):An:=.flat 2 Nat (fun s i=>s.int 9 i) (fun _ i=>i<=a.n) (fun _ i=>a.n-i)
theorem XW:fnBody (Y Tryz.prog) [] 95 ZS fun a=>[(95,[Z4 a],[])]:=fnBody.of (p :=
 ∀x:Zr,(x.n<=1000/\∀z:Nat,z<x.n->dX (js (x.rows z 0)) x.g)->(∃y:Nat,aA y (dL x.n x.cap (bT (aC x.g/\bC x.n x.cap/\dN x.n 1 x.rows/\y<=x.n/\True))))/\∀y:Nat,fO y x.n (z1 (js (x.rows (0+ay y) 0)) 0 (bL (aB false)) x.g (cO y fun u=>dL x.n x.cap (bT (aC x.g/\bC x.n x.cap/\dN x.n 1 x.rows/\bF u x.n y)))) (Exists (ax (bK true (True/\True))))) (by kernel_rfl) (by
 delta aD aK ah bW ay aC eO aF af bK dX aX aB aV dN iY gp bT bC bL cO bF dL ax aS aA ag aY z1 bx fO bl bu dQ lp
 try dsimp -iota -proj only
 rintro⟨g,n,cap,rows⟩ ⟨h1,h2⟩;dsimp only at h1 h2 ⊢;simp only[Nat.zero_add,Int.toNat_natCast,bQ];refine⟨⟨0,?_⟩,fun i hi=>⟨fun c1=>?_,fun _=>⟨(),trivial,trivial,trivial⟩⟩⟩
 ·(and_intros<;>first|exact vL|skip)
 ·simp only[decide_eq_true_eq]at c1;have hi:i<n:=by omega
  obtain⟨g1,g2⟩:=h2 i hi;refine⟨by omega,hi,fun _=>⟨fun g=>(by exfalso;simp only[decide_eq_true_eq]at g;omega),fun _=>⟨fun g=>(by exfalso;simp only[decide_eq_true_eq]at g;omega),fun _=>⟨by omega,i+1,?_⟩⟩⟩⟩
  (and_intros<;>first|exact vL|skip))
theorem XX:ak (Y Tryz.prog).G.X 95 ZS:=aU fF XW trivial
def Zf(m:pG)(mem:A):List A:=[.int .i64 m.kind,.int .i64 m.l9,.int .i64 m.to,.int .i64 m.aQ,.int .i64 m.tick,.int .i64 m.seq,.int .i64 m.n,.int .i64 m.id,.int .i64 m.op,.str m.key,.int .i64 m.err,.bool m.last,.str m.item.key,.str m.item.val,.int .i64 m.item.e,.bool m.item.gone,.bV,.bV,mem,.int .i64 m.base,.bV]
def FC(n:Int):Prop:=0<=n/\n<=1099511627776
structure AZ(m:pG):Prop where
 kind:1<=m.kind/\m.kind<=14
 ft:m.l9≠m.to
 l9:0<=m.l9/\m.l9<=5
 to:0<=m.to/\m.to<=5
 aQ:FC m.aQ
 tick:FC m.tick
 seq:FC m.seq
 id:FC m.id
 base:FC m.base
 n:0<=m.n/\m.n<=1073741824
 op:0<=m.op/\m.op<=2
 err:0<=m.err/\m.err<=10
 item:m.item=fU\/fV m.item=true
structure A0 where
 m:pG
 l:List Int
 cap:Nat
noncomputable def OB:cC where
 α:=A0
 β:=Unit
 m:=1
 m':=1
 pre:=fun a=>AZ a.m/\(a.l=[]\/Rg.jK a.l=true)
 args:=fun a=>[.agg (Zf a.m (.slc 0 0 1 a.l.length a.cap))]
 hp:=fun _=>[]
 ro:=fun a=>[(0,.arr 3 [.int .i64] a.l.length (aa Rg.encI a.l))]
 post:=fun _ _=>True
 res:=fun a _=>.a (.bool (decide (a.m.key.size<=40)))
 cW:=fun _ _=>[]
def Aj(u v:Int)(y:Nat)(w:Int)(s:List Value)(t:Prop):=ah u->∃x:Zr,v=x.g/\ir y x.n y x.cap 1 (aM 1 (bq w s)) x.rows (x.n<=1000/\∀z:Nat,z<x.n->dX (js (x.rows z 0)) x.g) (aI t)
def oT(x:A0):Bool:=decide (bp x.m.key<=40)
def Ng(x:A0):=aD (af (av x.l) == (0:Int)) (bL (true=oT x)) (Exists (rz x.l x.cap fun y=>aI (aD (Rg.jK y.l) (bL (true=oT x)) (Exists (eZ (oT x))))))
theorem Uy:fnBody (Y Tryz.prog) [(95,ZS),(96,yZ),(56,Rg.yZ)] 55 OB fun _=>[]:=fnBody.of (p :=
 ∀x:A0,AZ x.m/\(x.l=[]\/aB (Rg.jK x.l))->ko x.m.kind (aF x.m.kind 1) (Exists (eZ (oT x))) (zZ (aF 14 x.m.kind) (Exists (eZ (oT x))) x.m.l9 x.m.to (x.m.l9 == x.m.to) (ah x.m.l9->Aj x.m.to 5 2 x.m.l9 (bq x.m.to []) (ah x.m.aQ->ah x.m.tick->ah x.m.seq->ah x.m.id->Aj x.m.base 1099511627776 5 x.m.aQ (bq x.m.tick (bq x.m.seq (bq x.m.id (bq x.m.base [])))) (Aj x.m.n 1073741824 1 x.m.n [] (Aj x.m.op 2 1 x.m.op [] (aY 40 (bp x.m.key) (Exists (eZ (oT x))) (Aj x.m.err 10 1 x.m.err [] (aD (gP x.m.item.key cR&&(gP x.m.item.val cR&&(x.m.item.e == (0:Int)&&(x.m.item.gone == false&&true)))) (Ng x) (∃y:aG,qb x.m.item y (cS (aD (fV y) (Ng x) (Exists (eZ (oT x))))))))))))))) (by kernel_rfl) (by
 delta aD av aK ah bq aF af cR dX aB dO fR bS cq qb aI bp bL Aj lT zZ ax ir oT ag eZ aY cN Ng rz bl gP ko cS
 try dsimp -iota -proj only
 rintro⟨m,l,cap⟩ ⟨ok,hl⟩;obtain⟨⟨q0,q1⟩,ft,⟨f0,f1⟩,⟨t0,t1⟩,⟨e0,e1⟩,⟨i0,i1⟩,⟨s0,s1⟩,⟨d0,d1⟩,⟨b0,b1⟩,⟨n0,n1⟩,⟨p0,p1⟩,⟨r0,r1⟩,hit⟩:=ok;dsimp only at *;simp only[bQ,decide_eq_true_eq,decide_eq_false_iff_not,beq_iff_eq];refine fun _=>⟨fun c=>absurd c (by omega),fun _ _=>⟨fun c=>absurd c (by omega),fun _ _ _=>⟨fun c=>absurd c ft,fun _ _ _=>⟨⟨5,2,2,aM 1 [.int .i64 m.l9,.int .i64 m.to]⟩,?_⟩⟩⟩⟩
 (and_intros<;>first|exact vL|skip)
 ·intro i hi
  match i,(show i<2 from hi)with
  |0,_=>exact⟨f0,f1⟩
  |1,_=>exact⟨t0,t1⟩
 refine fun _ _ _ _ _ _ _=>⟨⟨1099511627776,5,5,aM 1 [.int .i64 m.aQ,.int .i64 m.tick,.int .i64 m.seq,.int .i64 m.id,.int .i64 m.base]⟩,?_⟩
 (and_intros<;>first|exact vL|skip)
 ·intro i hi
  match i,(show i<5 from hi)with
  |0,_=>exact⟨e0,e1⟩
  |1,_=>exact⟨i0,i1⟩
  |2,_=>exact⟨s0,s1⟩
  |3,_=>exact⟨d0,d1⟩
  |4,_=>exact⟨b0,b1⟩
 refine fun _ _ _=>⟨⟨1073741824,1,1,aM 1 [.int .i64 m.n]⟩,?_⟩
 (and_intros<;>first|exact vL|skip)
 ·intro i hi
  match i,(show i<1 from hi)with
  |0,_=>exact⟨n0,n1⟩
 refine fun _ _ _=>⟨⟨2,1,1,aM 1 [.int .i64 m.op]⟩,?_⟩
 (and_intros<;>first|exact vL|skip)
 ·intro i hi
  match i,(show i<1 from hi)with
  |0,_=>exact⟨p0,p1⟩
 refine fun _ _=>⟨fun c=>⟨(),(decide_eq_false (by omega)).symm,trivial,trivial⟩,fun c _=>⟨⟨10,1,1,aM 1 [.int .i64 m.err]⟩,?_⟩⟩
 have hy:true=decide (m.key.size<=40):=(decide_eq_true (by omega)).symm
 (and_intros<;>first|exact vL|skip)
 ·intro i hi
  match i,(show i<1 from hi)with
  |0,_=>exact⟨r0,r1⟩
 have hl1:l.length<100000:=by
  rcases hl with rfl|h
  ·decide
  ·have:=Rg.yy h;omega
 have hl2:¬(l.length:Int)=0->Rg.jK l=true:=fun h=>hl.resolve_left fun e=>h (by rw[e];rfl);refine fun _ _=>⟨fun _=>⟨fun _=>⟨(),hy,trivial,trivial⟩,fun e=>?_⟩,fun c=>⟨m.item,?_⟩⟩
 ·refine⟨⟨l,cap⟩,?_⟩
  (and_intros<;>first|exact vL|skip)
  exact fun _ _=>⟨fun _=>⟨(),hy,trivial,trivial⟩,fun g=>absurd (hl2 (by simpa using e)) (by simp[g])⟩
 ·have hne:m.item≠fU:=fun e=>by rw[e]at c;revert c;decide
  have hmay:=hit.resolve_left hne
  (and_intros<;>first|exact vL|skip)
  refine fun _ _=>⟨fun _=>⟨fun _=>⟨(),hy,trivial,trivial⟩,fun e=>?_⟩,fun g=>absurd hmay (by simp[g])⟩
  refine⟨⟨l,cap⟩,?_⟩
  (and_intros<;>first|exact vL|skip)
  exact fun _ _=>⟨fun _=>⟨(),hy,trivial,trivial⟩,fun g=>absurd (hl2 (by simpa using e)) (by simp[g])⟩)
theorem Kt:ak (Y Tryz.prog).G.X 55 OB:=aU fF Uy ⟨XX,pq,Rg.pq,trivial⟩
def Zg(w:nL):List A:=[.int .i64 w.node,.int .i64 w.id,.int .i64 w.op,.str w.key]
structure o6 where
 n:cG
 p:iy
 w:nL
 err:Int
 val:ByteArray
 has:Bool
def u7(w:nL)(err:Int)(val:ByteArray)(has:Bool):aG:=if w.op=1/\err=0 then⟨w.key,val,0,!has⟩else fU
def Ak(id:Int)(w:nL)(err:Int)(val:ByteArray)(has:Bool):List pG:=if w.node=0 then[]else[⟨14,id,w.node,0,0,0,0,w.id,0,tj,err,false,u7 w err val has,0⟩]
def Al(w:nL)(err:Int)(val:ByteArray)(has:Bool):List qx:=if w.node=0 then[⟨w.id,w.op,w.key,err,val,has⟩]else[]
noncomputable def OC:cC where
 α:=o6
 β:=Nat×Nat
 m:=10
 m':=12
 pre:=fun a=>a.w.key.size<=aq/\a.val.size<=aq
 args:=fun a=>[.a (.ptr 0 0 0 0),.agg (Zg a.w),.a (.int .i64 a.err),.a (.str a.val),.a (.bool a.has)]
 hp:=fun a=>[(0,Eo (.ptr 9 0 0 0) 7 1 3 5 6 a.n a.p)]
 ro:=fun _=>[]
 post:=fun _ _=>True
 res:=fun _ _=>.mm []
 cW:=fun a b=>[(0,Qs (.ptr 9 0 0 0) (.slc 10 0 21 (Ak a.n.id a.w a.err a.val a.has).length b.1) (.slc 11 0 6 (Al a.w a.err a.val a.has).length b.2) 7 1 3 5 6 a.n a.p),DA 10 (Ak a.n.id a.w a.err a.val a.has),Oy 11 (Al a.w a.err a.val a.has)]
def kO(a:o6):pG:=⟨14,0,a.w.node,0,0,0,0,a.w.id,0,tj,a.err,false,u7 a.w a.err a.val a.has,0⟩
def Zh(m:pG):List A:=Zf m .bV
def XY(a:o6):An:=.mk 6 Unit (fun s _=>s.at_ (s.tg 10) (.obj 45 (Zh (kO a)))) (fun _ _=>True) (fun _ _=>0) fun _=>.mk 60 [] []
def rW(x:nL)(y:Prop):=cF x.node x.id (aC x.op) (x.key=x.key/\y)
def DJ(y:Int)(x:pG)(z u v w s:Int)(t:ByteArray)(f:Int)(g h:ByteArray)(i:Prop):=y=x.kind/\z=x.l9/\u=x.to/\v=x.aQ/\w=x.tick/\(0:Int)=x.seq/\(0:Int)=x.n/\s=x.id/\(0:Int)=x.op/\t=x.key/\f=x.err/\fR x.last (g=x.item.key) (h=x.item.val/\(0:Int)=x.item.e/\i)
def lz(x y:cG)(z u:iy)(v w:Prop):=iz x y (ag (pF x y z u v w))
def rB(x:o6):List pG:=Ak x.n.id x.w x.err x.val x.has
def rC(x:o6):List qx:=Al x.w x.err x.val x.has
def tq(x:cG)(y:iy)(z u:Prop):=az (aC x.id/\ag (pF x x y y z u))
def Nh(x:o6)(y z:ByteArray)(u:Prop):Unit->Prop:=ax (ag (bK (x.w.node == (0:Int)) (az (rW x.w (aC x.err/\x.val=x.val/\bK x.has (DJ 14 (kO x) 0 x.w.node 0 0 x.w.id cR x.err y z u))))))
theorem Uz:fnBody (Y Tryz.prog) [(51,M4 (.ptr 9 0 0 0))] 54 OC fun a=>[(54,[],[XY a])]:=fnBody.of (p :=
 ∀x:o6,bp x.w.key<=aq/\bp x.val<=aq->ko x.w.node (x.w.node == (0:Int)) (ah x.w.id->ah x.w.op->1<=1/\64<=140737488355328/\∀z:Nat,1<=z->z<=aq->∃u:Nat×Nat,tq x.n x.p (0=bP (rB x)/\0=u.fst) (dP 1 (List.length (rC x)) z u.snd (bP (rB x)=0) 6 (jG 6 (bq x.w.id (bq x.w.op (dZ x.w.key x.err (bS (bH x.val) (bD (dK x.has))))))) (aa th (rC x)) (True/\True))) (ah x.w.id->(ah x.w.op->qu (x.w.op == (1:Int)) (x.err == (0:Int)) (Exists (Nh x x.w.key x.val (bn x.has=(kO x).item.gone/\(0:Int)=(kO x).base/\rW x.w (tq x.n x.p True True)))) (Exists (Nh x cR cR (fR (kO x).item.gone ((0:Int)=(kO x).base) (rW x.w (tq x.n x.p True True))))))/\aI (∃y:mR,ag (ag (1=bP y.l/\1=y.lc)/\lz x.n y.n x.p y.p (0=bP y.q/\0=y.qc) (bP y.q=0/\aK (bP y.l) 1 21 (aM 21 (Km (kO x) (kO x).l9)) (aa eE y.l)/\Ah y fun z=>∃v:Nat×Nat,lz y.n x.n y.p x.p (ag (bP (y.to (bP y.l))=bP (rB x)/\z=v.fst)) ((0=List.length (rC x)/\0=v.snd)/\mS (rB x) (y.to (bP y.l))/\bl (List.length (rC x)=0))))))) (by kernel_rfl) (by
 delta qu aD pF Ed aK cF ah bq bW aC bK cR kT cz bD aB dO kS fR bS cV ou Km aI rW bP bT bp bH dP mS gh DJ ax lz ag jd rB az rC bn bl dZ tq Nh dK ko jG Ah iz
 try dsimp -iota -proj only
 rintro⟨n,p,w,err,val,has⟩ ⟨h1,h2⟩ _;dsimp only at *;refine⟨fun c=>?_,fun c _ _=>⟨fun _=>⟨fun d=>⟨fun e=>⟨(),?_⟩,fun e=>⟨(),?_⟩⟩,fun d=>⟨(),?_⟩⟩,fun _ _=>?_⟩⟩
 ·have hw:w.node=0:=by simpa using c
  have e1:Ak n.id w err val has=[]:=if_pos hw;have e2:Al w err val has=[⟨w.id,w.op,w.key,err,val,has⟩]:=if_pos hw;rw[e1,e2];have hr:aj 1 6 (fun i j=>aM 6 (th ⟨w.id,w.op,w.key,err,val,has⟩) (0+i) j) (aa th [⟨w.id,w.op,w.key,err,val,has⟩]):=.dR fun i hi=>by
   have:i=0:=by omega
   subst this;rfl
  refine fun _ _=>⟨by omega,by omega,fun cap _ _=>⟨(0,cap),?_⟩⟩
  and_intros<;>first|exact cm|exact hr|(intro h_;revert h_)|exact cn|skip
 ·have e1:u7 w err val has=⟨w.key,val,0,!has⟩:=if_pos ⟨by simpa using d,by simpa using e⟩;simp only[kO,e1]
  and_intros<;>first|exact cm|(intro h_;revert h_)|exact cn|skip
 ·have e1:u7 w err val has=fU:=if_neg fun h=>by rw[h.2]at e;cases e
  simp only[kO,e1]
  and_intros<;>first|exact cm|(intro h_;revert h_)|exact cn|skip
 ·have e1:u7 w err val has=fU:=if_neg fun h=>by rw[h.1]at d;cases d
  simp only[kO,e1]
  and_intros<;>first|exact cm|(intro h_;revert h_)|exact cn|skip
 ·have hw:¬w.node=0:=by simpa using c
  have e1:Ak n.id w err val has=[{ kO ⟨n,p,w,err,val,has⟩with l9:=n.id }]:=if_neg hw;have e2:Al w err val has=[]:=if_neg hw;rw[e1,e2];generalize kO ⟨n,p,w,err,val,has⟩=m;have hr:aj 1 21 (aM 21 (eE m)) (aa eE [m]):=.dR fun i hi=>by
   have:i=0:=by omega
   subst this;rfl
  have k0:(0:Nat)<1000:=by omega
  have k1:(1:Nat)<1000:=by omega
  refine⟨mR.mk n p [] 0 [m] 1,?_⟩
  and_intros<;>first|exact cm|exact hr|exact k1|exact k0|(intro h_;revert h_)|exact cn|skip
  intro b _;refine⟨(b,0),?_⟩
  and_intros<;>first|exact cm|(intro h_;revert h_)|exact cn|skip)
theorem Ku:ak (Y Tryz.prog).G.X 54 OC:=aU fF Uz ⟨Kn,trivial⟩
def OD(a b c:Nat)(r:Rg.fL):List (Nat×Chunk):=[(a,.obj 161 [.int .i64 r.e,.slc b 0 1 r.l.length r.c1,.slc c 0 2 r.L.length r.c2]),(b,.arr 3 [.int .i64] r.l.length (aa Rg.encI r.l)),(c,.arr 208 Rg.Ij r.L.length (aa Rg.kU r.L))]
def u9(r:Rg.fL)(k:ByteArray):Int:=Rg.xD r.L (Rg.fC (fun _=>k) 1)
def wq(le:nM)(now ep:Int):Bool:=decide (0<ep)&&(decide (ep=le.aQ)&&decide (now<le.end_))
def eF(n:cG)(r:Rg.fL)(k:ByteArray):Bool:=decide (u9 r k=n.id)&&wq n.le n.now n.s.k.m.aQ
structure yB where
 n:cG
 p:iy
 r:Rg.fL
 key:ByteArray
noncomputable def Kv:cC where
 α:=yB
 β:=Unit
 m:=17
 m':=17
 pre:=fun a=>a.r.L.length<100000/\0<a.r.L.length/\a.key.size<=aq/\a.n.s.k.m.frozen=false
 args:=fun a=>[.a (.ptr 0 0 0 0),.a (.str a.key)]
 hp:=fun _=>[]
 ro:=fun a=>[(0,Eo (.ptr 14 0 0 0) 7 1 3 5 6 a.n a.p),(1,U1 2 a.n.le),(2,Ui a.n.now),(7,Zq 8 9 10 a.n.s.bO),(10,.obj 155 (.ptr 11 0 0 0::Da a.n.s.k.m))]++OD 14 15 16 a.r
 post:=fun _ _=>True
 res:=fun a _=>.a (.bool (eF a.n a.r a.key))
 cW:=fun _ _=>[]
def va(x:yB):=cw x.r.L<100000/\0<cw x.r.L/\bp x.key<=aq/\x.n.s.k.m.frozen=false
theorem UA:fnBody (Y Tryz.prog) [(44,Rg.Wh)] 19 Kv fun _=>[]:=fnBody.of (p :=
 ∀x:yB,va x->ah x.n.id->∃y:Rg.Ks,ag (x.key=y.key/\pH x.r y.r (Ai y) (aI (aD (rA y != x.n.id) (Exists (eZ (eF x.n x.r x.key))) (v7 (aF 0 x.n.s.k.m.aQ) x.n.le.aQ (x.n.s.k.m.aQ == x.n.le.aQ) (ah x.n.le.end_->ah x.n.now->aD (bn (aF x.n.now x.n.le.end_)) (Exists (eZ (eF x.n x.r x.key))) (aD (bn x.n.s.k.m.frozen) (bL (true=eF x.n x.r x.key)) False)) (Exists (eZ (eF x.n x.r x.key)))))))) (by kernel_rfl) (by
 delta aD pH av aK ah aF aB fR cq v7 aI bp bL dP cw ax ag eZ va cN rA bn bl Ai qs
 try dsimp -iota -proj only
 rintro⟨n,p,r,key⟩ ⟨h1,h2,h3,h4⟩ _;dsimp only at *;refine⟨Rg.Ks.mk r key,?_⟩
 and_intros<;>first|exact cm|exact h1|exact h2|exact h3|(intro h_;revert h_)|exact cn|skip
 intro _ _;dsimp only;have e0:Rg.xD r.L (Rg.fC (fun _=>key) 1)=u9 r key:=rfl;rw[e0];unfold eF wq;refine⟨fun c=>⟨(),?_,trivial,trivial⟩,fun c=>⟨fun c1 _=>⟨fun c2 _ _=>⟨fun c3=>⟨(),?_,trivial,trivial⟩,fun c3=>⟨fun _=>⟨(),?_,trivial,trivial⟩,fun c4=>by rw[h4]at c4;cases c4⟩⟩,fun c2=>⟨(),?_,trivial,trivial⟩⟩,fun c1=>⟨(),?_,trivial,trivial⟩⟩⟩
 ·have:¬u9 r key=n.id:=by simpa using c
  simp[this]
 ·have:decide (n.now<n.le.end_)=false:=by simpa using c3
  rw[this];simp
 ·have g1:u9 r key=n.id:=by simpa using c
  have g2:n.s.k.m.aQ=n.le.aQ:=by simpa using c2
  have g3:decide (n.now<n.le.end_)=true:=by simpa using c3
  rw[c1,g3];simp[g1,g2]
 ·have:¬n.s.k.m.aQ=n.le.aQ:=by simpa using c2
  simp[this]
 ·rw[c1];simp)
theorem DK:ak (Y Tryz.prog).G.X 19 Kv:=aU fF UA ⟨Rg.DI,trivial⟩
structure wu where
 n:cG
 p:iy
def fM(l:List gV):List ByteArray:=l.map fun x=>x.w.key
noncomputable def OE:cC where
 α:=wu
 β:=Nat
 m:=15
 m':=16
 pre:=fun a=>a.n.rs.length<1000
 args:=fun a=>[.a (.ptr 0 0 0 0)]
 hp:=fun _=>[]
 ro:=fun a=>[(0,Eo (.ptr 14 0 0 0) 7 1 3 5 6 a.n a.p),(6,.arr 134 Dy a.n.rs.length (aa fZ a.n.rs))]
 post:=fun _ _=>True
 res:=fun a c=>.a (.slc 15 0 1 (fM a.n.rs).length c)
 cW:=fun a _=>[(15,.arr 9 [.str] (fM a.n.rs).length (aa kq (fM a.n.rs)))]
def Zi(a:wu):An:=.flat 5 (Nat×Nat) (fun s x=>((s.new (.arr 9 [.str] (fM (a.n.rs.take x.1)).length (aa kq (fM (a.n.rs.take x.1))))).set 3 (.a (.slc s.nx 0 1 (fM (a.n.rs.take x.1)).length x.2))).int 13 x.1) (fun _ x=>x.1<=a.n.rs.length) (fun _ x=>a.n.rs.length-x.1)
def oU(x:Nat×Nat)(y:wu):List ByteArray:=fM (List.take x.fst y.n.rs)
def Am(x:List gV):=dN (cz x) 5 (aa fZ x)
theorem UB:fnBody (Y Tryz.prog) [] 17 OE fun a=>[(17,[Zi a],[])]:=fnBody.of (p :=
 ∀x:wu,cz x.n.rs<1000->(∃y:Nat×Nat,aA y.fst ((0=aT (oU y x)/\0=y.snd)/\dL (cz x.n.rs) x.p.rc (bT (ag (aT (oU y x)=0/\tq x.n x.p (Am x.n.rs) (y.fst<=cz x.n.rs/\True))))))/\∀y:Nat×Nat,fO y.fst (cz x.n.rs) (jP (aT (oU y x)) 16 y.snd fun u=>iq y fun z=>ag (aT (oU y x)+1=aT (oU z x)/\u=z.snd)/\dL (cz x.n.rs) x.p.rc (bT (ag (lC (aT (oU z x)) (aT (oU y x)) 1 (aa kq (oU y x)) (bD (bH (gl x.n.rs (0+ay y.fst)).w.key)) (aa kq (oU z x))/\tq x.n x.p (Am x.n.rs) (bF z.fst (cz x.n.rs) y.fst))))) (∃u:Nat,ir (aT (oU y x)) (aT (fM x.n.rs)) y.snd u 1 (aa kq (oU y x)) (aa kq (fM x.n.rs)) True True)) (by kernel_rfl) (by
 delta aD pF aK ah bW ay aC gH eO aF af aT bK kT cz bD aX aB aV bS cV ou dN gp bT bC lC jP bH bF iq dL aS ir aA ag aY jd oU bx az fO bu tq dQ Am jG
 try dsimp -iota -proj only
 rintro⟨n,p⟩ h;have h:n.rs.length<1000:=h;have hl:∀i,(fM (List.take i n.rs)).length=min i n.rs.length:=fun i=>by simp[fM]
 refine⟨⟨(0,0),?_⟩,fun⟨i,c⟩ hi=>⟨fun c1=>?_,fun c1=>⟨c,?_⟩⟩⟩
 ·have e:fM (List.take 0 n.rs)=[]:=rfl;dsimp only;rw[e]
  and_intros<;>first|exact cm|(intro h_;revert h_)|exact cn|skip
 ·dsimp only at *;have hi:i<n.rs.length:=by have:=of_decide_eq_true c1;omega
  have hs:fM (List.take (i+1) n.rs)=fM (List.take i n.rs)++[(gl n.rs i).w.key]:=by
   unfold fM;rw[gv hi,List.map_append];rfl
  have hz:0+(i:Int).toNat=i:=by omega
  have hli:=hl i;rw[hz];refine⟨by omega,hi,by omega,by omega,by omega,fun cap _ _ _=>⟨by simp only[bQ];omega,(i+1,cap),?_⟩⟩;dsimp only;rw[hs];have hp:aj (fM (List.take i n.rs)++[(gl n.rs i).w.key]).length 1 (aZ (aa kq (fM (List.take i n.rs))) 0 (fM (List.take i n.rs)).length fun i_1 j=>aM 1 (kq (gl n.rs i).w.key) (0+i_1) j) (aa kq (fM (List.take i n.rs)++[(gl n.rs i).w.key])):=.push rfl (by simp) rfl
  and_intros<;>first|exact cm|exact hp|exact by simp|(intro h_;revert h_)|exact cn|skip
 ·dsimp only at *;have hi:i=n.rs.length:=by have:=of_decide_eq_false c1;omega
  subst hi;rw[List.take_length]
  and_intros<;>first|exact cm|(intro h_;revert h_)|exact cn|skip)
theorem Kw:ak (Y Tryz.prog).G.X 17 OE:=aU fF UB trivial
structure rZ where
 n:cG
 p:iy
 r:Rg.fL
 w:nL
 g:Option aG
structure mV where
 p:iy
 b:Nat
 mc:Nat
 rc:Nat
structure di where
 n:cG
 ms:List pG
 rs:List qx
def r4(w:nL):Bool:=(!decide (w.op=1)&&!decide (w.op=2))||!dS w.key
def me(n:cG)(w:nL)(err:Int)(val:ByteArray)(has:Bool):di:=⟨n,Ak n.id w err val has,Al w err val has⟩
def Kx(n:cG)(r:Rg.fL)(w:nL):Fw:=⟨w,n.s.bO*1048576+(n.asked+1),u9 r w.key,n.now⟩
def DL(n:cG)(r:Rg.fL)(w:nL):pG:=⟨13,n.id,u9 r w.key,n.s.k.m.aQ,0,0,0,n.s.bO*1048576+(n.asked+1),w.op,w.key,0,false,fU,0⟩
def r5(n:cG)(k:ByteArray):cG:={ n with t:=ij n.t (hasB [k]),s:=jV n.s [k] }
def A1(n:cG)(r:Rg.fL)(w:nL):cG:={ n with asked:=n.asked+1,ws:=n.ws++[Kx n r w] }
def iJ(n:cG)(w:nL)(b:Nat):cG:={ n with t:=qJ n.t w.key b,rs:=n.rs++[⟨w,n.t.last+1⟩] }
def jA(n:cG)(r:Rg.fL)(w:nL)(g:Option aG)(b:Nat):di :=
 if r4 w=true then me n w 1 tj false
 else if u9 r w.key≠n.id then⟨A1 n r w,[DL n r w],[]⟩
 else if eF n r w.key=false then me n w 6 tj false
 else if w.op=2 then me (r5 n w.key) w 0 tj false
 else match nH g n.now with
  |some x=>me n w 0 x.val true
  |none=>⟨iJ n w b,[],[]⟩
def Ky(rg ma ra:A)(nd st le tk mp wa rd ca cl dv ds ix it jr mk jl ke su tx pl:Nat)(n:cG)(p:iy):List (Nat×Chunk) :=
 vE st ca cl dv ds ix it jr mk jl ke su tx pl n.s p.p++[(mp,wm p.mb n.t),(nd,Qs rg ma ra st le tk wa rd n p),(tk,En p.mb n.t),(wa,.arr 125 MZ n.ws.length (aa jW n.ws)),(rd,.arr 134 Dy n.rs.length (aa fZ n.rs))]
def XZ(le ck a b c:Nat)(n:cG)(r:Rg.fL):List (Nat×Chunk):=[(le,U1 ck n.le),(ck,Ui n.now)]++OD a b c r
structure qL(a:rZ):Prop where
 at_:dI a.n a.p
 ring:a.r.L.length<100000/\0<a.r.L.length
 key:a.w.key.size<=aq
 free:a.n.s.k.m.frozen=false
 last:a.n.t.last<1099511627776
 room:a.n.ws.length<1000/\a.n.rs.length<1000/\a.n.t.l.length<1000
 asked:0<=a.n.asked/\a.n.asked<1000000/\0<=a.n.s.bO/\a.n.s.bO<1000000
 rd:PV a.n.s.fl
 gJ:C1 a.n.s.fl a.w.key a.g
 kill:a.w.op=2->dS a.w.key=true->Ab ⟨a.n.s,a.p.p,[a.w.key],1⟩
noncomputable def X7:cC where
 α:=rZ
 β:=mV
 m:=24
 m':=31
 pre:=qL
 args:=fun a=>[.a (.ptr 0 0 0 0),.agg (Zg a.w)]
 hp:=fun a=>Ky (.ptr 21 0 0 0) .bV .bV 0 7 1 3 4 5 6 8 9 10 11 12 13 14 15 16 17 18 19 20 a.n a.p
 ro:=fun a=>XZ 1 2 21 22 23 a.n a.r
 post:=fun a b=>dI (jA a.n a.r a.w a.g b.b).n b.p
 res:=fun _ _=>.mm []
 cW:=fun a b=>Ky (.ptr 21 0 0 0) (.slc 29 0 21 (jA a.n a.r a.w a.g b.b).ms.length b.mc) (.slc 30 0 6 (jA a.n a.r a.w a.g b.b).rs.length b.rc) 0 7 1 3 4 27 28 8 9 10 11 12 24 14 25 16 17 18 19 26 (jA a.n a.r a.w a.g b.b).n b.p++[DA 29 (jA a.n a.r a.w a.g b.b).ms,Oy 30 (jA a.n a.r a.w a.g b.b).rs]
noncomputable def X8:List (Nat×cC):=[(44,Rg.Wh),(86,Lt),(54,OC),(19,Kv),(51,M4 (.ptr 9 0 0 0)),(88,MW),(137,MQ),(89,TV),(136,Tq)]
def Zj(a:rZ):An:=.mk 0 Bool (fun s b=>s.set 18 (.a (.bool b))) (fun _ b=>b=r4 a.w) (fun _ _=>0) fun _=>.mk 60 [] []
def Zk(a:rZ):An:=.mk 2 Unit (fun s _=>((s.new (.obj 40 (Co ((nH a.g a.n.now).getD fU)))).set 4 (.a (.ptr s.nx 0 0 0))).set 5 (.a (.bool (nH a.g a.n.now).isSome))) (fun _ _=>True) (fun _ _=>0) fun _=>.mk 60 [] []
theorem QK{g:Option aG}{now:Int}{x:aG}(h:nH g now=some x):g=some x:=by
 unfold nH at h;cases g with
 |none=>cases h
 |some y =>
  simp only[Option.bind_some]at h;split at h
  ·exact h
  ·cases h
theorem UC{m:nU}{k:ByteArray}{g:Option aG}{now:Int}{x:aG}(he:C1 m k g)(h:nH g now=some x):x.val.size<=aq:=by
 rw[QK h]at he;obtain⟨_,_,_,hm⟩:=he;unfold fV at hm;simp only[Bool.and_eq_true,decide_eq_true_eq]at hm;exact Nat.le_trans hm.1.1.1.2 (by decide)
def bt(x:rZ)(y:mV):di:=jA x.n x.r x.w x.g y.b
def o7(x y:nM)(z u:Prop):=x.aQ=y.aQ/\x.end_=y.end_/\x.top=y.top/\z/\u
def mW(x y:List gV):=aK (cz x) (cz y) 5 (aa fZ y) (aa fZ x)
def vb(x:cG)(y:Nat)(z:List Fw):=aK x.ws.length y 7 (aa jW z) (aa jW x.ws)
def wv(z:Nat)(u:iy)(x y:cG)(v:List gV)(w:Prop):=iQ z u.mb/\vb x y.ws.length y.ws/\mW x.rs v/\w
def nO(x y:iy)(z u:cG)(v:Prop):=x.p.H=y.p.H/\eV x.mb z.t=eV y.mb u.t/\v
def DM(y z:iy)(x u:cG)(v w s:Prop):=nO y z x u (az (v/\ag (pF x u y z w (wv y.mb z u x x.rs s))))
def Ao(z:Int)(x y:nL)(u:Prop):=z=x.node/\y.id=x.id/\y.op=x.op/\y.key=x.key/\u
def DN(x:di)(y:List qx):=aK x.rs.length y.length 6 (aa th y) (aa th x.rs)
def Kz(y:rZ)(h:Int)(i:ByteArray)(j:Bool)(u:tK)(v:Nat)(f:jJ)(k:lF):=∃z:o6,ag (Ao y.w.node z.w y.w (h=z.err/\i=z.val/\j=z.has/\lz y.n z.n y.p z.p (bp z.w.key<=aq/\bp z.val<=aq) (∀g:Nat×Nat,True->∃x:mV,u.H=x.p.p.H/\eV v f=eV x.p.mb (di.n (bt y x)).t/\lz z.n (di.n (bt y x)) z.p x.p (ag (bP (rB z)=bP (di.ms (bt y x))/\g.fst=x.mc)) (ag (List.length (rC z)=(di.rs (bt y x)).length/\g.snd=x.rc)/\f.last=(di.n (bt y x)).t.last/\wv v x.p (di.n (bt y x)) y.n y.n.rs (mS (di.ms (bt y x)) (rB z)/\DN (bt y x) (rC z)/\jo k (di.n (bt y x)).s u x.p.p (dI (di.n (bt y x)) x.p/\True))))))
def tu(z x:cG)(u:Int)(y:cG)(v:Prop):=o7 z.le x.le (u=x.now) (az (eo (y.s.bO=x.s.bO) (s8 y.s.k.m x.s.k.m v)))
def Ir(x:rZ)(y:Prop):=rW x.w (DM x.p x.p x.n x.n (aC x.n.id) (aC x.n.t.last) (u6 x.n (pH x.r x.r (0=0) (az (HP x.n.s x.n.s x.p.p x.p.p y)))))
def Is(y:rZ):C2->Prop:=fun(z:C2)=>ag (y.w.key=z.key/\y.n.now=z.now/\oe y.n.s.cL z.m y.p.p.cy z.p y.n.s.d y.p.p.x y.p.p.xc (y.p.p.H=z.p.H) (xq z.m z.p z.key z.r/\aI (Exists (ax ((nH z.r z.now).isSome=(nH y.g y.n.now).isSome/\az (ag (rW y.w (qb (jk (nH z.r z.now)) (jk (nH y.g y.n.now)) (Ir y (rW y.w (True/\True)))))))))))
def Ni(y:rZ)(x:mV)(z:jJ)(u:Nat)(v w f:Prop):=(0=(di.rs (bt y x)).length/\0=x.rc)/\z.last=(di.n (bt y x)).t.last/\iQ u x.p.mb/\v/\w/\f/\(di.rs (bt y x)).length=0/\jo y.n.s (di.n (bt y x)).s y.p.p x.p.p (dI (di.n (bt y x)) x.p/\True)
def xE(x:cG)(y:jJ)(z:iy)(u:Nat)(v w:PH)(s f:Prop):=x.t.last=y.last/\iQ z.mb u/\eV z.mb x.t=eV u y/\v=w/\s/\f
theorem Wj:fnBody (Y Tryz.prog) X8 48 X7 fun a=>[(48,[],[Zj a]),(90,[],[Zk a])]:=fnBody.of (p :=
 ∀x:rZ,qL x->∃h:Rg.Ks,ag (x.w.key=h.key/\pH x.r h.r (Ai h) (aI ((ah x.w.op->v7 (x.w.op != (1:Int)) x.w.op (x.w.op != (2:Int)) (∃j:Bool,true=j/\aC (rA h)/\az (rW x.w (Ir x (j=r4 x.w/\True)))) (∃j:ByteArray,x.w.key=j/\cS (∃m:Bool,bn (dS j)=m/\aC (rA h)/\az (rW x.w (Ir x (m=r4 x.w/\True))))))/\∀o:Bool,o=r4 x.w->aD o (Kz x 1 cR false x.p.p x.p.mb x.n.t x.n.s) (ah x.n.id->aD (rA h != x.n.id) (ah x.n.asked->ah (x.n.asked+(1:Int))/\(ah (x.n.asked+(1:Int))->ah x.n.s.bO->nB (x.n.s.bO*(1048576:Int)) (x.n.asked+(1:Int)) (ah x.n.now->jP x.n.ws.length 64 x.p.wc fun k=>ah x.w.op->∃y:mR,ag (ag (1=bP y.l/\1=y.lc)/\iz x.n y.n (az (jd (ag (x.n.ws.length+1=y.n.ws.length/\k=y.p.wc)) x.n.rs y.n x.p.rc y.p (x.n.asked+(1:Int)) ((0=bP y.q/\0=y.qc)/\Ih y 13 (rA h) x.n 0 0 (x.n.s.bO*(1048576:Int)+(x.n.asked+(1:Int))) x.w.op x.w.key fun c=>∃v:mV,nO x.p v.p x.n (di.n (bt x v)) (lz y.n (di.n (bt x v)) y.p v.p (ag (bP (y.to (bP y.l))=bP (di.ms (bt x v))/\c=v.mc)) (Ni x v x.n.t x.p.mb (lC (di.n (bt x v)).ws.length x.n.ws.length 7 (aa jW x.n.ws) (Ed .i64 x.w.node x.w.id x.w.op (bH x.w.key) (x.n.s.bO*(1048576:Int)+(x.n.asked+(1:Int))) (rA h) x.n.now []) (aa jW (di.n (bt x v)).ws)) (mW (di.n (bt x v)).rs x.n.rs) (mS (di.ms (bt x v)) (y.to (bP y.l)))))))))))) (∃f:yB,ag (x.w.key=f.key /\
 lz x.n f.n x.p f.p (0=0) (tu x.n f.n x.n.now x.n (pH x.r f.r (va f) (aI (aD (bn (eF f.n f.r f.key)) (Kz x 6 cR false x.p.p x.p.mb x.n.t x.n.s) (ah x.w.op->aD (x.w.op == (2:Int)) (∃z:Dv,ag (ag (1=aT z.ks/\1=z.cap)/\xE x.n z.t x.p z.mb x.p.p.H z.H (aK (aT z.ks) 1 1 (aM 1 (bD (bH x.w.key))) (aa kq z.ks)) ((gq z.H z.t/\aT z.ks<100000/\z.t.l.length<100000)/\∀i:PH×Int,(xA i z.t (hasB z.ks) fun k=>z.H k)->∃u:wg,ag (ag (1=aT u.ks/\1=u.kc)/\jo x.n.s u.s x.p.p u.p (i.fst=u.p.H/\aK (aT u.ks) 1 1 (aM 1 (bD (bH x.w.key))) (aa kq u.ks)/\(oR u.s u.p/\Ab u)/\∀y:tK,Dg u y->Kz x (iw (fI u.ks)) cR false y z.mb (ij z.t (hasB z.ks)) (jV u.s u.ks)))))) (((ah x.n.now->Exists (Is x)/\Exists (Is x))/\(ah x.n.now->Exists (Is x)))/\aI (aD (nH x.g x.n.now).isSome (Kz x 0 (aG.val (jk (nH x.g x.n.now))) true x.p.p x.p.mb x.n.t x.n.s) (∃z:Ad,ag (x.w.key=z.key/\xE x.n z.t x.p z.mb x.p.p.H z.H (gq z.H z.t/\z.t.last<(1099511627776:Int)/\bp z.key<=aq) (∀i:Nat,z.H i=none->jP (cz x.n.rs) 48 x.p.rc fun u=>∃y:mV,Ds z i=y.p.p.H/\eV z.mb (qJ z.t z.key i)=eV y.p.mb (di.n (bt x y)).t/\iz x.n (di.n (bt x y)) (az (bT (kT/\kT/\ou x.n.ws (di.n (bt x y)) x.p.wc y.p /\
 ag (cz x.n.rs+1=cz (di.n (bt x y)).rs/\u=y.p.rc)/\x.n.asked=(di.n (bt x y)).asked/\(0=bP (di.ms (bt x y))/\0=y.mc)/\Ni x y (qJ z.t z.key i) z.mb (vb (di.n (bt x y)) x.n.ws.length x.n.ws) (lC (cz (di.n (bt x y)).rs) (cz x.n.rs) 5 (aa fZ x.n.rs) (bq x.w.node (bq x.w.id (bq x.w.op (dZ x.w.key (z.t.last+(1:Int)) [])))) (aa fZ (di.n (bt x y)).rs)) (bP (di.ms (bt x y))=0))))))))))))))))))))) (by kernel_rfl) (by
 delta aD pF pH Ed av aK cF ah bq bt eV bW aC gH iQ o7 aT bK cR kT cz bD aB dO kS eo bS cV ou qq DM Kz cq v7 qb aI rW bP bT bp oe wv lC jP tu bH dP Is mS gh mW cw ax Ir lz iw gd ag s8 va jd u6 nB nO Ih cN rA rB jk az Ds rC bn dZ Dg Ni xq fH dK xE Ai Ao jo xA vb cS qs jG Ah DN iz
 try dsimp -iota -proj only
 rintro⟨n,p,r,w,g⟩ ok;obtain⟨hat,⟨r1,r2⟩,hkey,hfr,hlast,⟨m1,m2,m3⟩,⟨s1,s2,s3,s4⟩,hrd,hent,hkil⟩:=ok;dsimp only at *;refine⟨Rg.Ks.mk r w.key,?_⟩
 and_intros<;>first|exact cm|exact r1|exact r2|exact hkey|(intro h_;revert h_)|exact cn|skip
 intro _ _;dsimp only;have e0:Rg.xD r.L (Rg.fC (fun _=>w.key) 1)=u9 r w.key:=rfl;rw[e0];refine⟨fun _=>⟨fun c1 _=>⟨fun c2=>⟨true,?_⟩,fun c2=>⟨w.key,rfl,trivial,fun _ _=>⟨!dS w.key,?_⟩⟩⟩,fun c1=>⟨w.key,rfl,trivial,fun _ _=>⟨!dS w.key,?_⟩⟩⟩,fun b hb=>⟨fun hbt=>?_,fun hbf _=>?_⟩⟩
 ·have hw:true=r4 w:=by
   have h1:¬w.op=1:=by simpa using c1
   have h2:¬w.op=2:=by simpa using c2
   simp[r4,h1,h2]
  and_intros<;>first|exact cm|exact hw|(intro h_;revert h_)|exact cn|skip
 ·have hw:(!dS w.key)=r4 w:=by
   have h2:w.op=2:=by simpa using c2
   simp[r4,h2]
  and_intros<;>first|exact cm|exact hw|(intro h_;revert h_)|exact cn|skip
 ·have hw:(!dS w.key)=r4 w:=by
   have h2:w.op=1:=by simpa using c1
   simp[r4,h2]
  and_intros<;>first|exact cm|exact hw|(intro h_;revert h_)|exact cn|skip
 ·have eN:∀b,jA n r w g b=me n w 1 tj false:=fun b=>if_pos (hb.symm.trans hbt);have hv:tj.size<=aq:=by decide
  refine⟨o6.mk n p w 1 tj false,?_⟩
  and_intros<;>first|exact cm|exact hkey|exact hv|(intro h_;revert h_)|exact cn|skip
  rintro⟨mc,rc⟩ _;refine⟨mV.mk p 0 mc rc,?_⟩;dsimp only;rw[eN];dsimp only[me]
  and_intros<;>first|exact cm|exact hat|(intro h_;revert h_)|exact cn|skip
 have hbad:r4 w=false:=hb.symm.trans hbf;have hn0:¬r4 w=true:=by rw[hbad];decide
 refine⟨fun c1 _=>⟨by simp only[bQ];omega,fun _ _=>⟨by simp only[bQ];omega,by simp only[bQ];omega,fun _=>⟨by omega,by omega,by omega,fun cap hcap _ _ _=>?_⟩⟩⟩,fun c1=>?_⟩
 ·have hne:u9 r w.key≠n.id:=by simpa using c1
  have eN:∀b,jA n r w g b=⟨A1 n r w,[DL n r w],[]⟩:=fun b=>by unfold jA;rw[if_neg hn0,if_pos hne]
  have hr:aj 1 21 (aM 21 (eE { DL n r w with l9:=0 })) (aa eE [{ DL n r w with l9:=0 }]):=.dR fun i hi=>by
   have:i=0:=by omega
   subst this;rfl
  have k0:(0:Nat)<1000:=by omega
  have k1:(1:Nat)<1000:=by omega
  have hl:n.ws.length+1=(A1 n r w).ws.length:=by simp[A1]
  refine⟨mR.mk (A1 n r w) { p with wc:=cap } [] 0 [{ DL n r w with l9:=0 }] 1,?_⟩
  and_intros<;>first|exact cm|exact hr|exact k1|exact k0|exact hl|(intro h_;revert h_)|exact cn|skip
  intro b _;refine⟨mV.mk { p with wc:=cap } 0 b 0,?_⟩;have hN:dI (A1 n r w) { p with wc:=cap }:=⟨hat.st,hat.tok,hat.sep,by simp only[A1,List.length_append,List.length_singleton];exact hcap,hat.rc⟩
  have hp:aj (n.ws++[Kx n r w]).length 7 (aZ (aa jW n.ws) 0 n.ws.length fun i j=>aM 7 (jW (Kx n r w)) (0+i) j) (aa jW (n.ws++[Kx n r w])):=.push rfl (by simp) rfl;have hl2:(n.ws++[Kx n r w]).length<=n.ws.length+1:=by simp
  dsimp only;rw[eN];dsimp only[A1]
  and_intros<;>first|exact cm|exact hN|exact hp|exact hl2|(intro h_;revert h_)|exact cn|skip
 have how:u9 r w.key=n.id:=by simpa using c1
 have hn1:¬u9 r w.key≠n.id:=fun h=>h how;refine⟨yB.mk n p r w.key,?_⟩
 and_intros<;>first|exact cm|exact r1|exact r2|exact hkey|exact hfr|(intro h_;revert h_)|exact cn|skip
 intro _ _;dsimp only;refine⟨fun c2=>?_,fun c2 _=>?_⟩
 ·have hsv:eF n r w.key=false:=by simpa using c2
  have eN:∀b,jA n r w g b=me n w 6 tj false:=fun b=>by unfold jA;rw[if_neg hn0,if_neg hn1,if_pos hsv]
  have hv:tj.size<=aq:=by decide
  refine⟨o6.mk n p w 6 tj false,?_⟩
  and_intros<;>first|exact cm|exact hkey|exact hv|(intro h_;revert h_)|exact cn|skip
  rintro⟨mc,rc⟩ _;refine⟨mV.mk p 0 mc rc,?_⟩;dsimp only;rw[eN];dsimp only[me]
  and_intros<;>first|exact cm|exact hat|(intro h_;revert h_)|exact cn|skip
 have hn2:¬eF n r w.key=false:=by
  have:eF n r w.key=true:=by simpa using c2
  rw[this];decide
 refine⟨fun c3=>?_,fun c3=>?_⟩
 ·have hop:w.op=2:=by simpa using c3
  have hkB:dS w.key=true:=by
   revert hbad;unfold r4;cases dS w.key<;>simp
  have hall:fI [w.key]=true:=by simp[fI,hkB]
  have eN:∀b,jA n r w g b=me (r5 n w.key) w 0 tj false:=fun b=>by unfold jA;rw[if_neg hn0,if_neg hn1,if_neg hn2,if_pos hop]
  have hr:aj 1 1 (aM 1 [Value.string w.key]) (aa kq [w.key]):=.dR fun i hi=>by
   have:i=0:=by omega
   subst this;rfl
  have hv:tj.size<=aq:=by decide
  have k1:(1:Nat)<100000:=by omega
  have k2:n.t.l.length<100000:=by omega
  refine⟨Dv.mk p.mb n.t p.p.H [w.key] 1,?_⟩
  and_intros<;>first|exact cm|exact hr|exact k1|exact k2|exact hat.tok|(intro h_;revert h_)|exact cn|skip
  rintro⟨H1,cnt⟩ ⟨ht1,ht2⟩;have hat1:=hat.WK ht1 ht2;have hkil:=hkil hop hkB;have hkil1:Ab ⟨n.s,{ p.p with H:=H1 },[w.key],1⟩:=⟨hkil.n,hkil.jr,hkil.fl⟩
  have hst1:oR n.s { p.p with H:=H1 }:=hat1.st;refine⟨wg.mk n.s { p.p with H:=H1 } [w.key] 1,?_⟩
  and_intros<;>first|exact cm|exact hr|exact hkil1|exact hst1|(intro h_;revert h_)|exact cn|skip
  rintro b ⟨q1,q2⟩;have hat2:dI (r5 n w.key) { p with p:=b }:=hat1.store q1 q2;have he:(if fI [w.key]=true then(0:Int)else 1)=0:=if_pos hall;refine⟨o6.mk n p w 0 tj false,?_⟩
  and_intros<;>first|exact cm|exact hkey|exact hv|exact he|(intro h_;revert h_)|exact cn|skip
  rintro⟨mc,rc⟩ _;refine⟨mV.mk { p with p:=b } 0 mc rc,?_⟩;dsimp only;rw[eN];dsimp only[me,r5];have hat2:dI { n with t:=ij n.t (hasB [w.key]),s:=jV n.s [w.key] } { p with p:=b }:=hat2
  and_intros<;>first|exact cm|exact hat2|(intro h_;revert h_)|exact cn|skip
 ·have hop:¬w.op=2:=by simpa using c3
  refine⟨?_,fun _ _=>⟨fun c4=>?_,fun c4=>?_⟩⟩
  ·have hG:ja n.s.fl p.p.fl:=hat.st.fl;refine⟨fun _=>⟨⟨C2.mk n.s.fl p.p.fl w.key n.now g,?_⟩,⟨C2.mk n.s.fl p.p.fl w.key n.now g,?_⟩⟩,fun _=>⟨C2.mk n.s.fl p.p.fl w.key n.now g,?_⟩⟩ <;>
   ·and_intros<;>first|exact cm|exact hG|exact hrd|exact hent|exact hkey|(intro h_;revert h_)|exact cn|skip
    intro _ _;refine⟨(),?_⟩
    and_intros<;>first|exact cm|(intro h_;revert h_)|exact cn|skip
  ·obtain⟨x,hx⟩:=Option.isSome_iff_exists.1 c4;have eN:∀b,jA n r w g b=me n w 0 x.val true:=fun b=>by unfold jA;rw[if_neg hn0,if_neg hn1,if_neg hn2,if_neg hop,hx]
   have hv:x.val.size<=aq:=UC hent hx;rw[hx];refine⟨o6.mk n p w 0 x.val true,?_⟩
   and_intros<;>first|exact cm|exact hkey|exact hv|(intro h_;revert h_)|exact cn|skip
   rintro⟨mc,rc⟩ _;refine⟨mV.mk p 0 mc rc,?_⟩;dsimp only;rw[eN];dsimp only[me]
   and_intros<;>first|exact cm|exact hat|(intro h_;revert h_)|exact cn|skip
  ·have hx:nH g n.now=none:=by simpa using c4
   have eN:∀b,jA n r w g b=⟨iJ n w b,[],[]⟩:=fun b=>by unfold jA;rw[if_neg hn0,if_neg hn1,if_neg hn2,if_neg hop,hx]
   refine⟨Ad.mk p.mb n.t p.p.H w.key,?_⟩
   and_intros<;>first|exact cm|exact hat.tok|exact hlast|exact hkey|(intro h_;revert h_)|exact cn|skip
   intro b hb;have hat1:=hat.XP hb hkey hlast;refine⟨by omega,by omega,by omega,fun cap hcap _ _=>⟨mV.mk { p with p:={ p.p with H:=aO p.p.H b 0 [.string w.key,.bool true] },rc:=cap } b 0 0,?_⟩⟩;have hN:dI (iJ n w b) { p with p:={ p.p with H:=aO p.p.H b 0 [.string w.key,.bool true] },rc:=cap }:=⟨hat1.st,hat1.tok,hat1.sep,hat.wc,by simp only[iJ,List.length_append,List.length_singleton];exact hcap⟩
   have hp:aj (n.rs++[(⟨w,n.t.last+1⟩:gV)]).length 5 (aZ (aa fZ n.rs) 0 n.rs.length fun i j=>aM 5 (fZ ⟨w,n.t.last+1⟩) (0+i) j) (aa fZ (n.rs++[⟨w,n.t.last+1⟩])):=.push rfl (by simp) rfl;have hl2:(n.rs++[(⟨w,n.t.last+1⟩:gV)]).length<=n.rs.length+1:=by simp
   have hl3:n.rs.length+1=(n.rs++[(⟨w,n.t.last+1⟩:gV)]).length:=by simp
   dsimp only;rw[eN];dsimp only[iJ]
   and_intros<;>first|exact cm|exact hN|exact hp|exact hl2|exact hl3|(intro h_;revert h_)|exact cn|skip)
theorem Wk:ak (Y Tryz.prog).G.X 48 X7:=aU fF Wj ⟨Rg.DI,x6,Ku,DK,Kn,Qr,Qp,TX,Ts,trivial⟩
end Go.Proofs.YtfjgoonelcaggaaGreat
namespace Go.Sx
section
def It(slot:Nat)(v:Bool)(s:S)(K:S->Prop):Prop:=match look s.fr slot with
 |.a (.bool b)=>b=v/\K (s.set slot (.a (Ws v)))
 |.a .tt=>bif v then K s else False
 |.a .ff=>bif v then False else K s
 |_=>K s
theorem FD(slot:Nat)(v:Bool):∀s K,It slot v s K->wL s K:=by
 intro s K h w0 M ρ a w hs;unfold It at h;split at h
 ·rename_i b hb;obtain⟨rfl,h⟩:=h;have hr:=hs.frame slot;rw[hb]at hr;refine⟨_,ρ,h,Env.le.refl ρ,hs.Vp ?_⟩;have hr:a.tmps.getD slot undef = .bool b:=hr;rw[hr];exact r9 b ρ
 ·cases v
  ·exact h.elim
  ·exact⟨s,ρ,h,Env.le.refl ρ,hs⟩
 ·cases v
  ·exact⟨s,ρ,h,Env.le.refl ρ,hs⟩
  ·exact h.elim
 ·exact⟨s,ρ,h,Env.le.refl ρ,hs⟩
def Iu:List (Nat×Bool)->S->(S->Prop)->Prop
 |[],s,K=>K s
 |e::r,s,K=>It e.1 e.2 s fun s=>Iu r s K
theorem DO:∀(l:List (Nat×Bool)) s K,Iu l s K->wL s K
 |[],s,K,h=>fun w0 M ρ a w hs=>⟨s,ρ,h,Env.le.refl ρ,hs⟩
 |e::r,s,K,h=>fun w0 M ρ a w hs=>by
  obtain⟨s1,ρ1,h1,l1,g1⟩:=FD e.1 e.2 s _ h w0 M ρ a w hs;obtain⟨s2,ρ2,h2,l2,g2⟩:=DO r s1 K h1 w0 M ρ1 a w g1;exact⟨s2,ρ2,h2,l1.trans l2,g2⟩
def Nj(slot:Nat)(n:Int)(s:S)(K:S->Prop):Prop:=match look s.fr slot with
 |.a (.int k m)=>m=n/\K (s.set slot (.a (.lit k n)))
 |_=>K s
theorem QL(slot:Nat)(n:Int):∀s K,Nj slot n s K->wL s K:=by
 intro s K h w0 M ρ a w hs;unfold Nj at h;split at h
 ·rename_i k m hb;obtain⟨rfl,h⟩:=h;have hr:=hs.frame slot;rw[hb]at hr;exact⟨_,ρ,h,Env.le.refl ρ,hs.Vp hr⟩
 ·exact⟨s,ρ,h,Env.le.refl ρ,hs⟩
def An.QM(key slot:Nat)(v:Bool)(next:LH):An:=.view key (It slot v) (FD slot v) next
def An.Wl(key:Nat)(l:List (Nat×Bool))(next:LH):An:=.view key (Iu l) (DO l) next
def An.X9(key slot:Nat)(n:Int)(next:LH):An:=.view key (Nj slot n) (QL slot n) next
end
end Go.Sx
namespace Go.Proofs.YtfjgoonelcaggaaGreat
open Go.Sx
noncomputable def Iv:cC where
 α:=rZ
 β:=mV
 m:=24
 m':=31
 pre:=fun a=>qL a/\a.w.node=0
 args:=fun a=>[.a (.ptr 0 0 0 0),.a (.int .i64 a.w.id),.a (.int .i64 a.w.op),.a (.str a.w.key)]
 hp:=fun a=>Ky (.ptr 21 0 0 0) .bV .bV 0 7 1 3 4 5 6 8 9 10 11 12 13 14 15 16 17 18 19 20 a.n a.p
 ro:=fun a=>XZ 1 2 21 22 23 a.n a.r
 post:=fun a b=>dI (jA a.n a.r a.w a.g b.b).n b.p
 res:=fun a b=>.agg [.slc 29 0 21 (jA a.n a.r a.w a.g b.b).ms.length b.mc,.slc 30 0 6 (jA a.n a.r a.w a.g b.b).rs.length b.rc]
 cW:=fun a b=>Ky (.ptr 21 0 0 0) .bV .bV 0 7 1 3 4 27 28 8 9 10 11 12 24 14 25 16 17 18 19 26 (jA a.n a.r a.w a.g b.b).n b.p++[DA 29 (jA a.n a.r a.w a.g b.b).ms,Oy 30 (jA a.n a.r a.w a.g b.b).rs]
def Iw(z:List pG)(x:di)(v:Nat)(y:mV)(u:List qx)(w:Nat)(s:PH)(f:Nat)(g:jJ)(h:Prop):=ag (bP z=bP x.ms/\v=y.mc)/\ag (u.length=x.rs.length/\w=y.rc)/\s=y.p.p.H/\eV f g=eV y.p.mb x.n.t/\mS x.ms z/\DN x u/\az (ag h)
def DP(z:cG)(x:di)(u:iy)(y:mV)(v:jJ)(w:Nat)(s:cG)(f:List gV):=lz z x.n u y.p (v.last=x.n.t.last) (wv w y.p x.n s f (dI x.n y.p/\True))
theorem QN:fnBody (Y Tryz.prog) [(48,X7)] 13 Iv fun _=>[]:=fnBody.of (p :=
 ∀y:rZ,qL y/\y.w.node=(0:Int)->∃z:rZ,ag (Ao 0 z.w y.w (DM y.p z.p y.n z.n (y.n.id=z.n.id) (y.n.t.last=z.n.t.last) (az (ag (y.n.s.bO=z.n.s.bO/\az (fH y.n.s.cL z.n.s.cL y.p.p.cy z.p.p.cy (uX y.n.s.d z.n.s y.p.p.x z.p.p y.p.p.xc y.n.s.ms y.p.p.jc y.n.s.jL y.p.p.jy y.n.s.k y.p.p.kc (ag (o7 y.n.le z.n.le (y.n.now=z.n.now) (pH y.r z.r (qL z) (∀u:mV,dI (di.n (bt z u)) u.p->∃v:mV,Iw (di.ms (bt z u)) (bt y v) u.mc v (di.rs (bt z u)) u.rc u.p.p.H u.p.mb (di.n (bt z u)).t (HP (di.n (bt z u)).s (di.n (bt y v)).s u.p.p v.p.p (DP (di.n (bt z u)) (bt y v) u.p v (di.n (bt z u)).t u.p.mb (di.n (bt z u)) (di.n (bt z u)).rs)))))))))))))) (by kernel_rfl) (by
 delta pF pH av aK bt eV bW iQ o7 bK kT cz cV ou qq DM cq bP bT wv dP mS mW cw lz Iw ag jd nO cN uX az fH DP Ao vb qs DN iz
 try dsimp -iota -proj only
 rintro a ⟨ok,hw⟩;obtain⟨n,p,r,⟨nd,id,op,key⟩,g⟩:=a;have hw:nd=0:=hw;subst hw;refine⟨⟨n,p,r,⟨0,id,op,key⟩,g⟩,?_⟩
 and_intros<;>first|exact cm|exact ok|(intro h_;revert h_)|exact cn|skip
 intro b hb;refine⟨b,?_⟩
 and_intros<;>first|exact cm|exact hb|(intro h_;revert h_)|exact cn|skip)
theorem FE:ak (Y Tryz.prog).G.X 13 Iv:=aU fF QN ⟨Wk,trivial⟩
def tv(now:Int)(l:nM)(sent ep:Int):Bool:=decide (ep<1)||decide (ep<l.top)||decide (sent<0)||decide (now<sent)||decide (20<=now-sent)
def ov(now:Int)(l:nM)(sent ep:Int):nM:=if tv now l sent ep=true then l else if ep=l.aQ/\sent+20<=l.end_ then l else⟨ep,sent+20,ep⟩
structure yC where
 l:nM
 now:Int
 sent:Int
 ep:Int
noncomputable def Iy:cC where
 α:=yC
 β:=Unit
 m:=2
 m':=2
 pre:=fun a=>a.now<1000000000000000
 args:=fun a=>[.a (.ptr 0 0 0 0),.a (.int .i64 a.sent),.a (.int .i64 a.ep)]
 hp:=fun a=>[(0,U1 1 a.l)]
 ro:=fun a=>[(1,Ui a.now)]
 post:=fun _ _=>True
 res:=fun _ _=>.a .any
 cW:=fun a _=>[(0,U1 1 (ov a.now a.l a.sent a.ep))]
def xF(x:yC):nM:=ov x.now x.l x.sent x.ep
def Ap(x:yC):Unit->Prop:=ax (ag (o7 x.l (xF x) True True))
def Iz(x:yC):=ah (x.sent+(20:Int))/\(ah x.l.aQ->v7 (x.ep == x.l.aQ) x.l.end_ (cM (x.sent+(20:Int)) x.l.end_) (Exists (Ap x)) (Exists (ax (Fy x.ep (xF x) (x.sent+(20:Int)) x.ep True True))))
theorem QO:fnBody (Y Tryz.prog) [] 99 Iy fun _=>[]:=fnBody.of (p :=
 ∀x:yC,x.now<(1000000000000000:Int)->aD (aF x.ep 1) (Exists (Ap x)) (ah x.l.top->iY (aF x.ep x.l.top) (Exists (Ap x)) (aF x.sent 0) (ah x.now->aD (aF x.now x.sent) (Exists (Ap x)) (aD (aF x.sent 0) (Iz x) (ko x.now (aF x.now x.sent) (Iz x) (mG (x.now-x.sent) 20 (Exists (Ap x)) (Iz x))))))) (by kernel_rfl) (by
 delta aD ah aF o7 aB Fy v7 iY Iz ax cM ag mG Ap ko xF
 rintro⟨l,now,sent,ep⟩ h;have h:now<1000000000000000:=h;dsimp only;have no:tv now l sent ep=true->ov now l sent ep=l:=fun e=>if_pos e;have yes:tv now l sent ep=false->ep=l.aQ->sent+20<=l.end_->ov now l sent ep=l:=fun e h1 h2=>by unfold ov;rw[if_neg (by rw[e];decide),if_pos ⟨h1,h2⟩]
 have new:tv now l sent ep=false->¬(ep=l.aQ/\sent+20<=l.end_)->ov now l sent ep=⟨ep,sent+20,ep⟩:=fun e h1=>by unfold ov;rw[if_neg (by rw[e];decide),if_neg h1]
 unfold tv at no yes new;simp only[Bool.or_eq_true,Bool.or_eq_false_iff,decide_eq_true_eq,decide_eq_false_iff_not,beq_iff_eq,beq_eq_false_iff_ne]at *;refine⟨fun c1=>⟨(),?_⟩,fun c1 _=>⟨fun c2=>⟨(),?_⟩,fun c2=>⟨fun c3=>⟨(),?_⟩,fun c3 _=>⟨fun c4=>⟨(),?_⟩,fun c4=>⟨fun c5=>absurd c5 c3,fun _ _=>⟨fun c6=>absurd c6 c4,fun _ _=>⟨by simp only[bQ];omega,fun c7=>⟨(),?_⟩,fun c7=>⟨by simp only[bQ];omega,fun _=>⟨fun c8 _=>⟨fun c9=>⟨(),?_⟩,fun c9=>⟨(),?_⟩⟩,fun c8=>⟨(),?_⟩⟩⟩⟩⟩⟩⟩⟩⟩⟩
 ·rw[no (by omega)];simp
 ·rw[no (by omega)];simp
 ·rw[no (by omega)];simp
 ·rw[no (by omega)];simp
 ·rw[no (by omega)];simp
 ·rw[yes ⟨⟨⟨⟨c1,c2⟩,c3⟩,c4⟩,c7⟩ c8 c9];simp
 ·rw[new ⟨⟨⟨⟨c1,c2⟩,c3⟩,c4⟩,c7⟩ fun h=>c9 h.2];simp
 ·rw[new ⟨⟨⟨⟨c1,c2⟩,c3⟩,c4⟩,c7⟩ fun h=>c8 h.1];simp)
theorem FF:ak (Y Tryz.prog).G.X 99 Iy:=aU fF QO trivial
def KA:LH:=.mk 60 [] []
def tw(n:cG)(l9 ep tick:Int):pG:=⟨2,l9,n.id,ep,tick,0,0,0,0,tj,0,false,fU,0⟩
def Zl(k:Int)(l9 to ep tick id op:A)(key:ByteArray)(mem:A):List A:=[.lit .i64 k,l9,to,ep,tick,.lit .i64 0,.lit .i64 0,id,op,.str key,.lit .i64 0,.ff,.str tj,.str tj,.lit .i64 0,.ff,.bV,.bV,mem,.lit .i64 0,.bV]
structure QS where
 n:cG
 p:iy
 r:Rg.fL
 l9:Int
 ep:Int
 tick:Int
 l:List Int
 cap:Nat
noncomputable def UD:cC where
 α:=QS
 β:=Unit
 m:=18
 m':=20
 pre:=fun a=>a.n.now<1000000000000000/\AZ (tw a.n a.l9 a.ep a.tick)/\Rg.jK a.l=true/\a.ep=a.n.s.k.m.aQ/\a.n.s.k.m.ready=0
 args:=fun a=>[.a (.ptr 0 0 0 0),.agg (Zl 2 (.int .i64 a.l9) (.int .i64 a.n.id) (.int .i64 a.ep) (.int .i64 a.tick) (.lit .i64 0) (.lit .i64 0) tj (.slc 17 0 1 a.l.length a.cap))]
 hp:=fun a=>[(0,Eo (.ptr 14 0 0 0) 7 1 3 5 6 a.n a.p),(1,U1 2 a.n.le)]
 ro:=fun a=>[(2,Ui a.n.now),(7,Zq 8 9 10 a.n.s.bO),(10,.obj 155 (.ptr 11 0 0 0::Da a.n.s.k.m)),(17,.arr 3 [.int .i64] a.l.length (aa Rg.encI a.l))]++OD 14 15 16 a.r
 post:=fun _ _=>True
 res:=fun _ _=>.agg [.slc 18 0 21 0 0,.slc 19 0 6 0 0]
 cW:=fun a _=>[(0,Eo (.ptr 14 0 0 0) 7 1 3 5 6 a.n a.p),(1,U1 2 (ov a.n.now a.n.le a.tick a.ep))]
noncomputable def Ya:List (Nat×cC):=[(55,OB),(56,Rg.yZ),(99,Iy)]
def OF(x:cG)(w:List Int)(t:Nat)(y:Int)(z:Prop)(u:Int)(v f:Prop):=x.s.k.m.ready=(0:Int)/\Exists (rz w t fun g=>aI (aD (Rg.jK g.l) (ko y (aF y x.s.k.m.aQ) False (aD (y == x.s.k.m.aQ) (ah y->ah x.s.k.m.aQ->z/\(ah u->v)) (ah y->ah x.s.k.m.aQ->z/\(ah u->v)))) f))
def DQ(x:QS)(y:nM):=Exists (ax (ag (0=0)/\ag (0=0)/\tq x.n x.p (0=0) (o7 y (ov x.n.now x.n.le x.tick x.ep) True True)))
def IA(y:cG)(u:Prop)(v w s:Int)(z:List Int)(t:Nat)(f:A0->Prop):=ah y.id->ah y.id->aD (y.id != y.id) u (∃x:A0,DJ 2 x.m v y.id w s 0 tj 0 tj tj (fR x.m.item.gone (cN z x.l t x.cap) ((0:Int)=x.m.base/\cq x.l z Rg.encI/\(AZ x.m/\(x.l=[]\/aB (Rg.jK x.l)))/\aI (f x))))
def IB(x:QS):=x.n.now<(1000000000000000:Int)/\AZ (tw x.n x.l9 x.ep x.tick)/\aB (Rg.jK x.l)/\x.ep=x.n.s.k.m.aQ/\x.n.s.k.m.ready=(0:Int)
theorem UE:fnBody (Y Tryz.prog) Ya 16 UD fun _=>[(16,[],[.X9 4 5 0 KA]),(57,[],[.QM 0 28 false KA]),(98,[],[.QM 0 20 true KA])]:=fnBody.of (p :=
 ∀x:QS,IB x->IA x.n (DQ x x.n.le) x.l9 x.ep x.tick x.l x.cap fun z=>aD (bn (oT z)) (DQ x x.n.le) (OF x.n x.l x.cap x.ep (aB (x.ep == x.n.s.k.m.aQ)) x.tick (ah x.ep->∃y:yC,ag (x.tick=y.sent/\x.ep=y.ep/\ag (o7 x.n.le y.l (x.n.now=y.now) (y.now<(1000000000000000:Int)/\aI (DQ x (xF y)))))) (DQ x x.n.le))) (by kernel_rfl) (by
 delta aD pF av aK ah bW aC aF o7 bK kT cz aB fR cV ou OF cq aI bT bp DJ lT DQ ax oT ag jd cN az rz bn IA IB tq ko xF
 try dsimp -iota -proj only
 rintro⟨n,p,r,l9,ep,tick,l,cap⟩ ⟨h1,hm,hl,he,hr⟩ _ _;dsimp only at *;subst he;have hl1:l.length<100000:=by have:=Rg.yy hl;omega
 have ho:l=[]\/Rg.jK l=true:=.inr hl;refine⟨fun c=>by simp at c,fun _=>⟨A0.mk (tw n l9 n.s.k.m.aQ tick) l cap,?_⟩⟩
 and_intros<;>first|exact cm|exact hm|exact ho|(intro h_;revert h_)|exact cn|skip
 intro _ _;have hz:(!decide ((tw n l9 n.s.k.m.aQ tick).key.size<=40))=false:=rfl;refine⟨fun c=>absurd (hz.symm.trans c) (by decide),fun _=>⟨hr,⟨l,cap⟩,?_⟩⟩
 and_intros<;>first|exact cm|exact hl1|(intro h_;revert h_)|exact cn|skip
 intro _ _;refine⟨fun _ _=>⟨fun c=>?_,fun _ _=>⟨fun _ _ _=>⟨?_,fun _ _=>⟨yC.mk n.le n.now tick n.s.k.m.aQ,?_⟩⟩,fun c=>by simp at c⟩⟩,fun c=>by rw[hl]at c;cases c⟩
 ·simp at c
 ·simp
 ·and_intros<;>first|exact cm|exact h1|(intro h_;revert h_)|exact cn|skip
  intro _ _;refine⟨(),?_⟩
  and_intros<;>first|exact cm|(intro h_;revert h_)|exact cn|skip)
theorem UF:ak (Y Tryz.prog).G.X 16 UD:=aU fF UE ⟨Kt,Rg.pq,FF,trivial⟩
theorem UG{α:Type}[Inhabited α]{l:List α}{i j:Nat}:gl (l.eraseIdx i) j=if j<i then gl l j else gl l (j+1):=by
 simp only[gl,List.getD,List.getElem?_eraseIdx];split<;>rfl
structure wz where
 l:List gV
 cap:Nat
 k:Nat
noncomputable def UH:cC where
 α:=wz
 β:=Nat
 m:=1
 m':=2
 pre:=fun a=>a.l.length<2000/\a.l.length<=a.cap/\a.k<a.l.length
 args:=fun a=>[.a (.slc 0 0 5 a.l.length a.cap),.a (.int .i64 a.k),.a (.int .i64 (a.k+1))]
 hp:=fun a=>[(0,.arr 134 Dy a.l.length (aa fZ a.l))]
 ro:=fun _=>[]
 post:=fun a cap=>(a.l.eraseIdx a.k).length<=cap
 res:=fun a cap=>.a (.slc 1 0 5 (a.l.eraseIdx a.k).length cap)
 cW:=fun a _=>[(1,.arr 134 Dy (a.l.eraseIdx a.k).length (aa fZ (a.l.eraseIdx a.k)))]
def lB(x:wz):List gV:=x.l.eraseIdx x.k
def IC(x:wz):Nat:=ay x.k-0+(cz x.l-aV (af x.k+(1:Int)))
theorem UI:fnBody (Y Tryz.prog) [] 71 UH fun _=>[]:=fnBody.of (p :=
 ∀x:wz,cz x.l<2000/\cz x.l<=x.cap/\x.k<cz x.l->cU (af (cz x.l)) x.cap/\zc (af x.k) 1 (ay (cz x.l)) (aD (af x.k == af x.k+(1:Int)) (∃y:Nat,ag (cz x.l=cz (lB x)/\x.cap=y)/\mW (lB x) x.l/\cz (lB x)<=y/\True) (cU (af x.k) x.cap/\cU (af x.k+(1:Int)) (cz x.l)/\0+(ay x.k-0)<=cz x.l/\0+aV (af x.k+(1:Int))+(cz x.l-aV (af x.k+(1:Int)))<=cz x.l/\gH (ay x.k-0) (cz x.l-aV (af x.k+(1:Int))) 48 (x.cap-0) fun y=>cU (af (cz x.l)) y/\cU (af (IC x)) (ay (cz x.l))/\∃z:Nat,ir (IC x) (cz (lB x)) y z 5 (fun u=>zj (IC x) u (ay (cz x.l)) (bq 0 (bq 0 (bq 0 (dZ cR 0 [])))) fun v=>aZ (aa fZ x.l) 0 (ay x.k-0) (fun w s=>aa fZ x.l (0+aV (af x.k+(1:Int))+w) s) u v) (aa fZ (lB x)) (cz (lB x)<=z) True))) (by kernel_rfl) (by
 delta aD aP aK bq ay gH af cR dX cz aB dO aV bS bH mW ir lB ag IC dZ zc cU zj
 try dsimp -iota -proj only
 rintro⟨l,cap,k⟩ ⟨h1,h2,h3⟩;dsimp only at *;have el:(l.eraseIdx k).length=l.length-1:=by rw[List.length_eraseIdx];simp[h3]
 have e1:((k:Int)+1).toNat=k+1:=by omega
 have e2:k+(l.length-(k+1))=l.length-1:=by omega
 simp only[Nat.zero_add,Int.toNat_natCast,e1,el,Nat.sub_zero,e2];refine⟨by omega,by omega,by omega,fun g=>(by exfalso;simp only[beq_iff_eq]at g;omega),fun _=>⟨by omega,by omega,by omega,by omega,by omega,fun c' g1 g2 g3=>⟨by omega,by omega,c',?_⟩⟩⟩;have hr:aj (l.length-1) 5 (fun i j=>if l.length-1<=i/\i<l.length-1+(l.length-(l.length-1))then(fZ default).getD j (Value.tuple #[])else aZ (aa fZ l) 0 k (fun i j=>aa fZ l (k+1+i) j) i j) (aa fZ (l.eraseIdx k)):=⟨fun i hi j hj=>by
  rw[if_neg (by omega)];simp only[aZ,aa,UG,Nat.zero_add];by_cases h:i<k
  ·simp only[h,if_true]
  ·simp only[h,if_false];rw[show k+1+(i-k)=i+1 by omega]⟩
 (and_intros<;>first|exact vL|skip))
theorem UJ:ak (Y Tryz.prog).G.X 71 UH:=aU fF UI trivial
structure nP where
 n:cG
 p:iy
 r:Rg.fL
 k:Nat
 val:ByteArray
 has:Bool
def nP.rd(a:nP):gV:=gl a.n.rs a.k
def iA(val:ByteArray)(has:Bool):ByteArray:=if has=true then val else tj
def OG(n:cG)(x:gV):Bool:=match u5 n.t x.tok with|some e=>e.good|none=>false
def gu(x:gV)(val:ByteArray):aG:=⟨x.w.key,val,0,false⟩
def mX(n:cG)(r:Rg.fL)(x:gV)(val:ByteArray)(has:Bool):Bool:=OG n x&&(has&&(decide ((iA val has).size<=200)&&eF n r x.w.key))
def mY(n:cG)(r:Rg.fL)(k:Nat)(val:ByteArray)(has:Bool):cG:={ n with rs:=n.rs.eraseIdx k,t:=mQ n.t (gl n.rs k).tok,s:=if mX n r (gl n.rs k) val has=true then WG (J9 n.s (gu (gl n.rs k) (iA val has)))else n.s }
def UK(n:cG)(r:Rg.fL)(k:Nat)(val:ByteArray)(has:Bool):di:=me (mY n r k val has) (gl n.rs k).w 0 (iA val has) has
def nP.q(a:nP):di:=UK a.n a.r a.k a.val a.has
structure KB(a:nP):Prop where
 at_:dI a.n a.p
 ring:a.r.L.length<100000/\0<a.r.L.length
 free:a.n.s.k.m.frozen=false
 k:a.k<a.n.rs.length
 room:a.n.rs.length<1000
 tok:bQ .i64 a.rd.tok
 key:dS a.rd.w.key=true
 val:a.val.size<=aq
 put:(iA a.val a.has).size<=200->sZ a.n.s.fl (aJ (some (gu a.rd (iA a.val a.has)))).length
 dev:(iA a.val a.has).size<=200->(J9 a.n.s (gu a.rd (iA a.val a.has))).d.calls<1000000000000/\(J9 a.n.s (gu a.rd (iA a.val a.has))).d.n<100000
noncomputable def OH:cC where
 α:=nP
 β:=mV
 m:=24
 m':=31
 pre:=KB
 args:=fun a=>[.a (.ptr 0 0 0 0),.a (.int .i64 a.k),.a (.str a.val),.a (.bool a.has)]
 hp:=fun a=>Ky (.ptr 21 0 0 0) .bV .bV 0 7 1 3 4 5 6 8 9 10 11 12 13 14 15 16 17 18 19 20 a.n a.p
 ro:=fun a=>XZ 1 2 21 22 23 a.n a.r
 post:=fun a b=>dI a.q.n b.p
 res:=fun a b=>.agg [.slc 29 0 21 a.q.ms.length b.mc,.slc 30 0 6 a.q.rs.length b.rc]
 cW:=fun a b=>Ky (.ptr 21 0 0 0) .bV .bV 0 7 1 3 4 27 28 8 9 10 11 12 24 14 25 16 17 18 19 26 a.q.n b.p++[DA 29 a.q.ms,Oy 30 a.q.rs]
noncomputable def Yb:List (Nat×cC):=[(71,UH),(72,Ua),(19,Kv),(73,Tk),(169,jC),(54,OC)]
def WM(a:nP):An:=.mk 7 Unit (fun s _=>s.set 2 (.a (.str (iA a.val a.has)))) (fun _ _=>True) (fun _ _=>0) fun _=>.mk 60 [] [.QM 8 999 true (.mk 60 [] [.mk 0 Bool (fun s b=>s.set 73 (.a (.bool b))) (fun _ b=>b=mX a.n a.r a.rd a.val a.has) (fun _ _=>0) fun _=>.mk 60 [] [.QM 0 87 true KA]])]
theorem gq.use{H:PH}{t:jJ}(h:gq H t)(id:Int):gq H (mQ t id):=by
 have hs:∀e∈(mQ t id).l,e∈t.l:=fun e he=>(List.mem_filter.1 he).1;exact⟨fun e he=>h.at_ e (hs e he),(h.blk.sublist (List.filter_sublist.map _)),fun e he=>h.id e (hs e he),(h.ids.sublist (List.filter_sublist.map _)),(h.born.sublist (List.filter_sublist.map _)),h.last⟩
def tK.A2(p:tK)(b:rU):tK:={ p with H:=b.H,cy:=b.y,x:=b.x,xc:=b.cap }
theorem oR.put{s:lF}{p:tK}(h:oR s p){x:aG}{b:rU}(h1:ja (nG s.fl x) b)(h2:tS p.fl b):oR (WG (J9 s x)) (p.A2 b)/\De p.H (br p.cy) (br p.jy) (p.A2 b):=by
 have hj:∀z∈br p.jy,b.H z=p.H z/\z∉br b.y:=fun z hz=>h2 z (h.jl.dom z hz) (h.sep z hz);exact⟨⟨⟨h1.log,h1.idx⟩,h.jl.frame fun z hz=>(hj z hz).1,fun z hz=>(hj z hz).2,h.cap⟩,fun z hz hc hjz=>⟨(h2 z hz hc).1,(h2 z hz hc).2,hjz⟩⟩
theorem dI.ZT{n:cG}{p:iy}(h:dI n p)(k:Nat){c:Nat}(hc:(n.rs.eraseIdx k).length<=c)(id:Int):dI { n with rs:=n.rs.eraseIdx k,t:=mQ n.t id } { p with rc:=c } :=
 ⟨h.st,h.tok.use id,fun e he=>h.sep e ((List.mem_filter.1 he).1),h.wc,hc⟩
theorem DR{x:gV}{v:ByteArray}(hk:dS x.w.key=true)(hv:v.size<=200):jT (gu x v)=true:=by
 simp[jT,gu,fV,hk,hv]
def OI(y z u:Bool)(v x:Prop):=qu y z (aD u v x) x
def qt(x:nP):gV:=gl x.n.rs (0+ay x.k)
def Nk(y:nP)(s:wz)(f:Nat)(g:PH)(z:wo)(h:o6->mV->Prop):=∃x:o6,ag (Ao (gV.w (qt y)).node x.w (gV.w (qt y)) ((0:Int)=x.err/\iA y.val y.has=x.val/\y.has=x.has/\iz y.n x.n (az (jd (ou y.n.ws x.n y.p.wc x.p) (lB s) x.n f x.p y.n.asked ((bp x.w.key<=aq/\bp x.val<=aq)/\∀u:Nat×Nat,True->∃v:mV,Iw (rB x) y.q u.fst v (rC x) u.snd g z.mb (mQ z.t z.id) (h x v))))))
def Nl(x:wo):Bool:=match u5 x.t x.id with|some y=>y.good|none=>false
def Nn(x:nP)(y:wz)(z:Nat)(u:Prop):=az (aC x.n.id/\az (bT (kT/\kT/\bC x.n.ws.length x.p.wc/\bC (cz (lB y)) z/\u)))
def No(v:Bool)(y:wo)(x:nP)(z:wz)(f:Nat):=∃u:Bool,v=u/\bK (Nl y) (iA x.val x.has=iA x.val x.has/\ag (bT (az (bu x.k/\bK x.has (eV y.mb (mQ y.t y.id)=eV y.mb (mQ y.t y.id)/\rW (gV.w (qt x)) (aC (gV.tok (qt x))/\x.p.p.H=x.p.p.H/\Nn x z f (aC x.n.asked/\dN x.n.ws.length 7 (aa jW x.n.ws)/\u6 x.n (pH x.r x.r (aC (mQ y.t y.id).last) (iQ y.mb y.mb/\Am (lB z)/\jo x.n.s x.n.s x.p.p x.p.p (u=mX x.n x.r x.rd x.val x.has/\True))))))))))
def Np(z:ByteArray)(x:nP)(y:wz)(u:Nat):Unit->Prop:=ax (z=iA x.val x.has/\ag (bT (az (bu x.k/\bK x.has (rW (gV.w (qt x)) (aC (gV.tok (qt x))/\nO x.p x.p x.n x.n (Nn x y u (cF x.n.asked x.n.t.last (iQ x.p.mb x.p.mb) (dN x.n.ws.length 7 (aa jW x.n.ws)/\u6 x.n (pH x.r x.r (Am (lB y)) (jo x.n.s x.n.s x.p.p x.p.p (True/\True))))))))))))
theorem UL:fnBody (Y Tryz.prog) Yb 25 OH fun a=>[(25,[],[.QM 0 26 false (.mk 60 [] [WM a]),WM a])]:=fnBody.of (p :=
 ∀y:nP,KB y->aD (aF (af y.k) 0) False (cM (af (cz y.n.rs)) (af y.k)=false/\dQ y.k (cz y.n.rs) (aS y.k/\∃z:wz,ag (cz y.n.rs=cz z.l/\y.p.rc=z.cap)/\bA y.k z.k/\af y.k+(1:Int)=af z.k+(1:Int)/\mW z.l y.n.rs/\(cz z.l<2000/\cz z.l<=z.cap/\z.k<cz z.l)/\∀g:Nat,cz (lB z)<=g->aD (bn y.has) (Exists (Np cR y z g)) (Exists (Np y.val y z g))/\aI (ah (gV.tok (qt y))->∃v:wo,ag (gV.tok (qt y)=v.id/\xE y.n v.t y.p v.mb y.p.p.H v.H (gq v.H v.t/\ah v.id) (aI (OI (Nl v) y.has (cM (af (bp (iA y.val y.has))) 200) (∃f:yB,ag ((gV.w (qt y)).key=f.key/\iz y.n f.n (az (jd (ou y.n.ws f.n y.p.wc f.p) (lB z) f.n g f.p y.n.asked (ag (tu y.n f.n y.n.now y.n (pH y.r f.r (va f) (aI (No (eF f.n f.r f.key) v y z g))))))))) (No false v y z g)/\∀f:Bool,f=mX y.n y.r y.rd y.val y.has->aD f (∃u:JU,ag ((gV.w (qt y)).key=u.x.key/\iA y.val y.has=u.x.val/\(0:Int)=u.x.e/\false=u.x.gone/\oe y.n.s.cL u.m y.p.p.cy u.p y.n.s.d y.p.p.x y.p.p.xc (y.p.p.H=u.p.H) (Hr u/\∀h:rU,ja (nG u.m u.x) h/\tS u.p h->aB (iw (jT u.x) == (0:Int))/\Exists (kF (nG u.m u.x).d fun o=>Nk y z g h.H v fun i j=>y.n.s.bO=y.q.n.s.bO/\Aa (nG u.m u.x) y.q.n.s h j.p.p (gn o) y.n.s.ms y.p.p.jc y.n.s.jL y.p.p.jy y.n.s.k y.p.p.kc (DP i.n y.q i.p j (mQ v.t v.id) v.mb y.n (lB z)))))) (Nk y z g y.p.p.H v fun u h=>HP y.n.s y.q.n.s y.p.p h.p.p (DP u.n y.q u.p h (mQ v.t v.id) v.mb y.n (lB z)))))))))) (by kernel_rfl) (by
 delta qu aD pF pH av aK cF ah eV bW ay aC iQ eO aF o7 af bK cR kT cz aX aB aV eo cV ou qq cq dN aI rW bP bT bp bC oe wv OI tu dP Nk No mS Np jF mW cw ax aS Aa lz iw cM Iw lB ag s8 va jd u6 qt nO cN uX rB az kF rC bn bu bA dQ fH DP xE Ao jo vb qs Am Nl Hr DN Nn iz
 try dsimp -iota -proj only
 intro a ok;obtain⟨n,p,r,k,val,has⟩:=a;obtain⟨hat,⟨r1,r2⟩,hfr,hk,hroom,htok,hkey,hval,hput,hdev⟩:=ok;obtain⟨x,hx⟩:∃x,x=gl n.rs k:=⟨_,rfl⟩
 have hrd:∀p r val has,nP.rd ⟨n,p,r,k,val,has⟩=x:=fun _ _ _ _=>hx.symm;simp only[hrd]at htok hkey hput hdev ⊢;have hz:0+((k:Nat):Int).toNat=k:=by omega
 have hkl:x.w.key.size<=aq:=by have:=(oh hkey).2;unfold aq;omega
 dsimp only at *;rw[hz,<- hx];have hv:(iA val has).size<=aq:=by
  unfold iA;cases has
  ·exact Nat.zero_le _
  ·exact hval
 refine⟨fun c=>(by exfalso;have:=of_decide_eq_true c;omega),fun _=>⟨decide_eq_false (by omega),by omega,hk,by simp only[bQ];omega,wz.mk n.rs p.rc k,?_⟩⟩;have h2000:n.rs.length<2000:=by omega
 have hrc:=hat.rc
 and_intros<;>first|exact cm|exact h2000|exact hrc|exact hk|(intro h_;revert h_)|exact cn|skip
 intro c hc;dsimp only at hc ⊢;have hat1:=hat.ZT k hc x.tok;refine⟨⟨fun e=>⟨(),?_⟩,fun e=>⟨(),?_⟩⟩,fun _ _ _=>⟨wo.mk p.mb n.t p.p.H x.tok,?_⟩⟩
 ·have e:has=false:=by simpa using e
  have ev:ByteArray.mk #[]=iA val has:=by rw[e];rfl
  and_intros<;>first|exact cm|exact ev|(intro h_;revert h_)|exact cn|skip
 ·have e:has=true:=by simpa using e
  have ev:val=iA val has:=by rw[e];rfl
  and_intros<;>first|exact cm|exact ev|(intro h_;revert h_)|exact cn|skip
 and_intros<;>first|exact cm|exact hat.tok|exact htok.1|exact htok.2|(intro h_;revert h_)|exact cn|skip
 intro _ _;have eg:(match u5 n.t x.tok with|some e=>e.good|none=>false)=OG n x:=rfl;dsimp only;simp only[eg];refine⟨⟨fun g1=>⟨fun g2=>⟨fun g3=>⟨yB.mk { n with rs:=n.rs.eraseIdx k,t:=mQ n.t x.tok } { p with rc:=c } r x.w.key,?_⟩,fun g3=>⟨false,?_⟩⟩,fun g2=>⟨false,?_⟩⟩,fun g1=>⟨false,?_⟩⟩,fun b hb=>⟨fun hbt=>?_,fun hbf=>?_⟩⟩
 ·and_intros<;>first|exact cm|exact r1|exact r2|exact hkl|exact hfr|(intro h_;revert h_)|exact cn|skip
  intro _ _;have g3:(iA val has).size<=200:=by have:=of_decide_eq_true g3;omega
  have e:eF n r x.w.key=mX n r x val has:=by unfold mX;rw[g1,g2,<- g2,decide_eq_true g3];simp[g2]
  refine⟨eF n r x.w.key,?_⟩
  and_intros<;>first|exact cm|exact e|(intro h_;revert h_)|exact cn|skip
 ·have g3:decide ((iA val has).size<=200)=false:=decide_eq_false (by have:=of_decide_eq_false g3;omega);have e:false=mX n r x val has:=by unfold mX;rw[g3];simp
  and_intros<;>first|exact cm|exact e|(intro h_;revert h_)|exact cn|skip
 ·have e:false=mX n r x val has:=by unfold mX;rw[g2];simp
  and_intros<;>first|exact cm|exact e|(intro h_;revert h_)|exact cn|skip
 ·have e:false=mX n r x val has:=by unfold mX;rw[g1];simp
  and_intros<;>first|exact cm|exact e|(intro h_;revert h_)|exact cn|skip
 ·have hf:mX n r x val has=true:=hb.symm.trans hbt;have hsz:(iA val has).size<=200:=by
   unfold mX at hf;simp only[Bool.and_eq_true,decide_eq_true_eq]at hf;exact hf.2.2.1
  have hpo:=DR (x:=x) hkey hsz;have eN:nP.q ⟨n,p,r,k,val,has⟩=me { n with rs:=n.rs.eraseIdx k,t:=mQ n.t x.tok,s:=WG (J9 n.s (gu x (iA val has))) } x.w 0 (iA val has) has:=by
   unfold nP.q UK mY;dsimp only;rw[<- hx,if_pos hf]
  have hfl:ja n.s.fl p.p.fl:=hat.st.fl;have hpu:=hput hsz;have hpu:jT (gu x (iA val has))=true->sZ n.s.fl (aJ (some (gu x (iA val has)))).length:=fun _=>hpu;obtain⟨hq1,hq2⟩:=hdev hsz;refine⟨JU.mk n.s.fl p.p.fl (gu x (iA val has)),?_⟩
  and_intros<;>first|exact cm|exact hfl|exact hpu|(intro h_;revert h_)|exact cn|skip
  rintro b2 ⟨q1,q2⟩;have he:((if jT (gu x (iA val has))=true then(0:Int)else 1) == 0)=true:=by rw[if_pos hpo];rfl
  refine⟨he,(nG n.s.fl (gu x (iA val has))).d,?_⟩
  and_intros<;>first|exact cm|exact hq1|exact hq2|(intro h_;revert h_)|exact cn|skip
  intro _ _;obtain⟨w1,w2⟩:=hat1.st.put q1 q2;have hat2:=hat1.store w1 w2;refine⟨o6.mk { n with rs:=n.rs.eraseIdx k,t:=mQ n.t x.tok } { p with rc:=c } x.w 0 (iA val has) has,?_⟩
  and_intros<;>first|exact cm|exact hkl|exact hv|(intro h_;revert h_)|exact cn|skip
  rintro⟨mc,rc⟩ _;refine⟨mV.mk { p with rc:=c,p:=p.p.A2 b2 } 0 mc rc,?_⟩;dsimp only;rw[eN];dsimp only[me]
  and_intros<;>first|exact cm|exact hat2|(intro h_;revert h_)|exact cn|skip
 ·have hf:mX n r x val has=false:=hb.symm.trans hbf;have eN:nP.q ⟨n,p,r,k,val,has⟩=me { n with rs:=n.rs.eraseIdx k,t:=mQ n.t x.tok } x.w 0 (iA val has) has:=by
   unfold nP.q UK mY;dsimp only;rw[<- hx,if_neg (by rw[hf];decide)]
  refine⟨o6.mk { n with rs:=n.rs.eraseIdx k,t:=mQ n.t x.tok } { p with rc:=c } x.w 0 (iA val has) has,?_⟩
  and_intros<;>first|exact cm|exact hkl|exact hv|(intro h_;revert h_)|exact cn|skip
  rintro⟨mc,rc⟩ _;refine⟨mV.mk { p with rc:=c } 0 mc rc,?_⟩;dsimp only;rw[eN];dsimp only[me]
  and_intros<;>first|exact cm|exact hat1|(intro h_;revert h_)|exact cn|skip)
theorem KC:ak (Y Tryz.prog).G.X 25 OH:=aU fF UL ⟨UJ,Uc,DK,Tm,iG,Ku,trivial⟩
def vc(n:cG)(ep:Int):MetaM:=⟨n.s.k.m.bO,ep,0,false⟩
def QT(n:cG)(ep tick:Int):cG:={ n with s:=MP (Em n.s) (vc n ep),le:=ov n.now ⟨0,0,0⟩ tick ep,t:=ij n.t yw,ws:=U2 }
structure o8 where
 n:cG
 p:iy
 l9:Int
 ep:Int
 tick:Int
 l:List Int
 cap:Nat
def o8.q(a:o8):cG:=QT a.n a.ep a.tick
structure ID where
 p:iy
 c1:Nat
 c2:Nat
def nq(ep:Int)(l:List Int)(c1 c2:Nat):Rg.fL:=⟨ep,l,c1,Rg.mU l,c2⟩
structure OJ(a:o8):Prop where
 at_:dI a.n a.p
 msg:AZ (tw a.n a.l9 a.ep a.tick)
 mem:Rg.jK a.l=true
 ws:a.n.ws=[]
 ep:1<=a.ep/\a.ep<=1099511627776/\a.n.s.k.m.aQ<a.ep/\a.n.s.k.m.ready=0
 now:a.n.now<1000000000000000
 x7:a.n.t.l.length<1000
 fl:sZ a.n.s.fl 1/\(gZ a.n.s.fl [2]).d.n<100000/\(gZ a.n.s.fl [2]).d.calls<900000000000
 k:a.n.s.k.s.at_+1<(Em a.n.s).d.n/\a.n.s.k.s.slot<=1/\(Em a.n.s).d.n<100000/\(Em a.n.s).d.calls<900000000000/\0<=a.n.s.k.s.fh/\a.n.s.k.s.fh<1000000000000
 save:gD a.n.s.k (vc a.n a.ep)=true
theorem oR.Zm{s s':lF}{p:tK}(h:oR s p){b:rU}(h1:ja s'.fl b)(h2:tS p.fl b)(hj:s'.jL=s.jL)(hm:s'.ms=s.ms):oR s' (p.A2 b)/\De p.H (br p.cy) (br p.jy) (p.A2 b):=by
 have hh:∀z∈br p.jy,b.H z=p.H z/\z∉br b.y:=fun z hz=>h2 z (h.jl.dom z hz) (h.sep z hz);exact⟨⟨⟨h1.log,h1.idx⟩,by rw[hj];exact h.jl.frame fun z hz=>(hh z hz).1,fun z hz=>(hh z hz).2,by rw[hm];exact h.cap⟩,fun z hz hc hjz=>⟨(h2 z hz hc).1,(h2 z hz hc).2,hjz⟩⟩
theorem QU{x:Ix.cH}(h:Ix.Has x []):Ix.keysOf x.t=[]:=by
 have:=h.perm.length_eq;unfold Ix.keysOf;rw[List.eq_nil_of_length_eq_zero this];rfl
noncomputable def OK:cC where
 α:=o8
 β:=ID
 m:=22
 m':=33
 pre:=OJ
 args:=fun a=>[.a (.ptr 0 0 0 0),.agg (Zl 2 (.int .i64 a.l9) (.int .i64 a.n.id) (.int .i64 a.ep) (.int .i64 a.tick) (.lit .i64 0) (.lit .i64 0) tj (.slc 21 0 1 a.l.length a.cap))]
 hp:=fun a=>Ky .nil .bV .bV 0 7 1 3 4 5 6 8 9 10 11 12 13 14 15 16 17 18 19 20 a.n a.p++[(1,U1 2 a.n.le)]
 ro:=fun a=>[(2,Ui a.n.now),(21,.arr 3 [.int .i64] a.l.length (aa Rg.encI a.l))]
 post:=fun a b=>dI a.q b.p
 res:=fun _ _=>.agg [.slc 31 0 21 0 0,.slc 32 0 6 0 0]
 cW:=fun a b=>Ky (.ptr 22 0 0 0) .bV .bV 0 7 1 3 4 26 6 8 9 10 11 27 28 14 15 16 17 18 29 30 a.q b.p++[(1,U1 2 a.q.le)]++OD 22 23 24 (nq a.ep a.l b.c1 b.c2)
noncomputable def Yc:List (Nat×cC):=[(55,OB),(56,Rg.yZ),(99,Iy),(142,MO),(100,HO),(151,Rg.Nf),(152,Rg.Na),(194,Ix.T2),(107,H7)]
def wA(x:o8)(y:ID):Rg.fL:=nq x.ep x.l y.c1 y.c2
theorem UM:fnBody (Y Tryz.prog) Yc 16 OK fun _=>[(16,[],[.X9 4 5 0 KA,.Wl 0 [(22,false),(48,true)] (.mk 60 [] [.X9 4 5 0 KA])]),(57,[],[.QM 0 28 false KA]),(98,[],[.Wl 0 [(20,false),(40,true)] (.mk 60 [] [.QM 0 40 true (.mk 60 [] [.X9 15 85 0 KA]),.X9 15 85 0 KA]),.X9 15 85 0 KA]),(104,[],[.X9 2 15 0 (.mk 60 [] [.QM 0 30 false KA]),.QM 0 30 false KA]),(103,[],[.QM 0 15 false KA])]:=fnBody.of (p :=
 ∀z:o8,OJ z->IA z.n False z.l9 z.ep z.tick z.l z.cap fun o=>bn (oT o)=false/\OF z.n z.l z.cap z.ep ((z.ep == z.n.s.k.m.aQ)=false) z.n.s.k.m.ready (aB (z.ep != z.n.s.k.m.ready)/\∃u:Ov,az (az (tO z.n.s.cL u.m.L z.p.p.cy.lv u.p.y.lv (gz z.n.s.d u.m.d (zK z.p.p.x u.p.x z.p.p.xc u.p.cap (z.p.p.H=u.p.H/\(ja u.m u.p/\sZ u.m 1/\jF (gZ u.m (nK 2)).d)/\∀g:rU,ja (jf u.m) g/\tS u.p g->ah z.n.s.k.m.bO->∃w:HN,ag (Dd z.n.s.k.m.bO w.m z.ep (0=0) (Fh z.n.s.k w.k z.p.p.kc w.cap (gz (jf u.m).d w.d (z7 w/\∀r:Nat,True->lp z.ep 1 False 1099511627776 (Exists (rz z.l z.cap fun c=>aI (bn (Rg.jK c.l)=false/\Exists (rz z.l z.cap fun A=>∀B:Nat,True->Exists (rz z.l z.cap fun C=>∀D:Nat,True->∃i:Ix.tR,ag (zK g.x i.x g.cap i.cap (bG i.x<100000/\∀F:Nat,True->af (aT (Ix.keysOf i.x.t))=(0:Int)/\∃v:Kj,ag (xE z.n v.t z.p v.mb g.H v.H (gq v.H v.t/\v.t.l.length<100000) (∀j:PH×Int,(xA j v.t yw fun E=>v.H E)->af z.n.ws.length=(0:Int)/\(ah z.tick->ah z.ep->∃h:yC,ag (z.tick=h.sent/\z.ep=h.ep/\Fy 0 h.l 0 0 (z.n.now=h.now) (h.now<(1000000000000000:Int)/\aI (∃f:ID,ag (0=0)/\ag (0=0)/\j.fst=f.p.p.H/\eV v.mb (ij v.t yw)=eV f.p.mb z.q.t/\iz z.n z.q (az (jd (0=z.q.ws.length/\0=f.p.wc) z.n.rs z.q z.p.rc f.p z.n.asked ((ij v.t yw).last=z.q.t.last /\
 iQ v.mb f.p.mb/\z.q.ws.length=0/\mW z.q.rs z.n.rs/\ag (o7 (xF h) z.q.le (z.ep=Rg.fL.e (wA z f)) (qs A.l (wA z f) B (Rg.mU C.l) D (az (ag (z.n.s.bO=z.q.s.bO/\Aa (jf u.m) z.q.s g f.p.p (ig w.k w.d w.m) z.n.s.ms z.p.p.jc z.n.s.jL z.p.p.jy (mO w.k w.m) r (dI z.q f.p/\True)))))))))))))))))))))))))))))))) (∃u:ID,ag (0=0)/\ag (0=0)/\nO z.p u.p z.n z.q (iz z.n z.q False))) (by kernel_rfl) (by
 delta aD av aK ah eV bW iQ aF bG o7 af aT bK kT cz aX aB wA fR Fy cV qq OF cq iY aI bT bp dP jF DJ lT mW cw Aa qm oT ag jd nO cN uX az rz bn IA nK z7 fH ko xE xA qs Dd lp iz xF
 try dsimp -iota -proj only
 intro a ok;obtain⟨n,p,l9,ep,tick,l,cap⟩:=a;obtain⟨hat,hm,hl,hws,⟨e1,e2,e3,e4⟩,hnow,hfew,⟨f1,f2,f3⟩,⟨k1,k2,k3,k4,k5,k6⟩,hsv⟩:=ok;dsimp only at *;have ho:l=[]\/Rg.jK l=true:=.inr hl;have hl1:l.length<100000:=by have:=Rg.yy hl;omega
 have hz:(!decide ((tw n l9 ep tick).key.size<=40))=false:=rfl;have hne:(ep == n.s.k.m.aQ)=false:=by rw[beq_eq_false_iff_ne];omega
 refine fun _ _=>⟨fun c=>by simp at c,fun _=>⟨A0.mk (tw n l9 ep tick) l cap,?_⟩⟩
 and_intros<;>first|exact cm|exact hm|exact ho|(intro h_;revert h_)|exact cn|skip
 intro _ _;refine⟨hz,e4,⟨l,cap⟩,?_⟩
 and_intros<;>first|exact cm|exact hl1|(intro h_;revert h_)|exact cn|skip
 intro _ _;refine⟨fun _ _=>⟨fun c=>by(have:=of_decide_eq_true c;omega),fun _ _=>⟨fun c=>absurd (c.symm.trans hne) (by decide),fun _ _ _=>⟨hne,fun _=>⟨?_,Ov.mk n.s.fl p.p.fl,?_⟩⟩⟩⟩,fun c=>by(rw[hl]at c;cases c)⟩
 ·rw[e4];simp;omega
 have hfl:ja n.s.fl p.p.fl:=hat.st.fl;have f4:(gZ n.s.fl [2]).d.calls<1000000000000:=by omega
 and_intros<;>first|exact cm|exact hfl|exact f1|exact f2|exact f4|(intro h_;revert h_)|exact cn|skip
 rintro b ⟨b1,b2⟩ _;refine⟨HN.mk n.s.k p.p.kc (jf n.s.fl).d (vc n ep),?_⟩
 and_intros<;>first|exact cm|exact k1|exact k2|exact k3|exact k4|exact k5|exact k6|(intro h_;revert h_)|exact cn|skip
 intro kc _;have hN:(!Rg.jK l)=false:=by rw[hl];rfl
 refine⟨fun c=>by(have:=of_decide_eq_true c;omega),fun _=>⟨fun c=>by(have:=of_decide_eq_true c;omega),fun _=>⟨⟨l,cap⟩,?_⟩⟩⟩
 and_intros<;>first|exact cm|exact hl1|(intro h_;revert h_)|exact cn|skip
 intro _ _;refine⟨hN,⟨l,cap⟩,?_⟩
 and_intros<;>first|exact cm|exact hl1|(intro h_;revert h_)|exact cn|skip
 intro c1 _;refine⟨⟨l,cap⟩,?_⟩
 and_intros<;>first|exact cm|exact hl1|(intro h_;revert h_)|exact cn|skip
 intro c2 _;have hks:=QU b1.idx;have hlen:b.x.t.length<100000:=by have:=b1.idx.inv.hi;omega
 refine⟨Ix.tR.mk b.x b.cap tj,?_⟩
 and_intros<;>first|exact cm|exact hlen|(intro h_;revert h_)|exact cn|skip
 intro _ _;have hk0:((Ix.keysOf b.x.t).length:Int)=0:=by rw[hks];rfl
 obtain⟨w1,w2⟩:=hat.st.Zm (s':=Em n.s) b1 b2 rfl rfl;have w3:oR (MP (Em n.s) (vc n ep)) { p.p.A2 b with kc:=kc }:=⟨⟨w1.fl.log,w1.fl.idx⟩,w1.jl,w1.sep,w1.cap⟩
 have hat1:=hat.store w3 w2;have hf2:n.t.l.length<100000:=by omega
 have htk:gq b.H n.t:=hat1.tok;refine⟨hk0,Kj.mk p.mb n.t b.H,?_⟩
 and_intros<;>first|exact cm|exact htk|exact hf2|(intro h_;revert h_)|exact cn|skip
 rintro⟨H1,cnt⟩ ⟨q1,q2⟩;have hat2:=hat1.WK q1 q2;have hw0:(n.ws.length:Int)=0:=by rw[hws];rfl
 refine⟨hw0,fun _ _=>⟨yC.mk ⟨0,0,0⟩ n.now tick ep,?_⟩⟩
 and_intros<;>first|exact cm|exact hnow|(intro h_;revert h_)|exact cn|skip
 intro _ _;refine⟨ID.mk ⟨{ p.p.A2 b with kc:=kc,H:=H1 },p.mb,0,p.rc⟩ c1 c2,?_⟩;have hat3:dI (QT n ep tick) ⟨{ p.p.A2 b with kc:=kc,H:=H1 },p.mb,0,p.rc⟩:=⟨hat2.st,hat2.tok,hat2.sep,Nat.le_refl 0,hat2.rc⟩
 have eN:o8.q ⟨n,p,l9,ep,tick,l,cap⟩=QT n ep tick:=rfl;rw[eN];dsimp only
 and_intros<;>first|exact cm|exact hat3|(intro h_;revert h_)|exact cn|skip)
theorem KD:ak (Y Tryz.prog).G.X 16 OK:=aU fF UM ⟨Kt,Rg.pq,FF,Qm,Fi,Rg.QJ,Rg.QD,Ix.T4,MY,trivial⟩
structure jg(n:cG)(k:Nat)(get:ByteArray->Option aG)(cb jb:Nat):Prop where
 one:∃c es,dM n.s c es cb jb/\gE es=get/\c<=2000+100*k
 lt:k<100
 met:n.s.k.m.ready=0/\n.s.k.m.frozen=false/\0<=n.s.k.m.bO/\n.s.k.m.bO<1000/\0<=n.s.k.m.aQ/\n.s.k.m.aQ<1000
 id:1<=n.id/\n.id<=5
 now:0<=n.now/\n.now<1000
 num:0<=n.asked/\n.asked<=k/\0<=n.t.last/\n.t.last<=k/\n.t.l.length<=k/\n.ws.length<=k/\n.rs.length<=k
 rs:∀x∈n.rs,dS x.w.key=true/\0<=x.tok/\x.tok<=k
theorem dM.wide{s:lF}{n:Nat}{es:List (Option aG)}{cb jb:Nat}(h:dM s n es cb jb){cb':Nat}(hc:cb<=cb'):dM s n es cb' jb:=by
 obtain⟨cr,h1,h2⟩:=h.fl;exact⟨⟨cr,h1,by omega⟩,h.jl,h.jb,h.ms,h.nx,h.XI,h.dn,h.keep,h.bO⟩
theorem jg.make{id now:Int}{d:bz}(h1:1<=id/\id<=5)(h2:0<=now/\now<1000)(hn:192<=d.n/\d.n<1500)(hc:d.calls=0)(H:PH):Dz.pre ⟨id,now,d,H⟩/\jg (pP ⟨id,now,d,H⟩) 0 (fun _=>none) 0 0:=by
 obtain⟨m1,m2,m3,m4,_⟩:=xK (c:=0) (show 192<=d.n/\d.n<3000 by omega) (by omega) (by omega) H;have hm:(pP ⟨id,now,d,H⟩).s.k.m=⟨1,0,0,false⟩:=m3;refine⟨⟨h1.1,h1.2,m1⟩,⟨_,_,m2,rfl,by omega⟩,by omega,by rw[hm];decide,h1,h2,?_,fun x hx=>by cases hx⟩;exact⟨Int.le_refl 0,Int.le_refl 0,Int.le_refl 0,Int.le_refl 0,Nat.le_refl 0,Nat.le_refl 0,Nat.le_refl 0⟩
theorem Yd:FC 0:=⟨Int.le_refl 0,by decide⟩
theorem KE{n:cG}{l9 ep tick:Int}(hf:0<=l9/\l9<=5/\l9≠n.id)(hid:1<=n.id/\n.id<=5)(he:0<=ep/\ep<1000)(ht:0<=tick/\tick<1000):AZ (tw n l9 ep tick) :=
 ⟨(show(1:Int)<=2/\(2:Int)<=14 by omega),hf.2.2,⟨hf.1,hf.2.1⟩,(show 0<=n.id/\n.id<=5 by omega),(show 0<=ep/\ep<=_ by omega),(show 0<=tick/\tick<=_ by omega),Yd,Yd,Yd,(show(0:Int)<=0/\(0:Int)<=1073741824 by omega),(show(0:Int)<=0/\(0:Int)<=2 by omega),(show(0:Int)<=0/\(0:Int)<=10 by omega),.inl rfl⟩
theorem jg.gr{n:cG}{p:iy}{k:Nat}{get:ByteArray->Option aG}{cb jb:Nat}(h:jg n k get cb jb)(hat:dI n p){l9 ep tick:Int}{l:List Int}{cap:Nat}(hf:0<=l9/\l9<=5/\l9≠n.id)(he:n.s.k.m.aQ<ep/\ep<1000)(ht:0<=tick/\tick<1000)(hl:Rg.jK l=true)(hw:n.ws=[])(hfit:cb+9<=378)(hk:k<99) :
 OJ ⟨n,p,l9,ep,tick,l,cap⟩/\jg (QT n ep tick) (k+1) (fun _=>none) (cb+9) jb/\(QT n ep tick).s.k.m.aQ=ep:=by
 obtain⟨c,es,o1,o2,o3⟩:=h.one;have hn:=h.num;have hm:=h.met;have hid:=h.id;have hnw:=h.now;obtain⟨w1,w2,w3,w4⟩:=o1.XN (by omega) hfit;have hms:mZ (vc n ep)=true:=by
  have a1:Bb n.s.k.m.bO=true:=by simp only[Bb,Bool.and_eq_true,decide_eq_true_eq];omega
  have a2:Bb ep=true:=by simp only[Bb,Bool.and_eq_true,decide_eq_true_eq];omega
  unfold mZ vc;dsimp only;rw[a1,a2];rfl
 have hsv:gD n.s.k (vc n ep)=true:=by
  unfold gD;rw[hms,show decide ((vc n ep).bO<n.s.k.m.bO)=false from decide_eq_false (by show ¬(n.s.k.m.bO<n.s.k.m.bO);omega),show decide ((vc n ep).aQ<n.s.k.m.aQ)=false from decide_eq_false (by show ¬(ep<n.s.k.m.aQ);omega)];rfl
 obtain⟨s1,s2,s3,s4⟩:=w1.save (m:=vc n ep) hsv (by show n.s.k.m.bO=n.s.bO;exact o1.bO.symm) (by omega);obtain⟨cr,hfl,hcb⟩:=w1.fl;have hcl:(Em n.s).d.calls<=c+21:=hfl.one.log.calls;have hcl2:(Em n.s).d.calls=(gZ n.s.fl [2]).d.calls+1:=rfl;have hdn:=w1.dn;have hkp:=o1.keep;have hms2:(QT n ep tick).s.k.m=vc n ep:=s2;refine⟨⟨hat,KE (n:=n) (l9:=l9) (ep:=ep) (tick:=tick) hf hid ⟨by omega,by omega⟩ (by omega),hl,hw,by dsimp only;omega,by dsimp only;omega,by dsimp only;omega,⟨w2,w3,by dsimp only;omega⟩,⟨by have:=hkp.at_;dsimp only;omega,hkp.slot,by dsimp only;omega,by dsimp only;omega,by have:=hkp.fh;dsimp only;omega,by have:=hkp.fh;dsimp only;omega⟩,hsv⟩,⟨⟨_,_,s1,by funext q;exact Wd _ q,by omega⟩,by omega,by rw[hms2];exact⟨rfl,rfl,hm.2.2.1,hm.2.2.2.1,by show 0<=ep;omega,he.2⟩,hid,hnw,⟨hn.1,by show n.asked<=_;push_cast;omega,hn.2.2.1,by show n.t.last<=_;push_cast;omega,by show(ij n.t yw).l.length<=_;unfold ij;rw[List.length_map];omega,Nat.zero_le _,by show n.rs.length<=_;omega⟩,fun x hx=>by have:=h.rs x hx;exact⟨this.1,this.2.1,by push_cast;omega⟩⟩,by rw[hms2];rfl⟩
theorem FG{k:ByteArray}(h:k.size<64):(aJ (some (iH k))).length=k.size+5:=Dk (x:=iH k) h (by show(0:Nat)<64;omega) rfl
theorem DS{s:Nat}(h:s<63)(k:ByteArray):(dH ((s:Int)+1) k).length=k.size+1:=by
 unfold dH;rw[List.length_append,iU,Dj (by omega)];omega
theorem jg.ask{n:cG}{p:iy}{r:Rg.fL}{w:nL}{k:Nat}{get:ByteArray->Option aG}{cb jb:Nat}(h:jg n k get cb jb)(hat:dI n p)(hr:r.L.length<100000/\0<r.L.length)(hk:w.key.size<=aq)(hkill:w.op=2->dS w.key=true->cb+(w.key.size+13)<=378/\jb+(w.key.size+9)<=378):qL ⟨n,p,r,w,get w.key⟩:=by
 obtain⟨c,es,o1,o2,o3⟩:=h.one;subst o2;have hn:=h.num;have hm:=h.met;have hkk:=h.lt;have hb:=o1.bO;obtain⟨g1,g2⟩:=o1.get w.key;refine⟨hat,hr,hk,hm.2.1,by dsimp only;omega,by dsimp only;omega,by dsimp only;omega,g1,g2,fun h1 h2=>?_⟩;have h2:dS w.key=true:=h2;obtain⟨f1,f2⟩:=hkill h1 h2;have hl:=o1.len;have hks:=oh h2;have hA:fI [w.key]=true:=by simp[fI,h2]
 have h0:∀i,i < [w.key].length->gl [w.key] i=w.key:=fun i hi=>by
  have:i=0:=by simp at hi;omega
  subst this;rfl
 have hwj:∀i,i < [w.key].length->8+(dH (n.s.ms.length+i+1) (gl [w.key] i)).length<=w.key.size+9:=fun i hi=>by
  have:i=0:=by simpa using hi
  subst this;have e:((n.s.ms.length:Int)+((0:Nat):Int)+1)=(n.s.ms.length:Int)+1:=by omega
  rw[h0 0 (by simp),e,DS (s:=n.s.ms.length) (by omega) w.key];omega
 have hwc:∀i,i < [w.key].length->8+(aJ (some (iH (gl [w.key] i)))).length<=w.key.size+13:=fun i hi=>by(rw[h0 i hi,FG (k:=w.key) (by omega)];exact(show 8+(w.key.size+5)<=w.key.size+13 by omega))
 have hK:=(o1.kill (ks:=[w.key]) hA (wj:=w.key.size+9) (wc:=w.key.size+13) hwj hwc (by omega) (by rw[List.length_singleton];omega) (by rw[List.length_singleton];omega) (by rw[List.length_singleton];omega)).1;exact hK p.p 1
theorem jg.kill{n:cG}{key:ByteArray}{k:Nat}{get:ByteArray->Option aG}{cb jb:Nat}(h:jg n k get cb jb)(hk:dS key=true)(f1:cb+(key.size+13)<=378)(f2:jb+(key.size+9)<=378)(h99:k<99):jg (r5 n key) (k+1) (vP get key none) (cb+(key.size+13)) (jb+(key.size+9))/\(r5 n key).s.k=n.s.k:=by
 obtain⟨c,es,o1,o2,o3⟩:=h.one;subst o2;have hn:=h.num;have hl:=o1.len;have hks:=oh hk;have hA:fI [key]=true:=by simp[fI,hk]
 have h0:∀i,i < [key].length->gl [key] i=key:=fun i hi=>by
  have:i=0:=by simp at hi;omega
  subst this;rfl
 have hwj:∀i,i < [key].length->8+(dH (n.s.ms.length+i+1) (gl [key] i)).length<=key.size+9:=fun i hi=>by
  have:i=0:=by simpa using hi
  subst this;have e:((n.s.ms.length:Int)+((0:Nat):Int)+1)=(n.s.ms.length:Int)+1:=by omega
  rw[h0 0 (by simp),e,DS (s:=n.s.ms.length) (by omega) key];omega
 have hK:=(o1.kill hA (wj:=key.size+9) (wc:=key.size+13) hwj (fun i hi=>by rw[h0 i hi,FG (k:=key) (by omega)];omega) (by omega) (by rw[List.length_singleton];omega) (by rw[List.length_singleton];omega) (by rw[List.length_singleton];omega)).2;have hk2:(r5 n key).s.k=n.s.k:=hK.k.1;have h1:=hK.one;simp only[List.length_singleton,Nat.mul_one,List.map_cons,List.map_nil]at h1;refine⟨⟨⟨_,_,h1,?_,by omega⟩,by omega,by rw[hk2];exact h.met,h.id,h.now,⟨hn.1,by show n.asked<=_;push_cast;omega,hn.2.2.1,by show n.t.last<=_;push_cast;omega,by show(ij n.t _).l.length<=_;unfold ij;rw[List.length_map];omega,by show n.ws.length<=_;omega,by show n.rs.length<=_;omega⟩,fun x hx=>by have:=h.rs x hx;exact⟨this.1,this.2.1,by push_cast;omega⟩⟩,hk2⟩;rw[vI];rfl
theorem jg.read{n:cG}{w:nL}{b:Nat}{k:Nat}{get:ByteArray->Option aG}{cb jb:Nat}(h:jg n k get cb jb)(hk:dS w.key=true)(h99:k<99):jg (iJ n w b) (k+1) get cb jb:=by
 obtain⟨c,es,o1,o2,o3⟩:=h.one;have hn:=h.num;refine⟨⟨c,es,o1,o2,by omega⟩,by omega,h.met,h.id,h.now,⟨hn.1,by show n.asked<=_;push_cast;omega,by show 0<=n.t.last+1;omega,by show n.t.last+1<=_;push_cast;omega,by show(n.t.l++[_]).length<=_;rw[List.length_append,List.length_singleton];omega,by show n.ws.length<=_;omega,by show(n.rs++[_]).length<=_;rw[List.length_append,List.length_singleton];omega⟩,fun x hx=>?_⟩;rcases List.mem_append.1 hx with hx|hx
 ·have:=h.rs x hx;exact⟨this.1,this.2.1,by push_cast;omega⟩
 ·rw[List.mem_singleton]at hx;subst hx;exact⟨hk,by show 0<=n.t.last+1;omega,by show n.t.last+1<=_;push_cast;omega⟩
theorem jg.red{n:cG}{p:iy}{r:Rg.fL}{i:Nat}{val:ByteArray}{has:Bool}{k:Nat}{get:ByteArray->Option aG}{cb jb:Nat}(h:jg n k get cb jb)(hat:dI n p)(hr:r.L.length<100000/\0<r.L.length)(hi:i<n.rs.length)(hv:val.size<64)(hfit:cb+((gl n.rs i).w.key.size+val.size+13)<=378)(h99:k<99) :
 KB ⟨n,p,r,i,val,has⟩/\jg (mY n r i val has) (k+1) (if mX n r (gl n.rs i) val has=true then vP get (gl n.rs i).w.key (some (gu (gl n.rs i) (iA val has)))else get) (cb+((gl n.rs i).w.key.size+val.size+13)) jb/\(mY n r i val has).s.k=n.s.k:=by
 obtain⟨c,es,o1,o2,o3⟩:=h.one;subst o2;have hn:=h.num;have hmem:gl n.rs i∈n.rs:=by rw[bR hi];exact List.getElem_mem _
 obtain⟨x1,x2,x3⟩:=h.rs _ hmem;obtain⟨x,hx⟩:∃x,x=gl n.rs i:=⟨_,rfl⟩
 rw[<- hx]at x1 x2 x3 hfit ⊢;have hks:=oh x1;have hvs:(iA val has).size<=val.size:=by
  unfold iA;cases has
  ·exact Nat.zero_le _
  ·exact Nat.le_refl _
 have hlen:(aJ (some (gu x (iA val has)))).length=x.w.key.size+(iA val has).size+5:=Dk (x:=gu x (iA val has)) (by show x.w.key.size<64;omega) (by show(iA val has).size<64;omega) rfl;have hpo:jT (gu x (iA val has))=true:=DR x1 (by omega);obtain⟨p1,p2⟩:=o1.put hpo (w:=x.w.key.size+val.size+13) (by rw[hlen];omega) (by omega) hfit;obtain⟨cr,hfl,hcb⟩:=p1.fl;have hcl:(J9 n.s (gu x (iA val has))).d.calls<=c+20:=hfl.one.log.calls;have hdn:=p1.dn;have hrd:nP.rd ⟨n,p,r,i,val,has⟩=x:=hx.symm;have hsz:∀(a b:cG),a.rs=n.rs.eraseIdx i->a.rs.length<=k:=fun a _ e=>by rw[e,List.length_eraseIdx];split<;>omega
 have hul:(mQ n.t x.tok).l.length<=k:=Nat.le_trans (List.length_filter_le _ _) (by omega);have hrs:∀y∈n.rs.eraseIdx i,dS y.w.key=true/\0<=y.tok/\y.tok<=((k+1:Nat):Int):=fun y hy=>by
  have:=h.rs y (List.eraseIdx_subset hy);exact⟨this.1,this.2.1,by push_cast;omega⟩
 have hel:(n.rs.eraseIdx i).length<=k:=by rw[List.length_eraseIdx];split<;>omega
 have hnum:0<=n.asked/\n.asked<=((k+1:Nat):Int)/\0<=n.t.last/\n.t.last<=((k+1:Nat):Int)/\(mQ n.t x.tok).l.length<=k+1/\n.ws.length<=k+1/\(n.rs.eraseIdx i).length<=k+1:=by push_cast;omega
 refine⟨⟨hat,hr,h.met.2.1,hi,by dsimp only;omega,by rw[hrd];simp only[bQ];omega,by rw[hrd];exact x1,by show val.size<=aq;unfold aq;omega,fun _=>by rw[hrd];exact p2,fun _=>by rw[hrd];dsimp only;omega⟩,?_⟩;by_cases hf:mX n r x val has=true
 ·have eT:mY n r i val has={ n with rs:=n.rs.eraseIdx i,t:=mQ n.t x.tok,s:=WG (J9 n.s (gu x (iA val has))) }:=by unfold mY;rw[<- hx,if_pos hf]
  rw[if_pos hf,eT];exact⟨⟨⟨_,_,p1.flush,by rw[vI];rfl,by omega⟩,by omega,h.met,h.id,h.now,hnum,hrs⟩,rfl⟩
 ·have eT:mY n r i val has={ n with rs:=n.rs.eraseIdx i,t:=mQ n.t x.tok }:=by unfold mY;rw[<- hx,if_neg hf]
  rw[if_neg hf,eT];exact⟨⟨⟨c,es,o1.wide (by omega),rfl,by omega⟩,by omega,h.met,h.id,h.now,hnum,hrs⟩,rfl⟩
def BA(n:cG)(r:Rg.fL):Prop:=∀k,eF n r k=true
theorem OL{L:List (Int×Int)}{i:Int}(h0:0<L.length)(h:∀e∈L,e.2=i)(x:Int):Rg.xD L x=i:=by
 unfold Rg.xD;cases hf:L.find? (fun e=>decide (x<=e.1))with
 |some e=>exact h e (List.mem_of_find?_eq_some hf)
 |none=>exact h _ (by rw[bR h0];exact List.getElem_mem _)
theorem yD{i:Int}(h:1<=i/\i<=5):(Rg.mU [i]).length=8/\∀e∈Rg.mU [i],e.2=i:=by
 have hm:=Rg.Ut h.1 h.2;refine⟨Rg.Im hm,fun e he=>?_⟩;have he:=(Rg.DG hm).mem_iff.1 he;unfold Rg.fJ at he;rw[List.flatMap_cons,List.flatMap_nil,List.append_nil]at he;exact Rg.Ur he
theorem OM{ep:Int}{i:Int}{c1 c2:Nat}(h:1<=i/\i<=5):(nq ep [i] c1 c2).L.length<100000/\0<(nq ep [i] c1 c2).L.length:=by
 have:=(yD h).1;show(Rg.mU [i]).length<100000/\0<(Rg.mU [i]).length;omega
theorem BA.alone{n:cG}{ep:Int}{c1 c2:Nat}(h:1<=n.id/\n.id<=5)(hg:wq n.le n.now n.s.k.m.aQ=true):BA n (nq ep [n.id] c1 c2):=fun k=>by
 have e:u9 (nq ep [n.id] c1 c2) k=n.id:=OL (by show 0<(Rg.mU [n.id]).length;rw[(yD h).1];decide) (yD h).2 _;unfold eF;rw[e,hg];simp
theorem KF{now tick ep:Int}(h1:1<=ep)(h2:0<=tick)(h3:tick<=now)(h4:now-tick<20):ov now ⟨0,0,0⟩ tick ep=⟨ep,tick+20,ep⟩:=by
 have e:tv now ⟨0,0,0⟩ tick ep=false:=by
  simp only[tv,Bool.or_eq_false_iff,decide_eq_false_iff_not];omega
 unfold ov;rw[e,if_neg (by decide),if_neg (by dsimp only;omega)]
theorem KG{now tick ep:Int}(h1:1<=ep)(h4:now-tick<20):wq ⟨ep,tick+20,ep⟩ now ep=true:=by
 simp only[wq,Bool.and_eq_true,decide_eq_true_eq];refine⟨by omega,trivial,by omega⟩
theorem BA.gr{n:cG}{ep tick:Int}{c1 c2:Nat}(h:1<=n.id/\n.id<=5)(h1:1<=ep)(h2:0<=tick)(h3:tick<=n.now)(h4:n.now-tick<20)(he:(QT n ep tick).s.k.m.aQ=ep):BA (QT n ep tick) (nq ep [n.id] c1 c2) :=
 BA.alone (n:=QT n ep tick) h (by
  rw[he];show wq (ov n.now ⟨0,0,0⟩ tick ep) n.now ep=true;rw[KF h1 h2 h3 h4];exact KG h1 h4)
theorem BA.own{n:cG}{r:Rg.fL}(h:BA n r)(k:ByteArray):¬u9 r k≠n.id:=by
 have:=h k;unfold eF at this;simp only[Bool.and_eq_true,decide_eq_true_eq]at this;exact fun hn=>hn this.1
theorem BA.same{n m:cG}{r:Rg.fL}(h:BA n r)(h1:m.id=n.id)(h2:m.le=n.le)(h3:m.now=n.now)(h4:m.s.k.m.aQ=n.s.k.m.aQ):BA m r:=fun k=>by
 have:=h k;unfold eF at this ⊢;rw[h1,h2,h3,h4];exact this
theorem KH{n:cG}{r:Rg.fL}{w:nL}{g:Option aG}{b:Nat}(hs:BA n r)(hb:r4 w=false)(ho:w.op=1)(hg:nH g n.now=none):jA n r w g b=⟨iJ n w b,[],[]⟩:=by
 unfold jA;rw[if_neg (by rw[hb];decide),if_neg (hs.own _),if_neg (by rw[hs];decide),if_neg (by omega),hg]
theorem IE{n:cG}{r:Rg.fL}{w:nL}{g:Option aG}{b:Nat}{x:aG}(hs:BA n r)(hb:r4 w=false)(ho:w.op=1)(hg:nH g n.now=some x):jA n r w g b=me n w 0 x.val true:=by
 unfold jA;rw[if_neg (by rw[hb];decide),if_neg (hs.own _),if_neg (by rw[hs];decide),if_neg (by omega),hg]
theorem UN{n:cG}{r:Rg.fL}{w:nL}{g:Option aG}{b:Nat}(hs:BA n r)(hb:r4 w=false)(ho:w.op=2):jA n r w g b=me (r5 n w.key) w 0 tj false:=by
 unfold jA;rw[if_neg (by rw[hb];decide),if_neg (hs.own _),if_neg (by rw[hs];decide),if_pos ho]
theorem KI{x:gV}{v:ByteArray}(now:Int)(hk:dS x.w.key=true)(hv:v.size<=200):nH (some (gu x v)) now=some (gu x v):=by
 have:uC (gu x v) now=true:=by simp[uC,fV,gu,hk,hv]
 simp[nH,this]
theorem UO{H:PH}{t:jJ}(h:gq H t)(key:ByteArray)(b:Nat):u5 (qJ t key b) (t.last+1)=some ⟨t.last+1,b,key,true,t.dJ⟩:=by
 unfold u5 qJ;dsimp only;rw[List.find?_append,List.find?_eq_none.2 fun e he=>by
  have:=(h.id e he).2.1;simp;omega]
 simp
theorem Ep{n:cG}{p:iy}(hat:dI n p)(w:nL)(b:Nat):OG (iJ n w b) ⟨w,n.t.last+1⟩=true:=by
 unfold OG iJ;dsimp only;rw[UO hat.tok]
theorem KJ{n:cG}{p:iy}{r:Rg.fL}(hat:dI n p)(hs:BA n r)(w:nL)(b:Nat){v:ByteArray}(hv:v.size<=200):mX (iJ n w b) r ⟨w,n.t.last+1⟩ v true=true:=by
 have hs2:BA (iJ n w b) r:=hs.same rfl rfl rfl rfl;unfold mX;rw[Ep hat,hs2,show iA v true=v from rfl,decide_eq_true hv];rfl
theorem xG{w:nL}(ho:w.op=1\/w.op=2)(hk:dS w.key=true):r4 w=false:=by
 unfold r4;rcases ho with ho|ho<;>simp[ho,hk]
theorem UP{n:cG}{r:Rg.fL}{w:nL}{g:Option aG}{b:Nat}(ho:u9 r w.key=n.id)(hs:eF n r w.key=false)(hb:r4 w=false):jA n r w g b=me n w 6 tj false:=by
 unfold jA;rw[if_neg (by rw[hb];decide),if_neg (fun h=>h ho),if_pos hs]
theorem jg.tick{n:cG}{k:Nat}{get:ByteArray->Option aG}{cb jb:Nat}(h:jg n k get cb jb){w:Int}(hw:0<=w/\w<1000)(le:nM):jg { n with now:=w,le:=le } k get cb jb:=⟨h.one,h.lt,h.met,h.id,hw,h.num,h.rs⟩
theorem dI.tick{n:cG}{p:iy}(h:dI n p)(w:Int)(le:nM):dI { n with now:=w,le:=le } p:=⟨h.st,h.tok,h.sep,h.wc,h.rc⟩
theorem QV{ep:Int}{i:Int}{c1 c2:Nat}(h:1<=i/\i<=5)(k:ByteArray):u9 (nq ep [i] c1 c2) k=i:=OL (by show 0<(Rg.mU [i]).length;rw[(yD h).1];decide) (yD h).2 _
theorem vJ{n:cG}{r:Rg.fL}{k:ByteArray}(h:u9 r k=n.id):eF n r k=wq n.le n.now n.s.k.m.aQ:=by
 unfold eF;rw[h];simp
end Go.Proofs.YtfjgoonelcaggaaGreat
