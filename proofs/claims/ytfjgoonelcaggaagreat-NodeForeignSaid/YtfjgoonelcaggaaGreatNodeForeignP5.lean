/-
  
-/
import Derived.Test.YtfjgoonelcaggaaGreatNodeForeignP4
import Derived.Sort.KeysCollected
import Derived.Test.YtfjgoonelcaggaaGreatNodeForeignP2
import Derived.Below
import Derived.ChangeSame
import Derived.Carry
import Derived.ChangeArms
import Derived.OpenShut
import Derived.RowKit3
import Derived.Test.YtfjgoonelcaggaaGreatNodeForeignP3
import Derived.Shelf.SlSortCmp.WholeK
import Derived.Shelf.SlSortCmp.NoneTotal
import Derived.Test.YtfjgoonelcaggaaGreatProg
import Derived.ProofKit
import Derived.WalkKit
set_option maxRecDepth 100000
set_option maxHeartbeats 4000000
set_option linter.unusedVariables false
set_option linter.unusedSimpArgs false
namespace Go.Proofs.YtfjgoonelcaggaaGreat.Ix
open Go.Sx
def kF(b:ByteArray):List Value:=[.string b]
def tl(b:ByteArray):List UInt8:=b.data.toList
def wM(l:List ByteArray):List ByteArray:=((l.map tl).mergeSort fun x y=>decide (x<=y)).map fun x=>⟨x.toArray⟩
theorem QS(l:List ByteArray):(wM l).map tl=(l.map tl).mergeSort fun x y=>decide (x<=y):=by
 unfold wM;rw[List.map_map];exact(List.map_congr_left fun x _=>by simp[tl]).trans (List.map_id _)
theorem Ir(l:List ByteArray):(wM l).length=l.length:=by simp[wM]
theorem Kz(l:List ByteArray):(l.map tl).map (fun x=>(⟨x.toArray⟩:ByteArray))=l:=by
 rw[List.map_map];refine(List.map_congr_left fun x _=>?_).trans (List.map_id _);cases x;simp[tl]
theorem Nd(l:List ByteArray):(wM l).Perm l:=by
 have:=(List.mergeSort_perm (l.map tl) fun x y=>decide (x<=y)).map fun x=>(⟨x.toArray⟩:ByteArray)
 rwa[Kz]at this
theorem UC:au (Y Tryz.prog).G.X 227 (yM 9 .str Value.string wM):=fun _ _ _ h =>
 vR (UB (enc2:=encStr) (to:=tl) (srt2:=fun l=>l.mergeSort fun x y=>decide (x<=y)) (fun x=>by cases x;simp[tl,encStr]) QS Ir (fun l x hx=>(Nd l).mem_iff.1 hx)
  (fun blk off cap l w h1 h2 h3=>Tryz.slices_Sort_string blk off cap l w h1 h2 h3) (fun p cap w=>Tryz.slices_Sort_string_none p cap w)) h
def keysOf(t:List bp):List ByteArray:=(eM t).map Prod.fst
noncomputable def UD:cE where
 α:=uh
 β:=Nat
 m:=2
 m':=3
 pre:=fun a=>a.x.t.length<100000
 args:=fun _=>[.a (.ptr 0 0 0 0)]
 hp:=fun _=>[]
 ro:=fun a=>pM 0 1 a.x.t a.cap a.x.n a.x.used
 post:=fun _ _=>True
 res:=fun a cap=>.a (.slc 2 0 1 (keysOf a.x.t).length cap)
 cZ:=fun a _=>[(2,.arr 9 [.str] (keysOf a.x.t).length (aa kF (wM (keysOf a.x.t))))]
def ZO(a:uh):An:=.flat 5 (Nat×Nat) (fun s x=>((s.new (.arr 9 [.str] (keysOf (a.x.t.take x.1)).length (aa kF (keysOf (a.x.t.take x.1))))).set 3 (.a (.slc s.nx 0 1 (keysOf (a.x.t.take x.1)).length x.2))).int 13 x.1) (fun _ x=>x.1<=a.x.t.length) (fun _ x=>a.x.t.length-x.1)
theorem KA{t:List bp}{i:Nat}(h:i<t.length):keysOf (t.take (i+1))=keysOf (t.take i)++if(gl t i).has then[(gl t i).key]else[]:=by
 unfold keysOf;rw[gD h,yD,List.map_append,p7];cases(gl t i).has<;>simp[eM,nk]
theorem FH(t:List bp):(keysOf t).length<=t.length:=by
 unfold keysOf eM;simp only[List.length_map];exact List.length_filter_le _ _
def _root_.kT(y:Nat×Nat)(z:Ix.uh):List ByteArray:=Ix.keysOf (List.take y.fst z.x.t)
def _root_.Is(y:Ix.uh)(z u:Prop):=dY (bJ y.x) y.cap (bN (ag (z/\bG (bJ y.x) y.cap/\bZ (af y.x.n) (af y.x.used) (dU (bJ y.x) 4 (dh y.x.t)) u)))
theorem UE:fnBody (Y Tryz.prog) [(227,yM 9 .str Value.string wM)] 194 UD fun a=>[(194,[ZO a],[])]:=fnBody.of (p :=
 ∀y:Ix.uh,bJ y.x<100000->(∃z:Nat×Nat,aF z.fst ((0=aR (kT z y)/\0=z.snd)/\Is y (aR (kT z y)=0) (z.fst<=bJ y.x/\True)))/\∀z:Nat×Nat,ga z.fst (bJ y.x) (az (Ix.bp.has (jT y.x.t z.fst)) (gG (aR (kT z y)) 16 z.snd fun u=>iB z fun v=>ag (aR (kT z y)+1=aR (kT v y)/\u=v.snd)/\Is y (lU (aR (kT v y)) (aR (kT z y)) 1 (aa Ix.kF (kT z y)) (bD (bL (Ix.bp.key (jT y.x.t z.fst)))) (aa Ix.kF (kT v y))) (bU v.fst (bJ y.x) z.fst)) (iB z fun u=>ag (aR (kT z y)=aR (kT u y)/\z.snd=u.snd)/\Is y (DC (kT u y) (kT z y) Ix.kF) (bU u.fst (bJ y.x) z.fst))) (∃u:OV ByteArray,iC (aR (kT z y)) (aR u.l) z.snd u.cap 1 (aa Ix.kF (kT z y)) (aa (fun v=>bD (bL v)) u.l) (aR u.l<100000) (aI (∃v:Nat,ag (aR (kT z y)=aR (Ix.keysOf y.x.t)/\z.snd=v)/\bl (aK (aR (Ix.keysOf y.x.t)) (aR u.l) 1 (aa (fun w=>bD (bL w)) (Ix.wM u.l)) (aa Ix.kF (Ix.wM (Ix.keysOf y.x.t)))))))) (by kernel_rfl) (by
 delta az bZ aK ah b8 aA aD bE gK bJ cF aH af aR bD aC aX bq bV aW dU gz bN aI bG lU gG bL bU dY iB aS kT iC aF ag aY cV Is br ga bl bu dX DC dh jR jT
 try dsimp -iota -proj only
 intro a h;refine⟨⟨(0,0),?_⟩,fun x hx=>⟨fun c1=>?_,fun c1=>?_⟩⟩
 ·dsimp only;have e:keysOf (a.x.t.take 0)=[]:=rfl;rw[e]
  and_intros<;>first|rfl|trivial|exact Nat.le_refl _|omega|(dsimp only;omega)|exact ak.refl _ _ _
 ·obtain⟨i,cap0⟩:=x;simp only[decide_eq_true_eq]at c1;have hi:i<a.x.t.length:=by omega
  have hle:=FH (a.x.t.take i);rw[List.length_take]at hle;have hst:=KA hi;simp only[Nat.zero_add,Int.toNat_natCast,bR];refine⟨by omega,by omega,fun hh=>⟨by omega,by omega,by omega,fun cap _ _ _=>⟨by omega,⟨(i+1,cap),?_⟩⟩⟩,fun hh=>⟨by omega,⟨(i+1,cap0),?_⟩⟩⟩
  ·rw[hh]at hst;dsimp only;rw[hst]
   and_intros<;>first|rfl|trivial|exact Nat.le_refl _|omega|(dsimp only;omega)|exact ak.refl _ _ _|(simp;done)|exact .push rfl (by simp) rfl
  ·rw[hh]at hst;simp only[Bool.false_eq_true,if_false,List.append_nil]at hst;dsimp only;rw[hst]
   and_intros<;>first|rfl|trivial|exact Nat.le_refl _|omega|(dsimp only;omega)|exact ak.refl _ _ _
 ·obtain⟨i,cap0⟩:=x;simp only[decide_eq_false_iff_not]at c1
  have hi : i = a.x.t.length := by have : i ≤ a.x.t.length := hx
                                   omega
  subst hi;have hle:=FH a.x.t;rw[List.take_length];refine⟨⟨keysOf a.x.t,cap0⟩,?_⟩
  and_intros<;>first|rfl|trivial|exact Nat.le_refl _|omega|(dsimp only;omega)|exact ak.refl _ _ _|skip
  refine fun _ _=>⟨cap0,?_⟩
  and_intros<;>first|rfl|trivial|exact Nat.le_refl _|omega|(dsimp only;omega)|exact ak.refl _ _ _)
theorem UF:au (Y Tryz.prog).G.X 194 UD:=aU fL UE ⟨UC,trivial⟩
end Go.Proofs.YtfjgoonelcaggaaGreat.Ix
namespace Go.Proofs.YtfjgoonelcaggaaGreat
open Go.Sx
def OW(get:ByteArray->Option aB)(o:Option aB):ByteArray->Option aB:=match o with
 |none=>fun _=>none
 |some x=>yL get x.key (if x.gone then none else some x)
def gE(es:List (Option aB)):ByteArray->Option aB:=es.foldl OW fun _=>none
theorem wh(es:List (Option aB))(o:Option aB):gE (es++[o])=OW (gE es) o:=by simp[gE]
structure nr(m:ou)(n:Nat)(rs:List RecM)(es:List (Option aB)):Prop where
 one:qX m n rs (gE es)
 len:es.length=rs.length
 body:∀i,i<es.length->(gl rs i).body=aJ (gl es i)/\∀x,gl es i=some x->gf x=true
theorem FI{rs:List RecM}{es:List (Option aB)}{p:Int}{x:aB}(hl:es.length=rs.length)(h:∀i,i<es.length->(gl rs i).body=aJ (gl es i)/\∀x,gl es i=some x->gf x=true)(hx:gf x=true) :
 (es++[some x]).length=(rs++[(⟨p,aJ (some x)⟩:RecM)]).length/\∀i,i<(es++[some x]).length->(gl (rs++[(⟨p,aJ (some x)⟩:RecM)]) i).body=aJ (gl (es++[some x]) i)/\∀z,gl (es++[some x]) i=some z->gf z=true:=by
 refine⟨by simp[hl],fun i hi=>?_⟩;rw[List.length_append,List.length_singleton]at hi;rw[kM hi,kM (by rw[<- hl];exact hi),hl];by_cases hin:i<rs.length
 ·rw[if_pos hin,if_pos hin];exact h i (by omega)
 ·rw[if_neg hin,if_neg hin];exact⟨rfl,fun z e=>by cases e;exact hx⟩
theorem nr.put{m:ou}{n:Nat}{rs:List RecM}{es:List (Option aB)}(h:nr m n rs es){x:aB}(hx:kg x=true)(hn:m.L.next<9999999999)(hfit:(eH rs).length+8+(aJ (some x)).length<=378) :
 nr (nX m x) (n+20) (rs++[⟨m.L.next,aJ (some x)⟩]) (es++[some x])/\(nX m x).L.next=m.L.next+1/\(nX m x).L.av=m.L.av/\(nX m x).L.from_=m.L.from_:=by
 have hx2:gf x=true/\x.gone=false:=by unfold kg at hx;simpa using hx
 obtain⟨h1,h2⟩:=h.one.put hx hn hfit;obtain⟨b1,b2⟩:=FI (p:=m.L.next) h.len h.body hx2.1;refine⟨⟨?_,b1,b2⟩,h2⟩;rw[wh];simp only[OW,hx2.2];exact h1
theorem nr.drop{m:ou}{n:Nat}{rs:List RecM}{es:List (Option aB)}(h:nr m n rs es){k:ByteArray}(hk:cN k=true)(hn:m.L.next<9999999999)(hfit:(eH rs).length+8+(aJ (some (iO k))).length<=378) :
 nr (oH m k) (n+20) (rs++[⟨m.L.next,aJ (some (iO k))⟩]) (es++[some (iO k)])/\(oH m k).L.next=m.L.next+1/\(oH m k).L.av=m.L.av/\(oH m k).L.from_=m.L.from_:=by
 obtain⟨h1,h2⟩:=h.one.drop hk hn hfit;obtain⟨b1,b2⟩:=FI (p:=m.L.next) h.len h.body (Ad hk);refine⟨⟨?_,b1,b2⟩,h2⟩;rw[wh];exact h1
theorem nr.new{fr sg:Nat}{d:bA}{n:Nat}{run:Int}(h3:3<=sg/\sg<=200)(hr:fr+sg*8<=d.n)(hn:d.n<100000)(hc:d.calls<=n)(hd:yJ fr sg none run d):nr (newF fr sg d) n [] []:=⟨qX.new h3 hr hn hc hd,rfl,fun i hi=>absurd hi (Nat.not_lt_zero i)⟩
theorem Au(L:bQ)(d:bA)(body:List Int):(oF L d body).n=d.n:=by
 have h1:(kO L d body.length).n=d.n:=by unfold kO;split<;>rfl
 have h2:=(tn (dJ L body.length) (J2 (kf (dJ L body.length)) (dJ L body.length).next body) (kf (dJ L body.length)).buf.length (kO L d body.length) 8).1;unfold oF qV;split
 ·exact h2.trans h1
 ·exact h2.trans h1
theorem DF{n:Int}(h:n.toNat<64):(vi n).length=1:=by
 have:=vg 0 n (by simp;omega);have:=(iR n).1;omega
theorem DG{x:aB}(h1:x.key.size<64)(h2:x.val.size<64)(h3:x.e=0):(aJ (some x)).length=x.key.size+x.val.size+5:=by
 have a1:(vi (x.key.size:Nat)).length=1:=DF (by omega);have a2:(vi (x.val.size:Nat)).length=1:=DF (by omega);have a3:(vi x.e).length=1:=DF (by rw[h3];decide);have a4:(vi (if x.gone then 1 else 0)).length=1:=by split<;>exact DF (by decide)
 simp only[aJ,List.length_cons,dm,eV,iw,List.flatMap_cons,List.flatMap_nil,List.append_nil,List.length_append,je];omega
theorem FJ{L:bQ}{g:dG}{i:Nat}(hi:i<8)(h3:1<=L.av):L.from_<=jY L g i/\jY L g i<L.from_+L.av*8:=by
 have:=Nat.mod_lt (g.gen-1).toNat (show 0<L.av by omega);unfold jY;omega
theorem yN{L:bQ}{g:dG}{was:Nat}{d:bA}(h3:1<=L.av){r j:Nat}(hr:r<L.from_\/L.from_+L.av*8<=r):∀n,n<=8->(dr L g was d n).now r j=d.now r j
 |0,_=>rfl
 |n+1,hn=>by
  have ih:=yN (g:=g) (was:=was) (d:=d) h3 (j:=j) hr n (by omega);have hs:=FJ (L:=L) (g:=g) (i:=n) (by omega) h3;unfold dr;split
  ·show(if r=jY L g n/\j<64 then _ else(dr L g was d n).now r j)=_;rw[if_neg (by omega)];exact ih
  ·exact ih
theorem DH{L:bQ}{d:bA}{body:List Int}(h3:1<=L.av){r j:Nat}(hr:r<L.from_\/L.from_+L.av*8<=r):(oF L d body).now r j=d.now r j:=by
 have e1:(dJ L body.length).from_=L.from_/\(dJ L body.length).av=L.av:=by unfold dJ;split<;>exact⟨rfl,rfl⟩
 have e2:(kO L d body.length).now r j=d.now r j:=by
  unfold kO;split
  ·have hs:=FJ (L:=L) (g:=bn L) (i:=0) (by omega) h3;show(if r=jY L (bn L) 0/\j<64 then _ else d.now r j)=_;rw[if_neg (by omega)]
  ·rfl
 have e3:(qV (dJ L body.length) (kO L d body.length) body).now r j=d.now r j:=by
  unfold qV;rw[yN (by rw[e1.2];exact h3) (by rw[e1.1,e1.2];exact hr) 8 (Nat.le_refl _)];exact e2
 unfold oF;split
 ·exact e3
 ·exact e3
theorem ia.dev'{L:bQ}{d d':bA}{n n':Nat}{rs:List RecM}(h:ia L d n rs)(hd:∀r,L.from_<=r->r<L.from_+L.av*8->∀j,j<64->d'.now r j=d.now r j)(hn:d'.n=d.n)(hc:d'.calls<=n'):ia L d' n' rs :=
 ⟨h.av,by rw[hn];exact h.room,by rw[hn];exact h.size,hc,h.next,h.run,h.good,h.sort,h.fits,h.Ji,⟨fun i hi j hj=>by rw[hd _ (by omega) (by have:=h.av;omega) j hj];exact h.dev.sec i hi j hj,fun r h1 h2 j hj=>by rw[hd r (by omega) h2 j hj];exact h.dev.rest r h1 h2 j hj⟩⟩
theorem nr.dev'{L:bQ}{d d':bA}{l:List (ByteArray×Int)}{n n':Nat}{rs:List RecM}{es:List (Option aB)}(h:nr ⟨L,d,l⟩ n rs es)(hd:∀r,L.from_<=r->r<L.from_+L.av*8->∀j,j<64->d'.now r j=d.now r j)(hn:d'.n=d.n)(hc:d'.calls<=n'):nr ⟨L,d',l⟩ n' rs es :=
 ⟨⟨h.one.log.dev' hd hn hc,⟨h.one.has.rd,h.one.has.pos,h.one.has.all⟩,h.one.yw⟩,h.len,h.body⟩
structure vm(k:qW)(d:bA):Prop where
 at_:k.s.at_=0
 slot:k.s.slot<=1
 fo:1<=k.s.fo/\k.s.fo<1000000000
 text:k.s.text=e8 k.m
 may:nD k.m=true
 this:∀j,j<64->d.now k.s.slot j=xM k.s.fo k.s.text j
 other:(∀j,j<64->d.now (1-k.s.slot) j=0)\/∃n m,0<=n/\n<k.s.fo/\nD m=true/\∀j,j<64->d.now (1-k.s.slot) j=xM n (e8 m) j
theorem vm.dev'{k:qW}{d d':bA}(h:vm k d)(hd:∀r,r<2->∀j,j<64->d'.now r j=d.now r j):vm k d' :=
 ⟨h.at_,h.slot,h.fo,h.text,h.may,fun j hj=>by rw[hd _ (by have:=h.slot;omega) j hj];exact h.this j hj,by
  rcases h.other with h1 | ⟨n,m,h1,h2,h3,h4⟩
  ·exact .inl fun j hj=>by rw[hd _ (by omega) j hj];exact h1 j hj
  ·exact .inr ⟨n,m,h1,h2,h3,fun j hj=>by rw[hd _ (by omega) j hj];exact h4 j hj⟩⟩
theorem vm.save{k:qW}{d:bA}{m:MetaM}(h:vm k d)(hs:gH k m=true)(ht:k.s.fo<900000000):vm (nq k m) (iy k d m)/\(nq k m).m=m/\(nq k m).s.fo=k.s.fo+1/\(iy k d m).n=d.n/\(iy k d m).calls=d.calls+2/\∀r,2<=r->∀j,(iy k d m).now r j=d.now r j:=by
 have e1:nq k m=⟨Ie k.s (1-k.s.slot) (k.s.fo+1) (e8 m),m⟩:=if_pos hs;have e2:iy k d m=Bx k.s d (1-k.s.slot) (k.s.fo+1) (e8 m):=if_pos hs;have hm:nD m=true:=by unfold gH at hs;simp only[Bool.and_eq_true]at hs;exact hs.1
 have h2:=h.slot;have h0:=h.at_;have hnow:∀r j,(Bx k.s d (1-k.s.slot) (k.s.fo+1) (e8 m)).now r j=if r=1-k.s.slot/\j<64 then xM (k.s.fo+1) (e8 m) j else d.now r j:=fun r j=>by
  show(if r=k.s.at_+(1-k.s.slot)/\j<64 then _ else _)=_;rw[h0,Nat.zero_add]
 rw[e1,e2];refine⟨⟨h0,by show 1-k.s.slot<=1;omega,by have:=h.fo;show 1<=k.s.fo+1/\k.s.fo+1<_;omega,rfl,hm,fun j hj=>?_,.inr ⟨k.s.fo,k.m,by have:=h.fo;omega,by show k.s.fo<k.s.fo+1;omega,h.may,fun j hj=>?_⟩⟩,rfl,rfl,rfl,rfl,fun r hr j=>?_⟩
 ·show(Bx k.s d (1-k.s.slot) (k.s.fo+1) (e8 m)).now (1-k.s.slot) j=_;rw[hnow,if_pos ⟨rfl,hj⟩];rfl
 ·show(Bx k.s d (1-k.s.slot) (k.s.fo+1) (e8 m)).now (1-(1-k.s.slot)) j=_;rw[hnow,if_neg (by omega),show 1-(1-k.s.slot)=k.s.slot by omega,h.this j hj,h.text]
 ·rw[hnow,if_neg (by omega)]
def DI(x:eZ):RecM:=⟨x.pos,dP x.seq x.key⟩
structure dF(s:lT)(n:Nat)(es:List (Option aB))(cb jb:Nat):Prop where
 fl:∃cr,nr s.fl n cr es/\(eH cr).length<=cb
 jl:ia s.jL s.d n (s.ms.map DI)
 jb:(eH (s.ms.map DI)).length<=jb
 ms:∀i,i<s.ms.length->(gl s.ms i).seq=(i:Int)+1/\cN (gl s.ms i).key=true
 nx:s.cL.next<=n/\s.jL.next<=n/\s.k.s.fo<=n
 Xp:s.cL.from_=162/\s.cL.av=iX s.d.n/\s.jL.from_=2/\s.jL.av=20
 dn:192<=s.d.n/\s.d.n<3000
 keep:vm s.k s.d
 bK:s.bK=s.k.m.bK
theorem BT{n:Nat}(h:192<=n):3<=iX n/\iX n<=200/\162+iX n*8<=n:=by unfold iX;omega
def KB(s:lT)(x:aB):lT:={ s with d:=(nX s.fl x).d,cL:=(nX s.fl x).L,cl:=(nX s.fl x).l }
def UG(s:lT)(k:ByteArray):lT:={ s with d:=(oH s.fl k).d,cL:=(oH s.fl k).L,cl:=(oH s.fl k).l }
def OX(s:lT)(k:ByteArray):lT:={ s with d:=(Ks s.jr k).d,jL:=(Ks s.jr k).L,ms:=(Ks s.jr k).ms }
def Xq(s:lT):lT:={ s with d:=gv s.d }
theorem dF.cache{s:lT}{n:Nat}{es:List (Option aB)}{cb jb:Nat}(h:dF s n es cb jb){m:ou}{body:List Int}{o:Option aB}{cr:List RecM}{w:Nat}(hn:n<900000000)
 (h1:nr m (n+20) cr (es++[o])) (hb:(eH cr).length<=cb+w) (hd:m.d=oF s.cL s.d body) (hx:m.L.next=s.cL.next+1) (hs:m.L.av=s.cL.av/\m.L.from_=s.cL.from_) :
 dF { s with d:=m.d,cL:=m.L,cl:=m.l } (n+20) (es++[o]) (cb+w) jb:=by
 obtain⟨g1,g2,g3,g4⟩:=h.Xp;obtain⟨s1,s2,s3⟩:=BT h.dn.1;have hdn:m.d.n=s.d.n:=by rw[hd];exact Au _ _ _
 have hcl:m.d.calls<=n+20:=h1.one.log.calls;have hout:∀r,r<162->∀j,m.d.now r j=s.d.now r j:=fun r hr j=>by rw[hd];exact DH (by omega) (.inl (by omega))
 have hnx:=h.nx;exact⟨⟨cr,h1,hb⟩,h.jl.dev' (fun r _ h2 j _=>hout r (by omega) j) hdn hcl,h.jb,h.ms,by dsimp only;rw[hx];push_cast;omega,⟨by rw[hs.2];exact g1,by dsimp only;rw[hs.1,hdn];exact g2,g3,g4⟩,by dsimp only;rw[hdn];exact h.dn,h.keep.dev' fun r hr j _=>hout r (by omega) j,h.bK⟩
theorem dF.put{s:lT}{n:Nat}{es:List (Option aB)}{cb jb:Nat}(h:dF s n es cb jb){x:aB}(hx:kg x=true){w:Nat}(hw:8+(aJ (some x)).length<=w)(hn:n<900000000)(hfit:cb+w<=378) :
 dF (KB s x) (n+20) (es++[some x]) (cb+w) jb/\uo s.fl (aJ (some x)).length:=by
 obtain⟨cr,hf,hb⟩:=h.fl;have hnx:s.fl.L.next<=n:=h.nx.1
 obtain⟨f1,f2,f3,f4⟩:=hf.put hx (by omega) (by omega);have hd:(nX s.fl x).d=oF s.cL s.d (aJ (some x)):=by unfold nX;rw[if_pos hx];rfl
 exact⟨h.cache hn f1 (by rw[mw,List.length_append,v8];dsimp only;omega) hd f2 ⟨f3,f4⟩,hf.one.ok (by omega) (by omega)⟩
theorem dF.ZP{s:lT}{n:Nat}{es:List (Option aB)}{cb jb:Nat}(h:dF s n es cb jb){k:ByteArray}(hk:cN k=true){w:Nat}(hw:8+(aJ (some (iO k))).length<=w)(hn:n<900000000)(hfit:cb+w<=378) :
 dF (UG s k) (n+20) (es++[some (iO k)]) (cb+w) jb/\uo s.fl (aJ (some (iO k))).length:=by
 obtain⟨cr,hf,hb⟩:=h.fl;have hnx:s.fl.L.next<=n:=h.nx.1
 obtain⟨f1,f2,f3,f4⟩:=hf.drop hk (by omega) (by omega);exact⟨h.cache hn f1 (by rw[mw,List.length_append,v8];dsimp only;omega) rfl f2 ⟨f3,f4⟩,hf.one.ok (by omega) (by omega)⟩
theorem dF.flush{s:lT}{n:Nat}{es:List (Option aB)}{cb jb:Nat}(h:dF s n es cb jb):dF (Xq s) (n+1) es cb jb:=by
 obtain⟨cr,hf,hb⟩:=h.fl;have hc:=hf.one.log.calls;have hc:(gv s.d).calls<=n+1:=by show s.d.calls+1<=_;have:s.d.calls<=n:=hc;omega
 have hnx:=h.nx;exact⟨⟨cr,hf.dev' (fun _ _ _ _ _=>rfl) rfl hc,hb⟩,h.jl.dev' (fun _ _ _ _ _=>rfl) rfl hc,h.jb,h.ms,by dsimp only[Xq];push_cast;omega,h.Xp,h.dn,h.keep.dev' fun _ _ _ _=>rfl,h.bK⟩
theorem dF.seq{s:lT}{n:Nat}{es:List (Option aB)}{cb jb:Nat}(h:dF s n es cb jb):gY s.ms=s.ms.length:=by
 unfold gY;split
 ·rename_i h0;rw[h0];rfl
 ·rename_i h0;rw[(h.ms _ (by omega)).1];omega
theorem dF.len{s:lT}{n:Nat}{es:List (Option aB)}{cb jb:Nat}(h:dF s n es cb jb):s.ms.length<=42:=by
 have:=h.jl.len;rwa[List.length_map]at this
theorem dF.aah{s:lT}{n:Nat}{es:List (Option aB)}{cb jb:Nat}(h:dF s n es cb jb){k:ByteArray}(hk:cN k=true){w:Nat}(hw:8+(dP (s.ms.length+1) k).length<=w)(hn:n<900000000)(hfit:jb+w<=378) :
 dF (OX s k) (n+20) es cb (jb+w)/\uX s.jL s.d/\(OX s k).ms=s.ms++[⟨s.ms.length+1,k,s.jL.next⟩]:=by
 obtain⟨g1,g2,g3,g4⟩:=h.Xp;obtain⟨s1,s2,s3⟩:=BT h.dn.1;have hsq:=h.seq;have hkl:=kS hk;have hv:=iR ((s.ms.length:Int)+1);have hbl:1<=(dP (s.ms.length+1) k).length/\(dP (s.ms.length+1) k).length<=300:=by unfold dP;rw[List.length_append,je];omega
 have hnx:=h.nx;have hjb:=h.jb;obtain⟨l1,l2,l3,l4⟩:=h.jl.append (body:=dP (s.ms.length+1) k) hbl (by omega) (by omega);have e:OX s k={ s with d:=oF s.jL s.d (dP (s.ms.length+1) k),jL:=mo s.jL (dP (s.ms.length+1) k),ms:=s.ms++[⟨s.ms.length+1,k,s.jL.next⟩] }:=by
  have:Ks s.jr k=⟨mo s.jL (dP (s.ms.length+1) k),oF s.jL s.d (dP (s.ms.length+1) k),s.ms++[⟨s.ms.length+1,k,s.jL.next⟩]⟩:=by
   unfold Ks;rw[show gY s.jr.ms=s.ms.length from hsq];rfl
  show({ s with d:=_,jL:=_,ms:=_ }:lT)=_;rw[this]
 have hout:∀r,(r<2\/162<=r)->∀j,(oF s.jL s.d (dP (s.ms.length+1) k)).now r j=s.d.now r j:=fun r hr j=>DH (by omega) (by omega);have hdn:(oF s.jL s.d (dP (s.ms.length+1) k)).n=s.d.n:=Au _ _ _;have hm:(s.ms++[(⟨s.ms.length+1,k,s.jL.next⟩:eZ)]).map DI=s.ms.map DI++[⟨s.jL.next,dP (s.ms.length+1) k⟩]:=by simp[DI]
 obtain⟨cr,hf,hb⟩:=h.fl;refine⟨?_,h.jl.Xo (by omega),by rw[e]⟩;rw[e];refine⟨⟨cr,hf.dev' (fun r h1 _ j _=>hout r (.inr (by have:s.fl.L.from_=162:=g1;omega)) j) hdn l1.calls,hb⟩,by dsimp only;rw[hm];exact l1,by dsimp only;rw[hm,mw,List.length_append,v8];dsimp only;omega,fun i hi=>?_,by dsimp only;rw[l2];push_cast;omega,⟨g1,by dsimp only;rw[hdn];exact g2,by dsimp only;rw[l4];exact g3,by dsimp only;rw[l3];exact g4⟩,by dsimp only;rw[hdn];exact h.dn,h.keep.dev' fun r hr j _=>hout r (.inl hr) j,h.bK⟩;have hi:i<s.ms.length+1:=by simpa using hi
 dsimp only;rw[kM hi];by_cases hl:i<s.ms.length
 ·rw[if_pos hl];exact h.ms i hl
 ·rw[if_neg hl];have:i=s.ms.length:=by omega
  subst this;exact⟨rfl,hk⟩
theorem OY{L:bQ}{d:bA}{n:Nat}{rs:List RecM}(h:ia L d n rs):L.l.length<=1:=by
 obtain⟨base,_,_,hl⟩:=h.Ji;rw[hl];cases rs with
 |nil=>exact Nat.zero_le _
 |cons r rs=>exact Nat.le_refl _
theorem OZ{fr sg:Nat}{d:bA}{n:Nat}{run:Int}(h3:3<=sg/\sg<=200)(hr:fr+sg*8<=d.n)(hn:d.n<100000)(hc:d.calls<=n)(hd:yJ fr sg none run d):nr ⟨⟨fr,sg,[],1,1,true⟩,d,[]⟩ n [] []/\ia ⟨fr,sg,[],1,1,true⟩ d n []:=⟨nr.new h3 hr hn hc hd,(nr.new h3 hr hn hc hd).one.log⟩
theorem x7{d:bA}{c:Nat}(hn:192<=d.n/\d.n<3000)(hc:d.calls<=c)(hc2:c<900000000)(H:PH) :
 yI.pre ⟨d,H⟩/\dF (ki (rM ⟨d,H⟩)) (c+d.n+100) [] 0 0/\(ki (rM ⟨d,H⟩)).k.m=⟨1,0,0,false⟩/\(ki (rM ⟨d,H⟩)).ms=[]/\(∀r,(ki (rM ⟨d,H⟩)).d.loose r=false)/\(∀r j,(ki (rM ⟨d,H⟩)).d.E8 r j=(ki (rM ⟨d,H⟩)).d.now r j)/\(ki (rM ⟨d,H⟩)).d.n=d.n:=by
 obtain⟨D0,hD0⟩:∃D,D=pE (eW d d.n) 0 (e8 BS):=⟨_,rfl⟩
 have hnow:∀r j,j<64->r<d.n->D0.now r j=if r=0 then xM 1 (e8 BS) j else 0:=fun r j hj hr=>by
  rw[hD0];show(if r=0+0/\j<64 then xM 1 (e8 BS) j else if r=0+1/\j<64 then 0 else if r=0/\j<64 then 0 else if r<d.n/\j<64 then 0 else d.now r j)=_;by_cases h0:r=0
  ·rw[if_pos (by omega),if_pos h0]
  ·rw[if_neg (by omega),if_neg h0];by_cases h1:r=1
   ·rw[if_pos (by omega)]
   ·rw[if_neg (by omega),if_neg (by omega),if_pos (by omega)]
 have hDn:D0.n=d.n:=by rw[hD0];rfl
 have hDc:D0.calls<=c+d.n+5:=by rw[hD0];show d.calls+d.n+1+1+1+1+1<=_;omega
 have hK:vm (jI 0) D0:=⟨rfl,by decide,by decide,rfl,rfl,fun j hj=>by
  rw[show(jI 0).s.slot=0 from rfl,hnow 0 j hj (by omega),if_pos rfl];rfl,.inl fun j hj=>by
  rw[show 1-(jI 0).s.slot=1 from rfl,hnow 1 j hj (by omega),if_neg (by omega)]⟩
 have hs:gH (jI 0) (oI BS)=true:=by decide
 obtain⟨k1,k2,k3,k4,k5,k6⟩:=hK.save hs (by decide);obtain⟨D,hD⟩:∃D,D=iy (jI 0) D0 (oI BS):=⟨_,rfl⟩
 have hDD:D=gv (gu D0 (0+1) 64 (xM 2 (e8 (oI BS)))):=by rw[hD];unfold iy;rw[if_pos hs];rfl
 rw[<- hD]at k1 k4 k5 k6;obtain⟨s1,s2,s3⟩:=BT hn.1;have hz:∀r,2<=r->r<d.n->∀j,j<64->D.now r j=0:=fun r h1 h2 j hj=>by rw[k6 r h1 j,hnow r j hj h2,if_neg (by omega)]
 have hd1:yJ 2 20 none 1 D:=⟨fun i hi j hj=>hz _ (by omega) (by omega) j hj,fun r h1 h2 j hj=>hz r (by omega) (by omega) j hj⟩
 have hd2:yJ 162 (iX d.n) none 1 D:=⟨fun i hi j hj=>hz _ (by omega) (by omega) j hj,fun r h1 h2 j hj=>hz r (by omega) (by omega) j hj⟩
 obtain⟨a1,a2⟩:=FF hd1 (by omega) (by omega) (by omega);obtain⟨b1,b2⟩:=FF hd2 (by omega) (by omega) (by omega);have e0:rM ⟨d,H⟩=⟨jI 0,0,D0,H,[],[]⟩:=by rw[hD0];rfl
 have e1:ki (rM ⟨d,H⟩)=⟨D,⟨162,iX d.n,[],1,1,true⟩,[],⟨2,20,[],1,1,true⟩,[],nq (jI 0) (oI BS),1⟩:=by
  rw[e0];show(⟨iy (jI 0) D0 (oI BS),cU 162 (iX D0.n) (iy (jI 0) D0 (oI BS)),_,cU 2 20 (iy (jI 0) D0 (oI BS)),_,_,_⟩:lT)=_;rw[<- hD,hDn,a2,b2];rfl
 obtain⟨n1,_⟩:=OZ (n:=c+d.n+100) (d:=D) ⟨s1,s2⟩ (by omega) (by omega) (by omega) hd2;obtain⟨_,n2⟩:=OZ (n:=c+d.n+100) (d:=D) (show 3<=20/\20<=200 by omega) (by omega) (by omega) (by omega) hd1;refine⟨⟨hn.1,by show d.n<100000;omega,by show d.calls<_;omega,?_⟩,?_,?_,?_,?_,?_,?_⟩
 ·rw[e0];refine⟨by dsimp only;omega,by dsimp only;omega,hs,⟨rfl,by show(0:Nat)<=1;omega,by show(0:Int)<=1;omega,by show(1:Int)<1000000000000;omega⟩,fun H=>?_,fun H=>?_⟩
  ·show Ak.pre ⟨H,iy (jI 0) D0 (oI BS),2,20,[]⟩;rw[<- hD];refine⟨Nat.le_refl _,a1,?_,?_⟩
   ·rw[show cU (wu.mk H D 2 20 []).from_ (wu.mk H D 2 20 []).av (wu.mk H D 2 20 []).d=_ from a2];exact⟨rfl,by show(0:Nat)<9000;omega,fun i hi=>absurd hi (Nat.not_lt_zero i),fun i hi=>absurd hi (Nat.not_lt_zero _)⟩
   ·rw[show cU (wu.mk H D 2 20 []).from_ (wu.mk H D 2 20 []).av (wu.mk H D 2 20 []).d=_ from a2];exact fun i hi=>absurd hi (Nat.not_lt_zero i)
  ·show Af.pre ⟨H,iy (jI 0) D0 (oI BS),162,iX D0.n,[]⟩;rw[<- hD,hDn];refine⟨b1,?_,?_⟩
   ·rw[show cU (lJ.mk H D 162 (iX d.n) []).from_ (lJ.mk H D 162 (iX d.n) []).av (lJ.mk H D 162 (iX d.n) []).d=_ from b2];exact⟨rfl,by show(0:Nat)<9000;omega,fun i hi=>absurd hi (Nat.not_lt_zero i)⟩
   ·rw[show cU (lJ.mk H D 162 (iX d.n) []).from_ (lJ.mk H D 162 (iX d.n) []).av (lJ.mk H D 162 (iX d.n) []).d=_ from b2];exact fun i hi=>absurd hi (Nat.not_lt_zero i)
 all_goals rw[e1]
 ·exact⟨⟨[],n1,Nat.le_refl _⟩,n2,Nat.le_refl _,fun i hi=>absurd hi (Nat.not_lt_zero i),by dsimp only;rw[k3];show _/\_/\(1:Int)+1<=_;omega,⟨rfl,by dsimp only;rw[k4,hDn],rfl,rfl⟩,by dsimp only;rw[k4,hDn];exact hn,k1,by dsimp only;rw[k2];rfl⟩
 ·exact k2
 ·rw[hDD];exact fun _=>rfl
 ·rw[hDD];exact fun _ _=>rfl
 ·exact k4.trans hDn
def oL(s:lT)(ks:List ByteArray)(i:Nat):lT:={ s with d:=(dw s.jr ks i).d,jL:=(dw s.jr ks i).L,ms:=(dw s.jr ks i).ms }
def tE(s:lT)(ks:List ByteArray)(i:Nat):lT:={ s with d:=(gq s.fl ks i).d,cL:=(gq s.fl ks i).L,cl:=(gq s.fl ks i).l }
structure YB(s:lT)(n:Nat)(es:List (Option aB))(cb jb:Nat)(ks:List ByteArray)(i:Nat):Prop where
 one:dF (oL s ks i) n es cb jb
 len:(oL s ks i).ms.length=s.ms.length+i
 ok:∀j,j<i->uX (dw s.jr ks j).L (dw s.jr ks j).d/\0<=gY (dw s.jr ks j).ms/\gY (dw s.jr ks j).ms<1000000000000
 key:∀j,j<i->(gl (oL s ks i).ms (s.ms.length+j)).key=gl ks j
 dn:(oL s ks i).d.n=s.d.n
theorem dF.YC{s:lT}{n:Nat}{es:List (Option aB)}{cb jb:Nat}(h:dF s n es cb jb){ks:List ByteArray}(hK:∀i,i<ks.length->cN (gl ks i)=true){w:Nat}(hw:∀i,i<ks.length->8+(dP (s.ms.length+i+1) (gl ks i)).length<=w)(hn:n+20*ks.length<900000000)(hfit:jb+w*ks.length<=378) :
 ∀i,i<=ks.length->YB s (n+20*i) es cb (jb+w*i) ks i
 |0,_=>⟨h,rfl,fun j hj=>absurd hj (Nat.not_lt_zero j),fun j hj=>absurd hj (Nat.not_lt_zero j),rfl⟩
 |i+1,hi=>by
  have ih:=dF.YC h hK hw hn hfit i (by omega);have hl:=ih.len;have hfit2:jb+w*i+w<=378:=by
   have:w*(i+1)<=w*ks.length:=Nat.mul_le_mul_left w hi;rw[Nat.mul_add,Nat.mul_one]at this;omega
  have hw2:8+(dP ((oL s ks i).ms.length+1) (gl ks i)).length<=w:=by
   have:=hw i (by omega);rw[hl];push_cast;exact this
  obtain⟨a1,a2,a3⟩:=ih.one.aah (hK i (by omega)) hw2 (by omega) hfit2;have e:oL s ks (i+1)=OX (oL s ks i) (gl ks i):=rfl;have hsq:=ih.one.seq;have hlen:=ih.one.len;refine⟨by rw[e,show n+20*(i+1)=n+20*i+20 by omega,show jb+w*(i+1)=jb+w*i+w by rw[Nat.mul_add];omega];exact a1,by rw[e,a3,List.length_append,hl];rfl,fun j hj=>?_,fun j hj=>?_,?_⟩
  ·by_cases ej:j=i
   ·subst ej;refine⟨a2,?_⟩;show 0<=gY (oL s ks j).ms/\gY (oL s ks j).ms<_;rw[hsq];omega
   ·exact ih.ok j (by omega)
  ·rw[e,a3,kM (by omega)];by_cases ej:j=i
   ·subst ej;rw[if_neg (by omega)]
   ·rw[if_pos (by omega)];exact ih.key j (by omega)
  ·rw[e,<- ih.dn];exact Au _ _ _
structure WQ(s:lT)(n:Nat)(es:List (Option aB))(cb jb:Nat)(ks:List ByteArray)(i:Nat):Prop where
 one:dF (tE s ks i) n es cb jb
 ok:∀j,j<i->uo (gq s.fl ks j) (aJ (some (iO (gl ks j)))).length
 dn:(tE s ks i).d.n=s.d.n
theorem dF.Xr{s:lT}{n:Nat}{es:List (Option aB)}{cb jb:Nat}(h:dF s n es cb jb){ks:List ByteArray}(hK:∀i,i<ks.length->cN (gl ks i)=true){w:Nat}(hw:∀i,i<ks.length->8+(aJ (some (iO (gl ks i)))).length<=w)(hn:n+20*ks.length<900000000)(hfit:cb+w*ks.length<=378) :
 ∀i,i<=ks.length->WQ s (n+20*i) (es++(ks.take i).map fun q=>some (iO q)) (cb+w*i) jb ks i
 |0,_=>⟨by rw[List.take_zero,List.map_nil,List.append_nil];exact h,fun j hj=>absurd hj (Nat.not_lt_zero j),rfl⟩
 |i+1,hi=>by
  have ih:=dF.Xr h hK hw hn hfit i (by omega);have hfit2:cb+w*i+w<=378:=by
   have:w*(i+1)<=w*ks.length:=Nat.mul_le_mul_left w hi;rw[Nat.mul_add,Nat.mul_one]at this;omega
  obtain⟨a1,a2⟩:=ih.one.ZP (hK i (by omega)) (hw i (by omega)) (by omega) hfit2;have e:tE s ks (i+1)=UG (tE s ks i) (gl ks i):=rfl;have es':es++(ks.take (i+1)).map (fun q=>some (iO q))=es++(ks.take i).map (fun q=>some (iO q))++[some (iO (gl ks i))]:=by
   rw[p6 (by omega)];simp
  refine⟨by rw[e,es',show n+20*(i+1)=n+20*i+20 by omega,show cb+w*(i+1)=cb+w*i+w by rw[Nat.mul_add];omega];exact a1,fun j hj=>?_,?_⟩
  ·by_cases ej:j=i
   ·subst ej;exact a2
   ·exact ih.ok j (by omega)
  ·rw[e,<- ih.dn];exact Au _ _ _
theorem dF.KC{s:lT}{n:Nat}{es:List (Option aB)}{cb jb:Nat}(h:dF s n es cb jb):dO (cG s.jL) s.ms=s.ms:=Kp fun i hi=>by
 have hm:DI (gl s.ms i)∈s.ms.map DI:=List.mem_map.2 ⟨_,by rw[bT hi];exact List.getElem_mem _,rfl⟩;exact h.jl.rd.first hm
structure YD(s:lT)(n:Nat)(es:List (Option aB))(cb jb:Nat)(ks:List ByteArray):Prop where
 one:dF (kj s ks) n es cb jb
 len:(kj s ks).ms.length=s.ms.length+ks.length
 seq:gY (gZ s.jr ks).ms=s.ms.length+ks.length
 key:∀j,j<ks.length->(gl (kj s ks).ms (s.ms.length+j)).key=gl ks j
 dn:(kj s ks).d.n=s.d.n
 k:(kj s ks).k=s.k/\(kj s ks).bK=s.bK
 still:(∀r,(kj s ks).d.loose r=false)/\∀r j,(kj s ks).d.E8 r j=(kj s ks).d.now r j
theorem QT{s:lT}{n:Nat}{es:List (Option aB)}{cb jb:Nat}(h:dF s n es cb jb){ks:List ByteArray}(hA:fS ks=true){w:Nat}(hw:∀i,i<ks.length->8+(dP (s.ms.length+i+1) (gl ks i)).length<=w)(hn:n+20*ks.length<900000000)(hfit:jb+w*ks.length<=378)(hl:ks.length<=20) :
 dF (lY s ks) (n+20*ks.length+1) es cb (jb+w*ks.length)/\(lY s ks).ms=(oL s ks ks.length).ms/\(lY s ks).d.n=s.d.n/\(lY s ks).k=s.k/\(lY s ks).bK=s.bK/\(∀p kc,bY p.H p.y s.jL->s.ms.length<=p.cap->FA.pre ⟨s.jr,p,ks,kc⟩):=by
 have hK:∀i,i<ks.length->cN (gl ks i)=true:=fun i hi=>List.all_eq_true.1 hA (gl ks i) (by rw[bT hi];exact List.getElem_mem _);have ha:=h.YC hK hw hn hfit ks.length (Nat.le_refl _);have hpre:∀p kc,bY p.H p.y s.jL->s.ms.length<=p.cap->FA.pre ⟨s.jr,p,ks,kc⟩:=fun p kc h1 h2=>by
  have l1:=OY h.jl;have l2:=OY ha.one.jl;have l3:=h.len;have hd:=h.dn;obtain⟨cr,hf,_⟩:=ha.one.fl;have hc:=hf.one.log.calls;refine⟨h1,by show s.jL.l.length<800;omega,by show ks.length<1000;omega,by show s.ms.length<50000;omega,h2,fun _=>⟨ha.ok,?_,?_,?_⟩⟩
  ·show(oL s ks ks.length).d.n<_;rw[ha.dn];omega
  ·show(oL s ks ks.length).d.calls<_;have:(oL s ks ks.length).d.calls<=n+20*ks.length:=hc;omega
  ·show(oL s ks ks.length).jL.l.length<_;omega
 by_cases h0:ks.length=0
 ·have e:lY s ks=s:=by
   have:gZ s.jr ks=⟨s.jL,s.d,s.ms⟩:=by
    unfold gZ;rw[if_pos hA,if_pos h0];show(⟨s.jL,s.d,dO (cG s.jL) s.ms⟩:Jk)=_;rw[h.KC]
   unfold lY;rw[this]
  rw[e,h0];obtain⟨cr,hf,hcb⟩:=h.fl;have hc:=hf.one.log.calls;have hc:s.d.calls<=n:=hc;have hnx:=h.nx;refine⟨⟨⟨cr,hf.dev' (fun _ _ _ _ _=>rfl) rfl (by show s.d.calls<=_;omega),hcb⟩,h.jl.dev' (fun _ _ _ _ _=>rfl) rfl (by omega),h.jb,h.ms,by push_cast;omega,h.Xp,h.dn,h.keep,h.bK⟩,rfl,rfl,rfl,rfl,hpre⟩
 ·have e:lY s ks=Xq (oL s ks ks.length):=by
   have:gZ s.jr ks=⟨(dw s.jr ks ks.length).L,gv (dw s.jr ks ks.length).d,(dw s.jr ks ks.length).ms⟩:=by
    unfold gZ;rw[if_pos hA,if_neg h0];show(⟨(dw s.jr ks ks.length).L,gv (dw s.jr ks ks.length).d,dO (cG (dw s.jr ks ks.length).L) (dw s.jr ks ks.length).ms⟩:Jk)=_;rw[show dO (cG (dw s.jr ks ks.length).L) (dw s.jr ks ks.length).ms=(dw s.jr ks ks.length).ms from ha.one.KC]
   unfold lY;rw[this];rfl
  rw[e];exact⟨ha.one.flush,rfl,ha.dn,rfl,rfl,hpre⟩
theorem dF.kill{s:lT}{n:Nat}{es:List (Option aB)}{cb jb:Nat}(h:dF s n es cb jb){ks:List ByteArray}(hA:fS ks=true){wj wc:Nat}(hwj:∀i,i<ks.length->8+(dP (s.ms.length+i+1) (gl ks i)).length<=wj)(hwc:∀i,i<ks.length->8+(aJ (some (iO (gl ks i)))).length<=wc)(hn:n<800000000)(hfj:jb+wj*ks.length<=378)(hfc:cb+wc*ks.length<=378)(hl:ks.length<=20) :
 (∀p kc,Ar ⟨s,p,ks,kc⟩)/\YD s (n+40*ks.length+2) (es++ks.map fun q=>some (iO q)) (cb+wc*ks.length) (jb+wj*ks.length) ks:=by
 have hK:∀i,i<ks.length->cN (gl ks i)=true:=fun i hi=>List.all_eq_true.1 hA (gl ks i) (by rw[bT hi];exact List.getElem_mem _);have ha:=h.YC hK hwj (by omega) hfj ks.length (Nat.le_refl _);obtain⟨j1,j2,j3,j4,j5,j6⟩:=QT h hA hwj (by omega) hfj hl;have hd:=j1.Xr hK hwc (by omega) hfc ks.length (Nat.le_refl _);have ek:kj s ks=Xq (tE (lY s ks) ks ks.length):=by
  unfold kj;rw[if_pos hA];unfold OQ nZ;rw[if_pos hA];rfl
 have hms:(kj s ks).ms=(oL s ks ks.length).ms:=by rw[ek];exact j2
 refine⟨fun p kc=>⟨by show ks.length<1000;omega,fun _ q h1 h2=>j6 q kc h1 h2,fun _ q h1=>⟨h1,by show ks.length<1000;omega,fun _=>⟨hd.ok,?_,?_⟩⟩⟩,?_⟩
 ·show(tE (lY s ks) ks ks.length).d.n<_;rw[hd.dn,j3];have:=h.dn;omega
 ·show(tE (lY s ks) ks ks.length).d.calls<_;obtain⟨cr,hf,_⟩:=hd.one.fl;have hc:=hf.one.log.calls;have:(tE (lY s ks) ks ks.length).d.calls<=n+20*ks.length+1+20*ks.length:=hc;omega
 ·have h1:=hd.one.flush;rw[List.take_length,show n+20*ks.length+1+20*ks.length+1=n+40*ks.length+2 by omega,<- ek]at h1;refine⟨h1,by rw[hms];exact ha.len,?_,fun j hj=>by rw[hms];exact ha.key j hj,by rw[ek];show(tE (lY s ks) ks ks.length).d.n=_;rw[hd.dn,j3],by rw[ek];exact⟨j4,j5⟩,by rw[ek];exact⟨fun _=>rfl,fun _ _=>rfl⟩⟩;have h2:=h1.seq;rw[hms,ha.len]at h2;have:(gZ s.jr ks).ms=(oL s ks ks.length).ms:=j2;rw[this,h2];push_cast;rfl
theorem dF.get{s:lT}{n:Nat}{es:List (Option aB)}{cb jb:Nat}(h:dF s n es cb jb)(k:ByteArray):Qt s.fl/\Dk s.fl k (gE es k):=by
 obtain⟨cr,hf,_⟩:=h.fl;exact⟨hf.one.has.aag,hf.one.has.gO k⟩
end Go.Proofs.YtfjgoonelcaggaaGreat
namespace Go.Sx
theorem eR.below{w w':World}(h:eR (fun _=>False) w w'):Go.RowKit.Below w.heap.size w w':=⟨h.os,h.tape,h.output,h.size,fun k hk=>h.block k hk id⟩
open Go.WideShapes Go.ChangeShapes in
theorem It{H:Type}{enc:TypeId×Value->H}{P:Program}{f:Func}{s:ChangeSpec}{apart fresh handsOn again:Bool}{W W':World}{args:Array Value}{v:Value}{ds gs:List (DataW H)}{pa:List MemPlace}
 (hW:DataW.Whole enc P f.params.toList s.vars apart W args.toList ds gs (pa++[]))
 (hres:∀(b:Nat) (sp:Nat->Bool) (hd:Bool),DataW.TrodAll enc P W' b sp hd f.resultTypes.toList (v.resultList f.resultTypes.size) (s.fn H (ds++gs)).results [])
 (hargs:∀sp:Nat->Bool,(∀p∈pa++[],sp p.block=true)->DataW.TrodAll enc P W' 0 sp true f.params.toList args.toList (s.fn H (ds++gs)).args pa)
 (hvars:∀sp:Nat->Bool,(∀p∈pa++[],sp p.block=true)->DataW.TrodVars enc P W' sp s.vars (s.fn H (ds++gs)).vars [])
 (hk:eR (fun _=>False) W W')
 (hok:∀(j:Nat) (t:TypeId) (r:Value),f.resultTypes[j]? = some t->(v.resultList f.resultTypes.size)[j]? = some r->Value.okWide P W' .any 0 t r) :
 s.post enc P f apart fresh handsOn again W args v W':=by
 have hl:=hW.lt;have hall:∀p∈pa++[],(fun _=>true:Nat->Bool) p.block=true:=fun _ _=>rfl;have hold:∀p∈pa++[],(fun b=>decide (b<W.heap.size)) p.block=true:=fun p hp=>decide_eq_true (hl p hp);have hmem:∀p,p∈([]++pa)++[]->p∈pa++[]:=fun p hp=>by simpa using hp
 refine⟨ds,gs,pa++[],[],pa,[],hW,hres _ _ _,hargs _ hold,hvars _ hold,World.keptBut_mono (may:=(·∈pa++[])) (fun p hp=>⟨hp,.inr (by simpa using hp)⟩) (hk.below.frame _),fun _=>?_⟩;obtain⟨_,_,_,_,_,hz,hn⟩:=hW;refine⟨hok,_,_,([]++pa)++[],⟨[]++pa,[],trodAll_append (hargs _ hall) (hres _ _ _),hvars _ hall,rfl,fun b off hp=>?_,fun ha=>by simpa using hn ha⟩,fun p hp _=>by simpa using hp⟩;rw[hk.Y3 _ (hl _ (hmem _ hp))];exact hz b off (hmem _ hp)
open Go.RowKit
def DJ(P:Program)(g:TypeId->Option (List CK)):List Field->Nat->Option (List CK)
 |[],_=>some []
 |f::r,o=>match g f.type,DJ P g r (o+P.cellsOf f.type)with
  |some ks,some l=>bif Nat.beq f.offset o&&Nat.beq ks.length (P.cellsOf f.type)then some (ks++l)else none
  |_,_=>none
def tF(dp:Bool)(P:Program):Nat->TypeId->Option (List CK)
 |0,_=>none
 |d+1,t=>match P.underlying t with
  |some (.slice _)=>bif dp then some [.deep]else none
  |some .bool=>some [.bool]
  |some (.int k)=>some [.int k]
  |some .string=>some [.str]
  |some (.struct fs)=>match DJ P (tF dp P d) fs.toList 0 with
   |some ks=>bif Nat.beq ks.length (P.cellsOf t)then some ks else none
   |none=>none
  |some (.array n e)=>match tF dp P d e with
   |some ks=>bif Nat.beq ks.length (P.cellsOf e)&&Nat.beq (n*ks.length) (P.cellsOf t)then some (rep n ks)else none
   |none=>none
  |_=>none
def Iu(P:Program):Nat->TypeId->Option (List CK):=tF false P
structure vn(ks:List CK)(cs:List Value):Prop where
 len:cs.length=ks.length
 ok:∀(j:Nat) (k:CK) (v:Value),ks[j]? = some k->cs[j]? = some v->k.ok v
theorem vn.append{ks ls:List CK}{cs ds:List Value}(h:vn ks cs)(g:vn ls ds):vn (ks++ls) (cs++ds):=by
 refine⟨by simp[h.len,g.len],fun j k v hk hv=>?_⟩;by_cases hj:j<ks.length
 ·rw[List.getElem?_append_left hj]at hk;rw[List.getElem?_append_left (by rw[h.len];exact hj)]at hv;exact h.ok j k v hk hv
 ·rw[List.getElem?_append_right (by omega)]at hk;rw[List.getElem?_append_right (by rw[h.len];omega),h.len]at hv;exact g.ok _ k v hk hv
section
variable {H:Type} {enc:TypeId×Value->H} {P:Program} {w:World} {base:Nat} {spare:Nat->Bool} {held:Bool}
theorem FK{g:TypeId->Option (List CK)}{n:Nat}{cs:List Value}
 (hg:∀t cs x ks,DataW.trod enc P w base spare held n t cs=some x->g t=some ks->vn ks cs) :
 ∀(fs:List Field) (o:Nat) (ks:List CK),DJ P g fs o=some ks->(∀f∈fs,∃x,DataW.trod enc P w base spare held n f.type ((cs.drop f.offset).take (P.cellsOf f.type))=some x)->o+ks.length=cs.length->vn ks (cs.drop o)
 |[],o,ks,h,_,hl=>by
  simp[DJ]at h;subst h;refine⟨by simp at hl ⊢;omega,fun j k v hk=>by simp at hk⟩
 |f::r,o,ks,h,hf,hl=>by
  simp only[DJ]at h;split at h
  ·rename_i k1 l1 e1 e2;cases hb:(Nat.beq f.offset o&&Nat.beq k1.length (P.cellsOf f.type))
   ·rw[hb]at h;cases h
   rw[hb]at h;simp only[cond_true,Option.some.injEq]at h;subst h;simp only[Bool.and_eq_true]at hb;have ho:=Nat.eq_of_beq_eq_true hb.1;have hk:=Nat.eq_of_beq_eq_true hb.2;obtain⟨x,hx⟩:=hf f List.mem_cons_self;rw[ho]at hx;have h1:=hg _ _ _ _ hx e1;have h2:=FK hg r _ l1 e2 (fun f hf'=>hf f (List.mem_cons_of_mem _ hf')) (by rw[<- hk];simp at hl;omega);have e:cs.drop o=(cs.drop o).take (P.cellsOf f.type)++cs.drop (o+P.cellsOf f.type):=by
    rw[<- List.drop_drop,List.take_append_drop]
   rw[e];exact h1.append h2
  ·cases h
theorem UH{ks:List CK}{cs:List Value}:∀(n:Nat) (o:Nat),(∀i,i<n->vn ks ((cs.drop (o+i*ks.length)).take ks.length))->o+n*ks.length=cs.length->vn (rep n ks) (cs.drop o)
 |0,o,_,hl=>⟨by simp at hl;simp[rep];omega,fun j k v hk=>by simp[rep]at hk⟩
 |n+1,o,h,hl=>by
  have h1:=h 0 (by omega);have h2:=UH (ks:=ks) (cs:=cs) n (o+ks.length) (fun i hi=>by
   have:=h (i+1) (by omega);rwa[Nat.succ_mul,show o+(i*ks.length+ks.length)=o+ks.length+i*ks.length by omega]at this) (by rw[Nat.succ_mul]at hl;omega)
  have e:cs.drop o=(cs.drop o).take ks.length++cs.drop (o+ks.length):=by
   rw[<- List.drop_drop,List.take_append_drop]
  rw[e,rep];exact vn.append (by simpa using h1) h2
theorem yO{dp:Bool}:∀(d n:Nat) (t:TypeId) (cs:List Value) (x:DataW H×List MemPlace) (ks:List CK),DataW.trod enc P w base spare held n t cs=some x->tF dp P d t=some ks->vn ks cs
 |0,_,_,_,_,_,_,h=>by simp[tF]at h
 |d+1,n,t,cs,x,ks,hx,h=>by
  simp only[tF]at h;split at h
  ·rename_i e hu;cases dp with
   |false=>cases h
   |true =>
    simp only[cond_true,Option.some.injEq]at h;subst h;have one:∃v:Value,cs=[v]/\v.oneCell'=true:=by
     rcases DataW.trod_slice hu hx with⟨hv,_⟩ | ⟨a,len,cap,elems,rest,m,_,hv,_⟩<;>exact⟨_,hv,rfl⟩
    obtain⟨v,rfl,hv⟩:=one;refine⟨rfl,fun j k u hk hv'=>?_⟩;cases j with
    |zero=>simp at hk hv';subst hk hv';exact hv
    |succ j=>simp at hk
  ·rename_i hu;cases h;obtain⟨b,rfl,_⟩:=DataW.trod_bool hu hx;refine⟨rfl,fun j k v hk hv=>?_⟩;cases j with
   |zero=>simp at hk hv;subst hk hv;exact⟨b,rfl⟩
   |succ j=>simp at hk
  ·rename_i k hu;cases h;obtain⟨m,rfl,_,hw⟩:=DataW.trod_int hu hx;refine⟨rfl,fun j k' v hk hv=>?_⟩;cases j with
   |zero=>simp at hk hv;subst hk hv;exact⟨m,rfl,by rw[F6];simpa[Lit.wf]using hw⟩
   |succ j=>simp at hk
  ·rename_i hu;cases h;obtain⟨s,rfl,_,hs⟩:=DataW.trod_string hu hx;refine⟨rfl,fun j k' v hk hv=>?_⟩;cases j with
   |zero=>simp at hk hv;subst hk hv;exact⟨s,rfl,by unfold aq;unfold maxLen at hs;exact hs⟩
   |succ j=>simp at hk
  ·rename_i fs hu;obtain⟨xs,m,rfl,_,hl,hlen,hget⟩:=DataW.trod_struct hu hx;split at h
   ·rename_i ks' e;cases hb:Nat.beq ks'.length (P.cellsOf t)
    ·rw[hb]at h;cases h
    rw[hb]at h;cases h;have hb:=Nat.eq_of_beq_eq_true hb;have:=FK (enc:=enc) (w:=w) (base:=base) (spare:=spare) (held:=held) (n:=m) (cs:=cs) (fun t cs x ks h1 h2=>yO d m t cs x ks h1 h2) fs.toList 0 ks e (fun f hf=>by
     obtain⟨i,hi,e⟩:=List.getElem_of_mem hf;have hi':i<fs.size:=by simpa using hi
     have h1:=hget i f (by rw[Array.getElem?_eq_getElem hi'];congr 1);rw[h1];exact⟨xs[i]'(by omega),List.getElem?_eq_getElem _⟩) (by omega)
    simpa using this
   ·cases h
  ·rename_i k e hu;obtain⟨xs,m,rfl,_,hl,hlen,hget⟩:=DataW.trod_array hu hx;split at h
   ·rename_i ks' e';cases hb:(Nat.beq ks'.length (P.cellsOf e)&&Nat.beq (k*ks'.length) (P.cellsOf t))
    ·rw[hb]at h;cases h
    rw[hb]at h;cases h;simp only[Bool.and_eq_true]at hb;have hb1:=Nat.eq_of_beq_eq_true hb.1;have hb2:=Nat.eq_of_beq_eq_true hb.2;have:=UH (ks:=ks') (cs:=cs) k 0 (fun i hi=>by
     have h1:=hget i hi;rw[List.getElem?_eq_getElem (by omega)]at h1;rw[hb1,Nat.zero_add];exact yO d m e _ _ _ h1 e') (by rw[hb2];omega)
    simpa using this
   ·cases h
  ·cases h
inductive RK where
 |c (k:CK)
 |s (e:TypeId) (ks:List CK)
inductive AK where
 |int (k:IntKind)
 |bool
 |str
 |agg (ks:List CK)
 |slc (e:TypeId) (ks:List CK)
 |WR (fs:List RK)
def UI(P:Program)(u:TypeId):Bool:=match P.underlying u with
 |some (.slice _)=>true
 |_=>false
def FL(P:Program)(d:Nat)(ts:List TypeId):List Field->Nat->Option (List RK)
 |[],_=>some []
 |f::r,o=>bif Nat.beq f.offset o then
  (match P.underlying f.type with
  |some (.slice e)=>match Iu P d e,ts[o]?,FL P d ts r (o+1)with
   |some ks,some u,some l=>bif Nat.beq ks.length (P.cellsOf e)&&(Nat.ble 1 ks.length&&(Nat.beq (P.cellsOf f.type) 1&&UI P u))then some (.s e ks::l)else none
   |_,_,_=>none
  |_=>match Iu P d f.type,FL P d ts r (o+P.cellsOf f.type)with
   |some ks,some l=>bif Nat.beq ks.length (P.cellsOf f.type)then some (ks.map .c++l)else none
   |_,_=>none)else none
def ZQ(P:Program)(d:Nat)(t:TypeId):Option AK :=
 match P.underlying t with
 |some .bool=>some .bool
 |some (.int k)=>some (.int k)
 |some .string=>some .str
 |some (.struct fs)=>match Iu P d t with
  |some ks=>some (.agg ks)
  |none=>match P.cellTypes P.depth t with
   |some ts=>match FL P d ts fs.toList 0 with
    |some l=>bif Nat.beq l.length (P.cellsOf t)&&Nat.beq ts.length (P.cellsOf t)then some (.WR l)else none
    |none=>none
   |none=>none
 |some (.slice e)=>match tF true P d e with
  |some ks=>bif Nat.beq ks.length (P.cellsOf e)&&Nat.ble 1 ks.length then some (.slc e ks)else none
  |none=>none
 |_=>none
def DK(P:Program)(d:Nat):List TypeId->Option (List AK)
 |[]=>some []
 |t::r=>match ZQ P d t,DK P d r with
  |some k,some l=>some (k::l)
  |_,_=>none
inductive RD where
 |a (x:A)
 |s (m n cap:Nat) (rows:Nat->Nat->Value)
inductive AD where
 |a (x:A)
 |agg (xs:List A)
 |slc (m n cap:Nat) (rows:Nat->Nat->Value)
 |WR (xs:List RD)
def aai:RK->RD->Prop
 |.c k,d=>∃v,d = .a (l6 k v)/\k.ok v
 |.s _ ks,d=>∃n cap rows,d = .s ks.length n cap rows/\n<=cap/\cap<=aq/\∀i,i<n->∀(j:Nat) (k:CK),ks[j]? = some k->k.ok (rows i j)
def KD:List RK->List RD->Prop
 |[],l=>l=[]
 |k::ks,l=>∃d r,l=d::r/\aai k d/\KD ks r
def YE:Nat->List RD->List A
 |_,[]=>[]
 |n,.a x::r=>x::YE n r
 |n,.s m l c _::r=>.slc n 0 m l c::YE (n+1) r
def yP:Nat->List RK->List RD->List (Nat×Chunk)
 |n,.s e ks::r,.s _ l _ rows::q=>(n,.arr e ks l rows)::yP (n+1) r q
 |n,_::r,_::q=>yP n r q
 |_,_,_=>[]
def rN:List RD->Nat
 |[]=>0
 |.s _ _ _ _::r=>rN r+1
 |_::r=>rN r
def aaj:AK->AD->Prop
 |.int k,d=>∃n,d = .a (.int k n)/\bR k n
 |.bool,d=>∃b,d = .a (.bool b)
 |.str,d=>∃s,d = .a (.str s)/\s.size<=aq
 |.agg ks,d=>∃r:Nat->Value,d = .agg (atoms r ks 0)/\∀(j:Nat) (k:CK),ks[j]? = some k->k.ok (r j)
 |.slc _ ks,d=>∃n cap rows,d = .slc ks.length n cap rows/\n<=cap/\cap<=aq/\∀i,i<n->∀(j:Nat) (k:CK),ks[j]? = some k->k.ok (rows i j)
 |.WR fs,d=>∃xs,d = .WR xs/\KD fs xs
def KE:List AK->List AD->Prop
 |[],l=>l=[]
 |k::ks,l=>∃d r,l=d::r/\aaj k d/\KE ks r
def Xs:Nat->List AD->List SV
 |_,[]=>[]
 |n,.a x::r=>.a x::Xs n r
 |n,.agg xs::r=>.agg xs::Xs n r
 |n,.slc m l c _::r=>.a (.slc n 0 m l c)::Xs (n+1) r
 |n,.WR xs::r=>.agg (YE n xs)::Xs (n+rN xs) r
def Nf:Nat->List AK->List AD->List (Nat×Chunk)
 |n,.slc e ks::r,.slc _ l _ rows::s=>(n,.arr e ks l rows)::Nf (n+1) r s
 |n,.WR fs::r,.WR xs::s=>yP n fs xs++Nf (n+rN xs) r s
 |n,_::r,_::s=>Nf n r s
 |_,_,_=>[]
def Iv:List AD->Nat
 |[]=>0
 |.slc _ _ _ _::r=>Iv r+1
 |.WR xs::r=>Iv r+rN xs
 |_::r=>Iv r
theorem DL{w:World}{base:Nat}{a:Addr}:∀ {n:Nat} {cs:List Value},w.cells? base a n=some cs->cs.length=n/\base<=a.block/\∀i,i<n->w.cell? (a.add i)=cs[i]?:=by
 intro n cs h;unfold World.cells? at h;split at h
 ·rename_i hb;have hl:=mapM_some_length h;refine⟨by simpa using hl,hb,fun i hi=>?_⟩;exact mapM_some_get h i i (by simp[hi])
 ·cases h
theorem Addr.WS(a:Addr)(n:Nat)(h:a.spot=none):a.add n=⟨a.block,a.off+n,none⟩:=by
 unfold Addr.add;split
 ·subst_vars;cases a;simp_all
 ·cases a;simp_all
theorem FM{dp:Bool}{t e:TypeId}{ks:List CK}{d fuel:Nat}{v:Value}{dd:DataW H}{ps:List MemPlace}(ht:P.underlying t=some (.slice e))(hf:tF dp P d e=some ks)(hk:ks.length=P.cellsOf e)(hk1:1<=ks.length)
 (h:DataW.trod enc P w 0 (fun _=>true) held fuel t [v]=some (dd,ps)) (hz:∀b off,MemPlace.cell b off∈ps->w.frozen? ⟨b,off,none⟩=false) :
 ∃(p:Place) (n cap:Nat) (rows:Nat->Nat->Value),n<=cap/\cap<=aq/\(∀i,i<n->∀(j:Nat) (k:CK),ks[j]? = some k->k.ok (rows i j))/\(∀b,p.fp b->b<w.heap.size) /\
  (∀(ρ:Env) (T:Nat),T<ρ.n->ρ.pl T=p->(A.slc T 0 ks.length n cap).cq ρ v)/\(∀(ρ:Env),(Chunk.arr e ks n rows).Sat ρ p w) /\
  ∀i,i<n->∃(m:Nat) (cs:List Value) (x:DataW H×List MemPlace),DataW.trod enc P w 0 (fun _=>true) held m e cs=some x/\(∀b off,MemPlace.cell b off∈x.2->w.frozen? ⟨b,off,none⟩=false)/\vn ks cs/\∀j,j<ks.length->cs[j]? = some (rows i j):=by
 rcases DataW.trod_slice ht h with⟨hv,_⟩ | ⟨a,len,cap,elems,rest,m,rfl,hv,hx,_,hlc,hcm,hel,hget,hsp,_⟩
 ·cases hv;refine⟨yg,0,0,fun _ _=>undef,Nat.le_refl _,Nat.zero_le _,fun i hi=>absurd hi (Nat.not_lt_zero _),fun b hb=>hb.elim,fun ρ T hT _=>⟨hT,Nat.le_refl _,Nat.zero_le _,.inl ⟨rfl,rfl,rfl⟩⟩,fun ρ=>.inl ⟨rfl,rfl,fun b hb=>hb⟩,fun i hi=>absurd hi (Nat.not_lt_zero _)⟩
 ·cases hv;obtain⟨hr1,hr2⟩:=hsp rfl;by_cases hc0:cap=0
  ·subst hc0;have hl0:len=0:=by omega
   subst hl0;exact⟨⟨a.block,a.off,0,fun _=>False⟩,0,0,fun _ _=>undef,Nat.le_refl _,Nat.zero_le _,fun i hi=>absurd hi (Nat.not_lt_zero _),fun b hb=>hb.elim,fun ρ T hT hp=>⟨hT,Nat.le_refl _,Nat.zero_le _,.inr ⟨a,rfl,fun h=>absurd rfl h⟩⟩,fun ρ=>.inl ⟨rfl,rfl,fun b hb=>hb⟩,fun i hi=>absurd hi (Nat.not_lt_zero _)⟩
  have hspot:a.spot=none:=by
   have fin:∀(o:Option (DataW H×List MemPlace)),(∃x,o=some x)->(w.cells? 0 (a.add (0*P.cellsOf e)) (P.cellsOf e)).bind (DataW.trod enc P w 0 (fun _=>true) held m e)=o->a.spot=none:=by
    rintro o ⟨x,rfl⟩ ho;obtain⟨cs,hcs,hx⟩:=Option.bind_eq_some_iff.1 ho;obtain⟨h1,_,hc⟩:=DL hcs;have:=hc 0 (by omega);rw[Nat.zero_mul,show ∀a:Addr,(a.add 0).add 0=a from fun a=>rfl,List.getElem?_eq_getElem (by omega)]at this;unfold World.cell? at this;split at this
    ·cases hsp:a.spot with
     |none=>rfl
     |some s=>rw[hsp]at this;simp at this
    ·cases this
   by_cases h1:0<len
   ·exact fin _ ⟨elems[0]'(by omega),List.getElem?_eq_getElem _⟩ (hget 0 h1)
   ·have:=hr2 0 (by omega);rw[show len+0=0 by omega]at this;exact fin _ ⟨rest[0]'(by omega),List.getElem?_eq_getElem _⟩ this
  have row:∀i,i<cap->∃cs:List Value,(vn ks cs/\∀j,j<ks.length->w.cell? ⟨a.block,a.off+i*ks.length+j,none⟩=cs[j]?)/\(i<len->∃x∈elems,DataW.trod enc P w 0 (fun _=>true) held m e cs=some x):=by
   intro i hi;have fin:∀(x:DataW H×List MemPlace),(w.cells? 0 (a.add (i*P.cellsOf e)) (P.cellsOf e)).bind (DataW.trod enc P w 0 (fun _=>true) held m e)=some x->∃cs:List Value,(vn ks cs/\∀j,j<ks.length->w.cell? ⟨a.block,a.off+i*ks.length+j,none⟩=cs[j]?)/\DataW.trod enc P w 0 (fun _=>true) held m e cs=some x:=by
    intro x ho;obtain⟨cs,hcs,hx⟩:=Option.bind_eq_some_iff.1 ho;obtain⟨_,_,hc⟩:=DL hcs;refine⟨cs,⟨yO d m e cs x ks hx hf,fun j hj=>?_⟩,hx⟩;have:=hc j (by omega);rw[Addr.WS a _ hspot,Addr.add_plain,<- hk]at this;exact this
   by_cases h1:i<len
   ·obtain⟨cs,g1,g2⟩:=fin (elems[i]'(by omega)) ((hget i h1).trans (List.getElem?_eq_getElem _));exact⟨cs,g1,fun _=>⟨_,List.getElem_mem _,g2⟩⟩
   ·have:=hr2 (i-len) (by omega);rw[show len+(i-len)=i by omega]at this;obtain⟨cs,g1,g2⟩:=fin (rest[i-len]'(by omega)) (this.trans (List.getElem?_eq_getElem _));exact⟨cs,g1,fun h=>absurd h h1⟩
  ·have hcell:∀i,i<cap->∀(j:Nat) (k:CK),ks[j]? = some k->∃v,w.cell? ⟨a.block,a.off+i*ks.length+j,none⟩=some v/\k.ok v:=by
    intro i hi j k hj;have hjl:j<ks.length:=(List.getElem?_eq_some_iff.1 hj).1;obtain⟨cs,⟨h1,h2⟩,_⟩:=row i hi;have hlt:j<cs.length:=by rw[h1.len];exact hjl
    exact⟨cs[j],by rw[h2 j hjl,List.getElem?_eq_getElem hlt],h1.ok j k _ hj (List.getElem?_eq_getElem hlt)⟩
   have hblk:∃vs ty fr,w.heap[a.block]? = some (.cells vs ty fr):=by
    obtain⟨v,hv,_⟩:=hcell 0 (by omega) 0 (ks[0]'(by omega)) (List.getElem?_eq_getElem _);unfold World.cell? at hv;split at hv
    ·rename_i vs ty fr hh;exact⟨vs,ty,fr,hh⟩
    ·cases hv
   obtain⟨vs,ty,fr,hb⟩:=hblk;have hget2:∀i,i<cap->∀(j:Nat) (k:CK),ks[j]? = some k->∃v,vs[a.off+i*ks.length+j]? = some v/\k.ok v:=by
    intro i hi j k hj;obtain⟨v,hv,hok⟩:=hcell i hi j k hj;rw[cell_of hb]at hv;exact⟨v,hv,hok⟩
   have hfit:a.off+cap*ks.length<=vs.size:=by
    obtain⟨v,hv,_⟩:=hget2 (cap-1) (by omega) (ks.length-1) (ks[ks.length-1]'(by omega)) (List.getElem?_eq_getElem _);obtain⟨hlt,_⟩:=Array.getElem?_eq_some_iff.1 hv;have:(cap-1)*ks.length+ks.length=cap*ks.length:=by
     rw[<- Nat.succ_mul];congr 1;omega
    omega
   have hblt:a.block<w.heap.size:=by
    obtain⟨hlt,_⟩:=Array.getElem?_eq_some_iff.1 hb;exact hlt
   refine⟨⟨a.block,a.off,cap,fun b=>b=a.block⟩,len,cap,fun i j=>vs[a.off+i*ks.length+j]?.getD undef,hlc,by unfold aq;unfold maxLen at hcm;exact hcm,fun i hi j k hj=>?_,fun b hb=>by rw[hb];exact hblt,fun ρ T hT hp=>⟨hT,hlc,by unfold aq;unfold maxLen at hcm;exact hcm,.inr ⟨a,rfl,fun _=>⟨by rw[hp];cases a;simp at hspot;subst hspot;simp,by rw[hp];simp⟩⟩⟩,fun ρ=>.inr ⟨vs,ty,fr,hb,hfit,hlc,fun o h1 h2=>?_,fun _=>Iff.rfl,fun i hi j k hj=>?_⟩,fun i hi=>?_⟩
   ·obtain⟨v,hv,hok⟩:=hget2 i (by omega) j k hj;simp only;rw[hv];exact hok
   ·have hmem:MemPlace.cell a.block o∈ps:=by
     have e:ps=MemPlace.row a ((elems.length+rest.length)*P.cellsOf e)++(elems++rest).flatMap (·.2):=congrArg Prod.snd hx;rw[e];refine List.mem_append_left _ (List.mem_map.2 ⟨o-a.off,?_,?_⟩)
     ·rw[List.mem_range,hel,hr1,<- hk];simp only at h1 h2;rw[show len+(cap-len)=cap by omega];omega
     ·simp only at h1;show MemPlace.cell a.block (a.off+(o-a.off))=_;rw[show a.off+(o-a.off)=o by omega]
    have:=hz _ _ hmem;simp only[World.frozen?,hb]at this;obtain⟨lo,hi⟩:=fr;simpa using this
   ·obtain⟨v,hv,hok⟩:=hget2 i (by omega) j k hj;simp only;rw[hv];exact⟨rfl,hok⟩
   ·obtain⟨cs,⟨g1,g2⟩,g3⟩:=row i (by omega);obtain⟨x,hxm,hxt⟩:=g3 hi;refine⟨m,cs,x,hxt,fun b off hm=>hz b off ?_,g1,fun j hj=>?_⟩
    ·have e:ps=MemPlace.row a ((elems.length+rest.length)*P.cellsOf e)++(elems++rest).flatMap (·.2):=congrArg Prod.snd hx;rw[e];exact List.mem_append_right _ (List.mem_flatMap.2 ⟨x,List.mem_append_left _ hxm,hm⟩)
    ·have h2:=g2 j hj;rw[cell_of hb]at h2;have hlt:j<cs.length:=by rw[g1.len];exact hj
     rw[List.getElem?_eq_getElem hlt]at h2 ⊢;simp only;rw[h2];rfl
theorem Ng{t e:TypeId}{ks:List CK}{d:Nat}{v:Value}{dd:DataW H}{ps:List MemPlace}{r:Reach}{b0:Nat}(ht:P.underlying t=some (.slice e))(hf:tF true P d e=some ks)(hk:ks.length=P.cellsOf e)(hk1:1<=ks.length)
 (hval:Value.okWide P w r b0 t v) (h:DataW.Trod enc P w 0 (fun _=>true) held t v dd ps) (hz:∀b off,MemPlace.cell b off∈ps->w.frozen? ⟨b,off,none⟩=false) :
 ∃(p:Place) (n cap:Nat) (rows:Nat->Nat->Value),n<=cap/\cap<=aq/\(∀i,i<n->∀(j:Nat) (k:CK),ks[j]? = some k->k.ok (rows i j))/\(∀b,p.fp b->b<w.heap.size) /\
  (∀(ρ:Env) (T:Nat),T<ρ.n->ρ.pl T=p->(A.slc T 0 ks.length n cap).cq ρ v)/\∀(ρ:Env),(Chunk.arr e ks n rows).Sat ρ p w:=by
 obtain⟨fuel,h⟩:=h;have hv2:Cell.okWide P w r b0 t v:=by unfold Value.okWide at hval;rw[ht]at hval;exact hval
 have hone:∀o l c,v.cells.toList=[.slice o l c]->v = .slice o l c:=by
  intro o l c hv;cases v<;>simp[Value.cells]at hv<;>first|exact hv|(simp[hv];done)|skip
  all_goals(unfold Cell.okWide Cell.ok at hv2;rw[ht]at hv2;simp at hv2)
 have hc:v.cells.toList=[v]:=by
  rcases DataW.trod_slice ht h with⟨hv,_⟩ | ⟨a,len,cap,elems,rest,m,_,hv,_⟩
  ·rw[hone _ _ _ hv];rfl
  ·rw[hone _ _ _ hv];rfl
 rw[hc]at h;obtain⟨p,n,cap,rows,g1,g2,g3,g4,g5,g6,_⟩:=FM ht hf hk hk1 h hz;exact⟨p,n,cap,rows,g1,g2,g3,g4,g5,g6⟩
theorem FN:∀ {ks:List CK} {l:List RK} {vs:List Value} {xs:List RD},vn ks vs->KD l xs->KD (ks.map .c++l) ((List.zipWith (fun k v=>RD.a (l6 k v)) ks vs)++xs)
 |[],l,vs,xs,h,hx=>by
  have:vs=[]:=List.eq_nil_of_length_eq_zero (by simpa using h.len);subst this;exact hx
 |k::ks,l,[],xs,h,hx=>by have:=h.len;simp at this
 |k::ks,l,v::vs,xs,h,hx=>⟨_,_,rfl,⟨v,rfl,h.ok 0 k v rfl rfl⟩,FN (ks:=ks) (vs:=vs) ⟨by have:=h.len;simpa using this,fun j k' v' hk hv=>h.ok (j+1) k' v' (by simpa using hk) (by simpa using hv)⟩ hx⟩
theorem O0:∀(n:Nat) (ks:List CK) (vs:List Value) (xs:List RD),YE n ((List.zipWith (fun k v=>RD.a (l6 k v)) ks vs)++xs)=List.zipWith l6 ks vs++YE n xs
 |_,[],_,_=>by simp
 |_,_::_,[],_=>by simp
 |n,k::ks,v::vs,xs=>by simp[YE,O0 n ks vs xs]
theorem UJ:∀(ks:List CK) (vs:List Value) (xs:List RD),rN ((List.zipWith (fun k v=>RD.a (l6 k v)) ks vs)++xs)=rN xs
 |[],_,_=>by simp
 |_::_,[],_=>by simp
 |k::ks,v::vs,xs=>by simp[rN,UJ ks vs xs]
theorem KF:∀(n:Nat) {ks:List CK} {vs:List Value} (l:List RK) (xs:List RD),vs.length=ks.length->yP n (ks.map .c++l) ((List.zipWith (fun k v=>RD.a (l6 k v)) ks vs)++xs)=yP n l xs
 |_,[],[],_,_,_=>by simp
 |_,[],_::_,_,_,h=>by simp at h
 |_,_::_,[],_,_,h=>by simp at h
 |n,k::ks,v::vs,l,xs,h=>by
  have:=KF n (ks:=ks) (vs:=vs) l xs (by simpa using h);simpa[yP]using this
theorem KG{ρ:Env}:∀ {ks:List CK} {vs:List Value},vn ks vs->cz ρ (List.zipWith l6 ks vs) vs
 |[],vs,h=>by
  have:vs=[]:=List.eq_nil_of_length_eq_zero (by simpa using h.len);subst this;rfl
 |k::ks,[],h=>by have:=h.len;simp at this
 |k::ks,v::vs,h=>⟨v,vs,rfl,nN (h.ok 0 k v rfl rfl) ρ,KG ⟨by have:=h.len;simpa using this,fun j k' v' hk hv=>h.ok (j+1) k' v' (by simpa using hk) (by simpa using hv)⟩⟩
theorem qG:∀(n:Nat) (fs:List RK) (xs:List RD),∀p∈yP n fs xs,n<=p.1/\p.1<n+rN xs
 |_,[],_,_,h=>by simp[yP]at h
 |_,_::_,[],_,h=>by simp[yP]at h
 |n,k::r,x::s,p,h=>by
  cases k<;>cases x<;>simp only[yP,List.mem_cons]at h
  ·exact qG n r s p h
  ·have:=qG n r s p h;simp only[rN];omega
  ·exact qG n r s p h
  ·rcases h with rfl|h
   ·simp only[rN];omega
   ·have:=qG (n+1) r s p h;simp only[rN];omega
theorem DM{r:Reach}{b0 d n:Nat}{ts:List TypeId}{cs:List Value}(hts:∀(i:Nat) (v:Value),cs[i]? = some v->∃u:TypeId,ts[i]? = some u/\Cell.okWide P w r b0 u v) :
 ∀(fs:List Field) (o:Nat) (l:List RK) (ρ0:Env),FL P d ts fs o=some l ->
  (∀f∈fs,∃x,DataW.trod enc P w 0 (fun _=>true) held n f.type ((cs.drop f.offset).take (P.cellsOf f.type))=some x/\∀b off,MemPlace.cell b off∈x.2->w.frozen? ⟨b,off,none⟩=false)->o+l.length=cs.length ->
  ∃(xs:List RD) (ρ:Env),KD l xs/\ρ0.le ρ/\ρ.n=ρ0.n+rN xs/\cz ρ (YE ρ0.n xs) (cs.drop o)/\aj w (fun _=>False) ρ (Ex (yP ρ0.n l xs)) w
 |[],o,l,ρ0,h,_,hl=>by
  simp[FL]at h;subst h;refine⟨[],ρ0,rfl,Env.le.refl _,rfl,?_,⟨eR.refl _ _,fun e he=>(by cases he),.nil⟩⟩;have:cs.drop o=[]:=List.drop_eq_nil_of_le (by simp at hl;omega);rw[this];rfl
 |f::fs,o,l,ρ0,h,hf,hl=>by
  simp only[FL]at h;cases ho:Nat.beq f.offset o with
  |false=>rw[ho]at h;cases h
  |true =>
  rw[ho]at h;simp only[cond_true]at h;have ho':=Nat.eq_of_beq_eq_true ho;obtain⟨x,hx,hz⟩:=hf f List.mem_cons_self;rw[ho']at hx;have hfr:∀g∈fs,∃x,DataW.trod enc P w 0 (fun _=>true) held n g.type ((cs.drop g.offset).take (P.cellsOf g.type))=some x/\∀b off,MemPlace.cell b off∈x.2->w.frozen? ⟨b,off,none⟩=false:=fun g hg=>hf g (List.mem_cons_of_mem _ hg);split at h
  ·rename_i e hu;split at h
   ·rename_i ks u l1 e1 e2 e3;cases hb:(Nat.beq ks.length (P.cellsOf e)&&(Nat.ble 1 ks.length&&(Nat.beq (P.cellsOf f.type) 1&&UI P u)))
    ·rw[hb]at h;cases h
    rw[hb]at h;simp only[cond_true,Option.some.injEq]at h;subst h;simp only[Bool.and_eq_true]at hb;obtain⟨h1,h2,h3,h4⟩:=hb;have hlt:o<cs.length:=by simp at hl;omega
    have hc1:=Nat.eq_of_beq_eq_true h3;have hone:(cs.drop o).take (P.cellsOf f.type)=[cs[o]]:=by
     rw[hc1,List.drop_eq_getElem_cons hlt];rfl
    rw[hone]at hx;obtain⟨u',hu',hok⟩:=hts o cs[o] (List.getElem?_eq_getElem hlt);rw[e2]at hu';cases hu';obtain⟨p,m,cap,rows,hn,hc,hrows,hlt2,hrep,hsat,_⟩:=FM hu e1 (Nat.eq_of_beq_eq_true h1) (Nat.le_of_ble_eq_true h2) (dd:=x.1) (ps:=x.2) hx hz;obtain⟨xs,ρ,g1,g2,g3,g4,g5⟩:=DM hts fs (o+1) l1 (ρ0.ext p) e3 hfr (by simp at hl ⊢;omega);have hpl:ρ.pl ρ0.n=p:=by rw[g2.pl _ (Nat.lt_succ_self _)];exact ρ0.dD p
    have hlt':ρ0.n<ρ.n:=g2.n;refine⟨.s ks.length m cap rows::xs,ρ,⟨_,_,rfl,⟨m,cap,rows,rfl,hn,hc,hrows⟩,g1⟩,(ρ0.en p).trans g2,by rw[g3];simp[rN,Env.ext];omega,?_,?_⟩
    ·rw[List.drop_eq_getElem_cons hlt];exact⟨_,_,rfl,hrep ρ ρ0.n hlt' hpl,g4⟩
    ·refine aj.cons g5 ⟨hlt',by simp only;rw[hpl];exact hsat ρ,by simp only;rw[hpl];exact hlt2,fun h=>(by cases h)⟩ fun y hy=>⟨?_,fun h=>?_⟩
     ·obtain⟨q,hq,rfl⟩:=List.mem_map.1 hy;have:=(qG _ _ _ _ hq).1;simp only[Env.ext]at this ⊢;omega
     ·rw[CB hy]at h;cases h
   ·cases h
  ·split at h
   ·rename_i ks l1 e1 e3;cases hb:Nat.beq ks.length (P.cellsOf f.type)
    ·rw[hb]at h;cases h
    rw[hb]at h;simp only[cond_true,Option.some.injEq]at h;subst h;have hb':=Nat.eq_of_beq_eq_true hb;have hks:=yO d n f.type _ _ ks hx e1;obtain⟨xs,ρ,g1,g2,g3,g4,g5⟩:=DM hts fs (o+P.cellsOf f.type) l1 ρ0 e3 hfr (by rw[<- hb'];simp at hl;omega);refine⟨(List.zipWith (fun k v=>RD.a (l6 k v)) ks ((cs.drop o).take (P.cellsOf f.type)))++xs,ρ,FN hks g1,g2,by rw[UJ];exact g3,?_,?_⟩
    ·rw[O0];have e:cs.drop o=(cs.drop o).take (P.cellsOf f.type)++cs.drop (o+P.cellsOf f.type):=by
      rw[<- List.drop_drop,List.take_append_drop]
     rw[e,List.take_append_of_le_length (by rw[hks.len,hb'];exact Nat.le_refl _),List.take_take,Nat.min_self];exact(KG hks).append g4
    ·rw[KF _ _ _ hks.len];exact g5
   ·cases h
theorem Iw:∀(n:Nat) (aks:List AK) (ads:List AD),∀p∈Nf n aks ads,n<=p.1
 |_,[],_,_,h=>by simp[Nf]at h
 |_,_::_,[],_,h=>by simp[Nf]at h
 |n,k::r,a::s,p,h=>by
  have key:∀m,n<=m->p∈Nf m r s->n<=p.1:=fun m hm h=>Nat.le_trans hm (Iw m r s p h);cases k<;>cases a<;>simp only[Nf,List.mem_cons,List.mem_append]at h<;>first|exact key n (Nat.le_refl _) h|skip
  ·rcases h with rfl|h
   ·exact Nat.le_refl _
   ·exact key (n+1) (Nat.le_succ _) h
  ·rcases h with h|h
   ·exact(qG _ _ _ _ h).1
   ·exact key _ (Nat.le_add_right _ _) h
theorem Nh{ρ:Env}{ks:List CK}{cs:List Value}(h:vn ks cs):cz ρ (atoms (fun j=>cs.getD j undef) ks 0) cs:=by
 have:=vH ρ (fun j=>cs.getD j undef) ks 0 (fun j k hk=>by
  have hj:j<cs.length:=by rw[h.len];exact(List.getElem?_eq_some_iff.1 hk).1
  rw[Nat.zero_add];refine h.ok j k _ hk ?_;simp[List.getD,List.getElem?_eq_getElem hj])
 have e:(List.range' 0 ks.length).map (fun j=>cs.getD j undef)=cs:=by
  apply List.ext_getElem
  ·simp[h.len]
  ·intro i h1 h2;simp[List.getD,List.getElem?_eq_getElem h2]
 rwa[e]at this
theorem FO{r:Reach}{b0 d:Nat}:∀(ts:List TypeId) (aks:List AK) (vs:List Value) (ds:List (DataW H)) (ps:List MemPlace) (ρ0:Env),DK P d ts=some aks->DataW.TrodAll enc P w 0 (fun _=>true) held ts vs ds ps ->
 (∀(j:Nat) (t:TypeId) (v:Value),ts[j]? = some t->vs[j]? = some v->Value.okWide P w r b0 t v)->(∀b off,MemPlace.cell b off∈ps->w.frozen? ⟨b,off,none⟩=false) ->
 ∃(ads:List AD) (ρ:Env),KE aks ads/\ρ0.le ρ/\ρ.n=ρ0.n+Iv ads/\jd ρ (Xs ρ0.n ads) vs/\aj w (fun _=>False) ρ (Ex (Nf ρ0.n aks ads)) w
 |[],aks,[],[],ps,ρ0,h,hA,_,_=>by
  simp[DK]at h;subst h;exact⟨[],ρ0,rfl,Env.le.refl _,rfl,rfl,⟨eR.refl _ _,fun e he=>(by cases he),.nil⟩⟩
 |t::ts,aks,v::vs,dd::ds,ps,ρ0,h,hA,hval,hz=>by
  obtain⟨p1,p2,hT,hA',rfl⟩:=hA;simp only[DK]at h;split at h
  ·rename_i k l e1 e2;cases h;have hv0:=hval 0 t v rfl rfl;have rec_:=fun ρ=>FO (r:=r) (b0:=b0) (d:=d) ts l vs ds p2 ρ e2 hA' (fun j t v hj hv=>hval (j+1) t v (by simpa using hj) (by simpa using hv)) (fun b off hm=>hz b off (List.mem_append_right _ hm));have hz1:∀b off,MemPlace.cell b off∈p1->w.frozen? ⟨b,off,none⟩=false:=fun b off hm=>hz b off (List.mem_append_left _ hm);obtain⟨fuel,hx⟩:=hT;have one:∀u,v.cells.toList=[u]->u.oneCell'=true->(∀x,v≠.agg x)->v=u:=by
    intro u hv hu hna;cases v<;>simp[Value.cells]at hv<;>first|exact hv|exact hv.symm|(rename_i x;exact absurd rfl (hna x))|(subst hv;simp[Value.oneCell']at hu)
   have nagg:∀x:Array Value,v = .agg x->(∃fs,P.underlying t=some (.struct fs))\/∃n e,P.underlying t=some (.array n e):=by
    intro x hx;subst hx;unfold Value.okWide at hv0;split at hv0
    ·rename_i fs hu;exact .inl ⟨fs,hu⟩
    ·rename_i n e hu;exact .inr ⟨n,e,hu⟩
    ·rename_i h1 h2;unfold Cell.okWide at hv0;split at hv0<;>first|(cases ‹Value.agg x=_›;done)|skip
     all_goals(first|(rename_i e;cases e;done)|skip)
     unfold Cell.ok at hv0;split at hv0<;>first|(rename_i e;cases e;done)|exact hv0.elim|skip
   unfold ZQ at e1;split at e1
   ·rename_i hu;cases e1;obtain⟨b,hb,_⟩:=DataW.trod_bool hu hx;have hv:=one _ hb rfl (fun x hx=>by rcases nagg x hx with⟨_,h⟩ | ⟨_,_,h⟩<;>rw[hu]at h<;>cases h);subst hv;obtain⟨ads,ρ,h1,h2,h3,h4,h5⟩:=rec_ ρ0;exact⟨.a (.bool b)::ads,ρ,⟨_,_,rfl,⟨b,rfl⟩,h1⟩,h2,h3,⟨_,_,rfl,rfl,h4⟩,h5⟩
   ·rename_i kk hu;cases e1;obtain⟨m,hb,_,hw⟩:=DataW.trod_int hu hx;have hv:=one _ hb rfl (fun x hx=>by rcases nagg x hx with⟨_,h⟩ | ⟨_,_,h⟩<;>rw[hu]at h<;>cases h);subst hv;have hin:bR kk m:=by rw[F6];simpa[Lit.wf]using hw
    obtain⟨ads,ρ,h1,h2,h3,h4,h5⟩:=rec_ ρ0;exact⟨.a (.int kk m)::ads,ρ,⟨_,_,rfl,⟨m,rfl,hin⟩,h1⟩,h2,h3,⟨_,_,rfl,⟨rfl,hin⟩,h4⟩,h5⟩
   ·rename_i hu;cases e1;obtain⟨s,hb,_,hs⟩:=DataW.trod_string hu hx;have hv:=one _ hb rfl (fun x hx=>by rcases nagg x hx with⟨_,h⟩ | ⟨_,_,h⟩<;>rw[hu]at h<;>cases h);subst hv;have hs':s.size<=aq:=by unfold aq;unfold maxLen at hs;exact hs
    obtain⟨ads,ρ,h1,h2,h3,h4,h5⟩:=rec_ ρ0;exact⟨.a (.str s)::ads,ρ,⟨_,_,rfl,⟨s,rfl,hs'⟩,h1⟩,h2,h3,⟨_,_,rfl,⟨rfl,hs'⟩,h4⟩,h5⟩
   ·rename_i fs hu;cases hf:Iu P d t with
    |none =>
     rw[hf]at e1;simp only at e1;split at e1
     ·rename_i tys hty;split at e1
      ·rename_i fl hfl;cases hb:(Nat.beq fl.length (P.cellsOf t)&&Nat.beq tys.length (P.cellsOf t))
       ·rw[hb]at e1;cases e1
       rw[hb]at e1;simp only[cond_true,Option.some.injEq]at e1;subst e1;simp only[Bool.and_eq_true]at hb;have hb1:=Nat.eq_of_beq_eq_true hb.1;have hb2:=Nat.eq_of_beq_eq_true hb.2;have hv:∃cs:Array Value,v = .agg cs/\cs.size=P.cellsOf t/\Row.okWide P w r b0 t cs:=by
        unfold Value.okWide at hv0;rw[hu]at hv0;exact hv0
       obtain⟨cs,rfl,hcs,hrow⟩:=hv;obtain⟨tys',hty',_,hcell⟩:=hrow;rw[hty]at hty';cases hty';obtain⟨xs,m,rfl,hxx,hl,hlen,hget⟩:=DataW.trod_struct hu hx;have hps:p1=xs.flatMap (·.2):=congrArg Prod.snd hxx;obtain⟨rd,ρ1,g1,g2,g3,g4,g5⟩:=DM (r:=r) (b0:=b0) (d:=d) (n:=m) (ts:=tys) (cs:=cs.toList) (enc:=enc) (held:=held) (P:=P) (w:=w) (fun i v hi=>by
        have hi':cs[i]? = some v:=by simpa using hi
        obtain⟨u,h1,h2⟩:=hcell i v hi';have hlt:=(Array.getElem?_eq_some_iff.1 hi').1;rw[Nat.mod_eq_of_lt (by omega)]at h1;exact⟨u,h1,h2⟩) fs.toList 0 fl ρ0 hfl (fun f hf=>by
        obtain⟨i,hi,e⟩:=List.getElem_of_mem hf;have hi':i<fs.size:=by simpa using hi
        have h1:=hget i f (by rw[Array.getElem?_eq_getElem hi'];congr 1);refine⟨xs[i]'(by omega),by rw[<- List.getElem?_eq_getElem (by omega)];exact h1,fun b off hm=>hz1 b off ?_⟩;rw[hps];exact List.mem_flatMap.2 ⟨_,List.getElem_mem _,hm⟩) (by simp[hb1,hcs])
       obtain⟨ads,ρ,h1,h2,h3,h4,h5⟩:=rec_ ρ1;rw[g3]at h4 h5;refine⟨.WR rd::ads,ρ,⟨_,_,rfl,⟨rd,rfl,g1⟩,h1⟩,g2.trans h2,by rw[h3,g3];simp[Iv];omega,⟨_,_,rfl,⟨cs.toList,by simp,?_⟩,h4⟩,?_⟩
       ·have:=g4.mono h2;simpa using this
       ·show aj w (fun _=>False) ρ (Ex (yP ρ0.n fl rd++Nf (ρ0.n+rN rd) l ads)) w;rw[show Ex (yP ρ0.n fl rd++Nf (ρ0.n+rN rd) l ads)=Ex (yP ρ0.n fl rd)++Ex (Nf (ρ0.n+rN rd) l ads)from List.map_append ..];refine(g5.mono h2).app h5 fun x hx y hy=>⟨?_,fun h=>?_⟩
        ·obtain⟨q,hq,rfl⟩:=List.mem_map.1 hx;obtain⟨q',hq',rfl⟩:=List.mem_map.1 hy;have a1:=qG _ _ _ _ hq;have a2:=Iw _ _ _ _ hq';simp only;omega
        ·rw[CB hx,CB hy]at h;cases h
      ·cases e1
     ·cases e1
    |some ks =>
     rw[hf]at e1;cases e1;have hks:=yO d fuel t _ _ ks hx hf;have hv:∃cs:Array Value,v = .agg cs:=by
      unfold Value.okWide at hv0;rw[hu]at hv0;obtain⟨cs,h,_⟩:=hv0;exact⟨cs,h⟩
     obtain⟨cs,rfl⟩:=hv;have hks:vn ks cs.toList:=hks;obtain⟨ads,ρ,h1,h2,h3,h4,h5⟩:=rec_ ρ0;refine⟨.agg (atoms (fun j=>cs.toList.getD j undef) ks 0)::ads,ρ,⟨_,_,rfl,⟨_,rfl,fun j k hj=>?_⟩,h1⟩,h2,h3,⟨_,_,rfl,⟨cs.toList,by simp,Nh hks⟩,h4⟩,h5⟩;have hjl:j<cs.toList.length:=by rw[hks.len];exact(List.getElem?_eq_some_iff.1 hj).1
     exact hks.ok j k _ hj (by simp[List.getD,List.getElem?_eq_getElem hjl])
   ·rename_i e hu;split at e1
    ·rename_i ks hf;cases hb:(Nat.beq ks.length (P.cellsOf e)&&Nat.ble 1 ks.length)
     ·rw[hb]at e1;cases e1
     rw[hb]at e1;cases e1;simp only[Bool.and_eq_true]at hb;obtain⟨p,n,cap,rows,hn,hc,hrows,hlt,hrep,hsat⟩:=Ng hu hf (Nat.eq_of_beq_eq_true hb.1) (Nat.le_of_ble_eq_true hb.2) hv0 ⟨fuel,hx⟩ hz1;obtain⟨ads,ρ,h1,h2,h3,h4,h5⟩:=rec_ (ρ0.ext p);have hpl:ρ.pl ρ0.n=p:=by rw[h2.pl _ (Nat.lt_succ_self _)];exact ρ0.dD p
     have hlt':ρ0.n<ρ.n:=h2.n;refine⟨.slc ks.length n cap rows::ads,ρ,⟨_,_,rfl,⟨n,cap,rows,rfl,hn,hc,hrows⟩,h1⟩,(ρ0.en p).trans h2,by rw[h3];simp[Iv,Env.ext];omega,⟨_,_,rfl,hrep ρ ρ0.n hlt' hpl,h4⟩,?_⟩;refine aj.cons h5 ⟨hlt',by simp only;rw[hpl];exact hsat ρ,by simp only;rw[hpl];exact hlt,fun h=>(by cases h)⟩ fun x hx=>⟨?_,fun h=>?_⟩
     ·obtain⟨q,hq,rfl⟩:=List.mem_map.1 hx;have:=Iw _ _ _ _ hq;simp only[Env.ext]at this ⊢;omega
     ·rw[CB hx]at h;cases h
    ·cases e1
   ·cases e1
  ·cases h
 |[],_,[],_::_,_,_,_,h,_,_=>h.elim
 |[],_,_::_,_,_,_,_,h,_,_=>h.elim
 |_::_,_,[],_,_,_,_,h,_,_=>h.elim
 |_::_,_,_::_,[],_,_,_,h,_,_=>h.elim
theorem WT{Y:Gx}(hY:Y.Ok){C:cE}{ch:C.α->gT}(hch:∀a,Jf Y.G.X (ch a)){lh:C.α->Nat->LH}{f:Nat}(hb:vQ Y C ch lh f)(a:C.α)(hp:C.pre a)(hhp:C.hp a=[])(hres:∀o,C.res a o = .a .tt){w:World}{ρ:Env}{vs:List Value}
 (hn:ρ.n=C.m) (hh:aj w (fun _=>False) ρ (Ex (C.ro a)) w) (hargs:jd ρ (C.args a) vs):Calls Y.G.X.P f vs.toArray w fun e w'=>e = .returned (.bool true)/\eR (fun _=>False) w w':=by
 refine(yp hY (hch a) (hb a hp) w (fun _=>False) ρ w vs hn ?_ hargs).mono ?_
 ·show aj w (fun _=>False) ρ (vP (C.hp a)++Ex (C.ro a)) w;rw[hhp];exact hh
 ·rintro e w' ⟨v,rfl,sv,s',ρ',hK,_,_,_,_,hrep,hh'⟩;refine⟨?_,hh'.keeps⟩;obtain⟨o,hK⟩:=hK;obtain⟨τ,_,_,hw,q⟩:=vO hK (Wf.nil _ _);have:=q ρ' (jg ρ' τ C.m') v (oD hw) hrep;rw[hres o]at this;rw[show v = .bool true from this]
theorem WU{Y:Gx}(hY:Y.Ok){C:cE}{ch:C.α->gT}(hch:∀a,Jf Y.G.X (ch a)){lh:C.α->Nat->LH}{f:Nat}(hb:vQ Y C ch lh f){ts:List TypeId}{aks:List AK}{d:Nat}(hk:DK Y.G.X.P d ts=some aks)(hhp:∀a,C.hp a=[])(hres:∀a o,C.res a o = .a .tt)
 (hinst:∀ads,KE aks ads->∃a,C.pre a/\C.args a=Xs 0 ads/\C.ro a=Nf 0 aks ads/\C.m=Iv ads) {W:World} {args:Array Value} {ds:List (DataW H)} {ps:List MemPlace} {r:Reach} {b0:Nat}
 (hA:DataW.TrodAll enc Y.G.X.P W 0 (fun _=>true) held ts args.toList ds ps) (hval:∀(j:Nat) (t:TypeId) (v:Value),ts[j]? = some t->args.toList[j]? = some v->Value.okWide Y.G.X.P W r b0 t v)
 (hz:∀b off,MemPlace.cell b off∈ps->W.frozen? ⟨b,off,none⟩=false):Calls Y.G.X.P f args W fun e w'=>e = .returned (.bool true)/\eR (fun _=>False) W w':=by
 obtain⟨ads,ρ,h1,_,h3,h4,h5⟩:=FO (r:=r) (b0:=b0) (d:=d) ts aks args.toList ds ps ⟨0,fun _=>yg⟩ hk hA hval hz;obtain⟨a,g1,g2,g3,g4⟩:=hinst ads h1;have:=WT hY hch hb a g1 (hhp a) (hres a) (w:=W) (ρ:=ρ) (vs:=args.toList) (by rw[h3,g4];simp) (by rw[g3];exact h5) (by rw[g2];exact h4);simpa using this
theorem Bh:∀ {ts:List TypeId} {vs:List Value} {ds:List (DataW H)} {ps:List MemPlace},DataW.TrodAll enc P w base spare held ts vs ds ps->ds.length=ts.length
 |[],[],[],_,_=>rfl
 |_::_,_::_,_::_,_,⟨_,_,_,h,_⟩=>by simp[Bh h]
 |[],[],_::_,_,h=>h.elim
 |[],_::_,_,_,h=>h.elim
 |_::_,[],_,_,h=>h.elim
 |_::_,_::_,[],_,h=>h.elim
theorem wN(hl:laidOutB P=true){W W':World}(hk:eR (fun _=>False) W W'){sp:Nat->Bool}:∀ {ts:List TypeId} {vs:List Value} {ds:List (DataW H)} {ps:List MemPlace},(∀t∈ts,P.readableRec t=true/\t<P.types.size) ->
 DataW.TrodAll enc P W 0 (fun _=>true) true ts vs ds ps->(∀p∈ps,p.block<W.heap.size/\sp p.block=true)->DataW.TrodAll enc P W' 0 sp true ts vs ds ps
 |[],[],[],_,_,h,_=>h
 |t::ts,v::vs,d::ds,ps,ht,⟨p1,p2,h1,h2,e⟩,hp=>by
  subst e;have hb:Below W.heap.size W W':=⟨hk.os,hk.tape,hk.output,hk.size,fun b hb=>hk.block b hb id⟩
  obtain⟨a1,a2⟩:=ht t List.mem_cons_self;exact⟨p1,p2,WideElems.Trod_stays hl a1 a2 h1 (fun x hx=>hb.same (hp x (List.mem_append_left _ hx)).1) (fun x hx=>(hp x (List.mem_append_left _ hx)).2),
   wN hl hk (fun t h=>ht t (List.mem_cons_of_mem _ h)) h2 fun x hx=>hp x (List.mem_append_right _ hx),rfl⟩
 |[],[],_::_,_,_,h,_=>h.elim
 |[],_::_,_,_,_,h,_=>h.elim
 |_::_,[],_,_,_,h,_=>h.elim
 |_::_,_::_,[],_,_,h,_=>h.elim
end
end Go.Sx
namespace Go.Proofs.YtfjgoonelcaggaaGreat
open Go.Sx
def jq(m:ou):ou:=HP { iF m [2]with l:=[] }
structure KH where
 m:ou
 p:sA
noncomputable def Ni:cE where
 α:=KH
 β:=sA
 m:=7
 m':=10
 pre:=fun a=>jm a.m a.p/\uo a.m 1/\(iF a.m [2]).d.n<100000/\(iF a.m [2]).d.calls<1000000000000
 args:=fun _=>[.a (.ptr 0 0 0 0)]
 hp:=fun a=>EE 0 1 2 3 4 5 6 a.m a.p
 ro:=fun _=>[]
 post:=fun a b=>jm (jq a.m) b/\uj a.p b
 res:=fun _ _=>.a (.lit .i64 0)
 cZ:=fun a b=>EE 0 1 2 3 7 8 9 (jq a.m) b
def Iy(x:KH):=jm x.m x.p/\uo x.m 1/\kE (iF x.m [(2:Int)]).d
theorem QU:fnBody (Y Tryz.prog) [(121,TV),(178,OM),(169,jN)] 142 Ni fun _=>[]:=fnBody.of (p :=
 ∀z:KH,Iy z->Exists (Di 1 1 z.m z.p (aO 1 (bD (fM 2))) fun v w=>Exists (ay (cQ (Exists (kN (iF v.m v.body).d fun s=>∃u:sA,aV (w.H=u.H/\ax (gV (iF v.m v.body).L (jq z.m).L w.y u.y (gv s) (jq z.m).d (ni 16 u.x 16 u.cap 0 0 (dh (Ix.bM 16).t) (jm (jq z.m) u/\uj z.p u)))))))))) (by kernel_rfl) (by
 delta ai aK b8 aD bJ af bD fM bV aI kR ni kE aV ay ag Di ax gW kN gV cQ dh Iy
 try dsimp -iota -proj only
 rintro⟨m,p⟩ ⟨hat,hok,hw1,hw2⟩;have hr:ak 1 1 (aO 1 [Value.int .u8 2]) (aa cH [2]):=.eo fun i hi=>by
  have:i=0:=by omega
  subst this;rfl
 have h0:uo m ([2]:List Int).length:=hok;have h1:1<=([2]:List Int).length:=by decide
 have h2:([2]:List Int).length<=300:=by decide
 refine⟨Dg.mk m p [2] 1,?_⟩
 and_intros<;>first|exact bW|exact hat|exact h0|exact h1|exact h2|exact hr|(intro h_;revert h_)|exact bX|skip
 rintro p2 ⟨hat2,hf2⟩;have e:iF (Dg.mk m p [2] 1).m (Dg.mk m p [2] 1).body=iF m [2]:=rfl;refine⟨(),trivial,fun _ _=>⟨(iF m [2]).d,?_⟩⟩
 and_intros<;>first|exact bW|exact hw1|exact hw2|(intro h_;revert h_)|exact bX|skip
 intro _ _;have h3:jm (jq m) ⟨p2.H,p2.y,Ix.bM 16,16⟩:=⟨hat2.log,Ix.vY (by omega) (by omega)⟩
 have h4:uj p ⟨p2.H,p2.y,Ix.bM 16,16⟩:=hf2;refine⟨⟨p2.H,p2.y,Ix.bM 16,16⟩,?_⟩
 and_intros<;>first|exact bW|exact h3|exact h4|(intro h_;revert h_)|exact bX|skip)
theorem QV:au (Y Tryz.prog).G.X 142 Ni:=aU fL QU ⟨HM,Kn,iN,trivial⟩
theorem QW{rs:List RecM}{es:List (Option aB)}{p:Int}(hl:es.length=rs.length)(h:∀i,i<es.length->(gl rs i).body=aJ (gl es i)/\∀x,gl es i=some x->gf x=true) :
 (es++[none]).length=(rs++[(⟨p,[2]⟩:RecM)]).length/\∀i,i<(es++[none]).length->(gl (rs++[(⟨p,[2]⟩:RecM)]) i).body=aJ (gl (es++[none]) i)/\∀z,gl (es++[none]) i=some z->gf z=true:=by
 refine⟨by simp[hl],fun i hi=>?_⟩;rw[List.length_append,List.length_singleton]at hi;rw[kM hi,kM (by rw[<- hl];exact hi),hl];by_cases hin:i<rs.length
 ·rw[if_pos hin,if_pos hin];exact h i (by omega)
 ·rw[if_neg hin,if_neg hin];exact⟨rfl,fun z e=>by cases e⟩
theorem nr.YF{m:ou}{n:Nat}{rs:List RecM}{es:List (Option aB)}(h:nr m n rs es)(hn:m.L.next<9999999999)(hfit:(eH rs).length+8+1<=378) :
 nr (jq m) (n+21) (rs++[⟨m.L.next,[2]⟩]) (es++[none])/\(jq m).L.next=m.L.next+1/\(jq m).L.av=m.L.av/\(jq m).L.from_=m.L.from_:=by
 obtain⟨h1,h2,h3,h4,h5⟩:=h.one.add (body:=[2]) (by decide) hn hfit;obtain⟨b1,b2⟩:=QW (p:=m.L.next) h.len h.body;refine⟨⟨⟨h1.flush,?_,Nat.zero_le _⟩,b1,b2⟩,h2,h4,h5⟩;rw[wh];exact⟨h1.flush.rd,fun e he=>(by cases he),fun k hk=>absurd rfl hk⟩
def EH(s:lT):lT:={ s with d:=(jq s.fl).d,cL:=(jq s.fl).L,cl:=(jq s.fl).l }
theorem dF.YF{s:lT}{n:Nat}{es:List (Option aB)}{cb jb:Nat}(h:dF s n es cb jb)(hn:n<900000000)(hfit:cb+9<=378) :
 dF (EH s) (n+21) (es++[none]) (cb+9) jb/\uo s.fl 1/\(iF s.fl [2]).d.n<100000/\(iF s.fl [2]).d.calls<1000000000000:=by
 obtain⟨cr,hf,hb⟩:=h.fl;have hnx:=h.nx;have hnx1:s.fl.L.next<=n:=hnx.1
 obtain⟨f1,f2,f3,f4⟩:=hf.YF (by omega) (by omega);obtain⟨g1,g2,g3,g4⟩:=h.Xp;obtain⟨s1,s2,s3⟩:=BT h.dn.1;have hdn:(jq s.fl).d.n=s.d.n:=Au _ _ _;have hcl:(jq s.fl).d.calls<=n+21:=f1.one.log.calls;have hcl2:(jq s.fl).d.calls=(iF s.fl [2]).d.calls+1:=rfl;have hdd:=h.dn;have hout:∀r,r<162->∀j,(jq s.fl).d.now r j=s.d.now r j:=fun r hr j=>by
  have e:(jq s.fl).d.now r j=(oF s.cL s.d [2]).now r j:=rfl;rw[e];exact DH (by omega) (.inl (by omega))
 refine⟨⟨⟨_,f1,by rw[mw,List.length_append,v8];show(eH cr).length+(8+1)<=_;omega⟩,h.jl.dev' (fun r _ h2 j _=>hout r (by omega) j) hdn hcl,h.jb,h.ms,?_,⟨f4.trans g1,?_,g3,g4⟩,?_,h.keep.dev' fun r hr j _=>hout r (by omega) j,h.bK⟩,hf.one.ok (by omega) (by show _+8+1<=_;omega),?_,by omega⟩
 ·have e:(EH s).cL.next=s.cL.next+1:=f2
  refine⟨by rw[e];push_cast;omega,?_,?_⟩
  ·show s.jL.next<=_;push_cast;omega
  ·show s.k.s.fo<=_;push_cast;omega
 ·show(jq s.fl).L.av=iX (jq s.fl).d.n;rw[hdn];exact f3.trans g2
 ·show 192<=(jq s.fl).d.n/\(jq s.fl).d.n<3000;rw[hdn];exact h.dn
 ·have e:(iF s.fl [2]).d.n=s.d.n:=Au _ _ _;rw[e];omega
theorem WV(es:List (Option aB))(k:ByteArray):gE (es++[none]) k=none:=by rw[wh];rfl
def Nj(s:lT)(m:MetaM):lT:={ s with d:=iy s.k s.d m,k:=nq s.k m }
theorem dF.save{s:lT}{n:Nat}{es:List (Option aB)}{cb jb:Nat}(h:dF s n es cb jb){m:MetaM}(hs:gH s.k m=true)(hb:m.bK=s.bK)(hn:n<800000000) :
 dF (Nj s m) (n+2) es cb jb/\(Nj s m).k.m=m/\(Nj s m).d.n=s.d.n/\(Nj s m).d.calls=s.d.calls+2:=by
 have hnx:=h.nx;obtain⟨k1,k2,k3,k4,k5,k6⟩:=h.keep.save hs (by omega);obtain⟨cr,hf,hcb⟩:=h.fl;obtain⟨g1,g2,g3,g4⟩:=h.Xp;have hcl:s.d.calls<=n:=hf.one.log.calls;have hcl2:(Nj s m).d.calls<=n+2:=by show(iy s.k s.d m).calls<=_;rw[k5];omega
 refine⟨⟨⟨cr,hf.dev' (fun r h1 _ j _=>k6 r (by have h1:s.cL.from_<=r:=h1;omega) j) k4 hcl2,hcb⟩,h.jl.dev' (fun r h1 _ j _=>k6 r (by omega) j) k4 hcl2,h.jb,h.ms,?_,⟨g1,?_,g3,g4⟩,?_,k1,?_⟩,k2,k4,k5⟩
 ·refine⟨?_,?_,?_⟩
  ·show s.cL.next<=_;push_cast;omega
  ·show s.jL.next<=_;push_cast;omega
  ·show(nq s.k m).s.fo<=_;rw[k3];push_cast;omega
 ·show s.cL.av=iX (iy s.k s.d m).n;rw[k4];exact g2
 ·show 192<=(iy s.k s.d m).n/\(iy s.k s.d m).n<3000;rw[k4];exact h.dn
 ·show s.bK=(nq s.k m).m.bK;rw[k2,hb]
structure gQ where
 id:Int
 blk:Nat
 key:ByteArray
 good:Bool
 born:Nat
 deriving Inhabited
structure jU where
 last:Int
 l:List gQ
 dQ:Nat
def gQ.enc(e:gQ):fU:=⟨e.id,pv e.blk 0,e.born⟩
def DN(mb:Nat)(t:jU):Chunk:=.obj 197 [.int .i64 t.last,.val (.map (some mb))]
def vo(mb:Nat)(t:jU):Chunk:=.abs (nG mb .i64 (t.l.map gQ.enc) t.dQ)
structure gC(H:PH)(t:jU):Prop where
 at_:∀e∈t.l,H e.blk=some (0,[.string e.key,.bool e.good])/\e.key.size<=aq
 blk:(t.l.map (·.blk)).Nodup
 id:∀e∈t.l,1<=e.id/\e.id<=t.last/\e.born<t.dQ
 ids:(t.l.map (·.id)).Nodup
 born:(t.l.map (·.born)).Nodup
 last:0<=t.last/\t.last<=1099511627776
theorem gC.ok{H:PH}{t:jU}(h:gC H t):VY .i64 (t.l.map gQ.enc) t.dQ:=⟨fun e he=>by
 obtain⟨x,hx,rfl⟩:=List.mem_map.1 he;obtain⟨a1,a2,a3⟩:=h.id x hx;have:=h.last;exact⟨rfl,a3,by simp only[gQ.enc,bR];omega⟩,by rw[List.map_map];exact h.born⟩
structure Av where
 mb:Nat
 t:jU
 H:PH
 key:ByteArray
def qY(t:jU)(key:ByteArray)(b:Nat):jU:=⟨t.last+1,t.l++[⟨t.last+1,b,key,true,t.dQ⟩],t.dQ+1⟩
noncomputable def Nk:cE where
 α:=Av
 β:=Nat
 m:=3
 m':=4
 pre:=fun a=>gC a.H a.t/\a.t.last<1099511627776/\a.key.size<=aq
 args:=fun a=>[.a (.ptr 0 0 0 0),.a (.str a.key)]
 hp:=fun a=>[(0,DN a.mb a.t),(1,vo a.mb a.t),(2,.cA a.H)]
 ro:=fun _=>[]
 post:=fun a b=>a.H b=none
 res:=fun a _=>.a (.int .i64 (a.t.last+1))
 cZ:=fun a b=>[(0,DN a.mb (qY a.t a.key b)),(1,vo a.mb (qY a.t a.key b)),(3,.cA (aN a.H b 0 [.string a.key,.bool true]))]
theorem YG{l:List fU}{n:Int}(h:∀e∈l,e.key≠n):Cc l n=false:=by
 unfold Cc;rw[List.any_eq_false];intro e he;simpa using h e he
theorem UK(n:Int)(u:Value)(dQ:Nat):∀l:List fU,(∀e∈l,e.key≠n)->Cb n u dQ l=l++[⟨n,u,dQ⟩]
 |[],_=>rfl
 |e::r,h=>by
  unfold Cb;rw[if_neg (h e List.mem_cons_self),UK n u dQ r fun x hx=>h x (List.mem_cons_of_mem _ hx)];rfl
def nL(x:Nat)(y:List fU)(z:Nat):Sx.Place->Go.World->Prop:=nG x .i64 y z
def dW(y:Nat)(x:jU):Sx.Place->Go.World->Prop:=nL y (List.map gQ.enc x.l) x.dQ
def oM(x:Nat):Value:=Value.map (some x)
def iz(x y:Nat):=oM x=oM y
def rO(u:Nat)(v:jU)(w:Nat->List fU->Nat->Prop):=∃x:Nat,∃y:List fU,∃z:Nat,iz u x/\dW u v=nL x y z/\VY .i64 y z/\w x y z
def DO(x:Av)(y:Nat):PH:=aN x.H y 0 (bV (bL x.key) (bD (dR true)))
def Nl(z:Prop)(u:Sx.Place->Go.World->Prop)(x:Av)(v:PH)(w:Int):=∃y:Nat,z/\u=dW x.mb (qY x.t x.key y)/\v=DO x y/\w=(qY x.t x.key y).last/\iz x.mb x.mb/\x.H y=none/\True
theorem QX:fnBody (Y Tryz.prog) [] 137 Nk fun _=>[]:=fnBody.of (p :=
 ∀x:Av,gC x.H x.t/\x.t.last<(1099511627776:Int)/\bh x.key<=aq->ah x.t.last->az (cC 1099511627776 x.t.last) (Nl ((0:Int)=x.t.last+(1:Int)) (dW x.mb x.t) x x.H x.t.last) (ah x.t.last->ah (x.t.last+(1:Int))/\(ah (x.t.last+(1:Int))->bh x.key<=aq->∀y:Nat,x.H y=none->rO x.mb x.t fun v u z=>aC (bif bif Nat.beq 0 1 then true else bif Nat.beq 0 1 then true else false then false else true)/\(ah (x.t.last+(1:Int))->Nl (aD (x.t.last+(1:Int))) (nL v (Cb (x.t.last+(1:Int)) (pv y 0) z u) (bif Cc u (x.t.last+(1:Int))then z else z+1)) x (DO x y) (x.t.last+(1:Int)))))) (by kernel_rfl) (by
 delta az dW ah aD bh iz bD aC bV nL aW oM bL cC rO DO dR Nl
 try dsimp -iota -proj only
 rintro⟨mb,t,H,key⟩ ⟨h1,h2,h3⟩ _;dsimp only at *;have hno:∀e∈t.l.map gQ.enc,e.key≠t.last+1:=fun e he=>by
  obtain⟨x,hx,rfl⟩:=List.mem_map.1 he;have:=h1.id x hx;simp only[gQ.enc];omega
 have hl:=h1.last;have hok:=h1.ok;refine⟨fun c=>by(exfalso;have:=of_decide_eq_true c;omega),fun _ _=>⟨by simp only[bR];omega,fun _ _ b hb=>⟨mb,t.l.map gQ.enc,t.dQ,rfl,rfl,hok,rfl,fun _=>⟨b,?_⟩⟩⟩⟩;have e:nG mb .i64 (Cb (t.last+1) (pv b 0) t.dQ (t.l.map gQ.enc)) (bif Cc (t.l.map gQ.enc) (t.last+1)then t.dQ else t.dQ+1)=nG mb .i64 ((qY t key b).l.map gQ.enc) (qY t key b).dQ:=by
  rw[UK _ _ _ _ hno,YG hno];unfold qY;rw[List.map_append];rfl
 and_intros<;>first|exact bW|exact e|exact hb|(intro h_;revert h_)|exact bX|skip)
theorem QY:au (Y Tryz.prog).G.X 137 Nk:=aU fL QX trivial
structure yQ where
 mb:Nat
 t:jU
 H:PH
 id:Int
def vp(t:jU)(id:Int):Option gQ:=t.l.find? fun e=>e.id == id
def nu(t:jU)(id:Int):jU:={ t with l:=t.l.filter fun e=>!(e.id == id) }
noncomputable def UL:cE where
 α:=yQ
 β:=Unit
 m:=3
 m':=3
 pre:=fun a=>gC a.H a.t/\bR .i64 a.id
 args:=fun a=>[.a (.ptr 0 0 0 0),.a (.int .i64 a.id)]
 hp:=fun a=>[(0,DN a.mb a.t),(1,vo a.mb a.t)]
 ro:=fun a=>[(2,.cA a.H)]
 post:=fun _ _=>True
 res:=fun a _=>.mG [.a (.str (match vp a.t a.id with|some e=>e.key|none=>ByteArray.mk #[])),.a (.bool (match vp a.t a.id with|some e=>e.good|none=>false))]
 cZ:=fun a _=>[(0,DN a.mb (nu a.t a.id)),(1,vo a.mb (nu a.t a.id))]
theorem KI(id:Int):∀l:List gQ,getM (l.map gQ.enc) id=(l.find? fun e=>e.id == id).map fun e=>pv e.blk 0
 |[]=>rfl
 |e::r=>by
  have ih:=KI id r;unfold getM at ih ⊢;rw[List.map_cons,List.find?_cons,List.find?_cons];show Option.map _ (match e.id == id with|true=>_|false=>_)=_;cases e.id == id with
  |true=>rfl
  |false=>exact ih
theorem DP(id:Int):∀l:List gQ,(l.map (·.id)).Nodup->Cd id (l.map gQ.enc)=(l.filter fun e=>!(e.id == id)).map gQ.enc
 |[],_=>rfl
 |e::r,h=>by
  rw[List.map_cons,List.nodup_cons]at h;rw[List.map_cons];unfold Cd;by_cases he:e.id=id
  ·have hr:r.filter (fun e=>!(e.id == id))=r:=List.filter_eq_self.2 fun x hx=>by
    have:x.id≠id:=fun e2=>h.1 (List.mem_map.2 ⟨x,hx,by rw[e2,he]⟩);simp[this]
   rw[if_pos (show(gQ.enc e).key=id from he),List.filter_cons,show(!(e.id == id))=false by simp[he],if_neg (by decide),hr]
  ·rw[if_neg (show ¬(gQ.enc e).key=id from he),List.filter_cons,show(!(e.id == id))=true by simp[he],if_pos rfl,List.map_cons,DP id r h.2]
def Nn(x:yQ):Bool:=match vp x.t x.id with|some y=>y.good|none=>false
def No(x:yQ):ByteArray:=match vp x.t x.id with|some y=>y.key|none=>cO
def Np(x:yQ):=cO=No x/\fC (Nn x) (dW x.mb x.t=dW x.mb (nu x.t x.id)) (x.t.last=(nu x.t x.id).last/\bl (iz x.mb x.mb))
def DQ(y:Value)(z u:Prop):Option Nat->Prop:=fun(x:Option Nat)=>y=Value.map x/\(x=none->z)/\(x≠none->u)
theorem UM:fnBody (Y Tryz.prog) [] 72 UL fun _=>[]:=fnBody.of (p :=
 ∀x:yQ,gC x.H x.t/\ah x.id->Exists (DQ (oM x.mb) (Exists (ay (Np x))) (rO x.mb x.t fun k f l=>(∃v:Option Go.Addr,Et (getM f x.id)=Value.pointer v)/\az (Ju (Et (getM f x.id))) (Exists (ay (Np x))) (Exists (DQ (oM x.mb) (rO x.mb x.t fun v w g=>bE true False) (rO x.mb x.t fun v w g=>rO x.mb x.t fun h i j=>bE true (Exists (gL (Et (getM w x.id)) 0 (fun y=>x.H y) (fun y=>∃u:ByteArray,y=bL u/\bh u<=aq) fun y u=>Exists (gL (Et (getM w x.id)) 1 (fun z=>x.H z) (fun z=>∃s:Bool,z=dR s) fun z s=>Exists (ay (toS (aT u y)=No x/\toB (aT s z)=Nn x/\nL h (Cd x.id i) j=dW x.mb (nu x.t x.id)/\x.t.last=(nu x.t x.id).last/\bl (iz x.mb x.mb)))))))))))) (by kernel_rfl) (by
 delta az aT gL dW ah bE cO bh iz kJ aC fC nL aW oM bL ay rO Np bl dR DQ Nn No
 try dsimp -iota -proj only
 rintro⟨mb,t,H,id⟩ ⟨h1,h2⟩;dsimp only at *;have hok:=h1.ok;have hg:=KI id t.l;have hd:=DP id t.l h1.ids;refine⟨some mb,rfl,fun c=>(by cases c),fun _=>⟨mb,t.l.map gQ.enc,t.dQ,rfl,rfl,hok,?_⟩⟩;cases hf:t.l.find? (fun e=>e.id == id)with
 |none =>
  have hff:vp t id=none:=hf;have hu:nu t id=t:=by
   have:t.l.filter (fun e=>!(e.id == id))=t.l:=List.filter_eq_self.2 fun x hx=>by
    have:=List.find?_eq_none.1 hf x hx;simpa using this
   unfold nu;rw[this]
  have hgv:Et (getM (t.l.map gQ.enc) id) = .pointer none:=by rw[hg,hf];rfl
  refine⟨⟨none,hgv⟩,fun _=>⟨(),?_⟩,fun c=>(by rw[hgv]at c;cases c)⟩;rw[hff,hu]
  and_intros<;>first|exact bW|(intro h_;revert h_)|exact bX|skip
 |some e =>
  have hff:vp t id=some e:=hf;have he:e∈t.l:=List.mem_of_find?_eq_some hf;obtain⟨a1,a2⟩:=h1.at_ e he;have hgv:Et (getM (t.l.map gQ.enc) id)=pv e.blk 0:=by rw[hg,hf];rfl
  refine⟨⟨_,hgv⟩,fun c=>(by rw[hgv]at c;cases c),fun _=>⟨some mb,rfl,fun c=>(by cases c),fun _=>⟨mb,t.l.map gQ.enc,t.dQ,rfl,rfl,hok,mb,t.l.map gQ.enc,t.dQ,rfl,rfl,hok,rfl,e.blk,0,hgv,e.blk,0,rfl,e.blk,0,0,[.string e.key,.bool e.good],rfl,a1,⟨⟨_,rfl,_,rfl,a2⟩,trivial⟩,e.blk,0,hgv,e.blk,0,rfl,e.blk,0,1,[.string e.key,.bool e.good],rfl,a1,⟨⟨_,rfl,_,rfl⟩,trivial⟩,(),?_⟩⟩⟩;rw[hff];have e2:nG mb .i64 (Cd id (t.l.map gQ.enc)) t.dQ=nG mb .i64 ((nu t id).l.map gQ.enc) (nu t id).dQ:=by rw[hd];rfl
  and_intros<;>first|exact bW|exact e2|(intro h_;revert h_)|exact bX|skip)
theorem UN:au (Y Tryz.prog).G.X 72 UL:=aU fL UM trivial
structure KJ where
 ks:List ByteArray
 cap:Nat
 key:ByteArray
def hasB(ks:List ByteArray)(k:ByteArray):Bool:=ks.any fun q=>decide (k=q)
noncomputable def UO:cE where
 α:=KJ
 β:=Unit
 m:=1
 m':=1
 pre:=fun a=>a.ks.length<100000
 args:=fun a=>[.a (.slc 0 0 1 a.ks.length a.cap),.a (.str a.key)]
 hp:=fun _=>[]
 ro:=fun a=>[(0,.arr 9 [.str] a.ks.length (aa kF a.ks))]
 post:=fun _ _=>True
 res:=fun a _=>.a (.bool (hasB a.ks a.key))
 cZ:=fun _ _=>[]
def ZR(a:KJ):An:=.flat 2 Nat (fun s i=>s.int 8 i) (fun _ i=>i<=a.ks.length/\∀j,j<i->a.key≠gl a.ks j) (fun _ i=>a.ks.length-i)
theorem UP:fnBody (Y Tryz.prog) [] 133 UO fun a=>[(181,[ZR a],[])]:=fnBody.of (p :=
 ∀x:KJ,aR x.ks<100000->(∃y:Nat,aF y (vl (aR x.ks) x.cap (x.key=x.key/\lI x.ks/\(y<=aR x.ks/\∀z:Nat,z<y->x.key≠gl x.ks z)/\True)))/\∀y:Nat,(y<=aR x.ks/\∀z:Nat,z<y->x.key≠gl x.ks z)->gz y (aR x.ks) (az (iA x.key (gl x.ks (0+aA y))) (Exists (bI (cC 0 (af y)=hasB x.ks x.key))) (dz y fun u=>vl (aR x.ks) x.cap (x.key=x.key/\lI x.ks/\ey u (aR x.ks) (∀v:Nat,v<u->x.key≠gl x.ks v) y))) (Exists (fD (hasB x.ks x.key)))) (by kernel_rfl) (by
 delta az bZ aK ah b8 aA cF aH af aR aC aX fC bq aW dU gz bI bG dz ey ay aS cC lI aF ag aY cV fD br bl iA dX vl
 try dsimp -iota -proj only
 rintro⟨ks,cap,key⟩ h;dsimp only at *;have h0:∀j,j<0->key≠gl ks j:=fun j hj=>absurd hj (Nat.not_lt_zero j);refine⟨⟨0,?_⟩,fun i ⟨hi,hall⟩=>?_⟩
 ·and_intros<;>first|exact bW|exact h0|(intro h_;revert h_)|exact bX|skip
 rw[show 0+(i:Int).toNat=i by omega];refine⟨fun c1=>?_,fun c1=>⟨(),?_,trivial,trivial⟩⟩
 ·have hlt:i<ks.length:=by have:=of_decide_eq_true c1;omega
  refine⟨⟨by omega,by omega⟩,hlt,fun c2=>⟨(),?_,trivial,trivial⟩,fun c2=>⟨by simp only[bR];omega,i+1,?_⟩⟩
  ·have c2:=of_decide_eq_true c2;have e:hasB ks key=true:=List.any_eq_true.2 ⟨gl ks i,by rw[bT hlt];exact List.getElem_mem _,decide_eq_true c2⟩;rw[e];exact decide_eq_true (by omega)
  ·have c2:=of_decide_eq_false c2;have h1:∀j,j<i+1->key≠gl ks j:=fun j hj=>by
    by_cases e:j=i
    ·rw[e];exact c2
    ·exact hall j (by omega)
   and_intros<;>first|exact bW|exact h1|(intro h_;revert h_)|exact bX|skip
 ·have hn:¬i<ks.length:=by have:=of_decide_eq_false c1;omega
  have e:hasB ks key=false:=by
   unfold hasB;rw[List.any_eq_false];intro q hq;obtain⟨j,hj,rfl⟩:=List.getElem_of_mem hq;rw[<- bT hj];simpa using hall j (by omega)
  rw[e])
theorem UQ:au (Y Tryz.prog).G.X 133 UO:=aU fL UP trivial
structure DR where
 mb:Nat
 t:jU
 H:PH
 ks:List ByteArray
 cap:Nat
def gN(t:jU)(f:ByteArray->Bool):jU:={ t with l:=t.l.map fun e=>{ e with good:=e.good&&!f e.key } }
structure O1 where
 seen:List Nat
 H:PH
 n:Int
def Jl(t:jU)(seen:List Nat):Nat:=(t.l.filter fun e=>!decide (e.born∈seen)).length
structure O2(t:jU)(H:PH)(f:ByteArray->Bool)(x:O1):Prop where
 old:∀z,z∉t.l.map (·.blk)->x.H z=H z
 at_:∀e∈t.l,x.H e.blk=some (0,[.string e.key,.bool (e.good&&!(decide (e.born∈x.seen)&&f e.key))])
 n:0<=x.n/\x.n+(Jl t x.seen:Nat)<=(t.l.length:Nat)
theorem O3{t:jU}{seen:List Nat}{y:gQ}(hy:y∈t.l)(hn:y.born∉seen):Jl t (seen++[y.born])<Jl t seen :=
 Go.filter_lt (fun e:gQ=>!decide (e.born∈seen)) (fun e=>!decide (e.born∈seen++[y.born])) (fun x hx=>by
  simp only[Bool.not_eq_true',decide_eq_false_iff_not,List.mem_append,not_or]at hx ⊢;exact hx.1) y (by simpa using hn) (by simp) t.l hy
theorem DS{α β:Type}{f:α->β}{l:List α}(h:(l.map f).Nodup){a b:α}(ha:a∈l)(hb:b∈l)(e:f a=f b):a=b:=by
 induction l with
 |nil=>cases ha
 |cons x r ih =>
  rw[List.map_cons,List.nodup_cons]at h;obtain⟨g1,g2⟩:=h;rcases List.mem_cons.1 ha with a1|a1
  ·rcases List.mem_cons.1 hb with b1|b1
   ·rw[a1,b1]
   ·exact absurd (List.mem_map.2 ⟨b,b1,by rw[<- e,a1]⟩) g1
  ·rcases List.mem_cons.1 hb with b1|b1
   ·exact absurd (List.mem_map.2 ⟨a,a1,by rw[e,b1]⟩) g1
   ·exact ih g2 a1 b1
theorem O2.skip{t:jU}{H:PH}{f:ByteArray->Bool}{x:O1}(h:O2 t H f x)(ht:gC H t){y:gQ}(hy:y∈t.l)(hn:y.born∉x.seen)(hf:(y.good&&f y.key)=false):O2 t H f ⟨x.seen++[y.born],x.H,x.n⟩:=by
 refine⟨h.old,fun e he=>?_,h.n.1,?_⟩
 ·rw[h.at_ e he];by_cases hb:e.born=y.born
  ·obtain rfl:=DS ht.born he hy hb;have e1:decide (e.born∈x.seen)=false:=decide_eq_false hn;have e2:decide (e.born∈x.seen++[e.born])=true:=decide_eq_true (by simp);rw[e1,e2]
   revert hf
   cases e.good<;>cases f e.key<;>simp
  ·have e1:decide (e.born∈x.seen++[y.born])=decide (e.born∈x.seen):=by
    rw[Bool.eq_iff_iff];simp[hb]
   rw[e1]
 ·have:=O3 hy hn;have:=h.n.2;dsimp only;omega
theorem O2.hit{t:jU}{H:PH}{f:ByteArray->Bool}{x:O1}(h:O2 t H f x)(ht:gC H t){y:gQ}(hy:y∈t.l)(hn:y.born∉x.seen)(hf:f y.key=true):O2 t H f ⟨x.seen++[y.born],aN x.H y.blk 0 [.string y.key,.bool false],x.n+1⟩:=by
 refine⟨fun z hz=>?_,fun e he=>?_,by have:=h.n.1;dsimp only;omega,?_⟩
 ·have:z≠y.blk:=fun e=>hz (List.mem_map.2 ⟨y,hy,e.symm⟩);show aN x.H y.blk 0 _ z=H z;rw[cK this];exact h.old z hz
 ·show aN x.H y.blk 0 _ e.blk=_;by_cases hb:e.blk=y.blk
  ·obtain rfl:=DS ht.blk he hy hb;have e2:decide (e.born∈x.seen++[e.born])=true:=decide_eq_true (by simp);rw[dN,e2,hf];simp
  ·have hb2:e.born≠y.born:=fun e3=>hb (by rw[DS ht.born he hy e3]);have e1:decide (e.born∈x.seen++[y.born])=decide (e.born∈x.seen):=by
    rw[Bool.eq_iff_iff];simp[hb2]
   rw[cK hb,h.at_ e he,e1]
 ·have:=O3 hy hn;have:=h.n.2;dsimp only;omega
theorem O2.all{t:jU}{H:PH}{f:ByteArray->Bool}{x:O1}(h:O2 t H f x)(ht:gC H t)(ha:∀e∈t.l,e.born∈x.seen):gC x.H (gN t f):=by
 have e1:∀ {γ:Type} (g:gQ->γ),(∀e b,g { e with good:=b }=g e)->(gN t f).l.map g=t.l.map g:=fun g hg=>by
  unfold gN;rw[List.map_map];exact List.map_congr_left fun e _=>hg _ _
 refine⟨fun e he=>?_,by rw[e1 _ fun _ _=>rfl];exact ht.blk,fun e he=>?_,by rw[e1 _ fun _ _=>rfl];exact ht.ids,by rw[e1 _ fun _ _=>rfl];exact ht.born,ht.last⟩
 ·obtain⟨y,hy,rfl⟩:=List.mem_map.1 he;have:=h.at_ y hy;rw[decide_eq_true (ha y hy),Bool.true_and]at this;exact⟨this,(ht.at_ y hy).2⟩
 ·obtain⟨y,hy,rfl⟩:=List.mem_map.1 he;exact ht.id y hy
noncomputable def Nq:cE where
 α:=DR
 β:=PH×Int
 m:=4
 m':=4
 pre:=fun a=>gC a.H a.t/\a.ks.length<100000/\a.t.l.length<100000
 args:=fun a=>[.a (.ptr 0 0 0 0),.a (.slc 3 0 1 a.ks.length a.cap)]
 hp:=fun a=>[(0,DN a.mb a.t),(1,vo a.mb a.t),(2,.cA a.H)]
 ro:=fun a=>[(3,.arr 9 [.str] a.ks.length (aa kF a.ks))]
 post:=fun a b=>gC b.1 (gN a.t (hasB a.ks))/\∀z,z∉a.t.l.map (·.blk)->b.1 z=a.H z
 res:=fun _ b=>.a (.int .i64 b.2)
 cZ:=fun a b=>[(0,DN a.mb (gN a.t (hasB a.ks))),(1,vo a.mb (gN a.t (hasB a.ks))),(2,.cA b.1)]
def UR(mb:Nat)(t:jU)(H:PH)(f:ByteArray->Bool):An:=.flat 5 O1 (fun s x=>(((s.at_ (s.tg 14) (.abs (mK mb x.seen t.dQ))).at_ (Ff s) (.cA x.H)).set 5 (.a (.int .i64 x.n)))) (fun _ x=>O2 t H f x) (fun _ x=>Jl t x.seen)
def tG(x:List Nat)(y:fU):List Nat:=x++[y.born]
def xR(y:PH×Int)(z:jU)(u:ByteArray->Bool)(v:Nat->Option (Nat×List Value)):=gC y.fst (gN z u)/\∀x:Nat,¬x∈List.map (fun(w:gQ)=>w.blk) z.l->y.fst x=v x
def xS(y:Int)(z:O1->Prop):=∃x:O1,y=x.n/\ag (bN (aV (z x)))
def Iz(q:PH)(x:jU)(D:Prop)(z:Nat)(E:Nat->Nat->O1->Prop)(h:ByteArray->Bool)(F:Nat->Option (Nat×List Value))(G:O1->List Nat->Nat->Nat->fU->fU->Nat->List Value->Prop)(I:O1->List Nat->Nat->Nat->fU->O1->Prop):=gC q x/\D->rO z x fun J N K=>(xS 0 fun y=>E J K y)/\∀y:O1,O2 x q h y->∃r:IntKind,∃c:Nat,∃w:List Nat,∃s:Nat,mK z y.seen x.dQ=mK c w s/\∃t:Nat,∃i:List fU,∃k:Nat,iz c t/\dW z x=nG t r i k/\VY r i k/\k=s/\bE true (((∀u:fU,u∈i->u.born∈w)->∃l:PH×Int,y.n=l.snd/\dW z x=dW z (gN x h)/\y.H=l.fst/\x.last=(gN x h).last/\iz z z/\(xR l x h fun L=>F L)/\True)/\∀u:fU,u∈i->¬u.born∈w->∃d:IntKind,∃e:Nat,∃A:List Nat,∃B:Nat,mK t (tG w u) s=mK e A B/\∃C:Nat,∃m:List fU,∃o:Nat,iz e C/\dW z x=nG C d m o/\VY d m o/\o=B/\∃M:List Nat,∃f:fU,A=tG M f/\f∈m/\Exists (gL f.val 1 (fun g=>y.H g) (fun g=>∃p:Bool,g=dR p) fun g p=>az (toB (aT p g)) (Exists (gL f.val 0 (fun v=>y.H v) (fun v=>∃j:ByteArray,v=bL j/\bh j<=aq) fun v j=>G y w s t u f v j)) (xS y.n fun v=>I y w s t u v)))
def DT(z:Nat)(u:List Nat)(v:Nat)(x:DR)(y:O1)(w:PH)(s:Prop):=ax (mK z u v=mK x.mb y.seen x.t.dQ/\bG (aR x.ks) x.cap/\aD x.t.last/\iz x.mb x.mb/\dW x.mb x.t=dW x.mb x.t/\w=y.H/\lI x.ks/\O2 x.t x.H (hasB x.ks) y/\s)
theorem QZ:fnBody (Y Tryz.prog) [(133,UO)] 88 Nq fun a=>[(131,[UR a.mb a.t a.H (hasB a.ks)],[])]:=fnBody.of (p :=
 ∀x:DR,Iz x.H x.t (aR x.ks<100000/\x.t.l.length<100000) x.mb (fun y v w=>DT y [] v x w x.H True) (hasB x.ks) (fun y=>x.H y) (fun y v w s f g j k=>∃u:KJ,dL (aR x.ks) (aR u.ks) x.cap u.cap (toS (aT k j)=u.key) 1 (aa kF x.ks) (aa kF u.ks) (aR u.ks<100000/\aI (az (hasB u.ks u.key) (Exists (kJ g.val 1 (fun z=>y.H z) (fun z h=>z+1<=h.length) fun z h m o=>ah (y.n+(1:Int))/\xS (y.n+(1:Int)) fun i=>DT s (tG v f) w x i (aN y.H z h (qx m o (bD gm) 1)) (Jl x.t i.seen<Jl x.t y.seen))) (xS y.n fun z=>DT s (tG v f) w x z y.H (Jl x.t z.seen<Jl x.t y.seen))))) fun y v w s f g=>DT s (tG v f) w x g y.H (Jl x.t g.seen<Jl x.t y.seen)) (by kernel_rfl) (by
 delta az aT gL aK dW ah b8 aD bE aR bh iz kJ bD aC bV nL aW oM dU bN aI bG dL bL Iz DT aV lI gm rO ag ax tG dR xR qx xS
 try dsimp -iota -proj only
 rintro⟨mb,t,H,ks,cap⟩ ⟨h1,h2,h3⟩;dsimp only at *;have hok:=h1.ok;obtain⟨f,hf⟩:∃f,f=hasB ks:=⟨_,rfl⟩
 refine⟨mb,t.l.map gQ.enc,t.dQ,rfl,rfl,hok,⟨⟨[],H,0⟩,?_⟩,fun x hI=>?_⟩
 ·have hI:O2 t H (hasB ks) ⟨[],H,0⟩:=⟨fun _ _=>rfl,fun e he=>by
   have:=(h1.at_ e he).1;show H e.blk=_;rw[this];simp,by show(0:Int)<=0;decide,by
   show(0:Int)+(Jl t []:Nat)<=(t.l.length:Nat)
   have:Jl t []<=t.l.length:=List.length_filter_le _ _;omega⟩
  and_intros<;>first|exact bW|exact hI|(intro h_;revert h_)|exact bX|skip
 rw[<- hf]at hI ⊢;refine⟨.i64,mb,x.seen,t.dQ,rfl,mb,t.l.map gQ.enc,t.dQ,rfl,rfl,hok,rfl,rfl,fun hall=>⟨(x.H,x.n),?_⟩,fun e he hns=>?_⟩
 ·have ha:=hI.all h1 fun e he=>hall _ (List.mem_map.2 ⟨e,he,rfl⟩);have hm:nG mb .i64 (t.l.map gQ.enc) t.dQ=nG mb .i64 ((gN t f).l.map gQ.enc) (gN t f).dQ:=by
   unfold gN;rw[List.map_map];rfl
  have ho:=hI.old
  and_intros<;>first|exact bW|exact hm|exact ha|exact ho|(intro h_;revert h_)|exact bX|skip
 obtain⟨y,hy,rfl⟩:=List.mem_map.1 he;have hns:y.born∉x.seen:=hns;have hg:x.H y.blk=some (0,[.string y.key,.bool y.good]):=by
  rw[hI.at_ y hy,decide_eq_false hns];simp
 have hmu:=O3 hy hns;refine⟨.i64,mb,x.seen++[y.born],t.dQ,rfl,mb,t.l.map gQ.enc,t.dQ,rfl,rfl,hok,rfl,x.seen,gQ.enc y,rfl,he,y.blk,0,rfl,y.blk,0,rfl,y.blk,0,1,[.string y.key,.bool y.good],rfl,hg,⟨⟨_,rfl,_,rfl⟩,trivial⟩,fun c1=>?_,fun c1=>?_⟩
 ·have c1:y.good=true:=c1;have hyk:=(h1.at_ y hy).2;refine⟨y.blk,0,rfl,y.blk,0,rfl,y.blk,0,0,[.string y.key,.bool y.good],rfl,hg,⟨⟨_,rfl,_,rfl,hyk⟩,trivial⟩,KJ.mk ks cap y.key,?_⟩;have hrk:ak ks.length 1 (aa kF ks) (aa kF ks):=ak.refl _ _ _;have hkk:toS ([Value.string y.key,.bool y.good].getD 0 (.tuple #[]))=y.key:=rfl
  and_intros<;>first|exact bW|exact hkk|exact hrk|exact h2|(intro h_;revert h_)|exact bX|skip
  intro _ _;dsimp only;rw[<- hf];refine⟨fun c2=>⟨y.blk,0,rfl,y.blk,0,rfl,y.blk,0,1,[.string y.key,.bool y.good],rfl,hg,(Nat.le_refl 2),?_,⟨x.seen++[y.born],aN x.H y.blk 0 [.string y.key,.bool false],x.n+1⟩,?_⟩,fun c2=>⟨⟨x.seen++[y.born],x.H,x.n⟩,?_⟩⟩
  ·have:=hI.n;have:=List.length_filter_le (fun e:gQ=>!decide (e.born∈x.seen)) t.l;simp only[bR];omega
  ·have hI2:=hI.hit h1 hy hns c2
   and_intros<;>first|exact bW|exact hI2|exact hmu|(intro h_;revert h_)|exact bX|skip
  ·have hI2:=hI.skip h1 hy hns (by rw[c1,c2];rfl)
   and_intros<;>first|exact bW|exact hI2|exact hmu|(intro h_;revert h_)|exact bX|skip
 ·have c1:y.good=false:=c1;have hI2:=hI.skip h1 hy hns (by rw[c1];rfl);refine⟨⟨x.seen++[y.born],x.H,x.n⟩,?_⟩
  and_intros<;>first|exact bW|exact hI2|exact hmu|(intro h_;revert h_)|exact bX|skip)
theorem Q0:au (Y Tryz.prog).G.X 88 Nq:=aU fL QZ ⟨UQ,trivial⟩
def wv(_:ByteArray):Bool:=true
structure KK where
 mb:Nat
 t:jU
 H:PH
noncomputable def IA:cE where
 α:=KK
 β:=PH×Int
 m:=3
 m':=3
 pre:=fun a=>gC a.H a.t/\a.t.l.length<100000
 args:=fun a=>[.a (.ptr 0 0 0 0)]
 hp:=fun a=>[(0,DN a.mb a.t),(1,vo a.mb a.t),(2,.cA a.H)]
 ro:=fun _=>[]
 post:=fun a b=>gC b.1 (gN a.t wv)/\∀z,z∉a.t.l.map (·.blk)->b.1 z=a.H z
 res:=fun _ b=>.a (.int .i64 b.2)
 cZ:=fun a b=>[(0,DN a.mb (gN a.t wv)),(1,vo a.mb (gN a.t wv)),(2,.cA b.1)]
def IB(z:Nat)(u:List Nat)(v:Nat)(x:KK)(y:O1)(w:PH)(s:Prop):=ag (mK z u v=mK x.mb y.seen x.t.dQ/\aD x.t.last/\iz x.mb x.mb/\dW x.mb x.t=dW x.mb x.t/\w=y.H/\O2 x.t x.H wv y/\s)
theorem Nr:fnBody (Y Tryz.prog) [] 107 IA fun a=>[(131,[UR a.mb a.t a.H wv],[])]:=fnBody.of (p :=
 ∀x:KK,Iz x.H x.t (x.t.l.length<100000) x.mb (fun y z u=>IB y [] z x u x.H True) wv (fun y=>x.H y) (fun y z u s f w k m=>Exists (kJ w.val 1 (fun v=>y.H v) (fun v g=>v+1<=g.length) fun v g i j=>ah (y.n+(1:Int))/\xS (y.n+(1:Int)) fun h=>IB s (tG z f) u x h (aN y.H v g (qx i j (bD gm) 1)) (Jl x.t h.seen<Jl x.t y.seen))) fun y z u s f w=>IB s (tG z f) u x w y.H (Jl x.t w.seen<Jl x.t y.seen)) (by kernel_rfl) (by
 delta az aT gL dW ah aD bE bh iz kJ bD aC bV nL aW oM bN bL Iz aV gm rO ag IB tG dR xR qx xS
 try dsimp -iota -proj only
 rintro⟨mb,t,H⟩ ⟨h1,h3⟩;dsimp only at *;have hok:=h1.ok;refine⟨mb,t.l.map gQ.enc,t.dQ,rfl,rfl,hok,⟨⟨[],H,0⟩,?_⟩,fun x hI=>?_⟩
 ·have hI:O2 t H wv ⟨[],H,0⟩:=⟨fun _ _=>rfl,fun e he=>by
   have:=(h1.at_ e he).1;show H e.blk=_;rw[this];simp,by show(0:Int)<=0;decide,by
   show(0:Int)+(Jl t []:Nat)<=(t.l.length:Nat)
   have:Jl t []<=t.l.length:=List.length_filter_le _ _;omega⟩
  and_intros<;>first|exact bW|exact hI|(intro h_;revert h_)|exact bX|skip
 refine⟨.i64,mb,x.seen,t.dQ,rfl,mb,t.l.map gQ.enc,t.dQ,rfl,rfl,hok,rfl,rfl,fun hall=>⟨(x.H,x.n),?_⟩,fun e he hns=>?_⟩
 ·have ha:=hI.all h1 fun e he=>hall _ (List.mem_map.2 ⟨e,he,rfl⟩);have hm:nG mb .i64 (t.l.map gQ.enc) t.dQ=nG mb .i64 ((gN t wv).l.map gQ.enc) (gN t wv).dQ:=by
   unfold gN;rw[List.map_map];rfl
  have ho:=hI.old
  and_intros<;>first|exact bW|exact hm|exact ha|exact ho|(intro h_;revert h_)|exact bX|skip
 obtain⟨y,hy,rfl⟩:=List.mem_map.1 he;have hns:y.born∉x.seen:=hns;have hg:x.H y.blk=some (0,[.string y.key,.bool y.good]):=by
  rw[hI.at_ y hy,decide_eq_false hns];simp
 have hmu:=O3 hy hns;refine⟨.i64,mb,x.seen++[y.born],t.dQ,rfl,mb,t.l.map gQ.enc,t.dQ,rfl,rfl,hok,rfl,x.seen,gQ.enc y,rfl,he,y.blk,0,rfl,y.blk,0,rfl,y.blk,0,1,[.string y.key,.bool y.good],rfl,hg,⟨⟨_,rfl,_,rfl⟩,trivial⟩,fun c1=>?_,fun c1=>?_⟩
 ·have c1:y.good=true:=c1;have hyk:=(h1.at_ y hy).2;refine⟨y.blk,0,rfl,y.blk,0,rfl,y.blk,0,0,[.string y.key,.bool y.good],rfl,hg,⟨⟨_,rfl,_,rfl,hyk⟩,trivial⟩,y.blk,0,rfl,y.blk,0,rfl,y.blk,0,1,[.string y.key,.bool y.good],rfl,hg,(Nat.le_refl 2),?_,⟨x.seen++[y.born],aN x.H y.blk 0 [.string y.key,.bool false],x.n+1⟩,?_⟩
  ·have:=hI.n;have:=List.length_filter_le (fun e:gQ=>!decide (e.born∈x.seen)) t.l;simp only[bR];omega
  ·have hI2:=hI.hit h1 hy hns rfl
   and_intros<;>first|exact bW|exact hI2|exact hmu|(intro h_;revert h_)|exact bX|skip
 ·have c1:y.good=false:=c1;have hI2:=hI.skip h1 hy hns (by rw[c1];rfl);refine⟨⟨x.seen++[y.born],x.H,x.n⟩,?_⟩
  and_intros<;>first|exact bW|exact hI2|exact hmu|(intro h_;revert h_)|exact bX|skip)
theorem Ns:au (Y Tryz.prog).G.X 107 IA:=aU fL Nr trivial
structure lq where
 node:Int
 id:Int
 op:Int
 key:ByteArray
 deriving Inhabited
structure KL where
 w:lq
 id:Int
 to:Int
 tick:Int
 deriving Inhabited
structure iP where
 w:lq
 tok:Int
 deriving Inhabited
def Xt:List CK:=[.int .i64,.int .i64,.int .i64,.str]
def US(w:lq):List Value:=[.int .i64 w.node,.int .i64 w.id,.int .i64 w.op,.string w.key]
def IC:List CK:=Xt++[.int .i64,.int .i64,.int .i64]
def iQ(x:KL):List Value:=US x.w++[.int .i64 x.id,.int .i64 x.to,.int .i64 x.tick]
def Aw:List CK:=Xt++[.int .i64]
def fZ(x:iP):List Value:=US x.w++[.int .i64 x.tok]
structure tH where
 aQ:Int
 end_:Int
 top:Int
structure cw where
 s:lT
 id:Int
 now:Int
 le:tH
 t:jU
 ws:List KL
 rs:List iP
 asked:Int
structure fI where
 p:tZ
 mb:Nat
 wc:Nat
 rc:Nat
def Q1(rg ma ra:A)(st le tk wa rd:Nat)(n:cw)(p:fI):Chunk:=.obj 83 [.ptr st 0 0 0,.ptr le 0 0 0,.int .i64 n.id,rg,.ptr tk 0 0 0,.bool false,.bS,.val (.map none),.val (.map none),.slc wa 0 7 n.ws.length p.wc,.slc rd 0 5 n.rs.length p.rc,.int .i64 n.asked,ma,ra]
def ID(rg:A)(st le tk wa rd:Nat)(n:cw)(p:fI):Chunk:=Q1 rg .bS .bS st le tk wa rd n p
def WW(ck:Nat)(l:tH):Chunk:=.obj 127 [.ptr ck 0 0 0,.int .i64 l.aQ,.int .i64 l.end_,.int .i64 l.top]
def WX(now:Int):Chunk:=.obj 24 [.int .i64 now]
def Xu(rg:A)(nd le ck tk mp wa rd st ca cl dv ds ix it jr ma jl ke su tx pl:Nat)(n:cw)(p:fI):List (Nat×Chunk) :=
 [(nd,ID rg st le tk wa rd n p),(le,WW ck n.le),(ck,WX n.now),(tk,DN p.mb n.t),(mp,vo p.mb n.t),(wa,.arr 125 IC n.ws.length (aa iQ n.ws)),(rd,.arr 134 Aw n.rs.length (aa fZ n.rs))]++v7 st ca cl dv ds ix it jr ma jl ke su tx pl n.s p.p
structure dB(n:cw)(p:fI):Prop where
 st:pF n.s p.p
 tok:gC p.p.H n.t
 sep:∀e∈n.t.l,e.blk∉bt p.p.cy/\e.blk∉bt p.p.jy
 wc:n.ws.length<=p.wc
 rc:n.rs.length<=p.rc
def t00:jU:=⟨0,[],0⟩
structure EI where
 id:Int
 now:Int
 d:bA
 H:PH
def p9(a:EI):cw:=⟨ki (rM ⟨a.d,a.H⟩),a.id,a.now,⟨0,0,0⟩,t00,[],[],0⟩
noncomputable def DU:cE where
 α:=EI
 β:=fI
 m:=4
 m':=40
 pre:=fun a=>1<=a.id/\a.id<=5/\yI.pre ⟨a.d,a.H⟩
 args:=fun a=>[.a (.int .i64 a.id),.a (.ptr 0 0 0 0),.a (.ptr 3 0 0 0)]
 hp:=fun a=>gJ 0 1 a.d++[(2,.cA a.H),(3,WX a.now)]
 ro:=fun _=>[]
 post:=fun a b=>dB (p9 a) b
 res:=fun _ _=>.mG [.a (.ptr 4 0 0 0),.a (.lit .i64 0)]
 cZ:=fun a b=>Xu .nil 4 5 3 6 7 8 9 10 11 12 0 1 13 14 15 16 17 18 19 20 21 (p9 a) b
def kU:=cS (Value.map none)
def cu(x:List iP):Nat:=x.length
def FP(y:Int)(x:tH)(z u:Int)(v w:Prop):=ag (y=x.aQ/\z=x.end_/\u=x.top/\v/\w)
def Ax(x:EI):=(1:Int)<=x.id/\x.id<=(5:Int)/\xQ x.d { d:=x.d,H:=x.H }
theorem Q2:fnBody (Y Tryz.prog) [(46,yI)] 11 DU fun _=>[]:=fnBody.of (p :=
 ∀x:EI,Ax x->kG x.id 1 (∃y:fI,False) 5 (∃y:DB,ag (iY x.d y.d (x.H=y.H/\xQ y.d y/\∀u:tZ,xP (rM y) u y.H->∀v:Nat,∃z:fI,ag (aV (ax (x.id=(p9 x).id/\ag (bN (kU/\kU/\(0=(p9 x).ws.length/\0=z.wc)/\(0=cu (p9 x).rs/\0=z.rc)/\(0:Int)=(p9 x).asked/\FP 0 (p9 x).le 0 0 (x.now=(p9 x).now) ((0:Int)=(p9 x).t.last/\iz v z.mb/\nL v [] 0=dW z.mb (p9 x).t/\(p9 x).ws.length=0/\cu (p9 x).rs=0/\ax (ag (pG (ki (rM y)) (p9 x).s u z.p (u.H=z.p.H/\dB (p9 x) z/\True))))))))))))) (by kernel_rfl) (by
 delta az dW b8 aD bE aH iz kU cu aC FP cS nL aW oM iM bN aV ag xQ ax Ax iE xP kG
 rintro⟨id,now,d,H⟩ ⟨h1,h2,h3,h4,h5,h6⟩;dsimp only at *;refine⟨fun c=>(by exfalso;have:=of_decide_eq_true c;omega),fun _=>⟨fun c=>(by exfalso;have:=of_decide_eq_true c;omega),fun _=>⟨DB.mk d H,?_⟩⟩⟩
 and_intros<;>first|exact bW|exact h3|exact h4|exact h5|exact h6.1|exact h6.2|exact h6.3|exact h6.4|exact h6.5|exact h6.6|(intro h_;revert h_)|exact bX|skip
 rintro p ⟨hat,_⟩ mb;refine⟨⟨p,mb,0,0⟩,?_⟩;have hN:dB (p9 ⟨id,now,d,H⟩) ⟨p,mb,0,0⟩:=⟨hat,⟨fun e he=>(by cases he),List.nodup_nil,fun e he=>(by cases he),List.nodup_nil,List.nodup_nil,by show(0:Int)<=0/\(0:Int)<=_;omega⟩,fun e he=>(by cases he),Nat.le_refl 0,Nat.le_refl 0⟩
 and_intros<;>first|exact bW|exact hN|(intro h_;revert h_)|exact bX|skip)
theorem FQ:au (Y Tryz.prog).G.X 11 DU:=aU fL Q2 ⟨Na,trivial⟩
theorem pF.frame{s:lT}{p:tZ}(h:pF s p){H':PH}(e:∀z,z∈bt p.cy\/z∈bt p.jy->H' z=p.H z):pF s { p with H:=H' } :=
 ⟨⟨h.fl.log.frame fun z hz=>e z (.inl hz),h.fl.idx⟩,h.jl.frame fun z hz=>e z (.inr hz),h.sep,h.cap⟩
theorem pF.dom{s:lT}{p:tZ}(h:pF s p){z:Nat}(hz:z∈bt p.cy\/z∈bt p.jy):p.H z≠none:=by
 rcases hz with hz|hz
 ·exact h.fl.log.dom z hz
 ·exact h.jl.dom z hz
theorem gC.frame{H H':PH}{t:jU}(h:gC H t)(e:∀x∈t.l,H' x.blk=H x.blk):gC H' t :=
 ⟨fun x hx=>⟨by rw[e x hx];exact(h.at_ x hx).1,(h.at_ x hx).2⟩,h.blk,h.id,h.ids,h.born,h.last⟩
theorem dB.store{n:cw}{p:fI}(h:dB n p){s:lT}{b:tZ}(h1:pF s b)(h2:DA p.p.H (bt p.p.cy) (bt p.p.jy) b):dB { n with s:=s } { p with p:=b }:=by
 have hx:∀e∈n.t.l,b.H e.blk=p.p.H e.blk/\e.blk∉bt b.cy/\e.blk∉bt b.jy:=fun e he =>
  h2 e.blk (by rw[(h.tok.at_ e he).1];simp) (h.sep e he).1 (h.sep e he).2
 exact⟨h1,h.tok.frame fun e he=>(hx e he).1,fun e he=>(hx e he).2,h.wc,h.rc⟩
theorem gC.YH{H:PH}{t:jU}(h:gC H t){key:ByteArray}{b:Nat}(hb:H b=none)(hk:key.size<=aq)(hl:t.last<1099511627776):gC (aN H b 0 [.string key,.bool true]) (qY t key b):=by
 have hne:∀e∈t.l,e.blk≠b:=fun e he h0=>by
  have:=(h.at_ e he).1;rw[h0,hb]at this;cases this
 have hlast:=h.last;refine⟨fun e he=>?_,?_,fun e he=>?_,?_,?_,by show 0<=t.last+1/\t.last+1<=_;omega⟩
 ·rcases List.mem_append.1 he with he|he
  ·exact⟨by rw[cK (hne e he)];exact(h.at_ e he).1,(h.at_ e he).2⟩
  ·rw[List.mem_singleton]at he;subst he;exact⟨dN _ _ _ _,hk⟩
 ·show((t.l++[_]).map _).Nodup;rw[List.map_append,List.nodup_append];refine⟨h.blk,by simp,fun x hx y hy=>?_⟩;obtain⟨e,he,rfl⟩:=List.mem_map.1 hx;have:y=b:=by simpa using hy
  rw[this];exact hne e he
 ·rcases List.mem_append.1 he with he|he
  ·have:=h.id e he;show 1<=e.id/\e.id<=t.last+1/\e.born<t.dQ+1;omega
  ·rw[List.mem_singleton]at he;subst he;show 1<=t.last+1/\t.last+1<=t.last+1/\t.dQ<t.dQ+1;omega
 ·show((t.l++[_]).map _).Nodup;rw[List.map_append,List.nodup_append];refine⟨h.ids,by simp,fun x hx y hy=>?_⟩;obtain⟨e,he,rfl⟩:=List.mem_map.1 hx;have:y=t.last+1:=by simpa using hy
  have:=h.id e he;omega
 ·show((t.l++[_]).map _).Nodup;rw[List.map_append,List.nodup_append];refine⟨h.born,by simp,fun x hx y hy=>?_⟩;obtain⟨e,he,rfl⟩:=List.mem_map.1 hx;have:y=t.dQ:=by simpa using hy
  have:=h.id e he;omega
theorem dB.YH{n:cw}{p:fI}(h:dB n p){key:ByteArray}{b:Nat}(hb:p.p.H b=none)(hk:key.size<=aq)(hl:n.t.last<1099511627776):dB { n with t:=qY n.t key b } { p with p:={ p.p with H:=aN p.p.H b 0 [.string key,.bool true] } }:=by
 have hne:∀z,z∈bt p.p.cy\/z∈bt p.p.jy->z≠b:=fun z hz h0=>h.st.dom hz (by rw[h0];exact hb);refine⟨h.st.frame fun z hz=>cK (hne z hz),h.tok.YH hb hk hl,fun e he=>?_,h.wc,h.rc⟩;rcases List.mem_append.1 he with he|he
 ·exact h.sep e he
 ·rw[List.mem_singleton]at he;subst he;exact⟨fun hz=>hne b (.inl hz) rfl,fun hz=>hne b (.inr hz) rfl⟩
theorem dB.Xv{n:cw}{p:fI}(h:dB n p){f:ByteArray->Bool}{H':PH}(h1:gC H' (gN n.t f))(h2:∀z,z∉n.t.l.map (·.blk)->H' z=p.p.H z):dB { n with t:=gN n.t f } { p with p:={ p.p with H:=H' } }:=by
 refine⟨h.st.frame fun z hz=>h2 z fun hm=>?_,h1,fun e he=>?_,h.wc,h.rc⟩
 ·obtain⟨e,he,rfl⟩:=List.mem_map.1 hm;rcases hz with hz|hz
  ·exact(h.sep e he).1 hz
  ·exact(h.sep e he).2 hz
 ·obtain⟨y,hy,rfl⟩:=List.mem_map.1 he;exact h.sep y hy
structure xT where
 id:Int
 op:Int
 key:ByteArray
 err:Int
 val:ByteArray
 has:Bool
 deriving Inhabited
def UT:List CK:=[.int .i64,.int .i64,.str,.int .i64,.str,.bool]
def qH(r:xT):List Value:=[.int .i64 r.id,.int .i64 r.op,.string r.key,.int .i64 r.err,.string r.val,.bool r.has]
def pX:ByteArray:=ByteArray.mk #[]
structure FR where
 n:cw
 p:fI
 id:Int
 op:Int
 key:ByteArray
def Ay(op:Int)(key:ByteArray)(e:Int):Int:=if(op=1\/op=2)/\cN key=true then e else 1
def Q3(a:FR):xT:=⟨a.id,a.op,a.key,Ay a.op a.key 6,pX,false⟩
noncomputable def Nt:cE where
 α:=FR
 β:=Nat
 m:=8
 m':=9
 pre:=fun a=>a.key.size<=aq
 args:=fun a=>[.a (.ptr 0 0 0 0),.a (.int .i64 a.id),.a (.int .i64 a.op),.a (.str a.key)]
 hp:=fun a=>[(0,ID .nil 7 1 3 5 6 a.n a.p)]
 ro:=fun _=>[]
 post:=fun _ _=>True
 res:=fun _ c=>.agg [.bS,.slc 8 0 6 1 c]
 cZ:=fun a _=>[(0,ID .nil 7 1 3 5 6 a.n a.p),(8,.arr 61 UT 1 (aa qH [Q3 a]))]
def pO(x:List KL)(y:cw)(z:Nat)(u:fI):=ag (x.length=y.ws.length/\z=u.wc)
def jC(y:Prop)(z x:cw)(u v:fI)(w:Int)(s:Prop):=bN (kU/\kU/\y/\ag (cu z.rs=cu x.rs/\u.rc=v.rc)/\w=x.asked/\s)
def oN(x y:cw)(z u:fI)(v w:Prop):=ag (jC (pO x.ws y z.wc u) x y z u x.asked (v/\w))
def IE(x:FR)(z:Int):=ah x.id->ah x.op->1<=1/\64<=140737488355328/\∀y:Nat,1<=y->y<=aq->∃u:Nat,b8 1 (y=u)/\aK 1 1 6 (jR 6 (bx x.id (bx x.op (eE x.key z (bV (bL cO) (bD gm)))))) (aa qH [Q3 x])/\ax (aD x.n.id/\oN x.n x.n x.p x.p True True)
theorem Q4:fnBody (Y Tryz.prog) [(66,Ix.vc),(86,LV)] 13 Nt fun _=>[]:=fnBody.of (p :=
 ∀x:FR,bh x.key<=aq->∃z:Ix.Qk,HG z x.key (ah x.op->wJ (x.op != (1:Int)) x.op (x.op != (2:Int)) (IE x 1) (∃y:ByteArray,x.key=y/\cQ (az (bg (cN y)) (IE x 1) (IE x 6))))) (by kernel_rfl) (by
 delta oN az aK ah bx b8 aD bE cO bh kU bD cu aC dV bV cS pO aW wJ bN aI bL IE iC gm ag ax bg jC eE HG dR cQ jR
 try dsimp -iota -proj only
 rintro⟨n,p,id,op,key⟩ h;have h:key.size<=aq:=h;have hr:ak 1 1 (aO 1 [Go.Value.string key]) (fun(i x:Nat)=>Go.Value.string key):=.eo fun i hi=>by
  have:i=0:=by omega
  subst this;rfl
 have hs:∀i:Nat,i<1->key.size<=aq:=fun _ _=>h;have hrep:∀e:Int,Ay op key 6=e->ak 1 6 (fun(i j:Nat)=>aO 6 [Value.int .i64 id,Value.int .i64 op,Value.string key,Value.int .i64 e,Value.string (ByteArray.mk #[]),Value.bool false] (0+i) j) (aa qH [Q3 ⟨n,p,id,op,key⟩]):=fun e he=>.eo fun i hi=>by
  have:i=0:=by omega
  subst this;subst he;rfl
 refine⟨⟨fun _=>key,1,1⟩,?_⟩
 and_intros<;>first|exact bW|exact hr|exact hs|(intro h_;revert h_)|exact bX|skip
 intro _ _ _;dsimp only;have hk1:∀ {c:Bool},cN key=c->(op=1\/op=2)->Ay op key 6=if c=true then 6 else 1:=fun {c} hc ho=>by
  unfold Ay;rw[hc];cases c<;>simp[ho]
 refine⟨fun c1 _=>⟨fun c2 _ _=>?_,fun c2=>⟨key,rfl,trivial,fun _ _=>⟨fun c3 _ _=>?_,fun c3 _ _=>?_⟩⟩⟩,fun c1=>⟨key,rfl,trivial,fun _ _=>⟨fun c3 _ _=>?_,fun c3 _ _=>?_⟩⟩⟩
 ·have he:=hrep 1 (by unfold Ay;rw[if_neg];rintro⟨ho,_⟩;rcases ho with ho|ho<;>simp[ho]at c1 c2);refine⟨Nat.le_refl 1,by decide,fun cap _ _=>⟨cap,?_⟩⟩
  and_intros<;>first|exact bW|exact he|(intro h_;revert h_)|exact bX|skip
 ·have he:=hrep 1 (by rw[hk1 (c:=false) (by simpa using c3) (.inr (by simpa using c2))];rfl);refine⟨Nat.le_refl 1,by decide,fun cap _ _=>⟨cap,?_⟩⟩
  and_intros<;>first|exact bW|exact he|(intro h_;revert h_)|exact bX|skip
 ·have he:=hrep 6 (by rw[hk1 (c:=true) (by simpa using c3) (.inr (by simpa using c2))];rfl);refine⟨Nat.le_refl 1,by decide,fun cap _ _=>⟨cap,?_⟩⟩
  and_intros<;>first|exact bW|exact he|(intro h_;revert h_)|exact bX|skip
 ·have he:=hrep 1 (by rw[hk1 (c:=false) (by simpa using c3) (.inl (by simpa using c1))];rfl);refine⟨Nat.le_refl 1,by decide,fun cap _ _=>⟨cap,?_⟩⟩
  and_intros<;>first|exact bW|exact he|(intro h_;revert h_)|exact bX|skip
 ·have he:=hrep 6 (by rw[hk1 (c:=true) (by simpa using c3) (.inl (by simpa using c1))];rfl);refine⟨Nat.le_refl 1,by decide,fun cap _ _=>⟨cap,?_⟩⟩
  and_intros<;>first|exact bW|exact he|(intro h_;revert h_)|exact bX|skip)
theorem Q5:au (Y Tryz.prog).G.X 13 Nt:=aU fL Q4 ⟨Ix.vW,yu,trivial⟩
structure gi where
 kind:Int
 ob:Int
 to:Int
 aQ:Int
 tick:Int
 seq:Int
 n:Int
 id:Int
 op:Int
 key:ByteArray
 err:Int
 last:Bool
 item:aB
 base:Int
 deriving Inhabited
def IF:List CK:=[.int .i64,.int .i64,.int .i64,.int .i64,.int .i64,.int .i64,.int .i64,.int .i64,.int .i64,.str,.int .i64,.bool,.str,.str,.int .i64,.bool,.deep,.deep,.deep,.int .i64,.deep]
def dZ(m:gi):List Value:=[.int .i64 m.kind,.int .i64 m.ob,.int .i64 m.to,.int .i64 m.aQ,.int .i64 m.tick,.int .i64 m.seq,.int .i64 m.n,.int .i64 m.id,.int .i64 m.op,.string m.key,.int .i64 m.err,.bool m.last,.string m.item.key,.string m.item.val,.int .i64 m.item.e,.bool m.item.gone,.slice none 0 0,.slice none 0 0,.slice none 0 0,.int .i64 m.base,.slice none 0 0]
def Bi(t:Nat)(l:List gi):Nat×Chunk:=(t,.arr 45 IF l.length (aa dZ l))
def KM(t:Nat)(l:List xT):Nat×Chunk:=(t,.arr 61 UT l.length (aa qH l))
structure nE where
 n:cw
 p:fI
 q:List gi
 qc:Nat
 l:List gi
 lc:Nat
def KN(id:Int)(l:List gi):List gi:=l.map fun m=>{ m with ob:=id }
def nE.to(a:nE)(i:Nat):List gi:=a.q++KN a.n.id (a.l.take i)
noncomputable def Nu(rg:A):cE where
 α:=nE
 β:=Nat
 m:=12
 m':=13
 pre:=fun a=>a.l.length<1000/\a.q.length<1000
 args:=fun a=>[.a (.ptr 0 0 0 0),.a (.slc 10 0 21 a.l.length a.lc)]
 hp:=fun a=>[(0,Q1 rg (.slc 11 0 21 a.q.length a.qc) .bS 7 1 3 5 6 a.n a.p),Bi 11 a.q]
 ro:=fun a=>[Bi 10 a.l]
 post:=fun a c=>a.l.length=0->c=a.qc
 res:=fun _ _=>.mG []
 cZ:=fun a c=>[(0,Q1 rg (.slc 12 0 21 (a.to a.l.length).length c) .bS 7 1 3 5 6 a.n a.p),Bi 12 (a.to a.l.length)]
def ZS(rg:A)(a:nE):An:=.flat 1 (Nat×Nat) (fun s x=>((((s.put (s.hp.del 11)).new (.arr 45 IF (a.to x.1).length (aa dZ (a.to x.1)))).at_ 0 (Q1 rg (.slc s.nx 0 21 (a.to x.1).length x.2) .bS 7 1 3 5 6 a.n a.p)).int 8 x.1)) (fun _ x=>x.1<=a.l.length/\(x.1=0->x.2=a.qc)) (fun _ x=>a.l.length-x.1)
theorem O4{a:nE}{i:Nat}(h:i<a.l.length):a.to (i+1)=a.to i++[{ gl a.l i with ob:=a.n.id }]:=by
 unfold nE.to KN;rw[gD h,List.map_append,List.append_assoc];rfl
theorem UU(a:nE)(i:Nat):(a.to i).length=a.q.length+min i a.l.length:=by
 unfold nE.to KN;simp
def KO(x:gi)(y:Int):List Value:=Ez .i64 x.kind y x.to (dV x.aQ) x.tick x.seq x.n (bx x.id (bx x.op (eE x.key x.err (lC (dR x.last) (bL x.item.key) (eE x.item.val x.item.e (lC (dR x.item.gone) gn (lC gn gn (bx x.base (bD gn)))))))))
def bC(x:List gi):Nat:=x.length
def mz(x y:List gi):=aK (bC x) (bC y) 21 (aa dZ y) (aa dZ x)
def vq(x:List gi):=dU (bC x) 21 (aa dZ x)
def IG(x:nE)(z y:Nat×Nat)(u:Nat):=oN x.n x.n x.p x.p (ag (bC (x.to z.fst)+1=bC (x.to y.fst)/\u=y.snd)) (vq x.l/\lU (bC (x.to y.fst)) (bC (x.to z.fst)) 21 (aa dZ (x.to z.fst)) (KO (gl x.l (0+aA z.fst)) x.n.id) (aa dZ (x.to y.fst))/\ey y.fst (bC x.l) (y.fst=0->y.snd=x.qc) z.fst)
def II(x:nE)(z:Nat×Nat->Prop)(u:Nat×Nat->Nat->Nat×Nat->Prop)(v:Nat×Nat->Nat->Prop):=bC x.l<1000/\bC x.q<1000->(∃y:Nat×Nat,aF y.fst (dY (bC x.l) x.lc (ag (bG (bC x.l) x.lc/\ax (aD x.n.id/\z y)))))/\∀y:Nat×Nat,y.fst<=bC x.l/\(y.fst=0->y.snd=x.qc)->gz y.fst (bC x.l) (ah x.n.id->gG (bC (x.to y.fst)) 256 y.snd fun w=>iB y fun s=>dY (bC x.l) x.lc (ag (bG (bC x.l) x.lc/\ax (aD x.n.id/\u y w s)))) (∃t:Nat,ax (aD x.n.id/\v y t))
def IJ(x:nE)(y:Nat×Nat):=oN x.n x.n x.p x.p (ag (bC x.q=bC (x.to y.fst)/\x.qc=y.snd)) (vq x.l/\mz (x.to y.fst) x.q/\(y.fst<=bC x.l/\(y.fst=0->y.snd=x.qc))/\True)
def Az(y x:nE)(z u v:Nat)(w:Prop):=oN y.n x.n y.p x.p (ag (bC (y.to z)=bC (x.to (bC x.l))/\u=v)) (mz (x.to (bC x.l)) (y.to z)/\w)
theorem UW:fnBody (Y Tryz.prog) [] 51 (Nu .nil) fun a=>[(51,[ZS .nil a],[])]:=fnBody.of (p :=
 ∀x:nE,II x (fun y=>IJ x y) (fun y z u=>IG x y u z) fun y z=>Az x x y.fst y.snd z ((bC x.l=0->z=x.qc)/\True)) (by kernel_rfl) (by
 delta oN az Ez aK ah bx b8 aA aD bE gK cF aH af kU bD cu aC dV aX bq lC bV cS pO aW dU gz KO bN bC bG lU ey gG bL dY mz gn iB aS aF IG ag aY II cV br IJ Az ax jC bu eE dX dR vq jR
 try dsimp -iota -proj only
 intro a ⟨h1,h2⟩;have e0:a.to 0=a.q:=by unfold nE.to KN;simp
 have h0:(0:Nat)=0->a.qc=a.qc:=fun _=>rfl;refine⟨⟨(0,a.qc),?_⟩,fun⟨i,c⟩ ⟨hi,hc⟩=>⟨fun c1=>?_,fun c1=>⟨c,?_⟩⟩⟩
 ·dsimp only;rw[e0]
  and_intros<;>first|exact bW|exact h0|(intro h_;revert h_)|exact bX|skip
 ·dsimp only at *;have hi:i<a.l.length:=by have:=of_decide_eq_true c1;omega
  have hl:=UU a i;have hs:=O4 hi;have hz:0+(i:Int).toNat=i:=by omega
  rw[hz];refine⟨by omega,hi,fun _=>⟨by omega,by omega,by omega,fun cap _ _ _=>⟨by simp only[bR];omega,(i+1,cap),?_⟩⟩⟩;dsimp only;rw[hs];have hp:ak ((a.to i)++[{ gl a.l i with ob:=a.n.id }]).length 21 (aZ (aa dZ (a.to i)) 0 (a.to i).length fun i_1 j=>aO 21 (dZ { gl a.l i with ob:=a.n.id }) (0+i_1) j) (aa dZ ((a.to i)++[{ gl a.l i with ob:=a.n.id }])):=.push rfl (by simp) rfl;have h1:i+1=0->cap=a.qc:=fun e=>by omega
  and_intros<;>first|exact bW|exact hp|exact by simp|exact h1|(intro h_;revert h_)|exact bX|skip
 ·dsimp only at *;have hi:i=a.l.length:=by have:=of_decide_eq_false c1;omega
  subst hi
  and_intros<;>first|exact bW|exact hc|(intro h_;revert h_)|exact bX|skip)
theorem UX:fnBody (Y Tryz.prog) [] 51 (Nu (.ptr 9 0 0 0)) fun a=>[(51,[ZS (.ptr 9 0 0 0) a],[])]:=fnBody.of (p :=
 ∀x:nE,II x (fun y=>ag (IJ x y)) (fun y z u=>ag (IG x y u z)) fun y z=>ag (Az x x y.fst y.snd z ((bC x.l=0->z=x.qc)/\True))) (by kernel_rfl) (by
 delta oN az Ez aK ah bx b8 aA aD bE gK cF aH af kU bD cu aC dV aX bq lC bV cS pO aW dU gz KO bN bC bG lU ey gG bL dY mz gn iB aS aF IG ag aY II cV br IJ Az ax jC bu eE dX dR vq jR
 try dsimp -iota -proj only
 intro a ⟨h1,h2⟩;have e0:a.to 0=a.q:=by unfold nE.to KN;simp
 have h0:(0:Nat)=0->a.qc=a.qc:=fun _=>rfl;refine⟨⟨(0,a.qc),?_⟩,fun⟨i,c⟩ ⟨hi,hc⟩=>⟨fun c1=>?_,fun c1=>⟨c,?_⟩⟩⟩
 ·dsimp only;rw[e0]
  and_intros<;>first|exact bW|exact h0|(intro h_;revert h_)|exact bX|skip
 ·dsimp only at *;have hi:i<a.l.length:=by have:=of_decide_eq_true c1;omega
  have hl:=UU a i;have hs:=O4 hi;have hz:0+(i:Int).toNat=i:=by omega
  rw[hz];refine⟨by omega,hi,fun _=>⟨by omega,by omega,by omega,fun cap _ _ _=>⟨by simp only[bR];omega,(i+1,cap),?_⟩⟩⟩;dsimp only;rw[hs];have hp:ak ((a.to i)++[{ gl a.l i with ob:=a.n.id }]).length 21 (aZ (aa dZ (a.to i)) 0 (a.to i).length fun i_1 j=>aO 21 (dZ { gl a.l i with ob:=a.n.id }) (0+i_1) j) (aa dZ ((a.to i)++[{ gl a.l i with ob:=a.n.id }])):=.push rfl (by simp) rfl;have h1:i+1=0->cap=a.qc:=fun e=>by omega
  and_intros<;>first|exact bW|exact hp|exact by simp|exact h1|(intro h_;revert h_)|exact bX|skip
 ·dsimp only at *;have hi:i=a.l.length:=by have:=of_decide_eq_false c1;omega
  subst hi
  and_intros<;>first|exact bW|exact hc|(intro h_;revert h_)|exact bX|skip)
theorem UY:au (Y Tryz.prog).G.X 51 (Nu .nil):=aU fL UW trivial
theorem KP:au (Y Tryz.prog).G.X 51 (Nu (.ptr 9 0 0 0)):=aU fL UX trivial
def Y2(P:Program):Gx:=⟨⟨⟨P,Tab.T,false,false⟩,AW P (53::Tab.ids),(53,[0,2,5,12,23])::Tab.I⟩,(53,[])::Tab.R⟩
theorem aak:(AW Tryz.prog (53::Tab.ids)).all (XZ ((53,[])::Tab.R))=true:=by kernel_rfl
theorem ZT:(Y2 Tryz.prog).Ok:=GA (dp:=true) okT mixed (uF _ _) aak
noncomputable def UZ:cE where
 α:=Unit
 β:=Unit
 m:=0
 m':=0
 pre:=fun _=>True
 args:=fun _=>[.a .nil]
 hp:=fun _=>[]
 ro:=fun _=>[]
 post:=fun _ _=>True
 res:=fun _ _=>.a .bS
 cZ:=fun _ _=>[]
theorem U0:fnBody (Y2 Tryz.prog) [] 53 UZ fun _=>[]:=fnBody.of (p :=
 aI (Exists (ay (True/\True)))) (by kernel_rfl) (by
 delta aI ay
 exact fun _ _=>⟨(),trivial,trivial⟩)
theorem U1:au (Y Tryz.prog).G.X 53 UZ:=aU ZT U0 trivial
def VG:List KL:=[]
def tI(n:cw):gi:=⟨1,n.id,0,n.s.k.m.aQ,n.now,n.s.k.m.ready,0,0,0,pX,0,false,fR,0⟩
structure IK where
 n:cw
 p:fI
noncomputable def IL:cE where
 α:=IK
 β:=Nat
 m:=14
 m':=17
 pre:=fun a=>a.n.ws=[]
 args:=fun _=>[.a (.ptr 0 0 0 0)]
 hp:=fun a=>[(0,ID .nil 7 1 3 5 6 a.n a.p)]
 ro:=fun a=>[(1,WW 2 a.n.le),(2,WX a.n.now),(7,stO 8 9 10 a.n.s.bK),(10,.obj 155 (.ptr 11 0 0 0::Dv a.n.s.k.m))]
 post:=fun _ _=>True
 res:=fun _ c=>.agg [.slc 14 0 21 1 c,.slc 15 0 6 0 0]
 cZ:=fun a _=>[(14,.arr 45 IF 1 (aa dZ [tI a.n])),(0,ID .nil 7 1 3 16 6 { a.n with ws:=VG } { a.p with wc:=0 }),(16,.arr 125 IC VG.length (aa iQ VG))]
def WY:An:=.flat 5 Nat (fun s i=>s.int 3 (1+(i:Int))) (fun _ i=>i<=5) (fun _ i=>5-i)
def rP(x:cw)(y:Prop):=bZ x.le.aQ x.le.end_ (aD x.le.top) (aD x.now/\y)
def AA(x:nE)(z:Nat->Prop):=(bC x.l<1000/\bC x.q<1000)/\∀y:Nat,(bC x.l=0->y=x.qc)->z y
def IM(x:nE)(y z:Int)(u:cw)(v w t f:Int)(g:ByteArray)(h:Nat->Prop):=bC x.q=0/\aK (bC x.l) 1 21 (aO 21 (Ez .i64 y 0 z (dV u.s.k.m.aQ) v w 0 (bx t (bx f (eE g 0 (lC gm (bL cO) (eE cO 0 (lC gm gn (lC gn gn (bx 0 (bD gn))))))))))) (aa dZ x.l)/\AA x fun i=>h i
def vr(x:gi):List gi:=[x]
theorem Nv:fnBody (Y2 Tryz.prog) [(51,Nu .nil),(53,UZ)] 15 IL fun _=>[(15,[WY],[])]:=fnBody.of (p :=
 ∀y:IK,y.n.ws=[]->ah y.n.now->∃x:nE,ag (ag (1=bC x.l/\1=x.lc)/\ax (y.n.id=x.n.id/\oN y.n x.n y.p x.p (0=bC x.q/\0=x.qc) (IM x 1 0 y.n y.n.now y.n.s.k.m.ready 0 0 cO fun v=>(∃u:Nat,(1:Int)=1+af u/\bN (ax (ax (aD x.n.id/\oN x.n x.n x.p x.p (bG (bC (x.to (bC x.l))) v) (vq (x.to (bC x.l))/\ag (rP y.n (ax (eC (aD y.n.s.bK) (Ao y.n.s.k.m (u<=5/\True))))))))))/\∀u:Nat,u<=5->az (cC ((1:Int)+af u) 5) (Exists (DQ (Value.map none) (Exists (ay (cQ (∃z:nE,ag ((0=bC z.l/\0=z.lc)/\ax (x.n.id=z.n.id/\oN x.n z.n x.p z.p (ag (bC (x.to (bC x.l))=bC z.q/\v=z.qc)) (mz z.q (x.to (bC x.l))/\bC z.l=0/\AA z fun t=>ah ((1:Int)+af u+(1:Int))/\∃w:Nat,(1:Int)+af u+(1:Int)=1+af w/\bN (ax (ax (z.n.id=x.n.id/\Az z x (bC z.l) t v (ag (rP y.n (ax (eC (aD y.n.s.bK) (Ao y.n.s.k.m (bU w 5 u)))))))))))))))) False)) (mO 0 x.n.ws.length False (∃z:Nat,dL (bC (x.to (bC x.l))) 1 v z (ag (0=0)) 21 (aa dZ (x.to (bC x.l))) (aa dZ (vr (tI y.n))) (ax (x.n.id=y.n.id/\ag (jC (0=VG.length/\0=0) x.n y.n x.p y.p x.n.asked (ag (True/\True))))))))))) (by kernel_rfl) (by
 delta oN az Ez bZ aK ah bx b8 aD bE cO cF aH af kU bD cu aC dV bq lC eC bV cS pO aW dU bN aI bC bG dL bL bU mz gn ay cC rP gm ag aY Ao IM Az ax jC eE mO dR cQ vq DQ AA vr
 try dsimp -iota -proj only
 rintro⟨n,p⟩ h0 _;have h0:n.ws=[]:=h0;have hr:ak 1 21 (aO 21 (dZ ⟨1,0,0,n.s.k.m.aQ,n.now,n.s.k.m.ready,0,0,0,pX,0,false,fR,0⟩)) (aa dZ [⟨1,0,0,n.s.k.m.aQ,n.now,n.s.k.m.ready,0,0,0,pX,0,false,fR,0⟩]):=.eo fun i hi=>by
  have:i=0:=by omega
  subst this;rfl
 have k0:(0:Nat)<1000:=by omega
 have k1:(1:Nat)<1000:=by omega
 refine⟨nE.mk n p [] 0 [⟨1,0,0,n.s.k.m.aQ,n.now,n.s.k.m.ready,0,0,0,pX,0,false,fR,0⟩] 1,?_⟩
 and_intros<;>first|exact bW|exact hr|exact k1|exact k0|(intro h_;revert h_)|exact bX|skip
 intro b _;refine⟨⟨0,?_⟩,fun i hi=>⟨fun c1=>⟨none,rfl,fun _=>⟨(),trivial,fun _ _=>⟨nE.mk n p [tI n] b [] 0,?_⟩⟩,fun c=>absurd rfl c⟩,fun c1=>⟨fun c2=>?_,fun c2=>⟨b,?_⟩⟩⟩⟩
 ·and_intros<;>first|exact bW|(intro h_;revert h_)|exact bX|skip
 ·have c1:=of_decide_eq_true c1;have e1:((nE.mk n p [] 0 [⟨1,0,0,n.s.k.m.aQ,n.now,n.s.k.m.ready,0,0,0,pX,0,false,fR,0⟩] 1).to 1)=[tI n]:=rfl;have e2:((nE.mk n p [tI n] b [] 0).to 0)=[tI n]:=rfl
  and_intros<;>first|exact bW|exact k1|exact k0|(intro h_;revert h_)|exact bX|skip
  intro b2 hb2;have hb2:b2=b:=hb2 rfl;subst hb2;refine⟨by simp only[bR];omega,i+1,?_⟩
  and_intros<;>first|exact bW|(intro h_;revert h_)|exact bX|skip
 ·exfalso;have c2:=of_decide_eq_true c2;have c2:(0:Int)<(n.ws.length:Nat):=c2;rw[h0]at c2;exact absurd c2 (by decide)
 ·and_intros<;>first|exact bW|(intro h_;revert h_)|exact bX|skip)
theorem Nw:au (Y Tryz.prog).G.X 15 IL:=aU ZT Nv ⟨UY,U1,trivial⟩
end Go.Proofs.YtfjgoonelcaggaaGreat
namespace Go.Proofs.YtfjgoonelcaggaaGreat.Rg
open Go.Sx
def OE(a b:Int):Int:=dI .xor .u64 a b
def RB(a:Int):Int:=uw .u64 a
def TA(x:Int):Int:=RB (OE x (x/1073741824)*13787848793156543929)
def TB(x:Int):Int:=RB (OE x (x/134217728)*10723151780598845931)
def TC(x:Int):Int:=OE x (x/2147483648)
def qA(x:Int):Int:=TC (TB (TA x))
noncomputable def A5:cE where
 α:=Int
 β:=Unit
 m:=0
 m':=0
 pre:=fun _=>True
 args:=fun a=>[.a (.int .u64 a)]
 hp:=fun _=>[]
 ro:=fun _=>[]
 post:=fun _ _=>True
 res:=fun a _=>.a (.int .u64 (qA a))
 cZ:=fun _ _=>[]
theorem C9:fnBody (Y Tryz.prog) [] 120 A5 fun _=>[]:=fnBody.of (p :=
 ∀x:Int,HC x (Rg.qA x)) (by kernel_rfl) (by
 delta TD bI cM ay mR HC bl
 intro a _;exact⟨by decide,by decide,by decide,(),rfl,trivial,trivial⟩)
theorem yB:au (Y Tryz.prog).G.X 120 A5:=aU fL C9 trivial
def mq(h:Int)(b:ByteArray):Nat->Int
 |0=>h
 |i+1=>RB (qA (OE (mq h b i) ((b.data.getD i 0).toNat:Int))+1)
def TE(h:Int)(b:ByteArray):Int:=qA (OE (mq h b b.size) (RB (256+RB b.size)))
def fO(g:Nat->ByteArray):Nat->Int
 |0=>11400714819323198485
 |i+1=>TE (fO g i) (g i)
structure Qk where
 g:Nat->ByteArray
 n:Nat
 cap:Nat
noncomputable def vc:cE where
 α:=Qk
 β:=Unit
 m:=1
 m':=1
 pre:=fun a=>a.n<100000/\∀i,i<a.n->(a.g i).size<=aq
 args:=fun a=>[.a (.slc 0 0 1 a.n a.cap)]
 hp:=fun _=>[]
 ro:=fun a=>[(0,.arr 9 [.str] a.n (fun i _=>.string (a.g i)))]
 post:=fun _ _=>True
 res:=fun a _=>.a (.int .u64 (fO a.g a.n))
 cZ:=fun _ _=>[]
def Yo(a:Qk)(i:Nat):An:=.flat 6 Nat (fun s j=>(s.int 15 j).set 3 (.a (.int .u64 (mq (fO a.g i) (a.g i) j)))) (fun _ j=>j<=(a.g i).size) (fun _ j=>(a.g i).size-j)
def Yp(a:Qk):An:=.mk 3 Nat (fun s i=>(s.int 9 i).set 3 (.a (.int .u64 (fO a.g i)))) (fun _ i=>i<=a.n) (fun _ i=>a.n-i) (fun i=>.mk 60 [Yo a i] [])
theorem zU:fnBody (Y Tryz.prog) [(120,A5)] 66 vc fun a=>[(66,[Yp a],[])]:=fnBody.of (p :=
 ∀x:Rg.Qk,(x.n<100000/\∀s:Nat,s<x.n->bh (x.g s)<=aq)->(∃y:Nat,(11400714819323198485:Int)=Rg.fO x.g y/\aF y (zT x.n x.cap (fun z=>x.g z) (y<=x.n/\True)))/\∀y:Nat,ga y x.n ((∃z:Nat,Rg.fO x.g y=Rg.mq (Rg.fO x.g y) (x.g y) z/\aF z (zS (x.g (0+aA y)) y x.n x.cap (fun t=>x.g t) (z<=bh (x.g y)/\True)))/\∀z:Nat,z<=bh (x.g y)->mO (af z) (bh (x.g (0+aA y))) (∃v:Int,mR (Rg.mq (Rg.fO x.g y) (x.g y) z) (af ((x.g (0+aA y)).data.getD (aA z) (0:UInt8)).toNat)=v/\cQ (aS z/\∃u:Nat,cM (Rg.qA v+(1:Int))=Rg.mq (Rg.fO x.g y) (x.g y) u/\br z u/\zS (x.g (0+aA y)) y x.n x.cap (fun w=>x.g w) (bU u (bh (x.g y)) z))) (∃v:Int,mR (Rg.mq (Rg.fO x.g y) (x.g y) z) (cM ((256:Int)+cM (af (bh (x.g (0+aA y))))))=v/\cQ (aS y/\∃u:Nat,Rg.qA v=Rg.fO x.g u/\br y u/\zT x.n x.cap (fun w=>x.g w) (bU u x.n y)))) (Exists (bI (Rg.fO x.g y=Rg.fO x.g x.n)))) (by kernel_rfl) (by
 delta az bZ aK ah b8 aA aD bE cF aH af bh aC aX bq aW dU gz aI bI bG bL bU dY cM zS aV ay aS o4 aF ag aY mR cV br ga bl bu mO zT dX cQ
 try dsimp -iota -proj only
 intro a h;obtain⟨hn,hs⟩:=h;simp only[Nat.zero_add,Int.toNat_natCast];refine⟨⟨0,by and_intros<;>(first|exact trivial|rfl|omega|assumption|exact ak.refl _ _ _|(simp only[bR];omega)|(simp;done)|(simp;omega)|grind)⟩,fun i hi=>⟨fun h1=>?_,fun h1=>?_⟩⟩
 ·have hi':i<a.n:=by simpa using h1
  have hsz:=hs i hi';refine⟨by omega,hi',⟨0,by and_intros<;>(first|exact trivial|rfl|omega|assumption|exact ak.refl _ _ _|(simp only[bR];omega)|(simp;done)|(simp;omega)|grind)⟩,fun j hj=>⟨fun h2=>?_,fun h2=>?_⟩⟩
  ·have hj':j<(a.g i).size:=by simpa using h2
   refine⟨by omega,_,rfl,trivial,fun _ _=>⟨by simp only[bR,aq]at *;omega,j+1,?_⟩⟩
   and_intros<;>(first|exact trivial|rfl|omega|assumption|exact ak.refl _ _ _|(simp only[bR];omega)|(simp;done)|(simp;omega)|grind)
  ·have hj' : j = (a.g i).size := by have : ¬ j < (a.g i).size := by simpa using h2
                                     omega
   subst hj';refine⟨_,rfl,trivial,fun _ _=>⟨by simp only[bR];omega,i+1,?_⟩⟩
   and_intros<;>(first|exact trivial|rfl|omega|assumption|exact ak.refl _ _ _|(simp only[bR];omega)|(simp;done)|(simp;omega)|grind)
 ·have hi' : i = a.n := by have : ¬ i < a.n := by simpa using h1
                           omega
  subst hi';exact⟨(),rfl,trivial,trivial⟩)
theorem vW:au (Y Tryz.prog).G.X 66 vc:=aU fL zU ⟨yB,trivial⟩
def xU(n i:Int):Int:=qA (RB (n*1000003+i))
noncomputable def Nx:cE where
 α:=Int×Int
 β:=Unit
 m:=0
 m':=0
 pre:=fun a=>0<=a.1/\a.1<=100/\0<=a.2/\a.2<=100
 args:=fun a=>[.a (.int .i64 a.1),.a (.int .i64 a.2)]
 hp:=fun _=>[]
 ro:=fun _=>[]
 post:=fun _ _=>True
 res:=fun a _=>.a (.int .u64 (xU a.1 a.2))
 cZ:=fun _ _=>[]
theorem Q6:fnBody (Y Tryz.prog) [(120,A5)] 190 Nx fun _=>[]:=fnBody.of (p :=
 ∀x:Int×Int,(0:Int)<=x.fst/\x.fst<=(100:Int)/\dS x.snd 100->nS (x.fst*(1000003:Int)) x.snd (∃y:Int,cM (x.fst*(1000003:Int)+x.snd)=y/\cQ (Exists (bI (Rg.qA y=Rg.xU x.fst x.snd))))) (by kernel_rfl) (by
 delta ah dS aI bI cM ay nS bl cQ
 intro a h;obtain⟨h1,h2,h3,h4⟩:=h;simp only[bR];exact⟨by omega,by omega,_,rfl,trivial,fun _ _=>⟨(),rfl,trivial,trivial⟩⟩)
theorem Q7:au (Y Tryz.prog).G.X 190 Nx:=aU fL Q6 ⟨yB,trivial⟩
end Go.Proofs.YtfjgoonelcaggaaGreat.Rg
namespace Go.Proofs
open Go.Shelf
def Tryz.Ny:Go.Shelf.Ren:=⟨fun|6=>191|15=>189|14=>226|28=>224|29=>225|20=>245|21=>246|22=>247|23=>248|24=>249|25=>250|26=>251|27=>252|46=>263|47=>240|48=>241|49=>264|50=>265|57=>278|n=>n,fun|22=>159|24=>208|25=>286|3=>3|39=>108|0=>0|53=>299|55=>64|4=>4|46=>316|45=>315|50=>321|5=>5|9=>9|66=>336|70=>340|76=>354|77=>248|n=>n,fun|n=>n⟩
theorem Tryz.YI:Go.Proofs.SlLaysF0.n6 Tryz.prog Tryz.Ny:={
 mixed:=by kernel_rfl
 f6:=⟨Tryz.f191.name,by decide,Tryz.func191.trans (congrArg some (by kernel_rfl))⟩
 f14:=⟨Tryz.f226.name,by decide,Tryz.func226.trans (congrArg some (by kernel_rfl))⟩
 f15:=Tryz.func189.trans (congrArg some (by kernel_rfl))
 f20:=⟨Tryz.f245.name,by decide,Tryz.func245.trans (congrArg some (by kernel_rfl))⟩
 f21:=⟨Tryz.f246.name,by decide,Tryz.func246.trans (congrArg some (by kernel_rfl))⟩
 f22:=⟨Tryz.f247.name,by decide,Tryz.func247.trans (congrArg some (by kernel_rfl))⟩
 f23:=⟨Tryz.f248.name,by decide,Tryz.func248.trans (congrArg some (by kernel_rfl))⟩
 f24:=⟨Tryz.f249.name,by decide,Tryz.func249.trans (congrArg some (by kernel_rfl))⟩
 f25:=⟨Tryz.f250.name,by decide,Tryz.func250.trans (congrArg some (by kernel_rfl))⟩
 f26:=⟨Tryz.f251.name,by decide,Tryz.func251.trans (congrArg some (by kernel_rfl))⟩
 f27:=⟨Tryz.f252.name,by decide,Tryz.func252.trans (congrArg some (by kernel_rfl))⟩
 f28:=Tryz.func224.trans (congrArg some (by kernel_rfl))
 f29:=Tryz.func225.trans (congrArg some (by kernel_rfl))
 f46:=⟨Tryz.f263.name,by decide,Tryz.func263.trans (congrArg some (by kernel_rfl))⟩
 f47:=Tryz.func240.trans (congrArg some (by kernel_rfl))
 f48:=Tryz.func241.trans (congrArg some (by kernel_rfl))
 f49:=⟨Tryz.f264.name,by decide,Tryz.func264.trans (congrArg some (by kernel_rfl))⟩
 f50:=⟨Tryz.f265.name,by decide,Tryz.func265.trans (congrArg some (by kernel_rfl))⟩
 f57:=⟨Tryz.f278.name,by decide,Tryz.func278.trans (congrArg some (by kernel_rfl))⟩
 t0:=Tryz.underlying0
 a0:=Tryz.isAgg0
 z0:=Tryz.sizeOf0
 v0:=Tryz.zeroValue0
 t3:=Tryz.underlying3
 a3:=Tryz.isAgg3
 z3:=Tryz.sizeOf3
 v3:=Tryz.zeroValue3
 t4:=Tryz.underlying4
 a4:=Tryz.isAgg4
 z4:=Tryz.sizeOf4
 v4:=Tryz.zeroValue4
 t5:=Tryz.underlying5
 a5:=Tryz.isAgg5
 z5:=Tryz.sizeOf5
 v5:=Tryz.zeroValue5
 t9:=Tryz.underlying9
 a9:=Tryz.isAgg9
 z9:=Tryz.sizeOf9
 v9:=Tryz.zeroValue9
 t22:=Tryz.underlying159
 a22:=Tryz.isAgg159
 z22:=Tryz.sizeOf159
 v22:=Tryz.zeroValue159
 t25:=Tryz.underlying286
 a25:=Tryz.isAgg286
 z25:=Tryz.sizeOf286
 v25:=Tryz.zeroValue286
 t39:=Tryz.underlying108
 a39:=Tryz.isAgg108
 z39:=Tryz.sizeOf108
 v39:=Tryz.zeroValue108
 t45:=Tryz.underlying315
 a45:=Tryz.isAgg315
 z45:=Tryz.sizeOf315
 v45:=Tryz.zeroValue315
 t46:=Tryz.underlying316
 a46:=Tryz.isAgg316
 z46:=Tryz.sizeOf316
 v46:=Tryz.zeroValue316
 t50:=Tryz.underlying321
 a50:=Tryz.isAgg321
 z50:=Tryz.sizeOf321
 v50:=Tryz.zeroValue321
 t53:=Tryz.underlying299
 a53:=Tryz.isAgg299
 z53:=Tryz.sizeOf299
 v53:=Tryz.zeroValue299
 t55:=Tryz.underlying64
 a55:=Tryz.isAgg64
 z55:=Tryz.sizeOf64
 v55:=Tryz.zeroValue64
 t66:=Tryz.underlying336
 a66:=Tryz.isAgg336
 z66:=Tryz.sizeOf336
 v66:=Tryz.zeroValue336
 t70:=Tryz.underlying340
 a70:=Tryz.isAgg340
 z70:=Tryz.sizeOf340
 v70:=Tryz.zeroValue340
 t76:=Tryz.underlying354
 a76:=Tryz.isAgg354
 z76:=Tryz.sizeOf354
 v76:=Tryz.zeroValue354
 t77:=Tryz.underlying248
 a77:=Tryz.isAgg248
 z77:=Tryz.sizeOf248
 v77:=Tryz.zeroValue248 }
end Go.Proofs
namespace Go.Proofs.YtfjgoonelcaggaaGreat.Rg
open Go.Shelf Go.RowKit Go.Lib Go.Sort
def lD(x:Int×Int):List Value:=[.int .u64 x.1,.int .i64 x.2]
def nv(x y:Int×Int):Bool:=decide (x.1<y.1)||(decide (x.1=y.1)&&decide (x.2<y.2))
def qL(x y:Int×Int):Int:=if nv x y then -1 else if nv y x then 1 else 0
theorem KQ(x y:Int×Int)(W:World):Calls Tryz.prog 192 #[.agg #[.int .u64 x.1,.int .i64 x.2],.agg #[.int .u64 y.1,.int .i64 y.2]] W fun e w'=>e = .returned (.int .i64 (qL x y))/\∃q os',w'=grow (W.drewN q) os':=by
 go_enter Tryz.func192,Tryz.ntmps192
 go_wp2
 all_goals go_ret
 all_goals first
  |exact⟨by rw[show qL x y = -1 by grind [qL,nv]];rfl,0,_,by rw[alloc_eq_grow,alloc_eq_grow,alloc_eq_grow,alloc_eq_grow,alloc_eq_grow,alloc_eq_grow,grow_grow,grow_grow,grow_grow,grow_grow,grow_grow];rfl⟩
  |exact⟨by rw[show qL x y = -1 by grind [qL,nv]];rfl,0,_,by rw[alloc_eq_grow,alloc_eq_grow,alloc_eq_grow,alloc_eq_grow,grow_grow,grow_grow,grow_grow];rfl⟩
  |exact⟨by rw[show qL x y=1 by grind [qL,nv]];rfl,0,_,by rw[alloc_eq_grow,alloc_eq_grow,alloc_eq_grow,alloc_eq_grow,alloc_eq_grow,alloc_eq_grow,grow_grow,grow_grow,grow_grow,grow_grow,grow_grow];rfl⟩
  |exact⟨by rw[show qL x y=1 by grind [qL,nv]];rfl,0,_,by rw[alloc_eq_grow,alloc_eq_grow,alloc_eq_grow,alloc_eq_grow,grow_grow,grow_grow,grow_grow];rfl⟩
  |exact⟨by rw[show qL x y=0 by grind [qL,nv]];rfl,0,_,by rw[alloc_eq_grow,alloc_eq_grow,alloc_eq_grow,alloc_eq_grow,alloc_eq_grow,alloc_eq_grow,grow_grow,grow_grow,grow_grow,grow_grow,grow_grow];rfl⟩
  |exact⟨by rw[show qL x y=0 by grind [qL,nv]];rfl,0,_,by rw[alloc_eq_grow,alloc_eq_grow,alloc_eq_grow,alloc_eq_grow,grow_grow,grow_grow,grow_grow];rfl⟩
theorem ZU(blk off size:Nat)(w:World):CmpLays Tryz.prog 192 #[] lD 2 qL blk off size w:=fun _ _ _ _ x y=>KQ x y _
theorem WZ(x y:Int×Int):ltOf qL x y=nv x y:=by unfold ltOf;grind [qL,nv]
theorem ZV:SWO (ltOf qL) where
 irrefl x:=by rw[WZ];simp[nv]
 trans x y z h1 h2:=by
  rw[WZ]at *;simp only[nv,Bool.or_eq_true,Bool.and_eq_true,decide_eq_true_eq]at *;omega
 ntrans x y z h1 h2:=by
  rw[WZ]at *;simp only[nv,Bool.or_eq_false_iff,Bool.and_eq_false_iff,decide_eq_false_iff_not]at *;omega
theorem ZW(x y:Int×Int)(h1:ltOf qL x y=false)(h2:ltOf qL y x=false):x=y:=by
 rw[WZ]at h1 h2;cases x;cases y;simp only[nv,Bool.or_eq_false_iff,Bool.and_eq_false_iff,decide_eq_false_iff_not]at h1 h2;simp only[Prod.mk.injEq];omega
theorem YJ(blk off cap:Nat)(d:Array (Int×Int))(w:World)(hH:HoldsK lD 2 w blk off d)(hblk:blk<w.heap.size)(hsz:d.size<4611686018427387904) :
 Calls Tryz.prog 191 #[.slice (some ⟨blk,off,none⟩) d.size cap,.func (.func 192) #[] #[]] w fun e w' =>
  e = .returned (.tuple #[])/\∃n os,w'=sortWorldK lD 2 w blk off n (d.toList.mergeSort fun x y=>!(ltOf qL) y x).toArray os :=
 AnyQ.slices_SortFunc_total Tryz.YI 2 Tryz.isAgg208 Tryz.sizeOf208 lD (fun _=>rfl) (fun x v hv=>by simp[lD]at hv;rcases hv with rfl|rfl<;>rfl) qL ZV 192 #[] blk off cap d w
  (enters_of Tryz.func192 (by kernel_rfl) rfl) (ZU _ _ _ _) hH hblk hsz ZW
end Go.Proofs.YtfjgoonelcaggaaGreat.Rg
namespace Go.Sx
section
open Go.Sort Go.Proofs
def DV{β:Type}[Inhabited β](ty:TypeId)(ks:List CK)(enc:β->List Value)(g:Nat)(srt:List β->List β):cE where
 α:=OV β
 β:=Unit
 m:=1
 m':=1
 pre:=fun a=>a.l.length<100000/\1<=a.l.length
 args:=fun a=>[.a (.slc 0 0 ks.length a.l.length a.cap),.a (.fn g)]
 hp:=fun a=>[(0,.arr ty ks a.l.length (aa enc a.l))]
 ro:=fun _=>[]
 post:=fun _ _=>True
 res:=fun _ _=>.mG []
 cZ:=fun a _=>[(0,.arr ty ks a.l.length (aa enc (srt a.l)))]
theorem FT{l:List Value}{j:Nat}(h:j<l.length):l[j]! = l.getD j undef:=by
 rw[getElem!_pos l j h];simp[List.getD,h]
theorem Q8{β:Type}[Inhabited β]{X:Cx}{f g:Nat}{ty:TypeId}{ks:List CK}{enc:β->List Value}{srt:List β->List β}(hk:∀x,(enc x).length=ks.length)(hk0:0<ks.length)
 (hlen:∀l,(srt l).length=l.length) (hin:∀l x,x∈srt l->x∈l)
 (hcall:∀(blk off cap:Nat) (d:Array β) (w:World),HoldsK enc ks.length w blk off d->blk<w.heap.size->d.size<4611686018427387904 ->
  Calls X.P f #[.slice (some ⟨blk,off,none⟩) d.size cap,.func (.func g) #[] #[]] w fun e w'=>e = .returned (.tuple #[])/\∃n os,w'=sortWorldK enc ks.length w blk off n (srt d.toList).toArray os) :
 l8 X (DV ty ks enc g srt) f:=by
 intro a hpre M ρ w vs hn hh hargs;obtain⟨l,cap⟩:=a;obtain⟨hp1,hp2⟩:=hpre;obtain⟨v,vs',rfl,hv,v2,vs2,rfl,hv2,rfl⟩:=hargs;have hv2':v2 = .func (.func g) #[] #[]:=hv2;subst hv2';obtain⟨hT,hlc,hcm,hv⟩:=hv;have he:=hh.gO ⟨0,true,.arr ty ks l.length (aa enc l)⟩ (by simp[vP,DV]);have hsat:=he.ch;simp only at hsat hlc hcm hv hT hp1 hp2;rcases hsat with⟨h0,_⟩ | ⟨vs0,ty',fr,hb,h1,h2,h3,h4,h5⟩
 ·omega
 have hlt:(ρ.pl 0).blk<w.heap.size:=he.lt _ ((h4 _).2 rfl);rcases hv with⟨g1,_,_⟩ | ⟨o,rfl,ho⟩
 ·omega
 obtain⟨rfl,_⟩:=ho (by omega);simp only[Nat.zero_mul,Nat.add_zero]at *;have hcell:∀t,t<l.length*ks.length->vs0[(ρ.pl 0).off+t]? = some ((enc (gl l (t/ks.length))).getD (t%ks.length) undef):=by
  intro t ht;have hm:t%ks.length<ks.length:=Nat.mod_lt _ hk0;have hi:t/ks.length<l.length:=Nat.div_lt_of_lt_mul (by rw[Nat.mul_comm];exact ht);obtain⟨q,_⟩:=h5 (t/ks.length) hi (t%ks.length) (ks[t%ks.length]) (List.getElem?_eq_getElem hm);have e:(ρ.pl 0).off+t/ks.length*ks.length+t%ks.length=(ρ.pl 0).off+t:=by
   have:=Nat.div_add_mod t ks.length;rw[Nat.mul_comm]at this;omega
  rw[e]at q;exact q
 have hsz0:(ρ.pl 0).off+l.length*ks.length<=vs0.size:=Nat.le_trans (Nat.add_le_add_left (Nat.mul_le_mul_right _ h2) _) h1;have hnk:l.length*ks.length<=(ρ.pl 0).N*ks.length:=Nat.mul_le_mul_right _ h2;have hHolds:HoldsK enc ks.length w (ρ.pl 0).blk (ρ.pl 0).off l.toArray:=by
  intro t ht;have ht':t<l.length*ks.length:=by simpa using ht
  have hm:t%ks.length<ks.length:=Nat.mod_lt _ hk0;have hi:t/ks.length<l.length:=Nat.div_lt_of_lt_mul (by rw[Nat.mul_comm];exact ht');refine⟨?_,?_⟩
  ·simp only[World.cell?,hb];rw[hcell t ht',get_flatK _ _ _ t (by simpa using ht')];have e:(l.toArray)[t/ks.length]! = gl l (t/ks.length):=by rw[getElem!_pos _ _ (by simpa using hi),bT hi];simp
   rw[e,FT (by rw[hk];exact hm)];rfl
  ·simp only[World.frozen?,hb];have:=h3 ((ρ.pl 0).off+t) (by omega) (by omega);obtain⟨lo,hi⟩:=fr;simpa using this
 have hcalls:=hcall (ρ.pl 0).blk (ρ.pl 0).off cap l.toArray w hHolds hlt (by simp;omega);simp only[List.size_toArray]at hcalls;refine hcalls.mono ?_;rintro e w' ⟨rfl,n,os,rfl⟩;refine⟨_,rfl,(),ρ,trivial,hn,fun _ _=>rfl,⟨[],rfl,rfl⟩,?_⟩;obtain⟨F,hF⟩:∃F,F=flatK enc ks.length (srt l).toArray:=⟨_,rfl⟩
 have hFs:F.size=l.length*ks.length:=by rw[hF];simp[hlen]
 have hw:sortWorldK enc ks.length w (ρ.pl 0).blk (ρ.pl 0).off n (srt l).toArray os=grow (putRow id (Sort.ahead w n) (ρ.pl 0).blk (ρ.pl 0).off F) os:=by rw[hF];rfl
 rw[hw];have hheap:∀b,b<w.heap.size->(grow (putRow id (Sort.ahead w n) (ρ.pl 0).blk (ρ.pl 0).off F) os).heap[b]? = (w.heap.modify (ρ.pl 0).blk (onCells (putCells id (ρ.pl 0).off F)))[b]?:=by
  intro b hb';rw[heap_grow_old _ _ (by simpa using hb')];rfl
 have hblk:(grow (putRow id (Sort.ahead w n) (ρ.pl 0).blk (ρ.pl 0).off F) os).heap[(ρ.pl 0).blk]? = some (.cells (putCells id (ρ.pl 0).off F vs0) ty' fr):=by
  rw[hheap _ hlt,Array.getElem?_modify,if_pos rfl,hb];rfl
 have hoth:∀b,b<w.heap.size->b≠(ρ.pl 0).blk->(grow (putRow id (Sort.ahead w n) (ρ.pl 0).blk (ρ.pl 0).off F) os).heap[b]? = w.heap[b]?:=by
  intro b hb' hne;rw[hheap b hb',Array.getElem?_modify,if_neg (fun h=>hne h.symm)]
 refine⟨⟨rfl,rfl,rfl,?_,fun b hb' hm=>?_,fun ad had=>?_⟩,?_,?_⟩
 ·simp
 ·exact hoth b hb' fun e=>hm (he.own rfl b ((h4 b).2 e) hb')
 ·rw[frozen?_grow _ _ _ (by simpa using had),frozen?_putRow,frozen?_ahead]
 ·intro e' he';have:e'=⟨0,true,.arr ty ks l.length (aa enc (srt l))⟩:=by simpa[vP,DV]using he'
  subst this;refine⟨he.tag,?_,fun b hb'=>?_,he.own⟩
  ·refine .inr ⟨_,ty',fr,hblk,?_,h2,?_,h4,fun i hi j kk hj=>?_⟩
   ·simpa[putCells]using h1
   ·simpa using h3
   ·have hjl:j<ks.length:=(List.getElem?_eq_some_iff.1 hj).1;have hi':i<(srt l).length:=by rw[hlen];exact hi
    have hmem:gl (srt l) i∈l:=hin l _ (GD hi');have ht:i*ks.length+j<l.length*ks.length:=by
     have:=Nat.mul_le_mul_right ks.length hi;rw[Nat.succ_mul]at this;omega
    have d1:(i*ks.length+j)/ks.length=i:=by
     rw[Nat.mul_comm,Nat.mul_add_div hk0,Nat.div_eq_of_lt hjl,Nat.add_zero]
    have d2:(i*ks.length+j)%ks.length=j:=by
     rw[Nat.mul_comm,Nat.mul_add_mod,Nat.mod_eq_of_lt hjl]
    refine⟨?_,?_⟩
    ·have hc:=hcell (i*ks.length+j) ht;rw[<- Nat.add_assoc]at hc;simp only[putCells,Array.getElem?_mapIdx,hc,Option.map_some,hFs];rw[if_pos ⟨by omega,by omega⟩,show(ρ.pl 0).off+i*ks.length+j-(ρ.pl 0).off=i*ks.length+j by omega];rw[hF,get_flatK _ _ _ _ (by simpa[hlen]using ht),d1,d2];have e:((srt l).toArray)[i]! = gl (srt l) i:=by rw[getElem!_pos _ _ (by simpa using hi'),bT hi'];simp
     rw[e,FT (by rw[hk];exact hjl)];rfl
    ·obtain⟨i0,hi0,e0⟩:=List.getElem_of_mem hmem;obtain⟨_,g2⟩:=h5 i0 hi0 j kk hj;unfold aa at g2 ⊢;rw[<- e0,<- bT hi0];exact g2
  ·have:=he.lt b hb';simp;omega
 ·simp[vP,DV]
end
end Go.Sx
namespace Go.Proofs.YtfjgoonelcaggaaGreat.Rg
open Go.Sx
def encI(p:Int):List Value:=[.int .i64 p]
def yR(l:List Int)(i:Nat):Bool:=decide (1<=gl l i)&&decide (gl l i<=5)&&(decide (i=0)||decide (gl l (i-1)<gl l i))
def qZ(l:List Int):Nat->Bool
 |0=>true
 |i+1=>qZ l i&&yR l i
def lK(l:List Int):Bool:=qZ l l.length&&decide (0<l.length)
theorem KR{l:List Int}:∀ {i j:Nat},qZ l i=true->j<i->yR l j=true
 |i+1,j,h,hj=>by
  simp only[qZ,Bool.and_eq_true]at h;by_cases e:j=i
  ·subst e;exact h.2
  ·exact KR h.1 (by omega)
theorem Bj{l:List Int}{j:Nat}(h:yR l j=false):∀ {i:Nat},j<i->qZ l i=false
 |i+1,hj=>by
  simp only[qZ,Bool.and_eq_false_iff];by_cases e:j=i
  ·subst e;exact .inr h
  ·exact .inl (Bj h (by omega))
theorem BU{l:List Int}(h:lK l=true){j:Nat}(hj:j<l.length):1<=gl l j/\gl l j<=5/\(j=0\/gl l (j-1)<gl l j):=by
 simp only[lK,Bool.and_eq_true]at h;have:=KR h.1 hj;simpa[yR,and_assoc]using this
theorem KS{l:List Int}(h:lK l=true):0<l.length:=by
 simp only[lK,Bool.and_eq_true,decide_eq_true_eq]at h;exact h.2
theorem DW{l:List Int}(h:lK l=true):∀j,j<l.length->(j:Int)+1<=gl l j
 |0,hj=>by have:=BU h hj;omega
 |j+1,hj=>by
  have h1:=DW h j (by omega);have h2:=BU h hj;simp at h2;omega
theorem DX{l:List Int}(h:lK l=true):l.length<=5:=by
 have h0:=KS h;have h1:=DW h (l.length-1) (by omega);have h2:=BU h (show l.length-1<l.length by omega);omega
structure lM where
 l:List Int
 cap:Nat
noncomputable def Bt:cE where
 α:=lM
 β:=Unit
 m:=1
 m':=1
 pre:=fun a=>a.l.length<100000
 args:=fun a=>[.a (.slc 0 0 1 a.l.length a.cap)]
 hp:=fun _=>[]
 ro:=fun a=>[(0,.arr 3 [.int .i64] a.l.length (aa encI a.l))]
 post:=fun _ _=>True
 res:=fun a _=>.a (.bool (lK a.l))
 cZ:=fun _ _=>[]
def aal(k slot:Nat)(a:lM):An:=.flat k Nat (fun s i=>s.int slot i) (fun _ i=>i<=a.l.length/\qZ a.l i=true) (fun _ i=>a.l.length-i)
def _root_.IN(x:Rg.lM)(y:Prop):=dY (ai x.l) x.cap (bN (bG (ai x.l) x.cap/\ct x.l x.l Rg.encI/\y))
theorem GO:fnBody (Y Tryz.prog) [] 56 Bt fun a=>[(56,[aal 2 7 a],[])]:=fnBody.of (p :=
 ∀x:Rg.lM,ai x.l<100000->(∃y:Nat,aF y (IN x ((y<=ai x.l/\aC (Rg.qZ x.l y))/\True)))/\∀y:Nat,y<=ai x.l/\aC (Rg.qZ x.l y)->gz y (ai x.l) (Am (gl x.l (0+aA y)) 1 (fD (Rg.lK x.l)) 5 (aY 0 y (ah (eu y)/\nW (eu y) (ai x.l) (ah (gl x.l (0+aX (eu y)))->az (cC (gl x.l (0+aA y)) (gl x.l (0+aX (eu y)))) (Exists (fD (Rg.lK x.l))) (dz y fun z=>IN x (ey z (ai x.l) (aC (Rg.qZ x.l z)) y)))) (dz y fun u=>IN x (ey u (ai x.l) (aC (Rg.qZ x.l u)) y)))) (Exists (bI (aH 0 (af (ai x.l))=Rg.lK x.l)))) (by kernel_rfl) (by
 delta az ai aK ah b8 aA aD bE cF aH af aC aX fC bq aW ct iM gz bN bI bG dz ey dY ay aS cC aF ag aY cV fD Am br nW bl bu IN dX eu kG
 try dsimp -iota -proj only
 intro a h;simp only[Nat.zero_add,Int.toNat_natCast,bR];refine⟨⟨0,?_⟩,fun i ⟨i1,i2⟩=>⟨fun c1=>?_,fun c1=>⟨(),?_,trivial,trivial⟩⟩⟩
 ·and_intros<;>first|rfl|trivial|exact Nat.le_refl _|omega|(dsimp only;omega)|exact ak.refl _ _ _
 ·simp only[decide_eq_true_eq]at c1;have hi:i<a.l.length:=by omega
  have hpre:((i:Int)-1).toNat=i-1:=by omega
  rw[hpre];have bad:yR a.l i=false->false=lK a.l:=fun e=>by unfold lK;rw[Bj e hi];rfl
  have good:yR a.l i=true->qZ a.l (i+1)=true:=fun e=>by simp only[qZ,i2,e,Bool.and_self]
  repeat' (first|intro _|apply And.intro|apply Exists.intro (i+1:Nat)|apply Exists.intro ())
  all_goals(try with_reducible rfl)
  all_goals(try exact trivial)
  all_goals(try simp only[decide_eq_true_eq,decide_eq_false_iff_not]at *)
  all_goals(try omega)
  all_goals(try exact ak.refl _ _ _)
  all_goals first
   |exact bad (by simp only[yR,Bool.and_eq_false_iff,Bool.or_eq_false_iff,decide_eq_false_iff_not];omega)
   |exact good (by simp only[yR,Bool.and_eq_true,Bool.or_eq_true,decide_eq_true_eq];omega)
 ·simp only[decide_eq_false_iff_not]at c1;have e:i=a.l.length:=by omega
  subst e;unfold lK;rw[i2];simp)
theorem qS:au (Y Tryz.prog).G.X 56 Bt:=aU fL GO trivial
def IP:List CK:=[.int .u64,.int .i64]
def uq(n:Int)(k:Nat):List (Int×Int):=(List.range k).map fun j:Nat=>(xU n (j:Int),n)
def fV(l:List Int):List (Int×Int):=l.flatMap fun n=>uq n 8
def yS(l:List (Int×Int)):List (Int×Int):=l.mergeSort fun x y=>!(Go.Proofs.ltOf qL) y x
def nw(l:List Int):List (Int×Int):=if lK l then yS (fV l)else[]
noncomputable def IQ:cE:=DV 208 IP lD 192 yS
theorem U2(blk off cap:Nat)(d:Array (Int×Int))(w:World)(hH:Go.Sort.HoldsK lD IP.length w blk off d)(hblk:blk<w.heap.size)(hsz:d.size<4611686018427387904) :
 Calls Tryz.prog 191 #[.slice (some ⟨blk,off,none⟩) d.size cap,.func (.func 192) #[] #[]] w fun e w' =>
  e = .returned (.tuple #[])/\∃n os,w'=Go.Proofs.sortWorldK lD IP.length w blk off n (yS d.toList).toArray os:=YJ blk off cap d w hH hblk hsz
theorem yT(l:List (Int×Int)):(yS l).length=l.length:=List.length_mergeSort _
theorem DY(l:List (Int×Int)):(yS l).Perm l:=List.mergeSort_perm _ _
theorem Q9:l8 (Y Tryz.prog).G.X IQ 191 :=
 Q8 (ks:=IP) (enc:=lD) (g:=192) (srt:=yS) (fun _=>rfl) (by decide) yT (fun l x hx=>(DY l).mem_iff.1 hx) U2
theorem Nz:au (Y Tryz.prog).G.X 191 IQ:=fun _ _ _ h=>vR Q9 h
noncomputable def NA:cE where
 α:=lM
 β:=Nat
 m:=1
 m':=2
 pre:=fun a=>a.l.length<100000
 args:=fun a=>[.a (.slc 0 0 1 a.l.length a.cap)]
 hp:=fun _=>[]
 ro:=fun a=>[(0,.arr 3 [.int .i64] a.l.length (aa encI a.l))]
 post:=fun _ _=>True
 res:=fun a cap=>.a (.slc 1 0 2 (nw a.l).length cap)
 cZ:=fun a _=>[(1,.arr 208 IP (nw a.l).length (aa lD (nw a.l)))]
def ZX(a:lM)(i:Nat):An:=.flat 8 (Nat×Nat) (fun s x=>((s.at_ (s.tg 3) (.arr 208 IP (fV (a.l.take i)++uq (gl a.l i) x.1).length (aa lD (fV (a.l.take i)++uq (gl a.l i) x.1)))).set 3 (.a (.slc (s.tg 3) 0 2 (fV (a.l.take i)++uq (gl a.l i) x.1).length x.2))).int 16 x.1)
 (fun _ x=>x.1<=8) (fun _ x=>8-x.1)
def aam(a:lM):An:=.mk 5 (Nat×Nat) (fun s x=>((s.new (.arr 208 IP (fV (a.l.take x.1)).length (aa lD (fV (a.l.take x.1))))).set 3 (.a (.slc s.nx 0 2 (fV (a.l.take x.1)).length x.2))).int 12 x.1)
 (fun _ x=>x.1<=a.l.length) (fun _ x=>a.l.length-x.1) fun x=>.mk 60 [ZX a x.1] []
theorem Ra(n:Int)(k:Nat):uq n (k+1)=uq n k++[(xU n k,n)]:=by
 unfold uq;rw[List.range_succ,List.map_append];rfl
theorem Bk(n:Int)(k:Nat):(uq n k).length=k:=by simp[uq]
theorem KT{l:List Int}{i:Nat}(h:i<l.length):fV (l.take (i+1))=fV (l.take i)++uq (gl l i) 8:=by
 unfold fV;rw[gD h,List.flatMap_append];simp
theorem ov:∀l:List Int,(fV l).length=8*l.length
 |[]=>rfl
 |a::l=>by
  have:=ov l;unfold fV at *;rw[List.flatMap_cons,List.length_append,Bk,this,List.length_cons];omega
def _root_.pH(x:Nat×Nat)(y:Rg.lM):List (Int×Int):=Rg.fV (List.take x.fst y.l)
def _root_.oc(x:Nat×Nat)(y:Rg.lM)(z:Nat×Nat):List (Int×Int):=pH x y++Rg.uq (gl y.l x.fst) z.fst
def _root_.cD(x:List (Int×Int)):Nat:=x.length
def _root_.tJ(y:List Int)(z:Nat)(u:Rg.lM->Prop):Rg.lM->Prop:=fun(x:Rg.lM)=>mS y x.l z x.cap Rg.encI (ai x.l<100000) (u x)
def _root_.DZ(y x:Rg.lM)(z u:Prop):=bE (bg (Rg.lK y.l)) (bG (ai x.l) x.cap/\z/\ct x.l x.l Rg.encI/\u)
def _root_.IS(x y z:List (Int×Int)):=aK (cD x) (cD y) 2 (aa Rg.lD z) (aa Rg.lD x)
theorem Rb:fnBody (Y Tryz.prog) [(56,Bt),(190,Nx),(191,IQ)] 152 NA fun a=>[(152,[aam a],[])]:=fnBody.of (p :=
 ∀x:Rg.lM,ai x.l<100000->Exists (tJ x.l x.cap fun w=>aI (az (bg (Rg.lK w.l)) (Exists (zx (cD (Rg.nw x.l)))) ((∃y:Nat×Nat,aF y.fst ((0=cD (pH y x)/\0=y.snd)/\dY (ai x.l) x.cap (DZ w x (cD (pH y x)=0) (y.fst<=ai x.l/\True))))/\∀y:Nat×Nat,ga y.fst (ai x.l) (ah (gl x.l (0+aA y.fst))->(∃z:Nat×Nat,aF z.fst (ag (cD (pH y x)=cD (oc y x z)/\y.snd=z.snd)/\aD (gl x.l (0+aA y.fst))/\o4 y.fst (ai x.l) (bG (ai x.l) x.cap) (DZ w x (IS (oc y x z) (pH y x) (pH y x)) (z.fst<=8/\True))))/\∀z:Nat×Nat,z.fst<=8->az (aH (af z.fst) 8) (∃u:Int×Int,gl x.l (0+aA y.fst)=u.fst/\af z.fst=u.snd/\((0:Int)<=u.fst/\u.fst<=(100:Int)/\dS u.snd 100)/\aI (gG (cD (oc y x z)) 16 z.snd fun t=>iB z fun s=>ag (cD (oc y x z)+1=cD (oc y x s)/\t=s.snd)/\aD (gl x.l (0+aA y.fst))/\o4 y.fst (ai x.l) (bG (ai x.l) x.cap) (DZ w x (lU (cD (oc y x s)) (cD (oc y x z)) 2 (aa Rg.lD (oc y x z)) (bV (Value.int .u64 (Rg.xU u.fst u.snd)) (bx (gl x.l (0+aA y.fst)) [])) (aa Rg.lD (oc y x s))) (bU s.fst 8 z.fst)))) (iB y fun u=>ag (cD (oc y x z)=cD (pH u x)/\z.snd=u.snd)/\dY (ai x.l) x.cap (DZ w x (IS (pH u x) (oc y x z) (oc y x z)) (bU u.fst (ai x.l) y.fst)))) (∃(v:OV (Int×Int)),iC (cD (pH y x)) (cD v.l) y.snd v.cap 2 (aa Rg.lD (pH y x)) (aa Rg.lD v.l) (cD v.l<100000 /\
 1<=cD v.l) (aI (∃z:Nat,ag (cD (pH y x)=cD (Rg.nw x.l)/\y.snd=z)/\bl (IS (Rg.nw x.l) v.l (Rg.yS v.l))))))))) (by kernel_rfl) (by
 delta az ai bZ aK ah bx b8 aA aD bE gK cF aH af aC dV aX bq bV aW ct gz dS aI bG lU gG bU dY iB oc mS cD aS iC o4 aF ag aY cV pH br cT bg ga tJ bl bu DZ dX zx IS jR
 try dsimp -iota -proj only
 intro a h;refine⟨⟨a.l,a.cap⟩,?_⟩
 and_intros<;>first|rfl|trivial|exact Nat.le_refl _|omega|(dsimp only;omega)|exact ak.refl _ _ _|skip
 refine fun _ _=>⟨fun c0=>⟨0,?_⟩,fun c0=>?_⟩
 ·have e:nw a.l=[]:=if_neg (by simpa using c0);rw[e]
  and_intros<;>first|rfl|trivial|exact Nat.le_refl _|omega|(dsimp only;omega)|exact ak.refl _ _ _
 have hm:lK a.l=true:=by simpa using c0
 have hl:=DX hm;have hl0:=KS hm;have e:nw a.l=yS (fV a.l):=if_pos hm;simp only[Nat.zero_add,Int.toNat_natCast,bR];refine⟨⟨(0,0),?_⟩,fun x hx=>⟨fun c1=>?_,fun c1=>?_⟩⟩
 ·have e0:fV (a.l.take 0)=[]:=rfl;dsimp only;rw[e0]
  and_intros<;>first|rfl|trivial|exact Nat.le_refl _|omega|(dsimp only;omega)|exact ak.refl _ _ _
 ·obtain⟨i,cap⟩:=x;dsimp only at c1 hx ⊢;simp only[decide_eq_true_eq]at c1;have hi:i<a.l.length:=by omega
  have hb:=BU hm hi;have hr:=ov (a.l.take i);rw[List.length_take]at hr;refine⟨by omega,by omega,fun _=>⟨⟨(0,cap),?_⟩,fun y hy=>⟨fun c2=>?_,fun c2=>?_⟩⟩⟩
  ·have e0:fV (a.l.take i)++uq (gl a.l i) 0=fV (a.l.take i):=List.append_nil _;dsimp only;rw[e0]
   and_intros<;>first|rfl|trivial|exact Nat.le_refl _|omega|(dsimp only;omega)|exact ak.refl _ _ _
  ·obtain⟨k,c⟩:=y;dsimp only at c2 hy ⊢;simp only[decide_eq_true_eq]at c2;have hk:k<8:=by omega
   have hn:(fV (a.l.take i)++uq (gl a.l i) k).length=8*min i a.l.length+k:=by rw[List.length_append,Bk,hr]
   have hs:fV (a.l.take i)++uq (gl a.l i) (k+1)=(fV (a.l.take i)++uq (gl a.l i) k)++[(xU (gl a.l i) k,gl a.l i)]:=by rw[Ra,List.append_assoc]
   have hn1:((fV (a.l.take i)++uq (gl a.l i) k)++[(xU (gl a.l i) k,gl a.l i)]).length=(fV (a.l.take i)++uq (gl a.l i) k).length+1:=List.length_append;refine⟨(gl a.l i,(k:Int)),rfl,rfl,⟨by omega,by omega,by omega,by omega⟩,fun _ _=>⟨by omega,by omega,by omega,fun c3 _ _ _=>⟨by omega,⟨(k+1,c3),?_⟩⟩⟩⟩;dsimp only;rw[hs,hn1]
   and_intros<;>first|rfl|trivial|exact Nat.le_refl _|omega|(dsimp only;omega)|exact ak.refl _ _ _|exact .push rfl (by omega) rfl
  ·obtain⟨k,c⟩:=y;dsimp only at c2 hy ⊢;simp only[decide_eq_false_iff_not]at c2;have hk:k=8:=by omega
   subst hk;have hs:=KT hi;refine⟨by omega,⟨(i+1,c),?_⟩⟩;dsimp only;rw[hs]
   and_intros<;>first|rfl|trivial|exact Nat.le_refl _|omega|(dsimp only;omega)|exact ak.refl _ _ _
 ·obtain⟨i,cap⟩:=x;dsimp only at c1 hx ⊢;simp only[decide_eq_false_iff_not]at c1;have hi:i=a.l.length:=by omega
  subst hi;have hr:=ov a.l;have hsl:=yT (fV a.l);rw[List.take_length,e];refine⟨⟨fV a.l,cap⟩,?_⟩
  and_intros<;>first|rfl|trivial|exact Nat.le_refl _|omega|(dsimp only;omega)|exact ak.refl _ _ _|skip
  refine fun _ _=>⟨cap,?_⟩
  and_intros<;>first|rfl|trivial|exact Nat.le_refl _|omega|(dsimp only;omega)|exact ak.refl _ _ _)
theorem Rc:au (Y Tryz.prog).G.X 152 NA:=aU fL Rb ⟨qS,Q7,Nz,trivial⟩
theorem U3{n:Int}{k:Nat}{e:Int×Int}(h:e∈uq n k):e.2=n:=by
 obtain⟨j,_,rfl⟩:=List.mem_map.1 h;rfl
theorem U4{l:List Int}(h:lK l=true):nw l=yS (fV l):=if_pos h
theorem D3{l:List Int}(h:lK l=true):(nw l).Perm (fV l):=by rw[U4 h];exact DY _
theorem IT{l:List Int}(h:lK l=true):(nw l).length=8*l.length:=by rw[(D3 h).length_eq,ov]
theorem U5{n:Int}(h1:1<=n)(h2:n<=5):lK [n]=true:=by simp[lK,qZ,yR,gl,h1,h2]
def xV(L:List (Int×Int))(h:Int):Int:=match L.find? (fun e=>decide (h<=e.1))with|some e=>e.2|none=>(gl L 0).2
theorem Re{α:Type}{p:α->Bool}{L:List α}{k:Nat}{x:α}(h:(L.take k).find? p=some x):L.find? p=some x:=by
 rw[<- List.take_append_drop k L,List.find?_append,h];rfl
theorem U6{L:List (Int×Int)}{h:Int}{i:Nat}(hi:i<L.length)(h1:(L.take i).find? (fun e=>decide (h<=e.1))=none)(h2:h<=(gl L i).1):xV L h=(gl L i).2:=by
 have:L.find? (fun e=>decide (h<=e.1))=some (gl L i):=by
  refine Re (k:=i+1) ?_;rw[gD hi,List.find?_append,h1];simp[h2]
 unfold xV;rw[this]
theorem Rf{L:List (Int×Int)}{h:Int}(h1:L.find? (fun e=>decide (h<=e.1))=none):xV L h=(gl L 0).2:=by
 unfold xV;rw[h1]
theorem zV{L:List (Int×Int)}{h:Int}{i:Nat}(hi:i<L.length)(h1:(L.take i).find? (fun e=>decide (h<=e.1))=none)(h2:¬h<=(gl L i).1):(L.take (i+1)).find? (fun e=>decide (h<=e.1))=none:=by
 rw[gD hi,List.find?_append,h1];simp[h2]
structure ef where
 e:Int
 l:List Int
 c1:Nat
 L:List (Int×Int)
 c2:Nat
def NB(a:ef):List (Nat×Chunk):=[(0,.obj 161 [.int .i64 a.e,.slc 1 0 1 a.l.length a.c1,.slc 2 0 2 a.L.length a.c2]),(1,.arr 3 [.int .i64] a.l.length (aa encI a.l)),(2,.arr 208 IP a.L.length (aa lD a.L))]
structure D4 where
 r:ef
 h:Int
noncomputable def NC:cE where
 α:=D4
 β:=Unit
 m:=3
 m':=3
 pre:=fun a=>a.r.L.length<100000/\0<a.r.L.length
 args:=fun a=>[.a (.ptr 0 0 0 0),.a (.int .u64 a.h)]
 hp:=fun _=>[]
 ro:=fun a=>NB a.r
 post:=fun _ _=>True
 res:=fun a _=>.a (.int .i64 (xV a.r.L a.h))
 cZ:=fun _ _=>[]
def YK(a:D4):An:=.flat 4 Nat (fun s i=>s.int 14 i) (fun _ i=>i<=a.r.L.length/\(a.r.L.take i).find? (fun e=>decide (a.h<=e.1))=none) (fun _ i=>a.r.L.length-i)
def _root_.od(y:List Int)(x:Rg.ef)(u:Nat)(z:List (Int×Int))(v:Nat)(w:Prop):=cT y x.l u x.c1/\dL (cD z) (cD x.L) v x.c2 (ct x.l y Rg.encI) 2 (aa Rg.lD z) (aa Rg.lD x.L) w
def _root_.oO(x y:Rg.ef)(z u:Prop):=x.e=y.e/\od x.l y x.c1 x.L x.c2 (z/\u)
def _root_.IU(y:Nat)(x:Rg.D4):=y<=cD x.r.L/\List.find? (fun z=>cC x.h z.fst) (List.take y x.r.L)=none
theorem Rh:fnBody (Y Tryz.prog) [] 78 NC fun a=>[(78,[YK a],[])]:=fnBody.of (p :=
 ∀x:Rg.D4,cD x.r.L<100000/\0<cD x.r.L->(∃y:Nat,aF y (dY (cD x.r.L) x.r.c2 (mQ (aD x.h/\oO x.r x.r (IU y x) True))))/\∀y:Nat,IU y x->gz y (cD x.r.L) (bR .u64 (gl x.r.L (0+aA y)).fst->az (cC x.h (gl x.r.L (0+aA y)).fst) (u6 (gl x.r.L (0+aA y)).snd (Rg.xV x.r.L x.h)) (dz y fun z=>dY (cD x.r.L) x.r.c2 (mQ (aD x.h/\oO x.r x.r (IU z x) (cD x.r.L-z<cD x.r.L-y))))) (cV 0 (cD x.r.L) 0 (u6 (gl x.r.L 0).snd (Rg.xV x.r.L x.h)))) (by kernel_rfl) (by
 delta az oO ai aK ah b8 aA aD bE cF aH af aC aX bq aW ct gz bN bI bG dz dL dY cD aV ay aS cC aF ag aY cV br cT IU bl bu u6 dX od mQ
 try dsimp -iota -proj only
 rintro⟨⟨e,l,c1,L,c2⟩,h⟩ ⟨h1,h2⟩;dsimp only at h1 h2 ⊢;simp only[Nat.zero_add,Int.toNat_natCast,bR];refine⟨⟨0,?_⟩,fun i ⟨i1,i2⟩=>⟨fun d1=>?_,fun d1=>?_⟩⟩
 ·(and_intros<;>first|exact wm|skip)
 ·simp only[decide_eq_true_eq]at d1;have hi:i<L.length:=by omega
  refine⟨by omega,hi,fun _=>⟨fun d2 _=>⟨(),?_,trivial,trivial⟩,fun d2=>⟨by omega,i+1,?_⟩⟩⟩
  ·simp only[decide_eq_true_eq]at d2;exact(U6 hi i2 d2).symm
  ·simp only[decide_eq_false_iff_not]at d2;have:=zV hi i2 d2
   (and_intros<;>first|exact wm|skip)
 ·simp only[decide_eq_false_iff_not]at d1;have hi:i=L.length:=by omega
  subst hi;rw[List.take_length]at i2;refine⟨by omega,h2,fun _=>⟨(),(Rf i2).symm,trivial,trivial⟩⟩)
theorem Ri:au (Y Tryz.prog).G.X 78 NC:=aU fL Rh trivial
structure ND where
 r:ef
 key:ByteArray
noncomputable def W0:cE where
 α:=ND
 β:=Unit
 m:=3
 m':=3
 pre:=fun a=>a.r.L.length<100000/\0<a.r.L.length/\a.key.size<=aq
 args:=fun a=>[.a (.ptr 0 0 0 0),.a (.str a.key)]
 hp:=fun _=>[]
 ro:=fun a=>NB a.r
 post:=fun _ _=>True
 res:=fun a _=>.a (.int .i64 (xV a.r.L (fO (fun _=>a.key) 1)))
 cZ:=fun _ _=>[]
def _root_.rQ(x:Rg.ND):Int:=Rg.xV x.r.L (Rg.fO (fun y=>x.key) 1)
def _root_.rR(x:Rg.ef)(y:Prop):=cD x.L<100000/\0<cD x.L/\y
theorem NF:fnBody (Y Tryz.prog) [(66,vc),(78,NC)] 44 W0 fun _=>[]:=fnBody.of (p :=
 ∀z:Rg.ND,rR z.r (bh z.key<=aq)->∃y:Rg.Qk,iC 1 y.n 1 y.cap 1 (aO 1 (bD (bL z.key))) (fun x u=>bL (y.g x)) (y.n<100000/\∀x:Nat,x<y.n->bh (y.g x)<=aq) (aI (∃x:Rg.D4,ag (Rg.fO y.g y.n=x.h/\oO z.r x.r (cD x.r.L<100000/\0<cD x.r.L) (aI (Exists (bI (Rg.xV x.r.L x.h=rQ z)))))))) (by kernel_rfl) (by
 delta oO ai aK bh bD bV ct aI bI dL bL cD ay iC ag rQ cT bl rR od
 try dsimp -iota -proj only
 rintro⟨⟨e,l,c1,L,c2⟩,key⟩ ⟨h1,h2,h3⟩;dsimp only at h1 h2 h3 ⊢;have hr:ak 1 1 (aO 1 [Go.Value.string key]) (fun(i x:Nat)=>Go.Value.string key):=.eo fun i hi=>by
  have:i=0:=by omega
  subst this;rfl
 refine⟨⟨fun _=>key,1,1⟩,?_⟩
 (and_intros<;>first|exact wm|skip)
 refine fun _ _=>⟨⟨⟨e,l,c1,L,c2⟩,fO (fun _=>key) 1⟩,?_⟩
 (and_intros<;>first|exact wm|skip)
 exact fun _ _=>⟨(),rfl,trivial,trivial⟩)
theorem D5:au (Y Tryz.prog).G.X 44 W0:=aU fL NF ⟨vW,Ri,trivial⟩
noncomputable def NG:cE where
 α:=lM
 β:=Nat
 m:=1
 m':=2
 pre:=fun a=>a.l.length<100000
 args:=fun a=>[.a (.slc 0 0 1 a.l.length a.cap)]
 hp:=fun _=>[]
 ro:=fun a=>[(0,.arr 3 [.int .i64] a.l.length (aa encI a.l))]
 post:=fun _ _=>True
 res:=fun a cap=>.a (.slc 1 0 1 a.l.length cap)
 cZ:=fun a _=>[(1,.arr 3 [.int .i64] a.l.length (aa encI a.l))]
theorem Rj:fnBody (Y Tryz.prog) [] 151 NG fun _=>[]:=fnBody.of (p :=
 ∀x:Rg.lM,ai x.l<100000->zN x.l (Exists (zx (ai x.l))) (gK 0 (ai x.l) 8 0 fun y=>∃z:Nat,iC (0+ai x.l) (ai x.l) y z 1 (uO (rG Rg.encI x.l)) (aa Rg.encI x.l) True True)) (by kernel_rfl) (by
 delta az ai aK gK aC aW iC ag bl mT rG zx zN uO
 try dsimp -iota -proj only
 rintro⟨l,cap⟩ h;dsimp only at h ⊢;have hr:ak l.length 1 (aZ (aO 1 []) 0 0 fun(i j:Nat)=>aa encI l (0+i) j) (aa encI l):=by
  have:=ak.app (enc:=encI) (n:=l.length) (m:=1) (s:=0) (l:=[]) (q:=l) (r0:=aO 1 []) (r1:=fun(i j:Nat)=>aa encI l (0+i) j) (k:=0) rfl .zero (.of_eq (by funext i j;rw[Nat.zero_add]));simpa using this
 refine fun b hb=>⟨fun hc=>⟨0,?_⟩,fun _=>?_⟩
 ·have h0:=hb hc
  (and_intros<;>first|exact wm|skip)
 ·(and_intros<;>first|exact wm|skip)
  refine fun c _ _ _=>⟨c,?_⟩
  (and_intros<;>first|exact wm|skip))
theorem Rk:au (Y Tryz.prog).G.X 151 NG:=aU fL Rj trivial
structure W1 where
 l:List Int
 cap:Nat
 n:Int
noncomputable def YL:cE where
 α:=W1
 β:=Unit
 m:=1
 m':=1
 pre:=fun a=>a.l.length<100000
 args:=fun a=>[.a (.slc 0 0 1 a.l.length a.cap),.a (.int .i64 a.n)]
 hp:=fun _=>[]
 ro:=fun a=>[(0,.arr 3 [.int .i64] a.l.length (aa encI a.l))]
 post:=fun _ _=>True
 res:=fun a _=>.a (.bool (decide (a.n∈a.l)))
 cZ:=fun _ _=>[]
def YM(a:W1):An:=.flat 2 Nat (fun s i=>s.int 8 i) (fun _ i=>i<=a.l.length/\a.n∉a.l.take i) (fun _ i=>a.l.length-i)
theorem IV:fnBody (Y Tryz.prog) [] 91 YL fun a=>[(138,[YM a],[])]:=fnBody.of (p :=
 ∀x:Rg.W1,ai x.l<100000->(∃y:Nat,aF y (vl (ai x.l) x.cap (aD x.n/\ct x.l x.l Rg.encI/\(y<=ai x.l/\¬x.n∈List.take y x.l)/\True)))/\∀y:Nat,y<=ai x.l/\¬x.n∈List.take y x.l->gz y (ai x.l) (ah (gl x.l (0+aA y))->az (x.n == gl x.l (0+aA y)) (Exists (bI (cC 0 (af y)=decide (x.n∈x.l)))) (dz y fun z=>vl (ai x.l) x.cap (aD x.n/\ct x.l x.l Rg.encI/\ey z (ai x.l) (¬x.n∈List.take z x.l) y))) (Exists (fD (decide (x.n∈x.l))))) (by kernel_rfl) (by
 delta az ai bZ aK ah b8 aA aD cF aH af aC aX fC bq aW ct gz bI bG dz ey ay aS cC aF ag aY cV fD br bl dX vl
 try dsimp -iota -proj only
 rintro⟨l,cap,n⟩ h;dsimp only at *;simp only[Nat.zero_add,Int.toNat_natCast,bR];refine⟨⟨0,?_⟩,fun i ⟨i1,i2⟩=>⟨fun c1=>?_,fun c1=>⟨(),?_,trivial,trivial⟩⟩⟩
 ·and_intros<;>first|rfl|trivial|exact Nat.le_refl _|omega|(dsimp only;omega)|exact ak.refl _ _ _|simp
 ·simp only[decide_eq_true_eq]at c1;have hi:i<l.length:=by omega
  refine⟨by omega,hi,fun _=>⟨fun c2=>⟨(),?_,trivial,trivial⟩,fun c2=>⟨by omega,i+1,?_⟩⟩⟩
  ·simp only[beq_iff_eq]at c2;have:n∈l:=by rw[c2];exact GD hi
   simp[this]
  ·simp only[beq_eq_false_iff_ne]at c2;have:n∉l.take (i+1):=by
    rw[gD hi,List.mem_append,List.mem_singleton];rintro(h|h)
    ·exact i2 h
    ·exact c2 h
   and_intros<;>first|rfl|trivial|exact Nat.le_refl _|omega|(dsimp only;omega)|exact ak.refl _ _ _|exact this
 ·simp only[decide_eq_false_iff_not]at c1;have e:i=l.length:=by omega
  subst e;rw[List.take_length]at i2;simp[i2])
theorem IW:au (Y Tryz.prog).G.X 91 YL:=aU fL IV trivial
structure O5 where
 r:ef
 n:Int
noncomputable def U7:cE where
 α:=O5
 β:=Unit
 m:=3
 m':=3
 pre:=fun a=>a.r.l.length<100000
 args:=fun a=>[.a (.ptr 0 0 0 0),.a (.int .i64 a.n)]
 hp:=fun _=>[]
 ro:=fun a=>NB a.r
 post:=fun _ _=>True
 res:=fun a _=>.a (.bool (decide (a.n∈a.r.l)))
 cZ:=fun _ _=>[]
theorem U8:fnBody (Y Tryz.prog) [(91,YL)] 50 U7 fun _=>[]:=fnBody.of (p :=
 ∀x:Rg.O5,ai x.r.l<100000->∃y:Rg.W1,cT x.r.l y.l x.r.c1 y.cap/\x.n=y.n/\ct y.l x.r.l Rg.encI/\ai y.l<100000/\aI (Exists (bI (decide (y.n∈y.l)=decide (x.n∈x.r.l))))) (by kernel_rfl) (by
 delta ai aK ct aI bI ay ag cT bl
 try dsimp -iota -proj only
 rintro⟨⟨e,l,c1,L,c2⟩,n⟩ h;dsimp only at h ⊢;refine⟨⟨l,c1,n⟩,?_⟩
 (and_intros<;>first|exact wm|skip)
 exact fun _ _=>⟨(),rfl,trivial,trivial⟩)
theorem U9:au (Y Tryz.prog).G.X 50 U7:=aU fL U8 ⟨IW,trivial⟩
def OW(a e:Int×Int):Int×Int:=if a.2=0\/e.1<a.1\/e.1=a.1/\e.2<a.2 then e else a
end Go.Proofs.YtfjgoonelcaggaaGreat.Rg
namespace Go.Proofs.YtfjgoonelcaggaaGreat
open Go.Sx
structure InA where
 g:Int
 n:Nat
 cap:Nat
 rows:Nat->Nat->Value
noncomputable def cIn:cE where
 α:=InA
 β:=Unit
 m:=1
 m':=1
 pre:=fun a=>a.n<=1000/\∀i,i<a.n->0<=jP (a.rows i 0)/\jP (a.rows i 0)<=a.g
 args:=fun a=>[.a (.int .i64 a.g),.a (.slc 0 0 1 a.n a.cap)]
 hp:=fun _=>[]
 ro:=fun a=>[(0,.arr 2 [.int .i64] a.n a.rows)]
 post:=fun _ _=>True
 res:=fun _ _=>.a .tt
 cZ:=fun _ _=>[]
def iIn(a:InA):An:=.flat 2 Nat (fun s i=>s.int 9 i) (fun _ i=>i<=a.n) (fun _ i=>a.n-i)
def D6:=Exists (ay (bE true (True/\True)))
theorem YN:fnBody (Y Tryz.prog) [] 95 cIn fun a=>[(95,[iIn a],[])]:=fnBody.of (p :=
 ∀x:InA,(x.n<=1000/\∀z:Nat,z<x.n->dS (jP (x.rows z 0)) x.g)->(∃y:Nat,aF y (dY x.n x.cap (bN (aD x.g/\bG x.n x.cap/\dU x.n 1 x.rows/\y<=x.n/\True))))/\∀y:Nat,ga y x.n (Am (jP (x.rows (0+aA y) 0)) 0 (bI (aC false)) x.g (dz y fun u=>dY x.n x.cap (bN (aD x.g/\bG x.n x.cap/\dU x.n 1 x.rows/\bU u x.n y)))) D6) (by kernel_rfl) (by
 delta az aK ah b8 aA aD bE cF aH af aC aX bq aW dU iM gz dS bN bI bG dz bU dY ay aS aF ag aY cV Am br ga bl bu dX kG D6
 try dsimp -iota -proj only
 rintro⟨g,n,cap,rows⟩ ⟨h1,h2⟩;dsimp only at h1 h2 ⊢;simp only[Nat.zero_add,Int.toNat_natCast,bR];refine⟨⟨0,?_⟩,fun i hi=>⟨fun c1=>?_,fun _=>⟨(),trivial,trivial,trivial⟩⟩⟩
 ·(and_intros<;>first|exact wm|skip)
 ·simp only[decide_eq_true_eq]at c1;have hi:i<n:=by omega
  obtain⟨g1,g2⟩:=h2 i hi;refine⟨by omega,hi,fun _=>⟨fun g=>(by exfalso;simp only[decide_eq_true_eq]at g;omega),fun _=>⟨fun g=>(by exfalso;simp only[decide_eq_true_eq]at g;omega),fun _=>⟨by omega,i+1,?_⟩⟩⟩⟩
  (and_intros<;>first|exact wm|skip))
theorem YO:au (Y Tryz.prog).G.X 95 cIn:=aU fL YN trivial
def ZY(m:gi)(mem:A):List A:=[.int .i64 m.kind,.int .i64 m.ob,.int .i64 m.to,.int .i64 m.aQ,.int .i64 m.tick,.int .i64 m.seq,.int .i64 m.n,.int .i64 m.id,.int .i64 m.op,.str m.key,.int .i64 m.err,.bool m.last,.str m.item.key,.str m.item.val,.int .i64 m.item.e,.bool m.item.gone,.bS,.bS,mem,.int .i64 m.base,.bS]
def FU(n:Int):Prop:=0<=n/\n<=1099511627776
structure D7(m:gi):Prop where
 kind:1<=m.kind/\m.kind<=14
 ft:m.ob≠m.to
 ob:0<=m.ob/\m.ob<=5
 to:0<=m.to/\m.to<=5
 aQ:FU m.aQ
 tick:FU m.tick
 seq:FU m.seq
 id:FU m.id
 base:FU m.base
 n:0<=m.n/\m.n<=1073741824
 op:0<=m.op/\m.op<=2
 err:0<=m.err/\m.err<=10
 item:m.item=fR\/gf m.item=true
structure Bl where
 m:gi
 l:List Int
 cap:Nat
noncomputable def O6:cE where
 α:=Bl
 β:=Unit
 m:=1
 m':=1
 pre:=fun a=>D7 a.m/\(a.l=[]\/Rg.lK a.l=true)
 args:=fun a=>[.agg (ZY a.m (.slc 0 0 1 a.l.length a.cap))]
 hp:=fun _=>[]
 ro:=fun a=>[(0,.arr 3 [.int .i64] a.l.length (aa Rg.encI a.l))]
 post:=fun _ _=>True
 res:=fun a _=>.a (.bool (decide (a.m.key.size<=40)))
 cZ:=fun _ _=>[]
def lP(x:ByteArray):Bool:=decide (bh x<=40)
def oe(x:ByteArray):Unit->Prop:=fD (lP x)
def AB(u v:Int)(y:Nat)(w:Int)(s:List Value)(t:Prop):=ah u->∃x:InA,v=x.g/\iC y x.n y x.cap 1 (aO 1 (bx w s)) x.rows (x.n<=1000/\∀z:Nat,z<x.n->dS (jP (x.rows z 0)) x.g) (aI t)
def NH(x:Bl):=az (af (ai x.l) == (0:Int)) (mg (lP x.m.key)) (Exists (tJ x.l x.cap fun y=>aI (az (Rg.lK y.l) (mg (lP x.m.key)) (Exists (oe x.m.key)))))
def AE(x:Bl):=D7 x.m/\(x.l=[]\/aC (Rg.lK x.l))
theorem Va:fnBody (Y Tryz.prog) [(95,cIn),(96,Bt),(56,Rg.Bt)] 55 O6 fun _=>[]:=fnBody.of (p :=
 ∀x:Bl,AE x->rA x.m.kind 1 (Exists (oe x.m.key)) (Al (aH 14 x.m.kind) (Exists (oe x.m.key)) x.m.ob x.m.to (x.m.ob == x.m.to) (ah x.m.ob->AB x.m.to 5 2 x.m.ob (bx x.m.to []) (ah x.m.aQ->ah x.m.tick->ah x.m.seq->ah x.m.id->AB x.m.base 1099511627776 5 x.m.aQ (bx x.m.tick (bx x.m.seq (bx x.m.id (bx x.m.base [])))) (AB x.m.n 1073741824 1 x.m.n [] (AB x.m.op 2 1 x.m.op [] (aY 40 (bh x.m.key) (Exists (oe x.m.key)) (AB x.m.err 10 1 x.m.err [] (az (iA x.m.item.key cO&&(iA x.m.item.val cO&&(x.m.item.e == (0:Int)&&(x.m.item.gone == false&&true)))) (NH x) (∃y:aB,qs x.m.item y (cQ (az (gf y) (NH x) (Exists (oe x.m.key)))))))))))))) (by kernel_rfl) (by
 delta az ai aK ah bx cO aH af bh aC dV fC bV aW ct dS aI bI qs oe AB mS Al ay iC ag aY lP fD NH cT tJ bl iA cQ rA mg AE
 try dsimp -iota -proj only
 rintro⟨m,l,cap⟩ ⟨ok,hl⟩;obtain⟨⟨q0,q1⟩,ft,⟨f0,f1⟩,⟨t0,t1⟩,⟨e0,e1⟩,⟨i0,i1⟩,⟨s0,s1⟩,⟨d0,d1⟩,⟨b0,b1⟩,⟨n0,n1⟩,⟨p0,p1⟩,⟨r0,r1⟩,hit⟩:=ok;dsimp only at *;simp only[bR,decide_eq_true_eq,decide_eq_false_iff_not,beq_iff_eq];refine fun _=>⟨fun c=>absurd c (by omega),fun _ _=>⟨fun c=>absurd c (by omega),fun _ _ _=>⟨fun c=>absurd c ft,fun _ _ _=>⟨⟨5,2,2,aO 1 [.int .i64 m.ob,.int .i64 m.to]⟩,?_⟩⟩⟩⟩
 (and_intros<;>first|exact wm|skip)
 ·intro i hi
  match i,(show i<2 from hi)with
  |0,_=>exact⟨f0,f1⟩
  |1,_=>exact⟨t0,t1⟩
 refine fun _ _ _ _ _ _ _=>⟨⟨1099511627776,5,5,aO 1 [.int .i64 m.aQ,.int .i64 m.tick,.int .i64 m.seq,.int .i64 m.id,.int .i64 m.base]⟩,?_⟩
 (and_intros<;>first|exact wm|skip)
 ·intro i hi
  match i,(show i<5 from hi)with
  |0,_=>exact⟨e0,e1⟩
  |1,_=>exact⟨i0,i1⟩
  |2,_=>exact⟨s0,s1⟩
  |3,_=>exact⟨d0,d1⟩
  |4,_=>exact⟨b0,b1⟩
 refine fun _ _ _=>⟨⟨1073741824,1,1,aO 1 [.int .i64 m.n]⟩,?_⟩
 (and_intros<;>first|exact wm|skip)
 ·intro i hi
  match i,(show i<1 from hi)with
  |0,_=>exact⟨n0,n1⟩
 refine fun _ _ _=>⟨⟨2,1,1,aO 1 [.int .i64 m.op]⟩,?_⟩
 (and_intros<;>first|exact wm|skip)
 ·intro i hi
  match i,(show i<1 from hi)with
  |0,_=>exact⟨p0,p1⟩
 refine fun _ _=>⟨fun c=>⟨(),(decide_eq_false (by omega)).symm,trivial,trivial⟩,fun c _=>⟨⟨10,1,1,aO 1 [.int .i64 m.err]⟩,?_⟩⟩
 have hy:true=decide (m.key.size<=40):=(decide_eq_true (by omega)).symm
 (and_intros<;>first|exact wm|skip)
 ·intro i hi
  match i,(show i<1 from hi)with
  |0,_=>exact⟨r0,r1⟩
 have hl1:l.length<100000:=by
  rcases hl with rfl|h
  ·decide
  ·have:=Rg.DX h;omega
 have hl2:¬(l.length:Int)=0->Rg.lK l=true:=fun h=>hl.resolve_left fun e=>h (by rw[e];rfl);refine fun _ _=>⟨fun _=>⟨fun _=>⟨(),hy,trivial,trivial⟩,fun e=>?_⟩,fun c=>⟨m.item,?_⟩⟩
 ·refine⟨⟨l,cap⟩,?_⟩
  (and_intros<;>first|exact wm|skip)
  exact fun _ _=>⟨fun _=>⟨(),hy,trivial,trivial⟩,fun g=>absurd (hl2 (by simpa using e)) (by simp[g])⟩
 ·have hne:m.item≠fR:=fun e=>by rw[e]at c;revert c;decide
  have hmay:=hit.resolve_left hne
  (and_intros<;>first|exact wm|skip)
  refine fun _ _=>⟨fun _=>⟨fun _=>⟨(),hy,trivial,trivial⟩,fun e=>?_⟩,fun g=>absurd hmay (by simp[g])⟩
  refine⟨⟨l,cap⟩,?_⟩
  (and_intros<;>first|exact wm|skip)
  exact fun _ _=>⟨fun _=>⟨(),hy,trivial,trivial⟩,fun g=>absurd (hl2 (by simpa using e)) (by simp[g])⟩)
theorem KU:au (Y Tryz.prog).G.X 55 O6:=aU fL Va ⟨YO,qS,Rg.qS,trivial⟩
def ZZ(w:lq):List A:=[.int .i64 w.node,.int .i64 w.id,.int .i64 w.op,.str w.key]
structure mF where
 n:cw
 p:fI
 w:lq
 err:Int
 val:ByteArray
 has:Bool
def oP(w:lq)(err:Int)(val:ByteArray)(has:Bool):aB:=if w.op=1/\err=0 then⟨w.key,val,0,!has⟩else fR
def AF(id:Int)(w:lq)(err:Int)(val:ByteArray)(has:Bool):List gi:=if w.node=0 then[]else[⟨14,id,w.node,0,0,0,0,w.id,0,pX,err,false,oP w err val has,0⟩]
def AG(w:lq)(err:Int)(val:ByteArray)(has:Bool):List xT:=if w.node=0 then[⟨w.id,w.op,w.key,err,val,has⟩]else[]
noncomputable def KW:cE where
 α:=mF
 β:=Nat×Nat
 m:=10
 m':=12
 pre:=fun a=>a.w.key.size<=aq/\a.val.size<=aq
 args:=fun a=>[.a (.ptr 0 0 0 0),.agg (ZZ a.w),.a (.int .i64 a.err),.a (.str a.val),.a (.bool a.has)]
 hp:=fun a=>[(0,ID (.ptr 9 0 0 0) 7 1 3 5 6 a.n a.p)]
 ro:=fun _=>[]
 post:=fun _ _=>True
 res:=fun _ _=>.mG []
 cZ:=fun a b=>[(0,Q1 (.ptr 9 0 0 0) (.slc 10 0 21 (AF a.n.id a.w a.err a.val a.has).length b.1) (.slc 11 0 6 (AG a.w a.err a.val a.has).length b.2) 7 1 3 5 6 a.n a.p),Bi 10 (AF a.n.id a.w a.err a.val a.has),KM 11 (AG a.w a.err a.val a.has)]
def lu(a:mF):gi:=⟨14,0,a.w.node,0,0,0,0,a.w.id,0,pX,a.err,false,oP a.w a.err a.val a.has,0⟩
def Z0(m:gi):List A:=ZY m .bS
def YP(a:mF):An:=.mk 6 Unit (fun s _=>s.at_ (s.tg 10) (.obj 45 (Z0 (lu a)))) (fun _ _=>True) (fun _ _=>0) fun _=>.mk 60 [] []
def sC(x:lq)(y:Prop):=bZ x.node x.id (aD x.op) (x.key=x.key/\y)
def iW(x y:cw)(z u:fI)(v w:Prop):=ax (x.id=y.id/\ag (oN x y z u v w))
def D8(y:Int)(x:gi)(z u v w s:Int)(t:ByteArray)(f:Int)(g h:ByteArray)(i:Prop):=y=x.ob/\z=x.to/\u=x.aQ/\v=x.tick/\(0:Int)=x.seq/\(0:Int)=x.n/\w=x.id/\s=x.op/\t=x.key/\f=x.err/\fC x.last (g=x.item.key) (h=x.item.val/\(0:Int)=x.item.e/\i)
def IX(y:Int)(x:gi)(z u v:Int)(w:lq)(s:Int)(t:ByteArray)(f:Int)(g h:ByteArray)(i:Prop):=y=x.kind/\D8 z x u v 0 w.id s t f g h i
def og(x:mF):List gi:=AF x.n.id x.w x.err x.val x.has
def oh(x:mF):List xT:=AG x.w x.err x.val x.has
def rS(x:cw)(y:fI)(z u:Prop):=ax (aD x.id/\ag (oN x x y y z u))
def vt(x:mF):=bh x.w.key<=aq/\bh x.val<=aq
def NI(x:mF)(y z:ByteArray)(u:Prop):Unit->Prop:=ay (ag (bE (x.w.node == (0:Int)) (ax (sC x.w (aD x.err/\x.val=x.val/\bE x.has (IX 14 (lu x) 0 x.w.node 0 x.w 0 cO x.err y z u))))))
theorem Vb:fnBody (Y Tryz.prog) [(51,Nu (.ptr 9 0 0 0))] 54 KW fun a=>[(54,[],[YP a])]:=fnBody.of (p :=
 ∀x:mF,vt x->ah x.w.node->az (x.w.node == (0:Int)) (ah x.w.id->ah x.w.op->1<=1/\64<=140737488355328/\∀y:Nat,1<=y->y<=aq->∃z:Nat×Nat,rS x.n x.p (0=bC (og x)/\0=z.fst) (dL 1 (List.length (oh x)) y z.snd (bC (og x)=0) 6 (jR 6 (bx x.w.id (bx x.w.op (eE x.w.key x.err (bV (bL x.val) (bD (dR x.has))))))) (aa qH (oh x)) (True/\True))) (ah x.w.node->ah x.w.id->(ah x.w.op->o6 (x.w.op == (1:Int)) (x.err == (0:Int)) (Exists (NI x x.w.key x.val (bg x.has=(lu x).item.gone/\(0:Int)=(lu x).base/\sC x.w (rS x.n x.p True True)))) (Exists (NI x cO cO (fC (lu x).item.gone ((0:Int)=(lu x).base) (sC x.w (rS x.n x.p True True))))))/\aI (∃y:nE,ag (ag (1=bC y.l/\1=y.lc)/\iW x.n y.n x.p y.p (0=bC y.q/\0=y.qc) (bC y.q=0/\aK (bC y.l) 1 21 (aO 21 (KO (lu x) (lu x).ob)) (aa dZ y.l)/\AA y fun v=>∃u:Nat×Nat,iW y.n x.n y.p x.p (ag (bC (y.to (bC y.l))=bC (og x)/\v=u.fst)) ((0=List.length (oh x)/\0=u.snd)/\mz (og x) (y.to (bC y.l))/\bl (List.length (oh x)=0))))))) (by kernel_rfl) (by
 delta o6 oN az Ez bZ aK ah bx b8 aD bE cO bh kU bD cu aC dV fC lC bV cS pO aW KO bN aI bC sC dL bL mz gn iW ay IX ag og oh ax bg jC bl eE rS vt dR NI AA jR D8
 try dsimp -iota -proj only
 rintro⟨n,p,w,err,val,has⟩ ⟨h1,h2⟩ _;dsimp only at *;refine⟨fun c=>?_,fun c _ _=>⟨fun _=>⟨fun d=>⟨fun e=>⟨(),?_⟩,fun e=>⟨(),?_⟩⟩,fun d=>⟨(),?_⟩⟩,fun _ _=>?_⟩⟩
 ·have hw:w.node=0:=by simpa using c
  have e1:AF n.id w err val has=[]:=if_pos hw;have e2:AG w err val has=[⟨w.id,w.op,w.key,err,val,has⟩]:=if_pos hw;rw[e1,e2];have hr:ak 1 6 (fun i j=>aO 6 (qH ⟨w.id,w.op,w.key,err,val,has⟩) (0+i) j) (aa qH [⟨w.id,w.op,w.key,err,val,has⟩]):=.eo fun i hi=>by
   have:i=0:=by omega
   subst this;rfl
  refine fun _ _=>⟨by omega,by omega,fun cap _ _=>⟨(0,cap),?_⟩⟩
  and_intros<;>first|exact bW|exact hr|(intro h_;revert h_)|exact bX|skip
 ·have e1:oP w err val has=⟨w.key,val,0,!has⟩:=if_pos ⟨by simpa using d,by simpa using e⟩;simp only[lu,e1]
  and_intros<;>first|exact bW|(intro h_;revert h_)|exact bX|skip
 ·have e1:oP w err val has=fR:=if_neg fun h=>by rw[h.2]at e;cases e
  simp only[lu,e1]
  and_intros<;>first|exact bW|(intro h_;revert h_)|exact bX|skip
 ·have e1:oP w err val has=fR:=if_neg fun h=>by rw[h.1]at d;cases d
  simp only[lu,e1]
  and_intros<;>first|exact bW|(intro h_;revert h_)|exact bX|skip
 ·have hw:¬w.node=0:=by simpa using c
  have e1:AF n.id w err val has=[{ lu ⟨n,p,w,err,val,has⟩with ob:=n.id }]:=if_neg hw;have e2:AG w err val has=[]:=if_neg hw;rw[e1,e2];generalize lu ⟨n,p,w,err,val,has⟩=m;have hr:ak 1 21 (aO 21 (dZ m)) (aa dZ [m]):=.eo fun i hi=>by
   have:i=0:=by omega
   subst this;rfl
  have k0:(0:Nat)<1000:=by omega
  have k1:(1:Nat)<1000:=by omega
  refine⟨nE.mk n p [] 0 [m] 1,?_⟩
  and_intros<;>first|exact bW|exact hr|exact k1|exact k0|(intro h_;revert h_)|exact bX|skip
  intro b _;refine⟨(b,0),?_⟩
  and_intros<;>first|exact bW|(intro h_;revert h_)|exact bX|skip)
theorem D9:au (Y Tryz.prog).G.X 54 KW:=aU fL Vb ⟨KP,trivial⟩
def O7(a b c:Nat)(r:Rg.ef):List (Nat×Chunk):=[(a,.obj 161 [.int .i64 r.e,.slc b 0 1 r.l.length r.c1,.slc c 0 2 r.L.length r.c2]),(b,.arr 3 [.int .i64] r.l.length (aa Rg.encI r.l)),(c,.arr 208 Rg.IP r.L.length (aa Rg.lD r.L))]
def tK(r:Rg.ef)(k:ByteArray):Int:=Rg.xV r.L (Rg.fO (fun _=>k) 1)
def Ea(le:tH)(now ep:Int):Bool:=decide (0<ep)&&(decide (ep=le.aQ)&&decide (now<le.end_))
def fK(n:cw)(r:Rg.ef)(k:ByteArray):Bool:=decide (tK r k=n.id)&&Ea n.le n.now n.s.k.m.aQ
structure yU where
 n:cw
 p:fI
 r:Rg.ef
 key:ByteArray
noncomputable def KY:cE where
 α:=yU
 β:=Unit
 m:=17
 m':=17
 pre:=fun a=>a.r.L.length<100000/\0<a.r.L.length/\a.key.size<=aq/\a.n.s.k.m.frozen=false
 args:=fun a=>[.a (.ptr 0 0 0 0),.a (.str a.key)]
 hp:=fun _=>[]
 ro:=fun a=>[(0,ID (.ptr 14 0 0 0) 7 1 3 5 6 a.n a.p),(1,WW 2 a.n.le),(2,WX a.n.now),(7,stO 8 9 10 a.n.s.bK),(10,.obj 155 (.ptr 11 0 0 0::Dv a.n.s.k.m))]++O7 14 15 16 a.r
 post:=fun _ _=>True
 res:=fun a _=>.a (.bool (fK a.n a.r a.key))
 cZ:=fun _ _=>[]
theorem Vc:fnBody (Y Tryz.prog) [(44,Rg.W0)] 19 KY fun _=>[]:=fnBody.of (p :=
 ∀x:yU,rR x.r (bh x.key<=aq/\aW x.n.s.k.m.frozen)->ah x.n.id->∃y:Rg.ND,ag (x.key=y.key/\oO x.r y.r (rR y.r (bh y.key<=aq)) (aI (az (rQ y != x.n.id) (Exists (fD (fK x.n x.r x.key))) (wJ (aH 0 x.n.s.k.m.aQ) x.n.le.aQ (x.n.s.k.m.aQ == x.n.le.aQ) (ah x.n.le.end_->ah x.n.now->az (bg (aH x.n.now x.n.le.end_)) (Exists (fD (fK x.n x.r x.key))) (az (bg x.n.s.k.m.frozen) (mg (fK x.n x.r x.key)) False)) (Exists (fD (fK x.n x.r x.key)))))))) (by kernel_rfl) (by
 delta az oO ai aK ah aH bh aC fC aW ct wJ aI bI dL cD ay ag fD rQ cT bg bl rR od mg
 try dsimp -iota -proj only
 rintro⟨n,p,r,key⟩ ⟨h1,h2,h3,h4⟩ _;dsimp only at *;refine⟨Rg.ND.mk r key,?_⟩
 and_intros<;>first|exact bW|exact h1|exact h2|exact h3|(intro h_;revert h_)|exact bX|skip
 intro _ _;dsimp only;have e0:Rg.xV r.L (Rg.fO (fun _=>key) 1)=tK r key:=rfl;rw[e0];unfold fK Ea;refine⟨fun c=>⟨(),?_,trivial,trivial⟩,fun c=>⟨fun c1 _=>⟨fun c2 _ _=>⟨fun c3=>⟨(),?_,trivial,trivial⟩,fun c3=>⟨fun _=>⟨(),?_,trivial,trivial⟩,fun c4=>by rw[h4]at c4;cases c4⟩⟩,fun c2=>⟨(),?_,trivial,trivial⟩⟩,fun c1=>⟨(),?_,trivial,trivial⟩⟩⟩
 ·have:¬tK r key=n.id:=by simpa using c
  simp[this]
 ·have:decide (n.now<n.le.end_)=false:=by simpa using c3
  rw[this];simp
 ·have g1:tK r key=n.id:=by simpa using c
  have g2:n.s.k.m.aQ=n.le.aQ:=by simpa using c2
  have g3:decide (n.now<n.le.end_)=true:=by simpa using c3
  rw[c1,g3];simp[g1,g2]
 ·have:¬n.s.k.m.aQ=n.le.aQ:=by simpa using c2
  simp[this]
 ·rw[c1];simp)
theorem Eb:au (Y Tryz.prog).G.X 19 KY:=aU fL Vc ⟨Rg.D5,trivial⟩
structure vu where
 n:cw
 p:fI
def fq(l:List iP):List ByteArray:=l.map fun x=>x.w.key
noncomputable def O8:cE where
 α:=vu
 β:=Nat
 m:=15
 m':=16
 pre:=fun a=>a.n.rs.length<1000
 args:=fun a=>[.a (.ptr 0 0 0 0)]
 hp:=fun _=>[]
 ro:=fun a=>[(0,ID (.ptr 14 0 0 0) 7 1 3 5 6 a.n a.p),(6,.arr 134 Aw a.n.rs.length (aa fZ a.n.rs))]
 post:=fun _ _=>True
 res:=fun a c=>.a (.slc 15 0 1 (fq a.n.rs).length c)
 cZ:=fun a _=>[(15,.arr 9 [.str] (fq a.n.rs).length (aa kF (fq a.n.rs)))]
def Z1(a:vu):An:=.flat 5 (Nat×Nat) (fun s x=>((s.new (.arr 9 [.str] (fq (a.n.rs.take x.1)).length (aa kF (fq (a.n.rs.take x.1))))).set 3 (.a (.slc s.nx 0 1 (fq (a.n.rs.take x.1)).length x.2))).int 13 x.1) (fun _ x=>x.1<=a.n.rs.length) (fun _ x=>a.n.rs.length-x.1)
def pI(x:Nat×Nat)(y:vu):List ByteArray:=fq (List.take x.fst y.n.rs)
def AH(x:List iP):=dU (cu x) 5 (aa fZ x)
theorem Vd:fnBody (Y Tryz.prog) [] 17 O8 fun a=>[(17,[Z1 a],[])]:=fnBody.of (p :=
 ∀x:vu,cu x.n.rs<1000->(∃y:Nat×Nat,aF y.fst ((0=aR (pI y x)/\0=y.snd)/\dY (cu x.n.rs) x.p.rc (bN (ag (aR (pI y x)=0/\rS x.n x.p (AH x.n.rs) (y.fst<=cu x.n.rs/\True))))))/\∀y:Nat×Nat,ga y.fst (cu x.n.rs) (gG (aR (pI y x)) 16 y.snd fun u=>iB y fun z=>ag (aR (pI y x)+1=aR (pI z x)/\u=z.snd)/\dY (cu x.n.rs) x.p.rc (bN (ag (lU (aR (pI z x)) (aR (pI y x)) 1 (aa kF (pI y x)) (bD (bL (gl x.n.rs (0+aA y.fst)).w.key)) (aa kF (pI z x))/\rS x.n x.p (AH x.n.rs) (bU z.fst (cu x.n.rs) y.fst))))) (∃u:Nat,iC (aR (pI y x)) (aR (fq x.n.rs)) y.snd u 1 (aa kF (pI y x)) (aa kF (fq x.n.rs)) True True)) (by kernel_rfl) (by
 delta oN az aK ah b8 aA aD bE gK cF aH af aR kU bD cu aC aX bq bV cS pO aW dU gz bN bG lU gG bL bU dY iB aS iC aF ag aY cV pI br ax jC ga bu rS dX AH jR
 try dsimp -iota -proj only
 rintro⟨n,p⟩ h;have h:n.rs.length<1000:=h;have hl:∀i,(fq (List.take i n.rs)).length=min i n.rs.length:=fun i=>by simp[fq]
 refine⟨⟨(0,0),?_⟩,fun⟨i,c⟩ hi=>⟨fun c1=>?_,fun c1=>⟨c,?_⟩⟩⟩
 ·have e:fq (List.take 0 n.rs)=[]:=rfl;dsimp only;rw[e]
  and_intros<;>first|exact bW|(intro h_;revert h_)|exact bX|skip
 ·dsimp only at *;have hi:i<n.rs.length:=by have:=of_decide_eq_true c1;omega
  have hs:fq (List.take (i+1) n.rs)=fq (List.take i n.rs)++[(gl n.rs i).w.key]:=by
   unfold fq;rw[gD hi,List.map_append];rfl
  have hz:0+(i:Int).toNat=i:=by omega
  have hli:=hl i;rw[hz];refine⟨by omega,hi,by omega,by omega,by omega,fun cap _ _ _=>⟨by simp only[bR];omega,(i+1,cap),?_⟩⟩;dsimp only;rw[hs];have hp:ak (fq (List.take i n.rs)++[(gl n.rs i).w.key]).length 1 (aZ (aa kF (fq (List.take i n.rs))) 0 (fq (List.take i n.rs)).length fun i_1 j=>aO 1 (kF (gl n.rs i).w.key) (0+i_1) j) (aa kF (fq (List.take i n.rs)++[(gl n.rs i).w.key])):=.push rfl (by simp) rfl
  and_intros<;>first|exact bW|exact hp|exact by simp|(intro h_;revert h_)|exact bX|skip
 ·dsimp only at *;have hi:i=n.rs.length:=by have:=of_decide_eq_false c1;omega
  subst hi;rw[List.take_length]
  and_intros<;>first|exact bW|(intro h_;revert h_)|exact bX|skip)
theorem KZ:au (Y Tryz.prog).G.X 17 O8:=aU fL Vd trivial
structure tL where
 n:cw
 p:fI
 r:Rg.ef
 w:lq
 g:Option aB
structure ko where
 p:fI
 b:Nat
 mc:Nat
 rc:Nat
structure dx where
 n:cw
 ms:List gi
 rs:List xT
def oQ(w:lq):Bool:=(!decide (w.op=1)&&!decide (w.op=2))||!cN w.key
def jJ(n:cw)(w:lq)(err:Int)(val:ByteArray)(has:Bool):dx:=⟨n,AF n.id w err val has,AG w err val has⟩
def K0(n:cw)(r:Rg.ef)(w:lq):KL:=⟨w,n.s.bK*1048576+(n.asked+1),tK r w.key,n.now⟩
def Ec(n:cw)(r:Rg.ef)(w:lq):gi:=⟨13,n.id,tK r w.key,n.s.k.m.aQ,0,0,0,n.s.bK*1048576+(n.asked+1),w.op,w.key,0,false,fR,0⟩
def q9(n:cw)(k:ByteArray):cw:={ n with t:=gN n.t (hasB [k]),s:=kj n.s [k] }
def Bm(n:cw)(r:Rg.ef)(w:lq):cw:={ n with asked:=n.asked+1,ws:=n.ws++[K0 n r w] }
def e9(n:cw)(w:lq)(b:Nat):cw:={ n with t:=qY n.t w.key b,rs:=n.rs++[⟨w,n.t.last+1⟩] }
def jD(n:cw)(r:Rg.ef)(w:lq)(g:Option aB)(b:Nat):dx :=
 if oQ w=true then jJ n w 1 pX false
 else if tK r w.key≠n.id then⟨Bm n r w,[Ec n r w],[]⟩
 else if fK n r w.key=false then jJ n w 6 pX false
 else if w.op=2 then jJ (q9 n w.key) w 0 pX false
 else match nY g n.now with
  |some x=>jJ n w 0 x.val true
  |none=>⟨e9 n w b,[],[]⟩
def EJ(rg ma ra:A)(nd st le tk mp wa rd ca cl dv ds ix it jr mk jl ke su tx pl:Nat)(n:cw)(p:fI):List (Nat×Chunk) :=
 v7 st ca cl dv ds ix it jr mk jl ke su tx pl n.s p.p++[(mp,vo p.mb n.t),(nd,Q1 rg ma ra st le tk wa rd n p),(tk,DN p.mb n.t),(wa,.arr 125 IC n.ws.length (aa iQ n.ws)),(rd,.arr 134 Aw n.rs.length (aa fZ n.rs))]
def W2(le ck a b c:Nat)(n:cw)(r:Rg.ef):List (Nat×Chunk):=[(le,WW ck n.le),(ck,WX n.now)]++O7 a b c r
structure nM(a:tL):Prop where
 at_:dB a.n a.p
 ring:a.r.L.length<100000/\0<a.r.L.length
 key:a.w.key.size<=aq
 free:a.n.s.k.m.frozen=false
 last:a.n.t.last<1099511627776
 room:a.n.ws.length<1000/\a.n.rs.length<1000/\a.n.t.l.length<1000
 asked:0<=a.n.asked/\a.n.asked<1000000/\0<=a.n.s.bK/\a.n.s.bK<1000000
 rd:Qt a.n.s.fl
 gO:Dk a.n.s.fl a.w.key a.g
 kill:a.w.op=2->cN a.w.key=true->Ar ⟨a.n.s,a.p.p,[a.w.key],1⟩
noncomputable def W3:cE where
 α:=tL
 β:=ko
 m:=24
 m':=31
 pre:=nM
 args:=fun a=>[.a (.ptr 0 0 0 0),.agg (ZZ a.w)]
 hp:=fun a=>EJ (.ptr 21 0 0 0) .bS .bS 0 7 1 3 4 5 6 8 9 10 11 12 13 14 15 16 17 18 19 20 a.n a.p
 ro:=fun a=>W2 1 2 21 22 23 a.n a.r
 post:=fun a b=>dB (jD a.n a.r a.w a.g b.b).n b.p
 res:=fun _ _=>.mG []
 cZ:=fun a b=>EJ (.ptr 21 0 0 0) (.slc 29 0 21 (jD a.n a.r a.w a.g b.b).ms.length b.mc) (.slc 30 0 6 (jD a.n a.r a.w a.g b.b).rs.length b.rc) 0 7 1 3 4 27 28 8 9 10 11 12 24 14 25 16 17 18 19 26 (jD a.n a.r a.w a.g b.b).n b.p++[Bi 29 (jD a.n a.r a.w a.g b.b).ms,KM 30 (jD a.n a.r a.w a.g b.b).rs]
noncomputable def YQ:List (Nat×cE):=[(44,Rg.W0),(86,LV),(54,KW),(19,KY),(51,Nu (.ptr 9 0 0 0)),(88,Nq),(137,Nk),(89,Uw),(136,T2)]
def Z2(a:tL):An:=.mk 0 Bool (fun s b=>s.set 18 (.a (.bool b))) (fun _ b=>b=oQ a.w) (fun _ _=>0) fun _=>.mk 60 [] []
def Z3(a:tL):An:=.mk 2 Unit (fun s _=>((s.new (.obj 40 (CJ ((nY a.g a.n.now).getD fR)))).set 4 (.a (.ptr s.nx 0 0 0))).set 5 (.a (.bool (nY a.g a.n.now).isSome))) (fun _ _=>True) (fun _ _=>0) fun _=>.mk 60 [] []
theorem Rl{g:Option aB}{now:Int}{x:aB}(h:nY g now=some x):g=some x:=by
 unfold nY at h;cases g with
 |none=>cases h
 |some y =>
  simp only[Option.bind_some]at h;split at h
  ·exact h
  ·cases h
theorem Ve{m:ou}{k:ByteArray}{g:Option aB}{now:Int}{x:aB}(he:Dk m k g)(h:nY g now=some x):x.val.size<=aq:=by
 rw[Rl h]at he;obtain⟨_,_,_,hm⟩:=he;unfold gf at hm;simp only[Bool.and_eq_true,decide_eq_true_eq]at hm;exact Nat.le_trans hm.1.1.1.2 (by decide)
def kV(x y:List iP):=aK (cu x) (cu y) 5 (aa fZ y) (aa fZ x)
def rT(x y:cw):=aK x.ws.length y.ws.length 7 (aa iQ y.ws) (aa iQ x.ws)
def yV(y:Nat)(z:fI)(x u:cw)(v:List iP)(w s:Prop):=iz y z.mb/\rT x u/\kV x.rs v/\w/\s
def cI(x:tL)(y:ko):dx:=jD x.n x.r x.w x.g y.b
def ua(x y:tH)(z u:Prop):=x.aQ=y.aQ/\x.end_=y.end_/\x.top=y.top/\z/\u
def xW(x y:lq)(z:Prop):=ag (x.node=y.node/\x.id=y.id/\x.op=y.op/\x.key=y.key/\z)
def vv(y:Nat)(x z:List xT):=aK y x.length 6 (aa qH x) (aa qH z)
def K1(y:tL)(h:Int)(i:ByteArray)(j:Bool)(u:tZ)(v:Nat)(f:jU)(k:lT):mF->Prop:=fun(z:mF)=>xW y.w z.w (h=z.err/\i=z.val/\j=z.has/\iW y.n z.n y.p z.p (vt z) (∀g:Nat×Nat,True->∃x:ko,u.H=x.p.p.H/\dW v f=dW x.p.mb (dx.n (cI y x)).t/\iW z.n (dx.n (cI y x)) z.p x.p (ag (bC (og z)=bC (dx.ms (cI y x))/\g.fst=x.mc)) (ag (List.length (oh z)=(dx.rs (cI y x)).length/\g.snd=x.rc)/\f.last=(dx.n (cI y x)).t.last/\yV v x.p (dx.n (cI y x)) y.n y.n.rs (mz (dx.ms (cI y x)) (og z)) (vv (dx.rs (cI y x)).length (oh z) (dx.rs (cI y x))/\ax (ag (pG k (dx.n (cI y x)).s u x.p.p (dB (dx.n (cI y x)) x.p/\True)))))))
def lQ(x y:fI)(z u:cw)(v:Prop):=x.p.H=y.p.H/\dW x.mb z.t=dW y.mb u.t/\v
def IY(y:fI)(x:cw)(z u:Prop):=lQ y y x x (rS x y (aD x.t.last) (yV y.mb y x x x.rs z u))
def IZ(x:tL)(y:Prop):=sC x.w (IY x.p x.n (0=0) (rP x.n (oO x.r x.r (0=0) (ax (pG x.n.s x.n.s x.p.p x.p.p y)))))
def O9(y:tL):Dl->Prop:=fun(z:Dl)=>ag (y.w.key=z.key/\y.n.now=z.now/\kR y.n.s.cL z.m y.p.p.cy z.p y.n.s.d y.p.p.x y.p.p.xc (y.p.p.H=z.p.H) (xJ z.m z.p z.key z.r/\aI (Exists (ay ((nY z.r z.now).isSome=(nY y.g y.n.now).isSome/\ax (ag (sC y.w (qs (jA (nY z.r z.now)) (jA (nY y.g y.n.now)) (IZ y (sC y.w (True/\True)))))))))))
def nA(y x z:cw)(u:Prop):=ua y.le x.le (z.now=x.now) u
def AI(z:cw)(x:yU)(u y:cw)(v:Rg.ef)(w:Prop):=nA z x.n u (ax (eC (y.s.bK=x.n.s.bK) (tC y.s.k.m x.n.s.k.m (oO v x.r (rR x.r (bh x.key<=aq/\aW x.n.s.k.m.frozen)) (aI w)))))
def Ed(y x:cw)(u z:fI)(v w:Nat)(s t:Prop):=ax (y.id=x.id/\ax (bN (kU/\kU/\pO y.ws x u.wc z/\ag (v=cu x.rs/\w=z.rc)/\y.asked=x.asked/\s/\t)))
def tM(x:cw)(y:jU)(z:fI)(u:Nat)(v w s:Prop):=x.t.last=y.last/\iz z.mb u/\dW z.mb x.t=dW u y/\v/\w/\s
def om(x y:cw)(z u:fI)(v:Prop):=ax (ag (pG x.s y.s z.p u.p v))
def NJ(y:tL)(x:ko)(z:jU)(u:Nat)(v w s:Prop):=(0=(dx.rs (cI y x)).length/\0=x.rc)/\z.last=(dx.n (cI y x)).t.last/\iz u x.p.mb/\v/\w/\s/\(dx.rs (cI y x)).length=0/\om y.n (dx.n (cI y x)) y.p x.p (dB (dx.n (cI y x)) x.p/\True)
theorem W4:fnBody (Y Tryz.prog) YQ 48 W3 fun a=>[(48,[],[Z2 a]),(90,[],[Z3 a])]:=fnBody.of (p :=
 ∀x:tL,nM x->∃f:Rg.ND,ag (x.w.key=f.key/\oO x.r f.r (rR f.r (bh f.key<=aq)) (aI ((ah x.w.op->wJ (x.w.op != (1:Int)) x.w.op (x.w.op != (2:Int)) (∃j:Bool,true=j/\aD (rQ f)/\ax (sC x.w (IZ x (j=oQ x.w/\True)))) (∃j:ByteArray,x.w.key=j/\cQ (∃m:Bool,bg (cN j)=m/\aD (rQ f)/\ax (sC x.w (IZ x (m=oQ x.w/\True))))))/\∀o:Bool,o=oQ x.w->az o (Exists (K1 x 1 cO false x.p.p x.p.mb x.n.t x.n.s)) (ah x.n.id->az (rQ f != x.n.id) (ah x.n.asked->ah (x.n.asked+(1:Int))/\(ah (x.n.asked+(1:Int))->ah x.n.s.bK->nS (x.n.s.bK*(1048576:Int)) (x.n.asked+(1:Int)) (ah x.n.now->gG x.n.ws.length 64 x.p.wc fun k=>ah x.w.op->∃z:nE,ag (ag (1=bC z.l/\1=z.lc)/\ax (x.n.id=z.n.id/\ax (jC (ag (x.n.ws.length+1=z.n.ws.length/\k=z.p.wc)) x.n z.n x.p z.p (x.n.asked+(1:Int)) ((0=bC z.q/\0=z.qc)/\IM z 13 (rQ f) x.n 0 0 (x.n.s.bK*(1048576:Int)+(x.n.asked+(1:Int))) x.w.op x.w.key fun c=>∃v:ko,lQ x.p v.p x.n (dx.n (cI x v)) (iW z.n (dx.n (cI x v)) z.p v.p (ag (bC (z.to (bC z.l))=bC (dx.ms (cI x v))/\c=v.mc)) (NJ x v x.n.t x.p.mb (lU (dx.n (cI x v)).ws.length x.n.ws.length 7 (aa iQ x.n.ws) (Ez .i64 x.w.node x.w.id x.w.op (bL x.w.key) (x.n.s.bK*(1048576:Int)+(x.n.asked+(1:Int))) (rQ f) x.n.now []) (aa iQ (dx.n (cI x v)).ws)) (kV (dx.n (cI x v)).rs x.n.rs) (mz (dx.ms (cI x v)) (z.to (bC z.l)))))))))))) (∃h:yU,ag (x.w.key=h.key /\
 iW x.n h.n x.p h.p (0=0) (AI x.n h x.n x.n x.r (az (bg (fK h.n h.r h.key)) (Exists (K1 x 6 cO false x.p.p x.p.mb x.n.t x.n.s)) (ah x.w.op->az (x.w.op == (2:Int)) (∃y:DR,ag (ag (1=aR y.ks/\1=y.cap)/\tM x.n y.t x.p y.mb (x.p.p.H=y.H) (aK (aR y.ks) 1 1 (aO 1 (bD (bL x.w.key))) (aa kF y.ks)) ((gC y.H y.t/\aR y.ks<100000/\y.t.l.length<100000)/\∀i:PH×Int,(xR i y.t (hasB y.ks) fun k=>y.H k)->∃u:wL,ag (ag (1=aR u.ks/\1=u.kc)/\ax (ag (pG x.n.s u.s x.p.p u.p (i.fst=u.p.H/\aK (aR u.ks) 1 1 (aO 1 (bD (bL x.w.key))) (aa kF u.ks)/\(pF u.s u.p/\Ar u)/\∀z:tZ,As u z->Exists (K1 x (gX (fS u.ks)) cO false z y.mb (gN y.t (hasB y.ks)) (kj u.s u.ks))))))))) (((ah x.n.now->Exists (O9 x)/\Exists (O9 x))/\(ah x.n.now->Exists (O9 x)))/\aI (az (nY x.g x.n.now).isSome (Exists (K1 x 0 (aB.val (jA (nY x.g x.n.now))) true x.p.p x.p.mb x.n.t x.n.s)) (∃y:Av,ag (x.w.key=y.key/\tM x.n y.t x.p y.mb (x.p.p.H=y.H) (gC y.H y.t/\y.t.last<(1099511627776:Int)/\bh y.key<=aq) (∀i:Nat,y.H i=none->gG (cu x.n.rs) 48 x.p.rc fun u=>∃z:ko,DO y i=z.p.p.H/\dW y.mb (qY y.t y.key i)=dW z.p.mb (dx.n (cI x z)).t/\Ed x.n (dx.n (cI x z)) x.p z.p (cu x.n.rs+1) u (0=bC (dx.ms (cI x z)) /\
 0=z.mc) (NJ x z (qY y.t y.key i) y.mb (rT (dx.n (cI x z)) x.n) (lU (cu (dx.n (cI x z)).rs) (cu x.n.rs) 5 (aa fZ x.n.rs) (bx x.w.node (bx x.w.id (bx x.w.op (eE x.w.key (y.t.last+(1:Int)) [])))) (aa fZ (dx.n (cI x z)).rs)) (bC (dx.ms (cI x z))=0))))))))))))))))) (by kernel_rfl) (by
 delta oN az oO yV Ez ai bZ aK dW ah bx b8 cI aD bE gK cO aR bh iz ua kU bD cu aC dV lC eC bV cS pO nL aW oM ct K1 O9 wJ bN aI bC qs sC lU gG kR dL IY bL mz AI gn kV iW xW cD gX ay tC rP gm Ed ag lQ og oh IZ nS IM rQ As cT ax jA DO bg rT tM jC eE rS om xJ vt gV dR cQ rR xR od NJ nA AA jR vv
 try dsimp -iota -proj only
 rintro⟨n,p,r,w,g⟩ ok;obtain⟨hat,⟨r1,r2⟩,hkey,hfr,hlast,⟨m1,m2,m3⟩,⟨s1,s2,s3,s4⟩,hrd,hent,hkil⟩:=ok;dsimp only at *;refine⟨Rg.ND.mk r w.key,?_⟩
 and_intros<;>first|exact bW|exact r1|exact r2|exact hkey|(intro h_;revert h_)|exact bX|skip
 intro _ _;dsimp only;have e0:Rg.xV r.L (Rg.fO (fun _=>w.key) 1)=tK r w.key:=rfl;rw[e0];refine⟨fun _=>⟨fun c1 _=>⟨fun c2=>⟨true,?_⟩,fun c2=>⟨w.key,rfl,trivial,fun _ _=>⟨!cN w.key,?_⟩⟩⟩,fun c1=>⟨w.key,rfl,trivial,fun _ _=>⟨!cN w.key,?_⟩⟩⟩,fun b hb=>⟨fun hbt=>?_,fun hbf _=>?_⟩⟩
 ·have hw:true=oQ w:=by
   have h1:¬w.op=1:=by simpa using c1
   have h2:¬w.op=2:=by simpa using c2
   simp[oQ,h1,h2]
  and_intros<;>first|exact bW|exact hw|(intro h_;revert h_)|exact bX|skip
 ·have hw:(!cN w.key)=oQ w:=by
   have h2:w.op=2:=by simpa using c2
   simp[oQ,h2]
  and_intros<;>first|exact bW|exact hw|(intro h_;revert h_)|exact bX|skip
 ·have hw:(!cN w.key)=oQ w:=by
   have h2:w.op=1:=by simpa using c1
   simp[oQ,h2]
  and_intros<;>first|exact bW|exact hw|(intro h_;revert h_)|exact bX|skip
 ·have eN:∀b,jD n r w g b=jJ n w 1 pX false:=fun b=>if_pos (hb.symm.trans hbt);have hv:pX.size<=aq:=by decide
  refine⟨mF.mk n p w 1 pX false,?_⟩
  and_intros<;>first|exact bW|exact hkey|exact hv|(intro h_;revert h_)|exact bX|skip
  rintro⟨mc,rc⟩ _;refine⟨ko.mk p 0 mc rc,?_⟩;dsimp only;rw[eN];dsimp only[jJ]
  and_intros<;>first|exact bW|exact hat|(intro h_;revert h_)|exact bX|skip
 have hbad:oQ w=false:=hb.symm.trans hbf;have hn0:¬oQ w=true:=by rw[hbad];decide
 refine⟨fun c1 _=>⟨by simp only[bR];omega,fun _ _=>⟨by simp only[bR];omega,by simp only[bR];omega,fun _=>⟨by omega,by omega,by omega,fun cap hcap _ _ _=>?_⟩⟩⟩,fun c1=>?_⟩
 ·have hne:tK r w.key≠n.id:=by simpa using c1
  have eN:∀b,jD n r w g b=⟨Bm n r w,[Ec n r w],[]⟩:=fun b=>by unfold jD;rw[if_neg hn0,if_pos hne]
  have hr:ak 1 21 (aO 21 (dZ { Ec n r w with ob:=0 })) (aa dZ [{ Ec n r w with ob:=0 }]):=.eo fun i hi=>by
   have:i=0:=by omega
   subst this;rfl
  have k0:(0:Nat)<1000:=by omega
  have k1:(1:Nat)<1000:=by omega
  have hl:n.ws.length+1=(Bm n r w).ws.length:=by simp[Bm]
  refine⟨nE.mk (Bm n r w) { p with wc:=cap } [] 0 [{ Ec n r w with ob:=0 }] 1,?_⟩
  and_intros<;>first|exact bW|exact hr|exact k1|exact k0|exact hl|(intro h_;revert h_)|exact bX|skip
  intro b _;refine⟨ko.mk { p with wc:=cap } 0 b 0,?_⟩;have hN:dB (Bm n r w) { p with wc:=cap }:=⟨hat.st,hat.tok,hat.sep,by simp only[Bm,List.length_append,List.length_singleton];exact hcap,hat.rc⟩
  have hp:ak (n.ws++[K0 n r w]).length 7 (aZ (aa iQ n.ws) 0 n.ws.length fun i j=>aO 7 (iQ (K0 n r w)) (0+i) j) (aa iQ (n.ws++[K0 n r w])):=.push rfl (by simp) rfl;have hl2:(n.ws++[K0 n r w]).length<=n.ws.length+1:=by simp
  dsimp only;rw[eN];dsimp only[Bm]
  and_intros<;>first|exact bW|exact hN|exact hp|exact hl2|(intro h_;revert h_)|exact bX|skip
 have how:tK r w.key=n.id:=by simpa using c1
 have hn1:¬tK r w.key≠n.id:=fun h=>h how;refine⟨yU.mk n p r w.key,?_⟩
 and_intros<;>first|exact bW|exact r1|exact r2|exact hkey|exact hfr|(intro h_;revert h_)|exact bX|skip
 intro _ _;dsimp only;refine⟨fun c2=>?_,fun c2 _=>?_⟩
 ·have hsv:fK n r w.key=false:=by simpa using c2
  have eN:∀b,jD n r w g b=jJ n w 6 pX false:=fun b=>by unfold jD;rw[if_neg hn0,if_neg hn1,if_pos hsv]
  have hv:pX.size<=aq:=by decide
  refine⟨mF.mk n p w 6 pX false,?_⟩
  and_intros<;>first|exact bW|exact hkey|exact hv|(intro h_;revert h_)|exact bX|skip
  rintro⟨mc,rc⟩ _;refine⟨ko.mk p 0 mc rc,?_⟩;dsimp only;rw[eN];dsimp only[jJ]
  and_intros<;>first|exact bW|exact hat|(intro h_;revert h_)|exact bX|skip
 have hn2:¬fK n r w.key=false:=by
  have:fK n r w.key=true:=by simpa using c2
  rw[this];decide
 refine⟨fun c3=>?_,fun c3=>?_⟩
 ·have hop:w.op=2:=by simpa using c3
  have hkB:cN w.key=true:=by
   revert hbad;unfold oQ;cases cN w.key<;>simp
  have hall:fS [w.key]=true:=by simp[fS,hkB]
  have eN:∀b,jD n r w g b=jJ (q9 n w.key) w 0 pX false:=fun b=>by unfold jD;rw[if_neg hn0,if_neg hn1,if_neg hn2,if_pos hop]
  have hr:ak 1 1 (aO 1 [Value.string w.key]) (aa kF [w.key]):=.eo fun i hi=>by
   have:i=0:=by omega
   subst this;rfl
  have hv:pX.size<=aq:=by decide
  have k1:(1:Nat)<100000:=by omega
  have k2:n.t.l.length<100000:=by omega
  refine⟨DR.mk p.mb n.t p.p.H [w.key] 1,?_⟩
  and_intros<;>first|exact bW|exact hr|exact k1|exact k2|exact hat.tok|(intro h_;revert h_)|exact bX|skip
  rintro⟨H1,cnt⟩ ⟨ht1,ht2⟩;have hat1:=hat.Xv ht1 ht2;have hkil:=hkil hop hkB;have hkil1:Ar ⟨n.s,{ p.p with H:=H1 },[w.key],1⟩:=⟨hkil.n,hkil.jr,hkil.fl⟩
  have hst1:pF n.s { p.p with H:=H1 }:=hat1.st;refine⟨wL.mk n.s { p.p with H:=H1 } [w.key] 1,?_⟩
  and_intros<;>first|exact bW|exact hr|exact hkil1|exact hst1|(intro h_;revert h_)|exact bX|skip
  rintro b ⟨q1,q2⟩;have hat2:dB (q9 n w.key) { p with p:=b }:=hat1.store q1 q2;have he:(if fS [w.key]=true then(0:Int)else 1)=0:=if_pos hall;refine⟨mF.mk n p w 0 pX false,?_⟩
  and_intros<;>first|exact bW|exact hkey|exact hv|exact he|(intro h_;revert h_)|exact bX|skip
  rintro⟨mc,rc⟩ _;refine⟨ko.mk { p with p:=b } 0 mc rc,?_⟩;dsimp only;rw[eN];dsimp only[jJ,q9];have hat2:dB { n with t:=gN n.t (hasB [w.key]),s:=kj n.s [w.key] } { p with p:=b }:=hat2
  and_intros<;>first|exact bW|exact hat2|(intro h_;revert h_)|exact bX|skip
 ·have hop:¬w.op=2:=by simpa using c3
  refine⟨?_,fun _ _=>⟨fun c4=>?_,fun c4=>?_⟩⟩
  ·have hG:jm n.s.fl p.p.fl:=hat.st.fl;refine⟨fun _=>⟨⟨Dl.mk n.s.fl p.p.fl w.key n.now g,?_⟩,⟨Dl.mk n.s.fl p.p.fl w.key n.now g,?_⟩⟩,fun _=>⟨Dl.mk n.s.fl p.p.fl w.key n.now g,?_⟩⟩ <;>
   ·and_intros<;>first|exact bW|exact hG|exact hrd|exact hent|exact hkey|(intro h_;revert h_)|exact bX|skip
    intro _ _;refine⟨(),?_⟩
    and_intros<;>first|exact bW|(intro h_;revert h_)|exact bX|skip
  ·obtain⟨x,hx⟩:=Option.isSome_iff_exists.1 c4;have eN:∀b,jD n r w g b=jJ n w 0 x.val true:=fun b=>by unfold jD;rw[if_neg hn0,if_neg hn1,if_neg hn2,if_neg hop,hx]
   have hv:x.val.size<=aq:=Ve hent hx;rw[hx];refine⟨mF.mk n p w 0 x.val true,?_⟩
   and_intros<;>first|exact bW|exact hkey|exact hv|(intro h_;revert h_)|exact bX|skip
   rintro⟨mc,rc⟩ _;refine⟨ko.mk p 0 mc rc,?_⟩;dsimp only;rw[eN];dsimp only[jJ]
   and_intros<;>first|exact bW|exact hat|(intro h_;revert h_)|exact bX|skip
  ·have hx:nY g n.now=none:=by simpa using c4
   have eN:∀b,jD n r w g b=⟨e9 n w b,[],[]⟩:=fun b=>by unfold jD;rw[if_neg hn0,if_neg hn1,if_neg hn2,if_neg hop,hx]
   refine⟨Av.mk p.mb n.t p.p.H w.key,?_⟩
   and_intros<;>first|exact bW|exact hat.tok|exact hlast|exact hkey|(intro h_;revert h_)|exact bX|skip
   intro b hb;have hat1:=hat.YH hb hkey hlast;refine⟨by omega,by omega,by omega,fun cap hcap _ _=>⟨ko.mk { p with p:={ p.p with H:=aN p.p.H b 0 [.string w.key,.bool true] },rc:=cap } b 0 0,?_⟩⟩;have hN:dB (e9 n w b) { p with p:={ p.p with H:=aN p.p.H b 0 [.string w.key,.bool true] },rc:=cap }:=⟨hat1.st,hat1.tok,hat1.sep,hat.wc,by simp only[e9,List.length_append,List.length_singleton];exact hcap⟩
   have hp:ak (n.rs++[(⟨w,n.t.last+1⟩:iP)]).length 5 (aZ (aa fZ n.rs) 0 n.rs.length fun i j=>aO 5 (fZ ⟨w,n.t.last+1⟩) (0+i) j) (aa fZ (n.rs++[⟨w,n.t.last+1⟩])):=.push rfl (by simp) rfl;have hl2:(n.rs++[(⟨w,n.t.last+1⟩:iP)]).length<=n.rs.length+1:=by simp
   have hl3:n.rs.length+1=(n.rs++[(⟨w,n.t.last+1⟩:iP)]).length:=by simp
   dsimp only;rw[eN];dsimp only[e9]
   and_intros<;>first|exact bW|exact hN|exact hp|exact hl2|exact hl3|(intro h_;revert h_)|exact bX|skip)
theorem Pa:au (Y Tryz.prog).G.X 48 W3:=aU fL W4 ⟨Rg.D5,yu,D9,Eb,KP,Q0,QY,Uy,T4,trivial⟩
end Go.Proofs.YtfjgoonelcaggaaGreat
namespace Go.Sx
section
def I1(slot:Nat)(v:Bool)(s:S)(K:S->Prop):Prop:=match look s.fr slot with
 |.a (.bool b)=>b=v/\K (s.set slot (.a (Xd v)))
 |.a .tt=>bif v then K s else False
 |.a .ff=>bif v then False else K s
 |_=>K s
theorem FV(slot:Nat)(v:Bool):∀s K,I1 slot v s K->w9 s K:=by
 intro s K h w0 M ρ a w hs;unfold I1 at h;split at h
 ·rename_i b hb;obtain⟨rfl,h⟩:=h;have hr:=hs.frame slot;rw[hb]at hr;refine⟨_,ρ,h,Env.le.refl ρ,hs.V4 ?_⟩;have hr:a.tmps.getD slot undef = .bool b:=hr;rw[hr];exact sH b ρ
 ·cases v
  ·exact h.elim
  ·exact⟨s,ρ,h,Env.le.refl ρ,hs⟩
 ·cases v
  ·exact⟨s,ρ,h,Env.le.refl ρ,hs⟩
  ·exact h.elim
 ·exact⟨s,ρ,h,Env.le.refl ρ,hs⟩
def I2:List (Nat×Bool)->S->(S->Prop)->Prop
 |[],s,K=>K s
 |e::r,s,K=>I1 e.1 e.2 s fun s=>I2 r s K
theorem Ee:∀(l:List (Nat×Bool)) s K,I2 l s K->w9 s K
 |[],s,K,h=>fun w0 M ρ a w hs=>⟨s,ρ,h,Env.le.refl ρ,hs⟩
 |e::r,s,K,h=>fun w0 M ρ a w hs=>by
  obtain⟨s1,ρ1,h1,l1,g1⟩:=FV e.1 e.2 s _ h w0 M ρ a w hs;obtain⟨s2,ρ2,h2,l2,g2⟩:=Ee r s1 K h1 w0 M ρ1 a w g1;exact⟨s2,ρ2,h2,l1.trans l2,g2⟩
def NK(slot:Nat)(n:Int)(s:S)(K:S->Prop):Prop:=match look s.fr slot with
 |.a (.int k m)=>m=n/\K (s.set slot (.a (.lit k n)))
 |_=>K s
theorem Rm(slot:Nat)(n:Int):∀s K,NK slot n s K->w9 s K:=by
 intro s K h w0 M ρ a w hs;unfold NK at h;split at h
 ·rename_i k m hb;obtain⟨rfl,h⟩:=h;have hr:=hs.frame slot;rw[hb]at hr;exact⟨_,ρ,h,Env.le.refl ρ,hs.V4 hr⟩
 ·exact⟨s,ρ,h,Env.le.refl ρ,hs⟩
def An.Pb(key slot:Nat)(v:Bool)(next:LH):An:=.view key (I1 slot v) (FV slot v) next
def An.YR(key:Nat)(l:List (Nat×Bool))(next:LH):An:=.view key (I2 l) (Ee l) next
def An.YS(key slot:Nat)(n:Int)(next:LH):An:=.view key (NK slot n) (Rm slot n) next
end
end Go.Sx
namespace Go.Proofs.YtfjgoonelcaggaaGreat
open Go.Sx
noncomputable def I3:cE where
 α:=tL
 β:=ko
 m:=24
 m':=31
 pre:=fun a=>nM a/\a.w.node=0
 args:=fun a=>[.a (.ptr 0 0 0 0),.a (.int .i64 a.w.id),.a (.int .i64 a.w.op),.a (.str a.w.key)]
 hp:=fun a=>EJ (.ptr 21 0 0 0) .bS .bS 0 7 1 3 4 5 6 8 9 10 11 12 13 14 15 16 17 18 19 20 a.n a.p
 ro:=fun a=>W2 1 2 21 22 23 a.n a.r
 post:=fun a b=>dB (jD a.n a.r a.w a.g b.b).n b.p
 res:=fun a b=>.agg [.slc 29 0 21 (jD a.n a.r a.w a.g b.b).ms.length b.mc,.slc 30 0 6 (jD a.n a.r a.w a.g b.b).rs.length b.rc]
 cZ:=fun a b=>EJ (.ptr 21 0 0 0) .bS .bS 0 7 1 3 4 27 28 8 9 10 11 12 24 14 25 16 17 18 19 26 (jD a.n a.r a.w a.g b.b).n b.p++[Bi 29 (jD a.n a.r a.w a.g b.b).ms,KM 30 (jD a.n a.r a.w a.g b.b).rs]
def Ef(z:List gi)(x:dx)(v:Nat)(y:ko)(u:List xT)(w:Nat)(s:PH)(f:Nat)(g:jU)(h:Prop):=ag (bC z=bC x.ms/\v=y.mc)/\ag (u.length=x.rs.length/\w=y.rc)/\s=y.p.p.H/\dW f g=dW y.p.mb x.n.t/\mz x.ms z/\vv x.rs.length u x.rs/\ax (ag h)
def FW(f:List gi)(y:ko->dx)(g:Nat)(h:List xT)(i:Nat)(z:fI)(u:Nat)(v:jU)(w j:cw)(k:fI)(l:List iP):ko->Prop:=fun(x:ko)=>Ef f (y x) g x h i z.p.H u v (pG w.s (y x).n.s z.p x.p.p (iW j (y x).n k x.p (v.last=(y x).n.t.last) (yV u x.p (y x).n w l (dB (y x).n x.p) True)))
def vw(x y:cw)(z u:fI)(v w:Prop):=iW x y z u (x.t.last=y.t.last) (yV z.mb u y x x.rs v w)
def I4(y:tL)(x:ko)(z:ko->dx):=Exists (FW (dx.ms (cI y x)) (fun u=>z u) x.mc (dx.rs (cI y x)) x.rc x.p x.p.mb (dx.n (cI y x)).t (dx.n (cI y x)) (dx.n (cI y x)) x.p (dx.n (cI y x)).rs)
theorem Rn:fnBody (Y Tryz.prog) [(48,W3)] 13 I3 fun _=>[]:=fnBody.of (p :=
 ∀x:tL,nM x/\x.w.node=(0:Int)->∃y:tL,ag ((0:Int)=y.w.node/\x.w.id=y.w.id/\x.w.op=y.w.op/\x.w.key=y.w.key/\lQ x.p y.p x.n y.n (vw x.n y.n x.p y.p (0=0) (ax (Im x.n.s y.n.s x.p.p y.p.p x.n.s.d x.n.s.ms x.p.p.jc x.n.s.jL x.p.p.jy (ag (nA x.n y.n x.n (oO x.r y.r (nM y) (∀z:ko,dB (dx.n (cI y z)) z.p->I4 y z fun u=>cI x u))))))))) (by kernel_rfl) (by
 delta oN oO yV ai aK dW b8 cI bE iz ua kU cu cS pO nL oM ct FW bN bC dL mz kV iW cD ag lQ Im cT Ef ax rT jC vw gV od nA vv I4
 try dsimp -iota -proj only
 rintro a ⟨ok,hw⟩;obtain⟨n,p,r,⟨nd,id,op,key⟩,g⟩:=a;have hw:nd=0:=hw;subst hw;refine⟨⟨n,p,r,⟨0,id,op,key⟩,g⟩,?_⟩
 and_intros<;>first|exact bW|exact ok|(intro h_;revert h_)|exact bX|skip
 intro b hb;refine⟨b,?_⟩
 and_intros<;>first|exact bW|exact hb|(intro h_;revert h_)|exact bX|skip)
theorem FX:au (Y Tryz.prog).G.X 13 I3:=aU fL Rn ⟨Pa,trivial⟩
def xX(now:Int)(l:tH)(sent ep:Int):Bool:=decide (ep<1)||decide (ep<l.top)||decide (sent<0)||decide (now<sent)||decide (20<=now-sent)
def ri(now:Int)(l:tH)(sent ep:Int):tH:=if xX now l sent ep=true then l else if ep=l.aQ/\sent+20<=l.end_ then l else⟨ep,sent+20,ep⟩
structure FY where
 l:tH
 now:Int
 sent:Int
 ep:Int
noncomputable def NL:cE where
 α:=FY
 β:=Unit
 m:=2
 m':=2
 pre:=fun a=>a.now<1000000000000000
 args:=fun a=>[.a (.ptr 0 0 0 0),.a (.int .i64 a.sent),.a (.int .i64 a.ep)]
 hp:=fun a=>[(0,WW 1 a.l)]
 ro:=fun a=>[(1,WX a.now)]
 post:=fun _ _=>True
 res:=fun _ _=>.a .any
 cZ:=fun a _=>[(0,WW 1 (ri a.now a.l a.sent a.ep))]
def AJ(x:FY):Unit->Prop:=ay (ag (ua x.l (ri x.now x.l x.sent x.ep) True True))
def I5(x:FY):=ah (x.sent+(20:Int))/\(ah x.l.aQ->wJ (x.ep == x.l.aQ) x.l.end_ (cC (x.sent+(20:Int)) x.l.end_) (Exists (AJ x)) (Exists (ay (FP x.ep (ri x.now x.l x.sent x.ep) (x.sent+(20:Int)) x.ep True True))))
theorem Ro:fnBody (Y Tryz.prog) [] 99 NL fun _=>[]:=fnBody.of (p :=
 ∀x:FY,x.now<(1000000000000000:Int)->az (aH x.ep 1) (Exists (AJ x)) (ah x.l.top->iM (aH x.ep x.l.top) (Exists (AJ x)) (aH x.sent 0) (ah x.now->az (aH x.now x.sent) (Exists (AJ x)) (az (aH x.sent 0) (I5 x) (ah x.now->az (aH x.now x.sent) (I5 x) (nc x.now x.sent (az (cC 20 (x.now-x.sent)) (Exists (AJ x)) (I5 x)))))))) (by kernel_rfl) (by
 delta az ah aH ua aC FP aW wJ iM I5 ay cC ag AJ nc
 rintro⟨l,now,sent,ep⟩ h;have h:now<1000000000000000:=h;dsimp only;have no:xX now l sent ep=true->ri now l sent ep=l:=fun e=>if_pos e;have yes:xX now l sent ep=false->ep=l.aQ->sent+20<=l.end_->ri now l sent ep=l:=fun e h1 h2=>by unfold ri;rw[if_neg (by rw[e];decide),if_pos ⟨h1,h2⟩]
 have new:xX now l sent ep=false->¬(ep=l.aQ/\sent+20<=l.end_)->ri now l sent ep=⟨ep,sent+20,ep⟩:=fun e h1=>by unfold ri;rw[if_neg (by rw[e];decide),if_neg h1]
 unfold xX at no yes new;simp only[Bool.or_eq_true,Bool.or_eq_false_iff,decide_eq_true_eq,decide_eq_false_iff_not,beq_iff_eq,beq_eq_false_iff_ne]at *;refine⟨fun c1=>⟨(),?_⟩,fun c1 _=>⟨fun c2=>⟨(),?_⟩,fun c2=>⟨fun c3=>⟨(),?_⟩,fun c3 _=>⟨fun c4=>⟨(),?_⟩,fun c4=>⟨fun c5=>absurd c5 c3,fun _ _=>⟨fun c6=>absurd c6 c4,fun _ _=>⟨by simp only[bR];omega,fun c7=>⟨(),?_⟩,fun c7=>⟨by simp only[bR];omega,fun _=>⟨fun c8 _=>⟨fun c9=>⟨(),?_⟩,fun c9=>⟨(),?_⟩⟩,fun c8=>⟨(),?_⟩⟩⟩⟩⟩⟩⟩⟩⟩⟩
 ·rw[no (by omega)];simp
 ·rw[no (by omega)];simp
 ·rw[no (by omega)];simp
 ·rw[no (by omega)];simp
 ·rw[no (by omega)];simp
 ·rw[yes ⟨⟨⟨⟨c1,c2⟩,c3⟩,c4⟩,c7⟩ c8 c9];simp
 ·rw[new ⟨⟨⟨⟨c1,c2⟩,c3⟩,c4⟩,c7⟩ fun h=>c9 h.2];simp
 ·rw[new ⟨⟨⟨⟨c1,c2⟩,c3⟩,c4⟩,c7⟩ fun h=>c8 h.1];simp)
theorem Rp:au (Y Tryz.prog).G.X 99 NL:=aU fL Ro trivial
def Ld:LH:=.mk 60 [] []
def I6(n:cw)(ob ep tick:Int):gi:=⟨2,ob,n.id,ep,tick,0,0,0,0,pX,0,false,fR,0⟩
def YT(k:Int)(ob to ep tick id op:A)(key:ByteArray)(mem:A):List A:=[.lit .i64 k,ob,to,ep,tick,.lit .i64 0,.lit .i64 0,id,op,.str key,.lit .i64 0,.ff,.str pX,.str pX,.lit .i64 0,.ff,.bS,.bS,mem,.lit .i64 0,.bS]
structure vz where
 n:cw
 p:fI
 r:Rg.ef
 w:lq
 ep:Int
 g:Option aB
def vA(n:cw)(w:lq)(ep:Int):gi:=⟨13,w.node,n.id,ep,0,0,0,w.id,w.op,w.key,0,false,fR,0⟩
def sD(n:cw)(r:Rg.ef)(w:lq)(ep:Int)(g:Option aB)(b:Nat):dx :=
 if ¬w.key.size<=40 then⟨n,[],[]⟩else if ep≠n.s.k.m.aQ then jJ n w 7 pX false else jD n r w g b
def vz.ask(a:vz):tL:=⟨a.n,a.p,a.r,a.w,a.g⟩
noncomputable def Vf:cE where
 α:=vz
 β:=ko
 m:=24
 m':=31
 pre:=fun a=>nM a.ask/\D7 (vA a.n a.w a.ep)/\a.n.s.k.m.ready=0
 args:=fun a=>[.a (.ptr 0 0 0 0),.agg (YT 13 (.int .i64 a.w.node) (.int .i64 a.n.id) (.int .i64 a.ep) (.lit .i64 0) (.int .i64 a.w.id) (.int .i64 a.w.op) a.w.key .bS)]
 hp:=fun a=>EJ (.ptr 21 0 0 0) .bS .bS 0 7 1 3 4 5 6 8 9 10 11 12 13 14 15 16 17 18 19 20 a.n a.p
 ro:=fun a=>W2 1 2 21 22 23 a.n a.r
 post:=fun a b=>dB (sD a.n a.r a.w a.ep a.g b.b).n b.p
 res:=fun a b=>.agg [.slc 29 0 21 (sD a.n a.r a.w a.ep a.g b.b).ms.length b.mc,.slc 30 0 6 (sD a.n a.r a.w a.ep a.g b.b).rs.length b.rc]
 cZ:=fun a b=>EJ (.ptr 21 0 0 0) .bS .bS 0 7 1 3 4 27 28 8 9 10 11 12 24 14 25 16 17 18 19 26 (sD a.n a.r a.w a.ep a.g b.b).n b.p++[Bi 29 (sD a.n a.r a.w a.ep a.g b.b).ms,KM 30 (sD a.n a.r a.w a.ep a.g b.b).rs]
noncomputable def YU:List (Nat×cE):=[(55,O6),(54,KW),(48,W3)]
def js(x:vz)(y:ko):dx:=sD x.n x.r x.w x.ep x.g y.b
def yW(y z:fI)(u x w t:cw)(f g:Rg.ef)(h:Prop)(i:ko->dx)(j:ko->Prop):=lQ y z u x (vw u x y z (0=0) (ax (pG u.s x.s y.p z.p (ag (nA w x t (oO f g h (∀v:ko,dB (i v).n v.p->j v)))))))
def NM(x:vz):=∃y:ko,(0=bC (dx.ms (js x y))/\0=y.mc)/\(0=(dx.rs (js x y)).length/\0=y.rc)/\lQ x.p y.p x.n (dx.n (js x y)) (bC (dx.ms (js x y))=0/\(dx.rs (js x y)).length=0/\om x.n (dx.n (js x y)) x.p y.p (vw x.n (dx.n (js x y)) x.p y.p (dB (dx.n (js x y)) y.p) True))
def I7(x:vz):=nM x.ask/\D7 (vA x.n x.w x.ep)/\x.n.s.k.m.ready=(0:Int)
theorem Vg:fnBody (Y Tryz.prog) YU 16 Vf fun _=>[(16,[],[.YS 4 5 0 Ld])]:=fnBody.of (p :=
 ∀x:vz,I7 x->ah x.n.id->ah x.n.id->az (x.n.id != x.n.id) (NM x) (∃z:Bl,IX 13 z.m x.w.node x.n.id x.ep x.w x.w.op x.w.key 0 pX pX (fC z.m.item.gone (0=ai z.l/\0=z.cap) ((0:Int)=z.m.base/\ai z.l=0/\AE z/\aI (az (bg (lP z.m.key)) (NM x) (x.n.s.k.m.ready=(0:Int)/\(ah x.w.node->ah x.w.id->ah x.w.op->ah x.ep->az (x.ep != x.n.s.k.m.aQ) (∃y:mF,xW x.w y.w ((7:Int)=y.err/\cO=y.val/\false=y.has/\iW x.n y.n x.p y.p (vt y) (∀u:Nat×Nat,True->Exists (FW (og y) (fun v=>js x v) u.fst (oh y) u.snd x.p x.p.mb x.n.t x.n y.n y.p x.n.rs)))) (∃y:tL,xW x.w y.w (yW x.p y.p x.n y.n x.n x.n x.r y.r (nM y) (fun u=>cI y u) fun u=>I4 y u fun f=>js x f))))))))) (by kernel_rfl) (by
 delta oN az oO yV ai aK dW ah b8 cI js bE cO bh iz ua kU cu aC fC cS pO nL aW oM ct yW FW bN aI bC dL mz kV iW xW NM cD IX ag lQ og lP oh cT Ef ax bg rT jC vw om vt od nA AE D8 vv I4 I7
 try dsimp -iota -proj only
 rintro⟨n,p,r,w,ep,g⟩ ⟨ok,hm,hr⟩ _ _;have hat:dB n p:=ok.at_;have hkey:w.key.size<=aq:=ok.key;dsimp only at *;have ho:([]:List Int)=[]\/Rg.lK []=true:=.inl rfl;refine⟨fun c=>by simp at c,fun _=>⟨Bl.mk (vA n w ep) [] 0,?_⟩⟩
 and_intros<;>first|exact bW|exact hm|exact ho|(intro h_;revert h_)|exact bX|skip
 intro _ _;have ek:(vA n w ep).key=w.key:=rfl;dsimp only;rw[ek];refine⟨fun c=>⟨ko.mk p 0 0 0,?_⟩,fun c=>⟨hr,fun _ _ _ _=>⟨fun c1=>⟨mF.mk n p w 7 pX false,?_⟩,fun c1=>⟨⟨n,p,r,w,g⟩,?_⟩⟩⟩⟩
 ·have eN:∀b,sD n r w ep g b=⟨n,[],[]⟩:=fun b=>if_pos (by simpa using c);rw[eN]
  and_intros<;>first|exact bW|exact hat|(intro h_;revert h_)|exact bX|skip
 ·have hk:¬ ¬w.key.size<=40:=by simpa using c
  have eN:∀b,sD n r w ep g b=jJ n w 7 pX false:=fun b=>by unfold sD;rw[if_neg hk,if_pos (by simpa using c1)]
  have hv:pX.size<=aq:=by decide
  and_intros<;>first|exact bW|exact hkey|exact hv|(intro h_;revert h_)|exact bX|skip
  rintro⟨mc,rc⟩ _;refine⟨ko.mk p 0 mc rc,?_⟩;dsimp only;rw[eN];dsimp only[jJ]
  and_intros<;>first|exact bW|exact hat|(intro h_;revert h_)|exact bX|skip
 ·have hk:¬ ¬w.key.size<=40:=by simpa using c
  have eN:∀b,sD n r w ep g b=jD n r w g b:=fun b=>by unfold sD;rw[if_neg hk,if_neg (by simpa using c1)]
  have ok:nM ⟨n,p,r,w,g⟩:=ok
  and_intros<;>first|exact bW|exact ok|(intro h_;revert h_)|exact bX|skip
  intro b hb;refine⟨b,?_⟩;rw[eN]
  and_intros<;>first|exact bW|exact hb|(intro h_;revert h_)|exact bX|skip)
theorem Vh:au (Y Tryz.prog).G.X 16 Vf:=aU fL Vg ⟨KU,D9,Pa,trivial⟩
theorem Vi{α:Type}[Inhabited α]{l:List α}{i j:Nat}:gl (l.eraseIdx i) j=if j<i then gl l j else gl l (j+1):=by
 simp only[gl,List.getD,List.getElem?_eraseIdx];split<;>rfl
structure wO where
 l:List iP
 cap:Nat
 k:Nat
noncomputable def Vj:cE where
 α:=wO
 β:=Nat
 m:=1
 m':=2
 pre:=fun a=>a.l.length<2000/\a.l.length<=a.cap/\a.k<a.l.length
 args:=fun a=>[.a (.slc 0 0 5 a.l.length a.cap),.a (.int .i64 a.k),.a (.int .i64 (a.k+1))]
 hp:=fun a=>[(0,.arr 134 Aw a.l.length (aa fZ a.l))]
 ro:=fun _=>[]
 post:=fun a cap=>(a.l.eraseIdx a.k).length<=cap
 res:=fun a cap=>.a (.slc 1 0 5 (a.l.eraseIdx a.k).length cap)
 cZ:=fun a _=>[(1,.arr 134 Aw (a.l.eraseIdx a.k).length (aa fZ (a.l.eraseIdx a.k)))]
def lR(x:wO):List iP:=x.l.eraseIdx x.k
def I8(x:wO):Nat:=aA x.k-0+(cu x.l-aX (af x.k+(1:Int)))
theorem Vk:fnBody (Y Tryz.prog) [] 71 Vj fun _=>[]:=fnBody.of (p :=
 ∀x:wO,cu x.l<2000/\cu x.l<=x.cap/\x.k<cu x.l->dc (af (cu x.l)) x.cap/\zC (af x.k) 1 (aA (cu x.l)) (az (af x.k == af x.k+(1:Int)) (∃y:Nat,ag (cu x.l=cu (lR x)/\x.cap=y)/\kV (lR x) x.l/\cu (lR x)<=y/\True) (dc (af x.k) x.cap/\dc (af x.k+(1:Int)) (cu x.l)/\0+(aA x.k-0)<=cu x.l/\0+aX (af x.k+(1:Int))+(cu x.l-aX (af x.k+(1:Int)))<=cu x.l/\gK (aA x.k-0) (cu x.l-aX (af x.k+(1:Int))) 48 (x.cap-0) fun y=>dc (af (cu x.l)) y/\dc (af (I8 x)) (aA (cu x.l))/\∃z:Nat,iC (I8 x) (cu (lR x)) y z 5 (fun u=>zI (I8 x) u (aA (cu x.l)) (bx 0 (bx 0 (bx 0 (eE cO 0 [])))) fun v=>aZ (aa fZ x.l) 0 (aA x.k-0) (fun w s=>aa fZ x.l (0+aX (af x.k+(1:Int))+w) s) u v) (aa fZ (lR x)) (cu (lR x)<=z) True))) (by kernel_rfl) (by
 delta az aT aK bx aA gK cO af cu aC dV aX bV aW dS bL kV iC lR ag I8 eE zC dc zI
 try dsimp -iota -proj only
 rintro⟨l,cap,k⟩ ⟨h1,h2,h3⟩;dsimp only at *;have el:(l.eraseIdx k).length=l.length-1:=by rw[List.length_eraseIdx];simp[h3]
 have e1:((k:Int)+1).toNat=k+1:=by omega
 have e2:k+(l.length-(k+1))=l.length-1:=by omega
 simp only[Nat.zero_add,Int.toNat_natCast,e1,el,Nat.sub_zero,e2];refine⟨by omega,by omega,by omega,fun g=>(by exfalso;simp only[beq_iff_eq]at g;omega),fun _=>⟨by omega,by omega,by omega,by omega,by omega,fun c' g1 g2 g3=>⟨by omega,by omega,c',?_⟩⟩⟩;have hr:ak (l.length-1) 5 (fun i j=>if l.length-1<=i/\i<l.length-1+(l.length-(l.length-1))then(fZ default).getD j (Value.tuple #[])else aZ (aa fZ l) 0 k (fun i j=>aa fZ l (k+1+i) j) i j) (aa fZ (l.eraseIdx k)):=⟨fun i hi j hj=>by
  rw[if_neg (by omega)];simp only[aZ,aa,Vi,Nat.zero_add];by_cases h:i<k
  ·simp only[h,if_true]
  ·simp only[h,if_false];rw[show k+1+(i-k)=i+1 by omega]⟩
 (and_intros<;>first|exact wm|skip))
theorem Vl:au (Y Tryz.prog).G.X 71 Vj:=aU fL Vk trivial
structure mA where
 n:cw
 p:fI
 r:Rg.ef
 k:Nat
 val:ByteArray
 has:Bool
def mA.rd(a:mA):iP:=gl a.n.rs a.k
def ic(val:ByteArray)(has:Bool):ByteArray:=if has=true then val else pX
def Pc(n:cw)(x:iP):Bool:=match vp n.t x.tok with|some e=>e.good|none=>false
def ig(x:iP)(val:ByteArray):aB:=⟨x.w.key,val,0,false⟩
def nB(n:cw)(r:Rg.ef)(x:iP)(val:ByteArray)(has:Bool):Bool:=Pc n x&&(has&&(decide ((ic val has).size<=200)&&fK n r x.w.key))
def jt(n:cw)(r:Rg.ef)(k:Nat)(val:ByteArray)(has:Bool):cw:={ n with rs:=n.rs.eraseIdx k,t:=nu n.t (gl n.rs k).tok,s:=if nB n r (gl n.rs k) val has=true then Xq (KB n.s (ig (gl n.rs k) (ic val has)))else n.s }
def Rq(n:cw)(r:Rg.ef)(k:Nat)(val:ByteArray)(has:Bool):dx:=jJ (jt n r k val has) (gl n.rs k).w 0 (ic val has) has
def mA.q(a:mA):dx:=Rq a.n a.r a.k a.val a.has
structure Eg(a:mA):Prop where
 at_:dB a.n a.p
 ring:a.r.L.length<100000/\0<a.r.L.length
 free:a.n.s.k.m.frozen=false
 k:a.k<a.n.rs.length
 room:a.n.rs.length<1000
 tok:bR .i64 a.rd.tok
 key:cN a.rd.w.key=true
 val:a.val.size<=aq
 put:(ic a.val a.has).size<=200->uo a.n.s.fl (aJ (some (ig a.rd (ic a.val a.has)))).length
 dev:(ic a.val a.has).size<=200->(KB a.n.s (ig a.rd (ic a.val a.has))).d.calls<1000000000000/\(KB a.n.s (ig a.rd (ic a.val a.has))).d.n<100000
noncomputable def Pd:cE where
 α:=mA
 β:=ko
 m:=24
 m':=31
 pre:=Eg
 args:=fun a=>[.a (.ptr 0 0 0 0),.a (.int .i64 a.k),.a (.str a.val),.a (.bool a.has)]
 hp:=fun a=>EJ (.ptr 21 0 0 0) .bS .bS 0 7 1 3 4 5 6 8 9 10 11 12 13 14 15 16 17 18 19 20 a.n a.p
 ro:=fun a=>W2 1 2 21 22 23 a.n a.r
 post:=fun a b=>dB a.q.n b.p
 res:=fun a b=>.agg [.slc 29 0 21 a.q.ms.length b.mc,.slc 30 0 6 a.q.rs.length b.rc]
 cZ:=fun a b=>EJ (.ptr 21 0 0 0) .bS .bS 0 7 1 3 4 27 28 8 9 10 11 12 24 14 25 16 17 18 19 26 a.q.n b.p++[Bi 29 a.q.ms,KM 30 a.q.rs]
noncomputable def YV:List (Nat×cE):=[(71,Vj),(72,UL),(19,KY),(73,TW),(169,jN),(54,KW)]
def Xw(a:mA):An:=.mk 7 Unit (fun s _=>s.set 2 (.a (.str (ic a.val a.has)))) (fun _ _=>True) (fun _ _=>0) fun _=>.mk 60 [] [.Pb 8 999 true (.mk 60 [] [.mk 0 Bool (fun s b=>s.set 73 (.a (.bool b))) (fun _ b=>b=nB a.n a.r a.rd a.val a.has) (fun _ _=>0) fun _=>.mk 60 [] [.Pb 0 87 true Ld]])]
theorem gC.use{H:PH}{t:jU}(h:gC H t)(id:Int):gC H (nu t id):=by
 have hs:∀e∈(nu t id).l,e∈t.l:=fun e he=>(List.mem_filter.1 he).1;exact⟨fun e he=>h.at_ e (hs e he),(h.blk.sublist (List.filter_sublist.map _)),fun e he=>h.id e (hs e he),(h.ids.sublist (List.filter_sublist.map _)),(h.born.sublist (List.filter_sublist.map _)),h.last⟩
def tZ.Bn(p:tZ)(b:sA):tZ:={ p with H:=b.H,cy:=b.y,x:=b.x,xc:=b.cap }
theorem pF.put{s:lT}{p:tZ}(h:pF s p){x:aB}{b:sA}(h1:jm (nX s.fl x) b)(h2:uj p.fl b):pF (Xq (KB s x)) (p.Bn b)/\DA p.H (bt p.cy) (bt p.jy) (p.Bn b):=by
 have hj:∀z∈bt p.jy,b.H z=p.H z/\z∉bt b.y:=fun z hz=>h2 z (h.jl.dom z hz) (h.sep z hz);exact⟨⟨⟨h1.log,h1.idx⟩,h.jl.frame fun z hz=>(hj z hz).1,fun z hz=>(hj z hz).2,h.cap⟩,fun z hz hc hjz=>⟨(h2 z hz hc).1,(h2 z hz hc).2,hjz⟩⟩
theorem dB.aan{n:cw}{p:fI}(h:dB n p)(k:Nat){c:Nat}(hc:(n.rs.eraseIdx k).length<=c)(id:Int):dB { n with rs:=n.rs.eraseIdx k,t:=nu n.t id } { p with rc:=c } :=
 ⟨h.st,h.tok.use id,fun e he=>h.sep e ((List.mem_filter.1 he).1),h.wc,hc⟩
theorem Eh{x:iP}{v:ByteArray}(hk:cN x.w.key=true)(hv:v.size<=200):kg (ig x v)=true:=by
 simp[kg,ig,gf,hk,hv]
def wP(y z u:Bool)(v x:Prop):=o6 y z (az u v x) x
def rU(x:mA):iP:=gl x.n.rs (0+aA x.k)
def NN(x:yQ):Bool:=match vp x.t x.id with|some y=>y.good|none=>false
def NO(x:mA)(y:wO)(z:Nat)(u:Prop):=ax (aD x.n.id/\ax (bN (kU/\kU/\bG x.n.ws.length x.p.wc/\bG (cu (lR y)) z/\u)))
def NP(v:Bool)(y:yQ)(x:mA)(z:wO)(s:Nat):Bool->Prop:=fun(u:Bool)=>v=u/\bE (NN y) (ic x.val x.has=ic x.val x.has/\ag (bN (ax (bu x.k/\bE x.has (dW y.mb (nu y.t y.id)=dW y.mb (nu y.t y.id)/\sC (iP.w (rU x)) (aD (iP.tok (rU x))/\x.p.p.H=x.p.p.H/\NO x z s (aD x.n.asked/\dU x.n.ws.length 7 (aa iQ x.n.ws)/\ag (rP x.n (oO x.r x.r (aD (nu y.t y.id).last) (iz y.mb y.mb/\AH (lR z)/\om x.n x.n x.p x.p (u=nB x.n x.r x.rd x.val x.has/\True)))))))))))
def NQ(z:ByteArray)(x:mA)(y:wO)(u:Nat):=Exists (ay (z=ic x.val x.has/\ag (bN (ax (bu x.k/\bE x.has (sC (iP.w (rU x)) (aD (iP.tok (rU x))/\lQ x.p x.p x.n x.n (NO x y u (bZ x.n.asked x.n.t.last (iz x.p.mb x.p.mb) (dU x.n.ws.length 7 (aa iQ x.n.ws)/\ag (rP x.n (oO x.r x.r (AH (lR y)) (om x.n x.n x.p x.p (True/\True))))))))))))))
def NR(y:mA)(z:wO)(u:Nat)(v:mF->Nat×Nat->ko->Prop):=∃x:mF,xW (iP.w (rU y)) x.w ((0:Int)=x.err/\ic y.val y.has=x.val/\y.has=x.has/\Ed y.n x.n y.p x.p (cu (lR z)) u (vt x) (∀s:Nat×Nat,True->Exists (v x s)))
theorem Vm:fnBody (Y Tryz.prog) YV 25 Pd fun a=>[(25,[],[.Pb 0 26 false (.mk 60 [] [Xw a]),Xw a])]:=fnBody.of (p :=
 ∀y:mA,Eg y->az (aH (af y.k) 0) False (aW (cC (af (cu y.n.rs)) (af y.k))/\dX y.k (cu y.n.rs) (aS y.k/\∃u:wO,ag (cu y.n.rs=cu u.l/\y.p.rc=u.cap)/\bz y.k u.k/\af y.k+(1:Int)=af u.k+(1:Int)/\kV u.l y.n.rs/\(cu u.l<2000/\cu u.l<=u.cap/\u.k<cu u.l)/\∀g:Nat,cu (lR u)<=g->az (bg y.has) (NQ cO y u g) (NQ y.val y u g)/\aI (ah (iP.tok (rU y))->∃v:yQ,ag (iP.tok (rU y)=v.id/\tM y.n v.t y.p v.mb (y.p.p.H=v.H) (gC v.H v.t/\ah v.id) (aI (wP (NN v) y.has (cC (af (bh (ic y.val y.has))) 200) (∃f:yU,ag ((iP.w (rU y)).key=f.key/\Ed y.n f.n y.p f.p (cu (lR u)) g (0=0) (AI y.n f y.n y.n y.r (Exists (NP (fK f.n f.r f.key) v y u g))))) (Exists (NP false v y u g))/\∀f:Bool,f=nB y.n y.r y.rd y.val y.has->az f (∃z:Km,ag ((iP.w (rU y)).key=z.x.key/\ic y.val y.has=z.x.val/\(0:Int)=z.x.e/\false=z.x.gone/\kR y.n.s.cL z.m y.p.p.cy z.p y.n.s.d y.p.p.x y.p.p.xc (y.p.p.H=z.p.H) (HO z/\∀h:sA,jm (nX z.m z.x) h/\uj z.p h->aC (gX (kg z.x) == (0:Int))/\Exists (kN (nX z.m z.x).d fun c=>NR y u g fun j o i=>Ef (og j) y.q o.fst i (oh j) o.snd h.H v.mb (nu v.t v.id) (y.n.s.bK=y.q.n.s.bK/\Bd (nX z.m z.x) y.q.n.s h i.p.p (gv c) y.n.s.ms y.p.p.jc y.n.s.jL y.p.p.jy y.n.s.k y.p.p.kc (iW j.n y.q.n j.p i.p ((nu v.t v.id).last=y.q.n.t.last) (yV v.mb i.p y.q.n y.n (lR u) (dB y.q.n i.p) True))))))) (NR y u g fun z h=>FW (og z) (fun A=>y.q) h.fst (oh z) h.snd y.p v.mb (nu v.t v.id) y.n z.n z.p (lR u))))))))) (by kernel_rfl) (by
 delta o6 oN az oO yV ai bZ aK dW ah b8 aA aD bE cO cF aH af bh iz ua kU cu aC aX bq eC cS pO nL aW oM ct dU wP FW bN aI bC bG Bd sC kR dL NP mz NQ AI kV kE iW xW cD gX ay aS tC cC rP lR Ed ag lQ og cV oh cT Ef ax bg rU rT kN tM jC bu bz om vt dX gV rR od AH nA NN NR HO vv NO
 try dsimp -iota -proj only
 intro a ok;obtain⟨n,p,r,k,val,has⟩:=a;obtain⟨hat,⟨r1,r2⟩,hfr,hk,hroom,htok,hkey,hval,hput,hdev⟩:=ok;obtain⟨x,hx⟩:∃x,x=gl n.rs k:=⟨_,rfl⟩
 have hrd:∀p r val has,mA.rd ⟨n,p,r,k,val,has⟩=x:=fun _ _ _ _=>hx.symm;simp only[hrd]at htok hkey hput hdev ⊢;have hz:0+((k:Nat):Int).toNat=k:=by omega
 have hkl:x.w.key.size<=aq:=by have:=(kS hkey).2;unfold aq;omega
 dsimp only at *;rw[hz,<- hx];have hv:(ic val has).size<=aq:=by
  unfold ic;cases has
  ·exact Nat.zero_le _
  ·exact hval
 refine⟨fun c=>(by exfalso;have:=of_decide_eq_true c;omega),fun _=>⟨decide_eq_false (by omega),by omega,hk,by simp only[bR];omega,wO.mk n.rs p.rc k,?_⟩⟩;have h2000:n.rs.length<2000:=by omega
 have hrc:=hat.rc
 and_intros<;>first|exact bW|exact h2000|exact hrc|exact hk|(intro h_;revert h_)|exact bX|skip
 intro c hc;dsimp only at hc ⊢;have hat1:=hat.aan k hc x.tok;refine⟨⟨fun e=>⟨(),?_⟩,fun e=>⟨(),?_⟩⟩,fun _ _ _=>⟨yQ.mk p.mb n.t p.p.H x.tok,?_⟩⟩
 ·have e:has=false:=by simpa using e
  have ev:ByteArray.mk #[]=ic val has:=by rw[e];rfl
  and_intros<;>first|exact bW|exact ev|(intro h_;revert h_)|exact bX|skip
 ·have e:has=true:=by simpa using e
  have ev:val=ic val has:=by rw[e];rfl
  and_intros<;>first|exact bW|exact ev|(intro h_;revert h_)|exact bX|skip
 and_intros<;>first|exact bW|exact hat.tok|exact htok.1|exact htok.2|(intro h_;revert h_)|exact bX|skip
 intro _ _;have eg:(match vp n.t x.tok with|some e=>e.good|none=>false)=Pc n x:=rfl;dsimp only;simp only[eg];refine⟨⟨fun g1=>⟨fun g2=>⟨fun g3=>⟨yU.mk { n with rs:=n.rs.eraseIdx k,t:=nu n.t x.tok } { p with rc:=c } r x.w.key,?_⟩,fun g3=>⟨false,?_⟩⟩,fun g2=>⟨false,?_⟩⟩,fun g1=>⟨false,?_⟩⟩,fun b hb=>⟨fun hbt=>?_,fun hbf=>?_⟩⟩
 ·and_intros<;>first|exact bW|exact r1|exact r2|exact hkl|exact hfr|(intro h_;revert h_)|exact bX|skip
  intro _ _;have g3:(ic val has).size<=200:=by have:=of_decide_eq_true g3;omega
  have e:fK n r x.w.key=nB n r x val has:=by unfold nB;rw[g1,g2,<- g2,decide_eq_true g3];simp[g2]
  refine⟨fK n r x.w.key,?_⟩
  and_intros<;>first|exact bW|exact e|(intro h_;revert h_)|exact bX|skip
 ·have g3:decide ((ic val has).size<=200)=false:=decide_eq_false (by have:=of_decide_eq_false g3;omega);have e:false=nB n r x val has:=by unfold nB;rw[g3];simp
  and_intros<;>first|exact bW|exact e|(intro h_;revert h_)|exact bX|skip
 ·have e:false=nB n r x val has:=by unfold nB;rw[g2];simp
  and_intros<;>first|exact bW|exact e|(intro h_;revert h_)|exact bX|skip
 ·have e:false=nB n r x val has:=by unfold nB;rw[g1];simp
  and_intros<;>first|exact bW|exact e|(intro h_;revert h_)|exact bX|skip
 ·have hf:nB n r x val has=true:=hb.symm.trans hbt;have hsz:(ic val has).size<=200:=by
   unfold nB at hf;simp only[Bool.and_eq_true,decide_eq_true_eq]at hf;exact hf.2.2.1
  have hpo:=Eh (x:=x) hkey hsz;have eN:mA.q ⟨n,p,r,k,val,has⟩=jJ { n with rs:=n.rs.eraseIdx k,t:=nu n.t x.tok,s:=Xq (KB n.s (ig x (ic val has))) } x.w 0 (ic val has) has:=by
   unfold mA.q Rq jt;dsimp only;rw[<- hx,if_pos hf]
  have hfl:jm n.s.fl p.p.fl:=hat.st.fl;have hpu:=hput hsz;have hpu:kg (ig x (ic val has))=true->uo n.s.fl (aJ (some (ig x (ic val has)))).length:=fun _=>hpu;obtain⟨hq1,hq2⟩:=hdev hsz;refine⟨Km.mk n.s.fl p.p.fl (ig x (ic val has)),?_⟩
  and_intros<;>first|exact bW|exact hfl|exact hpu|(intro h_;revert h_)|exact bX|skip
  rintro b2 ⟨q1,q2⟩;have he:((if kg (ig x (ic val has))=true then(0:Int)else 1) == 0)=true:=by rw[if_pos hpo];rfl
  refine⟨he,(nX n.s.fl (ig x (ic val has))).d,?_⟩
  and_intros<;>first|exact bW|exact hq1|exact hq2|(intro h_;revert h_)|exact bX|skip
  intro _ _;obtain⟨w1,w2⟩:=hat1.st.put q1 q2;have hat2:=hat1.store w1 w2;refine⟨mF.mk { n with rs:=n.rs.eraseIdx k,t:=nu n.t x.tok } { p with rc:=c } x.w 0 (ic val has) has,?_⟩
  and_intros<;>first|exact bW|exact hkl|exact hv|(intro h_;revert h_)|exact bX|skip
  rintro⟨mc,rc⟩ _;refine⟨ko.mk { p with rc:=c,p:=p.p.Bn b2 } 0 mc rc,?_⟩;dsimp only;rw[eN];dsimp only[jJ]
  and_intros<;>first|exact bW|exact hat2|(intro h_;revert h_)|exact bX|skip
 ·have hf:nB n r x val has=false:=hb.symm.trans hbf;have eN:mA.q ⟨n,p,r,k,val,has⟩=jJ { n with rs:=n.rs.eraseIdx k,t:=nu n.t x.tok } x.w 0 (ic val has) has:=by
   unfold mA.q Rq jt;dsimp only;rw[<- hx,if_neg (by rw[hf];decide)]
  refine⟨mF.mk { n with rs:=n.rs.eraseIdx k,t:=nu n.t x.tok } { p with rc:=c } x.w 0 (ic val has) has,?_⟩
  and_intros<;>first|exact bW|exact hkl|exact hv|(intro h_;revert h_)|exact bX|skip
  rintro⟨mc,rc⟩ _;refine⟨ko.mk { p with rc:=c } 0 mc rc,?_⟩;dsimp only;rw[eN];dsimp only[jJ]
  and_intros<;>first|exact bW|exact hat1|(intro h_;revert h_)|exact bX|skip)
theorem K2:au (Y Tryz.prog).G.X 25 Pd:=aU fL Vm ⟨Vl,UN,Eb,TY,iN,D9,trivial⟩
def vC(n:cw)(ep:Int):MetaM:=⟨n.s.k.m.bK,ep,0,false⟩
def Rr(n:cw)(ep tick:Int):cw:={ n with s:=Nj (EH n.s) (vC n ep),le:=ri n.now ⟨0,0,0⟩ tick ep,t:=gN n.t wv,ws:=VG }
structure pP where
 n:cw
 p:fI
 ob:Int
 ep:Int
 tick:Int
 l:List Int
 cap:Nat
def pP.q(a:pP):cw:=Rr a.n a.ep a.tick
structure NS where
 p:fI
 c1:Nat
 c2:Nat
def pQ(ep:Int)(l:List Int)(c1 c2:Nat):Rg.ef:=⟨ep,l,c1,Rg.nw l,c2⟩
structure Pe(a:pP):Prop where
 at_:dB a.n a.p
 msg:D7 (I6 a.n a.ob a.ep a.tick)
 mem:Rg.lK a.l=true
 ws:a.n.ws=[]
 ep:1<=a.ep/\a.ep<=1099511627776/\a.n.s.k.m.aQ<a.ep/\a.n.s.k.m.ready=0
 now:a.n.now<1000000000000000
 yw:a.n.t.l.length<1000
 fl:uo a.n.s.fl 1/\(iF a.n.s.fl [2]).d.n<100000/\(iF a.n.s.fl [2]).d.calls<900000000000
 k:a.n.s.k.s.at_+1<(EH a.n.s).d.n/\a.n.s.k.s.slot<=1/\(EH a.n.s).d.n<100000/\(EH a.n.s).d.calls<900000000000/\0<=a.n.s.k.s.fo/\a.n.s.k.s.fo<1000000000000
 save:gH a.n.s.k (vC a.n a.ep)=true
theorem pF.Z4{s s':lT}{p:tZ}(h:pF s p){b:sA}(h1:jm s'.fl b)(h2:uj p.fl b)(hj:s'.jL=s.jL)(hm:s'.ms=s.ms):pF s' (p.Bn b)/\DA p.H (bt p.cy) (bt p.jy) (p.Bn b):=by
 have hh:∀z∈bt p.jy,b.H z=p.H z/\z∉bt b.y:=fun z hz=>h2 z (h.jl.dom z hz) (h.sep z hz);exact⟨⟨⟨h1.log,h1.idx⟩,by rw[hj];exact h.jl.frame fun z hz=>(hh z hz).1,fun z hz=>(hh z hz).2,by rw[hm];exact h.cap⟩,fun z hz hc hjz=>⟨(h2 z hz hc).1,(h2 z hz hc).2,hjz⟩⟩
theorem Rs{x:Ix.cW}(h:Ix.Has x []):Ix.keysOf x.t=[]:=by
 have:=h.perm.length_eq;unfold Ix.keysOf;rw[List.eq_nil_of_length_eq_zero this];rfl
noncomputable def K3:cE where
 α:=pP
 β:=NS
 m:=22
 m':=33
 pre:=Pe
 args:=fun a=>[.a (.ptr 0 0 0 0),.agg (YT 2 (.int .i64 a.ob) (.int .i64 a.n.id) (.int .i64 a.ep) (.int .i64 a.tick) (.lit .i64 0) (.lit .i64 0) pX (.slc 21 0 1 a.l.length a.cap))]
 hp:=fun a=>EJ .nil .bS .bS 0 7 1 3 4 5 6 8 9 10 11 12 13 14 15 16 17 18 19 20 a.n a.p++[(1,WW 2 a.n.le)]
 ro:=fun a=>[(2,WX a.n.now),(21,.arr 3 [.int .i64] a.l.length (aa Rg.encI a.l))]
 post:=fun a b=>dB a.q b.p
 res:=fun _ _=>.agg [.slc 31 0 21 0 0,.slc 32 0 6 0 0]
 cZ:=fun a b=>EJ (.ptr 22 0 0 0) .bS .bS 0 7 1 3 4 26 6 8 9 10 11 27 28 14 15 16 17 18 29 30 a.q b.p++[(1,WW 2 a.q.le)]++O7 22 23 24 (pQ a.ep a.l b.c1 b.c2)
noncomputable def YW:List (Nat×cE):=[(55,O6),(56,Rg.Bt),(99,NL),(142,Ni),(100,Ik),(151,Rg.NG),(152,Rg.NA),(194,Ix.UD),(107,IA)]
def pJ(x:pP)(y:NS):Rg.ef:=pQ x.ep x.l y.c1 y.c2
def NT(z:pP):=ah z.ep->ah z.n.s.k.m.aQ->aW (z.ep == z.n.s.k.m.aQ)/\(ah z.n.s.k.m.ready->aC (z.ep != z.n.s.k.m.ready)/\∃v:KH,ax (ax (rC z.n.s.cL v.m.L z.p.p.cy.lv v.p.y.lv (iY z.n.s.d v.m.d (yH z.p.p.x v.p.x z.p.p.xc v.p.cap (z.p.p.H=v.p.H/\Iy v/\∀h:sA,jm (jq v.m) h/\uj v.p h->ah z.n.s.k.m.bK->∃w:Ij,ag (Dz z.n.s.k.m.bK w.m z.ep (0=0) (Dy z.n.s.k w.k z.p.p.kc w.cap (iY (jq v.m).d w.d (Ap w/\∀o:Nat,True->kG z.ep 1 False 1099511627776 (Exists (tJ z.l z.cap fun r=>aI (aW (bg (Rg.lK r.l))/\Exists (tJ z.l z.cap fun c=>∀A:Nat,True->Exists (tJ z.l z.cap fun B=>∀C:Nat,True->∃i:Ix.uh,ag (yH h.x i.x h.cap i.cap (bJ i.x<100000/\∀E:Nat,True->af (aR (Ix.keysOf i.x.t))=(0:Int)/\∃u:KK,ag (tM z.n u.t z.p u.mb (h.H=u.H) (gC u.H u.t/\u.t.l.length<100000) (∀j:PH×Int,(xR j u.t wv fun D=>u.H D)->af z.n.ws.length=(0:Int)/\(ah z.tick->ah z.ep->∃f:FY,ag (z.tick=f.sent/\z.ep=f.ep/\FP 0 f.l 0 0 (z.n.now=f.now) (f.now<(1000000000000000:Int)/\aI (∃g:NS,ag (0=0)/\ag (0=0)/\j.fst=g.p.p.H/\dW u.mb (gN u.t wv)=dW g.p.mb z.q.t/\ax (z.n.id=z.q.id/\ax (jC (0=z.q.ws.length/\0=g.p.wc) z.n z.q z.p g.p z.n.asked ((gN u.t wv).last=z.q.t.last/\iz u.mb g.p.mb/\z.q.ws.length=0/\kV z.q.rs z.n.rs /\
 ag (ua (ri f.now f.l f.sent f.ep) z.q.le (z.ep=Rg.ef.e (pJ z g)) (od c.l (pJ z g) A (Rg.nw B.l) C (ax (ag (z.n.s.bK=z.q.s.bK/\Bd (jq v.m) z.q.s h g.p.p (iy w.k w.d w.m) z.n.s.ms z.p.p.jc z.n.s.jL z.p.p.jy (nq w.k w.m) o (dB z.q g.p/\True))))))))))))))))))))))))))))))))
theorem Vn:fnBody (Y Tryz.prog) YW 16 K3 fun _=>[(16,[],[.YS 4 5 0 Ld,.YR 0 [(22,false),(48,true)] (.mk 60 [] [.YS 4 5 0 Ld])]),(57,[],[.Pb 0 28 false Ld]),(98,[],[.YR 0 [(20,false),(40,true)] (.mk 60 [] [.Pb 0 40 true (.mk 60 [] [.YS 15 85 0 Ld]),.YS 15 85 0 Ld]),.YS 15 85 0 Ld]),(104,[],[.YS 2 15 0 (.mk 60 [] [.Pb 0 30 false Ld]),.Pb 0 30 false Ld]),(103,[],[.Pb 0 15 false Ld])]:=fnBody.of (p :=
 ∀x:pP,Pe x->ah x.n.id->ah x.n.id->az (x.n.id != x.n.id) False (∃y:Bl,(2:Int)=y.m.kind/\D8 x.ob y.m x.n.id x.ep x.tick 0 0 pX 0 pX pX (fC y.m.item.gone (cT x.l y.l x.cap y.cap) ((0:Int)=y.m.base/\ct y.l x.l Rg.encI/\AE y/\aI (aW (bg (lP y.m.key))/\x.n.s.k.m.ready=(0:Int)/\Exists (tJ x.l x.cap fun z=>aI (az (Rg.lK z.l) (rA x.ep x.n.s.k.m.aQ False (az (x.ep == x.n.s.k.m.aQ) (NT x) (NT x))) (∃u:NS,ag (0=0)/\ag (0=0)/\lQ x.p u.p x.n x.q (ax (x.n.id=x.q.id/\False)))))))))) (by kernel_rfl) (by
 delta az ai aK dW ah b8 bE bJ aH af aR bh iz ua kU cu aC fC bq FP cS nL aW oM ct iM bN aI Bd dL NT kV kE mS cD qE ag lQ lP pJ cT ax bg tM jC tJ Ap gV rA xR od kG Iy AE D8 Dz
 try dsimp -iota -proj only
 intro a ok;obtain⟨n,p,ob,ep,tick,l,cap⟩:=a;obtain⟨hat,hm,hl,hws,⟨e1,e2,e3,e4⟩,hnow,hfew,⟨f1,f2,f3⟩,⟨k1,k2,k3,k4,k5,k6⟩,hsv⟩:=ok;dsimp only at *;have ho:l=[]\/Rg.lK l=true:=.inr hl;have hl1:l.length<100000:=by have:=Rg.DX hl;omega
 have hz:(!decide ((I6 n ob ep tick).key.size<=40))=false:=rfl;have hne:(ep == n.s.k.m.aQ)=false:=by rw[beq_eq_false_iff_ne];omega
 refine fun _ _=>⟨fun c=>by simp at c,fun _=>⟨Bl.mk (I6 n ob ep tick) l cap,?_⟩⟩
 and_intros<;>first|exact bW|exact hm|exact ho|(intro h_;revert h_)|exact bX|skip
 intro _ _;refine⟨hz,e4,⟨l,cap⟩,?_⟩
 and_intros<;>first|exact bW|exact hl1|(intro h_;revert h_)|exact bX|skip
 intro _ _;refine⟨fun _ _=>⟨fun c=>by(have:=of_decide_eq_true c;omega),fun _ _=>⟨fun c=>absurd (c.symm.trans hne) (by decide),fun _ _ _=>⟨hne,fun _=>⟨?_,KH.mk n.s.fl p.p.fl,?_⟩⟩⟩⟩,fun c=>by(rw[hl]at c;cases c)⟩
 ·rw[e4];simp;omega
 have hfl:jm n.s.fl p.p.fl:=hat.st.fl;have f4:(iF n.s.fl [2]).d.calls<1000000000000:=by omega
 and_intros<;>first|exact bW|exact hfl|exact f1|exact f2|exact f4|(intro h_;revert h_)|exact bX|skip
 rintro b ⟨b1,b2⟩ _;refine⟨Ij.mk n.s.k p.p.kc (jq n.s.fl).d (vC n ep),?_⟩
 and_intros<;>first|exact bW|exact k1|exact k2|exact k3|exact k4|exact k5|exact k6|(intro h_;revert h_)|exact bX|skip
 intro kc _;have hN:(!Rg.lK l)=false:=by rw[hl];rfl
 refine⟨fun c=>by(have:=of_decide_eq_true c;omega),fun _=>⟨fun c=>by(have:=of_decide_eq_true c;omega),fun _=>⟨⟨l,cap⟩,?_⟩⟩⟩
 and_intros<;>first|exact bW|exact hl1|(intro h_;revert h_)|exact bX|skip
 intro _ _;refine⟨hN,⟨l,cap⟩,?_⟩
 and_intros<;>first|exact bW|exact hl1|(intro h_;revert h_)|exact bX|skip
 intro c1 _;refine⟨⟨l,cap⟩,?_⟩
 and_intros<;>first|exact bW|exact hl1|(intro h_;revert h_)|exact bX|skip
 intro c2 _;have hks:=Rs b1.idx;have hlen:b.x.t.length<100000:=by have:=b1.idx.inv.hi;omega
 refine⟨Ix.uh.mk b.x b.cap pX,?_⟩
 and_intros<;>first|exact bW|exact hlen|(intro h_;revert h_)|exact bX|skip
 intro _ _;have hk0:((Ix.keysOf b.x.t).length:Int)=0:=by rw[hks];rfl
 obtain⟨w1,w2⟩:=hat.st.Z4 (s':=EH n.s) b1 b2 rfl rfl;have w3:pF (Nj (EH n.s) (vC n ep)) { p.p.Bn b with kc:=kc }:=⟨⟨w1.fl.log,w1.fl.idx⟩,w1.jl,w1.sep,w1.cap⟩
 have hat1:=hat.store w3 w2;have hf2:n.t.l.length<100000:=by omega
 have htk:gC b.H n.t:=hat1.tok;refine⟨hk0,KK.mk p.mb n.t b.H,?_⟩
 and_intros<;>first|exact bW|exact htk|exact hf2|(intro h_;revert h_)|exact bX|skip
 rintro⟨H1,cnt⟩ ⟨q1,q2⟩;have hat2:=hat1.Xv q1 q2;have hw0:(n.ws.length:Int)=0:=by rw[hws];rfl
 refine⟨hw0,fun _ _=>⟨FY.mk ⟨0,0,0⟩ n.now tick ep,?_⟩⟩
 and_intros<;>first|exact bW|exact hnow|(intro h_;revert h_)|exact bX|skip
 intro _ _;refine⟨NS.mk ⟨{ p.p.Bn b with kc:=kc,H:=H1 },p.mb,0,p.rc⟩ c1 c2,?_⟩;have hat3:dB (Rr n ep tick) ⟨{ p.p.Bn b with kc:=kc,H:=H1 },p.mb,0,p.rc⟩:=⟨hat2.st,hat2.tok,hat2.sep,Nat.le_refl 0,hat2.rc⟩
 have eN:pP.q ⟨n,p,ob,ep,tick,l,cap⟩=Rr n ep tick:=rfl;rw[eN];dsimp only
 and_intros<;>first|exact bW|exact hat3|(intro h_;revert h_)|exact bX|skip)
theorem Ei:au (Y Tryz.prog).G.X 16 K3:=aU fL Vn ⟨KU,Rg.qS,Rp,QV,FD,Rg.Rk,Rg.Rc,Ix.UF,Ns,trivial⟩
structure jK(n:cw)(k:Nat)(get:ByteArray->Option aB)(cb jb:Nat):Prop where
 one:∃c es,dF n.s c es cb jb/\gE es=get/\c<=2000+100*k
 lt:k<100
 met:n.s.k.m.ready=0/\n.s.k.m.frozen=false/\0<=n.s.k.m.bK/\n.s.k.m.bK<1000/\0<=n.s.k.m.aQ/\n.s.k.m.aQ<1000
 id:1<=n.id/\n.id<=5
 now:0<=n.now/\n.now<1000
 num:0<=n.asked/\n.asked<=k/\0<=n.t.last/\n.t.last<=k/\n.t.l.length<=k/\n.ws.length<=k/\n.rs.length<=k
 rs:∀x∈n.rs,cN x.w.key=true/\0<=x.tok/\x.tok<=k
theorem dF.wide{s:lT}{n:Nat}{es:List (Option aB)}{cb jb:Nat}(h:dF s n es cb jb){cb':Nat}(hc:cb<=cb'):dF s n es cb' jb:=by
 obtain⟨cr,h1,h2⟩:=h.fl;exact⟨⟨cr,h1,by omega⟩,h.jl,h.jb,h.ms,h.nx,h.Xp,h.dn,h.keep,h.bK⟩
theorem jK.make{id now:Int}{d:bA}(h1:1<=id/\id<=5)(h2:0<=now/\now<1000)(hn:192<=d.n/\d.n<1500)(hc:d.calls=0)(H:PH):DU.pre ⟨id,now,d,H⟩/\jK (p9 ⟨id,now,d,H⟩) 0 (fun _=>none) 0 0:=by
 obtain⟨m1,m2,m3,m4,_⟩:=x7 (c:=0) (show 192<=d.n/\d.n<3000 by omega) (by omega) (by omega) H;have hm:(p9 ⟨id,now,d,H⟩).s.k.m=⟨1,0,0,false⟩:=m3;refine⟨⟨h1.1,h1.2,m1⟩,⟨_,_,m2,rfl,by omega⟩,by omega,by rw[hm];decide,h1,h2,?_,fun x hx=>by cases hx⟩;exact⟨Int.le_refl 0,Int.le_refl 0,Int.le_refl 0,Int.le_refl 0,Nat.le_refl 0,Nat.le_refl 0,Nat.le_refl 0⟩
theorem Rt:FU 0:=⟨Int.le_refl 0,by decide⟩
theorem Vo{n:cw}{ob ep tick:Int}(hf:0<=ob/\ob<=5/\ob≠n.id)(hid:1<=n.id/\n.id<=5)(he:0<=ep/\ep<1000)(ht:0<=tick/\tick<1000):D7 (I6 n ob ep tick) :=
 ⟨(show(1:Int)<=2/\(2:Int)<=14 by omega),hf.2.2,⟨hf.1,hf.2.1⟩,(show 0<=n.id/\n.id<=5 by omega),(show 0<=ep/\ep<=_ by omega),(show 0<=tick/\tick<=_ by omega),Rt,Rt,Rt,(show(0:Int)<=0/\(0:Int)<=1073741824 by omega),(show(0:Int)<=0/\(0:Int)<=2 by omega),(show(0:Int)<=0/\(0:Int)<=10 by omega),.inl rfl⟩
theorem jK.gr{n:cw}{p:fI}{k:Nat}{get:ByteArray->Option aB}{cb jb:Nat}(h:jK n k get cb jb)(hat:dB n p){ob ep tick:Int}{l:List Int}{cap:Nat}(hf:0<=ob/\ob<=5/\ob≠n.id)(he:n.s.k.m.aQ<ep/\ep<1000)(ht:0<=tick/\tick<1000)(hl:Rg.lK l=true)(hw:n.ws=[])(hfit:cb+9<=378)(hk:k<99) :
 Pe ⟨n,p,ob,ep,tick,l,cap⟩/\jK (Rr n ep tick) (k+1) (fun _=>none) (cb+9) jb/\(Rr n ep tick).s.k.m.aQ=ep:=by
 obtain⟨c,es,o1,o2,o3⟩:=h.one;have hn:=h.num;have hm:=h.met;have hid:=h.id;have hnw:=h.now;obtain⟨w1,w2,w3,w4⟩:=o1.YF (by omega) hfit;have hms:nD (vC n ep)=true:=by
  have a1:By n.s.k.m.bK=true:=by simp only[By,Bool.and_eq_true,decide_eq_true_eq];omega
  have a2:By ep=true:=by simp only[By,Bool.and_eq_true,decide_eq_true_eq];omega
  unfold nD vC;dsimp only;rw[a1,a2];rfl
 have hsv:gH n.s.k (vC n ep)=true:=by
  unfold gH;rw[hms,show decide ((vC n ep).bK<n.s.k.m.bK)=false from decide_eq_false (by show ¬(n.s.k.m.bK<n.s.k.m.bK);omega),show decide ((vC n ep).aQ<n.s.k.m.aQ)=false from decide_eq_false (by show ¬(ep<n.s.k.m.aQ);omega)];rfl
 obtain⟨s1,s2,s3,s4⟩:=w1.save (m:=vC n ep) hsv (by show n.s.k.m.bK=n.s.bK;exact o1.bK.symm) (by omega);obtain⟨cr,hfl,hcb⟩:=w1.fl;have hcl:(EH n.s).d.calls<=c+21:=hfl.one.log.calls;have hcl2:(EH n.s).d.calls=(iF n.s.fl [2]).d.calls+1:=rfl;have hdn:=w1.dn;have hkp:=o1.keep;have hms2:(Rr n ep tick).s.k.m=vC n ep:=s2;refine⟨⟨hat,Vo (n:=n) (ob:=ob) (ep:=ep) (tick:=tick) hf hid ⟨by omega,by omega⟩ (by omega),hl,hw,by dsimp only;omega,by dsimp only;omega,by dsimp only;omega,⟨w2,w3,by dsimp only;omega⟩,⟨by have:=hkp.at_;dsimp only;omega,hkp.slot,by dsimp only;omega,by dsimp only;omega,by have:=hkp.fo;dsimp only;omega,by have:=hkp.fo;dsimp only;omega⟩,hsv⟩,⟨⟨_,_,s1,by funext q;exact WV _ q,by omega⟩,by omega,by rw[hms2];exact⟨rfl,rfl,hm.2.2.1,hm.2.2.2.1,by show 0<=ep;omega,he.2⟩,hid,hnw,⟨hn.1,by show n.asked<=_;push_cast;omega,hn.2.2.1,by show n.t.last<=_;push_cast;omega,by show(gN n.t wv).l.length<=_;unfold gN;rw[List.length_map];omega,Nat.zero_le _,by show n.rs.length<=_;omega⟩,fun x hx=>by have:=h.rs x hx;exact⟨this.1,this.2.1,by push_cast;omega⟩⟩,by rw[hms2];rfl⟩
theorem FZ{k:ByteArray}(h:k.size<64):(aJ (some (iO k))).length=k.size+5:=DG (x:=iO k) h (by show(0:Nat)<64;omega) rfl
theorem Ej{s:Nat}(h:s<63)(k:ByteArray):(dP ((s:Int)+1) k).length=k.size+1:=by
 unfold dP;rw[List.length_append,je,DF (by omega)];omega
theorem jK.ask{n:cw}{p:fI}{r:Rg.ef}{w:lq}{k:Nat}{get:ByteArray->Option aB}{cb jb:Nat}(h:jK n k get cb jb)(hat:dB n p)(hr:r.L.length<100000/\0<r.L.length)(hk:w.key.size<=aq)(hkill:w.op=2->cN w.key=true->cb+(w.key.size+13)<=378/\jb+(w.key.size+9)<=378):nM ⟨n,p,r,w,get w.key⟩:=by
 obtain⟨c,es,o1,o2,o3⟩:=h.one;subst o2;have hn:=h.num;have hm:=h.met;have hkk:=h.lt;have hb:=o1.bK;obtain⟨g1,g2⟩:=o1.get w.key;refine⟨hat,hr,hk,hm.2.1,by dsimp only;omega,by dsimp only;omega,by dsimp only;omega,g1,g2,fun h1 h2=>?_⟩;have h2:cN w.key=true:=h2;obtain⟨f1,f2⟩:=hkill h1 h2;have hl:=o1.len;have hks:=kS h2;have hA:fS [w.key]=true:=by simp[fS,h2]
 have h0:∀i,i < [w.key].length->gl [w.key] i=w.key:=fun i hi=>by
  have:i=0:=by simp at hi;omega
  subst this;rfl
 have hwj:∀i,i < [w.key].length->8+(dP (n.s.ms.length+i+1) (gl [w.key] i)).length<=w.key.size+9:=fun i hi=>by
  have:i=0:=by simpa using hi
  subst this;have e:((n.s.ms.length:Int)+((0:Nat):Int)+1)=(n.s.ms.length:Int)+1:=by omega
  rw[h0 0 (by simp),e,Ej (s:=n.s.ms.length) (by omega) w.key];omega
 have hwc:∀i,i < [w.key].length->8+(aJ (some (iO (gl [w.key] i)))).length<=w.key.size+13:=fun i hi=>by(rw[h0 i hi,FZ (k:=w.key) (by omega)];exact(show 8+(w.key.size+5)<=w.key.size+13 by omega))
 have hK:=(o1.kill (ks:=[w.key]) hA (wj:=w.key.size+9) (wc:=w.key.size+13) hwj hwc (by omega) (by rw[List.length_singleton];omega) (by rw[List.length_singleton];omega) (by rw[List.length_singleton];omega)).1;exact hK p.p 1
theorem jK.kill{n:cw}{key:ByteArray}{k:Nat}{get:ByteArray->Option aB}{cb jb:Nat}(h:jK n k get cb jb)(hk:cN key=true)(f1:cb+(key.size+13)<=378)(f2:jb+(key.size+9)<=378)(h99:k<99):jK (q9 n key) (k+1) (yL get key none) (cb+(key.size+13)) (jb+(key.size+9))/\(q9 n key).s.k=n.s.k:=by
 obtain⟨c,es,o1,o2,o3⟩:=h.one;subst o2;have hn:=h.num;have hl:=o1.len;have hks:=kS hk;have hA:fS [key]=true:=by simp[fS,hk]
 have h0:∀i,i < [key].length->gl [key] i=key:=fun i hi=>by
  have:i=0:=by simp at hi;omega
  subst this;rfl
 have hwj:∀i,i < [key].length->8+(dP (n.s.ms.length+i+1) (gl [key] i)).length<=key.size+9:=fun i hi=>by
  have:i=0:=by simpa using hi
  subst this;have e:((n.s.ms.length:Int)+((0:Nat):Int)+1)=(n.s.ms.length:Int)+1:=by omega
  rw[h0 0 (by simp),e,Ej (s:=n.s.ms.length) (by omega) key];omega
 have hK:=(o1.kill hA (wj:=key.size+9) (wc:=key.size+13) hwj (fun i hi=>by rw[h0 i hi,FZ (k:=key) (by omega)];omega) (by omega) (by rw[List.length_singleton];omega) (by rw[List.length_singleton];omega) (by rw[List.length_singleton];omega)).2;have hk2:(q9 n key).s.k=n.s.k:=hK.k.1;have h1:=hK.one;simp only[List.length_singleton,Nat.mul_one,List.map_cons,List.map_nil]at h1;refine⟨⟨⟨_,_,h1,?_,by omega⟩,by omega,by rw[hk2];exact h.met,h.id,h.now,⟨hn.1,by show n.asked<=_;push_cast;omega,hn.2.2.1,by show n.t.last<=_;push_cast;omega,by show(gN n.t _).l.length<=_;unfold gN;rw[List.length_map];omega,by show n.ws.length<=_;omega,by show n.rs.length<=_;omega⟩,fun x hx=>by have:=h.rs x hx;exact⟨this.1,this.2.1,by push_cast;omega⟩⟩,hk2⟩;rw[wh];rfl
theorem jK.read{n:cw}{w:lq}{b:Nat}{k:Nat}{get:ByteArray->Option aB}{cb jb:Nat}(h:jK n k get cb jb)(hk:cN w.key=true)(h99:k<99):jK (e9 n w b) (k+1) get cb jb:=by
 obtain⟨c,es,o1,o2,o3⟩:=h.one;have hn:=h.num;refine⟨⟨c,es,o1,o2,by omega⟩,by omega,h.met,h.id,h.now,⟨hn.1,by show n.asked<=_;push_cast;omega,by show 0<=n.t.last+1;omega,by show n.t.last+1<=_;push_cast;omega,by show(n.t.l++[_]).length<=_;rw[List.length_append,List.length_singleton];omega,by show n.ws.length<=_;omega,by show(n.rs++[_]).length<=_;rw[List.length_append,List.length_singleton];omega⟩,fun x hx=>?_⟩;rcases List.mem_append.1 hx with hx|hx
 ·have:=h.rs x hx;exact⟨this.1,this.2.1,by push_cast;omega⟩
 ·rw[List.mem_singleton]at hx;subst hx;exact⟨hk,by show 0<=n.t.last+1;omega,by show n.t.last+1<=_;push_cast;omega⟩
theorem jK.red{n:cw}{p:fI}{r:Rg.ef}{i:Nat}{val:ByteArray}{has:Bool}{k:Nat}{get:ByteArray->Option aB}{cb jb:Nat}(h:jK n k get cb jb)(hat:dB n p)(hr:r.L.length<100000/\0<r.L.length)(hi:i<n.rs.length)(hv:val.size<64)(hfit:cb+((gl n.rs i).w.key.size+val.size+13)<=378)(h99:k<99) :
 Eg ⟨n,p,r,i,val,has⟩/\jK (jt n r i val has) (k+1) (if nB n r (gl n.rs i) val has=true then yL get (gl n.rs i).w.key (some (ig (gl n.rs i) (ic val has)))else get) (cb+((gl n.rs i).w.key.size+val.size+13)) jb/\(jt n r i val has).s.k=n.s.k:=by
 obtain⟨c,es,o1,o2,o3⟩:=h.one;subst o2;have hn:=h.num;have hmem:gl n.rs i∈n.rs:=by rw[bT hi];exact List.getElem_mem _
 obtain⟨x1,x2,x3⟩:=h.rs _ hmem;obtain⟨x,hx⟩:∃x,x=gl n.rs i:=⟨_,rfl⟩
 rw[<- hx]at x1 x2 x3 hfit ⊢;have hks:=kS x1;have hvs:(ic val has).size<=val.size:=by
  unfold ic;cases has
  ·exact Nat.zero_le _
  ·exact Nat.le_refl _
 have hlen:(aJ (some (ig x (ic val has)))).length=x.w.key.size+(ic val has).size+5:=DG (x:=ig x (ic val has)) (by show x.w.key.size<64;omega) (by show(ic val has).size<64;omega) rfl;have hpo:kg (ig x (ic val has))=true:=Eh x1 (by omega);obtain⟨p1,p2⟩:=o1.put hpo (w:=x.w.key.size+val.size+13) (by rw[hlen];omega) (by omega) hfit;obtain⟨cr,hfl,hcb⟩:=p1.fl;have hcl:(KB n.s (ig x (ic val has))).d.calls<=c+20:=hfl.one.log.calls;have hdn:=p1.dn;have hrd:mA.rd ⟨n,p,r,i,val,has⟩=x:=hx.symm;have hsz:∀(a b:cw),a.rs=n.rs.eraseIdx i->a.rs.length<=k:=fun a _ e=>by rw[e,List.length_eraseIdx];split<;>omega
 have hul:(nu n.t x.tok).l.length<=k:=Nat.le_trans (List.length_filter_le _ _) (by omega);have hrs:∀y∈n.rs.eraseIdx i,cN y.w.key=true/\0<=y.tok/\y.tok<=((k+1:Nat):Int):=fun y hy=>by
  have:=h.rs y (List.eraseIdx_subset hy);exact⟨this.1,this.2.1,by push_cast;omega⟩
 have hel:(n.rs.eraseIdx i).length<=k:=by rw[List.length_eraseIdx];split<;>omega
 have hnum:0<=n.asked/\n.asked<=((k+1:Nat):Int)/\0<=n.t.last/\n.t.last<=((k+1:Nat):Int)/\(nu n.t x.tok).l.length<=k+1/\n.ws.length<=k+1/\(n.rs.eraseIdx i).length<=k+1:=by push_cast;omega
 refine⟨⟨hat,hr,h.met.2.1,hi,by dsimp only;omega,by rw[hrd];simp only[bR];omega,by rw[hrd];exact x1,by show val.size<=aq;unfold aq;omega,fun _=>by rw[hrd];exact p2,fun _=>by rw[hrd];dsimp only;omega⟩,?_⟩;by_cases hf:nB n r x val has=true
 ·have eT:jt n r i val has={ n with rs:=n.rs.eraseIdx i,t:=nu n.t x.tok,s:=Xq (KB n.s (ig x (ic val has))) }:=by unfold jt;rw[<- hx,if_pos hf]
  rw[if_pos hf,eT];exact⟨⟨⟨_,_,p1.flush,by rw[wh];rfl,by omega⟩,by omega,h.met,h.id,h.now,hnum,hrs⟩,rfl⟩
 ·have eT:jt n r i val has={ n with rs:=n.rs.eraseIdx i,t:=nu n.t x.tok }:=by unfold jt;rw[<- hx,if_neg hf]
  rw[if_neg hf,eT];exact⟨⟨⟨c,es,o1.wide (by omega),rfl,by omega⟩,by omega,h.met,h.id,h.now,hnum,hrs⟩,rfl⟩
end Go.Proofs.YtfjgoonelcaggaaGreat
