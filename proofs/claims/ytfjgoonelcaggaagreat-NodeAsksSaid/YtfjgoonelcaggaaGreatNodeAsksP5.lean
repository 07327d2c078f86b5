/-
  
-/
import Derived.Test.YtfjgoonelcaggaaGreatNodeAsksP4
import Derived.Sort.KeysCollected
import Derived.Test.YtfjgoonelcaggaaGreatNodeAsksP2
import Derived.Below
import Derived.ChangeSame
import Derived.Carry
import Derived.ChangeArms
import Derived.OpenShut
import Derived.RowKit3
import Derived.Test.YtfjgoonelcaggaaGreatNodeAsksP3
import Derived.Shelf.SlSortCmp.WholeK
import Derived.Shelf.SlSortCmp.NoneTotal
import Derived.Test.YtfjgoonelcaggaaGreatProg
import Derived.ProofKit
import Derived.WalkKit
set_option maxRecDepth 100000
set_option maxHeartbeats 4000000
set_option linter.unusedVariables false
set_option linter.unusedSimpArgs false
namespace Go.Proofs.YtfjgoonelcaggaaGreat.Ix
open Go.Sx
def jZ(b:ByteArray):List Value:=[.string b]
def tl(b:ByteArray):List UInt8:=b.data.toList
def xV(l:List ByteArray):List ByteArray:=((l.map tl).mergeSort fun x y=>decide (x<=y)).map fun x=>⟨x.toArray⟩
theorem R5(l:List ByteArray):(xV l).map tl=(l.map tl).mergeSort fun x y=>decide (x<=y):=by
 unfold xV;rw[List.map_map];exact(List.map_congr_left fun x _=>by simp[tl]).trans (List.map_id _)
theorem Ju(l:List ByteArray):(xV l).length=l.length:=by simp[xV]
theorem LK(l:List ByteArray):(l.map tl).map (fun x=>(⟨x.toArray⟩:ByteArray))=l:=by
 rw[List.map_map];refine(List.map_congr_left fun x _=>?_).trans (List.map_id _);cases x;simp[tl]
theorem Ob(l:List ByteArray):(xV l).Perm l:=by
 have:=(List.mergeSort_perm (l.map tl) fun x y=>decide (x<=y)).map fun x=>(⟨x.toArray⟩:ByteArray)
 rwa[LK]at this
theorem VE:au (Y Tryz.prog).G.X 227 (zV 9 .str Value.string xV):=fun _ _ _ h =>
 xk (VD (enc2:=encStr) (to:=tl) (srt2:=fun l=>l.mergeSort fun x y=>decide (x<=y)) (fun x=>by cases x;simp[tl,encStr]) R5 Ju (fun l x hx=>(Ob l).mem_iff.1 hx)
  (fun blk off cap l w h1 h2 h3=>Tryz.slices_Sort_string blk off cap l w h1 h2 h3) (fun p cap w=>Tryz.slices_Sort_string_none p cap w)) h
def keysOf(t:List bA):List ByteArray:=(eU t).map Prod.fst
noncomputable def VF:cG where
 α:=vj
 β:=Nat
 m:=2
 m':=3
 pre:=fun a=>a.x.t.length<100000
 args:=fun _=>[.a (.ptr 0 0 0 0)]
 hp:=fun _=>[]
 ro:=fun a=>qh 0 1 a.x.t a.cap a.x.n a.x.used
 post:=fun _ _=>True
 res:=fun a cap=>.a (.slc 2 0 1 (keysOf a.x.t).length cap)
 cR:=fun a _=>[(2,.arr 9 [.str] (keysOf a.x.t).length (aa jZ (xV (keysOf a.x.t))))]
def aaV(a:vj):An:=.flat 5 (Nat×Nat) (fun s x=>((s.new (.arr 9 [.str] (keysOf (a.x.t.take x.1)).length (aa jZ (keysOf (a.x.t.take x.1))))).set 3 (.a (.slc s.nx 0 1 (keysOf (a.x.t.take x.1)).length x.2))).int 13 x.1) (fun _ x=>x.1<=a.x.t.length) (fun _ x=>a.x.t.length-x.1)
theorem LL{t:List bA}{i:Nat}(h:i<t.length):keysOf (t.take (i+1))=keysOf (t.take i)++if(gl t i).has then[(gl t i).key]else[]:=by
 unfold keysOf;rw[fD h,zM,List.map_append,qA];cases(gl t i).has<;>simp[eU,nH]
theorem GD(t:List bA):(keysOf t).length<=t.length:=by
 unfold keysOf eU;simp only[List.length_map];exact List.length_filter_le _ _
def _root_.lD(y:Nat×Nat)(z:Ix.vj):List ByteArray:=Ix.keysOf (List.take y.fst z.x.t)
def _root_.Jv(y:Ix.vj)(z u:Prop):=fe (cq y.x) y.cap (bI (ag (z/\bh (cq y.x) y.cap/\aP y.x.n (aP y.x.used (eF (cq y.x) 4 (ef y.x)/\u)))))
theorem VG:fnBody (Y Tryz.prog) [(227,zV 9 .str Value.string xV)] 194 VF fun a=>[(194,[aaV a],[])]:=fnBody.of (p :=
 ∀y:Ix.vj,cq y.x<100000->(∃z:Nat×Nat,aT z.fst ((0=bl (lD z y)/\0=z.snd)/\Jv y (bl (lD z y)=0) (z.fst<=cq y.x/\True)))/\∀z:Nat×Nat,gm z.fst (cq y.x) (aD (Ix.bA.has (kC y.x.t z.fst)) (jE (bl (lD z y)) 16 z.snd fun u=>iS z fun v=>ag (bl (lD z y)+1=bl (lD v y)/\u=v.snd)/\Jv y (iA (bl (lD v y)) (bl (lD z y)) 1 (aa Ix.jZ (lD z y)) (bP (bJ (Ix.bA.key (kC y.x.t z.fst)))) (aa Ix.jZ (lD v y))) (bS v.fst (cq y.x) z.fst)) (iS z fun u=>ag (bl (lD z y)=bl (lD u y)/\z.snd=u.snd)/\Jv y (Ew (lD u y) (lD z y) Ix.jZ) (bS u.fst (cq y.x) z.fst))) (∃u:P7 ByteArray,gJ (bl (lD z y)) (bl u.l) z.snd u.cap 1 (aa Ix.jZ (lD z y)) (aa (fun v=>bP (bJ v)) u.l) (bl u.l<100000/\aB (∃v:Nat,ag (bl (lD z y)=bl (Ix.keysOf y.x.t)/\z.snd=v)/\bt (aG (bl (Ix.keysOf y.x.t)) (bl u.l) 1 (aa (fun w=>bP (bJ w)) (Ix.xV u.l)) (aa Ix.jZ (Ix.xV (Ix.keysOf y.x.t)))))))) (by kernel_rfl) (by
 delta aD eF ai bF aG ay ax bn gC dm aK aY cq af bl bP bf aC aR bw dV aB jD fe jE bI iA bS aP bJ bh iS gJ lD bM aT ag Jv aQ gm dh ef jF Ew bt kC
 try dsimp -iota -proj only
 intro a h;refine⟨⟨(0,0),?_⟩,fun x hx=>⟨fun c1=>?_,fun c1=>?_⟩⟩
 ·dsimp only;have e:keysOf (a.x.t.take 0)=[]:=rfl;rw[e]
  and_intros<;>first|rfl|trivial|exact Nat.le_refl _|omega|(dsimp only;omega)|exact ak.refl _ _ _
 ·obtain⟨i,cap0⟩:=x;simp only[decide_eq_true_eq]at c1;have hi:i<a.x.t.length:=by omega
  have hle:=GD (a.x.t.take i);rw[List.length_take]at hle;have hst:=LL hi;simp only[Nat.zero_add,Int.toNat_natCast,bR];refine⟨by omega,by omega,fun hh=>⟨by omega,by omega,by omega,fun cap _ _ _=>⟨by omega,⟨(i+1,cap),?_⟩⟩⟩,fun hh=>⟨by omega,⟨(i+1,cap0),?_⟩⟩⟩
  ·rw[hh]at hst;dsimp only;rw[hst]
   and_intros<;>first|rfl|trivial|exact Nat.le_refl _|omega|(dsimp only;omega)|exact ak.refl _ _ _|(simp;done)|exact .push rfl (by simp) rfl
  ·rw[hh]at hst;simp only[Bool.false_eq_true,if_false,List.append_nil]at hst;dsimp only;rw[hst]
   and_intros<;>first|rfl|trivial|exact Nat.le_refl _|omega|(dsimp only;omega)|exact ak.refl _ _ _
 ·obtain⟨i,cap0⟩:=x;simp only[decide_eq_false_iff_not]at c1
  have hi : i = a.x.t.length := by have : i ≤ a.x.t.length := hx
                                   omega
  subst hi;have hle:=GD a.x.t;rw[List.take_length];refine⟨⟨keysOf a.x.t,cap0⟩,?_⟩
  and_intros<;>first|rfl|trivial|exact Nat.le_refl _|omega|(dsimp only;omega)|exact ak.refl _ _ _|skip
  refine fun _ _=>⟨cap0,?_⟩
  and_intros<;>first|rfl|trivial|exact Nat.le_refl _|omega|(dsimp only;omega)|exact ak.refl _ _ _)
theorem VH:au (Y Tryz.prog).G.X 194 VF:=aU fF VG ⟨VE,trivial⟩
end Go.Proofs.YtfjgoonelcaggaaGreat.Ix
namespace Go.Proofs.YtfjgoonelcaggaaGreat
open Go.Sx
def va(get:ByteArray->Option aH)(o:Option aH):ByteArray->Option aH:=match o with
 |none=>fun _=>none
 |some x=>Cq get x.key (if x.gone then none else some x)
def gE(es:List (Option aH)):ByteArray->Option aH:=es.foldl va fun _=>none
theorem xD(es:List (Option aH))(o:Option aH):gE (es++[o])=va (gE es) o:=by simp[gE]
structure nK(m:oN)(n:Nat)(rs:List RecM)(es:List (Option aH)):Prop where
 one:rW m n rs (gE es)
 len:es.length=rs.length
 body:∀i,i<es.length->(gl rs i).body=aL (gl es i)/\∀x,gl es i=some x->gh x=true
theorem GF{rs:List RecM}{es:List (Option aH)}{p:Int}{x:aH}(hl:es.length=rs.length)(h:∀i,i<es.length->(gl rs i).body=aL (gl es i)/\∀x,gl es i=some x->gh x=true)(hx:gh x=true) :
 (es++[some x]).length=(rs++[(⟨p,aL (some x)⟩:RecM)]).length/\∀i,i<(es++[some x]).length->(gl (rs++[(⟨p,aL (some x)⟩:RecM)]) i).body=aL (gl (es++[some x]) i)/\∀z,gl (es++[some x]) i=some z->gh z=true:=by
 refine⟨by simp[hl],fun i hi=>?_⟩;rw[List.length_append,List.length_singleton]at hi;rw[lq hi,lq (by rw[<- hl];exact hi),hl];by_cases hin:i<rs.length
 ·rw[if_pos hin,if_pos hin];exact h i (by omega)
 ·rw[if_neg hin,if_neg hin];exact⟨rfl,fun z e=>by cases e;exact hx⟩
theorem nK.put{m:oN}{n:Nat}{rs:List RecM}{es:List (Option aH)}(h:nK m n rs es){x:aH}(hx:kK x=true)(hn:m.L.next<9999999999)(hfit:(eL rs).length+8+(aL (some x)).length<=378) :
 nK (ou m x) (n+20) (rs++[⟨m.L.next,aL (some x)⟩]) (es++[some x])/\(ou m x).L.next=m.L.next+1/\(ou m x).L.av=m.L.av/\(ou m x).L.from_=m.L.from_:=by
 have hx2:gh x=true/\x.gone=false:=by unfold kK at hx;simpa using hx
 obtain⟨h1,h2⟩:=h.one.put hx hn hfit;obtain⟨b1,b2⟩:=GF (p:=m.L.next) h.len h.body hx2.1;refine⟨⟨?_,b1,b2⟩,h2⟩;rw[xD];simp only[va,hx2.2];exact h1
theorem nK.drop{m:oN}{n:Nat}{rs:List RecM}{es:List (Option aH)}(h:nK m n rs es){k:ByteArray}(hk:dN k=true)(hn:m.L.next<9999999999)(hfit:(eL rs).length+8+(aL (some (jd k))).length<=378) :
 nK (o4 m k) (n+20) (rs++[⟨m.L.next,aL (some (jd k))⟩]) (es++[some (jd k)])/\(o4 m k).L.next=m.L.next+1/\(o4 m k).L.av=m.L.av/\(o4 m k).L.from_=m.L.from_:=by
 obtain⟨h1,h2⟩:=h.one.drop hk hn hfit;obtain⟨b1,b2⟩:=GF (p:=m.L.next) h.len h.body (A9 hk);refine⟨⟨?_,b1,b2⟩,h2⟩;rw[xD];exact h1
theorem nK.new{fr sg:Nat}{d:bG}{n:Nat}{run:Int}(h3:3<=sg/\sg<=200)(hr:fr+sg*8<=d.n)(hn:d.n<100000)(hc:d.calls<=n)(hd:zT fr sg none run d):nK (newF fr sg d) n [] []:=⟨rW.new h3 hr hn hc hd,rfl,fun i hi=>absurd hi (Nat.not_lt_zero i)⟩
theorem Bn(L:b8)(d:bG)(body:List Int):(oT L d body).n=d.n:=by
 have h1:(lz L d body.length).n=d.n:=by unfold lz;split<;>rfl
 have h2:=(uo (dr L body.length) (La (kJ (dr L body.length)) (dr L body.length).next body) (kJ (dr L body.length)).buf.length (lz L d body.length) 8).1;unfold oT rU;split
 ·exact h2.trans h1
 ·exact h2.trans h1
theorem Ey{n:Int}(h:n.toNat<64):(vi n).length=1:=by
 have:=wo 0 n (by simp;omega);have:=(jf n).1;omega
theorem Ez{x:aH}(h1:x.key.size<64)(h2:x.val.size<64)(h3:x.e=0):(aL (some x)).length=x.key.size+x.val.size+5:=by
 have a1:(vi (x.key.size:Nat)).length=1:=Ey (by omega);have a2:(vi (x.val.size:Nat)).length=1:=Ey (by omega);have a3:(vi x.e).length=1:=Ey (by rw[h3];decide);have a4:(vi (if x.gone then 1 else 0)).length=1:=by split<;>exact Ey (by decide)
 simp only[aL,List.length_cons,de,fk,iN,List.flatMap_cons,List.flatMap_nil,List.append_nil,List.length_append,jw];omega
theorem GG{L:b8}{g:dJ}{i:Nat}(hi:i<8)(h3:1<=L.av):L.from_<=kH L g i/\kH L g i<L.from_+L.av*8:=by
 have:=Nat.mod_lt (g.gen-1).toNat (show 0<L.av by omega);unfold kH;omega
theorem zW{L:b8}{g:dJ}{was:Nat}{d:bG}(h3:1<=L.av){r j:Nat}(hr:r<L.from_\/L.from_+L.av*8<=r):∀n,n<=8->(dw L g was d n).now r j=d.now r j
 |0,_=>rfl
 |n+1,hn=>by
  have ih:=zW (g:=g) (was:=was) (d:=d) h3 (j:=j) hr n (by omega);have hs:=GG (L:=L) (g:=g) (i:=n) (by omega) h3;unfold dw;split
  ·show(if r=kH L g n/\j<64 then _ else(dw L g was d n).now r j)=_;rw[if_neg (by omega)];exact ih
  ·exact ih
theorem EA{L:b8}{d:bG}{body:List Int}(h3:1<=L.av){r j:Nat}(hr:r<L.from_\/L.from_+L.av*8<=r):(oT L d body).now r j=d.now r j:=by
 have e1:(dr L body.length).from_=L.from_/\(dr L body.length).av=L.av:=by unfold dr;split<;>exact⟨rfl,rfl⟩
 have e2:(lz L d body.length).now r j=d.now r j:=by
  unfold lz;split
  ·have hs:=GG (L:=L) (g:=bx L) (i:=0) (by omega) h3;show(if r=kH L (bx L) 0/\j<64 then _ else d.now r j)=_;rw[if_neg (by omega)]
  ·rfl
 have e3:(rU (dr L body.length) (lz L d body.length) body).now r j=d.now r j:=by
  unfold rU;rw[zW (by rw[e1.2];exact h3) (by rw[e1.1,e1.2];exact hr) 8 (Nat.le_refl _)];exact e2
 unfold oT;split
 ·exact e3
 ·exact e3
theorem iF.dev'{L:b8}{d d':bG}{n n':Nat}{rs:List RecM}(h:iF L d n rs)(hd:∀r,L.from_<=r->r<L.from_+L.av*8->∀j,j<64->d'.now r j=d.now r j)(hn:d'.n=d.n)(hc:d'.calls<=n'):iF L d' n' rs :=
 ⟨h.av,by rw[hn];exact h.room,by rw[hn];exact h.size,hc,h.next,h.run,h.good,h.sort,h.fits,h.Kq,⟨fun i hi j hj=>by rw[hd _ (by omega) (by have:=h.av;omega) j hj];exact h.dev.sec i hi j hj,fun r h1 h2 j hj=>by rw[hd r (by omega) h2 j hj];exact h.dev.rest r h1 h2 j hj⟩⟩
theorem nK.dev'{L:b8}{d d':bG}{l:List (ByteArray×Int)}{n n':Nat}{rs:List RecM}{es:List (Option aH)}(h:nK ⟨L,d,l⟩ n rs es)(hd:∀r,L.from_<=r->r<L.from_+L.av*8->∀j,j<64->d'.now r j=d.now r j)(hn:d'.n=d.n)(hc:d'.calls<=n'):nK ⟨L,d',l⟩ n' rs es :=
 ⟨⟨h.one.log.dev' hd hn hc,⟨h.one.has.rd,h.one.has.pos,h.one.has.all⟩,h.one.zG⟩,h.len,h.body⟩
structure wD(k:rV)(d:bG):Prop where
 at_:k.s.at_=0
 slot:k.s.slot<=1
 fL:1<=k.s.fL/\k.s.fL<1000000000
 text:k.s.text=fu k.m
 may:nU k.m=true
 this:∀j,j<64->d.now k.s.slot j=yU k.s.fL k.s.text j
 other:(∀j,j<64->d.now (1-k.s.slot) j=0)\/∃n m,0<=n/\n<k.s.fL/\nU m=true/\∀j,j<64->d.now (1-k.s.slot) j=yU n (fu m) j
theorem wD.dev'{k:rV}{d d':bG}(h:wD k d)(hd:∀r,r<2->∀j,j<64->d'.now r j=d.now r j):wD k d' :=
 ⟨h.at_,h.slot,h.fL,h.text,h.may,fun j hj=>by rw[hd _ (by have:=h.slot;omega) j hj];exact h.this j hj,by
  rcases h.other with h1 | ⟨n,m,h1,h2,h3,h4⟩
  ·exact .inl fun j hj=>by rw[hd _ (by omega) j hj];exact h1 j hj
  ·exact .inr ⟨n,m,h1,h2,h3,fun j hj=>by rw[hd _ (by omega) j hj];exact h4 j hj⟩⟩
theorem wD.save{k:rV}{d:bG}{m:MetaM}(h:wD k d)(hs:gY k m=true)(ht:k.s.fL<900000000):wD (nJ k m) (iO k d m)/\(nJ k m).m=m/\(nJ k m).s.fL=k.s.fL+1/\(iO k d m).n=d.n/\(iO k d m).calls=d.calls+2/\∀r,2<=r->∀j,(iO k d m).now r j=d.now r j:=by
 have e1:nJ k m=⟨Jj k.s (1-k.s.slot) (k.s.fL+1) (fu m),m⟩:=if_pos hs;have e2:iO k d m=Co k.s d (1-k.s.slot) (k.s.fL+1) (fu m):=if_pos hs;have hm:nU m=true:=by unfold gY at hs;simp only[Bool.and_eq_true]at hs;exact hs.1
 have h2:=h.slot;have h0:=h.at_;have hnow:∀r j,(Co k.s d (1-k.s.slot) (k.s.fL+1) (fu m)).now r j=if r=1-k.s.slot/\j<64 then yU (k.s.fL+1) (fu m) j else d.now r j:=fun r j=>by
  show(if r=k.s.at_+(1-k.s.slot)/\j<64 then _ else _)=_;rw[h0,Nat.zero_add]
 rw[e1,e2];refine⟨⟨h0,by show 1-k.s.slot<=1;omega,by have:=h.fL;show 1<=k.s.fL+1/\k.s.fL+1<_;omega,rfl,hm,fun j hj=>?_,.inr ⟨k.s.fL,k.m,by have:=h.fL;omega,by show k.s.fL<k.s.fL+1;omega,h.may,fun j hj=>?_⟩⟩,rfl,rfl,rfl,rfl,fun r hr j=>?_⟩
 ·show(Co k.s d (1-k.s.slot) (k.s.fL+1) (fu m)).now (1-k.s.slot) j=_;rw[hnow,if_pos ⟨rfl,hj⟩];rfl
 ·show(Co k.s d (1-k.s.slot) (k.s.fL+1) (fu m)).now (1-(1-k.s.slot)) j=_;rw[hnow,if_neg (by omega),show 1-(1-k.s.slot)=k.s.slot by omega,h.this j hj,h.text]
 ·rw[hnow,if_neg (by omega)]
def EB(x:fq):RecM:=⟨x.pos,dS x.seq x.key⟩
structure dY(s:mu)(n:Nat)(es:List (Option aH))(cb jb:Nat):Prop where
 fl:∃cr,nK s.fl n cr es/\(eL cr).length<=cb
 jl:iF s.jL s.d n (s.ms.map EB)
 jb:(eL (s.ms.map EB)).length<=jb
 ms:∀i,i<s.ms.length->(gl s.ms i).seq=(i:Int)+1/\dN (gl s.ms i).key=true
 nx:s.cL.next<=n/\s.jL.next<=n/\s.k.s.fL<=n
 Z2:s.cL.from_=162/\s.cL.av=jo s.d.n/\s.jL.from_=2/\s.jL.av=20
 dn:192<=s.d.n/\s.d.n<3000
 keep:wD s.k s.d
 bN:s.bN=s.k.m.bN
theorem CP{n:Nat}(h:192<=n):3<=jo n/\jo n<=200/\162+jo n*8<=n:=by unfold jo;omega
def LM(s:mu)(x:aH):mu:={ s with d:=(ou s.fl x).d,cL:=(ou s.fl x).L,cl:=(ou s.fl x).l }
def VI(s:mu)(k:ByteArray):mu:={ s with d:=(o4 s.fl k).d,cL:=(o4 s.fl k).L,cl:=(o4 s.fl k).l }
def P8(s:mu)(k:ByteArray):mu:={ s with d:=(LB s.jr k).d,jL:=(LB s.jr k).L,ms:=(LB s.jr k).ms }
def Y4(s:mu):mu:={ s with d:=gR s.d }
theorem dY.cache{s:mu}{n:Nat}{es:List (Option aH)}{cb jb:Nat}(h:dY s n es cb jb){m:oN}{body:List Int}{o:Option aH}{cr:List RecM}{w:Nat}(hn:n<900000000)
 (h1:nK m (n+20) cr (es++[o])) (hb:(eL cr).length<=cb+w) (hd:m.d=oT s.cL s.d body) (hx:m.L.next=s.cL.next+1) (hs:m.L.av=s.cL.av/\m.L.from_=s.cL.from_) :
 dY { s with d:=m.d,cL:=m.L,cl:=m.l } (n+20) (es++[o]) (cb+w) jb:=by
 obtain⟨g1,g2,g3,g4⟩:=h.Z2;obtain⟨s1,s2,s3⟩:=CP h.dn.1;have hdn:m.d.n=s.d.n:=by rw[hd];exact Bn _ _ _
 have hcl:m.d.calls<=n+20:=h1.one.log.calls;have hout:∀r,r<162->∀j,m.d.now r j=s.d.now r j:=fun r hr j=>by rw[hd];exact EA (by omega) (.inl (by omega))
 have hnx:=h.nx;exact⟨⟨cr,h1,hb⟩,h.jl.dev' (fun r _ h2 j _=>hout r (by omega) j) hdn hcl,h.jb,h.ms,by dsimp only;rw[hx];push_cast;omega,⟨by rw[hs.2];exact g1,by dsimp only;rw[hs.1,hdn];exact g2,g3,g4⟩,by dsimp only;rw[hdn];exact h.dn,h.keep.dev' fun r hr j _=>hout r (by omega) j,h.bN⟩
theorem dY.put{s:mu}{n:Nat}{es:List (Option aH)}{cb jb:Nat}(h:dY s n es cb jb){x:aH}(hx:kK x=true){w:Nat}(hw:8+(aL (some x)).length<=w)(hn:n<900000000)(hfit:cb+w<=378) :
 dY (LM s x) (n+20) (es++[some x]) (cb+w) jb/\uC s.fl (aL (some x)).length:=by
 obtain⟨cr,hf,hb⟩:=h.fl;have hnx:s.fl.L.next<=n:=h.nx.1
 obtain⟨f1,f2,f3,f4⟩:=hf.put hx (by omega) (by omega);have hd:(ou s.fl x).d=oT s.cL s.d (aL (some x)):=by unfold ou;rw[if_pos hx];rfl
 exact⟨h.cache hn f1 (by rw[mP,List.length_append,xA];dsimp only;omega) hd f2 ⟨f3,f4⟩,hf.one.ok (by omega) (by omega)⟩
theorem dY.aaW{s:mu}{n:Nat}{es:List (Option aH)}{cb jb:Nat}(h:dY s n es cb jb){k:ByteArray}(hk:dN k=true){w:Nat}(hw:8+(aL (some (jd k))).length<=w)(hn:n<900000000)(hfit:cb+w<=378) :
 dY (VI s k) (n+20) (es++[some (jd k)]) (cb+w) jb/\uC s.fl (aL (some (jd k))).length:=by
 obtain⟨cr,hf,hb⟩:=h.fl;have hnx:s.fl.L.next<=n:=h.nx.1
 obtain⟨f1,f2,f3,f4⟩:=hf.drop hk (by omega) (by omega);exact⟨h.cache hn f1 (by rw[mP,List.length_append,xA];dsimp only;omega) rfl f2 ⟨f3,f4⟩,hf.one.ok (by omega) (by omega)⟩
theorem dY.flush{s:mu}{n:Nat}{es:List (Option aH)}{cb jb:Nat}(h:dY s n es cb jb):dY (Y4 s) (n+1) es cb jb:=by
 obtain⟨cr,hf,hb⟩:=h.fl;have hc:=hf.one.log.calls;have hc:(gR s.d).calls<=n+1:=by show s.d.calls+1<=_;have:s.d.calls<=n:=hc;omega
 have hnx:=h.nx;exact⟨⟨cr,hf.dev' (fun _ _ _ _ _=>rfl) rfl hc,hb⟩,h.jl.dev' (fun _ _ _ _ _=>rfl) rfl hc,h.jb,h.ms,by dsimp only[Y4];push_cast;omega,h.Z2,h.dn,h.keep.dev' fun _ _ _ _=>rfl,h.bN⟩
theorem dY.seq{s:mu}{n:Nat}{es:List (Option aH)}{cb jb:Nat}(h:dY s n es cb jb):iD s.ms=s.ms.length:=by
 unfold iD;split
 ·rename_i h0;rw[h0];rfl
 ·rename_i h0;rw[(h.ms _ (by omega)).1];omega
theorem dY.len{s:mu}{n:Nat}{es:List (Option aH)}{cb jb:Nat}(h:dY s n es cb jb):s.ms.length<=42:=by
 have:=h.jl.len;rwa[List.length_map]at this
theorem dY.abE{s:mu}{n:Nat}{es:List (Option aH)}{cb jb:Nat}(h:dY s n es cb jb){k:ByteArray}(hk:dN k=true){w:Nat}(hw:8+(dS (s.ms.length+1) k).length<=w)(hn:n<900000000)(hfit:jb+w<=378) :
 dY (P8 s k) (n+20) es cb (jb+w)/\vT s.jL s.d/\(P8 s k).ms=s.ms++[⟨s.ms.length+1,k,s.jL.next⟩]:=by
 obtain⟨g1,g2,g3,g4⟩:=h.Z2;obtain⟨s1,s2,s3⟩:=CP h.dn.1;have hsq:=h.seq;have hkl:=o5 hk;have hv:=jf ((s.ms.length:Int)+1);have hbl:1<=(dS (s.ms.length+1) k).length/\(dS (s.ms.length+1) k).length<=300:=by unfold dS;rw[List.length_append,jw];omega
 have hnx:=h.nx;have hjb:=h.jb;obtain⟨l1,l2,l3,l4⟩:=h.jl.append (body:=dS (s.ms.length+1) k) hbl (by omega) (by omega);have e:P8 s k={ s with d:=oT s.jL s.d (dS (s.ms.length+1) k),jL:=mK s.jL (dS (s.ms.length+1) k),ms:=s.ms++[⟨s.ms.length+1,k,s.jL.next⟩] }:=by
  have:LB s.jr k=⟨mK s.jL (dS (s.ms.length+1) k),oT s.jL s.d (dS (s.ms.length+1) k),s.ms++[⟨s.ms.length+1,k,s.jL.next⟩]⟩:=by
   unfold LB;rw[show iD s.jr.ms=s.ms.length from hsq];rfl
  show({ s with d:=_,jL:=_,ms:=_ }:mu)=_;rw[this]
 have hout:∀r,(r<2\/162<=r)->∀j,(oT s.jL s.d (dS (s.ms.length+1) k)).now r j=s.d.now r j:=fun r hr j=>EA (by omega) (by omega);have hdn:(oT s.jL s.d (dS (s.ms.length+1) k)).n=s.d.n:=Bn _ _ _;have hm:(s.ms++[(⟨s.ms.length+1,k,s.jL.next⟩:fq)]).map EB=s.ms.map EB++[⟨s.jL.next,dS (s.ms.length+1) k⟩]:=by simp[EB]
 obtain⟨cr,hf,hb⟩:=h.fl;refine⟨?_,h.jl.Y3 (by omega),by rw[e]⟩;rw[e];refine⟨⟨cr,hf.dev' (fun r h1 _ j _=>hout r (.inr (by have:s.fl.L.from_=162:=g1;omega)) j) hdn l1.calls,hb⟩,by dsimp only;rw[hm];exact l1,by dsimp only;rw[hm,mP,List.length_append,xA];dsimp only;omega,fun i hi=>?_,by dsimp only;rw[l2];push_cast;omega,⟨g1,by dsimp only;rw[hdn];exact g2,by dsimp only;rw[l4];exact g3,by dsimp only;rw[l3];exact g4⟩,by dsimp only;rw[hdn];exact h.dn,h.keep.dev' fun r hr j _=>hout r (.inl hr) j,h.bN⟩;have hi:i<s.ms.length+1:=by simpa using hi
 dsimp only;rw[lq hi];by_cases hl:i<s.ms.length
 ·rw[if_pos hl];exact h.ms i hl
 ·rw[if_neg hl];have:i=s.ms.length:=by omega
  subst this;exact⟨rfl,hk⟩
theorem P9{L:b8}{d:bG}{n:Nat}{rs:List RecM}(h:iF L d n rs):L.l.length<=1:=by
 obtain⟨base,_,_,hl⟩:=h.Kq;rw[hl];cases rs with
 |nil=>exact Nat.zero_le _
 |cons r rs=>exact Nat.le_refl _
theorem Qa{fr sg:Nat}{d:bG}{n:Nat}{run:Int}(h3:3<=sg/\sg<=200)(hr:fr+sg*8<=d.n)(hn:d.n<100000)(hc:d.calls<=n)(hd:zT fr sg none run d):nK ⟨⟨fr,sg,[],1,1,true⟩,d,[]⟩ n [] []/\iF ⟨fr,sg,[],1,1,true⟩ d n []:=⟨nK.new h3 hr hn hc hd,(nK.new h3 hr hn hc hd).one.log⟩
theorem zj{d:bG}{c:Nat}(hn:192<=d.n/\d.n<3000)(hc:d.calls<=c)(hc2:c<900000000)(H:PH) :
 zS.pre ⟨d,H⟩/\dY (kL (sI ⟨d,H⟩)) (c+d.n+100) [] 0 0/\(kL (sI ⟨d,H⟩)).k.m=⟨1,0,0,false⟩/\(kL (sI ⟨d,H⟩)).ms=[]/\(∀r,(kL (sI ⟨d,H⟩)).d.loose r=false)/\(∀r j,(kL (sI ⟨d,H⟩)).d.F7 r j=(kL (sI ⟨d,H⟩)).d.now r j)/\(kL (sI ⟨d,H⟩)).d.n=d.n:=by
 obtain⟨D0,hD0⟩:∃D,D=pX (fo d d.n) 0 (fu CO):=⟨_,rfl⟩
 have hnow:∀r j,j<64->r<d.n->D0.now r j=if r=0 then yU 1 (fu CO) j else 0:=fun r j hj hr=>by
  rw[hD0];show(if r=0+0/\j<64 then yU 1 (fu CO) j else if r=0+1/\j<64 then 0 else if r=0/\j<64 then 0 else if r<d.n/\j<64 then 0 else d.now r j)=_;by_cases h0:r=0
  ·rw[if_pos (by omega),if_pos h0]
  ·rw[if_neg (by omega),if_neg h0];by_cases h1:r=1
   ·rw[if_pos (by omega)]
   ·rw[if_neg (by omega),if_neg (by omega),if_pos (by omega)]
 have hDn:D0.n=d.n:=by rw[hD0];rfl
 have hDc:D0.calls<=c+d.n+5:=by rw[hD0];show d.calls+d.n+1+1+1+1+1<=_;omega
 have hK:wD (kg 0) D0:=⟨rfl,by decide,by decide,rfl,rfl,fun j hj=>by
  rw[show(kg 0).s.slot=0 from rfl,hnow 0 j hj (by omega),if_pos rfl];rfl,.inl fun j hj=>by
  rw[show 1-(kg 0).s.slot=1 from rfl,hnow 1 j hj (by omega),if_neg (by omega)]⟩
 have hs:gY (kg 0) (o6 CO)=true:=by decide
 obtain⟨k1,k2,k3,k4,k5,k6⟩:=hK.save hs (by decide);obtain⟨D,hD⟩:∃D,D=iO (kg 0) D0 (o6 CO):=⟨_,rfl⟩
 have hDD:D=gR (gQ D0 (0+1) 64 (yU 2 (fu (o6 CO)))):=by rw[hD];unfold iO;rw[if_pos hs];rfl
 rw[<- hD]at k1 k4 k5 k6;obtain⟨s1,s2,s3⟩:=CP hn.1;have hz:∀r,2<=r->r<d.n->∀j,j<64->D.now r j=0:=fun r h1 h2 j hj=>by rw[k6 r h1 j,hnow r j hj h2,if_neg (by omega)]
 have hd1:zT 2 20 none 1 D:=⟨fun i hi j hj=>hz _ (by omega) (by omega) j hj,fun r h1 h2 j hj=>hz r (by omega) (by omega) j hj⟩
 have hd2:zT 162 (jo d.n) none 1 D:=⟨fun i hi j hj=>hz _ (by omega) (by omega) j hj,fun r h1 h2 j hj=>hz r (by omega) (by omega) j hj⟩
 obtain⟨a1,a2⟩:=GB hd1 (by omega) (by omega) (by omega);obtain⟨b1,b2⟩:=GB hd2 (by omega) (by omega) (by omega);have e0:sI ⟨d,H⟩=⟨kg 0,0,D0,H,[],[]⟩:=by rw[hD0];rfl
 have e1:kL (sI ⟨d,H⟩)=⟨D,⟨162,jo d.n,[],1,1,true⟩,[],⟨2,20,[],1,1,true⟩,[],nJ (kg 0) (o6 CO),1⟩:=by
  rw[e0];show(⟨iO (kg 0) D0 (o6 CO),cV 162 (jo D0.n) (iO (kg 0) D0 (o6 CO)),_,cV 2 20 (iO (kg 0) D0 (o6 CO)),_,_,_⟩:mu)=_;rw[<- hD,hDn,a2,b2];rfl
 obtain⟨n1,_⟩:=Qa (n:=c+d.n+100) (d:=D) ⟨s1,s2⟩ (by omega) (by omega) (by omega) hd2;obtain⟨_,n2⟩:=Qa (n:=c+d.n+100) (d:=D) (show 3<=20/\20<=200 by omega) (by omega) (by omega) (by omega) hd1;refine⟨⟨hn.1,by show d.n<100000;omega,by show d.calls<_;omega,?_⟩,?_,?_,?_,?_,?_,?_⟩
 ·rw[e0];refine⟨by dsimp only;omega,by dsimp only;omega,hs,⟨rfl,by show(0:Nat)<=1;omega,by show(0:Int)<=1;omega,by show(1:Int)<1000000000000;omega⟩,fun H=>?_,fun H=>?_⟩
  ·show Bg.pre ⟨H,iO (kg 0) D0 (o6 CO),2,20,[]⟩;rw[<- hD];refine⟨Nat.le_refl _,a1,?_,?_⟩
   ·rw[show cV (xI.mk H D 2 20 []).from_ (xI.mk H D 2 20 []).av (xI.mk H D 2 20 []).d=_ from a2];exact⟨rfl,by show(0:Nat)<9000;omega,fun i hi=>absurd hi (Nat.not_lt_zero i),fun i hi=>absurd hi (Nat.not_lt_zero _)⟩
   ·rw[show cV (xI.mk H D 2 20 []).from_ (xI.mk H D 2 20 []).av (xI.mk H D 2 20 []).d=_ from a2];exact fun i hi=>absurd hi (Nat.not_lt_zero i)
  ·show Ba.pre ⟨H,iO (kg 0) D0 (o6 CO),162,jo D0.n,[]⟩;rw[<- hD,hDn];refine⟨b1,?_,?_⟩
   ·rw[show cV (lC.mk H D 162 (jo d.n) []).from_ (lC.mk H D 162 (jo d.n) []).av (lC.mk H D 162 (jo d.n) []).d=_ from b2];exact⟨rfl,by show(0:Nat)<9000;omega,fun i hi=>absurd hi (Nat.not_lt_zero i)⟩
   ·rw[show cV (lC.mk H D 162 (jo d.n) []).from_ (lC.mk H D 162 (jo d.n) []).av (lC.mk H D 162 (jo d.n) []).d=_ from b2];exact fun i hi=>absurd hi (Nat.not_lt_zero i)
 all_goals rw[e1]
 ·exact⟨⟨[],n1,Nat.le_refl _⟩,n2,Nat.le_refl _,fun i hi=>absurd hi (Nat.not_lt_zero i),by dsimp only;rw[k3];show _/\_/\(1:Int)+1<=_;omega,⟨rfl,by dsimp only;rw[k4,hDn],rfl,rfl⟩,by dsimp only;rw[k4,hDn];exact hn,k1,by dsimp only;rw[k2];rfl⟩
 ·exact k2
 ·rw[hDD];exact fun _=>rfl
 ·rw[hDD];exact fun _ _=>rfl
 ·exact k4.trans hDn
def pe(s:mu)(ks:List ByteArray)(i:Nat):mu:={ s with d:=(dy s.jr ks i).d,jL:=(dy s.jr ks i).L,ms:=(dy s.jr ks i).ms }
def uE(s:mu)(ks:List ByteArray)(i:Nat):mu:={ s with d:=(gM s.fl ks i).d,cL:=(gM s.fl ks i).L,cl:=(gM s.fl ks i).l }
structure Z3(s:mu)(n:Nat)(es:List (Option aH))(cb jb:Nat)(ks:List ByteArray)(i:Nat):Prop where
 one:dY (pe s ks i) n es cb jb
 len:(pe s ks i).ms.length=s.ms.length+i
 ok:∀j,j<i->vT (dy s.jr ks j).L (dy s.jr ks j).d/\0<=iD (dy s.jr ks j).ms/\iD (dy s.jr ks j).ms<1000000000000
 key:∀j,j<i->(gl (pe s ks i).ms (s.ms.length+j)).key=gl ks j
 dn:(pe s ks i).d.n=s.d.n
theorem dY.Z4{s:mu}{n:Nat}{es:List (Option aH)}{cb jb:Nat}(h:dY s n es cb jb){ks:List ByteArray}(hK:∀i,i<ks.length->dN (gl ks i)=true){w:Nat}(hw:∀i,i<ks.length->8+(dS (s.ms.length+i+1) (gl ks i)).length<=w)(hn:n+20*ks.length<900000000)(hfit:jb+w*ks.length<=378) :
 ∀i,i<=ks.length->Z3 s (n+20*i) es cb (jb+w*i) ks i
 |0,_=>⟨h,rfl,fun j hj=>absurd hj (Nat.not_lt_zero j),fun j hj=>absurd hj (Nat.not_lt_zero j),rfl⟩
 |i+1,hi=>by
  have ih:=dY.Z4 h hK hw hn hfit i (by omega);have hl:=ih.len;have hfit2:jb+w*i+w<=378:=by
   have:w*(i+1)<=w*ks.length:=Nat.mul_le_mul_left w hi;rw[Nat.mul_add,Nat.mul_one]at this;omega
  have hw2:8+(dS ((pe s ks i).ms.length+1) (gl ks i)).length<=w:=by
   have:=hw i (by omega);rw[hl];push_cast;exact this
  obtain⟨a1,a2,a3⟩:=ih.one.abE (hK i (by omega)) hw2 (by omega) hfit2;have e:pe s ks (i+1)=P8 (pe s ks i) (gl ks i):=rfl;have hsq:=ih.one.seq;have hlen:=ih.one.len;refine⟨by rw[e,show n+20*(i+1)=n+20*i+20 by omega,show jb+w*(i+1)=jb+w*i+w by rw[Nat.mul_add];omega];exact a1,by rw[e,a3,List.length_append,hl];rfl,fun j hj=>?_,fun j hj=>?_,?_⟩
  ·by_cases ej:j=i
   ·subst ej;refine⟨a2,?_⟩;show 0<=iD (pe s ks j).ms/\iD (pe s ks j).ms<_;rw[hsq];omega
   ·exact ih.ok j (by omega)
  ·rw[e,a3,lq (by omega)];by_cases ej:j=i
   ·subst ej;rw[if_neg (by omega)]
   ·rw[if_pos (by omega)];exact ih.key j (by omega)
  ·rw[e,<- ih.dn];exact Bn _ _ _
structure Yh(s:mu)(n:Nat)(es:List (Option aH))(cb jb:Nat)(ks:List ByteArray)(i:Nat):Prop where
 one:dY (uE s ks i) n es cb jb
 ok:∀j,j<i->uC (gM s.fl ks j) (aL (some (jd (gl ks j)))).length
 dn:(uE s ks i).d.n=s.d.n
theorem dY.Y5{s:mu}{n:Nat}{es:List (Option aH)}{cb jb:Nat}(h:dY s n es cb jb){ks:List ByteArray}(hK:∀i,i<ks.length->dN (gl ks i)=true){w:Nat}(hw:∀i,i<ks.length->8+(aL (some (jd (gl ks i)))).length<=w)(hn:n+20*ks.length<900000000)(hfit:cb+w*ks.length<=378) :
 ∀i,i<=ks.length->Yh s (n+20*i) (es++(ks.take i).map fun q=>some (jd q)) (cb+w*i) jb ks i
 |0,_=>⟨by rw[List.take_zero,List.map_nil,List.append_nil];exact h,fun j hj=>absurd hj (Nat.not_lt_zero j),rfl⟩
 |i+1,hi=>by
  have ih:=dY.Y5 h hK hw hn hfit i (by omega);have hfit2:cb+w*i+w<=378:=by
   have:w*(i+1)<=w*ks.length:=Nat.mul_le_mul_left w hi;rw[Nat.mul_add,Nat.mul_one]at this;omega
  obtain⟨a1,a2⟩:=ih.one.aaW (hK i (by omega)) (hw i (by omega)) (by omega) hfit2;have e:uE s ks (i+1)=VI (uE s ks i) (gl ks i):=rfl;have es':es++(ks.take (i+1)).map (fun q=>some (jd q))=es++(ks.take i).map (fun q=>some (jd q))++[some (jd (gl ks i))]:=by
   rw[qz (by omega)];simp
  refine⟨by rw[e,es',show n+20*(i+1)=n+20*i+20 by omega,show cb+w*(i+1)=cb+w*i+w by rw[Nat.mul_add];omega];exact a1,fun j hj=>?_,?_⟩
  ·by_cases ej:j=i
   ·subst ej;exact a2
   ·exact ih.ok j (by omega)
  ·rw[e,<- ih.dn];exact Bn _ _ _
theorem dY.LN{s:mu}{n:Nat}{es:List (Option aH)}{cb jb:Nat}(h:dY s n es cb jb):dR (cM s.jL) s.ms=s.ms:=Lx fun i hi=>by
 have hm:EB (gl s.ms i)∈s.ms.map EB:=List.mem_map.2 ⟨_,by rw[bL hi];exact List.getElem_mem _,rfl⟩;exact h.jl.rd.first hm
structure Z5(s:mu)(n:Nat)(es:List (Option aH))(cb jb:Nat)(ks:List ByteArray):Prop where
 one:dY (kM s ks) n es cb jb
 len:(kM s ks).ms.length=s.ms.length+ks.length
 seq:iD (iE s.jr ks).ms=s.ms.length+ks.length
 key:∀j,j<ks.length->(gl (kM s ks).ms (s.ms.length+j)).key=gl ks j
 dn:(kM s ks).d.n=s.d.n
 k:(kM s ks).k=s.k/\(kM s ks).bN=s.bN
 still:(∀r,(kM s ks).d.loose r=false)/\∀r j,(kM s ks).d.F7 r j=(kM s ks).d.now r j
theorem R6{s:mu}{n:Nat}{es:List (Option aH)}{cb jb:Nat}(h:dY s n es cb jb){ks:List ByteArray}(hA:fT ks=true){w:Nat}(hw:∀i,i<ks.length->8+(dS (s.ms.length+i+1) (gl ks i)).length<=w)(hn:n+20*ks.length<900000000)(hfit:jb+w*ks.length<=378)(hl:ks.length<=20) :
 dY (mg s ks) (n+20*ks.length+1) es cb (jb+w*ks.length)/\(mg s ks).ms=(pe s ks ks.length).ms/\(mg s ks).d.n=s.d.n/\(mg s ks).k=s.k/\(mg s ks).bN=s.bN/\(∀p kc,ct p.H p.y s.jL->s.ms.length<=p.cap->Gv.pre ⟨s.jr,p,ks,kc⟩):=by
 have hK:∀i,i<ks.length->dN (gl ks i)=true:=fun i hi=>List.all_eq_true.1 hA (gl ks i) (by rw[bL hi];exact List.getElem_mem _);have ha:=h.Z4 hK hw hn hfit ks.length (Nat.le_refl _);have hpre:∀p kc,ct p.H p.y s.jL->s.ms.length<=p.cap->Gv.pre ⟨s.jr,p,ks,kc⟩:=fun p kc h1 h2=>by
  have l1:=P9 h.jl;have l2:=P9 ha.one.jl;have l3:=h.len;have hd:=h.dn;obtain⟨cr,hf,_⟩:=ha.one.fl;have hc:=hf.one.log.calls;refine⟨h1,by show s.jL.l.length<800;omega,by show ks.length<1000;omega,by show s.ms.length<50000;omega,h2,fun _=>⟨ha.ok,?_,?_,?_⟩⟩
  ·show(pe s ks ks.length).d.n<_;rw[ha.dn];omega
  ·show(pe s ks ks.length).d.calls<_;have:(pe s ks ks.length).d.calls<=n+20*ks.length:=hc;omega
  ·show(pe s ks ks.length).jL.l.length<_;omega
 by_cases h0:ks.length=0
 ·have e:mg s ks=s:=by
   have:iE s.jr ks=⟨s.jL,s.d,s.ms⟩:=by
    unfold iE;rw[if_pos hA,if_pos h0];show(⟨s.jL,s.d,dR (cM s.jL) s.ms⟩:Ks)=_;rw[h.LN]
   unfold mg;rw[this]
  rw[e,h0];obtain⟨cr,hf,hcb⟩:=h.fl;have hc:=hf.one.log.calls;have hc:s.d.calls<=n:=hc;have hnx:=h.nx;refine⟨⟨⟨cr,hf.dev' (fun _ _ _ _ _=>rfl) rfl (by show s.d.calls<=_;omega),hcb⟩,h.jl.dev' (fun _ _ _ _ _=>rfl) rfl (by omega),h.jb,h.ms,by push_cast;omega,h.Z2,h.dn,h.keep,h.bN⟩,rfl,rfl,rfl,rfl,hpre⟩
 ·have e:mg s ks=Y4 (pe s ks ks.length):=by
   have:iE s.jr ks=⟨(dy s.jr ks ks.length).L,gR (dy s.jr ks ks.length).d,(dy s.jr ks ks.length).ms⟩:=by
    unfold iE;rw[if_pos hA,if_neg h0];show(⟨(dy s.jr ks ks.length).L,gR (dy s.jr ks ks.length).d,dR (cM (dy s.jr ks ks.length).L) (dy s.jr ks ks.length).ms⟩:Ks)=_;rw[show dR (cM (dy s.jr ks ks.length).L) (dy s.jr ks ks.length).ms=(dy s.jr ks ks.length).ms from ha.one.LN]
   unfold mg;rw[this];rfl
  rw[e];exact⟨ha.one.flush,rfl,ha.dn,rfl,rfl,hpre⟩
theorem dY.kill{s:mu}{n:Nat}{es:List (Option aH)}{cb jb:Nat}(h:dY s n es cb jb){ks:List ByteArray}(hA:fT ks=true){wj wc:Nat}(hwj:∀i,i<ks.length->8+(dS (s.ms.length+i+1) (gl ks i)).length<=wj)(hwc:∀i,i<ks.length->8+(aL (some (jd (gl ks i)))).length<=wc)(hn:n<800000000)(hfj:jb+wj*ks.length<=378)(hfc:cb+wc*ks.length<=378)(hl:ks.length<=20) :
 (∀p kc,Bl ⟨s,p,ks,kc⟩)/\Z5 s (n+40*ks.length+2) (es++ks.map fun q=>some (jd q)) (cb+wc*ks.length) (jb+wj*ks.length) ks:=by
 have hK:∀i,i<ks.length->dN (gl ks i)=true:=fun i hi=>List.all_eq_true.1 hA (gl ks i) (by rw[bL hi];exact List.getElem_mem _);have ha:=h.Z4 hK hwj (by omega) hfj ks.length (Nat.le_refl _);obtain⟨j1,j2,j3,j4,j5,j6⟩:=R6 h hA hwj (by omega) hfj hl;have hd:=j1.Y5 hK hwc (by omega) hfc ks.length (Nat.le_refl _);have ek:kM s ks=Y4 (uE (mg s ks) ks ks.length):=by
  unfold kM;rw[if_pos hA];unfold P0 ov;rw[if_pos hA];rfl
 have hms:(kM s ks).ms=(pe s ks ks.length).ms:=by rw[ek];exact j2
 refine⟨fun p kc=>⟨by show ks.length<1000;omega,fun _ q h1 h2=>j6 q kc h1 h2,fun _ q h1=>⟨h1,by show ks.length<1000;omega,fun _=>⟨hd.ok,?_,?_⟩⟩⟩,?_⟩
 ·show(uE (mg s ks) ks ks.length).d.n<_;rw[hd.dn,j3];have:=h.dn;omega
 ·show(uE (mg s ks) ks ks.length).d.calls<_;obtain⟨cr,hf,_⟩:=hd.one.fl;have hc:=hf.one.log.calls;have:(uE (mg s ks) ks ks.length).d.calls<=n+20*ks.length+1+20*ks.length:=hc;omega
 ·have h1:=hd.one.flush;rw[List.take_length,show n+20*ks.length+1+20*ks.length+1=n+40*ks.length+2 by omega,<- ek]at h1;refine⟨h1,by rw[hms];exact ha.len,?_,fun j hj=>by rw[hms];exact ha.key j hj,by rw[ek];show(uE (mg s ks) ks ks.length).d.n=_;rw[hd.dn,j3],by rw[ek];exact⟨j4,j5⟩,by rw[ek];exact⟨fun _=>rfl,fun _ _=>rfl⟩⟩;have h2:=h1.seq;rw[hms,ha.len]at h2;have:(iE s.jr ks).ms=(pe s ks ks.length).ms:=j2;rw[this,h2];push_cast;rfl
theorem dY.get{s:mu}{n:Nat}{es:List (Option aH)}{cb jb:Nat}(h:dY s n es cb jb)(k:ByteArray):RC s.fl/\Ef s.fl k (gE es k):=by
 obtain⟨cr,hf,_⟩:=h.fl;exact⟨hf.one.has.abD,hf.one.has.iq k⟩
end Go.Proofs.YtfjgoonelcaggaaGreat
namespace Go.Sx
theorem eZ.below{w w':World}(h:eZ (fun _=>False) w w'):Go.RowKit.Below w.heap.size w w':=⟨h.os,h.tape,h.output,h.size,fun k hk=>h.block k hk id⟩
open Go.WideShapes Go.ChangeShapes in
theorem Jw{H:Type}{enc:TypeId×Value->H}{P:Program}{f:Func}{s:ChangeSpec}{apart fresh handsOn again:Bool}{W W':World}{args:Array Value}{v:Value}{ds gs:List (DataW H)}{pa:List MemPlace}
 (hW:DataW.Whole enc P f.params.toList s.vars apart W args.toList ds gs (pa++[]))
 (hres:∀(b:Nat) (sp:Nat->Bool) (hd:Bool),DataW.TrodAll enc P W' b sp hd f.resultTypes.toList (v.resultList f.resultTypes.size) (s.fn H (ds++gs)).results [])
 (hargs:∀sp:Nat->Bool,(∀p∈pa++[],sp p.block=true)->DataW.TrodAll enc P W' 0 sp true f.params.toList args.toList (s.fn H (ds++gs)).args pa)
 (hvars:∀sp:Nat->Bool,(∀p∈pa++[],sp p.block=true)->DataW.TrodVars enc P W' sp s.vars (s.fn H (ds++gs)).vars [])
 (hk:eZ (fun _=>False) W W')
 (hok:∀(j:Nat) (t:TypeId) (r:Value),f.resultTypes[j]? = some t->(v.resultList f.resultTypes.size)[j]? = some r->Value.okWide P W' .any 0 t r) :
 s.post enc P f apart fresh handsOn again W args v W':=by
 have hl:=hW.lt;have hall:∀p∈pa++[],(fun _=>true:Nat->Bool) p.block=true:=fun _ _=>rfl;have hold:∀p∈pa++[],(fun b=>decide (b<W.heap.size)) p.block=true:=fun p hp=>decide_eq_true (hl p hp);have hmem:∀p,p∈([]++pa)++[]->p∈pa++[]:=fun p hp=>by simpa using hp
 refine⟨ds,gs,pa++[],[],pa,[],hW,hres _ _ _,hargs _ hold,hvars _ hold,World.keptBut_mono (may:=(·∈pa++[])) (fun p hp=>⟨hp,.inr (by simpa using hp)⟩) (hk.below.frame _),fun _=>?_⟩;obtain⟨_,_,_,_,_,hz,hn⟩:=hW;refine⟨hok,_,_,([]++pa)++[],⟨[]++pa,[],trodAll_append (hargs _ hall) (hres _ _ _),hvars _ hall,rfl,fun b off hp=>?_,fun ha=>by simpa using hn ha⟩,fun p hp _=>by simpa using hp⟩;rw[hk.frz _ (hl _ (hmem _ hp))];exact hz b off (hmem _ hp)
open Go.RowKit
def EC(P:Program)(g:TypeId->Option (List CK)):List Field->Nat->Option (List CK)
 |[],_=>some []
 |f::r,o=>match g f.type,EC P g r (o+P.cellsOf f.type)with
  |some ks,some l=>bif Nat.beq f.offset o&&Nat.beq ks.length (P.cellsOf f.type)then some (ks++l)else none
  |_,_=>none
def uF(dp:Bool)(P:Program):Nat->TypeId->Option (List CK)
 |0,_=>none
 |d+1,t=>match P.underlying t with
  |some (.slice _)=>bif dp then some [.deep]else none
  |some .bool=>some [.bool]
  |some (.int k)=>some [.int k]
  |some .string=>some [.str]
  |some (.struct fs)=>match EC P (uF dp P d) fs.toList 0 with
   |some ks=>bif Nat.beq ks.length (P.cellsOf t)then some ks else none
   |none=>none
  |some (.array n e)=>match uF dp P d e with
   |some ks=>bif Nat.beq ks.length (P.cellsOf e)&&Nat.beq (n*ks.length) (P.cellsOf t)then some (rep n ks)else none
   |none=>none
  |_=>none
def Jx(P:Program):Nat->TypeId->Option (List CK):=uF false P
structure wE(ks:List CK)(cs:List Value):Prop where
 len:cs.length=ks.length
 ok:∀(j:Nat) (k:CK) (v:Value),ks[j]? = some k->cs[j]? = some v->k.ok v
theorem wE.append{ks ls:List CK}{cs ds:List Value}(h:wE ks cs)(g:wE ls ds):wE (ks++ls) (cs++ds):=by
 refine⟨by simp[h.len,g.len],fun j k v hk hv=>?_⟩;by_cases hj:j<ks.length
 ·rw[List.getElem?_append_left hj]at hk;rw[List.getElem?_append_left (by rw[h.len];exact hj)]at hv;exact h.ok j k v hk hv
 ·rw[List.getElem?_append_right (by omega)]at hk;rw[List.getElem?_append_right (by rw[h.len];omega),h.len]at hv;exact g.ok _ k v hk hv
section
variable {H:Type} {enc:TypeId×Value->H} {P:Program} {w:World} {base:Nat} {spare:Nat->Bool} {held:Bool}
theorem GH{g:TypeId->Option (List CK)}{n:Nat}{cs:List Value}
 (hg:∀t cs x ks,DataW.trod enc P w base spare held n t cs=some x->g t=some ks->wE ks cs) :
 ∀(fs:List Field) (o:Nat) (ks:List CK),EC P g fs o=some ks->(∀f∈fs,∃x,DataW.trod enc P w base spare held n f.type ((cs.drop f.offset).take (P.cellsOf f.type))=some x)->o+ks.length=cs.length->wE ks (cs.drop o)
 |[],o,ks,h,_,hl=>by
  simp[EC]at h;subst h;refine⟨by simp at hl ⊢;omega,fun j k v hk=>by simp at hk⟩
 |f::r,o,ks,h,hf,hl=>by
  simp only[EC]at h;split at h
  ·rename_i k1 l1 e1 e2;cases hb:(Nat.beq f.offset o&&Nat.beq k1.length (P.cellsOf f.type))
   ·rw[hb]at h;cases h
   rw[hb]at h;simp only[cond_true,Option.some.injEq]at h;subst h;simp only[Bool.and_eq_true]at hb;have ho:=Nat.eq_of_beq_eq_true hb.1;have hk:=Nat.eq_of_beq_eq_true hb.2;obtain⟨x,hx⟩:=hf f List.mem_cons_self;rw[ho]at hx;have h1:=hg _ _ _ _ hx e1;have h2:=GH hg r _ l1 e2 (fun f hf'=>hf f (List.mem_cons_of_mem _ hf')) (by rw[<- hk];simp at hl;omega);have e:cs.drop o=(cs.drop o).take (P.cellsOf f.type)++cs.drop (o+P.cellsOf f.type):=by
    rw[<- List.drop_drop,List.take_append_drop]
   rw[e];exact h1.append h2
  ·cases h
theorem VJ{ks:List CK}{cs:List Value}:∀(n:Nat) (o:Nat),(∀i,i<n->wE ks ((cs.drop (o+i*ks.length)).take ks.length))->o+n*ks.length=cs.length->wE (rep n ks) (cs.drop o)
 |0,o,_,hl=>⟨by simp at hl;simp[rep];omega,fun j k v hk=>by simp[rep]at hk⟩
 |n+1,o,h,hl=>by
  have h1:=h 0 (by omega);have h2:=VJ (ks:=ks) (cs:=cs) n (o+ks.length) (fun i hi=>by
   have:=h (i+1) (by omega);rwa[Nat.succ_mul,show o+(i*ks.length+ks.length)=o+ks.length+i*ks.length by omega]at this) (by rw[Nat.succ_mul]at hl;omega)
  have e:cs.drop o=(cs.drop o).take ks.length++cs.drop (o+ks.length):=by
   rw[<- List.drop_drop,List.take_append_drop]
  rw[e,rep];exact wE.append (by simpa using h1) h2
theorem zX{dp:Bool}:∀(d n:Nat) (t:TypeId) (cs:List Value) (x:DataW H×List MemPlace) (ks:List CK),DataW.trod enc P w base spare held n t cs=some x->uF dp P d t=some ks->wE ks cs
 |0,_,_,_,_,_,_,h=>by simp[uF]at h
 |d+1,n,t,cs,x,ks,hx,h=>by
  simp only[uF]at h;split at h
  ·rename_i e hu;cases dp with
   |false=>cases h
   |true =>
    simp only[cond_true,Option.some.injEq]at h;subst h;have one:∃v:Value,cs=[v]/\v.oneCell'=true:=by
     rcases DataW.trod_slice hu hx with⟨hv,_⟩ | ⟨a,len,cap,elems,rest,m,_,hv,_⟩<;>exact⟨_,hv,rfl⟩
    obtain⟨v,rfl,hv⟩:=one;refine⟨rfl,fun j k u hk hv'=>?_⟩;cases j with
    |zero=>simp at hk hv';subst hk hv';exact hv
    |succ j=>simp at hk
  ·rename_i hu;cases h;obtain⟨b,rfl,_⟩:=DataW.trod_bool hu hx;refine⟨rfl,fun j k v hk hv=>?_⟩;cases j with
   |zero=>simp at hk hv;subst hk hv;exact⟨b,rfl⟩
   |succ j=>simp at hk
  ·rename_i k hu;cases h;obtain⟨m,rfl,_,hw⟩:=DataW.trod_int hu hx;refine⟨rfl,fun j k' v hk hv=>?_⟩;cases j with
   |zero=>simp at hk hv;subst hk hv;exact⟨m,rfl,by rw[G8];simpa[Lit.wf]using hw⟩
   |succ j=>simp at hk
  ·rename_i hu;cases h;obtain⟨s,rfl,_,hs⟩:=DataW.trod_string hu hx;refine⟨rfl,fun j k' v hk hv=>?_⟩;cases j with
   |zero=>simp at hk hv;subst hk hv;exact⟨s,rfl,by unfold aq;unfold maxLen at hs;exact hs⟩
   |succ j=>simp at hk
  ·rename_i fs hu;obtain⟨xs,m,rfl,_,hl,hlen,hget⟩:=DataW.trod_struct hu hx;split at h
   ·rename_i ks' e;cases hb:Nat.beq ks'.length (P.cellsOf t)
    ·rw[hb]at h;cases h
    rw[hb]at h;cases h;have hb:=Nat.eq_of_beq_eq_true hb;have:=GH (enc:=enc) (w:=w) (base:=base) (spare:=spare) (held:=held) (n:=m) (cs:=cs) (fun t cs x ks h1 h2=>zX d m t cs x ks h1 h2) fs.toList 0 ks e (fun f hf=>by
     obtain⟨i,hi,e⟩:=List.getElem_of_mem hf;have hi':i<fs.size:=by simpa using hi
     have h1:=hget i f (by rw[Array.getElem?_eq_getElem hi'];congr 1);rw[h1];exact⟨xs[i]'(by omega),List.getElem?_eq_getElem _⟩) (by omega)
    simpa using this
   ·cases h
  ·rename_i k e hu;obtain⟨xs,m,rfl,_,hl,hlen,hget⟩:=DataW.trod_array hu hx;split at h
   ·rename_i ks' e';cases hb:(Nat.beq ks'.length (P.cellsOf e)&&Nat.beq (k*ks'.length) (P.cellsOf t))
    ·rw[hb]at h;cases h
    rw[hb]at h;cases h;simp only[Bool.and_eq_true]at hb;have hb1:=Nat.eq_of_beq_eq_true hb.1;have hb2:=Nat.eq_of_beq_eq_true hb.2;have:=VJ (ks:=ks') (cs:=cs) k 0 (fun i hi=>by
     have h1:=hget i hi;rw[List.getElem?_eq_getElem (by omega)]at h1;rw[hb1,Nat.zero_add];exact zX d m e _ _ _ h1 e') (by rw[hb2];omega)
    simpa using this
   ·cases h
  ·cases h
inductive RK where
 |c (k:CK)
 |s (e:TypeId) (ks:List CK)
inductive AK where
 |int (k:IntKind)
 |bool
 |str
 |agg (ks:List CK)
 |slc (e:TypeId) (ks:List CK)
 |Yi (fs:List RK)
def VK(P:Program)(u:TypeId):Bool:=match P.underlying u with
 |some (.slice _)=>true
 |_=>false
def GI(P:Program)(d:Nat)(ts:List TypeId):List Field->Nat->Option (List RK)
 |[],_=>some []
 |f::r,o=>bif Nat.beq f.offset o then
  (match P.underlying f.type with
  |some (.slice e)=>match Jx P d e,ts[o]?,GI P d ts r (o+1)with
   |some ks,some u,some l=>bif Nat.beq ks.length (P.cellsOf e)&&(Nat.ble 1 ks.length&&(Nat.beq (P.cellsOf f.type) 1&&VK P u))then some (.s e ks::l)else none
   |_,_,_=>none
  |_=>match Jx P d f.type,GI P d ts r (o+P.cellsOf f.type)with
   |some ks,some l=>bif Nat.beq ks.length (P.cellsOf f.type)then some (ks.map .c++l)else none
   |_,_=>none)else none
def aaX(P:Program)(d:Nat)(t:TypeId):Option AK :=
 match P.underlying t with
 |some .bool=>some .bool
 |some (.int k)=>some (.int k)
 |some .string=>some .str
 |some (.struct fs)=>match Jx P d t with
  |some ks=>some (.agg ks)
  |none=>match P.cellTypes P.depth t with
   |some ts=>match GI P d ts fs.toList 0 with
    |some l=>bif Nat.beq l.length (P.cellsOf t)&&Nat.beq ts.length (P.cellsOf t)then some (.Yi l)else none
    |none=>none
   |none=>none
 |some (.slice e)=>match uF true P d e with
  |some ks=>bif Nat.beq ks.length (P.cellsOf e)&&Nat.ble 1 ks.length then some (.slc e ks)else none
  |none=>none
 |_=>none
def ED(P:Program)(d:Nat):List TypeId->Option (List AK)
 |[]=>some []
 |t::r=>match aaX P d t,ED P d r with
  |some k,some l=>some (k::l)
  |_,_=>none
inductive RD where
 |a (x:A)
 |s (m n cap:Nat) (rows:Nat->Nat->Value)
inductive AD where
 |a (x:A)
 |agg (xs:List A)
 |slc (m n cap:Nat) (rows:Nat->Nat->Value)
 |Yi (xs:List RD)
def abF:RK->RD->Prop
 |.c k,d=>∃v,d = .a (mz k v)/\k.ok v
 |.s _ ks,d=>∃n cap rows,d = .s ks.length n cap rows/\n<=cap/\cap<=aq/\∀i,i<n->∀(j:Nat) (k:CK),ks[j]? = some k->k.ok (rows i j)
def LO:List RK->List RD->Prop
 |[],l=>l=[]
 |k::ks,l=>∃d r,l=d::r/\abF k d/\LO ks r
def Z6:Nat->List RD->List A
 |_,[]=>[]
 |n,.a x::r=>x::Z6 n r
 |n,.s m l c _::r=>.slc n 0 m l c::Z6 (n+1) r
def zY:Nat->List RK->List RD->List (Nat×Chunk)
 |n,.s e ks::r,.s _ l _ rows::q=>(n,.arr e ks l rows)::zY (n+1) r q
 |n,_::r,_::q=>zY n r q
 |_,_,_=>[]
def rN:List RD->Nat
 |[]=>0
 |.s _ _ _ _::r=>rN r+1
 |_::r=>rN r
def abG:AK->AD->Prop
 |.int k,d=>∃n,d = .a (.int k n)/\bR k n
 |.bool,d=>∃b,d = .a (.bool b)
 |.str,d=>∃s,d = .a (.str s)/\s.size<=aq
 |.agg ks,d=>∃r:Nat->Value,d = .agg (atoms r ks 0)/\∀(j:Nat) (k:CK),ks[j]? = some k->k.ok (r j)
 |.slc _ ks,d=>∃n cap rows,d = .slc ks.length n cap rows/\n<=cap/\cap<=aq/\∀i,i<n->∀(j:Nat) (k:CK),ks[j]? = some k->k.ok (rows i j)
 |.Yi fs,d=>∃xs,d = .Yi xs/\LO fs xs
def LP:List AK->List AD->Prop
 |[],l=>l=[]
 |k::ks,l=>∃d r,l=d::r/\abG k d/\LP ks r
def Y6:Nat->List AD->List SV
 |_,[]=>[]
 |n,.a x::r=>.a x::Y6 n r
 |n,.agg xs::r=>.agg xs::Y6 n r
 |n,.slc m l c _::r=>.a (.slc n 0 m l c)::Y6 (n+1) r
 |n,.Yi xs::r=>.agg (Z6 n xs)::Y6 (n+rN xs) r
def Oc:Nat->List AK->List AD->List (Nat×Chunk)
 |n,.slc e ks::r,.slc _ l _ rows::s=>(n,.arr e ks l rows)::Oc (n+1) r s
 |n,.Yi fs::r,.Yi xs::s=>zY n fs xs++Oc (n+rN xs) r s
 |n,_::r,_::s=>Oc n r s
 |_,_,_=>[]
def Jy:List AD->Nat
 |[]=>0
 |.slc _ _ _ _::r=>Jy r+1
 |.Yi xs::r=>Jy r+rN xs
 |_::r=>Jy r
theorem EE{w:World}{base:Nat}{a:Addr}:∀ {n:Nat} {cs:List Value},w.cells? base a n=some cs->cs.length=n/\base<=a.block/\∀i,i<n->w.cell? (a.add i)=cs[i]?:=by
 intro n cs h;unfold World.cells? at h;split at h
 ·rename_i hb;have hl:=mapM_some_length h;refine⟨by simpa using hl,hb,fun i hi=>?_⟩;exact mapM_some_get h i i (by simp[hi])
 ·cases h
theorem Addr.Yj(a:Addr)(n:Nat)(h:a.spot=none):a.add n=⟨a.block,a.off+n,none⟩:=by
 unfold Addr.add;split
 ·subst_vars;cases a;simp_all
 ·cases a;simp_all
theorem GJ{dp:Bool}{t e:TypeId}{ks:List CK}{d fuel:Nat}{v:Value}{dd:DataW H}{ps:List MemPlace}(ht:P.underlying t=some (.slice e))(hf:uF dp P d e=some ks)(hk:ks.length=P.cellsOf e)(hk1:1<=ks.length)
 (h:DataW.trod enc P w 0 (fun _=>true) held fuel t [v]=some (dd,ps)) (hz:∀b off,MemPlace.cell b off∈ps->w.frozen? ⟨b,off,none⟩=false) :
 ∃(p:Place) (n cap:Nat) (rows:Nat->Nat->Value),n<=cap/\cap<=aq/\(∀i,i<n->∀(j:Nat) (k:CK),ks[j]? = some k->k.ok (rows i j))/\(∀b,p.fp b->b<w.heap.size) /\
  (∀(ρ:Env) (T:Nat),T<ρ.n->ρ.pl T=p->(A.slc T 0 ks.length n cap).cz ρ v)/\(∀(ρ:Env),(Chunk.arr e ks n rows).Sat ρ p w) /\
  ∀i,i<n->∃(m:Nat) (cs:List Value) (x:DataW H×List MemPlace),DataW.trod enc P w 0 (fun _=>true) held m e cs=some x/\(∀b off,MemPlace.cell b off∈x.2->w.frozen? ⟨b,off,none⟩=false)/\wE ks cs/\∀j,j<ks.length->cs[j]? = some (rows i j):=by
 rcases DataW.trod_slice ht h with⟨hv,_⟩ | ⟨a,len,cap,elems,rest,m,rfl,hv,hx,_,hlc,hcm,hel,hget,hsp,_⟩
 ·cases hv;refine⟨zw,0,0,fun _ _=>undef,Nat.le_refl _,Nat.zero_le _,fun i hi=>absurd hi (Nat.not_lt_zero _),fun b hb=>hb.elim,fun ρ T hT _=>⟨hT,Nat.le_refl _,Nat.zero_le _,.inl ⟨rfl,rfl,rfl⟩⟩,fun ρ=>.inl ⟨rfl,rfl,fun b hb=>hb⟩,fun i hi=>absurd hi (Nat.not_lt_zero _)⟩
 ·cases hv;obtain⟨hr1,hr2⟩:=hsp rfl;by_cases hc0:cap=0
  ·subst hc0;have hl0:len=0:=by omega
   subst hl0;exact⟨⟨a.block,a.off,0,fun _=>False⟩,0,0,fun _ _=>undef,Nat.le_refl _,Nat.zero_le _,fun i hi=>absurd hi (Nat.not_lt_zero _),fun b hb=>hb.elim,fun ρ T hT hp=>⟨hT,Nat.le_refl _,Nat.zero_le _,.inr ⟨a,rfl,fun h=>absurd rfl h⟩⟩,fun ρ=>.inl ⟨rfl,rfl,fun b hb=>hb⟩,fun i hi=>absurd hi (Nat.not_lt_zero _)⟩
  have hspot:a.spot=none:=by
   have fin:∀(o:Option (DataW H×List MemPlace)),(∃x,o=some x)->(w.cells? 0 (a.add (0*P.cellsOf e)) (P.cellsOf e)).bind (DataW.trod enc P w 0 (fun _=>true) held m e)=o->a.spot=none:=by
    rintro o ⟨x,rfl⟩ ho;obtain⟨cs,hcs,hx⟩:=Option.bind_eq_some_iff.1 ho;obtain⟨h1,_,hc⟩:=EE hcs;have:=hc 0 (by omega);rw[Nat.zero_mul,show ∀a:Addr,(a.add 0).add 0=a from fun a=>rfl,List.getElem?_eq_getElem (by omega)]at this;unfold World.cell? at this;split at this
    ·cases hsp:a.spot with
     |none=>rfl
     |some s=>rw[hsp]at this;simp at this
    ·cases this
   by_cases h1:0<len
   ·exact fin _ ⟨elems[0]'(by omega),List.getElem?_eq_getElem _⟩ (hget 0 h1)
   ·have:=hr2 0 (by omega);rw[show len+0=0 by omega]at this;exact fin _ ⟨rest[0]'(by omega),List.getElem?_eq_getElem _⟩ this
  have row:∀i,i<cap->∃cs:List Value,(wE ks cs/\∀j,j<ks.length->w.cell? ⟨a.block,a.off+i*ks.length+j,none⟩=cs[j]?)/\(i<len->∃x∈elems,DataW.trod enc P w 0 (fun _=>true) held m e cs=some x):=by
   intro i hi;have fin:∀(x:DataW H×List MemPlace),(w.cells? 0 (a.add (i*P.cellsOf e)) (P.cellsOf e)).bind (DataW.trod enc P w 0 (fun _=>true) held m e)=some x->∃cs:List Value,(wE ks cs/\∀j,j<ks.length->w.cell? ⟨a.block,a.off+i*ks.length+j,none⟩=cs[j]?)/\DataW.trod enc P w 0 (fun _=>true) held m e cs=some x:=by
    intro x ho;obtain⟨cs,hcs,hx⟩:=Option.bind_eq_some_iff.1 ho;obtain⟨_,_,hc⟩:=EE hcs;refine⟨cs,⟨zX d m e cs x ks hx hf,fun j hj=>?_⟩,hx⟩;have:=hc j (by omega);rw[Addr.Yj a _ hspot,Addr.add_plain,<- hk]at this;exact this
   by_cases h1:i<len
   ·obtain⟨cs,g1,g2⟩:=fin (elems[i]'(by omega)) ((hget i h1).trans (List.getElem?_eq_getElem _));exact⟨cs,g1,fun _=>⟨_,List.getElem_mem _,g2⟩⟩
   ·have:=hr2 (i-len) (by omega);rw[show len+(i-len)=i by omega]at this;obtain⟨cs,g1,g2⟩:=fin (rest[i-len]'(by omega)) (this.trans (List.getElem?_eq_getElem _));exact⟨cs,g1,fun h=>absurd h h1⟩
  ·have hcell:∀i,i<cap->∀(j:Nat) (k:CK),ks[j]? = some k->∃v,w.cell? ⟨a.block,a.off+i*ks.length+j,none⟩=some v/\k.ok v:=by
    intro i hi j k hj;have hjl:j<ks.length:=(List.getElem?_eq_some_iff.1 hj).1;obtain⟨cs,⟨h1,h2⟩,_⟩:=row i hi;have hlt:j<cs.length:=by rw[h1.len];exact hjl
    exact⟨cs[j],by rw[h2 j hjl,List.getElem?_eq_getElem hlt],h1.ok j k _ hj (List.getElem?_eq_getElem hlt)⟩
   have hblk:∃vs ty fr,w.heap[a.block]? = some (.cells vs ty fr):=by
    obtain⟨v,hv,_⟩:=hcell 0 (by omega) 0 (ks[0]'(by omega)) (List.getElem?_eq_getElem _);unfold World.cell? at hv;split at hv
    ·rename_i vs ty fr hh;exact⟨vs,ty,fr,hh⟩
    ·cases hv
   obtain⟨vs,ty,fr,hb⟩:=hblk;have hget2:∀i,i<cap->∀(j:Nat) (k:CK),ks[j]? = some k->∃v,vs[a.off+i*ks.length+j]? = some v/\k.ok v:=by
    intro i hi j k hj;obtain⟨v,hv,hok⟩:=hcell i hi j k hj;rw[cell_of hb]at hv;exact⟨v,hv,hok⟩
   have hfit:a.off+cap*ks.length<=vs.size:=by
    obtain⟨v,hv,_⟩:=hget2 (cap-1) (by omega) (ks.length-1) (ks[ks.length-1]'(by omega)) (List.getElem?_eq_getElem _);obtain⟨hlt,_⟩:=Array.getElem?_eq_some_iff.1 hv;have:(cap-1)*ks.length+ks.length=cap*ks.length:=by
     rw[<- Nat.succ_mul];congr 1;omega
    omega
   have hblt:a.block<w.heap.size:=by
    obtain⟨hlt,_⟩:=Array.getElem?_eq_some_iff.1 hb;exact hlt
   refine⟨⟨a.block,a.off,cap,fun b=>b=a.block⟩,len,cap,fun i j=>vs[a.off+i*ks.length+j]?.getD undef,hlc,by unfold aq;unfold maxLen at hcm;exact hcm,fun i hi j k hj=>?_,fun b hb=>by rw[hb];exact hblt,fun ρ T hT hp=>⟨hT,hlc,by unfold aq;unfold maxLen at hcm;exact hcm,.inr ⟨a,rfl,fun _=>⟨by rw[hp];cases a;simp at hspot;subst hspot;simp,by rw[hp];simp⟩⟩⟩,fun ρ=>.inr ⟨vs,ty,fr,hb,hfit,hlc,fun o h1 h2=>?_,fun _=>Iff.rfl,fun i hi j k hj=>?_⟩,fun i hi=>?_⟩
   ·obtain⟨v,hv,hok⟩:=hget2 i (by omega) j k hj;simp only;rw[hv];exact hok
   ·have hmem:MemPlace.cell a.block o∈ps:=by
     have e:ps=MemPlace.row a ((elems.length+rest.length)*P.cellsOf e)++(elems++rest).flatMap (·.2):=congrArg Prod.snd hx;rw[e];refine List.mem_append_left _ (List.mem_map.2 ⟨o-a.off,?_,?_⟩)
     ·rw[List.mem_range,hel,hr1,<- hk];simp only at h1 h2;rw[show len+(cap-len)=cap by omega];omega
     ·simp only at h1;show MemPlace.cell a.block (a.off+(o-a.off))=_;rw[show a.off+(o-a.off)=o by omega]
    have:=hz _ _ hmem;simp only[World.frozen?,hb]at this;obtain⟨lo,hi⟩:=fr;simpa using this
   ·obtain⟨v,hv,hok⟩:=hget2 i (by omega) j k hj;simp only;rw[hv];exact⟨rfl,hok⟩
   ·obtain⟨cs,⟨g1,g2⟩,g3⟩:=row i (by omega);obtain⟨x,hxm,hxt⟩:=g3 hi;refine⟨m,cs,x,hxt,fun b off hm=>hz b off ?_,g1,fun j hj=>?_⟩
    ·have e:ps=MemPlace.row a ((elems.length+rest.length)*P.cellsOf e)++(elems++rest).flatMap (·.2):=congrArg Prod.snd hx;rw[e];exact List.mem_append_right _ (List.mem_flatMap.2 ⟨x,List.mem_append_left _ hxm,hm⟩)
    ·have h2:=g2 j hj;rw[cell_of hb]at h2;have hlt:j<cs.length:=by rw[g1.len];exact hj
     rw[List.getElem?_eq_getElem hlt]at h2 ⊢;simp only;rw[h2];rfl
theorem Od{t e:TypeId}{ks:List CK}{d:Nat}{v:Value}{dd:DataW H}{ps:List MemPlace}{r:Reach}{b0:Nat}(ht:P.underlying t=some (.slice e))(hf:uF true P d e=some ks)(hk:ks.length=P.cellsOf e)(hk1:1<=ks.length)
 (hval:Value.okWide P w r b0 t v) (h:DataW.Trod enc P w 0 (fun _=>true) held t v dd ps) (hz:∀b off,MemPlace.cell b off∈ps->w.frozen? ⟨b,off,none⟩=false) :
 ∃(p:Place) (n cap:Nat) (rows:Nat->Nat->Value),n<=cap/\cap<=aq/\(∀i,i<n->∀(j:Nat) (k:CK),ks[j]? = some k->k.ok (rows i j))/\(∀b,p.fp b->b<w.heap.size) /\
  (∀(ρ:Env) (T:Nat),T<ρ.n->ρ.pl T=p->(A.slc T 0 ks.length n cap).cz ρ v)/\∀(ρ:Env),(Chunk.arr e ks n rows).Sat ρ p w:=by
 obtain⟨fuel,h⟩:=h;have hv2:Cell.okWide P w r b0 t v:=by unfold Value.okWide at hval;rw[ht]at hval;exact hval
 have hone:∀o l c,v.cells.toList=[.slice o l c]->v = .slice o l c:=by
  intro o l c hv;cases v<;>simp[Value.cells]at hv<;>first|exact hv|(simp[hv];done)|skip
  all_goals(unfold Cell.okWide Cell.ok at hv2;rw[ht]at hv2;simp at hv2)
 have hc:v.cells.toList=[v]:=by
  rcases DataW.trod_slice ht h with⟨hv,_⟩ | ⟨a,len,cap,elems,rest,m,_,hv,_⟩
  ·rw[hone _ _ _ hv];rfl
  ·rw[hone _ _ _ hv];rfl
 rw[hc]at h;obtain⟨p,n,cap,rows,g1,g2,g3,g4,g5,g6,_⟩:=GJ ht hf hk hk1 h hz;exact⟨p,n,cap,rows,g1,g2,g3,g4,g5,g6⟩
theorem GK:∀ {ks:List CK} {l:List RK} {vs:List Value} {xs:List RD},wE ks vs->LO l xs->LO (ks.map .c++l) ((List.zipWith (fun k v=>RD.a (mz k v)) ks vs)++xs)
 |[],l,vs,xs,h,hx=>by
  have:vs=[]:=List.eq_nil_of_length_eq_zero (by simpa using h.len);subst this;exact hx
 |k::ks,l,[],xs,h,hx=>by have:=h.len;simp at this
 |k::ks,l,v::vs,xs,h,hx=>⟨_,_,rfl,⟨v,rfl,h.ok 0 k v rfl rfl⟩,GK (ks:=ks) (vs:=vs) ⟨by have:=h.len;simpa using this,fun j k' v' hk hv=>h.ok (j+1) k' v' (by simpa using hk) (by simpa using hv)⟩ hx⟩
theorem Qb:∀(n:Nat) (ks:List CK) (vs:List Value) (xs:List RD),Z6 n ((List.zipWith (fun k v=>RD.a (mz k v)) ks vs)++xs)=List.zipWith mz ks vs++Z6 n xs
 |_,[],_,_=>by simp
 |_,_::_,[],_=>by simp
 |n,k::ks,v::vs,xs=>by simp[Z6,Qb n ks vs xs]
theorem VL:∀(ks:List CK) (vs:List Value) (xs:List RD),rN ((List.zipWith (fun k v=>RD.a (mz k v)) ks vs)++xs)=rN xs
 |[],_,_=>by simp
 |_::_,[],_=>by simp
 |k::ks,v::vs,xs=>by simp[rN,VL ks vs xs]
theorem LQ:∀(n:Nat) {ks:List CK} {vs:List Value} (l:List RK) (xs:List RD),vs.length=ks.length->zY n (ks.map .c++l) ((List.zipWith (fun k v=>RD.a (mz k v)) ks vs)++xs)=zY n l xs
 |_,[],[],_,_,_=>by simp
 |_,[],_::_,_,_,h=>by simp at h
 |_,_::_,[],_,_,h=>by simp at h
 |n,k::ks,v::vs,l,xs,h=>by
  have:=LQ n (ks:=ks) (vs:=vs) l xs (by simpa using h);simpa[zY]using this
theorem LR{ρ:Env}:∀ {ks:List CK} {vs:List Value},wE ks vs->cE ρ (List.zipWith mz ks vs) vs
 |[],vs,h=>by
  have:vs=[]:=List.eq_nil_of_length_eq_zero (by simpa using h.len);subst this;rfl
 |k::ks,[],h=>by have:=h.len;simp at this
 |k::ks,v::vs,h=>⟨v,vs,rfl,ob (h.ok 0 k v rfl rfl) ρ,LR ⟨by have:=h.len;simpa using this,fun j k' v' hk hv=>h.ok (j+1) k' v' (by simpa using hk) (by simpa using hv)⟩⟩
theorem ry:∀(n:Nat) (fs:List RK) (xs:List RD),∀p∈zY n fs xs,n<=p.1/\p.1<n+rN xs
 |_,[],_,_,h=>by simp[zY]at h
 |_,_::_,[],_,h=>by simp[zY]at h
 |n,k::r,x::s,p,h=>by
  cases k<;>cases x<;>simp only[zY,List.mem_cons]at h
  ·exact ry n r s p h
  ·have:=ry n r s p h;simp only[rN];omega
  ·exact ry n r s p h
  ·rcases h with rfl|h
   ·simp only[rN];omega
   ·have:=ry (n+1) r s p h;simp only[rN];omega
theorem EF{r:Reach}{b0 d n:Nat}{ts:List TypeId}{cs:List Value}(hts:∀(i:Nat) (v:Value),cs[i]? = some v->∃u:TypeId,ts[i]? = some u/\Cell.okWide P w r b0 u v) :
 ∀(fs:List Field) (o:Nat) (l:List RK) (ρ0:Env),GI P d ts fs o=some l ->
  (∀f∈fs,∃x,DataW.trod enc P w 0 (fun _=>true) held n f.type ((cs.drop f.offset).take (P.cellsOf f.type))=some x/\∀b off,MemPlace.cell b off∈x.2->w.frozen? ⟨b,off,none⟩=false)->o+l.length=cs.length ->
  ∃(xs:List RD) (ρ:Env),LO l xs/\ρ0.le ρ/\ρ.n=ρ0.n+rN xs/\cE ρ (Z6 ρ0.n xs) (cs.drop o)/\aj w (fun _=>False) ρ (Fv (zY ρ0.n l xs)) w
 |[],o,l,ρ0,h,_,hl=>by
  simp[GI]at h;subst h;refine⟨[],ρ0,rfl,Env.le.refl _,rfl,?_,⟨eZ.refl _ _,fun e he=>(by cases he),.nil⟩⟩;have:cs.drop o=[]:=List.drop_eq_nil_of_le (by simp at hl;omega);rw[this];rfl
 |f::fs,o,l,ρ0,h,hf,hl=>by
  simp only[GI]at h;cases ho:Nat.beq f.offset o with
  |false=>rw[ho]at h;cases h
  |true =>
  rw[ho]at h;simp only[cond_true]at h;have ho':=Nat.eq_of_beq_eq_true ho;obtain⟨x,hx,hz⟩:=hf f List.mem_cons_self;rw[ho']at hx;have hfr:∀g∈fs,∃x,DataW.trod enc P w 0 (fun _=>true) held n g.type ((cs.drop g.offset).take (P.cellsOf g.type))=some x/\∀b off,MemPlace.cell b off∈x.2->w.frozen? ⟨b,off,none⟩=false:=fun g hg=>hf g (List.mem_cons_of_mem _ hg);split at h
  ·rename_i e hu;split at h
   ·rename_i ks u l1 e1 e2 e3;cases hb:(Nat.beq ks.length (P.cellsOf e)&&(Nat.ble 1 ks.length&&(Nat.beq (P.cellsOf f.type) 1&&VK P u)))
    ·rw[hb]at h;cases h
    rw[hb]at h;simp only[cond_true,Option.some.injEq]at h;subst h;simp only[Bool.and_eq_true]at hb;obtain⟨h1,h2,h3,h4⟩:=hb;have hlt:o<cs.length:=by simp at hl;omega
    have hc1:=Nat.eq_of_beq_eq_true h3;have hone:(cs.drop o).take (P.cellsOf f.type)=[cs[o]]:=by
     rw[hc1,List.drop_eq_getElem_cons hlt];rfl
    rw[hone]at hx;obtain⟨u',hu',hok⟩:=hts o cs[o] (List.getElem?_eq_getElem hlt);rw[e2]at hu';cases hu';obtain⟨p,m,cap,rows,hn,hc,hrows,hlt2,hrep,hsat,_⟩:=GJ hu e1 (Nat.eq_of_beq_eq_true h1) (Nat.le_of_ble_eq_true h2) (dd:=x.1) (ps:=x.2) hx hz;obtain⟨xs,ρ,g1,g2,g3,g4,g5⟩:=EF hts fs (o+1) l1 (ρ0.ext p) e3 hfr (by simp at hl ⊢;omega);have hpl:ρ.pl ρ0.n=p:=by rw[g2.pl _ (Nat.lt_succ_self _)];exact ρ0.dH p
    have hlt':ρ0.n<ρ.n:=g2.n;refine⟨.s ks.length m cap rows::xs,ρ,⟨_,_,rfl,⟨m,cap,rows,rfl,hn,hc,hrows⟩,g1⟩,(ρ0.eE p).trans g2,by rw[g3];simp[rN,Env.ext];omega,?_,?_⟩
    ·rw[List.drop_eq_getElem_cons hlt];exact⟨_,_,rfl,hrep ρ ρ0.n hlt' hpl,g4⟩
    ·refine aj.cons g5 ⟨hlt',by simp only;rw[hpl];exact hsat ρ,by simp only;rw[hpl];exact hlt2,fun h=>(by cases h)⟩ fun y hy=>⟨?_,fun h=>?_⟩
     ·obtain⟨q,hq,rfl⟩:=List.mem_map.1 hy;have:=(ry _ _ _ _ hq).1;simp only[Env.ext]at this ⊢;omega
     ·rw[Dw hy]at h;cases h
   ·cases h
  ·split at h
   ·rename_i ks l1 e1 e3;cases hb:Nat.beq ks.length (P.cellsOf f.type)
    ·rw[hb]at h;cases h
    rw[hb]at h;simp only[cond_true,Option.some.injEq]at h;subst h;have hb':=Nat.eq_of_beq_eq_true hb;have hks:=zX d n f.type _ _ ks hx e1;obtain⟨xs,ρ,g1,g2,g3,g4,g5⟩:=EF hts fs (o+P.cellsOf f.type) l1 ρ0 e3 hfr (by rw[<- hb'];simp at hl;omega);refine⟨(List.zipWith (fun k v=>RD.a (mz k v)) ks ((cs.drop o).take (P.cellsOf f.type)))++xs,ρ,GK hks g1,g2,by rw[VL];exact g3,?_,?_⟩
    ·rw[Qb];have e:cs.drop o=(cs.drop o).take (P.cellsOf f.type)++cs.drop (o+P.cellsOf f.type):=by
      rw[<- List.drop_drop,List.take_append_drop]
     rw[e,List.take_append_of_le_length (by rw[hks.len,hb'];exact Nat.le_refl _),List.take_take,Nat.min_self];exact(LR hks).append g4
    ·rw[LQ _ _ _ hks.len];exact g5
   ·cases h
theorem Jz:∀(n:Nat) (aks:List AK) (ads:List AD),∀p∈Oc n aks ads,n<=p.1
 |_,[],_,_,h=>by simp[Oc]at h
 |_,_::_,[],_,h=>by simp[Oc]at h
 |n,k::r,a::s,p,h=>by
  have key:∀m,n<=m->p∈Oc m r s->n<=p.1:=fun m hm h=>Nat.le_trans hm (Jz m r s p h);cases k<;>cases a<;>simp only[Oc,List.mem_cons,List.mem_append]at h<;>first|exact key n (Nat.le_refl _) h|skip
  ·rcases h with rfl|h
   ·exact Nat.le_refl _
   ·exact key (n+1) (Nat.le_succ _) h
  ·rcases h with h|h
   ·exact(ry _ _ _ _ h).1
   ·exact key _ (Nat.le_add_right _ _) h
theorem Oe{ρ:Env}{ks:List CK}{cs:List Value}(h:wE ks cs):cE ρ (atoms (fun j=>cs.getD j undef) ks 0) cs:=by
 have:=wU ρ (fun j=>cs.getD j undef) ks 0 (fun j k hk=>by
  have hj:j<cs.length:=by rw[h.len];exact(List.getElem?_eq_some_iff.1 hk).1
  rw[Nat.zero_add];refine h.ok j k _ hk ?_;simp[List.getD,List.getElem?_eq_getElem hj])
 have e:(List.range' 0 ks.length).map (fun j=>cs.getD j undef)=cs:=by
  apply List.ext_getElem
  ·simp[h.len]
  ·intro i h1 h2;simp[List.getD,List.getElem?_eq_getElem h2]
 rwa[e]at this
theorem GL{r:Reach}{b0 d:Nat}:∀(ts:List TypeId) (aks:List AK) (vs:List Value) (ds:List (DataW H)) (ps:List MemPlace) (ρ0:Env),ED P d ts=some aks->DataW.TrodAll enc P w 0 (fun _=>true) held ts vs ds ps ->
 (∀(j:Nat) (t:TypeId) (v:Value),ts[j]? = some t->vs[j]? = some v->Value.okWide P w r b0 t v)->(∀b off,MemPlace.cell b off∈ps->w.frozen? ⟨b,off,none⟩=false) ->
 ∃(ads:List AD) (ρ:Env),LP aks ads/\ρ0.le ρ/\ρ.n=ρ0.n+Jy ads/\jv ρ (Y6 ρ0.n ads) vs/\aj w (fun _=>False) ρ (Fv (Oc ρ0.n aks ads)) w
 |[],aks,[],[],ps,ρ0,h,hA,_,_=>by
  simp[ED]at h;subst h;exact⟨[],ρ0,rfl,Env.le.refl _,rfl,rfl,⟨eZ.refl _ _,fun e he=>(by cases he),.nil⟩⟩
 |t::ts,aks,v::vs,dd::ds,ps,ρ0,h,hA,hval,hz=>by
  obtain⟨p1,p2,hT,hA',rfl⟩:=hA;simp only[ED]at h;split at h
  ·rename_i k l e1 e2;cases h;have hv0:=hval 0 t v rfl rfl;have rec_:=fun ρ=>GL (r:=r) (b0:=b0) (d:=d) ts l vs ds p2 ρ e2 hA' (fun j t v hj hv=>hval (j+1) t v (by simpa using hj) (by simpa using hv)) (fun b off hm=>hz b off (List.mem_append_right _ hm));have hz1:∀b off,MemPlace.cell b off∈p1->w.frozen? ⟨b,off,none⟩=false:=fun b off hm=>hz b off (List.mem_append_left _ hm);obtain⟨fuel,hx⟩:=hT;have one:∀u,v.cells.toList=[u]->u.oneCell'=true->(∀x,v≠.agg x)->v=u:=by
    intro u hv hu hna;cases v<;>simp[Value.cells]at hv<;>first|exact hv|exact hv.symm|(rename_i x;exact absurd rfl (hna x))|(subst hv;simp[Value.oneCell']at hu)
   have nagg:∀x:Array Value,v = .agg x->(∃fs,P.underlying t=some (.struct fs))\/∃n e,P.underlying t=some (.array n e):=by
    intro x hx;subst hx;unfold Value.okWide at hv0;split at hv0
    ·rename_i fs hu;exact .inl ⟨fs,hu⟩
    ·rename_i n e hu;exact .inr ⟨n,e,hu⟩
    ·rename_i h1 h2;unfold Cell.okWide at hv0;split at hv0<;>first|(cases ‹Value.agg x=_›;done)|skip
     all_goals(first|(rename_i e;cases e;done)|skip)
     unfold Cell.ok at hv0;split at hv0<;>first|(rename_i e;cases e;done)|exact hv0.elim|skip
   unfold aaX at e1;split at e1
   ·rename_i hu;cases e1;obtain⟨b,hb,_⟩:=DataW.trod_bool hu hx;have hv:=one _ hb rfl (fun x hx=>by rcases nagg x hx with⟨_,h⟩ | ⟨_,_,h⟩<;>rw[hu]at h<;>cases h);subst hv;obtain⟨ads,ρ,h1,h2,h3,h4,h5⟩:=rec_ ρ0;exact⟨.a (.bool b)::ads,ρ,⟨_,_,rfl,⟨b,rfl⟩,h1⟩,h2,h3,⟨_,_,rfl,rfl,h4⟩,h5⟩
   ·rename_i kk hu;cases e1;obtain⟨m,hb,_,hw⟩:=DataW.trod_int hu hx;have hv:=one _ hb rfl (fun x hx=>by rcases nagg x hx with⟨_,h⟩ | ⟨_,_,h⟩<;>rw[hu]at h<;>cases h);subst hv;have hin:bR kk m:=by rw[G8];simpa[Lit.wf]using hw
    obtain⟨ads,ρ,h1,h2,h3,h4,h5⟩:=rec_ ρ0;exact⟨.a (.int kk m)::ads,ρ,⟨_,_,rfl,⟨m,rfl,hin⟩,h1⟩,h2,h3,⟨_,_,rfl,⟨rfl,hin⟩,h4⟩,h5⟩
   ·rename_i hu;cases e1;obtain⟨s,hb,_,hs⟩:=DataW.trod_string hu hx;have hv:=one _ hb rfl (fun x hx=>by rcases nagg x hx with⟨_,h⟩ | ⟨_,_,h⟩<;>rw[hu]at h<;>cases h);subst hv;have hs':s.size<=aq:=by unfold aq;unfold maxLen at hs;exact hs
    obtain⟨ads,ρ,h1,h2,h3,h4,h5⟩:=rec_ ρ0;exact⟨.a (.str s)::ads,ρ,⟨_,_,rfl,⟨s,rfl,hs'⟩,h1⟩,h2,h3,⟨_,_,rfl,⟨rfl,hs'⟩,h4⟩,h5⟩
   ·rename_i fs hu;cases hf:Jx P d t with
    |none =>
     rw[hf]at e1;simp only at e1;split at e1
     ·rename_i tys hty;split at e1
      ·rename_i fl hfl;cases hb:(Nat.beq fl.length (P.cellsOf t)&&Nat.beq tys.length (P.cellsOf t))
       ·rw[hb]at e1;cases e1
       rw[hb]at e1;simp only[cond_true,Option.some.injEq]at e1;subst e1;simp only[Bool.and_eq_true]at hb;have hb1:=Nat.eq_of_beq_eq_true hb.1;have hb2:=Nat.eq_of_beq_eq_true hb.2;have hv:∃cs:Array Value,v = .agg cs/\cs.size=P.cellsOf t/\Row.okWide P w r b0 t cs:=by
        unfold Value.okWide at hv0;rw[hu]at hv0;exact hv0
       obtain⟨cs,rfl,hcs,hrow⟩:=hv;obtain⟨tys',hty',_,hcell⟩:=hrow;rw[hty]at hty';cases hty';obtain⟨xs,m,rfl,hxx,hl,hlen,hget⟩:=DataW.trod_struct hu hx;have hps:p1=xs.flatMap (·.2):=congrArg Prod.snd hxx;obtain⟨rd,ρ1,g1,g2,g3,g4,g5⟩:=EF (r:=r) (b0:=b0) (d:=d) (n:=m) (ts:=tys) (cs:=cs.toList) (enc:=enc) (held:=held) (P:=P) (w:=w) (fun i v hi=>by
        have hi':cs[i]? = some v:=by simpa using hi
        obtain⟨u,h1,h2⟩:=hcell i v hi';have hlt:=(Array.getElem?_eq_some_iff.1 hi').1;rw[Nat.mod_eq_of_lt (by omega)]at h1;exact⟨u,h1,h2⟩) fs.toList 0 fl ρ0 hfl (fun f hf=>by
        obtain⟨i,hi,e⟩:=List.getElem_of_mem hf;have hi':i<fs.size:=by simpa using hi
        have h1:=hget i f (by rw[Array.getElem?_eq_getElem hi'];congr 1);refine⟨xs[i]'(by omega),by rw[<- List.getElem?_eq_getElem (by omega)];exact h1,fun b off hm=>hz1 b off ?_⟩;rw[hps];exact List.mem_flatMap.2 ⟨_,List.getElem_mem _,hm⟩) (by simp[hb1,hcs])
       obtain⟨ads,ρ,h1,h2,h3,h4,h5⟩:=rec_ ρ1;rw[g3]at h4 h5;refine⟨.Yi rd::ads,ρ,⟨_,_,rfl,⟨rd,rfl,g1⟩,h1⟩,g2.trans h2,by rw[h3,g3];simp[Jy];omega,⟨_,_,rfl,⟨cs.toList,by simp,?_⟩,h4⟩,?_⟩
       ·have:=g4.mono h2;simpa using this
       ·show aj w (fun _=>False) ρ (Fv (zY ρ0.n fl rd++Oc (ρ0.n+rN rd) l ads)) w;rw[show Fv (zY ρ0.n fl rd++Oc (ρ0.n+rN rd) l ads)=Fv (zY ρ0.n fl rd)++Fv (Oc (ρ0.n+rN rd) l ads)from List.map_append ..];refine(g5.mono h2).app h5 fun x hx y hy=>⟨?_,fun h=>?_⟩
        ·obtain⟨q,hq,rfl⟩:=List.mem_map.1 hx;obtain⟨q',hq',rfl⟩:=List.mem_map.1 hy;have a1:=ry _ _ _ _ hq;have a2:=Jz _ _ _ _ hq';simp only;omega
        ·rw[Dw hx,Dw hy]at h;cases h
      ·cases e1
     ·cases e1
    |some ks =>
     rw[hf]at e1;cases e1;have hks:=zX d fuel t _ _ ks hx hf;have hv:∃cs:Array Value,v = .agg cs:=by
      unfold Value.okWide at hv0;rw[hu]at hv0;obtain⟨cs,h,_⟩:=hv0;exact⟨cs,h⟩
     obtain⟨cs,rfl⟩:=hv;have hks:wE ks cs.toList:=hks;obtain⟨ads,ρ,h1,h2,h3,h4,h5⟩:=rec_ ρ0;refine⟨.agg (atoms (fun j=>cs.toList.getD j undef) ks 0)::ads,ρ,⟨_,_,rfl,⟨_,rfl,fun j k hj=>?_⟩,h1⟩,h2,h3,⟨_,_,rfl,⟨cs.toList,by simp,Oe hks⟩,h4⟩,h5⟩;have hjl:j<cs.toList.length:=by rw[hks.len];exact(List.getElem?_eq_some_iff.1 hj).1
     exact hks.ok j k _ hj (by simp[List.getD,List.getElem?_eq_getElem hjl])
   ·rename_i e hu;split at e1
    ·rename_i ks hf;cases hb:(Nat.beq ks.length (P.cellsOf e)&&Nat.ble 1 ks.length)
     ·rw[hb]at e1;cases e1
     rw[hb]at e1;cases e1;simp only[Bool.and_eq_true]at hb;obtain⟨p,n,cap,rows,hn,hc,hrows,hlt,hrep,hsat⟩:=Od hu hf (Nat.eq_of_beq_eq_true hb.1) (Nat.le_of_ble_eq_true hb.2) hv0 ⟨fuel,hx⟩ hz1;obtain⟨ads,ρ,h1,h2,h3,h4,h5⟩:=rec_ (ρ0.ext p);have hpl:ρ.pl ρ0.n=p:=by rw[h2.pl _ (Nat.lt_succ_self _)];exact ρ0.dH p
     have hlt':ρ0.n<ρ.n:=h2.n;refine⟨.slc ks.length n cap rows::ads,ρ,⟨_,_,rfl,⟨n,cap,rows,rfl,hn,hc,hrows⟩,h1⟩,(ρ0.eE p).trans h2,by rw[h3];simp[Jy,Env.ext];omega,⟨_,_,rfl,hrep ρ ρ0.n hlt' hpl,h4⟩,?_⟩;refine aj.cons h5 ⟨hlt',by simp only;rw[hpl];exact hsat ρ,by simp only;rw[hpl];exact hlt,fun h=>(by cases h)⟩ fun x hx=>⟨?_,fun h=>?_⟩
     ·obtain⟨q,hq,rfl⟩:=List.mem_map.1 hx;have:=Jz _ _ _ _ hq;simp only[Env.ext]at this ⊢;omega
     ·rw[Dw hx]at h;cases h
    ·cases e1
   ·cases e1
  ·cases h
 |[],_,[],_::_,_,_,_,h,_,_=>h.elim
 |[],_,_::_,_,_,_,_,h,_,_=>h.elim
 |_::_,_,[],_,_,_,_,h,_,_=>h.elim
 |_::_,_,_::_,[],_,_,_,h,_,_=>h.elim
theorem Yk{Y:Gx}(hY:Y.Ok){C:cG}{ch:C.α->iy}(hch:∀a,Kn Y.G.X (ch a)){lh:C.α->Nat->LH}{f:Nat}(hb:xh Y C ch lh f)(a:C.α)(hp:C.pre a)(hhp:C.hp a=[])(hres:∀o,C.res a o = .a .tt){w:World}{ρ:Env}{vs:List Value}
 (hn:ρ.n=C.m) (hh:aj w (fun _=>False) ρ (Fv (C.ro a)) w) (hargs:jv ρ (C.args a) vs):Calls Y.G.X.P f vs.toArray w fun e w'=>e = .returned (.bool true)/\eZ (fun _=>False) w w':=by
 refine(zB hY (hch a) (hb a hp) w (fun _=>False) ρ w vs hn ?_ hargs).mono ?_
 ·show aj w (fun _=>False) ρ (xg (C.hp a)++Fv (C.ro a)) w;rw[hhp];exact hh
 ·rintro e w' ⟨v,rfl,sv,s',ρ',hK,_,_,_,_,hrep,hh'⟩;refine⟨?_,hh'.keeps⟩;obtain⟨o,hK⟩:=hK;obtain⟨τ,_,_,hw,q⟩:=w9 hK (Wf.nil _ _);have:=q ρ' (jA ρ' τ C.m') v (oR hw) hrep;rw[hres o]at this;rw[show v = .bool true from this]
theorem Yl{Y:Gx}(hY:Y.Ok){C:cG}{ch:C.α->iy}(hch:∀a,Kn Y.G.X (ch a)){lh:C.α->Nat->LH}{f:Nat}(hb:xh Y C ch lh f){ts:List TypeId}{aks:List AK}{d:Nat}(hk:ED Y.G.X.P d ts=some aks)(hhp:∀a,C.hp a=[])(hres:∀a o,C.res a o = .a .tt)
 (hinst:∀ads,LP aks ads->∃a,C.pre a/\C.args a=Y6 0 ads/\C.ro a=Oc 0 aks ads/\C.m=Jy ads) {W:World} {args:Array Value} {ds:List (DataW H)} {ps:List MemPlace} {r:Reach} {b0:Nat}
 (hA:DataW.TrodAll enc Y.G.X.P W 0 (fun _=>true) held ts args.toList ds ps) (hval:∀(j:Nat) (t:TypeId) (v:Value),ts[j]? = some t->args.toList[j]? = some v->Value.okWide Y.G.X.P W r b0 t v)
 (hz:∀b off,MemPlace.cell b off∈ps->W.frozen? ⟨b,off,none⟩=false):Calls Y.G.X.P f args W fun e w'=>e = .returned (.bool true)/\eZ (fun _=>False) W w':=by
 obtain⟨ads,ρ,h1,_,h3,h4,h5⟩:=GL (r:=r) (b0:=b0) (d:=d) ts aks args.toList ds ps ⟨0,fun _=>zw⟩ hk hA hval hz;obtain⟨a,g1,g2,g3,g4⟩:=hinst ads h1;have:=Yk hY hch hb a g1 (hhp a) (hres a) (w:=W) (ρ:=ρ) (vs:=args.toList) (by rw[h3,g4];simp) (by rw[g3];exact h5) (by rw[g2];exact h4);simpa using this
theorem B5:∀ {ts:List TypeId} {vs:List Value} {ds:List (DataW H)} {ps:List MemPlace},DataW.TrodAll enc P w base spare held ts vs ds ps->ds.length=ts.length
 |[],[],[],_,_=>rfl
 |_::_,_::_,_::_,_,⟨_,_,_,h,_⟩=>by simp[B5 h]
 |[],[],_::_,_,h=>h.elim
 |[],_::_,_,_,h=>h.elim
 |_::_,[],_,_,h=>h.elim
 |_::_,_::_,[],_,h=>h.elim
theorem xW(hl:laidOutB P=true){W W':World}(hk:eZ (fun _=>False) W W'){sp:Nat->Bool}:∀ {ts:List TypeId} {vs:List Value} {ds:List (DataW H)} {ps:List MemPlace},(∀t∈ts,P.readableRec t=true/\t<P.types.size) ->
 DataW.TrodAll enc P W 0 (fun _=>true) true ts vs ds ps->(∀p∈ps,p.block<W.heap.size/\sp p.block=true)->DataW.TrodAll enc P W' 0 sp true ts vs ds ps
 |[],[],[],_,_,h,_=>h
 |t::ts,v::vs,d::ds,ps,ht,⟨p1,p2,h1,h2,e⟩,hp=>by
  subst e;have hb:Below W.heap.size W W':=⟨hk.os,hk.tape,hk.output,hk.size,fun b hb=>hk.block b hb id⟩
  obtain⟨a1,a2⟩:=ht t List.mem_cons_self;exact⟨p1,p2,WideElems.Trod_stays hl a1 a2 h1 (fun x hx=>hb.same (hp x (List.mem_append_left _ hx)).1) (fun x hx=>(hp x (List.mem_append_left _ hx)).2),
   xW hl hk (fun t h=>ht t (List.mem_cons_of_mem _ h)) h2 fun x hx=>hp x (List.mem_append_right _ hx),rfl⟩
 |[],[],_::_,_,_,h,_=>h.elim
 |[],_::_,_,_,_,h,_=>h.elim
 |_::_,[],_,_,_,h,_=>h.elim
 |_::_,_::_,[],_,_,h,_=>h.elim
end
end Go.Sx
namespace Go.Proofs.YtfjgoonelcaggaaGreat
open Go.Sx
def jN(m:oN):oN:=IX { iM m [2]with l:=[] }
structure Qc where
 m:oN
 p:sY
noncomputable def Of:cG where
 α:=Qc
 β:=sY
 m:=7
 m':=10
 pre:=fun a=>jH a.m a.p/\uC a.m 1/\(iM a.m [2]).d.n<100000/\(iM a.m [2]).d.calls<1000000000000
 args:=fun _=>[.a (.ptr 0 0 0 0)]
 hp:=fun a=>FB 0 1 2 3 4 5 6 a.m a.p
 ro:=fun _=>[]
 post:=fun a b=>jH (jN a.m) b/\vk a.p b
 res:=fun _ _=>.a (.lit .i64 0)
 cR:=fun a b=>FB 0 1 2 3 7 8 9 (jN a.m) b
def oD(x:Int):List Int:=[x]
theorem R7:fnBody (Y Tryz.prog) [(121,UW),(178,PW),(169,ko)] 142 Of fun _=>[]:=fnBody.of (p :=
 ∀z:Qc,jH z.m z.p/\uC z.m 1/\ku (iM z.m (oD 2)).d->Ed 1 1 z.m z.p (aF 1 (bP (e9 2))) fun v w=>Exists (az (ee (lu (iM v.m v.body).d fun s=>∃u:sY,aI (w.H=u.H/\aA (gi (iM v.m v.body).L (jN z.m).L w.y u.y (gP (gR s) (jN z.m).d (qi 16 u.x (16=u.cap) 0 0 (ef (Ix.bU 16)) (jH (jN z.m) u/\vk z.p u) True)))))))) (by kernel_rfl) (by
 delta ah bF aG ay cq af bP e9 bw aB qi oW ku aI az ag Ed aA iB lu ef oD gi ee
 try dsimp -iota -proj only
 rintro⟨m,p⟩ ⟨hat,hok,hw1,hw2⟩;have hr:ak 1 1 (aF 1 [Value.int .u8 2]) (aa cO [2]):=.dB fun i hi=>by
  have:i=0:=by omega
  subst this;rfl
 have h0:uC m ([2]:List Int).length:=hok;have h1:1<=([2]:List Int).length:=by decide
 have h2:([2]:List Int).length<=300:=by decide
 refine⟨FC.mk m p [2] 1,?_⟩
 and_intros<;>first|exact bY|exact hat|exact h0|exact h1|exact h2|exact hr|(intro h_;revert h_)|exact bZ|skip
 rintro p2 ⟨hat2,hf2⟩;have e:iM (FC.mk m p [2] 1).m (FC.mk m p [2] 1).body=iM m [2]:=rfl;refine⟨(),trivial,fun _ _=>⟨(iM m [2]).d,?_⟩⟩
 and_intros<;>first|exact bY|exact hw1|exact hw2|(intro h_;revert h_)|exact bZ|skip
 intro _ _;have h3:jH (jN m) ⟨p2.H,p2.y,Ix.bU 16,16⟩:=⟨hat2.log,Ix.xx (by omega) (by omega)⟩
 have h4:vk p ⟨p2.H,p2.y,Ix.bU 16,16⟩:=hf2;refine⟨⟨p2.H,p2.y,Ix.bU 16,16⟩,?_⟩
 and_intros<;>first|exact bY|exact h3|exact h4|(intro h_;revert h_)|exact bZ|skip)
theorem R8:au (Y Tryz.prog).G.X 142 Of:=aU fF R7 ⟨IU,Lv,ja,trivial⟩
theorem R9{rs:List RecM}{es:List (Option aH)}{p:Int}(hl:es.length=rs.length)(h:∀i,i<es.length->(gl rs i).body=aL (gl es i)/\∀x,gl es i=some x->gh x=true) :
 (es++[none]).length=(rs++[(⟨p,[2]⟩:RecM)]).length/\∀i,i<(es++[none]).length->(gl (rs++[(⟨p,[2]⟩:RecM)]) i).body=aL (gl (es++[none]) i)/\∀z,gl (es++[none]) i=some z->gh z=true:=by
 refine⟨by simp[hl],fun i hi=>?_⟩;rw[List.length_append,List.length_singleton]at hi;rw[lq hi,lq (by rw[<- hl];exact hi),hl];by_cases hin:i<rs.length
 ·rw[if_pos hin,if_pos hin];exact h i (by omega)
 ·rw[if_neg hin,if_neg hin];exact⟨rfl,fun z e=>by cases e⟩
theorem nK.Z7{m:oN}{n:Nat}{rs:List RecM}{es:List (Option aH)}(h:nK m n rs es)(hn:m.L.next<9999999999)(hfit:(eL rs).length+8+1<=378) :
 nK (jN m) (n+21) (rs++[⟨m.L.next,[2]⟩]) (es++[none])/\(jN m).L.next=m.L.next+1/\(jN m).L.av=m.L.av/\(jN m).L.from_=m.L.from_:=by
 obtain⟨h1,h2,h3,h4,h5⟩:=h.one.add (body:=[2]) (by decide) hn hfit;obtain⟨b1,b2⟩:=R9 (p:=m.L.next) h.len h.body;refine⟨⟨⟨h1.flush,?_,Nat.zero_le _⟩,b1,b2⟩,h2,h4,h5⟩;rw[xD];exact⟨h1.flush.rd,fun e he=>(by cases he),fun k hk=>absurd rfl hk⟩
def FF(s:mu):mu:={ s with d:=(jN s.fl).d,cL:=(jN s.fl).L,cl:=(jN s.fl).l }
theorem dY.Z7{s:mu}{n:Nat}{es:List (Option aH)}{cb jb:Nat}(h:dY s n es cb jb)(hn:n<900000000)(hfit:cb+9<=378) :
 dY (FF s) (n+21) (es++[none]) (cb+9) jb/\uC s.fl 1/\(iM s.fl [2]).d.n<100000/\(iM s.fl [2]).d.calls<1000000000000:=by
 obtain⟨cr,hf,hb⟩:=h.fl;have hnx:=h.nx;have hnx1:s.fl.L.next<=n:=hnx.1
 obtain⟨f1,f2,f3,f4⟩:=hf.Z7 (by omega) (by omega);obtain⟨g1,g2,g3,g4⟩:=h.Z2;obtain⟨s1,s2,s3⟩:=CP h.dn.1;have hdn:(jN s.fl).d.n=s.d.n:=Bn _ _ _;have hcl:(jN s.fl).d.calls<=n+21:=f1.one.log.calls;have hcl2:(jN s.fl).d.calls=(iM s.fl [2]).d.calls+1:=rfl;have hdd:=h.dn;have hout:∀r,r<162->∀j,(jN s.fl).d.now r j=s.d.now r j:=fun r hr j=>by
  have e:(jN s.fl).d.now r j=(oT s.cL s.d [2]).now r j:=rfl;rw[e];exact EA (by omega) (.inl (by omega))
 refine⟨⟨⟨_,f1,by rw[mP,List.length_append,xA];show(eL cr).length+(8+1)<=_;omega⟩,h.jl.dev' (fun r _ h2 j _=>hout r (by omega) j) hdn hcl,h.jb,h.ms,?_,⟨f4.trans g1,?_,g3,g4⟩,?_,h.keep.dev' fun r hr j _=>hout r (by omega) j,h.bN⟩,hf.one.ok (by omega) (by show _+8+1<=_;omega),?_,by omega⟩
 ·have e:(FF s).cL.next=s.cL.next+1:=f2
  refine⟨by rw[e];push_cast;omega,?_,?_⟩
  ·show s.jL.next<=_;push_cast;omega
  ·show s.k.s.fL<=_;push_cast;omega
 ·show(jN s.fl).L.av=jo (jN s.fl).d.n;rw[hdn];exact f3.trans g2
 ·show 192<=(jN s.fl).d.n/\(jN s.fl).d.n<3000;rw[hdn];exact h.dn
 ·have e:(iM s.fl [2]).d.n=s.d.n:=Bn _ _ _;rw[e];omega
theorem Ym(es:List (Option aH))(k:ByteArray):gE (es++[none]) k=none:=by rw[xD];rfl
def Og(s:mu)(m:MetaM):mu:={ s with d:=iO s.k s.d m,k:=nJ s.k m }
theorem dY.save{s:mu}{n:Nat}{es:List (Option aH)}{cb jb:Nat}(h:dY s n es cb jb){m:MetaM}(hs:gY s.k m=true)(hb:m.bN=s.bN)(hn:n<800000000) :
 dY (Og s m) (n+2) es cb jb/\(Og s m).k.m=m/\(Og s m).d.n=s.d.n/\(Og s m).d.calls=s.d.calls+2:=by
 have hnx:=h.nx;obtain⟨k1,k2,k3,k4,k5,k6⟩:=h.keep.save hs (by omega);obtain⟨cr,hf,hcb⟩:=h.fl;obtain⟨g1,g2,g3,g4⟩:=h.Z2;have hcl:s.d.calls<=n:=hf.one.log.calls;have hcl2:(Og s m).d.calls<=n+2:=by show(iO s.k s.d m).calls<=_;rw[k5];omega
 refine⟨⟨⟨cr,hf.dev' (fun r h1 _ j _=>k6 r (by have h1:s.cL.from_<=r:=h1;omega) j) k4 hcl2,hcb⟩,h.jl.dev' (fun r h1 _ j _=>k6 r (by omega) j) k4 hcl2,h.jb,h.ms,?_,⟨g1,?_,g3,g4⟩,?_,k1,?_⟩,k2,k4,k5⟩
 ·refine⟨?_,?_,?_⟩
  ·show s.cL.next<=_;push_cast;omega
  ·show s.jL.next<=_;push_cast;omega
  ·show(nJ s.k m).s.fL<=_;rw[k3];push_cast;omega
 ·show s.cL.av=jo (iO s.k s.d m).n;rw[k4];exact g2
 ·show 192<=(iO s.k s.d m).n/\(iO s.k s.d m).n<3000;rw[k4];exact h.dn
 ·show s.bN=(nJ s.k m).m.bN;rw[k2,hb]
structure iu where
 id:Int
 blk:Nat
 key:ByteArray
 good:Bool
 born:Nat
 deriving Inhabited
structure kP where
 last:Int
 l:List iu
 dU:Nat
def iu.enc(e:iu):gz:=⟨e.id,pv e.blk 0,e.born⟩
def FG(mb:Nat)(t:kP):Chunk:=.obj 197 [.int .i64 t.last,.val (.map (some mb))]
def xX(mb:Nat)(t:kP):Chunk:=.abs (mS mb .i64 (t.l.map iu.enc) t.dU)
structure gU(H:PH)(t:kP):Prop where
 at_:∀e∈t.l,H e.blk=some (0,[.string e.key,.bool e.good])/\e.key.size<=aq
 blk:(t.l.map (·.blk)).Nodup
 id:∀e∈t.l,1<=e.id/\e.id<=t.last/\e.born<t.dU
 ids:(t.l.map (·.id)).Nodup
 born:(t.l.map (·.born)).Nodup
 last:0<=t.last/\t.last<=1099511627776
theorem gU.ok{H:PH}{t:kP}(h:gU H t):Zr .i64 (t.l.map iu.enc) t.dU:=⟨fun e he=>by
 obtain⟨x,hx,rfl⟩:=List.mem_map.1 he;obtain⟨a1,a2,a3⟩:=h.id x hx;have:=h.last;exact⟨rfl,a3,by simp only[iu.enc,bR];omega⟩,by rw[List.map_map];exact h.born⟩
structure EG where
 mb:Nat
 t:kP
 H:PH
 key:ByteArray
def rZ(t:kP)(key:ByteArray)(b:Nat):kP:=⟨t.last+1,t.l++[⟨t.last+1,b,key,true,t.dU⟩],t.dU+1⟩
noncomputable def Oh:cG where
 α:=EG
 β:=Nat
 m:=3
 m':=4
 pre:=fun a=>gU a.H a.t/\a.t.last<1099511627776/\a.key.size<=aq
 args:=fun a=>[.a (.ptr 0 0 0 0),.a (.str a.key)]
 hp:=fun a=>[(0,FG a.mb a.t),(1,xX a.mb a.t),(2,.cI a.H)]
 ro:=fun _=>[]
 post:=fun a b=>a.H b=none
 res:=fun a _=>.a (.int .i64 (a.t.last+1))
 cR:=fun a b=>[(0,FG a.mb (rZ a.t a.key b)),(1,xX a.mb (rZ a.t a.key b)),(3,.cI (aO a.H b 0 [.string a.key,.bool true]))]
theorem Z8{l:List gz}{n:Int}(h:∀e∈l,e.key≠n):C7 l n=false:=by
 unfold C7;rw[List.any_eq_false];intro e he;simpa using h e he
theorem VM(n:Int)(u:Value)(dU:Nat):∀l:List gz,(∀e∈l,e.key≠n)->C6 n u dU l=l++[⟨n,u,dU⟩]
 |[],_=>rfl
 |e::r,h=>by
  unfold C6;rw[if_neg (h e List.mem_cons_self),VM n u dU r fun x hx=>h x (List.mem_cons_of_mem _ hx)];rfl
def gF(y:Nat)(x:kP):Sx.Place->Go.World->Prop:=mS y .i64 (List.map iu.enc x.l) x.dU
def ki(x:Option Nat):=cH (Value.map x)
def nL(x y:Nat):=Value.map (some x)=Value.map (some y)
def pZ(v w:Nat)(s:kP)(u:IntKind)(t:Nat->List gz->Nat->Prop):Nat->Prop:=fun(x:Nat)=>∃y:List gz,∃z:Nat,nL v x/\gF w s=mS x u y z/\Zr u y z/\t x y z
def lE(x:Nat)(y z:Prop):=ki (some x)/\y/\z
def Oi(z:Prop)(u:Sx.Place->Go.World->Prop)(x:EG)(v:PH)(w:Int):Nat->Prop:=fun(y:Nat)=>z/\u=gF x.mb (rZ x.t x.key y)/\v=aO x.H y 0 (bw (bJ x.key) om)/\w=(rZ x.t x.key y).last/\lE x.mb (x.H y=none) True
theorem Sa:fnBody (Y Tryz.prog) [] 137 Oh fun _=>[]:=fnBody.of (p :=
 ∀x:EG,gU x.H x.t/\x.t.last<(1099511627776:Int)/\bp x.key<=aq->ai x.t.last->aD (cn 1099511627776 x.t.last) (Exists (Oi ((0:Int)=x.t.last+(1:Int)) (gF x.mb x.t) x x.H x.t.last)) (jQ x.t.last 1 (ai (x.t.last+(1:Int))->bp x.key<=aq->∀y:Nat,x.H y=none->Exists (pZ x.mb x.mb x.t .i64 fun v u z=>aC (bif bif Nat.beq 0 1 then true else bif Nat.beq 0 1 then true else false then false else true)/\(ai (x.t.last+(1:Int))->Exists (Oi (ay (x.t.last+(1:Int))) (mS v .i64 (C6 (x.t.last+(1:Int)) (pv y 0) z u) (bif C7 u (x.t.last+(1:Int))then z else z+1)) x (aO x.H y 0 (bw (bJ x.key) om)) (x.t.last+(1:Int)))))))) (by kernel_rfl) (by
 delta aD ai ay gF ki nL bP aC cH bw bp bJ cn pZ jQ om lE Oi ew
 try dsimp -iota -proj only
 rintro⟨mb,t,H,key⟩ ⟨h1,h2,h3⟩ _;dsimp only at *;have hno:∀e∈t.l.map iu.enc,e.key≠t.last+1:=fun e he=>by
  obtain⟨x,hx,rfl⟩:=List.mem_map.1 he;have:=h1.id x hx;simp only[iu.enc];omega
 have hl:=h1.last;have hok:=h1.ok;refine⟨fun c=>by(exfalso;have:=of_decide_eq_true c;omega),fun _ _=>⟨by simp only[bR];omega,fun _ _ b hb=>⟨mb,t.l.map iu.enc,t.dU,rfl,rfl,hok,rfl,fun _=>⟨b,?_⟩⟩⟩⟩;have e:mS mb .i64 (C6 (t.last+1) (pv b 0) t.dU (t.l.map iu.enc)) (bif C7 (t.l.map iu.enc) (t.last+1)then t.dU else t.dU+1)=mS mb .i64 ((rZ t key b).l.map iu.enc) (rZ t key b).dU:=by
  rw[VM _ _ _ _ hno,Z8 hno];unfold rZ;rw[List.map_append];rfl
 and_intros<;>first|exact bY|exact e|exact hb|(intro h_;revert h_)|exact bZ|skip)
theorem Sb:au (Y Tryz.prog).G.X 137 Oh:=aU fF Sa trivial
structure wF where
 mb:Nat
 t:kP
 H:PH
 id:Int
def wG(t:kP)(id:Int):Option iu:=t.l.find? fun e=>e.id == id
def p5(t:kP)(id:Int):kP:={ t with l:=t.l.filter fun e=>!(e.id == id) }
noncomputable def VN:cG where
 α:=wF
 β:=Unit
 m:=3
 m':=3
 pre:=fun a=>gU a.H a.t/\bR .i64 a.id
 args:=fun a=>[.a (.ptr 0 0 0 0),.a (.int .i64 a.id)]
 hp:=fun a=>[(0,FG a.mb a.t),(1,xX a.mb a.t)]
 ro:=fun a=>[(2,.cI a.H)]
 post:=fun _ _=>True
 res:=fun a _=>.ng [.a (.str (match wG a.t a.id with|some e=>e.key|none=>ByteArray.mk #[])),.a (.bool (match wG a.t a.id with|some e=>e.good|none=>false))]
 cR:=fun a _=>[(0,FG a.mb (p5 a.t a.id)),(1,xX a.mb (p5 a.t a.id))]
theorem LS(id:Int):∀l:List iu,getM (l.map iu.enc) id=(l.find? fun e=>e.id == id).map fun e=>pv e.blk 0
 |[]=>rfl
 |e::r=>by
  have ih:=LS id r;unfold getM at ih ⊢;rw[List.map_cons,List.find?_cons,List.find?_cons];show Option.map _ (match e.id == id with|true=>_|false=>_)=_;cases e.id == id with
  |true=>rfl
  |false=>exact ih
theorem EH(id:Int):∀l:List iu,(l.map (·.id)).Nodup->C8 id (l.map iu.enc)=(l.filter fun e=>!(e.id == id)).map iu.enc
 |[],_=>rfl
 |e::r,h=>by
  rw[List.map_cons,List.nodup_cons]at h;rw[List.map_cons];unfold C8;by_cases he:e.id=id
  ·have hr:r.filter (fun e=>!(e.id == id))=r:=List.filter_eq_self.2 fun x hx=>by
    have:x.id≠id:=fun e2=>h.1 (List.mem_map.2 ⟨x,hx,by rw[e2,he]⟩);simp[this]
   rw[if_pos (show(iu.enc e).key=id from he),List.filter_cons,show(!(e.id == id))=false by simp[he],if_neg (by decide),hr]
  ·rw[if_neg (show ¬(iu.enc e).key=id from he),List.filter_cons,show(!(e.id == id))=true by simp[he],if_pos rfl,List.map_cons,EH id r h.2]
def yY(x:wF):Sx.Place->Go.World->Prop:=gF x.mb (p5 x.t x.id)
def Oj(x:wF):Bool:=match wG x.t x.id with|some y=>y.good|none=>false
def Ol(x:wF):ByteArray:=match wG x.t x.id with|some y=>y.key|none=>cA
def Om(x:wF):=cA=Ol x/\fV (Oj x) (gF x.mb x.t=yY x) (x.t.last=(p5 x.t x.id).last/\lE x.mb True True)
def Bo(y:Option Nat)(z u:Prop):=∃x:Option Nat,Value.map y=Value.map x/\(x=none->z)/\(x≠none->u)
theorem VO:fnBody (Y Tryz.prog) [] 72 VN fun _=>[]:=fnBody.of (p :=
 ∀x:wF,gU x.H x.t/\ai x.id->Bo (some x.mb) (Exists (az (Om x))) (Exists (pZ x.mb x.mb x.t .i64 fun k f l=>(∃v:Option Go.Addr,Fq (getM f x.id)=Value.pointer v)/\aD (KC (Fq (getM f x.id))) (Exists (az (Om x))) (Bo (some x.mb) (Exists (pZ x.mb x.mb x.t .i64 fun v w g=>bn true/\False)) (Exists (pZ x.mb x.mb x.t .i64 fun v w g=>Exists (pZ x.mb x.mb x.t .i64 fun h i j=>bn true/\ig (Fq (getM w x.id)) 0 (fun y=>x.H y) (fun y=>∃u:ByteArray,y=bJ u/\bp u<=aq) fun y u=>ig (Fq (getM w x.id)) 1 (fun z=>x.H z) (fun z=>∃s:Bool,z=ew s) fun z s=>Exists (az (toS (aW u y)=Ol x/\toB (aW s z)=Oj x/\mS h .i64 (C8 x.id i) j=yY x/\x.t.last=(p5 x.t x.id).last/\lE x.mb True True))))))))) (by kernel_rfl) (by
 delta aD aW ig ai bn gF ki cA kY nL aC cH fV bp bJ pZ az Om Bo lE yY ew Oj Ol
 try dsimp -iota -proj only
 rintro⟨mb,t,H,id⟩ ⟨h1,h2⟩;dsimp only at *;have hok:=h1.ok;have hg:=LS id t.l;have hd:=EH id t.l h1.ids;refine⟨some mb,rfl,fun c=>(by cases c),fun _=>⟨mb,t.l.map iu.enc,t.dU,rfl,rfl,hok,?_⟩⟩;cases hf:t.l.find? (fun e=>e.id == id)with
 |none =>
  have hff:wG t id=none:=hf;have hu:p5 t id=t:=by
   have:t.l.filter (fun e=>!(e.id == id))=t.l:=List.filter_eq_self.2 fun x hx=>by
    have:=List.find?_eq_none.1 hf x hx;simpa using this
   unfold p5;rw[this]
  have hgv:Fq (getM (t.l.map iu.enc) id) = .pointer none:=by rw[hg,hf];rfl
  refine⟨⟨none,hgv⟩,fun _=>⟨(),?_⟩,fun c=>(by rw[hgv]at c;cases c)⟩;rw[hff,hu]
  and_intros<;>first|exact bY|(intro h_;revert h_)|exact bZ|skip
 |some e =>
  have hff:wG t id=some e:=hf;have he:e∈t.l:=List.mem_of_find?_eq_some hf;obtain⟨a1,a2⟩:=h1.at_ e he;have hgv:Fq (getM (t.l.map iu.enc) id)=pv e.blk 0:=by rw[hg,hf];rfl
  refine⟨⟨_,hgv⟩,fun c=>(by rw[hgv]at c;cases c),fun _=>⟨some mb,rfl,fun c=>(by cases c),fun _=>⟨mb,t.l.map iu.enc,t.dU,rfl,rfl,hok,mb,t.l.map iu.enc,t.dU,rfl,rfl,hok,rfl,e.blk,0,hgv,e.blk,0,rfl,e.blk,0,0,[.string e.key,.bool e.good],rfl,a1,⟨⟨_,rfl,_,rfl,a2⟩,trivial⟩,e.blk,0,hgv,e.blk,0,rfl,e.blk,0,1,[.string e.key,.bool e.good],rfl,a1,⟨⟨_,rfl,_,rfl⟩,trivial⟩,(),?_⟩⟩⟩;rw[hff];have e2:mS mb .i64 (C8 id (t.l.map iu.enc)) t.dU=mS mb .i64 ((p5 t id).l.map iu.enc) (p5 t id).dU:=by rw[hd];rfl
  and_intros<;>first|exact bY|exact e2|(intro h_;revert h_)|exact bZ|skip)
theorem VP:au (Y Tryz.prog).G.X 72 VN:=aU fF VO trivial
structure LU where
 ks:List ByteArray
 cap:Nat
 key:ByteArray
def hasB(ks:List ByteArray)(k:ByteArray):Bool:=ks.any fun q=>decide (k=q)
noncomputable def VQ:cG where
 α:=LU
 β:=Unit
 m:=1
 m':=1
 pre:=fun a=>a.ks.length<100000
 args:=fun a=>[.a (.slc 0 0 1 a.ks.length a.cap),.a (.str a.key)]
 hp:=fun _=>[]
 ro:=fun a=>[(0,.arr 9 [.str] a.ks.length (aa jZ a.ks))]
 post:=fun _ _=>True
 res:=fun a _=>.a (.bool (hasB a.ks a.key))
 cR:=fun _ _=>[]
def aaY(a:LU):An:=.flat 2 Nat (fun s i=>s.int 8 i) (fun _ i=>i<=a.ks.length/\∀j,j<i->a.key≠gl a.ks j) (fun _ i=>a.ks.length-i)
theorem VR:fnBody (Y Tryz.prog) [] 133 VQ fun a=>[(181,[aaY a],[])]:=fnBody.of (p :=
 ∀x:LU,bl x.ks<100000->cm (fun y=>rj (bl x.ks) x.cap (fm x.key) 1 (aa jZ x.ks) ((y<=bl x.ks/\∀z:Nat,z<y->x.key≠gl x.ks z)/\True)) fun y=>gX y (bl x.ks) (∀z:Nat,z<y->x.key≠gl x.ks z) (aD (gn x.key (gl x.ks (0+ax y))) (bz (cn 0 (af y)=hasB x.ks x.key)) (bH y fun z=>rj (bl x.ks) x.cap (fm x.key) 1 (aa jZ x.ks) (dD z (bl x.ks) (∀u:Nat,u<z->x.key≠gl x.ks u) y))) (Exists (dZ (hasB x.ks x.key)))) (by kernel_rfl) (by
 delta aD eF ai bF aG ay ax dm aK aY af bl bf aC aR fV dV jD bz dD jR aP bH aI bh dZ cn bM aT az ag aQ dh gn gX fm rj bt cm
 try dsimp -iota -proj only
 rintro⟨ks,cap,key⟩ h;dsimp only at *;have h0:∀j,j<0->key≠gl ks j:=fun j hj=>absurd hj (Nat.not_lt_zero j);refine⟨⟨0,?_⟩,fun i ⟨hi,hall⟩=>?_⟩
 ·and_intros<;>first|exact bY|exact h0|(intro h_;revert h_)|exact bZ|skip
 rw[show 0+(i:Int).toNat=i by omega];refine⟨fun c1=>?_,fun c1=>⟨(),?_,trivial,trivial⟩⟩
 ·have hlt:i<ks.length:=by have:=of_decide_eq_true c1;omega
  refine⟨⟨by omega,by omega⟩,hlt,fun c2=>⟨(),?_,trivial,trivial⟩,fun c2=>⟨by simp only[bR];omega,i+1,?_⟩⟩
  ·have c2:=of_decide_eq_true c2;have e:hasB ks key=true:=List.any_eq_true.2 ⟨gl ks i,by rw[bL hlt];exact List.getElem_mem _,decide_eq_true c2⟩;rw[e];exact decide_eq_true (by omega)
  ·have c2:=of_decide_eq_false c2;have h1:∀j,j<i+1->key≠gl ks j:=fun j hj=>by
    by_cases e:j=i
    ·rw[e];exact c2
    ·exact hall j (by omega)
   and_intros<;>first|exact bY|exact h1|(intro h_;revert h_)|exact bZ|skip
 ·have hn:¬i<ks.length:=by have:=of_decide_eq_false c1;omega
  have e:hasB ks key=false:=by
   unfold hasB;rw[List.any_eq_false];intro q hq;obtain⟨j,hj,rfl⟩:=List.getElem_of_mem hq;rw[<- bL hj];simpa using hall j (by omega)
  rw[e])
theorem VS:au (Y Tryz.prog).G.X 133 VQ:=aU fF VR trivial
structure EI where
 mb:Nat
 t:kP
 H:PH
 ks:List ByteArray
 cap:Nat
def iP(t:kP)(f:ByteArray->Bool):kP:={ t with l:=t.l.map fun e=>{ e with good:=e.good&&!f e.key } }
structure On where
 seen:List Nat
 H:PH
 n:Int
def Kt(t:kP)(seen:List Nat):Nat:=(t.l.filter fun e=>!decide (e.born∈seen)).length
structure Qd(t:kP)(H:PH)(f:ByteArray->Bool)(x:On):Prop where
 old:∀z,z∉t.l.map (·.blk)->x.H z=H z
 at_:∀e∈t.l,x.H e.blk=some (0,[.string e.key,.bool (e.good&&!(decide (e.born∈x.seen)&&f e.key))])
 n:0<=x.n/\x.n+(Kt t x.seen:Nat)<=(t.l.length:Nat)
theorem Qe{t:kP}{seen:List Nat}{y:iu}(hy:y∈t.l)(hn:y.born∉seen):Kt t (seen++[y.born])<Kt t seen :=
 Go.filter_lt (fun e:iu=>!decide (e.born∈seen)) (fun e=>!decide (e.born∈seen++[y.born])) (fun x hx=>by
  simp only[Bool.not_eq_true',decide_eq_false_iff_not,List.mem_append,not_or]at hx ⊢;exact hx.1) y (by simpa using hn) (by simp) t.l hy
theorem EJ{α β:Type}{f:α->β}{l:List α}(h:(l.map f).Nodup){a b:α}(ha:a∈l)(hb:b∈l)(e:f a=f b):a=b:=by
 induction l with
 |nil=>cases ha
 |cons x r ih =>
  rw[List.map_cons,List.nodup_cons]at h;obtain⟨g1,g2⟩:=h;rcases List.mem_cons.1 ha with a1|a1
  ·rcases List.mem_cons.1 hb with b1|b1
   ·rw[a1,b1]
   ·exact absurd (List.mem_map.2 ⟨b,b1,by rw[<- e,a1]⟩) g1
  ·rcases List.mem_cons.1 hb with b1|b1
   ·exact absurd (List.mem_map.2 ⟨a,a1,by rw[e,b1]⟩) g1
   ·exact ih g2 a1 b1
theorem Qd.skip{t:kP}{H:PH}{f:ByteArray->Bool}{x:On}(h:Qd t H f x)(ht:gU H t){y:iu}(hy:y∈t.l)(hn:y.born∉x.seen)(hf:(y.good&&f y.key)=false):Qd t H f ⟨x.seen++[y.born],x.H,x.n⟩:=by
 refine⟨h.old,fun e he=>?_,h.n.1,?_⟩
 ·rw[h.at_ e he];by_cases hb:e.born=y.born
  ·obtain rfl:=EJ ht.born he hy hb;have e1:decide (e.born∈x.seen)=false:=decide_eq_false hn;have e2:decide (e.born∈x.seen++[e.born])=true:=decide_eq_true (by simp);rw[e1,e2]
   revert hf
   cases e.good<;>cases f e.key<;>simp
  ·have e1:decide (e.born∈x.seen++[y.born])=decide (e.born∈x.seen):=by
    rw[Bool.eq_iff_iff];simp[hb]
   rw[e1]
 ·have:=Qe hy hn;have:=h.n.2;dsimp only;omega
theorem Qd.hit{t:kP}{H:PH}{f:ByteArray->Bool}{x:On}(h:Qd t H f x)(ht:gU H t){y:iu}(hy:y∈t.l)(hn:y.born∉x.seen)(hf:f y.key=true):Qd t H f ⟨x.seen++[y.born],aO x.H y.blk 0 [.string y.key,.bool false],x.n+1⟩:=by
 refine⟨fun z hz=>?_,fun e he=>?_,by have:=h.n.1;dsimp only;omega,?_⟩
 ·have:z≠y.blk:=fun e=>hz (List.mem_map.2 ⟨y,hy,e.symm⟩);show aO x.H y.blk 0 _ z=H z;rw[cN this];exact h.old z hz
 ·show aO x.H y.blk 0 _ e.blk=_;by_cases hb:e.blk=y.blk
  ·obtain rfl:=EJ ht.blk he hy hb;have e2:decide (e.born∈x.seen++[e.born])=true:=decide_eq_true (by simp);rw[dP,e2,hf];simp
  ·have hb2:e.born≠y.born:=fun e3=>hb (by rw[EJ ht.born he hy e3]);have e1:decide (e.born∈x.seen++[y.born])=decide (e.born∈x.seen):=by
    rw[Bool.eq_iff_iff];simp[hb2]
   rw[cN hb,h.at_ e he,e1]
 ·have:=Qe hy hn;have:=h.n.2;dsimp only;omega
theorem Qd.all{t:kP}{H:PH}{f:ByteArray->Bool}{x:On}(h:Qd t H f x)(ht:gU H t)(ha:∀e∈t.l,e.born∈x.seen):gU x.H (iP t f):=by
 have e1:∀ {γ:Type} (g:iu->γ),(∀e b,g { e with good:=b }=g e)->(iP t f).l.map g=t.l.map g:=fun g hg=>by
  unfold iP;rw[List.map_map];exact List.map_congr_left fun e _=>hg _ _
 refine⟨fun e he=>?_,by rw[e1 _ fun _ _=>rfl];exact ht.blk,fun e he=>?_,by rw[e1 _ fun _ _=>rfl];exact ht.ids,by rw[e1 _ fun _ _=>rfl];exact ht.born,ht.last⟩
 ·obtain⟨y,hy,rfl⟩:=List.mem_map.1 he;have:=h.at_ y hy;rw[decide_eq_true (ha y hy),Bool.true_and]at this;exact⟨this,(ht.at_ y hy).2⟩
 ·obtain⟨y,hy,rfl⟩:=List.mem_map.1 he;exact ht.id y hy
noncomputable def Oo:cG where
 α:=EI
 β:=PH×Int
 m:=4
 m':=4
 pre:=fun a=>gU a.H a.t/\a.ks.length<100000/\a.t.l.length<100000
 args:=fun a=>[.a (.ptr 0 0 0 0),.a (.slc 3 0 1 a.ks.length a.cap)]
 hp:=fun a=>[(0,FG a.mb a.t),(1,xX a.mb a.t),(2,.cI a.H)]
 ro:=fun a=>[(3,.arr 9 [.str] a.ks.length (aa jZ a.ks))]
 post:=fun a b=>gU b.1 (iP a.t (hasB a.ks))/\∀z,z∉a.t.l.map (·.blk)->b.1 z=a.H z
 res:=fun _ b=>.a (.int .i64 b.2)
 cR:=fun a b=>[(0,FG a.mb (iP a.t (hasB a.ks))),(1,xX a.mb (iP a.t (hasB a.ks))),(2,.cI b.1)]
def VT(mb:Nat)(t:kP)(H:PH)(f:ByteArray->Bool):An:=.flat 5 On (fun s x=>(((s.at_ (s.tg 14) (.abs (ni mb x.seen t.dU))).at_ (Ld s) (.cI x.H)).set 5 (.a (.int .i64 x.n)))) (fun _ x=>Qd t H f x) (fun _ x=>Kt t x.seen)
def uG(x:List Nat)(y:gz):List Nat:=x++[y.born]
def yZ(y:PH×Int)(z:kP)(u:ByteArray->Bool)(v:Nat->Option (Nat×List Value)):=gU y.fst (iP z u)/\∀x:Nat,¬x∈List.map (fun(w:iu)=>w.blk) z.l->y.fst x=v x
def y3(y:Int)(z:On->Prop):On->Prop:=fun(x:On)=>y=x.n/\ag (bI (aI (z x)))
def JA(l:PH)(x:kP)(c:Prop)(z:Nat)(d:Nat->Nat->On->Prop)(g:ByteArray->Bool)(e:Nat->Option (Nat×List Value))(A:On->List Nat->Nat->Nat->gz->gz->Nat->List Value->Prop)(B:On->List Nat->Nat->Nat->gz->On->Prop):=gU l x/\c->Exists (pZ z z x .i64 fun C M D=>Exists (y3 0 fun y=>d C D y)/\∀y:On,Qd x l g y->∃E:IntKind,∃m:Nat,∃w:List Nat,∃s:Nat,ni z y.seen x.dU=ni m w s/\Exists (pZ m z x E fun i o F=>F=s/\bn true/\((∀u:gz,u∈o->u.born∈w)->∃j:PH×Int,y.n=j.snd/\gF z x=gF z (iP x g)/\y.H=j.fst/\x.last=(iP x g).last/\lE z (yZ j x g fun G=>e G) True)/\∀u:gz,u∈o->¬u.born∈w->∃I:IntKind,∃p:Nat,∃q:List Nat,∃r:Nat,ni i (uG w u) s=ni p q r/\Exists (pZ p z x I fun N J K=>K=r/\∃L:List Nat,∃t:gz,q=uG L t/\t∈J/\ig t.val 1 (fun f=>y.H f) (fun f=>∃k:Bool,f=ew k) fun f k=>aD (toB (aW k f)) (ig t.val 0 (fun v=>y.H v) (fun v=>∃h:ByteArray,v=bJ h/\bp h<=aq) fun v h=>A y w s i u t v h) (Exists (y3 y.n fun v=>B y w s i u v)))))
def EK(z:Nat)(u:List Nat)(v:Nat)(x:EI)(y:On)(w:PH)(s:Prop):=aA (ni z u v=ni x.mb y.seen x.t.dU/\bh (bl x.ks) x.cap/\ay x.t.last/\lE x.mb (gF x.mb x.t=gF x.mb x.t) (w=y.H/\pK x.ks/\Qd x.t x.H (hasB x.ks) y/\s))
theorem Sc:fnBody (Y Tryz.prog) [(133,VQ)] 88 Oo fun a=>[(131,[VT a.mb a.t a.H (hasB a.ks)],[])]:=fnBody.of (p :=
 ∀x:EI,JA x.H x.t (bl x.ks<100000/\x.t.l.length<100000) x.mb (fun y v w=>EK y [] v x w x.H True) (hasB x.ks) (fun y=>x.H y) (fun y v w s f g j k=>∃u:LU,eH (bl x.ks) (bl u.ks) x.cap u.cap (toS (aW k j)=u.key) 1 (aa jZ x.ks) (aa jZ u.ks) (bl u.ks<100000/\aB (aD (hasB u.ks u.key) (Exists (kY g.val 1 (fun z=>y.H z) (fun z h=>z+1<=h.length) fun z h m o=>ai (y.n+(1:Int))/\Exists (y3 (y.n+(1:Int)) fun i=>EK s (uG v f) w x i (aO y.H z h (qV m o (bP gf) 1)) (Kt x.t i.seen<Kt x.t y.seen)))) (Exists (y3 y.n fun z=>EK s (uG v f) w x z y.H (Kt x.t z.seen<Kt x.t y.seen)))))) fun y v w s f g=>EK s (uG v f) w x g y.H (Kt x.t g.seen<Kt x.t y.seen)) (by kernel_rfl) (by
 delta aD eF aW ig ai bF aG ay bn gF ki bl kY nL bP aC cH bw dV bp aB eH bI JA bJ aI EK bh pZ gf ag aA pK lE uG yZ ew qV y3
 try dsimp -iota -proj only
 rintro⟨mb,t,H,ks,cap⟩ ⟨h1,h2,h3⟩;dsimp only at *;have hok:=h1.ok;obtain⟨f,hf⟩:∃f,f=hasB ks:=⟨_,rfl⟩
 refine⟨mb,t.l.map iu.enc,t.dU,rfl,rfl,hok,⟨⟨[],H,0⟩,?_⟩,fun x hI=>?_⟩
 ·have hI:Qd t H (hasB ks) ⟨[],H,0⟩:=⟨fun _ _=>rfl,fun e he=>by
   have:=(h1.at_ e he).1;show H e.blk=_;rw[this];simp,by show(0:Int)<=0;decide,by
   show(0:Int)+(Kt t []:Nat)<=(t.l.length:Nat)
   have:Kt t []<=t.l.length:=List.length_filter_le _ _;omega⟩
  and_intros<;>first|exact bY|exact hI|(intro h_;revert h_)|exact bZ|skip
 rw[<- hf]at hI ⊢;refine⟨.i64,mb,x.seen,t.dU,rfl,mb,t.l.map iu.enc,t.dU,rfl,rfl,hok,rfl,rfl,fun hall=>⟨(x.H,x.n),?_⟩,fun e he hns=>?_⟩
 ·have ha:=hI.all h1 fun e he=>hall _ (List.mem_map.2 ⟨e,he,rfl⟩);have hm:mS mb .i64 (t.l.map iu.enc) t.dU=mS mb .i64 ((iP t f).l.map iu.enc) (iP t f).dU:=by
   unfold iP;rw[List.map_map];rfl
  have ho:=hI.old
  and_intros<;>first|exact bY|exact hm|exact ha|exact ho|(intro h_;revert h_)|exact bZ|skip
 obtain⟨y,hy,rfl⟩:=List.mem_map.1 he;have hns:y.born∉x.seen:=hns;have hg:x.H y.blk=some (0,[.string y.key,.bool y.good]):=by
  rw[hI.at_ y hy,decide_eq_false hns];simp
 have hmu:=Qe hy hns;refine⟨.i64,mb,x.seen++[y.born],t.dU,rfl,mb,t.l.map iu.enc,t.dU,rfl,rfl,hok,rfl,x.seen,iu.enc y,rfl,he,y.blk,0,rfl,y.blk,0,rfl,y.blk,0,1,[.string y.key,.bool y.good],rfl,hg,⟨⟨_,rfl,_,rfl⟩,trivial⟩,fun c1=>?_,fun c1=>?_⟩
 ·have c1:y.good=true:=c1;have hyk:=(h1.at_ y hy).2;refine⟨y.blk,0,rfl,y.blk,0,rfl,y.blk,0,0,[.string y.key,.bool y.good],rfl,hg,⟨⟨_,rfl,_,rfl,hyk⟩,trivial⟩,LU.mk ks cap y.key,?_⟩;have hrk:ak ks.length 1 (aa jZ ks) (aa jZ ks):=ak.refl _ _ _;have hkk:toS ([Value.string y.key,.bool y.good].getD 0 (.tuple #[]))=y.key:=rfl
  and_intros<;>first|exact bY|exact hkk|exact hrk|exact h2|(intro h_;revert h_)|exact bZ|skip
  intro _ _;dsimp only;rw[<- hf];refine⟨fun c2=>⟨y.blk,0,rfl,y.blk,0,rfl,y.blk,0,1,[.string y.key,.bool y.good],rfl,hg,(Nat.le_refl 2),?_,⟨x.seen++[y.born],aO x.H y.blk 0 [.string y.key,.bool false],x.n+1⟩,?_⟩,fun c2=>⟨⟨x.seen++[y.born],x.H,x.n⟩,?_⟩⟩
  ·have:=hI.n;have:=List.length_filter_le (fun e:iu=>!decide (e.born∈x.seen)) t.l;simp only[bR];omega
  ·have hI2:=hI.hit h1 hy hns c2
   and_intros<;>first|exact bY|exact hI2|exact hmu|(intro h_;revert h_)|exact bZ|skip
  ·have hI2:=hI.skip h1 hy hns (by rw[c1,c2];rfl)
   and_intros<;>first|exact bY|exact hI2|exact hmu|(intro h_;revert h_)|exact bZ|skip
 ·have c1:y.good=false:=c1;have hI2:=hI.skip h1 hy hns (by rw[c1];rfl);refine⟨⟨x.seen++[y.born],x.H,x.n⟩,?_⟩
  and_intros<;>first|exact bY|exact hI2|exact hmu|(intro h_;revert h_)|exact bZ|skip)
theorem Sd:au (Y Tryz.prog).G.X 88 Oo:=aU fF Sc ⟨VS,trivial⟩
def zZ(_:ByteArray):Bool:=true
structure LV where
 mb:Nat
 t:kP
 H:PH
noncomputable def JB:cG where
 α:=LV
 β:=PH×Int
 m:=3
 m':=3
 pre:=fun a=>gU a.H a.t/\a.t.l.length<100000
 args:=fun a=>[.a (.ptr 0 0 0 0)]
 hp:=fun a=>[(0,FG a.mb a.t),(1,xX a.mb a.t),(2,.cI a.H)]
 ro:=fun _=>[]
 post:=fun a b=>gU b.1 (iP a.t zZ)/\∀z,z∉a.t.l.map (·.blk)->b.1 z=a.H z
 res:=fun _ b=>.a (.int .i64 b.2)
 cR:=fun a b=>[(0,FG a.mb (iP a.t zZ)),(1,xX a.mb (iP a.t zZ)),(2,.cI b.1)]
def JC(z:Nat)(u:List Nat)(v:Nat)(x:LV)(y:On)(w:PH)(s:Prop):=ag (ni z u v=ni x.mb y.seen x.t.dU/\ay x.t.last/\lE x.mb (gF x.mb x.t=gF x.mb x.t) (w=y.H/\Qd x.t x.H zZ y/\s))
theorem Oq:fnBody (Y Tryz.prog) [] 107 JB fun a=>[(131,[VT a.mb a.t a.H zZ],[])]:=fnBody.of (p :=
 ∀x:LV,JA x.H x.t (x.t.l.length<100000) x.mb (fun y z u=>JC y [] z x u x.H True) zZ (fun y=>x.H y) (fun y z u s f w k m=>Exists (kY w.val 1 (fun v=>y.H v) (fun v g=>v+1<=g.length) fun v g i j=>ai (y.n+(1:Int))/\Exists (y3 (y.n+(1:Int)) fun h=>JC s (uG z f) u x h (aO y.H v g (qV i j (bP gf) 1)) (Kt x.t h.seen<Kt x.t y.seen)))) fun y z u s f w=>JC s (uG z f) u x w y.H (Kt x.t w.seen<Kt x.t y.seen)) (by kernel_rfl) (by
 delta aD aW ig ai ay bn gF ki kY nL bP aC cH bw bp bI JA bJ aI pZ gf ag JC lE uG yZ ew qV y3
 try dsimp -iota -proj only
 rintro⟨mb,t,H⟩ ⟨h1,h3⟩;dsimp only at *;have hok:=h1.ok;refine⟨mb,t.l.map iu.enc,t.dU,rfl,rfl,hok,⟨⟨[],H,0⟩,?_⟩,fun x hI=>?_⟩
 ·have hI:Qd t H zZ ⟨[],H,0⟩:=⟨fun _ _=>rfl,fun e he=>by
   have:=(h1.at_ e he).1;show H e.blk=_;rw[this];simp,by show(0:Int)<=0;decide,by
   show(0:Int)+(Kt t []:Nat)<=(t.l.length:Nat)
   have:Kt t []<=t.l.length:=List.length_filter_le _ _;omega⟩
  and_intros<;>first|exact bY|exact hI|(intro h_;revert h_)|exact bZ|skip
 refine⟨.i64,mb,x.seen,t.dU,rfl,mb,t.l.map iu.enc,t.dU,rfl,rfl,hok,rfl,rfl,fun hall=>⟨(x.H,x.n),?_⟩,fun e he hns=>?_⟩
 ·have ha:=hI.all h1 fun e he=>hall _ (List.mem_map.2 ⟨e,he,rfl⟩);have hm:mS mb .i64 (t.l.map iu.enc) t.dU=mS mb .i64 ((iP t zZ).l.map iu.enc) (iP t zZ).dU:=by
   unfold iP;rw[List.map_map];rfl
  have ho:=hI.old
  and_intros<;>first|exact bY|exact hm|exact ha|exact ho|(intro h_;revert h_)|exact bZ|skip
 obtain⟨y,hy,rfl⟩:=List.mem_map.1 he;have hns:y.born∉x.seen:=hns;have hg:x.H y.blk=some (0,[.string y.key,.bool y.good]):=by
  rw[hI.at_ y hy,decide_eq_false hns];simp
 have hmu:=Qe hy hns;refine⟨.i64,mb,x.seen++[y.born],t.dU,rfl,mb,t.l.map iu.enc,t.dU,rfl,rfl,hok,rfl,x.seen,iu.enc y,rfl,he,y.blk,0,rfl,y.blk,0,rfl,y.blk,0,1,[.string y.key,.bool y.good],rfl,hg,⟨⟨_,rfl,_,rfl⟩,trivial⟩,fun c1=>?_,fun c1=>?_⟩
 ·have c1:y.good=true:=c1;have hyk:=(h1.at_ y hy).2;refine⟨y.blk,0,rfl,y.blk,0,rfl,y.blk,0,0,[.string y.key,.bool y.good],rfl,hg,⟨⟨_,rfl,_,rfl,hyk⟩,trivial⟩,y.blk,0,rfl,y.blk,0,rfl,y.blk,0,1,[.string y.key,.bool y.good],rfl,hg,(Nat.le_refl 2),?_,⟨x.seen++[y.born],aO x.H y.blk 0 [.string y.key,.bool false],x.n+1⟩,?_⟩
  ·have:=hI.n;have:=List.length_filter_le (fun e:iu=>!decide (e.born∈x.seen)) t.l;simp only[bR];omega
  ·have hI2:=hI.hit h1 hy hns rfl
   and_intros<;>first|exact bY|exact hI2|exact hmu|(intro h_;revert h_)|exact bZ|skip
 ·have c1:y.good=false:=c1;have hI2:=hI.skip h1 hy hns (by rw[c1];rfl);refine⟨⟨x.seen++[y.born],x.H,x.n⟩,?_⟩
  and_intros<;>first|exact bY|exact hI2|exact hmu|(intro h_;revert h_)|exact bZ|skip)
theorem Ot:au (Y Tryz.prog).G.X 107 JB:=aU fF Oq trivial
structure lF where
 node:Int
 id:Int
 op:Int
 key:ByteArray
 deriving Inhabited
structure dF where
 w:lF
 id:Int
 to:Int
 tick:Int
 deriving Inhabited
structure jq where
 w:lF
 tok:Int
 deriving Inhabited
def Y7:List CK:=[.int .i64,.int .i64,.int .i64,.str]
def VU(w:lF):List Value:=[.int .i64 w.node,.int .i64 w.id,.int .i64 w.op,.string w.key]
def rz:List CK:=Y7++[.int .i64,.int .i64,.int .i64]
def cB(x:dF):List Value:=VU x.w++[.int .i64 x.id,.int .i64 x.to,.int .i64 x.tick]
def EL:List CK:=Y7++[.int .i64]
def gG(x:jq):List Value:=VU x.w++[.int .i64 x.tok]
structure sJ where
 aZ:Int
 end_:Int
 top:Int
structure cW where
 s:mu
 id:Int
 now:Int
 le:sJ
 t:kP
 ws:List dF
 rs:List jq
 asked:Int
structure gZ where
 p:vl
 mb:Nat
 wc:Nat
 rc:Nat
def Ou(rg ma ra:A)(st le tk wa rd:Nat)(n:cW)(p:gZ):Chunk:=.obj 83 [.ptr st 0 0 0,.ptr le 0 0 0,.int .i64 n.id,rg,.ptr tk 0 0 0,.bool false,.cc,.val (.map none),.val (.map none),.slc wa 0 7 n.ws.length p.wc,.slc rd 0 5 n.rs.length p.rc,.int .i64 n.asked,ma,ra]
def Cr(rg:A)(st le tk wa rd:Nat)(n:cW)(p:gZ):Chunk:=Ou rg .cc .cc st le tk wa rd n p
def Yn(ck:Nat)(l:sJ):Chunk:=.obj 127 [.ptr ck 0 0 0,.int .i64 l.aZ,.int .i64 l.end_,.int .i64 l.top]
def VV(now:Int):Chunk:=.obj 24 [.int .i64 now]
def aaZ(rg:A)(nd le ck tk mp wa rd st ca cl dv ds ix it jr ma jl ke su tx pl:Nat)(n:cW)(p:gZ):List (Nat×Chunk) :=
 [(nd,Cr rg st le tk wa rd n p),(le,Yn ck n.le),(ck,VV n.now),(tk,FG p.mb n.t),(mp,xX p.mb n.t),(wa,.arr 125 rz n.ws.length (aa cB n.ws)),(rd,.arr 134 EL n.rs.length (aa gG n.rs))]++xz st ca cl dv ds ix it jr ma jl ke su tx pl n.s p.p
structure eM(n:cW)(p:gZ):Prop where
 st:pY n.s p.p
 tok:gU p.p.H n.t
 sep:∀e∈n.t.l,e.blk∉bB p.p.cy/\e.blk∉bB p.p.jy
 wc:n.ws.length<=p.wc
 rc:n.rs.length<=p.rc
def t00:kP:=⟨0,[],0⟩
structure EM where
 id:Int
 now:Int
 d:bG
 H:PH
def wH(a:EM):cW:=⟨kL (sI ⟨a.d,a.H⟩),a.id,a.now,⟨0,0,0⟩,t00,[],[],0⟩
noncomputable def EN:cG where
 α:=EM
 β:=gZ
 m:=4
 m':=40
 pre:=fun a=>1<=a.id/\a.id<=5/\zS.pre ⟨a.d,a.H⟩
 args:=fun a=>[.a (.int .i64 a.id),.a (.ptr 0 0 0 0),.a (.ptr 3 0 0 0)]
 hp:=fun a=>ic 0 1 a.d++[(2,.cI a.H),(3,VV a.now)]
 ro:=fun _=>[]
 post:=fun a b=>eM (wH a) b
 res:=fun _ _=>.ng [.a (.ptr 4 0 0 0),.a (.lit .i64 0)]
 cR:=fun a b=>aaZ .nil 4 5 3 6 7 8 9 10 11 12 0 1 13 14 15 16 17 18 19 20 21 (wH a) b
def bX(x:List dF):Nat:=x.length
def dG(x:List jq):Nat:=x.length
def Bp(y:Int)(x:sJ)(z:Int)(u v:Prop):=ag (y=x.aZ/\z=x.end_/\y=x.top/\u/\v)
theorem Se:fnBody (Y Tryz.prog) [(46,zS)] 11 EN fun _=>[]:=fnBody.of (p :=
 ∀x:EM,(1:Int)<=x.id/\x.id<=(5:Int)/\wC x.d { d:=x.d,H:=x.H }->fR (aK x.id 1) (∃y:gZ,False) (aK 5 x.id) (∃y:Ev,ag (gP x.d y.d (x.H=y.H/\wC y.d y/\∀u:vl,yX (sI y) u y.H->∀v:Nat,∃z:gZ,ag (aI (aA (x.id=(wH x).id/\ag (fS (ki none) ((0=bX (wH x).ws/\0=z.wc)/\(0=dG (wH x).rs/\0=z.rc)/\(0:Int)=(wH x).asked/\Bp 0 (wH x).le 0 (x.now=(wH x).now) ((0:Int)=(wH x).t.last/\nL v z.mb/\mS v .i64 [] 0=gF z.mb (wH x).t/\bX (wH x).ws=0/\dG (wH x).rs=0/\aA (ag (wA (kL (sI y)) (wH x).s u z.p (u.H=z.p.H/\eM (wH x) z/\True))))))))))))) (by kernel_rfl) (by
 delta aD bF ay bn gF ki aK bX nL dG gA aC cH fR aI fS ag wC aA Bp iT yX
 rintro⟨id,now,d,H⟩ ⟨h1,h2,h3,h4,h5,h6⟩;dsimp only at *;refine⟨fun c=>(by exfalso;have:=of_decide_eq_true c;omega),fun _=>⟨fun c=>(by exfalso;have:=of_decide_eq_true c;omega),fun _=>⟨Ev.mk d H,?_⟩⟩⟩
 and_intros<;>first|exact bY|exact h3|exact h4|exact h5|exact h6.1|exact h6.2|exact h6.3|exact h6.4|exact h6.5|exact h6.6|(intro h_;revert h_)|exact bZ|skip
 rintro p ⟨hat,_⟩ mb;refine⟨⟨p,mb,0,0⟩,?_⟩;have hN:eM (wH ⟨id,now,d,H⟩) ⟨p,mb,0,0⟩:=⟨hat,⟨fun e he=>(by cases he),List.nodup_nil,fun e he=>(by cases he),List.nodup_nil,List.nodup_nil,by show(0:Int)<=0/\(0:Int)<=_;omega⟩,fun e he=>(by cases he),Nat.le_refl 0,Nat.le_refl 0⟩
 and_intros<;>first|exact bY|exact hN|(intro h_;revert h_)|exact bZ|skip)
theorem GM:au (Y Tryz.prog).G.X 11 EN:=aU fF Se ⟨N8,trivial⟩
theorem pY.frame{s:mu}{p:vl}(h:pY s p){H':PH}(e:∀z,z∈bB p.cy\/z∈bB p.jy->H' z=p.H z):pY s { p with H:=H' } :=
 ⟨⟨h.fl.log.frame fun z hz=>e z (.inl hz),h.fl.idx⟩,h.jl.frame fun z hz=>e z (.inr hz),h.sep,h.cap⟩
theorem pY.dom{s:mu}{p:vl}(h:pY s p){z:Nat}(hz:z∈bB p.cy\/z∈bB p.jy):p.H z≠none:=by
 rcases hz with hz|hz
 ·exact h.fl.log.dom z hz
 ·exact h.jl.dom z hz
theorem gU.frame{H H':PH}{t:kP}(h:gU H t)(e:∀x∈t.l,H' x.blk=H x.blk):gU H' t :=
 ⟨fun x hx=>⟨by rw[e x hx];exact(h.at_ x hx).1,(h.at_ x hx).2⟩,h.blk,h.id,h.ids,h.born,h.last⟩
theorem eM.store{n:cW}{p:gZ}(h:eM n p){s:mu}{b:vl}(h1:pY s b)(h2:Eu p.p.H (bB p.p.cy) (bB p.p.jy) b):eM { n with s:=s } { p with p:=b }:=by
 have hx:∀e∈n.t.l,b.H e.blk=p.p.H e.blk/\e.blk∉bB b.cy/\e.blk∉bB b.jy:=fun e he =>
  h2 e.blk (by rw[(h.tok.at_ e he).1];simp) (h.sep e he).1 (h.sep e he).2
 exact⟨h1,h.tok.frame fun e he=>(hx e he).1,fun e he=>(hx e he).2,h.wc,h.rc⟩
theorem gU.Z9{H:PH}{t:kP}(h:gU H t){key:ByteArray}{b:Nat}(hb:H b=none)(hk:key.size<=aq)(hl:t.last<1099511627776):gU (aO H b 0 [.string key,.bool true]) (rZ t key b):=by
 have hne:∀e∈t.l,e.blk≠b:=fun e he h0=>by
  have:=(h.at_ e he).1;rw[h0,hb]at this;cases this
 have hlast:=h.last;refine⟨fun e he=>?_,?_,fun e he=>?_,?_,?_,by show 0<=t.last+1/\t.last+1<=_;omega⟩
 ·rcases List.mem_append.1 he with he|he
  ·exact⟨by rw[cN (hne e he)];exact(h.at_ e he).1,(h.at_ e he).2⟩
  ·rw[List.mem_singleton]at he;subst he;exact⟨dP _ _ _ _,hk⟩
 ·show((t.l++[_]).map _).Nodup;rw[List.map_append,List.nodup_append];refine⟨h.blk,by simp,fun x hx y hy=>?_⟩;obtain⟨e,he,rfl⟩:=List.mem_map.1 hx;have:y=b:=by simpa using hy
  rw[this];exact hne e he
 ·rcases List.mem_append.1 he with he|he
  ·have:=h.id e he;show 1<=e.id/\e.id<=t.last+1/\e.born<t.dU+1;omega
  ·rw[List.mem_singleton]at he;subst he;show 1<=t.last+1/\t.last+1<=t.last+1/\t.dU<t.dU+1;omega
 ·show((t.l++[_]).map _).Nodup;rw[List.map_append,List.nodup_append];refine⟨h.ids,by simp,fun x hx y hy=>?_⟩;obtain⟨e,he,rfl⟩:=List.mem_map.1 hx;have:y=t.last+1:=by simpa using hy
  have:=h.id e he;omega
 ·show((t.l++[_]).map _).Nodup;rw[List.map_append,List.nodup_append];refine⟨h.born,by simp,fun x hx y hy=>?_⟩;obtain⟨e,he,rfl⟩:=List.mem_map.1 hx;have:y=t.dU:=by simpa using hy
  have:=h.id e he;omega
theorem eM.Z9{n:cW}{p:gZ}(h:eM n p){key:ByteArray}{b:Nat}(hb:p.p.H b=none)(hk:key.size<=aq)(hl:n.t.last<1099511627776):eM { n with t:=rZ n.t key b } { p with p:={ p.p with H:=aO p.p.H b 0 [.string key,.bool true] } }:=by
 have hne:∀z,z∈bB p.p.cy\/z∈bB p.p.jy->z≠b:=fun z hz h0=>h.st.dom hz (by rw[h0];exact hb);refine⟨h.st.frame fun z hz=>cN (hne z hz),h.tok.Z9 hb hk hl,fun e he=>?_,h.wc,h.rc⟩;rcases List.mem_append.1 he with he|he
 ·exact h.sep e he
 ·rw[List.mem_singleton]at he;subst he;exact⟨fun hz=>hne b (.inl hz) rfl,fun hz=>hne b (.inr hz) rfl⟩
theorem eM.Y8{n:cW}{p:gZ}(h:eM n p){f:ByteArray->Bool}{H':PH}(h1:gU H' (iP n.t f))(h2:∀z,z∉n.t.l.map (·.blk)->H' z=p.p.H z):eM { n with t:=iP n.t f } { p with p:={ p.p with H:=H' } }:=by
 refine⟨h.st.frame fun z hz=>h2 z fun hm=>?_,h1,fun e he=>?_,h.wc,h.rc⟩
 ·obtain⟨e,he,rfl⟩:=List.mem_map.1 hm;rcases hz with hz|hz
  ·exact(h.sep e he).1 hz
  ·exact(h.sep e he).2 hz
 ·obtain⟨y,hy,rfl⟩:=List.mem_map.1 he;exact h.sep y hy
structure tA where
 id:Int
 op:Int
 key:ByteArray
 err:Int
 val:ByteArray
 has:Bool
 deriving Inhabited
def Qf:List CK:=[.int .i64,.int .i64,.str,.int .i64,.str,.bool]
def jT(r:tA):List Value:=[.int .i64 r.id,.int .i64 r.op,.string r.key,.int .i64 r.err,.string r.val,.bool r.has]
def p6:ByteArray:=ByteArray.mk #[]
structure GN where
 n:cW
 p:gZ
 id:Int
 op:Int
 key:ByteArray
def Bq(op:Int)(key:ByteArray)(e:Int):Int:=if(op=1\/op=2)/\dN key=true then e else 1
def VW(a:GN):tA:=⟨a.id,a.op,a.key,Bq a.op a.key 6,p6,false⟩
noncomputable def Ov:cG where
 α:=GN
 β:=Nat
 m:=8
 m':=9
 pre:=fun a=>a.key.size<=aq
 args:=fun a=>[.a (.ptr 0 0 0 0),.a (.int .i64 a.id),.a (.int .i64 a.op),.a (.str a.key)]
 hp:=fun a=>[(0,Cr .nil 7 1 3 5 6 a.n a.p)]
 ro:=fun _=>[]
 post:=fun _ _=>True
 res:=fun _ c=>.agg [.cc,.slc 8 0 6 1 c]
 cR:=fun a _=>[(0,Cr .nil 7 1 3 5 6 a.n a.p),(8,.arr 61 Qf 1 (aa jT [VW a]))]
def wI(x:cW)(y:gZ)(z:Prop):=aA (ay x.id/\ag (fS (ki none) (bh (bX x.ws) y.wc/\bh (dG x.rs) y.rc/\ay x.asked/\z)))
def JD(x:GN)(z:Int):=ai x.id->ai x.op->1<=1/\64<=140737488355328/\∀y:Nat,1<=y->y<=aq->∃u:Nat,bF 1 (y=u)/\aG 1 1 6 (jF 6 (bT x.id (bT x.op (dI x.key z (bw (bJ cA) (bP gf)))))) (aa jT [VW x])/\wI x.n x.p (True/\True)
theorem Sf:fnBody (Y Tryz.prog) [(66,Ix.qX),(86,MW)] 13 Ov fun _=>[]:=fnBody.of (p :=
 ∀x:GN,bp x.key<=aq->∃y:Ix.IG,wh y.n y.cap x.key (fun z=>y.g z) (fun z=>y.g z) (ai x.op->u9 (x.op != (1:Int)) x.op (x.op != (2:Int)) (JD x 1) (∃u:ByteArray,x.key=u/\ee (aD (bq (dN u)) (JD x 1) (JD x 6))))) (by kernel_rfl) (by
 delta aD ai bF aG ay bT bn ki cA bX bP dG gA aC dW cH bw dV u9 bp aB JD bJ wI bh gJ fS gf ag wh aA bq dI jF ew ee
 try dsimp -iota -proj only
 rintro⟨n,p,id,op,key⟩ h;have h:key.size<=aq:=h;have hr:ak 1 1 (aF 1 [Go.Value.string key]) (fun(i x:Nat)=>Go.Value.string key):=.dB fun i hi=>by
  have:i=0:=by omega
  subst this;rfl
 have hs:∀i:Nat,i<1->key.size<=aq:=fun _ _=>h;have hrep:∀e:Int,Bq op key 6=e->ak 1 6 (fun(i j:Nat)=>aF 6 [Value.int .i64 id,Value.int .i64 op,Value.string key,Value.int .i64 e,Value.string (ByteArray.mk #[]),Value.bool false] (0+i) j) (aa jT [VW ⟨n,p,id,op,key⟩]):=fun e he=>.dB fun i hi=>by
  have:i=0:=by omega
  subst this;subst he;rfl
 refine⟨⟨fun _=>key,1,1⟩,?_⟩
 and_intros<;>first|exact bY|exact hr|exact hs|(intro h_;revert h_)|exact bZ|skip
 intro _ _ _;dsimp only;have hk1:∀ {c:Bool},dN key=c->(op=1\/op=2)->Bq op key 6=if c=true then 6 else 1:=fun {c} hc ho=>by
  unfold Bq;rw[hc];cases c<;>simp[ho]
 refine⟨fun c1 _=>⟨fun c2 _ _=>?_,fun c2=>⟨key,rfl,trivial,fun _ _=>⟨fun c3 _ _=>?_,fun c3 _ _=>?_⟩⟩⟩,fun c1=>⟨key,rfl,trivial,fun _ _=>⟨fun c3 _ _=>?_,fun c3 _ _=>?_⟩⟩⟩
 ·have he:=hrep 1 (by unfold Bq;rw[if_neg];rintro⟨ho,_⟩;rcases ho with ho|ho<;>simp[ho]at c1 c2);refine⟨Nat.le_refl 1,by decide,fun cap _ _=>⟨cap,?_⟩⟩
  and_intros<;>first|exact bY|exact he|(intro h_;revert h_)|exact bZ|skip
 ·have he:=hrep 1 (by rw[hk1 (c:=false) (by simpa using c3) (.inr (by simpa using c2))];rfl);refine⟨Nat.le_refl 1,by decide,fun cap _ _=>⟨cap,?_⟩⟩
  and_intros<;>first|exact bY|exact he|(intro h_;revert h_)|exact bZ|skip
 ·have he:=hrep 6 (by rw[hk1 (c:=true) (by simpa using c3) (.inr (by simpa using c2))];rfl);refine⟨Nat.le_refl 1,by decide,fun cap _ _=>⟨cap,?_⟩⟩
  and_intros<;>first|exact bY|exact he|(intro h_;revert h_)|exact bZ|skip
 ·have he:=hrep 1 (by rw[hk1 (c:=false) (by simpa using c3) (.inl (by simpa using c1))];rfl);refine⟨Nat.le_refl 1,by decide,fun cap _ _=>⟨cap,?_⟩⟩
  and_intros<;>first|exact bY|exact he|(intro h_;revert h_)|exact bZ|skip
 ·have he:=hrep 6 (by rw[hk1 (c:=true) (by simpa using c3) (.inl (by simpa using c1))];rfl);refine⟨Nat.le_refl 1,by decide,fun cap _ _=>⟨cap,?_⟩⟩
  and_intros<;>first|exact bY|exact he|(intro h_;revert h_)|exact bZ|skip)
theorem Sg:au (Y Tryz.prog).G.X 13 Ov:=aU fF Sf ⟨Ix.xu,zF,trivial⟩
structure pg where
 kind:Int
 fZ:Int
 to:Int
 aZ:Int
 tick:Int
 seq:Int
 n:Int
 id:Int
 op:Int
 key:ByteArray
 err:Int
 last:Bool
 item:aH
 base:Int
 deriving Inhabited
def JE:List CK:=[.int .i64,.int .i64,.int .i64,.int .i64,.int .i64,.int .i64,.int .i64,.int .i64,.int .i64,.str,.int .i64,.bool,.str,.str,.int .i64,.bool,.deep,.deep,.deep,.int .i64,.deep]
def cC(m:pg):List Value:=[.int .i64 m.kind,.int .i64 m.fZ,.int .i64 m.to,.int .i64 m.aZ,.int .i64 m.tick,.int .i64 m.seq,.int .i64 m.n,.int .i64 m.id,.int .i64 m.op,.string m.key,.int .i64 m.err,.bool m.last,.string m.item.key,.string m.item.val,.int .i64 m.item.e,.bool m.item.gone,.slice none 0 0,.slice none 0 0,.slice none 0 0,.int .i64 m.base,.slice none 0 0]
def B6(t:Nat)(l:List pg):Nat×Chunk:=(t,.arr 45 JE l.length (aa cC l))
def LW(t:Nat)(l:List tA):Nat×Chunk:=(t,.arr 61 Qf l.length (aa jT l))
structure lR where
 n:cW
 p:gZ
 q:List pg
 qc:Nat
 l:List pg
 lc:Nat
def LX(id:Int)(l:List pg):List pg:=l.map fun m=>{ m with fZ:=id }
def lR.to(a:lR)(i:Nat):List pg:=a.q++LX a.n.id (a.l.take i)
noncomputable def LY(rg:A):cG where
 α:=lR
 β:=Nat
 m:=12
 m':=13
 pre:=fun a=>a.l.length<1000/\a.q.length<1000
 args:=fun a=>[.a (.ptr 0 0 0 0),.a (.slc 10 0 21 a.l.length a.lc)]
 hp:=fun a=>[(0,Ou rg (.slc 11 0 21 a.q.length a.qc) .cc 7 1 3 5 6 a.n a.p),B6 11 a.q]
 ro:=fun a=>[B6 10 a.l]
 post:=fun a c=>a.l.length=0->c=a.qc
 res:=fun _ _=>.ng []
 cR:=fun a c=>[(0,Ou rg (.slc 12 0 21 (a.to a.l.length).length c) .cc 7 1 3 5 6 a.n a.p),B6 12 (a.to a.l.length)]
def ab0(rg:A)(a:lR):An:=.flat 1 (Nat×Nat) (fun s x=>((((s.put (s.hp.del 11)).new (.arr 45 JE (a.to x.1).length (aa cC (a.to x.1)))).at_ 0 (Ou rg (.slc s.nx 0 21 (a.to x.1).length x.2) .cc 7 1 3 5 6 a.n a.p)).int 8 x.1)) (fun _ x=>x.1<=a.l.length/\(x.1=0->x.2=a.qc)) (fun _ x=>a.l.length-x.1)
theorem Qg{a:lR}{i:Nat}(h:i<a.l.length):a.to (i+1)=a.to i++[{ gl a.l i with fZ:=a.n.id }]:=by
 unfold lR.to LX;rw[fD h,List.map_append,List.append_assoc];rfl
theorem VX(a:lR)(i:Nat):(a.to i).length=a.q.length+min i a.l.length:=by
 unfold lR.to LX;simp
def bk(x:List pg):Nat:=x.length
def GO(x:pg)(y:Int):List Value:=zD .i64 x.kind y x.to (dW x.aZ) x.tick x.seq x.n (bT x.id (bT x.op (dI x.key x.err (bw (ew x.last) (bw (bJ x.item.key) (dI x.item.val x.item.e (uX (ew x.item.gone) gW (bw gW (bT x.base (bP gW))))))))))
def jU(x y:List pg):=aG (bk x) (bk y) 21 (aa cC y) (aa cC x)
def nM(x:List pg):=eF (bk x) 21 (aa cC x)
def JF(x:lR)(z:Nat×Nat->Prop)(u:Nat×Nat->Nat->Nat×Nat->Prop)(v:Nat×Nat->Nat->Prop):=bk x.l<1000/\bk x.q<1000->(∃y:Nat×Nat,aT y.fst (fe (bk x.l) x.lc (ag (bh (bk x.l) x.lc/\z y))))/\∀y:Nat×Nat,gX y.fst (bk x.l) (y.fst=0->y.snd=x.qc) (ai x.n.id->jE (bk (x.to y.fst)) 256 y.snd fun w=>iS y fun s=>fe (bk x.l) x.lc (ag (bh (bk x.l) x.lc/\u y w s))) (∃t:Nat,v y t)
theorem VY:fnBody (Y Tryz.prog) [] 51 (LY .nil) fun a=>[(51,[ab0 .nil a],[])]:=fnBody.of (p :=
 ∀x:lR,JF x (fun y=>wI x.n x.p (eH (bk x.q) (bk (x.to y.fst)) x.qc y.snd (nM x.l) 21 (aa cC x.q) (aa cC (x.to y.fst)) ((y.fst<=bk x.l/\(y.fst=0->y.snd=x.qc))/\True))) (fun y u z=>wI x.n x.p (eH (bk (x.to y.fst)+1) (bk (x.to z.fst)) u z.snd (nM x.l) 21 (bg (aa cC (x.to y.fst)) 0 (bk (x.to y.fst)) (jF 21 (GO (gl x.l (0+ax y.fst)) x.n.id))) (aa cC (x.to z.fst)) (dD z.fst (bk x.l) (z.fst=0->z.snd=x.qc) y.fst))) fun y u=>wI x.n x.p (ag (bk (x.to y.fst)=bk (x.to (bk x.l))/\y.snd=u)/\jU (x.to (bk x.l)) (x.to y.fst)/\(bk x.l=0->u=x.qc)/\True)) (by kernel_rfl) (by
 delta aD eF zD ai bF aG ay bT ax bn gC dm ki aK aY af bX bk bP dG bf gA aC uX aR dW cH bw dV GO jD fe eH dD jE jU aP bJ wI bh gW iS bM aT fS ag nM aA JF dI aQ dh gX jF sr ew
 try dsimp -iota -proj only
 intro a ⟨h1,h2⟩;have e0:a.to 0=a.q:=by unfold lR.to LX;simp
 have h0:(0:Nat)=0->a.qc=a.qc:=fun _=>rfl;refine⟨⟨(0,a.qc),?_⟩,fun⟨i,c⟩ ⟨hi,hc⟩=>⟨fun c1=>?_,fun c1=>⟨c,?_⟩⟩⟩
 ·dsimp only;rw[e0]
  and_intros<;>first|exact bY|exact h0|(intro h_;revert h_)|exact bZ|skip
 ·dsimp only at *;have hi:i<a.l.length:=by have:=of_decide_eq_true c1;omega
  have hl:=VX a i;have hs:=Qg hi;have hz:0+(i:Int).toNat=i:=by omega
  rw[hz];refine⟨by omega,hi,fun _=>⟨by omega,by omega,by omega,fun cap _ _ _=>⟨by simp only[bR];omega,(i+1,cap),?_⟩⟩⟩;dsimp only;rw[hs];have hp:ak ((a.to i)++[{ gl a.l i with fZ:=a.n.id }]).length 21 (bg (aa cC (a.to i)) 0 (a.to i).length fun i_1 j=>aF 21 (cC { gl a.l i with fZ:=a.n.id }) (0+i_1) j) (aa cC ((a.to i)++[{ gl a.l i with fZ:=a.n.id }])):=.push rfl (by simp) rfl;have h1:i+1=0->cap=a.qc:=fun e=>by omega
  and_intros<;>first|exact bY|exact hp|exact by simp|exact h1|(intro h_;revert h_)|exact bZ|skip
 ·dsimp only at *;have hi:i=a.l.length:=by have:=of_decide_eq_false c1;omega
  subst hi
  and_intros<;>first|exact bY|exact hc|(intro h_;revert h_)|exact bZ|skip)
def lG(y:Prop)(z x:cW)(u v:gZ)(w:Int)(s:Prop):=fS (ki none) (y/\ag (dG z.rs=dG x.rs/\u.rc=v.rc)/\w=x.asked/\s)
def uH(x y:cW)(z u:List dF)(v w:Nat)(s t:gZ)(f g:Prop):=x.id=y.id/\aA (lG (ag (bX z=bX u/\v=w)) x y s t x.asked (f/\g))
def eW(x y:cW)(z u:gZ)(v w:Prop):=aA (uH x y x.ws y.ws z.wc u.wc z u v w)
theorem VZ:fnBody (Y Tryz.prog) [] 51 (LY (.ptr 9 0 0 0)) fun a=>[(51,[ab0 (.ptr 9 0 0 0) a],[])]:=fnBody.of (p :=
 ∀x:lR,JF x (fun y=>eW x.n x.n x.p x.p (ag (bk x.q=bk (x.to y.fst)/\x.qc=y.snd)) (nM x.l/\jU (x.to y.fst) x.q/\(y.fst<=bk x.l/\(y.fst=0->y.snd=x.qc))/\True)) (fun y u z=>eW x.n x.n x.p x.p (ag (bk (x.to y.fst)+1=bk (x.to z.fst)/\u=z.snd)) (nM x.l/\iA (bk (x.to z.fst)) (bk (x.to y.fst)) 21 (aa cC (x.to y.fst)) (GO (gl x.l (0+ax y.fst)) x.n.id) (aa cC (x.to z.fst))/\dD z.fst (bk x.l) (z.fst=0->z.snd=x.qc) y.fst)) fun y u=>eW x.n x.n x.p x.p (ag (bk (x.to y.fst)=bk (x.to (bk x.l))/\y.snd=u)) (jU (x.to (bk x.l)) (x.to y.fst)/\(bk x.l=0->u=x.qc)/\True)) (by kernel_rfl) (by
 delta aD uH eF zD ai bF aG ay bT ax bn gC dm ki aK aY af bX bk bP dG bf gA aC uX aR dW cH bw dV GO jD fe dD jE iA jU eW aP bJ bh gW iS bM aT fS ag nM lG aA JF dI aQ dh gX jF sr ew
 try dsimp -iota -proj only
 intro a ⟨h1,h2⟩;have e0:a.to 0=a.q:=by unfold lR.to LX;simp
 have h0:(0:Nat)=0->a.qc=a.qc:=fun _=>rfl;refine⟨⟨(0,a.qc),?_⟩,fun⟨i,c⟩ ⟨hi,hc⟩=>⟨fun c1=>?_,fun c1=>⟨c,?_⟩⟩⟩
 ·dsimp only;rw[e0]
  and_intros<;>first|exact bY|exact h0|(intro h_;revert h_)|exact bZ|skip
 ·dsimp only at *;have hi:i<a.l.length:=by have:=of_decide_eq_true c1;omega
  have hl:=VX a i;have hs:=Qg hi;have hz:0+(i:Int).toNat=i:=by omega
  rw[hz];refine⟨by omega,hi,fun _=>⟨by omega,by omega,by omega,fun cap _ _ _=>⟨by simp only[bR];omega,(i+1,cap),?_⟩⟩⟩;dsimp only;rw[hs];have hp:ak ((a.to i)++[{ gl a.l i with fZ:=a.n.id }]).length 21 (bg (aa cC (a.to i)) 0 (a.to i).length fun i_1 j=>aF 21 (cC { gl a.l i with fZ:=a.n.id }) (0+i_1) j) (aa cC ((a.to i)++[{ gl a.l i with fZ:=a.n.id }])):=.push rfl (by simp) rfl;have h1:i+1=0->cap=a.qc:=fun e=>by omega
  and_intros<;>first|exact bY|exact hp|exact by simp|exact h1|(intro h_;revert h_)|exact bZ|skip
 ·dsimp only at *;have hi:i=a.l.length:=by have:=of_decide_eq_false c1;omega
  subst hi
  and_intros<;>first|exact bY|exact hc|(intro h_;revert h_)|exact bZ|skip)
theorem V0:au (Y Tryz.prog).G.X 51 (LY .nil):=aU fF VY trivial
theorem EO:au (Y Tryz.prog).G.X 51 (LY (.ptr 9 0 0 0)):=aU fF VZ trivial
def Y2(P:Program):Gx:=⟨⟨⟨P,Tab.T,false,false⟩,BL P (53::Tab.ids),(53,[0,2,5,12,23])::Tab.I⟩,(53,[])::Tab.R⟩
theorem abH:(BL Tryz.prog (53::Tab.ids)).all (Zz ((53,[])::Tab.R))=true:=by kernel_rfl
theorem aa0:(Y2 Tryz.prog).Ok:=HH (dp:=true) okT mixed (vA _ _) abH
noncomputable def Qh:cG where
 α:=Unit
 β:=Unit
 m:=0
 m':=0
 pre:=fun _=>True
 args:=fun _=>[.a .nil]
 hp:=fun _=>[]
 ro:=fun _=>[]
 post:=fun _ _=>True
 res:=fun _ _=>.a .cc
 cR:=fun _ _=>[]
theorem V2:fnBody (Y2 Tryz.prog) [] 53 Qh fun _=>[]:=fnBody.of (p :=
 aB (Exists (az (True/\True)))) (by kernel_rfl) (by
 delta aB az
 exact fun _ _=>⟨(),trivial,trivial⟩)
theorem LZ:au (Y Tryz.prog).G.X 53 Qh:=aU aa0 V2 trivial
def W2:List dF:=[]
def oE(n:cW):pg:=⟨1,n.id,0,n.s.k.m.aZ,n.now,n.s.k.m.ready,0,0,0,p6,0,false,dx,0⟩
structure jI where
 n:cW
 p:gZ
noncomputable def JG:cG where
 α:=jI
 β:=Nat
 m:=14
 m':=17
 pre:=fun a=>a.n.ws=[]
 args:=fun _=>[.a (.ptr 0 0 0 0)]
 hp:=fun a=>[(0,Cr .nil 7 1 3 5 6 a.n a.p)]
 ro:=fun a=>[(1,Yn 2 a.n.le),(2,VV a.n.now),(7,stO 8 9 10 a.n.s.bN),(10,.obj 155 (.ptr 11 0 0 0::B0 a.n.s.k.m))]
 post:=fun _ _=>True
 res:=fun _ c=>.agg [.slc 14 0 21 1 c,.slc 15 0 6 0 0]
 cR:=fun a _=>[(14,.arr 45 JE 1 (aa cC [oE a.n])),(0,Cr .nil 7 1 3 16 6 { a.n with ws:=W2 } { a.p with wc:=0 }),(16,.arr 125 rz W2.length (aa cB W2))]
def Qi:An:=.flat 5 Nat (fun s i=>s.int 3 (1+(i:Int))) (fun _ i=>i<=5) (fun _ i=>5-i)
def xY(y x:cW)(u z:gZ)(v w:Nat)(s:Prop):=fS (ki none) (ag (bX y.ws=bX x.ws/\u.wc=z.wc)/\ag (v=dG x.rs/\w=z.rc)/\y.asked=x.asked/\s)
def sK(x:cW)(y:Int)(z:Prop):=ag (mJ x.le.aZ x.le.end_ x.le.top (ay y) z)
def y4(x:jI)(y z:Prop):=sK x.n x.n.now (aA (fc (ay x.n.s.bN) (wz x.n.s.k.m (y/\z))))
def y5(x:lR)(z:Nat->Prop):=(bk x.l<1000/\bk x.q<1000)/\∀y:Nat,(bk x.l=0->y=x.qc)->z y
def EP(x:lR)(y z:Int)(u:cW)(v w t f:Int)(g:ByteArray)(h:Nat->Prop):=bk x.q=0/\aG (bk x.l) 1 21 (aF 21 (zD .i64 y 0 z (dW u.s.k.m.aZ) v w 0 (bT t (bT f (dI g 0 (uX gf (bJ cA) (bT 0 (uX gf gW (bw gW (bT 0 (bP gW))))))))))) (aa cC x.l)/\y5 x fun i=>h i
def wJ(x y:cW)(z u:gZ)(v:Prop):=aA (x.id=y.id/\ag (xY x y z u (dG x.rs) z.rc v))
def sL(x:lR)(y:List pg)(z u:Nat):=ag (bk (x.to (bk x.l))=bk y/\z=u)
def y6(x:jI):Nat->Nat->Value:=aa cC [oE x.n]
def wK(y:lR->Prop):lR->Prop:=fun(x:lR)=>ag (ag (1=bk x.l/\1=x.lc)/\y x)
def JH(v:lR)(y:jI)(w:Nat->Nat->Prop)(t:Nat->Nat->lR->Prop)(f:Nat->Nat->Prop):=EP v 1 0 y.n y.n.now y.n.s.k.m.ready 0 0 cA fun z=>(∃x:Nat,(1:Int)=1+af x/\bI (aA (w z x)))/\∀x:Nat,x<=5->aD (cn ((1:Int)+af x) 5) (Bo none (Exists (az (ee (∃u:lR,ag ((0=bk u.l/\0=u.lc)/\t z x u))))) False) (f z x)
def JI(x y:lR)(z:Nat)(v:Nat->Nat->Prop):=jU x.q (y.to (bk y.l))/\bk x.l=0/\y5 x fun w=>ai ((1:Int)+af z+(1:Int))/\∃u:Nat,(1:Int)+af z+(1:Int)=1+af u/\bI (aA (v w u))
theorem Ow:fnBody (Y2 Tryz.prog) [(51,LY .nil),(53,Qh)] 15 JG fun _=>[(15,[Qi],[])]:=fnBody.of (p :=
 ∀z:jI,z.n.ws=[]->ai z.n.now->Exists (wK fun x=>wJ z.n x.n z.p x.p ((0=bk x.q/\0=x.qc)/\JH x z (fun u v=>wI x.n x.p (bF (bk (x.to (bk x.l))) (u=u)/\nM (x.to (bk x.l))/\y4 z (v<=5) True)) (fun u v y=>wJ x.n y.n x.p y.p (sL x y.q u y.qc/\JI y x v fun s w=>wJ y.n x.n y.p x.p (sL y (x.to (bk x.l)) s u/\jU (x.to (bk x.l)) (y.to (bk y.l))/\y4 z (w<=5) (5-w<5-v)))) fun u v=>aX 0 (af (bX x.n.ws)) (bf 0 (af (bX x.n.ws))/\False) (∃y:Nat,eH (bk (x.to (bk x.l))) 1 u y (ag (0=0)) 21 (aa cC (x.to (bk x.l))) (y6 z) (aA (x.n.id=z.n.id/\ag (lG (0=bX W2/\0=0) x.n z.n x.p z.p x.n.asked (ag (True/\True))))))))) (by kernel_rfl) (by
 delta aD mJ eF zD ai bF aG ay bT bn ki aK cA af bX bk bP dG bf gA aC uX dW cH bw fc dV aB eH xY bI y4 jU EP bJ wI bh cn gW az fS gf ag nM aX Bo wJ lG aA wz dI sK y5 sL y6 sr wK JH ew ee JI
 try dsimp -iota -proj only
 rintro⟨n,p⟩ h0 _;have h0:n.ws=[]:=h0;have hr:ak 1 21 (aF 21 (cC ⟨1,0,0,n.s.k.m.aZ,n.now,n.s.k.m.ready,0,0,0,p6,0,false,dx,0⟩)) (aa cC [⟨1,0,0,n.s.k.m.aZ,n.now,n.s.k.m.ready,0,0,0,p6,0,false,dx,0⟩]):=.dB fun i hi=>by
  have:i=0:=by omega
  subst this;rfl
 have k0:(0:Nat)<1000:=by omega
 have k1:(1:Nat)<1000:=by omega
 refine⟨lR.mk n p [] 0 [⟨1,0,0,n.s.k.m.aZ,n.now,n.s.k.m.ready,0,0,0,p6,0,false,dx,0⟩] 1,?_⟩
 and_intros<;>first|exact bY|exact hr|exact k1|exact k0|(intro h_;revert h_)|exact bZ|skip
 intro b _;refine⟨⟨0,?_⟩,fun i hi=>⟨fun c1=>⟨none,rfl,fun _=>⟨(),trivial,fun _ _=>⟨lR.mk n p [oE n] b [] 0,?_⟩⟩,fun c=>absurd rfl c⟩,fun c1=>⟨fun c2=>?_,fun c2=>⟨b,?_⟩⟩⟩⟩
 ·and_intros<;>first|exact bY|(intro h_;revert h_)|exact bZ|skip
 ·have c1:=of_decide_eq_true c1;have e1:((lR.mk n p [] 0 [⟨1,0,0,n.s.k.m.aZ,n.now,n.s.k.m.ready,0,0,0,p6,0,false,dx,0⟩] 1).to 1)=[oE n]:=rfl;have e2:((lR.mk n p [oE n] b [] 0).to 0)=[oE n]:=rfl
  and_intros<;>first|exact bY|exact k1|exact k0|(intro h_;revert h_)|exact bZ|skip
  intro b2 hb2;have hb2:b2=b:=hb2 rfl;subst hb2;refine⟨by simp only[bR];omega,i+1,?_⟩
  and_intros<;>first|exact bY|(intro h_;revert h_)|exact bZ|skip
 ·exfalso;have c2:=of_decide_eq_true c2;have c2:(0:Int)<(n.ws.length:Nat):=c2;rw[h0]at c2;exact absurd c2 (by decide)
 ·and_intros<;>first|exact bY|(intro h_;revert h_)|exact bZ|skip)
theorem Ox:au (Y Tryz.prog).G.X 15 JG:=aU aa0 Ow ⟨V0,LZ,trivial⟩
end Go.Proofs.YtfjgoonelcaggaaGreat
namespace Go.Proofs.YtfjgoonelcaggaaGreat.Rg
open Go.Sx
def PM(a b:Int):Int:=dL .xor .u64 a b
def SL(a:Int):Int:=uw .u64 a
def UC(x:Int):Int:=SL (PM x (x/1073741824)*13787848793156543929)
def UD(x:Int):Int:=SL (PM x (x/134217728)*10723151780598845931)
def UE(x:Int):Int:=PM x (x/2147483648)
def n9(x:Int):Int:=UE (UD (UC x))
noncomputable def u7:cG where
 α:=Int
 β:=Unit
 m:=0
 m':=0
 pre:=fun _=>True
 args:=fun a=>[.a (.int .u64 a)]
 hp:=fun _=>[]
 ro:=fun _=>[]
 post:=fun _ _=>True
 res:=fun a _=>.a (.int .u64 (n9 a))
 cR:=fun _ _=>[]
theorem D4:fnBody (Y Tryz.prog) [] 120 u7 fun _=>[]:=fnBody.of (p :=
 ∀x:Int,True->(0:Int)<=30/\(0:Int)<=27/\(0:Int)<=31/\AW x (Rg.n9 x)) (by kernel_rfl) (by
 delta PN bz cD az lY AW bt
 intro a _;exact⟨by decide,by decide,by decide,(),rfl,trivial,trivial⟩)
theorem zK:au (Y Tryz.prog).G.X 120 u7:=aU fF D4 trivial
def pS(h:Int)(b:ByteArray):Nat->Int
 |0=>h
 |i+1=>SL (n9 (PM (pS h b i) ((b.data.getD i 0).toNat:Int))+1)
def UF(h:Int)(b:ByteArray):Int:=n9 (PM (pS h b b.size) (SL (256+SL b.size)))
def eu(g:Nat->ByteArray):Nat->Int
 |0=>11400714819323198485
 |i+1=>UF (eu g i) (g i)
structure IG where
 g:Nat->ByteArray
 n:Nat
 cap:Nat
noncomputable def qX:cG where
 α:=IG
 β:=Unit
 m:=1
 m':=1
 pre:=fun a=>a.n<100000/\∀i,i<a.n->(a.g i).size<=aq
 args:=fun a=>[.a (.slc 0 0 1 a.n a.cap)]
 hp:=fun _=>[]
 ro:=fun a=>[(0,.arr 9 [.str] a.n (fun i _=>.string (a.g i)))]
 post:=fun _ _=>True
 res:=fun a _=>.a (.int .u64 (eu a.g a.n))
 cR:=fun _ _=>[]
def ZQ(a:IG)(i:Nat):An:=.flat 6 Nat (fun s j=>(s.int 15 j).set 3 (.a (.int .u64 (pS (eu a.g i) (a.g i) j)))) (fun _ j=>j<=(a.g i).size) (fun _ j=>(a.g i).size-j)
def ZR(a:IG):An:=.mk 3 Nat (fun s i=>(s.int 9 i).set 3 (.a (.int .u64 (eu a.g i)))) (fun _ i=>i<=a.n) (fun _ i=>a.n-i) (fun i=>.mk 60 [ZQ a i] [])
def _root_.sM(x:Rg.IG)(y:Prop):=aI (bh x.n x.cap/\(eF x.n 1 fun z u=>bJ (x.g z))/\y)
def _root_.uI(x:Rg.IG)(y z:Nat):Int:=Rg.pS (Rg.eu x.g y) (x.g y) z
theorem AX:fnBody (Y Tryz.prog) [(120,u7)] 66 qX fun a=>[(66,[ZR a],[])]:=fnBody.of (p :=
 ∀x:Rg.IG,(x.n<100000/\∀v:Nat,v<x.n->bp (x.g v)<=aq)->(∃y:Nat,(11400714819323198485:Int)=Rg.eu x.g y/\aT y (fe x.n x.cap (sM x (y<=x.n/\True))))/\∀y:Nat,gm y x.n ((∃u:Nat,Rg.eu x.g y=uI x y u/\aT u (aP (bp (x.g (0+ax y))) (fm (x.g (0+ax y))/\jC y x.n (fe x.n x.cap (sM x (u<=bp (x.g y)/\True))))))/\∀u:Nat,u<=bp (x.g y)->II u (x.g (0+ax y)) (uI x y u) (fun z=>Rg.n9 z) (fun z=>uI x y z) y x.n x.cap (fun z=>sM x (bS z (bp (x.g y)) u)) (fun z=>Rg.n9 z) (fun z=>Rg.eu x.g z) fun z=>sM x (bS z x.n y)) (bz (Rg.eu x.g y=Rg.eu x.g x.n))) (by kernel_rfl) (by
 delta aD eF ai bF aG ay ax bn dm aK aY af bf aC aR dV bp aB jD bz fe bS aP bJ cD aI bh sM bM aT az lY II ag aQ gm dh jC oh fm bt uI ee
 try dsimp -iota -proj only
 intro a h;obtain⟨hn,hs⟩:=h;simp only[Nat.zero_add,Int.toNat_natCast];refine⟨⟨0,by and_intros<;>(first|exact trivial|rfl|omega|assumption|exact ak.refl _ _ _|(simp only[bR];omega)|(simp;done)|(simp;omega)|grind)⟩,fun i hi=>⟨fun h1=>?_,fun h1=>?_⟩⟩
 ·have hi':i<a.n:=by simpa using h1
  have hsz:=hs i hi';refine⟨by omega,hi',⟨0,by and_intros<;>(first|exact trivial|rfl|omega|assumption|exact ak.refl _ _ _|(simp only[bR];omega)|(simp;done)|(simp;omega)|grind)⟩,fun j hj=>⟨fun h2=>?_,fun h2=>?_⟩⟩
  ·have hj':j<(a.g i).size:=by simpa using h2
   refine⟨by omega,_,rfl,trivial,fun _ _=>⟨by simp only[bR,aq]at *;omega,j+1,?_⟩⟩
   and_intros<;>(first|exact trivial|rfl|omega|assumption|exact ak.refl _ _ _|(simp only[bR];omega)|(simp;done)|(simp;omega)|grind)
  ·have hj' : j = (a.g i).size := by have : ¬ j < (a.g i).size := by simpa using h2
                                     omega
   subst hj';refine⟨_,rfl,trivial,fun _ _=>⟨by simp only[bR];omega,i+1,?_⟩⟩
   and_intros<;>(first|exact trivial|rfl|omega|assumption|exact ak.refl _ _ _|(simp only[bR];omega)|(simp;done)|(simp;omega)|grind)
 ·have hi' : i = a.n := by have : ¬ i < a.n := by simpa using h1
                           omega
  subst hi';exact⟨(),rfl,trivial,trivial⟩)
theorem xu:au (Y Tryz.prog).G.X 66 qX:=aU fF AX ⟨zK,trivial⟩
theorem Sh:fnBody (Y Tryz.prog) [] 76 u7 fun _=>[]:=fnBody.of (p :=
 ∀x:Int,True->(1073741824:Int)≠(0:Int)/\(134217728:Int)≠(0:Int)/\(2147483648:Int)≠(0:Int)/\AW x (Rg.n9 x)) (by kernel_rfl) (by
 delta PN bz cD az lY AW bt
 intro a _;exact⟨by decide,by decide,by decide,(),rfl,trivial,trivial⟩)
theorem GP:au (Y Tryz.prog).G.X 76 u7:=aU fF Sh trivial
def l6(n i:Int):Int:=n9 (SL (n*1000003+i))
noncomputable def Br:cG where
 α:=Int×Int
 β:=Unit
 m:=0
 m':=0
 pre:=fun a=>0<=a.1/\a.1<=100/\0<=a.2/\a.2<=100
 args:=fun a=>[.a (.int .i64 a.1),.a (.int .i64 a.2)]
 hp:=fun _=>[]
 ro:=fun _=>[]
 post:=fun _ _=>True
 res:=fun a _=>.a (.int .u64 (l6 a.1 a.2))
 cR:=fun _ _=>[]
def _root_.y7(x:Int×Int):=(0:Int)<=x.fst/\x.fst<=(100:Int)/\eo x.snd 100
def _root_.JJ:=∀x:Int×Int,y7 x->pN (x.fst*(1000003:Int)) x.snd (∃y:Int,cD (x.fst*(1000003:Int)+x.snd)=y/\ee (bz (Rg.n9 y=Rg.l6 x.fst x.snd)))
theorem Si:fnBody (Y Tryz.prog) [(120,u7)] 190 Br fun _=>[]:=fnBody.of (p :=
 JJ) (by kernel_rfl) (by
 delta ai eo aB bz cD az JJ pN y7 bt ee
 intro a h;obtain⟨h1,h2,h3,h4⟩:=h;simp only[bR];exact⟨by omega,by omega,_,rfl,trivial,fun _ _=>⟨(),rfl,trivial,trivial⟩⟩)
theorem Sj:au (Y Tryz.prog).G.X 190 Br:=aU fF Si ⟨zK,trivial⟩
theorem Oy:fnBody (Y Tryz.prog) [(76,u7)] 75 Br fun _=>[]:=fnBody.of (p :=
 JJ) (by kernel_rfl) (by
 delta ai eo aB bz cD az JJ pN y7 bt ee
 intro a h;obtain⟨h1,h2,h3,h4⟩:=h;simp only[bR];exact⟨by omega,by omega,_,rfl,trivial,fun _ _=>⟨(),rfl,trivial,trivial⟩⟩)
theorem Oz:au (Y Tryz.prog).G.X 75 Br:=aU fF Oy ⟨GP,trivial⟩
def ab1(a:IG)(i:Nat):An:=.flat 6 Nat (fun s j=>(s.int 5 j).set 3 (.a (.int .u64 (pS (eu a.g i) (a.g i) j)))) (fun _ j=>j<=(a.g i).size) (fun _ j=>(a.g i).size-j)
def ab2(a:IG):An:=.mk 3 Nat (fun s i=>(s.int 4 i).set 3 (.a (.int .u64 (eu a.g i)))) (fun _ i=>i<=a.n) (fun _ i=>a.n-i) (fun i=>.mk 60 [ab1 a i] [])
theorem Yo:fnBody (Y Tryz.prog) [(76,u7)] 28 qX fun a=>[(28,[ab2 a],[])]:=fnBody.of (p :=
 ∀x:Rg.IG,(x.n<100000/\∀w:Nat,w<x.n->bp (x.g w)<=aq)->(∃y:Nat,(11400714819323198485:Int)=Rg.eu x.g y/\aT y (sM x (y<=x.n/\True)))/\∀y:Nat,y<=x.n->aD (bM y x.n) ((∃z:Nat,Rg.eu x.g y=uI x y z/\aT z (jC y x.n (sM x (z<=bp (x.g y)/\True))))/\∀z:Nat,z<=bp (x.g y)->dh y x.n (aD (bM z (bp (x.g (0+ax y)))) (dh y x.n (bf (af z) (af (bp (x.g (0+ax y))))/\∃v:Int,lY (uI x y z) (af ((x.g (0+ax y)).data.getD (ax z) (0:UInt8)).toNat)=v/\ee (aQ z (∃u:Nat,cD (Rg.n9 v+(1:Int))=uI x y u/\aY z=af u/\jC y x.n (sM x (bS u (bp (x.g y)) z)))))) (dh y x.n (∃v:Int,lY (uI x y z) (cD ((256:Int)+cD (af (bp (x.g (0+ax y))))))=v/\ee (aQ y (∃u:Nat,Rg.n9 v=Rg.eu x.g u/\aY y=af u/\sM x (bS u x.n y))))))) (bz (Rg.eu x.g y=Rg.eu x.g x.n))) (by kernel_rfl) (by
 delta aD eF ai bF aG ay ax bn dm aK aY af bf aC aR dV bp aB bz bS aP bJ cD aI bh sM bM aT az lY ag aQ dh jC bt uI ee
 try dsimp -iota -proj only
 rintro⟨g,n,cap⟩ ⟨hn,hs⟩;dsimp only at hn hs ⊢;simp only[Nat.zero_add,Int.toNat_natCast];refine⟨⟨0,?_⟩,fun i hi=>⟨fun h1=>⟨⟨0,?_⟩,fun j hj=>?_⟩,fun h1=>?_⟩⟩
 ·(and_intros<;>first|exact rO|skip)
 ·(and_intros<;>first|exact rO|skip)
 ·simp only[decide_eq_true_eq]at h1;have hi':i<n:=by omega
  have hsz:=hs i hi';refine⟨by omega,hi',fun h2=>?_,fun h2=>?_⟩
  ·simp only[decide_eq_true_eq]at h2;have hj':j<(g i).size:=by omega
   unfold aq at hsz;simp only[bR]
   (and_intros<;>first|exact rO|skip)
   refine⟨_,rfl,trivial,fun _ _=>⟨by omega,j+1,?_⟩⟩
   (and_intros<;>first|exact rO|skip)
  ·simp only[decide_eq_false_iff_not]at h2;have hj':j=(g i).size:=by omega
   subst hj';simp only[bR]
   (and_intros<;>first|exact rO|skip)
   refine⟨_,rfl,trivial,fun _ _=>⟨by omega,i+1,?_⟩⟩
   (and_intros<;>first|exact rO|skip)
 ·simp only[decide_eq_false_iff_not]at h1;have hi':i=n:=by omega
  subst hi';exact⟨(),rfl,trivial,trivial⟩)
theorem Yp:au (Y Tryz.prog).G.X 28 qX:=aU fF Yo ⟨GP,trivial⟩
end Go.Proofs.YtfjgoonelcaggaaGreat.Rg
namespace Go.Proofs
open Go.Shelf
def Tryz.OA:Go.Shelf.Ren:=⟨fun|6=>191|15=>189|14=>226|28=>224|29=>225|20=>245|21=>246|22=>247|23=>248|24=>249|25=>250|26=>251|27=>252|46=>263|47=>240|48=>241|49=>264|50=>265|57=>278|n=>n,fun|22=>159|24=>208|25=>286|3=>3|39=>108|0=>0|53=>299|55=>64|4=>4|46=>316|45=>315|50=>321|5=>5|9=>9|66=>336|70=>340|76=>354|77=>248|n=>n,fun|n=>n⟩
theorem Tryz.aa1:Go.Proofs.SlLaysF0.n6 Tryz.prog Tryz.OA:={
 mixed:=by kernel_rfl
 f6:=⟨Tryz.f191.name,by decide,Tryz.func191.trans (congrArg some (by kernel_rfl))⟩
 f14:=⟨Tryz.f226.name,by decide,Tryz.func226.trans (congrArg some (by kernel_rfl))⟩
 f15:=Tryz.func189.trans (congrArg some (by kernel_rfl))
 f20:=⟨Tryz.f245.name,by decide,Tryz.func245.trans (congrArg some (by kernel_rfl))⟩
 f21:=⟨Tryz.f246.name,by decide,Tryz.func246.trans (congrArg some (by kernel_rfl))⟩
 f22:=⟨Tryz.f247.name,by decide,Tryz.func247.trans (congrArg some (by kernel_rfl))⟩
 f23:=⟨Tryz.f248.name,by decide,Tryz.func248.trans (congrArg some (by kernel_rfl))⟩
 f24:=⟨Tryz.f249.name,by decide,Tryz.func249.trans (congrArg some (by kernel_rfl))⟩
 f25:=⟨Tryz.f250.name,by decide,Tryz.func250.trans (congrArg some (by kernel_rfl))⟩
 f26:=⟨Tryz.f251.name,by decide,Tryz.func251.trans (congrArg some (by kernel_rfl))⟩
 f27:=⟨Tryz.f252.name,by decide,Tryz.func252.trans (congrArg some (by kernel_rfl))⟩
 f28:=Tryz.func224.trans (congrArg some (by kernel_rfl))
 f29:=Tryz.func225.trans (congrArg some (by kernel_rfl))
 f46:=⟨Tryz.f263.name,by decide,Tryz.func263.trans (congrArg some (by kernel_rfl))⟩
 f47:=Tryz.func240.trans (congrArg some (by kernel_rfl))
 f48:=Tryz.func241.trans (congrArg some (by kernel_rfl))
 f49:=⟨Tryz.f264.name,by decide,Tryz.func264.trans (congrArg some (by kernel_rfl))⟩
 f50:=⟨Tryz.f265.name,by decide,Tryz.func265.trans (congrArg some (by kernel_rfl))⟩
 f57:=⟨Tryz.f278.name,by decide,Tryz.func278.trans (congrArg some (by kernel_rfl))⟩
 t0:=Tryz.underlying0
 a0:=Tryz.isAgg0
 z0:=Tryz.sizeOf0
 v0:=Tryz.zeroValue0
 t3:=Tryz.underlying3
 a3:=Tryz.isAgg3
 z3:=Tryz.sizeOf3
 v3:=Tryz.zeroValue3
 t4:=Tryz.underlying4
 a4:=Tryz.isAgg4
 z4:=Tryz.sizeOf4
 v4:=Tryz.zeroValue4
 t5:=Tryz.underlying5
 a5:=Tryz.isAgg5
 z5:=Tryz.sizeOf5
 v5:=Tryz.zeroValue5
 t9:=Tryz.underlying9
 a9:=Tryz.isAgg9
 z9:=Tryz.sizeOf9
 v9:=Tryz.zeroValue9
 t22:=Tryz.underlying159
 a22:=Tryz.isAgg159
 z22:=Tryz.sizeOf159
 v22:=Tryz.zeroValue159
 t25:=Tryz.underlying286
 a25:=Tryz.isAgg286
 z25:=Tryz.sizeOf286
 v25:=Tryz.zeroValue286
 t39:=Tryz.underlying108
 a39:=Tryz.isAgg108
 z39:=Tryz.sizeOf108
 v39:=Tryz.zeroValue108
 t45:=Tryz.underlying315
 a45:=Tryz.isAgg315
 z45:=Tryz.sizeOf315
 v45:=Tryz.zeroValue315
 t46:=Tryz.underlying316
 a46:=Tryz.isAgg316
 z46:=Tryz.sizeOf316
 v46:=Tryz.zeroValue316
 t50:=Tryz.underlying321
 a50:=Tryz.isAgg321
 z50:=Tryz.sizeOf321
 v50:=Tryz.zeroValue321
 t53:=Tryz.underlying299
 a53:=Tryz.isAgg299
 z53:=Tryz.sizeOf299
 v53:=Tryz.zeroValue299
 t55:=Tryz.underlying64
 a55:=Tryz.isAgg64
 z55:=Tryz.sizeOf64
 v55:=Tryz.zeroValue64
 t66:=Tryz.underlying336
 a66:=Tryz.isAgg336
 z66:=Tryz.sizeOf336
 v66:=Tryz.zeroValue336
 t70:=Tryz.underlying340
 a70:=Tryz.isAgg340
 z70:=Tryz.sizeOf340
 v70:=Tryz.zeroValue340
 t76:=Tryz.underlying354
 a76:=Tryz.isAgg354
 z76:=Tryz.sizeOf354
 v76:=Tryz.zeroValue354
 t77:=Tryz.underlying248
 a77:=Tryz.isAgg248
 z77:=Tryz.sizeOf248
 v77:=Tryz.zeroValue248 }
end Go.Proofs
namespace Go.Proofs.YtfjgoonelcaggaaGreat.Rg
open Go.Shelf Go.RowKit Go.Lib Go.Sort
def jJ(x:Int×Int):List Value:=[.int .u64 x.1,.int .i64 x.2]
def gN(x y:Int×Int):Bool:=decide (x.1<y.1)||(decide (x.1=y.1)&&decide (x.2<y.2))
def p7(x y:Int×Int):Int:=if gN x y then -1 else if gN y x then 1 else 0
theorem L0(x y:Int×Int)(W:World):Calls Tryz.prog 192 #[.agg #[.int .u64 x.1,.int .i64 x.2],.agg #[.int .u64 y.1,.int .i64 y.2]] W fun e w'=>e = .returned (.int .i64 (p7 x y))/\∃q os',w'=grow (W.drewN q) os':=by
 go_enter Tryz.func192,Tryz.ntmps192
 go_wp2
 all_goals go_ret
 all_goals first
  |exact⟨by rw[show p7 x y = -1 by grind [p7,gN]];rfl,0,_,by rw[alloc_eq_grow,alloc_eq_grow,alloc_eq_grow,alloc_eq_grow,alloc_eq_grow,alloc_eq_grow,grow_grow,grow_grow,grow_grow,grow_grow,grow_grow];rfl⟩
  |exact⟨by rw[show p7 x y = -1 by grind [p7,gN]];rfl,0,_,by rw[alloc_eq_grow,alloc_eq_grow,alloc_eq_grow,alloc_eq_grow,grow_grow,grow_grow,grow_grow];rfl⟩
  |exact⟨by rw[show p7 x y=1 by grind [p7,gN]];rfl,0,_,by rw[alloc_eq_grow,alloc_eq_grow,alloc_eq_grow,alloc_eq_grow,alloc_eq_grow,alloc_eq_grow,grow_grow,grow_grow,grow_grow,grow_grow,grow_grow];rfl⟩
  |exact⟨by rw[show p7 x y=1 by grind [p7,gN]];rfl,0,_,by rw[alloc_eq_grow,alloc_eq_grow,alloc_eq_grow,alloc_eq_grow,grow_grow,grow_grow,grow_grow];rfl⟩
  |exact⟨by rw[show p7 x y=0 by grind [p7,gN]];rfl,0,_,by rw[alloc_eq_grow,alloc_eq_grow,alloc_eq_grow,alloc_eq_grow,alloc_eq_grow,alloc_eq_grow,grow_grow,grow_grow,grow_grow,grow_grow,grow_grow];rfl⟩
  |exact⟨by rw[show p7 x y=0 by grind [p7,gN]];rfl,0,_,by rw[alloc_eq_grow,alloc_eq_grow,alloc_eq_grow,alloc_eq_grow,grow_grow,grow_grow,grow_grow];rfl⟩
theorem ab3(blk off size:Nat)(w:World):CmpLays Tryz.prog 192 #[] jJ 2 p7 blk off size w:=fun _ _ _ _ x y=>L0 x y _
theorem V3(x y:Int×Int):ltOf p7 x y=gN x y:=by unfold ltOf;grind [p7,gN]
theorem Qj:SWO (ltOf p7) where
 irrefl x:=by rw[V3];simp[gN]
 trans x y z h1 h2:=by
  rw[V3]at *;simp only[gN,Bool.or_eq_true,Bool.and_eq_true,decide_eq_true_eq]at *;omega
 ntrans x y z h1 h2:=by
  rw[V3]at *;simp only[gN,Bool.or_eq_false_iff,Bool.and_eq_false_iff,decide_eq_false_iff_not]at *;omega
theorem ab4(x y:Int×Int)(h1:ltOf p7 x y=false)(h2:ltOf p7 y x=false):x=y:=by
 rw[V3]at h1 h2;cases x;cases y;simp only[gN,Bool.or_eq_false_iff,Bool.and_eq_false_iff,decide_eq_false_iff_not]at h1 h2;simp only[Prod.mk.injEq];omega
theorem aa2(blk off cap:Nat)(d:Array (Int×Int))(w:World)(hH:HoldsK jJ 2 w blk off d)(hblk:blk<w.heap.size)(hsz:d.size<4611686018427387904) :
 Calls Tryz.prog 191 #[.slice (some ⟨blk,off,none⟩) d.size cap,.func (.func 192) #[] #[]] w fun e w' =>
  e = .returned (.tuple #[])/\∃n os,w'=sortWorldK jJ 2 w blk off n (d.toList.mergeSort fun x y=>!(ltOf p7) y x).toArray os :=
 AnyQ.slices_SortFunc_total Tryz.aa1 2 Tryz.isAgg208 Tryz.sizeOf208 jJ (fun _=>rfl) (fun x v hv=>by simp[jJ]at hv;rcases hv with rfl|rfl<;>rfl) p7 Qj 192 #[] blk off cap d w
  (enters_of Tryz.func192 (by kernel_rfl) rfl) (ab3 _ _ _ _) hH hblk hsz ab4
end Go.Proofs.YtfjgoonelcaggaaGreat.Rg
namespace Go.Sx
section
open Go.Sort Go.Proofs
def ER{β:Type}[Inhabited β](ty:TypeId)(ks:List CK)(enc:β->List Value)(g:Nat)(srt:List β->List β):cG where
 α:=P7 β
 β:=Unit
 m:=1
 m':=1
 pre:=fun a=>a.l.length<100000/\1<=a.l.length
 args:=fun a=>[.a (.slc 0 0 ks.length a.l.length a.cap),.a (.fn g)]
 hp:=fun a=>[(0,.arr ty ks a.l.length (aa enc a.l))]
 ro:=fun _=>[]
 post:=fun _ _=>True
 res:=fun _ _=>.ng []
 cR:=fun a _=>[(0,.arr ty ks a.l.length (aa enc (srt a.l)))]
theorem GQ{l:List Value}{j:Nat}(h:j<l.length):l[j]! = l.getD j undef:=by
 rw[getElem!_pos l j h];simp[List.getD,h]
theorem Sk{β:Type}[Inhabited β]{X:Cx}{f g:Nat}{ty:TypeId}{ks:List CK}{enc:β->List Value}{srt:List β->List β}(hk:∀x,(enc x).length=ks.length)(hk0:0<ks.length)
 (hlen:∀l,(srt l).length=l.length) (hin:∀l x,x∈srt l->x∈l)
 (hcall:∀(blk off cap:Nat) (d:Array β) (w:World),HoldsK enc ks.length w blk off d->blk<w.heap.size->d.size<4611686018427387904 ->
  Calls X.P f #[.slice (some ⟨blk,off,none⟩) d.size cap,.func (.func g) #[] #[]] w fun e w'=>e = .returned (.tuple #[])/\∃n os,w'=sortWorldK enc ks.length w blk off n (srt d.toList).toArray os) :
 mB X (ER ty ks enc g srt) f:=by
 intro a hpre M ρ w vs hn hh hargs;obtain⟨l,cap⟩:=a;obtain⟨hp1,hp2⟩:=hpre;obtain⟨v,vs',rfl,hv,v2,vs2,rfl,hv2,rfl⟩:=hargs;have hv2':v2 = .func (.func g) #[] #[]:=hv2;subst hv2';obtain⟨hT,hlc,hcm,hv⟩:=hv;have he:=hh.iq ⟨0,true,.arr ty ks l.length (aa enc l)⟩ (by simp[xg,ER]);have hsat:=he.ch;simp only at hsat hlc hcm hv hT hp1 hp2;rcases hsat with⟨h0,_⟩ | ⟨vs0,ty',fr,hb,h1,h2,h3,h4,h5⟩
 ·omega
 have hlt:(ρ.pl 0).blk<w.heap.size:=he.lt _ ((h4 _).2 rfl);rcases hv with⟨g1,_,_⟩ | ⟨o,rfl,ho⟩
 ·omega
 obtain⟨rfl,_⟩:=ho (by omega);simp only[Nat.zero_mul,Nat.add_zero]at *;have hcell:∀t,t<l.length*ks.length->vs0[(ρ.pl 0).off+t]? = some ((enc (gl l (t/ks.length))).getD (t%ks.length) undef):=by
  intro t ht;have hm:t%ks.length<ks.length:=Nat.mod_lt _ hk0;have hi:t/ks.length<l.length:=Nat.div_lt_of_lt_mul (by rw[Nat.mul_comm];exact ht);obtain⟨q,_⟩:=h5 (t/ks.length) hi (t%ks.length) (ks[t%ks.length]) (List.getElem?_eq_getElem hm);have e:(ρ.pl 0).off+t/ks.length*ks.length+t%ks.length=(ρ.pl 0).off+t:=by
   have:=Nat.div_add_mod t ks.length;rw[Nat.mul_comm]at this;omega
  rw[e]at q;exact q
 have hsz0:(ρ.pl 0).off+l.length*ks.length<=vs0.size:=Nat.le_trans (Nat.add_le_add_left (Nat.mul_le_mul_right _ h2) _) h1;have hnk:l.length*ks.length<=(ρ.pl 0).N*ks.length:=Nat.mul_le_mul_right _ h2;have hHolds:HoldsK enc ks.length w (ρ.pl 0).blk (ρ.pl 0).off l.toArray:=by
  intro t ht;have ht':t<l.length*ks.length:=by simpa using ht
  have hm:t%ks.length<ks.length:=Nat.mod_lt _ hk0;have hi:t/ks.length<l.length:=Nat.div_lt_of_lt_mul (by rw[Nat.mul_comm];exact ht');refine⟨?_,?_⟩
  ·simp only[World.cell?,hb];rw[hcell t ht',get_flatK _ _ _ t (by simpa using ht')];have e:(l.toArray)[t/ks.length]! = gl l (t/ks.length):=by rw[getElem!_pos _ _ (by simpa using hi),bL hi];simp
   rw[e,GQ (by rw[hk];exact hm)];rfl
  ·simp only[World.frozen?,hb];have:=h3 ((ρ.pl 0).off+t) (by omega) (by omega);obtain⟨lo,hi⟩:=fr;simpa using this
 have hcalls:=hcall (ρ.pl 0).blk (ρ.pl 0).off cap l.toArray w hHolds hlt (by simp;omega);simp only[List.size_toArray]at hcalls;refine hcalls.mono ?_;rintro e w' ⟨rfl,n,os,rfl⟩;refine⟨_,rfl,(),ρ,trivial,hn,fun _ _=>rfl,⟨[],rfl,rfl⟩,?_⟩;obtain⟨F,hF⟩:∃F,F=flatK enc ks.length (srt l).toArray:=⟨_,rfl⟩
 have hFs:F.size=l.length*ks.length:=by rw[hF];simp[hlen]
 have hw:sortWorldK enc ks.length w (ρ.pl 0).blk (ρ.pl 0).off n (srt l).toArray os=grow (putRow id (Sort.ahead w n) (ρ.pl 0).blk (ρ.pl 0).off F) os:=by rw[hF];rfl
 rw[hw];have hheap:∀b,b<w.heap.size->(grow (putRow id (Sort.ahead w n) (ρ.pl 0).blk (ρ.pl 0).off F) os).heap[b]? = (w.heap.modify (ρ.pl 0).blk (onCells (putCells id (ρ.pl 0).off F)))[b]?:=by
  intro b hb';rw[heap_grow_old _ _ (by simpa using hb')];rfl
 have hblk:(grow (putRow id (Sort.ahead w n) (ρ.pl 0).blk (ρ.pl 0).off F) os).heap[(ρ.pl 0).blk]? = some (.cells (putCells id (ρ.pl 0).off F vs0) ty' fr):=by
  rw[hheap _ hlt,Array.getElem?_modify,if_pos rfl,hb];rfl
 have hoth:∀b,b<w.heap.size->b≠(ρ.pl 0).blk->(grow (putRow id (Sort.ahead w n) (ρ.pl 0).blk (ρ.pl 0).off F) os).heap[b]? = w.heap[b]?:=by
  intro b hb' hne;rw[hheap b hb',Array.getElem?_modify,if_neg (fun h=>hne h.symm)]
 refine⟨⟨rfl,rfl,rfl,?_,fun b hb' hm=>?_,fun ad had=>?_⟩,?_,?_⟩
 ·simp
 ·exact hoth b hb' fun e=>hm (he.own rfl b ((h4 b).2 e) hb')
 ·rw[frozen?_grow _ _ _ (by simpa using had),frozen?_putRow,frozen?_ahead]
 ·intro e' he';have:e'=⟨0,true,.arr ty ks l.length (aa enc (srt l))⟩:=by simpa[xg,ER]using he'
  subst this;refine⟨he.tag,?_,fun b hb'=>?_,he.own⟩
  ·refine .inr ⟨_,ty',fr,hblk,?_,h2,?_,h4,fun i hi j kk hj=>?_⟩
   ·simpa[putCells]using h1
   ·simpa using h3
   ·have hjl:j<ks.length:=(List.getElem?_eq_some_iff.1 hj).1;have hi':i<(srt l).length:=by rw[hlen];exact hi
    have hmem:gl (srt l) i∈l:=hin l _ (ym hi');have ht:i*ks.length+j<l.length*ks.length:=by
     have:=Nat.mul_le_mul_right ks.length hi;rw[Nat.succ_mul]at this;omega
    have d1:(i*ks.length+j)/ks.length=i:=by
     rw[Nat.mul_comm,Nat.mul_add_div hk0,Nat.div_eq_of_lt hjl,Nat.add_zero]
    have d2:(i*ks.length+j)%ks.length=j:=by
     rw[Nat.mul_comm,Nat.mul_add_mod,Nat.mod_eq_of_lt hjl]
    refine⟨?_,?_⟩
    ·have hc:=hcell (i*ks.length+j) ht;rw[<- Nat.add_assoc]at hc;simp only[putCells,Array.getElem?_mapIdx,hc,Option.map_some,hFs];rw[if_pos ⟨by omega,by omega⟩,show(ρ.pl 0).off+i*ks.length+j-(ρ.pl 0).off=i*ks.length+j by omega];rw[hF,get_flatK _ _ _ _ (by simpa[hlen]using ht),d1,d2];have e:((srt l).toArray)[i]! = gl (srt l) i:=by rw[getElem!_pos _ _ (by simpa using hi'),bL hi'];simp
     rw[e,GQ (by rw[hk];exact hjl)];rfl
    ·obtain⟨i0,hi0,e0⟩:=List.getElem_of_mem hmem;obtain⟨_,g2⟩:=h5 i0 hi0 j kk hj;unfold aa at g2 ⊢;rw[<- e0,<- bL hi0];exact g2
  ·have:=he.lt b hb';simp;omega
 ·simp[xg,ER]
end
end Go.Sx
namespace Go.Proofs.YtfjgoonelcaggaaGreat.Rg
open Go.Sx
def encI(p:Int):List Value:=[.int .i64 p]
def tB(l:List Int)(i:Nat):Bool:=decide (1<=gl l i)&&decide (gl l i<=5)&&(decide (i=0)||decide (gl l (i-1)<gl l i))
def qk(l:List Int):Nat->Bool
 |0=>true
 |i+1=>qk l i&&tB l i
def gO(l:List Int):Bool:=qk l l.length&&decide (0<l.length)
theorem L3{l:List Int}:∀ {i j:Nat},qk l i=true->j<i->tB l j=true
 |i+1,j,h,hj=>by
  simp only[qk,Bool.and_eq_true]at h;by_cases e:j=i
  ·subst e;exact h.2
  ·exact L3 h.1 (by omega)
theorem wL{l:List Int}{j:Nat}(h:tB l j=false):∀ {i:Nat},j<i->qk l i=false
 |i+1,hj=>by
  simp only[qk,Bool.and_eq_false_iff];by_cases e:j=i
  ·subst e;exact .inr h
  ·exact .inl (wL h (by omega))
theorem xE{l:List Int}(h:gO l=true){j:Nat}(hj:j<l.length):1<=gl l j/\gl l j<=5/\(j=0\/gl l (j-1)<gl l j):=by
 simp only[gO,Bool.and_eq_true]at h;have:=L3 h.1 hj;simpa[tB,and_assoc]using this
theorem z1{l:List Int}(h:gO l=true):0<l.length:=by
 simp only[gO,Bool.and_eq_true,decide_eq_true_eq]at h;exact h.2
theorem ES{l:List Int}(h:gO l=true):∀j,j<l.length->(j:Int)+1<=gl l j
 |0,hj=>by have:=xE h hj;omega
 |j+1,hj=>by
  have h1:=ES h j (by omega);have h2:=xE h hj;simp at h2;omega
theorem ET{l:List Int}(h:gO l=true):l.length<=5:=by
 have h0:=z1 h;have h1:=ES h (l.length-1) (by omega);have h2:=xE h (show l.length-1<l.length by omega);omega
structure iG where
 l:List Int
 cap:Nat
noncomputable def yq:cG where
 α:=iG
 β:=Unit
 m:=1
 m':=1
 pre:=fun a=>a.l.length<100000
 args:=fun a=>[.a (.slc 0 0 1 a.l.length a.cap)]
 hp:=fun _=>[]
 ro:=fun a=>[(0,.arr 3 [.int .i64] a.l.length (aa encI a.l))]
 post:=fun _ _=>True
 res:=fun a _=>.a (.bool (gO a.l))
 cR:=fun _ _=>[]
def ab5(k slot:Nat)(a:iG):An:=.flat k Nat (fun s i=>s.int slot i) (fun _ i=>i<=a.l.length/\qk a.l i=true) (fun _ i=>a.l.length-i)
def _root_.Bs(x:Rg.iG)(y z:Nat):=bI (bh (ah x.l) x.cap/\pL x.l Rg.encI/\dD y (ah x.l) (aC (Rg.qk x.l y)) z)
def _root_.sN(z:Int)(x:List Int)(y:Nat)(u:Prop):=dm z (ah x) (0+y) (ai (gl x (0+y))->u)
def _root_.JK(x:Nat)(y:Rg.iG)(z:Nat->Prop):=ai (af x-(1:Int))/\sN (af x-(1:Int)) y.l (aR (af x-(1:Int))) (aD (cn (gl y.l (0+ax x)) (gl y.l (0+aR (af x-(1:Int))))) (Exists (dZ (Rg.gO y.l))) (bH x fun u=>z u))
def _root_.JL(x:Rg.iG)(y:Nat):=bI (bh (ah x.l) x.cap/\pL x.l Rg.encI/\(y<=ah x.l/\aC (Rg.qk x.l y))/\True)
theorem HT:fnBody (Y Tryz.prog) [] 56 yq fun a=>[(56,[ab5 2 7 a],[])]:=fnBody.of (p :=
 ∀x:Rg.iG,ah x.l<100000->cm (fun y=>fe (ah x.l) x.cap (JL x y)) fun y=>gX y (ah x.l) (aC (Rg.qk x.l y)) (Bi (gl x.l (0+ax y)) 1 (Exists (dZ (Rg.gO x.l))) 5 (aX 0 (af y) (JK y x fun z=>fe (ah x.l) x.cap (Bs x z y)) (bH y fun z=>fe (ah x.l) x.cap (Bs x z y)))) (bz (aK 0 (af (ah x.l))=Rg.gO x.l))) (by kernel_rfl) (by
 delta aD eF ah ai bF aG ay ax bn dm aK aY af bf aC aR fV dV fR jD bz fe dD bI aP bH bh dZ cn bM aT az Bs sN ag Bi aX aQ dh pL gX JK bt cm JL
 try dsimp -iota -proj only
 intro a h;simp only[Nat.zero_add,Int.toNat_natCast,bR];refine⟨⟨0,?_⟩,fun i ⟨i1,i2⟩=>⟨fun c1=>?_,fun c1=>⟨(),?_,trivial,trivial⟩⟩⟩
 ·and_intros<;>first|rfl|trivial|exact Nat.le_refl _|omega|(dsimp only;omega)|exact ak.refl _ _ _
 ·simp only[decide_eq_true_eq]at c1;have hi:i<a.l.length:=by omega
  have hpre:((i:Int)-1).toNat=i-1:=by omega
  rw[hpre];have bad:tB a.l i=false->false=gO a.l:=fun e=>by unfold gO;rw[wL e hi];rfl
  have good:tB a.l i=true->qk a.l (i+1)=true:=fun e=>by simp only[qk,i2,e,Bool.and_self]
  repeat' (first|intro _|apply And.intro|apply Exists.intro (i+1:Nat)|apply Exists.intro ())
  all_goals(try with_reducible rfl)
  all_goals(try exact trivial)
  all_goals(try simp only[decide_eq_true_eq,decide_eq_false_iff_not]at *)
  all_goals(try omega)
  all_goals(try exact ak.refl _ _ _)
  all_goals first
   |exact bad (by simp only[tB,Bool.and_eq_false_iff,Bool.or_eq_false_iff,decide_eq_false_iff_not];omega)
   |exact good (by simp only[tB,Bool.and_eq_true,Bool.or_eq_true,decide_eq_true_eq];omega)
 ·simp only[decide_eq_false_iff_not]at c1;have e:i=a.l.length:=by omega
  subst e;unfold gO;rw[i2];simp)
theorem rR:au (Y Tryz.prog).G.X 56 yq:=aU fF HT trivial
theorem Sl:fnBody (Y Tryz.prog) [] 70 yq fun a=>[(70,[ab5 2 3 a],[])]:=fnBody.of (p :=
 ∀x:Rg.iG,ah x.l<100000->cm (fun y=>JL x y) fun y=>gX y (ah x.l) (aC (Rg.qk x.l y)) (ai (gl x.l (0+ax y))->aX (gl x.l (0+ax y)) 1 (Exists (dZ (Rg.gO x.l))) (sN (af y) x.l (ax y) (aX 5 (gl x.l (0+ax y)) (Exists (dZ (Rg.gO x.l))) (aX 0 (af y) (sN (af y) x.l (ax y) (JK y x fun z=>Bs x z y)) (bH y fun z=>Bs x z y))))) (bz (aK 0 (af (ah x.l))=Rg.gO x.l))) (by kernel_rfl) (by
 delta aD eF ah ai bF aG ax bn dm aK aY af bf aC aR fV dV jD bz dD bI bH bh dZ cn bM aT az Bs sN ag aX aQ dh pL gX JK bt cm JL
 try dsimp -iota -proj only
 intro a h;simp only[Nat.zero_add,Int.toNat_natCast,bR];refine⟨⟨0,?_⟩,fun i ⟨i1,i2⟩=>⟨fun c1=>?_,fun c1=>⟨(),?_,trivial,trivial⟩⟩⟩
 ·and_intros<;>first|rfl|trivial|exact Nat.le_refl _|omega|(dsimp only;omega)|exact ak.refl _ _ _
 ·simp only[decide_eq_true_eq]at c1;have hi:i<a.l.length:=by omega
  have hpre:((i:Int)-1).toNat=i-1:=by omega
  rw[hpre];have bad:tB a.l i=false->false=gO a.l:=fun e=>by unfold gO;rw[wL e hi];rfl
  have good:tB a.l i=true->qk a.l (i+1)=true:=fun e=>by simp only[qk,i2,e,Bool.and_self]
  repeat' (first|intro _|apply And.intro|apply Exists.intro (i+1:Nat)|apply Exists.intro ())
  all_goals(try with_reducible rfl)
  all_goals(try exact trivial)
  all_goals(try simp only[decide_eq_true_eq,decide_eq_false_iff_not]at *)
  all_goals(try omega)
  all_goals(try exact ak.refl _ _ _)
  all_goals first
   |exact bad (by simp only[tB,Bool.and_eq_false_iff,Bool.or_eq_false_iff,decide_eq_false_iff_not];omega)
   |exact good (by simp only[tB,Bool.and_eq_true,Bool.or_eq_true,decide_eq_true_eq];omega)
 ·simp only[decide_eq_false_iff_not]at c1;have e:i=a.l.length:=by omega
  subst e;unfold gO;rw[i2];simp)
theorem Sm:au (Y Tryz.prog).G.X 70 yq:=aU fF Sl trivial
def JM:List CK:=[.int .u64,.int .i64]
def uJ(n:Int)(k:Nat):List (Int×Int):=(List.range k).map fun j:Nat=>(l6 n (j:Int),n)
def cQ(l:List Int):List (Int×Int):=l.flatMap fun n=>uJ n 8
def xZ(l:List (Int×Int)):List (Int×Int):=l.mergeSort fun x y=>!(Go.Proofs.ltOf p7) y x
def kj(l:List Int):List (Int×Int):=if gO l then xZ (cQ l)else[]
noncomputable def JN:cG:=ER 208 JM jJ 192 xZ
theorem V4(blk off cap:Nat)(d:Array (Int×Int))(w:World)(hH:Go.Sort.HoldsK jJ JM.length w blk off d)(hblk:blk<w.heap.size)(hsz:d.size<4611686018427387904) :
 Calls Tryz.prog 191 #[.slice (some ⟨blk,off,none⟩) d.size cap,.func (.func 192) #[] #[]] w fun e w' =>
  e = .returned (.tuple #[])/\∃n os,w'=Go.Proofs.sortWorldK jJ JM.length w blk off n (xZ d.toList).toArray os:=aa2 blk off cap d w hH hblk hsz
theorem z6(l:List (Int×Int)):(xZ l).length=l.length:=List.length_mergeSort _
theorem EU(l:List (Int×Int)):(xZ l).Perm l:=List.mergeSort_perm _ _
theorem Sn:mB (Y Tryz.prog).G.X JN 191 :=
 Sk (ks:=JM) (enc:=jJ) (g:=192) (srt:=xZ) (fun _=>rfl) (by decide) z6 (fun l x hx=>(EU l).mem_iff.1 hx) V4
theorem OB:au (Y Tryz.prog).G.X 191 JN:=fun _ _ _ h=>xk Sn h
noncomputable def OC:cG where
 α:=iG
 β:=Nat
 m:=1
 m':=2
 pre:=fun a=>a.l.length<100000
 args:=fun a=>[.a (.slc 0 0 1 a.l.length a.cap)]
 hp:=fun _=>[]
 ro:=fun a=>[(0,.arr 3 [.int .i64] a.l.length (aa encI a.l))]
 post:=fun _ _=>True
 res:=fun a cap=>.a (.slc 1 0 2 (kj a.l).length cap)
 cR:=fun a _=>[(1,.arr 208 JM (kj a.l).length (aa jJ (kj a.l)))]
def ab6(a:iG)(i:Nat):An:=.flat 8 (Nat×Nat) (fun s x=>((s.at_ (s.tg 3) (.arr 208 JM (cQ (a.l.take i)++uJ (gl a.l i) x.1).length (aa jJ (cQ (a.l.take i)++uJ (gl a.l i) x.1)))).set 3 (.a (.slc (s.tg 3) 0 2 (cQ (a.l.take i)++uJ (gl a.l i) x.1).length x.2))).int 16 x.1)
 (fun _ x=>x.1<=8) (fun _ x=>8-x.1)
def abI(a:iG):An:=.mk 5 (Nat×Nat) (fun s x=>((s.new (.arr 208 JM (cQ (a.l.take x.1)).length (aa jJ (cQ (a.l.take x.1))))).set 3 (.a (.slc s.nx 0 2 (cQ (a.l.take x.1)).length x.2))).int 12 x.1)
 (fun _ x=>x.1<=a.l.length) (fun _ x=>a.l.length-x.1) fun x=>.mk 60 [ab6 a x.1] []
theorem GR(n:Int)(k:Nat):uJ n (k+1)=uJ n k++[(l6 n k,n)]:=by
 unfold uJ;rw[List.range_succ,List.map_append];rfl
theorem B7(n:Int)(k:Nat):(uJ n k).length=k:=by simp[uJ]
theorem B8{l:List Int}{i:Nat}(h:i<l.length):cQ (l.take (i+1))=cQ (l.take i)++uJ (gl l i) 8:=by
 unfold cQ;rw[fD h,List.flatMap_append];simp
theorem mh:∀l:List Int,(cQ l).length=8*l.length
 |[]=>rfl
 |a::l=>by
  have:=mh l;unfold cQ at *;rw[List.flatMap_cons,List.length_append,B7,this,List.length_cons];omega
def _root_.Bt(x:Nat×Nat)(y:Rg.iG):List (Int×Int):=Rg.cQ (List.take x.fst y.l)
def _root_.nN(x:Nat×Nat)(y:Rg.iG)(z:Nat×Nat):List (Int×Int):=Bt x y++Rg.uJ (gl y.l x.fst) z.fst
def _root_.uK(x:Nat×Nat)(y:Rg.iG):Nat:=List.length (Bt x y)
def _root_.rA(y:List Int)(z:Nat)(u:Rg.iG->Prop):=∃x:Rg.iG,mI y x.l z x.cap Rg.encI (ah x.l<100000) (u x)
def _root_.EV(x y:Rg.iG)(z u:Prop):=fe (ah x.l) x.cap (bn (bq (Rg.gO y.l))/\jR (ah x.l) x.cap z 1 (aa Rg.encI x.l) u)
theorem Sp:fnBody (Y Tryz.prog) [(56,yq),(190,Br),(191,JN)] 152 OC fun a=>[(152,[abI a],[])]:=fnBody.of (p :=
 ∀x:Rg.iG,ah x.l<100000->rA x.l x.cap fun w=>aB (aD (bq (Rg.gO w.l)) (Az (Rg.kj x.l).length) ((∃y:Nat×Nat,aT y.fst ((0=uK y x/\0=y.snd)/\EV x w (uK y x=0) (y.fst<=ah x.l/\True)))/\∀y:Nat×Nat,gm y.fst (ah x.l) (ai (gl x.l (0+ax y.fst))->(∃z:Nat×Nat,aT z.fst (ag (uK y x=List.length (nN y x z)/\y.snd=z.snd)/\ay (gl x.l (0+ax y.fst))/\jC y.fst (ah x.l) (EV x w (aG (List.length (nN y x z)) (uK y x) 2 (aa Rg.jJ (Bt y x)) (aa Rg.jJ (nN y x z))) (z.fst<=8/\True))))/\∀z:Nat×Nat,z.fst<=8->aX (af z.fst) 8 (∃u:Int×Int,mM (gl x.l (0+ax y.fst)) u (af z.fst) (y7 u/\aB (jE (List.length (nN y x z)) 16 z.snd fun t=>iS z fun s=>ag (List.length (nN y x z)+1=List.length (nN y x s)/\t=s.snd)/\ay (gl x.l (0+ax y.fst))/\jC y.fst (ah x.l) (EV x w (iA (List.length (nN y x s)) (List.length (nN y x z)) 2 (aa Rg.jJ (nN y x z)) (bw (Value.int .u64 (Rg.l6 u.fst u.snd)) (gp (gl x.l (0+ax y.fst)))) (aa Rg.jJ (nN y x s))) (bS s.fst 8 z.fst))))) (iS y fun u=>ag (List.length (nN y x z)=uK u x/\z.snd=u.snd)/\EV x w (aG (uK u x) (List.length (nN y x z)) 2 (aa Rg.jJ (nN y x z)) (aa Rg.jJ (Bt u x))) (bS u.fst (ah x.l) y.fst))) (∃(v:P7 (Int×Int)),gJ (uK y x) v.l.length y.snd v.cap 2 (aa Rg.jJ (Bt y x)) (aa Rg.jJ v.l) ((v.l.length<100000 /\
 1<=v.l.length)/\aB (∃z:Nat,ag (uK y x=(Rg.kj x.l).length/\y.snd=z)/\bt (aG (Rg.kj x.l).length v.l.length 2 (aa Rg.jJ (Rg.xZ v.l)) (aa Rg.jJ (Rg.kj x.l))))))))) (by kernel_rfl) (by
 delta aD eF ah ai bF aG ay bT ax bn gC dm aK aY af eo bf aC aR dW bw dV dQ aB jD fe jE jR iA bS aP nN mI bh iS gJ bM aT ag uK rA EV aX mM cU bq aQ gm dh jC Az jF gp y7 bt Bt
 try dsimp -iota -proj only
 intro a h;refine⟨⟨a.l,a.cap⟩,?_⟩
 and_intros<;>first|rfl|trivial|exact Nat.le_refl _|omega|(dsimp only;omega)|exact ak.refl _ _ _|skip
 refine fun _ _=>⟨fun c0=>⟨0,?_⟩,fun c0=>?_⟩
 ·have e:kj a.l=[]:=if_neg (by simpa using c0);rw[e]
  and_intros<;>first|rfl|trivial|exact Nat.le_refl _|omega|(dsimp only;omega)|exact ak.refl _ _ _
 have hm:gO a.l=true:=by simpa using c0
 have hl:=ET hm;have hl0:=z1 hm;have e:kj a.l=xZ (cQ a.l):=if_pos hm;simp only[Nat.zero_add,Int.toNat_natCast,bR];refine⟨⟨(0,0),?_⟩,fun x hx=>⟨fun c1=>?_,fun c1=>?_⟩⟩
 ·have e0:cQ (a.l.take 0)=[]:=rfl;dsimp only;rw[e0]
  and_intros<;>first|rfl|trivial|exact Nat.le_refl _|omega|(dsimp only;omega)|exact ak.refl _ _ _
 ·obtain⟨i,cap⟩:=x;dsimp only at c1 hx ⊢;simp only[decide_eq_true_eq]at c1;have hi:i<a.l.length:=by omega
  have hb:=xE hm hi;have hr:=mh (a.l.take i);rw[List.length_take]at hr;refine⟨by omega,by omega,fun _=>⟨⟨(0,cap),?_⟩,fun y hy=>⟨fun c2=>?_,fun c2=>?_⟩⟩⟩
  ·have e0:cQ (a.l.take i)++uJ (gl a.l i) 0=cQ (a.l.take i):=List.append_nil _;dsimp only;rw[e0]
   and_intros<;>first|rfl|trivial|exact Nat.le_refl _|omega|(dsimp only;omega)|exact ak.refl _ _ _
  ·obtain⟨k,c⟩:=y;dsimp only at c2 hy ⊢;simp only[decide_eq_true_eq]at c2;have hk:k<8:=by omega
   have hn:(cQ (a.l.take i)++uJ (gl a.l i) k).length=8*min i a.l.length+k:=by rw[List.length_append,B7,hr]
   have hs:cQ (a.l.take i)++uJ (gl a.l i) (k+1)=(cQ (a.l.take i)++uJ (gl a.l i) k)++[(l6 (gl a.l i) k,gl a.l i)]:=by rw[GR,List.append_assoc]
   have hn1:((cQ (a.l.take i)++uJ (gl a.l i) k)++[(l6 (gl a.l i) k,gl a.l i)]).length=(cQ (a.l.take i)++uJ (gl a.l i) k).length+1:=List.length_append;refine⟨(gl a.l i,(k:Int)),rfl,rfl,⟨by omega,by omega,by omega,by omega⟩,fun _ _=>⟨by omega,by omega,by omega,fun c3 _ _ _=>⟨by omega,⟨(k+1,c3),?_⟩⟩⟩⟩;dsimp only;rw[hs,hn1]
   and_intros<;>first|rfl|trivial|exact Nat.le_refl _|omega|(dsimp only;omega)|exact ak.refl _ _ _|exact .push rfl (by omega) rfl
  ·obtain⟨k,c⟩:=y;dsimp only at c2 hy ⊢;simp only[decide_eq_false_iff_not]at c2;have hk:k=8:=by omega
   subst hk;have hs:=B8 hi;refine⟨by omega,⟨(i+1,c),?_⟩⟩;dsimp only;rw[hs]
   and_intros<;>first|rfl|trivial|exact Nat.le_refl _|omega|(dsimp only;omega)|exact ak.refl _ _ _
 ·obtain⟨i,cap⟩:=x;dsimp only at c1 hx ⊢;simp only[decide_eq_false_iff_not]at c1;have hi:i=a.l.length:=by omega
  subst hi;have hr:=mh a.l;have hsl:=z6 (cQ a.l);rw[List.take_length,e];refine⟨⟨cQ a.l,cap⟩,?_⟩
  and_intros<;>first|rfl|trivial|exact Nat.le_refl _|omega|(dsimp only;omega)|exact ak.refl _ _ _|skip
  refine fun _ _=>⟨cap,?_⟩
  and_intros<;>first|rfl|trivial|exact Nat.le_refl _|omega|(dsimp only;omega)|exact ak.refl _ _ _)
theorem Sq:au (Y Tryz.prog).G.X 152 OC:=aU fF Sp ⟨rR,Sj,OB,trivial⟩
theorem EW{n:Int}{k:Nat}{e:Int×Int}(h:e∈uJ n k):e.2=n:=by
 obtain⟨j,_,rfl⟩:=List.mem_map.1 h;rfl
theorem V5{l:List Int}(h:gO l=true){n:Int}(hn:n∈l):1<=n/\n<=5:=by
 obtain⟨i,hi,rfl⟩:=List.getElem_of_mem hn;have:=xE h hi;rw[bL hi]at this;omega
theorem JO(l:List (Int×Int)):(xZ l).Pairwise fun x y=>gN y x=false:=by
 have:=List.pairwise_mergeSort (le:=fun x y=>!(Go.Proofs.ltOf p7) y x) (fun a b c h1 h2=>?_) (fun a b=>?_) l
 ·exact this.imp fun {x y} h=>by rw[<- V3];simpa using h
 ·simp only[Bool.not_eq_true']at *;exact Qj.ntrans c b a h2 h1
 ·simp only[Bool.or_eq_true,Bool.not_eq_true'];cases h:Go.Proofs.ltOf p7 b a with
  |false=>exact .inl rfl
  |true =>
   refine .inr ?_;cases h':Go.Proofs.ltOf p7 a b with
   |false=>rfl
   |true=>have:=Qj.trans a b a h' h;rw[Qj.irrefl]at this;cases this
theorem L4{l:List Int}(h:gO l=true):kj l=xZ (cQ l):=if_pos h
theorem uL{l:List Int}(h:gO l=true):(kj l).Perm (cQ l):=by rw[L4 h];exact EU _
theorem uM{l:List Int}(h:gO l=true):(kj l).length=8*l.length:=by rw[(uL h).length_eq,mh]
theorem JP{l:List Int}(h:gO l=true):(kj l).Pairwise fun x y=>gN y x=false:=by rw[L4 h];exact JO _
theorem V6{n:Int}(h1:1<=n)(h2:n<=5):gO [n]=true:=by simp[gO,qk,tB,gl,h1,h2]
def sO(L:List (Int×Int))(h:Int):Int:=match L.find? (fun e=>decide (h<=e.1))with|some e=>e.2|none=>(gl L 0).2
theorem Sr{α:Type}{p:α->Bool}{L:List α}{k:Nat}{x:α}(h:(L.take k).find? p=some x):L.find? p=some x:=by
 rw[<- List.take_append_drop k L,List.find?_append,h];rfl
theorem V7{L:List (Int×Int)}{h:Int}{i:Nat}(hi:i<L.length)(h1:(L.take i).find? (fun e=>decide (h<=e.1))=none)(h2:h<=(gl L i).1):sO L h=(gl L i).2:=by
 have:L.find? (fun e=>decide (h<=e.1))=some (gl L i):=by
  refine Sr (k:=i+1) ?_;rw[fD hi,List.find?_append,h1];simp[h2]
 unfold sO;rw[this]
theorem Ss{L:List (Int×Int)}{h:Int}(h1:L.find? (fun e=>decide (h<=e.1))=none):sO L h=(gl L 0).2:=by
 unfold sO;rw[h1]
theorem AY{L:List (Int×Int)}{h:Int}{i:Nat}(hi:i<L.length)(h1:(L.take i).find? (fun e=>decide (h<=e.1))=none)(h2:¬h<=(gl L i).1):(L.take (i+1)).find? (fun e=>decide (h<=e.1))=none:=by
 rw[fD hi,List.find?_append,h1];simp[h2]
structure ga where
 e:Int
 l:List Int
 c1:Nat
 L:List (Int×Int)
 c2:Nat
def OD(a:ga):List (Nat×Chunk):=[(0,.obj 161 [.int .i64 a.e,.slc 1 0 1 a.l.length a.c1,.slc 2 0 2 a.L.length a.c2]),(1,.arr 3 [.int .i64] a.l.length (aa encI a.l)),(2,.arr 208 JM a.L.length (aa jJ a.L))]
structure Bu where
 r:ga
 h:Int
noncomputable def OE:cG where
 α:=Bu
 β:=Unit
 m:=3
 m':=3
 pre:=fun a=>a.r.L.length<100000/\0<a.r.L.length
 args:=fun a=>[.a (.ptr 0 0 0 0),.a (.int .u64 a.h)]
 hp:=fun _=>[]
 ro:=fun a=>OD a.r
 post:=fun _ _=>True
 res:=fun a _=>.a (.int .i64 (sO a.r.L a.h))
 cR:=fun _ _=>[]
def aa3(a:Bu):An:=.flat 4 Nat (fun s i=>s.int 14 i) (fun _ i=>i<=a.r.L.length/\(a.r.L.take i).find? (fun e=>decide (a.h<=e.1))=none) (fun _ i=>a.r.L.length-i)
def _root_.uN(x:Rg.ga)(y:Prop):=jR (ah x.l) x.c1 (bh x.L.length x.c2) 1 (aa Rg.encI x.l) (eF x.L.length 2 (aa Rg.jJ x.L)/\y)
def _root_.JQ(x:Rg.Bu)(y:Nat):=List.find? (fun z=>cn x.h z.fst) (List.take y x.r.L)=none
def _root_.OF(x:Rg.Bu)(y:Prop):=fe x.r.L.length x.r.c2 (mG (ay x.h/\ay x.r.e/\uN x.r y))
theorem St:fnBody (Y Tryz.prog) [] 78 OE fun a=>[(78,[aa3 a],[])]:=fnBody.of (p :=
 ∀x:Rg.Bu,x.r.L.length<100000/\0<x.r.L.length->cm (fun y=>OF x ((y<=x.r.L.length/\JQ x y)/\True)) fun y=>gX y x.r.L.length (JQ x y) (bR .u64 (gl x.r.L (0+ax y)).fst->aD (cn x.h (gl x.r.L (0+ax y)).fst) (sD (gl x.r.L (0+ax y)).snd (Rg.sO x.r.L x.h)) (bH y fun z=>OF x (dD z x.r.L.length (JQ x z) y))) (dm 0 x.r.L.length 0 (sD (gl x.r.L 0).snd (Rg.sO x.r.L x.h)))) (by kernel_rfl) (by
 delta aD eF ah ai bF aG ay ax bn dm aK aY af bf aC aR dV jD bz fe dD bI jR aP bH uN aI bh cn bM aT az ag sD aQ dh gX JQ mG bt cm OF
 try dsimp -iota -proj only
 rintro⟨⟨e,l,c1,L,c2⟩,h⟩ ⟨h1,h2⟩;dsimp only at h1 h2 ⊢;simp only[Nat.zero_add,Int.toNat_natCast,bR];refine⟨⟨0,?_⟩,fun i ⟨i1,i2⟩=>⟨fun d1=>?_,fun d1=>?_⟩⟩
 ·(and_intros<;>first|exact rO|skip)
 ·simp only[decide_eq_true_eq]at d1;have hi:i<L.length:=by omega
  refine⟨by omega,hi,fun _=>⟨fun d2 _=>⟨(),?_,trivial,trivial⟩,fun d2=>⟨by omega,i+1,?_⟩⟩⟩
  ·simp only[decide_eq_true_eq]at d2;exact(V7 hi i2 d2).symm
  ·simp only[decide_eq_false_iff_not]at d2;have:=AY hi i2 d2
   (and_intros<;>first|exact rO|skip)
 ·simp only[decide_eq_false_iff_not]at d1;have hi:i=L.length:=by omega
  subst hi;rw[List.take_length]at i2;refine⟨by omega,h2,fun _=>⟨(),(Ss i2).symm,trivial,trivial⟩⟩)
theorem Su:au (Y Tryz.prog).G.X 78 OE:=aU fF St trivial
structure OG where
 r:ga
 key:ByteArray
noncomputable def Yq:cG where
 α:=OG
 β:=Unit
 m:=3
 m':=3
 pre:=fun a=>a.r.L.length<100000/\0<a.r.L.length/\a.key.size<=aq
 args:=fun a=>[.a (.ptr 0 0 0 0),.a (.str a.key)]
 hp:=fun _=>[]
 ro:=fun a=>OD a.r
 post:=fun _ _=>True
 res:=fun a _=>.a (.int .i64 (sO a.r.L (eu (fun _=>a.key) 1)))
 cR:=fun _ _=>[]
def _root_.wM(y:List Int)(x:Rg.ga)(u:Nat)(z:List (Int×Int))(v:Nat)(w:Prop):=cU y x.l u x.c1/\eH z.length x.L.length v x.c2 (dQ x.l y Rg.encI) 2 (aa Rg.jJ z) (aa Rg.jJ x.L) w
def _root_.p8(x y:Rg.ga)(z u:Prop):=x.e=y.e/\wM x.l y x.c1 x.L x.c2 (z/\u)
def _root_.sP(x:Rg.OG):Int:=Rg.sO x.r.L (Rg.eu (fun y=>x.key) 1)
def _root_.sQ(x:Rg.ga)(y:Prop):=x.L.length<100000/\0<x.L.length/\y
theorem OH:fnBody (Y Tryz.prog) [(66,qX),(78,OE)] 44 Yq fun _=>[]:=fnBody.of (p :=
 ∀z:Rg.OG,sQ z.r (bp z.key<=aq)->∃y:Rg.IG,wh y.n y.cap z.key (fun x=>y.g x) (fun x=>y.g x) (∃x:Rg.Bu,ag (Rg.eu y.g y.n=x.h/\p8 z.r x.r (x.r.L.length<100000/\0<x.r.L.length) (aB (bz (Rg.sO x.r.L x.h=sP z)))))) (by kernel_rfl) (by
 delta ah aG bP bw wM dQ bp aB bz eH bJ gJ az ag p8 wh sP sQ cU bt
 try dsimp -iota -proj only
 rintro⟨⟨e,l,c1,L,c2⟩,key⟩ ⟨h1,h2,h3⟩;dsimp only at h1 h2 h3 ⊢;have hr:ak 1 1 (aF 1 [Go.Value.string key]) (fun(i x:Nat)=>Go.Value.string key):=.dB fun i hi=>by
  have:i=0:=by omega
  subst this;rfl
 refine⟨⟨fun _=>key,1,1⟩,?_⟩
 (and_intros<;>first|exact rO|skip)
 refine fun _ _=>⟨⟨⟨e,l,c1,L,c2⟩,eu (fun _=>key) 1⟩,?_⟩
 (and_intros<;>first|exact rO|skip)
 exact fun _ _=>⟨(),rfl,trivial,trivial⟩)
theorem EX:au (Y Tryz.prog).G.X 44 Yq:=aU fF OH ⟨xu,Su,trivial⟩
noncomputable def OI:cG where
 α:=iG
 β:=Nat
 m:=1
 m':=2
 pre:=fun a=>a.l.length<100000
 args:=fun a=>[.a (.slc 0 0 1 a.l.length a.cap)]
 hp:=fun _=>[]
 ro:=fun a=>[(0,.arr 3 [.int .i64] a.l.length (aa encI a.l))]
 post:=fun _ _=>True
 res:=fun a cap=>.a (.slc 1 0 1 a.l.length cap)
 cR:=fun a _=>[(1,.arr 3 [.int .i64] a.l.length (aa encI a.l))]
theorem Sv:fnBody (Y Tryz.prog) [] 151 OI fun _=>[]:=fnBody.of (p :=
 ∀x:Rg.iG,ah x.l<100000->AP x.l (Az (ah x.l)) (gC 0 (ah x.l) 8 0 fun y=>∃z:Nat,gJ (0+ah x.l) (ah x.l) y z 1 (vJ (sC Rg.encI x.l)) (aa Rg.encI x.l) (True/\True))) (by kernel_rfl) (by
 delta aD ah aG gC aC gJ ag nr Az sC bt AP vJ
 try dsimp -iota -proj only
 rintro⟨l,cap⟩ h;dsimp only at h ⊢;have hr:ak l.length 1 (bg (aF 1 []) 0 0 fun(i j:Nat)=>aa encI l (0+i) j) (aa encI l):=by
  have:=ak.app (enc:=encI) (n:=l.length) (m:=1) (s:=0) (l:=[]) (q:=l) (r0:=aF 1 []) (r1:=fun(i j:Nat)=>aa encI l (0+i) j) (k:=0) rfl .zero (.of_eq (by funext i j;rw[Nat.zero_add]));simpa using this
 refine fun b hb=>⟨fun hc=>⟨0,?_⟩,fun _=>?_⟩
 ·have h0:=hb hc
  (and_intros<;>first|exact rO|skip)
 ·(and_intros<;>first|exact rO|skip)
  refine fun c _ _ _=>⟨c,?_⟩
  (and_intros<;>first|exact rO|skip))
theorem Sw:au (Y Tryz.prog).G.X 151 OI:=aU fF Sv trivial
structure Yr where
 l:List Int
 cap:Nat
 n:Int
noncomputable def aa4:cG where
 α:=Yr
 β:=Unit
 m:=1
 m':=1
 pre:=fun a=>a.l.length<100000
 args:=fun a=>[.a (.slc 0 0 1 a.l.length a.cap),.a (.int .i64 a.n)]
 hp:=fun _=>[]
 ro:=fun a=>[(0,.arr 3 [.int .i64] a.l.length (aa encI a.l))]
 post:=fun _ _=>True
 res:=fun a _=>.a (.bool (decide (a.n∈a.l)))
 cR:=fun _ _=>[]
def aa5(a:Yr):An:=.flat 2 Nat (fun s i=>s.int 8 i) (fun _ i=>i<=a.l.length/\a.n∉a.l.take i) (fun _ i=>a.l.length-i)
theorem JR:fnBody (Y Tryz.prog) [] 91 aa4 fun a=>[(138,[aa5 a],[])]:=fnBody.of (p :=
 ∀x:Rg.Yr,ah x.l<100000->cm (fun y=>rj (ah x.l) x.cap (ay x.n) 1 (aa Rg.encI x.l) ((y<=ah x.l/\¬x.n∈List.take y x.l)/\True)) fun y=>gX y (ah x.l) (¬x.n∈List.take y x.l) (ai (gl x.l (0+ax y))->aD (x.n == gl x.l (0+ax y)) (bz (cn 0 (af y)=decide (x.n∈x.l))) (bH y fun z=>rj (ah x.l) x.cap (ay x.n) 1 (aa Rg.encI x.l) (dD z (ah x.l) (¬x.n∈List.take z x.l) y))) (Exists (dZ (decide (x.n∈x.l))))) (by kernel_rfl) (by
 delta aD eF ah ai bF aG ay ax dm aK aY af bf aC aR fV dV jD bz dD jR aP bH aI bh dZ cn bM aT az ag aQ dh gX rj bt cm
 try dsimp -iota -proj only
 rintro⟨l,cap,n⟩ h;dsimp only at *;simp only[Nat.zero_add,Int.toNat_natCast,bR];refine⟨⟨0,?_⟩,fun i ⟨i1,i2⟩=>⟨fun c1=>?_,fun c1=>⟨(),?_,trivial,trivial⟩⟩⟩
 ·and_intros<;>first|rfl|trivial|exact Nat.le_refl _|omega|(dsimp only;omega)|exact ak.refl _ _ _|simp
 ·simp only[decide_eq_true_eq]at c1;have hi:i<l.length:=by omega
  refine⟨by omega,hi,fun _=>⟨fun c2=>⟨(),?_,trivial,trivial⟩,fun c2=>⟨by omega,i+1,?_⟩⟩⟩
  ·simp only[beq_iff_eq]at c2;have:n∈l:=by rw[c2];exact ym hi
   simp[this]
  ·simp only[beq_eq_false_iff_ne]at c2;have:n∉l.take (i+1):=by
    rw[fD hi,List.mem_append,List.mem_singleton];rintro(h|h)
    ·exact i2 h
    ·exact c2 h
   and_intros<;>first|rfl|trivial|exact Nat.le_refl _|omega|(dsimp only;omega)|exact ak.refl _ _ _|exact this
 ·simp only[decide_eq_false_iff_not]at c1;have e:i=l.length:=by omega
  subst e;rw[List.take_length]at i2;simp[i2])
theorem JS:au (Y Tryz.prog).G.X 91 aa4:=aU fF JR trivial
structure Qk where
 r:ga
 n:Int
noncomputable def V8:cG where
 α:=Qk
 β:=Unit
 m:=3
 m':=3
 pre:=fun a=>a.r.l.length<100000
 args:=fun a=>[.a (.ptr 0 0 0 0),.a (.int .i64 a.n)]
 hp:=fun _=>[]
 ro:=fun a=>OD a.r
 post:=fun _ _=>True
 res:=fun a _=>.a (.bool (decide (a.n∈a.r.l)))
 cR:=fun _ _=>[]
theorem V9:fnBody (Y Tryz.prog) [(91,aa4)] 50 V8 fun _=>[]:=fnBody.of (p :=
 ∀x:Rg.Qk,ah x.r.l<100000->∃y:Rg.Yr,cU x.r.l y.l x.r.c1 y.cap/\x.n=y.n/\dQ y.l x.r.l Rg.encI/\ah y.l<100000/\aB (bz (decide (y.n∈y.l)=decide (x.n∈x.r.l)))) (by kernel_rfl) (by
 delta ah aG dQ aB bz az ag cU bt
 try dsimp -iota -proj only
 rintro⟨⟨e,l,c1,L,c2⟩,n⟩ h;dsimp only at h ⊢;refine⟨⟨l,c1,n⟩,?_⟩
 (and_intros<;>first|exact rO|skip)
 exact fun _ _=>⟨(),rfl,trivial,trivial⟩)
theorem Wa:au (Y Tryz.prog).G.X 50 V8:=aU fF V9 ⟨JS,trivial⟩
def va(a e:Int×Int):Int×Int:=if a.2=0\/e.1<a.1\/e.1=a.1/\e.2<a.2 then e else a
def nc(M:List (Int×Int)):Int×Int:=M.foldl va (0,0)
theorem Bv(M:List (Int×Int))(e:Int×Int):nc (M++[e])=va (nc M) e:=by simp[nc]
def qu(h:Int)(M:List (Int×Int)):Int×Int:=nc (M.filter fun e=>decide (h<=e.1))
theorem Sy(h:Int)(M:List (Int×Int))(e:Int×Int):qu h (M++[e])=if h<=e.1 then va (qu h M) e else qu h M:=by
 unfold qu;rw[List.filter_append];by_cases c:h<=e.1
 ·rw[List.filter_cons_of_pos (by simpa using c),List.filter_nil,Bv,if_pos c]
 ·rw[List.filter_cons_of_neg (by simpa using c),List.filter_nil,List.append_nil,if_neg c]
def iH(l:List Int)(h:Int):Int:=if gO l then if(qu h (cQ l)).2=0 then(nc (cQ l)).2 else(qu h (cQ l)).2 else 0
structure ql where
 l:List Int
 cap:Nat
 h:Int
noncomputable def JT:cG where
 α:=ql
 β:=Unit
 m:=1
 m':=1
 pre:=fun a=>a.l.length<100000
 args:=fun a=>[.a (.slc 0 0 1 a.l.length a.cap),.a (.int .u64 a.h)]
 hp:=fun _=>[]
 ro:=fun a=>[(0,.arr 3 [.int .i64] a.l.length (aa encI a.l))]
 post:=fun _ _=>True
 res:=fun a _=>.a (.int .i64 (iH a.l a.h))
 cR:=fun _ _=>[]
def S.u64(s:S)(i:Nat)(n:Int):S:=s.set i (.a (.int .u64 n))
def S.low(s:S)(M:List (Int×Int)):S:=S.u64 (s.int 6 (nc M).2) 8 (nc M).1
def S.best(s:S)(h:Int)(M:List (Int×Int)):S:=S.u64 (s.int 5 (qu h M).2) 7 (qu h M).1
def dA(a:ql)(i k:Nat):List (Int×Int):=cQ (a.l.take i)++uJ (gl a.l i) k
def abJ(a:ql)(i k:Nat):An:=.flat 14 Unit (fun s _=>S.low s (dA a i (k+1))) (fun _ _=>True) (fun _ _=>0)
def abK(a:ql)(i:Nat):An:=.mk 9 Nat (fun s k=>(S.best (S.low s (dA a i k)) a.h (dA a i k)).int 10 k) (fun _ k=>k<=8) (fun _ k=>8-k) fun k=>.mk 60 [] [abJ a i k]
def abL(a:ql):An:=.mk 6 Nat (fun s i=>(S.best (S.low s (cQ (a.l.take i))) a.h (cQ (a.l.take i))).int 9 i) (fun _ i=>i<=a.l.length) (fun _ i=>a.l.length-i) fun i=>.mk 60 [abK a i] []
noncomputable def Sz:List (Nat×cG):=[(70,yq),(75,Br)]
def _root_.x6(z:Bool)(u x y v:Prop):=aD z (Exists (az (u/\x/\y))) (Exists (az (v/\x/\y)))
def _root_.Wb(y:Int×Int)(x:Nat)(z:Rg.ql)(v:Prop)(u:Int×Int)(w:Prop):=fR (y.snd == (0:Int)) (sN (af x) z.l (ax x) v) (aK (Rg.l6 u.fst u.snd) y.fst) (aD (Rg.l6 u.fst u.snd == y.fst) (sN (af x) z.l (ax x) (aX (gl z.l (0+ax x)) y.snd (sN (af x) z.l (ax x) v) w)) w)
def _root_.EY(y:Rg.iG)(x:Rg.ql)(z:Prop):=bn (bq (Rg.gO y.l))/\aI (jR (ah x.l) x.cap (ay x.h) 1 (aa Rg.encI x.l) z)
def _root_.JU(v:Int)(x:Rg.ql)(y z:Nat)(w:Int)(u:List (Int×Int))(s:Rg.iG)(t:Prop):=mM v (Rg.qu x.h (Rg.dA x y z)) w (mM (Rg.nc u).fst (Rg.nc (Rg.dA x y z)) (Rg.nc u).snd (jC y (ah x.l) (EY s x t)))
def _root_.OJ(v:Int)(x:Rg.ql)(y z:Nat)(w:Int)(u:Int×Int)(s:Rg.iG):Unit->Prop:=az (mM v (Rg.nc (Rg.dA x y (z+1))) w (ay (Rg.l6 u.fst u.snd)/\bn (aK (af z) 8)/\mJ (af z) (Rg.qu x.h (Rg.dA x y z)).fst (Rg.qu x.h (Rg.dA x y z)).snd (bn (bM y (ah x.l))) (aP y (EY s x (True/\True)))))
def _root_.y8(x:Rg.ql)(y:Nat):Int×Int:=Rg.qu x.h (Rg.cQ (List.take y x.l))
def _root_.OK(y:Nat)(x:Rg.ql)(z:Nat)(v:Rg.iG):=bH y fun u=>JU (Rg.qu x.h (Rg.dA x z y)).fst x z u (Rg.qu x.h (Rg.dA x z y)).snd (Rg.dA x z (y+1)) v (bS u 8 y)
theorem OL:fnBody (Y Tryz.prog) Sz 27 JT fun a=>[(27,[abL a],[])]:=fnBody.of (p :=
 ∀x:Rg.ql,ah x.l<100000->rA x.l x.cap fun v=>aB (aD (bq (Rg.gO v.l)) (bz ((0:Int)=Rg.iH x.l x.h)) (cm (fun y=>mM 0 (y8 x y) 0 (mM 0 (Rg.nc (Rg.cQ (List.take y x.l))) 0 (EY v x (y<=ah x.l/\True)))) fun y=>y<=ah x.l->aD (bM y (ah x.l)) (cm (fun z=>JU (Prod.fst (y8 x y)) x y z (Prod.snd (y8 x y)) (Rg.cQ (List.take y x.l)) v (z<=8/\True)) fun z=>z<=8->aX (af z) 8 (sN (af y) x.l (ax y) (∃u:Int×Int,mM (gl x.l (0+ax y)) u (af z) (y7 u/\aB (Wb (Rg.nc (Rg.dA x y z)) y x (Exists (OJ (Rg.l6 u.fst u.snd) x y z (gl x.l (0+ax y)) u v)) u (Exists (OJ (Rg.nc (Rg.dA x y z)).fst x y z (Rg.nc (Rg.dA x y z)).snd u v))/\aB (aD (cn x.h (Rg.l6 u.fst u.snd)) (Wb (Rg.qu x.h (Rg.dA x y z)) y x (bH z fun w=>JU (Rg.l6 u.fst u.snd) x y w (gl x.l (0+ax y)) (Rg.dA x y (z+1)) v (bS w 8 z)) u (OK z x y v)) (OK z x y v)))))) (bH y fun u=>mM (Rg.qu x.h (Rg.dA x y z)).fst (y8 x u) (Rg.qu x.h (Rg.dA x y z)).snd (mM (Rg.nc (Rg.dA x y z)).fst (Rg.nc (Rg.cQ (List.take u x.l))) (Rg.nc (Rg.dA x y z)).snd (EY v x (bS u (ah x.l) y))))) (x6 (Prod.snd (y8 x y) == (0:Int)) ((Rg.nc (Rg.cQ (List.take y x.l))).snd=Rg.iH x.l x.h) True True (Prod.snd (y8 x y)=Rg.iH x.l x.h))))) (by kernel_rfl) (by
 delta aD mJ eF ah ai bF aG ay ax bn dm aK aY af eo bf aC aR dV x6 Wb dQ fR aB bz jR bS aP bH JU aI mI bh cn bM aT az EY sN ag rA aX mM cU bq aQ OJ jC y8 y7 bt OK cm
 try dsimp -iota -proj only
 rintro⟨l,cap,h⟩ hl;dsimp only at hl ⊢;refine⟨⟨l,cap⟩,?_⟩
 (and_intros<;>first|exact rO|skip)
 dsimp only;simp only[Nat.zero_add,Int.toNat_natCast,bR];refine fun _ _=>⟨fun c0=>⟨(),?_,trivial,trivial⟩,fun c0=>⟨⟨0,?_⟩,fun i hi=>⟨fun c1=>⟨⟨0,?_⟩,fun k hk=>⟨fun c2=>?_,fun c2=>?_⟩⟩,fun c1=>?_⟩⟩⟩
 ·have:¬gO l=true:=by simpa using c0
  exact(if_neg this).symm
 ·have e0:cQ (l.take 0)=[]:=rfl;rw[e0]
  (and_intros<;>first|exact rO|skip)
 ·have e0:dA ⟨l,cap,h⟩ i 0=cQ (l.take i):=List.append_nil _;rw[e0]
  (and_intros<;>first|exact rO|skip)
 ·have hm:gO l=true:=by simpa using c0
  simp only[decide_eq_true_eq]at c1 c2;have hi':i<l.length:=by omega
  have hb:=xE hm hi';have es:dA ⟨l,cap,h⟩ i (k+1)=dA ⟨l,cap,h⟩ i k++[(l6 (gl l i) k,gl l i)]:=by
   unfold dA;rw[GR,List.append_assoc]
  have eA:=Bv (dA ⟨l,cap,h⟩ i k) (l6 (gl l i) k,gl l i);have eB:=Sy h (dA ⟨l,cap,h⟩ i k) (l6 (gl l i) k,gl l i);rw[<- es]at eA eB;generalize nc (dA ⟨l,cap,h⟩ i k)=A at *;generalize qu h (dA ⟨l,cap,h⟩ i k)=B at *;obtain⟨a1,a2⟩:=A;obtain⟨b1,b2⟩:=B;dsimp only[va]at eA eB;generalize hA':nc (dA ⟨l,cap,h⟩ i (k+1))=A' at *;generalize hB':qu h (dA ⟨l,cap,h⟩ i (k+1))=B' at *
  (repeat' (first|intro _|apply And.intro|apply Exists.intro (k+1:Nat)|apply Exists.intro ()|apply Exists.intro (gl l i,(k:Int))))
  all_goals(try with_reducible rfl)
  all_goals(try exact trivial)
  all_goals(try omega)
  all_goals(try(dsimp only;omega))
  all_goals(try exact ak.refl _ _ _)
  all_goals(try rw[hB'])
  all_goals(try rw[hA'])
  all_goals(clear hB' hA' es hb hm)
  all_goals grind
 ·simp only[decide_eq_true_eq,decide_eq_false_iff_not]at c1 c2;have hk':k=8:=by omega
  subst hk';have e8:dA ⟨l,cap,h⟩ i 8=cQ (l.take (i+1)):=(B8 (l:=l) (show i<l.length by omega)).symm;refine⟨by omega,i+1,?_⟩;rw[e8]
  (and_intros<;>first|exact rO|skip)
 ·have hm:gO l=true:=by simpa using c0
  simp only[decide_eq_false_iff_not]at c1;have hi':i=l.length:=by omega
  subst hi';rw[List.take_length];have er:iH l h=if(qu h (cQ l)).2=0 then(nc (cQ l)).2 else(qu h (cQ l)).2:=if_pos hm;rw[er];refine⟨fun c2=>⟨(),?_,trivial,trivial⟩,fun c2=>⟨(),?_,trivial,trivial⟩⟩
  ·rw[if_pos (by simpa using c2)]
  ·rw[if_neg (by simpa using c2)])
theorem OM:au (Y Tryz.prog).G.X 27 JT:=aU fF OL ⟨Sm,Oz,trivial⟩
end Go.Proofs.YtfjgoonelcaggaaGreat.Rg
namespace Go.Proofs.YtfjgoonelcaggaaGreat
open Go.Sx
structure InA where
 g:Int
 n:Nat
 cap:Nat
 rows:Nat->Nat->Value
noncomputable def cIn:cG where
 α:=InA
 β:=Unit
 m:=1
 m':=1
 pre:=fun a=>a.n<=1000/\∀i,i<a.n->0<=jW (a.rows i 0)/\jW (a.rows i 0)<=a.g
 args:=fun a=>[.a (.int .i64 a.g),.a (.slc 0 0 1 a.n a.cap)]
 hp:=fun _=>[]
 ro:=fun a=>[(0,.arr 2 [.int .i64] a.n a.rows)]
 post:=fun _ _=>True
 res:=fun _ _=>.a .tt
 cR:=fun _ _=>[]
def iIn(a:InA):An:=.flat 2 Nat (fun s i=>s.int 9 i) (fun _ i=>i<=a.n) (fun _ i=>a.n-i)
theorem aa6:fnBody (Y Tryz.prog) [] 95 cIn fun a=>[(95,[iIn a],[])]:=fnBody.of (p :=
 ∀x:InA,(x.n<=1000/\∀z:Nat,z<x.n->eo (jW (x.rows z 0)) x.g)->cm (fun y=>fe x.n x.cap (bI (ay x.g/\bh x.n x.cap/\eF x.n 1 x.rows/\y<=x.n/\True))) fun y=>gm y x.n (Bi (jW (x.rows (0+ax y) 0)) 0 (bz (aC false)) x.g (bH y fun u=>fe x.n x.cap (bI (ay x.g/\bh x.n x.cap/\eF x.n 1 x.rows/\bS u x.n y)))) (bz (bn true))) (by kernel_rfl) (by
 delta aD eF ai bF aG ay ax bn dm aK aY af eo bf aC aR dV fR jD bz fe bI bS aP bH bh bM aT az ag Bi aQ gm dh bt cm
 try dsimp -iota -proj only
 rintro⟨g,n,cap,rows⟩ ⟨h1,h2⟩;dsimp only at h1 h2 ⊢;simp only[Nat.zero_add,Int.toNat_natCast,bR];refine⟨⟨0,?_⟩,fun i hi=>⟨fun c1=>?_,fun _=>⟨(),trivial,trivial,trivial⟩⟩⟩
 ·(and_intros<;>first|exact rO|skip)
 ·simp only[decide_eq_true_eq]at c1;have hi:i<n:=by omega
  obtain⟨g1,g2⟩:=h2 i hi;refine⟨by omega,hi,fun _=>⟨fun g=>(by exfalso;simp only[decide_eq_true_eq]at g;omega),fun _=>⟨fun g=>(by exfalso;simp only[decide_eq_true_eq]at g;omega),fun _=>⟨by omega,i+1,?_⟩⟩⟩⟩
  (and_intros<;>first|exact rO|skip))
theorem aa7:au (Y Tryz.prog).G.X 95 cIn:=aU fF aa6 trivial
def ab7(m:pg)(mem:A):List A:=[.int .i64 m.kind,.int .i64 m.fZ,.int .i64 m.to,.int .i64 m.aZ,.int .i64 m.tick,.int .i64 m.seq,.int .i64 m.n,.int .i64 m.id,.int .i64 m.op,.str m.key,.int .i64 m.err,.bool m.last,.str m.item.key,.str m.item.val,.int .i64 m.item.e,.bool m.item.gone,.cc,.cc,mem,.int .i64 m.base,.cc]
def GS(n:Int):Prop:=0<=n/\n<=1099511627776
structure B9(m:pg):Prop where
 kind:1<=m.kind/\m.kind<=14
 ft:m.fZ≠m.to
 fZ:0<=m.fZ/\m.fZ<=5
 to:0<=m.to/\m.to<=5
 aZ:GS m.aZ
 tick:GS m.tick
 seq:GS m.seq
 id:GS m.id
 base:GS m.base
 n:0<=m.n/\m.n<=1073741824
 op:0<=m.op/\m.op<=2
 err:0<=m.err/\m.err<=10
 item:m.item=dx\/gh m.item=true
structure z7 where
 m:pg
 l:List Int
 cap:Nat
noncomputable def Ql:cG where
 α:=z7
 β:=Unit
 m:=1
 m':=1
 pre:=fun a=>B9 a.m/\(a.l=[]\/Rg.gO a.l=true)
 args:=fun a=>[.agg (ab7 a.m (.slc 0 0 1 a.l.length a.cap))]
 hp:=fun _=>[]
 ro:=fun a=>[(0,.arr 3 [.int .i64] a.l.length (aa Rg.encI a.l))]
 post:=fun _ _=>True
 res:=fun a _=>.a (.bool (decide (a.m.key.size<=40)))
 cR:=fun _ _=>[]
def Bw(u v:Int)(y:Nat)(w:Int)(s:List Value)(t:Prop):=ai u->∃x:InA,v=x.g/\gJ y x.n y x.cap 1 (aF 1 (bT w s)) x.rows ((x.n<=1000/\∀z:Nat,z<x.n->eo (jW (x.rows z 0)) x.g)/\aB t)
def p9(x:z7):Bool:=decide (bp x.m.key<=40)
def ON(x:z7):=aD (af (ah x.l) == (0:Int)) (bz (true=p9 x)) (rA x.l x.cap fun y=>aB (aD (Rg.gO y.l) (bz (true=p9 x)) (Exists (dZ (p9 x)))))
def Bx(x:z7):=B9 x.m/\(x.l=[]\/aC (Rg.gO x.l))
theorem Wc:fnBody (Y Tryz.prog) [(95,cIn),(96,yq),(56,Rg.yq)] 55 Ql fun _=>[]:=fnBody.of (p :=
 ∀x:z7,Bx x->ai x.m.kind->aX x.m.kind 1 (Exists (dZ (p9 x))) (ai x.m.kind->Bh (aK 14 x.m.kind) (Exists (dZ (p9 x))) x.m.fZ x.m.to (x.m.fZ == x.m.to) (ai x.m.fZ->Bw x.m.to 5 2 x.m.fZ (gp x.m.to) (ai x.m.aZ->ai x.m.tick->ai x.m.seq->ai x.m.id->Bw x.m.base 1099511627776 5 x.m.aZ (bT x.m.tick (bT x.m.seq (bT x.m.id (gp x.m.base)))) (Bw x.m.n 1073741824 1 x.m.n [] (Bw x.m.op 2 1 x.m.op [] (aX 40 (af (bp x.m.key)) (Exists (dZ (p9 x))) (Bw x.m.err 10 1 x.m.err [] (aD (gn x.m.item.key cA&&(gn x.m.item.val cA&&(x.m.item.e == (0:Int)&&(x.m.item.gone == false&&true)))) (ON x) (∃y:aH,nY x.m.item y True (aB (aD (gh y) (ON x) (Exists (dZ (p9 x))))))))))))))) (by kernel_rfl) (by
 delta aD ah ai aG bT aK cA af eo nY aC dW fV bw dQ bp aB bz mI Bw dZ Bh gJ az p9 ag pJ rA aX cU gn ON gp bt Bx
 try dsimp -iota -proj only
 rintro⟨m,l,cap⟩ ⟨ok,hl⟩;obtain⟨⟨q0,q1⟩,ft,⟨f0,f1⟩,⟨t0,t1⟩,⟨e0,e1⟩,⟨i0,i1⟩,⟨s0,s1⟩,⟨d0,d1⟩,⟨b0,b1⟩,⟨n0,n1⟩,⟨p0,p1⟩,⟨r0,r1⟩,hit⟩:=ok;dsimp only at *;simp only[bR,decide_eq_true_eq,decide_eq_false_iff_not,beq_iff_eq];refine fun _=>⟨fun c=>absurd c (by omega),fun _ _=>⟨fun c=>absurd c (by omega),fun _ _ _=>⟨fun c=>absurd c ft,fun _ _ _=>⟨⟨5,2,2,aF 1 [.int .i64 m.fZ,.int .i64 m.to]⟩,?_⟩⟩⟩⟩
 (and_intros<;>first|exact rO|skip)
 ·intro i hi
  match i,(show i<2 from hi)with
  |0,_=>exact⟨f0,f1⟩
  |1,_=>exact⟨t0,t1⟩
 refine fun _ _ _ _ _ _ _=>⟨⟨1099511627776,5,5,aF 1 [.int .i64 m.aZ,.int .i64 m.tick,.int .i64 m.seq,.int .i64 m.id,.int .i64 m.base]⟩,?_⟩
 (and_intros<;>first|exact rO|skip)
 ·intro i hi
  match i,(show i<5 from hi)with
  |0,_=>exact⟨e0,e1⟩
  |1,_=>exact⟨i0,i1⟩
  |2,_=>exact⟨s0,s1⟩
  |3,_=>exact⟨d0,d1⟩
  |4,_=>exact⟨b0,b1⟩
 refine fun _ _ _=>⟨⟨1073741824,1,1,aF 1 [.int .i64 m.n]⟩,?_⟩
 (and_intros<;>first|exact rO|skip)
 ·intro i hi
  match i,(show i<1 from hi)with
  |0,_=>exact⟨n0,n1⟩
 refine fun _ _ _=>⟨⟨2,1,1,aF 1 [.int .i64 m.op]⟩,?_⟩
 (and_intros<;>first|exact rO|skip)
 ·intro i hi
  match i,(show i<1 from hi)with
  |0,_=>exact⟨p0,p1⟩
 refine fun _ _=>⟨fun c=>⟨(),(decide_eq_false (by omega)).symm,trivial,trivial⟩,fun c _=>⟨⟨10,1,1,aF 1 [.int .i64 m.err]⟩,?_⟩⟩
 have hy:true=decide (m.key.size<=40):=(decide_eq_true (by omega)).symm
 (and_intros<;>first|exact rO|skip)
 ·intro i hi
  match i,(show i<1 from hi)with
  |0,_=>exact⟨r0,r1⟩
 have hl1:l.length<100000:=by
  rcases hl with rfl|h
  ·decide
  ·have:=Rg.ET h;omega
 have hl2:¬(l.length:Int)=0->Rg.gO l=true:=fun h=>hl.resolve_left fun e=>h (by rw[e];rfl);refine fun _ _=>⟨fun _=>⟨fun _=>⟨(),hy,trivial,trivial⟩,fun e=>?_⟩,fun c=>⟨m.item,?_⟩⟩
 ·refine⟨⟨l,cap⟩,?_⟩
  (and_intros<;>first|exact rO|skip)
  exact fun _ _=>⟨fun _=>⟨(),hy,trivial,trivial⟩,fun g=>absurd (hl2 (by simpa using e)) (by simp[g])⟩
 ·have hne:m.item≠dx:=fun e=>by rw[e]at c;revert c;decide
  have hmay:=hit.resolve_left hne
  (and_intros<;>first|exact rO|skip)
  refine fun _ _=>⟨fun _=>⟨fun _=>⟨(),hy,trivial,trivial⟩,fun e=>?_⟩,fun g=>absurd hmay (by simp[g])⟩
  refine⟨⟨l,cap⟩,?_⟩
  (and_intros<;>first|exact rO|skip)
  exact fun _ _=>⟨fun _=>⟨(),hy,trivial,trivial⟩,fun g=>absurd (hl2 (by simpa using e)) (by simp[g])⟩)
theorem L5:au (Y Tryz.prog).G.X 55 Ql:=aU fF Wc ⟨aa7,rR,Rg.rR,trivial⟩
def ab8(w:lF):List A:=[.int .i64 w.node,.int .i64 w.id,.int .i64 w.op,.str w.key]
structure mW where
 n:cW
 p:gZ
 w:lF
 err:Int
 val:ByteArray
 has:Bool
def wN(w:lF)(err:Int)(val:ByteArray)(has:Bool):aH:=if w.op=1/\err=0 then⟨w.key,val,0,!has⟩else dx
def y9(id:Int)(w:lF)(err:Int)(val:ByteArray)(has:Bool):List pg:=if w.node=0 then[]else[⟨14,id,w.node,0,0,0,0,w.id,0,p6,err,false,wN w err val has,0⟩]
def zb(w:lF)(err:Int)(val:ByteArray)(has:Bool):List tA:=if w.node=0 then[⟨w.id,w.op,w.key,err,val,has⟩]else[]
noncomputable def L6:cG where
 α:=mW
 β:=Nat×Nat
 m:=10
 m':=12
 pre:=fun a=>a.w.key.size<=aq/\a.val.size<=aq
 args:=fun a=>[.a (.ptr 0 0 0 0),.agg (ab8 a.w),.a (.int .i64 a.err),.a (.str a.val),.a (.bool a.has)]
 hp:=fun a=>[(0,Cr (.ptr 9 0 0 0) 7 1 3 5 6 a.n a.p)]
 ro:=fun _=>[]
 post:=fun _ _=>True
 res:=fun _ _=>.ng []
 cR:=fun a b=>[(0,Ou (.ptr 9 0 0 0) (.slc 10 0 21 (y9 a.n.id a.w a.err a.val a.has).length b.1) (.slc 11 0 6 (zb a.w a.err a.val a.has).length b.2) 7 1 3 5 6 a.n a.p),B6 10 (y9 a.n.id a.w a.err a.val a.has),LW 11 (zb a.w a.err a.val a.has)]
def je(a:mW):pg:=⟨14,0,a.w.node,0,0,0,0,a.w.id,0,p6,a.err,false,wN a.w a.err a.val a.has,0⟩
def ab9(m:pg):List A:=ab7 m .cc
def aa8(a:mW):An:=.mk 6 Unit (fun s _=>s.at_ (s.tg 10) (.obj 45 (ab9 (je a)))) (fun _ _=>True) (fun _ _=>0) fun _=>.mk 60 [] []
def oF(x:lF)(y:Prop):=mJ x.node x.id x.op (fm x.key) y
def cZ(x:List tA):Nat:=x.length
def By(y:Int)(x:pg)(z u v w s:Int)(t:ByteArray)(f:Int)(g:Prop):=y=x.kind/\z=x.fZ/\u=x.to/\v=x.aZ/\w=x.tick/\(0:Int)=x.seq/\(0:Int)=x.n/\s=x.id/\(0:Int)=x.op/\t=x.key/\f=x.err/\g
def OO(x:mW)(y z:ByteArray)(u:Prop):=Exists (az (ag (bn (x.w.node == (0:Int))/\aA (oF x.w (ay x.err/\fm x.val/\bn x.has/\By 14 (je x) 0 x.w.node 0 0 x.w.id cA x.err (fV (je x).last (y=(je x).item.key) (z=(je x).item.val/\(0:Int)=(je x).item.e/\u)))))))
def nO(x:mW):List pg:=y9 x.n.id x.w x.err x.val x.has
def nP(x:mW):List tA:=zb x.w x.err x.val x.has
def wO(x:mW):=bp x.w.key<=aq/\bp x.val<=aq
def Bz(x:lF)(y:Int)(z:List Value):List Value:=bT x.id (bT x.op (dI x.key y z))
theorem Wd:fnBody (Y Tryz.prog) [(51,LY (.ptr 9 0 0 0))] 54 L6 fun a=>[(54,[],[aa8 a])]:=fnBody.of (p :=
 ∀x:mW,wO x->ai x.w.node->aD (x.w.node == (0:Int)) (ai x.w.id->ai x.w.op->1<=1/\64<=140737488355328/\∀y:Nat,1<=y->y<=aq->∃z:Nat×Nat,eW x.n x.n x.p x.p (0=bk (nO x)/\0=z.fst) (eH 1 (cZ (nP x)) y z.snd (bk (nO x)=0) 6 (jF 6 (Bz x.w x.err (bw (bJ x.val) (bP (ew x.has))))) (aa jT (nP x)) (True/\True))) (ai x.w.node->ai x.w.id->(ai x.w.op->qp (x.w.op == (1:Int)) (x.err == (0:Int)) (OO x x.w.key x.val (bq x.has=(je x).item.gone/\(0:Int)=(je x).base/\oF x.w (eW x.n x.n x.p x.p True True))) (OO x cA cA (fV (je x).item.gone ((0:Int)=(je x).base) (oF x.w (eW x.n x.n x.p x.p True True)))))/\aB (Exists (wK fun y=>eW x.n y.n x.p y.p (0=bk y.q/\0=y.qc) (bk y.q=0/\aG (bk y.l) 1 21 (aF 21 (GO (je x) (je x).fZ)) (aa cC y.l)/\y5 y fun v=>∃u:Nat×Nat,eW y.n x.n y.p x.p (sL y (nO x) v u.fst) ((0=cZ (nP x)/\0=u.snd)/\jU (nO x) (y.to (bk y.l))/\bt (cZ (nP x)=0))))))) (by kernel_rfl) (by
 delta qp aD mJ uH zD ai bF aG ay bT bn ki cA bX bk bP dG gA aC uX dW cH fV bw bp aB GO eH jU eW bJ oF gW cZ OO az fS nO ag By nP lG aA bq dI y5 sL jF sr fm wK wO bt ew Bz
 try dsimp -iota -proj only
 rintro⟨n,p,w,err,val,has⟩ ⟨h1,h2⟩ _;dsimp only at *;refine⟨fun c=>?_,fun c _ _=>⟨fun _=>⟨fun d=>⟨fun e=>⟨(),?_⟩,fun e=>⟨(),?_⟩⟩,fun d=>⟨(),?_⟩⟩,fun _ _=>?_⟩⟩
 ·have hw:w.node=0:=by simpa using c
  have e1:y9 n.id w err val has=[]:=if_pos hw;have e2:zb w err val has=[⟨w.id,w.op,w.key,err,val,has⟩]:=if_pos hw;rw[e1,e2];have hr:ak 1 6 (fun i j=>aF 6 (jT ⟨w.id,w.op,w.key,err,val,has⟩) (0+i) j) (aa jT [⟨w.id,w.op,w.key,err,val,has⟩]):=.dB fun i hi=>by
   have:i=0:=by omega
   subst this;rfl
  refine fun _ _=>⟨by omega,by omega,fun cap _ _=>⟨(0,cap),?_⟩⟩
  and_intros<;>first|exact bY|exact hr|(intro h_;revert h_)|exact bZ|skip
 ·have e1:wN w err val has=⟨w.key,val,0,!has⟩:=if_pos ⟨by simpa using d,by simpa using e⟩;simp only[je,e1]
  and_intros<;>first|exact bY|(intro h_;revert h_)|exact bZ|skip
 ·have e1:wN w err val has=dx:=if_neg fun h=>by rw[h.2]at e;cases e
  simp only[je,e1]
  and_intros<;>first|exact bY|(intro h_;revert h_)|exact bZ|skip
 ·have e1:wN w err val has=dx:=if_neg fun h=>by rw[h.1]at d;cases d
  simp only[je,e1]
  and_intros<;>first|exact bY|(intro h_;revert h_)|exact bZ|skip
 ·have hw:¬w.node=0:=by simpa using c
  have e1:y9 n.id w err val has=[{ je ⟨n,p,w,err,val,has⟩with fZ:=n.id }]:=if_neg hw;have e2:zb w err val has=[]:=if_neg hw;rw[e1,e2];generalize je ⟨n,p,w,err,val,has⟩=m;have hr:ak 1 21 (aF 21 (cC m)) (aa cC [m]):=.dB fun i hi=>by
   have:i=0:=by omega
   subst this;rfl
  have k0:(0:Nat)<1000:=by omega
  have k1:(1:Nat)<1000:=by omega
  refine⟨lR.mk n p [] 0 [m] 1,?_⟩
  and_intros<;>first|exact bY|exact hr|exact k1|exact k0|(intro h_;revert h_)|exact bZ|skip
  intro b _;refine⟨(b,0),?_⟩
  and_intros<;>first|exact bY|(intro h_;revert h_)|exact bZ|skip)
theorem EZ:au (Y Tryz.prog).G.X 54 L6:=aU fF Wd ⟨EO,trivial⟩
def We(a b c:Nat)(r:Rg.ga):List (Nat×Chunk):=[(a,.obj 161 [.int .i64 r.e,.slc b 0 1 r.l.length r.c1,.slc c 0 2 r.L.length r.c2]),(b,.arr 3 [.int .i64] r.l.length (aa Rg.encI r.l)),(c,.arr 208 Rg.JM r.L.length (aa Rg.jJ r.L))]
def xJ(r:Rg.ga)(k:ByteArray):Int:=Rg.sO r.L (Rg.eu (fun _=>k) 1)
def GU(le:sJ)(now ep:Int):Bool:=decide (0<ep)&&(decide (ep=le.aZ)&&decide (now<le.end_))
def gH(n:cW)(r:Rg.ga)(k:ByteArray):Bool:=decide (xJ r k=n.id)&&GU n.le n.now n.s.k.m.aZ
structure z8 where
 n:cW
 p:gZ
 r:Rg.ga
 key:ByteArray
noncomputable def L7:cG where
 α:=z8
 β:=Unit
 m:=17
 m':=17
 pre:=fun a=>a.r.L.length<100000/\0<a.r.L.length/\a.key.size<=aq/\a.n.s.k.m.frozen=false
 args:=fun a=>[.a (.ptr 0 0 0 0),.a (.str a.key)]
 hp:=fun _=>[]
 ro:=fun a=>[(0,Cr (.ptr 14 0 0 0) 7 1 3 5 6 a.n a.p),(1,Yn 2 a.n.le),(2,VV a.n.now),(7,stO 8 9 10 a.n.s.bN),(10,.obj 155 (.ptr 11 0 0 0::B0 a.n.s.k.m))]++We 14 15 16 a.r
 post:=fun _ _=>True
 res:=fun a _=>.a (.bool (gH a.n a.r a.key))
 cR:=fun _ _=>[]
theorem Wg:fnBody (Y Tryz.prog) [(44,Rg.Yq)] 19 L7 fun _=>[]:=fnBody.of (p :=
 ∀x:z8,sQ x.r (bp x.key<=aq/\x.n.s.k.m.frozen=false)->ai x.n.id->∃y:Rg.OG,ag (x.key=y.key/\p8 x.r y.r (sQ y.r (bp y.key<=aq)) (aB (aD (sP y != x.n.id) (Exists (dZ (gH x.n x.r x.key))) (u9 (aK 0 x.n.s.k.m.aZ) x.n.le.aZ (x.n.s.k.m.aZ == x.n.le.aZ) (ai x.n.le.end_->ai x.n.now->aD (bq (aK x.n.now x.n.le.end_)) (Exists (dZ (gH x.n x.r x.key))) (aD (bq x.n.s.k.m.frozen) (bz (true=gH x.n x.r x.key)) False)) (Exists (dZ (gH x.n x.r x.key)))))))) (by kernel_rfl) (by
 delta aD ah ai aG aK aC fV wM dQ u9 bp aB bz eH dZ az ag p8 sP sQ cU bq bt
 try dsimp -iota -proj only
 rintro⟨n,p,r,key⟩ ⟨h1,h2,h3,h4⟩ _;dsimp only at *;refine⟨Rg.OG.mk r key,?_⟩
 and_intros<;>first|exact bY|exact h1|exact h2|exact h3|(intro h_;revert h_)|exact bZ|skip
 intro _ _;dsimp only;have e0:Rg.sO r.L (Rg.eu (fun _=>key) 1)=xJ r key:=rfl;rw[e0];unfold gH GU;refine⟨fun c=>⟨(),?_,trivial,trivial⟩,fun c=>⟨fun c1 _=>⟨fun c2 _ _=>⟨fun c3=>⟨(),?_,trivial,trivial⟩,fun c3=>⟨fun _=>⟨(),?_,trivial,trivial⟩,fun c4=>by rw[h4]at c4;cases c4⟩⟩,fun c2=>⟨(),?_,trivial,trivial⟩⟩,fun c1=>⟨(),?_,trivial,trivial⟩⟩⟩
 ·have:¬xJ r key=n.id:=by simpa using c
  simp[this]
 ·have:decide (n.now<n.le.end_)=false:=by simpa using c3
  rw[this];simp
 ·have g1:xJ r key=n.id:=by simpa using c
  have g2:n.s.k.m.aZ=n.le.aZ:=by simpa using c2
  have g3:decide (n.now<n.le.end_)=true:=by simpa using c3
  rw[c1,g3];simp[g1,g2]
 ·have:¬n.s.k.m.aZ=n.le.aZ:=by simpa using c2
  simp[this]
 ·rw[c1];simp)
theorem E0:au (Y Tryz.prog).G.X 19 L7:=aU fF Wg ⟨Rg.EX,trivial⟩
structure GV where
 n:cW
 p:gZ
def iQ(l:List jq):List ByteArray:=l.map fun x=>x.w.key
noncomputable def Wh:cG where
 α:=GV
 β:=Nat
 m:=15
 m':=16
 pre:=fun a=>a.n.rs.length<1000
 args:=fun a=>[.a (.ptr 0 0 0 0)]
 hp:=fun _=>[]
 ro:=fun a=>[(0,Cr (.ptr 14 0 0 0) 7 1 3 5 6 a.n a.p),(6,.arr 134 EL a.n.rs.length (aa gG a.n.rs))]
 post:=fun _ _=>True
 res:=fun a c=>.a (.slc 15 0 1 (iQ a.n.rs).length c)
 cR:=fun a _=>[(15,.arr 9 [.str] (iQ a.n.rs).length (aa jZ (iQ a.n.rs)))]
def aba(a:GV):An:=.flat 5 (Nat×Nat) (fun s x=>((s.new (.arr 9 [.str] (iQ (a.n.rs.take x.1)).length (aa jZ (iQ (a.n.rs.take x.1))))).set 3 (.a (.slc s.nx 0 1 (iQ (a.n.rs.take x.1)).length x.2))).int 13 x.1) (fun _ x=>x.1<=a.n.rs.length) (fun _ x=>a.n.rs.length-x.1)
def qa(x:Nat×Nat)(y:GV):List ByteArray:=iQ (List.take x.fst y.n.rs)
def sR(x:List jq):=eF (dG x) 5 (aa gG x)
theorem Wi:fnBody (Y Tryz.prog) [] 17 Wh fun a=>[(17,[aba a],[])]:=fnBody.of (p :=
 ∀x:GV,dG x.n.rs<1000->(∃y:Nat×Nat,aT y.fst ((0=bl (qa y x)/\0=y.snd)/\fe (dG x.n.rs) x.p.rc (bI (ag (bl (qa y x)=0/\eW x.n x.n x.p x.p (sR x.n.rs) (y.fst<=dG x.n.rs/\True))))))/\∀y:Nat×Nat,gm y.fst (dG x.n.rs) (jE (bl (qa y x)) 16 y.snd fun u=>iS y fun z=>ag (bl (qa y x)+1=bl (qa z x)/\u=z.snd)/\fe (dG x.n.rs) x.p.rc (bI (ag (iA (bl (qa z x)) (bl (qa y x)) 1 (aa jZ (qa y x)) (bP (bJ (gl x.n.rs (0+ax y.fst)).w.key)) (aa jZ (qa z x))/\eW x.n x.n x.p x.p (sR x.n.rs) (bS z.fst (dG x.n.rs) y.fst))))) (∃u:Nat,gJ (bl (qa y x)) (bl (iQ x.n.rs)) y.snd u 1 (aa jZ (qa y x)) (aa jZ (iQ x.n.rs)) (True/\True))) (by kernel_rfl) (by
 delta aD uH eF ai bF aG ay ax bn gC dm ki aK aY af bX bl bP dG bf gA aC aR cH bw dV jD fe jE bI iA eW bS aP bJ bh iS gJ bM aT fS ag qa lG aA aQ gm dh sR jF
 try dsimp -iota -proj only
 rintro⟨n,p⟩ h;have h:n.rs.length<1000:=h;have hl:∀i,(iQ (List.take i n.rs)).length=min i n.rs.length:=fun i=>by simp[iQ]
 refine⟨⟨(0,0),?_⟩,fun⟨i,c⟩ hi=>⟨fun c1=>?_,fun c1=>⟨c,?_⟩⟩⟩
 ·have e:iQ (List.take 0 n.rs)=[]:=rfl;dsimp only;rw[e]
  and_intros<;>first|exact bY|(intro h_;revert h_)|exact bZ|skip
 ·dsimp only at *;have hi:i<n.rs.length:=by have:=of_decide_eq_true c1;omega
  have hs:iQ (List.take (i+1) n.rs)=iQ (List.take i n.rs)++[(gl n.rs i).w.key]:=by
   unfold iQ;rw[fD hi,List.map_append];rfl
  have hz:0+(i:Int).toNat=i:=by omega
  have hli:=hl i;rw[hz];refine⟨by omega,hi,by omega,by omega,by omega,fun cap _ _ _=>⟨by simp only[bR];omega,(i+1,cap),?_⟩⟩;dsimp only;rw[hs];have hp:ak (iQ (List.take i n.rs)++[(gl n.rs i).w.key]).length 1 (bg (aa jZ (iQ (List.take i n.rs))) 0 (iQ (List.take i n.rs)).length fun i_1 j=>aF 1 (jZ (gl n.rs i).w.key) (0+i_1) j) (aa jZ (iQ (List.take i n.rs)++[(gl n.rs i).w.key])):=.push rfl (by simp) rfl
  and_intros<;>first|exact bY|exact hp|exact by simp|(intro h_;revert h_)|exact bZ|skip
 ·dsimp only at *;have hi:i=n.rs.length:=by have:=of_decide_eq_false c1;omega
  subst hi;rw[List.take_length]
  and_intros<;>first|exact bY|(intro h_;revert h_)|exact bZ|skip)
theorem Wj:au (Y Tryz.prog).G.X 17 Wh:=aU fF Wi trivial
structure tC where
 n:cW
 p:gZ
 r:Rg.ga
 w:lF
 g:Option aH
structure nV where
 p:gZ
 b:Nat
 mc:Nat
 rc:Nat
structure bO where
 n:cW
 ms:List pg
 rs:List tA
def uO(w:lF):Bool:=(!decide (w.op=1)&&!decide (w.op=2))||!dN w.key
def kN(n:cW)(w:lF)(err:Int)(val:ByteArray)(has:Bool):bO:=⟨n,y9 n.id w err val has,zb w err val has⟩
def E3(n:cW)(r:Rg.ga)(w:lF):dF:=⟨w,n.s.bN*1048576+(n.asked+1),xJ r w.key,n.now⟩
def uP(n:cW)(r:Rg.ga)(w:lF):pg:=⟨13,n.id,xJ r w.key,n.s.k.m.aZ,0,0,0,n.s.bN*1048576+(n.asked+1),w.op,w.key,0,false,dx,0⟩
def tD(n:cW)(k:ByteArray):cW:={ n with t:=iP n.t (hasB [k]),s:=kM n.s [k] }
def rB(n:cW)(r:Rg.ga)(w:lF):cW:={ n with asked:=n.asked+1,ws:=n.ws++[E3 n r w] }
def mX(n:cW)(w:lF)(b:Nat):cW:={ n with t:=rZ n.t w.key b,rs:=n.rs++[⟨w,n.t.last+1⟩] }
def lH(n:cW)(r:Rg.ga)(w:lF)(g:Option aH)(b:Nat):bO :=
 if uO w=true then kN n w 1 p6 false
 else if xJ r w.key≠n.id then⟨rB n r w,[uP n r w],[]⟩
 else if gH n r w.key=false then kN n w 6 p6 false
 else if w.op=2 then kN (tD n w.key) w 0 p6 false
 else match oZ g n.now with
  |some x=>kN n w 0 x.val true
  |none=>⟨mX n w b,[],[]⟩
def L8(rg ma ra:A)(nd st le tk mp wa rd ca cl dv ds ix it jr mk jl ke su tx pl:Nat)(n:cW)(p:gZ):List (Nat×Chunk) :=
 xz st ca cl dv ds ix it jr mk jl ke su tx pl n.s p.p++[(mp,xX p.mb n.t),(nd,Ou rg ma ra st le tk wa rd n p),(tk,FG p.mb n.t),(wa,.arr 125 rz n.ws.length (aa cB n.ws)),(rd,.arr 134 EL n.rs.length (aa gG n.rs))]
def aa9(le ck a b c:Nat)(n:cW)(r:Rg.ga):List (Nat×Chunk):=[(le,Yn ck n.le),(ck,VV n.now)]++We a b c r
structure wP(a:tC):Prop where
 at_:eM a.n a.p
 ring:a.r.L.length<100000/\0<a.r.L.length
 key:a.w.key.size<=aq
 free:a.n.s.k.m.frozen=false
 last:a.n.t.last<1099511627776
 room:a.n.ws.length<1000/\a.n.rs.length<1000/\a.n.t.l.length<1000
 asked:0<=a.n.asked/\a.n.asked<1000000/\0<=a.n.s.bN/\a.n.s.bN<1000000
 rd:RC a.n.s.fl
 iq:Ef a.n.s.fl a.w.key a.g
 kill:a.w.op=2->dN a.w.key=true->Bl ⟨a.n.s,a.p.p,[a.w.key],1⟩
noncomputable def aaa:cG where
 α:=tC
 β:=nV
 m:=24
 m':=31
 pre:=wP
 args:=fun a=>[.a (.ptr 0 0 0 0),.agg (ab8 a.w)]
 hp:=fun a=>L8 (.ptr 21 0 0 0) .cc .cc 0 7 1 3 4 5 6 8 9 10 11 12 13 14 15 16 17 18 19 20 a.n a.p
 ro:=fun a=>aa9 1 2 21 22 23 a.n a.r
 post:=fun a b=>eM (lH a.n a.r a.w a.g b.b).n b.p
 res:=fun _ _=>.ng []
 cR:=fun a b=>L8 (.ptr 21 0 0 0) (.slc 29 0 21 (lH a.n a.r a.w a.g b.b).ms.length b.mc) (.slc 30 0 6 (lH a.n a.r a.w a.g b.b).rs.length b.rc) 0 7 1 3 4 27 28 8 9 10 11 12 24 14 25 16 17 18 19 26 (lH a.n a.r a.w a.g b.b).n b.p++[B6 29 (lH a.n a.r a.w a.g b.b).ms,LW 30 (lH a.n a.r a.w a.g b.b).rs]
noncomputable def aab:List (Nat×cG):=[(44,Rg.Yq),(86,MW),(54,L6),(19,L7),(51,LY (.ptr 9 0 0 0)),(88,Oo),(137,Oh),(89,Vy),(136,U3)]
def abb(a:tC):An:=.mk 0 Bool (fun s b=>s.set 18 (.a (.bool b))) (fun _ b=>b=uO a.w) (fun _ _=>0) fun _=>.mk 60 [] []
def abc(a:tC):An:=.mk 2 Unit (fun s _=>((s.new (.obj 40 (DF ((oZ a.g a.n.now).getD dx)))).set 4 (.a (.ptr s.nx 0 0 0))).set 5 (.a (.bool (oZ a.g a.n.now).isSome))) (fun _ _=>True) (fun _ _=>0) fun _=>.mk 60 [] []
theorem SA{g:Option aH}{now:Int}{x:aH}(h:oZ g now=some x):g=some x:=by
 unfold oZ at h;cases g with
 |none=>cases h
 |some y =>
  simp only[Option.bind_some]at h;split at h
  ·exact h
  ·cases h
theorem Wk{m:oN}{k:ByteArray}{g:Option aH}{now:Int}{x:aH}(he:Ef m k g)(h:oZ g now=some x):x.val.size<=aq:=by
 rw[SA h]at he;obtain⟨_,_,_,hm⟩:=he;unfold gh at hm;simp only[Bool.and_eq_true,decide_eq_true_eq]at hm;exact Nat.le_trans hm.1.1.1.2 (by decide)
def aS(x:tC)(y:nV):bO:=lH x.n x.r x.w x.g y.b
def Ca(x y:cW)(z u:Prop):=fc (x.s.bN=y.s.bN) (zR x.s.k.m y.s.k.m z u)
def lI(x y:List dF):=aG (bX x) (bX y) 7 (aa cB y) (aa cB x)
def rC(x y:List tA):=aG (cZ x) (cZ y) 6 (aa jT y) (aa jT x)
def oG(x y:List jq):=aG (dG x) (dG y) 5 (aa gG y) (aa gG x)
def BA(y:lF)(x:mW)(z:Int)(u:ByteArray)(v:Bool)(s:Prop):=y.node=x.w.node/\y.id=x.w.id/\y.op=x.w.op/\y.key=x.w.key/\z=x.err/\u=x.val/\v=x.has/\s
def L9(y:tC)(h:Int)(i:ByteArray)(j:Bool)(u:vl)(v:Nat)(f:kP)(k:mu):=∃z:mW,ag (BA y.w z h i j (eW y.n z.n y.p z.p (wO z) (∀g:Nat×Nat,True->∃x:nV,u.H=x.p.p.H/\gF v f=gF x.p.mb (bO.n (aS y x)).t/\eW z.n (bO.n (aS y x)) z.p x.p (ag (bk (nO z)=bk (bO.ms (aS y x))/\g.fst=x.mc)) (ag (cZ (nP z)=cZ (bO.rs (aS y x))/\g.snd=x.rc)/\f.last=(bO.n (aS y x)).t.last/\nL v x.p.mb/\lI (bO.n (aS y x)).ws y.n.ws/\oG (bO.n (aS y x)).rs y.n.rs/\jU (bO.ms (aS y x)) (nO z)/\rC (bO.rs (aS y x)) (nP z)/\aA (ag (wA k (bO.n (aS y x)).s u x.p.p (eM (bO.n (aS y x)) x.p/\True)))))))
def mQ(x y:gZ)(z u:cW)(v:Prop):=x.p.H=y.p.H/\gF x.mb z.t=gF y.mb u.t/\v
def oH(x:List dF):=eF (bX x) 7 (aa cB x)
def oI(x y:cW)(z u:gZ)(v:Prop):=aA (ag (wA x.s y.s z.p u.p v))
def Qm(x:tC)(y:Prop):=oF x.w (mQ x.p x.p x.n x.n (eW x.n x.n x.p x.p (ay x.n.t.last) (lE x.p.mb (oH x.n.ws) (sR x.n.rs/\sK x.n x.n.now (ay x.r.e/\uN x.r (oI x.n x.n x.p x.p y))))))
def JV(y:tC):Eg->Prop:=fun(z:Eg)=>ag (y.w.key=z.key/\y.n.now=z.now/\oW y.n.s.cL z.m y.p.p.cy z.p y.n.s.d y.p.p.x y.p.p.xc (y.p.p.H=z.p.H) (yR z.m z.p z.key z.r/\aB (Exists (az ((oZ z.r z.now).isSome=(oZ y.g y.n.now).isSome/\aA (ag (oF y.w (pJ (l5 (oZ z.r z.now)) (l5 (oZ y.g y.n.now)) (Qm y (oF y.w (True/\True)))))))))))
def BB(z:cW)(x:z8)(y:Rg.ga)(u:Prop):=aA (Ca z x.n (y.e=x.r.e) (wM y.l x.r y.c1 y.L y.c2 (sQ x.r (bp x.key<=aq/\x.n.s.k.m.frozen=false)/\aB u)))
def rD(x y:sJ)(z:Prop):=x.aZ=y.aZ/\x.end_=y.end_/\x.top=y.top/\z
def zc(x:cW)(y:kP)(z:gZ)(u:Nat)(v w:PH)(s f:Prop):=x.t.last=y.last/\nL z.mb u/\gF z.mb x.t=gF u y/\v=w/\s/\f
def OP(y:tC)(x:nV)(z:kP)(u:Nat)(v w s:Prop):=(0=cZ (bO.rs (aS y x))/\0=x.rc)/\z.last=(bO.n (aS y x)).t.last/\nL u x.p.mb/\v/\w/\s/\cZ (bO.rs (aS y x))=0/\oI y.n (bO.n (aS y x)) y.p x.p (eM (bO.n (aS y x)) x.p/\True)
theorem Ys:fnBody (Y Tryz.prog) aab 48 aaa fun a=>[(48,[],[abb a]),(90,[],[abc a])]:=fnBody.of (p :=
 ∀x:tC,wP x->∃f:Rg.OG,ag (x.w.key=f.key/\p8 x.r f.r (sQ f.r (bp f.key<=aq)) (aB ((ai x.w.op->u9 (x.w.op != (1:Int)) x.w.op (x.w.op != (2:Int)) (∃j:Bool,true=j/\ay (sP f)/\aA (oF x.w (Qm x (j=uO x.w/\True)))) (∃j:ByteArray,x.w.key=j/\ee (∃k:Bool,bq (dN j)=k/\ay (sP f)/\aA (oF x.w (Qm x (k=uO x.w/\True))))))/\∀m:Bool,m=uO x.w->aD m (L9 x 1 cA false x.p.p x.p.mb x.n.t x.n.s) (ai x.n.id->aD (sP f != x.n.id) (jQ x.n.asked 1 (ai (x.n.asked+(1:Int))->ai x.n.s.bN->pN (x.n.s.bN*(1048576:Int)) (x.n.asked+(1:Int)) (ai x.n.now->jE (bX x.n.ws) 64 x.p.wc fun h=>ai x.w.op->Exists (wK fun z=>aA (x.n.id=z.n.id/\aA (lG (ag (bX x.n.ws+1=bX z.n.ws/\h=z.p.wc)) x.n z.n x.p z.p (x.n.asked+(1:Int)) ((0=bk z.q/\0=z.qc)/\EP z 13 (sP f) x.n 0 0 (x.n.s.bN*(1048576:Int)+(x.n.asked+(1:Int))) x.w.op x.w.key fun u=>∃v:nV,mQ x.p v.p x.n (bO.n (aS x v)) (eW z.n (bO.n (aS x v)) z.p v.p (sL z (bO.ms (aS x v)) u v.mc) (OP x v x.n.t x.p.mb (iA (bX (bO.n (aS x v)).ws) (bX x.n.ws) 7 (aa cB x.n.ws) (zD .i64 x.w.node x.w.id x.w.op (bJ x.w.key) (x.n.s.bN*(1048576:Int)+(x.n.asked+(1:Int))) (sP f) x.n.now []) (aa cB (bO.n (aS x v)).ws)) (oG (bO.n (aS x v)).rs x.n.rs) (jU (bO.ms (aS x v)) (z.to (bk z.l)))))))))))) (∃i:z8,ag (x.w.key=i.key /\
 eW x.n i.n x.p i.p (0=0) (rD x.n.le i.n.le (x.n.now=i.n.now/\BB x.n i x.r (aD (bq (gH i.n i.r i.key)) (L9 x 6 cA false x.p.p x.p.mb x.n.t x.n.s) (ai x.w.op->aD (x.w.op == (2:Int)) (∃y:EI,ag (ag (1=bl y.ks/\1=y.cap)/\zc x.n y.t x.p y.mb x.p.p.H y.H (aG (bl y.ks) 1 1 (aF 1 (bP (bJ x.w.key))) (aa jZ y.ks)) ((gU y.H y.t/\bl y.ks<100000/\y.t.l.length<100000)/\∀h:PH×Int,(yZ h y.t (hasB y.ks) fun o=>y.H o)->∃z:xU,ag (ag (1=bl z.ks/\1=z.kc)/\aA (ag (wA x.n.s z.s x.p.p z.p (h.fst=z.p.H/\aG (bl z.ks) 1 1 (aF 1 (bP (bJ x.w.key))) (aa jZ z.ks)/\(pY z.s z.p/\Bl z)/\∀u:vl,Bm z u->L9 x (iC (fT z.ks)) cA false u y.mb (iP y.t (hasB y.ks)) (kM z.s z.ks)))))))) (((ai x.n.now->Exists (JV x)/\Exists (JV x))/\(ai x.n.now->Exists (JV x)))/\aB (aD (oZ x.g x.n.now).isSome (L9 x 0 (aH.val (l5 (oZ x.g x.n.now))) true x.p.p x.p.mb x.n.t x.n.s) (∃y:EG,ag (x.w.key=y.key/\zc x.n y.t x.p y.mb x.p.p.H y.H (gU y.H y.t/\y.t.last<(1099511627776:Int)/\bp y.key<=aq) (∀h:Nat,y.H h=none->jE (dG x.n.rs) 48 x.p.rc fun z=>∃u:nV,aO y.H h 0 (bw (bJ y.key) om)=u.p.p.H/\gF y.mb (rZ y.t y.key h)=gF u.p.mb (bO.n (aS x u)).t/\aA (x.n.id=(bO.n (aS x u)).id/\aA (xY x.n (bO.n (aS x u)) x.p u.p (dG x.n.rs+1) z ((0=bk (bO.ms (aS x u)) /\
 0=u.mc)/\OP x u (rZ y.t y.key h) y.mb (lI (bO.n (aS x u)).ws x.n.ws) (iA (dG (bO.n (aS x u)).rs) (dG x.n.rs) 5 (aa gG x.n.rs) (bT x.w.node (Bz x.w (y.t.last+(1:Int)) [])) (aa gG (bO.n (aS x u)).rs)) (bk (bO.ms (aS x u))=0)))))))))))))))))))) (by kernel_rfl) (by
 delta aD mJ uH eF zD aS ah ai bF aG ay bT bn gF gC ki cA bX bk bl nL bP Ca dG gA aC uX dW cH bw fc dV zR wM L9 Qm dQ u9 bp aB eH jE oW xY jR iA lI jU eW EP JV bJ uN oF rC bh gW oG iC cZ BB az mQ fS oH gf nO ag p8 pJ BA jQ om nP lG sP aA Bm sQ cU pN bq dI sK oI rD sR l5 y5 sL lE yR jF sr gi zc fm yZ wK wO ew OP ee Bz
 try dsimp -iota -proj only
 rintro⟨n,p,r,w,g⟩ ok;obtain⟨hat,⟨r1,r2⟩,hkey,hfr,hlast,⟨m1,m2,m3⟩,⟨s1,s2,s3,s4⟩,hrd,hent,hkil⟩:=ok;dsimp only at *;refine⟨Rg.OG.mk r w.key,?_⟩
 and_intros<;>first|exact bY|exact r1|exact r2|exact hkey|(intro h_;revert h_)|exact bZ|skip
 intro _ _;dsimp only;have e0:Rg.sO r.L (Rg.eu (fun _=>w.key) 1)=xJ r w.key:=rfl;rw[e0];refine⟨fun _=>⟨fun c1 _=>⟨fun c2=>⟨true,?_⟩,fun c2=>⟨w.key,rfl,trivial,fun _ _=>⟨!dN w.key,?_⟩⟩⟩,fun c1=>⟨w.key,rfl,trivial,fun _ _=>⟨!dN w.key,?_⟩⟩⟩,fun b hb=>⟨fun hbt=>?_,fun hbf _=>?_⟩⟩
 ·have hw:true=uO w:=by
   have h1:¬w.op=1:=by simpa using c1
   have h2:¬w.op=2:=by simpa using c2
   simp[uO,h1,h2]
  and_intros<;>first|exact bY|exact hw|(intro h_;revert h_)|exact bZ|skip
 ·have hw:(!dN w.key)=uO w:=by
   have h2:w.op=2:=by simpa using c2
   simp[uO,h2]
  and_intros<;>first|exact bY|exact hw|(intro h_;revert h_)|exact bZ|skip
 ·have hw:(!dN w.key)=uO w:=by
   have h2:w.op=1:=by simpa using c1
   simp[uO,h2]
  and_intros<;>first|exact bY|exact hw|(intro h_;revert h_)|exact bZ|skip
 ·have eN:∀b,lH n r w g b=kN n w 1 p6 false:=fun b=>if_pos (hb.symm.trans hbt);have hv:p6.size<=aq:=by decide
  refine⟨mW.mk n p w 1 p6 false,?_⟩
  and_intros<;>first|exact bY|exact hkey|exact hv|(intro h_;revert h_)|exact bZ|skip
  rintro⟨mc,rc⟩ _;refine⟨nV.mk p 0 mc rc,?_⟩;dsimp only;rw[eN];dsimp only[kN]
  and_intros<;>first|exact bY|exact hat|(intro h_;revert h_)|exact bZ|skip
 have hbad:uO w=false:=hb.symm.trans hbf;have hn0:¬uO w=true:=by rw[hbad];decide
 refine⟨fun c1 _=>⟨by simp only[bR];omega,fun _ _=>⟨by simp only[bR];omega,by simp only[bR];omega,fun _=>⟨by omega,by omega,by omega,fun cap hcap _ _ _=>?_⟩⟩⟩,fun c1=>?_⟩
 ·have hne:xJ r w.key≠n.id:=by simpa using c1
  have eN:∀b,lH n r w g b=⟨rB n r w,[uP n r w],[]⟩:=fun b=>by unfold lH;rw[if_neg hn0,if_pos hne]
  have hr:ak 1 21 (aF 21 (cC { uP n r w with fZ:=0 })) (aa cC [{ uP n r w with fZ:=0 }]):=.dB fun i hi=>by
   have:i=0:=by omega
   subst this;rfl
  have k0:(0:Nat)<1000:=by omega
  have k1:(1:Nat)<1000:=by omega
  have hl:n.ws.length+1=(rB n r w).ws.length:=by simp[rB]
  refine⟨lR.mk (rB n r w) { p with wc:=cap } [] 0 [{ uP n r w with fZ:=0 }] 1,?_⟩
  and_intros<;>first|exact bY|exact hr|exact k1|exact k0|exact hl|(intro h_;revert h_)|exact bZ|skip
  intro b _;refine⟨nV.mk { p with wc:=cap } 0 b 0,?_⟩;have hN:eM (rB n r w) { p with wc:=cap }:=⟨hat.st,hat.tok,hat.sep,by simp only[rB,List.length_append,List.length_singleton];exact hcap,hat.rc⟩
  have hp:ak (n.ws++[E3 n r w]).length 7 (bg (aa cB n.ws) 0 n.ws.length fun i j=>aF 7 (cB (E3 n r w)) (0+i) j) (aa cB (n.ws++[E3 n r w])):=.push rfl (by simp) rfl;have hl2:(n.ws++[E3 n r w]).length<=n.ws.length+1:=by simp
  dsimp only;rw[eN];dsimp only[rB]
  and_intros<;>first|exact bY|exact hN|exact hp|exact hl2|(intro h_;revert h_)|exact bZ|skip
 have how:xJ r w.key=n.id:=by simpa using c1
 have hn1:¬xJ r w.key≠n.id:=fun h=>h how;refine⟨z8.mk n p r w.key,?_⟩
 and_intros<;>first|exact bY|exact r1|exact r2|exact hkey|exact hfr|(intro h_;revert h_)|exact bZ|skip
 intro _ _;dsimp only;refine⟨fun c2=>?_,fun c2 _=>?_⟩
 ·have hsv:gH n r w.key=false:=by simpa using c2
  have eN:∀b,lH n r w g b=kN n w 6 p6 false:=fun b=>by unfold lH;rw[if_neg hn0,if_neg hn1,if_pos hsv]
  have hv:p6.size<=aq:=by decide
  refine⟨mW.mk n p w 6 p6 false,?_⟩
  and_intros<;>first|exact bY|exact hkey|exact hv|(intro h_;revert h_)|exact bZ|skip
  rintro⟨mc,rc⟩ _;refine⟨nV.mk p 0 mc rc,?_⟩;dsimp only;rw[eN];dsimp only[kN]
  and_intros<;>first|exact bY|exact hat|(intro h_;revert h_)|exact bZ|skip
 have hn2:¬gH n r w.key=false:=by
  have:gH n r w.key=true:=by simpa using c2
  rw[this];decide
 refine⟨fun c3=>?_,fun c3=>?_⟩
 ·have hop:w.op=2:=by simpa using c3
  have hkB:dN w.key=true:=by
   revert hbad;unfold uO;cases dN w.key<;>simp
  have hall:fT [w.key]=true:=by simp[fT,hkB]
  have eN:∀b,lH n r w g b=kN (tD n w.key) w 0 p6 false:=fun b=>by unfold lH;rw[if_neg hn0,if_neg hn1,if_neg hn2,if_pos hop]
  have hr:ak 1 1 (aF 1 [Value.string w.key]) (aa jZ [w.key]):=.dB fun i hi=>by
   have:i=0:=by omega
   subst this;rfl
  have hv:p6.size<=aq:=by decide
  have k1:(1:Nat)<100000:=by omega
  have k2:n.t.l.length<100000:=by omega
  refine⟨EI.mk p.mb n.t p.p.H [w.key] 1,?_⟩
  and_intros<;>first|exact bY|exact hr|exact k1|exact k2|exact hat.tok|(intro h_;revert h_)|exact bZ|skip
  rintro⟨H1,cnt⟩ ⟨ht1,ht2⟩;have hat1:=hat.Y8 ht1 ht2;have hkil:=hkil hop hkB;have hkil1:Bl ⟨n.s,{ p.p with H:=H1 },[w.key],1⟩:=⟨hkil.n,hkil.jr,hkil.fl⟩
  have hst1:pY n.s { p.p with H:=H1 }:=hat1.st;refine⟨xU.mk n.s { p.p with H:=H1 } [w.key] 1,?_⟩
  and_intros<;>first|exact bY|exact hr|exact hkil1|exact hst1|(intro h_;revert h_)|exact bZ|skip
  rintro b ⟨q1,q2⟩;have hat2:eM (tD n w.key) { p with p:=b }:=hat1.store q1 q2;have he:(if fT [w.key]=true then(0:Int)else 1)=0:=if_pos hall;refine⟨mW.mk n p w 0 p6 false,?_⟩
  and_intros<;>first|exact bY|exact hkey|exact hv|exact he|(intro h_;revert h_)|exact bZ|skip
  rintro⟨mc,rc⟩ _;refine⟨nV.mk { p with p:=b } 0 mc rc,?_⟩;dsimp only;rw[eN];dsimp only[kN,tD];have hat2:eM { n with t:=iP n.t (hasB [w.key]),s:=kM n.s [w.key] } { p with p:=b }:=hat2
  and_intros<;>first|exact bY|exact hat2|(intro h_;revert h_)|exact bZ|skip
 ·have hop:¬w.op=2:=by simpa using c3
  refine⟨?_,fun _ _=>⟨fun c4=>?_,fun c4=>?_⟩⟩
  ·have hG:jH n.s.fl p.p.fl:=hat.st.fl;refine⟨fun _=>⟨⟨Eg.mk n.s.fl p.p.fl w.key n.now g,?_⟩,⟨Eg.mk n.s.fl p.p.fl w.key n.now g,?_⟩⟩,fun _=>⟨Eg.mk n.s.fl p.p.fl w.key n.now g,?_⟩⟩ <;>
   ·and_intros<;>first|exact bY|exact hG|exact hrd|exact hent|exact hkey|(intro h_;revert h_)|exact bZ|skip
    intro _ _;refine⟨(),?_⟩
    and_intros<;>first|exact bY|(intro h_;revert h_)|exact bZ|skip
  ·obtain⟨x,hx⟩:=Option.isSome_iff_exists.1 c4;have eN:∀b,lH n r w g b=kN n w 0 x.val true:=fun b=>by unfold lH;rw[if_neg hn0,if_neg hn1,if_neg hn2,if_neg hop,hx]
   have hv:x.val.size<=aq:=Wk hent hx;rw[hx];refine⟨mW.mk n p w 0 x.val true,?_⟩
   and_intros<;>first|exact bY|exact hkey|exact hv|(intro h_;revert h_)|exact bZ|skip
   rintro⟨mc,rc⟩ _;refine⟨nV.mk p 0 mc rc,?_⟩;dsimp only;rw[eN];dsimp only[kN]
   and_intros<;>first|exact bY|exact hat|(intro h_;revert h_)|exact bZ|skip
  ·have hx:oZ g n.now=none:=by simpa using c4
   have eN:∀b,lH n r w g b=⟨mX n w b,[],[]⟩:=fun b=>by unfold lH;rw[if_neg hn0,if_neg hn1,if_neg hn2,if_neg hop,hx]
   refine⟨EG.mk p.mb n.t p.p.H w.key,?_⟩
   and_intros<;>first|exact bY|exact hat.tok|exact hlast|exact hkey|(intro h_;revert h_)|exact bZ|skip
   intro b hb;have hat1:=hat.Z9 hb hkey hlast;refine⟨by omega,by omega,by omega,fun cap hcap _ _=>⟨nV.mk { p with p:={ p.p with H:=aO p.p.H b 0 [.string w.key,.bool true] },rc:=cap } b 0 0,?_⟩⟩;have hN:eM (mX n w b) { p with p:={ p.p with H:=aO p.p.H b 0 [.string w.key,.bool true] },rc:=cap }:=⟨hat1.st,hat1.tok,hat1.sep,hat.wc,by simp only[mX,List.length_append,List.length_singleton];exact hcap⟩
   have hp:ak (n.rs++[(⟨w,n.t.last+1⟩:jq)]).length 5 (bg (aa gG n.rs) 0 n.rs.length fun i j=>aF 5 (gG ⟨w,n.t.last+1⟩) (0+i) j) (aa gG (n.rs++[⟨w,n.t.last+1⟩])):=.push rfl (by simp) rfl;have hl2:(n.rs++[(⟨w,n.t.last+1⟩:jq)]).length<=n.rs.length+1:=by simp
   have hl3:n.rs.length+1=(n.rs++[(⟨w,n.t.last+1⟩:jq)]).length:=by simp
   dsimp only;rw[eN];dsimp only[mX]
   and_intros<;>first|exact bY|exact hN|exact hp|exact hl2|exact hl3|(intro h_;revert h_)|exact bZ|skip)
theorem Yt:au (Y Tryz.prog).G.X 48 aaa:=aU fF Ys ⟨Rg.EX,zF,EZ,E0,EO,Sd,Sb,VA,U5,trivial⟩
end Go.Proofs.YtfjgoonelcaggaaGreat
namespace Go.Sx
section
def JW(slot:Nat)(v:Bool)(s:S)(K:S->Prop):Prop:=match look s.fr slot with
 |.a (.bool b)=>b=v/\K (s.set slot (.a (YQ v)))
 |.a .tt=>bif v then K s else False
 |.a .ff=>bif v then False else K s
 |_=>K s
theorem GW(slot:Nat)(v:Bool):∀s K,JW slot v s K->yl s K:=by
 intro s K h w0 M ρ a w hs;unfold JW at h;split at h
 ·rename_i b hb;obtain⟨rfl,h⟩:=h;have hr:=hs.frame slot;rw[hb]at hr;refine⟨_,ρ,h,Env.le.refl ρ,hs.Xp ?_⟩;have hr:a.tmps.getD slot undef = .bool b:=hr;rw[hr];exact tJ b ρ
 ·cases v
  ·exact h.elim
  ·exact⟨s,ρ,h,Env.le.refl ρ,hs⟩
 ·cases v
  ·exact⟨s,ρ,h,Env.le.refl ρ,hs⟩
  ·exact h.elim
 ·exact⟨s,ρ,h,Env.le.refl ρ,hs⟩
def JX:List (Nat×Bool)->S->(S->Prop)->Prop
 |[],s,K=>K s
 |e::r,s,K=>JW e.1 e.2 s fun s=>JX r s K
theorem E4:∀(l:List (Nat×Bool)) s K,JX l s K->yl s K
 |[],s,K,h=>fun w0 M ρ a w hs=>⟨s,ρ,h,Env.le.refl ρ,hs⟩
 |e::r,s,K,h=>fun w0 M ρ a w hs=>by
  obtain⟨s1,ρ1,h1,l1,g1⟩:=GW e.1 e.2 s _ h w0 M ρ a w hs;obtain⟨s2,ρ2,h2,l2,g2⟩:=E4 r s1 K h1 w0 M ρ1 a w g1;exact⟨s2,ρ2,h2,l1.trans l2,g2⟩
def OQ(slot:Nat)(n:Int)(s:S)(K:S->Prop):Prop:=match look s.fr slot with
 |.a (.int k m)=>m=n/\K (s.set slot (.a (.lit k n)))
 |_=>K s
theorem SB(slot:Nat)(n:Int):∀s K,OQ slot n s K->yl s K:=by
 intro s K h w0 M ρ a w hs;unfold OQ at h;split at h
 ·rename_i k m hb;obtain⟨rfl,h⟩:=h;have hr:=hs.frame slot;rw[hb]at hr;exact⟨_,ρ,h,Env.le.refl ρ,hs.Xp hr⟩
 ·exact⟨s,ρ,h,Env.le.refl ρ,hs⟩
def An.W3(key slot:Nat)(v:Bool)(next:LH):An:=.view key (JW slot v) (GW slot v) next
def An.Yu(key:Nat)(l:List (Nat×Bool))(next:LH):An:=.view key (JX l) (E4 l) next
def An.isI(key slot:Nat)(n:Int)(next:LH):An:=.view key (OQ slot n) (SB slot n) next
end
end Go.Sx
namespace Go.Proofs.YtfjgoonelcaggaaGreat
open Go.Sx
noncomputable def JY:cG where
 α:=tC
 β:=nV
 m:=24
 m':=31
 pre:=fun a=>wP a/\a.w.node=0
 args:=fun a=>[.a (.ptr 0 0 0 0),.a (.int .i64 a.w.id),.a (.int .i64 a.w.op),.a (.str a.w.key)]
 hp:=fun a=>L8 (.ptr 21 0 0 0) .cc .cc 0 7 1 3 4 5 6 8 9 10 11 12 13 14 15 16 17 18 19 20 a.n a.p
 ro:=fun a=>aa9 1 2 21 22 23 a.n a.r
 post:=fun a b=>eM (lH a.n a.r a.w a.g b.b).n b.p
 res:=fun a b=>.agg [.slc 29 0 21 (lH a.n a.r a.w a.g b.b).ms.length b.mc,.slc 30 0 6 (lH a.n a.r a.w a.g b.b).rs.length b.rc]
 cR:=fun a b=>L8 (.ptr 21 0 0 0) .cc .cc 0 7 1 3 4 27 28 8 9 10 11 12 24 14 25 16 17 18 19 26 (lH a.n a.r a.w a.g b.b).n b.p++[B6 29 (lH a.n a.r a.w a.g b.b).ms,LW 30 (lH a.n a.r a.w a.g b.b).rs]
def tE(x y:sJ)(z u:Prop):=ag (rD x y (z/\u))
def Aa(z x:cW)(u y:gZ)(v:kP)(w:Nat)(s:cW)(f:List jq)(g:Prop):=eW z x u y (v.last=x.t.last) (nL w y.mb/\lI x.ws s.ws/\oG x.rs f/\g)
theorem SC:fnBody (Y Tryz.prog) [(48,aaa)] 13 JY fun _=>[]:=fnBody.of (p :=
 ∀x:tC,wP x/\x.w.node=(0:Int)->∃y:tC,ag ((0:Int)=y.w.node/\x.w.id=y.w.id/\x.w.op=y.w.op/\x.w.key=y.w.key/\mQ x.p y.p x.n y.n (Aa x.n y.n x.p y.p x.n.t x.p.mb x.n x.n.rs (Jq x.n.s y.n.s x.p.p y.p.p x.n.s.d x.n.s.ms x.p.p.jc x.n.s.jL x.p.p.jy (tE x.n.le y.n.le (x.n.now=y.n.now) (p8 x.r y.r (wP y) (∀z:nV,eM (bO.n (aS y z)) z.p->∃u:nV,ag (bk (bO.ms (aS y z))=bk (bO.ms (aS x u))/\z.mc=u.mc)/\ag (cZ (bO.rs (aS y z))=cZ (bO.rs (aS x u))/\z.rc=u.rc)/\mQ z.p u.p (bO.n (aS y z)) (bO.n (aS x u)) (jU (bO.ms (aS x u)) (bO.ms (aS y z))/\rC (bO.rs (aS x u)) (bO.rs (aS y z))/\oI (bO.n (aS y z)) (bO.n (aS x u)) z.p u.p (Aa (bO.n (aS y z)) (bO.n (aS x u)) z.p u.p (bO.n (aS y z)).t z.p.mb (bO.n (aS y z)) (bO.n (aS y z)).rs (eM (bO.n (aS x u)) u.p/\True)))))))))) (by kernel_rfl) (by
 delta uH aS ah bF aG bn gF ki bX bk nL tE dG gA cH wM dQ Aa eH lI jU eW rC oG cZ mQ fS Jq ag p8 lG aA cU oI rD gi
 try dsimp -iota -proj only
 rintro a ⟨ok,hw⟩;obtain⟨n,p,r,⟨nd,id,op,key⟩,g⟩:=a;have hw:nd=0:=hw;subst hw;refine⟨⟨n,p,r,⟨0,id,op,key⟩,g⟩,?_⟩
 and_intros<;>first|exact bY|exact ok|(intro h_;revert h_)|exact bZ|skip
 intro b hb;refine⟨b,?_⟩
 and_intros<;>first|exact bY|exact hb|(intro h_;revert h_)|exact bZ|skip)
theorem GX:au (Y Tryz.prog).G.X 13 JY:=aU fF SC ⟨Yt,trivial⟩
def ze(now:Int)(l:sJ)(sent ep:Int):Bool:=decide (ep<1)||decide (ep<l.top)||decide (sent<0)||decide (now<sent)||decide (20<=now-sent)
def tF(now:Int)(l:sJ)(sent ep:Int):sJ:=if ze now l sent ep=true then l else if ep=l.aZ/\sent+20<=l.end_ then l else⟨ep,sent+20,ep⟩
structure GY where
 l:sJ
 now:Int
 sent:Int
 ep:Int
noncomputable def OR:cG where
 α:=GY
 β:=Unit
 m:=2
 m':=2
 pre:=fun a=>a.now<1000000000000000
 args:=fun a=>[.a (.ptr 0 0 0 0),.a (.int .i64 a.sent),.a (.int .i64 a.ep)]
 hp:=fun a=>[(0,Yn 1 a.l)]
 ro:=fun a=>[(1,VV a.now)]
 post:=fun _ _=>True
 res:=fun _ _=>.a .any
 cR:=fun a _=>[(0,Yn 1 (tF a.now a.l a.sent a.ep))]
def BC(x:GY):=Exists (az (tE x.l (tF x.now x.l x.sent x.ep) True True))
def JZ(x:GY):=ai (x.sent+(20:Int))/\(ai x.l.aZ->u9 (x.ep == x.l.aZ) x.l.end_ (cn (x.sent+(20:Int)) x.l.end_) (BC x) (Exists (az (Bp x.ep (tF x.now x.l x.sent x.ep) (x.sent+(20:Int)) True True))))
theorem SD:fnBody (Y Tryz.prog) [] 99 OR fun _=>[]:=fnBody.of (p :=
 ∀x:GY,x.now<(1000000000000000:Int)->aX x.ep 1 (BC x) (ai x.l.top->fR (aK x.ep x.l.top) (BC x) (aK x.sent 0) (ai x.now->aX x.now x.sent (BC x) (aX x.sent 0 (JZ x) (ai x.now->aX x.now x.sent (JZ x) (mL x.now x.sent (aD (cn 20 (x.now-x.sent)) (BC x) (JZ x)))))))) (by kernel_rfl) (by
 delta aD ai aK tE aC u9 fR JZ cn az ag mL aX BC rD Bp
 rintro⟨l,now,sent,ep⟩ h;have h:now<1000000000000000:=h;dsimp only;have no:ze now l sent ep=true->tF now l sent ep=l:=fun e=>if_pos e;have yes:ze now l sent ep=false->ep=l.aZ->sent+20<=l.end_->tF now l sent ep=l:=fun e h1 h2=>by unfold tF;rw[if_neg (by rw[e];decide),if_pos ⟨h1,h2⟩]
 have new:ze now l sent ep=false->¬(ep=l.aZ/\sent+20<=l.end_)->tF now l sent ep=⟨ep,sent+20,ep⟩:=fun e h1=>by unfold tF;rw[if_neg (by rw[e];decide),if_neg h1]
 unfold ze at no yes new;simp only[Bool.or_eq_true,Bool.or_eq_false_iff,decide_eq_true_eq,decide_eq_false_iff_not,beq_iff_eq,beq_eq_false_iff_ne]at *;refine⟨fun c1=>⟨(),?_⟩,fun c1 _=>⟨fun c2=>⟨(),?_⟩,fun c2=>⟨fun c3=>⟨(),?_⟩,fun c3 _=>⟨fun c4=>⟨(),?_⟩,fun c4=>⟨fun c5=>absurd c5 c3,fun _ _=>⟨fun c6=>absurd c6 c4,fun _ _=>⟨by simp only[bR];omega,fun c7=>⟨(),?_⟩,fun c7=>⟨by simp only[bR];omega,fun _=>⟨fun c8 _=>⟨fun c9=>⟨(),?_⟩,fun c9=>⟨(),?_⟩⟩,fun c8=>⟨(),?_⟩⟩⟩⟩⟩⟩⟩⟩⟩⟩
 ·rw[no (by omega)];simp
 ·rw[no (by omega)];simp
 ·rw[no (by omega)];simp
 ·rw[no (by omega)];simp
 ·rw[no (by omega)];simp
 ·rw[yes ⟨⟨⟨⟨c1,c2⟩,c3⟩,c4⟩,c7⟩ c8 c9];simp
 ·rw[new ⟨⟨⟨⟨c1,c2⟩,c3⟩,c4⟩,c7⟩ fun h=>c9 h.2];simp
 ·rw[new ⟨⟨⟨⟨c1,c2⟩,c3⟩,c4⟩,c7⟩ fun h=>c8 h.1];simp)
theorem SE:au (Y Tryz.prog).G.X 99 OR:=aU fF SD trivial
def OS:LH:=.mk 60 [] []
def J1(n:cW)(fZ ep tick:Int):pg:=⟨2,fZ,n.id,ep,tick,0,0,0,0,p6,0,false,dx,0⟩
def abM(k:Int)(fZ to ep tick id op:A)(key:ByteArray)(mem:A):List A:=[.lit .i64 k,fZ,to,ep,tick,.lit .i64 0,.lit .i64 0,id,op,.str key,.lit .i64 0,.ff,.str p6,.str p6,.lit .i64 0,.ff,.cc,.cc,mem,.lit .i64 0,.cc]
theorem Ma{α:Type}[Inhabited α]{l:List α}{i j:Nat}:gl (l.eraseIdx i) j=if j<i then gl l j else gl l (j+1):=by
 simp only[gl,List.getD,List.getElem?_eraseIdx];split<;>rfl
structure Cb where
 l:List jq
 cap:Nat
 k:Nat
structure GZ where
 l:List dF
 cap:Nat
 k:Nat
noncomputable def Wl:cG where
 α:=Cb
 β:=Nat
 m:=1
 m':=2
 pre:=fun a=>a.l.length<2000/\a.l.length<=a.cap/\a.k<a.l.length
 args:=fun a=>[.a (.slc 0 0 5 a.l.length a.cap),.a (.int .i64 a.k),.a (.int .i64 (a.k+1))]
 hp:=fun a=>[(0,.arr 134 EL a.l.length (aa gG a.l))]
 ro:=fun _=>[]
 post:=fun a cap=>(a.l.eraseIdx a.k).length<=cap
 res:=fun a cap=>.a (.slc 1 0 5 (a.l.eraseIdx a.k).length cap)
 cR:=fun a _=>[(1,.arr 134 EL (a.l.eraseIdx a.k).length (aa gG (a.l.eraseIdx a.k)))]
noncomputable def Wm:cG where
 α:=GZ
 β:=Nat
 m:=1
 m':=2
 pre:=fun a=>a.l.length<2000/\a.l.length<=a.cap/\a.k<a.l.length
 args:=fun a=>[.a (.slc 0 0 7 a.l.length a.cap),.a (.int .i64 a.k),.a (.int .i64 (a.k+1))]
 hp:=fun a=>[(0,.arr 125 rz a.l.length (aa cB a.l))]
 ro:=fun _=>[]
 post:=fun a cap=>(a.l.eraseIdx a.k).length<=cap
 res:=fun a cap=>.a (.slc 1 0 7 (a.l.eraseIdx a.k).length cap)
 cR:=fun a _=>[(1,.arr 125 rz (a.l.eraseIdx a.k).length (aa cB (a.l.eraseIdx a.k)))]
def Qn(y z x v w:Nat)(s t:Nat->Nat->Value)(h:Nat)(i:List Value)(j:Nat->Nat->Value):=y<2000/\y<=z/\x<y->cK (af y) z/\cK (aY x) (ax y)/\cK (af x) (aR (aY x))/\aD (af x == aY x) (∃u:Nat,gJ y v z u w s t (v<=u/\True)) (cK (af x) z/\cK (aY x) y/\0+(ax x-0)<=y/\0+aR (aY x)+(y-aR (aY x))<=y/\gC (ax x-0) (y-aR (aY x)) h (z-0) fun u=>cK (af y) u/\cK (af (ax x-0+(y-aR (aY x)))) (ax y)/\∃f:Nat,gJ (ax x-0+(y-aR (aY x))) v u f w (fun g=>yF (ax x-0+(y-aR (aY x))) g (ax y) i fun k=>bg s 0 (ax x-0) (fun l m=>j l m) g k) t (v<=f/\True))
def qb(x:Cb):List jq:=x.l.eraseIdx x.k
theorem Wn:fnBody (Y Tryz.prog) [] 71 Wl fun _=>[]:=fnBody.of (p :=
 ∀x:Cb,Qn (dG x.l) x.cap x.k (dG (qb x)) 5 (aa gG x.l) (aa gG (qb x)) 48 (bT 0 (bT 0 (bT 0 (dI cA 0 [])))) fun y z=>aa gG x.l (0+aR (aY x.k)+y) z) (by kernel_rfl) (by
 delta aD aW aG bT ax gC aY cA af eo dG aC aR dW bw Qn bJ gJ ag qb dI cK yF
 try dsimp -iota -proj only
 rintro⟨l,cap,k⟩ ⟨h1,h2,h3⟩;dsimp only at *;have el:(l.eraseIdx k).length=l.length-1:=by rw[List.length_eraseIdx];simp[h3]
 have e1:((k:Int)+1).toNat=k+1:=by omega
 have e2:k+(l.length-(k+1))=l.length-1:=by omega
 simp only[Nat.zero_add,Int.toNat_natCast,e1,el,Nat.sub_zero,e2];refine⟨by omega,by omega,by omega,fun g=>(by exfalso;simp only[beq_iff_eq]at g;omega),fun _=>⟨by omega,by omega,by omega,by omega,by omega,fun c' g1 g2 g3=>⟨by omega,by omega,c',?_⟩⟩⟩;have hr:ak (l.length-1) 5 (fun i j=>if l.length-1<=i/\i<l.length-1+(l.length-(l.length-1))then(gG default).getD j (Value.tuple #[])else bg (aa gG l) 0 k (fun i j=>aa gG l (k+1+i) j) i j) (aa gG (l.eraseIdx k)):=⟨fun i hi j hj=>by
  rw[if_neg (by omega)];simp only[bg,aa,Ma,Nat.zero_add];by_cases h:i<k
  ·simp only[h,if_true]
  ·simp only[h,if_false];rw[show k+1+(i-k)=i+1 by omega]⟩
 (and_intros<;>first|exact rO|skip))
def sS(x:GZ):List dF:=x.l.eraseIdx x.k
theorem Wo:fnBody (Y Tryz.prog) [] 119 Wm fun _=>[]:=fnBody.of (p :=
 ∀x:GZ,Qn (bX x.l) x.cap x.k (bX (sS x)) 7 (aa cB x.l) (aa cB (sS x)) 64 (zD .i64 0 0 0 (bJ cA) 0 0 0 []) fun y z=>aa cB x.l (0+aR (aY x.k)+y) z) (by kernel_rfl) (by
 delta aD aW zD aG ax gC aY cA af bX eo aC aR bw Qn bJ gJ ag sS cK yF sr
 try dsimp -iota -proj only
 rintro⟨l,cap,k⟩ ⟨h1,h2,h3⟩;dsimp only at *;have el:(l.eraseIdx k).length=l.length-1:=by rw[List.length_eraseIdx];simp[h3]
 have e1:((k:Int)+1).toNat=k+1:=by omega
 have e2:k+(l.length-(k+1))=l.length-1:=by omega
 simp only[Nat.zero_add,Int.toNat_natCast,e1,el,Nat.sub_zero,e2];refine⟨by omega,by omega,by omega,fun g=>(by exfalso;simp only[beq_iff_eq]at g;omega),fun _=>⟨by omega,by omega,by omega,by omega,by omega,fun c' g1 g2 g3=>⟨by omega,by omega,c',?_⟩⟩⟩;have hr:ak (l.length-1) 7 (fun i j=>if l.length-1<=i/\i<l.length-1+(l.length-(l.length-1))then(cB default).getD j (Value.tuple #[])else bg (aa cB l) 0 k (fun i j=>aa cB l (k+1+i) j) i j) (aa cB (l.eraseIdx k)):=⟨fun i hi j hj=>by
  rw[if_neg (by omega)];simp only[bg,aa,Ma,Nat.zero_add];by_cases h:i<k
  ·simp only[h,if_true]
  ·simp only[h,if_false];rw[show k+1+(i-k)=i+1 by omega]⟩
 (and_intros<;>first|exact rO|skip))
theorem Wp:au (Y Tryz.prog).G.X 71 Wl:=aU fF Wn trivial
theorem Wq:au (Y Tryz.prog).G.X 119 Wm:=aU fF Wo trivial
structure rI where
 n:cW
 p:gZ
 r:Rg.ga
 k:Nat
 val:ByteArray
 has:Bool
def rI.rd(a:rI):jq:=gl a.n.rs a.k
def fB(val:ByteArray)(has:Bool):ByteArray:=if has=true then val else p6
def Qo(n:cW)(x:jq):Bool:=match wG n.t x.tok with|some e=>e.good|none=>false
def iR(x:jq)(val:ByteArray):aH:=⟨x.w.key,val,0,false⟩
def nQ(n:cW)(r:Rg.ga)(x:jq)(val:ByteArray)(has:Bool):Bool:=Qo n x&&(has&&(decide ((fB val has).size<=200)&&gH n r x.w.key))
def r7(n:cW)(r:Rg.ga)(k:Nat)(val:ByteArray)(has:Bool):cW:={ n with rs:=n.rs.eraseIdx k,t:=p5 n.t (gl n.rs k).tok,s:=if nQ n r (gl n.rs k) val has=true then Y4 (LM n.s (iR (gl n.rs k) (fB val has)))else n.s }
def Yv(n:cW)(r:Rg.ga)(k:Nat)(val:ByteArray)(has:Bool):bO:=kN (r7 n r k val has) (gl n.rs k).w 0 (fB val has) has
def rI.q(a:rI):bO:=Yv a.n a.r a.k a.val a.has
structure Qp(a:rI):Prop where
 at_:eM a.n a.p
 ring:a.r.L.length<100000/\0<a.r.L.length
 free:a.n.s.k.m.frozen=false
 k:a.k<a.n.rs.length
 room:a.n.rs.length<1000
 tok:bR .i64 a.rd.tok
 key:dN a.rd.w.key=true
 val:a.val.size<=aq
 put:(fB a.val a.has).size<=200->uC a.n.s.fl (aL (some (iR a.rd (fB a.val a.has)))).length
 dev:(fB a.val a.has).size<=200->(LM a.n.s (iR a.rd (fB a.val a.has))).d.calls<1000000000000/\(LM a.n.s (iR a.rd (fB a.val a.has))).d.n<100000
noncomputable def Wr:cG where
 α:=rI
 β:=nV
 m:=24
 m':=31
 pre:=Qp
 args:=fun a=>[.a (.ptr 0 0 0 0),.a (.int .i64 a.k),.a (.str a.val),.a (.bool a.has)]
 hp:=fun a=>L8 (.ptr 21 0 0 0) .cc .cc 0 7 1 3 4 5 6 8 9 10 11 12 13 14 15 16 17 18 19 20 a.n a.p
 ro:=fun a=>aa9 1 2 21 22 23 a.n a.r
 post:=fun a b=>eM a.q.n b.p
 res:=fun a b=>.agg [.slc 29 0 21 a.q.ms.length b.mc,.slc 30 0 6 a.q.rs.length b.rc]
 cR:=fun a b=>L8 (.ptr 21 0 0 0) .cc .cc 0 7 1 3 4 27 28 8 9 10 11 12 24 14 25 16 17 18 19 26 a.q.n b.p++[B6 29 a.q.ms,LW 30 a.q.rs]
noncomputable def aac:List (Nat×cG):=[(71,Wl),(72,VN),(19,L7),(73,UX),(169,ko),(54,L6)]
def Y9(a:rI):An:=.mk 7 Unit (fun s _=>s.set 2 (.a (.str (fB a.val a.has)))) (fun _ _=>True) (fun _ _=>0) fun _=>.mk 60 [] [.W3 8 999 true (.mk 60 [] [.mk 0 Bool (fun s b=>s.set 73 (.a (.bool b))) (fun _ b=>b=nQ a.n a.r a.rd a.val a.has) (fun _ _=>0) fun _=>.mk 60 [] [.W3 0 87 true OS]])]
theorem gU.use{H:PH}{t:kP}(h:gU H t)(id:Int):gU H (p5 t id):=by
 have hs:∀e∈(p5 t id).l,e∈t.l:=fun e he=>(List.mem_filter.1 he).1;exact⟨fun e he=>h.at_ e (hs e he),(h.blk.sublist (List.filter_sublist.map _)),fun e he=>h.id e (hs e he),(h.ids.sublist (List.filter_sublist.map _)),(h.born.sublist (List.filter_sublist.map _)),h.last⟩
def vl.Cc(p:vl)(b:sY):vl:={ p with H:=b.H,cy:=b.y,x:=b.x,xc:=b.cap }
theorem pY.put{s:mu}{p:vl}(h:pY s p){x:aH}{b:sY}(h1:jH (ou s.fl x) b)(h2:vk p.fl b):pY (Y4 (LM s x)) (p.Cc b)/\Eu p.H (bB p.cy) (bB p.jy) (p.Cc b):=by
 have hj:∀z∈bB p.jy,b.H z=p.H z/\z∉bB b.y:=fun z hz=>h2 z (h.jl.dom z hz) (h.sep z hz);exact⟨⟨⟨h1.log,h1.idx⟩,h.jl.frame fun z hz=>(hj z hz).1,fun z hz=>(hj z hz).2,h.cap⟩,fun z hz hc hjz=>⟨(h2 z hz hc).1,(h2 z hz hc).2,hjz⟩⟩
theorem eM.abN{n:cW}{p:gZ}(h:eM n p)(k:Nat){c:Nat}(hc:(n.rs.eraseIdx k).length<=c)(id:Int):eM { n with rs:=n.rs.eraseIdx k,t:=p5 n.t id } { p with rc:=c } :=
 ⟨h.st,h.tok.use id,fun e he=>h.sep e ((List.mem_filter.1 he).1),h.wc,hc⟩
theorem E5{x:jq}{v:ByteArray}(hk:dN x.w.key=true)(hv:v.size<=200):kK (iR x v)=true:=by
 simp[kK,iR,gh,hk,hv]
def sU(x:rI):jq:=gl x.n.rs (0+ax x.k)
def OT(x:rI)(z:Cb)(y:Nat)(u v:Prop):=aA (ay x.n.id/\aA (fS (ki none) (bh (bX x.n.ws) x.p.wc/\bF (dG (qb z)) (y=y)/\ay x.n.asked/\u/\v)))
def Qq(x:rI)(y:wF)(z:Cb)(u:Nat)(v:Bool):=fm (fB x.val x.has)/\ag (bI (aA (aP x.k (bn x.has/\yY y=yY y/\oF (jq.w (sU x)) (ay (jq.tok (sU x))/\x.p.p.H=x.p.p.H/\OT x z u (oH x.n.ws) (sK x.n x.n.now (ay x.r.e/\uN x.r (ay (p5 y.t y.id).last/\lE y.mb (sR (qb z)) (oI x.n x.n x.p x.p (v=nQ x.n x.r x.rd x.val x.has/\True))))))))))
def OU(x:rI)(v:Cb)(s:Nat)(f:PH)(g:wF)(h:mW->nV->Prop):=∃y:mW,ag (BA (jq.w (sU x)) y 0 (fB x.val x.has) x.has (aA (x.n.id=y.n.id/\aA (xY x.n y.n x.p y.p (dG (qb v)) s (wO y/\∀u:Nat×Nat,True->∃z:nV,ag (bk (nO y)=bk x.q.ms/\u.fst=z.mc)/\ag (cZ (nP y)=cZ x.q.rs/\u.snd=z.rc)/\f=z.p.p.H/\yY g=gF z.p.mb x.q.n.t/\jU x.q.ms (nO y)/\rC x.q.rs (nP y)/\aA (ag (h y z)))))))
def E6(x:wF):Bool:=match wG x.t x.id with|some y=>y.good|none=>false
theorem Ws:fnBody (Y Tryz.prog) aac 25 Wr fun a=>[(25,[],[.W3 0 26 false (.mk 60 [] [Y9 a]),Y9 a])]:=fnBody.of (p :=
 ∀y:rI,Qp y->aX (af y.k) 0 False (cn (af (dG y.n.rs)) (af y.k)=false/\dh y.k (dG y.n.rs) (aQ y.k (∃u:Cb,ag (dG y.n.rs=dG u.l/\y.p.rc=u.cap)/\bC y.k u.k/\aY y.k=aY u.k/\oG u.l y.n.rs/\(dG u.l<2000/\dG u.l<=u.cap/\u.k<dG u.l)/\∀g:Nat,dG (qb u)<=g->x6 (bq y.has) (cA=fB y.val y.has) (0=0) (bI (aA (aP y.k (bn y.has/\oF (jq.w (sU y)) (ay (jq.tok (sU y))/\mQ y.p y.p y.n y.n (OT y u g (ay y.n.t.last) (lE y.p.mb (oH y.n.ws) (sK y.n y.n.now (ay y.r.e/\uN y.r (sR (qb u)/\oI y.n y.n y.p y.p (True/\True))))))))))) (y.val=fB y.val y.has)/\aB (ai (jq.tok (sU y))->∃z:wF,ag (jq.tok (sU y)=z.id/\zc y.n z.t y.p z.mb y.p.p.H z.H (gU z.H z.t/\ai z.id) (aB (qp (E6 z) y.has (aD (cn (af (bp (fB y.val y.has))) 200) (∃v:z8,ag ((jq.w (sU y)).key=v.key/\aA (y.n.id=v.n.id/\aA (xY y.n v.n y.p v.p (dG (qb u)) g (tE y.n.le v.n.le (y.n.now=v.n.now) (BB y.n v y.r (∃j:Bool,gH v.n v.r v.key=j/\bn (E6 z)/\Qq y z u g j))))))) (∃v:Bool,fV v (bn (E6 z)) (Qq y z u g v))) (∃v:Bool,fV v (bn (E6 z)) (Qq y z u g v))/\∀v:Bool,v=nQ y.n y.r y.rd y.val y.has->aD v (∃f:Lu,ag ((jq.w (sU y)).key=f.x.key/\fB y.val y.has=f.x.val /\
 (0:Int)=f.x.e/\false=f.x.gone/\oW y.n.s.cL f.m y.p.p.cy f.p y.n.s.d y.p.p.x y.p.p.xc (y.p.p.H=f.p.H) (IW f/\∀h:sY,jH (ou f.m f.x) h/\vk f.p h->aC (iC (kK f.x) == (0:Int))/\lu (ou f.m f.x).d fun c=>OU y u g h.H z fun o i=>y.n.s.bN=y.q.n.s.bN/\wB (ou f.m f.x) y.q.n.s h i.p.p (gR c) y.n.s.ms y.p.p.jc y.n.s.jL y.p.p.jy y.n.s.k y.p.p.kc (Aa o.n y.q.n o.p i.p (p5 z.t z.id) z.mb y.n (qb u) (eM y.q.n i.p/\True))))) (OU y u g y.p.p.H z fun f h=>wA y.n.s y.q.n.s y.p.p h.p.p (Aa f.n y.q.n f.p h.p (p5 z.t z.id) z.mb y.n (qb u) (eM y.q.n h.p/\True))))))))))) (by kernel_rfl) (by
 delta qp aD mJ uH eF ah ai bF aG ay ax bn gF dm ki aK aY cA af bX bk nL tE Ca dG bf gA aC aR cH fV fc dV zR x6 wM dQ Qq bp Aa aB eH oW xY bI jR wB lI jU eW aP OU uN oF ku rC bh cn oG iC cZ BB az mQ fS oH nO ag E6 qb BA aX nP lG aA sQ cU bq lu aQ dh sK oI rD sU sR bC lE gi zc fm wO yY IW OT
 try dsimp -iota -proj only
 intro a ok;obtain⟨n,p,r,k,val,has⟩:=a;obtain⟨hat,⟨r1,r2⟩,hfr,hk,hroom,htok,hkey,hval,hput,hdev⟩:=ok;obtain⟨x,hx⟩:∃x,x=gl n.rs k:=⟨_,rfl⟩
 have hrd:∀p r val has,rI.rd ⟨n,p,r,k,val,has⟩=x:=fun _ _ _ _=>hx.symm;simp only[hrd]at htok hkey hput hdev ⊢;have hz:0+((k:Nat):Int).toNat=k:=by omega
 have hkl:x.w.key.size<=aq:=by have:=(o5 hkey).2;unfold aq;omega
 dsimp only at *;rw[hz,<- hx];have hv:(fB val has).size<=aq:=by
  unfold fB;cases has
  ·exact Nat.zero_le _
  ·exact hval
 refine⟨fun c=>(by exfalso;have:=of_decide_eq_true c;omega),fun _=>⟨decide_eq_false (by omega),by omega,hk,by simp only[bR];omega,Cb.mk n.rs p.rc k,?_⟩⟩;have h2000:n.rs.length<2000:=by omega
 have hrc:=hat.rc
 and_intros<;>first|exact bY|exact h2000|exact hrc|exact hk|(intro h_;revert h_)|exact bZ|skip
 intro c hc;dsimp only at hc ⊢;have hat1:=hat.abN k hc x.tok;refine⟨⟨fun e=>⟨(),?_⟩,fun e=>⟨(),?_⟩⟩,fun _ _ _=>⟨wF.mk p.mb n.t p.p.H x.tok,?_⟩⟩
 ·have e:has=false:=by simpa using e
  have ev:ByteArray.mk #[]=fB val has:=by rw[e];rfl
  and_intros<;>first|exact bY|exact ev|(intro h_;revert h_)|exact bZ|skip
 ·have e:has=true:=by simpa using e
  have ev:val=fB val has:=by rw[e];rfl
  and_intros<;>first|exact bY|exact ev|(intro h_;revert h_)|exact bZ|skip
 and_intros<;>first|exact bY|exact hat.tok|exact htok.1|exact htok.2|(intro h_;revert h_)|exact bZ|skip
 intro _ _;have eg:(match wG n.t x.tok with|some e=>e.good|none=>false)=Qo n x:=rfl;dsimp only;simp only[eg];refine⟨⟨fun g1=>⟨fun g2=>⟨fun g3=>⟨z8.mk { n with rs:=n.rs.eraseIdx k,t:=p5 n.t x.tok } { p with rc:=c } r x.w.key,?_⟩,fun g3=>⟨false,?_⟩⟩,fun g2=>⟨false,?_⟩⟩,fun g1=>⟨false,?_⟩⟩,fun b hb=>⟨fun hbt=>?_,fun hbf=>?_⟩⟩
 ·and_intros<;>first|exact bY|exact r1|exact r2|exact hkl|exact hfr|(intro h_;revert h_)|exact bZ|skip
  intro _ _;have g3:(fB val has).size<=200:=by have:=of_decide_eq_true g3;omega
  have e:gH n r x.w.key=nQ n r x val has:=by unfold nQ;rw[g1,g2,<- g2,decide_eq_true g3];simp[g2]
  refine⟨gH n r x.w.key,?_⟩
  and_intros<;>first|exact bY|exact e|(intro h_;revert h_)|exact bZ|skip
 ·have g3:decide ((fB val has).size<=200)=false:=decide_eq_false (by have:=of_decide_eq_false g3;omega);have e:false=nQ n r x val has:=by unfold nQ;rw[g3];simp
  and_intros<;>first|exact bY|exact e|(intro h_;revert h_)|exact bZ|skip
 ·have e:false=nQ n r x val has:=by unfold nQ;rw[g2];simp
  and_intros<;>first|exact bY|exact e|(intro h_;revert h_)|exact bZ|skip
 ·have e:false=nQ n r x val has:=by unfold nQ;rw[g1];simp
  and_intros<;>first|exact bY|exact e|(intro h_;revert h_)|exact bZ|skip
 ·have hf:nQ n r x val has=true:=hb.symm.trans hbt;have hsz:(fB val has).size<=200:=by
   unfold nQ at hf;simp only[Bool.and_eq_true,decide_eq_true_eq]at hf;exact hf.2.2.1
  have hpo:=E5 (x:=x) hkey hsz;have eN:rI.q ⟨n,p,r,k,val,has⟩=kN { n with rs:=n.rs.eraseIdx k,t:=p5 n.t x.tok,s:=Y4 (LM n.s (iR x (fB val has))) } x.w 0 (fB val has) has:=by
   unfold rI.q Yv r7;dsimp only;rw[<- hx,if_pos hf]
  have hfl:jH n.s.fl p.p.fl:=hat.st.fl;have hpu:=hput hsz;have hpu:kK (iR x (fB val has))=true->uC n.s.fl (aL (some (iR x (fB val has)))).length:=fun _=>hpu;obtain⟨hq1,hq2⟩:=hdev hsz;refine⟨Lu.mk n.s.fl p.p.fl (iR x (fB val has)),?_⟩
  and_intros<;>first|exact bY|exact hfl|exact hpu|(intro h_;revert h_)|exact bZ|skip
  rintro b2 ⟨q1,q2⟩;have he:((if kK (iR x (fB val has))=true then(0:Int)else 1) == 0)=true:=by rw[if_pos hpo];rfl
  refine⟨he,(ou n.s.fl (iR x (fB val has))).d,?_⟩
  and_intros<;>first|exact bY|exact hq1|exact hq2|(intro h_;revert h_)|exact bZ|skip
  intro _ _;obtain⟨w1,w2⟩:=hat1.st.put q1 q2;have hat2:=hat1.store w1 w2;refine⟨mW.mk { n with rs:=n.rs.eraseIdx k,t:=p5 n.t x.tok } { p with rc:=c } x.w 0 (fB val has) has,?_⟩
  and_intros<;>first|exact bY|exact hkl|exact hv|(intro h_;revert h_)|exact bZ|skip
  rintro⟨mc,rc⟩ _;refine⟨nV.mk { p with rc:=c,p:=p.p.Cc b2 } 0 mc rc,?_⟩;dsimp only;rw[eN];dsimp only[kN]
  and_intros<;>first|exact bY|exact hat2|(intro h_;revert h_)|exact bZ|skip
 ·have hf:nQ n r x val has=false:=hb.symm.trans hbf;have eN:rI.q ⟨n,p,r,k,val,has⟩=kN { n with rs:=n.rs.eraseIdx k,t:=p5 n.t x.tok } x.w 0 (fB val has) has:=by
   unfold rI.q Yv r7;dsimp only;rw[<- hx,if_neg (by rw[hf];decide)]
  refine⟨mW.mk { n with rs:=n.rs.eraseIdx k,t:=p5 n.t x.tok } { p with rc:=c } x.w 0 (fB val has) has,?_⟩
  and_intros<;>first|exact bY|exact hkl|exact hv|(intro h_;revert h_)|exact bZ|skip
  rintro⟨mc,rc⟩ _;refine⟨nV.mk { p with rc:=c } 0 mc rc,?_⟩;dsimp only;rw[eN];dsimp only[kN]
  and_intros<;>first|exact bY|exact hat1|(intro h_;revert h_)|exact bZ|skip)
theorem Wt:au (Y Tryz.prog).G.X 25 Wr:=aU fF Ws ⟨Wp,VP,E0,UZ,ja,EZ,trivial⟩
def wQ(n:cW)(ep:Int):MetaM:=⟨n.s.k.m.bN,ep,0,false⟩
def SM(n:cW)(ep tick:Int):cW:={ n with s:=Og (FF n.s) (wQ n ep),le:=tF n.now ⟨0,0,0⟩ tick ep,t:=iP n.t zZ,ws:=W2 }
structure nR where
 n:cW
 p:gZ
 fZ:Int
 ep:Int
 tick:Int
 l:List Int
 cap:Nat
def nR.q(a:nR):cW:=SM a.n a.ep a.tick
structure E7 where
 p:gZ
 c1:Nat
 c2:Nat
def pn(ep:Int)(l:List Int)(c1 c2:Nat):Rg.ga:=⟨ep,l,c1,Rg.kj l,c2⟩
structure Qr(a:nR):Prop where
 at_:eM a.n a.p
 msg:B9 (J1 a.n a.fZ a.ep a.tick)
 mem:Rg.gO a.l=true
 ws:a.n.ws=[]
 ep:1<=a.ep/\a.ep<=1099511627776/\a.n.s.k.m.aZ<a.ep/\a.n.s.k.m.ready=0
 now:a.n.now<1000000000000000
 zG:a.n.t.l.length<1000
 fl:uC a.n.s.fl 1/\(iM a.n.s.fl [2]).d.n<100000/\(iM a.n.s.fl [2]).d.calls<900000000000
 k:a.n.s.k.s.at_+1<(FF a.n.s).d.n/\a.n.s.k.s.slot<=1/\(FF a.n.s).d.n<100000/\(FF a.n.s).d.calls<900000000000/\0<=a.n.s.k.s.fL/\a.n.s.k.s.fL<1000000000000
 save:gY a.n.s.k (wQ a.n a.ep)=true
theorem pY.abd{s s':mu}{p:vl}(h:pY s p){b:sY}(h1:jH s'.fl b)(h2:vk p.fl b)(hj:s'.jL=s.jL)(hm:s'.ms=s.ms):pY s' (p.Cc b)/\Eu p.H (bB p.cy) (bB p.jy) (p.Cc b):=by
 have hh:∀z∈bB p.jy,b.H z=p.H z/\z∉bB b.y:=fun z hz=>h2 z (h.jl.dom z hz) (h.sep z hz);exact⟨⟨⟨h1.log,h1.idx⟩,by rw[hj];exact h.jl.frame fun z hz=>(hh z hz).1,fun z hz=>(hh z hz).2,by rw[hm];exact h.cap⟩,fun z hz hc hjz=>⟨(h2 z hz hc).1,(h2 z hz hc).2,hjz⟩⟩
theorem SF{x:Ix.cT}(h:Ix.Has x []):Ix.keysOf x.t=[]:=by
 have:=h.perm.length_eq;unfold Ix.keysOf;rw[List.eq_nil_of_length_eq_zero this];rfl
noncomputable def Qs:cG where
 α:=nR
 β:=E7
 m:=22
 m':=33
 pre:=Qr
 args:=fun a=>[.a (.ptr 0 0 0 0),.agg (abM 2 (.int .i64 a.fZ) (.int .i64 a.n.id) (.int .i64 a.ep) (.int .i64 a.tick) (.lit .i64 0) (.lit .i64 0) p6 (.slc 21 0 1 a.l.length a.cap))]
 hp:=fun a=>L8 .nil .cc .cc 0 7 1 3 4 5 6 8 9 10 11 12 13 14 15 16 17 18 19 20 a.n a.p++[(1,Yn 2 a.n.le)]
 ro:=fun a=>[(2,VV a.n.now),(21,.arr 3 [.int .i64] a.l.length (aa Rg.encI a.l))]
 post:=fun a b=>eM a.q b.p
 res:=fun _ _=>.agg [.slc 31 0 21 0 0,.slc 32 0 6 0 0]
 cR:=fun a b=>L8 (.ptr 22 0 0 0) .cc .cc 0 7 1 3 4 26 6 8 9 10 11 27 28 14 15 16 17 18 29 30 a.q b.p++[(1,Yn 2 a.q.le)]++We 22 23 24 (pn a.ep a.l b.c1 b.c2)
noncomputable def aad:List (Nat×cG):=[(55,Ql),(56,Rg.yq),(99,OR),(142,Of),(100,Jo),(151,Rg.OI),(152,Rg.OC),(194,Ix.VF),(107,JB)]
def x7(x:nR)(y:E7):Rg.ga:=pn x.ep x.l y.c1 y.c2
def OV(z:nR):=ai z.ep->ai z.n.s.k.m.aZ->(z.ep == z.n.s.k.m.aZ)=false/\(ai z.n.s.k.m.ready->aC (z.ep != z.n.s.k.m.ready)/\∃u:Qc,aA (aA (vf z.n.s.cL u.m.L z.p.p.cy.lv u.p.y.lv (gP z.n.s.d u.m.d (zQ z.p.p.x u.p.x z.p.p.xc u.p.cap (z.p.p.H=u.p.H/\(jH u.m u.p/\uC u.m 1/\ku (iM u.m (oD 2)).d)/\∀h:sY,jH (jN u.m) h/\vk u.p h->ai z.n.s.k.m.bN->∃w:Jn,ag (Et z.n.s.k.m.bN w.m z.ep (0=0) (Er z.n.s.k w.k z.p.p.kc w.cap (gP (jN u.m).d w.d (Bj w/\∀o:Nat,True->fR (aK z.ep 1) False (aK 1099511627776 z.ep) (rA z.l z.cap fun r=>aB (bq (Rg.gO r.l)=false/\rA z.l z.cap fun c=>∀A:Nat,True->rA z.l z.cap fun B=>∀C:Nat,True->∃i:Ix.vj,ag (zQ h.x i.x h.cap i.cap (cq i.x<100000/\∀E:Nat,True->af (bl (Ix.keysOf i.x.t))=(0:Int)/\∃v:LV,ag (zc z.n v.t z.p v.mb h.H v.H (gU v.H v.t/\v.t.l.length<100000) (∀j:PH×Int,(yZ j v.t zZ fun D=>v.H D)->af (bX z.n.ws)=(0:Int)/\(ai z.tick->ai z.ep->∃f:GY,ag (z.tick=f.sent/\z.ep=f.ep/\Bp 0 f.l 0 (z.n.now=f.now) (f.now<(1000000000000000:Int)/\aB (∃g:E7,ag (0=0)/\ag (0=0)/\j.fst=g.p.p.H/\gF v.mb (iP v.t zZ)=gF g.p.mb z.q.t/\aA (z.n.id=z.q.id/\aA (lG (0=bX z.q.ws/\0=g.p.wc) z.n z.q z.p g.p z.n.asked ((iP v.t zZ).last=z.q.t.last /\
 nL v.mb g.p.mb/\bX z.q.ws=0/\oG z.q.rs z.n.rs/\tE (tF f.now f.l f.sent f.ep) z.q.le (z.ep=Rg.ga.e (x7 z g)) (wM c.l (x7 z g) A (Rg.kj B.l) C (aA (ag (z.n.s.bN=z.q.s.bN/\wB (jN u.m) z.q.s h g.p.p (iO w.k w.d w.m) z.n.s.ms z.p.p.jc z.n.s.jL z.p.p.jy (nJ w.k w.m) o (eM z.q g.p/\True))))))))))))))))))))))))))))
def zf(x y:Int)(z:Prop):=ai x->aD (x != y) False z
theorem Wu:fnBody (Y Tryz.prog) aad 16 Qs fun _=>[(16,[],[.isI 4 5 0 OS,.Yu 0 [(22,false),(48,true)] (.mk 60 [] [.isI 4 5 0 OS])]),(57,[],[.W3 0 28 false OS]),(98,[],[.Yu 0 [(20,false),(40,true)] (.mk 60 [] [.W3 0 40 true (.mk 60 [] [.isI 15 85 0 OS]),.isI 15 85 0 OS]),.isI 15 85 0 OS]),(104,[],[.isI 2 15 0 (.mk 60 [] [.W3 0 30 false OS]),.W3 0 30 false OS]),(103,[],[.W3 0 15 false OS])]:=fnBody.of (p :=
 ∀x:nR,Qr x->ai x.n.id->zf x.n.id x.n.id (∃y:z7,By 2 y.m x.fZ x.n.id x.ep x.tick 0 p6 0 (false=y.m.last/\BX p6 y.m.item p6 0 false (cU x.l y.l x.cap y.cap) ((0:Int)=y.m.base) (dQ y.l x.l Rg.encI/\Bx y/\aB (bq (p9 y)=false/\x.n.s.k.m.ready=(0:Int)/\rA x.l x.cap fun z=>aB (aD (Rg.gO z.l) (ai x.ep->aX x.ep x.n.s.k.m.aZ False (ai x.ep->aD (x.ep == x.n.s.k.m.aZ) (OV x) (OV x))) (∃u:E7,ag (0=0)/\ag (0=0)/\mQ x.p u.p x.n x.q (aA (x.n.id=x.q.id/\False))))))))) (by kernel_rfl) (by
 delta aD ah ai bF aG bn gF ki aK cq x7 af bX bl nL tE dG bf gA aC BX cH fV wM dQ fR bp aB eH wB OV ku mI oG rq mQ fS p9 ag rA aX By lG aA cU bq rD zf oD Bj gi zc Bp yZ Bx Et
 try dsimp -iota -proj only
 intro a ok;obtain⟨n,p,fZ,ep,tick,l,cap⟩:=a;obtain⟨hat,hm,hl,hws,⟨e1,e2,e3,e4⟩,hnow,hfew,⟨f1,f2,f3⟩,⟨k1,k2,k3,k4,k5,k6⟩,hsv⟩:=ok;dsimp only at *;have ho:l=[]\/Rg.gO l=true:=.inr hl;have hl1:l.length<100000:=by have:=Rg.ET hl;omega
 have hz:(!decide ((J1 n fZ ep tick).key.size<=40))=false:=rfl;have hne:(ep == n.s.k.m.aZ)=false:=by rw[beq_eq_false_iff_ne];omega
 refine fun _ _=>⟨fun c=>by simp at c,fun _=>⟨z7.mk (J1 n fZ ep tick) l cap,?_⟩⟩
 and_intros<;>first|exact bY|exact hm|exact ho|(intro h_;revert h_)|exact bZ|skip
 intro _ _;refine⟨hz,e4,⟨l,cap⟩,?_⟩
 and_intros<;>first|exact bY|exact hl1|(intro h_;revert h_)|exact bZ|skip
 intro _ _;refine⟨fun _ _=>⟨fun c=>by(have:=of_decide_eq_true c;omega),fun _ _=>⟨fun c=>absurd (c.symm.trans hne) (by decide),fun _ _ _=>⟨hne,fun _=>⟨?_,Qc.mk n.s.fl p.p.fl,?_⟩⟩⟩⟩,fun c=>by(rw[hl]at c;cases c)⟩
 ·rw[e4];simp;omega
 have hfl:jH n.s.fl p.p.fl:=hat.st.fl;have f4:(iM n.s.fl [2]).d.calls<1000000000000:=by omega
 and_intros<;>first|exact bY|exact hfl|exact f1|exact f2|exact f4|(intro h_;revert h_)|exact bZ|skip
 rintro b ⟨b1,b2⟩ _;refine⟨Jn.mk n.s.k p.p.kc (jN n.s.fl).d (wQ n ep),?_⟩
 and_intros<;>first|exact bY|exact k1|exact k2|exact k3|exact k4|exact k5|exact k6|(intro h_;revert h_)|exact bZ|skip
 intro kc _;have hN:(!Rg.gO l)=false:=by rw[hl];rfl
 refine⟨fun c=>by(have:=of_decide_eq_true c;omega),fun _=>⟨fun c=>by(have:=of_decide_eq_true c;omega),fun _=>⟨⟨l,cap⟩,?_⟩⟩⟩
 and_intros<;>first|exact bY|exact hl1|(intro h_;revert h_)|exact bZ|skip
 intro _ _;refine⟨hN,⟨l,cap⟩,?_⟩
 and_intros<;>first|exact bY|exact hl1|(intro h_;revert h_)|exact bZ|skip
 intro c1 _;refine⟨⟨l,cap⟩,?_⟩
 and_intros<;>first|exact bY|exact hl1|(intro h_;revert h_)|exact bZ|skip
 intro c2 _;have hks:=SF b1.idx;have hlen:b.x.t.length<100000:=by have:=b1.idx.inv.hi;omega
 refine⟨Ix.vj.mk b.x b.cap p6,?_⟩
 and_intros<;>first|exact bY|exact hlen|(intro h_;revert h_)|exact bZ|skip
 intro _ _;have hk0:((Ix.keysOf b.x.t).length:Int)=0:=by rw[hks];rfl
 obtain⟨w1,w2⟩:=hat.st.abd (s':=FF n.s) b1 b2 rfl rfl;have w3:pY (Og (FF n.s) (wQ n ep)) { p.p.Cc b with kc:=kc }:=⟨⟨w1.fl.log,w1.fl.idx⟩,w1.jl,w1.sep,w1.cap⟩
 have hat1:=hat.store w3 w2;have hf2:n.t.l.length<100000:=by omega
 have htk:gU b.H n.t:=hat1.tok;refine⟨hk0,LV.mk p.mb n.t b.H,?_⟩
 and_intros<;>first|exact bY|exact htk|exact hf2|(intro h_;revert h_)|exact bZ|skip
 rintro⟨H1,cnt⟩ ⟨q1,q2⟩;have hat2:=hat1.Y8 q1 q2;have hw0:(n.ws.length:Int)=0:=by rw[hws];rfl
 refine⟨hw0,fun _ _=>⟨GY.mk ⟨0,0,0⟩ n.now tick ep,?_⟩⟩
 and_intros<;>first|exact bY|exact hnow|(intro h_;revert h_)|exact bZ|skip
 intro _ _;refine⟨E7.mk ⟨{ p.p.Cc b with kc:=kc,H:=H1 },p.mb,0,p.rc⟩ c1 c2,?_⟩;have hat3:eM (SM n ep tick) ⟨{ p.p.Cc b with kc:=kc,H:=H1 },p.mb,0,p.rc⟩:=⟨hat2.st,hat2.tok,hat2.sep,Nat.le_refl 0,hat2.rc⟩
 have eN:nR.q ⟨n,p,fZ,ep,tick,l,cap⟩=SM n ep tick:=rfl;rw[eN];dsimp only
 and_intros<;>first|exact bY|exact hat3|(intro h_;revert h_)|exact bZ|skip)
theorem Mb:au (Y Tryz.prog).G.X 16 Qs:=aU fF Wu ⟨L5,Rg.rR,SE,R8,Gz,Rg.Sw,Rg.Sq,Ix.VH,Ot,trivial⟩
end Go.Proofs.YtfjgoonelcaggaaGreat
