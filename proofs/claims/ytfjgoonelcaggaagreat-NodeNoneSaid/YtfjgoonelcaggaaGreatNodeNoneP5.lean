/-
  
-/
import Derived.Test.YtfjgoonelcaggaaGreatNodeNoneP4
import Derived.Sort.KeysCollected
import Derived.Test.YtfjgoonelcaggaaGreatNodeNoneP2
import Derived.Below
import Derived.ChangeSame
import Derived.Carry
import Derived.ChangeArms
import Derived.OpenShut
import Derived.RowKit3
import Derived.Test.YtfjgoonelcaggaaGreatNodeNoneP3
import Derived.Shelf.SlSortCmp.WholeK
import Derived.Shelf.SlSortCmp.NoneTotal
import Derived.Test.YtfjgoonelcaggaaGreatProg
import Derived.ProofKit
import Derived.WalkKit
set_option maxRecDepth 100000
set_option maxHeartbeats 4000000
set_option linter.unusedVariables false
set_option linter.unusedSimpArgs false
namespace Go.Proofs.YtfjgoonelcaggaaGreat.Ix
open Go.Sx
def kO(b:ByteArray):List Value:=[.string b]
def tl(b:ByteArray):List UInt8:=b.data.toList
def vP(l:List ByteArray):List ByteArray:=((l.map tl).mergeSort fun x y=>decide (x<=y)).map fun x=>⟨x.toArray⟩
theorem Pz(l:List ByteArray):(vP l).map tl=(l.map tl).mergeSort fun x y=>decide (x<=y):=by
 unfold vP;rw[List.map_map];exact(List.map_congr_left fun x _=>by simp[tl]).trans (List.map_id _)
theorem Hp(l:List ByteArray):(vP l).length=l.length:=by simp[vP]
theorem Jt(l:List ByteArray):(l.map tl).map (fun x=>(⟨x.toArray⟩:ByteArray))=l:=by
 rw[List.map_map];refine(List.map_congr_left fun x _=>?_).trans (List.map_id _);cases x;simp[tl]
theorem L0(l:List ByteArray):(vP l).Perm l:=by
 have:=(List.mergeSort_perm (l.map tl) fun x y=>decide (x<=y)).map fun x=>(⟨x.toArray⟩:ByteArray)
 rwa[Jt]at this
theorem Tj:ak (Y Tryz.prog).G.X 227 (xZ 9 .str Value.string vP):=fun _ _ _ h =>
 ve (Ti (enc2:=encStr) (to:=tl) (srt2:=fun l=>l.mergeSort fun x y=>decide (x<=y)) (fun x=>by cases x;simp[tl,encStr]) Pz Hp (fun l x hx=>(L0 l).mem_iff.1 hx)
  (fun blk off cap l w h1 h2 h3=>Tryz.slices_Sort_string blk off cap l w h1 h2 h3) (fun p cap w=>Tryz.slices_Sort_string_none p cap w)) h
def keysOf(t:List bl):List ByteArray:=(ee t).map Prod.fst
noncomputable def Tk:cF where
 α:=uA
 β:=Nat
 m:=2
 m':=3
 pre:=fun a=>a.x.t.length<100000
 args:=fun _=>[.a (.ptr 0 0 0 0)]
 hp:=fun _=>[]
 ro:=fun a=>oG 0 1 a.x.t a.cap a.x.n a.x.used
 post:=fun _ _=>True
 res:=fun a cap=>.a (.slc 2 0 1 (keysOf a.x.t).length cap)
 cS:=fun a _=>[(2,.arr 9 [.str] (keysOf a.x.t).length (aa kO (vP (keysOf a.x.t))))]
def Ys(a:uA):An:=.flat 5 (Nat×Nat) (fun s x=>((s.new (.arr 9 [.str] (keysOf (a.x.t.take x.1)).length (aa kO (keysOf (a.x.t.take x.1))))).set 3 (.a (.slc s.nx 0 1 (keysOf (a.x.t.take x.1)).length x.2))).int 13 x.1) (fun _ x=>x.1<=a.x.t.length) (fun _ x=>a.x.t.length-x.1)
theorem Ju{t:List bl}{i:Nat}(h:i<t.length):keysOf (t.take (i+1))=keysOf (t.take i)++if(gl t i).has then[(gl t i).key]else[]:=by
 unfold keysOf;rw[gh h,xR,List.map_append,oT];cases(gl t i).has<;>simp[ee,mC]
theorem EK(t:List bl):(keysOf t).length<=t.length:=by
 unfold keysOf ee;simp only[List.length_map];exact List.length_filter_le _ _
def _root_.oz(y:Nat×Nat)(z:Ix.uA):List ByteArray:=Ix.keysOf (List.take y.fst z.x.t)
def _root_.Hq(y:List ByteArray)(u:Nat×Nat)(z:Nat×Nat->List ByteArray)(w s:Nat)(v:ByteArray->List Value)(t:ByteArray)(f:Nat×Nat->Prop):=gH (aZ y) 16 u.snd fun g=>iT u fun x=>ag (aZ y+1=aZ (z x)/\g=x.snd)/\ja w s (ag (iS (aZ (z x)) (aZ y) 1 (aa v y) (bG (bF t)) (aa v (z x))/\f x))
theorem Tl:fnBody (Y Tryz.prog) [(227,xZ 9 .str Value.string vP)] 194 Tk fun a=>[(194,[Ys a],[])]:=fnBody.of (p :=
 ∀y:Ix.uA,bI y.x<100000->(∃z:Nat×Nat,aK z.fst ((0=aZ (oz z y)/\0=z.snd)/\ja (bI y.x) y.cap (ag (aZ (oz z y)=0/\zb (bI y.x) y.cap y.x.n y.x.used y.x.t (z.fst<=bI y.x/\True)))))/\∀z:Nat×Nat,gi z.fst (bI y.x) (aG (Ix.bl.has (jH y.x.t z.fst)) (Hq (oz z y) z (fun u=>oz u y) (bI y.x) y.cap Ix.kO (Ix.bl.key (jH y.x.t z.fst)) fun u=>zb (bI y.x) y.cap y.x.n y.x.used y.x.t (bS u.fst (bI y.x) z.fst)) (iT z fun u=>ag (aZ (oz z y)=aZ (oz u y)/\z.snd=u.snd)/\ja (bI y.x) y.cap (ag (CQ (oz u y) (oz z y) Ix.kO/\zb (bI y.x) y.cap y.x.n y.x.used y.x.t (bS u.fst (bI y.x) z.fst))))) (∃u:NN ByteArray,ia (aZ (oz z y)) (aZ u.l) z.snd u.cap 1 (aa Ix.kO (oz z y)) (aa (fun v=>bG (bF v)) u.l) (aZ u.l<100000) (aI (∃v:Nat,ag (aZ (oz z y)=aZ (Ix.keysOf y.x.t)/\z.snd=v)/\bg (bB (aZ (Ix.keysOf y.x.t)) (aZ u.l) 1 (aa (fun w=>bG (bF w)) (Ix.vP u.l)) (aa Ix.kO (Ix.vP (Ix.keysOf y.x.t)))))))) (by kernel_rfl) (by
 delta aG bB cC ai bR az aH gq bI aA cn af aZ bO bG aF aU bn bP eM dK jt aI ja iS gH aV bp bS bF iT ia aP oz aW aK bf Hq ag dJ zb bg bx gi CQ jE jH
 try dsimp -iota -proj only
 intro a h;refine⟨⟨(0,0),?_⟩,fun x hx=>⟨fun c1=>?_,fun c1=>?_⟩⟩
 ·dsimp only;have e:keysOf (a.x.t.take 0)=[]:=rfl;rw[e]
  and_intros<;>first|rfl|trivial|exact Nat.le_refl _|omega|(dsimp only;omega)|exact aj.refl _ _ _
 ·obtain⟨i,cap0⟩:=x;simp only[decide_eq_true_eq]at c1;have hi:i<a.x.t.length:=by omega
  have hle:=EK (a.x.t.take i);rw[List.length_take]at hle;have hst:=Ju hi;simp only[Nat.zero_add,Int.toNat_natCast,bQ];refine⟨by omega,by omega,fun hh=>⟨by omega,by omega,by omega,fun cap _ _ _=>⟨by omega,⟨(i+1,cap),?_⟩⟩⟩,fun hh=>⟨by omega,⟨(i+1,cap0),?_⟩⟩⟩
  ·rw[hh]at hst;dsimp only;rw[hst]
   and_intros<;>first|rfl|trivial|exact Nat.le_refl _|omega|(dsimp only;omega)|exact aj.refl _ _ _|(simp;done)|exact .push rfl (by simp) rfl
  ·rw[hh]at hst;simp only[Bool.false_eq_true,if_false,List.append_nil]at hst;dsimp only;rw[hst]
   and_intros<;>first|rfl|trivial|exact Nat.le_refl _|omega|(dsimp only;omega)|exact aj.refl _ _ _
 ·obtain⟨i,cap0⟩:=x;simp only[decide_eq_false_iff_not]at c1
  have hi : i = a.x.t.length := by have : i ≤ a.x.t.length := hx
                                   omega
  subst hi;have hle:=EK a.x.t;rw[List.take_length];refine⟨⟨keysOf a.x.t,cap0⟩,?_⟩
  and_intros<;>first|rfl|trivial|exact Nat.le_refl _|omega|(dsimp only;omega)|exact aj.refl _ _ _|skip
  refine fun _ _=>⟨cap0,?_⟩
  and_intros<;>first|rfl|trivial|exact Nat.le_refl _|omega|(dsimp only;omega)|exact aj.refl _ _ _)
theorem Tm:ak (Y Tryz.prog).G.X 194 Tk:=aT fF Tl ⟨Tj,trivial⟩
end Go.Proofs.YtfjgoonelcaggaaGreat.Ix
namespace Go.Proofs.YtfjgoonelcaggaaGreat
open Go.Sx
def NO(get:ByteArray->Option aD)(o:Option aD):ByteArray->Option aD:=match o with
 |none=>fun _=>none
 |some x=>AJ get x.key (if x.gone then none else some x)
def gE(es:List (Option aD)):ByteArray->Option aD:=es.foldl NO fun _=>none
theorem vt(es:List (Option aD))(o:Option aD):gE (es++[o])=NO (gE es) o:=by simp[gE]
structure mE(m:nC)(n:Nat)(rs:List RecM)(es:List (Option aD)):Prop where
 one:qq m n rs (gE es)
 len:es.length=rs.length
 body:∀i,i<es.length->(gl rs i).body=aC (gl es i)/\∀x,gl es i=some x->fH x=true
theorem EL{rs:List RecM}{es:List (Option aD)}{p:Int}{x:aD}(hl:es.length=rs.length)(h:∀i,i<es.length->(gl rs i).body=aC (gl es i)/\∀x,gl es i=some x->fH x=true)(hx:fH x=true) :
 (es++[some x]).length=(rs++[(⟨p,aC (some x)⟩:RecM)]).length/\∀i,i<(es++[some x]).length->(gl (rs++[(⟨p,aC (some x)⟩:RecM)]) i).body=aC (gl (es++[some x]) i)/\∀z,gl (es++[some x]) i=some z->fH z=true:=by
 refine⟨by simp[hl],fun i hi=>?_⟩;rw[List.length_append,List.length_singleton]at hi;rw[ko hi,ko (by rw[<- hl];exact hi),hl];by_cases hin:i<rs.length
 ·rw[if_pos hin,if_pos hin];exact h i (by omega)
 ·rw[if_neg hin,if_neg hin];exact⟨rfl,fun z e=>by cases e;exact hx⟩
theorem mE.put{m:nC}{n:Nat}{rs:List RecM}{es:List (Option aD)}(h:mE m n rs es){x:aD}(hx:jQ x=true)(hn:m.L.next<9999999999)(hfit:(dW rs).length+8+(aC (some x)).length<=378) :
 mE (nk m x) (n+20) (rs++[⟨m.L.next,aC (some x)⟩]) (es++[some x])/\(nk m x).L.next=m.L.next+1/\(nk m x).L.au=m.L.au/\(nk m x).L.from_=m.L.from_:=by
 have hx2:fH x=true/\x.gone=false:=by unfold jQ at hx;simpa using hx
 obtain⟨h1,h2⟩:=h.one.put hx hn hfit;obtain⟨b1,b2⟩:=EL (p:=m.L.next) h.len h.body hx2.1;refine⟨⟨?_,b1,b2⟩,h2⟩;rw[vt];simp only[NO,hx2.2];exact h1
theorem mE.drop{m:nC}{n:Nat}{rs:List RecM}{es:List (Option aD)}(h:mE m n rs es){k:ByteArray}(hk:dM k=true)(hn:m.L.next<9999999999)(hfit:(dW rs).length+8+(aC (some (iB k))).length<=378) :
 mE (nP m k) (n+20) (rs++[⟨m.L.next,aC (some (iB k))⟩]) (es++[some (iB k)])/\(nP m k).L.next=m.L.next+1/\(nP m k).L.au=m.L.au/\(nP m k).L.from_=m.L.from_:=by
 obtain⟨h1,h2⟩:=h.one.drop hk hn hfit;obtain⟨b1,b2⟩:=EL (p:=m.L.next) h.len h.body (zn hk);refine⟨⟨?_,b1,b2⟩,h2⟩;rw[vt];exact h1
theorem mE.new{fr sg:Nat}{d:bw}{n:Nat}{run:Int}(h3:3<=sg/\sg<=200)(hr:fr+sg*8<=d.n)(hn:d.n<100000)(hc:d.calls<=n)(hd:xX fr sg none run d):mE (newF fr sg d) n [] []:=⟨qq.new h3 hr hn hc hd,rfl,fun i hi=>absurd hi (Nat.not_lt_zero i)⟩
theorem zI(L:bL)(d:bw)(body:List Int):(nJ L d body).n=d.n:=by
 have h1:(kr L d body.length).n=d.n:=by unfold kr;split<;>rfl
 have h2:=(sr (dr L body.length) (IW (jP (dr L body.length)) (dr L body.length).next body) (jP (dr L body.length)).buf.length (kr L d body.length) 8).1;unfold nJ qo;split
 ·exact h2.trans h1
 ·exact h2.trans h1
theorem CS{n:Int}(h:n.toNat<64):(vi n).length=1:=by
 have:=uB 0 n (by simp;omega);have:=(iD n).1;omega
theorem CT{x:aD}(h1:x.key.size<64)(h2:x.val.size<64)(h3:x.e=0):(aC (some x)).length=x.key.size+x.val.size+5:=by
 have a1:(vi (x.key.size:Nat)).length=1:=CS (by omega);have a2:(vi (x.val.size:Nat)).length=1:=CS (by omega);have a3:(vi x.e).length=1:=CS (by rw[h3];decide);have a4:(vi (if x.gone then 1 else 0)).length=1:=by split<;>exact CS (by decide)
 simp only[aC,List.length_cons,cW,eE,gI,List.flatMap_cons,List.flatMap_nil,List.append_nil,List.length_append,iO];omega
theorem EM{L:bL}{g:dw}{i:Nat}(hi:i<8)(h3:1<=L.au):L.from_<=jN L g i/\jN L g i<L.from_+L.au*8:=by
 have:=Nat.mod_lt (g.gen-1).toNat (show 0<L.au by omega);unfold jN;omega
theorem x6{L:bL}{g:dw}{was:Nat}{d:bw}(h3:1<=L.au){r j:Nat}(hr:r<L.from_\/L.from_+L.au*8<=r):∀n,n<=8->(cZ L g was d n).now r j=d.now r j
 |0,_=>rfl
 |n+1,hn=>by
  have ih:=x6 (g:=g) (was:=was) (d:=d) h3 (j:=j) hr n (by omega);have hs:=EM (L:=L) (g:=g) (i:=n) (by omega) h3;unfold cZ;split
  ·show(if r=jN L g n/\j<64 then _ else(cZ L g was d n).now r j)=_;rw[if_neg (by omega)];exact ih
  ·exact ih
theorem CU{L:bL}{d:bw}{body:List Int}(h3:1<=L.au){r j:Nat}(hr:r<L.from_\/L.from_+L.au*8<=r):(nJ L d body).now r j=d.now r j:=by
 have e1:(dr L body.length).from_=L.from_/\(dr L body.length).au=L.au:=by unfold dr;split<;>exact⟨rfl,rfl⟩
 have e2:(kr L d body.length).now r j=d.now r j:=by
  unfold kr;split
  ·have hs:=EM (L:=L) (g:=bk L) (i:=0) (by omega) h3;show(if r=jN L (bk L) 0/\j<64 then _ else d.now r j)=_;rw[if_neg (by omega)]
  ·rfl
 have e3:(qo (dr L body.length) (kr L d body.length) body).now r j=d.now r j:=by
  unfold qo;rw[x6 (by rw[e1.2];exact h3) (by rw[e1.1,e1.2];exact hr) 8 (Nat.le_refl _)];exact e2
 unfold nJ;split
 ·exact e3
 ·exact e3
theorem gN.dev'{L:bL}{d d':bw}{n n':Nat}{rs:List RecM}(h:gN L d n rs)(hd:∀r,L.from_<=r->r<L.from_+L.au*8->∀j,j<64->d'.now r j=d.now r j)(hn:d'.n=d.n)(hc:d'.calls<=n'):gN L d' n' rs :=
 ⟨h.au,by rw[hn];exact h.room,by rw[hn];exact h.size,hc,h.next,h.run,h.good,h.sort,h.fits,h.H7,⟨fun i hi j hj=>by rw[hd _ (by omega) (by have:=h.au;omega) j hj];exact h.dev.sec i hi j hj,fun r h1 h2 j hj=>by rw[hd r (by omega) h2 j hj];exact h.dev.rest r h1 h2 j hj⟩⟩
theorem mE.dev'{L:bL}{d d':bw}{l:List (ByteArray×Int)}{n n':Nat}{rs:List RecM}{es:List (Option aD)}(h:mE ⟨L,d,l⟩ n rs es)(hd:∀r,L.from_<=r->r<L.from_+L.au*8->∀j,j<64->d'.now r j=d.now r j)(hn:d'.n=d.n)(hc:d'.calls<=n'):mE ⟨L,d',l⟩ n' rs es :=
 ⟨⟨h.one.log.dev' hd hn hc,⟨h.one.has.rd,h.one.has.pos,h.one.has.all⟩,h.one.xL⟩,h.len,h.body⟩
structure uI(k:qp)(d:bw):Prop where
 at_:k.s.at_=0
 slot:k.s.slot<=1
 eW:1<=k.s.eW/\k.s.eW<1000000000
 text:k.s.text=eu k.m
 may:mL k.m=true
 this:∀j,j<64->d.now k.s.slot j=wQ k.s.eW k.s.text j
 other:(∀j,j<64->d.now (1-k.s.slot) j=0)\/∃n m,0<=n/\n<k.s.eW/\mL m=true/\∀j,j<64->d.now (1-k.s.slot) j=wQ n (eu m) j
theorem uI.dev'{k:qp}{d d':bw}(h:uI k d)(hd:∀r,r<2->∀j,j<64->d'.now r j=d.now r j):uI k d' :=
 ⟨h.at_,h.slot,h.eW,h.text,h.may,fun j hj=>by rw[hd _ (by have:=h.slot;omega) j hj];exact h.this j hj,by
  rcases h.other with h1 | ⟨n,m,h1,h2,h3,h4⟩
  ·exact .inl fun j hj=>by rw[hd _ (by omega) j hj];exact h1 j hj
  ·exact .inr ⟨n,m,h1,h2,h3,fun j hj=>by rw[hd _ (by omega) j hj];exact h4 j hj⟩⟩
theorem uI.save{k:qp}{d:bw}{m:MetaM}(h:uI k d)(hs:gj k m=true)(ht:k.s.eW<900000000):uI (mD k m) (gV k d m)/\(mD k m).m=m/\(mD k m).s.eW=k.s.eW+1/\(gV k d m).n=d.n/\(gV k d m).calls=d.calls+2/\∀r,2<=r->∀j,(gV k d m).now r j=d.now r j:=by
 have e1:mD k m=⟨G7 k.s (1-k.s.slot) (k.s.eW+1) (eu m),m⟩:=if_pos hs;have e2:gV k d m=AH k.s d (1-k.s.slot) (k.s.eW+1) (eu m):=if_pos hs;have hm:mL m=true:=by unfold gj at hs;simp only[Bool.and_eq_true]at hs;exact hs.1
 have h2:=h.slot;have h0:=h.at_;have hnow:∀r j,(AH k.s d (1-k.s.slot) (k.s.eW+1) (eu m)).now r j=if r=1-k.s.slot/\j<64 then wQ (k.s.eW+1) (eu m) j else d.now r j:=fun r j=>by
  show(if r=k.s.at_+(1-k.s.slot)/\j<64 then _ else _)=_;rw[h0,Nat.zero_add]
 rw[e1,e2];refine⟨⟨h0,by show 1-k.s.slot<=1;omega,by have:=h.eW;show 1<=k.s.eW+1/\k.s.eW+1<_;omega,rfl,hm,fun j hj=>?_,.inr ⟨k.s.eW,k.m,by have:=h.eW;omega,by show k.s.eW<k.s.eW+1;omega,h.may,fun j hj=>?_⟩⟩,rfl,rfl,rfl,rfl,fun r hr j=>?_⟩
 ·show(AH k.s d (1-k.s.slot) (k.s.eW+1) (eu m)).now (1-k.s.slot) j=_;rw[hnow,if_pos ⟨rfl,hj⟩];rfl
 ·show(AH k.s d (1-k.s.slot) (k.s.eW+1) (eu m)).now (1-(1-k.s.slot)) j=_;rw[hnow,if_neg (by omega),show 1-(1-k.s.slot)=k.s.slot by omega,h.this j hj,h.text]
 ·rw[hnow,if_neg (by omega)]
def CW(x:eH):RecM:=⟨x.pos,dF x.seq x.key⟩
structure dI(s:kY)(n:Nat)(es:List (Option aD))(cb jb:Nat):Prop where
 fl:∃cr,mE s.fl n cr es/\(dW cr).length<=cb
 jl:gN s.jL s.d n (s.ms.map CW)
 jb:(dW (s.ms.map CW)).length<=jb
 ms:∀i,i<s.ms.length->(gl s.ms i).seq=(i:Int)+1/\dM (gl s.ms i).key=true
 nx:s.cL.next<=n/\s.jL.next<=n/\s.k.s.eW<=n
 W8:s.cL.from_=162/\s.cL.au=iK s.d.n/\s.jL.from_=2/\s.jL.au=20
 dn:192<=s.d.n/\s.d.n<3000
 keep:uI s.k s.d
 bM:s.bM=s.k.m.bM
theorem A8{n:Nat}(h:192<=n):3<=iK n/\iK n<=200/\162+iK n*8<=n:=by unfold iK;omega
def Jv(s:kY)(x:aD):kY:={ s with d:=(nk s.fl x).d,cL:=(nk s.fl x).L,cl:=(nk s.fl x).l }
def Tn(s:kY)(k:ByteArray):kY:={ s with d:=(nP s.fl k).d,cL:=(nP s.fl k).L,cl:=(nP s.fl k).l }
def NP(s:kY)(k:ByteArray):kY:={ s with d:=(Jm s.jr k).d,jL:=(Jm s.jr k).L,ms:=(Jm s.jr k).ms }
def V5(s:kY):kY:={ s with d:=fZ s.d }
theorem dI.cache{s:kY}{n:Nat}{es:List (Option aD)}{cb jb:Nat}(h:dI s n es cb jb){m:nC}{body:List Int}{o:Option aD}{cr:List RecM}{w:Nat}(hn:n<900000000)
 (h1:mE m (n+20) cr (es++[o])) (hb:(dW cr).length<=cb+w) (hd:m.d=nJ s.cL s.d body) (hx:m.L.next=s.cL.next+1) (hs:m.L.au=s.cL.au/\m.L.from_=s.cL.from_) :
 dI { s with d:=m.d,cL:=m.L,cl:=m.l } (n+20) (es++[o]) (cb+w) jb:=by
 obtain⟨g1,g2,g3,g4⟩:=h.W8;obtain⟨s1,s2,s3⟩:=A8 h.dn.1;have hdn:m.d.n=s.d.n:=by rw[hd];exact zI _ _ _
 have hcl:m.d.calls<=n+20:=h1.one.log.calls;have hout:∀r,r<162->∀j,m.d.now r j=s.d.now r j:=fun r hr j=>by rw[hd];exact CU (by omega) (.inl (by omega))
 have hnx:=h.nx;exact⟨⟨cr,h1,hb⟩,h.jl.dev' (fun r _ h2 j _=>hout r (by omega) j) hdn hcl,h.jb,h.ms,by dsimp only;rw[hx];push_cast;omega,⟨by rw[hs.2];exact g1,by dsimp only;rw[hs.1,hdn];exact g2,g3,g4⟩,by dsimp only;rw[hdn];exact h.dn,h.keep.dev' fun r hr j _=>hout r (by omega) j,h.bM⟩
theorem dI.put{s:kY}{n:Nat}{es:List (Option aD)}{cb jb:Nat}(h:dI s n es cb jb){x:aD}(hx:jQ x=true){w:Nat}(hw:8+(aC (some x)).length<=w)(hn:n<900000000)(hfit:cb+w<=378) :
 dI (Jv s x) (n+20) (es++[some x]) (cb+w) jb/\tq s.fl (aC (some x)).length:=by
 obtain⟨cr,hf,hb⟩:=h.fl;have hnx:s.fl.L.next<=n:=h.nx.1
 obtain⟨f1,f2,f3,f4⟩:=hf.put hx (by omega) (by omega);have hd:(nk s.fl x).d=nJ s.cL s.d (aC (some x)):=by unfold nk;rw[if_pos hx];rfl
 exact⟨h.cache hn f1 (by rw[lM,List.length_append,vp];dsimp only;omega) hd f2 ⟨f3,f4⟩,hf.one.ok (by omega) (by omega)⟩
theorem dI.Yt{s:kY}{n:Nat}{es:List (Option aD)}{cb jb:Nat}(h:dI s n es cb jb){k:ByteArray}(hk:dM k=true){w:Nat}(hw:8+(aC (some (iB k))).length<=w)(hn:n<900000000)(hfit:cb+w<=378) :
 dI (Tn s k) (n+20) (es++[some (iB k)]) (cb+w) jb/\tq s.fl (aC (some (iB k))).length:=by
 obtain⟨cr,hf,hb⟩:=h.fl;have hnx:s.fl.L.next<=n:=h.nx.1
 obtain⟨f1,f2,f3,f4⟩:=hf.drop hk (by omega) (by omega);exact⟨h.cache hn f1 (by rw[lM,List.length_append,vp];dsimp only;omega) rfl f2 ⟨f3,f4⟩,hf.one.ok (by omega) (by omega)⟩
theorem dI.flush{s:kY}{n:Nat}{es:List (Option aD)}{cb jb:Nat}(h:dI s n es cb jb):dI (V5 s) (n+1) es cb jb:=by
 obtain⟨cr,hf,hb⟩:=h.fl;have hc:=hf.one.log.calls;have hc:(fZ s.d).calls<=n+1:=by show s.d.calls+1<=_;have:s.d.calls<=n:=hc;omega
 have hnx:=h.nx;exact⟨⟨cr,hf.dev' (fun _ _ _ _ _=>rfl) rfl hc,hb⟩,h.jl.dev' (fun _ _ _ _ _=>rfl) rfl hc,h.jb,h.ms,by dsimp only[V5];push_cast;omega,h.W8,h.dn,h.keep.dev' fun _ _ _ _=>rfl,h.bM⟩
theorem dI.seq{s:kY}{n:Nat}{es:List (Option aD)}{cb jb:Nat}(h:dI s n es cb jb):gL s.ms=s.ms.length:=by
 unfold gL;split
 ·rename_i h0;rw[h0];rfl
 ·rename_i h0;rw[(h.ms _ (by omega)).1];omega
theorem dI.len{s:kY}{n:Nat}{es:List (Option aD)}{cb jb:Nat}(h:dI s n es cb jb):s.ms.length<=42:=by
 have:=h.jl.len;rwa[List.length_map]at this
theorem dI.Zb{s:kY}{n:Nat}{es:List (Option aD)}{cb jb:Nat}(h:dI s n es cb jb){k:ByteArray}(hk:dM k=true){w:Nat}(hw:8+(dF (s.ms.length+1) k).length<=w)(hn:n<900000000)(hfit:jb+w<=378) :
 dI (NP s k) (n+20) es cb (jb+w)/\ud s.jL s.d/\(NP s k).ms=s.ms++[⟨s.ms.length+1,k,s.jL.next⟩]:=by
 obtain⟨g1,g2,g3,g4⟩:=h.W8;obtain⟨s1,s2,s3⟩:=A8 h.dn.1;have hsq:=h.seq;have hkl:=nQ hk;have hv:=iD ((s.ms.length:Int)+1);have hbl:1<=(dF (s.ms.length+1) k).length/\(dF (s.ms.length+1) k).length<=300:=by unfold dF;rw[List.length_append,iO];omega
 have hnx:=h.nx;have hjb:=h.jb;obtain⟨l1,l2,l3,l4⟩:=h.jl.append (body:=dF (s.ms.length+1) k) hbl (by omega) (by omega);have e:NP s k={ s with d:=nJ s.jL s.d (dF (s.ms.length+1) k),jL:=lI s.jL (dF (s.ms.length+1) k),ms:=s.ms++[⟨s.ms.length+1,k,s.jL.next⟩] }:=by
  have:Jm s.jr k=⟨lI s.jL (dF (s.ms.length+1) k),nJ s.jL s.d (dF (s.ms.length+1) k),s.ms++[⟨s.ms.length+1,k,s.jL.next⟩]⟩:=by
   unfold Jm;rw[show gL s.jr.ms=s.ms.length from hsq];rfl
  show({ s with d:=_,jL:=_,ms:=_ }:kY)=_;rw[this]
 have hout:∀r,(r<2\/162<=r)->∀j,(nJ s.jL s.d (dF (s.ms.length+1) k)).now r j=s.d.now r j:=fun r hr j=>CU (by omega) (by omega);have hdn:(nJ s.jL s.d (dF (s.ms.length+1) k)).n=s.d.n:=zI _ _ _;have hm:(s.ms++[(⟨s.ms.length+1,k,s.jL.next⟩:eH)]).map CW=s.ms.map CW++[⟨s.jL.next,dF (s.ms.length+1) k⟩]:=by simp[CW]
 obtain⟨cr,hf,hb⟩:=h.fl;refine⟨?_,h.jl.V4 (by omega),by rw[e]⟩;rw[e];refine⟨⟨cr,hf.dev' (fun r h1 _ j _=>hout r (.inr (by have:s.fl.L.from_=162:=g1;omega)) j) hdn l1.calls,hb⟩,by dsimp only;rw[hm];exact l1,by dsimp only;rw[hm,lM,List.length_append,vp];dsimp only;omega,fun i hi=>?_,by dsimp only;rw[l2];push_cast;omega,⟨g1,by dsimp only;rw[hdn];exact g2,by dsimp only;rw[l4];exact g3,by dsimp only;rw[l3];exact g4⟩,by dsimp only;rw[hdn];exact h.dn,h.keep.dev' fun r hr j _=>hout r (.inl hr) j,h.bM⟩;have hi:i<s.ms.length+1:=by simpa using hi
 dsimp only;rw[ko hi];by_cases hl:i<s.ms.length
 ·rw[if_pos hl];exact h.ms i hl
 ·rw[if_neg hl];have:i=s.ms.length:=by omega
  subst this;exact⟨rfl,hk⟩
theorem NQ{L:bL}{d:bw}{n:Nat}{rs:List RecM}(h:gN L d n rs):L.l.length<=1:=by
 obtain⟨base,_,_,hl⟩:=h.H7;rw[hl];cases rs with
 |nil=>exact Nat.zero_le _
 |cons r rs=>exact Nat.le_refl _
theorem NR{fr sg:Nat}{d:bw}{n:Nat}{run:Int}(h3:3<=sg/\sg<=200)(hr:fr+sg*8<=d.n)(hn:d.n<100000)(hc:d.calls<=n)(hd:xX fr sg none run d):mE ⟨⟨fr,sg,[],1,1,true⟩,d,[]⟩ n [] []/\gN ⟨fr,sg,[],1,1,true⟩ d n []:=⟨mE.new h3 hr hn hc hd,(mE.new h3 hr hn hc hd).one.log⟩
theorem AO{d:bw}{c:Nat}(hn:192<=d.n/\d.n<3000)(hc:d.calls<=c)(hc2:c<900000000)(H:PH) :
 xW.pre ⟨d,H⟩/\dI (ku (ry ⟨d,H⟩)) (c+d.n+100) [] 0 0/\(ku (ry ⟨d,H⟩)).k.m=⟨1,0,0,false⟩/\(ku (ry ⟨d,H⟩)).ms=[]/\(∀r,(ku (ry ⟨d,H⟩)).d.loose r=false)/\(∀r j,(ku (ry ⟨d,H⟩)).d.Eb r j=(ku (ry ⟨d,H⟩)).d.now r j)/\(ku (ry ⟨d,H⟩)).d.n=d.n:=by
 obtain⟨D0,hD0⟩:∃D,D=ov (eF d d.n) 0 (eu A7):=⟨_,rfl⟩
 have hnow:∀r j,j<64->r<d.n->D0.now r j=if r=0 then wQ 1 (eu A7) j else 0:=fun r j hj hr=>by
  rw[hD0];show(if r=0+0/\j<64 then wQ 1 (eu A7) j else if r=0+1/\j<64 then 0 else if r=0/\j<64 then 0 else if r<d.n/\j<64 then 0 else d.now r j)=_;by_cases h0:r=0
  ·rw[if_pos (by omega),if_pos h0]
  ·rw[if_neg (by omega),if_neg h0];by_cases h1:r=1
   ·rw[if_pos (by omega)]
   ·rw[if_neg (by omega),if_neg (by omega),if_pos (by omega)]
 have hDn:D0.n=d.n:=by rw[hD0];rfl
 have hDc:D0.calls<=c+d.n+5:=by rw[hD0];show d.calls+d.n+1+1+1+1+1<=_;omega
 have hK:uI (jw 0) D0:=⟨rfl,by decide,by decide,rfl,rfl,fun j hj=>by
  rw[show(jw 0).s.slot=0 from rfl,hnow 0 j hj (by omega),if_pos rfl];rfl,.inl fun j hj=>by
  rw[show 1-(jw 0).s.slot=1 from rfl,hnow 1 j hj (by omega),if_neg (by omega)]⟩
 have hs:gj (jw 0) (nR A7)=true:=by decide
 obtain⟨k1,k2,k3,k4,k5,k6⟩:=hK.save hs (by decide);obtain⟨D,hD⟩:∃D,D=gV (jw 0) D0 (nR A7):=⟨_,rfl⟩
 have hDD:D=fZ (fW D0 (0+1) 64 (wQ 2 (eu (nR A7)))):=by rw[hD];unfold gV;rw[if_pos hs];rfl
 rw[<- hD]at k1 k4 k5 k6;obtain⟨s1,s2,s3⟩:=A8 hn.1;have hz:∀r,2<=r->r<d.n->∀j,j<64->D.now r j=0:=fun r h1 h2 j hj=>by rw[k6 r h1 j,hnow r j hj h2,if_neg (by omega)]
 have hd1:xX 2 20 none 1 D:=⟨fun i hi j hj=>hz _ (by omega) (by omega) j hj,fun r h1 h2 j hj=>hz r (by omega) (by omega) j hj⟩
 have hd2:xX 162 (iK d.n) none 1 D:=⟨fun i hi j hj=>hz _ (by omega) (by omega) j hj,fun r h1 h2 j hj=>hz r (by omega) (by omega) j hj⟩
 obtain⟨a1,a2⟩:=EI hd1 (by omega) (by omega) (by omega);obtain⟨b1,b2⟩:=EI hd2 (by omega) (by omega) (by omega);have e0:ry ⟨d,H⟩=⟨jw 0,0,D0,H,[],[]⟩:=by rw[hD0];rfl
 have e1:ku (ry ⟨d,H⟩)=⟨D,⟨162,iK d.n,[],1,1,true⟩,[],⟨2,20,[],1,1,true⟩,[],mD (jw 0) (nR A7),1⟩:=by
  rw[e0];show(⟨gV (jw 0) D0 (nR A7),cK 162 (iK D0.n) (gV (jw 0) D0 (nR A7)),_,cK 2 20 (gV (jw 0) D0 (nR A7)),_,_,_⟩:kY)=_;rw[<- hD,hDn,a2,b2];rfl
 obtain⟨n1,_⟩:=NR (n:=c+d.n+100) (d:=D) ⟨s1,s2⟩ (by omega) (by omega) (by omega) hd2;obtain⟨_,n2⟩:=NR (n:=c+d.n+100) (d:=D) (show 3<=20/\20<=200 by omega) (by omega) (by omega) (by omega) hd1;refine⟨⟨hn.1,by show d.n<100000;omega,by show d.calls<_;omega,?_⟩,?_,?_,?_,?_,?_,?_⟩
 ·rw[e0];refine⟨by dsimp only;omega,by dsimp only;omega,hs,⟨rfl,by show(0:Nat)<=1;omega,by show(0:Int)<=1;omega,by show(1:Int)<1000000000000;omega⟩,fun H=>?_,fun H=>?_⟩
  ·show zz.pre ⟨H,gV (jw 0) D0 (nR A7),2,20,[]⟩;rw[<- hD];refine⟨Nat.le_refl _,a1,?_,?_⟩
   ·rw[show cK (vA.mk H D 2 20 []).from_ (vA.mk H D 2 20 []).au (vA.mk H D 2 20 []).d=_ from a2];exact⟨rfl,by show(0:Nat)<9000;omega,fun i hi=>absurd hi (Nat.not_lt_zero i),fun i hi=>absurd hi (Nat.not_lt_zero _)⟩
   ·rw[show cK (vA.mk H D 2 20 []).from_ (vA.mk H D 2 20 []).au (vA.mk H D 2 20 []).d=_ from a2];exact fun i hi=>absurd hi (Nat.not_lt_zero i)
  ·show zu.pre ⟨H,gV (jw 0) D0 (nR A7),162,iK D0.n,[]⟩;rw[<- hD,hDn];refine⟨b1,?_,?_⟩
   ·rw[show cK (kS.mk H D 162 (iK d.n) []).from_ (kS.mk H D 162 (iK d.n) []).au (kS.mk H D 162 (iK d.n) []).d=_ from b2];exact⟨rfl,by show(0:Nat)<9000;omega,fun i hi=>absurd hi (Nat.not_lt_zero i)⟩
   ·rw[show cK (kS.mk H D 162 (iK d.n) []).from_ (kS.mk H D 162 (iK d.n) []).au (kS.mk H D 162 (iK d.n) []).d=_ from b2];exact fun i hi=>absurd hi (Nat.not_lt_zero i)
 all_goals rw[e1]
 ·exact⟨⟨[],n1,Nat.le_refl _⟩,n2,Nat.le_refl _,fun i hi=>absurd hi (Nat.not_lt_zero i),by dsimp only;rw[k3];show _/\_/\(1:Int)+1<=_;omega,⟨rfl,by dsimp only;rw[k4,hDn],rfl,rfl⟩,by dsimp only;rw[k4,hDn];exact hn,k1,by dsimp only;rw[k2];rfl⟩
 ·exact k2
 ·rw[hDD];exact fun _=>rfl
 ·rw[hDD];exact fun _ _=>rfl
 ·exact k4.trans hDn
def nU(s:kY)(ks:List ByteArray)(i:Nat):kY:={ s with d:=(dc s.jr ks i).d,jL:=(dc s.jr ks i).L,ms:=(dc s.jr ks i).ms }
def sF(s:kY)(ks:List ByteArray)(i:Nat):kY:={ s with d:=(fU s.fl ks i).d,cL:=(fU s.fl ks i).L,cl:=(fU s.fl ks i).l }
structure W9(s:kY)(n:Nat)(es:List (Option aD))(cb jb:Nat)(ks:List ByteArray)(i:Nat):Prop where
 one:dI (nU s ks i) n es cb jb
 len:(nU s ks i).ms.length=s.ms.length+i
 ok:∀j,j<i->ud (dc s.jr ks j).L (dc s.jr ks j).d/\0<=gL (dc s.jr ks j).ms/\gL (dc s.jr ks j).ms<1000000000000
 key:∀j,j<i->(gl (nU s ks i).ms (s.ms.length+j)).key=gl ks j
 dn:(nU s ks i).d.n=s.d.n
theorem dI.Xa{s:kY}{n:Nat}{es:List (Option aD)}{cb jb:Nat}(h:dI s n es cb jb){ks:List ByteArray}(hK:∀i,i<ks.length->dM (gl ks i)=true){w:Nat}(hw:∀i,i<ks.length->8+(dF (s.ms.length+i+1) (gl ks i)).length<=w)(hn:n+20*ks.length<900000000)(hfit:jb+w*ks.length<=378) :
 ∀i,i<=ks.length->W9 s (n+20*i) es cb (jb+w*i) ks i
 |0,_=>⟨h,rfl,fun j hj=>absurd hj (Nat.not_lt_zero j),fun j hj=>absurd hj (Nat.not_lt_zero j),rfl⟩
 |i+1,hi=>by
  have ih:=dI.Xa h hK hw hn hfit i (by omega);have hl:=ih.len;have hfit2:jb+w*i+w<=378:=by
   have:w*(i+1)<=w*ks.length:=Nat.mul_le_mul_left w hi;rw[Nat.mul_add,Nat.mul_one]at this;omega
  have hw2:8+(dF ((nU s ks i).ms.length+1) (gl ks i)).length<=w:=by
   have:=hw i (by omega);rw[hl];push_cast;exact this
  obtain⟨a1,a2,a3⟩:=ih.one.Zb (hK i (by omega)) hw2 (by omega) hfit2;have e:nU s ks (i+1)=NP (nU s ks i) (gl ks i):=rfl;have hsq:=ih.one.seq;have hlen:=ih.one.len;refine⟨by rw[e,show n+20*(i+1)=n+20*i+20 by omega,show jb+w*(i+1)=jb+w*i+w by rw[Nat.mul_add];omega];exact a1,by rw[e,a3,List.length_append,hl];rfl,fun j hj=>?_,fun j hj=>?_,?_⟩
  ·by_cases ej:j=i
   ·subst ej;refine⟨a2,?_⟩;show 0<=gL (nU s ks j).ms/\gL (nU s ks j).ms<_;rw[hsq];omega
   ·exact ih.ok j (by omega)
  ·rw[e,a3,ko (by omega)];by_cases ej:j=i
   ·subst ej;rw[if_neg (by omega)]
   ·rw[if_pos (by omega)];exact ih.key j (by omega)
  ·rw[e,<- ih.dn];exact zI _ _ _
structure Vx(s:kY)(n:Nat)(es:List (Option aD))(cb jb:Nat)(ks:List ByteArray)(i:Nat):Prop where
 one:dI (sF s ks i) n es cb jb
 ok:∀j,j<i->tq (fU s.fl ks j) (aC (some (iB (gl ks j)))).length
 dn:(sF s ks i).d.n=s.d.n
theorem dI.V6{s:kY}{n:Nat}{es:List (Option aD)}{cb jb:Nat}(h:dI s n es cb jb){ks:List ByteArray}(hK:∀i,i<ks.length->dM (gl ks i)=true){w:Nat}(hw:∀i,i<ks.length->8+(aC (some (iB (gl ks i)))).length<=w)(hn:n+20*ks.length<900000000)(hfit:cb+w*ks.length<=378) :
 ∀i,i<=ks.length->Vx s (n+20*i) (es++(ks.take i).map fun q=>some (iB q)) (cb+w*i) jb ks i
 |0,_=>⟨by rw[List.take_zero,List.map_nil,List.append_nil];exact h,fun j hj=>absurd hj (Nat.not_lt_zero j),rfl⟩
 |i+1,hi=>by
  have ih:=dI.V6 h hK hw hn hfit i (by omega);have hfit2:cb+w*i+w<=378:=by
   have:w*(i+1)<=w*ks.length:=Nat.mul_le_mul_left w hi;rw[Nat.mul_add,Nat.mul_one]at this;omega
  obtain⟨a1,a2⟩:=ih.one.Yt (hK i (by omega)) (hw i (by omega)) (by omega) hfit2;have e:sF s ks (i+1)=Tn (sF s ks i) (gl ks i):=rfl;have es':es++(ks.take (i+1)).map (fun q=>some (iB q))=es++(ks.take i).map (fun q=>some (iB q))++[some (iB (gl ks i))]:=by
   rw[oS (by omega)];simp
  refine⟨by rw[e,es',show n+20*(i+1)=n+20*i+20 by omega,show cb+w*(i+1)=cb+w*i+w by rw[Nat.mul_add];omega];exact a1,fun j hj=>?_,?_⟩
  ·by_cases ej:j=i
   ·subst ej;exact a2
   ·exact ih.ok j (by omega)
  ·rw[e,<- ih.dn];exact zI _ _ _
theorem dI.Jw{s:kY}{n:Nat}{es:List (Option aD)}{cb jb:Nat}(h:dI s n es cb jb):dD (cu s.jL) s.ms=s.ms:=Jj fun i hi=>by
 have hm:CW (gl s.ms i)∈s.ms.map CW:=List.mem_map.2 ⟨_,by rw[bN hi];exact List.getElem_mem _,rfl⟩;exact h.jl.rd.first hm
structure Xb(s:kY)(n:Nat)(es:List (Option aD))(cb jb:Nat)(ks:List ByteArray):Prop where
 one:dI (jR s ks) n es cb jb
 len:(jR s ks).ms.length=s.ms.length+ks.length
 seq:gL (gM s.jr ks).ms=s.ms.length+ks.length
 key:∀j,j<ks.length->(gl (jR s ks).ms (s.ms.length+j)).key=gl ks j
 dn:(jR s ks).d.n=s.d.n
 k:(jR s ks).k=s.k/\(jR s ks).bM=s.bM
 still:(∀r,(jR s ks).d.loose r=false)/\∀r j,(jR s ks).d.Eb r j=(jR s ks).d.now r j
theorem PA{s:kY}{n:Nat}{es:List (Option aD)}{cb jb:Nat}(h:dI s n es cb jb){ks:List ByteArray}(hA:fq ks=true){w:Nat}(hw:∀i,i<ks.length->8+(dF (s.ms.length+i+1) (gl ks i)).length<=w)(hn:n+20*ks.length<900000000)(hfit:jb+w*ks.length<=378)(hl:ks.length<=20) :
 dI (lq s ks) (n+20*ks.length+1) es cb (jb+w*ks.length)/\(lq s ks).ms=(nU s ks ks.length).ms/\(lq s ks).d.n=s.d.n/\(lq s ks).k=s.k/\(lq s ks).bM=s.bM/\(∀p kc,bT p.H p.y s.jL->s.ms.length<=p.cap->EC.pre ⟨s.jr,p,ks,kc⟩):=by
 have hK:∀i,i<ks.length->dM (gl ks i)=true:=fun i hi=>List.all_eq_true.1 hA (gl ks i) (by rw[bN hi];exact List.getElem_mem _);have ha:=h.Xa hK hw hn hfit ks.length (Nat.le_refl _);have hpre:∀p kc,bT p.H p.y s.jL->s.ms.length<=p.cap->EC.pre ⟨s.jr,p,ks,kc⟩:=fun p kc h1 h2=>by
  have l1:=NQ h.jl;have l2:=NQ ha.one.jl;have l3:=h.len;have hd:=h.dn;obtain⟨cr,hf,_⟩:=ha.one.fl;have hc:=hf.one.log.calls;refine⟨h1,by show s.jL.l.length<800;omega,by show ks.length<1000;omega,by show s.ms.length<50000;omega,h2,fun _=>⟨ha.ok,?_,?_,?_⟩⟩
  ·show(nU s ks ks.length).d.n<_;rw[ha.dn];omega
  ·show(nU s ks ks.length).d.calls<_;have:(nU s ks ks.length).d.calls<=n+20*ks.length:=hc;omega
  ·show(nU s ks ks.length).jL.l.length<_;omega
 by_cases h0:ks.length=0
 ·have e:lq s ks=s:=by
   have:gM s.jr ks=⟨s.jL,s.d,s.ms⟩:=by
    unfold gM;rw[if_pos hA,if_pos h0];show(⟨s.jL,s.d,dD (cu s.jL) s.ms⟩:H9)=_;rw[h.Jw]
   unfold lq;rw[this]
  rw[e,h0];obtain⟨cr,hf,hcb⟩:=h.fl;have hc:=hf.one.log.calls;have hc:s.d.calls<=n:=hc;have hnx:=h.nx;refine⟨⟨⟨cr,hf.dev' (fun _ _ _ _ _=>rfl) rfl (by show s.d.calls<=_;omega),hcb⟩,h.jl.dev' (fun _ _ _ _ _=>rfl) rfl (by omega),h.jb,h.ms,by push_cast;omega,h.W8,h.dn,h.keep,h.bM⟩,rfl,rfl,rfl,rfl,hpre⟩
 ·have e:lq s ks=V5 (nU s ks ks.length):=by
   have:gM s.jr ks=⟨(dc s.jr ks ks.length).L,fZ (dc s.jr ks ks.length).d,(dc s.jr ks ks.length).ms⟩:=by
    unfold gM;rw[if_pos hA,if_neg h0];show(⟨(dc s.jr ks ks.length).L,fZ (dc s.jr ks ks.length).d,dD (cu (dc s.jr ks ks.length).L) (dc s.jr ks ks.length).ms⟩:H9)=_;rw[show dD (cu (dc s.jr ks ks.length).L) (dc s.jr ks ks.length).ms=(dc s.jr ks ks.length).ms from ha.one.Jw]
   unfold lq;rw[this];rfl
  rw[e];exact⟨ha.one.flush,rfl,ha.dn,rfl,rfl,hpre⟩
theorem dI.kill{s:kY}{n:Nat}{es:List (Option aD)}{cb jb:Nat}(h:dI s n es cb jb){ks:List ByteArray}(hA:fq ks=true){wj wc:Nat}(hwj:∀i,i<ks.length->8+(dF (s.ms.length+i+1) (gl ks i)).length<=wj)(hwc:∀i,i<ks.length->8+(aC (some (iB (gl ks i)))).length<=wc)(hn:n<800000000)(hfj:jb+wj*ks.length<=378)(hfc:cb+wc*ks.length<=378)(hl:ks.length<=20) :
 (∀p kc,zG ⟨s,p,ks,kc⟩)/\Xb s (n+40*ks.length+2) (es++ks.map fun q=>some (iB q)) (cb+wc*ks.length) (jb+wj*ks.length) ks:=by
 have hK:∀i,i<ks.length->dM (gl ks i)=true:=fun i hi=>List.all_eq_true.1 hA (gl ks i) (by rw[bN hi];exact List.getElem_mem _);have ha:=h.Xa hK hwj (by omega) hfj ks.length (Nat.le_refl _);obtain⟨j1,j2,j3,j4,j5,j6⟩:=PA h hA hwj (by omega) hfj hl;have hd:=j1.V6 hK hwc (by omega) hfc ks.length (Nat.le_refl _);have ek:jR s ks=V5 (sF (lq s ks) ks ks.length):=by
  unfold jR;rw[if_pos hA];unfold NI nq;rw[if_pos hA];rfl
 have hms:(jR s ks).ms=(nU s ks ks.length).ms:=by rw[ek];exact j2
 refine⟨fun p kc=>⟨by show ks.length<1000;omega,fun _ q h1 h2=>j6 q kc h1 h2,fun _ q h1=>⟨h1,by show ks.length<1000;omega,fun _=>⟨hd.ok,?_,?_⟩⟩⟩,?_⟩
 ·show(sF (lq s ks) ks ks.length).d.n<_;rw[hd.dn,j3];have:=h.dn;omega
 ·show(sF (lq s ks) ks ks.length).d.calls<_;obtain⟨cr,hf,_⟩:=hd.one.fl;have hc:=hf.one.log.calls;have:(sF (lq s ks) ks ks.length).d.calls<=n+20*ks.length+1+20*ks.length:=hc;omega
 ·have h1:=hd.one.flush;rw[List.take_length,show n+20*ks.length+1+20*ks.length+1=n+40*ks.length+2 by omega,<- ek]at h1;refine⟨h1,by rw[hms];exact ha.len,?_,fun j hj=>by rw[hms];exact ha.key j hj,by rw[ek];show(sF (lq s ks) ks ks.length).d.n=_;rw[hd.dn,j3],by rw[ek];exact⟨j4,j5⟩,by rw[ek];exact⟨fun _=>rfl,fun _ _=>rfl⟩⟩;have h2:=h1.seq;rw[hms,ha.len]at h2;have:(gM s.jr ks).ms=(nU s ks ks.length).ms:=j2;rw[this,h2];push_cast;rfl
theorem dI.get{s:kY}{n:Nat}{es:List (Option aD)}{cb jb:Nat}(h:dI s n es cb jb)(k:ByteArray):O9 s.fl/\Cz s.fl k (gE es k):=by
 obtain⟨cr,hf,_⟩:=h.fl;exact⟨hf.one.has.Za,hf.one.has.gz k⟩
end Go.Proofs.YtfjgoonelcaggaaGreat
namespace Go.Sx
theorem en.below{w w':World}(h:en (fun _=>False) w w'):Go.RowKit.Below w.heap.size w w':=⟨h.os,h.tape,h.output,h.size,fun k hk=>h.block k hk id⟩
open Go.WideShapes Go.ChangeShapes in
theorem Hr{H:Type}{enc:TypeId×Value->H}{P:Program}{f:Func}{s:ChangeSpec}{apart fresh handsOn again:Bool}{W W':World}{args:Array Value}{v:Value}{ds gs:List (DataW H)}{pa:List MemPlace}
 (hW:DataW.Whole enc P f.params.toList s.vars apart W args.toList ds gs (pa++[]))
 (hres:∀(b:Nat) (sp:Nat->Bool) (hd:Bool),DataW.TrodAll enc P W' b sp hd f.resultTypes.toList (v.resultList f.resultTypes.size) (s.fn H (ds++gs)).results [])
 (hargs:∀sp:Nat->Bool,(∀p∈pa++[],sp p.block=true)->DataW.TrodAll enc P W' 0 sp true f.params.toList args.toList (s.fn H (ds++gs)).args pa)
 (hvars:∀sp:Nat->Bool,(∀p∈pa++[],sp p.block=true)->DataW.TrodVars enc P W' sp s.vars (s.fn H (ds++gs)).vars [])
 (hk:en (fun _=>False) W W')
 (hok:∀(j:Nat) (t:TypeId) (r:Value),f.resultTypes[j]? = some t->(v.resultList f.resultTypes.size)[j]? = some r->Value.okWide P W' .any 0 t r) :
 s.post enc P f apart fresh handsOn again W args v W':=by
 have hl:=hW.lt;have hall:∀p∈pa++[],(fun _=>true:Nat->Bool) p.block=true:=fun _ _=>rfl;have hold:∀p∈pa++[],(fun b=>decide (b<W.heap.size)) p.block=true:=fun p hp=>decide_eq_true (hl p hp);have hmem:∀p,p∈([]++pa)++[]->p∈pa++[]:=fun p hp=>by simpa using hp
 refine⟨ds,gs,pa++[],[],pa,[],hW,hres _ _ _,hargs _ hold,hvars _ hold,World.keptBut_mono (may:=(·∈pa++[])) (fun p hp=>⟨hp,.inr (by simpa using hp)⟩) (hk.below.frame _),fun _=>?_⟩;obtain⟨_,_,_,_,_,hz,hn⟩:=hW;refine⟨hok,_,_,([]++pa)++[],⟨[]++pa,[],trodAll_append (hargs _ hall) (hres _ _ _),hvars _ hall,rfl,fun b off hp=>?_,fun ha=>by simpa using hn ha⟩,fun p hp _=>by simpa using hp⟩;rw[hk.Xx _ (hl _ (hmem _ hp))];exact hz b off (hmem _ hp)
open Go.RowKit
def CX(P:Program)(g:TypeId->Option (List CK)):List Field->Nat->Option (List CK)
 |[],_=>some []
 |f::r,o=>match g f.type,CX P g r (o+P.cellsOf f.type)with
  |some ks,some l=>bif Nat.beq f.offset o&&Nat.beq ks.length (P.cellsOf f.type)then some (ks++l)else none
  |_,_=>none
def sG(dp:Bool)(P:Program):Nat->TypeId->Option (List CK)
 |0,_=>none
 |d+1,t=>match P.underlying t with
  |some (.slice _)=>bif dp then some [.deep]else none
  |some .bool=>some [.bool]
  |some (.int k)=>some [.int k]
  |some .string=>some [.str]
  |some (.struct fs)=>match CX P (sG dp P d) fs.toList 0 with
   |some ks=>bif Nat.beq ks.length (P.cellsOf t)then some ks else none
   |none=>none
  |some (.array n e)=>match sG dp P d e with
   |some ks=>bif Nat.beq ks.length (P.cellsOf e)&&Nat.beq (n*ks.length) (P.cellsOf t)then some (rep n ks)else none
   |none=>none
  |_=>none
def Hs(P:Program):Nat->TypeId->Option (List CK):=sG false P
structure uJ(ks:List CK)(cs:List Value):Prop where
 len:cs.length=ks.length
 ok:∀(j:Nat) (k:CK) (v:Value),ks[j]? = some k->cs[j]? = some v->k.ok v
theorem uJ.append{ks ls:List CK}{cs ds:List Value}(h:uJ ks cs)(g:uJ ls ds):uJ (ks++ls) (cs++ds):=by
 refine⟨by simp[h.len,g.len],fun j k v hk hv=>?_⟩;by_cases hj:j<ks.length
 ·rw[List.getElem?_append_left hj]at hk;rw[List.getElem?_append_left (by rw[h.len];exact hj)]at hv;exact h.ok j k v hk hv
 ·rw[List.getElem?_append_right (by omega)]at hk;rw[List.getElem?_append_right (by rw[h.len];omega),h.len]at hv;exact g.ok _ k v hk hv
section
variable {H:Type} {enc:TypeId×Value->H} {P:Program} {w:World} {base:Nat} {spare:Nat->Bool} {held:Bool}
theorem EN{g:TypeId->Option (List CK)}{n:Nat}{cs:List Value}
 (hg:∀t cs x ks,DataW.trod enc P w base spare held n t cs=some x->g t=some ks->uJ ks cs) :
 ∀(fs:List Field) (o:Nat) (ks:List CK),CX P g fs o=some ks->(∀f∈fs,∃x,DataW.trod enc P w base spare held n f.type ((cs.drop f.offset).take (P.cellsOf f.type))=some x)->o+ks.length=cs.length->uJ ks (cs.drop o)
 |[],o,ks,h,_,hl=>by
  simp[CX]at h;subst h;refine⟨by simp at hl ⊢;omega,fun j k v hk=>by simp at hk⟩
 |f::r,o,ks,h,hf,hl=>by
  simp only[CX]at h;split at h
  ·rename_i k1 l1 e1 e2;cases hb:(Nat.beq f.offset o&&Nat.beq k1.length (P.cellsOf f.type))
   ·rw[hb]at h;cases h
   rw[hb]at h;simp only[cond_true,Option.some.injEq]at h;subst h;simp only[Bool.and_eq_true]at hb;have ho:=Nat.eq_of_beq_eq_true hb.1;have hk:=Nat.eq_of_beq_eq_true hb.2;obtain⟨x,hx⟩:=hf f List.mem_cons_self;rw[ho]at hx;have h1:=hg _ _ _ _ hx e1;have h2:=EN hg r _ l1 e2 (fun f hf'=>hf f (List.mem_cons_of_mem _ hf')) (by rw[<- hk];simp at hl;omega);have e:cs.drop o=(cs.drop o).take (P.cellsOf f.type)++cs.drop (o+P.cellsOf f.type):=by
    rw[<- List.drop_drop,List.take_append_drop]
   rw[e];exact h1.append h2
  ·cases h
theorem To{ks:List CK}{cs:List Value}:∀(n:Nat) (o:Nat),(∀i,i<n->uJ ks ((cs.drop (o+i*ks.length)).take ks.length))->o+n*ks.length=cs.length->uJ (rep n ks) (cs.drop o)
 |0,o,_,hl=>⟨by simp at hl;simp[rep];omega,fun j k v hk=>by simp[rep]at hk⟩
 |n+1,o,h,hl=>by
  have h1:=h 0 (by omega);have h2:=To (ks:=ks) (cs:=cs) n (o+ks.length) (fun i hi=>by
   have:=h (i+1) (by omega);rwa[Nat.succ_mul,show o+(i*ks.length+ks.length)=o+ks.length+i*ks.length by omega]at this) (by rw[Nat.succ_mul]at hl;omega)
  have e:cs.drop o=(cs.drop o).take ks.length++cs.drop (o+ks.length):=by
   rw[<- List.drop_drop,List.take_append_drop]
  rw[e,rep];exact uJ.append (by simpa using h1) h2
theorem x7{dp:Bool}:∀(d n:Nat) (t:TypeId) (cs:List Value) (x:DataW H×List MemPlace) (ks:List CK),DataW.trod enc P w base spare held n t cs=some x->sG dp P d t=some ks->uJ ks cs
 |0,_,_,_,_,_,_,h=>by simp[sG]at h
 |d+1,n,t,cs,x,ks,hx,h=>by
  simp only[sG]at h;split at h
  ·rename_i e hu;cases dp with
   |false=>cases h
   |true =>
    simp only[cond_true,Option.some.injEq]at h;subst h;have one:∃v:Value,cs=[v]/\v.oneCell'=true:=by
     rcases DataW.trod_slice hu hx with⟨hv,_⟩ | ⟨a,len,cap,elems,rest,m,_,hv,_⟩<;>exact⟨_,hv,rfl⟩
    obtain⟨v,rfl,hv⟩:=one;refine⟨rfl,fun j k u hk hv'=>?_⟩;cases j with
    |zero=>simp at hk hv';subst hk hv';exact hv
    |succ j=>simp at hk
  ·rename_i hu;cases h;obtain⟨b,rfl,_⟩:=DataW.trod_bool hu hx;refine⟨rfl,fun j k v hk hv=>?_⟩;cases j with
   |zero=>simp at hk hv;subst hk hv;exact⟨b,rfl⟩
   |succ j=>simp at hk
  ·rename_i k hu;cases h;obtain⟨m,rfl,_,hw⟩:=DataW.trod_int hu hx;refine⟨rfl,fun j k' v hk hv=>?_⟩;cases j with
   |zero=>simp at hk hv;subst hk hv;exact⟨m,rfl,by rw[E6];simpa[Lit.wf]using hw⟩
   |succ j=>simp at hk
  ·rename_i hu;cases h;obtain⟨s,rfl,_,hs⟩:=DataW.trod_string hu hx;refine⟨rfl,fun j k' v hk hv=>?_⟩;cases j with
   |zero=>simp at hk hv;subst hk hv;exact⟨s,rfl,by unfold aq;unfold maxLen at hs;exact hs⟩
   |succ j=>simp at hk
  ·rename_i fs hu;obtain⟨xs,m,rfl,_,hl,hlen,hget⟩:=DataW.trod_struct hu hx;split at h
   ·rename_i ks' e;cases hb:Nat.beq ks'.length (P.cellsOf t)
    ·rw[hb]at h;cases h
    rw[hb]at h;cases h;have hb:=Nat.eq_of_beq_eq_true hb;have:=EN (enc:=enc) (w:=w) (base:=base) (spare:=spare) (held:=held) (n:=m) (cs:=cs) (fun t cs x ks h1 h2=>x7 d m t cs x ks h1 h2) fs.toList 0 ks e (fun f hf=>by
     obtain⟨i,hi,e⟩:=List.getElem_of_mem hf;have hi':i<fs.size:=by simpa using hi
     have h1:=hget i f (by rw[Array.getElem?_eq_getElem hi'];congr 1);rw[h1];exact⟨xs[i]'(by omega),List.getElem?_eq_getElem _⟩) (by omega)
    simpa using this
   ·cases h
  ·rename_i k e hu;obtain⟨xs,m,rfl,_,hl,hlen,hget⟩:=DataW.trod_array hu hx;split at h
   ·rename_i ks' e';cases hb:(Nat.beq ks'.length (P.cellsOf e)&&Nat.beq (k*ks'.length) (P.cellsOf t))
    ·rw[hb]at h;cases h
    rw[hb]at h;cases h;simp only[Bool.and_eq_true]at hb;have hb1:=Nat.eq_of_beq_eq_true hb.1;have hb2:=Nat.eq_of_beq_eq_true hb.2;have:=To (ks:=ks') (cs:=cs) k 0 (fun i hi=>by
     have h1:=hget i hi;rw[List.getElem?_eq_getElem (by omega)]at h1;rw[hb1,Nat.zero_add];exact x7 d m e _ _ _ h1 e') (by rw[hb2];omega)
    simpa using this
   ·cases h
  ·cases h
inductive RK where
 |c (k:CK)
 |s (e:TypeId) (ks:List CK)
inductive AK where
 |int (k:IntKind)
 |bool
 |str
 |agg (ks:List CK)
 |slc (e:TypeId) (ks:List CK)
 |Vy (fs:List RK)
def Tp(P:Program)(u:TypeId):Bool:=match P.underlying u with
 |some (.slice _)=>true
 |_=>false
def EO(P:Program)(d:Nat)(ts:List TypeId):List Field->Nat->Option (List RK)
 |[],_=>some []
 |f::r,o=>bif Nat.beq f.offset o then
  (match P.underlying f.type with
  |some (.slice e)=>match Hs P d e,ts[o]?,EO P d ts r (o+1)with
   |some ks,some u,some l=>bif Nat.beq ks.length (P.cellsOf e)&&(Nat.ble 1 ks.length&&(Nat.beq (P.cellsOf f.type) 1&&Tp P u))then some (.s e ks::l)else none
   |_,_,_=>none
  |_=>match Hs P d f.type,EO P d ts r (o+P.cellsOf f.type)with
   |some ks,some l=>bif Nat.beq ks.length (P.cellsOf f.type)then some (ks.map .c++l)else none
   |_,_=>none)else none
def Yu(P:Program)(d:Nat)(t:TypeId):Option AK :=
 match P.underlying t with
 |some .bool=>some .bool
 |some (.int k)=>some (.int k)
 |some .string=>some .str
 |some (.struct fs)=>match Hs P d t with
  |some ks=>some (.agg ks)
  |none=>match P.cellTypes P.depth t with
   |some ts=>match EO P d ts fs.toList 0 with
    |some l=>bif Nat.beq l.length (P.cellsOf t)&&Nat.beq ts.length (P.cellsOf t)then some (.Vy l)else none
    |none=>none
   |none=>none
 |some (.slice e)=>match sG true P d e with
  |some ks=>bif Nat.beq ks.length (P.cellsOf e)&&Nat.ble 1 ks.length then some (.slc e ks)else none
  |none=>none
 |_=>none
def CY(P:Program)(d:Nat):List TypeId->Option (List AK)
 |[]=>some []
 |t::r=>match Yu P d t,CY P d r with
  |some k,some l=>some (k::l)
  |_,_=>none
inductive RD where
 |a (x:A)
 |s (m n cap:Nat) (rows:Nat->Nat->Value)
inductive AD where
 |a (x:A)
 |agg (xs:List A)
 |slc (m n cap:Nat) (rows:Nat->Nat->Value)
 |Vy (xs:List RD)
def Zc:RK->RD->Prop
 |.c k,d=>∃v,d = .a (lC k v)/\k.ok v
 |.s _ ks,d=>∃n cap rows,d = .s ks.length n cap rows/\n<=cap/\cap<=aq/\∀i,i<n->∀(j:Nat) (k:CK),ks[j]? = some k->k.ok (rows i j)
def Jx:List RK->List RD->Prop
 |[],l=>l=[]
 |k::ks,l=>∃d r,l=d::r/\Zc k d/\Jx ks r
def Xc:Nat->List RD->List A
 |_,[]=>[]
 |n,.a x::r=>x::Xc n r
 |n,.s m l c _::r=>.slc n 0 m l c::Xc (n+1) r
def x8:Nat->List RK->List RD->List (Nat×Chunk)
 |n,.s e ks::r,.s _ l _ rows::q=>(n,.arr e ks l rows)::x8 (n+1) r q
 |n,_::r,_::q=>x8 n r q
 |_,_,_=>[]
def rN:List RD->Nat
 |[]=>0
 |.s _ _ _ _::r=>rN r+1
 |_::r=>rN r
def Zd:AK->AD->Prop
 |.int k,d=>∃n,d = .a (.int k n)/\bQ k n
 |.bool,d=>∃b,d = .a (.bool b)
 |.str,d=>∃s,d = .a (.str s)/\s.size<=aq
 |.agg ks,d=>∃r:Nat->Value,d = .agg (atoms r ks 0)/\∀(j:Nat) (k:CK),ks[j]? = some k->k.ok (r j)
 |.slc _ ks,d=>∃n cap rows,d = .slc ks.length n cap rows/\n<=cap/\cap<=aq/\∀i,i<n->∀(j:Nat) (k:CK),ks[j]? = some k->k.ok (rows i j)
 |.Vy fs,d=>∃xs,d = .Vy xs/\Jx fs xs
def Jy:List AK->List AD->Prop
 |[],l=>l=[]
 |k::ks,l=>∃d r,l=d::r/\Zd k d/\Jy ks r
def V7:Nat->List AD->List SV
 |_,[]=>[]
 |n,.a x::r=>.a x::V7 n r
 |n,.agg xs::r=>.agg xs::V7 n r
 |n,.slc m l c _::r=>.a (.slc n 0 m l c)::V7 (n+1) r
 |n,.Vy xs::r=>.agg (Xc n xs)::V7 (n+rN xs) r
def L3:Nat->List AK->List AD->List (Nat×Chunk)
 |n,.slc e ks::r,.slc _ l _ rows::s=>(n,.arr e ks l rows)::L3 (n+1) r s
 |n,.Vy fs::r,.Vy xs::s=>x8 n fs xs++L3 (n+rN xs) r s
 |n,_::r,_::s=>L3 n r s
 |_,_,_=>[]
def Ht:List AD->Nat
 |[]=>0
 |.slc _ _ _ _::r=>Ht r+1
 |.Vy xs::r=>Ht r+rN xs
 |_::r=>Ht r
theorem CZ{w:World}{base:Nat}{a:Addr}:∀ {n:Nat} {cs:List Value},w.cells? base a n=some cs->cs.length=n/\base<=a.block/\∀i,i<n->w.cell? (a.add i)=cs[i]?:=by
 intro n cs h;unfold World.cells? at h;split at h
 ·rename_i hb;have hl:=mapM_some_length h;refine⟨by simpa using hl,hb,fun i hi=>?_⟩;exact mapM_some_get h i i (by simp[hi])
 ·cases h
theorem Addr.Vz(a:Addr)(n:Nat)(h:a.spot=none):a.add n=⟨a.block,a.off+n,none⟩:=by
 unfold Addr.add;split
 ·subst_vars;cases a;simp_all
 ·cases a;simp_all
theorem EP{dp:Bool}{t e:TypeId}{ks:List CK}{d fuel:Nat}{v:Value}{dd:DataW H}{ps:List MemPlace}(ht:P.underlying t=some (.slice e))(hf:sG dp P d e=some ks)(hk:ks.length=P.cellsOf e)(hk1:1<=ks.length)
 (h:DataW.trod enc P w 0 (fun _=>true) held fuel t [v]=some (dd,ps)) (hz:∀b off,MemPlace.cell b off∈ps->w.frozen? ⟨b,off,none⟩=false) :
 ∃(p:Place) (n cap:Nat) (rows:Nat->Nat->Value),n<=cap/\cap<=aq/\(∀i,i<n->∀(j:Nat) (k:CK),ks[j]? = some k->k.ok (rows i j))/\(∀b,p.fp b->b<w.heap.size) /\
  (∀(ρ:Env) (T:Nat),T<ρ.n->ρ.pl T=p->(A.slc T 0 ks.length n cap).b8 ρ v)/\(∀(ρ:Env),(Chunk.arr e ks n rows).Sat ρ p w) /\
  ∀i,i<n->∃(m:Nat) (cs:List Value) (x:DataW H×List MemPlace),DataW.trod enc P w 0 (fun _=>true) held m e cs=some x/\(∀b off,MemPlace.cell b off∈x.2->w.frozen? ⟨b,off,none⟩=false)/\uJ ks cs/\∀j,j<ks.length->cs[j]? = some (rows i j):=by
 rcases DataW.trod_slice ht h with⟨hv,_⟩ | ⟨a,len,cap,elems,rest,m,rfl,hv,hx,_,hlc,hcm,hel,hget,hsp,_⟩
 ·cases hv;refine⟨xB,0,0,fun _ _=>undef,Nat.le_refl _,Nat.zero_le _,fun i hi=>absurd hi (Nat.not_lt_zero _),fun b hb=>hb.elim,fun ρ T hT _=>⟨hT,Nat.le_refl _,Nat.zero_le _,.inl ⟨rfl,rfl,rfl⟩⟩,fun ρ=>.inl ⟨rfl,rfl,fun b hb=>hb⟩,fun i hi=>absurd hi (Nat.not_lt_zero _)⟩
 ·cases hv;obtain⟨hr1,hr2⟩:=hsp rfl;by_cases hc0:cap=0
  ·subst hc0;have hl0:len=0:=by omega
   subst hl0;exact⟨⟨a.block,a.off,0,fun _=>False⟩,0,0,fun _ _=>undef,Nat.le_refl _,Nat.zero_le _,fun i hi=>absurd hi (Nat.not_lt_zero _),fun b hb=>hb.elim,fun ρ T hT hp=>⟨hT,Nat.le_refl _,Nat.zero_le _,.inr ⟨a,rfl,fun h=>absurd rfl h⟩⟩,fun ρ=>.inl ⟨rfl,rfl,fun b hb=>hb⟩,fun i hi=>absurd hi (Nat.not_lt_zero _)⟩
  have hspot:a.spot=none:=by
   have fin:∀(o:Option (DataW H×List MemPlace)),(∃x,o=some x)->(w.cells? 0 (a.add (0*P.cellsOf e)) (P.cellsOf e)).bind (DataW.trod enc P w 0 (fun _=>true) held m e)=o->a.spot=none:=by
    rintro o ⟨x,rfl⟩ ho;obtain⟨cs,hcs,hx⟩:=Option.bind_eq_some_iff.1 ho;obtain⟨h1,_,hc⟩:=CZ hcs;have:=hc 0 (by omega);rw[Nat.zero_mul,show ∀a:Addr,(a.add 0).add 0=a from fun a=>rfl,List.getElem?_eq_getElem (by omega)]at this;unfold World.cell? at this;split at this
    ·cases hsp:a.spot with
     |none=>rfl
     |some s=>rw[hsp]at this;simp at this
    ·cases this
   by_cases h1:0<len
   ·exact fin _ ⟨elems[0]'(by omega),List.getElem?_eq_getElem _⟩ (hget 0 h1)
   ·have:=hr2 0 (by omega);rw[show len+0=0 by omega]at this;exact fin _ ⟨rest[0]'(by omega),List.getElem?_eq_getElem _⟩ this
  have row:∀i,i<cap->∃cs:List Value,(uJ ks cs/\∀j,j<ks.length->w.cell? ⟨a.block,a.off+i*ks.length+j,none⟩=cs[j]?)/\(i<len->∃x∈elems,DataW.trod enc P w 0 (fun _=>true) held m e cs=some x):=by
   intro i hi;have fin:∀(x:DataW H×List MemPlace),(w.cells? 0 (a.add (i*P.cellsOf e)) (P.cellsOf e)).bind (DataW.trod enc P w 0 (fun _=>true) held m e)=some x->∃cs:List Value,(uJ ks cs/\∀j,j<ks.length->w.cell? ⟨a.block,a.off+i*ks.length+j,none⟩=cs[j]?)/\DataW.trod enc P w 0 (fun _=>true) held m e cs=some x:=by
    intro x ho;obtain⟨cs,hcs,hx⟩:=Option.bind_eq_some_iff.1 ho;obtain⟨_,_,hc⟩:=CZ hcs;refine⟨cs,⟨x7 d m e cs x ks hx hf,fun j hj=>?_⟩,hx⟩;have:=hc j (by omega);rw[Addr.Vz a _ hspot,Addr.add_plain,<- hk]at this;exact this
   by_cases h1:i<len
   ·obtain⟨cs,g1,g2⟩:=fin (elems[i]'(by omega)) ((hget i h1).trans (List.getElem?_eq_getElem _));exact⟨cs,g1,fun _=>⟨_,List.getElem_mem _,g2⟩⟩
   ·have:=hr2 (i-len) (by omega);rw[show len+(i-len)=i by omega]at this;obtain⟨cs,g1,g2⟩:=fin (rest[i-len]'(by omega)) (this.trans (List.getElem?_eq_getElem _));exact⟨cs,g1,fun h=>absurd h h1⟩
  ·have hcell:∀i,i<cap->∀(j:Nat) (k:CK),ks[j]? = some k->∃v,w.cell? ⟨a.block,a.off+i*ks.length+j,none⟩=some v/\k.ok v:=by
    intro i hi j k hj;have hjl:j<ks.length:=(List.getElem?_eq_some_iff.1 hj).1;obtain⟨cs,⟨h1,h2⟩,_⟩:=row i hi;have hlt:j<cs.length:=by rw[h1.len];exact hjl
    exact⟨cs[j],by rw[h2 j hjl,List.getElem?_eq_getElem hlt],h1.ok j k _ hj (List.getElem?_eq_getElem hlt)⟩
   have hblk:∃vs ty fr,w.heap[a.block]? = some (.cells vs ty fr):=by
    obtain⟨v,hv,_⟩:=hcell 0 (by omega) 0 (ks[0]'(by omega)) (List.getElem?_eq_getElem _);unfold World.cell? at hv;split at hv
    ·rename_i vs ty fr hh;exact⟨vs,ty,fr,hh⟩
    ·cases hv
   obtain⟨vs,ty,fr,hb⟩:=hblk;have hget2:∀i,i<cap->∀(j:Nat) (k:CK),ks[j]? = some k->∃v,vs[a.off+i*ks.length+j]? = some v/\k.ok v:=by
    intro i hi j k hj;obtain⟨v,hv,hok⟩:=hcell i hi j k hj;rw[cell_of hb]at hv;exact⟨v,hv,hok⟩
   have hfit:a.off+cap*ks.length<=vs.size:=by
    obtain⟨v,hv,_⟩:=hget2 (cap-1) (by omega) (ks.length-1) (ks[ks.length-1]'(by omega)) (List.getElem?_eq_getElem _);obtain⟨hlt,_⟩:=Array.getElem?_eq_some_iff.1 hv;have:(cap-1)*ks.length+ks.length=cap*ks.length:=by
     rw[<- Nat.succ_mul];congr 1;omega
    omega
   have hblt:a.block<w.heap.size:=by
    obtain⟨hlt,_⟩:=Array.getElem?_eq_some_iff.1 hb;exact hlt
   refine⟨⟨a.block,a.off,cap,fun b=>b=a.block⟩,len,cap,fun i j=>vs[a.off+i*ks.length+j]?.getD undef,hlc,by unfold aq;unfold maxLen at hcm;exact hcm,fun i hi j k hj=>?_,fun b hb=>by rw[hb];exact hblt,fun ρ T hT hp=>⟨hT,hlc,by unfold aq;unfold maxLen at hcm;exact hcm,.inr ⟨a,rfl,fun _=>⟨by rw[hp];cases a;simp at hspot;subst hspot;simp,by rw[hp];simp⟩⟩⟩,fun ρ=>.inr ⟨vs,ty,fr,hb,hfit,hlc,fun o h1 h2=>?_,fun _=>Iff.rfl,fun i hi j k hj=>?_⟩,fun i hi=>?_⟩
   ·obtain⟨v,hv,hok⟩:=hget2 i (by omega) j k hj;simp only;rw[hv];exact hok
   ·have hmem:MemPlace.cell a.block o∈ps:=by
     have e:ps=MemPlace.row a ((elems.length+rest.length)*P.cellsOf e)++(elems++rest).flatMap (·.2):=congrArg Prod.snd hx;rw[e];refine List.mem_append_left _ (List.mem_map.2 ⟨o-a.off,?_,?_⟩)
     ·rw[List.mem_range,hel,hr1,<- hk];simp only at h1 h2;rw[show len+(cap-len)=cap by omega];omega
     ·simp only at h1;show MemPlace.cell a.block (a.off+(o-a.off))=_;rw[show a.off+(o-a.off)=o by omega]
    have:=hz _ _ hmem;simp only[World.frozen?,hb]at this;obtain⟨lo,hi⟩:=fr;simpa using this
   ·obtain⟨v,hv,hok⟩:=hget2 i (by omega) j k hj;simp only;rw[hv];exact⟨rfl,hok⟩
   ·obtain⟨cs,⟨g1,g2⟩,g3⟩:=row i (by omega);obtain⟨x,hxm,hxt⟩:=g3 hi;refine⟨m,cs,x,hxt,fun b off hm=>hz b off ?_,g1,fun j hj=>?_⟩
    ·have e:ps=MemPlace.row a ((elems.length+rest.length)*P.cellsOf e)++(elems++rest).flatMap (·.2):=congrArg Prod.snd hx;rw[e];exact List.mem_append_right _ (List.mem_flatMap.2 ⟨x,List.mem_append_left _ hxm,hm⟩)
    ·have h2:=g2 j hj;rw[cell_of hb]at h2;have hlt:j<cs.length:=by rw[g1.len];exact hj
     rw[List.getElem?_eq_getElem hlt]at h2 ⊢;simp only;rw[h2];rfl
theorem L4{t e:TypeId}{ks:List CK}{d:Nat}{v:Value}{dd:DataW H}{ps:List MemPlace}{r:Reach}{b0:Nat}(ht:P.underlying t=some (.slice e))(hf:sG true P d e=some ks)(hk:ks.length=P.cellsOf e)(hk1:1<=ks.length)
 (hval:Value.okWide P w r b0 t v) (h:DataW.Trod enc P w 0 (fun _=>true) held t v dd ps) (hz:∀b off,MemPlace.cell b off∈ps->w.frozen? ⟨b,off,none⟩=false) :
 ∃(p:Place) (n cap:Nat) (rows:Nat->Nat->Value),n<=cap/\cap<=aq/\(∀i,i<n->∀(j:Nat) (k:CK),ks[j]? = some k->k.ok (rows i j))/\(∀b,p.fp b->b<w.heap.size) /\
  (∀(ρ:Env) (T:Nat),T<ρ.n->ρ.pl T=p->(A.slc T 0 ks.length n cap).b8 ρ v)/\∀(ρ:Env),(Chunk.arr e ks n rows).Sat ρ p w:=by
 obtain⟨fuel,h⟩:=h;have hv2:Cell.okWide P w r b0 t v:=by unfold Value.okWide at hval;rw[ht]at hval;exact hval
 have hone:∀o l c,v.cells.toList=[.slice o l c]->v = .slice o l c:=by
  intro o l c hv;cases v<;>simp[Value.cells]at hv<;>first|exact hv|(simp[hv];done)|skip
  all_goals(unfold Cell.okWide Cell.ok at hv2;rw[ht]at hv2;simp at hv2)
 have hc:v.cells.toList=[v]:=by
  rcases DataW.trod_slice ht h with⟨hv,_⟩ | ⟨a,len,cap,elems,rest,m,_,hv,_⟩
  ·rw[hone _ _ _ hv];rfl
  ·rw[hone _ _ _ hv];rfl
 rw[hc]at h;obtain⟨p,n,cap,rows,g1,g2,g3,g4,g5,g6,_⟩:=EP ht hf hk hk1 h hz;exact⟨p,n,cap,rows,g1,g2,g3,g4,g5,g6⟩
theorem ER:∀ {ks:List CK} {l:List RK} {vs:List Value} {xs:List RD},uJ ks vs->Jx l xs->Jx (ks.map .c++l) ((List.zipWith (fun k v=>RD.a (lC k v)) ks vs)++xs)
 |[],l,vs,xs,h,hx=>by
  have:vs=[]:=List.eq_nil_of_length_eq_zero (by simpa using h.len);subst this;exact hx
 |k::ks,l,[],xs,h,hx=>by have:=h.len;simp at this
 |k::ks,l,v::vs,xs,h,hx=>⟨_,_,rfl,⟨v,rfl,h.ok 0 k v rfl rfl⟩,ER (ks:=ks) (vs:=vs) ⟨by have:=h.len;simpa using this,fun j k' v' hk hv=>h.ok (j+1) k' v' (by simpa using hk) (by simpa using hv)⟩ hx⟩
theorem NS:∀(n:Nat) (ks:List CK) (vs:List Value) (xs:List RD),Xc n ((List.zipWith (fun k v=>RD.a (lC k v)) ks vs)++xs)=List.zipWith lC ks vs++Xc n xs
 |_,[],_,_=>by simp
 |_,_::_,[],_=>by simp
 |n,k::ks,v::vs,xs=>by simp[Xc,NS n ks vs xs]
theorem Tq:∀(ks:List CK) (vs:List Value) (xs:List RD),rN ((List.zipWith (fun k v=>RD.a (lC k v)) ks vs)++xs)=rN xs
 |[],_,_=>by simp
 |_::_,[],_=>by simp
 |k::ks,v::vs,xs=>by simp[rN,Tq ks vs xs]
theorem Jz:∀(n:Nat) {ks:List CK} {vs:List Value} (l:List RK) (xs:List RD),vs.length=ks.length->x8 n (ks.map .c++l) ((List.zipWith (fun k v=>RD.a (lC k v)) ks vs)++xs)=x8 n l xs
 |_,[],[],_,_,_=>by simp
 |_,[],_::_,_,_,h=>by simp at h
 |_,_::_,[],_,_,h=>by simp at h
 |n,k::ks,v::vs,l,xs,h=>by
  have:=Jz n (ks:=ks) (vs:=vs) l xs (by simpa using h);simpa[x8]using this
theorem JA{ρ:Env}:∀ {ks:List CK} {vs:List Value},uJ ks vs->cc ρ (List.zipWith lC ks vs) vs
 |[],vs,h=>by
  have:vs=[]:=List.eq_nil_of_length_eq_zero (by simpa using h.len);subst this;rfl
 |k::ks,[],h=>by have:=h.len;simp at this
 |k::ks,v::vs,h=>⟨v,vs,rfl,mU (h.ok 0 k v rfl rfl) ρ,JA ⟨by have:=h.len;simpa using this,fun j k' v' hk hv=>h.ok (j+1) k' v' (by simpa using hk) (by simpa using hv)⟩⟩
theorem pY:∀(n:Nat) (fs:List RK) (xs:List RD),∀p∈x8 n fs xs,n<=p.1/\p.1<n+rN xs
 |_,[],_,_,h=>by simp[x8]at h
 |_,_::_,[],_,h=>by simp[x8]at h
 |n,k::r,x::s,p,h=>by
  cases k<;>cases x<;>simp only[x8,List.mem_cons]at h
  ·exact pY n r s p h
  ·have:=pY n r s p h;simp only[rN];omega
  ·exact pY n r s p h
  ·rcases h with rfl|h
   ·simp only[rN];omega
   ·have:=pY (n+1) r s p h;simp only[rN];omega
theorem C0{r:Reach}{b0 d n:Nat}{ts:List TypeId}{cs:List Value}(hts:∀(i:Nat) (v:Value),cs[i]? = some v->∃u:TypeId,ts[i]? = some u/\Cell.okWide P w r b0 u v) :
 ∀(fs:List Field) (o:Nat) (l:List RK) (ρ0:Env),EO P d ts fs o=some l ->
  (∀f∈fs,∃x,DataW.trod enc P w 0 (fun _=>true) held n f.type ((cs.drop f.offset).take (P.cellsOf f.type))=some x/\∀b off,MemPlace.cell b off∈x.2->w.frozen? ⟨b,off,none⟩=false)->o+l.length=cs.length ->
  ∃(xs:List RD) (ρ:Env),Jx l xs/\ρ0.le ρ/\ρ.n=ρ0.n+rN xs/\cc ρ (Xc ρ0.n xs) (cs.drop o)/\ah w (fun _=>False) ρ (DB (x8 ρ0.n l xs)) w
 |[],o,l,ρ0,h,_,hl=>by
  simp[EO]at h;subst h;refine⟨[],ρ0,rfl,Env.le.refl _,rfl,?_,⟨en.refl _ _,fun e he=>(by cases he),.nil⟩⟩;have:cs.drop o=[]:=List.drop_eq_nil_of_le (by simp at hl;omega);rw[this];rfl
 |f::fs,o,l,ρ0,h,hf,hl=>by
  simp only[EO]at h;cases ho:Nat.beq f.offset o with
  |false=>rw[ho]at h;cases h
  |true =>
  rw[ho]at h;simp only[cond_true]at h;have ho':=Nat.eq_of_beq_eq_true ho;obtain⟨x,hx,hz⟩:=hf f List.mem_cons_self;rw[ho']at hx;have hfr:∀g∈fs,∃x,DataW.trod enc P w 0 (fun _=>true) held n g.type ((cs.drop g.offset).take (P.cellsOf g.type))=some x/\∀b off,MemPlace.cell b off∈x.2->w.frozen? ⟨b,off,none⟩=false:=fun g hg=>hf g (List.mem_cons_of_mem _ hg);split at h
  ·rename_i e hu;split at h
   ·rename_i ks u l1 e1 e2 e3;cases hb:(Nat.beq ks.length (P.cellsOf e)&&(Nat.ble 1 ks.length&&(Nat.beq (P.cellsOf f.type) 1&&Tp P u)))
    ·rw[hb]at h;cases h
    rw[hb]at h;simp only[cond_true,Option.some.injEq]at h;subst h;simp only[Bool.and_eq_true]at hb;obtain⟨h1,h2,h3,h4⟩:=hb;have hlt:o<cs.length:=by simp at hl;omega
    have hc1:=Nat.eq_of_beq_eq_true h3;have hone:(cs.drop o).take (P.cellsOf f.type)=[cs[o]]:=by
     rw[hc1,List.drop_eq_getElem_cons hlt];rfl
    rw[hone]at hx;obtain⟨u',hu',hok⟩:=hts o cs[o] (List.getElem?_eq_getElem hlt);rw[e2]at hu';cases hu';obtain⟨p,m,cap,rows,hn,hc,hrows,hlt2,hrep,hsat,_⟩:=EP hu e1 (Nat.eq_of_beq_eq_true h1) (Nat.le_of_ble_eq_true h2) (dd:=x.1) (ps:=x.2) hx hz;obtain⟨xs,ρ,g1,g2,g3,g4,g5⟩:=C0 hts fs (o+1) l1 (ρ0.ext p) e3 hfr (by simp at hl ⊢;omega);have hpl:ρ.pl ρ0.n=p:=by rw[g2.pl _ (Nat.lt_succ_self _)];exact ρ0.di p
    have hlt':ρ0.n<ρ.n:=g2.n;refine⟨.s ks.length m cap rows::xs,ρ,⟨_,_,rfl,⟨m,cap,rows,rfl,hn,hc,hrows⟩,g1⟩,(ρ0.dP p).trans g2,by rw[g3];simp[rN,Env.ext];omega,?_,?_⟩
    ·rw[List.drop_eq_getElem_cons hlt];exact⟨_,_,rfl,hrep ρ ρ0.n hlt' hpl,g4⟩
    ·refine ah.cons g5 ⟨hlt',by simp only;rw[hpl];exact hsat ρ,by simp only;rw[hpl];exact hlt2,fun h=>(by cases h)⟩ fun y hy=>⟨?_,fun h=>?_⟩
     ·obtain⟨q,hq,rfl⟩:=List.mem_map.1 hy;have:=(pY _ _ _ _ hq).1;simp only[Env.ext]at this ⊢;omega
     ·rw[BO hy]at h;cases h
   ·cases h
  ·split at h
   ·rename_i ks l1 e1 e3;cases hb:Nat.beq ks.length (P.cellsOf f.type)
    ·rw[hb]at h;cases h
    rw[hb]at h;simp only[cond_true,Option.some.injEq]at h;subst h;have hb':=Nat.eq_of_beq_eq_true hb;have hks:=x7 d n f.type _ _ ks hx e1;obtain⟨xs,ρ,g1,g2,g3,g4,g5⟩:=C0 hts fs (o+P.cellsOf f.type) l1 ρ0 e3 hfr (by rw[<- hb'];simp at hl;omega);refine⟨(List.zipWith (fun k v=>RD.a (lC k v)) ks ((cs.drop o).take (P.cellsOf f.type)))++xs,ρ,ER hks g1,g2,by rw[Tq];exact g3,?_,?_⟩
    ·rw[NS];have e:cs.drop o=(cs.drop o).take (P.cellsOf f.type)++cs.drop (o+P.cellsOf f.type):=by
      rw[<- List.drop_drop,List.take_append_drop]
     rw[e,List.take_append_of_le_length (by rw[hks.len,hb'];exact Nat.le_refl _),List.take_take,Nat.min_self];exact(JA hks).append g4
    ·rw[Jz _ _ _ hks.len];exact g5
   ·cases h
theorem Hu:∀(n:Nat) (aks:List AK) (ads:List AD),∀p∈L3 n aks ads,n<=p.1
 |_,[],_,_,h=>by simp[L3]at h
 |_,_::_,[],_,h=>by simp[L3]at h
 |n,k::r,a::s,p,h=>by
  have key:∀m,n<=m->p∈L3 m r s->n<=p.1:=fun m hm h=>Nat.le_trans hm (Hu m r s p h);cases k<;>cases a<;>simp only[L3,List.mem_cons,List.mem_append]at h<;>first|exact key n (Nat.le_refl _) h|skip
  ·rcases h with rfl|h
   ·exact Nat.le_refl _
   ·exact key (n+1) (Nat.le_succ _) h
  ·rcases h with h|h
   ·exact(pY _ _ _ _ h).1
   ·exact key _ (Nat.le_add_right _ _) h
theorem L5{ρ:Env}{ks:List CK}{cs:List Value}(h:uJ ks cs):cc ρ (atoms (fun j=>cs.getD j undef) ks 0) cs:=by
 have:=uY ρ (fun j=>cs.getD j undef) ks 0 (fun j k hk=>by
  have hj:j<cs.length:=by rw[h.len];exact(List.getElem?_eq_some_iff.1 hk).1
  rw[Nat.zero_add];refine h.ok j k _ hk ?_;simp[List.getD,List.getElem?_eq_getElem hj])
 have e:(List.range' 0 ks.length).map (fun j=>cs.getD j undef)=cs:=by
  apply List.ext_getElem
  ·simp[h.len]
  ·intro i h1 h2;simp[List.getD,List.getElem?_eq_getElem h2]
 rwa[e]at this
theorem ES{r:Reach}{b0 d:Nat}:∀(ts:List TypeId) (aks:List AK) (vs:List Value) (ds:List (DataW H)) (ps:List MemPlace) (ρ0:Env),CY P d ts=some aks->DataW.TrodAll enc P w 0 (fun _=>true) held ts vs ds ps ->
 (∀(j:Nat) (t:TypeId) (v:Value),ts[j]? = some t->vs[j]? = some v->Value.okWide P w r b0 t v)->(∀b off,MemPlace.cell b off∈ps->w.frozen? ⟨b,off,none⟩=false) ->
 ∃(ads:List AD) (ρ:Env),Jy aks ads/\ρ0.le ρ/\ρ.n=ρ0.n+Ht ads/\iN ρ (V7 ρ0.n ads) vs/\ah w (fun _=>False) ρ (DB (L3 ρ0.n aks ads)) w
 |[],aks,[],[],ps,ρ0,h,hA,_,_=>by
  simp[CY]at h;subst h;exact⟨[],ρ0,rfl,Env.le.refl _,rfl,rfl,⟨en.refl _ _,fun e he=>(by cases he),.nil⟩⟩
 |t::ts,aks,v::vs,dd::ds,ps,ρ0,h,hA,hval,hz=>by
  obtain⟨p1,p2,hT,hA',rfl⟩:=hA;simp only[CY]at h;split at h
  ·rename_i k l e1 e2;cases h;have hv0:=hval 0 t v rfl rfl;have rec_:=fun ρ=>ES (r:=r) (b0:=b0) (d:=d) ts l vs ds p2 ρ e2 hA' (fun j t v hj hv=>hval (j+1) t v (by simpa using hj) (by simpa using hv)) (fun b off hm=>hz b off (List.mem_append_right _ hm));have hz1:∀b off,MemPlace.cell b off∈p1->w.frozen? ⟨b,off,none⟩=false:=fun b off hm=>hz b off (List.mem_append_left _ hm);obtain⟨fuel,hx⟩:=hT;have one:∀u,v.cells.toList=[u]->u.oneCell'=true->(∀x,v≠.agg x)->v=u:=by
    intro u hv hu hna;cases v<;>simp[Value.cells]at hv<;>first|exact hv|exact hv.symm|(rename_i x;exact absurd rfl (hna x))|(subst hv;simp[Value.oneCell']at hu)
   have nagg:∀x:Array Value,v = .agg x->(∃fs,P.underlying t=some (.struct fs))\/∃n e,P.underlying t=some (.array n e):=by
    intro x hx;subst hx;unfold Value.okWide at hv0;split at hv0
    ·rename_i fs hu;exact .inl ⟨fs,hu⟩
    ·rename_i n e hu;exact .inr ⟨n,e,hu⟩
    ·rename_i h1 h2;unfold Cell.okWide at hv0;split at hv0<;>first|(cases ‹Value.agg x=_›;done)|skip
     all_goals(first|(rename_i e;cases e;done)|skip)
     unfold Cell.ok at hv0;split at hv0<;>first|(rename_i e;cases e;done)|exact hv0.elim|skip
   unfold Yu at e1;split at e1
   ·rename_i hu;cases e1;obtain⟨b,hb,_⟩:=DataW.trod_bool hu hx;have hv:=one _ hb rfl (fun x hx=>by rcases nagg x hx with⟨_,h⟩ | ⟨_,_,h⟩<;>rw[hu]at h<;>cases h);subst hv;obtain⟨ads,ρ,h1,h2,h3,h4,h5⟩:=rec_ ρ0;exact⟨.a (.bool b)::ads,ρ,⟨_,_,rfl,⟨b,rfl⟩,h1⟩,h2,h3,⟨_,_,rfl,rfl,h4⟩,h5⟩
   ·rename_i kk hu;cases e1;obtain⟨m,hb,_,hw⟩:=DataW.trod_int hu hx;have hv:=one _ hb rfl (fun x hx=>by rcases nagg x hx with⟨_,h⟩ | ⟨_,_,h⟩<;>rw[hu]at h<;>cases h);subst hv;have hin:bQ kk m:=by rw[E6];simpa[Lit.wf]using hw
    obtain⟨ads,ρ,h1,h2,h3,h4,h5⟩:=rec_ ρ0;exact⟨.a (.int kk m)::ads,ρ,⟨_,_,rfl,⟨m,rfl,hin⟩,h1⟩,h2,h3,⟨_,_,rfl,⟨rfl,hin⟩,h4⟩,h5⟩
   ·rename_i hu;cases e1;obtain⟨s,hb,_,hs⟩:=DataW.trod_string hu hx;have hv:=one _ hb rfl (fun x hx=>by rcases nagg x hx with⟨_,h⟩ | ⟨_,_,h⟩<;>rw[hu]at h<;>cases h);subst hv;have hs':s.size<=aq:=by unfold aq;unfold maxLen at hs;exact hs
    obtain⟨ads,ρ,h1,h2,h3,h4,h5⟩:=rec_ ρ0;exact⟨.a (.str s)::ads,ρ,⟨_,_,rfl,⟨s,rfl,hs'⟩,h1⟩,h2,h3,⟨_,_,rfl,⟨rfl,hs'⟩,h4⟩,h5⟩
   ·rename_i fs hu;cases hf:Hs P d t with
    |none =>
     rw[hf]at e1;simp only at e1;split at e1
     ·rename_i tys hty;split at e1
      ·rename_i fl hfl;cases hb:(Nat.beq fl.length (P.cellsOf t)&&Nat.beq tys.length (P.cellsOf t))
       ·rw[hb]at e1;cases e1
       rw[hb]at e1;simp only[cond_true,Option.some.injEq]at e1;subst e1;simp only[Bool.and_eq_true]at hb;have hb1:=Nat.eq_of_beq_eq_true hb.1;have hb2:=Nat.eq_of_beq_eq_true hb.2;have hv:∃cs:Array Value,v = .agg cs/\cs.size=P.cellsOf t/\Row.okWide P w r b0 t cs:=by
        unfold Value.okWide at hv0;rw[hu]at hv0;exact hv0
       obtain⟨cs,rfl,hcs,hrow⟩:=hv;obtain⟨tys',hty',_,hcell⟩:=hrow;rw[hty]at hty';cases hty';obtain⟨xs,m,rfl,hxx,hl,hlen,hget⟩:=DataW.trod_struct hu hx;have hps:p1=xs.flatMap (·.2):=congrArg Prod.snd hxx;obtain⟨rd,ρ1,g1,g2,g3,g4,g5⟩:=C0 (r:=r) (b0:=b0) (d:=d) (n:=m) (ts:=tys) (cs:=cs.toList) (enc:=enc) (held:=held) (P:=P) (w:=w) (fun i v hi=>by
        have hi':cs[i]? = some v:=by simpa using hi
        obtain⟨u,h1,h2⟩:=hcell i v hi';have hlt:=(Array.getElem?_eq_some_iff.1 hi').1;rw[Nat.mod_eq_of_lt (by omega)]at h1;exact⟨u,h1,h2⟩) fs.toList 0 fl ρ0 hfl (fun f hf=>by
        obtain⟨i,hi,e⟩:=List.getElem_of_mem hf;have hi':i<fs.size:=by simpa using hi
        have h1:=hget i f (by rw[Array.getElem?_eq_getElem hi'];congr 1);refine⟨xs[i]'(by omega),by rw[<- List.getElem?_eq_getElem (by omega)];exact h1,fun b off hm=>hz1 b off ?_⟩;rw[hps];exact List.mem_flatMap.2 ⟨_,List.getElem_mem _,hm⟩) (by simp[hb1,hcs])
       obtain⟨ads,ρ,h1,h2,h3,h4,h5⟩:=rec_ ρ1;rw[g3]at h4 h5;refine⟨.Vy rd::ads,ρ,⟨_,_,rfl,⟨rd,rfl,g1⟩,h1⟩,g2.trans h2,by rw[h3,g3];simp[Ht];omega,⟨_,_,rfl,⟨cs.toList,by simp,?_⟩,h4⟩,?_⟩
       ·have:=g4.mono h2;simpa using this
       ·show ah w (fun _=>False) ρ (DB (x8 ρ0.n fl rd++L3 (ρ0.n+rN rd) l ads)) w;rw[show DB (x8 ρ0.n fl rd++L3 (ρ0.n+rN rd) l ads)=DB (x8 ρ0.n fl rd)++DB (L3 (ρ0.n+rN rd) l ads)from List.map_append ..];refine(g5.mono h2).app h5 fun x hx y hy=>⟨?_,fun h=>?_⟩
        ·obtain⟨q,hq,rfl⟩:=List.mem_map.1 hx;obtain⟨q',hq',rfl⟩:=List.mem_map.1 hy;have a1:=pY _ _ _ _ hq;have a2:=Hu _ _ _ _ hq';simp only;omega
        ·rw[BO hx,BO hy]at h;cases h
      ·cases e1
     ·cases e1
    |some ks =>
     rw[hf]at e1;cases e1;have hks:=x7 d fuel t _ _ ks hx hf;have hv:∃cs:Array Value,v = .agg cs:=by
      unfold Value.okWide at hv0;rw[hu]at hv0;obtain⟨cs,h,_⟩:=hv0;exact⟨cs,h⟩
     obtain⟨cs,rfl⟩:=hv;have hks:uJ ks cs.toList:=hks;obtain⟨ads,ρ,h1,h2,h3,h4,h5⟩:=rec_ ρ0;refine⟨.agg (atoms (fun j=>cs.toList.getD j undef) ks 0)::ads,ρ,⟨_,_,rfl,⟨_,rfl,fun j k hj=>?_⟩,h1⟩,h2,h3,⟨_,_,rfl,⟨cs.toList,by simp,L5 hks⟩,h4⟩,h5⟩;have hjl:j<cs.toList.length:=by rw[hks.len];exact(List.getElem?_eq_some_iff.1 hj).1
     exact hks.ok j k _ hj (by simp[List.getD,List.getElem?_eq_getElem hjl])
   ·rename_i e hu;split at e1
    ·rename_i ks hf;cases hb:(Nat.beq ks.length (P.cellsOf e)&&Nat.ble 1 ks.length)
     ·rw[hb]at e1;cases e1
     rw[hb]at e1;cases e1;simp only[Bool.and_eq_true]at hb;obtain⟨p,n,cap,rows,hn,hc,hrows,hlt,hrep,hsat⟩:=L4 hu hf (Nat.eq_of_beq_eq_true hb.1) (Nat.le_of_ble_eq_true hb.2) hv0 ⟨fuel,hx⟩ hz1;obtain⟨ads,ρ,h1,h2,h3,h4,h5⟩:=rec_ (ρ0.ext p);have hpl:ρ.pl ρ0.n=p:=by rw[h2.pl _ (Nat.lt_succ_self _)];exact ρ0.di p
     have hlt':ρ0.n<ρ.n:=h2.n;refine⟨.slc ks.length n cap rows::ads,ρ,⟨_,_,rfl,⟨n,cap,rows,rfl,hn,hc,hrows⟩,h1⟩,(ρ0.dP p).trans h2,by rw[h3];simp[Ht,Env.ext];omega,⟨_,_,rfl,hrep ρ ρ0.n hlt' hpl,h4⟩,?_⟩;refine ah.cons h5 ⟨hlt',by simp only;rw[hpl];exact hsat ρ,by simp only;rw[hpl];exact hlt,fun h=>(by cases h)⟩ fun x hx=>⟨?_,fun h=>?_⟩
     ·obtain⟨q,hq,rfl⟩:=List.mem_map.1 hx;have:=Hu _ _ _ _ hq;simp only[Env.ext]at this ⊢;omega
     ·rw[BO hx]at h;cases h
    ·cases e1
   ·cases e1
  ·cases h
 |[],_,[],_::_,_,_,_,h,_,_=>h.elim
 |[],_,_::_,_,_,_,_,h,_,_=>h.elim
 |_::_,_,[],_,_,_,_,h,_,_=>h.elim
 |_::_,_,_::_,[],_,_,_,h,_,_=>h.elim
theorem VA{Y:Gx}(hY:Y.Ok){C:cF}{ch:C.α->gF}(hch:∀a,HY Y.G.X (ch a)){lh:C.α->Nat->LH}{f:Nat}(hb:vc Y C ch lh f)(a:C.α)(hp:C.pre a)(hhp:C.hp a=[])(hres:∀o,C.res a o = .a .tt){w:World}{ρ:Env}{vs:List Value}
 (hn:ρ.n=C.m) (hh:ah w (fun _=>False) ρ (DB (C.ro a)) w) (hargs:iN ρ (C.args a) vs):Calls Y.G.X.P f vs.toArray w fun e w'=>e = .returned (.bool true)/\en (fun _=>False) w w':=by
 refine(xG hY (hch a) (hb a hp) w (fun _=>False) ρ w vs hn ?_ hargs).mono ?_
 ·show ah w (fun _=>False) ρ (vb (C.hp a)++DB (C.ro a)) w;rw[hhp];exact hh
 ·rintro e w' ⟨v,rfl,sv,s',ρ',hK,_,_,_,_,hrep,hh'⟩;refine⟨?_,hh'.keeps⟩;obtain⟨o,hK⟩:=hK;obtain⟨τ,_,_,hw,q⟩:=va hK (Wf.nil _ _);have:=q ρ' (iQ ρ' τ C.m') v (nH hw) hrep;rw[hres o]at this;rw[show v = .bool true from this]
theorem VB{Y:Gx}(hY:Y.Ok){C:cF}{ch:C.α->gF}(hch:∀a,HY Y.G.X (ch a)){lh:C.α->Nat->LH}{f:Nat}(hb:vc Y C ch lh f){ts:List TypeId}{aks:List AK}{d:Nat}(hk:CY Y.G.X.P d ts=some aks)(hhp:∀a,C.hp a=[])(hres:∀a o,C.res a o = .a .tt)
 (hinst:∀ads,Jy aks ads->∃a,C.pre a/\C.args a=V7 0 ads/\C.ro a=L3 0 aks ads/\C.m=Ht ads) {W:World} {args:Array Value} {ds:List (DataW H)} {ps:List MemPlace} {r:Reach} {b0:Nat}
 (hA:DataW.TrodAll enc Y.G.X.P W 0 (fun _=>true) held ts args.toList ds ps) (hval:∀(j:Nat) (t:TypeId) (v:Value),ts[j]? = some t->args.toList[j]? = some v->Value.okWide Y.G.X.P W r b0 t v)
 (hz:∀b off,MemPlace.cell b off∈ps->W.frozen? ⟨b,off,none⟩=false):Calls Y.G.X.P f args W fun e w'=>e = .returned (.bool true)/\en (fun _=>False) W w':=by
 obtain⟨ads,ρ,h1,_,h3,h4,h5⟩:=ES (r:=r) (b0:=b0) (d:=d) ts aks args.toList ds ps ⟨0,fun _=>xB⟩ hk hA hval hz;obtain⟨a,g1,g2,g3,g4⟩:=hinst ads h1;have:=VA hY hch hb a g1 (hhp a) (hres a) (w:=W) (ρ:=ρ) (vs:=args.toList) (by rw[h3,g4];simp) (by rw[g3];exact h5) (by rw[g2];exact h4);simpa using this
theorem Xd{Y:Gx}(hY:Y.Ok){iW:List (Nat×cF)}(ht:tL Y.G.X iW){f:Nat}{C:cF}{l:C.α->List (Nat×List An×List An)}(hb:fnBody Y iW f C l){ts:List TypeId}{aks:List AK}{d:Nat}(hk:CY Y.G.X.P d ts=some aks)(hhp:∀a,C.hp a=[])(hres:∀a o,C.res a o = .a .tt)
 (hinst:∀ads,Jy aks ads->∃a,C.pre a/\C.args a=V7 0 ads/\C.ro a=L3 0 aks ads/\C.m=Ht ads) {W:World} {args:Array Value} {ds:List (DataW H)} {ps:List MemPlace} {r:Reach} {b0:Nat}
 (hA:DataW.TrodAll enc Y.G.X.P W 0 (fun _=>true) held ts args.toList ds ps) (hval:∀(j:Nat) (t:TypeId) (v:Value),ts[j]? = some t->args.toList[j]? = some v->Value.okWide Y.G.X.P W r b0 t v)
 (hz:∀b off,MemPlace.cell b off∈ps->W.frozen? ⟨b,off,none⟩=false):Calls Y.G.X.P f args W fun e w'=>e = .returned (.bool true)/\en (fun _=>False) W w' :=
 VB hY (fun _=>xI hY ht) hb.body hk hhp hres hinst hA hval hz
theorem Aq:∀ {ts:List TypeId} {vs:List Value} {ds:List (DataW H)} {ps:List MemPlace},DataW.TrodAll enc P w base spare held ts vs ds ps->ds.length=ts.length
 |[],[],[],_,_=>rfl
 |_::_,_::_,_::_,_,⟨_,_,_,h,_⟩=>by simp[Aq h]
 |[],[],_::_,_,h=>h.elim
 |[],_::_,_,_,h=>h.elim
 |_::_,[],_,_,h=>h.elim
 |_::_,_::_,[],_,h=>h.elim
theorem vQ(hl:laidOutB P=true){W W':World}(hk:en (fun _=>False) W W'){sp:Nat->Bool}:∀ {ts:List TypeId} {vs:List Value} {ds:List (DataW H)} {ps:List MemPlace},(∀t∈ts,P.readableRec t=true/\t<P.types.size) ->
 DataW.TrodAll enc P W 0 (fun _=>true) true ts vs ds ps->(∀p∈ps,p.block<W.heap.size/\sp p.block=true)->DataW.TrodAll enc P W' 0 sp true ts vs ds ps
 |[],[],[],_,_,h,_=>h
 |t::ts,v::vs,d::ds,ps,ht,⟨p1,p2,h1,h2,e⟩,hp=>by
  subst e;have hb:Below W.heap.size W W':=⟨hk.os,hk.tape,hk.output,hk.size,fun b hb=>hk.block b hb id⟩
  obtain⟨a1,a2⟩:=ht t List.mem_cons_self;exact⟨p1,p2,WideElems.Trod_stays hl a1 a2 h1 (fun x hx=>hb.same (hp x (List.mem_append_left _ hx)).1) (fun x hx=>(hp x (List.mem_append_left _ hx)).2),
   vQ hl hk (fun t h=>ht t (List.mem_cons_of_mem _ h)) h2 fun x hx=>hp x (List.mem_append_right _ hx),rfl⟩
 |[],[],_::_,_,_,h,_=>h.elim
 |[],_::_,_,_,_,h,_=>h.elim
 |_::_,[],_,_,_,h,_=>h.elim
 |_::_,_::_,[],_,_,h,_=>h.elim
end
end Go.Sx
namespace Go.Proofs.YtfjgoonelcaggaaGreat
open Go.Sx
def jd(m:nC):nC:=GO { ig m [2]with l:=[] }
structure JB where
 m:nC
 p:qR
noncomputable def L6:cF where
 α:=JB
 β:=qR
 m:=7
 m':=10
 pre:=fun a=>iX a.m a.p/\tq a.m 1/\(ig a.m [2]).d.n<100000/\(ig a.m [2]).d.calls<1000000000000
 args:=fun _=>[.a (.ptr 0 0 0 0)]
 hp:=fun a=>DI 0 1 2 3 4 5 6 a.m a.p
 ro:=fun _=>[]
 post:=fun a b=>iX (jd a.m) b/\tn a.p b
 res:=fun _ _=>.a (.lit .i64 0)
 cS:=fun a b=>DI 0 1 2 3 7 8 9 (jd a.m) b
def Hv(x:JB):=iX x.m x.p/\tq x.m 1/\kf (ig x.m [(2:Int)]).d
theorem PB:fnBody (Y Tryz.prog) [(121,Sy),(178,ND),(169,jA)] 142 L6 fun _=>[]:=fnBody.of (p :=
 ∀z:JB,Hv z->Exists (Cw 1 1 z.m z.p (aN 1 (bG (fk 2))) fun v w=>Exists (ay (cH (kq (ig v.m v.body).d fun s=>∃u:qR,aR (w.H=u.H/\ax (fA (ig v.m v.body).L (jd z.m).L w.y u.y (fV (fZ s) (jd z.m).d (kQ 16 u.x (16=u.cap) 0 0 (dU (Ix.bH 16)) ((iX (jd z.m) u/\tn z.p u)/\True)))))))))) (by kernel_rfl) (by
 delta av bB bR aH bI af bG fk bP aI nN kQ kf ay aR ag gJ Cw kq ax dU cH fA Hv
 try dsimp -iota -proj only
 rintro⟨m,p⟩ ⟨hat,hok,hw1,hw2⟩;have hr:aj 1 1 (aN 1 [Value.int .u8 2]) (aa cB [2]):=.dQ fun i hi=>by
  have:i=0:=by omega
  subst this;rfl
 have h0:tq m ([2]:List Int).length:=hok;have h1:1<=([2]:List Int).length:=by decide
 have h2:([2]:List Int).length<=300:=by decide
 refine⟨Cu.mk m p [2] 1,?_⟩
 and_intros<;>first|exact cz|exact hat|exact h0|exact h1|exact h2|exact hr|(intro h_;revert h_)|exact cA|skip
 rintro p2 ⟨hat2,hf2⟩;have e:ig (Cu.mk m p [2] 1).m (Cu.mk m p [2] 1).body=ig m [2]:=rfl;refine⟨(),trivial,fun _ _=>⟨(ig m [2]).d,?_⟩⟩
 and_intros<;>first|exact cz|exact hw1|exact hw2|(intro h_;revert h_)|exact cA|skip
 intro _ _;have h3:iX (jd m) ⟨p2.H,p2.y,Ix.bH 16,16⟩:=⟨hat2.log,Ix.vm (by omega) (by omega)⟩
 have h4:tn p ⟨p2.H,p2.y,Ix.bH 16,16⟩:=hf2;refine⟨⟨p2.H,p2.y,Ix.bH 16,16⟩,?_⟩
 and_intros<;>first|exact cz|exact h3|exact h4|(intro h_;revert h_)|exact cA|skip)
theorem PC:ak (Y Tryz.prog).G.X 142 L6:=aT fF PB ⟨GL,Jh,iz,trivial⟩
theorem PD{rs:List RecM}{es:List (Option aD)}{p:Int}(hl:es.length=rs.length)(h:∀i,i<es.length->(gl rs i).body=aC (gl es i)/\∀x,gl es i=some x->fH x=true) :
 (es++[none]).length=(rs++[(⟨p,[2]⟩:RecM)]).length/\∀i,i<(es++[none]).length->(gl (rs++[(⟨p,[2]⟩:RecM)]) i).body=aC (gl (es++[none]) i)/\∀z,gl (es++[none]) i=some z->fH z=true:=by
 refine⟨by simp[hl],fun i hi=>?_⟩;rw[List.length_append,List.length_singleton]at hi;rw[ko hi,ko (by rw[<- hl];exact hi),hl];by_cases hin:i<rs.length
 ·rw[if_pos hin,if_pos hin];exact h i (by omega)
 ·rw[if_neg hin,if_neg hin];exact⟨rfl,fun z e=>by cases e⟩
theorem mE.Xe{m:nC}{n:Nat}{rs:List RecM}{es:List (Option aD)}(h:mE m n rs es)(hn:m.L.next<9999999999)(hfit:(dW rs).length+8+1<=378) :
 mE (jd m) (n+21) (rs++[⟨m.L.next,[2]⟩]) (es++[none])/\(jd m).L.next=m.L.next+1/\(jd m).L.au=m.L.au/\(jd m).L.from_=m.L.from_:=by
 obtain⟨h1,h2,h3,h4,h5⟩:=h.one.add (body:=[2]) (by decide) hn hfit;obtain⟨b1,b2⟩:=PD (p:=m.L.next) h.len h.body;refine⟨⟨⟨h1.flush,?_,Nat.zero_le _⟩,b1,b2⟩,h2,h4,h5⟩;rw[vt];exact⟨h1.flush.rd,fun e he=>(by cases he),fun k hk=>absurd rfl hk⟩
def DL(s:kY):kY:={ s with d:=(jd s.fl).d,cL:=(jd s.fl).L,cl:=(jd s.fl).l }
theorem dI.Xe{s:kY}{n:Nat}{es:List (Option aD)}{cb jb:Nat}(h:dI s n es cb jb)(hn:n<900000000)(hfit:cb+9<=378) :
 dI (DL s) (n+21) (es++[none]) (cb+9) jb/\tq s.fl 1/\(ig s.fl [2]).d.n<100000/\(ig s.fl [2]).d.calls<1000000000000:=by
 obtain⟨cr,hf,hb⟩:=h.fl;have hnx:=h.nx;have hnx1:s.fl.L.next<=n:=hnx.1
 obtain⟨f1,f2,f3,f4⟩:=hf.Xe (by omega) (by omega);obtain⟨g1,g2,g3,g4⟩:=h.W8;obtain⟨s1,s2,s3⟩:=A8 h.dn.1;have hdn:(jd s.fl).d.n=s.d.n:=zI _ _ _;have hcl:(jd s.fl).d.calls<=n+21:=f1.one.log.calls;have hcl2:(jd s.fl).d.calls=(ig s.fl [2]).d.calls+1:=rfl;have hdd:=h.dn;have hout:∀r,r<162->∀j,(jd s.fl).d.now r j=s.d.now r j:=fun r hr j=>by
  have e:(jd s.fl).d.now r j=(nJ s.cL s.d [2]).now r j:=rfl;rw[e];exact CU (by omega) (.inl (by omega))
 refine⟨⟨⟨_,f1,by rw[lM,List.length_append,vp];show(dW cr).length+(8+1)<=_;omega⟩,h.jl.dev' (fun r _ h2 j _=>hout r (by omega) j) hdn hcl,h.jb,h.ms,?_,⟨f4.trans g1,?_,g3,g4⟩,?_,h.keep.dev' fun r hr j _=>hout r (by omega) j,h.bM⟩,hf.one.ok (by omega) (by show _+8+1<=_;omega),?_,by omega⟩
 ·have e:(DL s).cL.next=s.cL.next+1:=f2
  refine⟨by rw[e];push_cast;omega,?_,?_⟩
  ·show s.jL.next<=_;push_cast;omega
  ·show s.k.s.eW<=_;push_cast;omega
 ·show(jd s.fl).L.au=iK (jd s.fl).d.n;rw[hdn];exact f3.trans g2
 ·show 192<=(jd s.fl).d.n/\(jd s.fl).d.n<3000;rw[hdn];exact h.dn
 ·have e:(ig s.fl [2]).d.n=s.d.n:=zI _ _ _;rw[e];omega
theorem VC(es:List (Option aD))(k:ByteArray):gE (es++[none]) k=none:=by rw[vt];rfl
def L7(s:kY)(m:MetaM):kY:={ s with d:=gV s.k s.d m,k:=mD s.k m }
theorem dI.save{s:kY}{n:Nat}{es:List (Option aD)}{cb jb:Nat}(h:dI s n es cb jb){m:MetaM}(hs:gj s.k m=true)(hb:m.bM=s.bM)(hn:n<800000000) :
 dI (L7 s m) (n+2) es cb jb/\(L7 s m).k.m=m/\(L7 s m).d.n=s.d.n/\(L7 s m).d.calls=s.d.calls+2:=by
 have hnx:=h.nx;obtain⟨k1,k2,k3,k4,k5,k6⟩:=h.keep.save hs (by omega);obtain⟨cr,hf,hcb⟩:=h.fl;obtain⟨g1,g2,g3,g4⟩:=h.W8;have hcl:s.d.calls<=n:=hf.one.log.calls;have hcl2:(L7 s m).d.calls<=n+2:=by show(gV s.k s.d m).calls<=_;rw[k5];omega
 refine⟨⟨⟨cr,hf.dev' (fun r h1 _ j _=>k6 r (by have h1:s.cL.from_<=r:=h1;omega) j) k4 hcl2,hcb⟩,h.jl.dev' (fun r h1 _ j _=>k6 r (by omega) j) k4 hcl2,h.jb,h.ms,?_,⟨g1,?_,g3,g4⟩,?_,k1,?_⟩,k2,k4,k5⟩
 ·refine⟨?_,?_,?_⟩
  ·show s.cL.next<=_;push_cast;omega
  ·show s.jL.next<=_;push_cast;omega
  ·show(mD s.k m).s.eW<=_;rw[k3];push_cast;omega
 ·show s.cL.au=iK (gV s.k s.d m).n;rw[k4];exact g2
 ·show 192<=(gV s.k s.d m).n/\(gV s.k s.d m).n<3000;rw[k4];exact h.dn
 ·show s.bM=(mD s.k m).m.bM;rw[k2,hb]
structure gC where
 id:Int
 blk:Nat
 key:ByteArray
 good:Bool
 born:Nat
 deriving Inhabited
structure jk where
 last:Int
 l:List gC
 dG:Nat
def gC.enc(e:gC):fD:=⟨e.id,pv e.blk 0,e.born⟩
def DM(mb:Nat)(t:jk):Chunk:=.obj 197 [.int .i64 t.last,.val (.map (some mb))]
def vR(mb:Nat)(t:jk):Chunk:=.abs (kI mb .i64 (t.l.map gC.enc) t.dG)
structure gd(H:PH)(t:jk):Prop where
 at_:∀e∈t.l,H e.blk=some (0,[.string e.key,.bool e.good])/\e.key.size<=aq
 blk:(t.l.map (·.blk)).Nodup
 id:∀e∈t.l,1<=e.id/\e.id<=t.last/\e.born<t.dG
 ids:(t.l.map (·.id)).Nodup
 born:(t.l.map (·.born)).Nodup
 last:0<=t.last/\t.last<=1099511627776
theorem gd.ok{H:PH}{t:jk}(h:gd H t):UJ .i64 (t.l.map gC.enc) t.dG:=⟨fun e he=>by
 obtain⟨x,hx,rfl⟩:=List.mem_map.1 he;obtain⟨a1,a2,a3⟩:=h.id x hx;have:=h.last;exact⟨rfl,a3,by simp only[gC.enc,bQ];omega⟩,by rw[List.map_map];exact h.born⟩
structure C1 where
 mb:Nat
 t:jk
 H:PH
 key:ByteArray
def qs(t:jk)(key:ByteArray)(b:Nat):jk:=⟨t.last+1,t.l++[⟨t.last+1,b,key,true,t.dG⟩],t.dG+1⟩
noncomputable def L8:cF where
 α:=C1
 β:=Nat
 m:=3
 m':=4
 pre:=fun a=>gd a.H a.t/\a.t.last<1099511627776/\a.key.size<=aq
 args:=fun a=>[.a (.ptr 0 0 0 0),.a (.str a.key)]
 hp:=fun a=>[(0,DM a.mb a.t),(1,vR a.mb a.t),(2,.ct a.H)]
 ro:=fun _=>[]
 post:=fun a b=>a.H b=none
 res:=fun a _=>.a (.int .i64 (a.t.last+1))
 cS:=fun a b=>[(0,DM a.mb (qs a.t a.key b)),(1,vR a.mb (qs a.t a.key b)),(3,.ct (aM a.H b 0 [.string a.key,.bool true]))]
theorem Xf{l:List fD}{n:Int}(h:∀e∈l,e.key≠n):Bq l n=false:=by
 unfold Bq;rw[List.any_eq_false];intro e he;simpa using h e he
theorem Tr(n:Int)(u:Value)(dG:Nat):∀l:List fD,(∀e∈l,e.key≠n)->Bp n u dG l=l++[⟨n,u,dG⟩]
 |[],_=>rfl
 |e::r,h=>by
  unfold Bp;rw[if_neg (h e List.mem_cons_self),Tr n u dG r fun x hx=>h x (List.mem_cons_of_mem _ hx)];rfl
def gO(y:Nat)(x:jk):Sx.Place->Go.World->Prop:=kI y .i64 (List.map gC.enc x.l) x.dG
def qt(x:Nat):Value:=Value.map (some x)
def iC(x y:Nat):=qt x=qt y
def qM(u:Nat)(v:jk)(w:Nat->List fD->Nat->Prop):=∃x:Nat,∃y:List fD,∃z:Nat,iC u x/\gO u v=kI x .i64 y z/\UJ .i64 y z/\w x y z
def L9(z:Prop)(u:Sx.Place->Go.World->Prop)(x:C1)(v:PH)(w:Int):Nat->Prop:=fun(y:Nat)=>z/\u=gO x.mb (qs x.t x.key y)/\v=aM x.H y 0 (bP (bF x.key) pJ)/\w=(qs x.t x.key y).last/\iC x.mb x.mb/\x.H y=none/\True
theorem PE:fnBody (Y Tryz.prog) [] 137 L8 fun _=>[]:=fnBody.of (p :=
 ∀x:C1,gd x.H x.t/\x.t.last<(1099511627776:Int)/\bA x.key<=aq->me x.t.last (cO 1099511627776 x.t.last) (Exists (L9 ((0:Int)=x.t.last+(1:Int)) (gO x.mb x.t) x x.H x.t.last)) (ai (x.t.last+(1:Int))/\(ai (x.t.last+(1:Int))->bA x.key<=aq->∀y:Nat,x.H y=none->qM x.mb x.t fun v u z=>aF (bif bif Nat.beq 0 1 then true else bif Nat.beq 0 1 then true else false then false else true)/\(ai (x.t.last+(1:Int))->Exists (L9 (aH (x.t.last+(1:Int))) (kI v .i64 (Bp (x.t.last+(1:Int)) (pv y 0) z u) (bif Bq u (x.t.last+(1:Int))then z else z+1)) x (aM x.H y 0 (bP (bF x.key) pJ)) (x.t.last+(1:Int))))))) (by kernel_rfl) (by
 delta aG ai gO aH iC bA bG aF bP qt bF qM cO pJ L9 me dR
 try dsimp -iota -proj only
 rintro⟨mb,t,H,key⟩ ⟨h1,h2,h3⟩ _;dsimp only at *;have hno:∀e∈t.l.map gC.enc,e.key≠t.last+1:=fun e he=>by
  obtain⟨x,hx,rfl⟩:=List.mem_map.1 he;have:=h1.id x hx;simp only[gC.enc];omega
 have hl:=h1.last;have hok:=h1.ok;refine⟨fun c=>by(exfalso;have:=of_decide_eq_true c;omega),fun _ _=>⟨by simp only[bQ];omega,fun _ _ b hb=>⟨mb,t.l.map gC.enc,t.dG,rfl,rfl,hok,rfl,fun _=>⟨b,?_⟩⟩⟩⟩;have e:kI mb .i64 (Bp (t.last+1) (pv b 0) t.dG (t.l.map gC.enc)) (bif Bq (t.l.map gC.enc) (t.last+1)then t.dG else t.dG+1)=kI mb .i64 ((qs t key b).l.map gC.enc) (qs t key b).dG:=by
  rw[Tr _ _ _ _ hno,Xf hno];unfold qs;rw[List.map_append];rfl
 and_intros<;>first|exact cz|exact e|exact hb|(intro h_;revert h_)|exact cA|skip)
theorem PF:ak (Y Tryz.prog).G.X 137 L8:=aT fF PE trivial
structure vS where
 mb:Nat
 t:jk
 H:PH
 id:Int
def uK(t:jk)(id:Int):Option gC:=t.l.find? fun e=>e.id == id
def mM(t:jk)(id:Int):jk:={ t with l:=t.l.filter fun e=>!(e.id == id) }
noncomputable def Ts:cF where
 α:=vS
 β:=Unit
 m:=3
 m':=3
 pre:=fun a=>gd a.H a.t/\bQ .i64 a.id
 args:=fun a=>[.a (.ptr 0 0 0 0),.a (.int .i64 a.id)]
 hp:=fun a=>[(0,DM a.mb a.t),(1,vR a.mb a.t)]
 ro:=fun a=>[(2,.ct a.H)]
 post:=fun _ _=>True
 res:=fun a _=>.lY [.a (.str (match uK a.t a.id with|some e=>e.key|none=>ByteArray.mk #[])),.a (.bool (match uK a.t a.id with|some e=>e.good|none=>false))]
 cS:=fun a _=>[(0,DM a.mb (mM a.t a.id)),(1,vR a.mb (mM a.t a.id))]
theorem JC(id:Int):∀l:List gC,getM (l.map gC.enc) id=(l.find? fun e=>e.id == id).map fun e=>pv e.blk 0
 |[]=>rfl
 |e::r=>by
  have ih:=JC id r;unfold getM at ih ⊢;rw[List.map_cons,List.find?_cons,List.find?_cons];show Option.map _ (match e.id == id with|true=>_|false=>_)=_;cases e.id == id with
  |true=>rfl
  |false=>exact ih
theorem C2(id:Int):∀l:List gC,(l.map (·.id)).Nodup->Br id (l.map gC.enc)=(l.filter fun e=>!(e.id == id)).map gC.enc
 |[],_=>rfl
 |e::r,h=>by
  rw[List.map_cons,List.nodup_cons]at h;rw[List.map_cons];unfold Br;by_cases he:e.id=id
  ·have hr:r.filter (fun e=>!(e.id == id))=r:=List.filter_eq_self.2 fun x hx=>by
    have:x.id≠id:=fun e2=>h.1 (List.mem_map.2 ⟨x,hx,by rw[e2,he]⟩);simp[this]
   rw[if_pos (show(gC.enc e).key=id from he),List.filter_cons,show(!(e.id == id))=false by simp[he],if_neg (by decide),hr]
  ·rw[if_neg (show ¬(gC.enc e).key=id from he),List.filter_cons,show(!(e.id == id))=true by simp[he],if_pos rfl,List.map_cons,C2 id r h.2]
def Ma(x:vS):Bool:=match uK x.t x.id with|some y=>y.good|none=>false
def Mb(x:vS):ByteArray:=match uK x.t x.id with|some y=>y.key|none=>cV
def Mc(x:vS):=Exists (ay (cV=Mb x/\fM (Ma x) (gO x.mb x.t=gO x.mb (mM x.t x.id)) (x.t.last=(mM x.t x.id).last/\bg (iC x.mb x.mb))))
def C3(y:Value)(z u:Prop):Option Nat->Prop:=fun(x:Option Nat)=>y=Value.map x/\(x=none->z)/\(x≠none->u)
theorem Tt:fnBody (Y Tryz.prog) [] 72 Ts fun _=>[]:=fnBody.of (p :=
 ∀x:vS,gd x.H x.t/\ai x.id->Exists (C3 (qt x.mb) (Mc x) (qM x.mb x.t fun k f l=>(∃v:Option Go.Addr,Dx (getM f x.id)=Value.pointer v)/\aG (Il (Dx (getM f x.id))) (Mc x) (Exists (C3 (qt x.mb) (qM x.mb x.t fun v w g=>bO true False) (qM x.mb x.t fun v w g=>qM x.mb x.t fun h i j=>bO true (Exists (gu (Dx (getM w x.id)) 0 (fun y=>x.H y) (fun y=>∃u:ByteArray,y=bF u/\bA u<=aq) fun y u=>Exists (gu (Dx (getM w x.id)) 1 (fun z=>x.H z) (fun z=>∃s:Bool,z=dR s) fun z s=>Exists (ay (YL (aQ u y)=Mb x/\YQ (aQ s z)=Ma x/\kI h .i64 (Br x.id i) j=gO x.mb (mM x.t x.id)/\x.t.last=(mM x.t x.id).last/\bg (iC x.mb x.mb)))))))))))) (by kernel_rfl) (by
 delta aG aQ gu ai gO iC bO bA cV iA aF fM qt bF ay qM Mc bg C3 dR Ma Mb
 try dsimp -iota -proj only
 rintro⟨mb,t,H,id⟩ ⟨h1,h2⟩;dsimp only at *;have hok:=h1.ok;have hg:=JC id t.l;have hd:=C2 id t.l h1.ids;refine⟨some mb,rfl,fun c=>(by cases c),fun _=>⟨mb,t.l.map gC.enc,t.dG,rfl,rfl,hok,?_⟩⟩;cases hf:t.l.find? (fun e=>e.id == id)with
 |none =>
  have hff:uK t id=none:=hf;have hu:mM t id=t:=by
   have:t.l.filter (fun e=>!(e.id == id))=t.l:=List.filter_eq_self.2 fun x hx=>by
    have:=List.find?_eq_none.1 hf x hx;simpa using this
   unfold mM;rw[this]
  have hgv:Dx (getM (t.l.map gC.enc) id) = .pointer none:=by rw[hg,hf];rfl
  refine⟨⟨none,hgv⟩,fun _=>⟨(),?_⟩,fun c=>(by rw[hgv]at c;cases c)⟩;rw[hff,hu]
  and_intros<;>first|exact cz|(intro h_;revert h_)|exact cA|skip
 |some e =>
  have hff:uK t id=some e:=hf;have he:e∈t.l:=List.mem_of_find?_eq_some hf;obtain⟨a1,a2⟩:=h1.at_ e he;have hgv:Dx (getM (t.l.map gC.enc) id)=pv e.blk 0:=by rw[hg,hf];rfl
  refine⟨⟨_,hgv⟩,fun c=>(by rw[hgv]at c;cases c),fun _=>⟨some mb,rfl,fun c=>(by cases c),fun _=>⟨mb,t.l.map gC.enc,t.dG,rfl,rfl,hok,mb,t.l.map gC.enc,t.dG,rfl,rfl,hok,rfl,e.blk,0,hgv,e.blk,0,rfl,e.blk,0,0,[.string e.key,.bool e.good],rfl,a1,⟨⟨_,rfl,_,rfl,a2⟩,trivial⟩,e.blk,0,hgv,e.blk,0,rfl,e.blk,0,1,[.string e.key,.bool e.good],rfl,a1,⟨⟨_,rfl,_,rfl⟩,trivial⟩,(),?_⟩⟩⟩;rw[hff];have e2:kI mb .i64 (Br id (t.l.map gC.enc)) t.dG=kI mb .i64 ((mM t id).l.map gC.enc) (mM t id).dG:=by rw[hd];rfl
  and_intros<;>first|exact cz|exact e2|(intro h_;revert h_)|exact cA|skip)
theorem Tu:ak (Y Tryz.prog).G.X 72 Ts:=aT fF Tt trivial
structure JD where
 ks:List ByteArray
 cap:Nat
 key:ByteArray
def hasB(ks:List ByteArray)(k:ByteArray):Bool:=ks.any fun q=>decide (k=q)
noncomputable def Tv:cF where
 α:=JD
 β:=Unit
 m:=1
 m':=1
 pre:=fun a=>a.ks.length<100000
 args:=fun a=>[.a (.slc 0 0 1 a.ks.length a.cap),.a (.str a.key)]
 hp:=fun _=>[]
 ro:=fun a=>[(0,.arr 9 [.str] a.ks.length (aa kO a.ks))]
 post:=fun _ _=>True
 res:=fun a _=>.a (.bool (hasB a.ks a.key))
 cS:=fun _ _=>[]
def Yv(a:JD):An:=.flat 2 Nat (fun s i=>s.int 8 i) (fun _ i=>i<=a.ks.length/\∀j,j<i->a.key≠gl a.ks j) (fun _ i=>a.ks.length-i)
theorem Tw:fnBody (Y Tryz.prog) [] 133 Tv fun a=>[(181,[Yv a],[])]:=fnBody.of (p :=
 ∀x:JD,aZ x.ks<100000->(∃y:Nat,aK y (uG (aZ x.ks) x.cap (x.key=x.key/\kP x.ks/\(y<=aZ x.ks/\∀z:Nat,z<y->x.key≠gl x.ks z)/\True)))/\∀y:Nat,ji y (aZ x.ks) (∀z:Nat,z<y->x.key≠gl x.ks z) (aG (jF x.key (gl x.ks (0+az y))) (Exists (bV (cO 0 (af y)=hasB x.ks x.key))) (dm y fun z=>uG (aZ x.ks) x.cap (x.key=x.key/\kP x.ks/\dO z (aZ x.ks) (∀u:Nat,u<z->x.key≠gl x.ks u) y))) (Exists (eO (hasB x.ks x.key)))) (by kernel_rfl) (by
 delta aG bB cC ai bR az aA cn af aZ dO aF aU bn fM eM dK jt dm bV aV ay aP kP cO aK eO bf ag dJ bg bx uG jF ji
 try dsimp -iota -proj only
 rintro⟨ks,cap,key⟩ h;dsimp only at *;have h0:∀j,j<0->key≠gl ks j:=fun j hj=>absurd hj (Nat.not_lt_zero j);refine⟨⟨0,?_⟩,fun i ⟨hi,hall⟩=>?_⟩
 ·and_intros<;>first|exact cz|exact h0|(intro h_;revert h_)|exact cA|skip
 rw[show 0+(i:Int).toNat=i by omega];refine⟨fun c1=>?_,fun c1=>⟨(),?_,trivial,trivial⟩⟩
 ·have hlt:i<ks.length:=by have:=of_decide_eq_true c1;omega
  refine⟨⟨by omega,by omega⟩,hlt,fun c2=>⟨(),?_,trivial,trivial⟩,fun c2=>⟨by simp only[bQ];omega,i+1,?_⟩⟩
  ·have c2:=of_decide_eq_true c2;have e:hasB ks key=true:=List.any_eq_true.2 ⟨gl ks i,by rw[bN hlt];exact List.getElem_mem _,decide_eq_true c2⟩;rw[e];exact decide_eq_true (by omega)
  ·have c2:=of_decide_eq_false c2;have h1:∀j,j<i+1->key≠gl ks j:=fun j hj=>by
    by_cases e:j=i
    ·rw[e];exact c2
    ·exact hall j (by omega)
   and_intros<;>first|exact cz|exact h1|(intro h_;revert h_)|exact cA|skip
 ·have hn:¬i<ks.length:=by have:=of_decide_eq_false c1;omega
  have e:hasB ks key=false:=by
   unfold hasB;rw[List.any_eq_false];intro q hq;obtain⟨j,hj,rfl⟩:=List.getElem_of_mem hq;rw[<- bN hj];simpa using hall j (by omega)
  rw[e])
theorem Tx:ak (Y Tryz.prog).G.X 133 Tv:=aT fF Tw trivial
structure C4 where
 mb:Nat
 t:jk
 H:PH
 ks:List ByteArray
 cap:Nat
def gW(t:jk)(f:ByteArray->Bool):jk:={ t with l:=t.l.map fun e=>{ e with good:=e.good&&!f e.key } }
structure Md where
 seen:List Nat
 H:PH
 n:Int
def Ia(t:jk)(seen:List Nat):Nat:=(t.l.filter fun e=>!decide (e.born∈seen)).length
structure NT(t:jk)(H:PH)(f:ByteArray->Bool)(x:Md):Prop where
 old:∀z,z∉t.l.map (·.blk)->x.H z=H z
 at_:∀e∈t.l,x.H e.blk=some (0,[.string e.key,.bool (e.good&&!(decide (e.born∈x.seen)&&f e.key))])
 n:0<=x.n/\x.n+(Ia t x.seen:Nat)<=(t.l.length:Nat)
theorem NU{t:jk}{seen:List Nat}{y:gC}(hy:y∈t.l)(hn:y.born∉seen):Ia t (seen++[y.born])<Ia t seen :=
 Go.filter_lt (fun e:gC=>!decide (e.born∈seen)) (fun e=>!decide (e.born∈seen++[y.born])) (fun x hx=>by
  simp only[Bool.not_eq_true',decide_eq_false_iff_not,List.mem_append,not_or]at hx ⊢;exact hx.1) y (by simpa using hn) (by simp) t.l hy
theorem C5{α β:Type}{f:α->β}{l:List α}(h:(l.map f).Nodup){a b:α}(ha:a∈l)(hb:b∈l)(e:f a=f b):a=b:=by
 induction l with
 |nil=>cases ha
 |cons x r ih =>
  rw[List.map_cons,List.nodup_cons]at h;obtain⟨g1,g2⟩:=h;rcases List.mem_cons.1 ha with a1|a1
  ·rcases List.mem_cons.1 hb with b1|b1
   ·rw[a1,b1]
   ·exact absurd (List.mem_map.2 ⟨b,b1,by rw[<- e,a1]⟩) g1
  ·rcases List.mem_cons.1 hb with b1|b1
   ·exact absurd (List.mem_map.2 ⟨a,a1,by rw[e,b1]⟩) g1
   ·exact ih g2 a1 b1
theorem NT.skip{t:jk}{H:PH}{f:ByteArray->Bool}{x:Md}(h:NT t H f x)(ht:gd H t){y:gC}(hy:y∈t.l)(hn:y.born∉x.seen)(hf:(y.good&&f y.key)=false):NT t H f ⟨x.seen++[y.born],x.H,x.n⟩:=by
 refine⟨h.old,fun e he=>?_,h.n.1,?_⟩
 ·rw[h.at_ e he];by_cases hb:e.born=y.born
  ·obtain rfl:=C5 ht.born he hy hb;have e1:decide (e.born∈x.seen)=false:=decide_eq_false hn;have e2:decide (e.born∈x.seen++[e.born])=true:=decide_eq_true (by simp);rw[e1,e2]
   revert hf
   cases e.good<;>cases f e.key<;>simp
  ·have e1:decide (e.born∈x.seen++[y.born])=decide (e.born∈x.seen):=by
    rw[Bool.eq_iff_iff];simp[hb]
   rw[e1]
 ·have:=NU hy hn;have:=h.n.2;dsimp only;omega
theorem NT.hit{t:jk}{H:PH}{f:ByteArray->Bool}{x:Md}(h:NT t H f x)(ht:gd H t){y:gC}(hy:y∈t.l)(hn:y.born∉x.seen)(hf:f y.key=true):NT t H f ⟨x.seen++[y.born],aM x.H y.blk 0 [.string y.key,.bool false],x.n+1⟩:=by
 refine⟨fun z hz=>?_,fun e he=>?_,by have:=h.n.1;dsimp only;omega,?_⟩
 ·have:z≠y.blk:=fun e=>hz (List.mem_map.2 ⟨y,hy,e.symm⟩);show aM x.H y.blk 0 _ z=H z;rw[cw this];exact h.old z hz
 ·show aM x.H y.blk 0 _ e.blk=_;by_cases hb:e.blk=y.blk
  ·obtain rfl:=C5 ht.blk he hy hb;have e2:decide (e.born∈x.seen++[e.born])=true:=decide_eq_true (by simp);rw[dB,e2,hf];simp
  ·have hb2:e.born≠y.born:=fun e3=>hb (by rw[C5 ht.born he hy e3]);have e1:decide (e.born∈x.seen++[y.born])=decide (e.born∈x.seen):=by
    rw[Bool.eq_iff_iff];simp[hb2]
   rw[cw hb,h.at_ e he,e1]
 ·have:=NU hy hn;have:=h.n.2;dsimp only;omega
theorem NT.all{t:jk}{H:PH}{f:ByteArray->Bool}{x:Md}(h:NT t H f x)(ht:gd H t)(ha:∀e∈t.l,e.born∈x.seen):gd x.H (gW t f):=by
 have e1:∀ {γ:Type} (g:gC->γ),(∀e b,g { e with good:=b }=g e)->(gW t f).l.map g=t.l.map g:=fun g hg=>by
  unfold gW;rw[List.map_map];exact List.map_congr_left fun e _=>hg _ _
 refine⟨fun e he=>?_,by rw[e1 _ fun _ _=>rfl];exact ht.blk,fun e he=>?_,by rw[e1 _ fun _ _=>rfl];exact ht.ids,by rw[e1 _ fun _ _=>rfl];exact ht.born,ht.last⟩
 ·obtain⟨y,hy,rfl⟩:=List.mem_map.1 he;have:=h.at_ y hy;rw[decide_eq_true (ha y hy),Bool.true_and]at this;exact⟨this,(ht.at_ y hy).2⟩
 ·obtain⟨y,hy,rfl⟩:=List.mem_map.1 he;exact ht.id y hy
noncomputable def Me:cF where
 α:=C4
 β:=PH×Int
 m:=4
 m':=4
 pre:=fun a=>gd a.H a.t/\a.ks.length<100000/\a.t.l.length<100000
 args:=fun a=>[.a (.ptr 0 0 0 0),.a (.slc 3 0 1 a.ks.length a.cap)]
 hp:=fun a=>[(0,DM a.mb a.t),(1,vR a.mb a.t),(2,.ct a.H)]
 ro:=fun a=>[(3,.arr 9 [.str] a.ks.length (aa kO a.ks))]
 post:=fun a b=>gd b.1 (gW a.t (hasB a.ks))/\∀z,z∉a.t.l.map (·.blk)->b.1 z=a.H z
 res:=fun _ b=>.a (.int .i64 b.2)
 cS:=fun a b=>[(0,DM a.mb (gW a.t (hasB a.ks))),(1,vR a.mb (gW a.t (hasB a.ks))),(2,.ct b.1)]
def Ty(mb:Nat)(t:jk)(H:PH)(f:ByteArray->Bool):An:=.flat 5 Md (fun s x=>(((s.at_ (s.tg 14) (.abs (l5 mb x.seen t.dG))).at_ (IZ s) (.ct x.H)).set 5 (.a (.int .i64 x.n)))) (fun _ x=>NT t H f x) (fun _ x=>Ia t x.seen)
def sH(x:List Nat)(y:fD):List Nat:=x++[y.born]
def wV(y:PH×Int)(z:jk)(u:ByteArray->Bool)(v:Nat->Option (Nat×List Value)):=gd y.fst (gW z u)/\∀x:Nat,¬x∈List.map (fun(w:gC)=>w.blk) z.l->y.fst x=v x
def wW(y:Int)(z:Md->Prop):Md->Prop:=fun(x:Md)=>y=x.n/\ag (bp (aR (z x)))
def NV(q:PH)(x:jk)(D:Prop)(z:Nat)(E:Nat->Nat->Md->Prop)(h:ByteArray->Bool)(F:Nat->Option (Nat×List Value))(G:Md->List Nat->Nat->Nat->fD->fD->Nat->List Value->Prop)(I:Md->List Nat->Nat->Nat->fD->Md->Prop):=gd q x/\D->qM z x fun J N K=>Exists (wW 0 fun y=>E J K y)/\∀y:Md,NT x q h y->∃r:IntKind,∃c:Nat,∃w:List Nat,∃s:Nat,l5 z y.seen x.dG=l5 c w s/\∃t:Nat,∃i:List fD,∃k:Nat,iC c t/\gO z x=kI t r i k/\UJ r i k/\k=s/\bO true (((∀u:fD,u∈i->u.born∈w)->∃l:PH×Int,y.n=l.snd/\gO z x=gO z (gW x h)/\y.H=l.fst/\x.last=(gW x h).last/\iC z z/\(wV l x h fun L=>F L)/\True)/\∀u:fD,u∈i->¬u.born∈w->∃d:IntKind,∃e:Nat,∃A:List Nat,∃B:Nat,l5 t (sH w u) s=l5 e A B/\∃C:Nat,∃m:List fD,∃o:Nat,iC e C/\gO z x=kI C d m o/\UJ d m o/\o=B/\∃M:List Nat,∃f:fD,A=sH M f/\f∈m/\Exists (gu f.val 1 (fun g=>y.H g) (fun g=>∃p:Bool,g=dR p) fun g p=>aG (YQ (aQ p g)) (Exists (gu f.val 0 (fun v=>y.H v) (fun v=>∃j:ByteArray,v=bF j/\bA j<=aq) fun v j=>G y w s t u f v j)) (Exists (wW y.n fun v=>I y w s t u v))))
def sI(x:Nat)(y:jk):=gO x y=gO x y
def C6(z:Nat)(u:List Nat)(v:Nat)(x:C4)(y:Md)(w:PH)(s:Prop):=ax (l5 z u v=l5 x.mb y.seen x.t.dG/\aV (aZ x.ks) x.cap/\aH x.t.last/\iC x.mb x.mb/\sI x.mb x.t/\w=y.H/\kP x.ks/\NT x.t x.H (hasB x.ks) y/\s)
theorem PG:fnBody (Y Tryz.prog) [(133,Tv)] 88 Me fun a=>[(131,[Ty a.mb a.t a.H (hasB a.ks)],[])]:=fnBody.of (p :=
 ∀x:C4,NV x.H x.t (aZ x.ks<100000/\x.t.l.length<100000) x.mb (fun y u v=>C6 y [] u x v x.H True) (hasB x.ks) (fun y=>x.H y) (fun y u v s f g i j=>∃z:JD,gp (aZ x.ks) (aZ z.ks) x.cap z.cap (YL (aQ j i)=z.key) 1 (aa kO x.ks) (aa kO z.ks) (aZ z.ks<100000/\aI (aG (hasB z.ks z.key) (Exists (mz g.val 1 (fun w=>y.H w) 1 fun w k m o=>ai (y.n+(1:Int))/\Exists (wW (y.n+(1:Int)) fun h=>C6 s (sH u f) v x h (aM y.H w k (pP m o (bG fR) 1)) (Ia x.t h.seen<Ia x.t y.seen)))) (Exists (wW y.n fun w=>C6 s (sH u f) v x w y.H (Ia x.t w.seen<Ia x.t y.seen)))))) fun y u v s f g=>C6 s (sH u f) v x g y.H (Ia x.t g.seen<Ia x.t y.seen)) (by kernel_rfl) (by
 delta aG aQ bB gu ai bR gO aH iC aZ mz bO bA iA bG aF bP eM qt dK gp aI NV aV bp bF C6 qM kP fR aR ag ax sH wV dR sI pP wW
 try dsimp -iota -proj only
 rintro⟨mb,t,H,ks,cap⟩ ⟨h1,h2,h3⟩;dsimp only at *;have hok:=h1.ok;obtain⟨f,hf⟩:∃f,f=hasB ks:=⟨_,rfl⟩
 refine⟨mb,t.l.map gC.enc,t.dG,rfl,rfl,hok,⟨⟨[],H,0⟩,?_⟩,fun x hI=>?_⟩
 ·have hI:NT t H (hasB ks) ⟨[],H,0⟩:=⟨fun _ _=>rfl,fun e he=>by
   have:=(h1.at_ e he).1;show H e.blk=_;rw[this];simp,by show(0:Int)<=0;decide,by
   show(0:Int)+(Ia t []:Nat)<=(t.l.length:Nat)
   have:Ia t []<=t.l.length:=List.length_filter_le _ _;omega⟩
  and_intros<;>first|exact cz|exact hI|(intro h_;revert h_)|exact cA|skip
 rw[<- hf]at hI ⊢;refine⟨.i64,mb,x.seen,t.dG,rfl,mb,t.l.map gC.enc,t.dG,rfl,rfl,hok,rfl,rfl,fun hall=>⟨(x.H,x.n),?_⟩,fun e he hns=>?_⟩
 ·have ha:=hI.all h1 fun e he=>hall _ (List.mem_map.2 ⟨e,he,rfl⟩);have hm:kI mb .i64 (t.l.map gC.enc) t.dG=kI mb .i64 ((gW t f).l.map gC.enc) (gW t f).dG:=by
   unfold gW;rw[List.map_map];rfl
  have ho:=hI.old
  and_intros<;>first|exact cz|exact hm|exact ha|exact ho|(intro h_;revert h_)|exact cA|skip
 obtain⟨y,hy,rfl⟩:=List.mem_map.1 he;have hns:y.born∉x.seen:=hns;have hg:x.H y.blk=some (0,[.string y.key,.bool y.good]):=by
  rw[hI.at_ y hy,decide_eq_false hns];simp
 have hmu:=NU hy hns;refine⟨.i64,mb,x.seen++[y.born],t.dG,rfl,mb,t.l.map gC.enc,t.dG,rfl,rfl,hok,rfl,x.seen,gC.enc y,rfl,he,y.blk,0,rfl,y.blk,0,rfl,y.blk,0,1,[.string y.key,.bool y.good],rfl,hg,⟨⟨_,rfl,_,rfl⟩,trivial⟩,fun c1=>?_,fun c1=>?_⟩
 ·have c1:y.good=true:=c1;have hyk:=(h1.at_ y hy).2;refine⟨y.blk,0,rfl,y.blk,0,rfl,y.blk,0,0,[.string y.key,.bool y.good],rfl,hg,⟨⟨_,rfl,_,rfl,hyk⟩,trivial⟩,JD.mk ks cap y.key,?_⟩;have hrk:aj ks.length 1 (aa kO ks) (aa kO ks):=aj.refl _ _ _;have hkk:YL ([Value.string y.key,.bool y.good].getD 0 (.tuple #[]))=y.key:=rfl
  and_intros<;>first|exact cz|exact hkk|exact hrk|exact h2|(intro h_;revert h_)|exact cA|skip
  intro _ _;dsimp only;rw[<- hf];refine⟨fun c2=>⟨y.blk,0,rfl,y.blk,0,rfl,y.blk,0,1,[.string y.key,.bool y.good],rfl,hg,(Nat.le_refl 2),?_,⟨x.seen++[y.born],aM x.H y.blk 0 [.string y.key,.bool false],x.n+1⟩,?_⟩,fun c2=>⟨⟨x.seen++[y.born],x.H,x.n⟩,?_⟩⟩
  ·have:=hI.n;have:=List.length_filter_le (fun e:gC=>!decide (e.born∈x.seen)) t.l;simp only[bQ];omega
  ·have hI2:=hI.hit h1 hy hns c2
   and_intros<;>first|exact cz|exact hI2|exact hmu|(intro h_;revert h_)|exact cA|skip
  ·have hI2:=hI.skip h1 hy hns (by rw[c1,c2];rfl)
   and_intros<;>first|exact cz|exact hI2|exact hmu|(intro h_;revert h_)|exact cA|skip
 ·have c1:y.good=false:=c1;have hI2:=hI.skip h1 hy hns (by rw[c1];rfl);refine⟨⟨x.seen++[y.born],x.H,x.n⟩,?_⟩
  and_intros<;>first|exact cz|exact hI2|exact hmu|(intro h_;revert h_)|exact cA|skip)
theorem PI:ak (Y Tryz.prog).G.X 88 Me:=aT fF PG ⟨Tx,trivial⟩
def x9(_:ByteArray):Bool:=true
structure JE where
 mb:Nat
 t:jk
 H:PH
noncomputable def Hw:cF where
 α:=JE
 β:=PH×Int
 m:=3
 m':=3
 pre:=fun a=>gd a.H a.t/\a.t.l.length<100000
 args:=fun a=>[.a (.ptr 0 0 0 0)]
 hp:=fun a=>[(0,DM a.mb a.t),(1,vR a.mb a.t),(2,.ct a.H)]
 ro:=fun _=>[]
 post:=fun a b=>gd b.1 (gW a.t x9)/\∀z,z∉a.t.l.map (·.blk)->b.1 z=a.H z
 res:=fun _ b=>.a (.int .i64 b.2)
 cS:=fun a b=>[(0,DM a.mb (gW a.t x9)),(1,vR a.mb (gW a.t x9)),(2,.ct b.1)]
def Hx(z:Nat)(u:List Nat)(v:Nat)(x:JE)(y:Md)(w:PH)(s:Prop):=l5 z u v=l5 x.mb y.seen x.t.dG/\aH x.t.last/\iC x.mb x.mb/\sI x.mb x.t/\w=y.H/\NT x.t x.H x9 y/\s
theorem Mf:fnBody (Y Tryz.prog) [] 107 Hw fun a=>[(131,[Ty a.mb a.t a.H x9],[])]:=fnBody.of (p :=
 ∀x:JE,NV x.H x.t (x.t.l.length<100000) x.mb (fun y z u=>ag (Hx y [] z x u x.H True)) x9 (fun y=>x.H y) (fun y z u w s v k m=>Exists (mz v.val 1 (fun f=>y.H f) 1 fun f h i j=>ai (y.n+(1:Int))/\Exists (wW (y.n+(1:Int)) fun g=>ag (Hx w (sH z s) u x g (aM y.H f h (pP i j (bG fR) 1)) (Ia x.t g.seen<Ia x.t y.seen))))) fun y z u w s v=>ag (Hx w (sH z s) u x v y.H (Ia x.t v.seen<Ia x.t y.seen))) (by kernel_rfl) (by
 delta aG aQ gu ai gO aH iC mz bO bA iA bG aF bP qt NV bp bF qM fR aR ag Hx sH wV dR sI pP wW
 try dsimp -iota -proj only
 rintro⟨mb,t,H⟩ ⟨h1,h3⟩;dsimp only at *;have hok:=h1.ok;refine⟨mb,t.l.map gC.enc,t.dG,rfl,rfl,hok,⟨⟨[],H,0⟩,?_⟩,fun x hI=>?_⟩
 ·have hI:NT t H x9 ⟨[],H,0⟩:=⟨fun _ _=>rfl,fun e he=>by
   have:=(h1.at_ e he).1;show H e.blk=_;rw[this];simp,by show(0:Int)<=0;decide,by
   show(0:Int)+(Ia t []:Nat)<=(t.l.length:Nat)
   have:Ia t []<=t.l.length:=List.length_filter_le _ _;omega⟩
  and_intros<;>first|exact cz|exact hI|(intro h_;revert h_)|exact cA|skip
 refine⟨.i64,mb,x.seen,t.dG,rfl,mb,t.l.map gC.enc,t.dG,rfl,rfl,hok,rfl,rfl,fun hall=>⟨(x.H,x.n),?_⟩,fun e he hns=>?_⟩
 ·have ha:=hI.all h1 fun e he=>hall _ (List.mem_map.2 ⟨e,he,rfl⟩);have hm:kI mb .i64 (t.l.map gC.enc) t.dG=kI mb .i64 ((gW t x9).l.map gC.enc) (gW t x9).dG:=by
   unfold gW;rw[List.map_map];rfl
  have ho:=hI.old
  and_intros<;>first|exact cz|exact hm|exact ha|exact ho|(intro h_;revert h_)|exact cA|skip
 obtain⟨y,hy,rfl⟩:=List.mem_map.1 he;have hns:y.born∉x.seen:=hns;have hg:x.H y.blk=some (0,[.string y.key,.bool y.good]):=by
  rw[hI.at_ y hy,decide_eq_false hns];simp
 have hmu:=NU hy hns;refine⟨.i64,mb,x.seen++[y.born],t.dG,rfl,mb,t.l.map gC.enc,t.dG,rfl,rfl,hok,rfl,x.seen,gC.enc y,rfl,he,y.blk,0,rfl,y.blk,0,rfl,y.blk,0,1,[.string y.key,.bool y.good],rfl,hg,⟨⟨_,rfl,_,rfl⟩,trivial⟩,fun c1=>?_,fun c1=>?_⟩
 ·have c1:y.good=true:=c1;have hyk:=(h1.at_ y hy).2;refine⟨y.blk,0,rfl,y.blk,0,rfl,y.blk,0,0,[.string y.key,.bool y.good],rfl,hg,⟨⟨_,rfl,_,rfl,hyk⟩,trivial⟩,y.blk,0,rfl,y.blk,0,rfl,y.blk,0,1,[.string y.key,.bool y.good],rfl,hg,(Nat.le_refl 2),?_,⟨x.seen++[y.born],aM x.H y.blk 0 [.string y.key,.bool false],x.n+1⟩,?_⟩
  ·have:=hI.n;have:=List.length_filter_le (fun e:gC=>!decide (e.born∈x.seen)) t.l;simp only[bQ];omega
  ·have hI2:=hI.hit h1 hy hns rfl
   and_intros<;>first|exact cz|exact hI2|exact hmu|(intro h_;revert h_)|exact cA|skip
 ·have c1:y.good=false:=c1;have hI2:=hI.skip h1 hy hns (by rw[c1];rfl);refine⟨⟨x.seen++[y.born],x.H,x.n⟩,?_⟩
  and_intros<;>first|exact cz|exact hI2|exact hmu|(intro h_;revert h_)|exact cA|skip)
theorem Mg:ak (Y Tryz.prog).G.X 107 Hw:=aT fF Mf trivial
structure nV where
 node:Int
 id:Int
 op:Int
 key:ByteArray
 deriving Inhabited
structure JF where
 w:nV
 id:Int
 to:Int
 tick:Int
 deriving Inhabited
structure gX where
 w:nV
 tok:Int
 deriving Inhabited
def V8:List CK:=[.int .i64,.int .i64,.int .i64,.str]
def Tz(w:nV):List Value:=[.int .i64 w.node,.int .i64 w.id,.int .i64 w.op,.string w.key]
def Mh:List CK:=V8++[.int .i64,.int .i64,.int .i64]
def jm(x:JF):List Value:=Tz x.w++[.int .i64 x.id,.int .i64 x.to,.int .i64 x.tick]
def C7:List CK:=V8++[.int .i64]
def fh(x:gX):List Value:=Tz x.w++[.int .i64 x.tok]
structure qN where
 aS:Int
 end_:Int
 top:Int
structure de where
 s:kY
 id:Int
 now:Int
 le:qN
 t:jk
 ws:List JF
 rs:List gX
 asked:Int
structure iV where
 p:rF
 mb:Nat
 wc:Nat
 rc:Nat
def PJ(rg ma ra:A)(st le tk wa rd:Nat)(n:de)(p:iV):Chunk:=.obj 83 [.ptr st 0 0 0,.ptr le 0 0 0,.int .i64 n.id,rg,.ptr tk 0 0 0,.bool false,.bU,.val (.map none),.val (.map none),.slc wa 0 7 n.ws.length p.wc,.slc rd 0 5 n.rs.length p.rc,.int .i64 n.asked,ma,ra]
def JG(rg:A)(st le tk wa rd:Nat)(n:de)(p:iV):Chunk:=PJ rg .bU .bU st le tk wa rd n p
def V9(ck:Nat)(l:qN):Chunk:=.obj 127 [.ptr ck 0 0 0,.int .i64 l.aS,.int .i64 l.end_,.int .i64 l.top]
def Xg(now:Int):Chunk:=.obj 24 [.int .i64 now]
def Yw(rg:A)(nd le ck tk mp wa rd st ca cl dv ds ix it jr ma jl ke su tx pl:Nat)(n:de)(p:iV):List (Nat×Chunk) :=
 [(nd,JG rg st le tk wa rd n p),(le,V9 ck n.le),(ck,Xg n.now),(tk,DM p.mb n.t),(mp,vR p.mb n.t),(wa,.arr 125 Mh n.ws.length (aa jm n.ws)),(rd,.arr 134 C7 n.rs.length (aa fh n.rs))]++vo st ca cl dv ds ix it jr ma jl ke su tx pl n.s p.p
structure dX(n:de)(p:iV):Prop where
 st:ow n.s p.p
 tok:gd p.p.H n.t
 sep:∀e∈n.t.l,e.blk∉bq p.p.cy/\e.blk∉bq p.p.jy
 wc:n.ws.length<=p.wc
 rc:n.rs.length<=p.rc
def Zs:jk:=⟨0,[],0⟩
structure Mi where
 id:Int
 now:Int
 d:bw
 H:PH
def uL(a:Mi):de:=⟨ku (ry ⟨a.d,a.H⟩),a.id,a.now,⟨0,0,0⟩,Zs,[],[],0⟩
noncomputable def Hy:cF where
 α:=Mi
 β:=iV
 m:=4
 m':=40
 pre:=fun a=>1<=a.id/\a.id<=5/\xW.pre ⟨a.d,a.H⟩
 args:=fun a=>[.a (.int .i64 a.id),.a (.ptr 0 0 0 0),.a (.ptr 3 0 0 0)]
 hp:=fun a=>gn 0 1 a.d++[(2,.ct a.H),(3,Xg a.now)]
 ro:=fun _=>[]
 post:=fun a b=>dX (uL a) b
 res:=fun _ _=>.lY [.a (.ptr 4 0 0 0),.a (.lit .i64 0)]
 cS:=fun a b=>Yw .nil 4 5 3 6 7 8 9 10 11 12 0 1 13 14 15 16 17 18 19 20 21 (uL a) b
def lT:=cQ (Value.map none)
def uM(y:Int)(x:qN)(z u:Int)(v w:Prop):=ag (y=x.aS/\z=x.end_/\u=x.top/\v/\w)
def cD(x:List gX):Nat:=x.length
theorem PK:fnBody (Y Tryz.prog) [(46,xW)] 11 Hy fun _=>[]:=fnBody.of (p :=
 ∀x:Mi,(1:Int)<=x.id/\x.id<=(5:Int)/\wU x.d { d:=x.d,H:=x.H }->gU (aA x.id 1) (∃y:iV,False) (aA 5 x.id) (∃y:CP,ag (fV x.d y.d (x.H=y.H/\wU y.d y/\∀u:rF,wT (ry y) u y.H->∀v:Nat,∃z:iV,ag (aR (ax (x.id=(uL x).id/\ag (bp (lT/\lT/\(0=(uL x).ws.length/\0=z.wc)/\(0=cD (uL x).rs/\0=z.rc)/\(0:Int)=(uL x).asked/\uM 0 (uL x).le 0 0 (x.now=(uL x).now) ((0:Int)=(uL x).t.last/\iC v z.mb/\kI v .i64 [] 0=gO z.mb (uL x).t/\(uL x).ws.length=0/\cD (uL x).rs=0/\kz (ku (ry y)) (uL x).s u z.p (u.H=z.p.H/\dX (uL x) z/\True))))))))))) (by kernel_rfl) (by
 delta aG bR gO aH iC aA bO lT uM cD aF cQ qt gU bp aR ag wU ax iH wT kz
 rintro⟨id,now,d,H⟩ ⟨h1,h2,h3,h4,h5,h6⟩;dsimp only at *;refine⟨fun c=>(by exfalso;have:=of_decide_eq_true c;omega),fun _=>⟨fun c=>(by exfalso;have:=of_decide_eq_true c;omega),fun _=>⟨CP.mk d H,?_⟩⟩⟩
 and_intros<;>first|exact cz|exact h3|exact h4|exact h5|exact h6.1|exact h6.2|exact h6.3|exact h6.4|exact h6.5|exact h6.6|(intro h_;revert h_)|exact cA|skip
 rintro p ⟨hat,_⟩ mb;refine⟨⟨p,mb,0,0⟩,?_⟩;have hN:dX (uL ⟨id,now,d,H⟩) ⟨p,mb,0,0⟩:=⟨hat,⟨fun e he=>(by cases he),List.nodup_nil,fun e he=>(by cases he),List.nodup_nil,List.nodup_nil,by show(0:Int)<=0/\(0:Int)<=_;omega⟩,fun e he=>(by cases he),Nat.le_refl 0,Nat.le_refl 0⟩
 and_intros<;>first|exact cz|exact hN|(intro h_;revert h_)|exact cA|skip)
theorem PL:ak (Y Tryz.prog).G.X 11 Hy:=aT fF PK ⟨LX,trivial⟩
theorem ow.frame{s:kY}{p:rF}(h:ow s p){H':PH}(e:∀z,z∈bq p.cy\/z∈bq p.jy->H' z=p.H z):ow s { p with H:=H' } :=
 ⟨⟨h.fl.log.frame fun z hz=>e z (.inl hz),h.fl.idx⟩,h.jl.frame fun z hz=>e z (.inr hz),h.sep,h.cap⟩
theorem ow.dom{s:kY}{p:rF}(h:ow s p){z:Nat}(hz:z∈bq p.cy\/z∈bq p.jy):p.H z≠none:=by
 rcases hz with hz|hz
 ·exact h.fl.log.dom z hz
 ·exact h.jl.dom z hz
theorem gd.frame{H H':PH}{t:jk}(h:gd H t)(e:∀x∈t.l,H' x.blk=H x.blk):gd H' t :=
 ⟨fun x hx=>⟨by rw[e x hx];exact(h.at_ x hx).1,(h.at_ x hx).2⟩,h.blk,h.id,h.ids,h.born,h.last⟩
theorem dX.store{n:de}{p:iV}(h:dX n p){s:kY}{b:rF}(h1:ow s b)(h2:CO p.p.H (bq p.p.cy) (bq p.p.jy) b):dX { n with s:=s } { p with p:=b }:=by
 have hx:∀e∈n.t.l,b.H e.blk=p.p.H e.blk/\e.blk∉bq b.cy/\e.blk∉bq b.jy:=fun e he =>
  h2 e.blk (by rw[(h.tok.at_ e he).1];simp) (h.sep e he).1 (h.sep e he).2
 exact⟨h1,h.tok.frame fun e he=>(hx e he).1,fun e he=>(hx e he).2,h.wc,h.rc⟩
theorem gd.Xh{H:PH}{t:jk}(h:gd H t){key:ByteArray}{b:Nat}(hb:H b=none)(hk:key.size<=aq)(hl:t.last<1099511627776):gd (aM H b 0 [.string key,.bool true]) (qs t key b):=by
 have hne:∀e∈t.l,e.blk≠b:=fun e he h0=>by
  have:=(h.at_ e he).1;rw[h0,hb]at this;cases this
 have hlast:=h.last;refine⟨fun e he=>?_,?_,fun e he=>?_,?_,?_,by show 0<=t.last+1/\t.last+1<=_;omega⟩
 ·rcases List.mem_append.1 he with he|he
  ·exact⟨by rw[cw (hne e he)];exact(h.at_ e he).1,(h.at_ e he).2⟩
  ·rw[List.mem_singleton]at he;subst he;exact⟨dB _ _ _ _,hk⟩
 ·show((t.l++[_]).map _).Nodup;rw[List.map_append,List.nodup_append];refine⟨h.blk,by simp,fun x hx y hy=>?_⟩;obtain⟨e,he,rfl⟩:=List.mem_map.1 hx;have:y=b:=by simpa using hy
  rw[this];exact hne e he
 ·rcases List.mem_append.1 he with he|he
  ·have:=h.id e he;show 1<=e.id/\e.id<=t.last+1/\e.born<t.dG+1;omega
  ·rw[List.mem_singleton]at he;subst he;show 1<=t.last+1/\t.last+1<=t.last+1/\t.dG<t.dG+1;omega
 ·show((t.l++[_]).map _).Nodup;rw[List.map_append,List.nodup_append];refine⟨h.ids,by simp,fun x hx y hy=>?_⟩;obtain⟨e,he,rfl⟩:=List.mem_map.1 hx;have:y=t.last+1:=by simpa using hy
  have:=h.id e he;omega
 ·show((t.l++[_]).map _).Nodup;rw[List.map_append,List.nodup_append];refine⟨h.born,by simp,fun x hx y hy=>?_⟩;obtain⟨e,he,rfl⟩:=List.mem_map.1 hx;have:y=t.dG:=by simpa using hy
  have:=h.id e he;omega
theorem dX.Xh{n:de}{p:iV}(h:dX n p){key:ByteArray}{b:Nat}(hb:p.p.H b=none)(hk:key.size<=aq)(hl:n.t.last<1099511627776):dX { n with t:=qs n.t key b } { p with p:={ p.p with H:=aM p.p.H b 0 [.string key,.bool true] } }:=by
 have hne:∀z,z∈bq p.p.cy\/z∈bq p.p.jy->z≠b:=fun z hz h0=>h.st.dom hz (by rw[h0];exact hb);refine⟨h.st.frame fun z hz=>cw (hne z hz),h.tok.Xh hb hk hl,fun e he=>?_,h.wc,h.rc⟩;rcases List.mem_append.1 he with he|he
 ·exact h.sep e he
 ·rw[List.mem_singleton]at he;subst he;exact⟨fun hz=>hne b (.inl hz) rfl,fun hz=>hne b (.inr hz) rfl⟩
theorem dX.Wa{n:de}{p:iV}(h:dX n p){f:ByteArray->Bool}{H':PH}(h1:gd H' (gW n.t f))(h2:∀z,z∉n.t.l.map (·.blk)->H' z=p.p.H z):dX { n with t:=gW n.t f } { p with p:={ p.p with H:=H' } }:=by
 refine⟨h.st.frame fun z hz=>h2 z fun hm=>?_,h1,fun e he=>?_,h.wc,h.rc⟩
 ·obtain⟨e,he,rfl⟩:=List.mem_map.1 hm;rcases hz with hz|hz
  ·exact(h.sep e he).1 hz
  ·exact(h.sep e he).2 hz
 ·obtain⟨y,hy,rfl⟩:=List.mem_map.1 he;exact h.sep y hy
structure AL where
 id:Int
 op:Int
 key:ByteArray
 err:Int
 val:ByteArray
 has:Bool
 deriving Inhabited
def Wb:List CK:=[.int .i64,.int .i64,.str,.int .i64,.str,.bool]
def sJ(r:AL):List Value:=[.int .i64 r.id,.int .i64 r.op,.string r.key,.int .i64 r.err,.string r.val,.bool r.has]
def uN:ByteArray:=ByteArray.mk #[]
structure ET where
 n:de
 p:iV
 id:Int
 op:Int
 key:ByteArray
def zJ(op:Int)(key:ByteArray)(e:Int):Int:=if(op=1\/op=2)/\dM key=true then e else 1
def PM(a:ET):AL:=⟨a.id,a.op,a.key,zJ a.op a.key 6,uN,false⟩
noncomputable def Mj:cF where
 α:=ET
 β:=Nat
 m:=8
 m':=9
 pre:=fun a=>a.key.size<=aq
 args:=fun a=>[.a (.ptr 0 0 0 0),.a (.int .i64 a.id),.a (.int .i64 a.op),.a (.str a.key)]
 hp:=fun a=>[(0,JG .nil 7 1 3 5 6 a.n a.p)]
 ro:=fun _=>[]
 post:=fun _ _=>True
 res:=fun _ c=>.agg [.bU,.slc 8 0 6 1 c]
 cS:=fun a _=>[(0,JG .nil 7 1 3 5 6 a.n a.p),(8,.arr 61 Wb 1 (aa sJ [PM a]))]
def pZ(x:List JF)(y:de)(z:Nat)(u:iV):=ag (x.length=y.ws.length/\z=u.wc)
def jI(y:Prop)(z:List gX)(x:de)(u:Nat)(v:iV)(w:Int)(s:Prop):=bp (lT/\lT/\y/\ag (cD z=cD x.rs/\u=v.rc)/\w=x.asked/\s)
def p5(x y:de)(z u:iV)(v w:Prop):=ag (jI (pZ x.ws y z.wc u) x.rs y z.rc u x.asked (v/\w))
def Hz(x:ET)(z:Int):=ai x.id->ai x.op->1<=1/\64<=140737488355328/\∀y:Nat,1<=y->y<=aq->∃u:Nat,bR 1 (y=u)/\bB 1 1 6 (jE 6 (bt x.id (bt x.op (dV x.key z (bP (bF cV) (bG fR)))))) (aa sJ [PM x])/\ax (aH x.n.id/\p5 x.n x.n x.p x.p True True)
theorem PN:fnBody (Y Tryz.prog) [(66,Ix.uu),(86,KH)] 13 Mj fun _=>[]:=fnBody.of (p :=
 ∀x:ET,bA x.key<=aq->∃z:Ix.O0,GD z x.key (ai x.op->vM (x.op != (1:Int)) x.op (x.op != (2:Int)) (Hz x 1) (∃y:ByteArray,x.key=y/\cH (aG (bC (dM y)) (Hz x 1) (Hz x 6))))) (by kernel_rfl) (by
 delta aG p5 bB ai bt bR aH bO bA cV lT bG cD aF dL bP cQ pZ vM aI Hz bp bF ia fR jI ag ax dV GD bC cH dR jE
 try dsimp -iota -proj only
 rintro⟨n,p,id,op,key⟩ h;have h:key.size<=aq:=h;have hr:aj 1 1 (aN 1 [Go.Value.string key]) (fun(i x:Nat)=>Go.Value.string key):=.dQ fun i hi=>by
  have:i=0:=by omega
  subst this;rfl
 have hs:∀i:Nat,i<1->key.size<=aq:=fun _ _=>h;have hrep:∀e:Int,zJ op key 6=e->aj 1 6 (fun(i j:Nat)=>aN 6 [Value.int .i64 id,Value.int .i64 op,Value.string key,Value.int .i64 e,Value.string (ByteArray.mk #[]),Value.bool false] (0+i) j) (aa sJ [PM ⟨n,p,id,op,key⟩]):=fun e he=>.dQ fun i hi=>by
  have:i=0:=by omega
  subst this;subst he;rfl
 refine⟨⟨fun _=>key,1,1⟩,?_⟩
 and_intros<;>first|exact cz|exact hr|exact hs|(intro h_;revert h_)|exact cA|skip
 intro _ _ _;dsimp only;have hk1:∀ {c:Bool},dM key=c->(op=1\/op=2)->zJ op key 6=if c=true then 6 else 1:=fun {c} hc ho=>by
  unfold zJ;rw[hc];cases c<;>simp[ho]
 refine⟨fun c1 _=>⟨fun c2 _ _=>?_,fun c2=>⟨key,rfl,trivial,fun _ _=>⟨fun c3 _ _=>?_,fun c3 _ _=>?_⟩⟩⟩,fun c1=>⟨key,rfl,trivial,fun _ _=>⟨fun c3 _ _=>?_,fun c3 _ _=>?_⟩⟩⟩
 ·have he:=hrep 1 (by unfold zJ;rw[if_neg];rintro⟨ho,_⟩;rcases ho with ho|ho<;>simp[ho]at c1 c2);refine⟨Nat.le_refl 1,by decide,fun cap _ _=>⟨cap,?_⟩⟩
  and_intros<;>first|exact cz|exact he|(intro h_;revert h_)|exact cA|skip
 ·have he:=hrep 1 (by rw[hk1 (c:=false) (by simpa using c3) (.inr (by simpa using c2))];rfl);refine⟨Nat.le_refl 1,by decide,fun cap _ _=>⟨cap,?_⟩⟩
  and_intros<;>first|exact cz|exact he|(intro h_;revert h_)|exact cA|skip
 ·have he:=hrep 6 (by rw[hk1 (c:=true) (by simpa using c3) (.inr (by simpa using c2))];rfl);refine⟨Nat.le_refl 1,by decide,fun cap _ _=>⟨cap,?_⟩⟩
  and_intros<;>first|exact cz|exact he|(intro h_;revert h_)|exact cA|skip
 ·have he:=hrep 1 (by rw[hk1 (c:=false) (by simpa using c3) (.inl (by simpa using c1))];rfl);refine⟨Nat.le_refl 1,by decide,fun cap _ _=>⟨cap,?_⟩⟩
  and_intros<;>first|exact cz|exact he|(intro h_;revert h_)|exact cA|skip
 ·have he:=hrep 6 (by rw[hk1 (c:=true) (by simpa using c3) (.inl (by simpa using c1))];rfl);refine⟨Nat.le_refl 1,by decide,fun cap _ _=>⟨cap,?_⟩⟩
  and_intros<;>first|exact cz|exact he|(intro h_;revert h_)|exact cA|skip)
theorem PO:ak (Y Tryz.prog).G.X 13 Mj:=aT fF PN ⟨Ix.vk,xK,trivial⟩
structure nW where
 kind:Int
 oC:Int
 to:Int
 aS:Int
 tick:Int
 seq:Int
 n:Int
 id:Int
 op:Int
 key:ByteArray
 err:Int
 last:Bool
 item:aD
 base:Int
 deriving Inhabited
def Mk:List CK:=[.int .i64,.int .i64,.int .i64,.int .i64,.int .i64,.int .i64,.int .i64,.int .i64,.int .i64,.str,.int .i64,.bool,.str,.str,.int .i64,.bool,.deep,.deep,.deep,.int .i64,.deep]
def ey(m:nW):List Value:=[.int .i64 m.kind,.int .i64 m.oC,.int .i64 m.to,.int .i64 m.aS,.int .i64 m.tick,.int .i64 m.seq,.int .i64 m.n,.int .i64 m.id,.int .i64 m.op,.string m.key,.int .i64 m.err,.bool m.last,.string m.item.key,.string m.item.val,.int .i64 m.item.e,.bool m.item.gone,.slice none 0 0,.slice none 0 0,.slice none 0 0,.int .i64 m.base,.slice none 0 0]
def C8(t:Nat)(l:List nW):Nat×Chunk:=(t,.arr 45 Mk l.length (aa ey l))
def NW(t:Nat)(l:List AL):Nat×Chunk:=(t,.arr 61 Wb l.length (aa sJ l))
structure mO where
 n:de
 p:iV
 q:List nW
 qc:Nat
 l:List nW
 lc:Nat
def JH(id:Int)(l:List nW):List nW:=l.map fun m=>{ m with oC:=id }
def mO.to(a:mO)(i:Nat):List nW:=a.q++JH a.n.id (a.l.take i)
noncomputable def Ml(rg:A):cF where
 α:=mO
 β:=Nat
 m:=12
 m':=13
 pre:=fun a=>a.l.length<1000/\a.q.length<1000
 args:=fun a=>[.a (.ptr 0 0 0 0),.a (.slc 10 0 21 a.l.length a.lc)]
 hp:=fun a=>[(0,PJ rg (.slc 11 0 21 a.q.length a.qc) .bU 7 1 3 5 6 a.n a.p),C8 11 a.q]
 ro:=fun a=>[C8 10 a.l]
 post:=fun a c=>a.l.length=0->c=a.qc
 res:=fun _ _=>.lY []
 cS:=fun a c=>[(0,PJ rg (.slc 12 0 21 (a.to a.l.length).length c) .bU 7 1 3 5 6 a.n a.p),C8 12 (a.to a.l.length)]
def Yx(rg:A)(a:mO):An:=.flat 1 (Nat×Nat) (fun s x=>((((s.put (s.hp.del 11)).new (.arr 45 Mk (a.to x.1).length (aa ey (a.to x.1)))).at_ 0 (PJ rg (.slc s.nx 0 21 (a.to x.1).length x.2) .bU 7 1 3 5 6 a.n a.p)).int 8 x.1)) (fun _ x=>x.1<=a.l.length/\(x.1=0->x.2=a.qc)) (fun _ x=>a.l.length-x.1)
theorem NX{a:mO}{i:Nat}(h:i<a.l.length):a.to (i+1)=a.to i++[{ gl a.l i with oC:=a.n.id }]:=by
 unfold mO.to JH;rw[gh h,List.map_append,List.append_assoc];rfl
theorem TA(a:mO)(i:Nat):(a.to i).length=a.q.length+min i a.l.length:=by
 unfold mO.to JH;simp
def JI(x:nW)(y:Int):List Value:=DD .i64 x.kind y x.to (dL x.aS) x.tick x.seq x.n (bt x.id (bt x.op (dV x.key x.err (kK (dR x.last) (bF x.item.key) (dV x.item.val x.item.e (kK (dR x.item.gone) fS (kK fS fS (bt x.base (bG fS)))))))))
def bE(x:List nW):Nat:=x.length
def mF(x y:List nW):=bB (bE x) (bE y) 21 (aa ey y) (aa ey x)
def zK(x:List nW):=dK (bE x) 21 (aa ey x)
def HA(x:mO)(z y:Nat×Nat)(u:Nat):=p5 x.n x.n x.p x.p (ag (bE (x.to z.fst)+1=bE (x.to y.fst)/\u=y.snd)) (zK x.l/\iS (bE (x.to y.fst)) (bE (x.to z.fst)) 21 (aa ey (x.to z.fst)) (JI (gl x.l (0+az z.fst)) x.n.id) (aa ey (x.to y.fst))/\dO y.fst (bE x.l) (y.fst=0->y.snd=x.qc) z.fst)
def HB(x:mO)(z:Nat×Nat->Prop)(u:Nat×Nat->Nat->Nat×Nat->Prop)(v:Nat×Nat->Nat->Prop):=bE x.l<1000/\bE x.q<1000->(∃y:Nat×Nat,aK y.fst (aW (bE x.l)/\aV (bE x.l) x.lc/\ag (aV (bE x.l) x.lc/\z y)))/\∀y:Nat×Nat,ji y.fst (bE x.l) (y.fst=0->y.snd=x.qc) (ai x.n.id->gH (bE (x.to y.fst)) 256 y.snd fun w=>iT y fun s=>aW (bE x.l)/\aV (bE x.l) x.lc/\ag (aV (bE x.l) x.lc/\ax (aH x.n.id/\u y w s))) (∃t:Nat,v y t)
def HC(x:mO)(y:Nat×Nat):=zK x.l/\mF (x.to y.fst) x.q/\(y.fst<=bE x.l/\(y.fst=0->y.snd=x.qc))/\True
theorem TB:fnBody (Y Tryz.prog) [] 51 (Ml .nil) fun a=>[(51,[Yx .nil a],[])]:=fnBody.of (p :=
 ∀x:mO,HB x (fun y=>ax (aH x.n.id/\p5 x.n x.n x.p x.p (ag (bE x.q=bE (x.to y.fst)/\x.qc=y.snd)) (HC x y))) (fun y z u=>HA x y u z) fun y z=>ax (aH x.n.id/\p5 x.n x.n x.p x.p (ag (bE (x.to y.fst)=bE (x.to (bE x.l))/\y.snd=z)) (mF (x.to (bE x.l)) (x.to y.fst)/\(bE x.l=0->z=x.qc)/\True))) (by kernel_rfl) (by
 delta aG p5 DD bB ai bt bR az aH gq aA cn af bO lT dO bG cD aF dL aU bn kK bP cQ pZ eM dK jt JI bE iS gH aV bp mF bF fS iT aP aW HA aK bf HB jI ag dJ bx ax dV HC dR jE ji zK
 try dsimp -iota -proj only
 intro a ⟨h1,h2⟩;have e0:a.to 0=a.q:=by unfold mO.to JH;simp
 have h0:(0:Nat)=0->a.qc=a.qc:=fun _=>rfl;refine⟨⟨(0,a.qc),?_⟩,fun⟨i,c⟩ ⟨hi,hc⟩=>⟨fun c1=>?_,fun c1=>⟨c,?_⟩⟩⟩
 ·dsimp only;rw[e0]
  and_intros<;>first|exact cz|exact h0|(intro h_;revert h_)|exact cA|skip
 ·dsimp only at *;have hi:i<a.l.length:=by have:=of_decide_eq_true c1;omega
  have hl:=TA a i;have hs:=NX hi;have hz:0+(i:Int).toNat=i:=by omega
  rw[hz];refine⟨by omega,hi,fun _=>⟨by omega,by omega,by omega,fun cap _ _ _=>⟨by simp only[bQ];omega,(i+1,cap),?_⟩⟩⟩;dsimp only;rw[hs];have hp:aj ((a.to i)++[{ gl a.l i with oC:=a.n.id }]).length 21 (aX (aa ey (a.to i)) 0 (a.to i).length fun i_1 j=>aN 21 (ey { gl a.l i with oC:=a.n.id }) (0+i_1) j) (aa ey ((a.to i)++[{ gl a.l i with oC:=a.n.id }])):=.push rfl (by simp) rfl;have h1:i+1=0->cap=a.qc:=fun e=>by omega
  and_intros<;>first|exact cz|exact hp|exact by simp|exact h1|(intro h_;revert h_)|exact cA|skip
 ·dsimp only at *;have hi:i=a.l.length:=by have:=of_decide_eq_false c1;omega
  subst hi
  and_intros<;>first|exact cz|exact hc|(intro h_;revert h_)|exact cA|skip)
def oD(x:de)(y:iV)(z u:Prop):=ax (aH x.id/\ag (p5 x x y y z u))
theorem TC:fnBody (Y Tryz.prog) [] 51 (Ml (.ptr 9 0 0 0)) fun a=>[(51,[Yx (.ptr 9 0 0 0) a],[])]:=fnBody.of (p :=
 ∀x:mO,HB x (fun y=>oD x.n x.p (ag (bE x.q=bE (x.to y.fst)/\x.qc=y.snd)) (HC x y)) (fun y z u=>ag (HA x y u z)) fun y z=>oD x.n x.p (ag (bE (x.to y.fst)=bE (x.to (bE x.l))/\y.snd=z)) (mF (x.to (bE x.l)) (x.to y.fst)/\(bE x.l=0->z=x.qc)/\True)) (by kernel_rfl) (by
 delta aG p5 DD bB ai bt bR az aH gq aA cn af bO lT dO bG cD aF dL aU bn kK bP cQ pZ eM dK jt JI bE iS gH aV bp mF bF fS iT aP aW HA aK bf oD HB jI ag dJ bx ax dV HC dR jE ji zK
 try dsimp -iota -proj only
 intro a ⟨h1,h2⟩;have e0:a.to 0=a.q:=by unfold mO.to JH;simp
 have h0:(0:Nat)=0->a.qc=a.qc:=fun _=>rfl;refine⟨⟨(0,a.qc),?_⟩,fun⟨i,c⟩ ⟨hi,hc⟩=>⟨fun c1=>?_,fun c1=>⟨c,?_⟩⟩⟩
 ·dsimp only;rw[e0]
  and_intros<;>first|exact cz|exact h0|(intro h_;revert h_)|exact cA|skip
 ·dsimp only at *;have hi:i<a.l.length:=by have:=of_decide_eq_true c1;omega
  have hl:=TA a i;have hs:=NX hi;have hz:0+(i:Int).toNat=i:=by omega
  rw[hz];refine⟨by omega,hi,fun _=>⟨by omega,by omega,by omega,fun cap _ _ _=>⟨by simp only[bQ];omega,(i+1,cap),?_⟩⟩⟩;dsimp only;rw[hs];have hp:aj ((a.to i)++[{ gl a.l i with oC:=a.n.id }]).length 21 (aX (aa ey (a.to i)) 0 (a.to i).length fun i_1 j=>aN 21 (ey { gl a.l i with oC:=a.n.id }) (0+i_1) j) (aa ey ((a.to i)++[{ gl a.l i with oC:=a.n.id }])):=.push rfl (by simp) rfl;have h1:i+1=0->cap=a.qc:=fun e=>by omega
  and_intros<;>first|exact cz|exact hp|exact by simp|exact h1|(intro h_;revert h_)|exact cA|skip
 ·dsimp only at *;have hi:i=a.l.length:=by have:=of_decide_eq_false c1;omega
  subst hi
  and_intros<;>first|exact cz|exact hc|(intro h_;revert h_)|exact cA|skip)
theorem TD:ak (Y Tryz.prog).G.X 51 (Ml .nil):=aT fF TB trivial
theorem JJ:ak (Y Tryz.prog).G.X 51 (Ml (.ptr 9 0 0 0)):=aT fF TC trivial
def Y2(P:Program):Gx:=⟨⟨⟨P,Tab.T,false,false⟩,z1 P (53::Tab.ids),(53,[0,2,5,12,23])::Tab.I⟩,(53,[])::Tab.R⟩
theorem Ze:(z1 Tryz.prog (53::Tab.ids)).all (WD ((53,[])::Tab.R))=true:=by kernel_rfl
theorem Yy:(Y2 Tryz.prog).Ok:=FC (dp:=true) YV mixed (tI _ _) Ze
noncomputable def TE:cF where
 α:=Unit
 β:=Unit
 m:=0
 m':=0
 pre:=fun _=>True
 args:=fun _=>[.a .nil]
 hp:=fun _=>[]
 ro:=fun _=>[]
 post:=fun _ _=>True
 res:=fun _ _=>.a .bU
 cS:=fun _ _=>[]
theorem TF:fnBody (Y2 Tryz.prog) [] 53 TE fun _=>[]:=fnBody.of (p :=
 aI (Exists (ay (True/\True)))) (by kernel_rfl) (by
 delta aI ay
 exact fun _ _=>⟨(),trivial,trivial⟩)
theorem TG:ak (Y Tryz.prog).G.X 53 TE:=aT Yy TF trivial
def Uq:List JF:=[]
def sK(n:de):nW:=⟨1,n.id,0,n.s.k.m.aS,n.now,n.s.k.m.ready,0,0,0,uN,0,false,fK,0⟩
structure HD where
 n:de
 p:iV
noncomputable def HE:cF where
 α:=HD
 β:=Nat
 m:=14
 m':=17
 pre:=fun a=>a.n.ws=[]
 args:=fun _=>[.a (.ptr 0 0 0 0)]
 hp:=fun a=>[(0,JG .nil 7 1 3 5 6 a.n a.p)]
 ro:=fun a=>[(1,V9 2 a.n.le),(2,Xg a.n.now),(7,Y9 8 9 10 a.n.s.bM),(10,.obj 155 (.ptr 11 0 0 0::EE a.n.s.k.m))]
 post:=fun _ _=>True
 res:=fun _ c=>.agg [.slc 14 0 21 1 c,.slc 15 0 6 0 0]
 cS:=fun a _=>[(14,.arr 45 Mk 1 (aa ey [sK a.n])),(0,JG .nil 7 1 3 16 6 { a.n with ws:=Uq } { a.p with wc:=0 }),(16,.arr 125 Mh Uq.length (aa jm Uq))]
def VD:An:=.flat 5 Nat (fun s i=>s.int 3 (1+(i:Int))) (fun _ i=>i<=5) (fun _ i=>5-i)
def zL(x:mO)(z:Nat->Prop):=(bE x.l<1000/\bE x.q<1000)/\∀y:Nat,(bE x.l=0->y=x.qc)->z y
def HF(x:mO)(y z:Int)(u:de)(v w t f:Int)(g:ByteArray)(h:Nat->Prop):=bE x.q=0/\bB (bE x.l) 1 21 (aN 21 (DD .i64 y 0 z (dL u.s.k.m.aS) v w 0 (bt t (bt f (dV g 0 (kK fR (bF cV) (dV cV 0 (kK fR fS (kK fS fS (bt 0 (bG fS))))))))))) (aa ey x.l)/\zL x fun i=>h i
def uO(x:de)(y:Prop):=ag (cC x.le.aS x.le.end_ (aH x.le.top) y)
def Mm(x y:mO)(z:List nW)(u v:Nat)(w:Prop):=ax (x.n.id=y.n.id/\p5 x.n y.n x.p y.p (ag (bE (x.to (bE x.l))=bE z/\u=v)) (mF z (x.to (bE x.l))/\w))
theorem Mn:fnBody (Y2 Tryz.prog) [(51,Ml .nil),(53,TE)] 15 HE fun _=>[(15,[VD],[])]:=fnBody.of (p :=
 ∀y:HD,y.n.ws=[]->ai y.n.now->∃x:mO,ag (ag (1=bE x.l/\1=x.lc)/\ax (y.n.id=x.n.id/\p5 y.n x.n y.p x.p (0=bE x.q/\0=x.qc) (HF x 1 0 y.n y.n.now y.n.s.k.m.ready 0 0 cV fun v=>(∃u:Nat,(1:Int)=1+af u/\bp (ax (ax (aH x.n.id/\p5 x.n x.n x.p x.p (bR (bE (x.to (bE x.l))) (v=v)) (zK (x.to (bE x.l))/\uO y.n (aH y.n.now/\ax (eo (aH y.n.s.bM) (zC y.n.s.k.m (u<=5/\True)))))))))/\∀u:Nat,u<=5->aG (cO ((1:Int)+af u) 5) (Exists (C3 (Value.map none) (Exists (ay (cH (∃z:mO,ag ((0=bE z.l/\0=z.lc)/\Mm x z z.q v z.qc (bE z.l=0/\zL z fun t=>ai ((1:Int)+af u+(1:Int))/\∃w:Nat,(1:Int)+af u+(1:Int)=1+af w/\bp (ax (Mm z x (x.to (bE x.l)) t v (uO y.n (aH y.n.now/\ax (eo (aH y.n.s.bM) (zC y.n.s.k.m (bS w 5 u))))))))))))) False)) (l8 0 x.n.ws.length False (∃z:Nat,gp (bE (x.to (bE x.l))) 1 v z (ag (0=0)) 21 (aa ey (x.to (bE x.l))) (aa ey [sK y.n]) (ax (x.n.id=y.n.id/\ag (jI (0=Uq.length/\0=0) x.n.rs y.n x.p.rc y.p x.n.asked (ag (True/\True))))))))))) (by kernel_rfl) (by
 delta aG p5 DD bB cC ai bt bR aH aA cn af bO cV lT bG cD aF dL bn kK bP eo cQ pZ dK gp aI bE bp bS mF bF fS ay fR cO bf jI zC ag HF uO ax dV l8 cH C3 Mm dR zL zK
 try dsimp -iota -proj only
 rintro⟨n,p⟩ h0 _;have h0:n.ws=[]:=h0;have hr:aj 1 21 (aN 21 (ey ⟨1,0,0,n.s.k.m.aS,n.now,n.s.k.m.ready,0,0,0,uN,0,false,fK,0⟩)) (aa ey [⟨1,0,0,n.s.k.m.aS,n.now,n.s.k.m.ready,0,0,0,uN,0,false,fK,0⟩]):=.dQ fun i hi=>by
  have:i=0:=by omega
  subst this;rfl
 have k0:(0:Nat)<1000:=by omega
 have k1:(1:Nat)<1000:=by omega
 refine⟨mO.mk n p [] 0 [⟨1,0,0,n.s.k.m.aS,n.now,n.s.k.m.ready,0,0,0,uN,0,false,fK,0⟩] 1,?_⟩
 and_intros<;>first|exact cz|exact hr|exact k1|exact k0|(intro h_;revert h_)|exact cA|skip
 intro b _;refine⟨⟨0,?_⟩,fun i hi=>⟨fun c1=>⟨none,rfl,fun _=>⟨(),trivial,fun _ _=>⟨mO.mk n p [sK n] b [] 0,?_⟩⟩,fun c=>absurd rfl c⟩,fun c1=>⟨fun c2=>?_,fun c2=>⟨b,?_⟩⟩⟩⟩
 ·and_intros<;>first|exact cz|(intro h_;revert h_)|exact cA|skip
 ·have c1:=of_decide_eq_true c1;have e1:((mO.mk n p [] 0 [⟨1,0,0,n.s.k.m.aS,n.now,n.s.k.m.ready,0,0,0,uN,0,false,fK,0⟩] 1).to 1)=[sK n]:=rfl;have e2:((mO.mk n p [sK n] b [] 0).to 0)=[sK n]:=rfl
  and_intros<;>first|exact cz|exact k1|exact k0|(intro h_;revert h_)|exact cA|skip
  intro b2 hb2;have hb2:b2=b:=hb2 rfl;subst hb2;refine⟨by simp only[bQ];omega,i+1,?_⟩
  and_intros<;>first|exact cz|(intro h_;revert h_)|exact cA|skip
 ·exfalso;have c2:=of_decide_eq_true c2;have c2:(0:Int)<(n.ws.length:Nat):=c2;rw[h0]at c2;exact absurd c2 (by decide)
 ·and_intros<;>first|exact cz|(intro h_;revert h_)|exact cA|skip)
theorem Mo:ak (Y Tryz.prog).G.X 15 HE:=aT Yy Mn ⟨TD,TG,trivial⟩
end Go.Proofs.YtfjgoonelcaggaaGreat
namespace Go.Proofs.YtfjgoonelcaggaaGreat.Rg
open Go.Sx
def Nv(a b:Int):Int:=dy .xor .u64 a b
def Qe(a:Int):Int:=uw .u64 a
def Sc(x:Int):Int:=Qe (Nv x (x/1073741824)*13787848793156543929)
def Sd(x:Int):Int:=Qe (Nv x (x/134217728)*10723151780598845931)
def Se(x:Int):Int:=Nv x (x/2147483648)
def pT(x:Int):Int:=Se (Sd (Sc x))
noncomputable def Ad:cF where
 α:=Int
 β:=Unit
 m:=0
 m':=0
 pre:=fun _=>True
 args:=fun a=>[.a (.int .u64 a)]
 hp:=fun _=>[]
 ro:=fun _=>[]
 post:=fun _ _=>True
 res:=fun a _=>.a (.int .u64 (pT a))
 cS:=fun _ _=>[]
theorem Cn:fnBody (Y Tryz.prog) [] 120 Ad fun _=>[]:=fnBody.of (p :=
 ∀x:Int,Gz x (Rg.pT x)) (by kernel_rfl) (by
 delta Sf bV ay cN l9 Gz bg
 intro a _;exact⟨by decide,by decide,by decide,(),rfl,trivial,trivial⟩)
theorem xP:ak (Y Tryz.prog).G.X 120 Ad:=aT fF Cn trivial
def lJ(h:Int)(b:ByteArray):Nat->Int
 |0=>h
 |i+1=>Qe (pT (Nv (lJ h b i) ((b.data.getD i 0).toNat:Int))+1)
def Sg(h:Int)(b:ByteArray):Int:=pT (Nv (lJ h b b.size) (Qe (256+Qe b.size)))
def fo(g:Nat->ByteArray):Nat->Int
 |0=>11400714819323198485
 |i+1=>Sg (fo g i) (g i)
structure O0 where
 g:Nat->ByteArray
 n:Nat
 cap:Nat
noncomputable def uu:cF where
 α:=O0
 β:=Unit
 m:=1
 m':=1
 pre:=fun a=>a.n<100000/\∀i,i<a.n->(a.g i).size<=aq
 args:=fun a=>[.a (.slc 0 0 1 a.n a.cap)]
 hp:=fun _=>[]
 ro:=fun a=>[(0,.arr 9 [.str] a.n (fun i _=>.string (a.g i)))]
 post:=fun _ _=>True
 res:=fun a _=>.a (.int .u64 (fo a.g a.n))
 cS:=fun _ _=>[]
def WW(a:O0)(i:Nat):An:=.flat 6 Nat (fun s j=>(s.int 15 j).set 3 (.a (.int .u64 (lJ (fo a.g i) (a.g i) j)))) (fun _ j=>j<=(a.g i).size) (fun _ j=>(a.g i).size-j)
def WX(a:O0):An:=.mk 3 Nat (fun s i=>(s.int 9 i).set 3 (.a (.int .u64 (fo a.g i)))) (fun _ i=>i<=a.n) (fun _ i=>a.n-i) (fun i=>.mk 60 [WW a i] [])
theorem y8:fnBody (Y Tryz.prog) [(120,Ad)] 66 uu fun a=>[(66,[WX a],[])]:=fnBody.of (p :=
 ∀x:Rg.O0,(x.n<100000/\∀s:Nat,s<x.n->bA (x.g s)<=aq)->(∃y:Nat,(11400714819323198485:Int)=Rg.fo x.g y/\aK y (y7 x.n x.cap (fun z=>x.g z) (y<=x.n/\True)))/\∀y:Nat,gi y x.n ((∃z:Nat,Rg.fo x.g y=Rg.lJ (Rg.fo x.g y) (x.g y) z/\aK z (y6 (x.g (0+az y)) y x.n x.cap (fun t=>x.g t) (z<=bA (x.g y)/\True)))/\∀z:Nat,z<=bA (x.g y)->l8 (af z) (bA (x.g (0+az y))) (∃v:Int,l9 (Rg.lJ (Rg.fo x.g y) (x.g y) z) (af ((x.g (0+az y)).data.getD (az z) (0:UInt8)).toNat)=v/\cH (aP z/\∃u:Nat,cN (Rg.pT v+(1:Int))=Rg.lJ (Rg.fo x.g y) (x.g y) u/\bx z u/\y6 (x.g (0+az y)) y x.n x.cap (fun w=>x.g w) (bS u (bA (x.g y)) z))) (∃v:Int,l9 (Rg.lJ (Rg.fo x.g y) (x.g y) z) (cN ((256:Int)+cN (af (bA (x.g (0+az y))))))=v/\cH (aP y/\∃u:Nat,Rg.pT v=Rg.fo x.g u/\bx y u/\y7 x.n x.cap (fun w=>x.g w) (bS u x.n y)))) (Exists (bV (Rg.fo x.g y=Rg.fo x.g x.n)))) (by kernel_rfl) (by
 delta aG bB cC ai bR az aH aA cn af bO bA aF aU bn eM dK jt aI bV aV bS bF od ay cN aP aW aK aR bf l9 y6 ag dJ bg bx y7 l8 gi cH
 try dsimp -iota -proj only
 intro a h;obtain⟨hn,hs⟩:=h;simp only[Nat.zero_add,Int.toNat_natCast];refine⟨⟨0,by and_intros<;>(first|exact trivial|rfl|omega|assumption|exact aj.refl _ _ _|(simp only[bQ];omega)|(simp;done)|(simp;omega)|grind)⟩,fun i hi=>⟨fun h1=>?_,fun h1=>?_⟩⟩
 ·have hi':i<a.n:=by simpa using h1
  have hsz:=hs i hi';refine⟨by omega,hi',⟨0,by and_intros<;>(first|exact trivial|rfl|omega|assumption|exact aj.refl _ _ _|(simp only[bQ];omega)|(simp;done)|(simp;omega)|grind)⟩,fun j hj=>⟨fun h2=>?_,fun h2=>?_⟩⟩
  ·have hj':j<(a.g i).size:=by simpa using h2
   refine⟨by omega,_,rfl,trivial,fun _ _=>⟨by simp only[bQ,aq]at *;omega,j+1,?_⟩⟩
   and_intros<;>(first|exact trivial|rfl|omega|assumption|exact aj.refl _ _ _|(simp only[bQ];omega)|(simp;done)|(simp;omega)|grind)
  ·have hj' : j = (a.g i).size := by have : ¬ j < (a.g i).size := by simpa using h2
                                     omega
   subst hj';refine⟨_,rfl,trivial,fun _ _=>⟨by simp only[bQ];omega,i+1,?_⟩⟩
   and_intros<;>(first|exact trivial|rfl|omega|assumption|exact aj.refl _ _ _|(simp only[bQ];omega)|(simp;done)|(simp;omega)|grind)
 ·have hi' : i = a.n := by have : ¬ i < a.n := by simpa using h1
                           omega
  subst hi';exact⟨(),rfl,trivial,trivial⟩)
theorem vk:ak (Y Tryz.prog).G.X 66 uu:=aT fF y8 ⟨xP,trivial⟩
def wX(n i:Int):Int:=pT (Qe (n*1000003+i))
noncomputable def Mp:cF where
 α:=Int×Int
 β:=Unit
 m:=0
 m':=0
 pre:=fun a=>0<=a.1/\a.1<=100/\0<=a.2/\a.2<=100
 args:=fun a=>[.a (.int .i64 a.1),.a (.int .i64 a.2)]
 hp:=fun _=>[]
 ro:=fun _=>[]
 post:=fun _ _=>True
 res:=fun a _=>.a (.int .u64 (wX a.1 a.2))
 cS:=fun _ _=>[]
theorem PR:fnBody (Y Tryz.prog) [(120,Ad)] 190 Mp fun _=>[]:=fnBody.of (p :=
 ∀x:Int×Int,(0:Int)<=x.fst/\x.fst<=(100:Int)/\dZ x.snd 100->mZ (x.fst*(1000003:Int)) x.snd (∃y:Int,cN (x.fst*(1000003:Int)+x.snd)=y/\cH (Exists (bV (Rg.pT y=Rg.wX x.fst x.snd))))) (by kernel_rfl) (by
 delta ai dZ aI bV ay cN mZ bg cH
 intro a h;obtain⟨h1,h2,h3,h4⟩:=h;simp only[bQ];exact⟨by omega,by omega,_,rfl,trivial,fun _ _=>⟨(),rfl,trivial,trivial⟩⟩)
theorem PS:ak (Y Tryz.prog).G.X 190 Mp:=aT fF PR ⟨xP,trivial⟩
end Go.Proofs.YtfjgoonelcaggaaGreat.Rg
namespace Go.Proofs
open Go.Shelf
def Tryz.Mq:Go.Shelf.Ren:=⟨fun|6=>191|15=>189|14=>226|28=>224|29=>225|20=>245|21=>246|22=>247|23=>248|24=>249|25=>250|26=>251|27=>252|46=>263|47=>240|48=>241|49=>264|50=>265|57=>278|n=>n,fun|22=>159|24=>208|25=>286|3=>3|39=>108|0=>0|53=>299|55=>64|4=>4|46=>316|45=>315|50=>321|5=>5|9=>9|66=>336|70=>340|76=>354|77=>248|n=>n,fun|n=>n⟩
theorem Tryz.Xi:Go.Proofs.SlLaysF0.n6 Tryz.prog Tryz.Mq:={
 mixed:=by kernel_rfl
 f6:=⟨Tryz.f191.name,by decide,Tryz.func191.trans (congrArg some (by kernel_rfl))⟩
 f14:=⟨Tryz.f226.name,by decide,Tryz.func226.trans (congrArg some (by kernel_rfl))⟩
 f15:=Tryz.func189.trans (congrArg some (by kernel_rfl))
 f20:=⟨Tryz.f245.name,by decide,Tryz.func245.trans (congrArg some (by kernel_rfl))⟩
 f21:=⟨Tryz.f246.name,by decide,Tryz.func246.trans (congrArg some (by kernel_rfl))⟩
 f22:=⟨Tryz.f247.name,by decide,Tryz.func247.trans (congrArg some (by kernel_rfl))⟩
 f23:=⟨Tryz.f248.name,by decide,Tryz.func248.trans (congrArg some (by kernel_rfl))⟩
 f24:=⟨Tryz.f249.name,by decide,Tryz.func249.trans (congrArg some (by kernel_rfl))⟩
 f25:=⟨Tryz.f250.name,by decide,Tryz.func250.trans (congrArg some (by kernel_rfl))⟩
 f26:=⟨Tryz.f251.name,by decide,Tryz.func251.trans (congrArg some (by kernel_rfl))⟩
 f27:=⟨Tryz.f252.name,by decide,Tryz.func252.trans (congrArg some (by kernel_rfl))⟩
 f28:=Tryz.func224.trans (congrArg some (by kernel_rfl))
 f29:=Tryz.func225.trans (congrArg some (by kernel_rfl))
 f46:=⟨Tryz.f263.name,by decide,Tryz.func263.trans (congrArg some (by kernel_rfl))⟩
 f47:=Tryz.func240.trans (congrArg some (by kernel_rfl))
 f48:=Tryz.func241.trans (congrArg some (by kernel_rfl))
 f49:=⟨Tryz.f264.name,by decide,Tryz.func264.trans (congrArg some (by kernel_rfl))⟩
 f50:=⟨Tryz.f265.name,by decide,Tryz.func265.trans (congrArg some (by kernel_rfl))⟩
 f57:=⟨Tryz.f278.name,by decide,Tryz.func278.trans (congrArg some (by kernel_rfl))⟩
 t0:=Tryz.underlying0
 a0:=Tryz.isAgg0
 z0:=Tryz.sizeOf0
 v0:=Tryz.zeroValue0
 t3:=Tryz.underlying3
 a3:=Tryz.isAgg3
 z3:=Tryz.sizeOf3
 v3:=Tryz.zeroValue3
 t4:=Tryz.underlying4
 a4:=Tryz.isAgg4
 z4:=Tryz.sizeOf4
 v4:=Tryz.zeroValue4
 t5:=Tryz.underlying5
 a5:=Tryz.isAgg5
 z5:=Tryz.sizeOf5
 v5:=Tryz.zeroValue5
 t9:=Tryz.underlying9
 a9:=Tryz.isAgg9
 z9:=Tryz.sizeOf9
 v9:=Tryz.zeroValue9
 t22:=Tryz.underlying159
 a22:=Tryz.isAgg159
 z22:=Tryz.sizeOf159
 v22:=Tryz.zeroValue159
 t25:=Tryz.underlying286
 a25:=Tryz.isAgg286
 z25:=Tryz.sizeOf286
 v25:=Tryz.zeroValue286
 t39:=Tryz.underlying108
 a39:=Tryz.isAgg108
 z39:=Tryz.sizeOf108
 v39:=Tryz.zeroValue108
 t45:=Tryz.underlying315
 a45:=Tryz.isAgg315
 z45:=Tryz.sizeOf315
 v45:=Tryz.zeroValue315
 t46:=Tryz.underlying316
 a46:=Tryz.isAgg316
 z46:=Tryz.sizeOf316
 v46:=Tryz.zeroValue316
 t50:=Tryz.underlying321
 a50:=Tryz.isAgg321
 z50:=Tryz.sizeOf321
 v50:=Tryz.zeroValue321
 t53:=Tryz.underlying299
 a53:=Tryz.isAgg299
 z53:=Tryz.sizeOf299
 v53:=Tryz.zeroValue299
 t55:=Tryz.underlying64
 a55:=Tryz.isAgg64
 z55:=Tryz.sizeOf64
 v55:=Tryz.zeroValue64
 t66:=Tryz.underlying336
 a66:=Tryz.isAgg336
 z66:=Tryz.sizeOf336
 v66:=Tryz.zeroValue336
 t70:=Tryz.underlying340
 a70:=Tryz.isAgg340
 z70:=Tryz.sizeOf340
 v70:=Tryz.zeroValue340
 t76:=Tryz.underlying354
 a76:=Tryz.isAgg354
 z76:=Tryz.sizeOf354
 v76:=Tryz.zeroValue354
 t77:=Tryz.underlying248
 a77:=Tryz.isAgg248
 z77:=Tryz.sizeOf248
 v77:=Tryz.zeroValue248 }
end Go.Proofs
namespace Go.Proofs.YtfjgoonelcaggaaGreat.Rg
open Go.Shelf Go.RowKit Go.Lib Go.Sort
def kA(x:Int×Int):List Value:=[.int .u64 x.1,.int .i64 x.2]
def mG(x y:Int×Int):Bool:=decide (x.1<y.1)||(decide (x.1=y.1)&&decide (x.2<y.2))
def qd(x y:Int×Int):Int:=if mG x y then -1 else if mG y x then 1 else 0
theorem JK(x y:Int×Int)(W:World):Calls Tryz.prog 192 #[.agg #[.int .u64 x.1,.int .i64 x.2],.agg #[.int .u64 y.1,.int .i64 y.2]] W fun e w'=>e = .returned (.int .i64 (qd x y))/\∃q os',w'=grow (W.drewN q) os':=by
 go_enter Tryz.func192,Tryz.ntmps192
 go_wp2
 all_goals go_ret
 all_goals first
  |exact⟨by rw[show qd x y = -1 by grind [qd,mG]];rfl,0,_,by rw[alloc_eq_grow,alloc_eq_grow,alloc_eq_grow,alloc_eq_grow,alloc_eq_grow,alloc_eq_grow,grow_grow,grow_grow,grow_grow,grow_grow,grow_grow];rfl⟩
  |exact⟨by rw[show qd x y = -1 by grind [qd,mG]];rfl,0,_,by rw[alloc_eq_grow,alloc_eq_grow,alloc_eq_grow,alloc_eq_grow,grow_grow,grow_grow,grow_grow];rfl⟩
  |exact⟨by rw[show qd x y=1 by grind [qd,mG]];rfl,0,_,by rw[alloc_eq_grow,alloc_eq_grow,alloc_eq_grow,alloc_eq_grow,alloc_eq_grow,alloc_eq_grow,grow_grow,grow_grow,grow_grow,grow_grow,grow_grow];rfl⟩
  |exact⟨by rw[show qd x y=1 by grind [qd,mG]];rfl,0,_,by rw[alloc_eq_grow,alloc_eq_grow,alloc_eq_grow,alloc_eq_grow,grow_grow,grow_grow,grow_grow];rfl⟩
  |exact⟨by rw[show qd x y=0 by grind [qd,mG]];rfl,0,_,by rw[alloc_eq_grow,alloc_eq_grow,alloc_eq_grow,alloc_eq_grow,alloc_eq_grow,alloc_eq_grow,grow_grow,grow_grow,grow_grow,grow_grow,grow_grow];rfl⟩
  |exact⟨by rw[show qd x y=0 by grind [qd,mG]];rfl,0,_,by rw[alloc_eq_grow,alloc_eq_grow,alloc_eq_grow,alloc_eq_grow,grow_grow,grow_grow,grow_grow];rfl⟩
theorem Yz(blk off size:Nat)(w:World):CmpLays Tryz.prog 192 #[] kA 2 qd blk off size w:=fun _ _ _ _ x y=>JK x y _
theorem VE(x y:Int×Int):ltOf qd x y=mG x y:=by unfold ltOf;grind [qd,mG]
theorem YA:SWO (ltOf qd) where
 irrefl x:=by rw[VE];simp[mG]
 trans x y z h1 h2:=by
  rw[VE]at *;simp only[mG,Bool.or_eq_true,Bool.and_eq_true,decide_eq_true_eq]at *;omega
 ntrans x y z h1 h2:=by
  rw[VE]at *;simp only[mG,Bool.or_eq_false_iff,Bool.and_eq_false_iff,decide_eq_false_iff_not]at *;omega
theorem YB(x y:Int×Int)(h1:ltOf qd x y=false)(h2:ltOf qd y x=false):x=y:=by
 rw[VE]at h1 h2;cases x;cases y;simp only[mG,Bool.or_eq_false_iff,Bool.and_eq_false_iff,decide_eq_false_iff_not]at h1 h2;simp only[Prod.mk.injEq];omega
theorem Xj(blk off cap:Nat)(d:Array (Int×Int))(w:World)(hH:HoldsK kA 2 w blk off d)(hblk:blk<w.heap.size)(hsz:d.size<4611686018427387904) :
 Calls Tryz.prog 191 #[.slice (some ⟨blk,off,none⟩) d.size cap,.func (.func 192) #[] #[]] w fun e w' =>
  e = .returned (.tuple #[])/\∃n os,w'=sortWorldK kA 2 w blk off n (d.toList.mergeSort fun x y=>!(ltOf qd) y x).toArray os :=
 AnyQ.slices_SortFunc_total Tryz.Xi 2 Tryz.isAgg208 Tryz.sizeOf208 kA (fun _=>rfl) (fun x v hv=>by simp[kA]at hv;rcases hv with rfl|rfl<;>rfl) qd YA 192 #[] blk off cap d w
  (enters_of Tryz.func192 (by kernel_rfl) rfl) (Yz _ _ _ _) hH hblk hsz YB
end Go.Proofs.YtfjgoonelcaggaaGreat.Rg
namespace Go.Sx
section
open Go.Sort Go.Proofs
def C9{β:Type}[Inhabited β](ty:TypeId)(ks:List CK)(enc:β->List Value)(g:Nat)(srt:List β->List β):cF where
 α:=NN β
 β:=Unit
 m:=1
 m':=1
 pre:=fun a=>a.l.length<100000/\1<=a.l.length
 args:=fun a=>[.a (.slc 0 0 ks.length a.l.length a.cap),.a (.fn g)]
 hp:=fun a=>[(0,.arr ty ks a.l.length (aa enc a.l))]
 ro:=fun _=>[]
 post:=fun _ _=>True
 res:=fun _ _=>.lY []
 cS:=fun a _=>[(0,.arr ty ks a.l.length (aa enc (srt a.l)))]
theorem EU{l:List Value}{j:Nat}(h:j<l.length):l[j]! = l.getD j undef:=by
 rw[getElem!_pos l j h];simp[List.getD,h]
theorem PT{β:Type}[Inhabited β]{X:Cx}{f g:Nat}{ty:TypeId}{ks:List CK}{enc:β->List Value}{srt:List β->List β}(hk:∀x,(enc x).length=ks.length)(hk0:0<ks.length)
 (hlen:∀l,(srt l).length=l.length) (hin:∀l x,x∈srt l->x∈l)
 (hcall:∀(blk off cap:Nat) (d:Array β) (w:World),HoldsK enc ks.length w blk off d->blk<w.heap.size->d.size<4611686018427387904 ->
  Calls X.P f #[.slice (some ⟨blk,off,none⟩) d.size cap,.func (.func g) #[] #[]] w fun e w'=>e = .returned (.tuple #[])/\∃n os,w'=sortWorldK enc ks.length w blk off n (srt d.toList).toArray os) :
 lE X (C9 ty ks enc g srt) f:=by
 intro a hpre M ρ w vs hn hh hargs;obtain⟨l,cap⟩:=a;obtain⟨hp1,hp2⟩:=hpre;obtain⟨v,vs',rfl,hv,v2,vs2,rfl,hv2,rfl⟩:=hargs;have hv2':v2 = .func (.func g) #[] #[]:=hv2;subst hv2';obtain⟨hT,hlc,hcm,hv⟩:=hv;have he:=hh.gz ⟨0,true,.arr ty ks l.length (aa enc l)⟩ (by simp[vb,C9]);have hsat:=he.ch;simp only at hsat hlc hcm hv hT hp1 hp2;rcases hsat with⟨h0,_⟩ | ⟨vs0,ty',fr,hb,h1,h2,h3,h4,h5⟩
 ·omega
 have hlt:(ρ.pl 0).blk<w.heap.size:=he.lt _ ((h4 _).2 rfl);rcases hv with⟨g1,_,_⟩ | ⟨o,rfl,ho⟩
 ·omega
 obtain⟨rfl,_⟩:=ho (by omega);simp only[Nat.zero_mul,Nat.add_zero]at *;have hcell:∀t,t<l.length*ks.length->vs0[(ρ.pl 0).off+t]? = some ((enc (gl l (t/ks.length))).getD (t%ks.length) undef):=by
  intro t ht;have hm:t%ks.length<ks.length:=Nat.mod_lt _ hk0;have hi:t/ks.length<l.length:=Nat.div_lt_of_lt_mul (by rw[Nat.mul_comm];exact ht);obtain⟨q,_⟩:=h5 (t/ks.length) hi (t%ks.length) (ks[t%ks.length]) (List.getElem?_eq_getElem hm);have e:(ρ.pl 0).off+t/ks.length*ks.length+t%ks.length=(ρ.pl 0).off+t:=by
   have:=Nat.div_add_mod t ks.length;rw[Nat.mul_comm]at this;omega
  rw[e]at q;exact q
 have hsz0:(ρ.pl 0).off+l.length*ks.length<=vs0.size:=Nat.le_trans (Nat.add_le_add_left (Nat.mul_le_mul_right _ h2) _) h1;have hnk:l.length*ks.length<=(ρ.pl 0).N*ks.length:=Nat.mul_le_mul_right _ h2;have hHolds:HoldsK enc ks.length w (ρ.pl 0).blk (ρ.pl 0).off l.toArray:=by
  intro t ht;have ht':t<l.length*ks.length:=by simpa using ht
  have hm:t%ks.length<ks.length:=Nat.mod_lt _ hk0;have hi:t/ks.length<l.length:=Nat.div_lt_of_lt_mul (by rw[Nat.mul_comm];exact ht');refine⟨?_,?_⟩
  ·simp only[World.cell?,hb];rw[hcell t ht',get_flatK _ _ _ t (by simpa using ht')];have e:(l.toArray)[t/ks.length]! = gl l (t/ks.length):=by rw[getElem!_pos _ _ (by simpa using hi),bN hi];simp
   rw[e,EU (by rw[hk];exact hm)];rfl
  ·simp only[World.frozen?,hb];have:=h3 ((ρ.pl 0).off+t) (by omega) (by omega);obtain⟨lo,hi⟩:=fr;simpa using this
 have hcalls:=hcall (ρ.pl 0).blk (ρ.pl 0).off cap l.toArray w hHolds hlt (by simp;omega);simp only[List.size_toArray]at hcalls;refine hcalls.mono ?_;rintro e w' ⟨rfl,n,os,rfl⟩;refine⟨_,rfl,(),ρ,trivial,hn,fun _ _=>rfl,⟨[],rfl,rfl⟩,?_⟩;obtain⟨F,hF⟩:∃F,F=flatK enc ks.length (srt l).toArray:=⟨_,rfl⟩
 have hFs:F.size=l.length*ks.length:=by rw[hF];simp[hlen]
 have hw:sortWorldK enc ks.length w (ρ.pl 0).blk (ρ.pl 0).off n (srt l).toArray os=grow (putRow id (Sort.ahead w n) (ρ.pl 0).blk (ρ.pl 0).off F) os:=by rw[hF];rfl
 rw[hw];have hheap:∀b,b<w.heap.size->(grow (putRow id (Sort.ahead w n) (ρ.pl 0).blk (ρ.pl 0).off F) os).heap[b]? = (w.heap.modify (ρ.pl 0).blk (onCells (putCells id (ρ.pl 0).off F)))[b]?:=by
  intro b hb';rw[heap_grow_old _ _ (by simpa using hb')];rfl
 have hblk:(grow (putRow id (Sort.ahead w n) (ρ.pl 0).blk (ρ.pl 0).off F) os).heap[(ρ.pl 0).blk]? = some (.cells (putCells id (ρ.pl 0).off F vs0) ty' fr):=by
  rw[hheap _ hlt,Array.getElem?_modify,if_pos rfl,hb];rfl
 have hoth:∀b,b<w.heap.size->b≠(ρ.pl 0).blk->(grow (putRow id (Sort.ahead w n) (ρ.pl 0).blk (ρ.pl 0).off F) os).heap[b]? = w.heap[b]?:=by
  intro b hb' hne;rw[hheap b hb',Array.getElem?_modify,if_neg (fun h=>hne h.symm)]
 refine⟨⟨rfl,rfl,rfl,?_,fun b hb' hm=>?_,fun ad had=>?_⟩,?_,?_⟩
 ·simp
 ·exact hoth b hb' fun e=>hm (he.own rfl b ((h4 b).2 e) hb')
 ·rw[frozen?_grow _ _ _ (by simpa using had),frozen?_putRow,frozen?_ahead]
 ·intro e' he';have:e'=⟨0,true,.arr ty ks l.length (aa enc (srt l))⟩:=by simpa[vb,C9]using he'
  subst this;refine⟨he.tag,?_,fun b hb'=>?_,he.own⟩
  ·refine .inr ⟨_,ty',fr,hblk,?_,h2,?_,h4,fun i hi j kk hj=>?_⟩
   ·simpa[putCells]using h1
   ·simpa using h3
   ·have hjl:j<ks.length:=(List.getElem?_eq_some_iff.1 hj).1;have hi':i<(srt l).length:=by rw[hlen];exact hi
    have hmem:gl (srt l) i∈l:=hin l _ (FF hi');have ht:i*ks.length+j<l.length*ks.length:=by
     have:=Nat.mul_le_mul_right ks.length hi;rw[Nat.succ_mul]at this;omega
    have d1:(i*ks.length+j)/ks.length=i:=by
     rw[Nat.mul_comm,Nat.mul_add_div hk0,Nat.div_eq_of_lt hjl,Nat.add_zero]
    have d2:(i*ks.length+j)%ks.length=j:=by
     rw[Nat.mul_comm,Nat.mul_add_mod,Nat.mod_eq_of_lt hjl]
    refine⟨?_,?_⟩
    ·have hc:=hcell (i*ks.length+j) ht;rw[<- Nat.add_assoc]at hc;simp only[putCells,Array.getElem?_mapIdx,hc,Option.map_some,hFs];rw[if_pos ⟨by omega,by omega⟩,show(ρ.pl 0).off+i*ks.length+j-(ρ.pl 0).off=i*ks.length+j by omega];rw[hF,get_flatK _ _ _ _ (by simpa[hlen]using ht),d1,d2];have e:((srt l).toArray)[i]! = gl (srt l) i:=by rw[getElem!_pos _ _ (by simpa using hi'),bN hi'];simp
     rw[e,EU (by rw[hk];exact hjl)];rfl
    ·obtain⟨i0,hi0,e0⟩:=List.getElem_of_mem hmem;obtain⟨_,g2⟩:=h5 i0 hi0 j kk hj;unfold aa at g2 ⊢;rw[<- e0,<- bN hi0];exact g2
  ·have:=he.lt b hb';simp;omega
 ·simp[vb,C9]
end
end Go.Sx
namespace Go.Proofs.YtfjgoonelcaggaaGreat.Rg
open Go.Sx
def encI(p:Int):List Value:=[.int .i64 p]
def ya(l:List Int)(i:Nat):Bool:=decide (1<=gl l i)&&decide (gl l i<=5)&&(decide (i=0)||decide (gl l (i-1)<gl l i))
def rA(l:List Int):Nat->Bool
 |0=>true
 |i+1=>rA l i&&ya l i
def kT(l:List Int):Bool:=rA l l.length&&decide (0<l.length)
theorem JL{l:List Int}:∀ {i j:Nat},rA l i=true->j<i->ya l j=true
 |i+1,j,h,hj=>by
  simp only[rA,Bool.and_eq_true]at h;by_cases e:j=i
  ·subst e;exact h.2
  ·exact JL h.1 (by omega)
theorem Ar{l:List Int}{j:Nat}(h:ya l j=false):∀ {i:Nat},j<i->rA l i=false
 |i+1,hj=>by
  simp only[rA,Bool.and_eq_false_iff];by_cases e:j=i
  ·subst e;exact .inr h
  ·exact .inl (Ar h (by omega))
theorem A9{l:List Int}(h:kT l=true){j:Nat}(hj:j<l.length):1<=gl l j/\gl l j<=5/\(j=0\/gl l (j-1)<gl l j):=by
 simp only[kT,Bool.and_eq_true]at h;have:=JL h.1 hj;simpa[ya,and_assoc]using this
theorem JM{l:List Int}(h:kT l=true):0<l.length:=by
 simp only[kT,Bool.and_eq_true,decide_eq_true_eq]at h;exact h.2
theorem Da{l:List Int}(h:kT l=true):∀j,j<l.length->(j:Int)+1<=gl l j
 |0,hj=>by have:=A9 h hj;omega
 |j+1,hj=>by
  have h1:=Da h j (by omega);have h2:=A9 h hj;simp at h2;omega
theorem Db{l:List Int}(h:kT l=true):l.length<=5:=by
 have h0:=JM h;have h1:=Da h (l.length-1) (by omega);have h2:=A9 h (show l.length-1<l.length by omega);omega
structure kU where
 l:List Int
 cap:Nat
noncomputable def AE:cF where
 α:=kU
 β:=Unit
 m:=1
 m':=1
 pre:=fun a=>a.l.length<100000
 args:=fun a=>[.a (.slc 0 0 1 a.l.length a.cap)]
 hp:=fun _=>[]
 ro:=fun a=>[(0,.arr 3 [.int .i64] a.l.length (aa encI a.l))]
 post:=fun _ _=>True
 res:=fun a _=>.a (.bool (kT a.l))
 cS:=fun _ _=>[]
def Zf(k slot:Nat)(a:kU):An:=.flat k Nat (fun s i=>s.int slot i) (fun _ i=>i<=a.l.length/\rA a.l i=true) (fun _ i=>a.l.length-i)
def _root_.Mr(y:Nat)(x:Rg.kU):=dm y fun z=>ja (av x.l) x.cap (aV (av x.l) x.cap/\bW x.l x.l Rg.encI/\dO z (av x.l) (aF (Rg.rA x.l z)) y)
theorem FP:fnBody (Y Tryz.prog) [] 56 AE fun a=>[(56,[Zf 2 7 a],[])]:=fnBody.of (p :=
 ∀x:Rg.kU,av x.l<100000->(∃y:Nat,aK y (ja (av x.l) x.cap (aV (av x.l) x.cap/\bW x.l x.l Rg.encI/\(y<=av x.l/\aF (Rg.rA x.l y))/\True)))/\∀y:Nat,ji y (av x.l) (aF (Rg.rA x.l y)) (zB (gl x.l (0+az y)) 1 (eO (Rg.kT x.l)) 5 (bf 0 y (ai (af y-(1:Int))/\nj (af y-(1:Int)) (av x.l) (ai (gl x.l (0+aU (af y-(1:Int))))->aG (cO (gl x.l (0+az y)) (gl x.l (0+aU (af y-(1:Int))))) (Exists (eO (Rg.kT x.l))) (Mr y x))) (Mr y x))) (Exists (bV (aA 0 (af (av x.l))=Rg.kT x.l)))) (by kernel_rfl) (by
 delta aG av bB ai bR az aH aA cn af bO dO aF aU bn fM eM bW gU jt ja dm bV aV bp ay aP aW cO aK eO bf zB nj ag dJ bg bx Mr ji
 try dsimp -iota -proj only
 intro a h;simp only[Nat.zero_add,Int.toNat_natCast,bQ];refine⟨⟨0,?_⟩,fun i ⟨i1,i2⟩=>⟨fun c1=>?_,fun c1=>⟨(),?_,trivial,trivial⟩⟩⟩
 ·and_intros<;>first|rfl|trivial|exact Nat.le_refl _|omega|(dsimp only;omega)|exact aj.refl _ _ _
 ·simp only[decide_eq_true_eq]at c1;have hi:i<a.l.length:=by omega
  have hpre:((i:Int)-1).toNat=i-1:=by omega
  rw[hpre];have bad:ya a.l i=false->false=kT a.l:=fun e=>by unfold kT;rw[Ar e hi];rfl
  have good:ya a.l i=true->rA a.l (i+1)=true:=fun e=>by simp only[rA,i2,e,Bool.and_self]
  repeat' (first|intro _|apply And.intro|apply Exists.intro (i+1:Nat)|apply Exists.intro ())
  all_goals(try with_reducible rfl)
  all_goals(try exact trivial)
  all_goals(try simp only[decide_eq_true_eq,decide_eq_false_iff_not]at *)
  all_goals(try omega)
  all_goals(try exact aj.refl _ _ _)
  all_goals first
   |exact bad (by simp only[ya,Bool.and_eq_false_iff,Bool.or_eq_false_iff,decide_eq_false_iff_not];omega)
   |exact good (by simp only[ya,Bool.and_eq_true,Bool.or_eq_true,decide_eq_true_eq];omega)
 ·simp only[decide_eq_false_iff_not]at c1;have e:i=a.l.length:=by omega
  subst e;unfold kT;rw[i2];simp)
theorem ql:ak (Y Tryz.prog).G.X 56 AE:=aT fF FP trivial
def HG:List CK:=[.int .u64,.int .i64]
def tu(n:Int)(k:Nat):List (Int×Int):=(List.range k).map fun j:Nat=>(wX n (j:Int),n)
def fB(l:List Int):List (Int×Int):=l.flatMap fun n=>tu n 8
def yb(l:List (Int×Int)):List (Int×Int):=l.mergeSort fun x y=>!(Go.Proofs.ltOf qd) y x
def mT(l:List Int):List (Int×Int):=if kT l then yb (fB l)else[]
noncomputable def HH:cF:=C9 208 HG kA 192 yb
theorem TH(blk off cap:Nat)(d:Array (Int×Int))(w:World)(hH:Go.Sort.HoldsK kA HG.length w blk off d)(hblk:blk<w.heap.size)(hsz:d.size<4611686018427387904) :
 Calls Tryz.prog 191 #[.slice (some ⟨blk,off,none⟩) d.size cap,.func (.func 192) #[] #[]] w fun e w' =>
  e = .returned (.tuple #[])/\∃n os,w'=Go.Proofs.sortWorldK kA HG.length w blk off n (yb d.toList).toArray os:=Xj blk off cap d w hH hblk hsz
theorem yc(l:List (Int×Int)):(yb l).length=l.length:=List.length_mergeSort _
theorem Dc(l:List (Int×Int)):(yb l).Perm l:=List.mergeSort_perm _ _
theorem PU:lE (Y Tryz.prog).G.X HH 191 :=
 PT (ks:=HG) (enc:=kA) (g:=192) (srt:=yb) (fun _=>rfl) (by decide) yc (fun l x hx=>(Dc l).mem_iff.1 hx) TH
theorem Ms:ak (Y Tryz.prog).G.X 191 HH:=fun _ _ _ h=>ve PU h
noncomputable def Mt:cF where
 α:=kU
 β:=Nat
 m:=1
 m':=2
 pre:=fun a=>a.l.length<100000
 args:=fun a=>[.a (.slc 0 0 1 a.l.length a.cap)]
 hp:=fun _=>[]
 ro:=fun a=>[(0,.arr 3 [.int .i64] a.l.length (aa encI a.l))]
 post:=fun _ _=>True
 res:=fun a cap=>.a (.slc 1 0 2 (mT a.l).length cap)
 cS:=fun a _=>[(1,.arr 208 HG (mT a.l).length (aa kA (mT a.l)))]
def YC(a:kU)(i:Nat):An:=.flat 8 (Nat×Nat) (fun s x=>((s.at_ (s.tg 3) (.arr 208 HG (fB (a.l.take i)++tu (gl a.l i) x.1).length (aa kA (fB (a.l.take i)++tu (gl a.l i) x.1)))).set 3 (.a (.slc (s.tg 3) 0 2 (fB (a.l.take i)++tu (gl a.l i) x.1).length x.2))).int 16 x.1)
 (fun _ x=>x.1<=8) (fun _ x=>8-x.1)
def Zg(a:kU):An:=.mk 5 (Nat×Nat) (fun s x=>((s.new (.arr 208 HG (fB (a.l.take x.1)).length (aa kA (fB (a.l.take x.1))))).set 3 (.a (.slc s.nx 0 2 (fB (a.l.take x.1)).length x.2))).int 12 x.1)
 (fun _ x=>x.1<=a.l.length) (fun _ x=>a.l.length-x.1) fun x=>.mk 60 [YC a x.1] []
theorem PV(n:Int)(k:Nat):tu n (k+1)=tu n k++[(wX n k,n)]:=by
 unfold tu;rw[List.range_succ,List.map_append];rfl
theorem As(n:Int)(k:Nat):(tu n k).length=k:=by simp[tu]
theorem JN{l:List Int}{i:Nat}(h:i<l.length):fB (l.take (i+1))=fB (l.take i)++tu (gl l i) 8:=by
 unfold fB;rw[gh h,List.flatMap_append];simp
theorem nD:∀l:List Int,(fB l).length=8*l.length
 |[]=>rfl
 |a::l=>by
  have:=nD l;unfold fB at *;rw[List.flatMap_cons,List.length_append,As,this,List.length_cons];omega
def _root_.cq(x:List (Int×Int)):Nat:=x.length
def _root_.oE(x:Nat×Nat)(y:Rg.kU):List (Int×Int):=Rg.fB (List.take x.fst y.l)
def _root_.nv(x:Nat×Nat)(y:Rg.kU)(z:Nat×Nat):List (Int×Int):=oE x y++Rg.tu (gl y.l x.fst) z.fst
def _root_.sL(y:List Int)(z:Nat)(u:Rg.kU->Prop):Rg.kU->Prop:=fun(x:Rg.kU)=>cG y x.l z x.cap/\bW x.l y Rg.encI/\av x.l<100000/\u x
def _root_.Dd(y x:Rg.kU)(z u:Prop):=bO (bC (Rg.kT y.l)) (aV (av x.l) x.cap/\z/\bW x.l x.l Rg.encI/\u)
def _root_.HI(x y z:List (Int×Int)):=bB (cq x) (cq y) 2 (aa Rg.kA z) (aa Rg.kA x)
theorem PW:fnBody (Y Tryz.prog) [(56,AE),(190,Mp),(191,HH)] 152 Mt fun a=>[(152,[Zg a],[])]:=fnBody.of (p :=
 ∀x:Rg.kU,av x.l<100000->Exists (sL x.l x.cap fun w=>aI (aG (bC (Rg.kT w.l)) (Exists (yJ (cq (Rg.mT x.l)))) ((∃y:Nat×Nat,aK y.fst ((0=cq (oE y x)/\0=y.snd)/\aW (av x.l)/\aV (av x.l) x.cap/\Dd w x (cq (oE y x)=0) (y.fst<=av x.l/\True)))/\∀y:Nat×Nat,gi y.fst (av x.l) (ai (gl x.l (0+az y.fst))->(∃z:Nat×Nat,aK z.fst (ag (cq (oE y x)=cq (nv y x z)/\y.snd=z.snd)/\aH (gl x.l (0+az y.fst))/\od y.fst (av x.l) (aV (av x.l) x.cap) (Dd w x (HI (nv y x z) (oE y x) (oE y x)) (z.fst<=8/\True))))/\∀z:Nat×Nat,z.fst<=8->aG (aA (af z.fst) 8) (∃u:Int×Int,gl x.l (0+az y.fst)=u.fst/\af z.fst=u.snd/\((0:Int)<=u.fst/\u.fst<=(100:Int)/\dZ u.snd 100)/\aI (gH (cq (nv y x z)) 16 z.snd fun t=>iT z fun s=>ag (cq (nv y x z)+1=cq (nv y x s)/\t=s.snd)/\aH (gl x.l (0+az y.fst))/\od y.fst (av x.l) (aV (av x.l) x.cap) (Dd w x (iS (cq (nv y x s)) (cq (nv y x z)) 2 (aa Rg.kA (nv y x z)) (bP (Value.int .u64 (Rg.wX u.fst u.snd)) (bt (gl x.l (0+az y.fst)) [])) (aa Rg.kA (nv y x s))) (bS s.fst 8 z.fst)))) (iT y fun u=>ag (cq (nv y x z)=cq (oE u x)/\z.snd=u.snd)/\aW (av x.l)/\aV (av x.l) x.cap/\Dd w x (HI (oE u x) (nv y x z) (nv y x z)) (bS u.fst (av x.l) y.fst))) (∃(v:NN (Int×Int)),ia (cq (oE y x)) (cq v.l) y.snd v.cap 2 (aa Rg.kA (oE y x)) (aa Rg.kA v.l) (cq v.l<100000 /\
 1<=cq v.l) (aI (∃z:Nat,ag (cq (oE y x)=cq (Rg.mT x.l)/\y.snd=z)/\bg (HI (Rg.mT x.l) v.l (Rg.yb v.l))))))))) (by kernel_rfl) (by
 delta aG av bB cC ai bt bR az aH gq aA cn af bO dZ aF dL aU bn bP eM bW jt aI cq iS gH aV cG bS iT nv od ia aP aW aK bf sL ag oE dJ bg bx Dd gi bC yJ HI jE
 try dsimp -iota -proj only
 intro a h;refine⟨⟨a.l,a.cap⟩,?_⟩
 and_intros<;>first|rfl|trivial|exact Nat.le_refl _|omega|(dsimp only;omega)|exact aj.refl _ _ _|skip
 refine fun _ _=>⟨fun c0=>⟨0,?_⟩,fun c0=>?_⟩
 ·have e:mT a.l=[]:=if_neg (by simpa using c0);rw[e]
  and_intros<;>first|rfl|trivial|exact Nat.le_refl _|omega|(dsimp only;omega)|exact aj.refl _ _ _
 have hm:kT a.l=true:=by simpa using c0
 have hl:=Db hm;have hl0:=JM hm;have e:mT a.l=yb (fB a.l):=if_pos hm;simp only[Nat.zero_add,Int.toNat_natCast,bQ];refine⟨⟨(0,0),?_⟩,fun x hx=>⟨fun c1=>?_,fun c1=>?_⟩⟩
 ·have e0:fB (a.l.take 0)=[]:=rfl;dsimp only;rw[e0]
  and_intros<;>first|rfl|trivial|exact Nat.le_refl _|omega|(dsimp only;omega)|exact aj.refl _ _ _
 ·obtain⟨i,cap⟩:=x;dsimp only at c1 hx ⊢;simp only[decide_eq_true_eq]at c1;have hi:i<a.l.length:=by omega
  have hb:=A9 hm hi;have hr:=nD (a.l.take i);rw[List.length_take]at hr;refine⟨by omega,by omega,fun _=>⟨⟨(0,cap),?_⟩,fun y hy=>⟨fun c2=>?_,fun c2=>?_⟩⟩⟩
  ·have e0:fB (a.l.take i)++tu (gl a.l i) 0=fB (a.l.take i):=List.append_nil _;dsimp only;rw[e0]
   and_intros<;>first|rfl|trivial|exact Nat.le_refl _|omega|(dsimp only;omega)|exact aj.refl _ _ _
  ·obtain⟨k,c⟩:=y;dsimp only at c2 hy ⊢;simp only[decide_eq_true_eq]at c2;have hk:k<8:=by omega
   have hn:(fB (a.l.take i)++tu (gl a.l i) k).length=8*min i a.l.length+k:=by rw[List.length_append,As,hr]
   have hs:fB (a.l.take i)++tu (gl a.l i) (k+1)=(fB (a.l.take i)++tu (gl a.l i) k)++[(wX (gl a.l i) k,gl a.l i)]:=by rw[PV,List.append_assoc]
   have hn1:((fB (a.l.take i)++tu (gl a.l i) k)++[(wX (gl a.l i) k,gl a.l i)]).length=(fB (a.l.take i)++tu (gl a.l i) k).length+1:=List.length_append;refine⟨(gl a.l i,(k:Int)),rfl,rfl,⟨by omega,by omega,by omega,by omega⟩,fun _ _=>⟨by omega,by omega,by omega,fun c3 _ _ _=>⟨by omega,⟨(k+1,c3),?_⟩⟩⟩⟩;dsimp only;rw[hs,hn1]
   and_intros<;>first|rfl|trivial|exact Nat.le_refl _|omega|(dsimp only;omega)|exact aj.refl _ _ _|exact .push rfl (by omega) rfl
  ·obtain⟨k,c⟩:=y;dsimp only at c2 hy ⊢;simp only[decide_eq_false_iff_not]at c2;have hk:k=8:=by omega
   subst hk;have hs:=JN hi;refine⟨by omega,⟨(i+1,c),?_⟩⟩;dsimp only;rw[hs]
   and_intros<;>first|rfl|trivial|exact Nat.le_refl _|omega|(dsimp only;omega)|exact aj.refl _ _ _
 ·obtain⟨i,cap⟩:=x;dsimp only at c1 hx ⊢;simp only[decide_eq_false_iff_not]at c1;have hi:i=a.l.length:=by omega
  subst hi;have hr:=nD a.l;have hsl:=yc (fB a.l);rw[List.take_length,e];refine⟨⟨fB a.l,cap⟩,?_⟩
  and_intros<;>first|rfl|trivial|exact Nat.le_refl _|omega|(dsimp only;omega)|exact aj.refl _ _ _|skip
  refine fun _ _=>⟨cap,?_⟩
  and_intros<;>first|rfl|trivial|exact Nat.le_refl _|omega|(dsimp only;omega)|exact aj.refl _ _ _)
theorem PX:ak (Y Tryz.prog).G.X 152 Mt:=aT fF PW ⟨ql,PS,Ms,trivial⟩
theorem TJ{n:Int}{k:Nat}{e:Int×Int}(h:e∈tu n k):e.2=n:=by
 obtain⟨j,_,rfl⟩:=List.mem_map.1 h;rfl
theorem TK{l:List Int}(h:kT l=true):mT l=yb (fB l):=if_pos h
theorem De{l:List Int}(h:kT l=true):(mT l).Perm (fB l):=by rw[TK h];exact Dc _
theorem HJ{l:List Int}(h:kT l=true):(mT l).length=8*l.length:=by rw[(De h).length_eq,nD]
theorem TL{n:Int}(h1:1<=n)(h2:n<=5):kT [n]=true:=by simp[kT,rA,ya,gl,h1,h2]
def wY(L:List (Int×Int))(h:Int):Int:=match L.find? (fun e=>decide (h<=e.1))with|some e=>e.2|none=>(gl L 0).2
theorem PY{α:Type}{p:α->Bool}{L:List α}{k:Nat}{x:α}(h:(L.take k).find? p=some x):L.find? p=some x:=by
 rw[<- List.take_append_drop k L,List.find?_append,h];rfl
theorem TM{L:List (Int×Int)}{h:Int}{i:Nat}(hi:i<L.length)(h1:(L.take i).find? (fun e=>decide (h<=e.1))=none)(h2:h<=(gl L i).1):wY L h=(gl L i).2:=by
 have:L.find? (fun e=>decide (h<=e.1))=some (gl L i):=by
  refine PY (k:=i+1) ?_;rw[gh hi,List.find?_append,h1];simp[h2]
 unfold wY;rw[this]
theorem PZ{L:List (Int×Int)}{h:Int}(h1:L.find? (fun e=>decide (h<=e.1))=none):wY L h=(gl L 0).2:=by
 unfold wY;rw[h1]
theorem y9{L:List (Int×Int)}{h:Int}{i:Nat}(hi:i<L.length)(h1:(L.take i).find? (fun e=>decide (h<=e.1))=none)(h2:¬h<=(gl L i).1):(L.take (i+1)).find? (fun e=>decide (h<=e.1))=none:=by
 rw[gh hi,List.find?_append,h1];simp[h2]
structure gf where
 e:Int
 l:List Int
 c1:Nat
 L:List (Int×Int)
 c2:Nat
def Mu(a:gf):List (Nat×Chunk):=[(0,.obj 161 [.int .i64 a.e,.slc 1 0 1 a.l.length a.c1,.slc 2 0 2 a.L.length a.c2]),(1,.arr 3 [.int .i64] a.l.length (aa encI a.l)),(2,.arr 208 HG a.L.length (aa kA a.L))]
structure Df where
 r:gf
 h:Int
noncomputable def Mv:cF where
 α:=Df
 β:=Unit
 m:=3
 m':=3
 pre:=fun a=>a.r.L.length<100000/\0<a.r.L.length
 args:=fun a=>[.a (.ptr 0 0 0 0),.a (.int .u64 a.h)]
 hp:=fun _=>[]
 ro:=fun a=>Mu a.r
 post:=fun _ _=>True
 res:=fun a _=>.a (.int .i64 (wY a.r.L a.h))
 cS:=fun _ _=>[]
def Xk(a:Df):An:=.flat 4 Nat (fun s i=>s.int 14 i) (fun _ i=>i<=a.r.L.length/\(a.r.L.take i).find? (fun e=>decide (a.h<=e.1))=none) (fun _ i=>a.r.L.length-i)
def _root_.uP(y:Int)(x:Rg.gf)(z:Prop):=cC y x.e (aV (av x.l) x.c1) (aV (cq x.L) x.c2/\bW x.l x.l Rg.encI/\dK (cq x.L) 2 (aa Rg.kA x.L)/\z)
def _root_.HK(x:Rg.Df)(y:Nat):=List.find? (fun z=>cO x.h z.fst) (List.take y x.r.L)=none
theorem P0:fnBody (Y Tryz.prog) [] 78 Mv fun a=>[(78,[Xk a],[])]:=fnBody.of (p :=
 ∀x:Rg.Df,cq x.r.L<100000/\0<cq x.r.L->(∃y:Nat,aK y (ja (cq x.r.L) x.r.c2 (aR (ag (uP x.h x.r ((y<=cq x.r.L/\HK x y)/\True))))))/\∀y:Nat,ji y (cq x.r.L) (HK x y) (bQ .u64 (gl x.r.L (0+az y)).fst->aG (cO x.h (gl x.r.L (0+az y)).fst) (uh (gl x.r.L (0+az y)).snd (Rg.wY x.r.L x.h)) (dm y fun z=>ja (cq x.r.L) x.r.c2 (aR (ag (uP x.h x.r (dO z (cq x.r.L) (HK x z) y)))))) (uD (cq x.r.L) (uh (gl x.r.L 0).snd (Rg.wY x.r.L x.h)))) (by kernel_rfl) (by
 delta aG av bB cC ai bR az aH aA cn af bO dO aF aU bn eM bW dK jt ja dm bV cq aV bp uP ay aP aW cO aK aR bf ag dJ bg bx uh HK uD ji
 try dsimp -iota -proj only
 rintro⟨⟨e,l,c1,L,c2⟩,h⟩ ⟨h1,h2⟩;dsimp only at h1 h2 ⊢;simp only[Nat.zero_add,Int.toNat_natCast,bQ];refine⟨⟨0,?_⟩,fun i ⟨i1,i2⟩=>⟨fun d1=>?_,fun d1=>?_⟩⟩
 ·(and_intros<;>first|exact vv|skip)
 ·simp only[decide_eq_true_eq]at d1;have hi:i<L.length:=by omega
  refine⟨by omega,hi,fun _=>⟨fun d2 _=>⟨(),?_,trivial,trivial⟩,fun d2=>⟨by omega,i+1,?_⟩⟩⟩
  ·simp only[decide_eq_true_eq]at d2;exact(TM hi i2 d2).symm
  ·simp only[decide_eq_false_iff_not]at d2;have:=y9 hi i2 d2
   (and_intros<;>first|exact vv|skip)
 ·simp only[decide_eq_false_iff_not]at d1;have hi:i=L.length:=by omega
  subst hi;rw[List.take_length]at i2;refine⟨by omega,h2,fun _=>⟨(),(PZ i2).symm,trivial,trivial⟩⟩)
theorem P3:ak (Y Tryz.prog).G.X 78 Mv:=aT fF P0 trivial
structure JO where
 r:gf
 key:ByteArray
noncomputable def VF:cF where
 α:=JO
 β:=Unit
 m:=3
 m':=3
 pre:=fun a=>a.r.L.length<100000/\0<a.r.L.length/\a.key.size<=aq
 args:=fun a=>[.a (.ptr 0 0 0 0),.a (.str a.key)]
 hp:=fun _=>[]
 ro:=fun a=>Mu a.r
 post:=fun _ _=>True
 res:=fun a _=>.a (.int .i64 (wY a.r.L (fo (fun _=>a.key) 1)))
 cS:=fun _ _=>[]
def _root_.sM(y:List Int)(x:Rg.gf)(u:Nat)(z:List (Int×Int))(v:Nat)(w:Prop):=cG y x.l u x.c1/\gp (cq z) (cq x.L) v x.c2 (bW x.l y Rg.encI) 2 (aa Rg.kA z) (aa Rg.kA x.L) w
def _root_.kV(x y:Rg.gf)(z u:Prop):=x.e=y.e/\sM x.l y x.c1 x.L x.c2 (z/\u)
def _root_.qO(x:Rg.JO):Int:=Rg.wY x.r.L (Rg.fo (fun y=>x.key) 1)
def _root_.zM(x:Rg.JO):=cq x.r.L<100000/\0<cq x.r.L/\bA x.key<=aq
theorem Mw:fnBody (Y Tryz.prog) [(66,uu),(78,Mv)] 44 VF fun _=>[]:=fnBody.of (p :=
 ∀z:Rg.JO,zM z->∃y:Rg.O0,ia 1 y.n 1 y.cap 1 (aN 1 (bG (bF z.key))) (fun x u=>bF (y.g x)) (y.n<100000/\∀x:Nat,x<y.n->bA (y.g x)<=aq) (aI (∃x:Rg.Df,ag (Rg.fo y.g y.n=x.h/\kV z.r x.r (cq x.r.L<100000/\0<cq x.r.L) (aI (Exists (bV (Rg.wY x.r.L x.h=qO z)))))))) (by kernel_rfl) (by
 delta av bB bA bG bP bW gp aI bV cq cG kV bF ay ia ag qO bg zM sM
 try dsimp -iota -proj only
 rintro⟨⟨e,l,c1,L,c2⟩,key⟩ ⟨h1,h2,h3⟩;dsimp only at h1 h2 h3 ⊢;have hr:aj 1 1 (aN 1 [Go.Value.string key]) (fun(i x:Nat)=>Go.Value.string key):=.dQ fun i hi=>by
  have:i=0:=by omega
  subst this;rfl
 refine⟨⟨fun _=>key,1,1⟩,?_⟩
 (and_intros<;>first|exact vv|skip)
 refine fun _ _=>⟨⟨⟨e,l,c1,L,c2⟩,fo (fun _=>key) 1⟩,?_⟩
 (and_intros<;>first|exact vv|skip)
 exact fun _ _=>⟨(),rfl,trivial,trivial⟩)
theorem Dg:ak (Y Tryz.prog).G.X 44 VF:=aT fF Mw ⟨vk,P3,trivial⟩
noncomputable def Mx:cF where
 α:=kU
 β:=Nat
 m:=1
 m':=2
 pre:=fun a=>a.l.length<100000
 args:=fun a=>[.a (.slc 0 0 1 a.l.length a.cap)]
 hp:=fun _=>[]
 ro:=fun a=>[(0,.arr 3 [.int .i64] a.l.length (aa encI a.l))]
 post:=fun _ _=>True
 res:=fun a cap=>.a (.slc 1 0 1 a.l.length cap)
 cS:=fun a _=>[(1,.arr 3 [.int .i64] a.l.length (aa encI a.l))]
theorem P4:fnBody (Y Tryz.prog) [] 151 Mx fun _=>[]:=fnBody.of (p :=
 ∀x:Rg.kU,av x.l<100000->yY x.l (Exists (yJ (av x.l))) (gq 0 (av x.l) 8 0 fun y=>∃z:Nat,ia (0+av x.l) (av x.l) y z 1 (tQ (qF Rg.encI x.l)) (aa Rg.encI x.l) True True)) (by kernel_rfl) (by
 delta aG av bB gq aF ia ag bg mh qF yJ yY tQ
 try dsimp -iota -proj only
 rintro⟨l,cap⟩ h;dsimp only at h ⊢;have hr:aj l.length 1 (aX (aN 1 []) 0 0 fun(i j:Nat)=>aa encI l (0+i) j) (aa encI l):=by
  have:=aj.app (enc:=encI) (n:=l.length) (m:=1) (s:=0) (l:=[]) (q:=l) (r0:=aN 1 []) (r1:=fun(i j:Nat)=>aa encI l (0+i) j) (k:=0) rfl .zero (.of_eq (by funext i j;rw[Nat.zero_add]));simpa using this
 refine fun b hb=>⟨fun hc=>⟨0,?_⟩,fun _=>?_⟩
 ·have h0:=hb hc
  (and_intros<;>first|exact vv|skip)
 ·(and_intros<;>first|exact vv|skip)
  refine fun c _ _ _=>⟨c,?_⟩
  (and_intros<;>first|exact vv|skip))
theorem P5:ak (Y Tryz.prog).G.X 151 Mx:=aT fF P4 trivial
structure VG where
 l:List Int
 cap:Nat
 n:Int
noncomputable def Xl:cF where
 α:=VG
 β:=Unit
 m:=1
 m':=1
 pre:=fun a=>a.l.length<100000
 args:=fun a=>[.a (.slc 0 0 1 a.l.length a.cap),.a (.int .i64 a.n)]
 hp:=fun _=>[]
 ro:=fun a=>[(0,.arr 3 [.int .i64] a.l.length (aa encI a.l))]
 post:=fun _ _=>True
 res:=fun a _=>.a (.bool (decide (a.n∈a.l)))
 cS:=fun _ _=>[]
def Xm(a:VG):An:=.flat 2 Nat (fun s i=>s.int 8 i) (fun _ i=>i<=a.l.length/\a.n∉a.l.take i) (fun _ i=>a.l.length-i)
theorem HL:fnBody (Y Tryz.prog) [] 91 Xl fun a=>[(138,[Xm a],[])]:=fnBody.of (p :=
 ∀x:Rg.VG,av x.l<100000->(∃y:Nat,aK y (uG (av x.l) x.cap (aH x.n/\bW x.l x.l Rg.encI/\(y<=av x.l/\¬x.n∈List.take y x.l)/\True)))/\∀y:Nat,ji y (av x.l) (¬x.n∈List.take y x.l) (ai (gl x.l (0+az y))->aG (x.n == gl x.l (0+az y)) (Exists (bV (cO 0 (af y)=decide (x.n∈x.l)))) (dm y fun z=>uG (av x.l) x.cap (aH x.n/\bW x.l x.l Rg.encI/\dO z (av x.l) (¬x.n∈List.take z x.l) y))) (Exists (eO (decide (x.n∈x.l))))) (by kernel_rfl) (by
 delta aG av bB cC ai bR az aH aA cn af dO aF aU bn fM eM bW jt dm bV aV ay aP cO aK eO bf ag dJ bg bx uG ji
 try dsimp -iota -proj only
 rintro⟨l,cap,n⟩ h;dsimp only at *;simp only[Nat.zero_add,Int.toNat_natCast,bQ];refine⟨⟨0,?_⟩,fun i ⟨i1,i2⟩=>⟨fun c1=>?_,fun c1=>⟨(),?_,trivial,trivial⟩⟩⟩
 ·and_intros<;>first|rfl|trivial|exact Nat.le_refl _|omega|(dsimp only;omega)|exact aj.refl _ _ _|simp
 ·simp only[decide_eq_true_eq]at c1;have hi:i<l.length:=by omega
  refine⟨by omega,hi,fun _=>⟨fun c2=>⟨(),?_,trivial,trivial⟩,fun c2=>⟨by omega,i+1,?_⟩⟩⟩
  ·simp only[beq_iff_eq]at c2;have:n∈l:=by rw[c2];exact FF hi
   simp[this]
  ·simp only[beq_eq_false_iff_ne]at c2;have:n∉l.take (i+1):=by
    rw[gh hi,List.mem_append,List.mem_singleton];rintro(h|h)
    ·exact i2 h
    ·exact c2 h
   and_intros<;>first|rfl|trivial|exact Nat.le_refl _|omega|(dsimp only;omega)|exact aj.refl _ _ _|exact this
 ·simp only[decide_eq_false_iff_not]at c1;have e:i=l.length:=by omega
  subst e;rw[List.take_length]at i2;simp[i2])
theorem HM:ak (Y Tryz.prog).G.X 91 Xl:=aT fF HL trivial
structure NY where
 r:gf
 n:Int
noncomputable def TN:cF where
 α:=NY
 β:=Unit
 m:=3
 m':=3
 pre:=fun a=>a.r.l.length<100000
 args:=fun a=>[.a (.ptr 0 0 0 0),.a (.int .i64 a.n)]
 hp:=fun _=>[]
 ro:=fun a=>Mu a.r
 post:=fun _ _=>True
 res:=fun a _=>.a (.bool (decide (a.n∈a.r.l)))
 cS:=fun _ _=>[]
theorem TO:fnBody (Y Tryz.prog) [(91,Xl)] 50 TN fun _=>[]:=fnBody.of (p :=
 ∀x:Rg.NY,av x.r.l<100000->∃y:Rg.VG,cG x.r.l y.l x.r.c1 y.cap/\x.n=y.n/\bW y.l x.r.l Rg.encI/\av y.l<100000/\aI (Exists (bV (decide (y.n∈y.l)=decide (x.n∈x.r.l))))) (by kernel_rfl) (by
 delta av bB bW aI bV cG ay ag bg
 try dsimp -iota -proj only
 rintro⟨⟨e,l,c1,L,c2⟩,n⟩ h;dsimp only at h ⊢;refine⟨⟨l,c1,n⟩,?_⟩
 (and_intros<;>first|exact vv|skip)
 exact fun _ _=>⟨(),rfl,trivial,trivial⟩)
theorem TP:ak (Y Tryz.prog).G.X 50 TN:=aT fF TO ⟨HM,trivial⟩
def NO(a e:Int×Int):Int×Int:=if a.2=0\/e.1<a.1\/e.1=a.1/\e.2<a.2 then e else a
end Go.Proofs.YtfjgoonelcaggaaGreat.Rg
namespace Go.Proofs.YtfjgoonelcaggaaGreat
open Go.Sx
structure YN where
 g:Int
 n:Nat
 cap:Nat
 rows:Nat->Nat->Value
noncomputable def Zh:cF where
 α:=YN
 β:=Unit
 m:=1
 m':=1
 pre:=fun a=>a.n<=1000/\∀i,i<a.n->0<=jC (a.rows i 0)/\jC (a.rows i 0)<=a.g
 args:=fun a=>[.a (.int .i64 a.g),.a (.slc 0 0 1 a.n a.cap)]
 hp:=fun _=>[]
 ro:=fun a=>[(0,.arr 2 [.int .i64] a.n a.rows)]
 post:=fun _ _=>True
 res:=fun _ _=>.a .tt
 cS:=fun _ _=>[]
def Zt(a:YN):An:=.flat 2 Nat (fun s i=>s.int 9 i) (fun _ i=>i<=a.n) (fun _ i=>a.n-i)
theorem Xn:fnBody (Y Tryz.prog) [] 95 Zh fun a=>[(95,[Zt a],[])]:=fnBody.of (p :=
 ∀x:YN,(x.n<=1000/\∀z:Nat,z<x.n->dZ (jC (x.rows z 0)) x.g)->(∃y:Nat,aK y (ja x.n x.cap (aH x.g/\aV x.n x.cap/\dK x.n 1 x.rows/\y<=x.n/\True)))/\∀y:Nat,gi y x.n (zB (jC (x.rows (0+az y) 0)) 0 (bV (aF false)) x.g (dm y fun u=>ja x.n x.cap (aH x.g/\aV x.n x.cap/\dK x.n 1 x.rows/\bS u x.n y))) (Exists (ay (bO true (True/\True))))) (by kernel_rfl) (by
 delta aG bB ai bR az aH aA cn af bO dZ aF aU bn eM dK gU jt ja dm bV aV bp bS ay aP aW aK bf zB ag dJ bg bx gi
 try dsimp -iota -proj only
 rintro⟨g,n,cap,rows⟩ ⟨h1,h2⟩;dsimp only at h1 h2 ⊢;simp only[Nat.zero_add,Int.toNat_natCast,bQ];refine⟨⟨0,?_⟩,fun i hi=>⟨fun c1=>?_,fun _=>⟨(),trivial,trivial,trivial⟩⟩⟩
 ·(and_intros<;>first|exact vv|skip)
 ·simp only[decide_eq_true_eq]at c1;have hi:i<n:=by omega
  obtain⟨g1,g2⟩:=h2 i hi;refine⟨by omega,hi,fun _=>⟨fun g=>(by exfalso;simp only[decide_eq_true_eq]at g;omega),fun _=>⟨fun g=>(by exfalso;simp only[decide_eq_true_eq]at g;omega),fun _=>⟨by omega,i+1,?_⟩⟩⟩⟩
  (and_intros<;>first|exact vv|skip))
theorem Xo:ak (Y Tryz.prog).G.X 95 Zh:=aT fF Xn trivial
def YD(m:nW)(mem:A):List A:=[.int .i64 m.kind,.int .i64 m.oC,.int .i64 m.to,.int .i64 m.aS,.int .i64 m.tick,.int .i64 m.seq,.int .i64 m.n,.int .i64 m.id,.int .i64 m.op,.str m.key,.int .i64 m.err,.bool m.last,.str m.item.key,.str m.item.val,.int .i64 m.item.e,.bool m.item.gone,.bU,.bU,mem,.int .i64 m.base,.bU]
def EV(n:Int):Prop:=0<=n/\n<=1099511627776
structure JP(m:nW):Prop where
 kind:1<=m.kind/\m.kind<=14
 ft:m.oC≠m.to
 oC:0<=m.oC/\m.oC<=5
 to:0<=m.to/\m.to<=5
 aS:EV m.aS
 tick:EV m.tick
 seq:EV m.seq
 id:EV m.id
 base:EV m.base
 n:0<=m.n/\m.n<=1073741824
 op:0<=m.op/\m.op<=2
 err:0<=m.err/\m.err<=10
 item:m.item=fK\/fH m.item=true
structure EW where
 m:nW
 l:List Int
 cap:Nat
noncomputable def TQ:cF where
 α:=EW
 β:=Unit
 m:=1
 m':=1
 pre:=fun a=>JP a.m/\(a.l=[]\/Rg.kT a.l=true)
 args:=fun a=>[.agg (YD a.m (.slc 0 0 1 a.l.length a.cap))]
 hp:=fun _=>[]
 ro:=fun a=>[(0,.arr 3 [.int .i64] a.l.length (aa Rg.encI a.l))]
 post:=fun _ _=>True
 res:=fun a _=>.a (.bool (decide (a.m.key.size<=40)))
 cS:=fun _ _=>[]
def zN(u v:Int)(y:Nat)(w:Int)(s:List Value)(t:Prop):=ai u->∃x:YN,v=x.g/\ia y x.n y x.cap 1 (aN 1 (bt w s)) x.rows (x.n<=1000/\∀z:Nat,z<x.n->dZ (jC (x.rows z 0)) x.g) (aI t)
def qP(x:EW):Bool:=decide (bA x.m.key<=40)
def My(x:EW):=aG (af (av x.l) == (0:Int)) (Exists (bV (true=qP x))) (Exists (sL x.l x.cap fun y=>aI (aG (Rg.kT y.l) (Exists (bV (true=qP x))) (Exists (eO (qP x))))))
theorem TR:fnBody (Y Tryz.prog) [(95,Zh),(96,AE),(56,Rg.AE)] 55 TQ fun _=>[]:=fnBody.of (p :=
 ∀x:EW,JP x.m/\(x.l=[]\/aF (Rg.kT x.l))->me x.m.kind (aA x.m.kind 1) (Exists (eO (qP x))) (zA (aA 14 x.m.kind) (Exists (eO (qP x))) x.m.oC x.m.to (x.m.oC == x.m.to) (ai x.m.oC->zN x.m.to 5 2 x.m.oC (bt x.m.to []) (ai x.m.aS->ai x.m.tick->ai x.m.seq->ai x.m.id->zN x.m.base 1099511627776 5 x.m.aS (bt x.m.tick (bt x.m.seq (bt x.m.id (bt x.m.base [])))) (zN x.m.n 1073741824 1 x.m.n [] (zN x.m.op 2 1 x.m.op [] (bf 40 (bA x.m.key) (Exists (eO (qP x))) (zN x.m.err 10 1 x.m.err [] (aG (jF x.m.item.key cV&&(jF x.m.item.val cV&&(x.m.item.e == (0:Int)&&(x.m.item.gone == false&&true)))) (My x) (∃y:aD,pK x.m.item y (cH (aG (fH y) (My x) (Exists (eO (qP x))))))))))))))) (by kernel_rfl) (by
 delta aG av bB ai bt aA af bA cV dZ aF dL fM bP bW pK aI bV cG zN zA ay ia My eO bf sL ag qP bg cH jF me
 try dsimp -iota -proj only
 rintro⟨m,l,cap⟩ ⟨ok,hl⟩;obtain⟨⟨q0,q1⟩,ft,⟨f0,f1⟩,⟨t0,t1⟩,⟨e0,e1⟩,⟨i0,i1⟩,⟨s0,s1⟩,⟨d0,d1⟩,⟨b0,b1⟩,⟨n0,n1⟩,⟨p0,p1⟩,⟨r0,r1⟩,hit⟩:=ok;dsimp only at *;simp only[bQ,decide_eq_true_eq,decide_eq_false_iff_not,beq_iff_eq];refine fun _=>⟨fun c=>absurd c (by omega),fun _ _=>⟨fun c=>absurd c (by omega),fun _ _ _=>⟨fun c=>absurd c ft,fun _ _ _=>⟨⟨5,2,2,aN 1 [.int .i64 m.oC,.int .i64 m.to]⟩,?_⟩⟩⟩⟩
 (and_intros<;>first|exact vv|skip)
 ·intro i hi
  match i,(show i<2 from hi)with
  |0,_=>exact⟨f0,f1⟩
  |1,_=>exact⟨t0,t1⟩
 refine fun _ _ _ _ _ _ _=>⟨⟨1099511627776,5,5,aN 1 [.int .i64 m.aS,.int .i64 m.tick,.int .i64 m.seq,.int .i64 m.id,.int .i64 m.base]⟩,?_⟩
 (and_intros<;>first|exact vv|skip)
 ·intro i hi
  match i,(show i<5 from hi)with
  |0,_=>exact⟨e0,e1⟩
  |1,_=>exact⟨i0,i1⟩
  |2,_=>exact⟨s0,s1⟩
  |3,_=>exact⟨d0,d1⟩
  |4,_=>exact⟨b0,b1⟩
 refine fun _ _ _=>⟨⟨1073741824,1,1,aN 1 [.int .i64 m.n]⟩,?_⟩
 (and_intros<;>first|exact vv|skip)
 ·intro i hi
  match i,(show i<1 from hi)with
  |0,_=>exact⟨n0,n1⟩
 refine fun _ _ _=>⟨⟨2,1,1,aN 1 [.int .i64 m.op]⟩,?_⟩
 (and_intros<;>first|exact vv|skip)
 ·intro i hi
  match i,(show i<1 from hi)with
  |0,_=>exact⟨p0,p1⟩
 refine fun _ _=>⟨fun c=>⟨(),(decide_eq_false (by omega)).symm,trivial,trivial⟩,fun c _=>⟨⟨10,1,1,aN 1 [.int .i64 m.err]⟩,?_⟩⟩
 have hy:true=decide (m.key.size<=40):=(decide_eq_true (by omega)).symm
 (and_intros<;>first|exact vv|skip)
 ·intro i hi
  match i,(show i<1 from hi)with
  |0,_=>exact⟨r0,r1⟩
 have hl1:l.length<100000:=by
  rcases hl with rfl|h
  ·decide
  ·have:=Rg.Db h;omega
 have hl2:¬(l.length:Int)=0->Rg.kT l=true:=fun h=>hl.resolve_left fun e=>h (by rw[e];rfl);refine fun _ _=>⟨fun _=>⟨fun _=>⟨(),hy,trivial,trivial⟩,fun e=>?_⟩,fun c=>⟨m.item,?_⟩⟩
 ·refine⟨⟨l,cap⟩,?_⟩
  (and_intros<;>first|exact vv|skip)
  exact fun _ _=>⟨fun _=>⟨(),hy,trivial,trivial⟩,fun g=>absurd (hl2 (by simpa using e)) (by simp[g])⟩
 ·have hne:m.item≠fK:=fun e=>by rw[e]at c;revert c;decide
  have hmay:=hit.resolve_left hne
  (and_intros<;>first|exact vv|skip)
  refine fun _ _=>⟨fun _=>⟨fun _=>⟨(),hy,trivial,trivial⟩,fun e=>?_⟩,fun g=>absurd hmay (by simp[g])⟩
  refine⟨⟨l,cap⟩,?_⟩
  (and_intros<;>first|exact vv|skip)
  exact fun _ _=>⟨fun _=>⟨(),hy,trivial,trivial⟩,fun g=>absurd (hl2 (by simpa using e)) (by simp[g])⟩)
theorem TS:ak (Y Tryz.prog).G.X 55 TQ:=aT fF TR ⟨Xo,ql,Rg.ql,trivial⟩
def YE(w:nV):List A:=[.int .i64 w.node,.int .i64 w.id,.int .i64 w.op,.str w.key]
structure nX where
 n:de
 p:iV
 w:nV
 err:Int
 val:ByteArray
 has:Bool
def uQ(w:nV)(err:Int)(val:ByteArray)(has:Bool):aD:=if w.op=1/\err=0 then⟨w.key,val,0,!has⟩else fK
def zO(id:Int)(w:nV)(err:Int)(val:ByteArray)(has:Bool):List nW:=if w.node=0 then[]else[⟨14,id,w.node,0,0,0,0,w.id,0,uN,err,false,uQ w err val has,0⟩]
def zP(w:nV)(err:Int)(val:ByteArray)(has:Bool):List AL:=if w.node=0 then[⟨w.id,w.op,w.key,err,val,has⟩]else[]
noncomputable def NZ:cF where
 α:=nX
 β:=Nat×Nat
 m:=10
 m':=12
 pre:=fun a=>a.w.key.size<=aq/\a.val.size<=aq
 args:=fun a=>[.a (.ptr 0 0 0 0),.agg (YE a.w),.a (.int .i64 a.err),.a (.str a.val),.a (.bool a.has)]
 hp:=fun a=>[(0,JG (.ptr 9 0 0 0) 7 1 3 5 6 a.n a.p)]
 ro:=fun _=>[]
 post:=fun _ _=>True
 res:=fun _ _=>.lY []
 cS:=fun a b=>[(0,PJ (.ptr 9 0 0 0) (.slc 10 0 21 (zO a.n.id a.w a.err a.val a.has).length b.1) (.slc 11 0 6 (zP a.w a.err a.val a.has).length b.2) 7 1 3 5 6 a.n a.p),C8 10 (zO a.n.id a.w a.err a.val a.has),NW 11 (zP a.w a.err a.val a.has)]
def kG(a:nX):nW:=⟨14,0,a.w.node,0,0,0,0,a.w.id,0,uN,a.err,false,uQ a.w a.err a.val a.has,0⟩
def YF(m:nW):List A:=YD m .bU
def Xp(a:nX):An:=.mk 6 Unit (fun s _=>s.at_ (s.tg 10) (.obj 45 (YF (kG a)))) (fun _ _=>True) (fun _ _=>0) fun _=>.mk 60 [] []
def rB(x:nV)(y:Prop):=cC x.node x.id (aH x.op) (x.key=x.key/\y)
def HN(y:Int)(x:nW)(z u v w s:Int)(t:ByteArray)(f:Int)(g h:ByteArray)(i:Prop):=y=x.kind/\z=x.oC/\u=x.to/\v=x.aS/\w=x.tick/\(0:Int)=x.seq/\(0:Int)=x.n/\s=x.id/\(0:Int)=x.op/\t=x.key/\f=x.err/\fM x.last (g=x.item.key) (h=x.item.val/\(0:Int)=x.item.e/\i)
def sN(x:nX):List nW:=zO x.n.id x.w x.err x.val x.has
def qQ(x:nX):List AL:=zP x.w x.err x.val x.has
def Mz(x:nX)(y z:ByteArray)(u:Prop):Unit->Prop:=ay (ag (bO (x.w.node == (0:Int)) (ax (rB x.w (aH x.err/\x.val=x.val/\bO x.has (HN 14 (kG x) 0 x.w.node 0 0 x.w.id cV x.err y z u))))))
def p6(x y:de)(z u:iV)(v w:Prop):=ax (x.id=y.id/\ag (p5 x y z u v w))
theorem TT:fnBody (Y Tryz.prog) [(51,Ml (.ptr 9 0 0 0))] 54 NZ fun a=>[(54,[],[Xp a])]:=fnBody.of (p :=
 ∀x:nX,bA x.w.key<=aq/\bA x.val<=aq->me x.w.node (x.w.node == (0:Int)) (ai x.w.id->ai x.w.op->1<=1/\64<=140737488355328/\∀z:Nat,1<=z->z<=aq->∃u:Nat×Nat,oD x.n x.p (0=bE (sN x)/\0=u.fst) (gp 1 (List.length (qQ x)) z u.snd (bE (sN x)=0) 6 (jE 6 (bt x.w.id (bt x.w.op (dV x.w.key x.err (bP (bF x.val) (bG (dR x.has))))))) (aa sJ (qQ x)) (True/\True))) (ai x.w.id->(ai x.w.op->qA (x.w.op == (1:Int)) (x.err == (0:Int)) (Exists (Mz x x.w.key x.val (bC x.has=(kG x).item.gone/\(0:Int)=(kG x).base/\rB x.w (oD x.n x.p True True)))) (Exists (Mz x cV cV (fM (kG x).item.gone ((0:Int)=(kG x).base) (rB x.w (oD x.n x.p True True))))))/\aI (∃y:mO,ag (ag (1=bE y.l/\1=y.lc)/\p6 x.n y.n x.p y.p (0=bE y.q/\0=y.qc) (bE y.q=0/\bB (bE y.l) 1 21 (aN 21 (JI (kG x) (kG x).oC)) (aa ey y.l)/\zL y fun z=>∃v:Nat×Nat,p6 y.n x.n y.p x.p (ag (bE (y.to (bE y.l))=bE (sN x)/\z=v.fst)) ((0=List.length (qQ x)/\0=v.snd)/\mF (sN x) (y.to (bE y.l))/\bg (List.length (qQ x)=0))))))) (by kernel_rfl) (by
 delta qA aG p5 DD bB cC ai bt bR aH bO bA cV lT bG cD aF dL kK fM bP cQ pZ JI gp aI rB bE bp mF bF fS ay HN oD jI ag sN bg qQ ax dV Mz bC p6 me dR jE zL
 try dsimp -iota -proj only
 rintro⟨n,p,w,err,val,has⟩ ⟨h1,h2⟩ _;dsimp only at *;refine⟨fun c=>?_,fun c _ _=>⟨fun _=>⟨fun d=>⟨fun e=>⟨(),?_⟩,fun e=>⟨(),?_⟩⟩,fun d=>⟨(),?_⟩⟩,fun _ _=>?_⟩⟩
 ·have hw:w.node=0:=by simpa using c
  have e1:zO n.id w err val has=[]:=if_pos hw;have e2:zP w err val has=[⟨w.id,w.op,w.key,err,val,has⟩]:=if_pos hw;rw[e1,e2];have hr:aj 1 6 (fun i j=>aN 6 (sJ ⟨w.id,w.op,w.key,err,val,has⟩) (0+i) j) (aa sJ [⟨w.id,w.op,w.key,err,val,has⟩]):=.dQ fun i hi=>by
   have:i=0:=by omega
   subst this;rfl
  refine fun _ _=>⟨by omega,by omega,fun cap _ _=>⟨(0,cap),?_⟩⟩
  and_intros<;>first|exact cz|exact hr|(intro h_;revert h_)|exact cA|skip
 ·have e1:uQ w err val has=⟨w.key,val,0,!has⟩:=if_pos ⟨by simpa using d,by simpa using e⟩;simp only[kG,e1]
  and_intros<;>first|exact cz|(intro h_;revert h_)|exact cA|skip
 ·have e1:uQ w err val has=fK:=if_neg fun h=>by rw[h.2]at e;cases e
  simp only[kG,e1]
  and_intros<;>first|exact cz|(intro h_;revert h_)|exact cA|skip
 ·have e1:uQ w err val has=fK:=if_neg fun h=>by rw[h.1]at d;cases d
  simp only[kG,e1]
  and_intros<;>first|exact cz|(intro h_;revert h_)|exact cA|skip
 ·have hw:¬w.node=0:=by simpa using c
  have e1:zO n.id w err val has=[{ kG ⟨n,p,w,err,val,has⟩with oC:=n.id }]:=if_neg hw;have e2:zP w err val has=[]:=if_neg hw;rw[e1,e2];generalize kG ⟨n,p,w,err,val,has⟩=m;have hr:aj 1 21 (aN 21 (ey m)) (aa ey [m]):=.dQ fun i hi=>by
   have:i=0:=by omega
   subst this;rfl
  have k0:(0:Nat)<1000:=by omega
  have k1:(1:Nat)<1000:=by omega
  refine⟨mO.mk n p [] 0 [m] 1,?_⟩
  and_intros<;>first|exact cz|exact hr|exact k1|exact k0|(intro h_;revert h_)|exact cA|skip
  intro b _;refine⟨(b,0),?_⟩
  and_intros<;>first|exact cz|(intro h_;revert h_)|exact cA|skip)
theorem JQ:ak (Y Tryz.prog).G.X 54 NZ:=aT fF TT ⟨JJ,trivial⟩
def TU(a b c:Nat)(r:Rg.gf):List (Nat×Chunk):=[(a,.obj 161 [.int .i64 r.e,.slc b 0 1 r.l.length r.c1,.slc c 0 2 r.L.length r.c2]),(b,.arr 3 [.int .i64] r.l.length (aa Rg.encI r.l)),(c,.arr 208 Rg.HG r.L.length (aa Rg.kA r.L))]
def zQ(r:Rg.gf)(k:ByteArray):Int:=Rg.wY r.L (Rg.fo (fun _=>k) 1)
def EX(le:qN)(now ep:Int):Bool:=decide (0<ep)&&(decide (ep=le.aS)&&decide (now<le.end_))
def fN(n:de)(r:Rg.gf)(k:ByteArray):Bool:=decide (zQ r k=n.id)&&EX n.le n.now n.s.k.m.aS
structure yd where
 n:de
 p:iV
 r:Rg.gf
 key:ByteArray
noncomputable def JR:cF where
 α:=yd
 β:=Unit
 m:=17
 m':=17
 pre:=fun a=>a.r.L.length<100000/\0<a.r.L.length/\a.key.size<=aq/\a.n.s.k.m.frozen=false
 args:=fun a=>[.a (.ptr 0 0 0 0),.a (.str a.key)]
 hp:=fun _=>[]
 ro:=fun a=>[(0,JG (.ptr 14 0 0 0) 7 1 3 5 6 a.n a.p),(1,V9 2 a.n.le),(2,Xg a.n.now),(7,Y9 8 9 10 a.n.s.bM),(10,.obj 155 (.ptr 11 0 0 0::EE a.n.s.k.m))]++TU 14 15 16 a.r
 post:=fun _ _=>True
 res:=fun a _=>.a (.bool (fN a.n a.r a.key))
 cS:=fun _ _=>[]
def uR(x:yd):=cq x.r.L<100000/\0<cq x.r.L/\bA x.key<=aq/\x.n.s.k.m.frozen=false
theorem TV:fnBody (Y Tryz.prog) [(44,Rg.VF)] 19 JR fun _=>[]:=fnBody.of (p :=
 ∀x:yd,uR x->ai x.n.id->∃y:Rg.JO,ag (x.key=y.key/\kV x.r y.r (zM y) (aI (aG (qO y != x.n.id) (Exists (eO (fN x.n x.r x.key))) (vM (aA 0 x.n.s.k.m.aS) x.n.le.aS (x.n.s.k.m.aS == x.n.le.aS) (ai x.n.le.end_->ai x.n.now->aG (bC (aA x.n.now x.n.le.end_)) (Exists (eO (fN x.n x.r x.key))) (aG (bC x.n.s.k.m.frozen) (Exists (bV (true=fN x.n x.r x.key))) False)) (Exists (eO (fN x.n x.r x.key)))))))) (by kernel_rfl) (by
 delta aG av bB ai aA bA aF fM bW vM gp aI bV cq cG kV ay eO uR ag qO bg bC zM sM
 try dsimp -iota -proj only
 rintro⟨n,p,r,key⟩ ⟨h1,h2,h3,h4⟩ _;dsimp only at *;refine⟨Rg.JO.mk r key,?_⟩
 and_intros<;>first|exact cz|exact h1|exact h2|exact h3|(intro h_;revert h_)|exact cA|skip
 intro _ _;dsimp only;have e0:Rg.wY r.L (Rg.fo (fun _=>key) 1)=zQ r key:=rfl;rw[e0];unfold fN EX;refine⟨fun c=>⟨(),?_,trivial,trivial⟩,fun c=>⟨fun c1 _=>⟨fun c2 _ _=>⟨fun c3=>⟨(),?_,trivial,trivial⟩,fun c3=>⟨fun _=>⟨(),?_,trivial,trivial⟩,fun c4=>by rw[h4]at c4;cases c4⟩⟩,fun c2=>⟨(),?_,trivial,trivial⟩⟩,fun c1=>⟨(),?_,trivial,trivial⟩⟩⟩
 ·have:¬zQ r key=n.id:=by simpa using c
  simp[this]
 ·have:decide (n.now<n.le.end_)=false:=by simpa using c3
  rw[this];simp
 ·have g1:zQ r key=n.id:=by simpa using c
  have g2:n.s.k.m.aS=n.le.aS:=by simpa using c2
  have g3:decide (n.now<n.le.end_)=true:=by simpa using c3
  rw[c1,g3];simp[g1,g2]
 ·have:¬n.s.k.m.aS=n.le.aS:=by simpa using c2
  simp[this]
 ·rw[c1];simp)
theorem Dh:ak (Y Tryz.prog).G.X 19 JR:=aT fF TV ⟨Rg.Dg,trivial⟩
structure EY where
 n:de
 p:iV
def gY(l:List gX):List ByteArray:=l.map fun x=>x.w.key
noncomputable def TW:cF where
 α:=EY
 β:=Nat
 m:=15
 m':=16
 pre:=fun a=>a.n.rs.length<1000
 args:=fun a=>[.a (.ptr 0 0 0 0)]
 hp:=fun _=>[]
 ro:=fun a=>[(0,JG (.ptr 14 0 0 0) 7 1 3 5 6 a.n a.p),(6,.arr 134 C7 a.n.rs.length (aa fh a.n.rs))]
 post:=fun _ _=>True
 res:=fun a c=>.a (.slc 15 0 1 (gY a.n.rs).length c)
 cS:=fun a _=>[(15,.arr 9 [.str] (gY a.n.rs).length (aa kO (gY a.n.rs)))]
def YG(a:EY):An:=.flat 5 (Nat×Nat) (fun s x=>((s.new (.arr 9 [.str] (gY (a.n.rs.take x.1)).length (aa kO (gY (a.n.rs.take x.1))))).set 3 (.a (.slc s.nx 0 1 (gY (a.n.rs.take x.1)).length x.2))).int 13 x.1) (fun _ x=>x.1<=a.n.rs.length) (fun _ x=>a.n.rs.length-x.1)
def uS(x:List gX):=dK (cD x) 5 (aa fh x)
def wZ(x:Nat×Nat)(y:EY):List ByteArray:=gY (List.take x.fst y.n.rs)
theorem TX:fnBody (Y Tryz.prog) [] 17 TW fun a=>[(17,[YG a],[])]:=fnBody.of (p :=
 ∀x:EY,cD x.n.rs<1000->(∃y:Nat×Nat,aK y.fst ((0=aZ (wZ y x)/\0=y.snd)/\ja (cD x.n.rs) x.p.rc (ag (aZ (wZ y x)=0/\oD x.n x.p (uS x.n.rs) (y.fst<=cD x.n.rs/\True)))))/\∀y:Nat×Nat,gi y.fst (cD x.n.rs) (Hq (wZ y x) y (fun z=>wZ z x) (cD x.n.rs) x.p.rc kO (gl x.n.rs (0+az y.fst)).w.key fun z=>oD x.n x.p (uS x.n.rs) (bS z.fst (cD x.n.rs) y.fst)) (∃z:Nat,ia (aZ (wZ y x)) (aZ (gY x.n.rs)) y.snd z 1 (aa kO (wZ y x)) (aa kO (gY x.n.rs)) True True)) (by kernel_rfl) (by
 delta aG p5 bB ai bR az aH gq aA cn af aZ bO lT bG cD aF aU bn bP cQ pZ eM dK jt ja iS gH aV bp bS bF iT ia aP aW aK bf oD jI Hq ag dJ bx ax uS gi wZ jE
 try dsimp -iota -proj only
 rintro⟨n,p⟩ h;have h:n.rs.length<1000:=h;have hl:∀i,(gY (List.take i n.rs)).length=min i n.rs.length:=fun i=>by simp[gY]
 refine⟨⟨(0,0),?_⟩,fun⟨i,c⟩ hi=>⟨fun c1=>?_,fun c1=>⟨c,?_⟩⟩⟩
 ·have e:gY (List.take 0 n.rs)=[]:=rfl;dsimp only;rw[e]
  and_intros<;>first|exact cz|(intro h_;revert h_)|exact cA|skip
 ·dsimp only at *;have hi:i<n.rs.length:=by have:=of_decide_eq_true c1;omega
  have hs:gY (List.take (i+1) n.rs)=gY (List.take i n.rs)++[(gl n.rs i).w.key]:=by
   unfold gY;rw[gh hi,List.map_append];rfl
  have hz:0+(i:Int).toNat=i:=by omega
  have hli:=hl i;rw[hz];refine⟨by omega,hi,by omega,by omega,by omega,fun cap _ _ _=>⟨by simp only[bQ];omega,(i+1,cap),?_⟩⟩;dsimp only;rw[hs];have hp:aj (gY (List.take i n.rs)++[(gl n.rs i).w.key]).length 1 (aX (aa kO (gY (List.take i n.rs))) 0 (gY (List.take i n.rs)).length fun i_1 j=>aN 1 (kO (gl n.rs i).w.key) (0+i_1) j) (aa kO (gY (List.take i n.rs)++[(gl n.rs i).w.key])):=.push rfl (by simp) rfl
  and_intros<;>first|exact cz|exact hp|exact by simp|(intro h_;revert h_)|exact cA|skip
 ·dsimp only at *;have hi:i=n.rs.length:=by have:=of_decide_eq_false c1;omega
  subst hi;rw[List.take_length]
  and_intros<;>first|exact cz|(intro h_;revert h_)|exact cA|skip)
theorem TY:ak (Y Tryz.prog).G.X 17 TW:=aT fF TX trivial
structure uT where
 n:de
 p:iV
 r:Rg.gf
 w:nV
 g:Option aD
structure oN where
 p:iV
 b:Nat
 mc:Nat
 rc:Nat
structure ew where
 n:de
 ms:List nW
 rs:List AL
def sO(w:nV):Bool:=(!decide (w.op=1)&&!decide (w.op=2))||!dM w.key
def mH(n:de)(w:nV)(err:Int)(val:ByteArray)(has:Bool):ew:=⟨n,zO n.id w err val has,zP w err val has⟩
def JS(n:de)(r:Rg.gf)(w:nV):JF:=⟨w,n.s.bM*1048576+(n.asked+1),zQ r w.key,n.now⟩
def Di(n:de)(r:Rg.gf)(w:nV):nW:=⟨13,n.id,zQ r w.key,n.s.k.m.aS,0,0,0,n.s.bM*1048576+(n.asked+1),w.op,w.key,0,false,fK,0⟩
def rC(n:de)(k:ByteArray):de:={ n with t:=gW n.t (hasB [k]),s:=jR n.s [k] }
def Au(n:de)(r:Rg.gf)(w:nV):de:={ n with asked:=n.asked+1,ws:=n.ws++[JS n r w] }
def lU(n:de)(w:nV)(b:Nat):de:={ n with t:=qs n.t w.key b,rs:=n.rs++[⟨w,n.t.last+1⟩] }
def kW(n:de)(r:Rg.gf)(w:nV)(g:Option aD)(b:Nat):ew :=
 if sO w=true then mH n w 1 uN false
 else if zQ r w.key≠n.id then⟨Au n r w,[Di n r w],[]⟩
 else if fN n r w.key=false then mH n w 6 uN false
 else if w.op=2 then mH (rC n w.key) w 0 uN false
 else match nO g n.now with
  |some x=>mH n w 0 x.val true
  |none=>⟨lU n w b,[],[]⟩
def JT(rg ma ra:A)(nd st le tk mp wa rd ca cl dv ds ix it jr mk jl ke su tx pl:Nat)(n:de)(p:iV):List (Nat×Chunk) :=
 vo st ca cl dv ds ix it jr mk jl ke su tx pl n.s p.p++[(mp,vR p.mb n.t),(nd,PJ rg ma ra st le tk wa rd n p),(tk,DM p.mb n.t),(wa,.arr 125 Mh n.ws.length (aa jm n.ws)),(rd,.arr 134 C7 n.rs.length (aa fh n.rs))]
def Xq(le ck a b c:Nat)(n:de)(r:Rg.gf):List (Nat×Chunk):=[(le,V9 ck n.le),(ck,Xg n.now)]++TU a b c r
structure vT(a:uT):Prop where
 at_:dX a.n a.p
 ring:a.r.L.length<100000/\0<a.r.L.length
 key:a.w.key.size<=aq
 free:a.n.s.k.m.frozen=false
 last:a.n.t.last<1099511627776
 room:a.n.ws.length<1000/\a.n.rs.length<1000/\a.n.t.l.length<1000
 asked:0<=a.n.asked/\a.n.asked<1000000/\0<=a.n.s.bM/\a.n.s.bM<1000000
 rd:O9 a.n.s.fl
 gz:Cz a.n.s.fl a.w.key a.g
 kill:a.w.op=2->dM a.w.key=true->zG ⟨a.n.s,a.p.p,[a.w.key],1⟩
noncomputable def Xr:cF where
 α:=uT
 β:=oN
 m:=24
 m':=31
 pre:=vT
 args:=fun a=>[.a (.ptr 0 0 0 0),.agg (YE a.w)]
 hp:=fun a=>JT (.ptr 21 0 0 0) .bU .bU 0 7 1 3 4 5 6 8 9 10 11 12 13 14 15 16 17 18 19 20 a.n a.p
 ro:=fun a=>Xq 1 2 21 22 23 a.n a.r
 post:=fun a b=>dX (kW a.n a.r a.w a.g b.b).n b.p
 res:=fun _ _=>.lY []
 cS:=fun a b=>JT (.ptr 21 0 0 0) (.slc 29 0 21 (kW a.n a.r a.w a.g b.b).ms.length b.mc) (.slc 30 0 6 (kW a.n a.r a.w a.g b.b).rs.length b.rc) 0 7 1 3 4 27 28 8 9 10 11 12 24 14 25 16 17 18 19 26 (kW a.n a.r a.w a.g b.b).n b.p++[C8 29 (kW a.n a.r a.w a.g b.b).ms,NW 30 (kW a.n a.r a.w a.g b.b).rs]
noncomputable def Xs:List (Nat×cF):=[(44,Rg.VF),(86,KH),(54,NZ),(19,JR),(51,Ml (.ptr 9 0 0 0)),(88,Me),(137,L8),(89,Td),(136,SF)]
def YH(a:uT):An:=.mk 0 Bool (fun s b=>s.set 18 (.a (.bool b))) (fun _ b=>b=sO a.w) (fun _ _=>0) fun _=>.mk 60 [] []
def YI(a:uT):An:=.mk 2 Unit (fun s _=>((s.new (.obj 40 (BX ((nO a.g a.n.now).getD fK)))).set 4 (.a (.ptr s.nx 0 0 0))).set 5 (.a (.bool (nO a.g a.n.now).isSome))) (fun _ _=>True) (fun _ _=>0) fun _=>.mk 60 [] []
theorem P6{g:Option aD}{now:Int}{x:aD}(h:nO g now=some x):g=some x:=by
 unfold nO at h;cases g with
 |none=>cases h
 |some y =>
  simp only[Option.bind_some]at h;split at h
  ·exact h
  ·cases h
theorem TZ{m:nC}{k:ByteArray}{g:Option aD}{now:Int}{x:aD}(he:Cz m k g)(h:nO g now=some x):x.val.size<=aq:=by
 rw[P6 h]at he;obtain⟨_,_,_,hm⟩:=he;unfold fH at hm;simp only[Bool.and_eq_true,decide_eq_true_eq]at hm;exact Nat.le_trans hm.1.1.1.2 (by decide)
def cE(x:uT)(y:oN):ew:=kW x.n x.r x.w x.g y.b
def JU(x y:qN)(z u:Prop):=x.aS=y.aS/\x.end_=y.end_/\x.top=y.top/\z/\u
def p7(x y:List gX):=bB (cD x) (cD y) 5 (aa fh y) (aa fh x)
def uU(z:PH)(x:iV)(u:Nat)(v:jk)(y w:de)(s:Prop):=z=x.p.H/\gO u v=gO x.mb y.t/\ax (w.id=y.id/\s)
def w8(x y:de):=bB x.ws.length y.ws.length 7 (aa jm y.ws) (aa jm x.ws)
def MA(z:rF)(u:Nat)(v:jk)(y:uT)(w:de)(g:iV)(f:List nW)(h:Nat)(i j k:oN->Prop)(l:kY):=∃x:oN,uU z.H x.p u v (ew.n (cE y x)) w (ag (p5 w (ew.n (cE y x)) g x.p (ag (bE f=bE (ew.ms (cE y x))/\h=x.mc)) (i x/\v.last=(ew.n (cE y x)).t.last/\iC u x.p.mb/\j x/\p7 (ew.n (cE y x)).rs y.n.rs/\mF (ew.ms (cE y x)) f/\k x/\kz l (ew.n (cE y x)).s z x.p.p (dX (ew.n (cE y x)) x.p/\True))))
def zR(z:Int)(x y:nV)(u:Prop):=z=x.node/\y.id=x.id/\y.op=x.op/\y.key=x.key/\u
def Dj(x:ew)(y:List AL):=bB x.rs.length y.length 6 (aa sJ y) (aa sJ x.rs)
def JV(y:uT)(v:Int)(s:ByteArray)(t:Bool)(f:rF)(g:Nat)(h:jk)(i:kY):nX->Prop:=fun(x:nX)=>ag (zR y.w.node x.w y.w (v=x.err/\s=x.val/\t=x.has/\p6 y.n x.n y.p x.p (bA x.w.key<=aq/\bA x.val<=aq) (∀u:Nat×Nat,True->MA f g h y x.n x.p (sN x) u.fst (fun z=>ag (List.length (qQ x)=(ew.rs (cE y z)).length/\u.snd=z.rc)) (fun z=>w8 (ew.n (cE y z)) y.n) (fun z=>Dj (cE y z) (qQ x)) i)))
def Dk(x:de):=dK x.ws.length 7 (aa jm x.ws)
def HO(x:uT)(y:Prop):=rB x.w (x.p.p.H=x.p.p.H/\sI x.p.mb x.n.t/\oD x.n x.p (aH x.n.t.last) (iC x.p.mb x.p.mb/\Dk x.n/\uS x.n.rs/\uO x.n (uP x.n.now x.r (kz x.n.s x.n.s x.p.p x.p.p y))))
def HP(y:uT):CA->Prop:=fun(z:CA)=>ag (y.w.key=z.key/\y.n.now=z.now/\nN y.n.s.cL z.m y.p.p.cy z.p y.n.s.d y.p.p.x y.p.p.xc (y.p.p.H=z.p.H) (wN z.m z.p z.key z.r/\aI (Exists (ay ((nO z.r z.now).isSome=(nO y.g y.n.now).isSome/\ax (ag (rB y.w (pK (jh (nO z.r z.now)) (jh (nO y.g y.n.now)) (HO y (rB y.w (True/\True)))))))))))
def w9(x y:de)(z:Prop):=ax (eo (x.s.bM=y.s.bM) (uH x.s.k.m y.s.k.m z))
def xg(x:de)(y:jk)(z:iV)(u:Nat)(v w:PH)(s f:Prop):=x.t.last=y.last/\iC z.mb u/\gO z.mb x.t=gO u y/\v=w/\s/\f
theorem VH:fnBody (Y Tryz.prog) Xs 48 Xr fun a=>[(48,[],[YH a]),(90,[],[YI a])]:=fnBody.of (p :=
 ∀x:uT,vT x->∃f:Rg.JO,ag (x.w.key=f.key/\kV x.r f.r (zM f) (aI ((ai x.w.op->vM (x.w.op != (1:Int)) x.w.op (x.w.op != (2:Int)) (∃j:Bool,true=j/\aH (qO f)/\ax (rB x.w (HO x (j=sO x.w/\True)))) (∃j:ByteArray,x.w.key=j/\cH (∃m:Bool,bC (dM j)=m/\aH (qO f)/\ax (rB x.w (HO x (m=sO x.w/\True))))))/\∀o:Bool,o=sO x.w->aG o (Exists (JV x 1 cV false x.p.p x.p.mb x.n.t x.n.s)) (ai x.n.id->aG (qO f != x.n.id) (ai x.n.asked->ai (x.n.asked+(1:Int))/\(ai (x.n.asked+(1:Int))->ai x.n.s.bM->mZ (x.n.s.bM*(1048576:Int)) (x.n.asked+(1:Int)) (ai x.n.now->gH x.n.ws.length 64 x.p.wc fun k=>ai x.w.op->∃y:mO,ag (ag (1=bE y.l/\1=y.lc)/\ax (x.n.id=y.n.id/\ax (jI (ag (x.n.ws.length+1=y.n.ws.length/\k=y.p.wc)) x.n.rs y.n x.p.rc y.p (x.n.asked+(1:Int)) ((0=bE y.q/\0=y.qc)/\HF y 13 (qO f) x.n 0 0 (x.n.s.bM*(1048576:Int)+(x.n.asked+(1:Int))) x.w.op x.w.key fun c=>MA x.p.p x.p.mb x.n.t x y.n y.p (y.to (bE y.l)) c (fun h=>0=(ew.rs (cE x h)).length/\0=h.rc) (fun h=>iS (ew.n (cE x h)).ws.length x.n.ws.length 7 (aa jm x.n.ws) (DD .i64 x.w.node x.w.id x.w.op (bF x.w.key) (x.n.s.bM*(1048576:Int)+(x.n.asked+(1:Int))) (qO f) x.n.now []) (aa jm (ew.n (cE x h)).ws)) (fun h=>(ew.rs (cE x h)).length=0) x.n.s))))))) (∃v:yd,ag (x.w.key=v.key /\
 p6 x.n v.n x.p v.p (0=0) (JU x.n.le v.n.le (x.n.now=v.n.now) (w9 x.n v.n (kV x.r v.r (uR v) (aI (aG (bC (fN v.n v.r v.key)) (Exists (JV x 6 cV false x.p.p x.p.mb x.n.t x.n.s)) (ai x.w.op->aG (x.w.op == (2:Int)) (∃z:C4,ag (ag (1=aZ z.ks/\1=z.cap)/\xg x.n z.t x.p z.mb x.p.p.H z.H (bB (aZ z.ks) 1 1 (aN 1 (bG (bF x.w.key))) (aa kO z.ks)) ((gd z.H z.t/\aZ z.ks<100000/\z.t.l.length<100000)/\∀i:PH×Int,(wV i z.t (hasB z.ks) fun k=>z.H k)->∃u:vO,ag (ag (1=aZ u.ks/\1=u.kc)/\kz x.n.s u.s x.p.p u.p (i.fst=u.p.H/\bB (aZ u.ks) 1 1 (aN 1 (bG (bF x.w.key))) (aa kO u.ks)/\(ow u.s u.p/\zG u)/\∀y:rF,zH u y->Exists (JV x (gK (fq u.ks)) cV false y z.mb (gW z.t (hasB z.ks)) (jR u.s u.ks))))))) (((ai x.n.now->Exists (HP x)/\Exists (HP x))/\(ai x.n.now->Exists (HP x)))/\aI (aG (nO x.g x.n.now).isSome (Exists (JV x 0 (aD.val (jh (nO x.g x.n.now))) true x.p.p x.p.mb x.n.t x.n.s)) (∃z:C1,ag (x.w.key=z.key/\xg x.n z.t x.p z.mb x.p.p.H z.H (gd z.H z.t/\z.t.last<(1099511627776:Int)/\bA z.key<=aq) (∀i:Nat,z.H i=none->gH (cD x.n.rs) 48 x.p.rc fun u=>∃y:oN,uU (aM z.H i 0 (bP (bF z.key) pJ)) y.p z.mb (qs z.t z.key i) (ew.n (cE x y)) x.n (ax (bp (lT/\lT /\
 pZ x.n.ws (ew.n (cE x y)) x.p.wc y.p/\ag (cD x.n.rs+1=cD (ew.n (cE x y)).rs/\u=y.p.rc)/\x.n.asked=(ew.n (cE x y)).asked/\(0=bE (ew.ms (cE x y))/\0=y.mc)/\(0=(ew.rs (cE x y)).length/\0=y.rc)/\(qs z.t z.key i).last=(ew.n (cE x y)).t.last/\iC z.mb y.p.mb/\w8 (ew.n (cE x y)) x.n/\iS (cD (ew.n (cE x y)).rs) (cD x.n.rs) 5 (aa fh x.n.rs) (bt x.w.node (bt x.w.id (bt x.w.op (dV x.w.key (z.t.last+(1:Int)) [])))) (aa fh (ew.n (cE x y)).rs)/\bE (ew.ms (cE x y))=0/\(ew.rs (cE x y)).length=0/\kz x.n.s (ew.n (cE x y)).s x.p.p y.p.p (dX (ew.n (cE x y)) y.p/\True)))))))))))))))))))))) (by kernel_rfl) (by
 delta aG p5 av DD bB cC ai bt bR gO cE aH gq iC aZ bO bA cV lT bG cD aF dL kK bP eo cQ pZ eM JU qt bW JV dK vM gp pK aI rB bE nN cq iS gH aV bp cG HO kV mF bF fS uP ay gK HP uH p7 fR uR oD jI ag mZ uU HF qO sN zH jh w9 pJ w8 uO qQ ax dV wN MA uS bC p6 cH fA xg zM zR wV sM Dk kz dR jE zL sI Dj
 try dsimp -iota -proj only
 rintro⟨n,p,r,w,g⟩ ok;obtain⟨hat,⟨r1,r2⟩,hkey,hfr,hlast,⟨m1,m2,m3⟩,⟨s1,s2,s3,s4⟩,hrd,hent,hkil⟩:=ok;dsimp only at *;refine⟨Rg.JO.mk r w.key,?_⟩
 and_intros<;>first|exact cz|exact r1|exact r2|exact hkey|(intro h_;revert h_)|exact cA|skip
 intro _ _;dsimp only;have e0:Rg.wY r.L (Rg.fo (fun _=>w.key) 1)=zQ r w.key:=rfl;rw[e0];refine⟨fun _=>⟨fun c1 _=>⟨fun c2=>⟨true,?_⟩,fun c2=>⟨w.key,rfl,trivial,fun _ _=>⟨!dM w.key,?_⟩⟩⟩,fun c1=>⟨w.key,rfl,trivial,fun _ _=>⟨!dM w.key,?_⟩⟩⟩,fun b hb=>⟨fun hbt=>?_,fun hbf _=>?_⟩⟩
 ·have hw:true=sO w:=by
   have h1:¬w.op=1:=by simpa using c1
   have h2:¬w.op=2:=by simpa using c2
   simp[sO,h1,h2]
  and_intros<;>first|exact cz|exact hw|(intro h_;revert h_)|exact cA|skip
 ·have hw:(!dM w.key)=sO w:=by
   have h2:w.op=2:=by simpa using c2
   simp[sO,h2]
  and_intros<;>first|exact cz|exact hw|(intro h_;revert h_)|exact cA|skip
 ·have hw:(!dM w.key)=sO w:=by
   have h2:w.op=1:=by simpa using c1
   simp[sO,h2]
  and_intros<;>first|exact cz|exact hw|(intro h_;revert h_)|exact cA|skip
 ·have eN:∀b,kW n r w g b=mH n w 1 uN false:=fun b=>if_pos (hb.symm.trans hbt);have hv:uN.size<=aq:=by decide
  refine⟨nX.mk n p w 1 uN false,?_⟩
  and_intros<;>first|exact cz|exact hkey|exact hv|(intro h_;revert h_)|exact cA|skip
  rintro⟨mc,rc⟩ _;refine⟨oN.mk p 0 mc rc,?_⟩;dsimp only;rw[eN];dsimp only[mH]
  and_intros<;>first|exact cz|exact hat|(intro h_;revert h_)|exact cA|skip
 have hbad:sO w=false:=hb.symm.trans hbf;have hn0:¬sO w=true:=by rw[hbad];decide
 refine⟨fun c1 _=>⟨by simp only[bQ];omega,fun _ _=>⟨by simp only[bQ];omega,by simp only[bQ];omega,fun _=>⟨by omega,by omega,by omega,fun cap hcap _ _ _=>?_⟩⟩⟩,fun c1=>?_⟩
 ·have hne:zQ r w.key≠n.id:=by simpa using c1
  have eN:∀b,kW n r w g b=⟨Au n r w,[Di n r w],[]⟩:=fun b=>by unfold kW;rw[if_neg hn0,if_pos hne]
  have hr:aj 1 21 (aN 21 (ey { Di n r w with oC:=0 })) (aa ey [{ Di n r w with oC:=0 }]):=.dQ fun i hi=>by
   have:i=0:=by omega
   subst this;rfl
  have k0:(0:Nat)<1000:=by omega
  have k1:(1:Nat)<1000:=by omega
  have hl:n.ws.length+1=(Au n r w).ws.length:=by simp[Au]
  refine⟨mO.mk (Au n r w) { p with wc:=cap } [] 0 [{ Di n r w with oC:=0 }] 1,?_⟩
  and_intros<;>first|exact cz|exact hr|exact k1|exact k0|exact hl|(intro h_;revert h_)|exact cA|skip
  intro b _;refine⟨oN.mk { p with wc:=cap } 0 b 0,?_⟩;have hN:dX (Au n r w) { p with wc:=cap }:=⟨hat.st,hat.tok,hat.sep,by simp only[Au,List.length_append,List.length_singleton];exact hcap,hat.rc⟩
  have hp:aj (n.ws++[JS n r w]).length 7 (aX (aa jm n.ws) 0 n.ws.length fun i j=>aN 7 (jm (JS n r w)) (0+i) j) (aa jm (n.ws++[JS n r w])):=.push rfl (by simp) rfl;have hl2:(n.ws++[JS n r w]).length<=n.ws.length+1:=by simp
  dsimp only;rw[eN];dsimp only[Au]
  and_intros<;>first|exact cz|exact hN|exact hp|exact hl2|(intro h_;revert h_)|exact cA|skip
 have how:zQ r w.key=n.id:=by simpa using c1
 have hn1:¬zQ r w.key≠n.id:=fun h=>h how;refine⟨yd.mk n p r w.key,?_⟩
 and_intros<;>first|exact cz|exact r1|exact r2|exact hkey|exact hfr|(intro h_;revert h_)|exact cA|skip
 intro _ _;dsimp only;refine⟨fun c2=>?_,fun c2 _=>?_⟩
 ·have hsv:fN n r w.key=false:=by simpa using c2
  have eN:∀b,kW n r w g b=mH n w 6 uN false:=fun b=>by unfold kW;rw[if_neg hn0,if_neg hn1,if_pos hsv]
  have hv:uN.size<=aq:=by decide
  refine⟨nX.mk n p w 6 uN false,?_⟩
  and_intros<;>first|exact cz|exact hkey|exact hv|(intro h_;revert h_)|exact cA|skip
  rintro⟨mc,rc⟩ _;refine⟨oN.mk p 0 mc rc,?_⟩;dsimp only;rw[eN];dsimp only[mH]
  and_intros<;>first|exact cz|exact hat|(intro h_;revert h_)|exact cA|skip
 have hn2:¬fN n r w.key=false:=by
  have:fN n r w.key=true:=by simpa using c2
  rw[this];decide
 refine⟨fun c3=>?_,fun c3=>?_⟩
 ·have hop:w.op=2:=by simpa using c3
  have hkB:dM w.key=true:=by
   revert hbad;unfold sO;cases dM w.key<;>simp
  have hall:fq [w.key]=true:=by simp[fq,hkB]
  have eN:∀b,kW n r w g b=mH (rC n w.key) w 0 uN false:=fun b=>by unfold kW;rw[if_neg hn0,if_neg hn1,if_neg hn2,if_pos hop]
  have hr:aj 1 1 (aN 1 [Value.string w.key]) (aa kO [w.key]):=.dQ fun i hi=>by
   have:i=0:=by omega
   subst this;rfl
  have hv:uN.size<=aq:=by decide
  have k1:(1:Nat)<100000:=by omega
  have k2:n.t.l.length<100000:=by omega
  refine⟨C4.mk p.mb n.t p.p.H [w.key] 1,?_⟩
  and_intros<;>first|exact cz|exact hr|exact k1|exact k2|exact hat.tok|(intro h_;revert h_)|exact cA|skip
  rintro⟨H1,cnt⟩ ⟨ht1,ht2⟩;have hat1:=hat.Wa ht1 ht2;have hkil:=hkil hop hkB;have hkil1:zG ⟨n.s,{ p.p with H:=H1 },[w.key],1⟩:=⟨hkil.n,hkil.jr,hkil.fl⟩
  have hst1:ow n.s { p.p with H:=H1 }:=hat1.st;refine⟨vO.mk n.s { p.p with H:=H1 } [w.key] 1,?_⟩
  and_intros<;>first|exact cz|exact hr|exact hkil1|exact hst1|(intro h_;revert h_)|exact cA|skip
  rintro b ⟨q1,q2⟩;have hat2:dX (rC n w.key) { p with p:=b }:=hat1.store q1 q2;have he:(if fq [w.key]=true then(0:Int)else 1)=0:=if_pos hall;refine⟨nX.mk n p w 0 uN false,?_⟩
  and_intros<;>first|exact cz|exact hkey|exact hv|exact he|(intro h_;revert h_)|exact cA|skip
  rintro⟨mc,rc⟩ _;refine⟨oN.mk { p with p:=b } 0 mc rc,?_⟩;dsimp only;rw[eN];dsimp only[mH,rC];have hat2:dX { n with t:=gW n.t (hasB [w.key]),s:=jR n.s [w.key] } { p with p:=b }:=hat2
  and_intros<;>first|exact cz|exact hat2|(intro h_;revert h_)|exact cA|skip
 ·have hop:¬w.op=2:=by simpa using c3
  refine⟨?_,fun _ _=>⟨fun c4=>?_,fun c4=>?_⟩⟩
  ·have hG:iX n.s.fl p.p.fl:=hat.st.fl;refine⟨fun _=>⟨⟨CA.mk n.s.fl p.p.fl w.key n.now g,?_⟩,⟨CA.mk n.s.fl p.p.fl w.key n.now g,?_⟩⟩,fun _=>⟨CA.mk n.s.fl p.p.fl w.key n.now g,?_⟩⟩ <;>
   ·and_intros<;>first|exact cz|exact hG|exact hrd|exact hent|exact hkey|(intro h_;revert h_)|exact cA|skip
    intro _ _;refine⟨(),?_⟩
    and_intros<;>first|exact cz|(intro h_;revert h_)|exact cA|skip
  ·obtain⟨x,hx⟩:=Option.isSome_iff_exists.1 c4;have eN:∀b,kW n r w g b=mH n w 0 x.val true:=fun b=>by unfold kW;rw[if_neg hn0,if_neg hn1,if_neg hn2,if_neg hop,hx]
   have hv:x.val.size<=aq:=TZ hent hx;rw[hx];refine⟨nX.mk n p w 0 x.val true,?_⟩
   and_intros<;>first|exact cz|exact hkey|exact hv|(intro h_;revert h_)|exact cA|skip
   rintro⟨mc,rc⟩ _;refine⟨oN.mk p 0 mc rc,?_⟩;dsimp only;rw[eN];dsimp only[mH]
   and_intros<;>first|exact cz|exact hat|(intro h_;revert h_)|exact cA|skip
  ·have hx:nO g n.now=none:=by simpa using c4
   have eN:∀b,kW n r w g b=⟨lU n w b,[],[]⟩:=fun b=>by unfold kW;rw[if_neg hn0,if_neg hn1,if_neg hn2,if_neg hop,hx]
   refine⟨C1.mk p.mb n.t p.p.H w.key,?_⟩
   and_intros<;>first|exact cz|exact hat.tok|exact hlast|exact hkey|(intro h_;revert h_)|exact cA|skip
   intro b hb;have hat1:=hat.Xh hb hkey hlast;refine⟨by omega,by omega,by omega,fun cap hcap _ _=>⟨oN.mk { p with p:={ p.p with H:=aM p.p.H b 0 [.string w.key,.bool true] },rc:=cap } b 0 0,?_⟩⟩;have hN:dX (lU n w b) { p with p:={ p.p with H:=aM p.p.H b 0 [.string w.key,.bool true] },rc:=cap }:=⟨hat1.st,hat1.tok,hat1.sep,hat.wc,by simp only[lU,List.length_append,List.length_singleton];exact hcap⟩
   have hp:aj (n.rs++[(⟨w,n.t.last+1⟩:gX)]).length 5 (aX (aa fh n.rs) 0 n.rs.length fun i j=>aN 5 (fh ⟨w,n.t.last+1⟩) (0+i) j) (aa fh (n.rs++[⟨w,n.t.last+1⟩])):=.push rfl (by simp) rfl;have hl2:(n.rs++[(⟨w,n.t.last+1⟩:gX)]).length<=n.rs.length+1:=by simp
   have hl3:n.rs.length+1=(n.rs++[(⟨w,n.t.last+1⟩:gX)]).length:=by simp
   dsimp only;rw[eN];dsimp only[lU]
   and_intros<;>first|exact cz|exact hN|exact hp|exact hl2|exact hl3|(intro h_;revert h_)|exact cA|skip)
theorem VI:ak (Y Tryz.prog).G.X 48 Xr:=aT fF VH ⟨Rg.Dg,xK,JQ,Dh,JJ,PI,PF,Tf,SH,trivial⟩
end Go.Proofs.YtfjgoonelcaggaaGreat
namespace Go.Sx
section
def HQ(slot:Nat)(v:Bool)(s:S)(K:S->Prop):Prop:=match look s.fr slot with
 |.a (.bool b)=>b=v/\K (s.set slot (.a (VQ v)))
 |.a .tt=>bif v then K s else False
 |.a .ff=>bif v then False else K s
 |_=>K s
theorem EZ(slot:Nat)(v:Bool):∀s K,HQ slot v s K->wk s K:=by
 intro s K h w0 M ρ a w hs;unfold HQ at h;split at h
 ·rename_i b hb;obtain⟨rfl,h⟩:=h;have hr:=hs.frame slot;rw[hb]at hr;refine⟨_,ρ,h,Env.le.refl ρ,hs.UO ?_⟩;have hr:a.tmps.getD slot undef = .bool b:=hr;rw[hr];exact rJ b ρ
 ·cases v
  ·exact h.elim
  ·exact⟨s,ρ,h,Env.le.refl ρ,hs⟩
 ·cases v
  ·exact⟨s,ρ,h,Env.le.refl ρ,hs⟩
  ·exact h.elim
 ·exact⟨s,ρ,h,Env.le.refl ρ,hs⟩
def HR:List (Nat×Bool)->S->(S->Prop)->Prop
 |[],s,K=>K s
 |e::r,s,K=>HQ e.1 e.2 s fun s=>HR r s K
theorem Dl:∀(l:List (Nat×Bool)) s K,HR l s K->wk s K
 |[],s,K,h=>fun w0 M ρ a w hs=>⟨s,ρ,h,Env.le.refl ρ,hs⟩
 |e::r,s,K,h=>fun w0 M ρ a w hs=>by
  obtain⟨s1,ρ1,h1,l1,g1⟩:=EZ e.1 e.2 s _ h w0 M ρ a w hs;obtain⟨s2,ρ2,h2,l2,g2⟩:=Dl r s1 K h1 w0 M ρ1 a w g1;exact⟨s2,ρ2,h2,l1.trans l2,g2⟩
def MB(slot:Nat)(n:Int)(s:S)(K:S->Prop):Prop:=match look s.fr slot with
 |.a (.int k m)=>m=n/\K (s.set slot (.a (.lit k n)))
 |_=>K s
theorem P7(slot:Nat)(n:Int):∀s K,MB slot n s K->wk s K:=by
 intro s K h w0 M ρ a w hs;unfold MB at h;split at h
 ·rename_i k m hb;obtain⟨rfl,h⟩:=h;have hr:=hs.frame slot;rw[hb]at hr;exact⟨_,ρ,h,Env.le.refl ρ,hs.UO hr⟩
 ·exact⟨s,ρ,h,Env.le.refl ρ,hs⟩
def An.Wc(key slot:Nat)(v:Bool)(next:LH):An:=.view key (HQ slot v) (EZ slot v) next
def An.YJ(key:Nat)(l:List (Nat×Bool))(next:LH):An:=.view key (HR l) (Dl l) next
def An.XG(key slot:Nat)(n:Int)(next:LH):An:=.view key (MB slot n) (P7 slot n) next
end
end Go.Sx
namespace Go.Proofs.YtfjgoonelcaggaaGreat
open Go.Sx
noncomputable def MC:cF where
 α:=uT
 β:=oN
 m:=24
 m':=31
 pre:=fun a=>vT a/\a.w.node=0
 args:=fun a=>[.a (.ptr 0 0 0 0),.a (.int .i64 a.w.id),.a (.int .i64 a.w.op),.a (.str a.w.key)]
 hp:=fun a=>JT (.ptr 21 0 0 0) .bU .bU 0 7 1 3 4 5 6 8 9 10 11 12 13 14 15 16 17 18 19 20 a.n a.p
 ro:=fun a=>Xq 1 2 21 22 23 a.n a.r
 post:=fun a b=>dX (kW a.n a.r a.w a.g b.b).n b.p
 res:=fun a b=>.agg [.slc 29 0 21 (kW a.n a.r a.w a.g b.b).ms.length b.mc,.slc 30 0 6 (kW a.n a.r a.w a.g b.b).rs.length b.rc]
 cS:=fun a b=>JT (.ptr 21 0 0 0) .bU .bU 0 7 1 3 4 27 28 8 9 10 11 12 24 14 25 16 17 18 19 26 (kW a.n a.r a.w a.g b.b).n b.p++[C8 29 (kW a.n a.r a.w a.g b.b).ms,NW 30 (kW a.n a.r a.w a.g b.b).rs]
def Dm(z x:de)(u y:iV)(v:jk)(w:Nat)(s:de)(f:List gX)(g:Prop):=p6 z x u y (v.last=x.t.last) (iC w y.mb/\w8 x s/\p7 x.rs f/\g)
def Dn(y z:iV)(x u:de)(v:Prop):=y.p.H=z.p.H/\gO y.mb x.t=gO z.mb u.t/\Dm x u y z x.t y.mb x x.rs (ax (ag v))
def HS(z:List nW)(x:ew)(v:Nat)(y:oN)(u:List AL)(w:Nat)(s:PH)(f:Nat)(g:jk)(h:Prop):=ag (bE z=bE x.ms/\v=y.mc)/\ag (u.length=x.rs.length/\w=y.rc)/\s=y.p.p.H/\gO f g=gO y.p.mb x.n.t/\mF x.ms z/\Dj x u/\ax (ag h)
def sP(x:qN)(y:de)(z u:Int)(v:Prop):=uM x.aS y.le x.end_ x.top (z=u) v
theorem P8:fnBody (Y Tryz.prog) [(48,Xr)] 13 MC fun _=>[]:=fnBody.of (p :=
 ∀x:uT,vT x/\x.w.node=(0:Int)->∃y:uT,ag (zR 0 y.w x.w (Dn x.p y.p x.n y.n (Hi x.n.s y.n.s x.p.p y.p.p x.n.s.d x.n.s.ms x.p.p.jc x.n.s.jL x.p.p.jy (sP x.n.le y.n x.n.now y.n.now (kV x.r y.r (vT y) (∀z:oN,dX (ew.n (cE y z)) z.p->∃u:oN,HS (ew.ms (cE y z)) (cE x u) z.mc u (ew.rs (cE y z)) z.rc z.p.p.H z.p.mb (ew.n (cE y z)).t (CN (ew.n (cE y z)).s (ew.n (cE x u)).s z.p.p u.p.p (Dm (ew.n (cE y z)) (ew.n (cE x u)) z.p u.p (ew.n (cE y z)).t z.p.mb (ew.n (cE y z)) (ew.n (cE y z)).rs (dX (ew.n (cE x u)) u.p/\True)))))))))) (by kernel_rfl) (by
 delta p5 av bB bR gO cE iC bO lT uM cD cQ pZ qt bW Dm gp bE cq bp cG kV mF Dn p7 HS Hi jI ag sP w8 ax p6 fA zR sM Dj
 try dsimp -iota -proj only
 rintro a ⟨ok,hw⟩;obtain⟨n,p,r,⟨nd,id,op,key⟩,g⟩:=a;have hw:nd=0:=hw;subst hw;refine⟨⟨n,p,r,⟨0,id,op,key⟩,g⟩,?_⟩
 and_intros<;>first|exact cz|exact ok|(intro h_;revert h_)|exact cA|skip
 intro b hb;refine⟨b,?_⟩
 and_intros<;>first|exact cz|exact hb|(intro h_;revert h_)|exact cA|skip)
theorem P9:ak (Y Tryz.prog).G.X 13 MC:=aT fF P8 ⟨VI,trivial⟩
def xh(now:Int)(l:qN)(sent ep:Int):Bool:=decide (ep<1)||decide (ep<l.top)||decide (sent<0)||decide (now<sent)||decide (20<=now-sent)
def rD(now:Int)(l:qN)(sent ep:Int):qN:=if xh now l sent ep=true then l else if ep=l.aS/\sent+20<=l.end_ then l else⟨ep,sent+20,ep⟩
structure E0 where
 l:qN
 now:Int
 sent:Int
 ep:Int
noncomputable def MD:cF where
 α:=E0
 β:=Unit
 m:=2
 m':=2
 pre:=fun a=>a.now<1000000000000000
 args:=fun a=>[.a (.ptr 0 0 0 0),.a (.int .i64 a.sent),.a (.int .i64 a.ep)]
 hp:=fun a=>[(0,V9 1 a.l)]
 ro:=fun a=>[(1,Xg a.now)]
 post:=fun _ _=>True
 res:=fun _ _=>.a .any
 cS:=fun a _=>[(0,V9 1 (rD a.now a.l a.sent a.ep))]
def zS(x:E0):=Exists (ay (uM x.l.aS (rD x.now x.l x.sent x.ep) x.l.end_ x.l.top True True))
def HT(x:E0):=ai (x.sent+(20:Int))/\(ai x.l.aS->vM (x.ep == x.l.aS) x.l.end_ (cO (x.sent+(20:Int)) x.l.end_) (zS x) (Exists (ay (uM x.ep (rD x.now x.l x.sent x.ep) (x.sent+(20:Int)) x.ep True True))))
theorem Qa:fnBody (Y Tryz.prog) [] 99 MD fun _=>[]:=fnBody.of (p :=
 ∀x:E0,x.now<(1000000000000000:Int)->aG (aA x.ep 1) (zS x) (ai x.l.top->gU (aA x.ep x.l.top) (zS x) (aA x.sent 0) (ai x.now->aG (aA x.now x.sent) (zS x) (aG (aA x.sent 0) (HT x) (ai x.now->aG (aA x.now x.sent) (HT x) (nc x.now x.sent (aG (cO 20 (x.now-x.sent)) (zS x) (HT x)))))))) (by kernel_rfl) (by
 delta aG ai aA uM aF vM gU HT ay cO zS ag nc
 rintro⟨l,now,sent,ep⟩ h;have h:now<1000000000000000:=h;dsimp only;have no:xh now l sent ep=true->rD now l sent ep=l:=fun e=>if_pos e;have yes:xh now l sent ep=false->ep=l.aS->sent+20<=l.end_->rD now l sent ep=l:=fun e h1 h2=>by unfold rD;rw[if_neg (by rw[e];decide),if_pos ⟨h1,h2⟩]
 have new:xh now l sent ep=false->¬(ep=l.aS/\sent+20<=l.end_)->rD now l sent ep=⟨ep,sent+20,ep⟩:=fun e h1=>by unfold rD;rw[if_neg (by rw[e];decide),if_neg h1]
 unfold xh at no yes new;simp only[Bool.or_eq_true,Bool.or_eq_false_iff,decide_eq_true_eq,decide_eq_false_iff_not,beq_iff_eq,beq_eq_false_iff_ne]at *;refine⟨fun c1=>⟨(),?_⟩,fun c1 _=>⟨fun c2=>⟨(),?_⟩,fun c2=>⟨fun c3=>⟨(),?_⟩,fun c3 _=>⟨fun c4=>⟨(),?_⟩,fun c4=>⟨fun c5=>absurd c5 c3,fun _ _=>⟨fun c6=>absurd c6 c4,fun _ _=>⟨by simp only[bQ];omega,fun c7=>⟨(),?_⟩,fun c7=>⟨by simp only[bQ];omega,fun _=>⟨fun c8 _=>⟨fun c9=>⟨(),?_⟩,fun c9=>⟨(),?_⟩⟩,fun c8=>⟨(),?_⟩⟩⟩⟩⟩⟩⟩⟩⟩⟩
 ·rw[no (by omega)];simp
 ·rw[no (by omega)];simp
 ·rw[no (by omega)];simp
 ·rw[no (by omega)];simp
 ·rw[no (by omega)];simp
 ·rw[yes ⟨⟨⟨⟨c1,c2⟩,c3⟩,c4⟩,c7⟩ c8 c9];simp
 ·rw[new ⟨⟨⟨⟨c1,c2⟩,c3⟩,c4⟩,c7⟩ fun h=>c9 h.2];simp
 ·rw[new ⟨⟨⟨⟨c1,c2⟩,c3⟩,c4⟩,c7⟩ fun h=>c8 h.1];simp)
theorem Qb:ak (Y Tryz.prog).G.X 99 MD:=aT fF Qa trivial
def Ur:LH:=.mk 60 [] []
def HU(n:de)(oC ep tick:Int):nW:=⟨2,oC,n.id,ep,tick,0,0,0,0,uN,0,false,fK,0⟩
def Zi(k:Int)(oC to ep tick id op:A)(key:ByteArray)(mem:A):List A:=[.lit .i64 k,oC,to,ep,tick,.lit .i64 0,.lit .i64 0,id,op,.str key,.lit .i64 0,.ff,.str uN,.str uN,.lit .i64 0,.ff,.bU,.bU,mem,.lit .i64 0,.bU]
theorem T0{α:Type}[Inhabited α]{l:List α}{i j:Nat}:gl (l.eraseIdx i) j=if j<i then gl l j else gl l (j+1):=by
 simp only[gl,List.getD,List.getElem?_eraseIdx];split<;>rfl
structure vU where
 l:List gX
 cap:Nat
 k:Nat
noncomputable def T1:cF where
 α:=vU
 β:=Nat
 m:=1
 m':=2
 pre:=fun a=>a.l.length<2000/\a.l.length<=a.cap/\a.k<a.l.length
 args:=fun a=>[.a (.slc 0 0 5 a.l.length a.cap),.a (.int .i64 a.k),.a (.int .i64 (a.k+1))]
 hp:=fun a=>[(0,.arr 134 C7 a.l.length (aa fh a.l))]
 ro:=fun _=>[]
 post:=fun a cap=>(a.l.eraseIdx a.k).length<=cap
 res:=fun a cap=>.a (.slc 1 0 5 (a.l.eraseIdx a.k).length cap)
 cS:=fun a _=>[(1,.arr 134 C7 (a.l.eraseIdx a.k).length (aa fh (a.l.eraseIdx a.k)))]
def kX(x:vU):List gX:=x.l.eraseIdx x.k
def HV(x:vU):Nat:=az x.k-0+(cD x.l-aU (af x.k+(1:Int)))
theorem T2:fnBody (Y Tryz.prog) [] 71 T1 fun _=>[]:=fnBody.of (p :=
 ∀x:vU,cD x.l<2000/\cD x.l<=x.cap/\x.k<cD x.l->dh (af (cD x.l)) x.cap/\yO (af x.k) 1 (az (cD x.l)) (aG (af x.k == af x.k+(1:Int)) (∃y:Nat,ia (cD x.l) (cD (kX x)) x.cap y 5 (aa fh x.l) (aa fh (kX x)) (cD (kX x)<=y) True) (dh (af x.k) x.cap/\dh (af x.k+(1:Int)) (cD x.l)/\0+(az x.k-0)<=cD x.l/\0+aU (af x.k+(1:Int))+(cD x.l-aU (af x.k+(1:Int)))<=cD x.l/\gq (az x.k-0) (cD x.l-aU (af x.k+(1:Int))) 48 (x.cap-0) fun y=>dh (af (cD x.l)) y/\dh (af (HV x)) (az (cD x.l))/\∃z:Nat,ia (HV x) (cD (kX x)) y z 5 (fun u=>yT (HV x) u (az (cD x.l)) (bt 0 (bt 0 (bt 0 (dV cV 0 [])))) fun v=>aX (aa fh x.l) 0 (az x.k-0) (fun w s=>aa fh x.l (0+aU (af x.k+(1:Int))+w) s) u v) (aa fh (kX x)) (cD (kX x)<=z) True))) (by kernel_rfl) (by
 delta aG aQ bB bt az gq af cV dZ cD aF dL aU bP bF ia kX ag HV dV yO dh yT
 try dsimp -iota -proj only
 rintro⟨l,cap,k⟩ ⟨h1,h2,h3⟩;dsimp only at *;have el:(l.eraseIdx k).length=l.length-1:=by rw[List.length_eraseIdx];simp[h3]
 have e1:((k:Int)+1).toNat=k+1:=by omega
 have e2:k+(l.length-(k+1))=l.length-1:=by omega
 simp only[Nat.zero_add,Int.toNat_natCast,e1,el,Nat.sub_zero,e2];refine⟨by omega,by omega,by omega,fun g=>(by exfalso;simp only[beq_iff_eq]at g;omega),fun _=>⟨by omega,by omega,by omega,by omega,by omega,fun c' g1 g2 g3=>⟨by omega,by omega,c',?_⟩⟩⟩;have hr:aj (l.length-1) 5 (fun i j=>if l.length-1<=i/\i<l.length-1+(l.length-(l.length-1))then(fh default).getD j (Value.tuple #[])else aX (aa fh l) 0 k (fun i j=>aa fh l (k+1+i) j) i j) (aa fh (l.eraseIdx k)):=⟨fun i hi j hj=>by
  rw[if_neg (by omega)];simp only[aX,aa,T0,Nat.zero_add];by_cases h:i<k
  ·simp only[h,if_true]
  ·simp only[h,if_false];rw[show k+1+(i-k)=i+1 by omega]⟩
 (and_intros<;>first|exact vv|skip))
theorem T3:ak (Y Tryz.prog).G.X 71 T1:=aT fF T2 trivial
structure p8 where
 n:de
 p:iV
 r:Rg.gf
 k:Nat
 val:ByteArray
 has:Bool
def p8.rd(a:p8):gX:=gl a.n.rs a.k
def ij(val:ByteArray)(has:Bool):ByteArray:=if has=true then val else uN
def N0(n:de)(x:gX):Bool:=match uK n.t x.tok with|some e=>e.good|none=>false
def gZ(x:gX)(val:ByteArray):aD:=⟨x.w.key,val,0,false⟩
def mI(n:de)(r:Rg.gf)(x:gX)(val:ByteArray)(has:Bool):Bool:=N0 n x&&(has&&(decide ((ij val has).size<=200)&&fN n r x.w.key))
def qu(n:de)(r:Rg.gf)(k:Nat)(val:ByteArray)(has:Bool):de:={ n with rs:=n.rs.eraseIdx k,t:=mM n.t (gl n.rs k).tok,s:=if mI n r (gl n.rs k) val has=true then V5 (Jv n.s (gZ (gl n.rs k) (ij val has)))else n.s }
def VJ(n:de)(r:Rg.gf)(k:Nat)(val:ByteArray)(has:Bool):ew:=mH (qu n r k val has) (gl n.rs k).w 0 (ij val has) has
def p8.q(a:p8):ew:=VJ a.n a.r a.k a.val a.has
structure N1(a:p8):Prop where
 at_:dX a.n a.p
 ring:a.r.L.length<100000/\0<a.r.L.length
 free:a.n.s.k.m.frozen=false
 k:a.k<a.n.rs.length
 room:a.n.rs.length<1000
 tok:bQ .i64 a.rd.tok
 key:dM a.rd.w.key=true
 val:a.val.size<=aq
 put:(ij a.val a.has).size<=200->tq a.n.s.fl (aC (some (gZ a.rd (ij a.val a.has)))).length
 dev:(ij a.val a.has).size<=200->(Jv a.n.s (gZ a.rd (ij a.val a.has))).d.calls<1000000000000/\(Jv a.n.s (gZ a.rd (ij a.val a.has))).d.n<100000
noncomputable def T4:cF where
 α:=p8
 β:=oN
 m:=24
 m':=31
 pre:=N1
 args:=fun a=>[.a (.ptr 0 0 0 0),.a (.int .i64 a.k),.a (.str a.val),.a (.bool a.has)]
 hp:=fun a=>JT (.ptr 21 0 0 0) .bU .bU 0 7 1 3 4 5 6 8 9 10 11 12 13 14 15 16 17 18 19 20 a.n a.p
 ro:=fun a=>Xq 1 2 21 22 23 a.n a.r
 post:=fun a b=>dX a.q.n b.p
 res:=fun a b=>.agg [.slc 29 0 21 a.q.ms.length b.mc,.slc 30 0 6 a.q.rs.length b.rc]
 cS:=fun a b=>JT (.ptr 21 0 0 0) .bU .bU 0 7 1 3 4 27 28 8 9 10 11 12 24 14 25 16 17 18 19 26 a.q.n b.p++[C8 29 a.q.ms,NW 30 a.q.rs]
noncomputable def Xt:List (Nat×cF):=[(71,T1),(72,Ts),(19,JR),(73,Sz),(169,jA),(54,NZ)]
def Wd(a:p8):An:=.mk 7 Unit (fun s _=>s.set 2 (.a (.str (ij a.val a.has)))) (fun _ _=>True) (fun _ _=>0) fun _=>.mk 60 [] [.Wc 8 999 true (.mk 60 [] [.mk 0 Bool (fun s b=>s.set 73 (.a (.bool b))) (fun _ b=>b=mI a.n a.r a.rd a.val a.has) (fun _ _=>0) fun _=>.mk 60 [] [.Wc 0 87 true Ur]])]
theorem gd.use{H:PH}{t:jk}(h:gd H t)(id:Int):gd H (mM t id):=by
 have hs:∀e∈(mM t id).l,e∈t.l:=fun e he=>(List.mem_filter.1 he).1;exact⟨fun e he=>h.at_ e (hs e he),(h.blk.sublist (List.filter_sublist.map _)),fun e he=>h.id e (hs e he),(h.ids.sublist (List.filter_sublist.map _)),(h.born.sublist (List.filter_sublist.map _)),h.last⟩
def rF.Av(p:rF)(b:qR):rF:={ p with H:=b.H,cy:=b.y,x:=b.x,xc:=b.cap }
theorem ow.put{s:kY}{p:rF}(h:ow s p){x:aD}{b:qR}(h1:iX (nk s.fl x) b)(h2:tn p.fl b):ow (V5 (Jv s x)) (p.Av b)/\CO p.H (bq p.cy) (bq p.jy) (p.Av b):=by
 have hj:∀z∈bq p.jy,b.H z=p.H z/\z∉bq b.y:=fun z hz=>h2 z (h.jl.dom z hz) (h.sep z hz);exact⟨⟨⟨h1.log,h1.idx⟩,h.jl.frame fun z hz=>(hj z hz).1,fun z hz=>(hj z hz).2,h.cap⟩,fun z hz hc hjz=>⟨(h2 z hz hc).1,(h2 z hz hc).2,hjz⟩⟩
theorem dX.Zj{n:de}{p:iV}(h:dX n p)(k:Nat){c:Nat}(hc:(n.rs.eraseIdx k).length<=c)(id:Int):dX { n with rs:=n.rs.eraseIdx k,t:=mM n.t id } { p with rc:=c } :=
 ⟨h.st,h.tok.use id,fun e he=>h.sep e ((List.mem_filter.1 he).1),h.wc,hc⟩
theorem Dp{x:gX}{v:ByteArray}(hk:dM x.w.key=true)(hv:v.size<=200):jQ (gZ x v)=true:=by
 simp[jQ,gZ,fH,hk,hv]
def N2(y z u:Bool)(v x:Prop):=qA y z (aG u v x) x
def p9(x:p8):gX:=gl x.n.rs (0+az x.k)
def ME(x:vS):Bool:=match uK x.t x.id with|some y=>y.good|none=>false
def MF(x:p8)(z:vU)(y:Nat)(u:Prop):=ax (aH x.n.id/\ax (bp (lT/\lT/\aV x.n.ws.length x.p.wc/\bR (cD (kX z)) (y=y)/\u)))
def MG(v:Bool)(y:vS)(x:p8)(z:vU)(f:Nat):=∃u:Bool,v=u/\bO (ME y) (ij x.val x.has=ij x.val x.has/\ag (bp (ax (aW x.k/\bO x.has (sI y.mb (mM y.t y.id)/\rB (gX.w (p9 x)) (aH (gX.tok (p9 x))/\x.p.p.H=x.p.p.H/\MF x z f (aH x.n.asked/\Dk x.n/\uO x.n (uP x.n.now x.r (aH (mM y.t y.id).last/\iC y.mb y.mb/\uS (kX z)/\kz x.n.s x.n.s x.p.p x.p.p (u=mI x.n x.r x.rd x.val x.has/\True))))))))))
def MH(y:p8)(s:vU)(f:Nat)(g:PH)(z:vS)(h:nX->oN->Prop):=∃x:nX,ag (zR (gX.w (p9 y)).node x.w (gX.w (p9 y)) ((0:Int)=x.err/\ij y.val y.has=x.val/\y.has=x.has/\ax (y.n.id=x.n.id/\ax (jI (pZ y.n.ws x.n y.p.wc x.p) (kX s) x.n f x.p y.n.asked ((bA x.w.key<=aq/\bA x.val<=aq)/\∀u:Nat×Nat,True->∃v:oN,HS (sN x) y.q u.fst v (qQ x) u.snd g z.mb (mM z.t z.id) (h x v))))))
def MI(z:ByteArray)(x:p8)(y:vU)(u:Nat):Unit->Prop:=ay (z=ij x.val x.has/\ag (bp (ax (aW x.k/\bO x.has (rB (gX.w (p9 x)) (aH (gX.tok (p9 x))/\x.p.p.H=x.p.p.H/\sI x.p.mb x.n.t/\MF x y u (cC x.n.asked x.n.t.last (iC x.p.mb x.p.mb) (Dk x.n/\uO x.n (uP x.n.now x.r (uS (kX y)/\kz x.n.s x.n.s x.p.p x.p.p (True/\True)))))))))))
theorem T5:fnBody (Y Tryz.prog) Xt 25 T4 fun a=>[(25,[],[.Wc 0 26 false (.mk 60 [] [Wd a]),Wd a])]:=fnBody.of (p :=
 ∀y:p8,N1 y->aG (aA (af y.k) 0) False (cO (af (cD y.n.rs)) (af y.k)=false/\dJ y.k (cD y.n.rs) (aP y.k/\∃z:vU,ag (cD y.n.rs=cD z.l/\y.p.rc=z.cap)/\bu y.k z.k/\af y.k+(1:Int)=af z.k+(1:Int)/\p7 z.l y.n.rs/\(cD z.l<2000/\cD z.l<=z.cap/\z.k<cD z.l)/\∀g:Nat,cD (kX z)<=g->aG (bC y.has) (Exists (MI cV y z g)) (Exists (MI y.val y z g))/\aI (ai (gX.tok (p9 y))->∃v:vS,ag (gX.tok (p9 y)=v.id/\xg y.n v.t y.p v.mb y.p.p.H v.H (gd v.H v.t/\ai v.id) (aI (N2 (ME v) y.has (cO (af (bA (ij y.val y.has))) 200) (∃f:yd,ag ((gX.w (p9 y)).key=f.key/\ax (y.n.id=f.n.id/\ax (jI (pZ y.n.ws f.n y.p.wc f.p) (kX z) f.n g f.p y.n.asked (sP y.n.le f.n y.n.now f.n.now (w9 y.n f.n (kV y.r f.r (uR f) (aI (MG (fN f.n f.r f.key) v y z g))))))))) (MG false v y z g)/\∀f:Bool,f=mI y.n y.r y.rd y.val y.has->aG f (∃u:Jg,ag ((gX.w (p9 y)).key=u.x.key/\ij y.val y.has=u.x.val/\(0:Int)=u.x.e/\false=u.x.gone/\nN y.n.s.cL u.m y.p.p.cy u.p y.n.s.d y.p.p.x y.p.p.xc (y.p.p.H=u.p.H) (GN u/\∀h:qR,iX (nk u.m u.x) h/\tn u.p h->aF (gK (jQ u.x) == (0:Int))/\kq (nk u.m u.x).d fun o=>MH y z g h.H v fun j i=>y.n.s.bM=y.q.n.s.bM/\Al (nk u.m u.x) y.q.n.s h i.p.p (fZ o) y.n.s.ms y.p.p.jc y.n.s.jL y.p.p.jy y.n.s.k y.p.p.kc (Dm j.n y.q.n j.p i.p (mM v.t v.id) v.mb y.n (kX z) (dX y.q.n i.p /\
 True))))) (MH y z g y.p.p.H v fun u h=>CN y.n.s y.q.n.s y.p.p h.p.p (Dm u.n y.q.n u.p h.p (mM v.t v.id) v.mb y.n (kX z) (dX y.q.n h.p/\True)))))))))) (by kernel_rfl) (by
 delta qA aG p5 av bB cC ai bR gO az aH iC aA cn af bO bA cV lT uM cD aF aU bn eo cQ pZ eM qt bW dK Dm gp aI rB bE N2 nN Al cq aV bp cG kV MG MH MI mF kf uP ay gK uH aP p7 aW HS kX cO uR jI ag p9 dJ sN sP w9 w8 kq uO qQ ax bu uS bC p6 fA xg zR sM Dk kz ME sI MF GN Dj
 try dsimp -iota -proj only
 intro a ok;obtain⟨n,p,r,k,val,has⟩:=a;obtain⟨hat,⟨r1,r2⟩,hfr,hk,hroom,htok,hkey,hval,hput,hdev⟩:=ok;obtain⟨x,hx⟩:∃x,x=gl n.rs k:=⟨_,rfl⟩
 have hrd:∀p r val has,p8.rd ⟨n,p,r,k,val,has⟩=x:=fun _ _ _ _=>hx.symm;simp only[hrd]at htok hkey hput hdev ⊢;have hz:0+((k:Nat):Int).toNat=k:=by omega
 have hkl:x.w.key.size<=aq:=by have:=(nQ hkey).2;unfold aq;omega
 dsimp only at *;rw[hz,<- hx];have hv:(ij val has).size<=aq:=by
  unfold ij;cases has
  ·exact Nat.zero_le _
  ·exact hval
 refine⟨fun c=>(by exfalso;have:=of_decide_eq_true c;omega),fun _=>⟨decide_eq_false (by omega),by omega,hk,by simp only[bQ];omega,vU.mk n.rs p.rc k,?_⟩⟩;have h2000:n.rs.length<2000:=by omega
 have hrc:=hat.rc
 and_intros<;>first|exact cz|exact h2000|exact hrc|exact hk|(intro h_;revert h_)|exact cA|skip
 intro c hc;dsimp only at hc ⊢;have hat1:=hat.Zj k hc x.tok;refine⟨⟨fun e=>⟨(),?_⟩,fun e=>⟨(),?_⟩⟩,fun _ _ _=>⟨vS.mk p.mb n.t p.p.H x.tok,?_⟩⟩
 ·have e:has=false:=by simpa using e
  have ev:ByteArray.mk #[]=ij val has:=by rw[e];rfl
  and_intros<;>first|exact cz|exact ev|(intro h_;revert h_)|exact cA|skip
 ·have e:has=true:=by simpa using e
  have ev:val=ij val has:=by rw[e];rfl
  and_intros<;>first|exact cz|exact ev|(intro h_;revert h_)|exact cA|skip
 and_intros<;>first|exact cz|exact hat.tok|exact htok.1|exact htok.2|(intro h_;revert h_)|exact cA|skip
 intro _ _;have eg:(match uK n.t x.tok with|some e=>e.good|none=>false)=N0 n x:=rfl;dsimp only;simp only[eg];refine⟨⟨fun g1=>⟨fun g2=>⟨fun g3=>⟨yd.mk { n with rs:=n.rs.eraseIdx k,t:=mM n.t x.tok } { p with rc:=c } r x.w.key,?_⟩,fun g3=>⟨false,?_⟩⟩,fun g2=>⟨false,?_⟩⟩,fun g1=>⟨false,?_⟩⟩,fun b hb=>⟨fun hbt=>?_,fun hbf=>?_⟩⟩
 ·and_intros<;>first|exact cz|exact r1|exact r2|exact hkl|exact hfr|(intro h_;revert h_)|exact cA|skip
  intro _ _;have g3:(ij val has).size<=200:=by have:=of_decide_eq_true g3;omega
  have e:fN n r x.w.key=mI n r x val has:=by unfold mI;rw[g1,g2,<- g2,decide_eq_true g3];simp[g2]
  refine⟨fN n r x.w.key,?_⟩
  and_intros<;>first|exact cz|exact e|(intro h_;revert h_)|exact cA|skip
 ·have g3:decide ((ij val has).size<=200)=false:=decide_eq_false (by have:=of_decide_eq_false g3;omega);have e:false=mI n r x val has:=by unfold mI;rw[g3];simp
  and_intros<;>first|exact cz|exact e|(intro h_;revert h_)|exact cA|skip
 ·have e:false=mI n r x val has:=by unfold mI;rw[g2];simp
  and_intros<;>first|exact cz|exact e|(intro h_;revert h_)|exact cA|skip
 ·have e:false=mI n r x val has:=by unfold mI;rw[g1];simp
  and_intros<;>first|exact cz|exact e|(intro h_;revert h_)|exact cA|skip
 ·have hf:mI n r x val has=true:=hb.symm.trans hbt;have hsz:(ij val has).size<=200:=by
   unfold mI at hf;simp only[Bool.and_eq_true,decide_eq_true_eq]at hf;exact hf.2.2.1
  have hpo:=Dp (x:=x) hkey hsz;have eN:p8.q ⟨n,p,r,k,val,has⟩=mH { n with rs:=n.rs.eraseIdx k,t:=mM n.t x.tok,s:=V5 (Jv n.s (gZ x (ij val has))) } x.w 0 (ij val has) has:=by
   unfold p8.q VJ qu;dsimp only;rw[<- hx,if_pos hf]
  have hfl:iX n.s.fl p.p.fl:=hat.st.fl;have hpu:=hput hsz;have hpu:jQ (gZ x (ij val has))=true->tq n.s.fl (aC (some (gZ x (ij val has)))).length:=fun _=>hpu;obtain⟨hq1,hq2⟩:=hdev hsz;refine⟨Jg.mk n.s.fl p.p.fl (gZ x (ij val has)),?_⟩
  and_intros<;>first|exact cz|exact hfl|exact hpu|(intro h_;revert h_)|exact cA|skip
  rintro b2 ⟨q1,q2⟩;have he:((if jQ (gZ x (ij val has))=true then(0:Int)else 1) == 0)=true:=by rw[if_pos hpo];rfl
  refine⟨he,(nk n.s.fl (gZ x (ij val has))).d,?_⟩
  and_intros<;>first|exact cz|exact hq1|exact hq2|(intro h_;revert h_)|exact cA|skip
  intro _ _;obtain⟨w1,w2⟩:=hat1.st.put q1 q2;have hat2:=hat1.store w1 w2;refine⟨nX.mk { n with rs:=n.rs.eraseIdx k,t:=mM n.t x.tok } { p with rc:=c } x.w 0 (ij val has) has,?_⟩
  and_intros<;>first|exact cz|exact hkl|exact hv|(intro h_;revert h_)|exact cA|skip
  rintro⟨mc,rc⟩ _;refine⟨oN.mk { p with rc:=c,p:=p.p.Av b2 } 0 mc rc,?_⟩;dsimp only;rw[eN];dsimp only[mH]
  and_intros<;>first|exact cz|exact hat2|(intro h_;revert h_)|exact cA|skip
 ·have hf:mI n r x val has=false:=hb.symm.trans hbf;have eN:p8.q ⟨n,p,r,k,val,has⟩=mH { n with rs:=n.rs.eraseIdx k,t:=mM n.t x.tok } x.w 0 (ij val has) has:=by
   unfold p8.q VJ qu;dsimp only;rw[<- hx,if_neg (by rw[hf];decide)]
  refine⟨nX.mk { n with rs:=n.rs.eraseIdx k,t:=mM n.t x.tok } { p with rc:=c } x.w 0 (ij val has) has,?_⟩
  and_intros<;>first|exact cz|exact hkl|exact hv|(intro h_;revert h_)|exact cA|skip
  rintro⟨mc,rc⟩ _;refine⟨oN.mk { p with rc:=c } 0 mc rc,?_⟩;dsimp only;rw[eN];dsimp only[mH]
  and_intros<;>first|exact cz|exact hat1|(intro h_;revert h_)|exact cA|skip)
theorem T6:ak (Y Tryz.prog).G.X 25 T4:=aT fF T5 ⟨T3,Tu,Dh,SB,iz,JQ,trivial⟩
def uV(n:de)(ep:Int):MetaM:=⟨n.s.k.m.bM,ep,0,false⟩
def T7(n:de)(ep tick:Int):de:={ n with s:=L7 (DL n.s) (uV n ep),le:=rD n.now ⟨0,0,0⟩ tick ep,t:=gW n.t x9,ws:=Uq }
structure rE where
 n:de
 p:iV
 oC:Int
 ep:Int
 tick:Int
 l:List Int
 cap:Nat
def rE.q(a:rE):de:=T7 a.n a.ep a.tick
structure JW where
 p:iV
 c1:Nat
 c2:Nat
def s8(ep:Int)(l:List Int)(c1 c2:Nat):Rg.gf:=⟨ep,l,c1,Rg.mT l,c2⟩
structure N3(a:rE):Prop where
 at_:dX a.n a.p
 msg:JP (HU a.n a.oC a.ep a.tick)
 mem:Rg.kT a.l=true
 ws:a.n.ws=[]
 ep:1<=a.ep/\a.ep<=1099511627776/\a.n.s.k.m.aS<a.ep/\a.n.s.k.m.ready=0
 now:a.n.now<1000000000000000
 xL:a.n.t.l.length<1000
 fl:tq a.n.s.fl 1/\(ig a.n.s.fl [2]).d.n<100000/\(ig a.n.s.fl [2]).d.calls<900000000000
 k:a.n.s.k.s.at_+1<(DL a.n.s).d.n/\a.n.s.k.s.slot<=1/\(DL a.n.s).d.n<100000/\(DL a.n.s).d.calls<900000000000/\0<=a.n.s.k.s.eW/\a.n.s.k.s.eW<1000000000000
 save:gj a.n.s.k (uV a.n a.ep)=true
theorem ow.YK{s s':kY}{p:rF}(h:ow s p){b:qR}(h1:iX s'.fl b)(h2:tn p.fl b)(hj:s'.jL=s.jL)(hm:s'.ms=s.ms):ow s' (p.Av b)/\CO p.H (bq p.cy) (bq p.jy) (p.Av b):=by
 have hh:∀z∈bq p.jy,b.H z=p.H z/\z∉bq b.y:=fun z hz=>h2 z (h.jl.dom z hz) (h.sep z hz);exact⟨⟨⟨h1.log,h1.idx⟩,by rw[hj];exact h.jl.frame fun z hz=>(hh z hz).1,fun z hz=>(hh z hz).2,by rw[hm];exact h.cap⟩,fun z hz hc hjz=>⟨(h2 z hz hc).1,(h2 z hz hc).2,hjz⟩⟩
theorem Qc{x:Ix.cM}(h:Ix.Has x []):Ix.keysOf x.t=[]:=by
 have:=h.perm.length_eq;unfold Ix.keysOf;rw[List.eq_nil_of_length_eq_zero this];rfl
noncomputable def T8:cF where
 α:=rE
 β:=JW
 m:=22
 m':=33
 pre:=N3
 args:=fun a=>[.a (.ptr 0 0 0 0),.agg (Zi 2 (.int .i64 a.oC) (.int .i64 a.n.id) (.int .i64 a.ep) (.int .i64 a.tick) (.lit .i64 0) (.lit .i64 0) uN (.slc 21 0 1 a.l.length a.cap))]
 hp:=fun a=>JT .nil .bU .bU 0 7 1 3 4 5 6 8 9 10 11 12 13 14 15 16 17 18 19 20 a.n a.p++[(1,V9 2 a.n.le)]
 ro:=fun a=>[(2,Xg a.n.now),(21,.arr 3 [.int .i64] a.l.length (aa Rg.encI a.l))]
 post:=fun a b=>dX a.q b.p
 res:=fun _ _=>.agg [.slc 31 0 21 0 0,.slc 32 0 6 0 0]
 cS:=fun a b=>JT (.ptr 22 0 0 0) .bU .bU 0 7 1 3 4 26 6 8 9 10 11 27 28 14 15 16 17 18 29 30 a.q b.p++[(1,V9 2 a.q.le)]++TU 22 23 24 (s8 a.ep a.l b.c1 b.c2)
noncomputable def Xu:List (Nat×cF):=[(55,TQ),(56,Rg.AE),(99,MD),(142,L6),(100,Hg),(151,Rg.Mx),(152,Rg.Mt),(194,Ix.Tk),(107,Hw)]
def Aw(x:rE)(y:JW):Rg.gf:=s8 x.ep x.l y.c1 y.c2
def MJ(z:rE):=ai z.ep->ai z.n.s.k.m.aS->(z.ep == z.n.s.k.m.aS)=false/\(ai z.n.s.k.m.ready->aF (z.ep != z.n.s.k.m.ready)/\∃v:JB,ax (ax (tf z.n.s.cL v.m.L z.p.p.cy.lv v.p.y.lv (fV z.n.s.d v.m.d (xV z.p.p.x v.p.x z.p.p.xc v.p.cap (z.p.p.H=v.p.H/\Hv v/\∀h:qR,iX (jd v.m) h/\tn v.p h->ai z.n.s.k.m.bM->∃w:Hf,ag (CM z.n.s.k.m.bM w.m z.ep (0=0) (CL z.n.s.k w.k z.p.p.kc w.cap (fV (jd v.m).d w.d (zD w/\∀o:Nat,True->gU (aA z.ep 1) False (aA 1099511627776 z.ep) (Exists (sL z.l z.cap fun r=>aI (bC (Rg.kT r.l)=false/\Exists (sL z.l z.cap fun c=>∀A:Nat,True->Exists (sL z.l z.cap fun B=>∀C:Nat,True->∃i:Ix.uA,ag (xV h.x i.x h.cap i.cap (bI i.x<100000/\∀E:Nat,True->af (aZ (Ix.keysOf i.x.t))=(0:Int)/\∃u:JE,ag (xg z.n u.t z.p u.mb h.H u.H (gd u.H u.t/\u.t.l.length<100000) (∀j:PH×Int,(wV j u.t x9 fun D=>u.H D)->af z.n.ws.length=(0:Int)/\(ai z.tick->ai z.ep->∃f:E0,ag (z.tick=f.sent/\z.ep=f.ep/\uM 0 f.l 0 0 (z.n.now=f.now) (f.now<(1000000000000000:Int)/\aI (∃g:JW,ag (0=0)/\ag (0=0)/\uU j.fst g.p u.mb (gW u.t x9) z.q z.n (ax (jI (0=z.q.ws.length/\0=g.p.wc) z.n.rs z.q z.p.rc g.p z.n.asked ((gW u.t x9).last=z.q.t.last/\iC u.mb g.p.mb/\z.q.ws.length=0/\p7 z.q.rs z.n.rs/\sP (rD f.now f.l f.sent f.ep) z.q z.ep (Rg.gf.e (Aw z g)) (sM c.l (Aw z g) A (Rg.mT B.l) C (ax (ag (z.n.s.bM=z.q.s.bM /\
 Al (jd v.m) z.q.s h g.p.p (gV w.k w.d w.m) z.n.s.ms z.p.p.jc z.n.s.jL z.p.p.jy (mD w.k w.m) o (dX z.q g.p/\True)))))))))))))))))))))))))))))))
theorem T9:fnBody (Y Tryz.prog) Xu 16 T8 fun _=>[(16,[],[.XG 4 5 0 Ur,.YJ 0 [(22,false),(48,true)] (.mk 60 [] [.XG 4 5 0 Ur])]),(57,[],[.Wc 0 28 false Ur]),(98,[],[.YJ 0 [(20,false),(40,true)] (.mk 60 [] [.Wc 0 40 true (.mk 60 [] [.XG 15 85 0 Ur]),.XG 15 85 0 Ur]),.XG 15 85 0 Ur]),(104,[],[.XG 2 15 0 (.mk 60 [] [.Wc 0 30 false Ur]),.Wc 0 30 false Ur]),(103,[],[.Wc 0 15 false Ur])]:=fnBody.of (p :=
 ∀x:rE,N3 x->ai x.n.id->ai x.n.id->aG (x.n.id != x.n.id) False (∃y:EW,HN 2 y.m x.oC x.n.id x.ep x.tick 0 uN 0 uN uN (fM y.m.item.gone (cG x.l y.l x.cap y.cap) ((0:Int)=y.m.base/\bW y.l x.l Rg.encI/\(JP y.m/\(y.l=[]\/aF (Rg.kT y.l)))/\aI (bC (qP y)=false/\x.n.s.k.m.ready=(0:Int)/\Exists (sL x.l x.cap fun z=>aI (aG (Rg.kT z.l) (me x.ep (aA x.ep x.n.s.k.m.aS) False (aG (x.ep == x.n.s.k.m.aS) (MJ x) (MJ x))) (∃u:JW,ag (0=0)/\ag (0=0)/\uU x.p.p.H u.p x.p.mb x.n.t x.q x.n False)))))))) (by kernel_rfl) (by
 delta aG av bB ai bR gO iC bI aA af aZ bO bA lT uM cD aF bn fM cQ qt bW gU gp aI Aw Al cq bp cG MJ kf HN pW p7 jI sL ag uU qP sP ax zD bC fA xg wV sM Hv me CM
 try dsimp -iota -proj only
 intro a ok;obtain⟨n,p,oC,ep,tick,l,cap⟩:=a;obtain⟨hat,hm,hl,hws,⟨e1,e2,e3,e4⟩,hnow,hfew,⟨f1,f2,f3⟩,⟨k1,k2,k3,k4,k5,k6⟩,hsv⟩:=ok;dsimp only at *;have ho:l=[]\/Rg.kT l=true:=.inr hl;have hl1:l.length<100000:=by have:=Rg.Db hl;omega
 have hz:(!decide ((HU n oC ep tick).key.size<=40))=false:=rfl;have hne:(ep == n.s.k.m.aS)=false:=by rw[beq_eq_false_iff_ne];omega
 refine fun _ _=>⟨fun c=>by simp at c,fun _=>⟨EW.mk (HU n oC ep tick) l cap,?_⟩⟩
 and_intros<;>first|exact cz|exact hm|exact ho|(intro h_;revert h_)|exact cA|skip
 intro _ _;refine⟨hz,e4,⟨l,cap⟩,?_⟩
 and_intros<;>first|exact cz|exact hl1|(intro h_;revert h_)|exact cA|skip
 intro _ _;refine⟨fun _ _=>⟨fun c=>by(have:=of_decide_eq_true c;omega),fun _ _=>⟨fun c=>absurd (c.symm.trans hne) (by decide),fun _ _ _=>⟨hne,fun _=>⟨?_,JB.mk n.s.fl p.p.fl,?_⟩⟩⟩⟩,fun c=>by(rw[hl]at c;cases c)⟩
 ·rw[e4];simp;omega
 have hfl:iX n.s.fl p.p.fl:=hat.st.fl;have f4:(ig n.s.fl [2]).d.calls<1000000000000:=by omega
 and_intros<;>first|exact cz|exact hfl|exact f1|exact f2|exact f4|(intro h_;revert h_)|exact cA|skip
 rintro b ⟨b1,b2⟩ _;refine⟨Hf.mk n.s.k p.p.kc (jd n.s.fl).d (uV n ep),?_⟩
 and_intros<;>first|exact cz|exact k1|exact k2|exact k3|exact k4|exact k5|exact k6|(intro h_;revert h_)|exact cA|skip
 intro kc _;have hN:(!Rg.kT l)=false:=by rw[hl];rfl
 refine⟨fun c=>by(have:=of_decide_eq_true c;omega),fun _=>⟨fun c=>by(have:=of_decide_eq_true c;omega),fun _=>⟨⟨l,cap⟩,?_⟩⟩⟩
 and_intros<;>first|exact cz|exact hl1|(intro h_;revert h_)|exact cA|skip
 intro _ _;refine⟨hN,⟨l,cap⟩,?_⟩
 and_intros<;>first|exact cz|exact hl1|(intro h_;revert h_)|exact cA|skip
 intro c1 _;refine⟨⟨l,cap⟩,?_⟩
 and_intros<;>first|exact cz|exact hl1|(intro h_;revert h_)|exact cA|skip
 intro c2 _;have hks:=Qc b1.idx;have hlen:b.x.t.length<100000:=by have:=b1.idx.inv.hi;omega
 refine⟨Ix.uA.mk b.x b.cap uN,?_⟩
 and_intros<;>first|exact cz|exact hlen|(intro h_;revert h_)|exact cA|skip
 intro _ _;have hk0:((Ix.keysOf b.x.t).length:Int)=0:=by rw[hks];rfl
 obtain⟨w1,w2⟩:=hat.st.YK (s':=DL n.s) b1 b2 rfl rfl;have w3:ow (L7 (DL n.s) (uV n ep)) { p.p.Av b with kc:=kc }:=⟨⟨w1.fl.log,w1.fl.idx⟩,w1.jl,w1.sep,w1.cap⟩
 have hat1:=hat.store w3 w2;have hf2:n.t.l.length<100000:=by omega
 have htk:gd b.H n.t:=hat1.tok;refine⟨hk0,JE.mk p.mb n.t b.H,?_⟩
 and_intros<;>first|exact cz|exact htk|exact hf2|(intro h_;revert h_)|exact cA|skip
 rintro⟨H1,cnt⟩ ⟨q1,q2⟩;have hat2:=hat1.Wa q1 q2;have hw0:(n.ws.length:Int)=0:=by rw[hws];rfl
 refine⟨hw0,fun _ _=>⟨E0.mk ⟨0,0,0⟩ n.now tick ep,?_⟩⟩
 and_intros<;>first|exact cz|exact hnow|(intro h_;revert h_)|exact cA|skip
 intro _ _;refine⟨JW.mk ⟨{ p.p.Av b with kc:=kc,H:=H1 },p.mb,0,p.rc⟩ c1 c2,?_⟩;have hat3:dX (T7 n ep tick) ⟨{ p.p.Av b with kc:=kc,H:=H1 },p.mb,0,p.rc⟩:=⟨hat2.st,hat2.tok,hat2.sep,Nat.le_refl 0,hat2.rc⟩
 have eN:rE.q ⟨n,p,oC,ep,tick,l,cap⟩=T7 n ep tick:=rfl;rw[eN];dsimp only
 and_intros<;>first|exact cz|exact hat3|(intro h_;revert h_)|exact cA|skip)
theorem Ua:ak (Y Tryz.prog).G.X 16 T8:=aT fF T9 ⟨TS,Rg.ql,Qb,PC,EG,Rg.P5,Rg.PX,Ix.Tm,Mg,trivial⟩
structure mJ(n:de)(k:Nat)(get:ByteArray->Option aD)(cb jb:Nat):Prop where
 one:∃c es,dI n.s c es cb jb/\gE es=get/\c<=2000+100*k
 lt:k<100
 met:n.s.k.m.ready=0/\n.s.k.m.frozen=false/\0<=n.s.k.m.bM/\n.s.k.m.bM<1000/\0<=n.s.k.m.aS/\n.s.k.m.aS<1000
 id:1<=n.id/\n.id<=5
 now:0<=n.now/\n.now<1000
 num:0<=n.asked/\n.asked<=k/\0<=n.t.last/\n.t.last<=k/\n.t.l.length<=k/\n.ws.length<=k/\n.rs.length<=k
 rs:∀x∈n.rs,dM x.w.key=true/\0<=x.tok/\x.tok<=k
theorem dI.wide{s:kY}{n:Nat}{es:List (Option aD)}{cb jb:Nat}(h:dI s n es cb jb){cb':Nat}(hc:cb<=cb'):dI s n es cb' jb:=by
 obtain⟨cr,h1,h2⟩:=h.fl;exact⟨⟨cr,h1,by omega⟩,h.jl,h.jb,h.ms,h.nx,h.W8,h.dn,h.keep,h.bM⟩
theorem mJ.make{id now:Int}{d:bw}(h1:1<=id/\id<=5)(h2:0<=now/\now<1000)(hn:192<=d.n/\d.n<1500)(hc:d.calls=0)(H:PH):Hy.pre ⟨id,now,d,H⟩/\mJ (uL ⟨id,now,d,H⟩) 0 (fun _=>none) 0 0:=by
 obtain⟨m1,m2,m3,m4,_⟩:=AO (c:=0) (show 192<=d.n/\d.n<3000 by omega) (by omega) (by omega) H;have hm:(uL ⟨id,now,d,H⟩).s.k.m=⟨1,0,0,false⟩:=m3;refine⟨⟨h1.1,h1.2,m1⟩,⟨_,_,m2,rfl,by omega⟩,by omega,by rw[hm];decide,h1,h2,?_,fun x hx=>by cases hx⟩;exact⟨Int.le_refl 0,Int.le_refl 0,Int.le_refl 0,Int.le_refl 0,Nat.le_refl 0,Nat.le_refl 0,Nat.le_refl 0⟩
theorem Xv:EV 0:=⟨Int.le_refl 0,by decide⟩
theorem Ub{n:de}{oC ep tick:Int}(hf:0<=oC/\oC<=5/\oC≠n.id)(hid:1<=n.id/\n.id<=5)(he:0<=ep/\ep<1000)(ht:0<=tick/\tick<1000):JP (HU n oC ep tick) :=
 ⟨(show(1:Int)<=2/\(2:Int)<=14 by omega),hf.2.2,⟨hf.1,hf.2.1⟩,(show 0<=n.id/\n.id<=5 by omega),(show 0<=ep/\ep<=_ by omega),(show 0<=tick/\tick<=_ by omega),Xv,Xv,Xv,(show(0:Int)<=0/\(0:Int)<=1073741824 by omega),(show(0:Int)<=0/\(0:Int)<=2 by omega),(show(0:Int)<=0/\(0:Int)<=10 by omega),.inl rfl⟩
theorem mJ.gr{n:de}{p:iV}{k:Nat}{get:ByteArray->Option aD}{cb jb:Nat}(h:mJ n k get cb jb)(hat:dX n p){oC ep tick:Int}{l:List Int}{cap:Nat}(hf:0<=oC/\oC<=5/\oC≠n.id)(he:n.s.k.m.aS<ep/\ep<1000)(ht:0<=tick/\tick<1000)(hl:Rg.kT l=true)(hw:n.ws=[])(hfit:cb+9<=378)(hk:k<99) :
 N3 ⟨n,p,oC,ep,tick,l,cap⟩/\mJ (T7 n ep tick) (k+1) (fun _=>none) (cb+9) jb/\(T7 n ep tick).s.k.m.aS=ep:=by
 obtain⟨c,es,o1,o2,o3⟩:=h.one;have hn:=h.num;have hm:=h.met;have hid:=h.id;have hnw:=h.now;obtain⟨w1,w2,w3,w4⟩:=o1.Xe (by omega) hfit;have hms:mL (uV n ep)=true:=by
  have a1:AI n.s.k.m.bM=true:=by simp only[AI,Bool.and_eq_true,decide_eq_true_eq];omega
  have a2:AI ep=true:=by simp only[AI,Bool.and_eq_true,decide_eq_true_eq];omega
  unfold mL uV;dsimp only;rw[a1,a2];rfl
 have hsv:gj n.s.k (uV n ep)=true:=by
  unfold gj;rw[hms,show decide ((uV n ep).bM<n.s.k.m.bM)=false from decide_eq_false (by show ¬(n.s.k.m.bM<n.s.k.m.bM);omega),show decide ((uV n ep).aS<n.s.k.m.aS)=false from decide_eq_false (by show ¬(ep<n.s.k.m.aS);omega)];rfl
 obtain⟨s1,s2,s3,s4⟩:=w1.save (m:=uV n ep) hsv (by show n.s.k.m.bM=n.s.bM;exact o1.bM.symm) (by omega);obtain⟨cr,hfl,hcb⟩:=w1.fl;have hcl:(DL n.s).d.calls<=c+21:=hfl.one.log.calls;have hcl2:(DL n.s).d.calls=(ig n.s.fl [2]).d.calls+1:=rfl;have hdn:=w1.dn;have hkp:=o1.keep;have hms2:(T7 n ep tick).s.k.m=uV n ep:=s2;refine⟨⟨hat,Ub (n:=n) (oC:=oC) (ep:=ep) (tick:=tick) hf hid ⟨by omega,by omega⟩ (by omega),hl,hw,by dsimp only;omega,by dsimp only;omega,by dsimp only;omega,⟨w2,w3,by dsimp only;omega⟩,⟨by have:=hkp.at_;dsimp only;omega,hkp.slot,by dsimp only;omega,by dsimp only;omega,by have:=hkp.eW;dsimp only;omega,by have:=hkp.eW;dsimp only;omega⟩,hsv⟩,⟨⟨_,_,s1,by funext q;exact VC _ q,by omega⟩,by omega,by rw[hms2];exact⟨rfl,rfl,hm.2.2.1,hm.2.2.2.1,by show 0<=ep;omega,he.2⟩,hid,hnw,⟨hn.1,by show n.asked<=_;push_cast;omega,hn.2.2.1,by show n.t.last<=_;push_cast;omega,by show(gW n.t x9).l.length<=_;unfold gW;rw[List.length_map];omega,Nat.zero_le _,by show n.rs.length<=_;omega⟩,fun x hx=>by have:=h.rs x hx;exact⟨this.1,this.2.1,by push_cast;omega⟩⟩,by rw[hms2];rfl⟩
theorem E3{k:ByteArray}(h:k.size<64):(aC (some (iB k))).length=k.size+5:=CT (x:=iB k) h (by show(0:Nat)<64;omega) rfl
theorem Dq{s:Nat}(h:s<63)(k:ByteArray):(dF ((s:Int)+1) k).length=k.size+1:=by
 unfold dF;rw[List.length_append,iO,CS (by omega)];omega
theorem mJ.ask{n:de}{p:iV}{r:Rg.gf}{w:nV}{k:Nat}{get:ByteArray->Option aD}{cb jb:Nat}(h:mJ n k get cb jb)(hat:dX n p)(hr:r.L.length<100000/\0<r.L.length)(hk:w.key.size<=aq)(hkill:w.op=2->dM w.key=true->cb+(w.key.size+13)<=378/\jb+(w.key.size+9)<=378):vT ⟨n,p,r,w,get w.key⟩:=by
 obtain⟨c,es,o1,o2,o3⟩:=h.one;subst o2;have hn:=h.num;have hm:=h.met;have hkk:=h.lt;have hb:=o1.bM;obtain⟨g1,g2⟩:=o1.get w.key;refine⟨hat,hr,hk,hm.2.1,by dsimp only;omega,by dsimp only;omega,by dsimp only;omega,g1,g2,fun h1 h2=>?_⟩;have h2:dM w.key=true:=h2;obtain⟨f1,f2⟩:=hkill h1 h2;have hl:=o1.len;have hks:=nQ h2;have hA:fq [w.key]=true:=by simp[fq,h2]
 have h0:∀i,i < [w.key].length->gl [w.key] i=w.key:=fun i hi=>by
  have:i=0:=by simp at hi;omega
  subst this;rfl
 have hwj:∀i,i < [w.key].length->8+(dF (n.s.ms.length+i+1) (gl [w.key] i)).length<=w.key.size+9:=fun i hi=>by
  have:i=0:=by simpa using hi
  subst this;have e:((n.s.ms.length:Int)+((0:Nat):Int)+1)=(n.s.ms.length:Int)+1:=by omega
  rw[h0 0 (by simp),e,Dq (s:=n.s.ms.length) (by omega) w.key];omega
 have hwc:∀i,i < [w.key].length->8+(aC (some (iB (gl [w.key] i)))).length<=w.key.size+13:=fun i hi=>by(rw[h0 i hi,E3 (k:=w.key) (by omega)];exact(show 8+(w.key.size+5)<=w.key.size+13 by omega))
 have hK:=(o1.kill (ks:=[w.key]) hA (wj:=w.key.size+9) (wc:=w.key.size+13) hwj hwc (by omega) (by rw[List.length_singleton];omega) (by rw[List.length_singleton];omega) (by rw[List.length_singleton];omega)).1;exact hK p.p 1
theorem mJ.kill{n:de}{key:ByteArray}{k:Nat}{get:ByteArray->Option aD}{cb jb:Nat}(h:mJ n k get cb jb)(hk:dM key=true)(f1:cb+(key.size+13)<=378)(f2:jb+(key.size+9)<=378)(h99:k<99):mJ (rC n key) (k+1) (AJ get key none) (cb+(key.size+13)) (jb+(key.size+9))/\(rC n key).s.k=n.s.k:=by
 obtain⟨c,es,o1,o2,o3⟩:=h.one;subst o2;have hn:=h.num;have hl:=o1.len;have hks:=nQ hk;have hA:fq [key]=true:=by simp[fq,hk]
 have h0:∀i,i < [key].length->gl [key] i=key:=fun i hi=>by
  have:i=0:=by simp at hi;omega
  subst this;rfl
 have hwj:∀i,i < [key].length->8+(dF (n.s.ms.length+i+1) (gl [key] i)).length<=key.size+9:=fun i hi=>by
  have:i=0:=by simpa using hi
  subst this;have e:((n.s.ms.length:Int)+((0:Nat):Int)+1)=(n.s.ms.length:Int)+1:=by omega
  rw[h0 0 (by simp),e,Dq (s:=n.s.ms.length) (by omega) key];omega
 have hK:=(o1.kill hA (wj:=key.size+9) (wc:=key.size+13) hwj (fun i hi=>by rw[h0 i hi,E3 (k:=key) (by omega)];omega) (by omega) (by rw[List.length_singleton];omega) (by rw[List.length_singleton];omega) (by rw[List.length_singleton];omega)).2;have hk2:(rC n key).s.k=n.s.k:=hK.k.1;have h1:=hK.one;simp only[List.length_singleton,Nat.mul_one,List.map_cons,List.map_nil]at h1;refine⟨⟨⟨_,_,h1,?_,by omega⟩,by omega,by rw[hk2];exact h.met,h.id,h.now,⟨hn.1,by show n.asked<=_;push_cast;omega,hn.2.2.1,by show n.t.last<=_;push_cast;omega,by show(gW n.t _).l.length<=_;unfold gW;rw[List.length_map];omega,by show n.ws.length<=_;omega,by show n.rs.length<=_;omega⟩,fun x hx=>by have:=h.rs x hx;exact⟨this.1,this.2.1,by push_cast;omega⟩⟩,hk2⟩;rw[vt];rfl
theorem mJ.read{n:de}{w:nV}{b:Nat}{k:Nat}{get:ByteArray->Option aD}{cb jb:Nat}(h:mJ n k get cb jb)(hk:dM w.key=true)(h99:k<99):mJ (lU n w b) (k+1) get cb jb:=by
 obtain⟨c,es,o1,o2,o3⟩:=h.one;have hn:=h.num;refine⟨⟨c,es,o1,o2,by omega⟩,by omega,h.met,h.id,h.now,⟨hn.1,by show n.asked<=_;push_cast;omega,by show 0<=n.t.last+1;omega,by show n.t.last+1<=_;push_cast;omega,by show(n.t.l++[_]).length<=_;rw[List.length_append,List.length_singleton];omega,by show n.ws.length<=_;omega,by show(n.rs++[_]).length<=_;rw[List.length_append,List.length_singleton];omega⟩,fun x hx=>?_⟩;rcases List.mem_append.1 hx with hx|hx
 ·have:=h.rs x hx;exact⟨this.1,this.2.1,by push_cast;omega⟩
 ·rw[List.mem_singleton]at hx;subst hx;exact⟨hk,by show 0<=n.t.last+1;omega,by show n.t.last+1<=_;push_cast;omega⟩
theorem mJ.red{n:de}{p:iV}{r:Rg.gf}{i:Nat}{val:ByteArray}{has:Bool}{k:Nat}{get:ByteArray->Option aD}{cb jb:Nat}(h:mJ n k get cb jb)(hat:dX n p)(hr:r.L.length<100000/\0<r.L.length)(hi:i<n.rs.length)(hv:val.size<64)(hfit:cb+((gl n.rs i).w.key.size+val.size+13)<=378)(h99:k<99) :
 N1 ⟨n,p,r,i,val,has⟩/\mJ (qu n r i val has) (k+1) (if mI n r (gl n.rs i) val has=true then AJ get (gl n.rs i).w.key (some (gZ (gl n.rs i) (ij val has)))else get) (cb+((gl n.rs i).w.key.size+val.size+13)) jb/\(qu n r i val has).s.k=n.s.k:=by
 obtain⟨c,es,o1,o2,o3⟩:=h.one;subst o2;have hn:=h.num;have hmem:gl n.rs i∈n.rs:=by rw[bN hi];exact List.getElem_mem _
 obtain⟨x1,x2,x3⟩:=h.rs _ hmem;obtain⟨x,hx⟩:∃x,x=gl n.rs i:=⟨_,rfl⟩
 rw[<- hx]at x1 x2 x3 hfit ⊢;have hks:=nQ x1;have hvs:(ij val has).size<=val.size:=by
  unfold ij;cases has
  ·exact Nat.zero_le _
  ·exact Nat.le_refl _
 have hlen:(aC (some (gZ x (ij val has)))).length=x.w.key.size+(ij val has).size+5:=CT (x:=gZ x (ij val has)) (by show x.w.key.size<64;omega) (by show(ij val has).size<64;omega) rfl;have hpo:jQ (gZ x (ij val has))=true:=Dp x1 (by omega);obtain⟨p1,p2⟩:=o1.put hpo (w:=x.w.key.size+val.size+13) (by rw[hlen];omega) (by omega) hfit;obtain⟨cr,hfl,hcb⟩:=p1.fl;have hcl:(Jv n.s (gZ x (ij val has))).d.calls<=c+20:=hfl.one.log.calls;have hdn:=p1.dn;have hrd:p8.rd ⟨n,p,r,i,val,has⟩=x:=hx.symm;have hsz:∀(a b:de),a.rs=n.rs.eraseIdx i->a.rs.length<=k:=fun a _ e=>by rw[e,List.length_eraseIdx];split<;>omega
 have hul:(mM n.t x.tok).l.length<=k:=Nat.le_trans (List.length_filter_le _ _) (by omega);have hrs:∀y∈n.rs.eraseIdx i,dM y.w.key=true/\0<=y.tok/\y.tok<=((k+1:Nat):Int):=fun y hy=>by
  have:=h.rs y (List.eraseIdx_subset hy);exact⟨this.1,this.2.1,by push_cast;omega⟩
 have hel:(n.rs.eraseIdx i).length<=k:=by rw[List.length_eraseIdx];split<;>omega
 have hnum:0<=n.asked/\n.asked<=((k+1:Nat):Int)/\0<=n.t.last/\n.t.last<=((k+1:Nat):Int)/\(mM n.t x.tok).l.length<=k+1/\n.ws.length<=k+1/\(n.rs.eraseIdx i).length<=k+1:=by push_cast;omega
 refine⟨⟨hat,hr,h.met.2.1,hi,by dsimp only;omega,by rw[hrd];simp only[bQ];omega,by rw[hrd];exact x1,by show val.size<=aq;unfold aq;omega,fun _=>by rw[hrd];exact p2,fun _=>by rw[hrd];dsimp only;omega⟩,?_⟩;by_cases hf:mI n r x val has=true
 ·have eT:qu n r i val has={ n with rs:=n.rs.eraseIdx i,t:=mM n.t x.tok,s:=V5 (Jv n.s (gZ x (ij val has))) }:=by unfold qu;rw[<- hx,if_pos hf]
  rw[if_pos hf,eT];exact⟨⟨⟨_,_,p1.flush,by rw[vt];rfl,by omega⟩,by omega,h.met,h.id,h.now,hnum,hrs⟩,rfl⟩
 ·have eT:qu n r i val has={ n with rs:=n.rs.eraseIdx i,t:=mM n.t x.tok }:=by unfold qu;rw[<- hx,if_neg hf]
  rw[if_neg hf,eT];exact⟨⟨⟨c,es,o1.wide (by omega),rfl,by omega⟩,by omega,h.met,h.id,h.now,hnum,hrs⟩,rfl⟩
def E4(n:de)(r:Rg.gf):Prop:=∀k,fN n r k=true
theorem VK{L:List (Int×Int)}{i:Int}(h0:0<L.length)(h:∀e∈L,e.2=i)(x:Int):Rg.wY L x=i:=by
 unfold Rg.wY;cases hf:L.find? (fun e=>decide (x<=e.1))with
 |some e=>exact h e (List.mem_of_find?_eq_some hf)
 |none=>exact h _ (by rw[bN h0];exact List.getElem_mem _)
theorem HW{i:Int}(h:1<=i/\i<=5):(Rg.mT [i]).length=8/\∀e∈Rg.mT [i],e.2=i:=by
 have hm:=Rg.TL h.1 h.2;refine⟨Rg.HJ hm,fun e he=>?_⟩;have he:=(Rg.De hm).mem_iff.1 he;unfold Rg.fB at he;rw[List.flatMap_cons,List.flatMap_nil,List.append_nil]at he;exact Rg.TJ he
theorem VL{ep:Int}{i:Int}{c1 c2:Nat}(h:1<=i/\i<=5):(s8 ep [i] c1 c2).L.length<100000/\0<(s8 ep [i] c1 c2).L.length:=by
 have:=(HW h).1;show(Rg.mT [i]).length<100000/\0<(Rg.mT [i]).length;omega
theorem E4.alone{n:de}{ep:Int}{c1 c2:Nat}(h:1<=n.id/\n.id<=5)(hg:EX n.le n.now n.s.k.m.aS=true):E4 n (s8 ep [n.id] c1 c2):=fun k=>by
 have e:zQ (s8 ep [n.id] c1 c2) k=n.id:=VK (by show 0<(Rg.mT [n.id]).length;rw[(HW h).1];decide) (HW h).2 _;unfold fN;rw[e,hg];simp
theorem Uc{now tick ep:Int}(h1:1<=ep)(h2:0<=tick)(h3:tick<=now)(h4:now-tick<20):rD now ⟨0,0,0⟩ tick ep=⟨ep,tick+20,ep⟩:=by
 have e:xh now ⟨0,0,0⟩ tick ep=false:=by
  simp only[xh,Bool.or_eq_false_iff,decide_eq_false_iff_not];omega
 unfold rD;rw[e,if_neg (by decide),if_neg (by dsimp only;omega)]
theorem Ud{now tick ep:Int}(h1:1<=ep)(h4:now-tick<20):EX ⟨ep,tick+20,ep⟩ now ep=true:=by
 simp only[EX,Bool.and_eq_true,decide_eq_true_eq];refine⟨by omega,trivial,by omega⟩
theorem E4.gr{n:de}{ep tick:Int}{c1 c2:Nat}(h:1<=n.id/\n.id<=5)(h1:1<=ep)(h2:0<=tick)(h3:tick<=n.now)(h4:n.now-tick<20)(he:(T7 n ep tick).s.k.m.aS=ep):E4 (T7 n ep tick) (s8 ep [n.id] c1 c2) :=
 E4.alone (n:=T7 n ep tick) h (by
  rw[he];show EX (rD n.now ⟨0,0,0⟩ tick ep) n.now ep=true;rw[Uc h1 h2 h3 h4];exact Ud h1 h4)
theorem E4.own{n:de}{r:Rg.gf}(h:E4 n r)(k:ByteArray):¬zQ r k≠n.id:=by
 have:=h k;unfold fN at this;simp only[Bool.and_eq_true,decide_eq_true_eq]at this;exact fun hn=>hn this.1
theorem E4.same{n m:de}{r:Rg.gf}(h:E4 n r)(h1:m.id=n.id)(h2:m.le=n.le)(h3:m.now=n.now)(h4:m.s.k.m.aS=n.s.k.m.aS):E4 m r:=fun k=>by
 have:=h k;unfold fN at this ⊢;rw[h1,h2,h3,h4];exact this
theorem Ue{n:de}{r:Rg.gf}{w:nV}{g:Option aD}{b:Nat}(hs:E4 n r)(hb:sO w=false)(ho:w.op=1)(hg:nO g n.now=none):kW n r w g b=⟨lU n w b,[],[]⟩:=by
 unfold kW;rw[if_neg (by rw[hb];decide),if_neg (hs.own _),if_neg (by rw[hs];decide),if_neg (by omega),hg]
theorem VM{n:de}{r:Rg.gf}{w:nV}{g:Option aD}{b:Nat}{x:aD}(hs:E4 n r)(hb:sO w=false)(ho:w.op=1)(hg:nO g n.now=some x):kW n r w g b=mH n w 0 x.val true:=by
 unfold kW;rw[if_neg (by rw[hb];decide),if_neg (hs.own _),if_neg (by rw[hs];decide),if_neg (by omega),hg]
theorem Uf{n:de}{r:Rg.gf}{w:nV}{g:Option aD}{b:Nat}(hs:E4 n r)(hb:sO w=false)(ho:w.op=2):kW n r w g b=mH (rC n w.key) w 0 uN false:=by
 unfold kW;rw[if_neg (by rw[hb];decide),if_neg (hs.own _),if_neg (by rw[hs];decide),if_pos ho]
theorem Ug{x:gX}{v:ByteArray}(now:Int)(hk:dM x.w.key=true)(hv:v.size<=200):nO (some (gZ x v)) now=some (gZ x v):=by
 have:tS (gZ x v) now=true:=by simp[tS,fH,gZ,hk,hv]
 simp[nO,this]
theorem Uh{H:PH}{t:jk}(h:gd H t)(key:ByteArray)(b:Nat):uK (qs t key b) (t.last+1)=some ⟨t.last+1,b,key,true,t.dG⟩:=by
 unfold uK qs;dsimp only;rw[List.find?_append,List.find?_eq_none.2 fun e he=>by
  have:=(h.id e he).2.1;simp;omega]
 simp
theorem DN{n:de}{p:iV}(hat:dX n p)(w:nV)(b:Nat):N0 (lU n w b) ⟨w,n.t.last+1⟩=true:=by
 unfold N0 lU;dsimp only;rw[Uh hat.tok]
theorem Ui{n:de}{p:iV}{r:Rg.gf}(hat:dX n p)(hs:E4 n r)(w:nV)(b:Nat){v:ByteArray}(hv:v.size<=200):mI (lU n w b) r ⟨w,n.t.last+1⟩ v true=true:=by
 have hs2:E4 (lU n w b) r:=hs.same rfl rfl rfl rfl;unfold mI;rw[DN hat,hs2,show ij v true=v from rfl,decide_eq_true hv];rfl
theorem MK{w:nV}(ho:w.op=1\/w.op=2)(hk:dM w.key=true):sO w=false:=by
 unfold sO;rcases ho with ho|ho<;>simp[ho,hk]
end Go.Proofs.YtfjgoonelcaggaaGreat
namespace Go.Sx
section
structure Pk where
 f:Nat
 pick:List SV->S->Nat
 cs:List cF
def VN:List Pk->Nat->Option Pk
 |[],_=>none
 |p::r,f=>bif Nat.beq p.f f then some p else VN r f
def VO:List cF->Nat->Option cF
 |[],_=>none
 |c::_,0=>some c
 |_::r,n+1=>VO r n
def Uj(iW:Nat->Option cF)(pk:List Pk):Sx.Spec:=fun f=>match VN pk f with
 |some p=>some fun args s K=>match VO p.cs (p.pick args s)with
  |some C=>qh C args s K
  |none=>False
 |none=>(iW f).map qh
def E5(X:Cx)(f:Nat):List cF->Prop
 |[]=>True
 |c::r=>ak X f c/\E5 X f r
def ML(X:Cx):List Pk->Prop
 |[]=>True
 |p::r=>E5 X p.f p.cs/\ML X r
theorem E5.at_{X:Cx}{f:Nat}:∀ {l:List cF},E5 X f l->∀n C,VO l n=some C->ak X f C
 |[],_,_,_,h=>by cases h
 |c::_,h,0,C,hc=>by simp only[VO,Option.some.injEq]at hc;subst hc;exact h.1
 |_::r,h,n+1,C,hc=>E5.at_ (l:=r) h.2 n C hc
theorem ML.at_{X:Cx}:∀ {l:List Pk},ML X l->∀f p,VN l f=some p->E5 X f p.cs
 |[],_,_,_,h=>by cases h
 |q::r,h,f,p,hp=>by
  simp only[VN]at hp;by_cases hq:q.f=f
  ·subst hq;simp only[dg,cond_true,Option.some.injEq]at hp;subst hp;exact h.1
  ·rw[eC hq]at hp;exact ML.at_ h.2 f p hp
theorem Uk{X:Cx}{iW:Nat->Option cF}(h:∀f C,iW f=some C->∀args s K,qh C args s K->tF X f args s K){pk:List Pk}(hp:ML X pk):WC X (Uj iW pk):=by
 intro f g hg args s K hK;unfold Uj at hg;split at hg
 ·rename_i p hpk;cases hg;split at hK
  ·rename_i C hC;exact(hp.at_ f p hpk).at_ _ C hC args s K hK
  ·exact hK.elim
 ·exact Nc h f g hg args s K hK
def We(Y:Gx)(iW:List (Nat×cF))(pk:List Pk)(lh:Nat->LH)(n:Nat):gF:=Ea Y (Uj (BP iW) pk) lh n
theorem Ul{Y:Gx}(hY:Y.Ok){iW:List (Nat×cF)}(ht:tL Y.G.X iW){pk:List Pk}(hp:ML Y.G.X pk){lh:Nat->LH}{n:Nat}:HY Y.G.X (We Y iW pk lh n) :=
 xH hY (Uk (fun f C h=>ht.at_ f C h) hp) n
def JX(Y:Gx)(iW:List (Nat×cF))(pk:List Pk)(f:Nat)(C:cF)(l:C.α->List (Nat×List An×List An)):Prop :=
 vc Y C (fun a=>We Y iW pk (IF 1000 (l a)) 20) (fun a=>IF 1000 (l a)) f
structure ye(Y:Gx)(iW:List (Nat×cF))(pk:List Pk)(f:Nat)(C:cF)(l:C.α->List (Nat×List An×List An)):Prop where
 body:JX Y iW pk f C l
theorem ye.of{Y:Gx}{iW:List (Nat×cF)}{pk:List Pk}{f:Nat}{C:cF}{l:C.α->List (Nat×List An×List An)}{p:Prop}(h:JX Y iW pk f C l=p)(hp:p):ye Y iW pk f C l:=⟨h.mpr hp⟩
theorem Xw{Y:Gx}(hY:Y.Ok){iW:List (Nat×cF)}(ht:tL Y.G.X iW){pk:List Pk}(hp:ML Y.G.X pk){f:Nat}{C:cF}{l:C.α->List (Nat×List An×List An)}(hb:ye Y iW pk f C l):ak Y.G.X f C :=
 fun _ _ _ h=>Rm hY (fun _=>Ul hY ht hp) hb.body h
def VP(c:Nat)(args:List SV)(s:S):Nat:=match args with
 |.a (.ptr t _ _ _)::_=>match s.hp.find t with
  |some (_,.obj _ cs)=>match cs[c]? with
   |some .nil=>0
   |_=>1
  |_=>1
 |_=>1
end
end Go.Sx
