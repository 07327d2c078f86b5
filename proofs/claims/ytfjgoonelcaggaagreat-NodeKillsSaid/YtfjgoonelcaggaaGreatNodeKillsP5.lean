/-
  
-/
import Derived.Test.YtfjgoonelcaggaaGreatNodeKillsP4
import Derived.Sort.KeysCollected
import Derived.Test.YtfjgoonelcaggaaGreatNodeKillsP2
import Derived.Below
import Derived.ChangeSame
import Derived.Carry
import Derived.ChangeArms
import Derived.OpenShut
import Derived.RowKit3
import Derived.Test.YtfjgoonelcaggaaGreatNodeKillsP3
import Derived.Shelf.SlSortCmp.WholeK
import Derived.Shelf.SlSortCmp.NoneTotal
import Derived.Test.YtfjgoonelcaggaaGreatProg
import Derived.ProofKit
import Derived.WalkKit
set_option maxRecDepth 100000
set_option maxHeartbeats 4000000
set_option linter.unusedVariables false
set_option linter.unusedSimpArgs false
namespace Go.Proofs.YtfjgoonelcaggaaGreat.Ix
open Go.Sx
def kj(b:ByteArray):List Value:=[.string b]
def tl(b:ByteArray):List UInt8:=b.data.toList
def wv(l:List ByteArray):List ByteArray:=((l.map tl).mergeSort fun x y=>decide (x<=y)).map fun x=>⟨x.toArray⟩
theorem Qq(l:List ByteArray):(wv l).map tl=(l.map tl).mergeSort fun x y=>decide (x<=y):=by
 unfold wv;rw[List.map_map];exact(List.map_congr_left fun x _=>by simp[tl]).trans (List.map_id _)
theorem HV(l:List ByteArray):(wv l).length=l.length:=by simp[wv]
theorem Ke(l:List ByteArray):(l.map tl).map (fun x=>(⟨x.toArray⟩:ByteArray))=l:=by
 rw[List.map_map];refine(List.map_congr_left fun x _=>?_).trans (List.map_id _);cases x;simp[tl]
theorem ML(l:List ByteArray):(wv l).Perm l:=by
 have:=(List.mergeSort_perm (l.map tl) fun x y=>decide (x<=y)).map fun x=>(⟨x.toArray⟩:ByteArray)
 rwa[Ke]at this
theorem Ug:ak (Y Tryz.prog).G.X 227 (yA 9 .str Value.string wv):=fun _ _ _ h =>
 vD (Uf (enc2:=encStr) (to:=tl) (srt2:=fun l=>l.mergeSort fun x y=>decide (x<=y)) (fun x=>by cases x;simp[tl,encStr]) Qq HV (fun l x hx=>(ML l).mem_iff.1 hx)
  (fun blk off cap l w h1 h2 h3=>Tryz.slices_Sort_string blk off cap l w h1 h2 h3) (fun p cap w=>Tryz.slices_Sort_string_none p cap w)) h
def keysOf(t:List bn):List ByteArray:=(en t).map Prod.fst
noncomputable def Uh:cD where
 α:=tT
 β:=Nat
 m:=2
 m':=3
 pre:=fun a=>a.x.t.length<100000
 args:=fun _=>[.a (.ptr 0 0 0 0)]
 hp:=fun _=>[]
 ro:=fun a=>o8 0 1 a.x.t a.cap a.x.n a.x.used
 post:=fun _ _=>True
 res:=fun a cap=>.a (.slc 2 0 1 (keysOf a.x.t).length cap)
 cT:=fun a _=>[(2,.arr 9 [.str] (keysOf a.x.t).length (af kj (wv (keysOf a.x.t))))]
def Zp(a:tT):An:=.flat 5 (Nat×Nat) (fun s x=>((s.new (.arr 9 [.str] (keysOf (a.x.t.take x.1)).length (af kj (keysOf (a.x.t.take x.1))))).set 3 (.a (.slc s.nx 0 1 (keysOf (a.x.t.take x.1)).length x.2))).int 13 x.1) (fun _ x=>x.1<=a.x.t.length) (fun _ x=>a.x.t.length-x.1)
theorem Kf{t:List bn}{i:Nat}(h:i<t.length):keysOf (t.take (i+1))=keysOf (t.take i)++if(gl t i).has then[(gl t i).key]else[]:=by
 unfold keysOf;rw[gq h,yo,List.map_append,pP];cases(gl t i).has<;>simp[en,mK]
theorem Fi(t:List bn):(keysOf t).length<=t.length:=by
 unfold keysOf en;simp only[List.length_map];exact List.length_filter_le _ _
def _root_.kG(y:Nat×Nat)(z:Ix.tT):List ByteArray:=Ix.keysOf (List.take y.fst z.x.t)
def _root_.HW(y:Ix.tT)(z u:Prop):=dK (bI y.x) y.cap (cH (ag (z/\bD (bI y.x) y.cap/\cz (aa y.x.n) (aa y.x.used) (dN (bI y.x) 4 (cZ y.x.t)) u)))
theorem Ui:fnBody (Y Tryz.prog) [(227,yA 9 .str Value.string wv)] 194 Uh fun a=>[(194,[Zp a],[])]:=fnBody.of (p :=
 ∀y:Ix.tT,bI y.x<100000->mA (fun z=>(0=aU (kG z y)/\0=z.snd)/\HW y (aU (kG z y)=0) (z.fst<=bI y.x/\True)) (bI y.x) (fun z=>aO (Ix.bn.has (jH y.x.t z.fst)) (gu (aU (kG z y)) 16 z.snd fun u=>ir z fun v=>ag (aU (kG z y)+1=aU (kG v y)/\u=v.snd)/\HW y (iJ (aU (kG v y)) (aU (kG z y)) 1 (af Ix.kj (kG z y)) (bH (bE (Ix.bn.key (jH y.x.t z.fst)))) (af Ix.kj (kG v y))) (bS v.fst (bI y.x) z.fst)) (ir z fun u=>ag (aU (kG z y)=aU (kG u y)/\z.snd=u.snd)/\HW y (De (kG u y) (kG z y) Ix.kj) (bS u.fst (bI y.x) z.fst))) fun z=>∃u:Ox ByteArray,iu (aU (kG z y)) (aU u.l) z.snd u.cap 1 (af Ix.kj (kG z y)) (af (fun v=>bH (bE v)) u.l) (aU u.l<100000) (aI (∃v:Nat,ag (aU (kG z y)=aU (Ix.keysOf y.x.t)/\z.snd=v)/\bp (aL (aU (Ix.keysOf y.x.t)) (aU u.l) 1 (af (fun w=>bH (bE w)) (Ix.wv u.l)) (af Ix.kj (Ix.wv (Ix.keysOf y.x.t))))))) (by kernel_rfl) (by
 delta aO cz aL ah bW az aG gF bB eF bI aQ aY aa aU bH bg aD aX bM dN aI gD bD cH iJ gu bE bS dK ir kG aC iu ag aA HW aP bh mA bp dR De cZ jF jH
 try dsimp -iota -proj only
 intro a h;refine⟨⟨(0,0),?_⟩,fun x hx=>⟨fun c1=>?_,fun c1=>?_⟩⟩
 ·dsimp only;have e:keysOf (a.x.t.take 0)=[]:=rfl;rw[e]
  and_intros<;>first|rfl|trivial|exact Nat.le_refl _|omega|(dsimp only;omega)|exact aj.refl _ _ _
 ·obtain⟨i,cap0⟩:=x;simp only[decide_eq_true_eq]at c1;have hi:i<a.x.t.length:=by omega
  have hle:=Fi (a.x.t.take i);rw[List.length_take]at hle;have hst:=Kf hi;simp only[Nat.zero_add,Int.toNat_natCast,bL];refine⟨by omega,by omega,fun hh=>⟨by omega,by omega,by omega,fun cap _ _ _=>⟨by omega,⟨(i+1,cap),?_⟩⟩⟩,fun hh=>⟨by omega,⟨(i+1,cap0),?_⟩⟩⟩
  ·rw[hh]at hst;dsimp only;rw[hst]
   and_intros<;>first|rfl|trivial|exact Nat.le_refl _|omega|(dsimp only;omega)|exact aj.refl _ _ _|(simp;done)|exact .push rfl (by simp) rfl
  ·rw[hh]at hst;simp only[Bool.false_eq_true,if_false,List.append_nil]at hst;dsimp only;rw[hst]
   and_intros<;>first|rfl|trivial|exact Nat.le_refl _|omega|(dsimp only;omega)|exact aj.refl _ _ _
 ·obtain⟨i,cap0⟩:=x;simp only[decide_eq_false_iff_not]at c1
  have hi : i = a.x.t.length := by have : i ≤ a.x.t.length := hx
                                   omega
  subst hi;have hle:=Fi a.x.t;rw[List.take_length];refine⟨⟨keysOf a.x.t,cap0⟩,?_⟩
  and_intros<;>first|rfl|trivial|exact Nat.le_refl _|omega|(dsimp only;omega)|exact aj.refl _ _ _|skip
  refine fun _ _=>⟨cap0,?_⟩
  and_intros<;>first|rfl|trivial|exact Nat.le_refl _|omega|(dsimp only;omega)|exact aj.refl _ _ _)
theorem Uj:ak (Y Tryz.prog).G.X 194 Uh:=aV fK Ui ⟨Ug,trivial⟩
end Go.Proofs.YtfjgoonelcaggaaGreat.Ix
namespace Go.Proofs.YtfjgoonelcaggaaGreat
open Go.Sx
def Oy(get:ByteArray->Option aB)(o:Option aB):ByteArray->Option aB:=match o with
 |none=>fun _=>none
 |some x=>s9 get x.key (if x.gone then none else some x)
def gE(es:List (Option aB)):ByteArray->Option aB:=es.foldl Oy fun _=>none
theorem vP(es:List (Option aB))(o:Option aB):gE (es++[o])=Oy (gE es) o:=by simp[gE]
structure mM(m:nT)(n:Nat)(rs:List RecM)(es:List (Option aB)):Prop where
 one:qM m n rs (gE es)
 len:es.length=rs.length
 body:∀i,i<es.length->(gl rs i).body=aH (gl es i)/\∀x,gl es i=some x->fU x=true
theorem Fj{rs:List RecM}{es:List (Option aB)}{p:Int}{x:aB}(hl:es.length=rs.length)(h:∀i,i<es.length->(gl rs i).body=aH (gl es i)/\∀x,gl es i=some x->fU x=true)(hx:fU x=true) :
 (es++[some x]).length=(rs++[(⟨p,aH (some x)⟩:RecM)]).length/\∀i,i<(es++[some x]).length->(gl (rs++[(⟨p,aH (some x)⟩:RecM)]) i).body=aH (gl (es++[some x]) i)/\∀z,gl (es++[some x]) i=some z->fU z=true:=by
 refine⟨by simp[hl],fun i hi=>?_⟩;rw[List.length_append,List.length_singleton]at hi;rw[kA hi,kA (by rw[<- hl];exact hi),hl];by_cases hin:i<rs.length
 ·rw[if_pos hin,if_pos hin];exact h i (by omega)
 ·rw[if_neg hin,if_neg hin];exact⟨rfl,fun z e=>by cases e;exact hx⟩
theorem mM.put{m:nT}{n:Nat}{rs:List RecM}{es:List (Option aB)}(h:mM m n rs es){x:aB}(hx:jQ x=true)(hn:m.L.next<9999999999)(hfit:(ee rs).length+8+(aH (some x)).length<=378) :
 mM (nI m x) (n+20) (rs++[⟨m.L.next,aH (some x)⟩]) (es++[some x])/\(nI m x).L.next=m.L.next+1/\(nI m x).L.au=m.L.au/\(nI m x).L.from_=m.L.from_:=by
 have hx2:fU x=true/\x.gone=false:=by unfold jQ at hx;simpa using hx
 obtain⟨h1,h2⟩:=h.one.put hx hn hfit;obtain⟨b1,b2⟩:=Fj (p:=m.L.next) h.len h.body hx2.1;refine⟨⟨?_,b1,b2⟩,h2⟩;rw[vP];simp only[Oy,hx2.2];exact h1
theorem mM.drop{m:nT}{n:Nat}{rs:List RecM}{es:List (Option aB)}(h:mM m n rs es){k:ByteArray}(hk:dS k=true)(hn:m.L.next<9999999999)(hfit:(ee rs).length+8+(aH (some (iG k))).length<=378) :
 mM (oe m k) (n+20) (rs++[⟨m.L.next,aH (some (iG k))⟩]) (es++[some (iG k)])/\(oe m k).L.next=m.L.next+1/\(oe m k).L.au=m.L.au/\(oe m k).L.from_=m.L.from_:=by
 obtain⟨h1,h2⟩:=h.one.drop hk hn hfit;obtain⟨b1,b2⟩:=Fj (p:=m.L.next) h.len h.body (zR hk);refine⟨⟨?_,b1,b2⟩,h2⟩;rw[vP];exact h1
theorem mM.new{fr sg:Nat}{d:bw}{n:Nat}{run:Int}(h3:3<=sg/\sg<=200)(hr:fr+sg*8<=d.n)(hn:d.n<100000)(hc:d.calls<=n)(hd:yy fr sg none run d):mM (newF fr sg d) n [] []:=⟨qM.new h3 hr hn hc hd,rfl,fun i hi=>absurd hi (Nat.not_lt_zero i)⟩
theorem Ad(L:bP)(d:bw)(body:List Int):(n9 L d body).n=d.n:=by
 have h1:(kD L d body.length).n=d.n:=by unfold kD;split<;>rfl
 have h2:=(sP (dw L body.length) (JF (jP (dw L body.length)) (dw L body.length).next body) (jP (dw L body.length)).buf.length (kD L d body.length) 8).1;unfold n9 qK;split
 ·exact h2.trans h1
 ·exact h2.trans h1
theorem Dg{n:Int}(h:n.toNat<64):(vi n).length=1:=by
 have:=uX 0 n (by simp;omega);have:=(iK n).1;omega
theorem Dh{x:aB}(h1:x.key.size<64)(h2:x.val.size<64)(h3:x.e=0):(aH (some x)).length=x.key.size+x.val.size+5:=by
 have a1:(vi (x.key.size:Nat)).length=1:=Dg (by omega);have a2:(vi (x.val.size:Nat)).length=1:=Dg (by omega);have a3:(vi x.e).length=1:=Dg (by rw[h3];decide);have a4:(vi (if x.gone then 1 else 0)).length=1:=by split<;>exact Dg (by decide)
 simp only[aH,List.length_cons,cS,eC,ij,List.flatMap_cons,List.flatMap_nil,List.append_nil,List.length_append,iV];omega
theorem Fk{L:bP}{g:dx}{i:Nat}(hi:i<8)(h3:1<=L.au):L.from_<=jN L g i/\jN L g i<L.from_+L.au*8:=by
 have:=Nat.mod_lt (g.gen-1).toNat (show 0<L.au by omega);unfold jN;omega
theorem yB{L:bP}{g:dx}{was:Nat}{d:bw}(h3:1<=L.au){r j:Nat}(hr:r<L.from_\/L.from_+L.au*8<=r):∀n,n<=8->(de L g was d n).now r j=d.now r j
 |0,_=>rfl
 |n+1,hn=>by
  have ih:=yB (g:=g) (was:=was) (d:=d) h3 (j:=j) hr n (by omega);have hs:=Fk (L:=L) (g:=g) (i:=n) (by omega) h3;unfold de;split
  ·show(if r=jN L g n/\j<64 then _ else(de L g was d n).now r j)=_;rw[if_neg (by omega)];exact ih
  ·exact ih
theorem Di{L:bP}{d:bw}{body:List Int}(h3:1<=L.au){r j:Nat}(hr:r<L.from_\/L.from_+L.au*8<=r):(n9 L d body).now r j=d.now r j:=by
 have e1:(dw L body.length).from_=L.from_/\(dw L body.length).au=L.au:=by unfold dw;split<;>exact⟨rfl,rfl⟩
 have e2:(kD L d body.length).now r j=d.now r j:=by
  unfold kD;split
  ·have hs:=Fk (L:=L) (g:=bl L) (i:=0) (by omega) h3;show(if r=jN L (bl L) 0/\j<64 then _ else d.now r j)=_;rw[if_neg (by omega)]
  ·rfl
 have e3:(qK (dw L body.length) (kD L d body.length) body).now r j=d.now r j:=by
  unfold qK;rw[yB (by rw[e1.2];exact h3) (by rw[e1.1,e1.2];exact hr) 8 (Nat.le_refl _)];exact e2
 unfold n9;split
 ·exact e3
 ·exact e3
theorem gW.dev'{L:bP}{d d':bw}{n n':Nat}{rs:List RecM}(h:gW L d n rs)(hd:∀r,L.from_<=r->r<L.from_+L.au*8->∀j,j<64->d'.now r j=d.now r j)(hn:d'.n=d.n)(hc:d'.calls<=n'):gW L d' n' rs :=
 ⟨h.au,by rw[hn];exact h.room,by rw[hn];exact h.size,hc,h.next,h.run,h.good,h.sort,h.fits,h.IQ,⟨fun i hi j hj=>by rw[hd _ (by omega) (by have:=h.au;omega) j hj];exact h.dev.sec i hi j hj,fun r h1 h2 j hj=>by rw[hd r (by omega) h2 j hj];exact h.dev.rest r h1 h2 j hj⟩⟩
theorem mM.dev'{L:bP}{d d':bw}{l:List (ByteArray×Int)}{n n':Nat}{rs:List RecM}{es:List (Option aB)}(h:mM ⟨L,d,l⟩ n rs es)(hd:∀r,L.from_<=r->r<L.from_+L.au*8->∀j,j<64->d'.now r j=d.now r j)(hn:d'.n=d.n)(hc:d'.calls<=n'):mM ⟨L,d',l⟩ n' rs es :=
 ⟨⟨h.one.log.dev' hd hn hc,⟨h.one.has.rd,h.one.has.pos,h.one.has.all⟩,h.one.ye⟩,h.len,h.body⟩
structure u6(k:qL)(d:bw):Prop where
 at_:k.s.at_=0
 slot:k.s.slot<=1
 eZ:1<=k.s.eZ/\k.s.eZ<1000000000
 text:k.s.text=eL k.m
 may:mU k.m=true
 this:∀j,j<64->d.now k.s.slot j=xy k.s.eZ k.s.text j
 other:(∀j,j<64->d.now (1-k.s.slot) j=0)\/∃n m,0<=n/\n<k.s.eZ/\mU m=true/\∀j,j<64->d.now (1-k.s.slot) j=xy n (eL m) j
theorem u6.dev'{k:qL}{d d':bw}(h:u6 k d)(hd:∀r,r<2->∀j,j<64->d'.now r j=d.now r j):u6 k d' :=
 ⟨h.at_,h.slot,h.eZ,h.text,h.may,fun j hj=>by rw[hd _ (by have:=h.slot;omega) j hj];exact h.this j hj,by
  rcases h.other with h1 | ⟨n,m,h1,h2,h3,h4⟩
  ·exact .inl fun j hj=>by rw[hd _ (by omega) j hj];exact h1 j hj
  ·exact .inr ⟨n,m,h1,h2,h3,fun j hj=>by rw[hd _ (by omega) j hj];exact h4 j hj⟩⟩
theorem u6.save{k:qL}{d:bw}{m:MetaM}(h:u6 k d)(hs:gv k m=true)(ht:k.s.eZ<900000000):u6 (mL k m) (iq k d m)/\(mL k m).m=m/\(mL k m).s.eZ=k.s.eZ+1/\(iq k d m).n=d.n/\(iq k d m).calls=d.calls+2/\∀r,2<=r->∀j,(iq k d m).now r j=d.now r j:=by
 have e1:mL k m=⟨HK k.s (1-k.s.slot) (k.s.eZ+1) (eL m),m⟩:=if_pos hs;have e2:iq k d m=Bb k.s d (1-k.s.slot) (k.s.eZ+1) (eL m):=if_pos hs;have hm:mU m=true:=by unfold gv at hs;simp only[Bool.and_eq_true]at hs;exact hs.1
 have h2:=h.slot;have h0:=h.at_;have hnow:∀r j,(Bb k.s d (1-k.s.slot) (k.s.eZ+1) (eL m)).now r j=if r=1-k.s.slot/\j<64 then xy (k.s.eZ+1) (eL m) j else d.now r j:=fun r j=>by
  show(if r=k.s.at_+(1-k.s.slot)/\j<64 then _ else _)=_;rw[h0,Nat.zero_add]
 rw[e1,e2];refine⟨⟨h0,by show 1-k.s.slot<=1;omega,by have:=h.eZ;show 1<=k.s.eZ+1/\k.s.eZ+1<_;omega,rfl,hm,fun j hj=>?_,.inr ⟨k.s.eZ,k.m,by have:=h.eZ;omega,by show k.s.eZ<k.s.eZ+1;omega,h.may,fun j hj=>?_⟩⟩,rfl,rfl,rfl,rfl,fun r hr j=>?_⟩
 ·show(Bb k.s d (1-k.s.slot) (k.s.eZ+1) (eL m)).now (1-k.s.slot) j=_;rw[hnow,if_pos ⟨rfl,hj⟩];rfl
 ·show(Bb k.s d (1-k.s.slot) (k.s.eZ+1) (eL m)).now (1-(1-k.s.slot)) j=_;rw[hnow,if_neg (by omega),show 1-(1-k.s.slot)=k.s.slot by omega,h.this j hj,h.text]
 ·rw[hnow,if_neg (by omega)]
def Dj(x:eH):RecM:=⟨x.pos,dI x.seq x.key⟩
structure dM(s:lu)(n:Nat)(es:List (Option aB))(cb jb:Nat):Prop where
 fl:∃cr,mM s.fl n cr es/\(ee cr).length<=cb
 jl:gW s.jL s.d n (s.ms.map Dj)
 jb:(ee (s.ms.map Dj)).length<=jb
 ms:∀i,i<s.ms.length->(gl s.ms i).seq=(i:Int)+1/\dS (gl s.ms i).key=true
 nx:s.cL.next<=n/\s.jL.next<=n/\s.k.s.eZ<=n
 X9:s.cL.from_=162/\s.cL.au=iP s.d.n/\s.jL.from_=2/\s.jL.au=20
 dn:192<=s.d.n/\s.d.n<3000
 keep:u6 s.k s.d
 bK:s.bK=s.k.m.bK
theorem Bw{n:Nat}(h:192<=n):3<=iP n/\iP n<=200/\162+iP n*8<=n:=by unfold iP;omega
def Kg(s:lu)(x:aB):lu:={ s with d:=(nI s.fl x).d,cL:=(nI s.fl x).L,cl:=(nI s.fl x).l }
def Uk(s:lu)(k:ByteArray):lu:={ s with d:=(oe s.fl k).d,cL:=(oe s.fl k).L,cl:=(oe s.fl k).l }
def Oz(s:lu)(k:ByteArray):lu:={ s with d:=(J5 s.jr k).d,jL:=(J5 s.jr k).L,ms:=(J5 s.jr k).ms }
def WZ(s:lu):lu:={ s with d:=gj s.d }
theorem dM.cache{s:lu}{n:Nat}{es:List (Option aB)}{cb jb:Nat}(h:dM s n es cb jb){m:nT}{body:List Int}{o:Option aB}{cr:List RecM}{w:Nat}(hn:n<900000000)
 (h1:mM m (n+20) cr (es++[o])) (hb:(ee cr).length<=cb+w) (hd:m.d=n9 s.cL s.d body) (hx:m.L.next=s.cL.next+1) (hs:m.L.au=s.cL.au/\m.L.from_=s.cL.from_) :
 dM { s with d:=m.d,cL:=m.L,cl:=m.l } (n+20) (es++[o]) (cb+w) jb:=by
 obtain⟨g1,g2,g3,g4⟩:=h.X9;obtain⟨s1,s2,s3⟩:=Bw h.dn.1;have hdn:m.d.n=s.d.n:=by rw[hd];exact Ad _ _ _
 have hcl:m.d.calls<=n+20:=h1.one.log.calls;have hout:∀r,r<162->∀j,m.d.now r j=s.d.now r j:=fun r hr j=>by rw[hd];exact Di (by omega) (.inl (by omega))
 have hnx:=h.nx;exact⟨⟨cr,h1,hb⟩,h.jl.dev' (fun r _ h2 j _=>hout r (by omega) j) hdn hcl,h.jb,h.ms,by dsimp only;rw[hx];push_cast;omega,⟨by rw[hs.2];exact g1,by dsimp only;rw[hs.1,hdn];exact g2,g3,g4⟩,by dsimp only;rw[hdn];exact h.dn,h.keep.dev' fun r hr j _=>hout r (by omega) j,h.bK⟩
theorem dM.put{s:lu}{n:Nat}{es:List (Option aB)}{cb jb:Nat}(h:dM s n es cb jb){x:aB}(hx:jQ x=true){w:Nat}(hw:8+(aH (some x)).length<=w)(hn:n<900000000)(hfit:cb+w<=378) :
 dM (Kg s x) (n+20) (es++[some x]) (cb+w) jb/\tV s.fl (aH (some x)).length:=by
 obtain⟨cr,hf,hb⟩:=h.fl;have hnx:s.fl.L.next<=n:=h.nx.1
 obtain⟨f1,f2,f3,f4⟩:=hf.put hx (by omega) (by omega);have hd:(nI s.fl x).d=n9 s.cL s.d (aH (some x)):=by unfold nI;rw[if_pos hx];rfl
 exact⟨h.cache hn f1 (by rw[lT,List.length_append,vM];dsimp only;omega) hd f2 ⟨f3,f4⟩,hf.one.ok (by omega) (by omega)⟩
theorem dM.Zq{s:lu}{n:Nat}{es:List (Option aB)}{cb jb:Nat}(h:dM s n es cb jb){k:ByteArray}(hk:dS k=true){w:Nat}(hw:8+(aH (some (iG k))).length<=w)(hn:n<900000000)(hfit:cb+w<=378) :
 dM (Uk s k) (n+20) (es++[some (iG k)]) (cb+w) jb/\tV s.fl (aH (some (iG k))).length:=by
 obtain⟨cr,hf,hb⟩:=h.fl;have hnx:s.fl.L.next<=n:=h.nx.1
 obtain⟨f1,f2,f3,f4⟩:=hf.drop hk (by omega) (by omega);exact⟨h.cache hn f1 (by rw[lT,List.length_append,vM];dsimp only;omega) rfl f2 ⟨f3,f4⟩,hf.one.ok (by omega) (by omega)⟩
theorem dM.flush{s:lu}{n:Nat}{es:List (Option aB)}{cb jb:Nat}(h:dM s n es cb jb):dM (WZ s) (n+1) es cb jb:=by
 obtain⟨cr,hf,hb⟩:=h.fl;have hc:=hf.one.log.calls;have hc:(gj s.d).calls<=n+1:=by show s.d.calls+1<=_;have:s.d.calls<=n:=hc;omega
 have hnx:=h.nx;exact⟨⟨cr,hf.dev' (fun _ _ _ _ _=>rfl) rfl hc,hb⟩,h.jl.dev' (fun _ _ _ _ _=>rfl) rfl hc,h.jb,h.ms,by dsimp only[WZ];push_cast;omega,h.X9,h.dn,h.keep.dev' fun _ _ _ _=>rfl,h.bK⟩
theorem dM.seq{s:lu}{n:Nat}{es:List (Option aB)}{cb jb:Nat}(h:dM s n es cb jb):gU s.ms=s.ms.length:=by
 unfold gU;split
 ·rename_i h0;rw[h0];rfl
 ·rename_i h0;rw[(h.ms _ (by omega)).1];omega
theorem dM.len{s:lu}{n:Nat}{es:List (Option aB)}{cb jb:Nat}(h:dM s n es cb jb):s.ms.length<=42:=by
 have:=h.jl.len;rwa[List.length_map]at this
theorem dM.aa2{s:lu}{n:Nat}{es:List (Option aB)}{cb jb:Nat}(h:dM s n es cb jb){k:ByteArray}(hk:dS k=true){w:Nat}(hw:8+(dI (s.ms.length+1) k).length<=w)(hn:n<900000000)(hfit:jb+w<=378) :
 dM (Oz s k) (n+20) es cb (jb+w)/\uL s.jL s.d/\(Oz s k).ms=s.ms++[⟨s.ms.length+1,k,s.jL.next⟩]:=by
 obtain⟨g1,g2,g3,g4⟩:=h.X9;obtain⟨s1,s2,s3⟩:=Bw h.dn.1;have hsq:=h.seq;have hkl:=og hk;have hv:=iK ((s.ms.length:Int)+1);have hbl:1<=(dI (s.ms.length+1) k).length/\(dI (s.ms.length+1) k).length<=300:=by unfold dI;rw[List.length_append,iV];omega
 have hnx:=h.nx;have hjb:=h.jb;obtain⟨l1,l2,l3,l4⟩:=h.jl.append (body:=dI (s.ms.length+1) k) hbl (by omega) (by omega);have e:Oz s k={ s with d:=n9 s.jL s.d (dI (s.ms.length+1) k),jL:=lQ s.jL (dI (s.ms.length+1) k),ms:=s.ms++[⟨s.ms.length+1,k,s.jL.next⟩] }:=by
  have:J5 s.jr k=⟨lQ s.jL (dI (s.ms.length+1) k),n9 s.jL s.d (dI (s.ms.length+1) k),s.ms++[⟨s.ms.length+1,k,s.jL.next⟩]⟩:=by
   unfold J5;rw[show gU s.jr.ms=s.ms.length from hsq];rfl
  show({ s with d:=_,jL:=_,ms:=_ }:lu)=_;rw[this]
 have hout:∀r,(r<2\/162<=r)->∀j,(n9 s.jL s.d (dI (s.ms.length+1) k)).now r j=s.d.now r j:=fun r hr j=>Di (by omega) (by omega);have hdn:(n9 s.jL s.d (dI (s.ms.length+1) k)).n=s.d.n:=Ad _ _ _;have hm:(s.ms++[(⟨s.ms.length+1,k,s.jL.next⟩:eH)]).map Dj=s.ms.map Dj++[⟨s.jL.next,dI (s.ms.length+1) k⟩]:=by simp[Dj]
 obtain⟨cr,hf,hb⟩:=h.fl;refine⟨?_,h.jl.WY (by omega),by rw[e]⟩;rw[e];refine⟨⟨cr,hf.dev' (fun r h1 _ j _=>hout r (.inr (by have:s.fl.L.from_=162:=g1;omega)) j) hdn l1.calls,hb⟩,by dsimp only;rw[hm];exact l1,by dsimp only;rw[hm,lT,List.length_append,vM];dsimp only;omega,fun i hi=>?_,by dsimp only;rw[l2];push_cast;omega,⟨g1,by dsimp only;rw[hdn];exact g2,by dsimp only;rw[l4];exact g3,by dsimp only;rw[l3];exact g4⟩,by dsimp only;rw[hdn];exact h.dn,h.keep.dev' fun r hr j _=>hout r (.inl hr) j,h.bK⟩;have hi:i<s.ms.length+1:=by simpa using hi
 dsimp only;rw[kA hi];by_cases hl:i<s.ms.length
 ·rw[if_pos hl];exact h.ms i hl
 ·rw[if_neg hl];have:i=s.ms.length:=by omega
  subst this;exact⟨rfl,hk⟩
theorem OA{L:bP}{d:bw}{n:Nat}{rs:List RecM}(h:gW L d n rs):L.l.length<=1:=by
 obtain⟨base,_,_,hl⟩:=h.IQ;rw[hl];cases rs with
 |nil=>exact Nat.zero_le _
 |cons r rs=>exact Nat.le_refl _
theorem OB{fr sg:Nat}{d:bw}{n:Nat}{run:Int}(h3:3<=sg/\sg<=200)(hr:fr+sg*8<=d.n)(hn:d.n<100000)(hc:d.calls<=n)(hd:yy fr sg none run d):mM ⟨⟨fr,sg,[],1,1,true⟩,d,[]⟩ n [] []/\gW ⟨fr,sg,[],1,1,true⟩ d n []:=⟨mM.new h3 hr hn hc hd,(mM.new h3 hr hn hc hd).one.log⟩
theorem xP{d:bw}{c:Nat}(hn:192<=d.n/\d.n<3000)(hc:d.calls<=c)(hc2:c<900000000)(H:PH) :
 yx.pre ⟨d,H⟩/\dM (jR (rz ⟨d,H⟩)) (c+d.n+100) [] 0 0/\(jR (rz ⟨d,H⟩)).k.m=⟨1,0,0,false⟩/\(jR (rz ⟨d,H⟩)).ms=[]/\(∀r,(jR (rz ⟨d,H⟩)).d.loose r=false)/\(∀r j,(jR (rz ⟨d,H⟩)).d.EH r j=(jR (rz ⟨d,H⟩)).d.now r j)/\(jR (rz ⟨d,H⟩)).d.n=d.n:=by
 obtain⟨D0,hD0⟩:∃D,D=oR (eE d d.n) 0 (eL Bv):=⟨_,rfl⟩
 have hnow:∀r j,j<64->r<d.n->D0.now r j=if r=0 then xy 1 (eL Bv) j else 0:=fun r j hj hr=>by
  rw[hD0];show(if r=0+0/\j<64 then xy 1 (eL Bv) j else if r=0+1/\j<64 then 0 else if r=0/\j<64 then 0 else if r<d.n/\j<64 then 0 else d.now r j)=_;by_cases h0:r=0
  ·rw[if_pos (by omega),if_pos h0]
  ·rw[if_neg (by omega),if_neg h0];by_cases h1:r=1
   ·rw[if_pos (by omega)]
   ·rw[if_neg (by omega),if_neg (by omega),if_pos (by omega)]
 have hDn:D0.n=d.n:=by rw[hD0];rfl
 have hDc:D0.calls<=c+d.n+5:=by rw[hD0];show d.calls+d.n+1+1+1+1+1<=_;omega
 have hK:u6 (jx 0) D0:=⟨rfl,by decide,by decide,rfl,rfl,fun j hj=>by
  rw[show(jx 0).s.slot=0 from rfl,hnow 0 j hj (by omega),if_pos rfl];rfl,.inl fun j hj=>by
  rw[show 1-(jx 0).s.slot=1 from rfl,hnow 1 j hj (by omega),if_neg (by omega)]⟩
 have hs:gv (jx 0) (oh Bv)=true:=by decide
 obtain⟨k1,k2,k3,k4,k5,k6⟩:=hK.save hs (by decide);obtain⟨D,hD⟩:∃D,D=iq (jx 0) D0 (oh Bv):=⟨_,rfl⟩
 have hDD:D=gj (gi D0 (0+1) 64 (xy 2 (eL (oh Bv)))):=by rw[hD];unfold iq;rw[if_pos hs];rfl
 rw[<- hD]at k1 k4 k5 k6;obtain⟨s1,s2,s3⟩:=Bw hn.1;have hz:∀r,2<=r->r<d.n->∀j,j<64->D.now r j=0:=fun r h1 h2 j hj=>by rw[k6 r h1 j,hnow r j hj h2,if_neg (by omega)]
 have hd1:yy 2 20 none 1 D:=⟨fun i hi j hj=>hz _ (by omega) (by omega) j hj,fun r h1 h2 j hj=>hz r (by omega) (by omega) j hj⟩
 have hd2:yy 162 (iP d.n) none 1 D:=⟨fun i hi j hj=>hz _ (by omega) (by omega) j hj,fun r h1 h2 j hj=>hz r (by omega) (by omega) j hj⟩
 obtain⟨a1,a2⟩:=Fg hd1 (by omega) (by omega) (by omega);obtain⟨b1,b2⟩:=Fg hd2 (by omega) (by omega) (by omega);have e0:rz ⟨d,H⟩=⟨jx 0,0,D0,H,[],[]⟩:=by rw[hD0];rfl
 have e1:jR (rz ⟨d,H⟩)=⟨D,⟨162,iP d.n,[],1,1,true⟩,[],⟨2,20,[],1,1,true⟩,[],mL (jx 0) (oh Bv),1⟩:=by
  rw[e0];show(⟨iq (jx 0) D0 (oh Bv),cN 162 (iP D0.n) (iq (jx 0) D0 (oh Bv)),_,cN 2 20 (iq (jx 0) D0 (oh Bv)),_,_,_⟩:lu)=_;rw[<- hD,hDn,a2,b2];rfl
 obtain⟨n1,_⟩:=OB (n:=c+d.n+100) (d:=D) ⟨s1,s2⟩ (by omega) (by omega) (by omega) hd2;obtain⟨_,n2⟩:=OB (n:=c+d.n+100) (d:=D) (show 3<=20/\20<=200 by omega) (by omega) (by omega) (by omega) hd1;refine⟨⟨hn.1,by show d.n<100000;omega,by show d.calls<_;omega,?_⟩,?_,?_,?_,?_,?_,?_⟩
 ·rw[e0];refine⟨by dsimp only;omega,by dsimp only;omega,hs,⟨rfl,by show(0:Nat)<=1;omega,by show(0:Int)<=1;omega,by show(1:Int)<1000000000000;omega⟩,fun H=>?_,fun H=>?_⟩
  ·show zY.pre ⟨H,iq (jx 0) D0 (oh Bv),2,20,[]⟩;rw[<- hD];refine⟨Nat.le_refl _,a1,?_,?_⟩
   ·rw[show cN (vV.mk H D 2 20 []).from_ (vV.mk H D 2 20 []).au (vV.mk H D 2 20 []).d=_ from a2];exact⟨rfl,by show(0:Nat)<9000;omega,fun i hi=>absurd hi (Nat.not_lt_zero i),fun i hi=>absurd hi (Nat.not_lt_zero _)⟩
   ·rw[show cN (vV.mk H D 2 20 []).from_ (vV.mk H D 2 20 []).au (vV.mk H D 2 20 []).d=_ from a2];exact fun i hi=>absurd hi (Nat.not_lt_zero i)
  ·show zT.pre ⟨H,iq (jx 0) D0 (oh Bv),162,iP D0.n,[]⟩;rw[<- hD,hDn];refine⟨b1,?_,?_⟩
   ·rw[show cN (kX.mk H D 162 (iP d.n) []).from_ (kX.mk H D 162 (iP d.n) []).au (kX.mk H D 162 (iP d.n) []).d=_ from b2];exact⟨rfl,by show(0:Nat)<9000;omega,fun i hi=>absurd hi (Nat.not_lt_zero i)⟩
   ·rw[show cN (kX.mk H D 162 (iP d.n) []).from_ (kX.mk H D 162 (iP d.n) []).au (kX.mk H D 162 (iP d.n) []).d=_ from b2];exact fun i hi=>absurd hi (Nat.not_lt_zero i)
 all_goals rw[e1]
 ·exact⟨⟨[],n1,Nat.le_refl _⟩,n2,Nat.le_refl _,fun i hi=>absurd hi (Nat.not_lt_zero i),by dsimp only;rw[k3];show _/\_/\(1:Int)+1<=_;omega,⟨rfl,by dsimp only;rw[k4,hDn],rfl,rfl⟩,by dsimp only;rw[k4,hDn];exact hn,k1,by dsimp only;rw[k2];rfl⟩
 ·exact k2
 ·rw[hDD];exact fun _=>rfl
 ·rw[hDD];exact fun _ _=>rfl
 ·exact k4.trans hDn
def oq(s:lu)(ks:List ByteArray)(i:Nat):lu:={ s with d:=(dg s.jr ks i).d,jL:=(dg s.jr ks i).L,ms:=(dg s.jr ks i).ms }
def ta(s:lu)(ks:List ByteArray)(i:Nat):lu:={ s with d:=(gh s.fl ks i).d,cL:=(gh s.fl ks i).L,cl:=(gh s.fl ks i).l }
structure Ya(s:lu)(n:Nat)(es:List (Option aB))(cb jb:Nat)(ks:List ByteArray)(i:Nat):Prop where
 one:dM (oq s ks i) n es cb jb
 len:(oq s ks i).ms.length=s.ms.length+i
 ok:∀j,j<i->uL (dg s.jr ks j).L (dg s.jr ks j).d/\0<=gU (dg s.jr ks j).ms/\gU (dg s.jr ks j).ms<1000000000000
 key:∀j,j<i->(gl (oq s ks i).ms (s.ms.length+j)).key=gl ks j
 dn:(oq s ks i).d.n=s.d.n
theorem dM.Yb{s:lu}{n:Nat}{es:List (Option aB)}{cb jb:Nat}(h:dM s n es cb jb){ks:List ByteArray}(hK:∀i,i<ks.length->dS (gl ks i)=true){w:Nat}(hw:∀i,i<ks.length->8+(dI (s.ms.length+i+1) (gl ks i)).length<=w)(hn:n+20*ks.length<900000000)(hfit:jb+w*ks.length<=378) :
 ∀i,i<=ks.length->Ya s (n+20*i) es cb (jb+w*i) ks i
 |0,_=>⟨h,rfl,fun j hj=>absurd hj (Nat.not_lt_zero j),fun j hj=>absurd hj (Nat.not_lt_zero j),rfl⟩
 |i+1,hi=>by
  have ih:=dM.Yb h hK hw hn hfit i (by omega);have hl:=ih.len;have hfit2:jb+w*i+w<=378:=by
   have:w*(i+1)<=w*ks.length:=Nat.mul_le_mul_left w hi;rw[Nat.mul_add,Nat.mul_one]at this;omega
  have hw2:8+(dI ((oq s ks i).ms.length+1) (gl ks i)).length<=w:=by
   have:=hw i (by omega);rw[hl];push_cast;exact this
  obtain⟨a1,a2,a3⟩:=ih.one.aa2 (hK i (by omega)) hw2 (by omega) hfit2;have e:oq s ks (i+1)=Oz (oq s ks i) (gl ks i):=rfl;have hsq:=ih.one.seq;have hlen:=ih.one.len;refine⟨by rw[e,show n+20*(i+1)=n+20*i+20 by omega,show jb+w*(i+1)=jb+w*i+w by rw[Nat.mul_add];omega];exact a1,by rw[e,a3,List.length_append,hl];rfl,fun j hj=>?_,fun j hj=>?_,?_⟩
  ·by_cases ej:j=i
   ·subst ej;refine⟨a2,?_⟩;show 0<=gU (oq s ks j).ms/\gU (oq s ks j).ms<_;rw[hsq];omega
   ·exact ih.ok j (by omega)
  ·rw[e,a3,kA (by omega)];by_cases ej:j=i
   ·subst ej;rw[if_neg (by omega)]
   ·rw[if_pos (by omega)];exact ih.key j (by omega)
  ·rw[e,<- ih.dn];exact Ad _ _ _
structure Wr(s:lu)(n:Nat)(es:List (Option aB))(cb jb:Nat)(ks:List ByteArray)(i:Nat):Prop where
 one:dM (ta s ks i) n es cb jb
 ok:∀j,j<i->tV (gh s.fl ks j) (aH (some (iG (gl ks j)))).length
 dn:(ta s ks i).d.n=s.d.n
theorem dM.W0{s:lu}{n:Nat}{es:List (Option aB)}{cb jb:Nat}(h:dM s n es cb jb){ks:List ByteArray}(hK:∀i,i<ks.length->dS (gl ks i)=true){w:Nat}(hw:∀i,i<ks.length->8+(aH (some (iG (gl ks i)))).length<=w)(hn:n+20*ks.length<900000000)(hfit:cb+w*ks.length<=378) :
 ∀i,i<=ks.length->Wr s (n+20*i) (es++(ks.take i).map fun q=>some (iG q)) (cb+w*i) jb ks i
 |0,_=>⟨by rw[List.take_zero,List.map_nil,List.append_nil];exact h,fun j hj=>absurd hj (Nat.not_lt_zero j),rfl⟩
 |i+1,hi=>by
  have ih:=dM.W0 h hK hw hn hfit i (by omega);have hfit2:cb+w*i+w<=378:=by
   have:w*(i+1)<=w*ks.length:=Nat.mul_le_mul_left w hi;rw[Nat.mul_add,Nat.mul_one]at this;omega
  obtain⟨a1,a2⟩:=ih.one.Zq (hK i (by omega)) (hw i (by omega)) (by omega) hfit2;have e:ta s ks (i+1)=Uk (ta s ks i) (gl ks i):=rfl;have es':es++(ks.take (i+1)).map (fun q=>some (iG q))=es++(ks.take i).map (fun q=>some (iG q))++[some (iG (gl ks i))]:=by
   rw[pO (by omega)];simp
  refine⟨by rw[e,es',show n+20*(i+1)=n+20*i+20 by omega,show cb+w*(i+1)=cb+w*i+w by rw[Nat.mul_add];omega];exact a1,fun j hj=>?_,?_⟩
  ·by_cases ej:j=i
   ·subst ej;exact a2
   ·exact ih.ok j (by omega)
  ·rw[e,<- ih.dn];exact Ad _ _ _
theorem dM.Kh{s:lu}{n:Nat}{es:List (Option aB)}{cb jb:Nat}(h:dM s n es cb jb):dH (cB s.jL) s.ms=s.ms:=J2 fun i hi=>by
 have hm:Dj (gl s.ms i)∈s.ms.map Dj:=List.mem_map.2 ⟨_,by rw[bR hi];exact List.getElem_mem _,rfl⟩;exact h.jl.rd.first hm
structure Yc(s:lu)(n:Nat)(es:List (Option aB))(cb jb:Nat)(ks:List ByteArray):Prop where
 one:dM (jS s ks) n es cb jb
 len:(jS s ks).ms.length=s.ms.length+ks.length
 seq:gU (gV s.jr ks).ms=s.ms.length+ks.length
 key:∀j,j<ks.length->(gl (jS s ks).ms (s.ms.length+j)).key=gl ks j
 dn:(jS s ks).d.n=s.d.n
 k:(jS s ks).k=s.k/\(jS s ks).bK=s.bK
 still:(∀r,(jS s ks).d.loose r=false)/\∀r j,(jS s ks).d.EH r j=(jS s ks).d.now r j
theorem Qr{s:lu}{n:Nat}{es:List (Option aB)}{cb jb:Nat}(h:dM s n es cb jb){ks:List ByteArray}(hA:fu ks=true){w:Nat}(hw:∀i,i<ks.length->8+(dI (s.ms.length+i+1) (gl ks i)).length<=w)(hn:n+20*ks.length<900000000)(hfit:jb+w*ks.length<=378)(hl:ks.length<=20) :
 dM (lz s ks) (n+20*ks.length+1) es cb (jb+w*ks.length)/\(lz s ks).ms=(oq s ks ks.length).ms/\(lz s ks).d.n=s.d.n/\(lz s ks).k=s.k/\(lz s ks).bK=s.bK/\(∀p kc,bT p.H p.y s.jL->s.ms.length<=p.cap->Fa.pre ⟨s.jr,p,ks,kc⟩):=by
 have hK:∀i,i<ks.length->dS (gl ks i)=true:=fun i hi=>List.all_eq_true.1 hA (gl ks i) (by rw[bR hi];exact List.getElem_mem _);have ha:=h.Yb hK hw hn hfit ks.length (Nat.le_refl _);have hpre:∀p kc,bT p.H p.y s.jL->s.ms.length<=p.cap->Fa.pre ⟨s.jr,p,ks,kc⟩:=fun p kc h1 h2=>by
  have l1:=OA h.jl;have l2:=OA ha.one.jl;have l3:=h.len;have hd:=h.dn;obtain⟨cr,hf,_⟩:=ha.one.fl;have hc:=hf.one.log.calls;refine⟨h1,by show s.jL.l.length<800;omega,by show ks.length<1000;omega,by show s.ms.length<50000;omega,h2,fun _=>⟨ha.ok,?_,?_,?_⟩⟩
  ·show(oq s ks ks.length).d.n<_;rw[ha.dn];omega
  ·show(oq s ks ks.length).d.calls<_;have:(oq s ks ks.length).d.calls<=n+20*ks.length:=hc;omega
  ·show(oq s ks ks.length).jL.l.length<_;omega
 by_cases h0:ks.length=0
 ·have e:lz s ks=s:=by
   have:gV s.jr ks=⟨s.jL,s.d,s.ms⟩:=by
    unfold gV;rw[if_pos hA,if_pos h0];show(⟨s.jL,s.d,dH (cB s.jL) s.ms⟩:IT)=_;rw[h.Kh]
   unfold lz;rw[this]
  rw[e,h0];obtain⟨cr,hf,hcb⟩:=h.fl;have hc:=hf.one.log.calls;have hc:s.d.calls<=n:=hc;have hnx:=h.nx;refine⟨⟨⟨cr,hf.dev' (fun _ _ _ _ _=>rfl) rfl (by show s.d.calls<=_;omega),hcb⟩,h.jl.dev' (fun _ _ _ _ _=>rfl) rfl (by omega),h.jb,h.ms,by push_cast;omega,h.X9,h.dn,h.keep,h.bK⟩,rfl,rfl,rfl,rfl,hpre⟩
 ·have e:lz s ks=WZ (oq s ks ks.length):=by
   have:gV s.jr ks=⟨(dg s.jr ks ks.length).L,gj (dg s.jr ks ks.length).d,(dg s.jr ks ks.length).ms⟩:=by
    unfold gV;rw[if_pos hA,if_neg h0];show(⟨(dg s.jr ks ks.length).L,gj (dg s.jr ks ks.length).d,dH (cB (dg s.jr ks ks.length).L) (dg s.jr ks ks.length).ms⟩:IT)=_;rw[show dH (cB (dg s.jr ks ks.length).L) (dg s.jr ks ks.length).ms=(dg s.jr ks ks.length).ms from ha.one.Kh]
   unfold lz;rw[this];rfl
  rw[e];exact⟨ha.one.flush,rfl,ha.dn,rfl,rfl,hpre⟩
theorem dM.kill{s:lu}{n:Nat}{es:List (Option aB)}{cb jb:Nat}(h:dM s n es cb jb){ks:List ByteArray}(hA:fu ks=true){wj wc:Nat}(hwj:∀i,i<ks.length->8+(dI (s.ms.length+i+1) (gl ks i)).length<=wj)(hwc:∀i,i<ks.length->8+(aH (some (iG (gl ks i)))).length<=wc)(hn:n<800000000)(hfj:jb+wj*ks.length<=378)(hfc:cb+wc*ks.length<=378)(hl:ks.length<=20) :
 (∀p kc,Ab ⟨s,p,ks,kc⟩)/\Yc s (n+40*ks.length+2) (es++ks.map fun q=>some (iG q)) (cb+wc*ks.length) (jb+wj*ks.length) ks:=by
 have hK:∀i,i<ks.length->dS (gl ks i)=true:=fun i hi=>List.all_eq_true.1 hA (gl ks i) (by rw[bR hi];exact List.getElem_mem _);have ha:=h.Yb hK hwj (by omega) hfj ks.length (Nat.le_refl _);obtain⟨j1,j2,j3,j4,j5,j6⟩:=Qr h hA hwj (by omega) hfj hl;have hd:=j1.W0 hK hwc (by omega) hfc ks.length (Nat.le_refl _);have ek:jS s ks=WZ (ta (lz s ks) ks ks.length):=by
  unfold jS;rw[if_pos hA];unfold Oq nJ;rw[if_pos hA];rfl
 have hms:(jS s ks).ms=(oq s ks ks.length).ms:=by rw[ek];exact j2
 refine⟨fun p kc=>⟨by show ks.length<1000;omega,fun _ q h1 h2=>j6 q kc h1 h2,fun _ q h1=>⟨h1,by show ks.length<1000;omega,fun _=>⟨hd.ok,?_,?_⟩⟩⟩,?_⟩
 ·show(ta (lz s ks) ks ks.length).d.n<_;rw[hd.dn,j3];have:=h.dn;omega
 ·show(ta (lz s ks) ks ks.length).d.calls<_;obtain⟨cr,hf,_⟩:=hd.one.fl;have hc:=hf.one.log.calls;have:(ta (lz s ks) ks ks.length).d.calls<=n+20*ks.length+1+20*ks.length:=hc;omega
 ·have h1:=hd.one.flush;rw[List.take_length,show n+20*ks.length+1+20*ks.length+1=n+40*ks.length+2 by omega,<- ek]at h1;refine⟨h1,by rw[hms];exact ha.len,?_,fun j hj=>by rw[hms];exact ha.key j hj,by rw[ek];show(ta (lz s ks) ks ks.length).d.n=_;rw[hd.dn,j3],by rw[ek];exact⟨j4,j5⟩,by rw[ek];exact⟨fun _=>rfl,fun _ _=>rfl⟩⟩;have h2:=h1.seq;rw[hms,ha.len]at h2;have:(gV s.jr ks).ms=(oq s ks ks.length).ms:=j2;rw[this,h2];push_cast;rfl
theorem dM.get{s:lu}{n:Nat}{es:List (Option aB)}{cb jb:Nat}(h:dM s n es cb jb)(k:ByteArray):P4 s.fl/\CY s.fl k (gE es k):=by
 obtain⟨cr,hf,_⟩:=h.fl;exact⟨hf.one.has.aa1,hf.one.has.gH k⟩
end Go.Proofs.YtfjgoonelcaggaaGreat
namespace Go.Sx
theorem eu.below{w w':World}(h:eu (fun _=>False) w w'):Go.RowKit.Below w.heap.size w w':=⟨h.os,h.tape,h.output,h.size,fun k hk=>h.block k hk id⟩
open Go.WideShapes Go.ChangeShapes in
theorem HX{H:Type}{enc:TypeId×Value->H}{P:Program}{f:Func}{s:ChangeSpec}{apart fresh handsOn again:Bool}{W W':World}{args:Array Value}{v:Value}{ds gs:List (DataW H)}{pa:List MemPlace}
 (hW:DataW.Whole enc P f.params.toList s.vars apart W args.toList ds gs (pa++[]))
 (hres:∀(b:Nat) (sp:Nat->Bool) (hd:Bool),DataW.TrodAll enc P W' b sp hd f.resultTypes.toList (v.resultList f.resultTypes.size) (s.fn H (ds++gs)).results [])
 (hargs:∀sp:Nat->Bool,(∀p∈pa++[],sp p.block=true)->DataW.TrodAll enc P W' 0 sp true f.params.toList args.toList (s.fn H (ds++gs)).args pa)
 (hvars:∀sp:Nat->Bool,(∀p∈pa++[],sp p.block=true)->DataW.TrodVars enc P W' sp s.vars (s.fn H (ds++gs)).vars [])
 (hk:eu (fun _=>False) W W')
 (hok:∀(j:Nat) (t:TypeId) (r:Value),f.resultTypes[j]? = some t->(v.resultList f.resultTypes.size)[j]? = some r->Value.okWide P W' .any 0 t r) :
 s.post enc P f apart fresh handsOn again W args v W':=by
 have hl:=hW.lt;have hall:∀p∈pa++[],(fun _=>true:Nat->Bool) p.block=true:=fun _ _=>rfl;have hold:∀p∈pa++[],(fun b=>decide (b<W.heap.size)) p.block=true:=fun p hp=>decide_eq_true (hl p hp);have hmem:∀p,p∈([]++pa)++[]->p∈pa++[]:=fun p hp=>by simpa using hp
 refine⟨ds,gs,pa++[],[],pa,[],hW,hres _ _ _,hargs _ hold,hvars _ hold,World.keptBut_mono (may:=(·∈pa++[])) (fun p hp=>⟨hp,.inr (by simpa using hp)⟩) (hk.below.frame _),fun _=>?_⟩;obtain⟨_,_,_,_,_,hz,hn⟩:=hW;refine⟨hok,_,_,([]++pa)++[],⟨[]++pa,[],trodAll_append (hargs _ hall) (hres _ _ _),hvars _ hall,rfl,fun b off hp=>?_,fun ha=>by simpa using hn ha⟩,fun p hp _=>by simpa using hp⟩;rw[hk.YC _ (hl _ (hmem _ hp))];exact hz b off (hmem _ hp)
open Go.RowKit
def Dk(P:Program)(g:TypeId->Option (List CK)):List Field->Nat->Option (List CK)
 |[],_=>some []
 |f::r,o=>match g f.type,Dk P g r (o+P.cellsOf f.type)with
  |some ks,some l=>bif Nat.beq f.offset o&&Nat.beq ks.length (P.cellsOf f.type)then some (ks++l)else none
  |_,_=>none
def tc(dp:Bool)(P:Program):Nat->TypeId->Option (List CK)
 |0,_=>none
 |d+1,t=>match P.underlying t with
  |some (.slice _)=>bif dp then some [.deep]else none
  |some .bool=>some [.bool]
  |some (.int k)=>some [.int k]
  |some .string=>some [.str]
  |some (.struct fs)=>match Dk P (tc dp P d) fs.toList 0 with
   |some ks=>bif Nat.beq ks.length (P.cellsOf t)then some ks else none
   |none=>none
  |some (.array n e)=>match tc dp P d e with
   |some ks=>bif Nat.beq ks.length (P.cellsOf e)&&Nat.beq (n*ks.length) (P.cellsOf t)then some (rep n ks)else none
   |none=>none
  |_=>none
def HY(P:Program):Nat->TypeId->Option (List CK):=tc false P
structure u7(ks:List CK)(cs:List Value):Prop where
 len:cs.length=ks.length
 ok:∀(j:Nat) (k:CK) (v:Value),ks[j]? = some k->cs[j]? = some v->k.ok v
theorem u7.append{ks ls:List CK}{cs ds:List Value}(h:u7 ks cs)(g:u7 ls ds):u7 (ks++ls) (cs++ds):=by
 refine⟨by simp[h.len,g.len],fun j k v hk hv=>?_⟩;by_cases hj:j<ks.length
 ·rw[List.getElem?_append_left hj]at hk;rw[List.getElem?_append_left (by rw[h.len];exact hj)]at hv;exact h.ok j k v hk hv
 ·rw[List.getElem?_append_right (by omega)]at hk;rw[List.getElem?_append_right (by rw[h.len];omega),h.len]at hv;exact g.ok _ k v hk hv
section
variable {H:Type} {enc:TypeId×Value->H} {P:Program} {w:World} {base:Nat} {spare:Nat->Bool} {held:Bool}
theorem Fl{g:TypeId->Option (List CK)}{n:Nat}{cs:List Value}
 (hg:∀t cs x ks,DataW.trod enc P w base spare held n t cs=some x->g t=some ks->u7 ks cs) :
 ∀(fs:List Field) (o:Nat) (ks:List CK),Dk P g fs o=some ks->(∀f∈fs,∃x,DataW.trod enc P w base spare held n f.type ((cs.drop f.offset).take (P.cellsOf f.type))=some x)->o+ks.length=cs.length->u7 ks (cs.drop o)
 |[],o,ks,h,_,hl=>by
  simp[Dk]at h;subst h;refine⟨by simp at hl ⊢;omega,fun j k v hk=>by simp at hk⟩
 |f::r,o,ks,h,hf,hl=>by
  simp only[Dk]at h;split at h
  ·rename_i k1 l1 e1 e2;cases hb:(Nat.beq f.offset o&&Nat.beq k1.length (P.cellsOf f.type))
   ·rw[hb]at h;cases h
   rw[hb]at h;simp only[cond_true,Option.some.injEq]at h;subst h;simp only[Bool.and_eq_true]at hb;have ho:=Nat.eq_of_beq_eq_true hb.1;have hk:=Nat.eq_of_beq_eq_true hb.2;obtain⟨x,hx⟩:=hf f List.mem_cons_self;rw[ho]at hx;have h1:=hg _ _ _ _ hx e1;have h2:=Fl hg r _ l1 e2 (fun f hf'=>hf f (List.mem_cons_of_mem _ hf')) (by rw[<- hk];simp at hl;omega);have e:cs.drop o=(cs.drop o).take (P.cellsOf f.type)++cs.drop (o+P.cellsOf f.type):=by
    rw[<- List.drop_drop,List.take_append_drop]
   rw[e];exact h1.append h2
  ·cases h
theorem Ul{ks:List CK}{cs:List Value}:∀(n:Nat) (o:Nat),(∀i,i<n->u7 ks ((cs.drop (o+i*ks.length)).take ks.length))->o+n*ks.length=cs.length->u7 (rep n ks) (cs.drop o)
 |0,o,_,hl=>⟨by simp at hl;simp[rep];omega,fun j k v hk=>by simp[rep]at hk⟩
 |n+1,o,h,hl=>by
  have h1:=h 0 (by omega);have h2:=Ul (ks:=ks) (cs:=cs) n (o+ks.length) (fun i hi=>by
   have:=h (i+1) (by omega);rwa[Nat.succ_mul,show o+(i*ks.length+ks.length)=o+ks.length+i*ks.length by omega]at this) (by rw[Nat.succ_mul]at hl;omega)
  have e:cs.drop o=(cs.drop o).take ks.length++cs.drop (o+ks.length):=by
   rw[<- List.drop_drop,List.take_append_drop]
  rw[e,rep];exact u7.append (by simpa using h1) h2
theorem yC{dp:Bool}:∀(d n:Nat) (t:TypeId) (cs:List Value) (x:DataW H×List MemPlace) (ks:List CK),DataW.trod enc P w base spare held n t cs=some x->tc dp P d t=some ks->u7 ks cs
 |0,_,_,_,_,_,_,h=>by simp[tc]at h
 |d+1,n,t,cs,x,ks,hx,h=>by
  simp only[tc]at h;split at h
  ·rename_i e hu;cases dp with
   |false=>cases h
   |true =>
    simp only[cond_true,Option.some.injEq]at h;subst h;have one:∃v:Value,cs=[v]/\v.oneCell'=true:=by
     rcases DataW.trod_slice hu hx with⟨hv,_⟩ | ⟨a,len,cap,elems,rest,m,_,hv,_⟩<;>exact⟨_,hv,rfl⟩
    obtain⟨v,rfl,hv⟩:=one;refine⟨rfl,fun j k u hk hv'=>?_⟩;cases j with
    |zero=>simp at hk hv';subst hk hv';exact hv
    |succ j=>simp at hk
  ·rename_i hu;cases h;obtain⟨b,rfl,_⟩:=DataW.trod_bool hu hx;refine⟨rfl,fun j k v hk hv=>?_⟩;cases j with
   |zero=>simp at hk hv;subst hk hv;exact⟨b,rfl⟩
   |succ j=>simp at hk
  ·rename_i k hu;cases h;obtain⟨m,rfl,_,hw⟩:=DataW.trod_int hu hx;refine⟨rfl,fun j k' v hk hv=>?_⟩;cases j with
   |zero=>simp at hk hv;subst hk hv;exact⟨m,rfl,by rw[FF];simpa[Lit.wf]using hw⟩
   |succ j=>simp at hk
  ·rename_i hu;cases h;obtain⟨s,rfl,_,hs⟩:=DataW.trod_string hu hx;refine⟨rfl,fun j k' v hk hv=>?_⟩;cases j with
   |zero=>simp at hk hv;subst hk hv;exact⟨s,rfl,by unfold aq;unfold maxLen at hs;exact hs⟩
   |succ j=>simp at hk
  ·rename_i fs hu;obtain⟨xs,m,rfl,_,hl,hlen,hget⟩:=DataW.trod_struct hu hx;split at h
   ·rename_i ks' e;cases hb:Nat.beq ks'.length (P.cellsOf t)
    ·rw[hb]at h;cases h
    rw[hb]at h;cases h;have hb:=Nat.eq_of_beq_eq_true hb;have:=Fl (enc:=enc) (w:=w) (base:=base) (spare:=spare) (held:=held) (n:=m) (cs:=cs) (fun t cs x ks h1 h2=>yC d m t cs x ks h1 h2) fs.toList 0 ks e (fun f hf=>by
     obtain⟨i,hi,e⟩:=List.getElem_of_mem hf;have hi':i<fs.size:=by simpa using hi
     have h1:=hget i f (by rw[Array.getElem?_eq_getElem hi'];congr 1);rw[h1];exact⟨xs[i]'(by omega),List.getElem?_eq_getElem _⟩) (by omega)
    simpa using this
   ·cases h
  ·rename_i k e hu;obtain⟨xs,m,rfl,_,hl,hlen,hget⟩:=DataW.trod_array hu hx;split at h
   ·rename_i ks' e';cases hb:(Nat.beq ks'.length (P.cellsOf e)&&Nat.beq (k*ks'.length) (P.cellsOf t))
    ·rw[hb]at h;cases h
    rw[hb]at h;cases h;simp only[Bool.and_eq_true]at hb;have hb1:=Nat.eq_of_beq_eq_true hb.1;have hb2:=Nat.eq_of_beq_eq_true hb.2;have:=Ul (ks:=ks') (cs:=cs) k 0 (fun i hi=>by
     have h1:=hget i hi;rw[List.getElem?_eq_getElem (by omega)]at h1;rw[hb1,Nat.zero_add];exact yC d m e _ _ _ h1 e') (by rw[hb2];omega)
    simpa using this
   ·cases h
  ·cases h
inductive RK where
 |c (k:CK)
 |s (e:TypeId) (ks:List CK)
inductive AK where
 |int (k:IntKind)
 |bool
 |str
 |agg (ks:List CK)
 |slc (e:TypeId) (ks:List CK)
 |Ws (fs:List RK)
def Um(P:Program)(u:TypeId):Bool:=match P.underlying u with
 |some (.slice _)=>true
 |_=>false
def Fm(P:Program)(d:Nat)(ts:List TypeId):List Field->Nat->Option (List RK)
 |[],_=>some []
 |f::r,o=>bif Nat.beq f.offset o then
  (match P.underlying f.type with
  |some (.slice e)=>match HY P d e,ts[o]?,Fm P d ts r (o+1)with
   |some ks,some u,some l=>bif Nat.beq ks.length (P.cellsOf e)&&(Nat.ble 1 ks.length&&(Nat.beq (P.cellsOf f.type) 1&&Um P u))then some (.s e ks::l)else none
   |_,_,_=>none
  |_=>match HY P d f.type,Fm P d ts r (o+P.cellsOf f.type)with
   |some ks,some l=>bif Nat.beq ks.length (P.cellsOf f.type)then some (ks.map .c++l)else none
   |_,_=>none)else none
def Zr(P:Program)(d:Nat)(t:TypeId):Option AK :=
 match P.underlying t with
 |some .bool=>some .bool
 |some (.int k)=>some (.int k)
 |some .string=>some .str
 |some (.struct fs)=>match HY P d t with
  |some ks=>some (.agg ks)
  |none=>match P.cellTypes P.depth t with
   |some ts=>match Fm P d ts fs.toList 0 with
    |some l=>bif Nat.beq l.length (P.cellsOf t)&&Nat.beq ts.length (P.cellsOf t)then some (.Ws l)else none
    |none=>none
   |none=>none
 |some (.slice e)=>match tc true P d e with
  |some ks=>bif Nat.beq ks.length (P.cellsOf e)&&Nat.ble 1 ks.length then some (.slc e ks)else none
  |none=>none
 |_=>none
def Dl(P:Program)(d:Nat):List TypeId->Option (List AK)
 |[]=>some []
 |t::r=>match Zr P d t,Dl P d r with
  |some k,some l=>some (k::l)
  |_,_=>none
inductive RD where
 |a (x:A)
 |s (m n cap:Nat) (rows:Nat->Nat->Value)
inductive AD where
 |a (x:A)
 |agg (xs:List A)
 |slc (m n cap:Nat) (rows:Nat->Nat->Value)
 |Ws (xs:List RD)
def aa3:RK->RD->Prop
 |.c k,d=>∃v,d = .a (lG k v)/\k.ok v
 |.s _ ks,d=>∃n cap rows,d = .s ks.length n cap rows/\n<=cap/\cap<=aq/\∀i,i<n->∀(j:Nat) (k:CK),ks[j]? = some k->k.ok (rows i j)
def Ki:List RK->List RD->Prop
 |[],l=>l=[]
 |k::ks,l=>∃d r,l=d::r/\aa3 k d/\Ki ks r
def Yd:Nat->List RD->List A
 |_,[]=>[]
 |n,.a x::r=>x::Yd n r
 |n,.s m l c _::r=>.slc n 0 m l c::Yd (n+1) r
def yD:Nat->List RK->List RD->List (Nat×Chunk)
 |n,.s e ks::r,.s _ l _ rows::q=>(n,.arr e ks l rows)::yD (n+1) r q
 |n,_::r,_::q=>yD n r q
 |_,_,_=>[]
def rN:List RD->Nat
 |[]=>0
 |.s _ _ _ _::r=>rN r+1
 |_::r=>rN r
def aa4:AK->AD->Prop
 |.int k,d=>∃n,d = .a (.int k n)/\bL k n
 |.bool,d=>∃b,d = .a (.bool b)
 |.str,d=>∃s,d = .a (.str s)/\s.size<=aq
 |.agg ks,d=>∃r:Nat->Value,d = .agg (atoms r ks 0)/\∀(j:Nat) (k:CK),ks[j]? = some k->k.ok (r j)
 |.slc _ ks,d=>∃n cap rows,d = .slc ks.length n cap rows/\n<=cap/\cap<=aq/\∀i,i<n->∀(j:Nat) (k:CK),ks[j]? = some k->k.ok (rows i j)
 |.Ws fs,d=>∃xs,d = .Ws xs/\Ki fs xs
def Kj:List AK->List AD->Prop
 |[],l=>l=[]
 |k::ks,l=>∃d r,l=d::r/\aa4 k d/\Kj ks r
def W1:Nat->List AD->List SV
 |_,[]=>[]
 |n,.a x::r=>.a x::W1 n r
 |n,.agg xs::r=>.agg xs::W1 n r
 |n,.slc m l c _::r=>.a (.slc n 0 m l c)::W1 (n+1) r
 |n,.Ws xs::r=>.agg (Yd n xs)::W1 (n+rN xs) r
def MM:Nat->List AK->List AD->List (Nat×Chunk)
 |n,.slc e ks::r,.slc _ l _ rows::s=>(n,.arr e ks l rows)::MM (n+1) r s
 |n,.Ws fs::r,.Ws xs::s=>yD n fs xs++MM (n+rN xs) r s
 |n,_::r,_::s=>MM n r s
 |_,_,_=>[]
def HZ:List AD->Nat
 |[]=>0
 |.slc _ _ _ _::r=>HZ r+1
 |.Ws xs::r=>HZ r+rN xs
 |_::r=>HZ r
theorem Dm{w:World}{base:Nat}{a:Addr}:∀ {n:Nat} {cs:List Value},w.cells? base a n=some cs->cs.length=n/\base<=a.block/\∀i,i<n->w.cell? (a.add i)=cs[i]?:=by
 intro n cs h;unfold World.cells? at h;split at h
 ·rename_i hb;have hl:=mapM_some_length h;refine⟨by simpa using hl,hb,fun i hi=>?_⟩;exact mapM_some_get h i i (by simp[hi])
 ·cases h
theorem Addr.Wt(a:Addr)(n:Nat)(h:a.spot=none):a.add n=⟨a.block,a.off+n,none⟩:=by
 unfold Addr.add;split
 ·subst_vars;cases a;simp_all
 ·cases a;simp_all
theorem Fo{dp:Bool}{t e:TypeId}{ks:List CK}{d fuel:Nat}{v:Value}{dd:DataW H}{ps:List MemPlace}(ht:P.underlying t=some (.slice e))(hf:tc dp P d e=some ks)(hk:ks.length=P.cellsOf e)(hk1:1<=ks.length)
 (h:DataW.trod enc P w 0 (fun _=>true) held fuel t [v]=some (dd,ps)) (hz:∀b off,MemPlace.cell b off∈ps->w.frozen? ⟨b,off,none⟩=false) :
 ∃(p:Place) (n cap:Nat) (rows:Nat->Nat->Value),n<=cap/\cap<=aq/\(∀i,i<n->∀(j:Nat) (k:CK),ks[j]? = some k->k.ok (rows i j))/\(∀b,p.fp b->b<w.heap.size) /\
  (∀(ρ:Env) (T:Nat),T<ρ.n->ρ.pl T=p->(A.slc T 0 ks.length n cap).b8 ρ v)/\(∀(ρ:Env),(Chunk.arr e ks n rows).Sat ρ p w) /\
  ∀i,i<n->∃(m:Nat) (cs:List Value) (x:DataW H×List MemPlace),DataW.trod enc P w 0 (fun _=>true) held m e cs=some x/\(∀b off,MemPlace.cell b off∈x.2->w.frozen? ⟨b,off,none⟩=false)/\u7 ks cs/\∀j,j<ks.length->cs[j]? = some (rows i j):=by
 rcases DataW.trod_slice ht h with⟨hv,_⟩ | ⟨a,len,cap,elems,rest,m,rfl,hv,hx,_,hlc,hcm,hel,hget,hsp,_⟩
 ·cases hv;refine⟨xY,0,0,fun _ _=>undef,Nat.le_refl _,Nat.zero_le _,fun i hi=>absurd hi (Nat.not_lt_zero _),fun b hb=>hb.elim,fun ρ T hT _=>⟨hT,Nat.le_refl _,Nat.zero_le _,.inl ⟨rfl,rfl,rfl⟩⟩,fun ρ=>.inl ⟨rfl,rfl,fun b hb=>hb⟩,fun i hi=>absurd hi (Nat.not_lt_zero _)⟩
 ·cases hv;obtain⟨hr1,hr2⟩:=hsp rfl;by_cases hc0:cap=0
  ·subst hc0;have hl0:len=0:=by omega
   subst hl0;exact⟨⟨a.block,a.off,0,fun _=>False⟩,0,0,fun _ _=>undef,Nat.le_refl _,Nat.zero_le _,fun i hi=>absurd hi (Nat.not_lt_zero _),fun b hb=>hb.elim,fun ρ T hT hp=>⟨hT,Nat.le_refl _,Nat.zero_le _,.inr ⟨a,rfl,fun h=>absurd rfl h⟩⟩,fun ρ=>.inl ⟨rfl,rfl,fun b hb=>hb⟩,fun i hi=>absurd hi (Nat.not_lt_zero _)⟩
  have hspot:a.spot=none:=by
   have fin:∀(o:Option (DataW H×List MemPlace)),(∃x,o=some x)->(w.cells? 0 (a.add (0*P.cellsOf e)) (P.cellsOf e)).bind (DataW.trod enc P w 0 (fun _=>true) held m e)=o->a.spot=none:=by
    rintro o ⟨x,rfl⟩ ho;obtain⟨cs,hcs,hx⟩:=Option.bind_eq_some_iff.1 ho;obtain⟨h1,_,hc⟩:=Dm hcs;have:=hc 0 (by omega);rw[Nat.zero_mul,show ∀a:Addr,(a.add 0).add 0=a from fun a=>rfl,List.getElem?_eq_getElem (by omega)]at this;unfold World.cell? at this;split at this
    ·cases hsp:a.spot with
     |none=>rfl
     |some s=>rw[hsp]at this;simp at this
    ·cases this
   by_cases h1:0<len
   ·exact fin _ ⟨elems[0]'(by omega),List.getElem?_eq_getElem _⟩ (hget 0 h1)
   ·have:=hr2 0 (by omega);rw[show len+0=0 by omega]at this;exact fin _ ⟨rest[0]'(by omega),List.getElem?_eq_getElem _⟩ this
  have row:∀i,i<cap->∃cs:List Value,(u7 ks cs/\∀j,j<ks.length->w.cell? ⟨a.block,a.off+i*ks.length+j,none⟩=cs[j]?)/\(i<len->∃x∈elems,DataW.trod enc P w 0 (fun _=>true) held m e cs=some x):=by
   intro i hi;have fin:∀(x:DataW H×List MemPlace),(w.cells? 0 (a.add (i*P.cellsOf e)) (P.cellsOf e)).bind (DataW.trod enc P w 0 (fun _=>true) held m e)=some x->∃cs:List Value,(u7 ks cs/\∀j,j<ks.length->w.cell? ⟨a.block,a.off+i*ks.length+j,none⟩=cs[j]?)/\DataW.trod enc P w 0 (fun _=>true) held m e cs=some x:=by
    intro x ho;obtain⟨cs,hcs,hx⟩:=Option.bind_eq_some_iff.1 ho;obtain⟨_,_,hc⟩:=Dm hcs;refine⟨cs,⟨yC d m e cs x ks hx hf,fun j hj=>?_⟩,hx⟩;have:=hc j (by omega);rw[Addr.Wt a _ hspot,Addr.add_plain,<- hk]at this;exact this
   by_cases h1:i<len
   ·obtain⟨cs,g1,g2⟩:=fin (elems[i]'(by omega)) ((hget i h1).trans (List.getElem?_eq_getElem _));exact⟨cs,g1,fun _=>⟨_,List.getElem_mem _,g2⟩⟩
   ·have:=hr2 (i-len) (by omega);rw[show len+(i-len)=i by omega]at this;obtain⟨cs,g1,g2⟩:=fin (rest[i-len]'(by omega)) (this.trans (List.getElem?_eq_getElem _));exact⟨cs,g1,fun h=>absurd h h1⟩
  ·have hcell:∀i,i<cap->∀(j:Nat) (k:CK),ks[j]? = some k->∃v,w.cell? ⟨a.block,a.off+i*ks.length+j,none⟩=some v/\k.ok v:=by
    intro i hi j k hj;have hjl:j<ks.length:=(List.getElem?_eq_some_iff.1 hj).1;obtain⟨cs,⟨h1,h2⟩,_⟩:=row i hi;have hlt:j<cs.length:=by rw[h1.len];exact hjl
    exact⟨cs[j],by rw[h2 j hjl,List.getElem?_eq_getElem hlt],h1.ok j k _ hj (List.getElem?_eq_getElem hlt)⟩
   have hblk:∃vs ty fr,w.heap[a.block]? = some (.cells vs ty fr):=by
    obtain⟨v,hv,_⟩:=hcell 0 (by omega) 0 (ks[0]'(by omega)) (List.getElem?_eq_getElem _);unfold World.cell? at hv;split at hv
    ·rename_i vs ty fr hh;exact⟨vs,ty,fr,hh⟩
    ·cases hv
   obtain⟨vs,ty,fr,hb⟩:=hblk;have hget2:∀i,i<cap->∀(j:Nat) (k:CK),ks[j]? = some k->∃v,vs[a.off+i*ks.length+j]? = some v/\k.ok v:=by
    intro i hi j k hj;obtain⟨v,hv,hok⟩:=hcell i hi j k hj;rw[cell_of hb]at hv;exact⟨v,hv,hok⟩
   have hfit:a.off+cap*ks.length<=vs.size:=by
    obtain⟨v,hv,_⟩:=hget2 (cap-1) (by omega) (ks.length-1) (ks[ks.length-1]'(by omega)) (List.getElem?_eq_getElem _);obtain⟨hlt,_⟩:=Array.getElem?_eq_some_iff.1 hv;have:(cap-1)*ks.length+ks.length=cap*ks.length:=by
     rw[<- Nat.succ_mul];congr 1;omega
    omega
   have hblt:a.block<w.heap.size:=by
    obtain⟨hlt,_⟩:=Array.getElem?_eq_some_iff.1 hb;exact hlt
   refine⟨⟨a.block,a.off,cap,fun b=>b=a.block⟩,len,cap,fun i j=>vs[a.off+i*ks.length+j]?.getD undef,hlc,by unfold aq;unfold maxLen at hcm;exact hcm,fun i hi j k hj=>?_,fun b hb=>by rw[hb];exact hblt,fun ρ T hT hp=>⟨hT,hlc,by unfold aq;unfold maxLen at hcm;exact hcm,.inr ⟨a,rfl,fun _=>⟨by rw[hp];cases a;simp at hspot;subst hspot;simp,by rw[hp];simp⟩⟩⟩,fun ρ=>.inr ⟨vs,ty,fr,hb,hfit,hlc,fun o h1 h2=>?_,fun _=>Iff.rfl,fun i hi j k hj=>?_⟩,fun i hi=>?_⟩
   ·obtain⟨v,hv,hok⟩:=hget2 i (by omega) j k hj;simp only;rw[hv];exact hok
   ·have hmem:MemPlace.cell a.block o∈ps:=by
     have e:ps=MemPlace.row a ((elems.length+rest.length)*P.cellsOf e)++(elems++rest).flatMap (·.2):=congrArg Prod.snd hx;rw[e];refine List.mem_append_left _ (List.mem_map.2 ⟨o-a.off,?_,?_⟩)
     ·rw[List.mem_range,hel,hr1,<- hk];simp only at h1 h2;rw[show len+(cap-len)=cap by omega];omega
     ·simp only at h1;show MemPlace.cell a.block (a.off+(o-a.off))=_;rw[show a.off+(o-a.off)=o by omega]
    have:=hz _ _ hmem;simp only[World.frozen?,hb]at this;obtain⟨lo,hi⟩:=fr;simpa using this
   ·obtain⟨v,hv,hok⟩:=hget2 i (by omega) j k hj;simp only;rw[hv];exact⟨rfl,hok⟩
   ·obtain⟨cs,⟨g1,g2⟩,g3⟩:=row i (by omega);obtain⟨x,hxm,hxt⟩:=g3 hi;refine⟨m,cs,x,hxt,fun b off hm=>hz b off ?_,g1,fun j hj=>?_⟩
    ·have e:ps=MemPlace.row a ((elems.length+rest.length)*P.cellsOf e)++(elems++rest).flatMap (·.2):=congrArg Prod.snd hx;rw[e];exact List.mem_append_right _ (List.mem_flatMap.2 ⟨x,List.mem_append_left _ hxm,hm⟩)
    ·have h2:=g2 j hj;rw[cell_of hb]at h2;have hlt:j<cs.length:=by rw[g1.len];exact hj
     rw[List.getElem?_eq_getElem hlt]at h2 ⊢;simp only;rw[h2];rfl
theorem MN{t e:TypeId}{ks:List CK}{d:Nat}{v:Value}{dd:DataW H}{ps:List MemPlace}{r:Reach}{b0:Nat}(ht:P.underlying t=some (.slice e))(hf:tc true P d e=some ks)(hk:ks.length=P.cellsOf e)(hk1:1<=ks.length)
 (hval:Value.okWide P w r b0 t v) (h:DataW.Trod enc P w 0 (fun _=>true) held t v dd ps) (hz:∀b off,MemPlace.cell b off∈ps->w.frozen? ⟨b,off,none⟩=false) :
 ∃(p:Place) (n cap:Nat) (rows:Nat->Nat->Value),n<=cap/\cap<=aq/\(∀i,i<n->∀(j:Nat) (k:CK),ks[j]? = some k->k.ok (rows i j))/\(∀b,p.fp b->b<w.heap.size) /\
  (∀(ρ:Env) (T:Nat),T<ρ.n->ρ.pl T=p->(A.slc T 0 ks.length n cap).b8 ρ v)/\∀(ρ:Env),(Chunk.arr e ks n rows).Sat ρ p w:=by
 obtain⟨fuel,h⟩:=h;have hv2:Cell.okWide P w r b0 t v:=by unfold Value.okWide at hval;rw[ht]at hval;exact hval
 have hone:∀o l c,v.cells.toList=[.slice o l c]->v = .slice o l c:=by
  intro o l c hv;cases v<;>simp[Value.cells]at hv<;>first|exact hv|(simp[hv];done)|skip
  all_goals(unfold Cell.okWide Cell.ok at hv2;rw[ht]at hv2;simp at hv2)
 have hc:v.cells.toList=[v]:=by
  rcases DataW.trod_slice ht h with⟨hv,_⟩ | ⟨a,len,cap,elems,rest,m,_,hv,_⟩
  ·rw[hone _ _ _ hv];rfl
  ·rw[hone _ _ _ hv];rfl
 rw[hc]at h;obtain⟨p,n,cap,rows,g1,g2,g3,g4,g5,g6,_⟩:=Fo ht hf hk hk1 h hz;exact⟨p,n,cap,rows,g1,g2,g3,g4,g5,g6⟩
theorem Fp:∀ {ks:List CK} {l:List RK} {vs:List Value} {xs:List RD},u7 ks vs->Ki l xs->Ki (ks.map .c++l) ((List.zipWith (fun k v=>RD.a (lG k v)) ks vs)++xs)
 |[],l,vs,xs,h,hx=>by
  have:vs=[]:=List.eq_nil_of_length_eq_zero (by simpa using h.len);subst this;exact hx
 |k::ks,l,[],xs,h,hx=>by have:=h.len;simp at this
 |k::ks,l,v::vs,xs,h,hx=>⟨_,_,rfl,⟨v,rfl,h.ok 0 k v rfl rfl⟩,Fp (ks:=ks) (vs:=vs) ⟨by have:=h.len;simpa using this,fun j k' v' hk hv=>h.ok (j+1) k' v' (by simpa using hk) (by simpa using hv)⟩ hx⟩
theorem OC:∀(n:Nat) (ks:List CK) (vs:List Value) (xs:List RD),Yd n ((List.zipWith (fun k v=>RD.a (lG k v)) ks vs)++xs)=List.zipWith lG ks vs++Yd n xs
 |_,[],_,_=>by simp
 |_,_::_,[],_=>by simp
 |n,k::ks,v::vs,xs=>by simp[Yd,OC n ks vs xs]
theorem Un:∀(ks:List CK) (vs:List Value) (xs:List RD),rN ((List.zipWith (fun k v=>RD.a (lG k v)) ks vs)++xs)=rN xs
 |[],_,_=>by simp
 |_::_,[],_=>by simp
 |k::ks,v::vs,xs=>by simp[rN,Un ks vs xs]
theorem Kk:∀(n:Nat) {ks:List CK} {vs:List Value} (l:List RK) (xs:List RD),vs.length=ks.length->yD n (ks.map .c++l) ((List.zipWith (fun k v=>RD.a (lG k v)) ks vs)++xs)=yD n l xs
 |_,[],[],_,_,_=>by simp
 |_,[],_::_,_,_,h=>by simp at h
 |_,_::_,[],_,_,h=>by simp at h
 |n,k::ks,v::vs,l,xs,h=>by
  have:=Kk n (ks:=ks) (vs:=vs) l xs (by simpa using h);simpa[yD]using this
theorem Kl{ρ:Env}:∀ {ks:List CK} {vs:List Value},u7 ks vs->ct ρ (List.zipWith lG ks vs) vs
 |[],vs,h=>by
  have:vs=[]:=List.eq_nil_of_length_eq_zero (by simpa using h.len);subst this;rfl
 |k::ks,[],h=>by have:=h.len;simp at this
 |k::ks,v::vs,h=>⟨v,vs,rfl,nq (h.ok 0 k v rfl rfl) ρ,Kl ⟨by have:=h.len;simpa using this,fun j k' v' hk hv=>h.ok (j+1) k' v' (by simpa using hk) (by simpa using hv)⟩⟩
theorem qv:∀(n:Nat) (fs:List RK) (xs:List RD),∀p∈yD n fs xs,n<=p.1/\p.1<n+rN xs
 |_,[],_,_,h=>by simp[yD]at h
 |_,_::_,[],_,h=>by simp[yD]at h
 |n,k::r,x::s,p,h=>by
  cases k<;>cases x<;>simp only[yD,List.mem_cons]at h
  ·exact qv n r s p h
  ·have:=qv n r s p h;simp only[rN];omega
  ·exact qv n r s p h
  ·rcases h with rfl|h
   ·simp only[rN];omega
   ·have:=qv (n+1) r s p h;simp only[rN];omega
theorem Dn{r:Reach}{b0 d n:Nat}{ts:List TypeId}{cs:List Value}(hts:∀(i:Nat) (v:Value),cs[i]? = some v->∃u:TypeId,ts[i]? = some u/\Cell.okWide P w r b0 u v) :
 ∀(fs:List Field) (o:Nat) (l:List RK) (ρ0:Env),Fm P d ts fs o=some l ->
  (∀f∈fs,∃x,DataW.trod enc P w 0 (fun _=>true) held n f.type ((cs.drop f.offset).take (P.cellsOf f.type))=some x/\∀b off,MemPlace.cell b off∈x.2->w.frozen? ⟨b,off,none⟩=false)->o+l.length=cs.length ->
  ∃(xs:List RD) (ρ:Env),Ki l xs/\ρ0.le ρ/\ρ.n=ρ0.n+rN xs/\ct ρ (Yd ρ0.n xs) (cs.drop o)/\ai w (fun _=>False) ρ (D6 (yD ρ0.n l xs)) w
 |[],o,l,ρ0,h,_,hl=>by
  simp[Fm]at h;subst h;refine⟨[],ρ0,rfl,Env.le.refl _,rfl,?_,⟨eu.refl _ _,fun e he=>(by cases he),.nil⟩⟩;have:cs.drop o=[]:=List.drop_eq_nil_of_le (by simp at hl;omega);rw[this];rfl
 |f::fs,o,l,ρ0,h,hf,hl=>by
  simp only[Fm]at h;cases ho:Nat.beq f.offset o with
  |false=>rw[ho]at h;cases h
  |true =>
  rw[ho]at h;simp only[cond_true]at h;have ho':=Nat.eq_of_beq_eq_true ho;obtain⟨x,hx,hz⟩:=hf f List.mem_cons_self;rw[ho']at hx;have hfr:∀g∈fs,∃x,DataW.trod enc P w 0 (fun _=>true) held n g.type ((cs.drop g.offset).take (P.cellsOf g.type))=some x/\∀b off,MemPlace.cell b off∈x.2->w.frozen? ⟨b,off,none⟩=false:=fun g hg=>hf g (List.mem_cons_of_mem _ hg);split at h
  ·rename_i e hu;split at h
   ·rename_i ks u l1 e1 e2 e3;cases hb:(Nat.beq ks.length (P.cellsOf e)&&(Nat.ble 1 ks.length&&(Nat.beq (P.cellsOf f.type) 1&&Um P u)))
    ·rw[hb]at h;cases h
    rw[hb]at h;simp only[cond_true,Option.some.injEq]at h;subst h;simp only[Bool.and_eq_true]at hb;obtain⟨h1,h2,h3,h4⟩:=hb;have hlt:o<cs.length:=by simp at hl;omega
    have hc1:=Nat.eq_of_beq_eq_true h3;have hone:(cs.drop o).take (P.cellsOf f.type)=[cs[o]]:=by
     rw[hc1,List.drop_eq_getElem_cons hlt];rfl
    rw[hone]at hx;obtain⟨u',hu',hok⟩:=hts o cs[o] (List.getElem?_eq_getElem hlt);rw[e2]at hu';cases hu';obtain⟨p,m,cap,rows,hn,hc,hrows,hlt2,hrep,hsat,_⟩:=Fo hu e1 (Nat.eq_of_beq_eq_true h1) (Nat.le_of_ble_eq_true h2) (dd:=x.1) (ps:=x.2) hx hz;obtain⟨xs,ρ,g1,g2,g3,g4,g5⟩:=Dn hts fs (o+1) l1 (ρ0.ext p) e3 hfr (by simp at hl ⊢;omega);have hpl:ρ.pl ρ0.n=p:=by rw[g2.pl _ (Nat.lt_succ_self _)];exact ρ0.dr p
    have hlt':ρ0.n<ρ.n:=g2.n;refine⟨.s ks.length m cap rows::xs,ρ,⟨_,_,rfl,⟨m,cap,rows,rfl,hn,hc,hrows⟩,g1⟩,(ρ0.dV p).trans g2,by rw[g3];simp[rN,Env.ext];omega,?_,?_⟩
    ·rw[List.drop_eq_getElem_cons hlt];exact⟨_,_,rfl,hrep ρ ρ0.n hlt' hpl,g4⟩
    ·refine ai.cons g5 ⟨hlt',by simp only;rw[hpl];exact hsat ρ,by simp only;rw[hpl];exact hlt2,fun h=>(by cases h)⟩ fun y hy=>⟨?_,fun h=>?_⟩
     ·obtain⟨q,hq,rfl⟩:=List.mem_map.1 hy;have:=(qv _ _ _ _ hq).1;simp only[Env.ext]at this ⊢;omega
     ·rw[Ce hy]at h;cases h
   ·cases h
  ·split at h
   ·rename_i ks l1 e1 e3;cases hb:Nat.beq ks.length (P.cellsOf f.type)
    ·rw[hb]at h;cases h
    rw[hb]at h;simp only[cond_true,Option.some.injEq]at h;subst h;have hb':=Nat.eq_of_beq_eq_true hb;have hks:=yC d n f.type _ _ ks hx e1;obtain⟨xs,ρ,g1,g2,g3,g4,g5⟩:=Dn hts fs (o+P.cellsOf f.type) l1 ρ0 e3 hfr (by rw[<- hb'];simp at hl;omega);refine⟨(List.zipWith (fun k v=>RD.a (lG k v)) ks ((cs.drop o).take (P.cellsOf f.type)))++xs,ρ,Fp hks g1,g2,by rw[Un];exact g3,?_,?_⟩
    ·rw[OC];have e:cs.drop o=(cs.drop o).take (P.cellsOf f.type)++cs.drop (o+P.cellsOf f.type):=by
      rw[<- List.drop_drop,List.take_append_drop]
     rw[e,List.take_append_of_le_length (by rw[hks.len,hb'];exact Nat.le_refl _),List.take_take,Nat.min_self];exact(Kl hks).append g4
    ·rw[Kk _ _ _ hks.len];exact g5
   ·cases h
theorem H6:∀(n:Nat) (aks:List AK) (ads:List AD),∀p∈MM n aks ads,n<=p.1
 |_,[],_,_,h=>by simp[MM]at h
 |_,_::_,[],_,h=>by simp[MM]at h
 |n,k::r,a::s,p,h=>by
  have key:∀m,n<=m->p∈MM m r s->n<=p.1:=fun m hm h=>Nat.le_trans hm (H6 m r s p h);cases k<;>cases a<;>simp only[MM,List.mem_cons,List.mem_append]at h<;>first|exact key n (Nat.le_refl _) h|skip
  ·rcases h with rfl|h
   ·exact Nat.le_refl _
   ·exact key (n+1) (Nat.le_succ _) h
  ·rcases h with h|h
   ·exact(qv _ _ _ _ h).1
   ·exact key _ (Nat.le_add_right _ _) h
theorem MO{ρ:Env}{ks:List CK}{cs:List Value}(h:u7 ks cs):ct ρ (atoms (fun j=>cs.getD j undef) ks 0) cs:=by
 have:=vp ρ (fun j=>cs.getD j undef) ks 0 (fun j k hk=>by
  have hj:j<cs.length:=by rw[h.len];exact(List.getElem?_eq_some_iff.1 hk).1
  rw[Nat.zero_add];refine h.ok j k _ hk ?_;simp[List.getD,List.getElem?_eq_getElem hj])
 have e:(List.range' 0 ks.length).map (fun j=>cs.getD j undef)=cs:=by
  apply List.ext_getElem
  ·simp[h.len]
  ·intro i h1 h2;simp[List.getD,List.getElem?_eq_getElem h2]
 rwa[e]at this
theorem Fq{r:Reach}{b0 d:Nat}:∀(ts:List TypeId) (aks:List AK) (vs:List Value) (ds:List (DataW H)) (ps:List MemPlace) (ρ0:Env),Dl P d ts=some aks->DataW.TrodAll enc P w 0 (fun _=>true) held ts vs ds ps ->
 (∀(j:Nat) (t:TypeId) (v:Value),ts[j]? = some t->vs[j]? = some v->Value.okWide P w r b0 t v)->(∀b off,MemPlace.cell b off∈ps->w.frozen? ⟨b,off,none⟩=false) ->
 ∃(ads:List AD) (ρ:Env),Kj aks ads/\ρ0.le ρ/\ρ.n=ρ0.n+HZ ads/\iU ρ (W1 ρ0.n ads) vs/\ai w (fun _=>False) ρ (D6 (MM ρ0.n aks ads)) w
 |[],aks,[],[],ps,ρ0,h,hA,_,_=>by
  simp[Dl]at h;subst h;exact⟨[],ρ0,rfl,Env.le.refl _,rfl,rfl,⟨eu.refl _ _,fun e he=>(by cases he),.nil⟩⟩
 |t::ts,aks,v::vs,dd::ds,ps,ρ0,h,hA,hval,hz=>by
  obtain⟨p1,p2,hT,hA',rfl⟩:=hA;simp only[Dl]at h;split at h
  ·rename_i k l e1 e2;cases h;have hv0:=hval 0 t v rfl rfl;have rec_:=fun ρ=>Fq (r:=r) (b0:=b0) (d:=d) ts l vs ds p2 ρ e2 hA' (fun j t v hj hv=>hval (j+1) t v (by simpa using hj) (by simpa using hv)) (fun b off hm=>hz b off (List.mem_append_right _ hm));have hz1:∀b off,MemPlace.cell b off∈p1->w.frozen? ⟨b,off,none⟩=false:=fun b off hm=>hz b off (List.mem_append_left _ hm);obtain⟨fuel,hx⟩:=hT;have one:∀u,v.cells.toList=[u]->u.oneCell'=true->(∀x,v≠.agg x)->v=u:=by
    intro u hv hu hna;cases v<;>simp[Value.cells]at hv<;>first|exact hv|exact hv.symm|(rename_i x;exact absurd rfl (hna x))|(subst hv;simp[Value.oneCell']at hu)
   have nagg:∀x:Array Value,v = .agg x->(∃fs,P.underlying t=some (.struct fs))\/∃n e,P.underlying t=some (.array n e):=by
    intro x hx;subst hx;unfold Value.okWide at hv0;split at hv0
    ·rename_i fs hu;exact .inl ⟨fs,hu⟩
    ·rename_i n e hu;exact .inr ⟨n,e,hu⟩
    ·rename_i h1 h2;unfold Cell.okWide at hv0;split at hv0<;>first|(cases ‹Value.agg x=_›;done)|skip
     all_goals(first|(rename_i e;cases e;done)|skip)
     unfold Cell.ok at hv0;split at hv0<;>first|(rename_i e;cases e;done)|exact hv0.elim|skip
   unfold Zr at e1;split at e1
   ·rename_i hu;cases e1;obtain⟨b,hb,_⟩:=DataW.trod_bool hu hx;have hv:=one _ hb rfl (fun x hx=>by rcases nagg x hx with⟨_,h⟩ | ⟨_,_,h⟩<;>rw[hu]at h<;>cases h);subst hv;obtain⟨ads,ρ,h1,h2,h3,h4,h5⟩:=rec_ ρ0;exact⟨.a (.bool b)::ads,ρ,⟨_,_,rfl,⟨b,rfl⟩,h1⟩,h2,h3,⟨_,_,rfl,rfl,h4⟩,h5⟩
   ·rename_i kk hu;cases e1;obtain⟨m,hb,_,hw⟩:=DataW.trod_int hu hx;have hv:=one _ hb rfl (fun x hx=>by rcases nagg x hx with⟨_,h⟩ | ⟨_,_,h⟩<;>rw[hu]at h<;>cases h);subst hv;have hin:bL kk m:=by rw[FF];simpa[Lit.wf]using hw
    obtain⟨ads,ρ,h1,h2,h3,h4,h5⟩:=rec_ ρ0;exact⟨.a (.int kk m)::ads,ρ,⟨_,_,rfl,⟨m,rfl,hin⟩,h1⟩,h2,h3,⟨_,_,rfl,⟨rfl,hin⟩,h4⟩,h5⟩
   ·rename_i hu;cases e1;obtain⟨s,hb,_,hs⟩:=DataW.trod_string hu hx;have hv:=one _ hb rfl (fun x hx=>by rcases nagg x hx with⟨_,h⟩ | ⟨_,_,h⟩<;>rw[hu]at h<;>cases h);subst hv;have hs':s.size<=aq:=by unfold aq;unfold maxLen at hs;exact hs
    obtain⟨ads,ρ,h1,h2,h3,h4,h5⟩:=rec_ ρ0;exact⟨.a (.str s)::ads,ρ,⟨_,_,rfl,⟨s,rfl,hs'⟩,h1⟩,h2,h3,⟨_,_,rfl,⟨rfl,hs'⟩,h4⟩,h5⟩
   ·rename_i fs hu;cases hf:HY P d t with
    |none =>
     rw[hf]at e1;simp only at e1;split at e1
     ·rename_i tys hty;split at e1
      ·rename_i fl hfl;cases hb:(Nat.beq fl.length (P.cellsOf t)&&Nat.beq tys.length (P.cellsOf t))
       ·rw[hb]at e1;cases e1
       rw[hb]at e1;simp only[cond_true,Option.some.injEq]at e1;subst e1;simp only[Bool.and_eq_true]at hb;have hb1:=Nat.eq_of_beq_eq_true hb.1;have hb2:=Nat.eq_of_beq_eq_true hb.2;have hv:∃cs:Array Value,v = .agg cs/\cs.size=P.cellsOf t/\Row.okWide P w r b0 t cs:=by
        unfold Value.okWide at hv0;rw[hu]at hv0;exact hv0
       obtain⟨cs,rfl,hcs,hrow⟩:=hv;obtain⟨tys',hty',_,hcell⟩:=hrow;rw[hty]at hty';cases hty';obtain⟨xs,m,rfl,hxx,hl,hlen,hget⟩:=DataW.trod_struct hu hx;have hps:p1=xs.flatMap (·.2):=congrArg Prod.snd hxx;obtain⟨rd,ρ1,g1,g2,g3,g4,g5⟩:=Dn (r:=r) (b0:=b0) (d:=d) (n:=m) (ts:=tys) (cs:=cs.toList) (enc:=enc) (held:=held) (P:=P) (w:=w) (fun i v hi=>by
        have hi':cs[i]? = some v:=by simpa using hi
        obtain⟨u,h1,h2⟩:=hcell i v hi';have hlt:=(Array.getElem?_eq_some_iff.1 hi').1;rw[Nat.mod_eq_of_lt (by omega)]at h1;exact⟨u,h1,h2⟩) fs.toList 0 fl ρ0 hfl (fun f hf=>by
        obtain⟨i,hi,e⟩:=List.getElem_of_mem hf;have hi':i<fs.size:=by simpa using hi
        have h1:=hget i f (by rw[Array.getElem?_eq_getElem hi'];congr 1);refine⟨xs[i]'(by omega),by rw[<- List.getElem?_eq_getElem (by omega)];exact h1,fun b off hm=>hz1 b off ?_⟩;rw[hps];exact List.mem_flatMap.2 ⟨_,List.getElem_mem _,hm⟩) (by simp[hb1,hcs])
       obtain⟨ads,ρ,h1,h2,h3,h4,h5⟩:=rec_ ρ1;rw[g3]at h4 h5;refine⟨.Ws rd::ads,ρ,⟨_,_,rfl,⟨rd,rfl,g1⟩,h1⟩,g2.trans h2,by rw[h3,g3];simp[HZ];omega,⟨_,_,rfl,⟨cs.toList,by simp,?_⟩,h4⟩,?_⟩
       ·have:=g4.mono h2;simpa using this
       ·show ai w (fun _=>False) ρ (D6 (yD ρ0.n fl rd++MM (ρ0.n+rN rd) l ads)) w;rw[show D6 (yD ρ0.n fl rd++MM (ρ0.n+rN rd) l ads)=D6 (yD ρ0.n fl rd)++D6 (MM (ρ0.n+rN rd) l ads)from List.map_append ..];refine(g5.mono h2).app h5 fun x hx y hy=>⟨?_,fun h=>?_⟩
        ·obtain⟨q,hq,rfl⟩:=List.mem_map.1 hx;obtain⟨q',hq',rfl⟩:=List.mem_map.1 hy;have a1:=qv _ _ _ _ hq;have a2:=H6 _ _ _ _ hq';simp only;omega
        ·rw[Ce hx,Ce hy]at h;cases h
      ·cases e1
     ·cases e1
    |some ks =>
     rw[hf]at e1;cases e1;have hks:=yC d fuel t _ _ ks hx hf;have hv:∃cs:Array Value,v = .agg cs:=by
      unfold Value.okWide at hv0;rw[hu]at hv0;obtain⟨cs,h,_⟩:=hv0;exact⟨cs,h⟩
     obtain⟨cs,rfl⟩:=hv;have hks:u7 ks cs.toList:=hks;obtain⟨ads,ρ,h1,h2,h3,h4,h5⟩:=rec_ ρ0;refine⟨.agg (atoms (fun j=>cs.toList.getD j undef) ks 0)::ads,ρ,⟨_,_,rfl,⟨_,rfl,fun j k hj=>?_⟩,h1⟩,h2,h3,⟨_,_,rfl,⟨cs.toList,by simp,MO hks⟩,h4⟩,h5⟩;have hjl:j<cs.toList.length:=by rw[hks.len];exact(List.getElem?_eq_some_iff.1 hj).1
     exact hks.ok j k _ hj (by simp[List.getD,List.getElem?_eq_getElem hjl])
   ·rename_i e hu;split at e1
    ·rename_i ks hf;cases hb:(Nat.beq ks.length (P.cellsOf e)&&Nat.ble 1 ks.length)
     ·rw[hb]at e1;cases e1
     rw[hb]at e1;cases e1;simp only[Bool.and_eq_true]at hb;obtain⟨p,n,cap,rows,hn,hc,hrows,hlt,hrep,hsat⟩:=MN hu hf (Nat.eq_of_beq_eq_true hb.1) (Nat.le_of_ble_eq_true hb.2) hv0 ⟨fuel,hx⟩ hz1;obtain⟨ads,ρ,h1,h2,h3,h4,h5⟩:=rec_ (ρ0.ext p);have hpl:ρ.pl ρ0.n=p:=by rw[h2.pl _ (Nat.lt_succ_self _)];exact ρ0.dr p
     have hlt':ρ0.n<ρ.n:=h2.n;refine⟨.slc ks.length n cap rows::ads,ρ,⟨_,_,rfl,⟨n,cap,rows,rfl,hn,hc,hrows⟩,h1⟩,(ρ0.dV p).trans h2,by rw[h3];simp[HZ,Env.ext];omega,⟨_,_,rfl,hrep ρ ρ0.n hlt' hpl,h4⟩,?_⟩;refine ai.cons h5 ⟨hlt',by simp only;rw[hpl];exact hsat ρ,by simp only;rw[hpl];exact hlt,fun h=>(by cases h)⟩ fun x hx=>⟨?_,fun h=>?_⟩
     ·obtain⟨q,hq,rfl⟩:=List.mem_map.1 hx;have:=H6 _ _ _ _ hq;simp only[Env.ext]at this ⊢;omega
     ·rw[Ce hx]at h;cases h
    ·cases e1
   ·cases e1
  ·cases h
 |[],_,[],_::_,_,_,_,h,_,_=>h.elim
 |[],_,_::_,_,_,_,_,h,_,_=>h.elim
 |_::_,_,[],_,_,_,_,h,_,_=>h.elim
 |_::_,_,_::_,[],_,_,_,h,_,_=>h.elim
theorem Wu{Y:Gx}(hY:Y.Ok){C:cD}{ch:C.α->gM}(hch:∀a,IM Y.G.X (ch a)){lh:C.α->Nat->LH}{f:Nat}(hb:vC Y C ch lh f)(a:C.α)(hp:C.pre a)(hhp:C.hp a=[])(hres:∀o,C.res a o = .a .tt){w:World}{ρ:Env}{vs:List Value}
 (hn:ρ.n=C.m) (hh:ai w (fun _=>False) ρ (D6 (C.ro a)) w) (hargs:iU ρ (C.args a) vs):Calls Y.G.X.P f vs.toArray w fun e w'=>e = .returned (.bool true)/\eu (fun _=>False) w w':=by
 refine(ya hY (hch a) (hb a hp) w (fun _=>False) ρ w vs hn ?_ hargs).mono ?_
 ·show ai w (fun _=>False) ρ (vA (C.hp a)++D6 (C.ro a)) w;rw[hhp];exact hh
 ·rintro e w' ⟨v,rfl,sv,s',ρ',hK,_,_,_,_,hrep,hh'⟩;refine⟨?_,hh'.keeps⟩;obtain⟨o,hK⟩:=hK;obtain⟨τ,_,_,hw,q⟩:=vz hK (Wf.nil _ _);have:=q ρ' (iX ρ' τ C.m') v (nY hw) hrep;rw[hres o]at this;rw[show v = .bool true from this]
theorem Wv{Y:Gx}(hY:Y.Ok){C:cD}{ch:C.α->gM}(hch:∀a,IM Y.G.X (ch a)){lh:C.α->Nat->LH}{f:Nat}(hb:vC Y C ch lh f){ts:List TypeId}{aks:List AK}{d:Nat}(hk:Dl Y.G.X.P d ts=some aks)(hhp:∀a,C.hp a=[])(hres:∀a o,C.res a o = .a .tt)
 (hinst:∀ads,Kj aks ads->∃a,C.pre a/\C.args a=W1 0 ads/\C.ro a=MM 0 aks ads/\C.m=HZ ads) {W:World} {args:Array Value} {ds:List (DataW H)} {ps:List MemPlace} {r:Reach} {b0:Nat}
 (hA:DataW.TrodAll enc Y.G.X.P W 0 (fun _=>true) held ts args.toList ds ps) (hval:∀(j:Nat) (t:TypeId) (v:Value),ts[j]? = some t->args.toList[j]? = some v->Value.okWide Y.G.X.P W r b0 t v)
 (hz:∀b off,MemPlace.cell b off∈ps->W.frozen? ⟨b,off,none⟩=false):Calls Y.G.X.P f args W fun e w'=>e = .returned (.bool true)/\eu (fun _=>False) W w':=by
 obtain⟨ads,ρ,h1,_,h3,h4,h5⟩:=Fq (r:=r) (b0:=b0) (d:=d) ts aks args.toList ds ps ⟨0,fun _=>xY⟩ hk hA hval hz;obtain⟨a,g1,g2,g3,g4⟩:=hinst ads h1;have:=Wu hY hch hb a g1 (hhp a) (hres a) (w:=W) (ρ:=ρ) (vs:=args.toList) (by rw[h3,g4];simp) (by rw[g3];exact h5) (by rw[g2];exact h4);simpa using this
theorem Ye{Y:Gx}(hY:Y.Ok){jf:List (Nat×cD)}(ht:uy Y.G.X jf){f:Nat}{C:cD}{l:C.α->List (Nat×List An×List An)}(hb:fnBody Y jf f C l){ts:List TypeId}{aks:List AK}{d:Nat}(hk:Dl Y.G.X.P d ts=some aks)(hhp:∀a,C.hp a=[])(hres:∀a o,C.res a o = .a .tt)
 (hinst:∀ads,Kj aks ads->∃a,C.pre a/\C.args a=W1 0 ads/\C.ro a=MM 0 aks ads/\C.m=HZ ads) {W:World} {args:Array Value} {ds:List (DataW H)} {ps:List MemPlace} {r:Reach} {b0:Nat}
 (hA:DataW.TrodAll enc Y.G.X.P W 0 (fun _=>true) held ts args.toList ds ps) (hval:∀(j:Nat) (t:TypeId) (v:Value),ts[j]? = some t->args.toList[j]? = some v->Value.okWide Y.G.X.P W r b0 t v)
 (hz:∀b off,MemPlace.cell b off∈ps->W.frozen? ⟨b,off,none⟩=false):Calls Y.G.X.P f args W fun e w'=>e = .returned (.bool true)/\eu (fun _=>False) W w' :=
 Wv hY (fun _=>yc hY ht) hb.body hk hhp hres hinst hA hval hz
theorem AX:∀ {ts:List TypeId} {vs:List Value} {ds:List (DataW H)} {ps:List MemPlace},DataW.TrodAll enc P w base spare held ts vs ds ps->ds.length=ts.length
 |[],[],[],_,_=>rfl
 |_::_,_::_,_::_,_,⟨_,_,_,h,_⟩=>by simp[AX h]
 |[],[],_::_,_,h=>h.elim
 |[],_::_,_,_,h=>h.elim
 |_::_,[],_,_,h=>h.elim
 |_::_,_::_,[],_,h=>h.elim
theorem wz(hl:laidOutB P=true){W W':World}(hk:eu (fun _=>False) W W'){sp:Nat->Bool}:∀ {ts:List TypeId} {vs:List Value} {ds:List (DataW H)} {ps:List MemPlace},(∀t∈ts,P.readableRec t=true/\t<P.types.size) ->
 DataW.TrodAll enc P W 0 (fun _=>true) true ts vs ds ps->(∀p∈ps,p.block<W.heap.size/\sp p.block=true)->DataW.TrodAll enc P W' 0 sp true ts vs ds ps
 |[],[],[],_,_,h,_=>h
 |t::ts,v::vs,d::ds,ps,ht,⟨p1,p2,h1,h2,e⟩,hp=>by
  subst e;have hb:Below W.heap.size W W':=⟨hk.os,hk.tape,hk.output,hk.size,fun b hb=>hk.block b hb id⟩
  obtain⟨a1,a2⟩:=ht t List.mem_cons_self;exact⟨p1,p2,WideElems.Trod_stays hl a1 a2 h1 (fun x hx=>hb.same (hp x (List.mem_append_left _ hx)).1) (fun x hx=>(hp x (List.mem_append_left _ hx)).2),
   wz hl hk (fun t h=>ht t (List.mem_cons_of_mem _ h)) h2 fun x hx=>hp x (List.mem_append_right _ hx),rfl⟩
 |[],[],_::_,_,_,h,_=>h.elim
 |[],_::_,_,_,_,h,_=>h.elim
 |_::_,[],_,_,_,h,_=>h.elim
 |_::_,_::_,[],_,_,h,_=>h.elim
end
end Go.Sx
namespace Go.Proofs.YtfjgoonelcaggaaGreat
open Go.Sx
def jh(m:nT):nT:=Hs { iz m [2]with l:=[] }
structure Km where
 m:nT
 p:rG
noncomputable def MP:cD where
 α:=Km
 β:=rG
 m:=7
 m':=10
 pre:=fun a=>jg a.m a.p/\tV a.m 1/\(iz a.m [2]).d.n<100000/\(iz a.m [2]).d.calls<1000000000000
 args:=fun _=>[.a (.ptr 0 0 0 0)]
 hp:=fun a=>Ec 0 1 2 3 4 5 6 a.m a.p
 ro:=fun _=>[]
 post:=fun a b=>jg (jh a.m) b/\tU a.p b
 res:=fun _ _=>.a (.lit .i64 0)
 cT:=fun a b=>Ec 0 1 2 3 7 8 9 (jh a.m) b
def H7(x:Km):=jg x.m x.p/\tV x.m 1/\ki (iz x.m [(2:Int)]).d
theorem Qs:fnBody (Y Tryz.prog) [(121,Tx),(178,Ol),(169,jB)] 142 MP fun _=>[]:=fnBody.of (p :=
 ∀z:Km,H7 z->CW 1 1 z.m z.p (aN 1 (bH (fk 2))) fun v w=>ay (cO (kC (iz v.m v.body).d fun s=>∃u:rG,aW (w.H=u.H/\ax (gQ (iz v.m v.body).L (jh z.m).L w.y u.y (gj s) (jh z.m).d (nH 16 u.x 16 u.cap 0 0 (cZ (Ix.bJ 16).t) (jg (jh z.m) u/\tU z.p u))))))) (by kernel_rfl) (by
 delta av aL bW aG bI aa bH fk bM aI oc nH ki ay aW ag CW gR kC ax gQ cO cZ H7
 try dsimp -iota -proj only
 rintro⟨m,p⟩ ⟨hat,hok,hw1,hw2⟩;have hr:aj 1 1 (aN 1 [Value.int .u8 2]) (af cA [2]):=.dW fun i hi=>by
  have:i=0:=by omega
  subst this;rfl
 have h0:tV m ([2]:List Int).length:=hok;have h1:1<=([2]:List Int).length:=by decide
 have h2:([2]:List Int).length<=300:=by decide
 refine⟨Ed.mk m p [2] 1,?_⟩
 and_intros<;>first|exact cc|exact hat|exact h0|exact h1|exact h2|exact hr|(intro h_;revert h_)|exact cm|skip
 rintro p2 ⟨hat2,hf2⟩;have e:iz (Ed.mk m p [2] 1).m (Ed.mk m p [2] 1).body=iz m [2]:=rfl;refine⟨(),trivial,fun _ _=>⟨(iz m [2]).d,?_⟩⟩
 and_intros<;>first|exact cc|exact hw1|exact hw2|(intro h_;revert h_)|exact cm|skip
 intro _ _;have h3:jg (jh m) ⟨p2.H,p2.y,Ix.bJ 16,16⟩:=⟨hat2.log,Ix.vJ (by omega) (by omega)⟩
 have h4:tU p ⟨p2.H,p2.y,Ix.bJ 16,16⟩:=hf2;refine⟨⟨p2.H,p2.y,Ix.bJ 16,16⟩,?_⟩
 and_intros<;>first|exact cc|exact h3|exact h4|(intro h_;revert h_)|exact cm|skip)
theorem Qt:ak (Y Tryz.prog).G.X 142 MP:=aV fK Qs ⟨Hp,JZ,iF,trivial⟩
theorem Qu{rs:List RecM}{es:List (Option aB)}{p:Int}(hl:es.length=rs.length)(h:∀i,i<es.length->(gl rs i).body=aH (gl es i)/\∀x,gl es i=some x->fU x=true) :
 (es++[none]).length=(rs++[(⟨p,[2]⟩:RecM)]).length/\∀i,i<(es++[none]).length->(gl (rs++[(⟨p,[2]⟩:RecM)]) i).body=aH (gl (es++[none]) i)/\∀z,gl (es++[none]) i=some z->fU z=true:=by
 refine⟨by simp[hl],fun i hi=>?_⟩;rw[List.length_append,List.length_singleton]at hi;rw[kA hi,kA (by rw[<- hl];exact hi),hl];by_cases hin:i<rs.length
 ·rw[if_pos hin,if_pos hin];exact h i (by omega)
 ·rw[if_neg hin,if_neg hin];exact⟨rfl,fun z e=>by cases e⟩
theorem mM.Yg{m:nT}{n:Nat}{rs:List RecM}{es:List (Option aB)}(h:mM m n rs es)(hn:m.L.next<9999999999)(hfit:(ee rs).length+8+1<=378) :
 mM (jh m) (n+21) (rs++[⟨m.L.next,[2]⟩]) (es++[none])/\(jh m).L.next=m.L.next+1/\(jh m).L.au=m.L.au/\(jh m).L.from_=m.L.from_:=by
 obtain⟨h1,h2,h3,h4,h5⟩:=h.one.add (body:=[2]) (by decide) hn hfit;obtain⟨b1,b2⟩:=Qu (p:=m.L.next) h.len h.body;refine⟨⟨⟨h1.flush,?_,Nat.zero_le _⟩,b1,b2⟩,h2,h4,h5⟩;rw[vP];exact⟨h1.flush.rd,fun e he=>(by cases he),fun k hk=>absurd rfl hk⟩
def Eh(s:lu):lu:={ s with d:=(jh s.fl).d,cL:=(jh s.fl).L,cl:=(jh s.fl).l }
theorem dM.Yg{s:lu}{n:Nat}{es:List (Option aB)}{cb jb:Nat}(h:dM s n es cb jb)(hn:n<900000000)(hfit:cb+9<=378) :
 dM (Eh s) (n+21) (es++[none]) (cb+9) jb/\tV s.fl 1/\(iz s.fl [2]).d.n<100000/\(iz s.fl [2]).d.calls<1000000000000:=by
 obtain⟨cr,hf,hb⟩:=h.fl;have hnx:=h.nx;have hnx1:s.fl.L.next<=n:=hnx.1
 obtain⟨f1,f2,f3,f4⟩:=hf.Yg (by omega) (by omega);obtain⟨g1,g2,g3,g4⟩:=h.X9;obtain⟨s1,s2,s3⟩:=Bw h.dn.1;have hdn:(jh s.fl).d.n=s.d.n:=Ad _ _ _;have hcl:(jh s.fl).d.calls<=n+21:=f1.one.log.calls;have hcl2:(jh s.fl).d.calls=(iz s.fl [2]).d.calls+1:=rfl;have hdd:=h.dn;have hout:∀r,r<162->∀j,(jh s.fl).d.now r j=s.d.now r j:=fun r hr j=>by
  have e:(jh s.fl).d.now r j=(n9 s.cL s.d [2]).now r j:=rfl;rw[e];exact Di (by omega) (.inl (by omega))
 refine⟨⟨⟨_,f1,by rw[lT,List.length_append,vM];show(ee cr).length+(8+1)<=_;omega⟩,h.jl.dev' (fun r _ h2 j _=>hout r (by omega) j) hdn hcl,h.jb,h.ms,?_,⟨f4.trans g1,?_,g3,g4⟩,?_,h.keep.dev' fun r hr j _=>hout r (by omega) j,h.bK⟩,hf.one.ok (by omega) (by show _+8+1<=_;omega),?_,by omega⟩
 ·have e:(Eh s).cL.next=s.cL.next+1:=f2
  refine⟨by rw[e];push_cast;omega,?_,?_⟩
  ·show s.jL.next<=_;push_cast;omega
  ·show s.k.s.eZ<=_;push_cast;omega
 ·show(jh s.fl).L.au=iP (jh s.fl).d.n;rw[hdn];exact f3.trans g2
 ·show 192<=(jh s.fl).d.n/\(jh s.fl).d.n<3000;rw[hdn];exact h.dn
 ·have e:(iz s.fl [2]).d.n=s.d.n:=Ad _ _ _;rw[e];omega
theorem Ww(es:List (Option aB))(k:ByteArray):gE (es++[none]) k=none:=by rw[vP];rfl
def MQ(s:lu)(m:MetaM):lu:={ s with d:=iq s.k s.d m,k:=mL s.k m }
theorem dM.save{s:lu}{n:Nat}{es:List (Option aB)}{cb jb:Nat}(h:dM s n es cb jb){m:MetaM}(hs:gv s.k m=true)(hb:m.bK=s.bK)(hn:n<800000000) :
 dM (MQ s m) (n+2) es cb jb/\(MQ s m).k.m=m/\(MQ s m).d.n=s.d.n/\(MQ s m).d.calls=s.d.calls+2:=by
 have hnx:=h.nx;obtain⟨k1,k2,k3,k4,k5,k6⟩:=h.keep.save hs (by omega);obtain⟨cr,hf,hcb⟩:=h.fl;obtain⟨g1,g2,g3,g4⟩:=h.X9;have hcl:s.d.calls<=n:=hf.one.log.calls;have hcl2:(MQ s m).d.calls<=n+2:=by show(iq s.k s.d m).calls<=_;rw[k5];omega
 refine⟨⟨⟨cr,hf.dev' (fun r h1 _ j _=>k6 r (by have h1:s.cL.from_<=r:=h1;omega) j) k4 hcl2,hcb⟩,h.jl.dev' (fun r h1 _ j _=>k6 r (by omega) j) k4 hcl2,h.jb,h.ms,?_,⟨g1,?_,g3,g4⟩,?_,k1,?_⟩,k2,k4,k5⟩
 ·refine⟨?_,?_,?_⟩
  ·show s.cL.next<=_;push_cast;omega
  ·show s.jL.next<=_;push_cast;omega
  ·show(mL s.k m).s.eZ<=_;rw[k3];push_cast;omega
 ·show s.cL.au=iP (iq s.k s.d m).n;rw[k4];exact g2
 ·show 192<=(iq s.k s.d m).n/\(iq s.k s.d m).n<3000;rw[k4];exact h.dn
 ·show s.bK=(mL s.k m).m.bK;rw[k2,hb]
structure gm where
 id:Int
 blk:Nat
 key:ByteArray
 good:Bool
 born:Nat
 deriving Inhabited
structure jq where
 last:Int
 l:List gm
 dG:Nat
def gm.enc(e:gm):fI:=⟨e.id,pv e.blk 0,e.born⟩
def Dp(mb:Nat)(t:jq):Chunk:=.obj 197 [.int .i64 t.last,.val (.map (some mb))]
def u9(mb:Nat)(t:jq):Chunk:=.abs (mZ mb .i64 (t.l.map gm.enc) t.dG)
structure gn(H:PH)(t:jq):Prop where
 at_:∀e∈t.l,H e.blk=some (0,[.string e.key,.bool e.good])/\e.key.size<=aq
 blk:(t.l.map (·.blk)).Nodup
 id:∀e∈t.l,1<=e.id/\e.id<=t.last/\e.born<t.dG
 ids:(t.l.map (·.id)).Nodup
 born:(t.l.map (·.born)).Nodup
 last:0<=t.last/\t.last<=1099511627776
theorem gn.ok{H:PH}{t:jq}(h:gn H t):VB .i64 (t.l.map gm.enc) t.dG:=⟨fun e he=>by
 obtain⟨x,hx,rfl⟩:=List.mem_map.1 he;obtain⟨a1,a2,a3⟩:=h.id x hx;have:=h.last;exact⟨rfl,a3,by simp only[gm.enc,bL];omega⟩,by rw[List.map_map];exact h.born⟩
structure Dq where
 mb:Nat
 t:jq
 H:PH
 key:ByteArray
def pg(t:jq)(key:ByteArray)(b:Nat):jq:=⟨t.last+1,t.l++[⟨t.last+1,b,key,true,t.dG⟩],t.dG+1⟩
noncomputable def MR:cD where
 α:=Dq
 β:=Nat
 m:=3
 m':=4
 pre:=fun a=>gn a.H a.t/\a.t.last<1099511627776/\a.key.size<=aq
 args:=fun a=>[.a (.ptr 0 0 0 0),.a (.str a.key)]
 hp:=fun a=>[(0,Dp a.mb a.t),(1,u9 a.mb a.t),(2,.cu a.H)]
 ro:=fun _=>[]
 post:=fun a b=>a.H b=none
 res:=fun a _=>.a (.int .i64 (a.t.last+1))
 cT:=fun a b=>[(0,Dp a.mb (pg a.t a.key b)),(1,u9 a.mb (pg a.t a.key b)),(3,.cu (aM a.H b 0 [.string a.key,.bool true]))]
theorem Yh{l:List fI}{n:Int}(h:∀e∈l,e.key≠n):BQ l n=false:=by
 unfold BQ;rw[List.any_eq_false];intro e he;simpa using h e he
theorem Uo(n:Int)(u:Value)(dG:Nat):∀l:List fI,(∀e∈l,e.key≠n)->BP n u dG l=l++[⟨n,u,dG⟩]
 |[],_=>rfl
 |e::r,h=>by
  unfold BP;rw[if_neg (h e List.mem_cons_self),Uo n u dG r fun x hx=>h x (List.mem_cons_of_mem _ hx)];rfl
def ot(x:Nat)(y:List fI)(z:Nat):Sx.Place->Go.World->Prop:=mZ x .i64 y z
def e8(y:Nat)(x:jq):Sx.Place->Go.World->Prop:=ot y (List.map gm.enc x.l) x.dG
def pn(x:Nat):Value:=Value.map (some x)
def iH(x y:Nat):=pn x=pn y
def rA(u:Nat)(v:jq)(w:Nat->List fI->Nat->Prop):=∃x:Nat,∃y:List fI,∃z:Nat,iH u x/\e8 u v=ot x y z/\VB .i64 y z/\w x y z
def MS(z:Prop)(u:Sx.Place->Go.World->Prop)(x:Dq)(v:PH)(w:Int):=∃y:Nat,z/\u=e8 x.mb (pg x.t x.key y)/\v=aM x.H y 0 (bM (bE x.key) qe)/\w=(pg x.t x.key y).last/\iH x.mb x.mb/\x.H y=none/\True
theorem Qv:fnBody (Y Tryz.prog) [] 137 MR fun _=>[]:=fnBody.of (p :=
 ∀x:Dq,gn x.H x.t/\x.t.last<(1099511627776:Int)/\bA x.key<=aq->ah x.t.last->aO (cR 1099511627776 x.t.last) (MS ((0:Int)=x.t.last+(1:Int)) (e8 x.mb x.t) x x.H x.t.last) (ah x.t.last->ah (x.t.last+(1:Int))/\(ah (x.t.last+(1:Int))->bA x.key<=aq->∀y:Nat,x.H y=none->rA x.mb x.t fun v u z=>aD (bif bif Nat.beq 0 1 then true else bif Nat.beq 0 1 then true else false then false else true)/\(ah (x.t.last+(1:Int))->MS (aG (x.t.last+(1:Int))) (ot v (BP (x.t.last+(1:Int)) (pv y 0) z u) (bif BQ u (x.t.last+(1:Int))then z else z+1)) x (aM x.H y 0 (bM (bE x.key) qe)) (x.t.last+(1:Int)))))) (by kernel_rfl) (by
 delta aO ah e8 aG iH bH aD bM ot pn bA bE rA cR qe MS dX
 try dsimp -iota -proj only
 rintro⟨mb,t,H,key⟩ ⟨h1,h2,h3⟩ _;dsimp only at *;have hno:∀e∈t.l.map gm.enc,e.key≠t.last+1:=fun e he=>by
  obtain⟨x,hx,rfl⟩:=List.mem_map.1 he;have:=h1.id x hx;simp only[gm.enc];omega
 have hl:=h1.last;have hok:=h1.ok;refine⟨fun c=>by(exfalso;have:=of_decide_eq_true c;omega),fun _ _=>⟨by simp only[bL];omega,fun _ _ b hb=>⟨mb,t.l.map gm.enc,t.dG,rfl,rfl,hok,rfl,fun _=>⟨b,?_⟩⟩⟩⟩;have e:mZ mb .i64 (BP (t.last+1) (pv b 0) t.dG (t.l.map gm.enc)) (bif BQ (t.l.map gm.enc) (t.last+1)then t.dG else t.dG+1)=mZ mb .i64 ((pg t key b).l.map gm.enc) (pg t key b).dG:=by
  rw[Uo _ _ _ _ hno,Yh hno];unfold pg;rw[List.map_append];rfl
 and_intros<;>first|exact cc|exact e|exact hb|(intro h_;revert h_)|exact cm|skip)
theorem Qw:ak (Y Tryz.prog).G.X 137 MR:=aV fK Qv trivial
structure tM where
 mb:Nat
 t:jq
 H:PH
 id:Int
def kQ(t:jq)(id:Int):Option gm:=t.l.find? fun e=>e.id == id
def nM(t:jq)(id:Int):jq:={ t with l:=t.l.filter fun e=>!(e.id == id) }
noncomputable def Up:cD where
 α:=tM
 β:=Unit
 m:=3
 m':=3
 pre:=fun a=>gn a.H a.t/\bL .i64 a.id
 args:=fun a=>[.a (.ptr 0 0 0 0),.a (.int .i64 a.id)]
 hp:=fun a=>[(0,Dp a.mb a.t),(1,u9 a.mb a.t)]
 ro:=fun a=>[(2,.cu a.H)]
 post:=fun _ _=>True
 res:=fun a _=>.l8 [.a (.str (match kQ a.t a.id with|some e=>e.key|none=>ByteArray.mk #[])),.a (.bool (match kQ a.t a.id with|some e=>e.good|none=>false))]
 cT:=fun a _=>[(0,Dp a.mb (nM a.t a.id)),(1,u9 a.mb (nM a.t a.id))]
theorem Kn(id:Int):∀l:List gm,getM (l.map gm.enc) id=(l.find? fun e=>e.id == id).map fun e=>pv e.blk 0
 |[]=>rfl
 |e::r=>by
  have ih:=Kn id r;unfold getM at ih ⊢;rw[List.map_cons,List.find?_cons,List.find?_cons];show Option.map _ (match e.id == id with|true=>_|false=>_)=_;cases e.id == id with
  |true=>rfl
  |false=>exact ih
theorem Dr(id:Int):∀l:List gm,(l.map (·.id)).Nodup->BR id (l.map gm.enc)=(l.filter fun e=>!(e.id == id)).map gm.enc
 |[],_=>rfl
 |e::r,h=>by
  rw[List.map_cons,List.nodup_cons]at h;rw[List.map_cons];unfold BR;by_cases he:e.id=id
  ·have hr:r.filter (fun e=>!(e.id == id))=r:=List.filter_eq_self.2 fun x hx=>by
    have:x.id≠id:=fun e2=>h.1 (List.mem_map.2 ⟨x,hx,by rw[e2,he]⟩);simp[this]
   rw[if_pos (show(gm.enc e).key=id from he),List.filter_cons,show(!(e.id == id))=false by simp[he],if_neg (by decide),hr]
  ·rw[if_neg (show ¬(gm.enc e).key=id from he),List.filter_cons,show(!(e.id == id))=true by simp[he],if_pos rfl,List.map_cons,Dr id r h.2]
def xD(x:tM):Sx.Place->Go.World->Prop:=e8 x.mb (nM x.t x.id)
def MT(x:tM):Bool:=match kQ x.t x.id with|some y=>y.good|none=>false
def MU(x:tM):ByteArray:=match kQ x.t x.id with|some y=>y.key|none=>dc
def MV(x:tM):=dc=MU x/\fL (MT x) (e8 x.mb x.t=xD x) (x.t.last=(nM x.t x.id).last/\bp (iH x.mb x.mb))
def Ds(y:Value)(z u:Prop):=∃x:Option Nat,y=Value.map x/\(x=none->z)/\(x≠none->u)
theorem Uq:fnBody (Y Tryz.prog) [] 72 Up fun _=>[]:=fnBody.of (p :=
 ∀x:tM,gn x.H x.t/\ah x.id->Ds (pn x.mb) (ay (MV x)) (rA x.mb x.t fun k f l=>(∃v:Option Go.Addr,DZ (getM f x.id)=Value.pointer v)/\aO (I9 (DZ (getM f x.id))) (ay (MV x)) (Ds (pn x.mb) (rA x.mb x.t fun v w g=>bB true/\False) (rA x.mb x.t fun v w g=>rA x.mb x.t fun h i j=>bB true/\kr (DZ (getM w x.id)) 0 (fun y=>x.H y) (fun y=>∃u:ByteArray,y=bE u/\bA u<=aq) fun y u=>kr (DZ (getM w x.id)) 1 (fun z=>x.H z) (fun z=>∃s:Bool,z=dX s) fun z s=>ay (ZN (aS u y)=MU x/\ZV (aS s z)=MT x/\ot h (BR x.id i) j=xD x/\x.t.last=(nM x.t x.id).last/\bp (iH x.mb x.mb)))))) (by kernel_rfl) (by
 delta aO aS kr ah e8 iH bB kq aD fL ot pn dc bA bE ay rA MV bp Ds xD dX MT MU
 try dsimp -iota -proj only
 rintro⟨mb,t,H,id⟩ ⟨h1,h2⟩;dsimp only at *;have hok:=h1.ok;have hg:=Kn id t.l;have hd:=Dr id t.l h1.ids;refine⟨some mb,rfl,fun c=>(by cases c),fun _=>⟨mb,t.l.map gm.enc,t.dG,rfl,rfl,hok,?_⟩⟩;cases hf:t.l.find? (fun e=>e.id == id)with
 |none =>
  have hff:kQ t id=none:=hf;have hu:nM t id=t:=by
   have:t.l.filter (fun e=>!(e.id == id))=t.l:=List.filter_eq_self.2 fun x hx=>by
    have:=List.find?_eq_none.1 hf x hx;simpa using this
   unfold nM;rw[this]
  have hgv:DZ (getM (t.l.map gm.enc) id) = .pointer none:=by rw[hg,hf];rfl
  refine⟨⟨none,hgv⟩,fun _=>⟨(),?_⟩,fun c=>(by rw[hgv]at c;cases c)⟩;rw[hff,hu]
  and_intros<;>first|exact cc|(intro h_;revert h_)|exact cm|skip
 |some e =>
  have hff:kQ t id=some e:=hf;have he:e∈t.l:=List.mem_of_find?_eq_some hf;obtain⟨a1,a2⟩:=h1.at_ e he;have hgv:DZ (getM (t.l.map gm.enc) id)=pv e.blk 0:=by rw[hg,hf];rfl
  refine⟨⟨_,hgv⟩,fun c=>(by rw[hgv]at c;cases c),fun _=>⟨some mb,rfl,fun c=>(by cases c),fun _=>⟨mb,t.l.map gm.enc,t.dG,rfl,rfl,hok,mb,t.l.map gm.enc,t.dG,rfl,rfl,hok,rfl,e.blk,0,hgv,e.blk,0,rfl,e.blk,0,0,[.string e.key,.bool e.good],rfl,a1,⟨⟨_,rfl,_,rfl,a2⟩,trivial⟩,e.blk,0,hgv,e.blk,0,rfl,e.blk,0,1,[.string e.key,.bool e.good],rfl,a1,⟨⟨_,rfl,_,rfl⟩,trivial⟩,(),?_⟩⟩⟩;rw[hff];have e2:mZ mb .i64 (BR id (t.l.map gm.enc)) t.dG=mZ mb .i64 ((nM t id).l.map gm.enc) (nM t id).dG:=by rw[hd];rfl
  and_intros<;>first|exact cc|exact e2|(intro h_;revert h_)|exact cm|skip)
theorem Ur:ak (Y Tryz.prog).G.X 72 Up:=aV fK Uq trivial
structure Ko where
 ks:List ByteArray
 cap:Nat
 key:ByteArray
def hasB(ks:List ByteArray)(k:ByteArray):Bool:=ks.any fun q=>decide (k=q)
noncomputable def Us:cD where
 α:=Ko
 β:=Unit
 m:=1
 m':=1
 pre:=fun a=>a.ks.length<100000
 args:=fun a=>[.a (.slc 0 0 1 a.ks.length a.cap),.a (.str a.key)]
 hp:=fun _=>[]
 ro:=fun a=>[(0,.arr 9 [.str] a.ks.length (af kj a.ks))]
 post:=fun _ _=>True
 res:=fun a _=>.a (.bool (hasB a.ks a.key))
 cT:=fun _ _=>[]
def Zs(a:Ko):An:=.flat 2 Nat (fun s i=>s.int 8 i) (fun _ i=>i<=a.ks.length/\∀j,j<i->a.key≠gl a.ks j) (fun _ i=>a.ks.length-i)
theorem Ut:fnBody (Y Tryz.prog) [] 133 Us fun a=>[(181,[Zs a],[])]:=fnBody.of (p :=
 ∀x:Ko,aU x.ks<100000->(∃y:Nat,aC y (u5 (aU x.ks) x.cap (x.key=x.key/\kW x.ks/\(y<=aU x.ks/\∀z:Nat,z<y->x.key≠gl x.ks z)/\True)))/\∀y:Nat,jI y (aU x.ks) (∀z:Nat,z<y->x.key≠gl x.ks z) (aO (iZ x.key (gl x.ks (0+az y))) (bQ (cR 0 (aa y)=hasB x.ks x.key)) (bY y fun z=>u5 (aU x.ks) x.cap (x.key=x.key/\kW x.ks/\dP z (aU x.ks) (∀u:Nat,u<z->x.key≠gl x.ks u) y))) (eR (hasB x.ks x.key))) (by kernel_rfl) (by
 delta aO cz aL ah bW az eF aQ aY aa aU dP bg aD aX fL dN gD bD bQ bY ay aC kW cR ag aA eR aP bp dR iZ u5 jI
 try dsimp -iota -proj only
 rintro⟨ks,cap,key⟩ h;dsimp only at *;have h0:∀j,j<0->key≠gl ks j:=fun j hj=>absurd hj (Nat.not_lt_zero j);refine⟨⟨0,?_⟩,fun i ⟨hi,hall⟩=>?_⟩
 ·and_intros<;>first|exact cc|exact h0|(intro h_;revert h_)|exact cm|skip
 rw[show 0+(i:Int).toNat=i by omega];refine⟨fun c1=>?_,fun c1=>⟨(),?_,trivial,trivial⟩⟩
 ·have hlt:i<ks.length:=by have:=of_decide_eq_true c1;omega
  refine⟨⟨by omega,by omega⟩,hlt,fun c2=>⟨(),?_,trivial,trivial⟩,fun c2=>⟨by simp only[bL];omega,i+1,?_⟩⟩
  ·have c2:=of_decide_eq_true c2;have e:hasB ks key=true:=List.any_eq_true.2 ⟨gl ks i,by rw[bR hlt];exact List.getElem_mem _,decide_eq_true c2⟩;rw[e];exact decide_eq_true (by omega)
  ·have c2:=of_decide_eq_false c2;have h1:∀j,j<i+1->key≠gl ks j:=fun j hj=>by
    by_cases e:j=i
    ·rw[e];exact c2
    ·exact hall j (by omega)
   and_intros<;>first|exact cc|exact h1|(intro h_;revert h_)|exact cm|skip
 ·have hn:¬i<ks.length:=by have:=of_decide_eq_false c1;omega
  have e:hasB ks key=false:=by
   unfold hasB;rw[List.any_eq_false];intro q hq;obtain⟨j,hj,rfl⟩:=List.getElem_of_mem hq;rw[<- bR hj];simpa using hall j (by omega)
  rw[e])
theorem Uu:ak (Y Tryz.prog).G.X 133 Us:=aV fK Ut trivial
structure Dt where
 mb:Nat
 t:jq
 H:PH
 ks:List ByteArray
 cap:Nat
def fS(t:jq)(f:ByteArray->Bool):jq:={ t with l:=t.l.map fun e=>{ e with good:=e.good&&!f e.key } }
structure OD where
 seen:List Nat
 H:PH
 n:Int
def IU(t:jq)(seen:List Nat):Nat:=(t.l.filter fun e=>!decide (e.born∈seen)).length
structure OE(t:jq)(H:PH)(f:ByteArray->Bool)(x:OD):Prop where
 old:∀z,z∉t.l.map (·.blk)->x.H z=H z
 at_:∀e∈t.l,x.H e.blk=some (0,[.string e.key,.bool (e.good&&!(decide (e.born∈x.seen)&&f e.key))])
 n:0<=x.n/\x.n+(IU t x.seen:Nat)<=(t.l.length:Nat)
theorem OF{t:jq}{seen:List Nat}{y:gm}(hy:y∈t.l)(hn:y.born∉seen):IU t (seen++[y.born])<IU t seen :=
 Go.filter_lt (fun e:gm=>!decide (e.born∈seen)) (fun e=>!decide (e.born∈seen++[y.born])) (fun x hx=>by
  simp only[Bool.not_eq_true',decide_eq_false_iff_not,List.mem_append,not_or]at hx ⊢;exact hx.1) y (by simpa using hn) (by simp) t.l hy
theorem Du{α β:Type}{f:α->β}{l:List α}(h:(l.map f).Nodup){a b:α}(ha:a∈l)(hb:b∈l)(e:f a=f b):a=b:=by
 induction l with
 |nil=>cases ha
 |cons x r ih =>
  rw[List.map_cons,List.nodup_cons]at h;obtain⟨g1,g2⟩:=h;rcases List.mem_cons.1 ha with a1|a1
  ·rcases List.mem_cons.1 hb with b1|b1
   ·rw[a1,b1]
   ·exact absurd (List.mem_map.2 ⟨b,b1,by rw[<- e,a1]⟩) g1
  ·rcases List.mem_cons.1 hb with b1|b1
   ·exact absurd (List.mem_map.2 ⟨a,a1,by rw[e,b1]⟩) g1
   ·exact ih g2 a1 b1
theorem OE.skip{t:jq}{H:PH}{f:ByteArray->Bool}{x:OD}(h:OE t H f x)(ht:gn H t){y:gm}(hy:y∈t.l)(hn:y.born∉x.seen)(hf:(y.good&&f y.key)=false):OE t H f ⟨x.seen++[y.born],x.H,x.n⟩:=by
 refine⟨h.old,fun e he=>?_,h.n.1,?_⟩
 ·rw[h.at_ e he];by_cases hb:e.born=y.born
  ·obtain rfl:=Du ht.born he hy hb;have e1:decide (e.born∈x.seen)=false:=decide_eq_false hn;have e2:decide (e.born∈x.seen++[e.born])=true:=decide_eq_true (by simp);rw[e1,e2]
   revert hf
   cases e.good<;>cases f e.key<;>simp
  ·have e1:decide (e.born∈x.seen++[y.born])=decide (e.born∈x.seen):=by
    rw[Bool.eq_iff_iff];simp[hb]
   rw[e1]
 ·have:=OF hy hn;have:=h.n.2;dsimp only;omega
theorem OE.hit{t:jq}{H:PH}{f:ByteArray->Bool}{x:OD}(h:OE t H f x)(ht:gn H t){y:gm}(hy:y∈t.l)(hn:y.born∉x.seen)(hf:f y.key=true):OE t H f ⟨x.seen++[y.born],aM x.H y.blk 0 [.string y.key,.bool false],x.n+1⟩:=by
 refine⟨fun z hz=>?_,fun e he=>?_,by have:=h.n.1;dsimp only;omega,?_⟩
 ·have:z≠y.blk:=fun e=>hz (List.mem_map.2 ⟨y,hy,e.symm⟩);show aM x.H y.blk 0 _ z=H z;rw[cC this];exact h.old z hz
 ·show aM x.H y.blk 0 _ e.blk=_;by_cases hb:e.blk=y.blk
  ·obtain rfl:=Du ht.blk he hy hb;have e2:decide (e.born∈x.seen++[e.born])=true:=decide_eq_true (by simp);rw[dF,e2,hf];simp
  ·have hb2:e.born≠y.born:=fun e3=>hb (by rw[Du ht.born he hy e3]);have e1:decide (e.born∈x.seen++[y.born])=decide (e.born∈x.seen):=by
    rw[Bool.eq_iff_iff];simp[hb2]
   rw[cC hb,h.at_ e he,e1]
 ·have:=OF hy hn;have:=h.n.2;dsimp only;omega
theorem OE.all{t:jq}{H:PH}{f:ByteArray->Bool}{x:OD}(h:OE t H f x)(ht:gn H t)(ha:∀e∈t.l,e.born∈x.seen):gn x.H (fS t f):=by
 have e1:∀ {γ:Type} (g:gm->γ),(∀e b,g { e with good:=b }=g e)->(fS t f).l.map g=t.l.map g:=fun g hg=>by
  unfold fS;rw[List.map_map];exact List.map_congr_left fun e _=>hg _ _
 refine⟨fun e he=>?_,by rw[e1 _ fun _ _=>rfl];exact ht.blk,fun e he=>?_,by rw[e1 _ fun _ _=>rfl];exact ht.ids,by rw[e1 _ fun _ _=>rfl];exact ht.born,ht.last⟩
 ·obtain⟨y,hy,rfl⟩:=List.mem_map.1 he;have:=h.at_ y hy;rw[decide_eq_true (ha y hy),Bool.true_and]at this;exact⟨this,(ht.at_ y hy).2⟩
 ·obtain⟨y,hy,rfl⟩:=List.mem_map.1 he;exact ht.id y hy
noncomputable def MW:cD where
 α:=Dt
 β:=PH×Int
 m:=4
 m':=4
 pre:=fun a=>gn a.H a.t/\a.ks.length<100000/\a.t.l.length<100000
 args:=fun a=>[.a (.ptr 0 0 0 0),.a (.slc 3 0 1 a.ks.length a.cap)]
 hp:=fun a=>[(0,Dp a.mb a.t),(1,u9 a.mb a.t),(2,.cu a.H)]
 ro:=fun a=>[(3,.arr 9 [.str] a.ks.length (af kj a.ks))]
 post:=fun a b=>gn b.1 (fS a.t (hasB a.ks))/\∀z,z∉a.t.l.map (·.blk)->b.1 z=a.H z
 res:=fun _ b=>.a (.int .i64 b.2)
 cT:=fun a b=>[(0,Dp a.mb (fS a.t (hasB a.ks))),(1,u9 a.mb (fS a.t (hasB a.ks))),(2,.cu b.1)]
def Uv(mb:Nat)(t:jq)(H:PH)(f:ByteArray->Bool):An:=.flat 5 OD (fun s x=>(((s.at_ (s.tg 14) (.abs (mh mb x.seen t.dG))).at_ (EO s) (.cu x.H)).set 5 (.a (.int .i64 x.n)))) (fun _ x=>OE t H f x) (fun _ x=>IU t x.seen)
def tf(x:List Nat)(y:fI):List Nat:=x++[y.born]
def xE(y:PH×Int)(z:jq)(u:ByteArray->Bool)(v:Nat->Option (Nat×List Value)):=gn y.fst (fS z u)/\∀x:Nat,¬x∈List.map (fun(w:gm)=>w.blk) z.l->y.fst x=v x
def xF(y:Int)(z:OD->Prop):=∃x:OD,y=x.n/\ag (cH (aW (z x)))
def H8(q:PH)(x:jq)(D:Prop)(z:Nat)(E:Nat->Nat->OD->Prop)(h:ByteArray->Bool)(F:Nat->Option (Nat×List Value))(G:OD->List Nat->Nat->Nat->fI->fI->Nat->List Value->Prop)(I:OD->List Nat->Nat->Nat->fI->OD->Prop):=gn q x/\D->rA z x fun J N K=>(xF 0 fun y=>E J K y)/\∀y:OD,OE x q h y->∃r:IntKind,∃c:Nat,∃w:List Nat,∃s:Nat,mh z y.seen x.dG=mh c w s/\∃t:Nat,∃i:List fI,∃k:Nat,iH c t/\e8 z x=mZ t r i k/\VB r i k/\k=s/\bB true/\((∀u:fI,u∈i->u.born∈w)->∃l:PH×Int,y.n=l.snd/\e8 z x=e8 z (fS x h)/\y.H=l.fst/\x.last=(fS x h).last/\iH z z/\(xE l x h fun L=>F L)/\True)/\∀u:fI,u∈i->¬u.born∈w->∃d:IntKind,∃e:Nat,∃A:List Nat,∃B:Nat,mh t (tf w u) s=mh e A B/\∃C:Nat,∃m:List fI,∃o:Nat,iH e C/\e8 z x=mZ C d m o/\VB d m o/\o=B/\∃M:List Nat,∃f:fI,A=tf M f/\f∈m/\kr f.val 1 (fun g=>y.H g) (fun g=>∃p:Bool,g=dX p) fun g p=>aO (ZV (aS p g)) (kr f.val 0 (fun v=>y.H v) (fun v=>∃j:ByteArray,v=bE j/\bA j<=aq) fun v j=>G y w s t u f v j) (xF y.n fun v=>I y w s t u v)
def Dv(z:Nat)(u:List Nat)(v:Nat)(x:Dt)(y:OD)(w:PH)(s:Prop):=ax (mh z u v=mh x.mb y.seen x.t.dG/\bD (aU x.ks) x.cap/\aG x.t.last/\iH x.mb x.mb/\e8 x.mb x.t=e8 x.mb x.t/\w=y.H/\kW x.ks/\OE x.t x.H (hasB x.ks) y/\s)
theorem Qx:fnBody (Y Tryz.prog) [(133,Us)] 88 MW fun a=>[(131,[Uv a.mb a.t a.H (hasB a.ks)],[])]:=fnBody.of (p :=
 ∀x:Dt,H8 x.H x.t (aU x.ks<100000/\x.t.l.length<100000) x.mb (fun y v w=>Dv y [] v x w x.H True) (hasB x.ks) (fun y=>x.H y) (fun y v w s f g j k=>∃u:Ko,dJ (aU x.ks) (aU u.ks) x.cap u.cap (ZN (aS k j)=u.key) 1 (af kj x.ks) (af kj u.ks) (aU u.ks<100000/\aI (aO (hasB u.ks u.key) (Exists (kq g.val 1 (fun z=>y.H z) (fun z h=>z+1<=h.length) fun z h m o=>ah (y.n+(1:Int))/\xF (y.n+(1:Int)) fun i=>Dv s (tf v f) w x i (aM y.H z h (qj m o (bH fZ) 1)) (IU x.t i.seen<IU x.t y.seen))) (xF y.n fun z=>Dv s (tf v f) w x z y.H (IU x.t z.seen<IU x.t y.seen))))) fun y v w s f g=>Dv s (tf v f) w x g y.H (IU x.t g.seen<IU x.t y.seen)) (by kernel_rfl) (by
 delta aO aS aL kr ah e8 bW aG iH bB aU kq bH aD bM ot pn dN aI bA bD cH dJ bE H8 Dv kW fZ rA aW ag ax tf xE dX qj xF
 try dsimp -iota -proj only
 rintro⟨mb,t,H,ks,cap⟩ ⟨h1,h2,h3⟩;dsimp only at *;have hok:=h1.ok;obtain⟨f,hf⟩:∃f,f=hasB ks:=⟨_,rfl⟩
 refine⟨mb,t.l.map gm.enc,t.dG,rfl,rfl,hok,⟨⟨[],H,0⟩,?_⟩,fun x hI=>?_⟩
 ·have hI:OE t H (hasB ks) ⟨[],H,0⟩:=⟨fun _ _=>rfl,fun e he=>by
   have:=(h1.at_ e he).1;show H e.blk=_;rw[this];simp,by show(0:Int)<=0;decide,by
   show(0:Int)+(IU t []:Nat)<=(t.l.length:Nat)
   have:IU t []<=t.l.length:=List.length_filter_le _ _;omega⟩
  and_intros<;>first|exact cc|exact hI|(intro h_;revert h_)|exact cm|skip
 rw[<- hf]at hI ⊢;refine⟨.i64,mb,x.seen,t.dG,rfl,mb,t.l.map gm.enc,t.dG,rfl,rfl,hok,rfl,rfl,fun hall=>⟨(x.H,x.n),?_⟩,fun e he hns=>?_⟩
 ·have ha:=hI.all h1 fun e he=>hall _ (List.mem_map.2 ⟨e,he,rfl⟩);have hm:mZ mb .i64 (t.l.map gm.enc) t.dG=mZ mb .i64 ((fS t f).l.map gm.enc) (fS t f).dG:=by
   unfold fS;rw[List.map_map];rfl
  have ho:=hI.old
  and_intros<;>first|exact cc|exact hm|exact ha|exact ho|(intro h_;revert h_)|exact cm|skip
 obtain⟨y,hy,rfl⟩:=List.mem_map.1 he;have hns:y.born∉x.seen:=hns;have hg:x.H y.blk=some (0,[.string y.key,.bool y.good]):=by
  rw[hI.at_ y hy,decide_eq_false hns];simp
 have hmu:=OF hy hns;refine⟨.i64,mb,x.seen++[y.born],t.dG,rfl,mb,t.l.map gm.enc,t.dG,rfl,rfl,hok,rfl,x.seen,gm.enc y,rfl,he,y.blk,0,rfl,y.blk,0,rfl,y.blk,0,1,[.string y.key,.bool y.good],rfl,hg,⟨⟨_,rfl,_,rfl⟩,trivial⟩,fun c1=>?_,fun c1=>?_⟩
 ·have c1:y.good=true:=c1;have hyk:=(h1.at_ y hy).2;refine⟨y.blk,0,rfl,y.blk,0,rfl,y.blk,0,0,[.string y.key,.bool y.good],rfl,hg,⟨⟨_,rfl,_,rfl,hyk⟩,trivial⟩,Ko.mk ks cap y.key,?_⟩;have hrk:aj ks.length 1 (af kj ks) (af kj ks):=aj.refl _ _ _;have hkk:ZN ([Value.string y.key,.bool y.good].getD 0 (.tuple #[]))=y.key:=rfl
  and_intros<;>first|exact cc|exact hkk|exact hrk|exact h2|(intro h_;revert h_)|exact cm|skip
  intro _ _;dsimp only;rw[<- hf];refine⟨fun c2=>⟨y.blk,0,rfl,y.blk,0,rfl,y.blk,0,1,[.string y.key,.bool y.good],rfl,hg,(Nat.le_refl 2),?_,⟨x.seen++[y.born],aM x.H y.blk 0 [.string y.key,.bool false],x.n+1⟩,?_⟩,fun c2=>⟨⟨x.seen++[y.born],x.H,x.n⟩,?_⟩⟩
  ·have:=hI.n;have:=List.length_filter_le (fun e:gm=>!decide (e.born∈x.seen)) t.l;simp only[bL];omega
  ·have hI2:=hI.hit h1 hy hns c2
   and_intros<;>first|exact cc|exact hI2|exact hmu|(intro h_;revert h_)|exact cm|skip
  ·have hI2:=hI.skip h1 hy hns (by rw[c1,c2];rfl)
   and_intros<;>first|exact cc|exact hI2|exact hmu|(intro h_;revert h_)|exact cm|skip
 ·have c1:y.good=false:=c1;have hI2:=hI.skip h1 hy hns (by rw[c1];rfl);refine⟨⟨x.seen++[y.born],x.H,x.n⟩,?_⟩
  and_intros<;>first|exact cc|exact hI2|exact hmu|(intro h_;revert h_)|exact cm|skip)
theorem Qy:ak (Y Tryz.prog).G.X 88 MW:=aV fK Qx ⟨Uu,trivial⟩
def vW(_:ByteArray):Bool:=true
structure Kp where
 mb:Nat
 t:jq
 H:PH
noncomputable def H9:cD where
 α:=Kp
 β:=PH×Int
 m:=3
 m':=3
 pre:=fun a=>gn a.H a.t/\a.t.l.length<100000
 args:=fun a=>[.a (.ptr 0 0 0 0)]
 hp:=fun a=>[(0,Dp a.mb a.t),(1,u9 a.mb a.t),(2,.cu a.H)]
 ro:=fun _=>[]
 post:=fun a b=>gn b.1 (fS a.t vW)/\∀z,z∉a.t.l.map (·.blk)->b.1 z=a.H z
 res:=fun _ b=>.a (.int .i64 b.2)
 cT:=fun a b=>[(0,Dp a.mb (fS a.t vW)),(1,u9 a.mb (fS a.t vW)),(2,.cu b.1)]
def Ia(z:Nat)(u:List Nat)(v:Nat)(x:Kp)(y:OD)(w:PH)(s:Prop):=ag (mh z u v=mh x.mb y.seen x.t.dG/\aG x.t.last/\iH x.mb x.mb/\e8 x.mb x.t=e8 x.mb x.t/\w=y.H/\OE x.t x.H vW y/\s)
theorem MX:fnBody (Y Tryz.prog) [] 107 H9 fun a=>[(131,[Uv a.mb a.t a.H vW],[])]:=fnBody.of (p :=
 ∀x:Kp,H8 x.H x.t (x.t.l.length<100000) x.mb (fun y z u=>Ia y [] z x u x.H True) vW (fun y=>x.H y) (fun y z u s f w k m=>Exists (kq w.val 1 (fun v=>y.H v) (fun v g=>v+1<=g.length) fun v g i j=>ah (y.n+(1:Int))/\xF (y.n+(1:Int)) fun h=>Ia s (tf z f) u x h (aM y.H v g (qj i j (bH fZ) 1)) (IU x.t h.seen<IU x.t y.seen))) fun y z u s f w=>Ia s (tf z f) u x w y.H (IU x.t w.seen<IU x.t y.seen)) (by kernel_rfl) (by
 delta aO aS kr ah e8 aG iH bB kq bH aD bM ot pn bA cH bE H8 fZ rA aW ag Ia tf xE dX qj xF
 try dsimp -iota -proj only
 rintro⟨mb,t,H⟩ ⟨h1,h3⟩;dsimp only at *;have hok:=h1.ok;refine⟨mb,t.l.map gm.enc,t.dG,rfl,rfl,hok,⟨⟨[],H,0⟩,?_⟩,fun x hI=>?_⟩
 ·have hI:OE t H vW ⟨[],H,0⟩:=⟨fun _ _=>rfl,fun e he=>by
   have:=(h1.at_ e he).1;show H e.blk=_;rw[this];simp,by show(0:Int)<=0;decide,by
   show(0:Int)+(IU t []:Nat)<=(t.l.length:Nat)
   have:IU t []<=t.l.length:=List.length_filter_le _ _;omega⟩
  and_intros<;>first|exact cc|exact hI|(intro h_;revert h_)|exact cm|skip
 refine⟨.i64,mb,x.seen,t.dG,rfl,mb,t.l.map gm.enc,t.dG,rfl,rfl,hok,rfl,rfl,fun hall=>⟨(x.H,x.n),?_⟩,fun e he hns=>?_⟩
 ·have ha:=hI.all h1 fun e he=>hall _ (List.mem_map.2 ⟨e,he,rfl⟩);have hm:mZ mb .i64 (t.l.map gm.enc) t.dG=mZ mb .i64 ((fS t vW).l.map gm.enc) (fS t vW).dG:=by
   unfold fS;rw[List.map_map];rfl
  have ho:=hI.old
  and_intros<;>first|exact cc|exact hm|exact ha|exact ho|(intro h_;revert h_)|exact cm|skip
 obtain⟨y,hy,rfl⟩:=List.mem_map.1 he;have hns:y.born∉x.seen:=hns;have hg:x.H y.blk=some (0,[.string y.key,.bool y.good]):=by
  rw[hI.at_ y hy,decide_eq_false hns];simp
 have hmu:=OF hy hns;refine⟨.i64,mb,x.seen++[y.born],t.dG,rfl,mb,t.l.map gm.enc,t.dG,rfl,rfl,hok,rfl,x.seen,gm.enc y,rfl,he,y.blk,0,rfl,y.blk,0,rfl,y.blk,0,1,[.string y.key,.bool y.good],rfl,hg,⟨⟨_,rfl,_,rfl⟩,trivial⟩,fun c1=>?_,fun c1=>?_⟩
 ·have c1:y.good=true:=c1;have hyk:=(h1.at_ y hy).2;refine⟨y.blk,0,rfl,y.blk,0,rfl,y.blk,0,0,[.string y.key,.bool y.good],rfl,hg,⟨⟨_,rfl,_,rfl,hyk⟩,trivial⟩,y.blk,0,rfl,y.blk,0,rfl,y.blk,0,1,[.string y.key,.bool y.good],rfl,hg,(Nat.le_refl 2),?_,⟨x.seen++[y.born],aM x.H y.blk 0 [.string y.key,.bool false],x.n+1⟩,?_⟩
  ·have:=hI.n;have:=List.length_filter_le (fun e:gm=>!decide (e.born∈x.seen)) t.l;simp only[bL];omega
  ·have hI2:=hI.hit h1 hy hns rfl
   and_intros<;>first|exact cc|exact hI2|exact hmu|(intro h_;revert h_)|exact cm|skip
 ·have c1:y.good=false:=c1;have hI2:=hI.skip h1 hy hns (by rw[c1];rfl);refine⟨⟨x.seen++[y.born],x.H,x.n⟩,?_⟩
  and_intros<;>first|exact cc|exact hI2|exact hmu|(intro h_;revert h_)|exact cm|skip)
theorem MY:ak (Y Tryz.prog).G.X 107 H9:=aV fK MX trivial
structure ou where
 node:Int
 id:Int
 op:Int
 key:ByteArray
 deriving Inhabited
structure Kq where
 w:ou
 id:Int
 to:Int
 tick:Int
 deriving Inhabited
structure gX where
 w:ou
 tok:Int
 deriving Inhabited
def W2:List CK:=[.int .i64,.int .i64,.int .i64,.str]
def Uw(w:ou):List Value:=[.int .i64 w.node,.int .i64 w.id,.int .i64 w.op,.string w.key]
def Ib:List CK:=W2++[.int .i64,.int .i64,.int .i64]
def iI(x:Kq):List Value:=Uw x.w++[.int .i64 x.id,.int .i64 x.to,.int .i64 x.tick]
def Ae:List CK:=W2++[.int .i64]
def fN(x:gX):List Value:=Uw x.w++[.int .i64 x.tok]
structure th where
 aT:Int
 end_:Int
 top:Int
structure cF where
 s:lu
 id:Int
 now:Int
 le:th
 t:jq
 ws:List Kq
 rs:List gX
 asked:Int
structure fT where
 p:sZ
 mb:Nat
 wc:Nat
 rc:Nat
def Qz(rg ma ra:A)(st le tk wa rd:Nat)(n:cF)(p:fT):Chunk:=.obj 83 [.ptr st 0 0 0,.ptr le 0 0 0,.int .i64 n.id,rg,.ptr tk 0 0 0,.bool false,.bU,.val (.map none),.val (.map none),.slc wa 0 7 n.ws.length p.wc,.slc rd 0 5 n.rs.length p.rc,.int .i64 n.asked,ma,ra]
def Ic(rg:A)(st le tk wa rd:Nat)(n:cF)(p:fT):Chunk:=Qz rg .bU .bU st le tk wa rd n p
def Wx(ck:Nat)(l:th):Chunk:=.obj 127 [.ptr ck 0 0 0,.int .i64 l.aT,.int .i64 l.end_,.int .i64 l.top]
def Wy(now:Int):Chunk:=.obj 24 [.int .i64 now]
def W3(rg:A)(nd le ck tk mp wa rd st ca cl dv ds ix it jr ma jl ke su tx pl:Nat)(n:cF)(p:fT):List (Nat×Chunk) :=
 [(nd,Ic rg st le tk wa rd n p),(le,Wx ck n.le),(ck,Wy n.now),(tk,Dp p.mb n.t),(mp,u9 p.mb n.t),(wa,.arr 125 Ib n.ws.length (af iI n.ws)),(rd,.arr 134 Ae n.rs.length (af fN n.rs))]++vL st ca cl dv ds ix it jr ma jl ke su tx pl n.s p.p
structure dB(n:cF)(p:fT):Prop where
 st:oS n.s p.p
 tok:gn p.p.H n.t
 sep:∀e∈n.t.l,e.blk∉br p.p.cy/\e.blk∉br p.p.jy
 wc:n.ws.length<=p.wc
 rc:n.rs.length<=p.rc
def t00:jq:=⟨0,[],0⟩
structure Ei where
 id:Int
 now:Int
 d:bw
 H:PH
def pR(a:Ei):cF:=⟨jR (rz ⟨a.d,a.H⟩),a.id,a.now,⟨0,0,0⟩,t00,[],[],0⟩
noncomputable def Dw:cD where
 α:=Ei
 β:=fT
 m:=4
 m':=40
 pre:=fun a=>1<=a.id/\a.id<=5/\yx.pre ⟨a.d,a.H⟩
 args:=fun a=>[.a (.int .i64 a.id),.a (.ptr 0 0 0 0),.a (.ptr 3 0 0 0)]
 hp:=fun a=>gA 0 1 a.d++[(2,.cu a.H),(3,Wy a.now)]
 ro:=fun _=>[]
 post:=fun a b=>dB (pR a) b
 res:=fun _ _=>.l8 [.a (.ptr 4 0 0 0),.a (.lit .i64 0)]
 cT:=fun a b=>W3 .nil 4 5 3 6 7 8 9 10 11 12 0 1 13 14 15 16 17 18 19 20 21 (pR a) b
def nk:=cM (Value.map none)
def cE(x:List gX):Nat:=x.length
def Fs(y:Int)(x:th)(z u:Int)(v w:Prop):=ag (y=x.aT/\z=x.end_/\u=x.top/\v/\w)
def Af(x:Ei):=(1:Int)<=x.id/\x.id<=(5:Int)/\xC x.d { d:=x.d,H:=x.H }
theorem QA:fnBody (Y Tryz.prog) [(46,yx)] 11 Dw fun _=>[]:=fnBody.of (p :=
 ∀x:Ei,Af x->gC (aQ x.id 1) (∃y:fT,False) (aQ 5 x.id) (∃y:Dd,ag (iR x.d y.d (x.H=y.H/\xC y.d y/\∀u:sZ,xB (rz y) u y.H->∀v:Nat,∃z:fT,ag (aW (ax (x.id=(pR x).id/\ag (ig (bB false) nk ((0=(pR x).ws.length/\0=z.wc)/\(0=cE (pR x).rs/\0=z.rc)/\(0:Int)=(pR x).asked/\Fs 0 (pR x).le 0 0 (x.now=(pR x).now) ((0:Int)=(pR x).t.last/\iH v z.mb/\ot v [] 0=e8 z.mb (pR x).t/\(pR x).ws.length=0/\cE (pR x).rs=0/\ax (ag (ry (jR (rz y)) (pR x).s u z.p (u.H=z.p.H/\dB (pR x) z/\True))))))))))))) (by kernel_rfl) (by
 delta aO e8 bW aG iH bB aQ nk cE aD ig Fs cM ot pn gC aW ag xC ax Af iy xB
 rintro⟨id,now,d,H⟩ ⟨h1,h2,h3,h4,h5,h6⟩;dsimp only at *;refine⟨fun c=>(by exfalso;have:=of_decide_eq_true c;omega),fun _=>⟨fun c=>(by exfalso;have:=of_decide_eq_true c;omega),fun _=>⟨Dd.mk d H,?_⟩⟩⟩
 and_intros<;>first|exact cc|exact h3|exact h4|exact h5|exact h6.1|exact h6.2|exact h6.3|exact h6.4|exact h6.5|exact h6.6|(intro h_;revert h_)|exact cm|skip
 rintro p ⟨hat,_⟩ mb;refine⟨⟨p,mb,0,0⟩,?_⟩;have hN:dB (pR ⟨id,now,d,H⟩) ⟨p,mb,0,0⟩:=⟨hat,⟨fun e he=>(by cases he),List.nodup_nil,fun e he=>(by cases he),List.nodup_nil,List.nodup_nil,by show(0:Int)<=0/\(0:Int)<=_;omega⟩,fun e he=>(by cases he),Nat.le_refl 0,Nat.le_refl 0⟩
 and_intros<;>first|exact cc|exact hN|(intro h_;revert h_)|exact cm|skip)
theorem Ft:ak (Y Tryz.prog).G.X 11 Dw:=aV fK QA ⟨MI,trivial⟩
theorem oS.frame{s:lu}{p:sZ}(h:oS s p){H':PH}(e:∀z,z∈br p.cy\/z∈br p.jy->H' z=p.H z):oS s { p with H:=H' } :=
 ⟨⟨h.fl.log.frame fun z hz=>e z (.inl hz),h.fl.idx⟩,h.jl.frame fun z hz=>e z (.inr hz),h.sep,h.cap⟩
theorem oS.dom{s:lu}{p:sZ}(h:oS s p){z:Nat}(hz:z∈br p.cy\/z∈br p.jy):p.H z≠none:=by
 rcases hz with hz|hz
 ·exact h.fl.log.dom z hz
 ·exact h.jl.dom z hz
theorem gn.frame{H H':PH}{t:jq}(h:gn H t)(e:∀x∈t.l,H' x.blk=H x.blk):gn H' t :=
 ⟨fun x hx=>⟨by rw[e x hx];exact(h.at_ x hx).1,(h.at_ x hx).2⟩,h.blk,h.id,h.ids,h.born,h.last⟩
theorem dB.store{n:cF}{p:fT}(h:dB n p){s:lu}{b:sZ}(h1:oS s b)(h2:Dc p.p.H (br p.p.cy) (br p.p.jy) b):dB { n with s:=s } { p with p:=b }:=by
 have hx:∀e∈n.t.l,b.H e.blk=p.p.H e.blk/\e.blk∉br b.cy/\e.blk∉br b.jy:=fun e he =>
  h2 e.blk (by rw[(h.tok.at_ e he).1];simp) (h.sep e he).1 (h.sep e he).2
 exact⟨h1,h.tok.frame fun e he=>(hx e he).1,fun e he=>(hx e he).2,h.wc,h.rc⟩
theorem gn.Yi{H:PH}{t:jq}(h:gn H t){key:ByteArray}{b:Nat}(hb:H b=none)(hk:key.size<=aq)(hl:t.last<1099511627776):gn (aM H b 0 [.string key,.bool true]) (pg t key b):=by
 have hne:∀e∈t.l,e.blk≠b:=fun e he h0=>by
  have:=(h.at_ e he).1;rw[h0,hb]at this;cases this
 have hlast:=h.last;refine⟨fun e he=>?_,?_,fun e he=>?_,?_,?_,by show 0<=t.last+1/\t.last+1<=_;omega⟩
 ·rcases List.mem_append.1 he with he|he
  ·exact⟨by rw[cC (hne e he)];exact(h.at_ e he).1,(h.at_ e he).2⟩
  ·rw[List.mem_singleton]at he;subst he;exact⟨dF _ _ _ _,hk⟩
 ·show((t.l++[_]).map _).Nodup;rw[List.map_append,List.nodup_append];refine⟨h.blk,by simp,fun x hx y hy=>?_⟩;obtain⟨e,he,rfl⟩:=List.mem_map.1 hx;have:y=b:=by simpa using hy
  rw[this];exact hne e he
 ·rcases List.mem_append.1 he with he|he
  ·have:=h.id e he;show 1<=e.id/\e.id<=t.last+1/\e.born<t.dG+1;omega
  ·rw[List.mem_singleton]at he;subst he;show 1<=t.last+1/\t.last+1<=t.last+1/\t.dG<t.dG+1;omega
 ·show((t.l++[_]).map _).Nodup;rw[List.map_append,List.nodup_append];refine⟨h.ids,by simp,fun x hx y hy=>?_⟩;obtain⟨e,he,rfl⟩:=List.mem_map.1 hx;have:y=t.last+1:=by simpa using hy
  have:=h.id e he;omega
 ·show((t.l++[_]).map _).Nodup;rw[List.map_append,List.nodup_append];refine⟨h.born,by simp,fun x hx y hy=>?_⟩;obtain⟨e,he,rfl⟩:=List.mem_map.1 hx;have:y=t.dG:=by simpa using hy
  have:=h.id e he;omega
theorem dB.Yi{n:cF}{p:fT}(h:dB n p){key:ByteArray}{b:Nat}(hb:p.p.H b=none)(hk:key.size<=aq)(hl:n.t.last<1099511627776):dB { n with t:=pg n.t key b } { p with p:={ p.p with H:=aM p.p.H b 0 [.string key,.bool true] } }:=by
 have hne:∀z,z∈br p.p.cy\/z∈br p.p.jy->z≠b:=fun z hz h0=>h.st.dom hz (by rw[h0];exact hb);refine⟨h.st.frame fun z hz=>cC (hne z hz),h.tok.Yi hb hk hl,fun e he=>?_,h.wc,h.rc⟩;rcases List.mem_append.1 he with he|he
 ·exact h.sep e he
 ·rw[List.mem_singleton]at he;subst he;exact⟨fun hz=>hne b (.inl hz) rfl,fun hz=>hne b (.inr hz) rfl⟩
theorem dB.W4{n:cF}{p:fT}(h:dB n p){f:ByteArray->Bool}{H':PH}(h1:gn H' (fS n.t f))(h2:∀z,z∉n.t.l.map (·.blk)->H' z=p.p.H z):dB { n with t:=fS n.t f } { p with p:={ p.p with H:=H' } }:=by
 refine⟨h.st.frame fun z hz=>h2 z fun hm=>?_,h1,fun e he=>?_,h.wc,h.rc⟩
 ·obtain⟨e,he,rfl⟩:=List.mem_map.1 hm;rcases hz with hz|hz
  ·exact(h.sep e he).1 hz
  ·exact(h.sep e he).2 hz
 ·obtain⟨y,hy,rfl⟩:=List.mem_map.1 he;exact h.sep y hy
structure Ej where
 id:Int
 op:Int
 key:ByteArray
 err:Int
 val:ByteArray
 has:Bool
 deriving Inhabited
def W5:List CK:=[.int .i64,.int .i64,.str,.int .i64,.str,.bool]
def oT(r:Ej):List Value:=[.int .i64 r.id,.int .i64 r.op,.string r.key,.int .i64 r.err,.string r.val,.bool r.has]
def va:ByteArray:=ByteArray.mk #[]
structure Fu where
 n:cF
 p:fT
 id:Int
 op:Int
 key:ByteArray
def Ag(op:Int)(key:ByteArray)(e:Int):Int:=if(op=1\/op=2)/\dS key=true then e else 1
def QB(a:Fu):Ej:=⟨a.id,a.op,a.key,Ag a.op a.key 6,va,false⟩
noncomputable def MZ:cD where
 α:=Fu
 β:=Nat
 m:=8
 m':=9
 pre:=fun a=>a.key.size<=aq
 args:=fun a=>[.a (.ptr 0 0 0 0),.a (.int .i64 a.id),.a (.int .i64 a.op),.a (.str a.key)]
 hp:=fun a=>[(0,Ic .nil 7 1 3 5 6 a.n a.p)]
 ro:=fun _=>[]
 post:=fun _ _=>True
 res:=fun _ c=>.agg [.bU,.slc 8 0 6 1 c]
 cT:=fun a _=>[(0,Ic .nil 7 1 3 5 6 a.n a.p),(8,.arr 61 W5 1 (af oT [QB a]))]
def ov(x:List Kq)(y:cF)(z:Nat)(u:fT):=ag (x.length=y.ws.length/\z=u.wc)
def jd(y:Prop)(z:List gX)(x:cF)(u:Nat)(v:fT)(w:Int)(s t:Prop):=ig (bB false) nk (y/\ag (cE z=cE x.rs/\u=v.rc)/\w=x.asked/\s/\t)
def oU(x y:cF)(z u:fT)(v w:Prop):=ag (jd (ov x.ws y z.wc u) x.rs y z.rc u x.asked v w)
def Ie(x:Fu)(z:Int):=ah x.id->ah x.op->1<=1/\64<=140737488355328/\∀y:Nat,1<=y->y<=aq->∃u:Nat,bW 1 (y=u)/\aL 1 1 6 (jF 6 (bu x.id (bu x.op (dZ x.key z (bM (bE dc) (bH fZ)))))) (af oT [QB x])/\ax (aG x.n.id/\oU x.n x.n x.p x.p True True)
theorem QC:fnBody (Y Tryz.prog) [(66,Ix.uU),(86,Lu)] 13 MZ fun _=>[]:=fnBody.of (p :=
 ∀x:Fu,bA x.key<=aq->∃z:Ix.PT,He z x.key (ah x.op->wq (x.op != (1:Int)) x.op (x.op != (2:Int)) (Ie x 1) (∃y:ByteArray,x.key=y/\cO (aO (bx (dS y)) (Ie x 1) (Ie x 6))))) (by kernel_rfl) (by
 delta aO oU aL ah bu bW aG bB nk cE bH aD dO ig bM cM ov wq dc aI bA bE Ie iu fZ jd ag ax dZ He bx cO dX jF
 try dsimp -iota -proj only
 rintro⟨n,p,id,op,key⟩ h;have h:key.size<=aq:=h;have hr:aj 1 1 (aN 1 [Go.Value.string key]) (fun(i x:Nat)=>Go.Value.string key):=.dW fun i hi=>by
  have:i=0:=by omega
  subst this;rfl
 have hs:∀i:Nat,i<1->key.size<=aq:=fun _ _=>h;have hrep:∀e:Int,Ag op key 6=e->aj 1 6 (fun(i j:Nat)=>aN 6 [Value.int .i64 id,Value.int .i64 op,Value.string key,Value.int .i64 e,Value.string (ByteArray.mk #[]),Value.bool false] (0+i) j) (af oT [QB ⟨n,p,id,op,key⟩]):=fun e he=>.dW fun i hi=>by
  have:i=0:=by omega
  subst this;subst he;rfl
 refine⟨⟨fun _=>key,1,1⟩,?_⟩
 and_intros<;>first|exact cc|exact hr|exact hs|(intro h_;revert h_)|exact cm|skip
 intro _ _ _;dsimp only;have hk1:∀ {c:Bool},dS key=c->(op=1\/op=2)->Ag op key 6=if c=true then 6 else 1:=fun {c} hc ho=>by
  unfold Ag;rw[hc];cases c<;>simp[ho]
 refine⟨fun c1 _=>⟨fun c2 _ _=>?_,fun c2=>⟨key,rfl,trivial,fun _ _=>⟨fun c3 _ _=>?_,fun c3 _ _=>?_⟩⟩⟩,fun c1=>⟨key,rfl,trivial,fun _ _=>⟨fun c3 _ _=>?_,fun c3 _ _=>?_⟩⟩⟩
 ·have he:=hrep 1 (by unfold Ag;rw[if_neg];rintro⟨ho,_⟩;rcases ho with ho|ho<;>simp[ho]at c1 c2);refine⟨Nat.le_refl 1,by decide,fun cap _ _=>⟨cap,?_⟩⟩
  and_intros<;>first|exact cc|exact he|(intro h_;revert h_)|exact cm|skip
 ·have he:=hrep 1 (by rw[hk1 (c:=false) (by simpa using c3) (.inr (by simpa using c2))];rfl);refine⟨Nat.le_refl 1,by decide,fun cap _ _=>⟨cap,?_⟩⟩
  and_intros<;>first|exact cc|exact he|(intro h_;revert h_)|exact cm|skip
 ·have he:=hrep 6 (by rw[hk1 (c:=true) (by simpa using c3) (.inr (by simpa using c2))];rfl);refine⟨Nat.le_refl 1,by decide,fun cap _ _=>⟨cap,?_⟩⟩
  and_intros<;>first|exact cc|exact he|(intro h_;revert h_)|exact cm|skip
 ·have he:=hrep 1 (by rw[hk1 (c:=false) (by simpa using c3) (.inl (by simpa using c1))];rfl);refine⟨Nat.le_refl 1,by decide,fun cap _ _=>⟨cap,?_⟩⟩
  and_intros<;>first|exact cc|exact he|(intro h_;revert h_)|exact cm|skip
 ·have he:=hrep 6 (by rw[hk1 (c:=true) (by simpa using c3) (.inl (by simpa using c1))];rfl);refine⟨Nat.le_refl 1,by decide,fun cap _ _=>⟨cap,?_⟩⟩
  and_intros<;>first|exact cc|exact he|(intro h_;revert h_)|exact cm|skip)
theorem QD:ak (Y Tryz.prog).G.X 13 MZ:=aV fK QC ⟨Ix.vH,yd,trivial⟩
structure qw where
 kind:Int
 ow:Int
 to:Int
 aT:Int
 tick:Int
 seq:Int
 n:Int
 id:Int
 op:Int
 key:ByteArray
 err:Int
 last:Bool
 item:aB
 base:Int
 deriving Inhabited
def M0:List CK:=[.int .i64,.int .i64,.int .i64,.int .i64,.int .i64,.int .i64,.int .i64,.int .i64,.int .i64,.str,.int .i64,.bool,.str,.str,.int .i64,.bool,.deep,.deep,.deep,.int .i64,.deep]
def e9(m:qw):List Value:=[.int .i64 m.kind,.int .i64 m.ow,.int .i64 m.to,.int .i64 m.aT,.int .i64 m.tick,.int .i64 m.seq,.int .i64 m.n,.int .i64 m.id,.int .i64 m.op,.string m.key,.int .i64 m.err,.bool m.last,.string m.item.key,.string m.item.val,.int .i64 m.item.e,.bool m.item.gone,.slice none 0 0,.slice none 0 0,.slice none 0 0,.int .i64 m.base,.slice none 0 0]
def Dx(t:Nat)(l:List qw):Nat×Chunk:=(t,.arr 45 M0 l.length (af e9 l))
def OG(t:Nat)(l:List Ej):Nat×Chunk:=(t,.arr 61 W5 l.length (af oT l))
structure mV where
 n:cF
 p:fT
 q:List qw
 qc:Nat
 l:List qw
 lc:Nat
def Kr(id:Int)(l:List qw):List qw:=l.map fun m=>{ m with ow:=id }
def mV.to(a:mV)(i:Nat):List qw:=a.q++Kr a.n.id (a.l.take i)
noncomputable def M3(rg:A):cD where
 α:=mV
 β:=Nat
 m:=12
 m':=13
 pre:=fun a=>a.l.length<1000/\a.q.length<1000
 args:=fun a=>[.a (.ptr 0 0 0 0),.a (.slc 10 0 21 a.l.length a.lc)]
 hp:=fun a=>[(0,Qz rg (.slc 11 0 21 a.q.length a.qc) .bU 7 1 3 5 6 a.n a.p),Dx 11 a.q]
 ro:=fun a=>[Dx 10 a.l]
 post:=fun a c=>a.l.length=0->c=a.qc
 res:=fun _ _=>.l8 []
 cT:=fun a c=>[(0,Qz rg (.slc 12 0 21 (a.to a.l.length).length c) .bU 7 1 3 5 6 a.n a.p),Dx 12 (a.to a.l.length)]
def Zt(rg:A)(a:mV):An:=.flat 1 (Nat×Nat) (fun s x=>((((s.put (s.hp.del 11)).new (.arr 45 M0 (a.to x.1).length (af e9 (a.to x.1)))).at_ 0 (Qz rg (.slc s.nx 0 21 (a.to x.1).length x.2) .bU 7 1 3 5 6 a.n a.p)).int 8 x.1)) (fun _ x=>x.1<=a.l.length/\(x.1=0->x.2=a.qc)) (fun _ x=>a.l.length-x.1)
theorem OH{a:mV}{i:Nat}(h:i<a.l.length):a.to (i+1)=a.to i++[{ gl a.l i with ow:=a.n.id }]:=by
 unfold mV.to Kr;rw[gq h,List.map_append,List.append_assoc];rfl
theorem Ux(a:mV)(i:Nat):(a.to i).length=a.q.length+min i a.l.length:=by
 unfold mV.to Kr;simp
def Ks(x:qw)(y:Int):List Value:=D8 .i64 x.kind y x.to (dO x.aT) x.tick x.seq x.n (bu x.id (bu x.op (dZ x.key x.err (kP (dX x.last) (bE x.item.key) (dZ x.item.val x.item.e (kP (dX x.item.gone) gd (kP gd gd (bu x.base (bH gd)))))))))
def bG(x:List qw):Nat:=x.length
def mO(x y:List qw):=aL (bG x) (bG y) 21 (af e9 y) (af e9 x)
def vb(x:List qw):=dN (bG x) 21 (af e9 x)
def Ig(x:mV)(z y:Nat×Nat)(u:Nat):=oU x.n x.n x.p x.p (ag (bG (x.to z.fst)+1=bG (x.to y.fst)/\u=y.snd)) (vb x.l/\iJ (bG (x.to y.fst)) (bG (x.to z.fst)) 21 (af e9 (x.to z.fst)) (Ks (gl x.l (0+az z.fst)) x.n.id) (af e9 (x.to y.fst))/\dP y.fst (bG x.l) (y.fst=0->y.snd=x.qc) z.fst)
def Ih(x:mV)(z:Nat×Nat->Prop)(u:Nat×Nat->Nat->Nat×Nat->Prop)(v:Nat×Nat->Nat->Prop):=bG x.l<1000/\bG x.q<1000->(∃y:Nat×Nat,aC y.fst (dK (bG x.l) x.lc (ag (bD (bG x.l) x.lc/\ax (aG x.n.id/\z y)))))/\∀y:Nat×Nat,jI y.fst (bG x.l) (y.fst=0->y.snd=x.qc) (ah x.n.id->gu (bG (x.to y.fst)) 256 y.snd fun w=>ir y fun s=>dK (bG x.l) x.lc (ag (bD (bG x.l) x.lc/\ax (aG x.n.id/\u y w s)))) (∃t:Nat,ax (aG x.n.id/\v y t))
def Ii(x:mV)(y:Nat×Nat):=oU x.n x.n x.p x.p (ag (bG x.q=bG (x.to y.fst)/\x.qc=y.snd)) (vb x.l/\mO (x.to y.fst) x.q/\(y.fst<=bG x.l/\(y.fst=0->y.snd=x.qc))/\True)
def Ah(y x:mV)(z u v:Nat)(w:Prop):=oU y.n x.n y.p x.p (ag (bG (y.to z)=bG (x.to (bG x.l))/\u=v)) (mO (x.to (bG x.l)) (y.to z)/\w)
theorem Uy:fnBody (Y Tryz.prog) [] 51 (M3 .nil) fun a=>[(51,[Zt .nil a],[])]:=fnBody.of (p :=
 ∀x:mV,Ih x (fun y=>Ii x y) (fun y z u=>Ig x y u z) fun y z=>Ah x x y.fst y.snd z ((bG x.l=0->z=x.qc)/\True)) (by kernel_rfl) (by
 delta aO oU D8 aL ah bu bW az aG gF bB eF aQ aY aa nk cE dP bH bg aD dO aX ig kP bM cM ov dN Ks gD bG bD iJ gu bE dK mO gd ir aC Ig jd ag aA Ih Ii aP Ah bh ax dZ dR vb dX jF jI
 try dsimp -iota -proj only
 intro a ⟨h1,h2⟩;have e0:a.to 0=a.q:=by unfold mV.to Kr;simp
 have h0:(0:Nat)=0->a.qc=a.qc:=fun _=>rfl;refine⟨⟨(0,a.qc),?_⟩,fun⟨i,c⟩ ⟨hi,hc⟩=>⟨fun c1=>?_,fun c1=>⟨c,?_⟩⟩⟩
 ·dsimp only;rw[e0]
  and_intros<;>first|exact cc|exact h0|(intro h_;revert h_)|exact cm|skip
 ·dsimp only at *;have hi:i<a.l.length:=by have:=of_decide_eq_true c1;omega
  have hl:=Ux a i;have hs:=OH hi;have hz:0+(i:Int).toNat=i:=by omega
  rw[hz];refine⟨by omega,hi,fun _=>⟨by omega,by omega,by omega,fun cap _ _ _=>⟨by simp only[bL];omega,(i+1,cap),?_⟩⟩⟩;dsimp only;rw[hs];have hp:aj ((a.to i)++[{ gl a.l i with ow:=a.n.id }]).length 21 (aZ (af e9 (a.to i)) 0 (a.to i).length fun i_1 j=>aN 21 (e9 { gl a.l i with ow:=a.n.id }) (0+i_1) j) (af e9 ((a.to i)++[{ gl a.l i with ow:=a.n.id }])):=.push rfl (by simp) rfl;have h1:i+1=0->cap=a.qc:=fun e=>by omega
  and_intros<;>first|exact cc|exact hp|exact by simp|exact h1|(intro h_;revert h_)|exact cm|skip
 ·dsimp only at *;have hi:i=a.l.length:=by have:=of_decide_eq_false c1;omega
  subst hi
  and_intros<;>first|exact cc|exact hc|(intro h_;revert h_)|exact cm|skip)
theorem Uz:fnBody (Y Tryz.prog) [] 51 (M3 (.ptr 9 0 0 0)) fun a=>[(51,[Zt (.ptr 9 0 0 0) a],[])]:=fnBody.of (p :=
 ∀x:mV,Ih x (fun y=>ag (Ii x y)) (fun y z u=>ag (Ig x y u z)) fun y z=>ag (Ah x x y.fst y.snd z ((bG x.l=0->z=x.qc)/\True))) (by kernel_rfl) (by
 delta aO oU D8 aL ah bu bW az aG gF bB eF aQ aY aa nk cE dP bH bg aD dO aX ig kP bM cM ov dN Ks gD bG bD iJ gu bE dK mO gd ir aC Ig jd ag aA Ih Ii aP Ah bh ax dZ dR vb dX jF jI
 try dsimp -iota -proj only
 intro a ⟨h1,h2⟩;have e0:a.to 0=a.q:=by unfold mV.to Kr;simp
 have h0:(0:Nat)=0->a.qc=a.qc:=fun _=>rfl;refine⟨⟨(0,a.qc),?_⟩,fun⟨i,c⟩ ⟨hi,hc⟩=>⟨fun c1=>?_,fun c1=>⟨c,?_⟩⟩⟩
 ·dsimp only;rw[e0]
  and_intros<;>first|exact cc|exact h0|(intro h_;revert h_)|exact cm|skip
 ·dsimp only at *;have hi:i<a.l.length:=by have:=of_decide_eq_true c1;omega
  have hl:=Ux a i;have hs:=OH hi;have hz:0+(i:Int).toNat=i:=by omega
  rw[hz];refine⟨by omega,hi,fun _=>⟨by omega,by omega,by omega,fun cap _ _ _=>⟨by simp only[bL];omega,(i+1,cap),?_⟩⟩⟩;dsimp only;rw[hs];have hp:aj ((a.to i)++[{ gl a.l i with ow:=a.n.id }]).length 21 (aZ (af e9 (a.to i)) 0 (a.to i).length fun i_1 j=>aN 21 (e9 { gl a.l i with ow:=a.n.id }) (0+i_1) j) (af e9 ((a.to i)++[{ gl a.l i with ow:=a.n.id }])):=.push rfl (by simp) rfl;have h1:i+1=0->cap=a.qc:=fun e=>by omega
  and_intros<;>first|exact cc|exact hp|exact by simp|exact h1|(intro h_;revert h_)|exact cm|skip
 ·dsimp only at *;have hi:i=a.l.length:=by have:=of_decide_eq_false c1;omega
  subst hi
  and_intros<;>first|exact cc|exact hc|(intro h_;revert h_)|exact cm|skip)
theorem UA:ak (Y Tryz.prog).G.X 51 (M3 .nil):=aV fK Uy trivial
theorem Kt:ak (Y Tryz.prog).G.X 51 (M3 (.ptr 9 0 0 0)):=aV fK Uz trivial
def Y2(P:Program):Gx:=⟨⟨⟨P,Tab.T,false,false⟩,Az P (53::Tab.ids),(53,[0,2,5,12,23])::Tab.I⟩,(53,[])::Tab.R⟩
theorem aa5:(Az Tryz.prog (53::Tab.ids)).all (Xw ((53,[])::Tab.R))=true:=by kernel_rfl
theorem Zu:(Y2 Tryz.prog).Ok:=Gc (dp:=true) Z0 mixed (ur _ _) aa5
noncomputable def UB:cD where
 α:=Unit
 β:=Unit
 m:=0
 m':=0
 pre:=fun _=>True
 args:=fun _=>[.a .nil]
 hp:=fun _=>[]
 ro:=fun _=>[]
 post:=fun _ _=>True
 res:=fun _ _=>.a .bU
 cT:=fun _ _=>[]
theorem UC:fnBody (Y2 Tryz.prog) [] 53 UB fun _=>[]:=fnBody.of (p :=
 aI (ay (True/\True))) (by kernel_rfl) (by
 delta aI ay
 exact fun _ _=>⟨(),trivial,trivial⟩)
theorem UD:ak (Y Tryz.prog).G.X 53 UB:=aV Zu UC trivial
def Vi:List Kq:=[]
def tj(n:cF):qw:=⟨1,n.id,0,n.s.k.m.aT,n.now,n.s.k.m.ready,0,0,0,va,0,false,fR,0⟩
structure Ij where
 n:cF
 p:fT
noncomputable def Ik:cD where
 α:=Ij
 β:=Nat
 m:=14
 m':=17
 pre:=fun a=>a.n.ws=[]
 args:=fun _=>[.a (.ptr 0 0 0 0)]
 hp:=fun a=>[(0,Ic .nil 7 1 3 5 6 a.n a.p)]
 ro:=fun a=>[(1,Wx 2 a.n.le),(2,Wy a.n.now),(7,ZP 8 9 10 a.n.s.bK),(10,.obj 155 (.ptr 11 0 0 0::C7 a.n.s.k.m))]
 post:=fun _ _=>True
 res:=fun _ c=>.agg [.slc 14 0 21 1 c,.slc 15 0 6 0 0]
 cT:=fun a _=>[(14,.arr 45 M0 1 (af e9 [tj a.n])),(0,Ic .nil 7 1 3 16 6 { a.n with ws:=Vi } { a.p with wc:=0 }),(16,.arr 125 Ib Vi.length (af iI Vi))]
def Wz:An:=.flat 5 Nat (fun s i=>s.int 3 (1+(i:Int))) (fun _ i=>i<=5) (fun _ i=>5-i)
def vc(x:cF)(y:Prop):=ag (cz x.le.aT x.le.end_ (aG x.le.top) (aG x.now/\y))
def Dy(x:mV)(z:List Value)(u:Nat->Prop):=bG x.q=0/\aL (bG x.l) 1 21 (aN 21 z) (af e9 x.l)/\(bG x.l<1000/\bG x.q<1000)/\∀y:Nat,(bG x.l=0->y=x.qc)->u y
def Il(x:mV)(y z:Int)(u:cF)(v w t f:Int)(g:ByteArray)(h:Nat->Prop):=Dy x (D8 .i64 y 0 z (dO u.s.k.m.aT) v w 0 (bu t (bu f (dZ g 0 (kP fZ (bE dc) (dZ dc 0 (kP fZ gd (kP gd gd (bu 0 (bH gd)))))))))) fun i=>h i
theorem M4:fnBody (Y2 Tryz.prog) [(51,M3 .nil),(53,UB)] 15 Ik fun _=>[(15,[Wz],[])]:=fnBody.of (p :=
 ∀y:Ij,y.n.ws=[]->ah y.n.now->∃x:mV,ag (ag (1=bG x.l/\1=x.lc)/\ax (y.n.id=x.n.id/\oU y.n x.n y.p x.p (0=bG x.q/\0=x.qc) (Il x 1 0 y.n y.n.now y.n.s.k.m.ready 0 0 dc fun v=>(∃u:Nat,(1:Int)=1+aa u/\cH (ax (ax (aG x.n.id/\oU x.n x.n x.p x.p (bD (bG (x.to (bG x.l))) v) (vb (x.to (bG x.l))/\vc y.n (ax (dY (aG y.n.s.bK) (z7 y.n.s.k.m (u<=5/\True)))))))))/\∀u:Nat,u<=5->aO (cR ((1:Int)+aa u) 5) (Ds (Value.map none) (ay (cO (∃z:mV,ag ((0=bG z.l/\0=z.lc)/\ax (x.n.id=z.n.id/\oU x.n z.n x.p z.p (ag (bG (x.to (bG x.l))=bG z.q/\v=z.qc)) (mO z.q (x.to (bG x.l))/\bG z.l=0/\(bG z.l<1000/\bG z.q<1000)/\∀w:Nat,(bG z.l=0->w=z.qc)->ah ((1:Int)+aa u+(1:Int))/\∃t:Nat,(1:Int)+aa u+(1:Int)=1+aa t/\cH (ax (ax (z.n.id=x.n.id/\Ah z x (bG z.l) w v (vc y.n (ax (dY (aG y.n.s.bK) (z7 y.n.s.k.m (bS t 5 u)))))))))))))) False) (mq 0 x.n.ws.length False (∃z:Nat,dJ (bG (x.to (bG x.l))) 1 v z (ag (0=0)) 21 (af e9 (x.to (bG x.l))) (af e9 [tj y.n]) (ax (x.n.id=y.n.id/\ag (jd (0=Vi.length/\0=0) x.n.rs y.n x.p.rc y.p x.n.asked (0=0) (True/\True)))))))))) (by kernel_rfl) (by
 delta aO oU D8 cz aL ah bu bW aG bB aQ aa nk cE bH bg aD dO ig kP dY bM cM ov dN dc aI bG bD cH dJ bE bS mO gd ay fZ cR jd ag aA vc mq z7 Il Ah ax dZ vb Ds cO dX Dy
 try dsimp -iota -proj only
 rintro⟨n,p⟩ h0 _;have h0:n.ws=[]:=h0;have hr:aj 1 21 (aN 21 (e9 ⟨1,0,0,n.s.k.m.aT,n.now,n.s.k.m.ready,0,0,0,va,0,false,fR,0⟩)) (af e9 [⟨1,0,0,n.s.k.m.aT,n.now,n.s.k.m.ready,0,0,0,va,0,false,fR,0⟩]):=.dW fun i hi=>by
  have:i=0:=by omega
  subst this;rfl
 have k0:(0:Nat)<1000:=by omega
 have k1:(1:Nat)<1000:=by omega
 refine⟨mV.mk n p [] 0 [⟨1,0,0,n.s.k.m.aT,n.now,n.s.k.m.ready,0,0,0,va,0,false,fR,0⟩] 1,?_⟩
 and_intros<;>first|exact cc|exact hr|exact k1|exact k0|(intro h_;revert h_)|exact cm|skip
 intro b _;refine⟨⟨0,?_⟩,fun i hi=>⟨fun c1=>⟨none,rfl,fun _=>⟨(),trivial,fun _ _=>⟨mV.mk n p [tj n] b [] 0,?_⟩⟩,fun c=>absurd rfl c⟩,fun c1=>⟨fun c2=>?_,fun c2=>⟨b,?_⟩⟩⟩⟩
 ·and_intros<;>first|exact cc|(intro h_;revert h_)|exact cm|skip
 ·have c1:=of_decide_eq_true c1;have e1:((mV.mk n p [] 0 [⟨1,0,0,n.s.k.m.aT,n.now,n.s.k.m.ready,0,0,0,va,0,false,fR,0⟩] 1).to 1)=[tj n]:=rfl;have e2:((mV.mk n p [tj n] b [] 0).to 0)=[tj n]:=rfl
  and_intros<;>first|exact cc|exact k1|exact k0|(intro h_;revert h_)|exact cm|skip
  intro b2 hb2;have hb2:b2=b:=hb2 rfl;subst hb2;refine⟨by simp only[bL];omega,i+1,?_⟩
  and_intros<;>first|exact cc|(intro h_;revert h_)|exact cm|skip
 ·exfalso;have c2:=of_decide_eq_true c2;have c2:(0:Int)<(n.ws.length:Nat):=c2;rw[h0]at c2;exact absurd c2 (by decide)
 ·and_intros<;>first|exact cc|(intro h_;revert h_)|exact cm|skip)
theorem M5:ak (Y Tryz.prog).G.X 15 Ik:=aV Zu M4 ⟨UA,UD,trivial⟩
end Go.Proofs.YtfjgoonelcaggaaGreat
namespace Go.Proofs.YtfjgoonelcaggaaGreat.Rg
open Go.Sx
def Oc(a b:Int):Int:=dz .xor .u64 a b
def Rc(a:Int):Int:=uw .u64 a
def Td(x:Int):Int:=Rc (Oc x (x/1073741824)*13787848793156543929)
def Te(x:Int):Int:=Rc (Oc x (x/134217728)*10723151780598845931)
def Tf(x:Int):Int:=Oc x (x/2147483648)
def qn(x:Int):Int:=Tf (Te (Td x))
noncomputable def AL:cD where
 α:=Int
 β:=Unit
 m:=0
 m':=0
 pre:=fun _=>True
 args:=fun a=>[.a (.int .u64 a)]
 hp:=fun _=>[]
 ro:=fun _=>[]
 post:=fun _ _=>True
 res:=fun a _=>.a (.int .u64 (qn a))
 cT:=fun _ _=>[]
theorem CN:fnBody (Y Tryz.prog) [] 120 AL fun _=>[]:=fnBody.of (p :=
 ∀x:Int,G6 x (Rg.qn x)) (by kernel_rfl) (by
 delta Tg bQ cQ ay mw G6 bp
 intro a _;exact⟨by decide,by decide,by decide,(),rfl,trivial,trivial⟩)
theorem yl:ak (Y Tryz.prog).G.X 120 AL:=aV fK CN trivial
def lR(h:Int)(b:ByteArray):Nat->Int
 |0=>h
 |i+1=>Rc (qn (Oc (lR h b i) ((b.data.getD i 0).toNat:Int))+1)
def Th(h:Int)(b:ByteArray):Int:=qn (Oc (lR h b b.size) (Rc (256+Rc b.size)))
def fF(g:Nat->ByteArray):Nat->Int
 |0=>11400714819323198485
 |i+1=>Th (fF g i) (g i)
structure PT where
 g:Nat->ByteArray
 n:Nat
 cap:Nat
noncomputable def uU:cD where
 α:=PT
 β:=Unit
 m:=1
 m':=1
 pre:=fun a=>a.n<100000/\∀i,i<a.n->(a.g i).size<=aq
 args:=fun a=>[.a (.slc 0 0 1 a.n a.cap)]
 hp:=fun _=>[]
 ro:=fun a=>[(0,.arr 9 [.str] a.n (fun i _=>.string (a.g i)))]
 post:=fun _ _=>True
 res:=fun a _=>.a (.int .u64 (fF a.g a.n))
 cT:=fun _ _=>[]
def XO(a:PT)(i:Nat):An:=.flat 6 Nat (fun s j=>(s.int 15 j).set 3 (.a (.int .u64 (lR (fF a.g i) (a.g i) j)))) (fun _ j=>j<=(a.g i).size) (fun _ j=>(a.g i).size-j)
def XP(a:PT):An:=.mk 3 Nat (fun s i=>(s.int 9 i).set 3 (.a (.int .u64 (fF a.g i)))) (fun _ i=>i<=a.n) (fun _ i=>a.n-i) (fun i=>.mk 60 [XO a i] [])
theorem zD:fnBody (Y Tryz.prog) [(120,AL)] 66 uU fun a=>[(66,[XP a],[])]:=fnBody.of (p :=
 ∀x:Rg.PT,(x.n<100000/\∀s:Nat,s<x.n->bA (x.g s)<=aq)->(∃y:Nat,(11400714819323198485:Int)=Rg.fF x.g y/\aC y (zC x.n x.cap (fun t=>x.g t) (y<=x.n/\True)))/\∀y:Nat,y<=x.n->gD y x.n ((∃z:Nat,Rg.fF x.g y=Rg.lR (Rg.fF x.g y) (x.g y) z/\aC z (zB (x.g (0+az y)) y x.n x.cap (fun f=>x.g f) (z<=bA (x.g y)/\True)))/\∀z:Nat,z<=bA (x.g y)->mq (aa z) (bA (x.g (0+az y))) (∃v:Int,mw (Rg.lR (Rg.fF x.g y) (x.g y) z) (aa ((x.g (0+az y)).data.getD (az z) (0:UInt8)).toNat)=v/\cO (aP z (∃u:Nat,cQ (Rg.qn v+(1:Int))=Rg.lR (Rg.fF x.g y) (x.g y) u/\aY z=aa u/\zB (x.g (0+az y)) y x.n x.cap (fun w=>x.g w) (bS u (bA (x.g y)) z)))) (∃v:Int,mw (Rg.lR (Rg.fF x.g y) (x.g y) z) (cQ ((256:Int)+cQ (aa (bA (x.g (0+az y))))))=v/\cO (aP y (∃u:Nat,Rg.qn v=Rg.fF x.g u/\aY y=aa u/\zC x.n x.cap (fun w=>x.g w) (bS u x.n y))))) (bQ (Rg.fF x.g y=Rg.fF x.g x.n))) (by kernel_rfl) (by
 delta aO cz aL ah bW az aG bB eF aQ aY aa bg aD aX dN aI gD bA bD bQ bE bS dK zB cQ ay aC oH aW ag aA mw mq aP bh bp zC dR cO
 try dsimp -iota -proj only
 intro a h;obtain⟨hn,hs⟩:=h;simp only[Nat.zero_add,Int.toNat_natCast];refine⟨⟨0,by and_intros<;>(first|exact trivial|rfl|omega|assumption|exact aj.refl _ _ _|(simp only[bL];omega)|(simp;done)|(simp;omega)|grind)⟩,fun i hi=>⟨fun h1=>?_,fun h1=>?_⟩⟩
 ·have hi':i<a.n:=by simpa using h1
  have hsz:=hs i hi';refine⟨by omega,hi',⟨0,by and_intros<;>(first|exact trivial|rfl|omega|assumption|exact aj.refl _ _ _|(simp only[bL];omega)|(simp;done)|(simp;omega)|grind)⟩,fun j hj=>⟨fun h2=>?_,fun h2=>?_⟩⟩
  ·have hj':j<(a.g i).size:=by simpa using h2
   refine⟨by omega,_,rfl,trivial,fun _ _=>⟨by simp only[bL,aq]at *;omega,j+1,?_⟩⟩
   and_intros<;>(first|exact trivial|rfl|omega|assumption|exact aj.refl _ _ _|(simp only[bL];omega)|(simp;done)|(simp;omega)|grind)
  ·have hj' : j = (a.g i).size := by have : ¬ j < (a.g i).size := by simpa using h2
                                     omega
   subst hj';refine⟨_,rfl,trivial,fun _ _=>⟨by simp only[bL];omega,i+1,?_⟩⟩
   and_intros<;>(first|exact trivial|rfl|omega|assumption|exact aj.refl _ _ _|(simp only[bL];omega)|(simp;done)|(simp;omega)|grind)
 ·have hi' : i = a.n := by have : ¬ i < a.n := by simpa using h1
                           omega
  subst hi';exact⟨(),rfl,trivial,trivial⟩)
theorem vH:ak (Y Tryz.prog).G.X 66 uU:=aV fK zD ⟨yl,trivial⟩
def xG(n i:Int):Int:=qn (Rc (n*1000003+i))
noncomputable def M6:cD where
 α:=Int×Int
 β:=Unit
 m:=0
 m':=0
 pre:=fun a=>0<=a.1/\a.1<=100/\0<=a.2/\a.2<=100
 args:=fun a=>[.a (.int .i64 a.1),.a (.int .i64 a.2)]
 hp:=fun _=>[]
 ro:=fun _=>[]
 post:=fun _ _=>True
 res:=fun a _=>.a (.int .u64 (xG a.1 a.2))
 cT:=fun _ _=>[]
theorem QE:fnBody (Y Tryz.prog) [(120,AL)] 190 M6 fun _=>[]:=fnBody.of (p :=
 ∀x:Int×Int,(0:Int)<=x.fst/\x.fst<=(100:Int)/\cI x.snd 100->nB (x.fst*(1000003:Int)) x.snd (∃y:Int,cQ (x.fst*(1000003:Int)+x.snd)=y/\cO (bQ (Rg.qn y=Rg.xG x.fst x.snd)))) (by kernel_rfl) (by
 delta ah cI aI bQ cQ ay nB bp cO
 intro a h;obtain⟨h1,h2,h3,h4⟩:=h;simp only[bL];exact⟨by omega,by omega,_,rfl,trivial,fun _ _=>⟨(),rfl,trivial,trivial⟩⟩)
theorem QF:ak (Y Tryz.prog).G.X 190 M6:=aV fK QE ⟨yl,trivial⟩
end Go.Proofs.YtfjgoonelcaggaaGreat.Rg
namespace Go.Proofs
open Go.Shelf
def Tryz.M7:Go.Shelf.Ren:=⟨fun|6=>191|15=>189|14=>226|28=>224|29=>225|20=>245|21=>246|22=>247|23=>248|24=>249|25=>250|26=>251|27=>252|46=>263|47=>240|48=>241|49=>264|50=>265|57=>278|n=>n,fun|22=>159|24=>208|25=>286|3=>3|39=>108|0=>0|53=>299|55=>64|4=>4|46=>316|45=>315|50=>321|5=>5|9=>9|66=>336|70=>340|76=>354|77=>248|n=>n,fun|n=>n⟩
theorem Tryz.Yj:Go.Proofs.SlLaysF0.n6 Tryz.prog Tryz.M7:={
 mixed:=by kernel_rfl
 f6:=⟨Tryz.f191.name,by decide,Tryz.func191.trans (congrArg some (by kernel_rfl))⟩
 f14:=⟨Tryz.f226.name,by decide,Tryz.func226.trans (congrArg some (by kernel_rfl))⟩
 f15:=Tryz.func189.trans (congrArg some (by kernel_rfl))
 f20:=⟨Tryz.f245.name,by decide,Tryz.func245.trans (congrArg some (by kernel_rfl))⟩
 f21:=⟨Tryz.f246.name,by decide,Tryz.func246.trans (congrArg some (by kernel_rfl))⟩
 f22:=⟨Tryz.f247.name,by decide,Tryz.func247.trans (congrArg some (by kernel_rfl))⟩
 f23:=⟨Tryz.f248.name,by decide,Tryz.func248.trans (congrArg some (by kernel_rfl))⟩
 f24:=⟨Tryz.f249.name,by decide,Tryz.func249.trans (congrArg some (by kernel_rfl))⟩
 f25:=⟨Tryz.f250.name,by decide,Tryz.func250.trans (congrArg some (by kernel_rfl))⟩
 f26:=⟨Tryz.f251.name,by decide,Tryz.func251.trans (congrArg some (by kernel_rfl))⟩
 f27:=⟨Tryz.f252.name,by decide,Tryz.func252.trans (congrArg some (by kernel_rfl))⟩
 f28:=Tryz.func224.trans (congrArg some (by kernel_rfl))
 f29:=Tryz.func225.trans (congrArg some (by kernel_rfl))
 f46:=⟨Tryz.f263.name,by decide,Tryz.func263.trans (congrArg some (by kernel_rfl))⟩
 f47:=Tryz.func240.trans (congrArg some (by kernel_rfl))
 f48:=Tryz.func241.trans (congrArg some (by kernel_rfl))
 f49:=⟨Tryz.f264.name,by decide,Tryz.func264.trans (congrArg some (by kernel_rfl))⟩
 f50:=⟨Tryz.f265.name,by decide,Tryz.func265.trans (congrArg some (by kernel_rfl))⟩
 f57:=⟨Tryz.f278.name,by decide,Tryz.func278.trans (congrArg some (by kernel_rfl))⟩
 t0:=Tryz.underlying0
 a0:=Tryz.isAgg0
 z0:=Tryz.sizeOf0
 v0:=Tryz.zeroValue0
 t3:=Tryz.underlying3
 a3:=Tryz.isAgg3
 z3:=Tryz.sizeOf3
 v3:=Tryz.zeroValue3
 t4:=Tryz.underlying4
 a4:=Tryz.isAgg4
 z4:=Tryz.sizeOf4
 v4:=Tryz.zeroValue4
 t5:=Tryz.underlying5
 a5:=Tryz.isAgg5
 z5:=Tryz.sizeOf5
 v5:=Tryz.zeroValue5
 t9:=Tryz.underlying9
 a9:=Tryz.isAgg9
 z9:=Tryz.sizeOf9
 v9:=Tryz.zeroValue9
 t22:=Tryz.underlying159
 a22:=Tryz.isAgg159
 z22:=Tryz.sizeOf159
 v22:=Tryz.zeroValue159
 t25:=Tryz.underlying286
 a25:=Tryz.isAgg286
 z25:=Tryz.sizeOf286
 v25:=Tryz.zeroValue286
 t39:=Tryz.underlying108
 a39:=Tryz.isAgg108
 z39:=Tryz.sizeOf108
 v39:=Tryz.zeroValue108
 t45:=Tryz.underlying315
 a45:=Tryz.isAgg315
 z45:=Tryz.sizeOf315
 v45:=Tryz.zeroValue315
 t46:=Tryz.underlying316
 a46:=Tryz.isAgg316
 z46:=Tryz.sizeOf316
 v46:=Tryz.zeroValue316
 t50:=Tryz.underlying321
 a50:=Tryz.isAgg321
 z50:=Tryz.sizeOf321
 v50:=Tryz.zeroValue321
 t53:=Tryz.underlying299
 a53:=Tryz.isAgg299
 z53:=Tryz.sizeOf299
 v53:=Tryz.zeroValue299
 t55:=Tryz.underlying64
 a55:=Tryz.isAgg64
 z55:=Tryz.sizeOf64
 v55:=Tryz.zeroValue64
 t66:=Tryz.underlying336
 a66:=Tryz.isAgg336
 z66:=Tryz.sizeOf336
 v66:=Tryz.zeroValue336
 t70:=Tryz.underlying340
 a70:=Tryz.isAgg340
 z70:=Tryz.sizeOf340
 v70:=Tryz.zeroValue340
 t76:=Tryz.underlying354
 a76:=Tryz.isAgg354
 z76:=Tryz.sizeOf354
 v76:=Tryz.zeroValue354
 t77:=Tryz.underlying248
 a77:=Tryz.isAgg248
 z77:=Tryz.sizeOf248
 v77:=Tryz.zeroValue248 }
end Go.Proofs
namespace Go.Proofs.YtfjgoonelcaggaaGreat.Rg
open Go.Shelf Go.RowKit Go.Lib Go.Sort
def kR(x:Int×Int):List Value:=[.int .u64 x.1,.int .i64 x.2]
def mP(x y:Int×Int):Bool:=decide (x.1<y.1)||(decide (x.1=y.1)&&decide (x.2<y.2))
def qA(x y:Int×Int):Int:=if mP x y then -1 else if mP y x then 1 else 0
theorem Ku(x y:Int×Int)(W:World):Calls Tryz.prog 192 #[.agg #[.int .u64 x.1,.int .i64 x.2],.agg #[.int .u64 y.1,.int .i64 y.2]] W fun e w'=>e = .returned (.int .i64 (qA x y))/\∃q os',w'=grow (W.drewN q) os':=by
 go_enter Tryz.func192,Tryz.ntmps192
 go_wp2
 all_goals go_ret
 all_goals first
  |exact⟨by rw[show qA x y = -1 by grind [qA,mP]];rfl,0,_,by rw[alloc_eq_grow,alloc_eq_grow,alloc_eq_grow,alloc_eq_grow,alloc_eq_grow,alloc_eq_grow,grow_grow,grow_grow,grow_grow,grow_grow,grow_grow];rfl⟩
  |exact⟨by rw[show qA x y = -1 by grind [qA,mP]];rfl,0,_,by rw[alloc_eq_grow,alloc_eq_grow,alloc_eq_grow,alloc_eq_grow,grow_grow,grow_grow,grow_grow];rfl⟩
  |exact⟨by rw[show qA x y=1 by grind [qA,mP]];rfl,0,_,by rw[alloc_eq_grow,alloc_eq_grow,alloc_eq_grow,alloc_eq_grow,alloc_eq_grow,alloc_eq_grow,grow_grow,grow_grow,grow_grow,grow_grow,grow_grow];rfl⟩
  |exact⟨by rw[show qA x y=1 by grind [qA,mP]];rfl,0,_,by rw[alloc_eq_grow,alloc_eq_grow,alloc_eq_grow,alloc_eq_grow,grow_grow,grow_grow,grow_grow];rfl⟩
  |exact⟨by rw[show qA x y=0 by grind [qA,mP]];rfl,0,_,by rw[alloc_eq_grow,alloc_eq_grow,alloc_eq_grow,alloc_eq_grow,alloc_eq_grow,alloc_eq_grow,grow_grow,grow_grow,grow_grow,grow_grow,grow_grow];rfl⟩
  |exact⟨by rw[show qA x y=0 by grind [qA,mP]];rfl,0,_,by rw[alloc_eq_grow,alloc_eq_grow,alloc_eq_grow,alloc_eq_grow,grow_grow,grow_grow,grow_grow];rfl⟩
theorem Zv(blk off size:Nat)(w:World):CmpLays Tryz.prog 192 #[] kR 2 qA blk off size w:=fun _ _ _ _ x y=>Ku x y _
theorem WA(x y:Int×Int):ltOf qA x y=mP x y:=by unfold ltOf;grind [qA,mP]
theorem Zw:SWO (ltOf qA) where
 irrefl x:=by rw[WA];simp[mP]
 trans x y z h1 h2:=by
  rw[WA]at *;simp only[mP,Bool.or_eq_true,Bool.and_eq_true,decide_eq_true_eq]at *;omega
 ntrans x y z h1 h2:=by
  rw[WA]at *;simp only[mP,Bool.or_eq_false_iff,Bool.and_eq_false_iff,decide_eq_false_iff_not]at *;omega
theorem Zx(x y:Int×Int)(h1:ltOf qA x y=false)(h2:ltOf qA y x=false):x=y:=by
 rw[WA]at h1 h2;cases x;cases y;simp only[mP,Bool.or_eq_false_iff,Bool.and_eq_false_iff,decide_eq_false_iff_not]at h1 h2;simp only[Prod.mk.injEq];omega
theorem Yk(blk off cap:Nat)(d:Array (Int×Int))(w:World)(hH:HoldsK kR 2 w blk off d)(hblk:blk<w.heap.size)(hsz:d.size<4611686018427387904) :
 Calls Tryz.prog 191 #[.slice (some ⟨blk,off,none⟩) d.size cap,.func (.func 192) #[] #[]] w fun e w' =>
  e = .returned (.tuple #[])/\∃n os,w'=sortWorldK kR 2 w blk off n (d.toList.mergeSort fun x y=>!(ltOf qA) y x).toArray os :=
 AnyQ.slices_SortFunc_total Tryz.Yj 2 Tryz.isAgg208 Tryz.sizeOf208 kR (fun _=>rfl) (fun x v hv=>by simp[kR]at hv;rcases hv with rfl|rfl<;>rfl) qA Zw 192 #[] blk off cap d w
  (enters_of Tryz.func192 (by kernel_rfl) rfl) (Zv _ _ _ _) hH hblk hsz Zx
end Go.Proofs.YtfjgoonelcaggaaGreat.Rg
namespace Go.Sx
section
open Go.Sort Go.Proofs
def Dz{β:Type}[Inhabited β](ty:TypeId)(ks:List CK)(enc:β->List Value)(g:Nat)(srt:List β->List β):cD where
 α:=Ox β
 β:=Unit
 m:=1
 m':=1
 pre:=fun a=>a.l.length<100000/\1<=a.l.length
 args:=fun a=>[.a (.slc 0 0 ks.length a.l.length a.cap),.a (.fn g)]
 hp:=fun a=>[(0,.arr ty ks a.l.length (af enc a.l))]
 ro:=fun _=>[]
 post:=fun _ _=>True
 res:=fun _ _=>.l8 []
 cT:=fun a _=>[(0,.arr ty ks a.l.length (af enc (srt a.l)))]
theorem Fv{l:List Value}{j:Nat}(h:j<l.length):l[j]! = l.getD j undef:=by
 rw[getElem!_pos l j h];simp[List.getD,h]
theorem QG{β:Type}[Inhabited β]{X:Cx}{f g:Nat}{ty:TypeId}{ks:List CK}{enc:β->List Value}{srt:List β->List β}(hk:∀x,(enc x).length=ks.length)(hk0:0<ks.length)
 (hlen:∀l,(srt l).length=l.length) (hin:∀l x,x∈srt l->x∈l)
 (hcall:∀(blk off cap:Nat) (d:Array β) (w:World),HoldsK enc ks.length w blk off d->blk<w.heap.size->d.size<4611686018427387904 ->
  Calls X.P f #[.slice (some ⟨blk,off,none⟩) d.size cap,.func (.func g) #[] #[]] w fun e w'=>e = .returned (.tuple #[])/\∃n os,w'=sortWorldK enc ks.length w blk off n (srt d.toList).toArray os) :
 lI X (Dz ty ks enc g srt) f:=by
 intro a hpre M ρ w vs hn hh hargs;obtain⟨l,cap⟩:=a;obtain⟨hp1,hp2⟩:=hpre;obtain⟨v,vs',rfl,hv,v2,vs2,rfl,hv2,rfl⟩:=hargs;have hv2':v2 = .func (.func g) #[] #[]:=hv2;subst hv2';obtain⟨hT,hlc,hcm,hv⟩:=hv;have he:=hh.gH ⟨0,true,.arr ty ks l.length (af enc l)⟩ (by simp[vA,Dz]);have hsat:=he.ch;simp only at hsat hlc hcm hv hT hp1 hp2;rcases hsat with⟨h0,_⟩ | ⟨vs0,ty',fr,hb,h1,h2,h3,h4,h5⟩
 ·omega
 have hlt:(ρ.pl 0).blk<w.heap.size:=he.lt _ ((h4 _).2 rfl);rcases hv with⟨g1,_,_⟩ | ⟨o,rfl,ho⟩
 ·omega
 obtain⟨rfl,_⟩:=ho (by omega);simp only[Nat.zero_mul,Nat.add_zero]at *;have hcell:∀t,t<l.length*ks.length->vs0[(ρ.pl 0).off+t]? = some ((enc (gl l (t/ks.length))).getD (t%ks.length) undef):=by
  intro t ht;have hm:t%ks.length<ks.length:=Nat.mod_lt _ hk0;have hi:t/ks.length<l.length:=Nat.div_lt_of_lt_mul (by rw[Nat.mul_comm];exact ht);obtain⟨q,_⟩:=h5 (t/ks.length) hi (t%ks.length) (ks[t%ks.length]) (List.getElem?_eq_getElem hm);have e:(ρ.pl 0).off+t/ks.length*ks.length+t%ks.length=(ρ.pl 0).off+t:=by
   have:=Nat.div_add_mod t ks.length;rw[Nat.mul_comm]at this;omega
  rw[e]at q;exact q
 have hsz0:(ρ.pl 0).off+l.length*ks.length<=vs0.size:=Nat.le_trans (Nat.add_le_add_left (Nat.mul_le_mul_right _ h2) _) h1;have hnk:l.length*ks.length<=(ρ.pl 0).N*ks.length:=Nat.mul_le_mul_right _ h2;have hHolds:HoldsK enc ks.length w (ρ.pl 0).blk (ρ.pl 0).off l.toArray:=by
  intro t ht;have ht':t<l.length*ks.length:=by simpa using ht
  have hm:t%ks.length<ks.length:=Nat.mod_lt _ hk0;have hi:t/ks.length<l.length:=Nat.div_lt_of_lt_mul (by rw[Nat.mul_comm];exact ht');refine⟨?_,?_⟩
  ·simp only[World.cell?,hb];rw[hcell t ht',get_flatK _ _ _ t (by simpa using ht')];have e:(l.toArray)[t/ks.length]! = gl l (t/ks.length):=by rw[getElem!_pos _ _ (by simpa using hi),bR hi];simp
   rw[e,Fv (by rw[hk];exact hm)];rfl
  ·simp only[World.frozen?,hb];have:=h3 ((ρ.pl 0).off+t) (by omega) (by omega);obtain⟨lo,hi⟩:=fr;simpa using this
 have hcalls:=hcall (ρ.pl 0).blk (ρ.pl 0).off cap l.toArray w hHolds hlt (by simp;omega);simp only[List.size_toArray]at hcalls;refine hcalls.mono ?_;rintro e w' ⟨rfl,n,os,rfl⟩;refine⟨_,rfl,(),ρ,trivial,hn,fun _ _=>rfl,⟨[],rfl,rfl⟩,?_⟩;obtain⟨F,hF⟩:∃F,F=flatK enc ks.length (srt l).toArray:=⟨_,rfl⟩
 have hFs:F.size=l.length*ks.length:=by rw[hF];simp[hlen]
 have hw:sortWorldK enc ks.length w (ρ.pl 0).blk (ρ.pl 0).off n (srt l).toArray os=grow (putRow id (Sort.ahead w n) (ρ.pl 0).blk (ρ.pl 0).off F) os:=by rw[hF];rfl
 rw[hw];have hheap:∀b,b<w.heap.size->(grow (putRow id (Sort.ahead w n) (ρ.pl 0).blk (ρ.pl 0).off F) os).heap[b]? = (w.heap.modify (ρ.pl 0).blk (onCells (putCells id (ρ.pl 0).off F)))[b]?:=by
  intro b hb';rw[heap_grow_old _ _ (by simpa using hb')];rfl
 have hblk:(grow (putRow id (Sort.ahead w n) (ρ.pl 0).blk (ρ.pl 0).off F) os).heap[(ρ.pl 0).blk]? = some (.cells (putCells id (ρ.pl 0).off F vs0) ty' fr):=by
  rw[hheap _ hlt,Array.getElem?_modify,if_pos rfl,hb];rfl
 have hoth:∀b,b<w.heap.size->b≠(ρ.pl 0).blk->(grow (putRow id (Sort.ahead w n) (ρ.pl 0).blk (ρ.pl 0).off F) os).heap[b]? = w.heap[b]?:=by
  intro b hb' hne;rw[hheap b hb',Array.getElem?_modify,if_neg (fun h=>hne h.symm)]
 refine⟨⟨rfl,rfl,rfl,?_,fun b hb' hm=>?_,fun ad had=>?_⟩,?_,?_⟩
 ·simp
 ·exact hoth b hb' fun e=>hm (he.own rfl b ((h4 b).2 e) hb')
 ·rw[frozen?_grow _ _ _ (by simpa using had),frozen?_putRow,frozen?_ahead]
 ·intro e' he';have:e'=⟨0,true,.arr ty ks l.length (af enc (srt l))⟩:=by simpa[vA,Dz]using he'
  subst this;refine⟨he.tag,?_,fun b hb'=>?_,he.own⟩
  ·refine .inr ⟨_,ty',fr,hblk,?_,h2,?_,h4,fun i hi j kk hj=>?_⟩
   ·simpa[putCells]using h1
   ·simpa using h3
   ·have hjl:j<ks.length:=(List.getElem?_eq_some_iff.1 hj).1;have hi':i<(srt l).length:=by rw[hlen];exact hi
    have hmem:gl (srt l) i∈l:=hin l _ (Gf hi');have ht:i*ks.length+j<l.length*ks.length:=by
     have:=Nat.mul_le_mul_right ks.length hi;rw[Nat.succ_mul]at this;omega
    have d1:(i*ks.length+j)/ks.length=i:=by
     rw[Nat.mul_comm,Nat.mul_add_div hk0,Nat.div_eq_of_lt hjl,Nat.add_zero]
    have d2:(i*ks.length+j)%ks.length=j:=by
     rw[Nat.mul_comm,Nat.mul_add_mod,Nat.mod_eq_of_lt hjl]
    refine⟨?_,?_⟩
    ·have hc:=hcell (i*ks.length+j) ht;rw[<- Nat.add_assoc]at hc;simp only[putCells,Array.getElem?_mapIdx,hc,Option.map_some,hFs];rw[if_pos ⟨by omega,by omega⟩,show(ρ.pl 0).off+i*ks.length+j-(ρ.pl 0).off=i*ks.length+j by omega];rw[hF,get_flatK _ _ _ _ (by simpa[hlen]using ht),d1,d2];have e:((srt l).toArray)[i]! = gl (srt l) i:=by rw[getElem!_pos _ _ (by simpa using hi'),bR hi'];simp
     rw[e,Fv (by rw[hk];exact hjl)];rfl
    ·obtain⟨i0,hi0,e0⟩:=List.getElem_of_mem hmem;obtain⟨_,g2⟩:=h5 i0 hi0 j kk hj;unfold af at g2 ⊢;rw[<- e0,<- bR hi0];exact g2
  ·have:=he.lt b hb';simp;omega
 ·simp[vA,Dz]
end
end Go.Sx
namespace Go.Proofs.YtfjgoonelcaggaaGreat.Rg
open Go.Sx
def encI(p:Int):List Value:=[.int .i64 p]
def yE(l:List Int)(i:Nat):Bool:=decide (1<=gl l i)&&decide (gl l i<=5)&&(decide (i=0)||decide (gl l (i-1)<gl l i))
def qN(l:List Int):Nat->Bool
 |0=>true
 |i+1=>qN l i&&yE l i
def kY(l:List Int):Bool:=qN l l.length&&decide (0<l.length)
theorem Kv{l:List Int}:∀ {i j:Nat},qN l i=true->j<i->yE l j=true
 |i+1,j,h,hj=>by
  simp only[qN,Bool.and_eq_true]at h;by_cases e:j=i
  ·subst e;exact h.2
  ·exact Kv h.1 (by omega)
theorem AY{l:List Int}{j:Nat}(h:yE l j=false):∀ {i:Nat},j<i->qN l i=false
 |i+1,hj=>by
  simp only[qN,Bool.and_eq_false_iff];by_cases e:j=i
  ·subst e;exact .inr h
  ·exact .inl (AY h (by omega))
theorem Bx{l:List Int}(h:kY l=true){j:Nat}(hj:j<l.length):1<=gl l j/\gl l j<=5/\(j=0\/gl l (j-1)<gl l j):=by
 simp only[kY,Bool.and_eq_true]at h;have:=Kv h.1 hj;simpa[yE,and_assoc]using this
theorem Kw{l:List Int}(h:kY l=true):0<l.length:=by
 simp only[kY,Bool.and_eq_true,decide_eq_true_eq]at h;exact h.2
theorem DA{l:List Int}(h:kY l=true):∀j,j<l.length->(j:Int)+1<=gl l j
 |0,hj=>by have:=Bx h hj;omega
 |j+1,hj=>by
  have h1:=DA h j (by omega);have h2:=Bx h hj;simp at h2;omega
theorem DB{l:List Int}(h:kY l=true):l.length<=5:=by
 have h0:=Kw h;have h1:=DA h (l.length-1) (by omega);have h2:=Bx h (show l.length-1<l.length by omega);omega
structure lU where
 l:List Int
 cap:Nat
noncomputable def A7:cD where
 α:=lU
 β:=Unit
 m:=1
 m':=1
 pre:=fun a=>a.l.length<100000
 args:=fun a=>[.a (.slc 0 0 1 a.l.length a.cap)]
 hp:=fun _=>[]
 ro:=fun a=>[(0,.arr 3 [.int .i64] a.l.length (af encI a.l))]
 post:=fun _ _=>True
 res:=fun a _=>.a (.bool (kY a.l))
 cT:=fun _ _=>[]
def aa6(k slot:Nat)(a:lU):An:=.flat k Nat (fun s i=>s.int slot i) (fun _ i=>i<=a.l.length/\qN a.l i=true) (fun _ i=>a.l.length-i)
def _root_.Im(x:Rg.lU)(y:Prop):=dK (av x.l) x.cap (cH (bD (av x.l) x.cap/\cn x.l x.l Rg.encI/\y))
theorem Gq:fnBody (Y Tryz.prog) [] 56 A7 fun a=>[(56,[aa6 2 7 a],[])]:=fnBody.of (p :=
 ∀x:Rg.lU,av x.l<100000->(∃y:Nat,aC y (Im x ((y<=av x.l/\aD (Rg.qN x.l y))/\True)))/\∀y:Nat,jI y (av x.l) (aD (Rg.qN x.l y)) (z6 (gl x.l (0+az y)) 1 (eR (Rg.kY x.l)) 5 (aA 0 (aa y) (ah (aa y-(1:Int))/\nG (aa y-(1:Int)) (av x.l) (ah (gl x.l (0+aX (aa y-(1:Int))))->aO (cR (gl x.l (0+az y)) (gl x.l (0+aX (aa y-(1:Int))))) (eR (Rg.kY x.l)) (bY y fun z=>Im x (dP z (av x.l) (aD (Rg.qN x.l z)) y)))) (bY y fun u=>Im x (dP u (av x.l) (aD (Rg.qN x.l u)) y)))) (bQ (aQ 0 (aa (av x.l))=Rg.kY x.l))) (by kernel_rfl) (by
 delta aO av aL ah bW az aG bB eF aQ aY aa dP bg aD aX fL cn gC gD bD cH bQ dK bY ay aC cR ag aA eR z6 aP bh nG bp Im dR jI
 try dsimp -iota -proj only
 intro a h;simp only[Nat.zero_add,Int.toNat_natCast,bL];refine⟨⟨0,?_⟩,fun i ⟨i1,i2⟩=>⟨fun c1=>?_,fun c1=>⟨(),?_,trivial,trivial⟩⟩⟩
 ·and_intros<;>first|rfl|trivial|exact Nat.le_refl _|omega|(dsimp only;omega)|exact aj.refl _ _ _
 ·simp only[decide_eq_true_eq]at c1;have hi:i<a.l.length:=by omega
  have hpre:((i:Int)-1).toNat=i-1:=by omega
  rw[hpre];have bad:yE a.l i=false->false=kY a.l:=fun e=>by unfold kY;rw[AY e hi];rfl
  have good:yE a.l i=true->qN a.l (i+1)=true:=fun e=>by simp only[qN,i2,e,Bool.and_self]
  repeat' (first|intro _|apply And.intro|apply Exists.intro (i+1:Nat)|apply Exists.intro ())
  all_goals(try with_reducible rfl)
  all_goals(try exact trivial)
  all_goals(try simp only[decide_eq_true_eq,decide_eq_false_iff_not]at *)
  all_goals(try omega)
  all_goals(try exact aj.refl _ _ _)
  all_goals first
   |exact bad (by simp only[yE,Bool.and_eq_false_iff,Bool.or_eq_false_iff,decide_eq_false_iff_not];omega)
   |exact good (by simp only[yE,Bool.and_eq_true,Bool.or_eq_true,decide_eq_true_eq];omega)
 ·simp only[decide_eq_false_iff_not]at c1;have e:i=a.l.length:=by omega
  subst e;unfold kY;rw[i2];simp)
theorem qH:ak (Y Tryz.prog).G.X 56 A7:=aV fK Gq trivial
def Io:List CK:=[.int .u64,.int .i64]
def tW(n:Int)(k:Nat):List (Int×Int):=(List.range k).map fun j:Nat=>(xG n (j:Int),n)
def fJ(l:List Int):List (Int×Int):=l.flatMap fun n=>tW n 8
def yF(l:List (Int×Int)):List (Int×Int):=l.mergeSort fun x y=>!(Go.Proofs.ltOf qA) y x
def mQ(l:List Int):List (Int×Int):=if kY l then yF (fJ l)else[]
noncomputable def Ip:cD:=Dz 208 Io kR 192 yF
theorem UE(blk off cap:Nat)(d:Array (Int×Int))(w:World)(hH:Go.Sort.HoldsK kR Io.length w blk off d)(hblk:blk<w.heap.size)(hsz:d.size<4611686018427387904) :
 Calls Tryz.prog 191 #[.slice (some ⟨blk,off,none⟩) d.size cap,.func (.func 192) #[] #[]] w fun e w' =>
  e = .returned (.tuple #[])/\∃n os,w'=Go.Proofs.sortWorldK kR Io.length w blk off n (yF d.toList).toArray os:=Yk blk off cap d w hH hblk hsz
theorem yG(l:List (Int×Int)):(yF l).length=l.length:=List.length_mergeSort _
theorem DC(l:List (Int×Int)):(yF l).Perm l:=List.mergeSort_perm _ _
theorem QH:lI (Y Tryz.prog).G.X Ip 191 :=
 QG (ks:=Io) (enc:=kR) (g:=192) (srt:=yF) (fun _=>rfl) (by decide) yG (fun l x hx=>(DC l).mem_iff.1 hx) UE
theorem M8:ak (Y Tryz.prog).G.X 191 Ip:=fun _ _ _ h=>vD QH h
noncomputable def M9:cD where
 α:=lU
 β:=Nat
 m:=1
 m':=2
 pre:=fun a=>a.l.length<100000
 args:=fun a=>[.a (.slc 0 0 1 a.l.length a.cap)]
 hp:=fun _=>[]
 ro:=fun a=>[(0,.arr 3 [.int .i64] a.l.length (af encI a.l))]
 post:=fun _ _=>True
 res:=fun a cap=>.a (.slc 1 0 2 (mQ a.l).length cap)
 cT:=fun a _=>[(1,.arr 208 Io (mQ a.l).length (af kR (mQ a.l)))]
def Zy(a:lU)(i:Nat):An:=.flat 8 (Nat×Nat) (fun s x=>((s.at_ (s.tg 3) (.arr 208 Io (fJ (a.l.take i)++tW (gl a.l i) x.1).length (af kR (fJ (a.l.take i)++tW (gl a.l i) x.1)))).set 3 (.a (.slc (s.tg 3) 0 2 (fJ (a.l.take i)++tW (gl a.l i) x.1).length x.2))).int 16 x.1)
 (fun _ x=>x.1<=8) (fun _ x=>8-x.1)
def aa7(a:lU):An:=.mk 5 (Nat×Nat) (fun s x=>((s.new (.arr 208 Io (fJ (a.l.take x.1)).length (af kR (fJ (a.l.take x.1))))).set 3 (.a (.slc s.nx 0 2 (fJ (a.l.take x.1)).length x.2))).int 12 x.1)
 (fun _ x=>x.1<=a.l.length) (fun _ x=>a.l.length-x.1) fun x=>.mk 60 [Zy a x.1] []
theorem QI(n:Int)(k:Nat):tW n (k+1)=tW n k++[(xG n k,n)]:=by
 unfold tW;rw[List.range_succ,List.map_append];rfl
theorem AZ(n:Int)(k:Nat):(tW n k).length=k:=by simp[tW]
theorem Kx{l:List Int}{i:Nat}(h:i<l.length):fJ (l.take (i+1))=fJ (l.take i)++tW (gl l i) 8:=by
 unfold fJ;rw[gq h,List.flatMap_append];simp
theorem nU:∀l:List Int,(fJ l).length=8*l.length
 |[]=>rfl
 |a::l=>by
  have:=nU l;unfold fJ at *;rw[List.flatMap_cons,List.length_append,AZ,this,List.length_cons];omega
def _root_.dQ(x:List (Int×Int)):Nat:=x.length
def _root_.oW(x:Nat×Nat)(y:Rg.lU):List (Int×Int):=Rg.fJ (List.take x.fst y.l)
def _root_.nN(x:Nat×Nat)(y:Rg.lU)(z:Nat×Nat):List (Int×Int):=oW x y++Rg.tW (gl y.l x.fst) z.fst
def _root_.tn(y:List Int)(z:Nat)(u:Rg.lU->Prop):=∃x:Rg.lU,mz y x.l z x.cap Rg.encI (av x.l<100000) (u x)
def _root_.DD(y x:Rg.lU)(z u:Prop):=bB (bx (Rg.kY y.l))/\bD (av x.l) x.cap/\z/\cn x.l x.l Rg.encI/\u
def _root_.Iq(x y z:List (Int×Int)):=aL (dQ x) (dQ y) 2 (af Rg.kR z) (af Rg.kR x)
theorem QJ:fnBody (Y Tryz.prog) [(56,A7),(190,M6),(191,Ip)] 152 M9 fun a=>[(152,[aa7 a],[])]:=fnBody.of (p :=
 ∀x:Rg.lU,av x.l<100000->tn x.l x.cap fun w=>aI (aO (bx (Rg.kY w.l)) (zf (dQ (Rg.mQ x.l))) (mA (fun y=>(0=dQ (oW y x)/\0=y.snd)/\dK (av x.l) x.cap (DD w x (dQ (oW y x)=0) (y.fst<=av x.l/\True))) (av x.l) (fun y=>ah (gl x.l (0+az y.fst))->(∃z:Nat×Nat,aC z.fst (ag (dQ (oW y x)=dQ (nN y x z)/\y.snd=z.snd)/\aG (gl x.l (0+az y.fst))/\oH y.fst (av x.l) (bD (av x.l) x.cap) (DD w x (Iq (nN y x z) (oW y x) (oW y x)) (z.fst<=8/\True))))/\∀z:Nat×Nat,z.fst<=8->aA (aa z.fst) 8 (∃u:Int×Int,gl x.l (0+az y.fst)=u.fst/\aa z.fst=u.snd/\((0:Int)<=u.fst/\u.fst<=(100:Int)/\cI u.snd 100)/\aI (gu (dQ (nN y x z)) 16 z.snd fun t=>ir z fun s=>ag (dQ (nN y x z)+1=dQ (nN y x s)/\t=s.snd)/\aG (gl x.l (0+az y.fst))/\oH y.fst (av x.l) (bD (av x.l) x.cap) (DD w x (iJ (dQ (nN y x s)) (dQ (nN y x z)) 2 (af Rg.kR (nN y x z)) (bM (Value.int .u64 (Rg.xG u.fst u.snd)) (bu (gl x.l (0+az y.fst)) [])) (af Rg.kR (nN y x s))) (bS s.fst 8 z.fst)))) (ir y fun u=>ag (dQ (nN y x z)=dQ (oW u x)/\z.snd=u.snd)/\dK (av x.l) x.cap (DD w x (Iq (oW u x) (nN y x z) (nN y x z)) (bS u.fst (av x.l) y.fst)))) fun y=>∃(v:Ox (Int×Int)),iu (dQ (oW y x)) (dQ v.l) y.snd v.cap 2 (af Rg.kR (oW y x)) (af Rg.kR v.l) (dQ v.l<100000 /\
 1<=dQ v.l) (aI (∃z:Nat,ag (dQ (oW y x)=dQ (Rg.mQ x.l)/\y.snd=z)/\bp (Iq (Rg.mQ x.l) v.l (Rg.yF v.l))))))) (by kernel_rfl) (by
 delta aO av cz aL ah bu bW az aG gF bB eF aQ aY aa cI bg aD dO aX dQ bM cn aI gD bD iJ gu bS dK nN mz ir aC iu oH ag aA oW aP tn bh cW mA bp DD dR bx zf Iq jF
 try dsimp -iota -proj only
 intro a h;refine⟨⟨a.l,a.cap⟩,?_⟩
 and_intros<;>first|rfl|trivial|exact Nat.le_refl _|omega|(dsimp only;omega)|exact aj.refl _ _ _|skip
 refine fun _ _=>⟨fun c0=>⟨0,?_⟩,fun c0=>?_⟩
 ·have e:mQ a.l=[]:=if_neg (by simpa using c0);rw[e]
  and_intros<;>first|rfl|trivial|exact Nat.le_refl _|omega|(dsimp only;omega)|exact aj.refl _ _ _
 have hm:kY a.l=true:=by simpa using c0
 have hl:=DB hm;have hl0:=Kw hm;have e:mQ a.l=yF (fJ a.l):=if_pos hm;simp only[Nat.zero_add,Int.toNat_natCast,bL];refine⟨⟨(0,0),?_⟩,fun x hx=>⟨fun c1=>?_,fun c1=>?_⟩⟩
 ·have e0:fJ (a.l.take 0)=[]:=rfl;dsimp only;rw[e0]
  and_intros<;>first|rfl|trivial|exact Nat.le_refl _|omega|(dsimp only;omega)|exact aj.refl _ _ _
 ·obtain⟨i,cap⟩:=x;dsimp only at c1 hx ⊢;simp only[decide_eq_true_eq]at c1;have hi:i<a.l.length:=by omega
  have hb:=Bx hm hi;have hr:=nU (a.l.take i);rw[List.length_take]at hr;refine⟨by omega,by omega,fun _=>⟨⟨(0,cap),?_⟩,fun y hy=>⟨fun c2=>?_,fun c2=>?_⟩⟩⟩
  ·have e0:fJ (a.l.take i)++tW (gl a.l i) 0=fJ (a.l.take i):=List.append_nil _;dsimp only;rw[e0]
   and_intros<;>first|rfl|trivial|exact Nat.le_refl _|omega|(dsimp only;omega)|exact aj.refl _ _ _
  ·obtain⟨k,c⟩:=y;dsimp only at c2 hy ⊢;simp only[decide_eq_true_eq]at c2;have hk:k<8:=by omega
   have hn:(fJ (a.l.take i)++tW (gl a.l i) k).length=8*min i a.l.length+k:=by rw[List.length_append,AZ,hr]
   have hs:fJ (a.l.take i)++tW (gl a.l i) (k+1)=(fJ (a.l.take i)++tW (gl a.l i) k)++[(xG (gl a.l i) k,gl a.l i)]:=by rw[QI,List.append_assoc]
   have hn1:((fJ (a.l.take i)++tW (gl a.l i) k)++[(xG (gl a.l i) k,gl a.l i)]).length=(fJ (a.l.take i)++tW (gl a.l i) k).length+1:=List.length_append;refine⟨(gl a.l i,(k:Int)),rfl,rfl,⟨by omega,by omega,by omega,by omega⟩,fun _ _=>⟨by omega,by omega,by omega,fun c3 _ _ _=>⟨by omega,⟨(k+1,c3),?_⟩⟩⟩⟩;dsimp only;rw[hs,hn1]
   and_intros<;>first|rfl|trivial|exact Nat.le_refl _|omega|(dsimp only;omega)|exact aj.refl _ _ _|exact .push rfl (by omega) rfl
  ·obtain⟨k,c⟩:=y;dsimp only at c2 hy ⊢;simp only[decide_eq_false_iff_not]at c2;have hk:k=8:=by omega
   subst hk;have hs:=Kx hi;refine⟨by omega,⟨(i+1,c),?_⟩⟩;dsimp only;rw[hs]
   and_intros<;>first|rfl|trivial|exact Nat.le_refl _|omega|(dsimp only;omega)|exact aj.refl _ _ _
 ·obtain⟨i,cap⟩:=x;dsimp only at c1 hx ⊢;simp only[decide_eq_false_iff_not]at c1;have hi:i=a.l.length:=by omega
  subst hi;have hr:=nU a.l;have hsl:=yG (fJ a.l);rw[List.take_length,e];refine⟨⟨fJ a.l,cap⟩,?_⟩
  and_intros<;>first|rfl|trivial|exact Nat.le_refl _|omega|(dsimp only;omega)|exact aj.refl _ _ _|skip
  refine fun _ _=>⟨cap,?_⟩
  and_intros<;>first|rfl|trivial|exact Nat.le_refl _|omega|(dsimp only;omega)|exact aj.refl _ _ _)
theorem QK:ak (Y Tryz.prog).G.X 152 M9:=aV fK QJ ⟨qH,QF,M8,trivial⟩
theorem UF{n:Int}{k:Nat}{e:Int×Int}(h:e∈tW n k):e.2=n:=by
 obtain⟨j,_,rfl⟩:=List.mem_map.1 h;rfl
theorem UG{l:List Int}(h:kY l=true):mQ l=yF (fJ l):=if_pos h
theorem DF{l:List Int}(h:kY l=true):(mQ l).Perm (fJ l):=by rw[UG h];exact DC _
theorem Ir{l:List Int}(h:kY l=true):(mQ l).length=8*l.length:=by rw[(DF h).length_eq,nU]
theorem UH{n:Int}(h1:1<=n)(h2:n<=5):kY [n]=true:=by simp[kY,qN,yE,gl,h1,h2]
def xH(L:List (Int×Int))(h:Int):Int:=match L.find? (fun e=>decide (h<=e.1))with|some e=>e.2|none=>(gl L 0).2
theorem QL{α:Type}{p:α->Bool}{L:List α}{k:Nat}{x:α}(h:(L.take k).find? p=some x):L.find? p=some x:=by
 rw[<- List.take_append_drop k L,List.find?_append,h];rfl
theorem UI{L:List (Int×Int)}{h:Int}{i:Nat}(hi:i<L.length)(h1:(L.take i).find? (fun e=>decide (h<=e.1))=none)(h2:h<=(gl L i).1):xH L h=(gl L i).2:=by
 have:L.find? (fun e=>decide (h<=e.1))=some (gl L i):=by
  refine QL (k:=i+1) ?_;rw[gq hi,List.find?_append,h1];simp[h2]
 unfold xH;rw[this]
theorem QM{L:List (Int×Int)}{h:Int}(h1:L.find? (fun e=>decide (h<=e.1))=none):xH L h=(gl L 0).2:=by
 unfold xH;rw[h1]
theorem zF{L:List (Int×Int)}{h:Int}{i:Nat}(hi:i<L.length)(h1:(L.take i).find? (fun e=>decide (h<=e.1))=none)(h2:¬h<=(gl L i).1):(L.take (i+1)).find? (fun e=>decide (h<=e.1))=none:=by
 rw[gq hi,List.find?_append,h1];simp[h2]
structure ew where
 e:Int
 l:List Int
 c1:Nat
 L:List (Int×Int)
 c2:Nat
def Na(a:ew):List (Nat×Chunk):=[(0,.obj 161 [.int .i64 a.e,.slc 1 0 1 a.l.length a.c1,.slc 2 0 2 a.L.length a.c2]),(1,.arr 3 [.int .i64] a.l.length (af encI a.l)),(2,.arr 208 Io a.L.length (af kR a.L))]
structure DG where
 r:ew
 h:Int
noncomputable def Nb:cD where
 α:=DG
 β:=Unit
 m:=3
 m':=3
 pre:=fun a=>a.r.L.length<100000/\0<a.r.L.length
 args:=fun a=>[.a (.ptr 0 0 0 0),.a (.int .u64 a.h)]
 hp:=fun _=>[]
 ro:=fun a=>Na a.r
 post:=fun _ _=>True
 res:=fun a _=>.a (.int .i64 (xH a.r.L a.h))
 cT:=fun _ _=>[]
def Yl(a:DG):An:=.flat 4 Nat (fun s i=>s.int 14 i) (fun _ i=>i<=a.r.L.length/\(a.r.L.take i).find? (fun e=>decide (a.h<=e.1))=none) (fun _ i=>a.r.L.length-i)
def _root_.oZ(y:List Int)(x:Rg.ew)(u:Nat)(z:List (Int×Int))(v:Nat)(w:Prop):=cW y x.l u x.c1/\dJ (dQ z) (dQ x.L) v x.c2 (cn x.l y Rg.encI) 2 (af Rg.kR z) (af Rg.kR x.L) w
def _root_.pK(x y:Rg.ew)(z u:Prop):=x.e=y.e/\oZ x.l y x.c1 x.L x.c2 (z/\u)
def _root_.Is(y:Nat)(x:Rg.DG):=y<=dQ x.r.L/\List.find? (fun z=>cR x.h z.fst) (List.take y x.r.L)=none
theorem QN:fnBody (Y Tryz.prog) [] 78 Nb fun a=>[(78,[Yl a],[])]:=fnBody.of (p :=
 ∀x:Rg.DG,dQ x.r.L<100000/\0<dQ x.r.L->(∃y:Nat,aC y (dK (dQ x.r.L) x.r.c2 (mu (aG x.h/\pK x.r x.r (Is y x) True))))/\∀y:Nat,Is y x->gD y (dQ x.r.L) (bL .u64 (gl x.r.L (0+az y)).fst->aO (cR x.h (gl x.r.L (0+az y)).fst) (uP (gl x.r.L (0+az y)).snd (Rg.xH x.r.L x.h)) (bY y fun z=>dK (dQ x.r.L) x.r.c2 (mu (aG x.h/\pK x.r x.r (Is z x) (dQ x.r.L-z<dQ x.r.L-y))))) (eF 0 (dQ x.r.L) 0 (uP (gl x.r.L 0).snd (Rg.xH x.r.L x.h)))) (by kernel_rfl) (by
 delta aO pK av aL ah bW az aG bB eF aQ aY aa bg aD aX dQ cn gD bD cH bQ dJ dK bY ay aC cR aW ag aA aP bh cW Is bp uP dR oZ mu
 try dsimp -iota -proj only
 rintro⟨⟨e,l,c1,L,c2⟩,h⟩ ⟨h1,h2⟩;dsimp only at h1 h2 ⊢;simp only[Nat.zero_add,Int.toNat_natCast,bL];refine⟨⟨0,?_⟩,fun i ⟨i1,i2⟩=>⟨fun d1=>?_,fun d1=>?_⟩⟩
 ·(and_intros<;>first|exact vR|skip)
 ·simp only[decide_eq_true_eq]at d1;have hi:i<L.length:=by omega
  refine⟨by omega,hi,fun _=>⟨fun d2 _=>⟨(),?_,trivial,trivial⟩,fun d2=>⟨by omega,i+1,?_⟩⟩⟩
  ·simp only[decide_eq_true_eq]at d2;exact(UI hi i2 d2).symm
  ·simp only[decide_eq_false_iff_not]at d2;have:=zF hi i2 d2
   (and_intros<;>first|exact vR|skip)
 ·simp only[decide_eq_false_iff_not]at d1;have hi:i=L.length:=by omega
  subst hi;rw[List.take_length]at i2;refine⟨by omega,h2,fun _=>⟨(),(QM i2).symm,trivial,trivial⟩⟩)
theorem QO:ak (Y Tryz.prog).G.X 78 Nb:=aV fK QN trivial
structure Nc where
 r:ew
 key:ByteArray
noncomputable def WB:cD where
 α:=Nc
 β:=Unit
 m:=3
 m':=3
 pre:=fun a=>a.r.L.length<100000/\0<a.r.L.length/\a.key.size<=aq
 args:=fun a=>[.a (.ptr 0 0 0 0),.a (.str a.key)]
 hp:=fun _=>[]
 ro:=fun a=>Na a.r
 post:=fun _ _=>True
 res:=fun a _=>.a (.int .i64 (xH a.r.L (fF (fun _=>a.key) 1)))
 cT:=fun _ _=>[]
def _root_.rB(x:Rg.Nc):Int:=Rg.xH x.r.L (Rg.fF (fun y=>x.key) 1)
def _root_.rC(x:Rg.ew)(y:Prop):=dQ x.L<100000/\0<dQ x.L/\y
theorem Nd:fnBody (Y Tryz.prog) [(66,uU),(78,Nb)] 44 WB fun _=>[]:=fnBody.of (p :=
 ∀z:Rg.Nc,rC z.r (bA z.key<=aq)->∃y:Rg.PT,iu 1 y.n 1 y.cap 1 (aN 1 (bH (bE z.key))) (fun x u=>bE (y.g x)) (y.n<100000/\∀x:Nat,x<y.n->bA (y.g x)<=aq) (aI (∃x:Rg.DG,ag (Rg.fF y.g y.n=x.h/\pK z.r x.r (dQ x.r.L<100000/\0<dQ x.r.L) (aI (bQ (Rg.xH x.r.L x.h=rB z))))))) (by kernel_rfl) (by
 delta pK av aL bH dQ bM cn aI bA bQ dJ bE ay iu ag rB cW bp rC oZ
 try dsimp -iota -proj only
 rintro⟨⟨e,l,c1,L,c2⟩,key⟩ ⟨h1,h2,h3⟩;dsimp only at h1 h2 h3 ⊢;have hr:aj 1 1 (aN 1 [Go.Value.string key]) (fun(i x:Nat)=>Go.Value.string key):=.dW fun i hi=>by
  have:i=0:=by omega
  subst this;rfl
 refine⟨⟨fun _=>key,1,1⟩,?_⟩
 (and_intros<;>first|exact vR|skip)
 refine fun _ _=>⟨⟨⟨e,l,c1,L,c2⟩,fF (fun _=>key) 1⟩,?_⟩
 (and_intros<;>first|exact vR|skip)
 exact fun _ _=>⟨(),rfl,trivial,trivial⟩)
theorem DH:ak (Y Tryz.prog).G.X 44 WB:=aV fK Nd ⟨vH,QO,trivial⟩
noncomputable def Nf:cD where
 α:=lU
 β:=Nat
 m:=1
 m':=2
 pre:=fun a=>a.l.length<100000
 args:=fun a=>[.a (.slc 0 0 1 a.l.length a.cap)]
 hp:=fun _=>[]
 ro:=fun a=>[(0,.arr 3 [.int .i64] a.l.length (af encI a.l))]
 post:=fun _ _=>True
 res:=fun a cap=>.a (.slc 1 0 1 a.l.length cap)
 cT:=fun a _=>[(1,.arr 3 [.int .i64] a.l.length (af encI a.l))]
theorem QS:fnBody (Y Tryz.prog) [] 151 Nf fun _=>[]:=fnBody.of (p :=
 ∀x:Rg.lU,av x.l<100000->zw x.l (zf (av x.l)) (gF 0 (av x.l) 8 0 fun y=>∃z:Nat,iu (0+av x.l) (av x.l) y z 1 (uD (q9 Rg.encI x.l)) (af Rg.encI x.l) True True)) (by kernel_rfl) (by
 delta aO av aL gF aD iu ag bp mB q9 zf zw uD
 try dsimp -iota -proj only
 rintro⟨l,cap⟩ h;dsimp only at h ⊢;have hr:aj l.length 1 (aZ (aN 1 []) 0 0 fun(i j:Nat)=>af encI l (0+i) j) (af encI l):=by
  have:=aj.app (enc:=encI) (n:=l.length) (m:=1) (s:=0) (l:=[]) (q:=l) (r0:=aN 1 []) (r1:=fun(i j:Nat)=>af encI l (0+i) j) (k:=0) rfl .zero (.of_eq (by funext i j;rw[Nat.zero_add]));simpa using this
 refine fun b hb=>⟨fun hc=>⟨0,?_⟩,fun _=>?_⟩
 ·have h0:=hb hc
  (and_intros<;>first|exact vR|skip)
 ·(and_intros<;>first|exact vR|skip)
  refine fun c _ _ _=>⟨c,?_⟩
  (and_intros<;>first|exact vR|skip))
theorem QT:ak (Y Tryz.prog).G.X 151 Nf:=aV fK QS trivial
structure WC where
 l:List Int
 cap:Nat
 n:Int
noncomputable def Ym:cD where
 α:=WC
 β:=Unit
 m:=1
 m':=1
 pre:=fun a=>a.l.length<100000
 args:=fun a=>[.a (.slc 0 0 1 a.l.length a.cap),.a (.int .i64 a.n)]
 hp:=fun _=>[]
 ro:=fun a=>[(0,.arr 3 [.int .i64] a.l.length (af encI a.l))]
 post:=fun _ _=>True
 res:=fun a _=>.a (.bool (decide (a.n∈a.l)))
 cT:=fun _ _=>[]
def Yn(a:WC):An:=.flat 2 Nat (fun s i=>s.int 8 i) (fun _ i=>i<=a.l.length/\a.n∉a.l.take i) (fun _ i=>a.l.length-i)
theorem It:fnBody (Y Tryz.prog) [] 91 Ym fun a=>[(138,[Yn a],[])]:=fnBody.of (p :=
 ∀x:Rg.WC,av x.l<100000->(∃y:Nat,aC y (u5 (av x.l) x.cap (aG x.n/\cn x.l x.l Rg.encI/\(y<=av x.l/\¬x.n∈List.take y x.l)/\True)))/\∀y:Nat,jI y (av x.l) (¬x.n∈List.take y x.l) (ah (gl x.l (0+az y))->aO (x.n == gl x.l (0+az y)) (bQ (cR 0 (aa y)=decide (x.n∈x.l))) (bY y fun z=>u5 (av x.l) x.cap (aG x.n/\cn x.l x.l Rg.encI/\dP z (av x.l) (¬x.n∈List.take z x.l) y))) (eR (decide (x.n∈x.l)))) (by kernel_rfl) (by
 delta aO av cz aL ah bW az aG eF aQ aY aa dP bg aD aX fL cn gD bD bQ bY ay aC cR ag aA eR aP bp dR u5 jI
 try dsimp -iota -proj only
 rintro⟨l,cap,n⟩ h;dsimp only at *;simp only[Nat.zero_add,Int.toNat_natCast,bL];refine⟨⟨0,?_⟩,fun i ⟨i1,i2⟩=>⟨fun c1=>?_,fun c1=>⟨(),?_,trivial,trivial⟩⟩⟩
 ·and_intros<;>first|rfl|trivial|exact Nat.le_refl _|omega|(dsimp only;omega)|exact aj.refl _ _ _|simp
 ·simp only[decide_eq_true_eq]at c1;have hi:i<l.length:=by omega
  refine⟨by omega,hi,fun _=>⟨fun c2=>⟨(),?_,trivial,trivial⟩,fun c2=>⟨by omega,i+1,?_⟩⟩⟩
  ·simp only[beq_iff_eq]at c2;have:n∈l:=by rw[c2];exact Gf hi
   simp[this]
  ·simp only[beq_eq_false_iff_ne]at c2;have:n∉l.take (i+1):=by
    rw[gq hi,List.mem_append,List.mem_singleton];rintro(h|h)
    ·exact i2 h
    ·exact c2 h
   and_intros<;>first|rfl|trivial|exact Nat.le_refl _|omega|(dsimp only;omega)|exact aj.refl _ _ _|exact this
 ·simp only[decide_eq_false_iff_not]at c1;have e:i=l.length:=by omega
  subst e;rw[List.take_length]at i2;simp[i2])
theorem Iu:ak (Y Tryz.prog).G.X 91 Ym:=aV fK It trivial
structure OI where
 r:ew
 n:Int
noncomputable def UJ:cD where
 α:=OI
 β:=Unit
 m:=3
 m':=3
 pre:=fun a=>a.r.l.length<100000
 args:=fun a=>[.a (.ptr 0 0 0 0),.a (.int .i64 a.n)]
 hp:=fun _=>[]
 ro:=fun a=>Na a.r
 post:=fun _ _=>True
 res:=fun a _=>.a (.bool (decide (a.n∈a.r.l)))
 cT:=fun _ _=>[]
theorem UK:fnBody (Y Tryz.prog) [(91,Ym)] 50 UJ fun _=>[]:=fnBody.of (p :=
 ∀x:Rg.OI,av x.r.l<100000->∃y:Rg.WC,cW x.r.l y.l x.r.c1 y.cap/\x.n=y.n/\cn y.l x.r.l Rg.encI/\av y.l<100000/\aI (bQ (decide (y.n∈y.l)=decide (x.n∈x.r.l)))) (by kernel_rfl) (by
 delta av aL cn aI bQ ay ag cW bp
 try dsimp -iota -proj only
 rintro⟨⟨e,l,c1,L,c2⟩,n⟩ h;dsimp only at h ⊢;refine⟨⟨l,c1,n⟩,?_⟩
 (and_intros<;>first|exact vR|skip)
 exact fun _ _=>⟨(),rfl,trivial,trivial⟩)
theorem UL:ak (Y Tryz.prog).G.X 50 UJ:=aV fK UK ⟨Iu,trivial⟩
def Oy(a e:Int×Int):Int×Int:=if a.2=0\/e.1<a.1\/e.1=a.1/\e.2<a.2 then e else a
end Go.Proofs.YtfjgoonelcaggaaGreat.Rg
namespace Go.Proofs.YtfjgoonelcaggaaGreat
open Go.Sx
structure ZQ where
 g:Int
 n:Nat
 cap:Nat
 rows:Nat->Nat->Value
noncomputable def cIn:cD where
 α:=ZQ
 β:=Unit
 m:=1
 m':=1
 pre:=fun a=>a.n<=1000/\∀i,i<a.n->0<=jD (a.rows i 0)/\jD (a.rows i 0)<=a.g
 args:=fun a=>[.a (.int .i64 a.g),.a (.slc 0 0 1 a.n a.cap)]
 hp:=fun _=>[]
 ro:=fun a=>[(0,.arr 2 [.int .i64] a.n a.rows)]
 post:=fun _ _=>True
 res:=fun _ _=>.a .tt
 cT:=fun _ _=>[]
def iIn(a:ZQ):An:=.flat 2 Nat (fun s i=>s.int 9 i) (fun _ i=>i<=a.n) (fun _ i=>a.n-i)
theorem Yo:fnBody (Y Tryz.prog) [] 95 cIn fun a=>[(95,[iIn a],[])]:=fnBody.of (p :=
 ∀x:ZQ,(x.n<=1000/\∀z:Nat,z<x.n->cI (jD (x.rows z 0)) x.g)->(∃y:Nat,aC y (dK x.n x.cap (cH (aG x.g/\bD x.n x.cap/\dN x.n 1 x.rows/\y<=x.n/\True))))/\∀y:Nat,y<=x.n->gD y x.n (z6 (jD (x.rows (0+az y) 0)) 0 (bQ (aD false)) x.g (bY y fun u=>dK x.n x.cap (cH (aG x.g/\bD x.n x.cap/\dN x.n 1 x.rows/\bS u x.n y)))) (bQ (bB true))) (by kernel_rfl) (by
 delta aO aL ah bW az aG bB eF aQ aY aa cI bg aD aX dN gC gD bD cH bQ bS dK bY ay aC ag aA z6 aP bh bp dR
 try dsimp -iota -proj only
 rintro⟨g,n,cap,rows⟩ ⟨h1,h2⟩;dsimp only at h1 h2 ⊢;simp only[Nat.zero_add,Int.toNat_natCast,bL];refine⟨⟨0,?_⟩,fun i hi=>⟨fun c1=>?_,fun _=>⟨(),trivial,trivial,trivial⟩⟩⟩
 ·(and_intros<;>first|exact vR|skip)
 ·simp only[decide_eq_true_eq]at c1;have hi:i<n:=by omega
  obtain⟨g1,g2⟩:=h2 i hi;refine⟨by omega,hi,fun _=>⟨fun g=>(by exfalso;simp only[decide_eq_true_eq]at g;omega),fun _=>⟨fun g=>(by exfalso;simp only[decide_eq_true_eq]at g;omega),fun _=>⟨by omega,i+1,?_⟩⟩⟩⟩
  (and_intros<;>first|exact vR|skip))
theorem Yp:ak (Y Tryz.prog).G.X 95 cIn:=aV fK Yo trivial
def Zz(m:qw)(mem:A):List A:=[.int .i64 m.kind,.int .i64 m.ow,.int .i64 m.to,.int .i64 m.aT,.int .i64 m.tick,.int .i64 m.seq,.int .i64 m.n,.int .i64 m.id,.int .i64 m.op,.str m.key,.int .i64 m.err,.bool m.last,.str m.item.key,.str m.item.val,.int .i64 m.item.e,.bool m.item.gone,.bU,.bU,mem,.int .i64 m.base,.bU]
def Fw(n:Int):Prop:=0<=n/\n<=1099511627776
structure Ky(m:qw):Prop where
 kind:1<=m.kind/\m.kind<=14
 ft:m.ow≠m.to
 ow:0<=m.ow/\m.ow<=5
 to:0<=m.to/\m.to<=5
 aT:Fw m.aT
 tick:Fw m.tick
 seq:Fw m.seq
 id:Fw m.id
 base:Fw m.base
 n:0<=m.n/\m.n<=1073741824
 op:0<=m.op/\m.op<=2
 err:0<=m.err/\m.err<=10
 item:m.item=fR\/fU m.item=true
structure Fy where
 m:qw
 l:List Int
 cap:Nat
noncomputable def UM:cD where
 α:=Fy
 β:=Unit
 m:=1
 m':=1
 pre:=fun a=>Ky a.m/\(a.l=[]\/Rg.kY a.l=true)
 args:=fun a=>[.agg (Zz a.m (.slc 0 0 1 a.l.length a.cap))]
 hp:=fun _=>[]
 ro:=fun a=>[(0,.arr 3 [.int .i64] a.l.length (af Rg.encI a.l))]
 post:=fun _ _=>True
 res:=fun a _=>.a (.bool (decide (a.m.key.size<=40)))
 cT:=fun _ _=>[]
def Ai(u v:Int)(y:Nat)(w:Int)(s:List Value)(t:Prop):=ah u->∃x:ZQ,v=x.g/\iu y x.n y x.cap 1 (aN 1 (bu w s)) x.rows (x.n<=1000/\∀z:Nat,z<x.n->cI (jD (x.rows z 0)) x.g) (aI t)
def rD(x:Fy):Bool:=decide (bA x.m.key<=40)
def Ng(x:Fy):=aO (aa (av x.l) == (0:Int)) (bQ (true=rD x)) (tn x.l x.cap fun y=>aI (aO (Rg.kY y.l) (bQ (true=rD x)) (eR (rD x))))
theorem UN:fnBody (Y Tryz.prog) [(95,cIn),(96,A7),(56,Rg.A7)] 55 UM fun _=>[]:=fnBody.of (p :=
 ∀x:Fy,Ky x.m/\(x.l=[]\/aD (Rg.kY x.l))->ah x.m.kind->aA x.m.kind 1 (eR (rD x)) (ah x.m.kind->zZ (aQ 14 x.m.kind) (eR (rD x)) x.m.ow x.m.to (x.m.ow == x.m.to) (ah x.m.ow->Ai x.m.to 5 2 x.m.ow (bu x.m.to []) (ah x.m.aT->ah x.m.tick->ah x.m.seq->ah x.m.id->Ai x.m.base 1099511627776 5 x.m.aT (bu x.m.tick (bu x.m.seq (bu x.m.id (bu x.m.base [])))) (Ai x.m.n 1073741824 1 x.m.n [] (Ai x.m.op 2 1 x.m.op [] (aA 40 (aa (bA x.m.key)) (eR (rD x)) (Ai x.m.err 10 1 x.m.err [] (aO (iZ x.m.item.key dc&&(iZ x.m.item.val dc&&(x.m.item.e == (0:Int)&&(x.m.item.gone == false&&true)))) (Ng x) (∃y:aB,qf x.m.item y (cO (aO (fU y) (Ng x) (eR (rD x)))))))))))))) (by kernel_rfl) (by
 delta aO av aL ah bu aQ aa cI aD dO fL bM cn dc qf aI bA bQ Ai mz zZ ay iu rD ag aA eR tn cW Ng bp iZ cO
 try dsimp -iota -proj only
 rintro⟨m,l,cap⟩ ⟨ok,hl⟩;obtain⟨⟨q0,q1⟩,ft,⟨f0,f1⟩,⟨t0,t1⟩,⟨e0,e1⟩,⟨i0,i1⟩,⟨s0,s1⟩,⟨d0,d1⟩,⟨b0,b1⟩,⟨n0,n1⟩,⟨p0,p1⟩,⟨r0,r1⟩,hit⟩:=ok;dsimp only at *;simp only[bL,decide_eq_true_eq,decide_eq_false_iff_not,beq_iff_eq];refine fun _=>⟨fun c=>absurd c (by omega),fun _ _=>⟨fun c=>absurd c (by omega),fun _ _ _=>⟨fun c=>absurd c ft,fun _ _ _=>⟨⟨5,2,2,aN 1 [.int .i64 m.ow,.int .i64 m.to]⟩,?_⟩⟩⟩⟩
 (and_intros<;>first|exact vR|skip)
 ·intro i hi
  match i,(show i<2 from hi)with
  |0,_=>exact⟨f0,f1⟩
  |1,_=>exact⟨t0,t1⟩
 refine fun _ _ _ _ _ _ _=>⟨⟨1099511627776,5,5,aN 1 [.int .i64 m.aT,.int .i64 m.tick,.int .i64 m.seq,.int .i64 m.id,.int .i64 m.base]⟩,?_⟩
 (and_intros<;>first|exact vR|skip)
 ·intro i hi
  match i,(show i<5 from hi)with
  |0,_=>exact⟨e0,e1⟩
  |1,_=>exact⟨i0,i1⟩
  |2,_=>exact⟨s0,s1⟩
  |3,_=>exact⟨d0,d1⟩
  |4,_=>exact⟨b0,b1⟩
 refine fun _ _ _=>⟨⟨1073741824,1,1,aN 1 [.int .i64 m.n]⟩,?_⟩
 (and_intros<;>first|exact vR|skip)
 ·intro i hi
  match i,(show i<1 from hi)with
  |0,_=>exact⟨n0,n1⟩
 refine fun _ _ _=>⟨⟨2,1,1,aN 1 [.int .i64 m.op]⟩,?_⟩
 (and_intros<;>first|exact vR|skip)
 ·intro i hi
  match i,(show i<1 from hi)with
  |0,_=>exact⟨p0,p1⟩
 refine fun _ _=>⟨fun c=>⟨(),(decide_eq_false (by omega)).symm,trivial,trivial⟩,fun c _=>⟨⟨10,1,1,aN 1 [.int .i64 m.err]⟩,?_⟩⟩
 have hy:true=decide (m.key.size<=40):=(decide_eq_true (by omega)).symm
 (and_intros<;>first|exact vR|skip)
 ·intro i hi
  match i,(show i<1 from hi)with
  |0,_=>exact⟨r0,r1⟩
 have hl1:l.length<100000:=by
  rcases hl with rfl|h
  ·decide
  ·have:=Rg.DB h;omega
 have hl2:¬(l.length:Int)=0->Rg.kY l=true:=fun h=>hl.resolve_left fun e=>h (by rw[e];rfl);refine fun _ _=>⟨fun _=>⟨fun _=>⟨(),hy,trivial,trivial⟩,fun e=>?_⟩,fun c=>⟨m.item,?_⟩⟩
 ·refine⟨⟨l,cap⟩,?_⟩
  (and_intros<;>first|exact vR|skip)
  exact fun _ _=>⟨fun _=>⟨(),hy,trivial,trivial⟩,fun g=>absurd (hl2 (by simpa using e)) (by simp[g])⟩
 ·have hne:m.item≠fR:=fun e=>by rw[e]at c;revert c;decide
  have hmay:=hit.resolve_left hne
  (and_intros<;>first|exact vR|skip)
  refine fun _ _=>⟨fun _=>⟨fun _=>⟨(),hy,trivial,trivial⟩,fun e=>?_⟩,fun g=>absurd hmay (by simp[g])⟩
  refine⟨⟨l,cap⟩,?_⟩
  (and_intros<;>first|exact vR|skip)
  exact fun _ _=>⟨fun _=>⟨(),hy,trivial,trivial⟩,fun g=>absurd (hl2 (by simpa using e)) (by simp[g])⟩)
theorem UO:ak (Y Tryz.prog).G.X 55 UM:=aV fK UN ⟨Yp,qH,Rg.qH,trivial⟩
def ZA(w:ou):List A:=[.int .i64 w.node,.int .i64 w.id,.int .i64 w.op,.str w.key]
structure l6 where
 n:cF
 p:fT
 w:ou
 err:Int
 val:ByteArray
 has:Bool
def ve(w:ou)(err:Int)(val:ByteArray)(has:Bool):aB:=if w.op=1/\err=0 then⟨w.key,val,0,!has⟩else fR
def Aj(id:Int)(w:ou)(err:Int)(val:ByteArray)(has:Bool):List qw:=if w.node=0 then[]else[⟨14,id,w.node,0,0,0,0,w.id,0,va,err,false,ve w err val has,0⟩]
def vf(w:ou)(err:Int)(val:ByteArray)(has:Bool):List Ej:=if w.node=0 then[⟨w.id,w.op,w.key,err,val,has⟩]else[]
noncomputable def OJ:cD where
 α:=l6
 β:=Nat×Nat
 m:=10
 m':=12
 pre:=fun a=>a.w.key.size<=aq/\a.val.size<=aq
 args:=fun a=>[.a (.ptr 0 0 0 0),.agg (ZA a.w),.a (.int .i64 a.err),.a (.str a.val),.a (.bool a.has)]
 hp:=fun a=>[(0,Ic (.ptr 9 0 0 0) 7 1 3 5 6 a.n a.p)]
 ro:=fun _=>[]
 post:=fun _ _=>True
 res:=fun _ _=>.l8 []
 cT:=fun a b=>[(0,Qz (.ptr 9 0 0 0) (.slc 10 0 21 (Aj a.n.id a.w a.err a.val a.has).length b.1) (.slc 11 0 6 (vf a.w a.err a.val a.has).length b.2) 7 1 3 5 6 a.n a.p),Dx 10 (Aj a.n.id a.w a.err a.val a.has),OG 11 (vf a.w a.err a.val a.has)]
def kM(a:l6):qw:=⟨14,0,a.w.node,0,0,0,0,a.w.id,0,va,a.err,false,ve a.w a.err a.val a.has,0⟩
def ZB(m:qw):List A:=Zz m .bU
def Yq(a:l6):An:=.mk 6 Unit (fun s _=>s.at_ (s.tg 10) (.obj 45 (ZB (kM a)))) (fun _ _=>True) (fun _ _=>0) fun _=>.mk 60 [] []
def rW(x:ou)(y:Prop):=cz x.node x.id (aG x.op) (x.key=x.key/\y)
def mR(x y:cF)(z u:fT)(v w:Prop):=ax (x.id=y.id/\ag (oU x y z u v w))
def Iv(y:Int)(x:qw)(z u v w s:Int)(t:ByteArray)(f:Int)(g h:ByteArray)(i:Prop):=y=x.kind/\z=x.ow/\u=x.to/\v=x.aT/\w=x.tick/\(0:Int)=x.seq/\(0:Int)=x.n/\s=x.id/\(0:Int)=x.op/\t=x.key/\f=x.err/\fL x.last (g=x.item.key) (h=x.item.val/\(0:Int)=x.item.e/\i)
def rE(x:l6):List qw:=Aj x.n.id x.w x.err x.val x.has
def tq(x:l6):Nat:=(vf x.w x.err x.val x.has).length
def tu(x:cF)(y:fT)(z u:Prop):=ax (aG x.id/\ag (oU x x y y z u))
def Nh(x:l6)(y z:ByteArray)(u:Prop):=ay (ag (bB (x.w.node == (0:Int))/\ax (rW x.w (aG x.err/\x.val=x.val/\bB x.has/\Iv 14 (kM x) 0 x.w.node 0 0 x.w.id dc x.err y z u))))
def xI(x:l6):=bA x.w.key<=aq/\bA x.val<=aq
theorem UP:fnBody (Y Tryz.prog) [(51,M3 (.ptr 9 0 0 0))] 54 OJ fun a=>[(54,[],[Yq a])]:=fnBody.of (p :=
 ∀x:l6,xI x->ah x.w.node->aO (x.w.node == (0:Int)) (ah x.w.id->ah x.w.op->1<=1/\64<=140737488355328/\∀y:Nat,1<=y->y<=aq->∃z:Nat×Nat,tu x.n x.p (0=bG (rE x)/\0=z.fst) (dJ 1 (tq x) y z.snd (bG (rE x)=0) 6 (jF 6 (bu x.w.id (bu x.w.op (dZ x.w.key x.err (bM (bE x.val) (bH (dX x.has))))))) (af oT (vf x.w x.err x.val x.has)) (True/\True))) (ah x.w.node->ah x.w.id->(ah x.w.op->qT (x.w.op == (1:Int)) (x.err == (0:Int)) (Nh x x.w.key x.val (bx x.has=(kM x).item.gone/\(0:Int)=(kM x).base/\rW x.w (tu x.n x.p True True))) (Nh x dc dc (fL (kM x).item.gone ((0:Int)=(kM x).base) (rW x.w (tu x.n x.p True True)))))/\aI (∃y:mV,ag (ag (1=bG y.l/\1=y.lc)/\mR x.n y.n x.p y.p (0=bG y.q/\0=y.qc) (Dy y (Ks (kM x) (kM x).ow) fun v=>∃u:Nat×Nat,mR y.n x.n y.p x.p (ag (bG (y.to (bG y.l))=bG (rE x)/\v=u.fst)) ((0=tq x/\0=u.snd)/\mO (rE x) (y.to (bG y.l))/\bp (tq x=0))))))) (by kernel_rfl) (by
 delta qT aO oU D8 cz aL ah bu bW aG bB nk cE bH aD dO ig kP fL bM cM ov dc Ks aI rW bG bA mR dJ bE mO gd ay Iv jd ag rE tq tu ax bp dZ bx Nh xI dX Dy jF
 try dsimp -iota -proj only
 rintro⟨n,p,w,err,val,has⟩ ⟨h1,h2⟩ _;dsimp only at *;refine⟨fun c=>?_,fun c _ _=>⟨fun _=>⟨fun d=>⟨fun e=>⟨(),?_⟩,fun e=>⟨(),?_⟩⟩,fun d=>⟨(),?_⟩⟩,fun _ _=>?_⟩⟩
 ·have hw:w.node=0:=by simpa using c
  have e1:Aj n.id w err val has=[]:=if_pos hw;have e2:vf w err val has=[⟨w.id,w.op,w.key,err,val,has⟩]:=if_pos hw;rw[e1,e2];have hr:aj 1 6 (fun i j=>aN 6 (oT ⟨w.id,w.op,w.key,err,val,has⟩) (0+i) j) (af oT [⟨w.id,w.op,w.key,err,val,has⟩]):=.dW fun i hi=>by
   have:i=0:=by omega
   subst this;rfl
  refine fun _ _=>⟨by omega,by omega,fun cap _ _=>⟨(0,cap),?_⟩⟩
  and_intros<;>first|exact cc|exact hr|(intro h_;revert h_)|exact cm|skip
 ·have e1:ve w err val has=⟨w.key,val,0,!has⟩:=if_pos ⟨by simpa using d,by simpa using e⟩;simp only[kM,e1]
  and_intros<;>first|exact cc|(intro h_;revert h_)|exact cm|skip
 ·have e1:ve w err val has=fR:=if_neg fun h=>by rw[h.2]at e;cases e
  simp only[kM,e1]
  and_intros<;>first|exact cc|(intro h_;revert h_)|exact cm|skip
 ·have e1:ve w err val has=fR:=if_neg fun h=>by rw[h.1]at d;cases d
  simp only[kM,e1]
  and_intros<;>first|exact cc|(intro h_;revert h_)|exact cm|skip
 ·have hw:¬w.node=0:=by simpa using c
  have e1:Aj n.id w err val has=[{ kM ⟨n,p,w,err,val,has⟩with ow:=n.id }]:=if_neg hw;have e2:vf w err val has=[]:=if_neg hw;rw[e1,e2];generalize kM ⟨n,p,w,err,val,has⟩=m;have hr:aj 1 21 (aN 21 (e9 m)) (af e9 [m]):=.dW fun i hi=>by
   have:i=0:=by omega
   subst this;rfl
  have k0:(0:Nat)<1000:=by omega
  have k1:(1:Nat)<1000:=by omega
  refine⟨mV.mk n p [] 0 [m] 1,?_⟩
  and_intros<;>first|exact cc|exact hr|exact k1|exact k0|(intro h_;revert h_)|exact cm|skip
  intro b _;refine⟨(b,0),?_⟩
  and_intros<;>first|exact cc|(intro h_;revert h_)|exact cm|skip)
theorem Kz:ak (Y Tryz.prog).G.X 54 OJ:=aV fK UP ⟨Kt,trivial⟩
def OK(a b c:Nat)(r:Rg.ew):List (Nat×Chunk):=[(a,.obj 161 [.int .i64 r.e,.slc b 0 1 r.l.length r.c1,.slc c 0 2 r.L.length r.c2]),(b,.arr 3 [.int .i64] r.l.length (af Rg.encI r.l)),(c,.arr 208 Rg.Io r.L.length (af Rg.kR r.L))]
def tv(r:Rg.ew)(k:ByteArray):Int:=Rg.xH r.L (Rg.fF (fun _=>k) 1)
def DI(le:th)(now ep:Int):Bool:=decide (0<ep)&&(decide (ep=le.aT)&&decide (now<le.end_))
def fB(n:cF)(r:Rg.ew)(k:ByteArray):Bool:=decide (tv r k=n.id)&&DI n.le n.now n.s.k.m.aT
structure yH where
 n:cF
 p:fT
 r:Rg.ew
 key:ByteArray
noncomputable def KA:cD where
 α:=yH
 β:=Unit
 m:=17
 m':=17
 pre:=fun a=>a.r.L.length<100000/\0<a.r.L.length/\a.key.size<=aq/\a.n.s.k.m.frozen=false
 args:=fun a=>[.a (.ptr 0 0 0 0),.a (.str a.key)]
 hp:=fun _=>[]
 ro:=fun a=>[(0,Ic (.ptr 14 0 0 0) 7 1 3 5 6 a.n a.p),(1,Wx 2 a.n.le),(2,Wy a.n.now),(7,ZP 8 9 10 a.n.s.bK),(10,.obj 155 (.ptr 11 0 0 0::C7 a.n.s.k.m))]++OK 14 15 16 a.r
 post:=fun _ _=>True
 res:=fun a _=>.a (.bool (fB a.n a.r a.key))
 cT:=fun _ _=>[]
theorem UQ:fnBody (Y Tryz.prog) [(44,Rg.WB)] 19 KA fun _=>[]:=fnBody.of (p :=
 ∀x:yH,rC x.r (bA x.key<=aq/\x.n.s.k.m.frozen=false)->ah x.n.id->∃y:Rg.Nc,ag (x.key=y.key/\pK x.r y.r (rC y.r (bA y.key<=aq)) (aI (aO (rB y != x.n.id) (eR (fB x.n x.r x.key)) (wq (aQ 0 x.n.s.k.m.aT) x.n.le.aT (x.n.s.k.m.aT == x.n.le.aT) (ah x.n.le.end_->ah x.n.now->aO (bx (aQ x.n.now x.n.le.end_)) (eR (fB x.n x.r x.key)) (aO (bx x.n.s.k.m.frozen) (bQ (true=fB x.n x.r x.key)) False)) (eR (fB x.n x.r x.key))))))) (by kernel_rfl) (by
 delta aO pK av aL ah aQ aD dQ fL cn wq aI bA bQ dJ ay ag eR rB cW bp bx rC oZ
 try dsimp -iota -proj only
 rintro⟨n,p,r,key⟩ ⟨h1,h2,h3,h4⟩ _;dsimp only at *;refine⟨Rg.Nc.mk r key,?_⟩
 and_intros<;>first|exact cc|exact h1|exact h2|exact h3|(intro h_;revert h_)|exact cm|skip
 intro _ _;dsimp only;have e0:Rg.xH r.L (Rg.fF (fun _=>key) 1)=tv r key:=rfl;rw[e0];unfold fB DI;refine⟨fun c=>⟨(),?_,trivial,trivial⟩,fun c=>⟨fun c1 _=>⟨fun c2 _ _=>⟨fun c3=>⟨(),?_,trivial,trivial⟩,fun c3=>⟨fun _=>⟨(),?_,trivial,trivial⟩,fun c4=>by rw[h4]at c4;cases c4⟩⟩,fun c2=>⟨(),?_,trivial,trivial⟩⟩,fun c1=>⟨(),?_,trivial,trivial⟩⟩⟩
 ·have:¬tv r key=n.id:=by simpa using c
  simp[this]
 ·have:decide (n.now<n.le.end_)=false:=by simpa using c3
  rw[this];simp
 ·have g1:tv r key=n.id:=by simpa using c
  have g2:n.s.k.m.aT=n.le.aT:=by simpa using c2
  have g3:decide (n.now<n.le.end_)=true:=by simpa using c3
  rw[c1,g3];simp[g1,g2]
 ·have:¬n.s.k.m.aT=n.le.aT:=by simpa using c2
  simp[this]
 ·rw[c1];simp)
theorem DJ:ak (Y Tryz.prog).G.X 19 KA:=aV fK UQ ⟨Rg.DH,trivial⟩
structure yI where
 n:cF
 p:fT
def fm(l:List gX):List ByteArray:=l.map fun x=>x.w.key
noncomputable def OL:cD where
 α:=yI
 β:=Nat
 m:=15
 m':=16
 pre:=fun a=>a.n.rs.length<1000
 args:=fun a=>[.a (.ptr 0 0 0 0)]
 hp:=fun _=>[]
 ro:=fun a=>[(0,Ic (.ptr 14 0 0 0) 7 1 3 5 6 a.n a.p),(6,.arr 134 Ae a.n.rs.length (af fN a.n.rs))]
 post:=fun _ _=>True
 res:=fun a c=>.a (.slc 15 0 1 (fm a.n.rs).length c)
 cT:=fun a _=>[(15,.arr 9 [.str] (fm a.n.rs).length (af kj (fm a.n.rs)))]
def ZC(a:yI):An:=.flat 5 (Nat×Nat) (fun s x=>((s.new (.arr 9 [.str] (fm (a.n.rs.take x.1)).length (af kj (fm (a.n.rs.take x.1))))).set 3 (.a (.slc s.nx 0 1 (fm (a.n.rs.take x.1)).length x.2))).int 13 x.1) (fun _ x=>x.1<=a.n.rs.length) (fun _ x=>a.n.rs.length-x.1)
def o4(x:Nat×Nat)(y:yI):List ByteArray:=fm (List.take x.fst y.n.rs)
def Ak(x:List gX):=dN (cE x) 5 (af fN x)
theorem UR:fnBody (Y Tryz.prog) [] 17 OL fun a=>[(17,[ZC a],[])]:=fnBody.of (p :=
 ∀x:yI,cE x.n.rs<1000->mA (fun y=>(0=aU (o4 y x)/\0=y.snd)/\dK (cE x.n.rs) x.p.rc (cH (ag (aU (o4 y x)=0/\tu x.n x.p (Ak x.n.rs) (y.fst<=cE x.n.rs/\True))))) (cE x.n.rs) (fun y=>gu (aU (o4 y x)) 16 y.snd fun u=>ir y fun z=>ag (aU (o4 y x)+1=aU (o4 z x)/\u=z.snd)/\dK (cE x.n.rs) x.p.rc (cH (ag (iJ (aU (o4 z x)) (aU (o4 y x)) 1 (af kj (o4 y x)) (bH (bE (gl x.n.rs (0+az y.fst)).w.key)) (af kj (o4 z x))/\tu x.n x.p (Ak x.n.rs) (bS z.fst (cE x.n.rs) y.fst))))) fun y=>∃u:Nat,iu (aU (o4 y x)) (aU (fm x.n.rs)) y.snd u 1 (af kj (o4 y x)) (af kj (fm x.n.rs)) True True) (by kernel_rfl) (by
 delta aO oU aL ah bW az aG gF bB eF aQ aY aa aU nk cE bH bg aD aX ig bM cM ov dN gD bD cH iJ gu bE bS dK ir aC iu jd ag aA o4 aP bh tu mA ax dR Ak jF
 try dsimp -iota -proj only
 rintro⟨n,p⟩ h;have h:n.rs.length<1000:=h;have hl:∀i,(fm (List.take i n.rs)).length=min i n.rs.length:=fun i=>by simp[fm]
 refine⟨⟨(0,0),?_⟩,fun⟨i,c⟩ hi=>⟨fun c1=>?_,fun c1=>⟨c,?_⟩⟩⟩
 ·have e:fm (List.take 0 n.rs)=[]:=rfl;dsimp only;rw[e]
  and_intros<;>first|exact cc|(intro h_;revert h_)|exact cm|skip
 ·dsimp only at *;have hi:i<n.rs.length:=by have:=of_decide_eq_true c1;omega
  have hs:fm (List.take (i+1) n.rs)=fm (List.take i n.rs)++[(gl n.rs i).w.key]:=by
   unfold fm;rw[gq hi,List.map_append];rfl
  have hz:0+(i:Int).toNat=i:=by omega
  have hli:=hl i;rw[hz];refine⟨by omega,hi,by omega,by omega,by omega,fun cap _ _ _=>⟨by simp only[bL];omega,(i+1,cap),?_⟩⟩;dsimp only;rw[hs];have hp:aj (fm (List.take i n.rs)++[(gl n.rs i).w.key]).length 1 (aZ (af kj (fm (List.take i n.rs))) 0 (fm (List.take i n.rs)).length fun i_1 j=>aN 1 (kj (gl n.rs i).w.key) (0+i_1) j) (af kj (fm (List.take i n.rs)++[(gl n.rs i).w.key])):=.push rfl (by simp) rfl
  and_intros<;>first|exact cc|exact hp|exact by simp|(intro h_;revert h_)|exact cm|skip
 ·dsimp only at *;have hi:i=n.rs.length:=by have:=of_decide_eq_false c1;omega
  subst hi;rw[List.take_length]
  and_intros<;>first|exact cc|(intro h_;revert h_)|exact cm|skip)
theorem KB:ak (Y Tryz.prog).G.X 17 OL:=aV fK UR trivial
structure tZ where
 n:cF
 p:fT
 r:Rg.ew
 w:ou
 g:Option aB
structure mW where
 p:fT
 b:Nat
 mc:Nat
 rc:Nat
structure dm where
 n:cF
 ms:List qw
 rs:List Ej
def tw(w:ou):Bool:=(!decide (w.op=1)&&!decide (w.op=2))||!dS w.key
def mS(n:cF)(w:ou)(err:Int)(val:ByteArray)(has:Bool):dm:=⟨n,Aj n.id w err val has,vf w err val has⟩
def KC(n:cF)(r:Rg.ew)(w:ou):Kq:=⟨w,n.s.bK*1048576+(n.asked+1),tv r w.key,n.now⟩
def DK(n:cF)(r:Rg.ew)(w:ou):qw:=⟨13,n.id,tv r w.key,n.s.k.m.aT,0,0,0,n.s.bK*1048576+(n.asked+1),w.op,w.key,0,false,fR,0⟩
def lB(n:cF)(k:ByteArray):cF:={ n with t:=fS n.t (hasB [k]),s:=jS n.s [k] }
def A0(n:cF)(r:Rg.ew)(w:ou):cF:={ n with asked:=n.asked+1,ws:=n.ws++[KC n r w] }
def jT(n:cF)(w:ou)(b:Nat):cF:={ n with t:=pg n.t w.key b,rs:=n.rs++[⟨w,n.t.last+1⟩] }
def je(n:cF)(r:Rg.ew)(w:ou)(g:Option aB)(b:Nat):dm :=
 if tw w=true then mS n w 1 va false
 else if tv r w.key≠n.id then⟨A0 n r w,[DK n r w],[]⟩
 else if fB n r w.key=false then mS n w 6 va false
 else if w.op=2 then mS (lB n w.key) w 0 va false
 else match od g n.now with
  |some x=>mS n w 0 x.val true
  |none=>⟨jT n w b,[],[]⟩
def KD(rg ma ra:A)(nd st le tk mp wa rd ca cl dv ds ix it jr mk jl ke su tx pl:Nat)(n:cF)(p:fT):List (Nat×Chunk) :=
 vL st ca cl dv ds ix it jr mk jl ke su tx pl n.s p.p++[(mp,u9 p.mb n.t),(nd,Qz rg ma ra st le tk wa rd n p),(tk,Dp p.mb n.t),(wa,.arr 125 Ib n.ws.length (af iI n.ws)),(rd,.arr 134 Ae n.rs.length (af fN n.rs))]
def Yr(le ck a b c:Nat)(n:cF)(r:Rg.ew):List (Nat×Chunk):=[(le,Wx ck n.le),(ck,Wy n.now)]++OK a b c r
structure rZ(a:tZ):Prop where
 at_:dB a.n a.p
 ring:a.r.L.length<100000/\0<a.r.L.length
 key:a.w.key.size<=aq
 free:a.n.s.k.m.frozen=false
 last:a.n.t.last<1099511627776
 room:a.n.ws.length<1000/\a.n.rs.length<1000/\a.n.t.l.length<1000
 asked:0<=a.n.asked/\a.n.asked<1000000/\0<=a.n.s.bK/\a.n.s.bK<1000000
 rd:P4 a.n.s.fl
 gH:CY a.n.s.fl a.w.key a.g
 kill:a.w.op=2->dS a.w.key=true->Ab ⟨a.n.s,a.p.p,[a.w.key],1⟩
noncomputable def Ys:cD where
 α:=tZ
 β:=mW
 m:=24
 m':=31
 pre:=rZ
 args:=fun a=>[.a (.ptr 0 0 0 0),.agg (ZA a.w)]
 hp:=fun a=>KD (.ptr 21 0 0 0) .bU .bU 0 7 1 3 4 5 6 8 9 10 11 12 13 14 15 16 17 18 19 20 a.n a.p
 ro:=fun a=>Yr 1 2 21 22 23 a.n a.r
 post:=fun a b=>dB (je a.n a.r a.w a.g b.b).n b.p
 res:=fun _ _=>.l8 []
 cT:=fun a b=>KD (.ptr 21 0 0 0) (.slc 29 0 21 (je a.n a.r a.w a.g b.b).ms.length b.mc) (.slc 30 0 6 (je a.n a.r a.w a.g b.b).rs.length b.rc) 0 7 1 3 4 27 28 8 9 10 11 12 24 14 25 16 17 18 19 26 (je a.n a.r a.w a.g b.b).n b.p++[Dx 29 (je a.n a.r a.w a.g b.b).ms,OG 30 (je a.n a.r a.w a.g b.b).rs]
noncomputable def Yt:List (Nat×cD):=[(44,Rg.WB),(86,Lu),(54,OJ),(19,KA),(51,M3 (.ptr 9 0 0 0)),(88,MW),(137,MR),(89,Ua),(136,TE)]
def ZD(a:tZ):An:=.mk 0 Bool (fun s b=>s.set 18 (.a (.bool b))) (fun _ b=>b=tw a.w) (fun _ _=>0) fun _=>.mk 60 [] []
def ZE(a:tZ):An:=.mk 2 Unit (fun s _=>((s.new (.obj 40 (Cm ((od a.g a.n.now).getD fR)))).set 4 (.a (.ptr s.nx 0 0 0))).set 5 (.a (.bool (od a.g a.n.now).isSome))) (fun _ _=>True) (fun _ _=>0) fun _=>.mk 60 [] []
theorem QU{g:Option aB}{now:Int}{x:aB}(h:od g now=some x):g=some x:=by
 unfold od at h;cases g with
 |none=>cases h
 |some y =>
  simp only[Option.bind_some]at h;split at h
  ·exact h
  ·cases h
theorem US{m:nT}{k:ByteArray}{g:Option aB}{now:Int}{x:aB}(he:CY m k g)(h:od g now=some x):x.val.size<=aq:=by
 rw[QU h]at he;obtain⟨_,_,_,hm⟩:=he;unfold fU at hm;simp only[Bool.and_eq_true,decide_eq_true_eq]at hm;exact Nat.le_trans hm.1.1.1.2 (by decide)
def bC(x:tZ)(y:mW):dm:=je x.n x.r x.w x.g y.b
def vg(x y:th)(z u:Prop):=x.aT=y.aT/\x.end_=y.end_/\x.top=y.top/\z/\u
def kZ(x y:List gX):=aL (cE x) (cE y) 5 (af fN y) (af fN x)
def tA(x y:cF):=aL x.ws.length y.ws.length 7 (af iI y.ws) (af iI x.ws)
def tN(y:Nat)(z:fT)(x u:cF)(v:List gX)(w:Prop):=iH y z.mb/\tA x u/\kZ x.rs v/\w
def OM(y:dm)(x:l6)(z:Prop):=mO y.ms (rE x)/\aL y.rs.length (tq x) 6 (af oT (vf x.w x.err x.val x.has)) (af oT y.rs)/\ax (ag z)
def pq(x y:fT)(z u:cF)(v:Prop):=x.p.H=y.p.H/\e8 x.mb z.t=e8 y.mb u.t/\v
def Iw(x:tZ)(y:Prop):=rW x.w (pq x.p x.p x.n x.n (tu x.n x.p (aG x.n.t.last) (tN x.p.mb x.p x.n x.n x.n.rs (vc x.n (pK x.r x.r (0=0) (ax (ry x.n.s x.n.s x.p.p x.p.p y)))))))
def Iy(y:tZ):CZ->Prop:=fun(z:CZ)=>ag (y.w.key=z.key/\y.n.now=z.now/\oc y.n.s.cL z.m y.p.p.cy z.p y.n.s.d y.p.p.x y.p.p.xc (y.p.p.H=z.p.H) (xu z.m z.p z.key z.r/\aI (ay ((od z.r z.now).isSome=(od y.g y.n.now).isSome/\ax (ag (rW y.w (qf (jm (od z.r z.now)) (jm (od y.g y.n.now)) (Iw y (rW y.w (True/\True))))))))))
def Ni(z:l6)(y:tZ)(x:mW)(u:Nat×Nat)(v:jq)(w:Nat)(f:lu)(g:sZ):=mR z.n (dm.n (bC y x)) z.p x.p (ag (bG (rE z)=bG (dm.ms (bC y x))/\u.fst=x.mc)) (ag (tq z=(dm.rs (bC y x)).length/\u.snd=x.rc)/\v.last=(dm.n (bC y x)).t.last/\tN w x.p (dm.n (bC y x)) y.n y.n.rs (OM (bC y x) z (ry f (dm.n (bC y x)).s g x.p.p (dB (dm.n (bC y x)) x.p/\True))))
def DL(y:ou)(z:Int)(u:ByteArray)(v:Bool)(s:l6->Prop):=∃x:l6,ag (y.node=x.w.node/\y.id=x.w.id/\y.op=x.w.op/\y.key=x.w.key/\z=x.err/\u=x.val/\v=x.has/\s x)
def Iz(x:tZ)(u:Int)(v:ByteArray)(f:Bool):=DL x.w u v f fun y=>mR x.n y.n x.p y.p (xI y) (∀g:Nat×Nat,True->∃z:mW,pq x.p z.p x.n (dm.n (bC x z)) (Ni y x z g x.n.t x.p.mb x.n.s x.p.p))
def nO(y x z:cF)(u:Prop):=vg y.le x.le (z.now=x.now) u
def Al(z:cF)(x:yH)(u y:cF)(v:Rg.ew)(w:Prop):=nO z x.n u (ax (dY (y.s.bK=x.n.s.bK) (sY y.s.k.m x.n.s.k.m (pK v x.r (rC x.r (bA x.key<=aq/\x.n.s.k.m.frozen=false)) (aI w)))))
def mT(x y:cF)(z u:fT)(v:Prop):=ax (ag (ry x.s y.s z.p u.p v))
def tB(x:cF)(y:jq)(z:fT)(u:Nat)(v w s:Prop):=x.t.last=y.last/\iH z.mb u/\e8 z.mb x.t=e8 u y/\v/\w/\s
def Nj(y:tZ)(x:mW)(z:jq)(u:Nat)(v w s:Prop):=(0=(dm.rs (bC y x)).length/\0=x.rc)/\z.last=(dm.n (bC y x)).t.last/\iH u x.p.mb/\v/\w/\s/\(dm.rs (bC y x)).length=0/\mT y.n (dm.n (bC y x)) y.p x.p (dB (dm.n (bC y x)) x.p/\True)
theorem WD:fnBody (Y Tryz.prog) Yt 48 Ys fun a=>[(48,[],[ZD a]),(90,[],[ZE a])]:=fnBody.of (p :=
 ∀x:tZ,rZ x->∃f:Rg.Nc,ag (x.w.key=f.key/\pK x.r f.r (rC f.r (bA f.key<=aq)) (aI ((ah x.w.op->wq (x.w.op != (1:Int)) x.w.op (x.w.op != (2:Int)) (∃j:Bool,true=j/\aG (rB f)/\ax (rW x.w (Iw x (j=tw x.w/\True)))) (∃j:ByteArray,x.w.key=j/\cO (∃o:Bool,bx (dS j)=o/\aG (rB f)/\ax (rW x.w (Iw x (o=tw x.w/\True))))))/\∀c:Bool,c=tw x.w->aO c (Iz x 1 dc false) (ah x.n.id->aO (rB f != x.n.id) (ah x.n.asked->ah (x.n.asked+(1:Int))/\(ah (x.n.asked+(1:Int))->ah x.n.s.bK->nB (x.n.s.bK*(1048576:Int)) (x.n.asked+(1:Int)) (ah x.n.now->gu x.n.ws.length 64 x.p.wc fun m=>ah x.w.op->∃z:mV,ag (ag (1=bG z.l/\1=z.lc)/\ax (x.n.id=z.n.id/\ax (jd (ag (x.n.ws.length+1=z.n.ws.length/\m=z.p.wc)) x.n.rs z.n x.p.rc z.p (x.n.asked+(1:Int)) (0=bG z.q/\0=z.qc) (Il z 13 (rB f) x.n 0 0 (x.n.s.bK*(1048576:Int)+(x.n.asked+(1:Int))) x.w.op x.w.key fun d=>∃u:mW,pq x.p u.p x.n (dm.n (bC x u)) (mR z.n (dm.n (bC x u)) z.p u.p (ag (bG (z.to (bG z.l))=bG (dm.ms (bC x u))/\d=u.mc)) (Nj x u x.n.t x.p.mb (iJ (dm.n (bC x u)).ws.length x.n.ws.length 7 (af iI x.n.ws) (D8 .i64 x.w.node x.w.id x.w.op (bE x.w.key) (x.n.s.bK*(1048576:Int)+(x.n.asked+(1:Int))) (rB f) x.n.now []) (af iI (dm.n (bC x u)).ws)) (kZ (dm.n (bC x u)).rs x.n.rs) (mO (dm.ms (bC x u)) (z.to (bG z.l)))))))))))) (∃h:yH,ag (x.w.key=h.key /\
 mR x.n h.n x.p h.p (0=0) (Al x.n h x.n x.n x.r (aO (bx (fB h.n h.r h.key)) (Iz x 6 dc false) (ah x.w.op->aO (x.w.op == (2:Int)) (∃y:Dt,ag (ag (1=aU y.ks/\1=y.cap)/\tB x.n y.t x.p y.mb (x.p.p.H=y.H) (aL (aU y.ks) 1 1 (aN 1 (bH (bE x.w.key))) (af kj y.ks)) ((gn y.H y.t/\aU y.ks<100000/\y.t.l.length<100000)/\∀i:PH×Int,(xE i y.t (hasB y.ks) fun m=>y.H m)->∃v:wu,ag (ag (1=aU v.ks/\1=v.kc)/\ax (ag (ry x.n.s v.s x.p.p v.p (i.fst=v.p.H/\aL (aU v.ks) 1 1 (aN 1 (bH (bE x.w.key))) (af kj v.ks)/\(oS v.s v.p/\Ab v)/\∀z:sZ,Ac v z->DL x.w (gT (fu v.ks)) dc false fun u=>mR x.n u.n x.p u.p (xI u) (∀e:Nat×Nat,True->∃k:mW,z.H=k.p.p.H/\e8 y.mb (fS y.t (hasB y.ks))=e8 k.p.mb (dm.n (bC x k)).t/\Ni u x k e (fS y.t (hasB y.ks)) y.mb (jS v.s v.ks) z)))))))) (((ah x.n.now->Exists (Iy x)/\Exists (Iy x))/\(ah x.n.now->Exists (Iy x)))/\aI (aO (od x.g x.n.now).isSome (Iz x 0 (aB.val (jm (od x.g x.n.now))) true) (∃y:Dq,ag (x.w.key=y.key/\tB x.n y.t x.p y.mb (x.p.p.H=y.H) (gn y.H y.t/\y.t.last<(1099511627776:Int)/\bA y.key<=aq) (∀i:Nat,y.H i=none->gu (cE x.n.rs) 48 x.p.rc fun v=>∃z:mW,aM y.H i 0 (bM (bE y.key) qe)=z.p.p.H/\e8 y.mb (pg y.t y.key i)=e8 z.p.mb (dm.n (bC x z)).t /\
 ax (x.n.id=(dm.n (bC x z)).id/\ax (ig (bB false) nk (ov x.n.ws (dm.n (bC x z)) x.p.wc z.p/\ag (cE x.n.rs+1=cE (dm.n (bC x z)).rs/\v=z.p.rc)/\x.n.asked=(dm.n (bC x z)).asked/\(0=bG (dm.ms (bC x z))/\0=z.mc)/\Nj x z (pg y.t y.key i) y.mb (tA (dm.n (bC x z)) x.n) (iJ (cE (dm.n (bC x z)).rs) (cE x.n.rs) 5 (af fN x.n.rs) (bu x.w.node (bu x.w.id (bu x.w.op (dZ x.w.key (y.t.last+(1:Int)) [])))) (af fN (dm.n (bC x z)).rs)) (bG (dm.ms (bC x z))=0))))))))))))))))))) (by kernel_rfl) (by
 delta aO oU pK D8 av cz aL ah bC e8 bu bW aG iH gF bB aU vg nk cE bH aD dO dQ ig kP dY bM cM ov ot pn tN cn wq dc qf OM aI rW bG bA mR oc pq dJ iJ gu bE Iy Iz mO sY gd Iw kZ ay gT Al fZ jd ag Ac Ni DL vc nB Il rB rE tq mT jm cW qe tA tu tB ax dZ xu gQ bx rC xE cO oZ Nj xI nO dX Dy jF
 try dsimp -iota -proj only
 rintro⟨n,p,r,w,g⟩ ok;obtain⟨hat,⟨r1,r2⟩,hkey,hfr,hlast,⟨m1,m2,m3⟩,⟨s1,s2,s3,s4⟩,hrd,hent,hkil⟩:=ok;dsimp only at *;refine⟨Rg.Nc.mk r w.key,?_⟩
 and_intros<;>first|exact cc|exact r1|exact r2|exact hkey|(intro h_;revert h_)|exact cm|skip
 intro _ _;dsimp only;have e0:Rg.xH r.L (Rg.fF (fun _=>w.key) 1)=tv r w.key:=rfl;rw[e0];refine⟨fun _=>⟨fun c1 _=>⟨fun c2=>⟨true,?_⟩,fun c2=>⟨w.key,rfl,trivial,fun _ _=>⟨!dS w.key,?_⟩⟩⟩,fun c1=>⟨w.key,rfl,trivial,fun _ _=>⟨!dS w.key,?_⟩⟩⟩,fun b hb=>⟨fun hbt=>?_,fun hbf _=>?_⟩⟩
 ·have hw:true=tw w:=by
   have h1:¬w.op=1:=by simpa using c1
   have h2:¬w.op=2:=by simpa using c2
   simp[tw,h1,h2]
  and_intros<;>first|exact cc|exact hw|(intro h_;revert h_)|exact cm|skip
 ·have hw:(!dS w.key)=tw w:=by
   have h2:w.op=2:=by simpa using c2
   simp[tw,h2]
  and_intros<;>first|exact cc|exact hw|(intro h_;revert h_)|exact cm|skip
 ·have hw:(!dS w.key)=tw w:=by
   have h2:w.op=1:=by simpa using c1
   simp[tw,h2]
  and_intros<;>first|exact cc|exact hw|(intro h_;revert h_)|exact cm|skip
 ·have eN:∀b,je n r w g b=mS n w 1 va false:=fun b=>if_pos (hb.symm.trans hbt);have hv:va.size<=aq:=by decide
  refine⟨l6.mk n p w 1 va false,?_⟩
  and_intros<;>first|exact cc|exact hkey|exact hv|(intro h_;revert h_)|exact cm|skip
  rintro⟨mc,rc⟩ _;refine⟨mW.mk p 0 mc rc,?_⟩;dsimp only;rw[eN];dsimp only[mS]
  and_intros<;>first|exact cc|exact hat|(intro h_;revert h_)|exact cm|skip
 have hbad:tw w=false:=hb.symm.trans hbf;have hn0:¬tw w=true:=by rw[hbad];decide
 refine⟨fun c1 _=>⟨by simp only[bL];omega,fun _ _=>⟨by simp only[bL];omega,by simp only[bL];omega,fun _=>⟨by omega,by omega,by omega,fun cap hcap _ _ _=>?_⟩⟩⟩,fun c1=>?_⟩
 ·have hne:tv r w.key≠n.id:=by simpa using c1
  have eN:∀b,je n r w g b=⟨A0 n r w,[DK n r w],[]⟩:=fun b=>by unfold je;rw[if_neg hn0,if_pos hne]
  have hr:aj 1 21 (aN 21 (e9 { DK n r w with ow:=0 })) (af e9 [{ DK n r w with ow:=0 }]):=.dW fun i hi=>by
   have:i=0:=by omega
   subst this;rfl
  have k0:(0:Nat)<1000:=by omega
  have k1:(1:Nat)<1000:=by omega
  have hl:n.ws.length+1=(A0 n r w).ws.length:=by simp[A0]
  refine⟨mV.mk (A0 n r w) { p with wc:=cap } [] 0 [{ DK n r w with ow:=0 }] 1,?_⟩
  and_intros<;>first|exact cc|exact hr|exact k1|exact k0|exact hl|(intro h_;revert h_)|exact cm|skip
  intro b _;refine⟨mW.mk { p with wc:=cap } 0 b 0,?_⟩;have hN:dB (A0 n r w) { p with wc:=cap }:=⟨hat.st,hat.tok,hat.sep,by simp only[A0,List.length_append,List.length_singleton];exact hcap,hat.rc⟩
  have hp:aj (n.ws++[KC n r w]).length 7 (aZ (af iI n.ws) 0 n.ws.length fun i j=>aN 7 (iI (KC n r w)) (0+i) j) (af iI (n.ws++[KC n r w])):=.push rfl (by simp) rfl;have hl2:(n.ws++[KC n r w]).length<=n.ws.length+1:=by simp
  dsimp only;rw[eN];dsimp only[A0]
  and_intros<;>first|exact cc|exact hN|exact hp|exact hl2|(intro h_;revert h_)|exact cm|skip
 have how:tv r w.key=n.id:=by simpa using c1
 have hn1:¬tv r w.key≠n.id:=fun h=>h how;refine⟨yH.mk n p r w.key,?_⟩
 and_intros<;>first|exact cc|exact r1|exact r2|exact hkey|exact hfr|(intro h_;revert h_)|exact cm|skip
 intro _ _;dsimp only;refine⟨fun c2=>?_,fun c2 _=>?_⟩
 ·have hsv:fB n r w.key=false:=by simpa using c2
  have eN:∀b,je n r w g b=mS n w 6 va false:=fun b=>by unfold je;rw[if_neg hn0,if_neg hn1,if_pos hsv]
  have hv:va.size<=aq:=by decide
  refine⟨l6.mk n p w 6 va false,?_⟩
  and_intros<;>first|exact cc|exact hkey|exact hv|(intro h_;revert h_)|exact cm|skip
  rintro⟨mc,rc⟩ _;refine⟨mW.mk p 0 mc rc,?_⟩;dsimp only;rw[eN];dsimp only[mS]
  and_intros<;>first|exact cc|exact hat|(intro h_;revert h_)|exact cm|skip
 have hn2:¬fB n r w.key=false:=by
  have:fB n r w.key=true:=by simpa using c2
  rw[this];decide
 refine⟨fun c3=>?_,fun c3=>?_⟩
 ·have hop:w.op=2:=by simpa using c3
  have hkB:dS w.key=true:=by
   revert hbad;unfold tw;cases dS w.key<;>simp
  have hall:fu [w.key]=true:=by simp[fu,hkB]
  have eN:∀b,je n r w g b=mS (lB n w.key) w 0 va false:=fun b=>by unfold je;rw[if_neg hn0,if_neg hn1,if_neg hn2,if_pos hop]
  have hr:aj 1 1 (aN 1 [Value.string w.key]) (af kj [w.key]):=.dW fun i hi=>by
   have:i=0:=by omega
   subst this;rfl
  have hv:va.size<=aq:=by decide
  have k1:(1:Nat)<100000:=by omega
  have k2:n.t.l.length<100000:=by omega
  refine⟨Dt.mk p.mb n.t p.p.H [w.key] 1,?_⟩
  and_intros<;>first|exact cc|exact hr|exact k1|exact k2|exact hat.tok|(intro h_;revert h_)|exact cm|skip
  rintro⟨H1,cnt⟩ ⟨ht1,ht2⟩;have hat1:=hat.W4 ht1 ht2;have hkil:=hkil hop hkB;have hkil1:Ab ⟨n.s,{ p.p with H:=H1 },[w.key],1⟩:=⟨hkil.n,hkil.jr,hkil.fl⟩
  have hst1:oS n.s { p.p with H:=H1 }:=hat1.st;refine⟨wu.mk n.s { p.p with H:=H1 } [w.key] 1,?_⟩
  and_intros<;>first|exact cc|exact hr|exact hkil1|exact hst1|(intro h_;revert h_)|exact cm|skip
  rintro b ⟨q1,q2⟩;have hat2:dB (lB n w.key) { p with p:=b }:=hat1.store q1 q2;have he:(if fu [w.key]=true then(0:Int)else 1)=0:=if_pos hall;refine⟨l6.mk n p w 0 va false,?_⟩
  and_intros<;>first|exact cc|exact hkey|exact hv|exact he|(intro h_;revert h_)|exact cm|skip
  rintro⟨mc,rc⟩ _;refine⟨mW.mk { p with p:=b } 0 mc rc,?_⟩;dsimp only;rw[eN];dsimp only[mS,lB];have hat2:dB { n with t:=fS n.t (hasB [w.key]),s:=jS n.s [w.key] } { p with p:=b }:=hat2
  and_intros<;>first|exact cc|exact hat2|(intro h_;revert h_)|exact cm|skip
 ·have hop:¬w.op=2:=by simpa using c3
  refine⟨?_,fun _ _=>⟨fun c4=>?_,fun c4=>?_⟩⟩
  ·have hG:jg n.s.fl p.p.fl:=hat.st.fl;refine⟨fun _=>⟨⟨CZ.mk n.s.fl p.p.fl w.key n.now g,?_⟩,⟨CZ.mk n.s.fl p.p.fl w.key n.now g,?_⟩⟩,fun _=>⟨CZ.mk n.s.fl p.p.fl w.key n.now g,?_⟩⟩ <;>
   ·and_intros<;>first|exact cc|exact hG|exact hrd|exact hent|exact hkey|(intro h_;revert h_)|exact cm|skip
    intro _ _;refine⟨(),?_⟩
    and_intros<;>first|exact cc|(intro h_;revert h_)|exact cm|skip
  ·obtain⟨x,hx⟩:=Option.isSome_iff_exists.1 c4;have eN:∀b,je n r w g b=mS n w 0 x.val true:=fun b=>by unfold je;rw[if_neg hn0,if_neg hn1,if_neg hn2,if_neg hop,hx]
   have hv:x.val.size<=aq:=US hent hx;rw[hx];refine⟨l6.mk n p w 0 x.val true,?_⟩
   and_intros<;>first|exact cc|exact hkey|exact hv|(intro h_;revert h_)|exact cm|skip
   rintro⟨mc,rc⟩ _;refine⟨mW.mk p 0 mc rc,?_⟩;dsimp only;rw[eN];dsimp only[mS]
   and_intros<;>first|exact cc|exact hat|(intro h_;revert h_)|exact cm|skip
  ·have hx:od g n.now=none:=by simpa using c4
   have eN:∀b,je n r w g b=⟨jT n w b,[],[]⟩:=fun b=>by unfold je;rw[if_neg hn0,if_neg hn1,if_neg hn2,if_neg hop,hx]
   refine⟨Dq.mk p.mb n.t p.p.H w.key,?_⟩
   and_intros<;>first|exact cc|exact hat.tok|exact hlast|exact hkey|(intro h_;revert h_)|exact cm|skip
   intro b hb;have hat1:=hat.Yi hb hkey hlast;refine⟨by omega,by omega,by omega,fun cap hcap _ _=>⟨mW.mk { p with p:={ p.p with H:=aM p.p.H b 0 [.string w.key,.bool true] },rc:=cap } b 0 0,?_⟩⟩;have hN:dB (jT n w b) { p with p:={ p.p with H:=aM p.p.H b 0 [.string w.key,.bool true] },rc:=cap }:=⟨hat1.st,hat1.tok,hat1.sep,hat.wc,by simp only[jT,List.length_append,List.length_singleton];exact hcap⟩
   have hp:aj (n.rs++[(⟨w,n.t.last+1⟩:gX)]).length 5 (aZ (af fN n.rs) 0 n.rs.length fun i j=>aN 5 (fN ⟨w,n.t.last+1⟩) (0+i) j) (af fN (n.rs++[⟨w,n.t.last+1⟩])):=.push rfl (by simp) rfl;have hl2:(n.rs++[(⟨w,n.t.last+1⟩:gX)]).length<=n.rs.length+1:=by simp
   have hl3:n.rs.length+1=(n.rs++[(⟨w,n.t.last+1⟩:gX)]).length:=by simp
   dsimp only;rw[eN];dsimp only[jT]
   and_intros<;>first|exact cc|exact hN|exact hp|exact hl2|exact hl3|(intro h_;revert h_)|exact cm|skip)
theorem WE:ak (Y Tryz.prog).G.X 48 Ys:=aV fK WD ⟨Rg.DH,yd,Kz,DJ,Kt,Qy,Qw,Uc,TG,trivial⟩
end Go.Proofs.YtfjgoonelcaggaaGreat
namespace Go.Sx
section
def IA(slot:Nat)(v:Bool)(s:S)(K:S->Prop):Prop:=match look s.fr slot with
 |.a (.bool b)=>b=v/\K (s.set slot (.a (WM v)))
 |.a .tt=>bif v then K s else False
 |.a .ff=>bif v then False else K s
 |_=>K s
theorem Fz(slot:Nat)(v:Bool):∀s K,IA slot v s K->wK s K:=by
 intro s K h w0 M ρ a w hs;unfold IA at h;split at h
 ·rename_i b hb;obtain⟨rfl,h⟩:=h;have hr:=hs.frame slot;rw[hb]at hr;refine⟨_,ρ,h,Env.le.refl ρ,hs.VG ?_⟩;have hr:a.tmps.getD slot undef = .bool b:=hr;rw[hr];exact r7 b ρ
 ·cases v
  ·exact h.elim
  ·exact⟨s,ρ,h,Env.le.refl ρ,hs⟩
 ·cases v
  ·exact⟨s,ρ,h,Env.le.refl ρ,hs⟩
  ·exact h.elim
 ·exact⟨s,ρ,h,Env.le.refl ρ,hs⟩
def IB:List (Nat×Bool)->S->(S->Prop)->Prop
 |[],s,K=>K s
 |e::r,s,K=>IA e.1 e.2 s fun s=>IB r s K
theorem DM:∀(l:List (Nat×Bool)) s K,IB l s K->wK s K
 |[],s,K,h=>fun w0 M ρ a w hs=>⟨s,ρ,h,Env.le.refl ρ,hs⟩
 |e::r,s,K,h=>fun w0 M ρ a w hs=>by
  obtain⟨s1,ρ1,h1,l1,g1⟩:=Fz e.1 e.2 s _ h w0 M ρ a w hs;obtain⟨s2,ρ2,h2,l2,g2⟩:=DM r s1 K h1 w0 M ρ1 a w g1;exact⟨s2,ρ2,h2,l1.trans l2,g2⟩
def Nk(slot:Nat)(n:Int)(s:S)(K:S->Prop):Prop:=match look s.fr slot with
 |.a (.int k m)=>m=n/\K (s.set slot (.a (.lit k n)))
 |_=>K s
theorem QV(slot:Nat)(n:Int):∀s K,Nk slot n s K->wK s K:=by
 intro s K h w0 M ρ a w hs;unfold Nk at h;split at h
 ·rename_i k m hb;obtain⟨rfl,h⟩:=h;have hr:=hs.frame slot;rw[hb]at hr;exact⟨_,ρ,h,Env.le.refl ρ,hs.VG hr⟩
 ·exact⟨s,ρ,h,Env.le.refl ρ,hs⟩
def An.WG(key slot:Nat)(v:Bool)(next:LH):An:=.view key (IA slot v) (Fz slot v) next
def An.Yu(key:Nat)(l:List (Nat×Bool))(next:LH):An:=.view key (IB l) (DM l) next
def An.YJ(key slot:Nat)(n:Int)(next:LH):An:=.view key (Nk slot n) (QV slot n) next
end
end Go.Sx
namespace Go.Proofs.YtfjgoonelcaggaaGreat
open Go.Sx
noncomputable def IC:cD where
 α:=tZ
 β:=mW
 m:=24
 m':=31
 pre:=fun a=>rZ a/\a.w.node=0
 args:=fun a=>[.a (.ptr 0 0 0 0),.a (.int .i64 a.w.id),.a (.int .i64 a.w.op),.a (.str a.w.key)]
 hp:=fun a=>KD (.ptr 21 0 0 0) .bU .bU 0 7 1 3 4 5 6 8 9 10 11 12 13 14 15 16 17 18 19 20 a.n a.p
 ro:=fun a=>Yr 1 2 21 22 23 a.n a.r
 post:=fun a b=>dB (je a.n a.r a.w a.g b.b).n b.p
 res:=fun a b=>.agg [.slc 29 0 21 (je a.n a.r a.w a.g b.b).ms.length b.mc,.slc 30 0 6 (je a.n a.r a.w a.g b.b).rs.length b.rc]
 cT:=fun a b=>KD (.ptr 21 0 0 0) .bU .bU 0 7 1 3 4 27 28 8 9 10 11 12 24 14 25 16 17 18 19 26 (je a.n a.r a.w a.g b.b).n b.p++[Dx 29 (je a.n a.r a.w a.g b.b).ms,OG 30 (je a.n a.r a.w a.g b.b).rs]
def xJ(x y:cF)(z u:fT)(v:Prop):=mR x y z u (x.t.last=y.t.last) (tN z.mb u y x x.rs v)
theorem QW:fnBody (Y Tryz.prog) [(48,Ys)] 13 IC fun _=>[]:=fnBody.of (p :=
 ∀x:tZ,rZ x/\x.w.node=(0:Int)->∃y:tZ,ag ((0:Int)=y.w.node/\x.w.id=y.w.id/\x.w.op=y.w.op/\x.w.key=y.w.key/\pq x.p y.p x.n y.n (xJ x.n y.n x.p y.p (HR x.n.s y.n.s x.p.p y.p.p x.n.s.d x.n.s.ms x.p.p.jc x.n.s.jL x.p.p.jy (0=0) (nO x.n y.n x.n (pK x.r y.r (rZ y) (∀z:mW,dB (dm.n (bC y z)) z.p->∃u:mW,ag (bG (dm.ms (bC y z))=bG (dm.ms (bC x u))/\z.mc=u.mc)/\ag ((dm.rs (bC y z)).length=(dm.rs (bC x u)).length/\z.rc=u.rc)/\pq z.p u.p (dm.n (bC y z)) (dm.n (bC x u)) (mO (dm.ms (bC x u)) (dm.ms (bC y z))/\aL (dm.rs (bC x u)).length (dm.rs (bC y z)).length 6 (af oT (dm.rs (bC y z))) (af oT (dm.rs (bC x u)))/\mT (dm.n (bC y z)) (dm.n (bC x u)) z.p u.p (xJ (dm.n (bC y z)) (dm.n (bC x u)) z.p u.p (dB (dm.n (bC x u)) u.p/\True)))))))))) (by kernel_rfl) (by
 delta oU pK av aL bC e8 bW iH bB vg nk cE dQ ig cM ov ot pn tN cn bG mR pq dJ mO kZ jd HR ag mT cW xJ tA ax gQ oZ nO
 try dsimp -iota -proj only
 rintro a ⟨ok,hw⟩;obtain⟨n,p,r,⟨nd,id,op,key⟩,g⟩:=a;have hw:nd=0:=hw;subst hw;refine⟨⟨n,p,r,⟨0,id,op,key⟩,g⟩,?_⟩
 and_intros<;>first|exact cc|exact ok|(intro h_;revert h_)|exact cm|skip
 intro b hb;refine⟨b,?_⟩
 and_intros<;>first|exact cc|exact hb|(intro h_;revert h_)|exact cm|skip)
theorem FA:ak (Y Tryz.prog).G.X 13 IC:=aV fK QW ⟨WE,trivial⟩
def xK(now:Int)(l:th)(sent ep:Int):Bool:=decide (ep<1)||decide (ep<l.top)||decide (sent<0)||decide (now<sent)||decide (20<=now-sent)
def qO(now:Int)(l:th)(sent ep:Int):th:=if xK now l sent ep=true then l else if ep=l.aT/\sent+20<=l.end_ then l else⟨ep,sent+20,ep⟩
structure FB where
 l:th
 now:Int
 sent:Int
 ep:Int
noncomputable def Nl:cD where
 α:=FB
 β:=Unit
 m:=2
 m':=2
 pre:=fun a=>a.now<1000000000000000
 args:=fun a=>[.a (.ptr 0 0 0 0),.a (.int .i64 a.sent),.a (.int .i64 a.ep)]
 hp:=fun a=>[(0,Wx 1 a.l)]
 ro:=fun a=>[(1,Wy a.now)]
 post:=fun _ _=>True
 res:=fun _ _=>.a .any
 cT:=fun a _=>[(0,Wx 1 (qO a.now a.l a.sent a.ep))]
def Am(x:FB):=ay (ag (vg x.l (qO x.now x.l x.sent x.ep) True True))
def ID(x:FB):=ah (x.sent+(20:Int))/\(ah x.l.aT->wq (x.ep == x.l.aT) x.l.end_ (cR (x.sent+(20:Int)) x.l.end_) (Am x) (ay (Fs x.ep (qO x.now x.l x.sent x.ep) (x.sent+(20:Int)) x.ep True True)))
theorem QX:fnBody (Y Tryz.prog) [] 99 Nl fun _=>[]:=fnBody.of (p :=
 ∀x:FB,x.now<(1000000000000000:Int)->aA x.ep 1 (Am x) (ah x.l.top->gC (aQ x.ep x.l.top) (Am x) (aQ x.sent 0) (ah x.now->aA x.now x.sent (Am x) (aA x.sent 0 (ID x) (ah x.now->aA x.now x.sent (ID x) (nC x.now x.sent (aO (cR 20 (x.now-x.sent)) (Am x) (ID x)))))))) (by kernel_rfl) (by
 delta aO ah aQ vg aD Fs wq gC ID ay cR ag aA Am nC
 rintro⟨l,now,sent,ep⟩ h;have h:now<1000000000000000:=h;dsimp only;have no:xK now l sent ep=true->qO now l sent ep=l:=fun e=>if_pos e;have yes:xK now l sent ep=false->ep=l.aT->sent+20<=l.end_->qO now l sent ep=l:=fun e h1 h2=>by unfold qO;rw[if_neg (by rw[e];decide),if_pos ⟨h1,h2⟩]
 have new:xK now l sent ep=false->¬(ep=l.aT/\sent+20<=l.end_)->qO now l sent ep=⟨ep,sent+20,ep⟩:=fun e h1=>by unfold qO;rw[if_neg (by rw[e];decide),if_neg h1]
 unfold xK at no yes new;simp only[Bool.or_eq_true,Bool.or_eq_false_iff,decide_eq_true_eq,decide_eq_false_iff_not,beq_iff_eq,beq_eq_false_iff_ne]at *;refine⟨fun c1=>⟨(),?_⟩,fun c1 _=>⟨fun c2=>⟨(),?_⟩,fun c2=>⟨fun c3=>⟨(),?_⟩,fun c3 _=>⟨fun c4=>⟨(),?_⟩,fun c4=>⟨fun c5=>absurd c5 c3,fun _ _=>⟨fun c6=>absurd c6 c4,fun _ _=>⟨by simp only[bL];omega,fun c7=>⟨(),?_⟩,fun c7=>⟨by simp only[bL];omega,fun _=>⟨fun c8 _=>⟨fun c9=>⟨(),?_⟩,fun c9=>⟨(),?_⟩⟩,fun c8=>⟨(),?_⟩⟩⟩⟩⟩⟩⟩⟩⟩⟩
 ·rw[no (by omega)];simp
 ·rw[no (by omega)];simp
 ·rw[no (by omega)];simp
 ·rw[no (by omega)];simp
 ·rw[no (by omega)];simp
 ·rw[yes ⟨⟨⟨⟨c1,c2⟩,c3⟩,c4⟩,c7⟩ c8 c9];simp
 ·rw[new ⟨⟨⟨⟨c1,c2⟩,c3⟩,c4⟩,c7⟩ fun h=>c9 h.2];simp
 ·rw[new ⟨⟨⟨⟨c1,c2⟩,c3⟩,c4⟩,c7⟩ fun h=>c8 h.1];simp)
theorem QY:ak (Y Tryz.prog).G.X 99 Nl:=aV fK QX trivial
def UT:LH:=.mk 60 [] []
def IE(n:cF)(ow ep tick:Int):qw:=⟨2,ow,n.id,ep,tick,0,0,0,0,va,0,false,fR,0⟩
def aa8(k:Int)(ow to ep tick id op:A)(key:ByteArray)(mem:A):List A:=[.lit .i64 k,ow,to,ep,tick,.lit .i64 0,.lit .i64 0,id,op,.str key,.lit .i64 0,.ff,.str va,.str va,.lit .i64 0,.ff,.bU,.bU,mem,.lit .i64 0,.bU]
theorem UU{α:Type}[Inhabited α]{l:List α}{i j:Nat}:gl (l.eraseIdx i) j=if j<i then gl l j else gl l (j+1):=by
 simp only[gl,List.getD,List.getElem?_eraseIdx];split<;>rfl
structure vh where
 l:List gX
 cap:Nat
 k:Nat
noncomputable def UW:cD where
 α:=vh
 β:=Nat
 m:=1
 m':=2
 pre:=fun a=>a.l.length<2000/\a.l.length<=a.cap/\a.k<a.l.length
 args:=fun a=>[.a (.slc 0 0 5 a.l.length a.cap),.a (.int .i64 a.k),.a (.int .i64 (a.k+1))]
 hp:=fun a=>[(0,.arr 134 Ae a.l.length (af fN a.l))]
 ro:=fun _=>[]
 post:=fun a cap=>(a.l.eraseIdx a.k).length<=cap
 res:=fun a cap=>.a (.slc 1 0 5 (a.l.eraseIdx a.k).length cap)
 cT:=fun a _=>[(1,.arr 134 Ae (a.l.eraseIdx a.k).length (af fN (a.l.eraseIdx a.k)))]
def lV(x:vh):List gX:=x.l.eraseIdx x.k
def Ao(x:vh):Nat:=cE x.l-aX (aY x.k)
theorem UX:fnBody (Y Tryz.prog) [] 71 UW fun _=>[]:=fnBody.of (p :=
 ∀x:vh,cE x.l<2000/\cE x.l<=x.cap/\x.k<cE x.l->lP (cE x.l) x.cap/\wQ (aY x.k) (az (cE x.l)) (aa x.k) (aO (aa x.k == aY x.k) (∃y:Nat,ag (cE x.l=cE (lV x)/\x.cap=y)/\kZ (lV x) x.l/\cE (lV x)<=y/\True) (lP x.k x.cap/\cI (aY x.k) (aa (cE x.l))/\0+(az x.k-0)<=cE x.l/\0+aX (aY x.k)+Ao x<=cE x.l/\gF (az x.k-0) (Ao x) 48 (x.cap-0) fun y=>lP (cE x.l) y/\lP (az x.k-0+Ao x) (az (cE x.l))/\∃z:Nat,iu (az x.k-0+Ao x) (cE (lV x)) y z 5 (fun u=>zn (az x.k-0+Ao x) u (az (cE x.l)) (bu 0 (bu 0 (bu 0 (dZ dc 0 [])))) fun v=>aZ (af fN x.l) 0 (az x.k-0) (fun w s=>af fN x.l (0+aX (aY x.k)+w) s) u v) (af fN (lV x)) (cE (lV x)<=z) True))) (by kernel_rfl) (by
 delta aO aS aL bu az gF aY aa cI cE aD dO aX bM dc bE kZ iu lV ag zn dZ wQ lP Ao
 try dsimp -iota -proj only
 rintro⟨l,cap,k⟩ ⟨h1,h2,h3⟩;dsimp only at *;have el:(l.eraseIdx k).length=l.length-1:=by rw[List.length_eraseIdx];simp[h3]
 have e1:((k:Int)+1).toNat=k+1:=by omega
 have e2:k+(l.length-(k+1))=l.length-1:=by omega
 simp only[Nat.zero_add,Int.toNat_natCast,e1,el,Nat.sub_zero,e2];refine⟨by omega,by omega,by omega,fun g=>(by exfalso;simp only[beq_iff_eq]at g;omega),fun _=>⟨by omega,by omega,by omega,by omega,by omega,fun c' g1 g2 g3=>⟨by omega,by omega,c',?_⟩⟩⟩;have hr:aj (l.length-1) 5 (fun i j=>if l.length-1<=i/\i<l.length-1+(l.length-(l.length-1))then(fN default).getD j (Value.tuple #[])else aZ (af fN l) 0 k (fun i j=>af fN l (k+1+i) j) i j) (af fN (l.eraseIdx k)):=⟨fun i hi j hj=>by
  rw[if_neg (by omega)];simp only[aZ,af,UU,Nat.zero_add];by_cases h:i<k
  ·simp only[h,if_true]
  ·simp only[h,if_false];rw[show k+1+(i-k)=i+1 by omega]⟩
 (and_intros<;>first|exact vR|skip))
theorem UY:ak (Y Tryz.prog).G.X 71 UW:=aV fK UX trivial
structure mX where
 n:cF
 p:fT
 r:Rg.ew
 k:Nat
 val:ByteArray
 has:Bool
def mX.rd(a:mX):gX:=gl a.n.rs a.k
def gY(val:ByteArray)(has:Bool):ByteArray:=if has=true then val else va
def KE(n:cF)(x:gX):Bool:=match kQ n.t x.tok with|some e=>e.good|none=>false
def gp(x:gX)(val:ByteArray):aB:=⟨x.w.key,val,0,false⟩
def lC(n:cF)(r:Rg.ew)(x:gX)(val:ByteArray)(has:Bool):Bool:=KE n x&&(has&&(decide ((gY val has).size<=200)&&fB n r x.w.key))
def lD(n:cF)(r:Rg.ew)(k:Nat)(val:ByteArray)(has:Bool):cF:={ n with rs:=n.rs.eraseIdx k,t:=nM n.t (gl n.rs k).tok,s:=if lC n r (gl n.rs k) val has=true then WZ (Kg n.s (gp (gl n.rs k) (gY val has)))else n.s }
def UZ(n:cF)(r:Rg.ew)(k:Nat)(val:ByteArray)(has:Bool):dm:=mS (lD n r k val has) (gl n.rs k).w 0 (gY val has) has
def mX.q(a:mX):dm:=UZ a.n a.r a.k a.val a.has
structure FC(a:mX):Prop where
 at_:dB a.n a.p
 ring:a.r.L.length<100000/\0<a.r.L.length
 free:a.n.s.k.m.frozen=false
 k:a.k<a.n.rs.length
 room:a.n.rs.length<1000
 tok:bL .i64 a.rd.tok
 key:dS a.rd.w.key=true
 val:a.val.size<=aq
 put:(gY a.val a.has).size<=200->tV a.n.s.fl (aH (some (gp a.rd (gY a.val a.has)))).length
 dev:(gY a.val a.has).size<=200->(Kg a.n.s (gp a.rd (gY a.val a.has))).d.calls<1000000000000/\(Kg a.n.s (gp a.rd (gY a.val a.has))).d.n<100000
noncomputable def ON:cD where
 α:=mX
 β:=mW
 m:=24
 m':=31
 pre:=FC
 args:=fun a=>[.a (.ptr 0 0 0 0),.a (.int .i64 a.k),.a (.str a.val),.a (.bool a.has)]
 hp:=fun a=>KD (.ptr 21 0 0 0) .bU .bU 0 7 1 3 4 5 6 8 9 10 11 12 13 14 15 16 17 18 19 20 a.n a.p
 ro:=fun a=>Yr 1 2 21 22 23 a.n a.r
 post:=fun a b=>dB a.q.n b.p
 res:=fun a b=>.agg [.slc 29 0 21 a.q.ms.length b.mc,.slc 30 0 6 a.q.rs.length b.rc]
 cT:=fun a b=>KD (.ptr 21 0 0 0) .bU .bU 0 7 1 3 4 27 28 8 9 10 11 12 24 14 25 16 17 18 19 26 a.q.n b.p++[Dx 29 a.q.ms,OG 30 a.q.rs]
noncomputable def Yv:List (Nat×cD):=[(71,UW),(72,Up),(19,KA),(73,Ty),(169,jB),(54,OJ)]
def W6(a:mX):An:=.mk 7 Unit (fun s _=>s.set 2 (.a (.str (gY a.val a.has)))) (fun _ _=>True) (fun _ _=>0) fun _=>.mk 60 [] [.WG 8 999 true (.mk 60 [] [.mk 0 Bool (fun s b=>s.set 73 (.a (.bool b))) (fun _ b=>b=lC a.n a.r a.rd a.val a.has) (fun _ _=>0) fun _=>.mk 60 [] [.WG 0 87 true UT]])]
theorem gn.use{H:PH}{t:jq}(h:gn H t)(id:Int):gn H (nM t id):=by
 have hs:∀e∈(nM t id).l,e∈t.l:=fun e he=>(List.mem_filter.1 he).1;exact⟨fun e he=>h.at_ e (hs e he),(h.blk.sublist (List.filter_sublist.map _)),fun e he=>h.id e (hs e he),(h.ids.sublist (List.filter_sublist.map _)),(h.born.sublist (List.filter_sublist.map _)),h.last⟩
def sZ.A1(p:sZ)(b:rG):sZ:={ p with H:=b.H,cy:=b.y,x:=b.x,xc:=b.cap }
theorem oS.put{s:lu}{p:sZ}(h:oS s p){x:aB}{b:rG}(h1:jg (nI s.fl x) b)(h2:tU p.fl b):oS (WZ (Kg s x)) (p.A1 b)/\Dc p.H (br p.cy) (br p.jy) (p.A1 b):=by
 have hj:∀z∈br p.jy,b.H z=p.H z/\z∉br b.y:=fun z hz=>h2 z (h.jl.dom z hz) (h.sep z hz);exact⟨⟨⟨h1.log,h1.idx⟩,h.jl.frame fun z hz=>(hj z hz).1,fun z hz=>(hj z hz).2,h.cap⟩,fun z hz hc hjz=>⟨(h2 z hz hc).1,(h2 z hz hc).2,hjz⟩⟩
theorem dB.aa9{n:cF}{p:fT}(h:dB n p)(k:Nat){c:Nat}(hc:(n.rs.eraseIdx k).length<=c)(id:Int):dB { n with rs:=n.rs.eraseIdx k,t:=nM n.t id } { p with rc:=c } :=
 ⟨h.st,h.tok.use id,fun e he=>h.sep e ((List.mem_filter.1 he).1),h.wc,hc⟩
theorem DN{x:gX}{v:ByteArray}(hk:dS x.w.key=true)(hv:v.size<=200):jQ (gp x v)=true:=by
 simp[jQ,gp,fU,hk,hv]
def OO(y z u:Bool)(v x:Prop):=qT y z (aO u v x) x
def rF(x:mX):gX:=gl x.n.rs (0+az x.k)
def Nn(x:mX)(y:vh)(z:Nat)(u:Prop):=ax (aG x.n.id/\ax (ig (bB false) nk (bD x.n.ws.length x.p.wc/\bD (cE (lV y)) z/\u)))
def No(x:mX)(y:tM)(z:vh)(u:Nat)(v:Bool):=gY x.val x.has=gY x.val x.has/\ag (cH (ax (bh x.k/\bB x.has/\xD y=xD y/\rW (gX.w (rF x)) (aG (gX.tok (rF x))/\x.p.p.H=x.p.p.H/\Nn x z u (aG x.n.asked/\dN x.n.ws.length 7 (af iI x.n.ws)/\vc x.n (pK x.r x.r (aG (nM y.t y.id).last) (iH y.mb y.mb/\Ak (lV z)/\mT x.n x.n x.p x.p (v=lC x.n x.r x.rd x.val x.has/\True))))))))
def Np(x:mX)(v:vh)(s:Nat)(f:PH)(g:tM)(h:l6->mW->Prop):=DL (gX.w (rF x)) 0 (gY x.val x.has) x.has fun y=>ax (x.n.id=y.n.id/\ax (jd (ov x.n.ws y.n x.p.wc y.p) (lV v) y.n s y.p x.n.asked (xI y) (∀u:Nat×Nat,True->∃z:mW,ag (bG (rE y)=bG x.q.ms/\u.fst=z.mc)/\ag (tq y=x.q.rs.length/\u.snd=z.rc)/\f=z.p.p.H/\xD g=e8 z.p.mb x.q.n.t/\OM x.q y (h y z))))
def Nq(z:ByteArray)(x:mX)(y:vh)(u:Nat):=ay (z=gY x.val x.has/\ag (cH (ax (bh x.k/\bB x.has/\rW (gX.w (rF x)) (aG (gX.tok (rF x))/\pq x.p x.p x.n x.n (Nn x y u (cz x.n.asked x.n.t.last (iH x.p.mb x.p.mb) (dN x.n.ws.length 7 (af iI x.n.ws)/\vc x.n (pK x.r x.r (Ak (lV y)) (mT x.n x.n x.p x.p (True/\True)))))))))))
def IF(x:tM):Bool:=match kQ x.t x.id with|some y=>y.good|none=>false
def Nr(u:l6)(x:mX)(y:mW)(z:tM)(v:vh):=mR u.n x.q.n u.p y.p ((nM z.t z.id).last=x.q.n.t.last) (tN z.mb y.p x.q.n x.n (lV v) (dB x.q.n y.p/\True))
theorem U0:fnBody (Y Tryz.prog) Yv 25 ON fun a=>[(25,[],[.WG 0 26 false (.mk 60 [] [W6 a]),W6 a])]:=fnBody.of (p :=
 ∀y:mX,FC y->aA (aa y.k) 0 False (cR (aa (cE y.n.rs)) (aa y.k)=false/\dR y.k (cE y.n.rs) (aP y.k (∃z:vh,ag (cE y.n.rs=cE z.l/\y.p.rc=z.cap)/\bq y.k z.k/\aY y.k=aY z.k/\kZ z.l y.n.rs/\(cE z.l<2000/\cE z.l<=z.cap/\z.k<cE z.l)/\∀g:Nat,cE (lV z)<=g->aO (bx y.has) (Nq dc y z g) (Nq y.val y z g)/\aI (ah (gX.tok (rF y))->∃v:tM,ag (gX.tok (rF y)=v.id/\tB y.n v.t y.p v.mb (y.p.p.H=v.H) (gn v.H v.t/\ah v.id) (aI (OO (IF v) y.has (cR (aa (bA (gY y.val y.has))) 200) (∃f:yH,ag ((gX.w (rF y)).key=f.key/\ax (y.n.id=f.n.id/\ax (jd (ov y.n.ws f.n y.p.wc f.p) (lV z) f.n g f.p y.n.asked (0=0) (Al y.n f y.n y.n y.r (∃i:Bool,fB f.n f.r f.key=i/\bB (IF v)/\No y v z g i)))))) (∃f:Bool,fL f (bB (IF v)) (No y v z g f))/\∀f:Bool,f=lC y.n y.r y.rd y.val y.has->aO f (∃u:JY,ag ((gX.w (rF y)).key=u.x.key/\gY y.val y.has=u.x.val/\(0:Int)=u.x.e/\false=u.x.gone/\oc y.n.s.cL u.m y.p.p.cy u.p y.n.s.d y.p.p.x y.p.p.xc (y.p.p.H=u.p.H) (Hr u/\∀h:rG,jg (nI u.m u.x) h/\tU u.p h->aD (gT (jQ u.x) == (0:Int))/\kC (nI u.m u.x).d fun o=>Np y z g h.H v fun c j=>y.n.s.bK=y.q.n.s.bK/\AT (nI u.m u.x) y.q.n.s h j.p.p (gj o) y.n.s.ms y.p.p.jc y.n.s.jL y.p.p.jy y.n.s.k y.p.p.kc (Nr c y j v z)))) (Np y z g y.p.p.H v fun u h=>ry y.n.s y.q.n.s y.p.p h.p.p (Nr u y h v z)))))))))) (by kernel_rfl) (by
 delta qT aO oU pK av cz aL ah e8 bW az aG iH bB eF aQ aY aa vg nk cE bg aD aX dQ ig fL dY cM ov ot pn tN cn dN dc OM aI rW bG bA bD mR cH oc AT pq OO dJ No Np mO Nq sY ki kZ ay gT Al lV cR jd ag aA DL vc rE aP bh tq mT cW kC tA tB IF bq rF ax dR gQ bx rC oZ Ak xI Nr xD nO Nn Hr
 try dsimp -iota -proj only
 intro a ok;obtain⟨n,p,r,k,val,has⟩:=a;obtain⟨hat,⟨r1,r2⟩,hfr,hk,hroom,htok,hkey,hval,hput,hdev⟩:=ok;obtain⟨x,hx⟩:∃x,x=gl n.rs k:=⟨_,rfl⟩
 have hrd:∀p r val has,mX.rd ⟨n,p,r,k,val,has⟩=x:=fun _ _ _ _=>hx.symm;simp only[hrd]at htok hkey hput hdev ⊢;have hz:0+((k:Nat):Int).toNat=k:=by omega
 have hkl:x.w.key.size<=aq:=by have:=(og hkey).2;unfold aq;omega
 dsimp only at *;rw[hz,<- hx];have hv:(gY val has).size<=aq:=by
  unfold gY;cases has
  ·exact Nat.zero_le _
  ·exact hval
 refine⟨fun c=>(by exfalso;have:=of_decide_eq_true c;omega),fun _=>⟨decide_eq_false (by omega),by omega,hk,by simp only[bL];omega,vh.mk n.rs p.rc k,?_⟩⟩;have h2000:n.rs.length<2000:=by omega
 have hrc:=hat.rc
 and_intros<;>first|exact cc|exact h2000|exact hrc|exact hk|(intro h_;revert h_)|exact cm|skip
 intro c hc;dsimp only at hc ⊢;have hat1:=hat.aa9 k hc x.tok;refine⟨⟨fun e=>⟨(),?_⟩,fun e=>⟨(),?_⟩⟩,fun _ _ _=>⟨tM.mk p.mb n.t p.p.H x.tok,?_⟩⟩
 ·have e:has=false:=by simpa using e
  have ev:ByteArray.mk #[]=gY val has:=by rw[e];rfl
  and_intros<;>first|exact cc|exact ev|(intro h_;revert h_)|exact cm|skip
 ·have e:has=true:=by simpa using e
  have ev:val=gY val has:=by rw[e];rfl
  and_intros<;>first|exact cc|exact ev|(intro h_;revert h_)|exact cm|skip
 and_intros<;>first|exact cc|exact hat.tok|exact htok.1|exact htok.2|(intro h_;revert h_)|exact cm|skip
 intro _ _;have eg:(match kQ n.t x.tok with|some e=>e.good|none=>false)=KE n x:=rfl;dsimp only;simp only[eg];refine⟨⟨fun g1=>⟨fun g2=>⟨fun g3=>⟨yH.mk { n with rs:=n.rs.eraseIdx k,t:=nM n.t x.tok } { p with rc:=c } r x.w.key,?_⟩,fun g3=>⟨false,?_⟩⟩,fun g2=>⟨false,?_⟩⟩,fun g1=>⟨false,?_⟩⟩,fun b hb=>⟨fun hbt=>?_,fun hbf=>?_⟩⟩
 ·and_intros<;>first|exact cc|exact r1|exact r2|exact hkl|exact hfr|(intro h_;revert h_)|exact cm|skip
  intro _ _;have g3:(gY val has).size<=200:=by have:=of_decide_eq_true g3;omega
  have e:fB n r x.w.key=lC n r x val has:=by unfold lC;rw[g1,g2,<- g2,decide_eq_true g3];simp[g2]
  refine⟨fB n r x.w.key,?_⟩
  and_intros<;>first|exact cc|exact e|(intro h_;revert h_)|exact cm|skip
 ·have g3:decide ((gY val has).size<=200)=false:=decide_eq_false (by have:=of_decide_eq_false g3;omega);have e:false=lC n r x val has:=by unfold lC;rw[g3];simp
  and_intros<;>first|exact cc|exact e|(intro h_;revert h_)|exact cm|skip
 ·have e:false=lC n r x val has:=by unfold lC;rw[g2];simp
  and_intros<;>first|exact cc|exact e|(intro h_;revert h_)|exact cm|skip
 ·have e:false=lC n r x val has:=by unfold lC;rw[g1];simp
  and_intros<;>first|exact cc|exact e|(intro h_;revert h_)|exact cm|skip
 ·have hf:lC n r x val has=true:=hb.symm.trans hbt;have hsz:(gY val has).size<=200:=by
   unfold lC at hf;simp only[Bool.and_eq_true,decide_eq_true_eq]at hf;exact hf.2.2.1
  have hpo:=DN (x:=x) hkey hsz;have eN:mX.q ⟨n,p,r,k,val,has⟩=mS { n with rs:=n.rs.eraseIdx k,t:=nM n.t x.tok,s:=WZ (Kg n.s (gp x (gY val has))) } x.w 0 (gY val has) has:=by
   unfold mX.q UZ lD;dsimp only;rw[<- hx,if_pos hf]
  have hfl:jg n.s.fl p.p.fl:=hat.st.fl;have hpu:=hput hsz;have hpu:jQ (gp x (gY val has))=true->tV n.s.fl (aH (some (gp x (gY val has)))).length:=fun _=>hpu;obtain⟨hq1,hq2⟩:=hdev hsz;refine⟨JY.mk n.s.fl p.p.fl (gp x (gY val has)),?_⟩
  and_intros<;>first|exact cc|exact hfl|exact hpu|(intro h_;revert h_)|exact cm|skip
  rintro b2 ⟨q1,q2⟩;have he:((if jQ (gp x (gY val has))=true then(0:Int)else 1) == 0)=true:=by rw[if_pos hpo];rfl
  refine⟨he,(nI n.s.fl (gp x (gY val has))).d,?_⟩
  and_intros<;>first|exact cc|exact hq1|exact hq2|(intro h_;revert h_)|exact cm|skip
  intro _ _;obtain⟨w1,w2⟩:=hat1.st.put q1 q2;have hat2:=hat1.store w1 w2;refine⟨l6.mk { n with rs:=n.rs.eraseIdx k,t:=nM n.t x.tok } { p with rc:=c } x.w 0 (gY val has) has,?_⟩
  and_intros<;>first|exact cc|exact hkl|exact hv|(intro h_;revert h_)|exact cm|skip
  rintro⟨mc,rc⟩ _;refine⟨mW.mk { p with rc:=c,p:=p.p.A1 b2 } 0 mc rc,?_⟩;dsimp only;rw[eN];dsimp only[mS]
  and_intros<;>first|exact cc|exact hat2|(intro h_;revert h_)|exact cm|skip
 ·have hf:lC n r x val has=false:=hb.symm.trans hbf;have eN:mX.q ⟨n,p,r,k,val,has⟩=mS { n with rs:=n.rs.eraseIdx k,t:=nM n.t x.tok } x.w 0 (gY val has) has:=by
   unfold mX.q UZ lD;dsimp only;rw[<- hx,if_neg (by rw[hf];decide)]
  refine⟨l6.mk { n with rs:=n.rs.eraseIdx k,t:=nM n.t x.tok } { p with rc:=c } x.w 0 (gY val has) has,?_⟩
  and_intros<;>first|exact cc|exact hkl|exact hv|(intro h_;revert h_)|exact cm|skip
  rintro⟨mc,rc⟩ _;refine⟨mW.mk { p with rc:=c } 0 mc rc,?_⟩;dsimp only;rw[eN];dsimp only[mS]
  and_intros<;>first|exact cc|exact hat1|(intro h_;revert h_)|exact cm|skip)
theorem KF:ak (Y Tryz.prog).G.X 25 ON:=aV fK U0 ⟨UY,Ur,DJ,TA,iF,Kz,trivial⟩
def vj(n:cF)(ep:Int):MetaM:=⟨n.s.k.m.bK,ep,0,false⟩
def QZ(n:cF)(ep tick:Int):cF:={ n with s:=MQ (Eh n.s) (vj n ep),le:=qO n.now ⟨0,0,0⟩ tick ep,t:=fS n.t vW,ws:=Vi }
structure pz where
 n:cF
 p:fT
 ow:Int
 ep:Int
 tick:Int
 l:List Int
 cap:Nat
def pz.q(a:pz):cF:=QZ a.n a.ep a.tick
structure Ns where
 p:fT
 c1:Nat
 c2:Nat
def pE(ep:Int)(l:List Int)(c1 c2:Nat):Rg.ew:=⟨ep,l,c1,Rg.mQ l,c2⟩
structure OP(a:pz):Prop where
 at_:dB a.n a.p
 msg:Ky (IE a.n a.ow a.ep a.tick)
 mem:Rg.kY a.l=true
 ws:a.n.ws=[]
 ep:1<=a.ep/\a.ep<=1099511627776/\a.n.s.k.m.aT<a.ep/\a.n.s.k.m.ready=0
 now:a.n.now<1000000000000000
 ye:a.n.t.l.length<1000
 fl:tV a.n.s.fl 1/\(iz a.n.s.fl [2]).d.n<100000/\(iz a.n.s.fl [2]).d.calls<900000000000
 k:a.n.s.k.s.at_+1<(Eh a.n.s).d.n/\a.n.s.k.s.slot<=1/\(Eh a.n.s).d.n<100000/\(Eh a.n.s).d.calls<900000000000/\0<=a.n.s.k.s.eZ/\a.n.s.k.s.eZ<1000000000000
 save:gv a.n.s.k (vj a.n a.ep)=true
theorem oS.ZF{s s':lu}{p:sZ}(h:oS s p){b:rG}(h1:jg s'.fl b)(h2:tU p.fl b)(hj:s'.jL=s.jL)(hm:s'.ms=s.ms):oS s' (p.A1 b)/\Dc p.H (br p.cy) (br p.jy) (p.A1 b):=by
 have hh:∀z∈br p.jy,b.H z=p.H z/\z∉br b.y:=fun z hz=>h2 z (h.jl.dom z hz) (h.sep z hz);exact⟨⟨⟨h1.log,h1.idx⟩,by rw[hj];exact h.jl.frame fun z hz=>(hh z hz).1,fun z hz=>(hh z hz).2,by rw[hm];exact h.cap⟩,fun z hz hc hjz=>⟨(h2 z hz hc).1,(h2 z hz hc).2,hjz⟩⟩
theorem Q0{x:Ix.cK}(h:Ix.Has x []):Ix.keysOf x.t=[]:=by
 have:=h.perm.length_eq;unfold Ix.keysOf;rw[List.eq_nil_of_length_eq_zero this];rfl
noncomputable def OQ:cD where
 α:=pz
 β:=Ns
 m:=22
 m':=33
 pre:=OP
 args:=fun a=>[.a (.ptr 0 0 0 0),.agg (aa8 2 (.int .i64 a.ow) (.int .i64 a.n.id) (.int .i64 a.ep) (.int .i64 a.tick) (.lit .i64 0) (.lit .i64 0) va (.slc 21 0 1 a.l.length a.cap))]
 hp:=fun a=>KD .nil .bU .bU 0 7 1 3 4 5 6 8 9 10 11 12 13 14 15 16 17 18 19 20 a.n a.p++[(1,Wx 2 a.n.le)]
 ro:=fun a=>[(2,Wy a.n.now),(21,.arr 3 [.int .i64] a.l.length (af Rg.encI a.l))]
 post:=fun a b=>dB a.q b.p
 res:=fun _ _=>.agg [.slc 31 0 21 0 0,.slc 32 0 6 0 0]
 cT:=fun a b=>KD (.ptr 22 0 0 0) .bU .bU 0 7 1 3 4 26 6 8 9 10 11 27 28 14 15 16 17 18 29 30 a.q b.p++[(1,Wx 2 a.q.le)]++OK 22 23 24 (pE a.ep a.l b.c1 b.c2)
noncomputable def Yw:List (Nat×cD):=[(55,UM),(56,Rg.A7),(99,Nl),(142,MP),(100,HP),(151,Rg.Nf),(152,Rg.M9),(194,Ix.Uh),(107,H9)]
def o5(x:pz)(y:Ns):Rg.ew:=pE x.ep x.l y.c1 y.c2
def Nt(z:pz):=ah z.ep->ah z.n.s.k.m.aT->(z.ep == z.n.s.k.m.aT)=false/\(ah z.n.s.k.m.ready->aD (z.ep != z.n.s.k.m.ready)/\∃v:Km,ax (ax (qW z.n.s.cL v.m.L z.p.p.cy.lv v.p.y.lv (iR z.n.s.d v.m.d (yw z.p.p.x v.p.x z.p.p.xc v.p.cap (z.p.p.H=v.p.H/\H7 v/\∀h:rG,jg (jh v.m) h/\tU v.p h->ah z.n.s.k.m.bK->∃w:HO,ag (Db z.n.s.k.m.bK w.m z.ep (0=0) (Da z.n.s.k w.k z.p.p.kc w.cap (iR (jh v.m).d w.d (z8 w/\∀o:Nat,True->gC (aQ z.ep 1) False (aQ 1099511627776 z.ep) (tn z.l z.cap fun r=>aI (bx (Rg.kY r.l)=false/\tn z.l z.cap fun c=>∀A:Nat,True->tn z.l z.cap fun B=>∀C:Nat,True->∃i:Ix.tT,ag (yw h.x i.x h.cap i.cap (bI i.x<100000/\∀E:Nat,True->aa (aU (Ix.keysOf i.x.t))=(0:Int)/\∃u:Kp,ag (tB z.n u.t z.p u.mb (h.H=u.H) (gn u.H u.t/\u.t.l.length<100000) (∀j:PH×Int,(xE j u.t vW fun D=>u.H D)->aa z.n.ws.length=(0:Int)/\(ah z.tick->ah z.ep->∃f:FB,ag (z.tick=f.sent/\z.ep=f.ep/\Fs 0 f.l 0 0 (z.n.now=f.now) (f.now<(1000000000000000:Int)/\aI (∃g:Ns,ag (0=0)/\ag (0=0)/\j.fst=g.p.p.H/\e8 u.mb (fS u.t vW)=e8 g.p.mb z.q.t/\ax (z.n.id=z.q.id/\ax (jd (0=z.q.ws.length/\0=g.p.wc) z.n.rs z.q z.p.rc g.p z.n.asked ((fS u.t vW).last=z.q.t.last) (iH u.mb g.p.mb/\z.q.ws.length=0 /\
 kZ z.q.rs z.n.rs/\ag (vg (qO f.now f.l f.sent f.ep) z.q.le (z.ep=Rg.ew.e (o5 z g)) (oZ c.l (o5 z g) A (Rg.mQ B.l) C (ax (ag (z.n.s.bK=z.q.s.bK/\AT (jh v.m) z.q.s h g.p.p (iq w.k w.d w.m) z.n.s.ms z.p.p.jc z.n.s.jL z.p.p.jy (mL w.k w.m) o (dB z.q g.p/\True)))))))))))))))))))))))))))))
theorem U1:fnBody (Y Tryz.prog) Yw 16 OQ fun _=>[(16,[],[.YJ 4 5 0 UT,.Yu 0 [(22,false),(48,true)] (.mk 60 [] [.YJ 4 5 0 UT])]),(57,[],[.WG 0 28 false UT]),(98,[],[.Yu 0 [(20,false),(40,true)] (.mk 60 [] [.WG 0 40 true (.mk 60 [] [.YJ 15 85 0 UT]),.YJ 15 85 0 UT]),.YJ 15 85 0 UT]),(104,[],[.YJ 2 15 0 (.mk 60 [] [.WG 0 30 false UT]),.WG 0 30 false UT]),(103,[],[.WG 0 15 false UT])]:=fnBody.of (p :=
 ∀x:pz,OP x->ah x.n.id->ah x.n.id->aO (x.n.id != x.n.id) False (∃y:Fy,Iv 2 y.m x.ow x.n.id x.ep x.tick 0 va 0 va va (fL y.m.item.gone (cW x.l y.l x.cap y.cap) ((0:Int)=y.m.base/\cn y.l x.l Rg.encI/\(Ky y.m/\(y.l=[]\/aD (Rg.kY y.l)))/\aI (bx (rD y)=false/\x.n.s.k.m.ready=(0:Int)/\tn x.l x.cap fun z=>aI (aO (Rg.kY z.l) (ah x.ep->aA x.ep x.n.s.k.m.aT False (ah x.ep->aO (x.ep == x.n.s.k.m.aT) (Nt x) (Nt x))) (∃u:Ns,ag (0=0)/\ag (0=0)/\pq x.p u.p x.n x.q (ax (x.n.id=x.q.id/\False))))))))) (by kernel_rfl) (by
 delta aO av aL ah e8 bW iH bB bI aQ aa aU vg nk cE bg aD dQ ig fL Fs cM ot pn cn gC aI bA AT pq dJ Nt ki mz kZ Iv qt jd rD ag aA o5 tn cW tB ax z8 gQ bx xE oZ H7 Db
 try dsimp -iota -proj only
 intro a ok;obtain⟨n,p,ow,ep,tick,l,cap⟩:=a;obtain⟨hat,hm,hl,hws,⟨e1,e2,e3,e4⟩,hnow,hfew,⟨f1,f2,f3⟩,⟨k1,k2,k3,k4,k5,k6⟩,hsv⟩:=ok;dsimp only at *;have ho:l=[]\/Rg.kY l=true:=.inr hl;have hl1:l.length<100000:=by have:=Rg.DB hl;omega
 have hz:(!decide ((IE n ow ep tick).key.size<=40))=false:=rfl;have hne:(ep == n.s.k.m.aT)=false:=by rw[beq_eq_false_iff_ne];omega
 refine fun _ _=>⟨fun c=>by simp at c,fun _=>⟨Fy.mk (IE n ow ep tick) l cap,?_⟩⟩
 and_intros<;>first|exact cc|exact hm|exact ho|(intro h_;revert h_)|exact cm|skip
 intro _ _;refine⟨hz,e4,⟨l,cap⟩,?_⟩
 and_intros<;>first|exact cc|exact hl1|(intro h_;revert h_)|exact cm|skip
 intro _ _;refine⟨fun _ _=>⟨fun c=>by(have:=of_decide_eq_true c;omega),fun _ _=>⟨fun c=>absurd (c.symm.trans hne) (by decide),fun _ _ _=>⟨hne,fun _=>⟨?_,Km.mk n.s.fl p.p.fl,?_⟩⟩⟩⟩,fun c=>by(rw[hl]at c;cases c)⟩
 ·rw[e4];simp;omega
 have hfl:jg n.s.fl p.p.fl:=hat.st.fl;have f4:(iz n.s.fl [2]).d.calls<1000000000000:=by omega
 and_intros<;>first|exact cc|exact hfl|exact f1|exact f2|exact f4|(intro h_;revert h_)|exact cm|skip
 rintro b ⟨b1,b2⟩ _;refine⟨HO.mk n.s.k p.p.kc (jh n.s.fl).d (vj n ep),?_⟩
 and_intros<;>first|exact cc|exact k1|exact k2|exact k3|exact k4|exact k5|exact k6|(intro h_;revert h_)|exact cm|skip
 intro kc _;have hN:(!Rg.kY l)=false:=by rw[hl];rfl
 refine⟨fun c=>by(have:=of_decide_eq_true c;omega),fun _=>⟨fun c=>by(have:=of_decide_eq_true c;omega),fun _=>⟨⟨l,cap⟩,?_⟩⟩⟩
 and_intros<;>first|exact cc|exact hl1|(intro h_;revert h_)|exact cm|skip
 intro _ _;refine⟨hN,⟨l,cap⟩,?_⟩
 and_intros<;>first|exact cc|exact hl1|(intro h_;revert h_)|exact cm|skip
 intro c1 _;refine⟨⟨l,cap⟩,?_⟩
 and_intros<;>first|exact cc|exact hl1|(intro h_;revert h_)|exact cm|skip
 intro c2 _;have hks:=Q0 b1.idx;have hlen:b.x.t.length<100000:=by have:=b1.idx.inv.hi;omega
 refine⟨Ix.tT.mk b.x b.cap va,?_⟩
 and_intros<;>first|exact cc|exact hlen|(intro h_;revert h_)|exact cm|skip
 intro _ _;have hk0:((Ix.keysOf b.x.t).length:Int)=0:=by rw[hks];rfl
 obtain⟨w1,w2⟩:=hat.st.ZF (s':=Eh n.s) b1 b2 rfl rfl;have w3:oS (MQ (Eh n.s) (vj n ep)) { p.p.A1 b with kc:=kc }:=⟨⟨w1.fl.log,w1.fl.idx⟩,w1.jl,w1.sep,w1.cap⟩
 have hat1:=hat.store w3 w2;have hf2:n.t.l.length<100000:=by omega
 have htk:gn b.H n.t:=hat1.tok;refine⟨hk0,Kp.mk p.mb n.t b.H,?_⟩
 and_intros<;>first|exact cc|exact htk|exact hf2|(intro h_;revert h_)|exact cm|skip
 rintro⟨H1,cnt⟩ ⟨q1,q2⟩;have hat2:=hat1.W4 q1 q2;have hw0:(n.ws.length:Int)=0:=by rw[hws];rfl
 refine⟨hw0,fun _ _=>⟨FB.mk ⟨0,0,0⟩ n.now tick ep,?_⟩⟩
 and_intros<;>first|exact cc|exact hnow|(intro h_;revert h_)|exact cm|skip
 intro _ _;refine⟨Ns.mk ⟨{ p.p.A1 b with kc:=kc,H:=H1 },p.mb,0,p.rc⟩ c1 c2,?_⟩;have hat3:dB (QZ n ep tick) ⟨{ p.p.A1 b with kc:=kc,H:=H1 },p.mb,0,p.rc⟩:=⟨hat2.st,hat2.tok,hat2.sep,Nat.le_refl 0,hat2.rc⟩
 have eN:pz.q ⟨n,p,ow,ep,tick,l,cap⟩=QZ n ep tick:=rfl;rw[eN];dsimp only
 and_intros<;>first|exact cc|exact hat3|(intro h_;revert h_)|exact cm|skip)
theorem KG:ak (Y Tryz.prog).G.X 16 OQ:=aV fK U1 ⟨UO,Rg.qH,QY,Qt,Fe,Rg.QT,Rg.QK,Ix.Uj,MY,trivial⟩
structure iQ(n:cF)(k:Nat)(get:ByteArray->Option aB)(cb jb:Nat):Prop where
 one:∃c es,dM n.s c es cb jb/\gE es=get/\c<=2000+100*k
 lt:k<100
 met:n.s.k.m.ready=0/\n.s.k.m.frozen=false/\0<=n.s.k.m.bK/\n.s.k.m.bK<1000/\0<=n.s.k.m.aT/\n.s.k.m.aT<1000
 id:1<=n.id/\n.id<=5
 now:0<=n.now/\n.now<1000
 num:0<=n.asked/\n.asked<=k/\0<=n.t.last/\n.t.last<=k/\n.t.l.length<=k/\n.ws.length<=k/\n.rs.length<=k
 rs:∀x∈n.rs,dS x.w.key=true/\0<=x.tok/\x.tok<=k
theorem dM.wide{s:lu}{n:Nat}{es:List (Option aB)}{cb jb:Nat}(h:dM s n es cb jb){cb':Nat}(hc:cb<=cb'):dM s n es cb' jb:=by
 obtain⟨cr,h1,h2⟩:=h.fl;exact⟨⟨cr,h1,by omega⟩,h.jl,h.jb,h.ms,h.nx,h.X9,h.dn,h.keep,h.bK⟩
theorem iQ.up{n:cF}{k:Nat}{get:ByteArray->Option aB}{cb jb:Nat}(h:iQ n k get cb jb){m:Nat}(h1:k<=m)(h2:m<100):iQ n m get cb jb:=by
 obtain⟨c,es,o1,o2,o3⟩:=h.one;have hn:=h.num;exact⟨⟨c,es,o1,o2,by omega⟩,h2,h.met,h.id,h.now,by omega,fun x hx=>by have:=h.rs x hx;exact⟨this.1,by omega,by omega⟩⟩
theorem iQ.make{id now:Int}{d:bw}(h1:1<=id/\id<=5)(h2:0<=now/\now<1000)(hn:192<=d.n/\d.n<1500)(hc:d.calls=0)(H:PH):Dw.pre ⟨id,now,d,H⟩/\iQ (pR ⟨id,now,d,H⟩) 0 (fun _=>none) 0 0:=by
 obtain⟨m1,m2,m3,m4,_⟩:=xP (c:=0) (show 192<=d.n/\d.n<3000 by omega) (by omega) (by omega) H;have hm:(pR ⟨id,now,d,H⟩).s.k.m=⟨1,0,0,false⟩:=m3;refine⟨⟨h1.1,h1.2,m1⟩,⟨_,_,m2,rfl,by omega⟩,by omega,by rw[hm];decide,h1,h2,?_,fun x hx=>by cases hx⟩;exact⟨Int.le_refl 0,Int.le_refl 0,Int.le_refl 0,Int.le_refl 0,Nat.le_refl 0,Nat.le_refl 0,Nat.le_refl 0⟩
theorem Yx:Fw 0:=⟨Int.le_refl 0,by decide⟩
theorem U2{n:cF}{ow ep tick:Int}(hf:0<=ow/\ow<=5/\ow≠n.id)(hid:1<=n.id/\n.id<=5)(he:0<=ep/\ep<1000)(ht:0<=tick/\tick<1000):Ky (IE n ow ep tick) :=
 ⟨(show(1:Int)<=2/\(2:Int)<=14 by omega),hf.2.2,⟨hf.1,hf.2.1⟩,(show 0<=n.id/\n.id<=5 by omega),(show 0<=ep/\ep<=_ by omega),(show 0<=tick/\tick<=_ by omega),Yx,Yx,Yx,(show(0:Int)<=0/\(0:Int)<=1073741824 by omega),(show(0:Int)<=0/\(0:Int)<=2 by omega),(show(0:Int)<=0/\(0:Int)<=10 by omega),.inl rfl⟩
theorem iQ.gr{n:cF}{p:fT}{k:Nat}{get:ByteArray->Option aB}{cb jb:Nat}(h:iQ n k get cb jb)(hat:dB n p){ow ep tick:Int}{l:List Int}{cap:Nat}(hf:0<=ow/\ow<=5/\ow≠n.id)(he:n.s.k.m.aT<ep/\ep<1000)(ht:0<=tick/\tick<1000)(hl:Rg.kY l=true)(hw:n.ws=[])(hfit:cb+9<=378)(hk:k<99) :
 OP ⟨n,p,ow,ep,tick,l,cap⟩/\iQ (QZ n ep tick) (k+1) (fun _=>none) (cb+9) jb/\(QZ n ep tick).s.k.m.aT=ep:=by
 obtain⟨c,es,o1,o2,o3⟩:=h.one;have hn:=h.num;have hm:=h.met;have hid:=h.id;have hnw:=h.now;obtain⟨w1,w2,w3,w4⟩:=o1.Yg (by omega) hfit;have hms:mU (vj n ep)=true:=by
  have a1:Bc n.s.k.m.bK=true:=by simp only[Bc,Bool.and_eq_true,decide_eq_true_eq];omega
  have a2:Bc ep=true:=by simp only[Bc,Bool.and_eq_true,decide_eq_true_eq];omega
  unfold mU vj;dsimp only;rw[a1,a2];rfl
 have hsv:gv n.s.k (vj n ep)=true:=by
  unfold gv;rw[hms,show decide ((vj n ep).bK<n.s.k.m.bK)=false from decide_eq_false (by show ¬(n.s.k.m.bK<n.s.k.m.bK);omega),show decide ((vj n ep).aT<n.s.k.m.aT)=false from decide_eq_false (by show ¬(ep<n.s.k.m.aT);omega)];rfl
 obtain⟨s1,s2,s3,s4⟩:=w1.save (m:=vj n ep) hsv (by show n.s.k.m.bK=n.s.bK;exact o1.bK.symm) (by omega);obtain⟨cr,hfl,hcb⟩:=w1.fl;have hcl:(Eh n.s).d.calls<=c+21:=hfl.one.log.calls;have hcl2:(Eh n.s).d.calls=(iz n.s.fl [2]).d.calls+1:=rfl;have hdn:=w1.dn;have hkp:=o1.keep;have hms2:(QZ n ep tick).s.k.m=vj n ep:=s2;refine⟨⟨hat,U2 (n:=n) (ow:=ow) (ep:=ep) (tick:=tick) hf hid ⟨by omega,by omega⟩ (by omega),hl,hw,by dsimp only;omega,by dsimp only;omega,by dsimp only;omega,⟨w2,w3,by dsimp only;omega⟩,⟨by have:=hkp.at_;dsimp only;omega,hkp.slot,by dsimp only;omega,by dsimp only;omega,by have:=hkp.eZ;dsimp only;omega,by have:=hkp.eZ;dsimp only;omega⟩,hsv⟩,⟨⟨_,_,s1,by funext q;exact Ww _ q,by omega⟩,by omega,by rw[hms2];exact⟨rfl,rfl,hm.2.2.1,hm.2.2.2.1,by show 0<=ep;omega,he.2⟩,hid,hnw,⟨hn.1,by show n.asked<=_;push_cast;omega,hn.2.2.1,by show n.t.last<=_;push_cast;omega,by show(fS n.t vW).l.length<=_;unfold fS;rw[List.length_map];omega,Nat.zero_le _,by show n.rs.length<=_;omega⟩,fun x hx=>by have:=h.rs x hx;exact⟨this.1,this.2.1,by push_cast;omega⟩⟩,by rw[hms2];rfl⟩
theorem FD{k:ByteArray}(h:k.size<64):(aH (some (iG k))).length=k.size+5:=Dh (x:=iG k) h (by show(0:Nat)<64;omega) rfl
theorem DO{s:Nat}(h:s<63)(k:ByteArray):(dI ((s:Int)+1) k).length=k.size+1:=by
 unfold dI;rw[List.length_append,iV,Dg (by omega)];omega
theorem iQ.ask{n:cF}{p:fT}{r:Rg.ew}{w:ou}{k:Nat}{get:ByteArray->Option aB}{cb jb:Nat}(h:iQ n k get cb jb)(hat:dB n p)(hr:r.L.length<100000/\0<r.L.length)(hk:w.key.size<=aq)(hkill:w.op=2->dS w.key=true->cb+(w.key.size+13)<=378/\jb+(w.key.size+9)<=378):rZ ⟨n,p,r,w,get w.key⟩:=by
 obtain⟨c,es,o1,o2,o3⟩:=h.one;subst o2;have hn:=h.num;have hm:=h.met;have hkk:=h.lt;have hb:=o1.bK;obtain⟨g1,g2⟩:=o1.get w.key;refine⟨hat,hr,hk,hm.2.1,by dsimp only;omega,by dsimp only;omega,by dsimp only;omega,g1,g2,fun h1 h2=>?_⟩;have h2:dS w.key=true:=h2;obtain⟨f1,f2⟩:=hkill h1 h2;have hl:=o1.len;have hks:=og h2;have hA:fu [w.key]=true:=by simp[fu,h2]
 have h0:∀i,i < [w.key].length->gl [w.key] i=w.key:=fun i hi=>by
  have:i=0:=by simp at hi;omega
  subst this;rfl
 have hwj:∀i,i < [w.key].length->8+(dI (n.s.ms.length+i+1) (gl [w.key] i)).length<=w.key.size+9:=fun i hi=>by
  have:i=0:=by simpa using hi
  subst this;have e:((n.s.ms.length:Int)+((0:Nat):Int)+1)=(n.s.ms.length:Int)+1:=by omega
  rw[h0 0 (by simp),e,DO (s:=n.s.ms.length) (by omega) w.key];omega
 have hwc:∀i,i < [w.key].length->8+(aH (some (iG (gl [w.key] i)))).length<=w.key.size+13:=fun i hi=>by(rw[h0 i hi,FD (k:=w.key) (by omega)];exact(show 8+(w.key.size+5)<=w.key.size+13 by omega))
 have hK:=(o1.kill (ks:=[w.key]) hA (wj:=w.key.size+9) (wc:=w.key.size+13) hwj hwc (by omega) (by rw[List.length_singleton];omega) (by rw[List.length_singleton];omega) (by rw[List.length_singleton];omega)).1;exact hK p.p 1
theorem iQ.kill{n:cF}{key:ByteArray}{k:Nat}{get:ByteArray->Option aB}{cb jb:Nat}(h:iQ n k get cb jb)(hk:dS key=true)(f1:cb+(key.size+13)<=378)(f2:jb+(key.size+9)<=378)(h99:k<99):iQ (lB n key) (k+1) (s9 get key none) (cb+(key.size+13)) (jb+(key.size+9))/\(lB n key).s.k=n.s.k:=by
 obtain⟨c,es,o1,o2,o3⟩:=h.one;subst o2;have hn:=h.num;have hl:=o1.len;have hks:=og hk;have hA:fu [key]=true:=by simp[fu,hk]
 have h0:∀i,i < [key].length->gl [key] i=key:=fun i hi=>by
  have:i=0:=by simp at hi;omega
  subst this;rfl
 have hwj:∀i,i < [key].length->8+(dI (n.s.ms.length+i+1) (gl [key] i)).length<=key.size+9:=fun i hi=>by
  have:i=0:=by simpa using hi
  subst this;have e:((n.s.ms.length:Int)+((0:Nat):Int)+1)=(n.s.ms.length:Int)+1:=by omega
  rw[h0 0 (by simp),e,DO (s:=n.s.ms.length) (by omega) key];omega
 have hK:=(o1.kill hA (wj:=key.size+9) (wc:=key.size+13) hwj (fun i hi=>by rw[h0 i hi,FD (k:=key) (by omega)];omega) (by omega) (by rw[List.length_singleton];omega) (by rw[List.length_singleton];omega) (by rw[List.length_singleton];omega)).2;have hk2:(lB n key).s.k=n.s.k:=hK.k.1;have h1:=hK.one;simp only[List.length_singleton,Nat.mul_one,List.map_cons,List.map_nil]at h1;refine⟨⟨⟨_,_,h1,?_,by omega⟩,by omega,by rw[hk2];exact h.met,h.id,h.now,⟨hn.1,by show n.asked<=_;push_cast;omega,hn.2.2.1,by show n.t.last<=_;push_cast;omega,by show(fS n.t _).l.length<=_;unfold fS;rw[List.length_map];omega,by show n.ws.length<=_;omega,by show n.rs.length<=_;omega⟩,fun x hx=>by have:=h.rs x hx;exact⟨this.1,this.2.1,by push_cast;omega⟩⟩,hk2⟩;rw[vP];rfl
theorem iQ.read{n:cF}{w:ou}{b:Nat}{k:Nat}{get:ByteArray->Option aB}{cb jb:Nat}(h:iQ n k get cb jb)(hk:dS w.key=true)(h99:k<99):iQ (jT n w b) (k+1) get cb jb:=by
 obtain⟨c,es,o1,o2,o3⟩:=h.one;have hn:=h.num;refine⟨⟨c,es,o1,o2,by omega⟩,by omega,h.met,h.id,h.now,⟨hn.1,by show n.asked<=_;push_cast;omega,by show 0<=n.t.last+1;omega,by show n.t.last+1<=_;push_cast;omega,by show(n.t.l++[_]).length<=_;rw[List.length_append,List.length_singleton];omega,by show n.ws.length<=_;omega,by show(n.rs++[_]).length<=_;rw[List.length_append,List.length_singleton];omega⟩,fun x hx=>?_⟩;rcases List.mem_append.1 hx with hx|hx
 ·have:=h.rs x hx;exact⟨this.1,this.2.1,by push_cast;omega⟩
 ·rw[List.mem_singleton]at hx;subst hx;exact⟨hk,by show 0<=n.t.last+1;omega,by show n.t.last+1<=_;push_cast;omega⟩
theorem iQ.red{n:cF}{p:fT}{r:Rg.ew}{i:Nat}{val:ByteArray}{has:Bool}{k:Nat}{get:ByteArray->Option aB}{cb jb:Nat}(h:iQ n k get cb jb)(hat:dB n p)(hr:r.L.length<100000/\0<r.L.length)(hi:i<n.rs.length)(hv:val.size<64)(hfit:cb+((gl n.rs i).w.key.size+val.size+13)<=378)(h99:k<99) :
 FC ⟨n,p,r,i,val,has⟩/\iQ (lD n r i val has) (k+1) (if lC n r (gl n.rs i) val has=true then s9 get (gl n.rs i).w.key (some (gp (gl n.rs i) (gY val has)))else get) (cb+((gl n.rs i).w.key.size+val.size+13)) jb/\(lD n r i val has).s.k=n.s.k:=by
 obtain⟨c,es,o1,o2,o3⟩:=h.one;subst o2;have hn:=h.num;have hmem:gl n.rs i∈n.rs:=by rw[bR hi];exact List.getElem_mem _
 obtain⟨x1,x2,x3⟩:=h.rs _ hmem;obtain⟨x,hx⟩:∃x,x=gl n.rs i:=⟨_,rfl⟩
 rw[<- hx]at x1 x2 x3 hfit ⊢;have hks:=og x1;have hvs:(gY val has).size<=val.size:=by
  unfold gY;cases has
  ·exact Nat.zero_le _
  ·exact Nat.le_refl _
 have hlen:(aH (some (gp x (gY val has)))).length=x.w.key.size+(gY val has).size+5:=Dh (x:=gp x (gY val has)) (by show x.w.key.size<64;omega) (by show(gY val has).size<64;omega) rfl;have hpo:jQ (gp x (gY val has))=true:=DN x1 (by omega);obtain⟨p1,p2⟩:=o1.put hpo (w:=x.w.key.size+val.size+13) (by rw[hlen];omega) (by omega) hfit;obtain⟨cr,hfl,hcb⟩:=p1.fl;have hcl:(Kg n.s (gp x (gY val has))).d.calls<=c+20:=hfl.one.log.calls;have hdn:=p1.dn;have hrd:mX.rd ⟨n,p,r,i,val,has⟩=x:=hx.symm;have hsz:∀(a b:cF),a.rs=n.rs.eraseIdx i->a.rs.length<=k:=fun a _ e=>by rw[e,List.length_eraseIdx];split<;>omega
 have hul:(nM n.t x.tok).l.length<=k:=Nat.le_trans (List.length_filter_le _ _) (by omega);have hrs:∀y∈n.rs.eraseIdx i,dS y.w.key=true/\0<=y.tok/\y.tok<=((k+1:Nat):Int):=fun y hy=>by
  have:=h.rs y (List.eraseIdx_subset hy);exact⟨this.1,this.2.1,by push_cast;omega⟩
 have hel:(n.rs.eraseIdx i).length<=k:=by rw[List.length_eraseIdx];split<;>omega
 have hnum:0<=n.asked/\n.asked<=((k+1:Nat):Int)/\0<=n.t.last/\n.t.last<=((k+1:Nat):Int)/\(nM n.t x.tok).l.length<=k+1/\n.ws.length<=k+1/\(n.rs.eraseIdx i).length<=k+1:=by push_cast;omega
 refine⟨⟨hat,hr,h.met.2.1,hi,by dsimp only;omega,by rw[hrd];simp only[bL];omega,by rw[hrd];exact x1,by show val.size<=aq;unfold aq;omega,fun _=>by rw[hrd];exact p2,fun _=>by rw[hrd];dsimp only;omega⟩,?_⟩;by_cases hf:lC n r x val has=true
 ·have eT:lD n r i val has={ n with rs:=n.rs.eraseIdx i,t:=nM n.t x.tok,s:=WZ (Kg n.s (gp x (gY val has))) }:=by unfold lD;rw[<- hx,if_pos hf]
  rw[if_pos hf,eT];exact⟨⟨⟨_,_,p1.flush,by rw[vP];rfl,by omega⟩,by omega,h.met,h.id,h.now,hnum,hrs⟩,rfl⟩
 ·have eT:lD n r i val has={ n with rs:=n.rs.eraseIdx i,t:=nM n.t x.tok }:=by unfold lD;rw[<- hx,if_neg hf]
  rw[if_neg hf,eT];exact⟨⟨⟨c,es,o1.wide (by omega),rfl,by omega⟩,by omega,h.met,h.id,h.now,hnum,hrs⟩,rfl⟩
def By(n:cF)(r:Rg.ew):Prop:=∀k,fB n r k=true
theorem OR{L:List (Int×Int)}{i:Int}(h0:0<L.length)(h:∀e∈L,e.2=i)(x:Int):Rg.xH L x=i:=by
 unfold Rg.xH;cases hf:L.find? (fun e=>decide (x<=e.1))with
 |some e=>exact h e (List.mem_of_find?_eq_some hf)
 |none=>exact h _ (by rw[bR h0];exact List.getElem_mem _)
theorem yJ{i:Int}(h:1<=i/\i<=5):(Rg.mQ [i]).length=8/\∀e∈Rg.mQ [i],e.2=i:=by
 have hm:=Rg.UH h.1 h.2;refine⟨Rg.Ir hm,fun e he=>?_⟩;have he:=(Rg.DF hm).mem_iff.1 he;unfold Rg.fJ at he;rw[List.flatMap_cons,List.flatMap_nil,List.append_nil]at he;exact Rg.UF he
theorem OS{ep:Int}{i:Int}{c1 c2:Nat}(h:1<=i/\i<=5):(pE ep [i] c1 c2).L.length<100000/\0<(pE ep [i] c1 c2).L.length:=by
 have:=(yJ h).1;show(Rg.mQ [i]).length<100000/\0<(Rg.mQ [i]).length;omega
theorem By.alone{n:cF}{ep:Int}{c1 c2:Nat}(h:1<=n.id/\n.id<=5)(hg:DI n.le n.now n.s.k.m.aT=true):By n (pE ep [n.id] c1 c2):=fun k=>by
 have e:tv (pE ep [n.id] c1 c2) k=n.id:=OR (by show 0<(Rg.mQ [n.id]).length;rw[(yJ h).1];decide) (yJ h).2 _;unfold fB;rw[e,hg];simp
theorem KH{now tick ep:Int}(h1:1<=ep)(h2:0<=tick)(h3:tick<=now)(h4:now-tick<20):qO now ⟨0,0,0⟩ tick ep=⟨ep,tick+20,ep⟩:=by
 have e:xK now ⟨0,0,0⟩ tick ep=false:=by
  simp only[xK,Bool.or_eq_false_iff,decide_eq_false_iff_not];omega
 unfold qO;rw[e,if_neg (by decide),if_neg (by dsimp only;omega)]
theorem U3{now tick ep:Int}(h1:1<=ep)(h4:now-tick<20):DI ⟨ep,tick+20,ep⟩ now ep=true:=by
 simp only[DI,Bool.and_eq_true,decide_eq_true_eq];refine⟨by omega,trivial,by omega⟩
theorem By.gr{n:cF}{ep tick:Int}{c1 c2:Nat}(h:1<=n.id/\n.id<=5)(h1:1<=ep)(h2:0<=tick)(h3:tick<=n.now)(h4:n.now-tick<20)(he:(QZ n ep tick).s.k.m.aT=ep):By (QZ n ep tick) (pE ep [n.id] c1 c2) :=
 By.alone (n:=QZ n ep tick) h (by
  rw[he];show DI (qO n.now ⟨0,0,0⟩ tick ep) n.now ep=true;rw[KH h1 h2 h3 h4];exact U3 h1 h4)
theorem By.own{n:cF}{r:Rg.ew}(h:By n r)(k:ByteArray):¬tv r k≠n.id:=by
 have:=h k;unfold fB at this;simp only[Bool.and_eq_true,decide_eq_true_eq]at this;exact fun hn=>hn this.1
theorem By.same{n m:cF}{r:Rg.ew}(h:By n r)(h1:m.id=n.id)(h2:m.le=n.le)(h3:m.now=n.now)(h4:m.s.k.m.aT=n.s.k.m.aT):By m r:=fun k=>by
 have:=h k;unfold fB at this ⊢;rw[h1,h2,h3,h4];exact this
theorem DP{n:cF}{r:Rg.ew}{w:ou}{g:Option aB}{b:Nat}(hs:By n r)(hb:tw w=false)(ho:w.op=1)(hg:od g n.now=none):je n r w g b=⟨jT n w b,[],[]⟩:=by
 unfold je;rw[if_neg (by rw[hb];decide),if_neg (hs.own _),if_neg (by rw[hs];decide),if_neg (by omega),hg]
theorem OT{n:cF}{r:Rg.ew}{w:ou}{g:Option aB}{b:Nat}{x:aB}(hs:By n r)(hb:tw w=false)(ho:w.op=1)(hg:od g n.now=some x):je n r w g b=mS n w 0 x.val true:=by
 unfold je;rw[if_neg (by rw[hb];decide),if_neg (hs.own _),if_neg (by rw[hs];decide),if_neg (by omega),hg]
theorem KI{n:cF}{r:Rg.ew}{w:ou}{g:Option aB}{b:Nat}(hs:By n r)(hb:tw w=false)(ho:w.op=2):je n r w g b=mS (lB n w.key) w 0 va false:=by
 unfold je;rw[if_neg (by rw[hb];decide),if_neg (hs.own _),if_neg (by rw[hs];decide),if_pos ho]
theorem KJ{x:gX}{v:ByteArray}(now:Int)(hk:dS x.w.key=true)(hv:v.size<=200):od (some (gp x v)) now=some (gp x v):=by
 have:uF (gp x v) now=true:=by simp[uF,fU,gp,hk,hv]
 simp[od,this]
theorem KK{H:PH}{t:jq}(h:gn H t)(key:ByteArray)(b:Nat):kQ (pg t key b) (t.last+1)=some ⟨t.last+1,b,key,true,t.dG⟩:=by
 unfold kQ pg;dsimp only;rw[List.find?_append,List.find?_eq_none.2 fun e he=>by
  have:=(h.id e he).2.1;simp;omega]
 simp
theorem Ek{n:cF}{p:fT}(hat:dB n p)(w:ou)(b:Nat):KE (jT n w b) ⟨w,n.t.last+1⟩=true:=by
 unfold KE jT;dsimp only;rw[KK hat.tok]
theorem U4{n:cF}{p:fT}{r:Rg.ew}(hat:dB n p)(hs:By n r)(w:ou)(b:Nat){v:ByteArray}(hv:v.size<=200):lC (jT n w b) r ⟨w,n.t.last+1⟩ v true=true:=by
 have hs2:By (jT n w b) r:=hs.same rfl rfl rfl rfl;unfold lC;rw[Ek hat,hs2,show gY v true=v from rfl,decide_eq_true hv];rfl
theorem xL{w:ou}(ho:w.op=1\/w.op=2)(hk:dS w.key=true):tw w=false:=by
 unfold tw;rcases ho with ho|ho<;>simp[ho,hk]
theorem Q1{ep:Int}{i:Int}{c1 c2:Nat}(h:1<=i/\i<=5)(k:ByteArray):tv (pE ep [i] c1 c2) k=i:=OR (by show 0<(Rg.mQ [i]).length;rw[(yJ h).1];decide) (yJ h).2 _
theorem Q2{n:cF}{r:Rg.ew}{k:ByteArray}(h:tv r k=n.id):fB n r k=DI n.le n.now n.s.k.m.aT:=by
 unfold fB;rw[h];simp
end Go.Proofs.YtfjgoonelcaggaaGreat
namespace Go.Sx
section
structure Pk where
 f:Nat
 pick:List SV->S->Nat
 cs:List cD
def WH:List Pk->Nat->Option Pk
 |[],_=>none
 |p::r,f=>bif Nat.beq p.f f then some p else WH r f
def WI:List cD->Nat->Option cD
 |[],_=>none
 |c::_,0=>some c
 |_::r,n+1=>WI r n
def U5(jf:Nat->Option cD)(pk:List Pk):Sx.Spec:=fun f=>match WH pk f with
 |some p=>some fun args s K=>match WI p.cs (p.pick args s)with
  |some C=>qE C args s K
  |none=>False
 |none=>(jf f).map qE
def FE(X:Cx)(f:Nat):List cD->Prop
 |[]=>True
 |c::r=>ak X f c/\FE X f r
def Nu(X:Cx):List Pk->Prop
 |[]=>True
 |p::r=>FE X p.f p.cs/\Nu X r
theorem FE.at_{X:Cx}{f:Nat}:∀ {l:List cD},FE X f l->∀n C,WI l n=some C->ak X f C
 |[],_,_,_,h=>by cases h
 |c::_,h,0,C,hc=>by simp only[WI,Option.some.injEq]at hc;subst hc;exact h.1
 |_::r,h,n+1,C,hc=>FE.at_ (l:=r) h.2 n C hc
theorem Nu.at_{X:Cx}:∀ {l:List Pk},Nu X l->∀f p,WH l f=some p->FE X f p.cs
 |[],_,_,_,h=>by cases h
 |q::r,h,f,p,hp=>by
  simp only[WH]at hp;by_cases hq:q.f=f
  ·subst hq;simp only[dh,cond_true,Option.some.injEq]at hp;subst hp;exact h.1
  ·rw[ey hq]at hp;exact Nu.at_ h.2 f p hp
theorem U6{X:Cx}{jf:Nat->Option cD}(h:∀f C,jf f=some C->∀args s K,qE C args s K->uj X f args s K){pk:List Pk}(hp:Nu X pk):Xv X (U5 jf pk):=by
 intro f g hg args s K hK;unfold U5 at hg;split at hg
 ·rename_i p hpk;cases hg;split at hK
  ·rename_i C hC;exact(hp.at_ f p hpk).at_ _ C hC args s K hK
  ·exact hK.elim
 ·exact NW h f g hg args s K hK
def W7(Y:Gx)(jf:List (Nat×cD))(pk:List Pk)(lh:Nat->LH)(n:Nat):gM:=EG Y (U5 (Cf jf) pk) lh n
theorem U7{Y:Gx}(hY:Y.Ok){jf:List (Nat×cD)}(ht:uy Y.G.X jf){pk:List Pk}(hp:Nu Y.G.X pk){lh:Nat->LH}{n:Nat}:IM Y.G.X (W7 Y jf pk lh n) :=
 yb hY (U6 (fun f C h=>ht.at_ f C h) hp) n
def KL(Y:Gx)(jf:List (Nat×cD))(pk:List Pk)(f:Nat)(C:cD)(l:C.α->List (Nat×List An×List An)):Prop :=
 vC Y C (fun a=>W7 Y jf pk (Jr 1000 (l a)) 20) (fun a=>Jr 1000 (l a)) f
structure yK(Y:Gx)(jf:List (Nat×cD))(pk:List Pk)(f:Nat)(C:cD)(l:C.α->List (Nat×List An×List An)):Prop where
 body:KL Y jf pk f C l
theorem yK.of{Y:Gx}{jf:List (Nat×cD)}{pk:List Pk}{f:Nat}{C:cD}{l:C.α->List (Nat×List An×List An)}{p:Prop}(h:KL Y jf pk f C l=p)(hp:p):yK Y jf pk f C l:=⟨h.mpr hp⟩
theorem Yy{Y:Gx}(hY:Y.Ok){jf:List (Nat×cD)}(ht:uy Y.G.X jf){pk:List Pk}(hp:Nu Y.G.X pk){f:Nat}{C:cD}{l:C.α->List (Nat×List An×List An)}(hb:yK Y jf pk f C l):ak Y.G.X f C :=
 fun _ _ _ h=>Sp hY (fun _=>U7 hY ht hp) hb.body h
def WJ(c:Nat)(args:List SV)(s:S):Nat:=match args with
 |.a (.ptr t _ _ _)::_=>match s.hp.find t with
  |some (_,.obj _ cs)=>match cs[c]? with
   |some .nil=>0
   |_=>1
  |_=>1
 |_=>1
end
end Go.Sx
