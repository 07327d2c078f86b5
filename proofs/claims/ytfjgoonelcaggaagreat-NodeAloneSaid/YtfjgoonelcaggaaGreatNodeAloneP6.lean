/-
  
-/
import Derived.Test.YtfjgoonelcaggaaGreatNodeAloneP5
import Derived.Test.YtfjgoonelcaggaaGreatNodeAloneP3
import Derived.Test.YtfjgoonelcaggaaGreatNodeAloneP2
set_option maxRecDepth 100000
set_option maxHeartbeats 4000000
set_option linter.unusedVariables false
set_option linter.unusedSimpArgs false
noncomputable section
namespace Go.Proofs.YtfjgoonelcaggaaGreat
open Go.Sx
def aR(n:bG):List Bool:=n.rs.map (mT n)
structure K8(n:bG):Prop where
 tok:∀x∈n.rs,x.tok<=n.t.last/\∃e,oe n.t x.tok=some e/\e.key=x.w.key
 HW:(n.rs.map (·.tok)).Nodup
def zT(cells:List ng)(key:ByteArray):Nat->Int
 |0=>-1
 |i+1=>if(gl cells i).key=key then(i:Int)else zT cells key i
def WS(cells:List ng)(key:ByteArray):Int:=zT cells key cells.length
theorem ND(cells:List ng)(key:ByteArray):∀i,(zT cells key i = -1/\∀j,j<i->(gl cells j).key≠key)\/∃j:Nat,j<i/\zT cells key i=j/\(gl cells j).key=key
 |0=>.inl ⟨rfl,fun j h=>absurd h (uh j)⟩
 |i+1=>by
  by_cases h:(gl cells i).key=key
  ·exact .inr ⟨i,by omega,if_pos h,h⟩
  ·have e:zT cells key (i+1)=zT cells key i:=if_neg h;rw[e];rcases ND cells key i with⟨h1,h2⟩ | ⟨j,h1,h2,h3⟩
   ·grind
   grind
theorem EM(cells:List ng)(key:ByteArray):(WS cells key = -1/\∀c∈cells,c.key≠key)\/∃j:Nat,j<cells.length/\WS cells key=j/\(gl cells j).key=key:=by
 rcases ND cells key cells.length with⟨h1,h2⟩|h
 ·refine .inl ⟨h1,fun c hc=>?_⟩
  grind [List.getElem_of_mem,b8]
 ·exact .inr h
variable{cap i j k:Nat}{cells:List ng}{f:ByteArray->Bool}{id id':Int}{m:bG}{p:dP}{t:nL}{α β:Type}
def lq(l:List α)(j:Nat):List α:=l.take j++l.drop (j+1)
def BD(cells:List ng)(key:ByteArray):List ng:=if WS cells key<0 then cells else lq cells (WS cells key).toNat
structure WT(get:ByteArray->Option aW)(cells:List ng):Prop where
 has:∀c∈cells,c.val.size<=200/\dB c.key=true/\get c.key=some ⟨c.key,c.val,0,false⟩
 no:∀k,(∀c∈cells,c.key≠k)->get k=none
 nd:(cells.map (·.key)).Nodup
structure rR(i:Nat)(n:bG)(cells:List ng):Prop where
 ok:∃get k cb jb,jH n k get cb jb/\WT get cells/\k<=i/\cb<=254*i/\jb<=50*i
 dn:n.s.d.n=1200
 still:Still n.s.d
 id:n.id=1
 now:0<=n.now/\n.now<=i
 bP:n.s.k.m.bP<=i+1
 ep:n.s.k.m.ay<=4
 ws:n.ws=[]
 tk:K8 n
 cl:cells.length<=i
theorem rR.met{i:Nat}{n:bG}{cells:List ng}(h:rR i n cells):n.s.k.m.ready=0/\n.s.k.m.frozen=false/\0<=n.s.k.m.ay:=by
 obtain⟨get,k,cb,jb,o,_⟩:=h.ok;exact⟨o.met.1,o.met.2.1,o.met.2.2.2.2.1⟩
theorem rR.rsl{n:bG}(h:rR i n cells):n.rs.length<=i:=by
 obtain⟨get,k,cb,jb,o,_,hk,_⟩:=h.ok
 grind [o.num]
theorem BE:189*gd 1200=24381:=by decide
theorem rR.make{H:PH}:qD.pre ⟨1,0,gO 1200,H⟩/\rR 0 (B6 ⟨1,0,gO 1200,H⟩) []/\(B6 ⟨1,0,gO 1200,H⟩).s.k.m.ay=0/\(B6 ⟨1,0,gO 1200,H⟩).rs=[]:=by
 obtain⟨m1,m2⟩:=jH.make (id:=1) (now:=0) (d:=gO 1200) (by omega) (by omega) (by decide) rfl H;obtain⟨_,_,m3,_,m5,m6,m7⟩:=DX (d:=gO 1200) (c:=0) (by decide) (cW 0) (by omega) H;have hm:(B6 ⟨1,0,gO 1200,H⟩).s.k.m=⟨1,0,0,false⟩:=m3;refine⟨m1,⟨⟨_,0,0,0,m2,⟨fun c hc=>(by cases hc),fun _ _=>rfl,zBo⟩,cW _,cW _,cW _⟩,m7,⟨m5,m6⟩,rfl,⟨zBw 0,by show(0:Int)<=_;omega⟩,by grind,by grind,rfl,⟨fun x hx=>(by cases hx),zBo⟩,cW _⟩,by rw[hm],rfl⟩
theorem rR.ak3{n:bG}(h:rR i n cells)(hi:i<60):rR (i+1) { n with now:=n.now+1,ws:=noW } cells:=by
 obtain⟨get,k,cb,jb,o,g,h1,h2,h3⟩:=h.ok;have hn:=h.now;exact⟨⟨get,k,cb,jb,(o.amv (t:=n.now+1) (by omega)).ws_,g,by omega,by omega,by omega⟩,h.dn,h.still,h.id,⟨by grind,by grind⟩,by grind [h.bP],h.ep,rfl,⟨h.tk.tok,h.tk.HW⟩,by grind [h.cl]⟩
theorem NG(t:nL)(f:ByteArray->Bool)(id:Int):oe (jZ t f) id=(oe t id).map fun e=>{ e with good:=e.good&&!f e.key }:=by
 unfold oe jZ;dsimp only
 induction t.l with
 |nil=>rfl
 |cons e r ih =>
  grind
theorem K9{n:bG}(h:m.t=jZ n.t f){x:kI}(hx:∃e,oe n.t x.tok=some e/\e.key=x.w.key):mT m x=(mT n x&&!f x.w.key):=by
 grind [mT,NG]
theorem K8.kill{n:bG}(h:K8 n)(hr:m.rs=n.rs)(ht:m.t=jZ n.t f):K8 m:=by
 refine⟨fun x hx=>?_,by grind [h.HW]⟩;rw[hr]at hx;obtain⟨h1,e,h2,h3⟩:=h.tok x hx;rw[ht];exact⟨h1,{ e with good:=e.good&&!f e.key },by grind [NG],h3⟩
theorem rR.gr{i:Nat}{n:bG}{cells:List ng}(h:rR i n cells)(hi:i<60){p:dP}(hat:bz n p){ep tick:Int}{cap:Nat}(he:1<=ep/\ep<=4)(ht:0<=tick/\tick<=n.now) :
 ua (jx n 0 ep tick)/\(n.s.k.m.ay<ep->CL ⟨n,p,0,ep,tick,[1],cap⟩)/\rR (i+1) (ud n ep tick) (if n.s.k.m.ay<ep then[]else cells)/\(ud n ep tick).rs=n.rs /\
  aR (ud n ep tick)=(if n.s.k.m.ay<ep then n.rs.map fun _=>false else aR n)/\(ud n ep tick).s.k.m.ay=(if n.s.k.m.ay<ep then ep else n.s.k.m.ay)/\(ud n ep tick).now=n.now /\
  (ud n ep tick).le=(if ep<n.s.k.m.ay then n.le else kJ n.now (if n.s.k.m.ay<ep then⟨0,0,0⟩else n.le) tick ep):=by
 obtain⟨get,k,cb,jb,o,g,h1,h2,h3⟩:=h.ok;have hn:=h.now;have hb:=h.bP;have hid:=h.id;have hc:=h.cl;have hmo:ua (jx n 0 ep tick):=EL (n:=n) (ir:=0) (ep:=ep) (tick:=tick) (by omega) (by omega) (by omega) (by omega);by_cases hlt:n.s.k.m.ay<ep
 ·have hgt:ud n ep tick=Iv n ep tick:=by unfold ud;rw[if_neg (by omega),if_neg (by omega)]
  obtain⟨g1,g2,g3⟩:=o.gr hat (ir:=0) (ep:=ep) (tick:=tick) (l:=[1]) (cap:=cap) (by omega) (by omega) (by omega) (by decide) h.ws (by rw[h.dn,BE];omega) (by omega);have hm0:=o.met;rw[hgt];simp only[if_pos hlt,if_neg (show ¬ep<n.s.k.m.ay by omega)];have hmet:(Iv n ep tick).s.k.m.bP=n.s.k.m.bP/\(Iv n ep tick).s.d.n=n.s.d.n:=by
   have hs:=g1.save;dsimp only at hs;constructor
   ·show(pI n.s.k (uc n ep)).m.bP=_;unfold pI;rw[if_pos hs];rfl
   ·show(ga n.s.k (DH n.s).d (uc n ep)).n=_;unfold ga;rw[if_pos hs];have:(DH n.s).d.n=n.s.d.n:=zH _ _ _;rw[<- this];rfl
  refine⟨hmo,fun _=>g1,⟨⟨_,k+1,cb+9,jb,g2,⟨fun c hc=>(by cases hc),fun _ _=>rfl,zBo⟩,by omega,by omega,by omega⟩,by grind [h.dn],afn g1.save,hid,⟨hn.1,by show n.now<=_;omega⟩,by omega,by omega,rfl,h.tk.kill rfl (f:=Bj) rfl,Az _⟩,(by first|rfl|trivial),?_,g3,(by first|rfl|trivial),(by first|rfl|trivial)⟩;show n.rs.map (mT (Iv n ep tick))=n.rs.map fun _=>false;refine List.map_congr_left fun x hx=>?_;rw[K9 (n:=n) (m:=Iv n ep tick) (f:=Bj) rfl (h.tk.tok x hx).2];simp[Bj]
 ·simp only[if_neg hlt];by_cases hs:ep<n.s.k.m.ay
  ·have hgt:ud n ep tick=n:=if_pos hs;rw[hgt];simp only[if_pos hs];exact⟨hmo,fun h=>absurd h hlt,⟨⟨get,k,cb,jb,o,g,by omega,by omega,by omega⟩,h.dn,h.still,hid,⟨hn.1,by omega⟩,by omega,h.ep,h.ws,h.tk,by omega⟩,(by grind),(by grind),(by grind),(by grind),(by grind)⟩
  ·have hgt:ud n ep tick={ n with le:=kJ n.now n.le tick ep }:=by unfold ud;rw[if_neg hs,if_pos (by omega)]
   rw[hgt];simp only[if_neg hs];exact⟨hmo,fun h=>absurd h hlt,⟨⟨get,k,cb,jb,o.le_ _,g,by omega,by omega,by omega⟩,h.dn,h.still,hid,⟨hn.1,by grind⟩,by grind,h.ep,h.ws,⟨h.tk.tok,h.tk.HW⟩,by omega⟩,(by grind),(by first|rfl|trivial),(by grind),(by grind),(by grind)⟩
structure GL(r:Rg.dy):Prop where
 len:r.L.length<100000/\0<r.L.length
 own:∀k,Br r k=1
theorem GL.mk1(ep:Int)(c1 c2:Nat):GL (dQ ep [1] c1 c2):=⟨YC (by omega),NC (by omega)⟩
theorem afs{x:Ix.dO}{l:List (ByteArray×Int)}(h:Ix.Has x l):(∀k∈Ix.keysOf x.t,k.size<=aB)/\x.t.length<100000/\(Ix.keysOf x.t).length<100000:=by
 have hi:=h.inv.hi;refine⟨fun k hk=>?_,by omega,?_⟩
 ·obtain⟨⟨k',q⟩,hm,rfl⟩:=kj.1 hk;obtain⟨j,h1,_,h3,_⟩:=Ix.A6.1 hm;rw[<- h3];exact h.inv.size j h1
 grind [Ix.keysOf,Ix.gV]
theorem rR.grn{n:bG}(h:rR i n cells)(hi:i<60)(hat:bz n p){ep tick:Int}(he:1<=ep/\ep<=4)(ht:0<=tick/\tick<=n.now)(hep:ep=n.s.k.m.ay):Nu ⟨n,p,0,ep,tick,[1],cap⟩:=by
 have hn:=h.now;have hid:=h.id;obtain⟨k1,k2,k3⟩:=afs hat.st.fl.idx;exact⟨hat,EL (n:=n) (ir:=0) (ep:=ep) (tick:=tick) (by omega) (by omega) (by omega) (by omega),(show Rg.jE [1]=true by decide),⟨he.1,by grind,hep,h.met.1⟩,by grind,k1,⟨k2,k3⟩,by grind [B8],fun k c1 c2=>by grind [NC]⟩
theorem ab6{l:List α}{x:α}(h:x∈lq l j):x∈l:=by
 grind [lq]
theorem EN(l:List α)(j:Nat):lq l j=l.eraseIdx j:=by
 unfold lq
 grind
theorem B9(f:α->β)(l:List α)(j:Nat):(lq l j).map f=lq (l.map f) j:=by
 unfold lq;rw[T3,List.map_take,List.map_drop]
theorem ab7{l:List ByteArray}(h:l.Nodup)(hj:j<l.length):l[j]∉lq l j:=by
 grind [lq,List.getElem_cons_drop,List.take_append_drop]
theorem WT.kill{get:ByteArray->Option aW}(g:WT get cells)(key:ByteArray):WT (vh get key none) (BD cells key)/\(BD cells key).length<=cells.length:=by
 unfold BD;rcases EM cells key with⟨h1,h2⟩ | ⟨j,hj,h1,h2⟩
 ·rw[if_pos (by omega)];refine⟨⟨fun c hc=>?_,fun k hk=>?_,g.nd⟩,cW _⟩
  ·obtain⟨a,b,d⟩:=g.has c hc
   grind [vh]
  ·unfold vh;split
   ·rfl
   ·exact g.no k hk
 ·rw[if_neg (by omega),h1,Ay];have hnd:=ab7 g.nd (j:=j) (by grind);rw[<- B9]at hnd;have e:(cells.map (·.key))[j]'(by grind)=key:=by rw[zBQ,<- b8 hj];exact h2
  rw[e]at hnd;have hne:∀c∈lq cells j,c.key≠key:=fun c hc h=>hnd (kj.2 ⟨c,hc,h⟩);refine⟨⟨fun c hc=>?_,fun k hk=>?_,?_⟩,?_⟩
  ·obtain⟨a,b,d⟩:=g.has c (ab6 hc)
   grind [vh]
  ·unfold vh;split
   ·rfl
   ·rename_i hkk;refine g.no k fun c hc h=>?_;have hc2:c∈cells.take j++cells[j]::cells.drop (j+1):=by rw[List.getElem_cons_drop,List.take_append_drop];exact hc
    rcases yG.1 hc2 with h3|h3
    ·exact hk c (CQ _ h3) h
    ·rcases uf.1 h3 with h3|h3
     ·grind
     ·exact hk c (LQ _ h3) h
  ·rw[B9,EN];exact g.nd.sublist (List.eraseIdx_sublist _ _)
  grind [EN]
theorem ahF{n:bG}{key:ByteArray}(hk:dB key=true):(mw n key).s.d.n=n.s.d.n:=by
 have hA:iG [key]=true:=by simp[iG,hk]
 have ek:lV n.s [key]=flS (uK (mS n.s [key]) [key] [key].length):=by
  unfold lV;rw[if_pos hA];unfold M9 oK;rw[if_pos hA];rfl
 have e:(mw n key).s=lV n.s [key]:=rfl;rw[e,ek];show(je (mS n.s [key]).fl [key] 1).d.n=_;have e2:(je (mS n.s [key]).fl [key] 1).d.n=(mS n.s [key]).d.n:=ahq _ _;rw[e2];show(kU n.s.jr [key]).d.n=_;unfold kU;rw[if_pos hA,if_neg (by simp)];show(eM n.s.jr [key] 1).d.n=_;exact zH _ _ _
theorem rR.kill{i:Nat}{n:bG}{cells:List ng}(h:rR i n cells)(hi:i<60){key:ByteArray}(hk:dB key=true) :
 rR (i+1) (mw n key) (BD cells key)/\aR (mw n key)=n.rs.map (fun x=>mT n x&&!decide (x.w.key=key))/\(mw n key).s.k=n.s.k:=by
 obtain⟨get,k,cb,jb,o,g,h1,h2,h3⟩:=h.ok;have hn:=h.now;have hb:=h.bP;have hc:=h.cl;have hks:=nu hk;obtain⟨k1,k2⟩:=o.kill hk (by rw[h.dn,BE];omega) (by omega) (by omega);obtain⟨g1,g2⟩:=g.kill key;refine⟨⟨⟨_,k+1,_,_,k1,g1,by omega,by omega,by omega⟩,by grind [ahF,h.dn],WQ o hk,h.id,⟨hn.1,by show n.now<=_;omega⟩,by grind,by grind [h.ep],h.ws,h.tk.kill rfl (f:=hasB [key]) rfl,by omega⟩,?_,k2⟩;show n.rs.map (mT (mw n key))=_;refine List.map_congr_left fun x hx=>?_;rw[K9 (n:=n) (m:=mw n key) (f:=hasB [key]) rfl (h.tk.tok x hx).2];simp[hasB]
theorem ab8{H:PH}(h:jt H t)(key:ByteArray)(b:Nat)(hid:id<=t.last):oe (va t key b) id=oe t id:=by
 grind [oe,va]
theorem rR.ak4{n:bG}(h:rR i n cells)(hi:i<60)(hat:bz n p){w:ot}(hk:dB w.key=true)(b:Nat):rR (i+1) (jw n w b) cells/\aR (jw n w b)=aR n++[true]:=by
 obtain⟨get,k,cb,jb,o,g,h1,h2,h3⟩:=h.ok;have hn:=h.now;have hb:=h.bP;have hc:=h.cl;have o2:=o.read (w:=w) (b:=b) hk (by omega);have hl:=hat.tok.last;have hold:∀x∈n.rs,oe (jw n w b).t x.tok=oe n.t x.tok:=fun x hx=>ab8 hat.tok w.key b (h.tk.tok x hx).1;refine⟨⟨⟨get,k+1,cb,jb,o2,g,by omega,by omega,by omega⟩,h.dn,h.still,h.id,⟨hn.1,by show n.now<=_;omega⟩,by show n.s.k.m.bP<=_;omega,h.ep,h.ws,⟨fun x hx=>?_,?_⟩,by omega⟩,?_⟩
 ·rcases yG.1 hx with hx|hx
  ·obtain⟨a,e,c,d⟩:=h.tk.tok x hx;exact⟨by show x.tok<=n.t.last+1;omega,e,by grind,d⟩
  ·rw[zAZ]at hx;subst hx;exact⟨zBw _,_,TR hat.tok w.key b,rfl⟩
 ·show((n.rs++[_]).map _).Nodup;rw[T3,YO];refine⟨h.tk.HW,by simp,fun x hx y hy=>?_⟩;obtain⟨z,hz,rfl⟩:=kj.1 hx;have e:y=n.t.last+1:=by simpa using hy
  have:=(h.tk.tok z hz).1;omega
 ·show(n.rs++[_]).map (mT (jw n w b))=_;rw[T3];congr 1
  ·refine List.map_congr_left fun x hx=>?_
   grind [mT]
  grind [CM]
theorem TS(h:id'≠id):oe (qC t id) id'=oe t id':=by
 unfold oe qC
 grind
theorem K8.ajY{n:bG}(h:K8 n)(hk:k<n.rs.length)(hr:m.rs=n.rs.eraseIdx k)(ht:m.t=qC n.t (gl n.rs k).tok):K8 m/\aR m=lq (aR n) k:=by
 have hne:∀x∈n.rs.eraseIdx k,x.tok≠(gl n.rs k).tok:=fun x hx e=>by
  have hnd:∀(l:List kI) (k:Nat) (hk:k<l.length),(l.map (·.tok)).Nodup->x∈l.eraseIdx k->x.tok≠l[k].tok:=by
   intro l
   induction l with
   |nil=>grind
   |cons a l ih =>
    intro k hk hn hx;rw[LS,zBT]at hn;cases k with
    |zero=>grind
    |succ k =>
     grind
  grind [h.HW,b8]
 refine⟨⟨fun x hx=>?_,?_⟩,?_⟩
 ·rw[hr]at hx;obtain⟨a,e,b,c⟩:=h.tok x (List.eraseIdx_subset hx);rw[ht];exact⟨a,e,by grind [TS],c⟩
 ·rw[hr];exact h.HW.sublist ((List.eraseIdx_sublist _ _).map _)
 ·unfold aR;rw[hr,<- B9,EN]
  grind [List.map_congr_left,mT,TS]
theorem WT.set{get:ByteArray->Option aW}(g:WT get cells){key val:ByteArray}(hk:dB key=true)(hv:val.size<=200):WT (vh get key (some ⟨key,val,0,false⟩)) (uT cells key val)/\(uT cells key val).length<=cells.length+1:=by
 have hm:∀c∈Mj key cells,c∈cells/\c.key≠key:=fun c hc=>by
  have:=zBc.1 hc
  grind
 refine⟨⟨fun c hc=>?_,fun k hkk=>?_,?_⟩,?_⟩
 ·rcases yG.1 hc with hc|hc
  ·obtain⟨h1,h2⟩:=hm c hc;obtain⟨a,b,d⟩:=g.has c h1
   grind [vh]
  ·rw[zAZ]at hc;subst hc;exact⟨hv,hk,if_pos rfl⟩
 ·have h1:key≠k:=hkk ⟨key,val,true⟩ (LQ _ (zAZ.2 rfl));unfold vh;rw[if_neg fun e=>h1 e.symm];refine g.no k fun c hc h=>?_;by_cases hck:c.key=key
  ·grind
  ·exact hkk c (CQ _ (zBc.2 ⟨hc,by simp[hck]⟩)) h
 ·show((Mj key cells++[_]).map _).Nodup;rw[T3,YO];refine⟨g.nd.sublist (zBC.map _),by simp,fun x hx y hy=>?_⟩
  grind
 ·show(Mj key cells++[_]).length<=_;rw[wM,ID];have:=T1 (fun c:ng=>!decide (c.key=key)) cells;show(cells.filter _).length+1<=_;omega
def Ao(n:bG)(cells:List ng)(k:Nat)(val:ByteArray)(has:Bool):Bool:=gl (aR n) k&&(oP n.le n.now n.s.k.m.ay&&(has&&decide (val.size<=200)))
theorem rR.red{i:Nat}{n:bG}{cells:List ng}(h:rR i n cells)(hi:i<60){p:dP}(hat:bz n p){r:Rg.dy}(hr:GL r){k:Nat}(hk:k<n.rs.length){val:ByteArray}{has:Bool}(hv:val.size<=210) :
 CJ ⟨n,p,r,k,val,has⟩/\rR (i+1) (mM n r k val has) (if Ao n cells k val has=true then uT cells (gl n.rs k).w.key val else cells)/\aR (mM n r k val has)=lq (aR n) k/\(mM n r k val has).s.k=n.s.k:=by
 obtain⟨get,q,cb,jb,o,g,h1,h2,h3⟩:=h.ok;have hn:=h.now;have hb:=h.bP;have hc:=h.cl;have hmem:gl n.rs k∈n.rs:=by rw[b8 hk];exact List.getElem_mem _
 obtain⟨x1,x2,x3⟩:=o.rs _ hmem;have hks:=nu x1;obtain⟨t1,t2⟩:=h.tk.ajY (m:=mM n r k val has) hk rfl rfl;have hsv:gJ n r (gl n.rs k).w.key=oP n.le n.now n.s.k.m.ay:=GK ((hr.own _).trans h.id.symm);have hgg:gl (aR n) k=mT n (gl n.rs k):=Fk hk;have hdn:(mM n r k val has).s.d.n=n.s.d.n:=by
  unfold mM;dsimp only;split
  ·exact ajE _ _
  ·rfl
 have hst:Still (mM n r k val has).s.d:=WR h.still;have hfC:sB n r (gl n.rs k) val has=Ao n cells k val has:=by
  unfold sB Ao;rw[hsv,hgg];cases has
  ·simp
  ·grind [jh]
 by_cases hv2:val.size<=200
 ·obtain⟨r1,r2,r3⟩:=o.red (p:=p) (r:=r) (i:=k) (val:=val) (has:=has) hat hr.len hk hv2 (by rw[h.dn,BE];omega) (by omega);rw[hfC]at r2;refine⟨r1,⟨?_,by grind [h.dn],hst,h.id,⟨hn.1,by show n.now<=_;omega⟩,by grind,by grind [h.ep],h.ws,t1,?_⟩,t2,r3⟩
  ·by_cases hf:Ao n cells k val has=true
   ·rw[if_pos hf]at r2 ⊢;have hh:has=true:=by
     unfold Ao at hf;simp only[jB]at hf;exact hf.2.2.1
    have e:jG (gl n.rs k) (jh val has)=⟨(gl n.rs k).w.key,val,0,false⟩:=by rw[hh];rfl
    rw[e]at r2;exact⟨_,q+1,_,jb,r2,(g.set x1 hv2).1,by omega,by omega,by omega⟩
   grind
  ·split
   ·have:=(g.set (key:=(gl n.rs k).w.key) x1 hv2).2;omega
   ·omega
 ·have hf:¬Ao n cells k val has=true:=by
   unfold Ao;rw[show decide (val.size<=200)=false from Ml hv2];simp
  have hfR:¬sB n r (gl n.rs k) val has=true:=by rw[hfC];exact hf
  have eT:mM n r k val has={ n with rs:=n.rs.eraseIdx k,t:=qC n.t (gl n.rs k).tok }:=by unfold mM;rw[if_neg hfR]
  have hel:(n.rs.eraseIdx k).length<=q:=by have:=o.num;rw[List.length_eraseIdx];split<;>omega
  have hnum:=o.num;have hul:(qC n.t (gl n.rs k).tok).l.length<=q:=YP (T1 _ _) (by omega);have hvz:has=false\/¬(jh val has).size<=200:=by
   cases has
   ·exact .inl rfl
   ·exact .inr hv2
  rw[if_neg hf];have hrd:uR.rd ⟨n,p,r,k,val,has⟩=gl n.rs k:=rfl;obtain⟨r1,_,_⟩:=o.red (p:=p) (r:=r) (i:=k) (val:=oN) (has:=has) hat hr.len hk (by decide) (by rw[h.dn,BE];show _\/cb+((gl n.rs k).w.key.size+0+14)<=_;omega) (by omega);have hvn:∀has,jh oN has=oN:=fun has=>by cases has<;>rfl
  refine⟨⟨hat,hr.len,r1.free,hk,r1.room,r1.tok,r1.key,by grind [aB],fun hz=>?_,fun hz=>?_⟩,⟨?_,by grind [h.dn],hst,h.id,⟨hn.1,by grind⟩,by grind,by grind [h.ep],h.ws,t1,by omega⟩,t2,by rw[eT]⟩
  ·rcases hvz with hz2|hz2
   ·have:=r1.put;dsimp only at this hz ⊢;rw[hvn]at this;rw[show jh val has=oN by rw[hz2];rfl];exact this (by decide)
   grind
  ·rcases hvz with hz2|hz2
   ·have:=r1.dev;dsimp only at this hz ⊢;rw[hvn]at this;rw[show jh val has=oN by rw[hz2];rfl];exact this (by decide)
   grind
  ·rw[eT];obtain⟨c,es,o1,o2,o3⟩:=o.one;refine⟨get,q+1,cb,jb,⟨⟨c,es,o1,o2,by omega⟩,by omega,o.met,o.id,o.now,⟨hnum.1,by grind,hnum.2.2.1,by show n.t.last<=_;omega,by grind,by grind,by grind⟩,fun x hx=>by have:=o.rs x (List.eraseIdx_subset hx);grind⟩,g,by omega,by omega,by omega⟩
theorem rR.open_{i:Nat}{n:bG}{cells:List ng}(h:rR i n cells)(hi:i<60)(mC:Nat)(keep:Nat->Bool)(H:PH) :
 ∃o:yy,o.d=mG n.s.d mC keep/\o.H=H/\xX.pre ⟨1,n.now,o⟩/\rR (i+1) (HH ⟨1,n.now,o⟩) cells/\(HH ⟨1,n.now,o⟩).s.k.m.ay=n.s.k.m.ay:=by
 obtain⟨get,k,cb,jb,o,g,h1,h2,h3⟩:=h.ok;have hn:=h.now;have hb:=h.bP;have hc:=h.cl;obtain⟨oa,o1,o2,o3,o4,o5,o6,o7,o8⟩:=o.open_ (d':=mG n.s.d mC keep) (now:=n.now) (fun r j=>TN h.still mC keep r j) rfl rfl (by omega) (by omega) (by omega) H;rw[h.id]at o3 o4 o5 o6 o7 o8;refine⟨oa,o1,o2,o3,⟨⟨get,k+1,cb,jb,o4,g,by omega,by omega,by omega⟩,by grind [h.dn],⟨o6,o7⟩,rfl,⟨hn.1,by show n.now<=_;omega⟩,by rw[o5];show n.s.k.m.bP+1<=_;omega,by rw[o5];exact h.ep,rfl,⟨fun x hx=>(by cases hx),zBo⟩,by omega⟩,by rw[o5];rfl⟩
end Go.Proofs.YtfjgoonelcaggaaGreat
namespace Go.Sx
section
structure Pk where
 f:Nat
 pick:List SV->S->Nat
 cs:List cB
def ahG:List Pk->Nat->Option Pk
 |[],_=>none
 |p::r,f=>bif Nat.beq p.f f then some p else ahG r f
def ahH:List cB->Nat->Option cB
 |[],_=>none
 |c::_,0=>some c
 |_::r,n+1=>ahH r n
def aft(mB:Nat->Option cB)(pk:List Pk):Sx.Spec:=fun f=>match ahG pk f with
 |some p=>some fun args s K=>match ahH p.cs (p.pick args s)with
  |some C=>rq C args s K
  |none=>False
 |none=>(mB f).map rq
def NH(X:Cx)(f:Nat):List cB->Prop
 |[]=>True
 |c::r=>av X f c/\NH X f r
def WU(X:Cx):List Pk->Prop
 |[]=>True
 |p::r=>NH X p.f p.cs/\WU X r
theorem NH.at_{X:Cx}{f:Nat}:∀ {l:List cB},NH X f l->∀n C,ahH l n=some C->av X f C
 |[],_,_,_,h=>by cases h
 |c::_,h,0,C,hc=>by simp only[ahH,T2]at hc;subst hc;exact h.1
 |_::r,h,n+1,C,hc=>NH.at_ (l:=r) h.2 n C hc
theorem WU.at_{X:Cx}:∀ {l:List Pk},WU X l->∀f p,ahG l f=some p->NH X f p.cs
 |[],_,_,_,h=>by cases h
 |q::r,h,f,p,hp=>by
  simp only[ahG]at hp;by_cases hq:q.f=f
  ·subst hq;simp only[fI,iU,T2]at hp;subst hp;exact h.1
  ·rw[gM hq]at hp;exact WU.at_ h.2 f p hp
theorem afu{X:Cx}{mB:Nat->Option cB}(h:∀f C,mB f=some C->∀args s K,rq C args s K->xB X f args s K){pk:List Pk}(hp:WU X pk):aj5 X (aft mB pk):=by
 intro f g hg args s K hK;unfold aft at hg;split at hg
 ·rename_i p hpk;cases hg;split at hK
  ·rename_i C hC;exact(hp.at_ f p hpk).at_ _ C hC args s K hK
  grind
 ·exact XB h f g hg args s K hK
def aiF(Y:Gx)(mB:List (Nat×cB))(pk:List Pk)(lh:Nat->LH)(n:Nat):k9:=MF Y (aft (Jv mB) pk) lh n
theorem afv{Y:Gx}(hY:Y.Ok){mB:List (Nat×cB)}(ht:Ac Y.G.X mB){pk:List Pk}(hp:WU Y.G.X pk){lh:Nat->LH}{n:Nat}:Sb Y.G.X (aiF Y mB pk lh n) :=
 Ed hY (afu (fun f C h=>ht.at_ f C h) hp) n
def TT(Y:Gx)(mB:List (Nat×cB))(pk:List Pk)(f:Nat)(C:cB)(l:C.α->List (Nat×List An×List An)):Prop :=
 Ee Y C (fun a=>aiF Y mB pk (Sq 1000 (l a)) 20) (fun a=>Sq 1000 (l a)) f
structure EO(Y:Gx)(mB:List (Nat×cB))(pk:List Pk)(f:Nat)(C:cB)(l:C.α->List (Nat×List An×List An)):Prop where
 body:TT Y mB pk f C l
theorem EO.of{Y:Gx}{mB:List (Nat×cB)}{pk:List Pk}{f:Nat}{C:cB}{l:C.α->List (Nat×List An×List An)}{p:Prop}(h:TT Y mB pk f C l=p)(hp:p):EO Y mB pk f C l:=⟨h.mpr hp⟩
theorem ak5{Y:Gx}(hY:Y.Ok){mB:List (Nat×cB)}(ht:Ac Y.G.X mB){pk:List Pk}(hp:WU Y.G.X pk){f:Nat}{C:cB}{l:C.α->List (Nat×List An×List An)}(hb:EO Y mB pk f C l):av Y.G.X f C :=
 fun _ _ _ h=>acq hY (fun _=>afv hY ht hp) hb.body h
def ahI(c:Nat)(args:List SV)(s:S):Nat:=match args with
 |.a (.ptr t _ _ _)::_=>match s.hp.find t with
  |some (_,.obj _ cs)=>match cs[c]? with
   |some .nil=>0
   |_=>1
  |_=>1
 |_=>1
end
end Go.Sx
namespace Go.Proofs.YtfjgoonelcaggaaGreat
open Go.Sx
def Q6:cB where
 α:=Unit
 m:=0
 m':=0
 args:=fun _=>[]
 res:=fun _ _=>.a .tt
def aiG:List Pk:=[⟨13,ahI 3,[KJ,KZ]⟩]
def afw:List (Nat×cB):=[(12,Ef),(11,qD),(15,EG),(16,TG),(17,TA),(25,TE),(19,KS),(50,Rg.aeO)]
def kB:ByteArray:=⟨#[107]⟩
def vB:ByteArray:=⟨#[118]⟩
theorem mo:af 1 1 (aV 1 [Value.int .i64 1]) (aa Rg.encI [1]):=.fN fun i hi=>by
 have:i=0:=by omega
 subst this;rfl
def GM(u:List jv)(x:bG)(w:Nat)(y:dP)(z:kC)(v:bG)(s:dP)(f:Nat)(g:Prop):=di (ax u.length (bU x) w y.wc/\ax (cw z.n) (cw x) z.p.rc y.rc/\z.n.asked=x.asked/\v.t.last=x.t.last/\fh s.mb y.mb/\aA (bU x) f 7 (aa iI u) (aa iI x.ws)/\tq x v/\g)
def uV(x:UInt8):ByteArray:={ data:=List.toArray (A1 x []) }
def Q7(x u:dP)(y z:bG)(v:gR)(w:Gt)(t:wI)(f:Rg.dy)(g:Prop)(h:pz->Prop):=pK x u y z y x (aM (sY y.s z.s x.p u.p (ah (iu v.q z (B6 w).now (nA (qE v t) f g (∀i:pz,h i))))))
def WV(z:bG)(u:dP)(v s:Int)(t:gR)(f:Gt)(g:wI)(h:yC->pz->Prop):=bz z u->∃x:yC,ah (v=x.w.id/\s=x.w.op/\uV 107=x.w.key/\Q7 u x.p z x.n t f g x.r (wG x/\x.w.node=(0:Int)) fun y=>bz (gD.n (dZ x y)) y.p->h x y)
def Q8(z:Int)(u:Gt->Prop):=∃y:Int,z=y/\cZ (∃x:Gt,(1:Int)=x.id/\aM (iZ (gO y) x.d ((fun v=>none)=x.H/\(0:Int)=x.now/\DI x/\u x)))
def WW(y:Nat)(z:Bool)(x:gD)(u v:Int)(w:Prop):=dS 0 y 0 (rV z (ag (bT x.rs) == (1:Int)) (dS 0 (bT x.rs) 0 (jK u v w (Exists (bN (aq false))))) (Exists (bN (aq false))))
def Q9(y:bG)(z:dP)(u:Ak->Nat->Prop):Ak->Prop:=fun(x:Ak)=>aM (k8 (y.id=x.n.id) (0=0) y x.n z x.p (tq x.n y) (cw x.n<1000/\∀v:Nat,True->u x v))
theorem WX:EO (Y Tryz.prog) afw aiG 14 Q6 fun _=>[(14,[],[An.El 1 (.mk 1000 [] [])])]:=EO.of (p :=
 aP (Q8 400 fun y=>∀i:dP,bz (B6 y) i->∃v:KI,ah ((1:Int)=v.id/\(1:Int)=v.op/\uV 107=v.key/\jg (B6 y) v.n i v.p (aT v.key<=aB) (∀B:Nat,True->∃t:kC,ah (jg v.n t.n v.p t.p (0=0) (uU (B6 y) t.n (t.n.ws=[]) (∀C:Nat,True->∃x:gR,ah (az 2/\(0:Int)=x.ir/\(1:Int)=x.n.id/\(2:Int)=x.ep/\(0:Int)=x.tick/\mI 0 (aJ (uS dx (ax 1 (aj x.l) 1 x.cap) (fH i x.p (B6 y) x.n (aM (t.n.id=x.n.id/\ah (GM noW x.n 0 x.p t (B6 y) i 0 (TH (B6 y).le x.n.le (bC (sY (B6 y).s x.n.s i.p x.p.p ((B6 y).now=x.n.now/\dc x.l 1 (aV 1 (gm 1)) Rg.encI/\CL x/\∀f:wI,WV x.q f.p 2 1 x y f fun d j=>Exists (Q9 (gD.n (dZ d j)) j.p fun e D=>∃u:uR,ah (aS u.k (uV 118=u.val/\true=u.has/\Q7 j.p u.p (gD.n (dZ d j)) u.n x y f u.r (CJ u) fun A=>WV u.q.n A.p 3 1 x y f fun c m=>∃z:yC,ah ((4:Int)=z.w.id/\(2:Int)=z.w.op/\uV 107=z.w.key/\Q7 m.p z.p (gD.n (dZ c m)) z.n x y f z.r (wG z/\z.w.node=(0:Int)) fun g=>bz (gD.n (dZ z g)) g.p->aK true (zw (GJ (gl [aaw v] 0).err 6 true (zw (GJ (gl (oO t.n) 0).kind 1 (ag (bT (gD.rs (dZ d j))) == (0:Int)) (aK (ag (aF (aH e.n.rs)) == (1:Int)) (WW (aF (aH e.n.rs)) (fc (gl (aH e.n.rs) 0) (uV 107)) u.q (gl u.q.rs 0).id 2 (dS 0 (bT u.q.rs) 0 (rV (fc (gl u.q.rs 0).val (uV 118)) (ag (bT (gD.rs (dZ c m))) == (1:Int)) (WW (bT (gD.rs (dZ c m))) (gl (gD.rs (dZ c m)) 0).has (dZ z g) (gl (gD.rs (dZ z g)) 0).err 0 (∃h:wF,ah (uV 107=h.key /\
 gn (gD.n (dZ z g)) h.n g.p h.p (0=0) (Bv x.q h (B6 y) (gD.n (dZ z g)) (qE x f) (aK (gJ h.n h.r h.key) (∃o:Rg.Ys,ah ((1:Int)=o.n/\nA (qE x f) o.r (aj o.r.l<100000) (aP (Exists (bN (aq (decide (o.n∈o.r.l)))))))) (Exists (bN (aq false)))))))) (Exists (bN (aq false)))))) (Exists (bN (aq false)))))))) (Exists (bN (aq false))))))))))))))))))))))))) (by kernel_rfl) (by
 delta rV k8 aK cR qd aO aj pJ ai dY aA az cI pL aM dZ aF mz eE cw dN fL fB A1 TH nv aU iA dr pK dx bN aP aZ nA ag bD aT aq Bv dF GM dS WV fH aJ gn gF ah bU aS uU aD di DI fh uV bT tq uM oO jg uS Q7 fc ax jK gm bA rM cN GJ kz qE cZ iu mI mg bC Q8 Bs WW zw Q9 Bc dc
 try dsimp -iota -proj only
 intro _ _;have hkB:dB kB=true:=by decide
 have hks:kB.size<=aB:=by decide
 obtain⟨mpre,hok0⟩:=jH.make (id:=1) (now:=0) (d:=gO 400) (by omega) (by omega) (by decide) rfl (fun _=>none);refine⟨400,rfl,trivial,fun _ _=>⟨Gt.mk 1 0 (gO 400) fun _=>none,?_⟩⟩
 and_intros<;>first|exact cU|exact mpre.1|exact mpre.2.1|exact mpre.2.2.1|exact mpre.2.2.2.1|exact mpre.2.2.2.2.1|exact mpre.2.2.2.2.2|(intro h_;revert h_)|omega|grind [af.refl]|rfl|exact af.refl _ _ _|exact cW _|(dsimp only;omega)|skip
 obtain⟨n0,hn0⟩:∃n0,n0=B6 ⟨1,0,gO 400,fun _=>none⟩:=⟨_,rfl⟩
 rw[<- hn0]at hok0 ⊢;have hw0:n0.ws=[]:=by rw[hn0];rfl
 have hr0:n0.rs=[]:=by rw[hn0];rfl
 have hi0:n0.id=1:=by rw[hn0];rfl
 have hnow0:n0.now=0:=by rw[hn0];rfl
 have he0:n0.s.k.m.ay=0:=by
  have:=(DX (d:=gO 400) (c:=0) (by decide) (cW 0) (by omega) (fun _=>none)).2.2.1;rw[hn0];show(iN (zC ⟨gO 400,fun _=>none⟩)).k.m.ay=0;rw[this]
 intro b hat0;refine⟨KI.mk n0 b 1 1 kB,?_⟩
 and_intros<;>first|exact cU|exact hks|exact kL|skip
 intro c1 _;refine⟨kC.mk n0 b,?_⟩
 and_intros<;>first|exact cU|exact hw0|exact kL|skip
 intro c2 _;obtain⟨n1,hn1⟩:∃n1,n1={ n0 with ws:=noW }:=⟨_,rfl⟩
 have e1:n1=n0:=by rw[hn1];cases n0;simp only at hw0;subst hw0;rfl
 have hok1:jH n1 0 (fun _=>none) 0 0:=by rw[e1];exact hok0
 have hat1:bz n1 { b with wc:=0 }:=by rw[hn1];exact⟨hat0.st,hat0.tok,hat0.sep,cW 0,hat0.rc⟩
 have hi1:n1.id=1:=by rw[e1];exact hi0
 have hnow1:n1.now=0:=by rw[e1];exact hnow0
 obtain⟨gr0,hok2,hep2⟩:=hok1.gr hat1 (ir:=0) (ep:=2) (tick:=0) (l:=[1]) (cap:=1) (by omega) (by grind) (by omega) (by decide) (by grind) (by omega) (by omega);have hrw:af n1.ws.length 7 (aa iI noW) (aa iI n1.ws):=by rw[e1,hw0];exact af.refl _ _ _
 have hwl:noW.length=n1.ws.length/\n1.ws.length<=0:=by rw[e1,hw0];exact⟨rfl,cW 0⟩
 have hwz:n1.ws.length=0:=hwl.1.symm;refine⟨gR.mk n1 { b with wc:=0 } 0 2 0 [1] 1,?_⟩;rw[<- e1]
 and_intros<;>first|exact cU|exact gr0|exact mo|exact hrw|exact hwl.1|exact hwl.2|exact hi1.symm|exact cW 1|(intro h_;revert h_)|omega|with_reducible exact af.refl _ _ _|rfl|grind|grind|(dsimp only;omega)|skip
 rintro⟨p2,rc1,rc2⟩ hat2;obtain⟨n2,hn2⟩:∃n2,n2=Iv n1 2 0:=⟨_,rfl⟩
 have eq2:gR.q ⟨n1,{ b with wc:=0 },0,2,0,[1],1⟩=n2:=hn2.symm;have hsv2:NB (Iv n1 2 0) (dQ 2 [n1.id] rc1 rc2):=NB.gr hok1.id (by omega) (by omega) (by omega) (by omega) hep2;rw[hi1]at hsv2;have hr2:n2.rs=[]:=by rw[hn2];show n1.rs=[];rw[e1];exact hr0
 have hnow2:n1.now=n2.now:=by rw[hn2];rfl
 have hnz2:n2.now=0:=by rw[<- hnow2];exact hnow1
 rw[eq2]at hat2 ⊢;rw[<- hn2]at hsv2 hok2;have hrg:(dQ 2 [1] rc1 rc2).L.length<100000/\0<(dQ 2 [1] rc1 rc2).L.length:=YC (by omega);have hrl:(dQ 2 [1] rc1 rc2).l=[1]:=rfl;dsimp only;generalize dQ 2 [1] rc1 rc2=r at *;have ok3:wG ⟨n2,p2,r,⟨0,2,1,kB⟩,none⟩:=hok2.ask hat2 hrg hks fun h=>absurd h (by decide);refine⟨⟨n2,p2,r,⟨0,2,1,kB⟩,none⟩,?_⟩
 and_intros<;>first|exact cU|exact ok3|exact hnow2|exact kL|skip
 rintro b3 hat3;have e3:∀b,kW n2 r ⟨0,2,1,kB⟩ none b=⟨jw n2 ⟨0,2,1,kB⟩ b,[],[]⟩:=fun b=>TO hsv2 (DQ (.inl rfl) hkB) rfl rfl;dsimp only at hat3 ⊢;rw[e3]at hat3 ⊢;have hok3:jH (jw n2 ⟨0,2,1,kB⟩ b3.b) 2 (fun _=>none) 9 0:=hok2.read (w:=⟨0,2,1,kB⟩) hkB (by omega);have hg3:gl (jw n2 ⟨0,2,1,kB⟩ b3.b).rs 0=⟨⟨0,2,1,kB⟩,n2.t.last+1⟩:=by
  show gl (n2.rs++[_]) 0=_;rw[hr2];rfl
 have hl3:(jw n2 ⟨0,2,1,kB⟩ b3.b).rs.length=1:=by
  show(n2.rs++[_]).length=1;rw[hr2];rfl
 have hsv3:NB (jw n2 ⟨0,2,1,kB⟩ b3.b) r:=hsv2.same rfl rfl rfl rfl;have hf3:=afq hat2 hsv2 ⟨0,2,1,kB⟩ b3.b (v:=vB) (by decide);have hle3:(jw n2 ⟨0,2,1,kB⟩ b3.b).le=n2.le:=rfl;have hnow3:n1.now=(jw n2 ⟨0,2,1,kB⟩ b3.b).now:=hnow2;have hkey3:(gl (aH (jw n2 ⟨0,2,1,kB⟩ b3.b).rs) 0)=kB:=by
  show gl (aH (n2.rs++[_])) 0=_;rw[hr2];rfl
 generalize jw n2 ⟨0,2,1,kB⟩ b3.b=n3 at *;dsimp only at hat3 ⊢;have hlt3:n3.rs.length<1000:=by omega
 refine⟨Ak.mk n3 b3.p,?_⟩
 and_intros<;>first|exact cU|exact hlt3|(intro h_;revert h_)|omega|grind [af.refl]|rfl|grind|grind|(dsimp only;omega)|skip
 intro c4 _;obtain⟨ro3,hok4,hk4⟩:=hok3.red hat3 hrg (i:=0) (val:=vB) (has:=true) (by omega) (by decide) (.inl (by rw[hg3];show 9+(kB.size+vB.size+14)<=378;decide)) (by omega);rw[hg3,if_pos hf3]at hok4;refine⟨uR.mk n3 b3.p r 0 vB true,?_⟩
 and_intros<;>first|exact cU|exact ro3|exact hle3.symm▸rfl|exact hnow3|exact kL|skip
 rintro b5 hat5;have e5:uR.q ⟨n3,b3.p,r,0,vB,true⟩=⟨mM n3 r 0 vB true,[],[⟨2,1,kB,0,vB,true⟩]⟩:=by
  unfold uR.q aaV;rw[hg3];rfl
 rw[e5]at hat5 ⊢;have hsv5:NB (mM n3 r 0 vB true) r:=hsv3.same rfl rfl rfl (by rw[hk4]);have hle5:n2.le=(mM n3 r 0 vB true).le:=hle3.symm;have hnow5:n1.now=(mM n3 r 0 vB true).now:=hnow3;generalize mM n3 r 0 vB true=n5 at *;dsimp only at hat5 ⊢;have hget:vh (fun _=>none) kB (some (jG ⟨⟨0,2,1,kB⟩,n2.t.last+1⟩ vB)) kB=some (jG ⟨⟨0,2,1,kB⟩,n2.t.last+1⟩ vB):=if_pos rfl;have ok5:wG ⟨n5,b5.p,r,⟨0,3,1,kB⟩,some (jG ⟨⟨0,2,1,kB⟩,n2.t.last+1⟩ vB)⟩:=by
  have:=hok4.ask (w:=⟨0,3,1,kB⟩) hat5 hrg hks fun h=>absurd h (by decide);dsimp only[jh]at this;exact hget▸this
 refine⟨⟨n5,b5.p,r,⟨0,3,1,kB⟩,some (jG ⟨⟨0,2,1,kB⟩,n2.t.last+1⟩ vB)⟩,?_⟩
 and_intros<;>first|exact cU|exact ok5|exact hle5▸rfl|exact hnow5|exact kL|skip
 rintro b6 hat6;have e6:∀b,kW n5 r ⟨0,3,1,kB⟩ (some (jG ⟨⟨0,2,1,kB⟩,n2.t.last+1⟩ vB)) b=⟨n5,[],[⟨3,1,kB,0,vB,true⟩]⟩:=fun b=>YD hsv5 (DQ (.inl rfl) hkB) rfl (TQ _ hkB (by decide));dsimp only at hat6 ⊢;rw[e6]at hat6 ⊢;dsimp only at hat6 ⊢;have ok6:wG ⟨n5,b6.p,r,⟨0,4,2,kB⟩,some (jG ⟨⟨0,2,1,kB⟩,n2.t.last+1⟩ vB)⟩:=by
  have:=hok4.ask (w:=⟨0,4,2,kB⟩) hat6 hrg hks fun _ _=>⟨.inl (by show 9+(kB.size+vB.size+14)+(kB.size+13)<=378;decide),by show 0+(kB.size+10)<=3780;decide⟩
  dsimp only[jh]at this;exact hget▸this
 obtain⟨hok7,hk7⟩:=hok4.kill (key:=kB) hkB (.inl (by show 9+(kB.size+vB.size+14)+(kB.size+13)<=378;decide)) (by decide) (by omega);refine⟨⟨n5,b6.p,r,⟨0,4,2,kB⟩,some (jG ⟨⟨0,2,1,kB⟩,n2.t.last+1⟩ vB)⟩,?_⟩
 and_intros<;>first|exact cU|exact ok6|exact hle5▸rfl|exact hnow5|exact kL|skip
 rintro b7 hat7;have e7:∀b,kW n5 r ⟨0,4,2,kB⟩ (some (jG ⟨⟨0,2,1,kB⟩,n2.t.last+1⟩ vB)) b=⟨mw n5 kB,[],[⟨4,2,kB,0,oN,false⟩]⟩:=fun b=>TP hsv5 (DQ (.inr rfl) hkB) rfl;dsimp only at hat7 ⊢;rw[e7]at hat7 ⊢;have hsv7:NB (mw n5 kB) r:=hsv5.same rfl rfl rfl (by rw[hk7]);have hle7:n2.le=(mw n5 kB).le:=hle5;have hnow7:n1.now=(mw n5 kB).now:=hnow5;generalize mw n5 kB=n7 at *;dsimp only at hat7 ⊢;have q1:((gl [aaw ⟨n0,b,1,1,kB⟩] 0).err == 6)=true:=by show(zJ 1 kB 6 == 6)=true;decide
 have q2:(((aH n3.rs).length:Int) == 1)=true:=by
  have:(aH n3.rs).length=n3.rs.length:=by simp[aH]
  rw[this,hl3];rfl
 have q3:decide (gl (aH n3.rs) 0=kB)=true:=zBg hkey3;have hkl:(aH n3.rs).length=1:=by simp[aH,hl3]
 have q0:((gl [rN n0] 0).kind == 1)=true:=rfl;have q4:((gl [(⟨4,2,kB,0,oN,false⟩:vj)] 0).err == 0)=true:=rfl;have q5:(gl [(⟨3,1,kB,0,vB,true⟩:vj)] 0).has=true:=rfl;have q6:decide ((gl [(⟨2,1,kB,0,vB,true⟩:vj)] 0).val=vB)=true:=zBg rfl;have q7:((gl [(⟨2,1,kB,0,vB,true⟩:vj)] 0).id == 2)=true:=rfl;refine⟨fun _=>⟨⟨by decide,by decide⟩,by decide,fun _=>⟨fun _=>⟨fun _=>⟨⟨by decide,by decide⟩,by decide,fun _=>⟨fun _=>⟨fun _=>⟨fun _=>⟨⟨by omega,by omega⟩,by omega,fun _=>⟨fun _=>⟨⟨by decide,by decide⟩,by decide,fun _=>⟨fun _=>⟨⟨by decide,by decide⟩,by decide,fun _=>⟨fun _=>⟨⟨by decide,by decide⟩,by decide,fun _=>⟨fun _=>⟨⟨by decide,by decide⟩,by decide,fun _=>⟨fun _=>⟨wF.mk n7 b7.p r kB,?_⟩,fun c=>absurd (q4.symm.trans c) (by decide)⟩⟩,fun c=>absurd c (by decide)⟩,fun c=>absurd (q5.symm.trans c) (by decide)⟩,fun c=>absurd c (by decide)⟩,fun c=>absurd (q6.symm.trans c) (by decide)⟩,fun c=>absurd (q7.symm.trans c) (by decide)⟩⟩,fun c=>absurd c (by decide)⟩,fun c=>absurd (q3.symm.trans c) (by decide)⟩,fun c=>absurd (q2.symm.trans c) (by decide)⟩,fun c=>absurd c (by decide)⟩,fun c=>absurd (q0.symm.trans c) (by decide)⟩⟩,fun c=>absurd c (by decide)⟩,fun c=>absurd (q1.symm.trans c) (by decide)⟩⟩,fun c=>absurd c (by decide)⟩;have hfz:=hok7.met.2.1
 and_intros<;>first|exact cU|exact hrg.1|exact hrg.2|exact hks|exact hfz|exact hle7▸rfl|exact hnow7|(intro h_;revert h_)|omega|grind [af.refl]|rfl|grind|grind|(dsimp only;omega)|skip
 intro _ _;refine⟨fun _=>⟨Rg.Ys.mk r 1,?_⟩,fun c=>absurd ((hsv7 kB).symm.trans c) (by decide)⟩;have hrl2:r.l.length<100000:=by rw[hrl];decide
 have hin:decide ((1:Int)∈r.l)=true:=by rw[hrl];decide
 and_intros<;>first|exact cU|exact hrl2|(intro h_;revert h_)|omega|grind [af.refl]|rfl|grind|grind|(dsimp only;omega)|skip
 intro _ _;refine⟨(),?_⟩
 grind)
theorem WY:av (Y Tryz.prog).G.X 14 Q6:=ak5 gf (mB:=afw) ⟨C5,No,KM,TJ,TB,TF,EK,Rg.aeQ,trivial⟩ (pk:=aiG) ⟨⟨Np,Ns,trivial⟩,trivial⟩ WX
def yD(s:ByteArray)(n:Int):ByteArray:=if n<s.size then s.extract 0 n.toNat else s
theorem NI(s:ByteArray){n:Nat}:(yD s n).size<=n:=by
 grind [yD,ByteArray.size_extract]
def ak6:cB where
 α:=ByteArray×Int
 m:=0
 m':=0
 pre:=fun a=>0<=a.2
 args:=fun a=>[.a (.str a.1),.a (.int .i64 a.2)]
 res:=fun a _=>.a (.str (yD a.1 a.2))
theorem ahJ:fnBody (Y Tryz.prog) [] 20 ak6 fun _=>[]:=fnBody.of (p :=
 ∀x:ByteArray×Int,(0:Int)<=x.snd->aI x.snd (ag (aT x.fst)) (fm x.snd (aT x.fst)/\Exists (bN (x.fst.extract 0 (aC x.snd)=yD x.fst x.snd))) (Exists (bN (x.fst=yD x.fst x.snd)))) (by kernel_rfl) (by
 delta aK aN aU fm bN ag aT aq aC aI aD cO bA
 grind [yD])
theorem ahK:av (Y Tryz.prog).G.X 20 ak6:=bp gf ahJ trivial
def S.cl(s:S)(t c:Nat):A:=match s.hp.find t with
 |some (_,.obj _ cs)=>match cs[c]? with
  |some x=>x
  |none=>.dJ
 |_=>.dJ
def kg(now:Int)(l:List jv):List jv:=l.filter fun w=>decide (now-w.tick<60)
def TU(w:jv):vj:=⟨w.w.id,w.w.op,w.w.key,10,oN,false⟩
def jA(now:Int)(l:List jv):List vj:=(l.filter fun w=>!decide (now-w.tick<60)).map TU
theorem La(now:Int)(l:List jv)(w:jv):kg now (l++[w])=if now-w.tick<60 then kg now l++[w]else kg now l:=by
 grind [kg]
theorem Lb(now:Int)(l:List jv)(w:jv):jA now (l++[w])=if now-w.tick<60 then jA now l else jA now l++[TU w]:=by
 grind [jA]
theorem ab9(now:Int)(l:List jv):(kg now l).length<=l.length:=T1 _ _
theorem aba(now:Int)(l:List jv):(jA now l).length<=l.length:=by grind [jA]
structure CN where
 i:Nat
 wc:Nat
 rc:Nat
structure afx where
 mc:Nat
 wc:Nat
 rc:Nat
def IA:cB where
 α:=kC
 β:=afx
 m:=17
 m':=20
 pre:=fun a=>a.n.ws.length<1000/\∀w∈a.n.ws,w.w.node=0/\bZ .i64 (a.n.now-w.tick)
 args:=fun _=>[.a (.ptr 0 0 0 0)]
 hp:=fun a=>[(0,wS (.ptr 14 0 0 0) 7 1 3 5 6 a.n a.p),(5,.arr 125 Gr a.n.ws.length (aa iI a.n.ws))]
 ro:=fun a=>[(1,Mh 2 a.n.le),(2,Qv a.n.now),(7,stO 8 9 10 a.n.s.bP),(10,.obj 155 (.ptr 11 0 0 0::Ah a.n.s.k.m))]
 post:=fun a b=>(kg a.n.now a.n.ws).length<=b.wc
 res:=fun a b=>.agg [.slc 17 0 21 1 b.mc,.slc 18 0 6 (jA a.n.now a.n.ws).length b.rc]
 eV:=fun a b=>[(17,.arr 45 Gu 1 (aa eo [rN a.n])),(18,.arr 61 Yo (jA a.n.now a.n.ws).length (aa nc (jA a.n.now a.n.ws))),(0,wS (.ptr 14 0 0 0) 7 1 3 19 6 { a.n with ws:=kg a.n.now a.n.ws } { a.p with wc:=b.wc }),(19,.arr 125 Gr (kg a.n.now a.n.ws).length (aa iI (kg a.n.now a.n.ws)))]
def ahL(a:kC):An:=.mk 10 CN (fun s x=>((((s.new (.arr 125 Gr (kg a.n.now (a.n.ws.take x.i)).length (aa iI (kg a.n.now (a.n.ws.take x.i))))).new (.arr 61 Yo (jA a.n.now (a.n.ws.take x.i)).length (aa nc (jA a.n.now (a.n.ws.take x.i))))).at_ 0 (Wj (.ptr 14 0 0 0) (S.cl s 0 12) (.slc (s.nx+1) 0 6 (jA a.n.now (a.n.ws.take x.i)).length x.rc) 7 1 3 5 6 a.n a.p)).set 4 (.a (.slc s.nx 0 7 (kg a.n.now (a.n.ws.take x.i)).length x.wc))).int 55 x.i) (fun _ x=>x.i<=a.n.ws.length/\(kg a.n.now (a.n.ws.take x.i)).length<=x.wc) (fun _ x=>a.n.ws.length-x.i) fun _=>.mk 1000 [] []
def zU(x:CN)(y:kC):List jv:=List.take x.i y.n.ws
def nO(x:kC)(y:CN):Nat:=(kg x.n.now (zU y x)).length
def rS(x:kC)(y:CN):Nat:=bT (jA x.n.now (zU y x))
def Lc(x:nw)(y:kC)(z u:Prop):=jf (x.to (bJ x.l))/\uP y.n/\ah (Bl y.n (z/\u))
def nP(x:kC)(y:CN):jv:=gl x.n.ws (0+aG y.i)
def Ra(x:nw)(y:Nat)(z u:Prop):=dU (bU x.n) x.p.wc (aO (bF ((1:Int)+ag y) 5)/\az ((1:Int)+ag y)/\bD (aM (z/\u)))
def DR(x:kC):Nat:=(kg x.n.now x.n.ws).length
def GN(x:kC)(y:CN):Nat->Nat->Value:=aa iI (kg x.n.now (zU y x))
def Rb(x:kC):=bU x.n<1000/\∀y:jv,y∈x.n.ws->y.w.node=(0:Int)/\ai (x.n.now-y.tick)
theorem WZ:fnBody (Y2 Tryz.prog) [(51,Tr (.ptr 9 0 0 0)),(53,Yq)] 15 IA fun a=>[(15,[Yr,ahL a],[]),(54,[],[.Em 0 13 true Al])]:=fnBody.of (p :=
 ∀x:kC,Rb x->ai x.n.now->Exists (Bn fun z=>gn x.n z.n x.p z.p (0=bJ z.q/\0=z.qc) (QB z x (fun s t=>kV z.n z.p (DJ z s) (Lc z x (t<=5) True)) (fun s t y=>gn z.n y.n z.p y.p (xS z y.q s y.qc) (xT y.q z/\bJ y.l=0/\Bm y fun g=>fe ((1:Int)+ag t)/\∃f:Nat,(1:Int)+ag t+(1:Int)=1+ag f/\bD (aM (gn y.n z.n y.p z.p (xS y (z.to (bJ z.l)) g s) (xT (z.to (bJ z.l)) y/\uP x.n/\ah (Bl x.n (bL f 5 t))))))) fun s t=>(∃y:CN,aS y.i ((0=nO x y/\0=y.wc)/\Ra z t (nO x y=0) (gn z.n x.n z.p x.p (DJ z s) ((0=rS x y/\0=y.rc)/\Lc z x (rS x y=0) ((y.i<=bU x.n/\nO x y<=y.wc)/\True)))))/\∀y:CN,y.i<=bU x.n/\nO x y<=y.wc->gI y.i (bU z.n) 0 (bU x.n) (ai (jv.tick (nP x y))->qx x.n.now (jv.tick (nP x y)) (aI (x.n.now-jv.tick (nP x y)) 60 (jF (nO x y) 64 y.wc fun h=>aY y.i (∃u:CN,bw y.i u.i (ax (nO x y+1) (nO x u) h u.wc/\Ra z t (iO (nO x u) (nO x y) 7 (GN x y) (Ad .i64 (jv.w (nP x y)).node (jv.w (nP x y)).id (jv.w (nP x y)).op (bR (jv.w (nP x y)).key) (jv.id (nP x y)) (jv.to (nP x y)) (jv.tick (nP x y)) []) (GN x u)) (kV x.n x.p (DJ z s) (ax (rS x y) (rS x u) y.rc u.rc/\Lc z x (aA (rS x u) (rS x y) 6 (aa nc (jA x.n.now (zU y x))) (aa nc (jA x.n.now (zU u x)))) (dG u.i (bU x.n) (nO x u<=u.wc) y.i)))))) (ai (jv.w (nP x y)).node ->
 aq ((jv.w (nP x y)).node == (0:Int))/\(ai (jv.w (nP x y)).id->ai (jv.w (nP x y)).op->jF (rS x y) 64 y.rc fun j=>aY y.i (∃v:CN,bw y.i v.i (ax (nO x y) (nO x v) y.wc v.wc/\Ra z t (aA (nO x v) (nO x y) 7 (GN x y) (GN x v)) (kV x.n x.p (DJ z s) (ax (rS x y+1) (rS x v) j v.rc/\Lc z x (iO (rS x v) (rS x y) 6 (aa nc (jA x.n.now (zU y x))) (cI (jv.w (nP x y)).id (cI (jv.w (nP x y)).op (rI (jv.w (nP x y)).key 10 (bR dx) false))) (aa nc (jA x.n.now (zU v x)))) (dG v.i (bU x.n) (nO x v<=v.wc) y.i))))))))) (∃f:afx,dF (bJ (z.to (bJ z.l))) 1 s f.mc (ax (rS x y) (bT (jA x.n.now x.n.ws)) y.rc f.rc) 21 (aa eo (z.to (bJ z.l))) (aa eo (oO x.n)) (tn (jA x.n.now x.n.ws) (rS x y) (jA x.n.now (zU y x)) (az x.n.id/\aM (di (ax (nO x y) (DR x) y.wc f.wc/\aQ (cw x.n) x.p.rc/\az x.n.asked/\aA (DR x) (nO x y) 7 (GN x y) (aa iI (kg x.n.now x.n.ws))/\bE (DR x) f.wc)))))))) (by kernel_rfl) (by
 delta k8 cE aK cR aQ aO Ad ai aA az cI aG gq aM aN eE cw ia dN fL fB bK p5 aU iA gI bI dx aP aZ bJ ag bD jF iO Bl bL dG aq dU KL dF nM bR bF nO aC gn kV jd bW gC rS ah bU aS cF aI aD di Lc bT bf oO nP qx rI aY ax tn zU jf bS QB uP ja Ra Bm cZ DR bC xS eu GN Rb DJ Gq bw Bn bM fe xT bE
 try dsimp -iota -proj only
 rintro⟨n,p⟩ ⟨h0,hw⟩ _;dsimp only at h0 hw;have hr:af 1 21 (aV 21 (eo ⟨1,0,0,n.s.k.m.ay,n.now,n.s.k.m.ready,0,0,0,oN,0,false,gQ,0⟩)) (aa eo [⟨1,0,0,n.s.k.m.ay,n.now,n.s.k.m.ready,0,0,0,oN,0,false,gQ,0⟩]):=.fN fun i hi=>by
  have:i=0:=by omega
  subst this;rfl
 have k0:(0:Nat)<1000:=by omega
 have k1:(1:Nat)<1000:=by omega
 refine⟨nw.mk n p [] 0 [⟨1,0,0,n.s.k.m.ay,n.now,n.s.k.m.ready,0,0,0,oN,0,false,gQ,0⟩] 1,?_⟩
 and_intros<;>first|exact cU|exact hr|exact k1|exact k0|(intro h_;revert h_)|omega|grind|rfl|grind|grind|(dsimp only;omega)|skip
 intro b _;refine⟨⟨0,?_⟩,fun i hi=>⟨fun c1=>⟨none,rfl,fun _=>⟨(),trivial,fun _ _=>⟨nw.mk n p [rN n] b [] 0,?_⟩⟩,fun c=>absurd rfl c⟩,fun c1=>⟨⟨⟨0,0,0⟩,?_⟩,fun x hx=>⟨fun c2=>?_,fun c2=>⟨⟨b,x.wc,x.rc⟩,?_⟩⟩⟩⟩⟩
 ·grind [af.refl]
 ·have c1:=qi c1;have e1:((nw.mk n p [] 0 [⟨1,0,0,n.s.k.m.ay,n.now,n.s.k.m.ready,0,0,0,oN,0,false,gQ,0⟩] 1).to 1)=[rN n]:=rfl;have e2:((nw.mk n p [rN n] b [] 0).to 0)=[rN n]:=rfl
  and_intros<;>first|exact cU|exact k1|exact k0|(intro h_;revert h_)|omega|grind [af.refl]|rfl|exact af.refl _ _ _|grind|(dsimp only;omega)|skip
  intro b2 hb2;have hb2:b2=b:=hb2 rfl;subst hb2;refine⟨by simp only[bZ];omega,i+1,?_⟩
  grind [af.refl]
 ·and_intros<;>first|exact cU|exact Az _|exact kL|skip
 ·obtain⟨i,wc,rc⟩:=x;obtain⟨hi1,hi2⟩:=hx;dsimp only at *;have hi:i<n.ws.length:=by have:=qi c2;omega
  have hz:0+(i:Int).toNat=i:=by omega
  have hmem:gl n.ws i∈n.ws:=by rw[b8 hi];exact List.getElem_mem _
  obtain⟨w1,w2⟩:=hw _ hmem;have ht:n.ws.take (i+1)=n.ws.take i++[gl n.ws i]:=gU hi;have hm:n.ws.length-(i+1)<n.ws.length-i:=by omega
  rw[hz];generalize gl n.ws i=w at *;have hkl:(kg n.now (n.ws.take i)).length<=i:=YP (ab9 _ _) (by grind);have htl:(jA n.now (n.ws.take i)).length<=i:=YP (aba _ _) (by grind);refine⟨by omega,hi,fun _ _=>⟨w2,fun c3=>⟨by omega,by omega,by omega,fun cap q1 _ _=>⟨by simp only[bZ];omega,⟨i+1,cap,rc⟩,?_⟩⟩,fun c3 _=>⟨by rw[w1];rfl,fun _ _=>⟨by omega,by omega,by omega,fun cap q1 _ _=>⟨by simp only[bZ];omega,⟨i+1,wc,cap⟩,?_⟩⟩⟩⟩⟩
  ·have c3:n.now-w.tick<60:=qi c3;have ek:kg n.now (n.ws.take (i+1))=kg n.now (n.ws.take i)++[w]:=by rw[ht,La,if_pos c3]
   have et:jA n.now (n.ws.take (i+1))=jA n.now (n.ws.take i):=by rw[ht,Lb,if_pos c3]
   dsimp only;rw[ek,et];have hp:af (kg n.now (n.ws.take i)++[w]).length 7 (bq (aa iI (kg n.now (n.ws.take i))) 0 (kg n.now (n.ws.take i)).length fun i j=>aV 7 (iI w) (0+i) j) (aa iI (kg n.now (n.ws.take i)++[w])):=.push rfl (by simp) rfl;have hl:(kg n.now (n.ws.take i)).length+1=(kg n.now (n.ws.take i)++[w]).length:=by simp
   have hl2:(kg n.now (n.ws.take i)++[w]).length<=(kg n.now (n.ws.take i)).length+1:=by simp
   have hl3:(kg n.now (n.ws.take i)++[w]).length<=cap:=by rw[<- hl];exact q1
   and_intros<;>first|exact cU|exact hp|exact hl|exact hl2|exact hl3|exact hm|(intro h_;revert h_)|omega|grind [af.refl]|rfl|exact af.refl _ _ _|exact cW _|(dsimp only;omega)|skip
  ·have c3:¬n.now-w.tick<60:=ug c3;have ek:kg n.now (n.ws.take (i+1))=kg n.now (n.ws.take i):=by rw[ht,La,if_neg c3]
   have et:jA n.now (n.ws.take (i+1))=jA n.now (n.ws.take i)++[TU w]:=by rw[ht,Lb,if_neg c3]
   dsimp only;rw[ek,et];have hp:af (jA n.now (n.ws.take i)++[TU w]).length 6 (bq (aa nc (jA n.now (n.ws.take i))) 0 (jA n.now (n.ws.take i)).length fun i j=>aV 6 (nc (TU w)) (0+i) j) (aa nc (jA n.now (n.ws.take i)++[TU w])):=.push rfl (by simp) rfl;have hl:(jA n.now (n.ws.take i)).length+1=(jA n.now (n.ws.take i)++[TU w]).length:=by simp
   have hl2:(jA n.now (n.ws.take i)++[TU w]).length<=(jA n.now (n.ws.take i)).length+1:=by simp
   and_intros<;>first|exact cU|exact hp|exact hl|exact hl2|exact hi2|exact hm|(intro h_;revert h_)|omega|grind [af.refl]|rfl|exact af.refl _ _ _|exact cW _|(dsimp only;omega)|skip
 ·obtain⟨i,wc,rc⟩:=x;obtain⟨hi1,hi2⟩:=hx;dsimp only at *;have hi:i=n.ws.length:=by have:=ug c2;omega
  subst hi;rw[zBd]at *
  and_intros<;>first|exact cU|exact hi2|exact kL|skip)
theorem W0:av (Y Tryz.prog).G.X 15 IA:=bp ajL WZ ⟨KK,Tu,trivial⟩
end Go.Proofs.YtfjgoonelcaggaaGreat
namespace Go.Sx
section
structure gG(p q:Place):Prop where
 blk:p.blk=q.blk
 off:p.off=q.off
 N:p.N=q.N
theorem gG.refl(p:Place):gG p p:=⟨rfl,rfl,rfl⟩
theorem gG.symm{p q:Place}(h:gG p q):gG q p:=⟨h.blk.symm,h.off.symm,h.N.symm⟩
def Ap:List Place->List Place->Prop
 |[],[]=>True
 |p::ps,q::qs=>gG p q/\Ap ps qs
 |_,_=>False
theorem Ap.map{f g:Nat->Place}:∀ {l:List Nat},(∀t∈l,gG (f t) (g t))->Ap (l.map f) (l.map g)
 |[],_=>trivial
 |t::l,h=>⟨h t List.mem_cons_self,Ap.map fun u hu=>h u (CP _ hu)⟩
theorem Ap.at_{f g:Nat->Place}:∀ {l:List Nat},Ap (l.map f) (l.map g)->∀t∈l,gG (f t) (g t)
 |[],_,_,h=>by cases h
 |u::l,h,t,ht=>by
  rcases uf.1 ht with rfl|ht
  ·exact h.1
  ·exact Ap.at_ h.2 t ht
structure Rc(m:Nat)(L:List (Nat×Chunk))(fp:Nat->Prop)(ρ:Env)(w:World):Prop where
 n:ρ.n=m
 ch:∀e∈L,e.1<m/\e.2.Sat ρ (ρ.pl e.1) w
 fp:∀e∈L,∀b,(ρ.pl e.1).fp b->fp b/\b<w.heap.size
 apart:(ql L).Pairwise (pE ρ)
variable{C:cB}{LO VI VO XI XO pin' tc tc' tt tt':List Nat}{M:Nat->Prop}{P:Nat->Bool}{Q Q':Type}{X:Cx}{b:Bool}{c:Chunk}{ex' exU l roU:List (Nat×Chunk)}{f fo gb gi go:Nat->Nat}{k kf m m' nF nF' nU nU':Nat}{p:Place}{v:Value}{w w' w0:World}{x:A}{xs:List A}{ρ ρ' ρ2 ρF ρU:Env}
def BF(m:Nat)(LO:List Nat)(ok:Q->Prop)(L:Q->List (Nat×Chunk)):List Place->World->Prop
 |[],_=>False
 |p::qs,w=>∃q,ok q/\∃ρ:Env,Rc m (L q) p.fp ρ w/\Ap (LO.map ρ.pl) qs
theorem Rc.local{L:List (Nat×Chunk)}{fp:Nat->Prop}(h:Rc m L fp ρ w)(k:∀b,fp b->w'.heap[b]? = w.heap[b]?):Rc m L fp ρ w':=by
 refine⟨h.n,fun e he=>⟨(h.ch e he).1,(h.ch e he).2.world fun b hb=>k b (h.fp e he b hb).1⟩,fun e he b hb=>⟨(h.fp e he b hb).1,?_⟩,h.apart⟩;obtain⟨h1,h2⟩:=h.fp e he b hb
 grind
theorem BF.local{Q:Type}{m:Nat}{LO:List Nat}{ok:Q->Prop}{L:Q->List (Nat×Chunk)}{p:Place}{qs:List Place}{w w':World}(h:BF m LO ok L (p::qs) w)(k:∀b,p.fp b->w'.heap[b]? = w.heap[b]?):BF m LO ok L (p::qs) w' :=
 let ⟨q,h1,ρ,h2,h3⟩:=h
 ⟨q,h1,ρ,h2.local k,h3⟩
def Re(P:Nat->Bool):A->Bool
 |.ptr T _ _ _=>P T
 |.slc T _ _ _ _=>P T
 |.sub T _ _ _ _ _=>P T
 |_=>true
def EP(P:Nat->Bool):List A->Bool
 |[]=>true
 |x::r=>Re P x&&EP P r
def afy(P:Nat->Bool):CV->Bool
 |.a x=>Re P x
 |.agg xs=>EP P xs
def abb(P:Nat->Bool):List CV->Bool
 |[]=>true
 |x::r=>afy P x&&abb P r
def Rf(P:Nat->Bool):SV->Bool
 |.a x=>Re P x
 |.agg xs=>EP P xs
 |.nR xs=>abb P xs
 |.E0 _ xs=>EP P xs
def YE(P:Nat->Bool):Chunk->Bool
 |.obj _ cs=>EP P cs
 |.Cd ..=>false
 |_=>true
theorem GO(h:∀T,P T=true->T<ρ.n/\gG (ρ'.pl (f T)) (ρ.pl T))(hx:Re P x=true)(r:(sH f x).cT ρ' v):x.cT ρ v:=by
 cases x<;>simp only[sH,A.cT,Re]at r hx ⊢<;>try exact r
 ·obtain⟨_,rfl⟩:=r;obtain⟨h2,h3⟩:=h _ hx
  grind [h3.blk,h3.off]
 ·obtain⟨_,h4,h5,h6⟩:=r;obtain⟨h2,h3⟩:=h _ hx
  grind [h3.blk,h3.off,h3.N]
 ·obtain⟨_,h4,h5,rfl⟩:=r;obtain⟨h2,h3⟩:=h _ hx
  grind [h3.blk,h3.off]
theorem yE{f:Nat->Nat}{P:Nat->Bool}{ρ ρ':Env}(h:∀T,P T=true->T<ρ.n/\gG (ρ'.pl (f T)) (ρ.pl T)):∀ {xs:List A} {vs:List Value},EP P xs=true->dw ρ' (xs.map (sH f)) vs->dw ρ xs vs
 |[],_,_,r=>r
 |x::xs,_,hx,⟨v,t,e,r1,r2⟩=>by
  simp only[EP,jB]at hx;exact⟨v,t,e,GO h hx.1 r1,yE h hx.2 r2⟩
theorem W1(h:∀T,P T=true->T<ρ.n/\gG (ρ'.pl (f T)) (ρ.pl T)):∀ {x:CV} {v:Value},afy P x=true->(Jq f x).cT ρ' v->x.cT ρ v
 |.a _,_,hx,r=>GO h hx r
 |.agg _,_,hx,⟨vs,e,r⟩=>⟨vs,e,yE h hx r⟩
theorem NJ{f:Nat->Nat}{P:Nat->Bool}{ρ ρ':Env}(h:∀T,P T=true->T<ρ.n/\gG (ρ'.pl (f T)) (ρ.pl T)):∀ {xs:List CV} {vs:List Value},abb P xs=true->vw ρ' (xs.map (Jq f)) vs->vw ρ xs vs
 |[],_,_,r=>r
 |x::xs,_,hx,⟨v,t,e,r1,r2⟩=>by
  simp only[abb,jB]at hx;exact⟨v,t,e,W1 h hx.1 r1,NJ h hx.2 r2⟩
theorem abc(h:∀T,P T=true->T<ρ.n/\gG (ρ'.pl (f T)) (ρ.pl T)):∀ {x:SV} {v:Value},Rf P x=true->(Jr f x).cT ρ' v->x.cT ρ v
 |.a _,_,hx,r=>GO h hx r
 |.agg _,_,hx,⟨vs,e,r⟩=>⟨vs,e,yE h hx r⟩
 |.nR _,_,hx,⟨vs,e,r⟩=>⟨vs,e,NJ h hx r⟩
 |.E0 _ _,_,hx,⟨vs,e,r⟩=>⟨vs,e,yE h hx r⟩
theorem Ld(h:∀T,P T=true->T<ρ.n/\gG (ρ'.pl (f T)) (ρ.pl T))(hx:YE P c=true)(r:(yg f c).Sat ρ' p w):c.Sat ρ p w:=by
 cases c with
 |obj ty cs=>obtain⟨vs,fr,a,b,⟨us,xs,e,c⟩,d⟩:=r;exact⟨vs,fr,a,b,⟨us,xs,e,yE h hx c⟩,d⟩
 |arr ty ks n rows=>exact r
 |abs R=>exact r
 |Cd ts tt tc cs R=>cases hx
 |dg H=>exact r
theorem ER(h:∀T,P T=true->f T<ρ'.n/\gG (ρ'.pl (f T)) (ρ.pl T))(hx:Re P x=true)(r:x.cT ρ v):(sH f x).cT ρ' v:=by
 cases x<;>simp only[sH,A.cT,Re]at r hx ⊢<;>try exact r
 ·obtain⟨_,rfl⟩:=r;obtain⟨h2,h3⟩:=h _ hx
  grind [h3.blk,h3.off]
 ·obtain⟨_,h4,h5,h6⟩:=r;obtain⟨h2,h3⟩:=h _ hx
  grind [h3.blk,h3.off,h3.N]
 ·obtain⟨_,h4,h5,rfl⟩:=r;obtain⟨h2,h3⟩:=h _ hx
  grind [h3.blk,h3.off]
theorem BG{f:Nat->Nat}{P:Nat->Bool}{ρ ρ':Env}(h:∀T,P T=true->f T<ρ'.n/\gG (ρ'.pl (f T)) (ρ.pl T)):∀ {xs:List A} {vs:List Value},EP P xs=true->dw ρ xs vs->dw ρ' (xs.map (sH f)) vs
 |[],_,_,r=>r
 |x::xs,_,hx,⟨v,t,e,r1,r2⟩=>by
  simp only[EP,jB]at hx;exact⟨v,t,e,ER h hx.1 r1,BG h hx.2 r2⟩
theorem abd(h:∀T,P T=true->f T<ρ'.n/\gG (ρ'.pl (f T)) (ρ.pl T)):∀ {x:CV} {v:Value},afy P x=true->x.cT ρ v->(Jq f x).cT ρ' v
 |.a _,_,hx,r=>ER h hx r
 |.agg _,_,hx,⟨vs,e,r⟩=>⟨vs,e,BG h hx r⟩
theorem TV{f:Nat->Nat}{P:Nat->Bool}{ρ ρ':Env}(h:∀T,P T=true->f T<ρ'.n/\gG (ρ'.pl (f T)) (ρ.pl T)):∀ {xs:List CV} {vs:List Value},abb P xs=true->vw ρ xs vs->vw ρ' (xs.map (Jq f)) vs
 |[],_,_,r=>r
 |x::xs,_,hx,⟨v,t,e,r1,r2⟩=>by
  simp only[abb,jB]at hx;exact⟨v,t,e,abd h hx.1 r1,TV h hx.2 r2⟩
theorem afz(h:∀T,P T=true->f T<ρ'.n/\gG (ρ'.pl (f T)) (ρ.pl T)):∀ {x:SV} {v:Value},Rf P x=true->x.cT ρ v->(Jr f x).cT ρ' v
 |.a _,_,hx,r=>ER h hx r
 |.agg _,_,hx,⟨vs,e,r⟩=>⟨vs,e,BG h hx r⟩
 |.nR _,_,hx,⟨vs,e,r⟩=>⟨vs,e,TV h hx r⟩
 |.E0 _ _,_,hx,⟨vs,e,r⟩=>⟨vs,e,BG h hx r⟩
theorem abe(h:∀T,P T=true->f T<ρ'.n/\gG (ρ'.pl (f T)) (ρ.pl T))(hx:YE P c=true)(r:c.Sat ρ p w):(yg f c).Sat ρ' p w:=by
 cases c with
 |obj ty cs=>obtain⟨vs,fr,a,b,⟨us,xs,e,c⟩,d⟩:=r;exact⟨vs,fr,a,b,⟨us,xs,e,BG h hx c⟩,d⟩
 |arr ty ks n rows=>exact r
 |abs R=>exact r
 |Cd ts tt tc cs R=>cases hx
 |dg H=>exact r
def kN(f:Nat->Nat)(l:List (Nat×Chunk)):List (Nat×Chunk):=l.map fun p=>(f p.1,yg f p.2)
def BH(P Q:Nat->Bool):List (Nat×Chunk)->Bool
 |[]=>true
 |e::r=>(Q e.1&&YE P e.2)&&BH P Q r
theorem vk{P Q:Nat->Bool}:∀ {l:List (Nat×Chunk)},BH P Q l=true->∀e∈l,Q e.1=true/\YE P e.2=true
 |[],_,_,h=>by cases h
 |x::r,h,e,he=>by
  simp only[BH,jB]at h;rcases uf.1 he with rfl|he
  ·exact h.1
  ·exact vk h.2 e he
theorem NK{Q:Nat->Bool}(h:∀T,P T=true->T<ρ.n/\gG (ρ'.pl (f T)) (ρ.pl T))(hq:∀T,Q T=true->T<ρ.n/\ρ'.pl (f T)=ρ.pl T)(hl:BH P Q l=true)
 (hh:∀e∈kN f l,x7.Sat w0 M ρ' w ⟨e.1,b,e.2⟩):∀e∈l,x7.Sat w0 M ρ w ⟨e.1,b,e.2⟩:=by
 intro e he;obtain⟨h1,h2⟩:=vk hl e he;have:=hh (f e.1,yg f e.2) (kj.2 ⟨e,he,rfl⟩);obtain⟨h3,h4⟩:=hq _ h1;exact⟨h3,by grind [Ld,this.ch],by show ∀b,(ρ.pl e.1).fp b->_;rw[<- h4];exact this.lt,by grind [this.own]⟩
theorem afA{Q:Nat->Bool}(h:∀T,P T=true->f T<ρ'.n/\gG (ρ'.pl (f T)) (ρ.pl T))(hq:∀T,Q T=true->f T<ρ'.n/\ρ'.pl (f T)=ρ.pl T)(hl:BH P Q l=true)
 (hh:∀e∈l,x7.Sat w0 M ρ w ⟨e.1,b,e.2⟩):∀e∈kN f l,x7.Sat w0 M ρ' w ⟨e.1,b,e.2⟩:=by
 intro e he;obtain⟨x,hx,rfl⟩:=kj.1 he;obtain⟨h1,h2⟩:=vk hl x hx;have:=hh x hx;obtain⟨h3,h4⟩:=hq _ h1;exact⟨h3,by grind [abe,this.ch],by show ∀b,(ρ'.pl (f x.1)).fp b->_;rw[h4];exact this.lt,by grind [this.own]⟩
theorem ue{p:Nat->Bool}:∀ {l:List Nat} {T:Nat},l.all p=true->fU l T=true->p T=true
 |[],_,_,h=>by cases h
 |x::r,T,h,k=>by
  simp only[List.all_cons,jB]at h;simp only[fU]at k;by_cases hx:x=T
  ·grind
  ·rw[gM hx]at k;exact ue h.2 k
def BI(nF nF' nU nU' kf:Nat)(gi go gb:Nat->Nat)(old:List Nat)(T:Nat):Bool :=
 (Nat.blt T nU&&(fU old T&&Nat.beq (go T) (gi T)))||(Nat.ble nU T&&(Nat.blt T nU'&&(Nat.ble nF (go T)&&(Nat.blt (go T) nF'&&(!Nat.beq (go T) kf&&Nat.beq (gb (go T)) T)))))
def Ca:List (Nat×Chunk)->Nat->Nat->Option A
 |[],_,_=>none
 |e::r,T,c=>match e.2 with
  |.obj _ cs=>bif Nat.beq e.1 T then cs[c]? else Ca r T c
  |_=>Ca r T c
theorem zV{T c:Nat}{x:A}:∀ {L:List (Nat×Chunk)},Ca L T c=some x->∃ty cs,(T,Chunk.obj ty cs)∈L/\cs[c]? = some x
 |[],h=>by cases h
 |e::r,h=>by
  obtain⟨t,ch⟩:=e;simp only[Ca]at h;cases ch with
  |obj ty cs =>
   cases hb:Nat.beq t T
   ·rw[hb]at h;obtain⟨ty',cs',h1,h2⟩:=zV h
    grind
   grind [Nat.eq_of_beq_eq_true]
  |_ =>
   obtain⟨ty',cs',h1,h2⟩:=zV h
   grind
def vl(L:List (Nat×Chunk)):List Nat->List Nat->Option (List A)
 |[],[]=>some []
 |T::tt,c::tc=>match Ca L T c with
  |some x=>match vl L tt tc with
   |some r=>some (x::r)
   |none=>none
  |none=>none
 |_,_=>none
theorem Rh{okQ:Q'->Prop}{Lq:Q'->List (Nat×Chunk)}(q':Q')(hq:okQ q'){res:SV}
 (hF:ρF.n=nF) (h2n:ρ2.n=nU') (h2:∀T,T<nU->ρ2.pl T=ρU.pl T)
 (hVI:∀T,fU VI T=true->gi T<nF/\gG (ρF.pl (gi T)) (ρU.pl T)) (hXI:∀T,fU XI T=true->gi T<nF/\ρF.pl (gi T)=ρU.pl T)
 (cVO:VO.all (BI nF nF' nU nU' kf gi go gb VI)=true) (cXO:XO.all (BI nF nF' nU nU' kf gi go gb XI)=true) (ckf:(Nat.ble nF kf&&Nat.blt kf nF')=true)
 (cL:BH (fun T=>Nat.blt T m') (fun T=>Nat.blt T m') (Lq q')=true) (cpin:pin'.all (fun T=>Nat.blt T m'&&fU VO (fo T))=true)   (ccs:vl (Lq q') tt tc=some xs) (cxs:EP (fun T=>Nat.blt T m'&&fU VO (fo T)) xs=true) (ctt:tt.all (fun T=>fU VO (fo T))=true)
 (hNm:∀T∈tt,fo T<nU->(ρF.pl (gi (fo T))).fp (ρF.pl (gi (fo T))).blk)
 (cex:BH (fU VO) (fU XO) ex'=true) (ak7:Rf (fU VO) res=true) (cd:distinct (ql ((kf,.abs fun _ _=>True)::kN go ex'))=true) (cdL:distinct (ql (Lq q'))=true)
 (hres:res.cT ρ2 v) (hh:ak w M ρ2 (ql (kN fo (Lq q')++ex')) w') :
 ∃ρ':Env,ρ'.n=nF'/\(∀T,T<nF->ρ'.pl T=ρF.pl T)/\(Jr go res).cT ρ' v/\ak w M ρ' (ql ((kf,.Cd (pin'.map fun T=>go (fo T)) (tt.map fun T=>go (fo T)) tc (xs.map (sH fun T=>go (fo T))) (BF m' pin' okQ Lq))::kN go ex')) w':=by
 simp only[jB]at ckf;have kf1:=EY ckf.1;have kf2:kf<nF':=by have:=ckf.2;simp[Nat.blt]at this;omega
 let P:Place:=⟨0,0,0,fun b=>∃e∈kN fo (Lq q'),(ρ2.pl e.1).fp b⟩
 let ρ':Env:=⟨nF',fun t=>if t<nF then ρF.pl t else if t=kf then P else ρ2.pl (gb t)⟩
 have old:∀T,T<nF->ρ'.pl T=ρF.pl T:=fun T hT=>by grind
 have hkf:ρ'.pl kf=P:=by show(if kf<nF then _ else if kf=kf then P else _)=_;rw[if_neg (by omega),if_pos rfl]
 have new:∀T,(Nat.ble nU T&&(Nat.blt T nU'&&(Nat.ble nF (go T)&&(Nat.blt (go T) nF'&&(!Nat.beq (go T) kf&&Nat.beq (gb (go T)) T)))))=true->go T<nF'/\ρ'.pl (go T)=ρ2.pl T:=fun T h=>by
  simp only[jB,RM]at h;obtain⟨h1,h3,h4,h5,h6,h7⟩:=h;have h4:=EY h4;have h5:go T<nF':=by simp[Nat.blt]at h5;omega
  grind [fI,Nat.eq_of_beq_eq_true]
 have tr:∀T,fU VO T=true->go T<ρ'.n/\gG (ρ'.pl (go T)) (ρ2.pl T):=fun T hT=>by
  have h:=ue cVO hT;unfold BI at h;rw[IE]at h;rcases h with h|h
  ·simp only[jB]at h;obtain⟨h1,h3,h4⟩:=h;have h1:T<nU:=by simp[Nat.blt]at h1;omega
   grind [Nat.eq_of_beq_eq_true]
  grind [gG.refl]
 have trX:∀T,fU XO T=true->go T<ρ'.n/\ρ'.pl (go T)=ρ2.pl T:=fun T hT=>by
  have h:=ue cXO hT;unfold BI at h;rw[IE]at h;rcases h with h|h
  ·simp only[jB]at h;obtain⟨h1,h3,h4⟩:=h;have h1:T<nU:=by simp[Nat.blt]at h1;omega
   grind [Nat.eq_of_beq_eq_true]
  grind
 have hap:=hh.apart;have hsp:ql (kN fo (Lq q')++ex')=ql (kN fo (Lq q'))++ql ex':=by simp[ql]
 rw[hsp]at hap;have hap:=zBp.1 hap;have hentL:∀e∈kN fo (Lq q'),x7.Sat w M ρ2 w' ⟨e.1,true,e.2⟩:=fun e he=>hh.jk _ (by rw[hsp];exact CQ _ (kj.2 ⟨e,he,rfl⟩));have hentX:∀e∈ex',x7.Sat w M ρ2 w' ⟨e.1,true,e.2⟩:=fun e he=>hh.jk _ (by rw[hsp];exact LQ _ (kj.2 ⟨e,he,rfl⟩));have hX:=afA tr trX cex hentX;have hds:=pZ cd;have hds2:=List.pairwise_cons.1 (show List.Pairwise _ (_::ql (kN go ex'))from hds);refine⟨ρ',rfl,old,afz tr ak7 hres,hh.keeps,?_,?_⟩
 ·intro e he;simp only[ql,LS]at he;rcases uf.1 he with rfl|he
  ·refine⟨kf2,⟨fun t ht=>?_,?_,fun w'' hw=>?_⟩,?_,?_⟩
   ·grind
   ·show kP ρ' (ρ'.pl kf) w' _ _ _;rw[hkf];have key:∀ {tt tc:List Nat} {xs:List A},vl (Lq q') tt tc=some xs->EP (fun T=>Nat.blt T m'&&fU VO (fo T)) xs=true->tt.all (fun T=>fU VO (fo T))=true->(∀T∈tt,fo T<nU->(ρF.pl (gi (fo T))).fp (ρF.pl (gi (fo T))).blk) ->
     kP ρ' P w' (tt.map fun T=>go (fo T)) tc (xs.map (sH fun T=>go (fo T))):=by
     intro tt
     induction tt with
     |nil =>
      intro tc xs h _ _ _;cases tc with
      |nil=>simp only[vl,T2]at h;subst h;trivial
      |cons _ _=>cases h
     |cons T tt ih =>
      intro tc xs h h1 h2 h3;cases tc with
      |nil=>cases h
      |cons c tc =>
       simp only[vl]at h;split at h
       ·rename_i x hx;split at h
        ·rename_i r hr;cases h;simp only[EP,jB]at h1;simp only[List.all_cons,jB]at h2;refine⟨?_,ih hr h1.2 h2.2 fun U hU=>h3 U (CP _ hU)⟩;obtain⟨ty,cs,hm,hc⟩:=zV hx;have hs:=(hentL _ (kj.2 ⟨_,hm,rfl⟩))
         obtain⟨vs,fr,g1,g2,⟨us,ys,g3,g4⟩,g5,g6⟩:=hs.ch;obtain⟨t1,t2⟩:=tr _ h2.1;obtain⟨u,hu,hru⟩:=g4.get (show(cs.map (sH fo))[c]? = some (sH fo x)by grind);have hvu:vs[c]? = some u:=by rw[<- zBl,g3,YM (Cj.1 hu).1];exact hu
         refine⟨t1,?_,?_,vs,ty,fr,u,by grind [t2.blk],by rw[t2.off,g2,mA];exact hvu,?_⟩
         ·refine⟨_,kj.2 ⟨_,hm,rfl⟩,?_⟩
          grind [t2.blk]
         ·by_cases hlt:fo T<nU
          ·have hN:=h3 T List.mem_cons_self hlt;have hv:=ue cVO h2.1;unfold BI at hv;rw[IE]at hv;rcases hv with hv|hv
           ·simp only[jB]at hv
            grind [Nat.eq_of_beq_eq_true]
           grind
          ·have hv:=ue cVO h2.1;unfold BI at hv;rw[IE]at hv;rcases hv with hv|hv
           ·simp only[jB]at hv;have:=hv.1;simp[Nat.blt]at this;omega
           grind
         ·have e:sH (fun T=>go (fo T)) x=sH go (sH fo x):=by cases x<;>rfl
          rw[e];have hx2:Re (fU VO) (sH fo x)=true:=by
           have:=h1.1;cases x<;>simp only[Re,sH,jB]at this ⊢<;>exact this.2
          grind [ER]
        ·cases h
       ·cases h
    grind
   ·refine BF.local (w:=w') ?_ hw
    let ρi:Env:=⟨m',fun T=>ρ2.pl (fo T)⟩
    have hback:∀T,(fun T=>Nat.blt T m') T=true->T<ρi.n/\gG (ρ2.pl (fo T)) (ρi.pl T):=fun T hT=>⟨by simp[Nat.blt]at hT;grind,gG.refl _⟩
    refine⟨q',hq,ρi,⟨rfl,fun x hx=>?_,fun x hx b hb=>?_,?_⟩,?_⟩
    ·obtain⟨h1,h3⟩:=vk cL x hx;exact⟨by grind,Ld hback h3 (hentL _ (kj.2 ⟨x,hx,rfl⟩)).ch⟩
    ·have hb:(ρ2.pl (fo x.1)).fp b:=hb;show(ρ'.pl kf).fp b/\_;rw[hkf];exact⟨⟨_,kj.2 ⟨x,hx,rfl⟩,hb⟩,(hentL _ (kj.2 ⟨x,hx,rfl⟩)).lt b hb⟩
    ·have hdL:=RN.1 (pZ cdL);have h1:=hap.1;simp only[ql,kN,T4]at h1;have h1:=RN.1 h1;refine RN.2 ((hdL.and h1).imp fun {x y} ⟨ha,hb⟩=>⟨ha,fun _ b hbx hby=>hb.2 rfl b hbx hby⟩)
    ·have e:(pin'.map fun T=>go (fo T)).map ρ'.pl=pin'.map fun T=>ρ'.pl (go (fo T)):=by rw[T4];rfl
     show Ap (pin'.map fun T=>ρ2.pl (fo T)) _;rw[e];refine Ap.map fun T hT=>?_;have:=RO.1 cpin T hT;simp only[jB]at this;exact(tr _ this.2).2.symm
   ·intro b hb;have hb:(ρ'.pl kf).fp b:=hb;rw[hkf]at hb;obtain⟨x,hx,hb⟩:=hb;exact(hentL x hx).lt b hb
   ·intro _ b hb;have hb:(ρ'.pl kf).fp b:=hb;rw[hkf]at hb;obtain⟨x,hx,hb⟩:=hb;exact(hentL x hx).own rfl b hb
  grind
 ·show List.Pairwise (pE ρ') (_::ql (kN go ex'));refine List.pairwise_cons.2 ⟨fun y hy=>⟨hds2.1 y hy,fun _ b hb hb'=>?_⟩,?_⟩
  ·have hb:(ρ'.pl kf).fp b:=hb;rw[hkf]at hb;obtain⟨x,hx,hb⟩:=hb;obtain⟨z,hz,rfl⟩:=kj.1 hy;obtain⟨u,hu,rfl⟩:=kj.1 hz;have hb':(ρ'.pl (go u.1)).fp b:=hb';rw[(trX _ (vk cex u hu).1).2]at hb';exact(hap.2.2 ⟨x.1,true,x.2⟩ (kj.2 ⟨x,hx,rfl⟩) ⟨u.1,true,u.2⟩ (kj.2 ⟨u,hu,rfl⟩)).2 rfl b hb hb'
  ·have h1:=RN.1 hap.2.1;have h3:=hds2.2;simp only[ql,kN,T4]at h3 ⊢;have h3:=RN.1 h3;refine RN.2 (zBf (fun {x y} hx hy hxy=>?_) (h3.and h1));obtain⟨ha,hb⟩:=hxy;refine⟨ha,fun _ b hbx hby=>?_⟩;have hbx:(ρ'.pl (go x.1)).fp b:=hbx;have hby:(ρ'.pl (go y.1)).fp b:=hby;rw[(trX _ (vk cex x hx).1).2]at hbx;rw[(trX _ (vk cex y hy).1).2]at hby;exact hb.2 rfl b hbx hby
def seenIn(m nU nF:Nat)(gi:Nat->Nat)(T:Nat):Bool:=Nat.ble m T&&(Nat.blt T nU&&Nat.blt (gi T) nF)
theorem TW{okQ:Q->Prop}{L:Q->List (Nat×Chunk)}(wr:Bool)
 (hF:ρF.n=nF) (hm:Nat.ble m nU=true) (cXI:XI.all (seenIn m nU nF gi)=true) (cVI:VI.all (fun T=>fU XI T||(fU LO T&&(Nat.blt T m&&Nat.blt (gi T) nF)))=true)
 (cex:BH (fU VI) (fU XI) exU=true) (cro:BH (fU VI) (fU XI) roU=true)
 (hh:ak w M ρF ((⟨k,wr,.Cd (LO.map gi) (tt.map gi) tc xs (BF m LO okQ L)⟩:x7)::(ql (kN gi exU)++EV (kN gi roU))) w) :
 (∀T∈tt,(ρF.pl (gi T)).fp (ρF.pl (gi T)).blk)/\∃q,okQ q/\∃ρU:Env,ρU.n=nU/\(∀T,fU VI T=true->gi T<nF/\gG (ρF.pl (gi T)) (ρU.pl T))/\(∀T,fU XI T=true->gi T<nF/\ρF.pl (gi T)=ρU.pl T)/\(∀T,fU VI T=true->T<nU) /\
  ak w M ρU (((L q).map fun p=>(⟨p.1,wr,p.2⟩:x7))++(ql exU++EV roU)) w:=by
 have hm:=EY hm;have he:=hh.jk _ List.mem_cons_self;obtain⟨hts,hgc,hR⟩:=he.ch;have hnm:∀ {tt tc:List Nat} {xs:List A} {p:Place},kP ρF p w (tt.map gi) tc xs->∀T∈tt,(ρF.pl (gi T)).fp (ρF.pl (gi T)).blk:=by
  intro tt
  induction tt with
  |nil=>grind
  |cons U tt ih =>
   intro tc xs p h T hT;cases tc<;>cases xs<;>first|exact h.elim|skip
   rcases uf.1 hT with rfl|hT
   ·exact h.1.2.2.1
   ·exact ih h.2 T hT
 obtain⟨q,hq,ρi,hin,hsame⟩:=hR w fun _ _=>rfl
 let ρU:Env:=⟨nU,fun T=>if T<m then ρi.pl T else ρF.pl (gi T)⟩
 have e1:∀T,T<m->ρU.pl T=ρi.pl T:=fun T hT=>by grind
 have hXI:∀T,fU XI T=true->m<=T/\T<nU/\gi T<nF/\ρF.pl (gi T)=ρU.pl T:=fun T hT=>by
  have h:=ue cXI hT;unfold seenIn at h;simp only[jB]at h;have h1:=EY h.1;have h2:T<nU:=by have:=h.2.1;simp[Nat.blt]at this;omega
  have h3:gi T<nF:=by have:=h.2.2;simp[Nat.blt]at this;omega
  grind
 have hVI:∀T,fU VI T=true->T<nU/\gi T<nF/\gG (ρF.pl (gi T)) (ρU.pl T):=fun T hT=>by
  have h:=ue cVI hT;rw[IE]at h;rcases h with h|h
  ·grind [gG.refl]
  ·simp only[jB]at h;have h1:T<m:=by have:=h.2.1;simp[Nat.blt]at this;omega
   have h2:gi T<nF:=by have:=h.2.2;simp[Nat.blt]at this;omega
   have hp:T∈LO:=by
    have:∀(l:List Nat),fU l T=true->T∈l:=by
     intro l
     induction l with
     |nil=>intro h;cases h
     |cons x r ih =>
      grind [fU,gM]
    exact this LO h.1
   have hs:Ap (LO.map ρi.pl) (LO.map fun T=>ρF.pl (gi T)):=by rw[show(LO.map fun T=>ρF.pl (gi T))=(LO.map gi).map ρF.pl by rw[T4];rfl];exact hsame
   have:=Ap.at_ hs T hp
   grind [this.symm]
 have hle:ρi.le ρU:=⟨by grind [hin.n],fun t ht=>e1 t (by grind [hin.n])⟩
 have hwE:∀e∈kN gi exU,x7.Sat w M ρF w ⟨e.1,true,e.2⟩:=fun e he=>hh.jk _ (CP _ (CQ _ (kj.2 ⟨e,he,rfl⟩)));have hrE:∀e∈kN gi roU,x7.Sat w M ρF w ⟨e.1,false,e.2⟩:=fun e he=>hh.jk _ (CP _ (LQ _ (kj.2 ⟨e,he,rfl⟩)));have bk:∀T,fU VI T=true->T<ρU.n/\gG (ρF.pl (gi T)) (ρU.pl T):=fun T hT=>⟨(hVI T hT).1,(hVI T hT).2.2⟩
 have bx:∀T,fU XI T=true->T<ρU.n/\ρF.pl (gi T)=ρU.pl T:=fun T hT=>⟨(hXI T hT).2.1,(hXI T hT).2.2.2⟩
 have hwU:=NK bk bx cex hwE;have hrU:=NK bk bx cro hrE;have hapc:=List.pairwise_cons.1 hh.apart;have hapa:=zBp.1 hapc.2;refine⟨hnm hgc,q,hq,ρU,rfl,fun T hT=>(hVI T hT).2,fun T hT=>(hXI T hT).2.2,fun T hT=>(hVI T hT).1,hh.keeps,?_,?_⟩
 ·intro e he0;rcases yG.1 he0 with h|h
  ·obtain⟨x,hx,rfl⟩:=kj.1 h;obtain⟨h1,h2⟩:=hin.ch x hx;have hpl:=e1 x.1 h1;refine⟨by grind,by show x.2.Sat ρU (ρU.pl x.1) w;rw[hpl];exact h2.mono hle,?_,?_⟩
   ·intro b hb;have hb:(ρU.pl x.1).fp b:=hb;rw[hpl]at hb;exact(hin.fp x hx b hb).2
   ·intro hw b hb;have hb:(ρU.pl x.1).fp b:=hb;rw[hpl]at hb;exact he.own hw b (hin.fp x hx b hb).1
  ·rcases yG.1 h with h|h
   ·obtain⟨x,hx,rfl⟩:=kj.1 h;exact hwU x hx
   ·obtain⟨x,hx,rfl⟩:=kj.1 h;exact hrU x hx
 ·have tagX:∀x∈exU,m<=x.1/\ρF.pl (gi x.1)=ρU.pl x.1:=fun x hx=>by have:=hXI _ (vk cex x hx).1;grind
  have tagR:∀x∈roU,m<=x.1/\ρF.pl (gi x.1)=ρU.pl x.1:=fun x hx=>by have:=hXI _ (vk cro x hx).1;grind
  have mv:∀ {b c:Bool} {x y:Nat×Chunk},ρF.pl (gi x.1)=ρU.pl x.1->ρF.pl (gi y.1)=ρU.pl y.1->pE ρF ⟨gi x.1,b,yg gi x.2⟩ ⟨gi y.1,c,yg gi y.2⟩->pE ρU ⟨x.1,b,x.2⟩ ⟨y.1,c,y.2⟩:=fun {b c x y} hx hy ⟨h1,h2⟩ =>
   ⟨fun h=>h1 (by grind),fun hw z hz hz'=>h2 hw z (by grind) (by grind)⟩
  refine zBp.2 ⟨?_,zBp.2 ⟨?_,?_,?_⟩,?_⟩
  ·have h1:=RN.1 hin.apart;refine RN.2 (zBf (fun {x y} hx hy hxy=>?_) h1);refine⟨hxy.1,fun _ b hb hb'=>?_⟩;have hb:(ρU.pl x.1).fp b:=hb;have hb':(ρU.pl y.1).fp b:=hb';rw[e1 _ (hin.ch x hx).1]at hb;rw[e1 _ (hin.ch y hy).1]at hb';exact hxy.2 rfl b hb hb'
  ·have h1:=hapa.1;simp only[ql,kN,T4]at h1;have h1:=RN.1 h1;exact RN.2 (zBf (fun {x y} hx hy hxy=>mv (tagX x hx).2 (tagX y hy).2 hxy) h1)
  ·have h1:=hapa.2.1;simp only[EV,kN,T4]at h1;have h1:=RN.1 h1;exact RN.2 (zBf (fun {x y} hx hy hxy=>mv (tagR x hx).2 (tagR y hy).2 hxy) h1)
  ·intro e he1 f hf;obtain⟨x,hx,rfl⟩:=kj.1 he1;obtain⟨y,hy,rfl⟩:=kj.1 hf;exact mv (tagX x hx).2 (tagR y hy).2 (hapa.2.2 ⟨gi x.1,true,yg gi x.2⟩ (kj.2 ⟨_,kj.2 ⟨x,hx,rfl⟩,rfl⟩) ⟨gi y.1,false,yg gi y.2⟩ (kj.2 ⟨_,kj.2 ⟨y,hy,rfl⟩,rfl⟩))
  ·intro e he1 f hf;obtain⟨x,hx,rfl⟩:=kj.1 he1;have hx1:=(hin.ch x hx).1;have key:∀(y:Nat×Chunk) (c:Bool),m<=y.1->ρF.pl (gi y.1)=ρU.pl y.1->pE ρF ⟨k,wr,.Cd (LO.map gi) (tt.map gi) tc xs (BF m LO okQ L)⟩ ⟨gi y.1,c,yg gi y.2⟩->pE ρU ⟨x.1,wr,x.2⟩ ⟨y.1,c,y.2⟩:=fun y c h1 h2 h3 =>
    ⟨by grind,fun hw b hb hb'=>by
     have hb:(ρU.pl x.1).fp b:=hb;have hb':(ρU.pl y.1).fp b:=hb';rw[e1 _ hx1]at hb;rw[<- h2]at hb';exact h3.2 hw b (hin.fp x hx b hb).1 hb'⟩
   rcases yG.1 hf with hf|hf
   ·obtain⟨y,hy,rfl⟩:=kj.1 hf;exact key y true (tagX y hy).1 (tagX y hy).2 (hapc.1 _ (CQ _ (kj.2 ⟨_,kj.2 ⟨y,hy,rfl⟩,rfl⟩)))
   ·obtain⟨y,hy,rfl⟩:=kj.1 hf;exact key y false (tagR y hy).1 (tagR y hy).2 (hapc.1 _ (LQ _ (kj.2 ⟨_,kj.2 ⟨y,hy,rfl⟩,rfl⟩)))
theorem GP{f:Nat->Nat}{P:Nat->Bool}{ρ ρ':Env}(h:∀T,P T=true->T<ρ.n/\gG (ρ'.pl (f T)) (ρ.pl T)):∀ {xs:List SV} {vs:List Value},xs.all (Rf P)=true->ko ρ' (xs.map (Jr f)) vs->ko ρ xs vs
 |[],_,_,r=>r
 |x::xs,_,hx,⟨v,t,e,r1,r2⟩=>by
  simp only[List.all_cons,jB]at hx;exact⟨v,t,e,abc h hx.1 r1,GP h hx.2 r2⟩
structure afB(nF nU m:Nat)(gi:Nat->Nat)(LO VI XI:List Nat):Prop where
 hm:Nat.ble m nU=true
 xi:XI.all (seenIn m nU nF gi)=true
 vi:VI.all (fun T=>fU XI T||(fU LO T&&(Nat.blt T m&&Nat.blt (gi T) nF)))=true
structure Ri(nF nF' nU nU' kf m':Nat)(gi go fo gb:Nat->Nat)(VI XI VO XO pin' tt tt':List Nat):Prop where
 vo:VO.all (BI nF nF' nU nU' kf gi go gb VI)=true
 xo:XO.all (BI nF nF' nU nU' kf gi go gb XI)=true
 kf:(Nat.ble nF kf&&Nat.blt kf nF')=true
 LO:pin'.all (fun T=>Nat.blt T m'&&fU VO (fo T))=true
 ctt:tt'.all (fun T=>fU VO (fo T))=true
 nm:tt'.all (fun T=>!Nat.blt (fo T) nU||fU tt (fo T))=true
structure Cz(U F:cB)(kf m':Nat)(go fo:Nat->Nat)(VO XO pin' tt' tc':List Nat)(xs:List A){Q':Type}(ok':Q'->Prop)(L':Q'->List (Nat×Chunk))(x:U.α)(o:U.β)(a:F.α)(o':F.β)(q':Q')(ex':List (Nat×Chunk)):Prop where
 post:F.post a o'
 ok:ok' q'
 hpU:U.eV x o=kN fo (L' q')++ex'
 res:F.res a o'=Jr go (U.res x o)
 cL:BH (fun T=>Nat.blt T m') (fun T=>Nat.blt T m') (L' q')=true
 cdL:distinct (ql (L' q'))=true
 cex:BH (fU VO) (fU XO) ex'=true
 ak7:Rf (fU VO) (U.res x o)=true
 cd:distinct (ql ((kf,.abs fun _ _=>True)::kN go ex'))=true
 ccs:vl (L' q') tt' tc'=some xs
 cxs:EP (fun T=>Nat.blt T m'&&fU VO (fo T)) xs=true
theorem afC{U F:cB}{f:Nat}(hU:gN X U f)(hm:F.m=U.m)(to:Ri F.m F.m' U.m U.m' kf m' id go fo gb (List.range U.m) (List.range U.m) VO XO pin' (List.range U.m) tt')
  {ok':F.α->F.β->Q'->Prop} {L':F.α->F.β->Q'->List (Nat×Chunk)}
 (mk:∀a,F.pre a->∃x:U.α,U.pre x/\U.hp x=F.hp a/\U.ro x=F.ro a/\U.args x=F.args a /\
  ∀o,U.post x o->∃o' q' ex' xs,Cz U F kf m' go fo VO XO pin' tt' tc' xs (ok' a o') (L' a o') x o a o' q' ex'/\F.eV a o'=(kf,.Cd (pin'.map fun T=>go (fo T)) (tt'.map fun T=>go (fo T)) tc' (xs.map (sH fun T=>go (fo T))) (BF m' pin' (ok' a o') (L' a o')))::kN go ex'):gN X F f:=by
 intro a hpre M ρF w vs hn hh ha;obtain⟨x,x1,x2,x3,x4,x5⟩:=mk a hpre;refine(hU x x1 M ρF w vs (hn.trans hm) (by grind) (by grind)).mono ?_;rintro e w' ⟨v,rfl,o,ρ2,g1,g2,g3,g4,g5⟩;obtain⟨o',q',ex',xs,y,z⟩:=x5 o g1;rw[y.hpU]at g5;have hr:∀T,fU (List.range U.m) T=true->T<U.m:=fun T hT=>by
  have:(List.range U.m).all (fun T=>Nat.blt T U.m)=true:=RO.2 fun t ht=>by have:=List.mem_range.1 ht;simp[Nat.blt];omega
  have:=ue this hT;simp[Nat.blt]at this;omega
 have hN2:∀T∈tt',fo T<U.m->(ρF.pl (fo T)).fp (ρF.pl (fo T)).blk:=fun T hT hlt=>by
  have hex:∀ {tt tc:List Nat} {xs:List A},vl (L' a o' q') tt tc=some xs->∀T∈tt,∃c x,Ca (L' a o' q') T c=some x:=by
   intro tt
   induction tt with
   |nil=>grind
   |cons U tt ih =>
    intro tc xs h T hT;cases tc with
    |nil=>cases h
    |cons c tc =>
     grind [vl]
  obtain⟨c,x,hc⟩:=hex y.ccs T hT;obtain⟨ty,cs,hm1,_⟩:=zV hc;have hs:=(g5.jk ⟨fo T,true,yg fo (.obj ty cs)⟩ (kj.2 ⟨(fo T,yg fo (.obj ty cs)),CQ _ (kj.2 ⟨_,hm1,rfl⟩),rfl⟩)).ch;obtain⟨_,_,_,_,_,_,g6⟩:=hs
  grind
 obtain⟨ρ',r1,r2,r3,r4⟩:=Rh (gi:=id) (go:=go) (fo:=fo) (gb:=gb) (ρU:=ρF) (pin':=pin') (Lq:=L' a o') (okQ:=ok' a o') q' y.ok hn g2 g3 (fun T hT=>⟨by grind,gG.refl _⟩) (fun T hT=>⟨by grind,rfl⟩) to.vo to.xo to.kf y.cL to.LO y.ccs y.cxs to.ctt hN2 y.cex y.ak7 y.cd y.cdL g4 g5
 grind [y.post,y.res]
theorem qf{f:Nat}(h:gN X C f):av X f C:=fun _ _ _ k=>y6 h k
theorem jj{f:Nat}{Cs:List cB}(hc:Nw X f Cs)(hb:cD C Cs):gN X C f:=K4 fun a hp=>hc.any _ _ _ (hb.body a hp)
end
end Go.Sx
namespace Go.Proofs.YtfjgoonelcaggaaGreat
open Go.Sx
structure NF where
 n:bG
 r:Option (Int×List Int)
structure NQ where
 p:dP
 c1:Nat
 c2:Nat
def DS(rg:A)(n:bG)(p:dP):List (Nat×Chunk):=Bt rg .dJ .dJ 0 7 1 3 4 5 6 8 9 10 11 12 13 14 15 16 17 18 19 20 n p++[(1,Mh 2 n.le),(2,Qv n.now)]
def xx(n:bG)(p:dP)(r:Rg.dy):List (Nat×Chunk):=DS (.ptr 21 0 0 0) n p++CI 21 22 23 r
def NF.L(f:NF)(q:NQ):List (Nat×Chunk):=match f.r with
 |none=>DS .nil f.n q.p
 |some x=>xx f.n q.p (dQ x.1 x.2 q.c1 q.c2)
def xy:List Nat:=[0,2,10,7,17,1]
def ttN:List Nat:=[0,7,17,17,17,17]
def tcN:List Nat:=[0,2,1,2,3,4]
def TX(f:NF):List Go.Sx.Place->World->Prop:=BF 24 xy (fun q:NQ=>bz f.n q.p) f.L
def csN(d e:Nat)(f:NF):List A:=[.ptr d 0 0 0,.ptr e 0 0 0,.int .i64 f.n.s.k.m.bP,.int .i64 f.n.s.k.m.ay,.int .i64 f.n.s.k.m.ready,.bool f.n.s.k.m.frozen]
def ahM(a b c d e g:Nat)(f:NF):Chunk:=.Cd [a,b,c,d,e,g] [a,d,e,e,e,e] tcN (csN d e f) (TX f)
theorem NF.fits(f:NF)(q:NQ):BH (fun T=>Nat.blt T 24) (fun T=>Nat.blt T 24) (f.L q)=true/\Go.Sx.distinct (ql (f.L q))=true/\vl (f.L q) ttN tcN=some (csN 7 17 f):=by
 obtain⟨n,r⟩:=f;cases r with
 |none=>exact⟨rfl,rfl,rfl⟩
 |some x=>exact⟨rfl,rfl,rfl⟩
def Le(T:Nat):Nat:=match T with
 |0=>0|2=>1|10=>2|7=>3|17=>4|1=>5
 |T=>T-17
def W2(e T:Nat):Nat:=bif fU xy T then T else 24+e+T
def goN(e T:Nat):Nat:=bif Nat.blt T (24+e)then Le T else T-40
def gbN(_e t:Nat):Nat:=t+40
def viN(e:Nat):List Nat:=xy++List.range' 24 e
def voN(e e':Nat):List Nat:=xy++List.range' 24 e++List.range' (48+e) e'
def xoN(e e':Nat):List Nat:=List.range' (48+e) e'
structure oh(X:Cx)(f mU mU':Nat)(hp ro:List (Nat×Chunk))(args:List SV)(K:SV->List (Nat×Chunk)->Prop):Prop where
 ex:∃(U:cB) (x:U.α),gN X U f/\U.m=mU/\U.m'=mU'/\U.pre x/\U.hp x=hp/\U.ro x=ro/\U.args x=args/\∀o,U.post x o->K (U.res x o) (U.eV x o)
variable{X:Cx}{e f mU mU':Nat}
theorem oh.of{U:cB}(hU:gN X U f)(x:U.α)(h1:U.m=mU)(h2:U.m'=mU')(h3:U.pre x){hp ro:List (Nat×Chunk)}{args:List SV}(h4:U.hp x=hp)(h5:U.ro x=ro)(h6:U.args x=args){K:SV->List (Nat×Chunk)->Prop}(h7:∀o,U.post x o->K (U.res x o) (U.eV x o)):oh X f mU mU' hp ro args K:=⟨U,x,hU,h1,h2,h3,h4,h5,h6,h7⟩
structure BJ where
 α:Type
 β:Type
 e:Nat
 e':Nat
 pre:α->Prop
 f:α->NF
 args:α->List SV
 ex:α->List (Nat×Chunk):=fun _=>[]
 ro:α->List (Nat×Chunk):=fun _=>[]
 post:α->β->Prop
 f':α->β->NF
 res:α->β->SV
 ex':α->β->List (Nat×Chunk)
 fo:Nat->Nat:=W2 e
 go:Nat->Nat:=goN e
 gb:Nat->Nat:=gbN e
 vo:List Nat:=voN e e'
 xo:List Nat:=xoN e e'
 nm:List Nat:=[0,1,2,3,4,5]
def ahN(l:List Nat)(f:NF):Chunk:=match l with
 |[a,b,c,d,e,g]=>ahM a b c d e g f
 |_=>.abs fun _ _=>False
def BJ.Mk(F:BJ):cB where
 α:=F.α
 β:=F.β
 m:=7+F.e
 m':=8+F.e+F.e'
 pre:=F.pre
 args:=fun a=>(F.args a).map (Jr Le)
 hp:=fun a=>(6,ahM 0 1 2 3 4 5 (F.f a))::kN Le (F.ex a)
 ro:=fun a=>kN Le (F.ro a)
 post:=fun a b=>F.post a b/\∃p,bz (F.f a).n p
 res:=fun a b=>Jr F.go (F.res a b)
 eV:=fun a b=>(7+F.e,ahN F.nm (F.f' a b))::kN F.go (F.ex' a b)
structure W3(F:BJ):Prop where
 i:afB (7+F.e) (24+F.e) 24 Le xy (viN F.e) (List.range' 24 F.e)
 o:Ri (7+F.e) (8+F.e+F.e') (24+F.e) (48+F.e+F.e') (7+F.e) 24 Le F.go F.fo F.gb (viN F.e) (List.range' 24 F.e) F.vo F.xo xy (ttN++List.range' 24 F.e) ttN
 args:∀a,(F.args a).all (Rf (fU (viN F.e)))=true
 ex:∀a,BH (fU (viN F.e)) (fU (List.range' 24 F.e)) (F.ex a)=true
 ro:∀a,BH (fU (viN F.e)) (fU (List.range' 24 F.e)) (F.ro a)=true
 res:∀a b,Rf (fU F.vo) (F.res a b)=true
 ex':∀a b,BH (fU F.vo) (fU F.xo) (F.ex' a b)=true
 d:∀a b,Go.Sx.distinct (ql ((7+F.e,.abs fun _ _=>True)::kN F.go (F.ex' a b)))=true
 g:∀a b,ahN F.nm (F.f' a b) = .Cd (xy.map fun T=>F.go (F.fo T)) (ttN.map fun T=>F.go (F.fo T)) tcN ((csN 7 17 (F.f' a b)).map (sH fun T=>F.go (F.fo T))) (TX (F.f' a b))
 x:∀a b,EP (fun T=>Nat.blt T 24&&fU F.vo (F.fo T)) (csN 7 17 (F.f' a b))=true
theorem BJ.sem(F:BJ)(c:W3 F)(hk:∀T∈ttN,F.fo T<24+F.e->F.fo T=T)
 (h:∀a,F.pre a->∀q:NQ,bz (F.f a).n q.p->oh X f (24+F.e) (48+F.e+F.e') ((F.f a).L q++F.ex a) (F.ro a) (F.args a) fun v l=>∃b q',F.post a b/\bz (F.f' a b).n q'.p/\v=F.res a b/\l=kN F.fo ((F.f' a b).L q')++F.ex' a b):gN X F.Mk f:=by
 intro a hpre M ρF w vs hn hh ha;have hh2:ak w M ρF ((⟨6,true,.Cd (xy.map Le) (ttN.map Le) tcN (csN 3 4 (F.f a)) (BF 24 xy (fun q:NQ=>bz (F.f a).n q.p) (F.f a).L)⟩:x7)::(ql (kN Le (F.ex a))++EV (kN Le (F.ro a)))) w:=hh;obtain⟨hN,q,hq,ρU,h1,h2,h3,h4,h5⟩:=TW (nF:=7+F.e) (nU:=24+F.e) (VI:=viN F.e) (XI:=List.range' 24 F.e) true hn c.i.hm c.i.xi c.i.vi (c.ex a) (c.ro a) hh2;obtain⟨U,x,hU,u1,u2,u3,u4,u5,u6,u7⟩:=(h a hpre q hq).ex;have hh3:ak w M ρU (ql (U.hp x)++EV (U.ro x)) w:=by
  rw[u4,u5];have e:ql ((F.f a).L q++F.ex a)++EV (F.ro a)=(((F.f a).L q).map fun p=>(⟨p.1,true,p.2⟩:x7))++(ql (F.ex a)++EV (F.ro a)):=by simp[ql]
  rw[e];exact h5
 have ha2:ko ρU (U.args x) vs:=by
  rw[u6];exact GP (fun T hT=>⟨by grind,(h2 T hT).2⟩) (c.args a) ha
 refine(hU x u3 M ρU w vs (h1.trans u1.symm) hh3 ha2).mono ?_;rintro e w' ⟨v,rfl,o,ρ2,g1,g2,g3,g4,g5⟩;obtain⟨b,q',y1,y2,y3,y4⟩:=u7 o g1;rw[y4]at g5;rw[y3]at g4;obtain⟨k1,k2,k3⟩:=NF.fits (F.f' a b) q';have hN2:∀T∈ttN,F.fo T<24+F.e->(ρF.pl (Le (F.fo T))).fp (ρF.pl (Le (F.fo T))).blk:=fun T hT hlt=>by
  grind
 obtain⟨ρ',r1,r2,r3,r4⟩:=Rh (nF':=8+F.e+F.e') (gi:=Le) (go:=F.go) (fo:=F.fo) (gb:=F.gb) (pin':=xy) (Lq:=(F.f' a b).L) (okQ:=fun q:NQ=>bz (F.f' a b).n q.p) q' y2 hn (g2.trans u2) (fun T hT=>g3 T (by omega)) h2 h3 c.o.vo c.o.xo c.o.kf k1 c.o.LO k3 (c.x a b) c.o.ctt hN2 (c.ex' a b) (c.res a b) (c.d a b) k2 g4 g5;refine⟨v,rfl,b,ρ',⟨y1,q.p,hq⟩,r1,r2,r3,?_⟩;show ak w M ρ' (ql ((7+F.e,ahN F.nm (F.f' a b))::kN F.go (F.ex' a b))) w';rw[c.g a b];exact r4
theorem Lf:∀T∈ttN,W2 e T<24+e->W2 e T=T:=fun T hT _=>by
 grind [W2]
structure HI where
 α:Type
 β:Type
 e:Nat
 e':Nat
 pre:α->Prop
 f:α->NF
 args:α->List SV
 ro:α->List (Nat×Chunk):=fun _=>[]
 post:α->β->Prop
 res:α->β->SV
 ex':α->β->List (Nat×Chunk)
def HI.Mk(F:HI):cB where
 α:=F.α
 β:=F.β
 m:=7+F.e
 m':=8+F.e+F.e'
 pre:=F.pre
 args:=fun a=>(F.args a).map (Jr Le)
 ro:=fun a=>(6,ahM 0 1 2 3 4 5 (F.f a))::kN Le (F.ro a)
 post:=fun a b=>F.post a b/\∃p,bz (F.f a).n p
 res:=fun a b=>Jr (goN F.e) (F.res a b)
 eV:=fun a b=>kN (goN F.e) (F.ex' a b)
structure ahO(F:HI):Prop where
 i:afB (7+F.e) (24+F.e) 24 Le xy (viN F.e) (List.range' 24 F.e)
 o:Ri (7+F.e) (8+F.e+F.e') (24+F.e) (48+F.e+F.e') (7+F.e) 0 Le (goN F.e) id (gbN F.e) (viN F.e) (List.range' 24 F.e) (voN F.e F.e') (xoN F.e F.e') [] ttN []
 args:∀a,(F.args a).all (Rf (fU (viN F.e)))=true
 ro:∀a,BH (fU (viN F.e)) (fU (List.range' 24 F.e)) (F.ro a)=true
 res:∀a b,Rf (fU (voN F.e F.e')) (F.res a b)=true
 ex':∀a b,BH (fU (voN F.e F.e')) (fU (xoN F.e F.e')) (F.ex' a b)=true
 d:∀a b,Go.Sx.distinct (ql ((7+F.e,.abs fun _ _=>True)::kN (goN F.e) (F.ex' a b)))=true
theorem HI.sem(F:HI)(c:ahO F)
 (h:∀a,F.pre a->∀q:NQ,bz (F.f a).n q.p->oh X f (24+F.e) (48+F.e+F.e') [] ((F.f a).L q++F.ro a) (F.args a) fun v l=>∃b,F.post a b/\v=F.res a b/\l=F.ex' a b):gN X F.Mk f:=by
 intro a hpre M ρF w vs hn hh ha;have hh2:ak w M ρF ((⟨6,false,.Cd (xy.map Le) (ttN.map Le) tcN (csN 3 4 (F.f a)) (BF 24 xy (fun q:NQ=>bz (F.f a).n q.p) (F.f a).L)⟩:x7)::(ql (kN Le [])++EV (kN Le (F.ro a)))) w:=hh;obtain⟨hN,q,hq,ρU,h1,h2,h3,h4,h5⟩:=TW (nF:=7+F.e) (nU:=24+F.e) (VI:=viN F.e) (XI:=List.range' 24 F.e) false hn c.i.hm c.i.xi c.i.vi (exU:=[]) rfl (c.ro a) hh2;obtain⟨U,x,hU,u1,u2,u3,u4,u5,u6,u7⟩:=(h a hpre q hq).ex;have hh3:ak w M ρU (ql (U.hp x)++EV (U.ro x)) w:=by
  rw[u4,u5];have e:ql []++EV ((F.f a).L q++F.ro a)=(((F.f a).L q).map fun p=>(⟨p.1,false,p.2⟩:x7))++(ql []++EV (F.ro a)):=by simp[ql,EV]
  rw[e];exact h5
 have ha2:ko ρU (U.args x) vs:=by
  rw[u6];exact GP (fun T hT=>⟨by grind,(h2 T hT).2⟩) (c.args a) ha
 refine(hU x u3 M ρU w vs (h1.trans u1.symm) hh3 ha2).mono ?_;rintro e w' ⟨v,rfl,o,ρ2,g1,g2,g3,g4,g5⟩;obtain⟨b,y1,y3,y4⟩:=u7 o g1;rw[y4]at g5;rw[y3]at g4;obtain⟨ρ',r1,r2,r3,r4⟩:=Rh (nF':=8+F.e+F.e') (gi:=Le) (go:=goN F.e) (fo:=id) (gb:=gbN F.e) (pin':=[]) (Lq:=fun _=>[]) (okQ:=fun _:Unit=>True) () trivial hn (g2.trans u2) (fun T hT=>g3 T (by omega)) h2 h3 c.o.vo c.o.xo c.o.kf (m':=0) rfl c.o.LO (tt:=[]) (tc:=[]) (xs:=[]) rfl rfl rfl (fun T hT=>by cases hT) (c.ex' a b) (c.res a b) (c.d a b) rfl g4 g5;exact⟨v,rfl,b,ρ',⟨y1,q.p,hq⟩,r1,r2,r3,r4.sub (zBO _ _)⟩
structure ahP where
 p:dP
 mc:Nat
 rc:Nat
def TY(n:bG):bG:={ n with ws:=noW }
def alo(w:Bool):cB where
 α:=kC×Rg.dy
 β:=ahP
 m:=24
 m':=50
 pre:=fun a=>a.1.n.ws=[]/\bz a.1.n a.1.p
 args:=fun _=>[.a (.ptr 0 0 0 0)]
 hp:=fun a=>bif w then xx a.1.n a.1.p a.2 else DS .nil a.1.n a.1.p
 post:=fun a b=>bz (TY a.1.n) b.p
 res:=fun _ b=>.agg [.slc 48 0 21 1 b.mc,.slc 49 0 6 0 b.rc]
 eV:=fun a b=>kN (W2 0) (bif w then xx (TY a.1.n) b.p a.2 else DS .nil (TY a.1.n) b.p)++[(48,.arr 45 Gu 1 (aa eo [rN a.1.n]))]
def Rj(x:kC×Rg.dy)(y:ahP)(z:kC)(u:Prop):=fH x.fst.p y.p x.fst.n (TY x.fst.n) (aA 1 1 21 (aa eo (oO z.n)) (aa eo (oO x.fst.n))/\bC (mh x.fst.n (TY x.fst.n) x.fst.p y.p (aM (z.n.id=(TY x.fst.n).id/\u))))
theorem afD:cD (alo false) [EG]:=cD.of (p :=
 ∀x:kC×Rg.dy,x.fst.n.ws=[]/\bz x.fst.n x.fst.p->∃y:kC,ah (jg x.fst.n y.n x.fst.p y.p (0=0) (uU x.fst.n y.n (y.n.ws=[]) (∀u:Nat,True->∃z:ahP,tO 1 u z.mc/\aM (0=z.rc)/\Rj x z y (ah (GM noW (TY x.fst.n) 0 z.p y x.fst.n x.fst.p 0 (ah (iu x.fst.n (TY x.fst.n) x.fst.n.now (bz (TY x.fst.n) z.p/\True))))))))) (by kernel_rfl) (by
 delta k8 aO dY aA pL aM mz eE cw dN fL nv iA tO rQ cK GM fH gF ah bU jS uU di fh tq oO jg mh ax Rj iu bC
 try dsimp -iota -proj only
 rintro⟨⟨n,p⟩,r⟩ ⟨h0,hat⟩;have h0:n.ws=[]:=h0;have hat:bz n p:=hat;have hat2:bz (TY n) { p with wc:=0 }:=⟨hat.st,hat.tok,hat.sep,cW 0,hat.rc⟩
 refine⟨⟨n,p⟩,?_⟩
 and_intros<;>first|exact cU|exact h0|exact kL|skip
 intro b _;refine⟨⟨{ p with wc:=0 },b,0⟩,?_⟩
 and_intros<;>first|exact cU|exact hat2|exact kL|skip)
def GQ(y z:bG)(x:Rg.dy)(u:dP):=iu y z y.now (az x.e/\aQ (aj x.l) x.c1/\wD x (bz z u/\True))
theorem afE:cD (alo true) [IA]:=cD.of (p :=
 ∀x:kC×Rg.dy,x.fst.n.ws=[]/\bz x.fst.n x.fst.p->∃y:kC,aM (k8 (x.fst.n.id=y.n.id) (0=0) x.fst.n y.n x.fst.p y.p (mg y.n x.fst.n) (ah (uU x.fst.n y.n (Rb y) (∀u:afx,DR y<=u.wc->∃z:ahP,tO 1 u.mc z.mc/\ax (bT (jA y.n.now y.n.ws)) 0 u.rc z.rc/\Rj x z y (aM (GM (kg y.n.now y.n.ws) (TY x.fst.n) u.wc z.p y x.fst.n x.fst.p (DR y) (ah (GQ x.fst.n (TY x.fst.n) x.snd z.p))))))))) (by kernel_rfl) (by
 delta k8 cE aQ aO aj ai dY aA az pL aM mz eE cw dN fL bK nv iA tO rQ wD cK GM fH gF ah bU jS uU di iq fh bT tq oO mh GQ ax Rj iu DR mg bC Rb
 try dsimp -iota -proj only
 rintro⟨⟨n,p⟩,r⟩ ⟨h0,hat⟩;have h0:n.ws=[]:=h0;have hat:bz n p:=hat;have hk:kg n.now n.ws=[]:=by rw[h0];rfl
 have ht:jA n.now n.ws=[]:=by rw[h0];rfl
 refine⟨⟨n,p⟩,?_⟩;have h1:n.ws.length<1000:=by rw[h0];decide
 have h2:∀w∈n.ws,w.w.node=0/\bZ .i64 (n.now-w.tick):=by rw[h0];intro w hw;cases hw
 and_intros<;>first|exact cU|exact h1|exact h2|(intro h_;revert h_)|omega|grind [af.refl]|rfl|grind|grind|(dsimp only;omega)|skip
 intro b hb;dsimp only at hb ⊢;rw[hk,ht];have hat2:bz (TY n) { p with wc:=b.wc }:=⟨hat.st,hat.tok,hat.sep,Az _,hat.rc⟩
 refine⟨⟨{ p with wc:=b.wc },b.mc,b.rc⟩,?_⟩
 and_intros<;>first|exact cU|exact hat2|exact kL|skip)
def fBt:BJ where
 α:=NF
 β:=Nat×Nat
 e:=0
 e':=2
 pre:=fun f=>f.n.ws=[]
 f:=fun f=>f
 args:=fun _=>[.a (.ptr 0 0 0 0)]
 post:=fun _ _=>True
 f':=fun f _=>⟨TY f.n,f.r⟩
 res:=fun _ b=>.agg [.slc 48 0 21 1 b.1,.slc 49 0 6 0 b.2]
 ex':=fun f _=>[(48,.arr 45 Gu 1 (aa eo [rN f.n]))]
theorem alq:W3 fBt:=⟨⟨rfl,rfl,rfl⟩,⟨rfl,rfl,rfl,rfl,rfl,rfl⟩,fun _=>rfl,fun _=>rfl,fun _=>rfl,fun _ _=>rfl,fun _ _=>rfl,fun _ _=>rfl,fun _ _=>rfl,fun _ _=>rfl⟩
def r00:Rg.dy:=dQ 0 [] 0 0
theorem alr:gN (Y Tryz.prog).G.X fBt.Mk 15:=fBt.sem alq Lf fun f h q hq=>by
 obtain⟨n,r⟩:=f;cases r with
 |none=>exact oh.of (jj (Cs:=[EG]) ⟨KM,trivial⟩ afD) (⟨n,q.p⟩,r00) rfl rfl ⟨h,hq⟩ (z6 _).symm rfl rfl fun o ho=>⟨(o.mc,o.rc),⟨o.p,0,0⟩,trivial,ho,rfl,rfl⟩
 |some x=>exact oh.of (jj (Cs:=[IA]) ⟨W0,trivial⟩ afE) (⟨n,q.p⟩,dQ x.1 x.2 q.c1 q.c2) rfl rfl ⟨h,hq⟩ (z6 _).symm rfl rfl fun o ho=>⟨(o.mc,o.rc),⟨o.p,q.c1,q.c2⟩,trivial,ho,rfl,rfl⟩
def GR:cB where
 α:=Int
 m:=1
 m':=1
 pre:=fun now=>0<=now/\now<1000
 args:=fun _=>[.a (.ptr 0 0 0 0),.a .dJ]
 hp:=fun now=>[(0,Qv now)]
 res:=fun _ _=>.a .any
 eV:=fun now _=>[(0,Qv (now+1))]
def ak8(now:Int):An:=.flat 6 Nat (fun s i=>(s.at_ 0 (Qv (if i=0 then now else now+1))).int 15 i) (fun _ i=>i<=1) (fun _ i=>1-i)
def Rk(y:Int)(z:Nat)(x:Int)(u:Prop):=dN (az 1) (aQ 1 1) (aO true/\lB (cE 1 1 (aV 1 (gm 1))/\(y=if z=0 then x else x+(1:Int))/\u))
def GS(x:Nat):Int:=dR (aV 1 (gm 1) (0+aG x) 0)
theorem abf:fnBody (Y Tryz.prog) [] 29 GR fun now=>[(29,[ak8 now],[])]:=fnBody.of (p :=
 ∀y:Int,aZ y 1000->(∃x:Nat,aS x (Rk y x y (bE x 1)))/\∀x:Nat,x<=1->aI (ag x) 1 (aZ (ag x) 1/\0+aG x<1/\(ai (GS x)->Q5 (bF 0 (GS x)) (if x=0 then y else y+(1:Int)) ((1099511627776:Int)-if x=0 then y else y+(1:Int)) (GS x) ((1099511627776:Int)-if x=0 then y else y+(1:Int)) (oG (if x=0 then y else y+(1:Int)) (GS x) (bQ x fun z=>Rk ((if x=0 then y else y+(1:Int))+GS x) z y (bL z 1 x))) (bQ x fun z=>Rk (if x=0 then y else y+(1:Int)) z y (bL z 1 x)))) (xL (if x=0 then y else y+(1:Int)) (y+(1:Int)))) (by kernel_rfl) (by
 delta cE aK aQ aO ai aA az cI aG aN dN fB bK aU bI bN aZ ag bD bL aq bQ bF aJ aC ah aS aI aD Q5 Rk aY gm bA oG xL lB GS bw bM bE
 try dsimp -iota -proj only
 rintro now ⟨h1,h2⟩;have hg:∀i:Nat,i<1->dR (aV 1 [Value.int .i64 1] (0+(i:Int).toNat) 0)=1:=fun i hi=>by
  have:i=0:=by omega
  subst this;rfl
 refine⟨⟨0,?_⟩,fun i hi=>⟨fun c1=>?_,fun c1 _=>⟨(),?_⟩⟩⟩
 ·grind [af.refl]
 ·have hi:i<1:=by have:=qi c1;omega
  have h0:i=0:=by omega
  subst h0;rw[hg 0 hi,if_pos rfl];refine⟨by omega,by decide,fun _=>⟨fun _ _=>⟨by simp only[bZ];omega,fun _ _=>⟨by simp only[bZ];omega,by grind,1,?_⟩,fun c=>(by grind)⟩,fun c=>(by grind)⟩⟩
  grind [af.refl]
 grind)
theorem NL:av (Y Tryz.prog).G.X 29 GR:=bp gf abf trivial
structure NPR where
 n:bG
 p:dP
 r:Rg.dy
def ndL(w:Bool)(n:bG)(p:dP)(r:Rg.dy):List (Nat×Chunk):=bif w then xx n p r else DS .nil n p
def ES(n:bG):bG:={ n with now:=n.now+1 }
def als(w:Bool):cB where
 α:=NPR
 m:=24
 m':=48
 pre:=fun a=>0<=a.n.now/\a.n.now<1000
 args:=fun _=>[.a (.ptr 2 0 0 0),.a .dJ]
 hp:=fun a=>ndL w a.n a.p a.r
 res:=fun _ _=>.a .any
 eV:=fun a _=>kN (W2 0) (ndL w (ES a.n) a.p a.r)
theorem afF:cD (als false) [GR]:=cD.of (p :=
 ∀x:NPR,aZ x.n.now 1000->∃y:Int,ah (x.n.now=y/\aZ y 1000/\aP (Exists (aD (xW x.p x.p x.n (ES x.n) (iu x.n (ES x.n) (y+(1:Int)) (bC (mh x.n (ES x.n) x.p x.p (True/\True))))))))) (by kernel_rfl) (by
 delta k8 aO pJ dY aA aM mz eE cw dN fL iA rQ aP aZ cK fH gF ah bU jS aD di xW fh jg mh ax iu mg bC
 try dsimp -iota -proj only
 rintro⟨n,p,r⟩ ⟨h0,h1⟩;have h0:0<=n.now:=h0;have h1:n.now<1000:=h1;refine⟨n.now,?_⟩
 and_intros<;>first|exact cU|exact h0|exact h1|exact kL|skip
 intro _ _;refine⟨(),?_⟩
 and_intros<;>first|exact cU|exact kL|skip)
theorem afG:cD (als true) [GR]:=cD.of (p :=
 ∀x:NPR,aZ x.n.now 1000->∃y:Int,ah (x.n.now=y/\aZ y 1000/\aP (Exists (aD (pK x.p x.p x.n (ES x.n) x.n x.p (iu x.n (ES x.n) (y+(1:Int)) (az x.r.e/\aQ (aj x.r.l) x.r.c1/\wD x.r (bC (mh x.n (ES x.n) x.p x.p (True/\True)))))))))) (by kernel_rfl) (by
 delta k8 cE aQ aO aj pJ dY aA az aM mz eE cw dN fL bK iA rQ pK aP aZ wD cK fH gn gF ah bU jS aD di iq fh mh ax iu mg bC
 try dsimp -iota -proj only
 rintro⟨n,p,r⟩ ⟨h0,h1⟩;have h0:0<=n.now:=h0;have h1:n.now<1000:=h1;refine⟨n.now,?_⟩
 and_intros<;>first|exact cU|exact h0|exact h1|exact kL|skip
 intro _ _;refine⟨(),?_⟩
 and_intros<;>first|exact cU|exact kL|skip)
def fTk:BJ where
 α:=NF
 β:=Unit
 e:=0
 e':=0
 pre:=fun f=>0<=f.n.now/\f.n.now<1000
 f:=fun f=>f
 args:=fun _=>[.a (.ptr 2 0 0 0),.a .dJ]
 post:=fun _ _=>True
 f':=fun f _=>⟨ES f.n,f.r⟩
 res:=fun _ _=>.a .any
 ex':=fun _ _=>[]
theorem alu:W3 fTk:=⟨⟨rfl,rfl,rfl⟩,⟨rfl,rfl,rfl,rfl,rfl,rfl⟩,fun _=>rfl,fun _=>rfl,fun _=>rfl,fun _ _=>rfl,fun _ _=>rfl,fun _ _=>rfl,fun _ _=>rfl,fun _ _=>rfl⟩
theorem bz.tik{n:bG}{p:dP}(h:bz n p):bz (ES n) p:=⟨h.st,h.tok,h.sep,h.wc,h.rc⟩
theorem alv:gN (Y Tryz.prog).G.X fTk.Mk 29:=fTk.sem alu Lf fun f h q hq=>by
 obtain⟨n,r⟩:=f;cases r with
 |none=>exact oh.of (jj (Cs:=[GR]) ⟨NL,trivial⟩ afF) ⟨n,q.p,r00⟩ rfl rfl h (z6 _).symm rfl rfl fun o ho=>⟨(),q,trivial,hq.tik,rfl,(z6 _).symm⟩
 |some x=>exact oh.of (jj (Cs:=[GR]) ⟨NL,trivial⟩ afG) ⟨n,q.p,dQ x.1 x.2 q.c1 q.c2⟩ rfl rfl h (z6 _).symm rfl rfl fun o ho=>⟨(),q,trivial,hq.tik,rfl,(z6 _).symm⟩
def Rl(n:bG)(w:ot):gD:=⟨n,[],[⟨w.id,w.op,w.key,zJ w.op w.key 6,oN,false⟩]⟩
def BK(f:NF)(w:ot)(g:Option aW)(b:Nat):gD:=match f.r with
 |none=>Rl f.n w
 |some x=>kW f.n (dQ x.1 x.2 0 0) w g b
def alw:cB where
 α:=yC
 β:=pz
 m:=24
 m':=50
 pre:=fun a=>bz a.n a.p/\a.w.key.size<=aB
 args:=fun a=>[.a (.ptr 0 0 0 0),.a (.int .i64 a.w.id),.a (.int .i64 a.w.op),.a (.str a.w.key)]
 hp:=fun a=>DS .nil a.n a.p
 post:=fun a b=>bz a.n b.p
 res:=fun a b=>.agg [.slc 48 0 21 (Rl a.n a.w).ms.length b.mc,.slc 49 0 6 (Rl a.n a.w).rs.length b.rc]
 eV:=fun a b=>kN (W2 0) (DS .nil a.n b.p)++[xw 48 (Rl a.n a.w).ms,Bk 49 (Rl a.n a.w).rs]
def GU(z:Prop)(u x:bG)(v y w:dP)(s:Prop):=k8 (0=0) z u x v y (az x.t.last) (fh w.mb y.mb/\uP x/\uO x/\ah (cR x.le.ay x.le.end_ (az x.le.top) (az x.now/\s)))
theorem afH:cD alw [KJ]:=cD.of (p :=
 ∀x:yC,bz x.n x.p/\aT x.w.key<=aB->∃y:KI,ah (x.w.id=y.id/\x.w.op=y.op/\x.w.key=y.key/\jg x.n y.n x.p y.p (aT y.key<=aB) (∀u:Nat,True->∃z:pz,(0=bJ (Rl x.n x.w).ms/\0=z.mc)/\ax 1 (bT (Rl x.n x.w).rs) u z.rc/\fH x.p z.p x.n x.n (bJ (Rl x.n x.w).ms=0/\tn (Rl x.n x.w).rs 1 [aaw y] (ah (az x.n.s.bP/\rQ x.n x.n x.p z.p (GU (y.n.id=x.n.id) y.n x.n y.p z.p x.p (bz x.n z.p/\True)))))))) (by kernel_rfl) (by
 delta k8 cE cR aO dY aA az aM eE cw dN fL iA rQ bJ aT cK fH ah bU jS GU di fh bT jg ax tn uO uP
 try dsimp -iota -proj only
 rintro⟨n,p,r,w,g⟩ ⟨hat,h1⟩;have hat:bz n p:=hat;have h1:w.key.size<=aB:=h1;refine⟨⟨n,p,w.id,w.op,w.key⟩,?_⟩
 and_intros<;>first|exact cU|exact h1|exact kL|skip
 intro b _;refine⟨⟨p,0,0,b⟩,?_⟩
 and_intros<;>first|exact cU|exact hat|exact kL|skip)
def alx:cB where
 α:=yC
 β:=pz
 m:=24
 m':=50
 pre:=fun a=>wG a/\a.w.node=0
 args:=fun a=>[.a (.ptr 0 0 0 0),.a (.int .i64 a.w.id),.a (.int .i64 a.w.op),.a (.str a.w.key)]
 hp:=fun a=>xx a.n a.p a.r
 post:=fun a b=>bz (kW a.n a.r a.w a.g b.b).n b.p
 res:=fun a b=>.agg [.slc 48 0 21 (kW a.n a.r a.w a.g b.b).ms.length b.mc,.slc 49 0 6 (kW a.n a.r a.w a.g b.b).rs.length b.rc]
 eV:=fun a b=>kN (W2 0) (xx (kW a.n a.r a.w a.g b.b).n b.p a.r)++[xw 48 (kW a.n a.r a.w a.g b.b).ms,Bk 49 (kW a.n a.r a.w a.g b.b).rs]
variable{r:Rg.dy}
theorem afI{n:bG}{w:ot}{g:Option aW}{b:Nat}:(kW n r w g b).n.le=n.le/\(kW n r w g b).n.now=n.now:=by
 unfold kW
 repeat(first|split|exact⟨rfl,rfl⟩)
theorem afJ:cD alx [KZ]:=cD.of (p :=
 ∀x:yC,wG x/\x.w.node=(0:Int)->∃y:yC,ah (Bu x.w y.w (pK x.p y.p x.n y.n x.n x.p (aM (mh x.n y.n x.p y.p (HF x.n y.n x.r y.r (wG y/\y.w.node=(0:Int)) (fun z=>dZ y z) (fun z=>dZ y z) (fun z=>dZ x z) (fun z=>0=0) fun z=>GQ x.n (gD.n (dZ x z)) x.r z.p)))))) (by kernel_rfl) (by
 delta k8 cE qd aQ aO aj pJ dY aA az aM dZ mz eE cw dN fL bK iA rQ dr pK HF nA bJ wD cK dF nM fH gn gF ah bU jS di iq fh bT mh GQ ax tn cN iu Bu mg GC dc
 try dsimp -iota -proj only
 grind [af.refl,afI])
structure aly where
 f:NF
 w:ot
 g:Option aW
structure alz where
 b:Nat
 mc:Nat
 rc:Nat
def om:BJ where
 α:=aly
 β:=alz
 e:=0
 e':=2
 pre:=fun a=>a.w.node=0/\a.w.key.size<=aB/\∀x,a.f.r=some x->∀p c1 c2,bz a.f.n p->wG ⟨a.f.n,p,dQ x.1 x.2 c1 c2,a.w,a.g⟩
 f:=fun a=>a.f
 args:=fun a=>[.a (.ptr 0 0 0 0),.a (.int .i64 a.w.id),.a (.int .i64 a.w.op),.a (.str a.w.key)]
 post:=fun _ _=>True
 f':=fun a b=>⟨(BK a.f a.w a.g b.b).n,a.f.r⟩
 res:=fun a b=>.agg [.slc 48 0 21 (BK a.f a.w a.g b.b).ms.length b.mc,.slc 49 0 6 (BK a.f a.w a.g b.b).rs.length b.rc]
 ex':=fun a b=>[xw 48 (BK a.f a.w a.g b.b).ms,Bk 49 (BK a.f a.w a.g b.b).rs]
theorem alA:W3 om:=⟨⟨rfl,rfl,rfl⟩,⟨rfl,rfl,rfl,rfl,rfl,rfl⟩,fun _=>rfl,fun _=>rfl,fun _=>rfl,fun _ _=>rfl,fun _ _=>rfl,fun _ _=>rfl,fun _ _=>rfl,fun _ _=>rfl⟩
theorem alB:gN (Y Tryz.prog).G.X om.Mk 13:=om.sem alA Lf fun a h q hq=>by
 obtain⟨⟨n,r⟩,w,g⟩:=a;obtain⟨h1,h2,h3⟩:=h;cases r with
 |none=>exact oh.of (jj (Cs:=[KJ]) ⟨Np,trivial⟩ afH) ⟨n,q.p,r00,w,g⟩ rfl rfl ⟨hq,h2⟩ (z6 _).symm rfl rfl fun o ho=>⟨⟨o.b,o.mc,o.rc⟩,⟨o.p,0,0⟩,trivial,ho,rfl,rfl⟩
 |some x=>exact oh.of (jj (Cs:=[KZ]) ⟨Ns,trivial⟩ afJ) ⟨n,q.p,dQ x.1 x.2 q.c1 q.c2,w,g⟩ rfl rfl ⟨h3 x rfl q.p q.c1 q.c2 hq,h1⟩ (z6 _).symm rfl rfl fun o ho=>⟨⟨o.b,o.mc,o.rc⟩,⟨o.p,q.c1,q.c2⟩,trivial,ho,rfl,rfl⟩
def zW(f:NF)(k:Int)(val:ByteArray)(has:Bool):gD:=match f.r with
 |none=>⟨f.n,[],[]⟩
 |some x=>afj f.n (dQ x.1 x.2 0 0) k val has
def alC:cB where
 α:=Am
 β:=pz
 m:=24
 m':=50
 pre:=fun a=>bz a.n a.p/\(a.k<0\/(a.n.rs.length:Int)<=a.k)
 args:=fun a=>[.a (.ptr 0 0 0 0),.a (.int .i64 a.k),.a (.str a.val),.a (.bool a.has)]
 hp:=fun a=>DS .nil a.n a.p
 post:=fun a b=>bz a.n b.p
 res:=fun a b=>.agg [.slc 48 0 21 0 b.mc,.slc 49 0 6 0 b.rc]
 eV:=fun a b=>kN (W2 0) (DS .nil a.n b.p)++[xw 48 [],Bk 49 []]
theorem afK:cD alC [Iw]:=cD.of (p :=
 ∀x:Am,bz x.n x.p/\(x.k<(0:Int)\/ag (cw x.n)<=x.k)->∃y:K3,ah (x.k=y.k/\x.val=y.val/\x.has=y.has/\jg x.n y.n x.p y.p (y.k<(0:Int)\/ag (cw y.n)<=y.k) (aP (∃z:pz,ah (0=z.mc)/\ah (0=z.rc)/\fH x.p z.p x.n x.n (aM (bC (az x.n.s.bP/\rQ x.n x.n x.p z.p (GU (az x.n.id) x.n x.n x.p z.p x.p (bz x.n z.p/\True))))))))) (by kernel_rfl) (by
 delta k8 cE cR aO dY aA az aM eE cw dN fL iA rQ aP ag cK fH ah bU jS GU di fh jg ax uO uP bC
 try dsimp -iota -proj only
 rintro⟨n,p,r,k,val,has⟩ ⟨hat,h1⟩;have hat:bz n p:=hat;have h1:k<0\/(n.rs.length:Int)<=k:=h1;refine⟨⟨n,p,k,val,has⟩,?_⟩
 and_intros<;>first|exact cU|exact h1|exact kL|skip
 intro _ _;refine⟨⟨p,0,0,0⟩,?_⟩
 grind [af.refl])
def alD:cB where
 α:=Am
 β:=pz
 m:=24
 m':=50
 pre:=fun a=>bz a.n a.p/\(0<=a.k/\a.k<a.n.rs.length->CJ ⟨a.n,a.p,a.r,a.k.toNat,a.val,a.has⟩)
 args:=fun a=>[.a (.ptr 0 0 0 0),.a (.int .i64 a.k),.a (.str a.val),.a (.bool a.has)]
 hp:=fun a=>xx a.n a.p a.r
 post:=fun a b=>bz a.q.n b.p
 res:=fun a b=>.agg [.slc 48 0 21 a.q.ms.length b.mc,.slc 49 0 6 a.q.rs.length b.rc]
 eV:=fun a b=>kN (W2 0) (xx a.q.n b.p a.r)++[xw 48 a.q.ms,Bk 49 a.q.rs]
theorem afL{n:bG}{k:Int}{val:ByteArray}{has:Bool}:(afj n r k val has).n.le=n.le/\(afj n r k val has).n.now=n.now:=by
 unfold afj;split<;>exact⟨rfl,rfl⟩
theorem afM:cD alD [YA]:=cD.of (p :=
 ∀x:Am,K6 x->∃y:Am,ah (x.k=y.k/\x.val=y.val/\x.has=y.has/\pK x.p y.p x.n y.n x.n x.p (aM (mh x.n y.n x.p y.p (HF x.n y.n x.r y.r (K6 y) (fun z=>y.q) (fun z=>y.q) (fun z=>x.q) (fun z=>0=0) fun z=>GQ x.n x.q.n x.r z.p))))) (by kernel_rfl) (by
 delta k8 cE qd aQ aO aj pJ dY aA az aM mz eE cw dN fL bK iA rQ dr pK HF aZ nA bJ ag wD cK dF nM fH aC gn gF ah bU jS di iq fh bT mh GQ ax K6 tn cN iu mg GC dc
 try dsimp -iota -proj only
 rintro a ⟨hat,ok⟩;refine⟨a,?_⟩
 and_intros<;>first|exact cU|exact hat|exact ok|exact kL|skip
 intro b hb;obtain⟨e1,e2⟩:=afL (n:=a.n) (r:=a.r) (k:=a.k) (val:=a.val) (has:=a.has);have e1:a.q.n.le=a.n.le:=e1;have e2:a.q.n.now=a.n.now:=e2
 grind [af.refl])
structure alE where
 f:NF
 k:Int
 val:ByteArray
 has:Bool
def oU:BJ where
 α:=alE
 β:=Nat×Nat
 e:=0
 e':=2
 pre:=fun a=>(a.f.r=none->a.k<0\/(a.f.n.rs.length:Int)<=a.k)/\∀x,a.f.r=some x->∀p c1 c2,bz a.f.n p->0<=a.k/\a.k<a.f.n.rs.length->CJ ⟨a.f.n,p,dQ x.1 x.2 c1 c2,a.k.toNat,a.val,a.has⟩
 f:=fun a=>a.f
 args:=fun a=>[.a (.ptr 0 0 0 0),.a (.int .i64 a.k),.a (.str a.val),.a (.bool a.has)]
 post:=fun _ _=>True
 f':=fun a _=>⟨(zW a.f a.k a.val a.has).n,a.f.r⟩
 res:=fun a b=>.agg [.slc 48 0 21 (zW a.f a.k a.val a.has).ms.length b.1,.slc 49 0 6 (zW a.f a.k a.val a.has).rs.length b.2]
 ex':=fun a _=>[xw 48 (zW a.f a.k a.val a.has).ms,Bk 49 (zW a.f a.k a.val a.has).rs]
theorem alF:W3 oU:=⟨⟨rfl,rfl,rfl⟩,⟨rfl,rfl,rfl,rfl,rfl,rfl⟩,fun _=>rfl,fun _=>rfl,fun _=>rfl,fun _ _=>rfl,fun _ _=>rfl,fun _ _=>rfl,fun _ _=>rfl,fun _ _=>rfl⟩
theorem alG:gN (Y Tryz.prog).G.X oU.Mk 25:=oU.sem alF Lf fun a h q hq=>by
 obtain⟨⟨n,r⟩,k,val,has⟩:=a;obtain⟨h1,h2⟩:=h;cases r with
 |none=>exact oh.of (jj (Cs:=[Iw]) ⟨WD,trivial⟩ afK) ⟨n,q.p,r00,k,val,has⟩ rfl rfl ⟨hq,h1 rfl⟩ (z6 _).symm rfl rfl fun o ho=>⟨(o.mc,o.rc),⟨o.p,0,0⟩,trivial,ho,rfl,rfl⟩
 |some x=>exact oh.of (jj (Cs:=[YA]) ⟨afl,trivial⟩ afM) ⟨n,q.p,dQ x.1 x.2 q.c1 q.c2,k,val,has⟩ rfl rfl ⟨hq,h2 x rfl q.p q.c1 q.c2 hq⟩ (z6 _).symm rfl rfl fun o ho=>⟨(o.mc,o.rc),⟨o.p,q.c1,q.c2⟩,trivial,ho,rfl,rfl⟩
def ET(f:NF)(ep tick:Int)(l:List Int):NF:=match f.r with
 |none=>if ep<f.n.s.k.m.ay then f else⟨ud f.n ep tick,some (ep,l)⟩
 |some x=>⟨ud f.n ep tick,some (if ep<=f.n.s.k.m.ay then x else(ep,l))⟩
def grA(a:gR):List SV:=[.a (.ptr 0 0 0 0),.agg (Mi 2 (.int .i64 a.ir) (.int .i64 a.n.id) (.int .i64 a.ep) (.int .i64 a.tick) (.lit .i64 0) (.lit .i64 0) oN (.slc 24 0 1 a.l.length a.cap))]
def grO(a:gR):List (Nat×Chunk):=[(24,.arr 3 [.int .i64] a.l.length (aa Rg.encI a.l))]
def amw:cB where
 α:=gR
 β:=dP
 m:=25
 m':=51
 pre:=fun a=>bz a.n a.p/\ua (jx a.n a.ir a.ep a.tick)/\Rg.jE a.l=true/\a.ep<a.n.s.k.m.ay/\a.n.s.k.m.ready=0
 args:=grA
 hp:=fun a=>DS .nil a.n a.p
 ro:=grO
 post:=fun a b=>bz a.n b
 res:=fun _ _=>.agg [.slc 49 0 21 0 0,.slc 50 0 6 0 0]
 eV:=fun a b=>kN (W2 1) (DS .nil a.n b)
theorem ahQ:cD amw [QU]:=cD.of (p :=
 ∀x:gR,bz x.n x.p/\ua (jx x.n x.ir x.ep x.tick)/\aq (Rg.jE x.l)/\x.ep<x.n.s.k.m.ay/\x.n.s.k.m.ready=(0:Int)->∃y:GF,zQ x y.ir y.n y.ep y.tick y.l y.cap (jg x.n y.n x.p y.p (0=0) (Q4 x y (∃z:dP,aQ 0 0/\aQ 0 0/\fH x.p z x.n x.n (GU (y.n.id=x.n.id) y.n x.n y.p z x.p (bC (az x.n.s.bP/\rQ x.n x.n x.p z (bz x.n z/\True)))))))) (by kernel_rfl) (by
 delta k8 cE cR aQ aO aj dY aA az pL aM eE cw dN fL bK nv iA rQ dr aP bD aq zQ cK fH aJ ah bU jS GU di zP fh jg uS ax cN uO uP mI bC Q4 dc
 try dsimp -iota -proj only
 rintro⟨n,p,ir,ep,tick,l,cap⟩ ⟨hat,h1,h2,h3,h4⟩;dsimp only at *;refine⟨⟨n,p,r00,ir,ep,tick,l,cap⟩,?_⟩
 grind [af.refl])
def amx:cB where
 α:=gR
 β:=wI
 m:=25
 m':=51
 pre:=Ny.pre
 args:=grA
 hp:=fun a=>DS .nil a.n a.p
 ro:=grO
 post:=fun a b=>bz (ud a.n a.ep a.tick) b.p
 res:=fun _ _=>.agg [.slc 49 0 21 0 0,.slc 50 0 6 0 0]
 eV:=fun a b=>kN (W2 1) (xx (ud a.n a.ep a.tick) b.p (dQ a.ep a.l b.c1 b.c2))
theorem YF{n:bG}{ep tick:Int}:(ud n ep tick).now=n.now:=by
 unfold ud;split
 ·rfl
 ·split<;>rfl
def Rm(y x:gR)(v:Prop)(w t:wI->Rg.dy):=mh y.n x.n y.p x.p (y.n.now=x.n.now/\dr x.l y.l Rg.encI/\v/\∀z:wI,bz (ud x.n x.ep x.tick) z.p->∃u:wI,aQ 0 0/\aQ 0 0/\pK z.p u.p (ud x.n x.ep x.tick) (ud y.n y.ep y.tick) (ud x.n x.ep x.tick) z.p (iu (ud x.n x.ep x.tick) (ud y.n y.ep y.tick) y.n.now (nA (w z) (t u) (0=0) (aM (rP (ud x.n x.ep x.tick).s (ud y.n y.ep y.tick) z.p.p u.p)))))
theorem ahR:cD amx [Ny]:=cD.of (p :=
 ∀x:gR,K5 x->∃y:gR,zR x y (xW x.p y.p x.n y.n (gF x.n.le y.n.le (bC (Rm x y (K5 y) (fun z=>qE y z) fun z=>qE x z))))) (by kernel_rfl) (by
 delta k8 cR qd aQ aO aj pJ dY aA az aM mz eE cw dN fL bK iA rQ dr pK nA bD zQ cK dF fH aJ gn Rm gF ah bU jS di xW fh jg mh uS K5 ax rP cN qE iu mI mg bC zR dc
 try dsimp -iota -proj only
 grind [YF,af.refl])
def amy:cB where
 α:=WK
 β:=wI
 m:=25
 m':=51
 pre:=Nx
 args:=fun a=>grA a.a
 hp:=fun a=>xx a.a.n a.a.p a.r
 ro:=fun a=>grO a.a
 post:=fun a b=>bz (ud a.a.n a.a.ep a.a.tick) b.p
 res:=fun _ _=>.agg [.slc 49 0 21 0 0,.slc 50 0 6 0 0]
 eV:=fun a b=>kN (W2 1) (xx (ud a.a.n a.a.ep a.a.tick) b.p (grR a.a.n a.r a.a.ep a.a.l b.c1 b.c2))
theorem YG:cD amy [afg]:=cD.of (p :=
 ∀x:WK,Nx x->∃y:WK,zR x.a y.a (pK x.a.p y.a.p x.a.n y.a.n x.a.n x.a.p (gF x.a.n.le y.a.n.le (nA x.r y.r (0=0) (aM (Rm x.a y.a (Nx y) (fun z=>DP y z) fun z=>DP x z)))))) (by kernel_rfl) (by
 delta k8 cR qd aQ aO aj pJ dY aA az aM mz eE cw dN fL bK iA rQ dr pK nA bD zQ cK dF fH aJ gn Rm gF ah bU jS di fh mh uS ax rP DP cN iu mI mg zR dc
 try dsimp -iota -proj only
 grind [YF,af.refl])
structure ak9 where
 f:NF
 ir:Int
 ep:Int
 tick:Int
 l:List Int
 cap:Nat
def ak9.a(a:ak9)(p:dP):gR:=⟨a.f.n,p,a.ir,a.ep,a.tick,a.l,a.cap⟩
def HJ:BJ where
 α:=ak9
 β:=Unit
 e:=1
 e':=2
 pre:=fun a=>ua (jx a.f.n a.ir a.ep a.tick)/\Rg.jE a.l=true/\a.f.n.s.k.m.ready=0/\(a.f.r=none->a.f.n.s.k.m.ay<=a.ep->∀p,bz a.f.n p->Ny.pre (a.a p))/\∀x,a.f.r=some x->∀p c1 c2,bz a.f.n p->Nx ⟨a.a p,dQ x.1 x.2 c1 c2⟩
 f:=fun a=>a.f
 args:=fun a=>[.a (.ptr 0 0 0 0),.agg (Mi 2 (.int .i64 a.ir) (.int .i64 a.f.n.id) (.int .i64 a.ep) (.int .i64 a.tick) (.lit .i64 0) (.lit .i64 0) oN (.slc 24 0 1 a.l.length a.cap))]
 ro:=fun a=>[(24,.arr 3 [.int .i64] a.l.length (aa Rg.encI a.l))]
 post:=fun _ _=>True
 f':=fun a _=>ET a.f a.ep a.tick a.l
 res:=fun _ _=>.agg [.slc 49 0 21 0 0,.slc 50 0 6 0 0]
 ex':=fun _ _=>[]
theorem alH:W3 HJ:=⟨⟨rfl,rfl,rfl⟩,⟨rfl,rfl,rfl,rfl,rfl,rfl⟩,fun _=>rfl,fun _=>rfl,fun _=>rfl,fun _ _=>rfl,fun _ _=>rfl,fun _ _=>rfl,fun _ _=>rfl,fun _ _=>rfl⟩
theorem alI:gN (Y Tryz.prog).G.X HJ.Mk 16:=HJ.sem alH Lf fun a h q hq=>by
 obtain⟨⟨n,r⟩,ir,ep,tick,l,cap⟩:=a;obtain⟨h1,h2,h3,h4,h5⟩:=h;cases r with
 |none =>
  by_cases he:ep<n.s.k.m.ay
  ·exact oh.of (jj (Cs:=[QU]) ⟨aaS,trivial⟩ ahQ) ⟨n,q.p,ir,ep,tick,l,cap⟩ rfl rfl ⟨hq,h1,h2,he,h3⟩ (z6 _).symm rfl rfl fun o ho=>⟨(),⟨o,0,0⟩,trivial,by rw[show HJ.f' ⟨⟨n,none⟩,ir,ep,tick,l,cap⟩ ()=⟨n,none⟩from if_pos he];exact ho,rfl,by rw[show HJ.f' ⟨⟨n,none⟩,ir,ep,tick,l,cap⟩ ()=⟨n,none⟩from if_pos he];exact(z6 _).symm⟩
  ·exact oh.of (jj (Cs:=[Ny]) ⟨afi,trivial⟩ ahR) ⟨n,q.p,ir,ep,tick,l,cap⟩ rfl rfl (h4 rfl (by grind) q.p hq) (z6 _).symm rfl rfl fun o ho=>⟨(),⟨o.p,o.c1,o.c2⟩,trivial,by rw[show HJ.f' ⟨⟨n,none⟩,ir,ep,tick,l,cap⟩ ()=⟨ud n ep tick,some (ep,l)⟩from if_neg he];exact ho,rfl,by rw[show HJ.f' ⟨⟨n,none⟩,ir,ep,tick,l,cap⟩ ()=⟨ud n ep tick,some (ep,l)⟩from if_neg he];exact(z6 _).symm⟩
 |some x =>
  have hx:=h5 x rfl q.p q.c1 q.c2 hq;by_cases he:ep<=n.s.k.m.ay
  ·have e:HJ.f' ⟨⟨n,some x⟩,ir,ep,tick,l,cap⟩ ()=⟨ud n ep tick,some x⟩:=by show NF.mk _ (some (if ep<=n.s.k.m.ay then _ else _))=_;rw[if_pos he]
   exact oh.of (jj (Cs:=[afg]) ⟨Yz,trivial⟩ YG) ⟨⟨n,q.p,ir,ep,tick,l,cap⟩,dQ x.1 x.2 q.c1 q.c2⟩ rfl rfl hx (z6 _).symm rfl rfl fun o ho=>⟨(),⟨o.p,q.c1,q.c2⟩,trivial,by rw[e];exact ho,rfl,by
    rw[e];show kN (W2 1) (xx (ud n ep tick) o.p (grR n (dQ x.1 x.2 q.c1 q.c2) ep l o.c1 o.c2))=_;rw[show grR n (dQ x.1 x.2 q.c1 q.c2) ep l o.c1 o.c2=dQ x.1 x.2 q.c1 q.c2 from if_pos he];exact(z6 _).symm⟩
  ·have e:HJ.f' ⟨⟨n,some x⟩,ir,ep,tick,l,cap⟩ ()=⟨ud n ep tick,some (ep,l)⟩:=by show NF.mk _ (some (if ep<=n.s.k.m.ay then _ else _))=_;rw[if_neg he]
   exact oh.of (jj (Cs:=[afg]) ⟨Yz,trivial⟩ YG) ⟨⟨n,q.p,ir,ep,tick,l,cap⟩,dQ x.1 x.2 q.c1 q.c2⟩ rfl rfl hx (z6 _).symm rfl rfl fun o ho=>⟨(),⟨o.p,o.c1,o.c2⟩,trivial,by rw[e];exact ho,rfl,by
    rw[e];show kN (W2 1) (xx (ud n ep tick) o.p (grR n (dQ x.1 x.2 q.c1 q.c2) ep l o.c1 o.c2))=_;rw[show grR n (dQ x.1 x.2 q.c1 q.c2) ep l o.c1 o.c2=dQ ep l o.c1 o.c2 from if_neg he];exact(z6 _).symm⟩
def alJ(w:Bool):cB where
 α:=NPR
 β:=Nat
 m:=24
 m':=49
 pre:=fun a=>a.n.rs.length<1000
 args:=fun _=>[.a (.ptr 0 0 0 0)]
 ro:=fun a=>ndL w a.n a.p a.r
 res:=fun a c=>.a (.slc 48 0 1 (aH a.n.rs).length c)
 eV:=fun a _=>[(48,.arr 9 [.str] (aH a.n.rs).length (aa ic (aH a.n.rs)))]
theorem afN:cD (alJ false) [QT]:=cD.of (p :=
 ∀x:NPR,cw x.n<1000->∃y:Ak,ah (jg x.n y.n x.p y.p (tq y.n x.n) (cw y.n<1000/\∀z:Nat,True->Exists (DM y.n.rs x.n z)))) (by kernel_rfl) (by
 delta k8 aO aA aF eE cw dN fL iA iQ ah bU di tq jg DM ax
 try dsimp -iota -proj only
 rintro⟨n,p,r⟩ h;have h:n.rs.length<1000:=h;refine⟨⟨n,p⟩,?_⟩
 grind [af.refl])
theorem afO:cD (alJ true) [TA]:=cD.of (p :=
 ∀x:NPR,cw x.n<1000->Exists (Q9 x.n x.p fun y z=>Exists (DM y.n.rs x.n z))) (by kernel_rfl) (by
 delta k8 aO aA aM aF eE cw dN fL iA iQ ah bU di tq DM ax Q9
 try dsimp -iota -proj only
 rintro⟨n,p,r⟩ h;have h:n.rs.length<1000:=h;refine⟨⟨n,p⟩,?_⟩
 grind [af.refl])
def fRs:HI where
 α:=NF
 β:=Nat
 e:=0
 e':=1
 pre:=fun f=>f.n.rs.length<1000
 f:=fun f=>f
 args:=fun _=>[.a (.ptr 0 0 0 0)]
 post:=fun _ _=>True
 res:=fun f c=>.a (.slc 48 0 1 (aH f.n.rs).length c)
 ex':=fun f _=>[(48,.arr 9 [.str] (aH f.n.rs).length (aa ic (aH f.n.rs)))]
theorem alK:ahO fRs:=⟨⟨rfl,rfl,rfl⟩,⟨rfl,rfl,rfl,rfl,rfl,rfl⟩,fun _=>rfl,fun _=>rfl,fun _ _=>rfl,fun _ _=>rfl,fun _ _=>rfl⟩
theorem alL:gN (Y Tryz.prog).G.X fRs.Mk 17:=fRs.sem alK fun f h q hq=>by
 obtain⟨n,r⟩:=f;cases r with
 |none=>exact oh.of (jj (Cs:=[QT]) ⟨aaQ,trivial⟩ afN) ⟨n,q.p,r00⟩ rfl rfl h rfl (z6 _).symm rfl fun o ho=>⟨o,trivial,rfl,rfl⟩
 |some x=>exact oh.of (jj (Cs:=[TA]) ⟨TB,trivial⟩ afO) ⟨n,q.p,dQ x.1 x.2 q.c1 q.c2⟩ rfl rfl h rfl (z6 _).symm rfl fun o ho=>⟨o,trivial,rfl,rfl⟩
def ahS(f:NF)(k:ByteArray):Bool:=match f.r with
 |none=>false
 |some x=>gJ f.n (dQ x.1 x.2 0 0) k
def alM:cB where
 α:=wF
 m:=24
 m':=48
 pre:=fun a=>a.key.size<=aB/\1<=a.n.id
 args:=fun a=>[.a (.ptr 0 0 0 0),.a (.str a.key)]
 ro:=fun a=>DS .nil a.n a.p
 res:=fun _ _=>.a (.bool false)
theorem afP:cD alM [QS]:=cD.of (p :=
 ∀x:wF,aT x.key<=aB/\(1:Int)<=x.n.id->∃y:Ww,ah (x.key=y.key/\jg x.n y.n x.p y.p (0=0) (uU x.n y.n (aT y.key<=aB/\(1:Int)<=y.n.id) (aP (Exists (bN (aO false))))))) (by kernel_rfl) (by
 delta k8 aO pL aM mz eE cw dN fL nv iA bN aP aT gF ah bU uU aD di jg ax bA iu bC
 rintro⟨n,p,r,key⟩ ⟨h1,h2⟩;have h1:key.size<=aB:=h1;have h2:1<=n.id:=h2;refine⟨⟨n,p,key⟩,?_⟩
 and_intros<;>first|exact cU|exact h1|exact h2|exact kL|skip
 intro _ _;refine⟨(),?_⟩
 and_intros<;>first|exact cU|exact kL|skip)
def alN:cB where
 α:=wF
 m:=24
 m':=48
 pre:=fun a=>a.r.L.length<100000/\0<a.r.L.length/\a.key.size<=aB/\a.n.s.k.m.frozen=false
 args:=fun a=>[.a (.ptr 0 0 0 0),.a (.str a.key)]
 ro:=fun a=>xx a.n a.p a.r
 res:=fun a _=>.a (.bool (gJ a.n a.r a.key))
theorem afQ:cD alN [KS]:=cD.of (p :=
 ∀x:wF,Bs x->∃y:wF,ah (x.key=y.key/\gn x.n y.n x.p y.p (0=0) (Bv x.n y x.n x.n x.r (Exists (bN (gJ y.n y.r y.key=gJ x.n x.r x.key)))))) (by kernel_rfl) (by
 delta k8 qd aO aj aA aM mz eE cw dN fL aU iA dr bN aP nA aT Bv dF gn gF ah bU aD di uM ax bA rM cN iu bC Bs dc
 try dsimp -iota -proj only
 rintro a ⟨h1,h2,h3,h4⟩;refine⟨a,?_⟩
 and_intros<;>first|exact cU|exact h1|exact h2|exact h3|exact h4|(intro h_;revert h_)|omega|grind [af.refl]|rfl|exact af.refl _ _ _|exact cW _|(dsimp only;omega)|skip
 intro _ _;refine⟨(),?_⟩
 grind)
structure alO where
 f:NF
 key:ByteArray
def fSv:HI where
 α:=alO
 β:=Unit
 e:=0
 e':=0
 pre:=fun a=>a.key.size<=aB/\1<=a.f.n.id/\a.f.n.s.k.m.frozen=false/\∀x,a.f.r=some x->(Rg.lW x.2).length<100000/\0<(Rg.lW x.2).length
 f:=fun a=>a.f
 args:=fun a=>[.a (.ptr 0 0 0 0),.a (.str a.key)]
 post:=fun _ _=>True
 res:=fun a _=>.a (.bool (ahS a.f a.key))
 ex':=fun _ _=>[]
theorem alP:ahO fSv:=⟨⟨rfl,rfl,rfl⟩,⟨rfl,rfl,rfl,rfl,rfl,rfl⟩,fun _=>rfl,fun _=>rfl,fun _ _=>rfl,fun _ _=>rfl,fun _ _=>rfl⟩
theorem alQ:gN (Y Tryz.prog).G.X fSv.Mk 19:=fSv.sem alP fun a h q hq=>by
 obtain⟨⟨n,r⟩,key⟩:=a;obtain⟨h1,h2,h3,h4⟩:=h;cases r with
 |none=>exact oh.of (jj (Cs:=[QS]) ⟨aaO,trivial⟩ afP) ⟨n,q.p,r00,key⟩ rfl rfl ⟨h1,h2⟩ rfl (z6 _).symm rfl fun o ho=>⟨(),trivial,rfl,rfl⟩
 |some x=>exact oh.of (jj (Cs:=[KS]) ⟨EK,trivial⟩ afQ) ⟨n,q.p,dQ x.1 x.2 q.c1 q.c2,key⟩ rfl rfl ⟨(h4 x rfl).1,(h4 x rfl).2,h1,h3⟩ rfl (z6 _).symm rfl fun o ho=>⟨(),trivial,rfl,rfl⟩
structure amz where
 f:NF
 kl:Nat
 kc:Nat
 kn:Nat
 keep:Nat->Bool
structure alR where
 n:bG
 p:dP
 r:Rg.dy
 kl:Nat
 kc:Nat
 kn:Nat
 keep:Nat->Bool
def alS(w:Bool):cB where
 α:=alR
 m:=25
 m':=51
 pre:=fun a=>1<=a.n.s.d.n/\a.n.s.d.n<=2048/\a.kl<=a.kn/\a.kl<100000
 args:=fun a=>[.a (.ptr 10 0 0 0),.a (.slc 24 0 1 a.kl a.kc)]
 ro:=fun a=>ndL w a.n a.p a.r++[(24,.arr 4 [.bool] a.kn fun i _=>.bool (a.keep i))]
 res:=fun _ _=>.a (.ptr 49 0 0 0)
 eV:=fun a _=>gW 49 50 (mG a.n.s.d a.kl a.keep)
theorem aiH(keep:Nat->Bool):(fun i=>keep (0+i))=keep:=by grind
def Rn:=∀x:alR,1<=x.n.s.d.n/\x.n.s.d.n<=2048/\x.kl<=x.kn/\x.kl<100000->∃y:y9,ah ((0=y.kr/\x.kl=y.mC/\x.kc=y.ajb)/\iZ x.n.s.d y.d ((aA y.kn x.kn 1 (fun z u=>cF (x.keep z)) fun z u=>cF (y.keep z))/\(1<=y.d.n/\y.d.n<=2048/\y.kr+y.mC<=y.kn/\y.mC<100000)/\aP (Exists (aD (ah (l5 (zb y) (mG x.n.s.d x.kl x.keep)))))))
theorem afR:cD (alS false) [vr]:=cD.of (p :=
 Rn) (by kernel_rfl) (by
 delta aA aP ah Rn cF aD zb l5
 try dsimp -iota -proj only
 rintro⟨n,p,r,kl,kc,kn,keep⟩ ⟨h1,h2,h3,h4⟩;dsimp only at *;have h5:0+kl<=kn:=by omega
 refine⟨⟨n.s.d,0,kl,kc,kn,keep⟩,?_⟩
 and_intros<;>first|exact cU|exact h1|exact h2|exact h5|exact h4|(intro h_;revert h_)|omega|grind [af.refl]|rfl|grind|grind|(dsimp only;omega)|skip
 intro _ _;have e:(fun i=>keep (0+i))=keep:=aiH keep;dsimp only;rw[e];refine⟨(),?_⟩
 grind [af.refl])
theorem afS:cD (alS true) [vr]:=cD.of (p :=
 Rn) (by kernel_rfl) (by
 delta aA aP ah Rn cF aD zb l5
 try dsimp -iota -proj only
 rintro⟨n,p,r,kl,kc,kn,keep⟩ ⟨h1,h2,h3,h4⟩;dsimp only at *;have h5:0+kl<=kn:=by omega
 refine⟨⟨n.s.d,0,kl,kc,kn,keep⟩,?_⟩
 and_intros<;>first|exact cU|exact h1|exact h2|exact h5|exact h4|(intro h_;revert h_)|omega|grind [af.refl]|rfl|grind|grind|(dsimp only;omega)|skip
 intro _ _;have e:(fun i=>keep (0+i))=keep:=aiH keep;dsimp only;rw[e];refine⟨(),?_⟩
 grind [af.refl])
def fCr:HI where
 α:=amz
 β:=Unit
 e:=1
 e':=2
 pre:=fun a=>1<=a.f.n.s.d.n/\a.f.n.s.d.n<=2048/\a.kl<=a.kn/\a.kl<100000
 f:=fun a=>a.f
 args:=fun a=>[.a (.ptr 10 0 0 0),.a (.slc 24 0 1 a.kl a.kc)]
 ro:=fun a=>[(24,.arr 4 [.bool] a.kn fun i _=>.bool (a.keep i))]
 post:=fun _ _=>True
 res:=fun _ _=>.a (.ptr 49 0 0 0)
 ex':=fun a _=>gW 49 50 (mG a.f.n.s.d a.kl a.keep)
theorem alT:ahO fCr:=⟨⟨rfl,rfl,rfl⟩,⟨rfl,rfl,rfl,rfl,rfl,rfl⟩,fun _=>rfl,fun _=>rfl,fun _ _=>rfl,fun _ _=>rfl,fun _ _=>rfl⟩
theorem alU:gN (Y Tryz.prog).G.X fCr.Mk 35:=fCr.sem alT fun a h q hq=>by
 obtain⟨⟨n,r⟩,kl,kc,kn,keep⟩:=a;cases r with
 |none=>exact oh.of (jj (Cs:=[vr]) ⟨Ei,trivial⟩ afR) ⟨n,q.p,r00,kl,kc,kn,keep⟩ rfl rfl h rfl rfl rfl fun o ho=>⟨(),trivial,rfl,rfl⟩
 |some x=>exact oh.of (jj (Cs:=[vr]) ⟨Ei,trivial⟩ afS) ⟨n,q.p,dQ x.1 x.2 q.c1 q.c2,kl,kc,kn,keep⟩ rfl rfl h rfl rfl rfl fun o ho=>⟨(),trivial,rfl,rfl⟩
def foO(T:Nat):Nat:=match T with
 |2=>2|10=>24
 |T=>26+T
def goO(T:Nat):Nat:=match T with
 |26=>10|33=>11|43=>12|27=>13
 |T=>Le T
def gbO(t:Nat):Nat:=match t with
 |10=>26|11=>33|12=>43|13=>27
 |t=>t
structure alV where
 n:bG
 p:dP
 r:Rg.dy
 o:yy
def alW(w:Bool):cB where
 α:=alV
 β:=dP
 m:=26
 m':=54
 pre:=fun a=>xX.pre ⟨a.n.id,a.n.now,a.o⟩/\a.o.H=a.p.p.H
 args:=fun a=>[.a (.int .i64 a.n.id),.a (.ptr 24 0 0 0),.a (.ptr 2 0 0 0)]
 hp:=fun a=>ndL w a.n a.p a.r++gW 24 25 a.o.d
 post:=fun a b=>bz (HH ⟨a.n.id,a.n.now,a.o⟩) b
 res:=fun _ _=>.nR [.a (.ptr 26 0 0 0),.a (.lit .i64 0)]
 eV:=fun a b=>kN foO (DS .nil (HH ⟨a.n.id,a.n.now,a.o⟩) b)
def Lg(u:Int)(w t:Prop)(x y:bG):=((1:Int)<=u/\u<=(5:Int)/\w/\t)/\∀z:dP,bz x z->∃v:dP,ah (aJ (xW z v x y (iu x y x.now (bC (rP x.s y z.p v)))))
def Ro:=∀x:alV,((1:Int)<=x.n.id/\x.n.id<=(5:Int)/\Bd x.o)/\x.o.H=x.p.p.H->∃y:ahD,x.n.id=y.id/\aM (iZ x.o.d y.o.d (x.p.p.H=y.o.H/\x.n.now=y.now/\Lg y.id (Ev 0 y.o.d y.o.m) (wz (zD y.o)) (HH y) (HH { id:=x.n.id,now:=x.n.now,o:=x.o })))
theorem afT:cD (alW false) [xX]:=cD.of (p :=
 Ro) (by kernel_rfl) (by
 delta k8 aO pJ dY aA az aM mz eE cw dN fL iA Ev Lg aq fH aJ gF ah bU di xW Ro fh zy jg ax rP iu mg bC Bd
 try dsimp -iota -proj only
 rintro⟨n,p,r,o⟩ ⟨⟨g1,g2,h3,h4⟩,h2⟩;dsimp only at *;refine⟨⟨n.id,n.now,o⟩,?_⟩
 grind [af.refl])
theorem afU:cD (alW true) [xX]:=cD.of (p :=
 Ro) (by kernel_rfl) (by
 delta k8 aO pJ dY aA az aM mz eE cw dN fL iA Ev Lg aq fH aJ gF ah bU di xW Ro fh zy jg ax rP iu mg bC Bd
 try dsimp -iota -proj only
 rintro⟨n,p,r,o⟩ ⟨⟨g1,g2,h3,h4⟩,h2⟩;dsimp only at *;refine⟨⟨n.id,n.now,o⟩,?_⟩
 grind [af.refl])
structure alX where
 f:NF
 d:bH
 Q:yy->Prop
def YH:BJ where
 α:=alX
 β:=yy
 e:=2
 e':=4
 pre:=fun a=>∀H,∃o:yy,o.d=a.d/\o.H=H/\xX.pre ⟨a.f.n.id,a.f.n.now,o⟩/\a.Q o
 f:=fun a=>a.f
 args:=fun a=>[.a (.int .i64 a.f.n.id),.a (.ptr 24 0 0 0),.a (.ptr 2 0 0 0)]
 ex:=fun a=>gW 24 25 a.d
 post:=fun a o=>a.Q o
 f':=fun a o=>⟨HH ⟨a.f.n.id,a.f.n.now,o⟩,none⟩
 res:=fun _ _=>.nR [.a (.ptr 26 0 0 0),.a (.lit .i64 0)]
 ex':=fun _ _=>[]
 fo:=foO
 go:=goO
 gb:=gbO
 vo:=[2,24,26,33,43,27]
 xo:=[]
 nm:=[10,1,7,11,12,13]
theorem alY:W3 YH:=⟨⟨rfl,rfl,rfl⟩,⟨rfl,rfl,rfl,rfl,rfl,rfl⟩,fun _=>rfl,fun _=>rfl,fun _=>rfl,fun _ _=>rfl,fun _ _=>rfl,fun _ _=>rfl,fun _ _=>rfl,fun _ _=>rfl⟩
theorem alZ:∀T∈ttN,foO T<24+2->foO T=T:=by decide
theorem am0:gN (Y Tryz.prog).G.X YH.Mk 34:=YH.sem alY alZ fun a h q hq=>by
 obtain⟨⟨n,r⟩,d,Q⟩:=a;obtain⟨o,h1,h2,h3,h4⟩:=h q.p.p.H;have h1:o.d=d:=h1;subst h1;cases r with
 |none=>exact oh.of (jj (Cs:=[xX]) ⟨NA,trivial⟩ afT) ⟨n,q.p,r00,o⟩ rfl rfl ⟨h3,h2⟩ rfl rfl rfl fun b hb=>⟨o,⟨b,0,0⟩,h4,hb,rfl,(z6 _).symm⟩
 |some x=>exact oh.of (jj (Cs:=[xX]) ⟨NA,trivial⟩ afU) ⟨n,q.p,dQ x.1 x.2 q.c1 q.c2,o⟩ rfl rfl ⟨h3,h2⟩ rfl rfl rfl fun b hb=>⟨o,⟨b,0,0⟩,h4,hb,rfl,(z6 _).symm⟩
def foM(T:Nat):Nat:=match T with
 |2=>3|10=>0
 |T=>4+T
def goM(T:Nat):Nat:=match T with
 |4=>5|11=>6|21=>7|5=>8
 |T=>T
def gbM(t:Nat):Nat:=match t with
 |5=>4|6=>11|7=>21|8=>5
 |t=>t
def amA:cB where
 α:=Gt
 β:=dP
 m:=4
 m':=28
 pre:=qD.pre
 args:=qD.args
 hp:=qD.hp
 ro:=qD.ro
 post:=fun a b=>bz (B6 a) b
 res:=fun _ _=>.nR [.a (.ptr 4 0 0 0),.a (.lit .i64 0)]
 eV:=fun a b=>kN foM (DS .nil (B6 a) b)
theorem ahT:cD amA [qD]:=cD.of (p :=
 ∀y:Gt,DI y->∃x:Gt,y.id=x.id/\aM (iZ y.d x.d (y.H=x.H/\y.now=x.now/\Lg x.id (192<=x.d.n) (kz x.d 100000000000 (wz (zC { d:=x.d,H:=x.H }))) (B6 x) (B6 y)))) (by kernel_rfl) (by
 delta k8 aO pJ dY aA az aM mz eE cw dN fL iA Lg fH aJ gF ah bU di xW DI fh jg ax rP kz iu mg bC Bc
 try dsimp -iota -proj only
 grind [af.refl])
def aka:cB where
 α:=Gt
 m:=4
 m':=9
 pre:=qD.pre
 args:=qD.args
 hp:=qD.hp
 ro:=qD.ro
 res:=fun _ _=>.nR [.a (.ptr 5 0 0 0),.a (.lit .i64 0)]
 eV:=fun a _=>[(4,ahM 5 3 0 6 7 8 ⟨B6 a,none⟩)]
theorem am1:gN (Y Tryz.prog).G.X aka 11 :=
 afC (F:=aka) (jj (Cs:=[qD]) ⟨No,trivial⟩ ahT) (m':=24) (kf:=4) (go:=goM) (fo:=foM) (gb:=gbM) (VO:=[3,0,4,11,21,5]) (XO:=[]) (pin':=xy) (tt':=ttN) (tc':=tcN) rfl ⟨rfl,rfl,rfl,rfl,rfl,rfl⟩
  (ok':=fun a _ (q:NQ)=>bz (B6 a) q.p) (L':=fun a _=>(NF.mk (B6 a) none).L) fun a ha=>⟨a,ha,rfl,rfl,rfl,fun o ho =>
   have k:=NF.fits ⟨B6 a,none⟩ ⟨o,0,0⟩
   ⟨(),⟨o,0,0⟩,[],csN 7 17 ⟨B6 a,none⟩,⟨trivial,ho,(z6 _).symm,rfl,k.1,k.2.1,rfl,rfl,rfl,k.2.2,rfl⟩,rfl⟩⟩
def gK(b:Bool):List Value:=[.bool b]
structure dL where
 i:Nat
 f:NF
 cells:List ng
 c1:Nat
 c2:Nat
 c3:Nat
structure pM(x:dL):Prop where
 inv:rR x.i x.f.n x.cells
 c1:x.cells.length<=x.c1
 c2:(aH x.f.n.rs).length<=x.c2
 c3:(aR x.f.n).length<=x.c3
 no:x.f.r=none->x.f.n.rs=[]
 yes:∀y,x.f.r=some y->y.2=[1]
 nd:∀z∈x.f.n.rs,z.w.node=0
def dz(x:dL):Bool:=x.f.r.isSome&&oP x.f.n.le x.f.n.now x.f.n.s.k.m.ay
theorem ig(l:List kI):(aH l).length=l.length:=by simp[aH]
theorem eR(n:bG):(aR n).length=n.rs.length:=by simp[aR]
theorem pM.ask{x:dL}(h:pM x)(hi:x.i<60){op:Int}(hop:op=1\/op=2){key:ByteArray}(hk:key.size<=aB) :
 ∃g,om.pre ⟨x.f,⟨0,x.i+1,op,key⟩,g⟩ /\
  (dB key=false->∀b,BK x.f ⟨0,x.i+1,op,key⟩ g b=⟨x.f.n,[],[⟨x.i+1,op,key,1,oN,false⟩]⟩) /\
  (dB key=true->dz x=false->∀b,BK x.f ⟨0,x.i+1,op,key⟩ g b=⟨x.f.n,[],[⟨x.i+1,op,key,6,oN,false⟩]⟩) /\
  (dB key=true->dz x=true->op=2->∀b,BK x.f ⟨0,x.i+1,op,key⟩ g b=⟨mw x.f.n key,[],[⟨x.i+1,op,key,0,oN,false⟩]⟩) /\
  (dB key=true->dz x=true->op=1->WS x.cells key<0->∀b,BK x.f ⟨0,x.i+1,op,key⟩ g b=⟨jw x.f.n ⟨0,x.i+1,op,key⟩ b,[],[]⟩) /\
  (dB key=true->dz x=true->op=1->¬WS x.cells key<0->∀b,BK x.f ⟨0,x.i+1,op,key⟩ g b=⟨x.f.n,[],[⟨x.i+1,op,key,0,(gl x.cells (WS x.cells key).toNat).val,true⟩]⟩):=by
 obtain⟨i,⟨n,r⟩,cells,c1,c2,c3⟩:=x;have hi:i<60:=hi;have hI:rR i n cells:=h.inv;obtain⟨get,k,cb,jb,o,g,h1,h2,h3⟩:=hI.ok;have hyes:∀y,r=some y->y.2=[1]:=h.yes;have hw12:(⟨0,(i:Int)+1,op,key⟩:ot).op=1\/(⟨0,(i:Int)+1,op,key⟩:ot).op=2:=hop;refine⟨get key,⟨rfl,hk,fun y hy p q1 q2 hat=>?_⟩,?_⟩
 ·have e:=hyes y hy;have hr:GL (dQ y.1 y.2 q1 q2):=by rw[e];exact GL.mk1 _ _ _
  exact o.ask (w:=⟨0,i+1,op,key⟩) hat hr.len hk fun _ hkB=>⟨by grind [nu,hI.dn,BE],by grind [nu]⟩
 cases r with
 |none =>
  have hs:dz ⟨i,⟨n,none⟩,cells,c1,c2,c3⟩=false:=rfl;have e:∀b,BK ⟨n,none⟩ ⟨0,(i:Int)+1,op,key⟩ (get key) b=⟨n,[],[⟨i+1,op,key,zJ op key 6,oN,false⟩]⟩:=fun _=>rfl
  grind [zJ]
 |some y =>
  have ey:=hyes y rfl;have hr:GL (dQ y.1 y.2 0 0):=by rw[ey];exact GL.mk1 _ _ _
  have hsv:∀q,gJ n (dQ y.1 y.2 0 0) q=oP n.le n.now n.s.k.m.ay:=fun q=>GK ((hr.own q).trans hI.id.symm);have hs:dz ⟨i,⟨n,some y⟩,cells,c1,c2,c3⟩=oP n.le n.now n.s.k.m.ay:=rfl;have e:∀b,BK ⟨n,some y⟩ ⟨0,(i:Int)+1,op,key⟩ (get key) b=kW n (dQ y.1 y.2 0 0) ⟨0,i+1,op,key⟩ (get key) b:=fun _=>rfl;have own:Br (dQ y.1 y.2 0 0) key=n.id:=(hr.own key).trans hI.id.symm;rw[hs];refine⟨fun hb b=>?_,fun hb hv b=>?_,fun hb hv ho b=>?_,fun hb hv ho ha b=>?_,fun hb hv ho ha b=>?_⟩
  ·rw[e,ahE (by grind [zO])];rfl
  ·rw[e,afr (w:=⟨0,i+1,op,key⟩) own ((hsv key).trans hv) (DQ hw12 hb)];rfl
  ·rw[e,TP (w:=⟨0,i+1,op,key⟩) (fun q=>(hsv q).trans hv) (DQ hw12 hb) ho];rfl
  ·have hg:get key=none:=by
    rcases EM cells key with⟨_,h4⟩ | ⟨j,_,h4,_⟩
    ·exact g.no key h4
    ·grind
   rw[e,hg,TO (w:=⟨0,i+1,op,key⟩) (fun q=>(hsv q).trans hv) (DQ hw12 hb) ho rfl]
  ·have ha:¬WS cells key<0:=ha;rcases EM cells key with⟨h4,_⟩ | ⟨j,hj,h4,h5⟩
   ·omega
   ·obtain⟨a1,a2,a3⟩:=g.has _ (Ju hj);rw[h5]at a3;have hl:sS (some (jG ⟨⟨0,i+1,op,key⟩,0⟩ (gl cells j).val)) n.now=some (jG ⟨⟨0,i+1,op,key⟩,0⟩ (gl cells j).val):=TQ (x:=⟨⟨0,i+1,op,key⟩,0⟩) n.now hb a1;have a4:get key=some (jG ⟨⟨0,i+1,op,key⟩,0⟩ (gl cells j).val):=a3;rw[e,a4,YD (w:=⟨0,i+1,op,key⟩) (x:=jG ⟨⟨0,i+1,op,key⟩,0⟩ (gl cells j).val) (fun q=>(hsv q).trans hv) (DQ hw12 hb) ho hl];show gD.mk n [] [⟨i+1,op,key,0,(gl cells j).val,true⟩]=_
    grind
variable{k:Int}{val:ByteArray}{x:dL}
theorem pM.same(h:pM x)(hi:x.i<60):pM ⟨x.i+1,x.f,x.cells,x.c1,x.c2,x.c3⟩:=by
 obtain⟨get,k,cb,jb,o,g,h1,h2,h3⟩:=h.inv.ok;have hn:=h.inv.now;have hb:=h.inv.bP;have hc:=h.inv.cl;exact⟨⟨⟨get,k,cb,jb,o,g,by grind,by grind,by grind⟩,h.inv.dn,h.inv.still,h.inv.id,⟨hn.1,by grind⟩,by grind,h.inv.ep,h.inv.ws,h.inv.tk,by grind⟩,h.c1,h.c2,h.c3,h.no,h.yes,h.nd⟩
theorem pM.ak4{x:dL}(h:pM x)(hi:x.i<60){p:dP}(hat:bz x.f.n p){w:ot}(hk:dB w.key=true)(hw:w.node=0)(b:Nat)(hs:x.f.r≠none){c2 c3:Nat}(h2:(aH x.f.n.rs).length+1<=c2)(h3:(aR x.f.n).length+1<=c3) :
 pM ⟨x.i+1,⟨jw x.f.n w b,x.f.r⟩,x.cells,x.c1,c2,c3⟩/\aR (jw x.f.n w b)=aR x.f.n++[true]/\aH (jw x.f.n w b).rs=aH x.f.n.rs++[w.key]:=by
 obtain⟨m1,m2⟩:=h.inv.ak4 hi hat (w:=w) hk b;have e:aH (jw x.f.n w b).rs=aH x.f.n.rs++[w.key]:=by show aH (x.f.n.rs++[_])=_;unfold aH;rw[T3];rfl
 exact⟨⟨m1,h.c1,by grind,by grind,fun h0=>absurd h0 hs,h.yes,fun z hz=>by
  rcases yG.1 (show z∈x.f.n.rs++[_]from hz)with hz|hz
  ·exact h.nd z hz
  grind⟩,m2,e⟩
theorem pM.kill{x:dL}(h:pM x)(hi:x.i<60){key:ByteArray}(hk:dB key=true)(hs:x.f.r≠none){c1:Nat}(h1:(BD x.cells key).length<=c1) :
 pM ⟨x.i+1,⟨mw x.f.n key,x.f.r⟩,BD x.cells key,c1,x.c2,x.c3⟩/\aR (mw x.f.n key)=x.f.n.rs.map (fun z=>mT x.f.n z&&!decide (z.w.key=key))/\aH (mw x.f.n key).rs=aH x.f.n.rs/\(mw x.f.n key).s.k=x.f.n.s.k:=by
 obtain⟨m1,m2,m3⟩:=h.inv.kill hi (key:=key) hk;exact⟨⟨m1,h1,h.c2,by grind [eR,h.c3],fun h0=>absurd h0 hs,h.yes,h.nd⟩,m2,rfl,m3⟩
theorem pM.ak3{x:dL}(h:pM x)(hi:x.i<60):pM ⟨x.i+1,⟨TY (ES x.f.n),x.f.r⟩,x.cells,x.c1,x.c2,x.c3⟩ :=
 ⟨h.inv.ak3 hi,h.c1,h.c2,by show(aR (TY (ES x.f.n))).length<=x.c3;rw[eR];have:=h.c3;rw[eR]at this;exact this,h.no,h.yes,h.nd⟩
theorem pM.gr{x:dL}(h:pM x)(hi:x.i<60){p:dP}(hat:bz x.f.n p){ep tick:Int}(he:1<=ep/\ep<=4)(ht:0<=tick/\tick<=x.f.n.now){c1:Nat}(h1:(if x.f.n.s.k.m.ay<ep then[]else x.cells).length<=c1) :
 pM ⟨x.i+1,ET x.f ep tick [1],if x.f.n.s.k.m.ay<ep then[]else x.cells,c1,x.c2,x.c3⟩/\aH (ET x.f ep tick [1]).n.rs=aH x.f.n.rs/\aR (ET x.f ep tick [1]).n=(if x.f.n.s.k.m.ay<ep then x.f.n.rs.map fun _=>false else aR x.f.n) /\
  (ET x.f ep tick [1]).n.s.k.m.ay=(if x.f.n.s.k.m.ay<ep then ep else x.f.n.s.k.m.ay)/\(ET x.f ep tick [1]).n.now=x.f.n.now/\(ET x.f ep tick [1]).r.isSome=(x.f.r.isSome||decide (x.f.n.s.k.m.ay<=ep)) /\
  (ET x.f ep tick [1]).n.le=(if ep<x.f.n.s.k.m.ay then x.f.n.le else kJ x.f.n.now (if x.f.n.s.k.m.ay<ep then⟨0,0,0⟩else x.f.n.le) tick ep):=by
 obtain⟨_,_,m3,m4,m5,m6,m7,m8⟩:=h.inv.gr hi hat (cap:=1) he ht;have en:(ET x.f ep tick [1]).n=ud x.f.n ep tick:=by
  unfold ET;split
  ·split
   ·rename_i hlt;exact(if_pos hlt).symm
   ·rfl
  ·rfl
 have er:(ET x.f ep tick [1]).r.isSome=(x.f.r.isSome||decide (x.f.n.s.k.m.ay<=ep)):=by
  unfold ET;split
  ·grind
  ·grind
 have ek:aH (ud x.f.n ep tick).rs=aH x.f.n.rs:=by rw[m4]
 refine⟨⟨by grind,h1,by grind [h.c2],by grind [eR,h.c3],fun h0=>?_,fun y hy=>?_,fun z hz=>h.nd z (by grind)⟩,by grind,by grind,by grind,by grind,er,by grind⟩
 ·have h0:(ET x.f ep tick [1]).r=none:=h0;show(ET x.f ep tick [1]).n.rs=[]
  rw[en,m4];refine h.no ?_
  grind [ET]
 ·have hy:(ET x.f ep tick [1]).r=some y:=hy;unfold ET at hy;split at hy
  ·grind
  ·rename_i z hr;cases hy;split
   ·exact h.yes z hr
   ·rfl
theorem pM.am2(h:pM x)(hi:x.i<60){ep tick:Int}(he:1<=ep/\ep<=4)(ht:0<=tick/\tick<=x.f.n.now):HJ.pre ⟨x.f,0,ep,tick,[1],1⟩:=by
 have hn:=h.inv.now;have hid:=h.inv.id;have hmo:ua (jx x.f.n 0 ep tick):=EL (n:=x.f.n) (ir:=0) (ep:=ep) (tick:=tick) (by omega) (by omega) (by omega) (by omega);refine⟨hmo,(show Rg.jE [1]=true by decide),h.inv.met.1,fun h0 hle p hat=>⟨hat,hle,fun e=>h.inv.grn hi hat he ht e,fun e=>(h.inv.gr hi hat (cap:=1) he ht).2.1 e⟩,fun y hy p q1 q2 hat=>⟨hat,hmo,(show Rg.jE [1]=true by decide),h.inv.met.1,by show x.f.n.now<_;omega,fun e=>(h.inv.gr hi hat (cap:=1) he ht).2.1 e⟩⟩
theorem pM.akb(h:pM x)(hi:x.i<60){has:Bool}(hv:val.size<=210):oU.pre ⟨x.f,k,val,has⟩:=by
 refine⟨fun h0=>?_,fun y hy p q1 q2 hat hk=>?_⟩
 ·have:=h.no h0
  grind
 ·have e:=h.yes y hy;have hr:GL (dQ y.1 y.2 q1 q2):=by rw[e];exact GL.mk1 _ _ _
  have hk:0<=k/\k<x.f.n.rs.length:=hk;exact(h.inv.red hi hat hr (k:=k.toNat) (by omega) (val:=val) (has:=has) hv).1
theorem afV{f:NF}{has:Bool}(hk:¬(0<=k/\k<f.n.rs.length)):zW f k val has=⟨f.n,[],[]⟩:=by
 unfold zW;split
 ·rfl
 ·exact if_neg hk
theorem pM.red{x:dL}(h:pM x)(hi:x.i<60){p:dP}(hat:bz x.f.n p){k:Int}(hk:0<=k/\k<x.f.n.rs.length){val:ByteArray}{has:Bool}(hv:val.size<=210){c1 c2 c3:Nat}
 (h1:(if Ao x.f.n x.cells k.toNat val has=true then uT x.cells (gl x.f.n.rs k.toNat).w.key val else x.cells).length<=c1) (h2:(lq (aH x.f.n.rs) k.toNat).length<=c2) (h3:(lq (aR x.f.n) k.toNat).length<=c3) :
 ∃n',(zW x.f k val has).n=n'/\(zW x.f k val has).rs=zL (gl x.f.n.rs k.toNat).w 0 (jh val has) has/\pM ⟨x.i+1,⟨n',x.f.r⟩,if Ao x.f.n x.cells k.toNat val has=true then uT x.cells (gl x.f.n.rs k.toNat).w.key val else x.cells,c1,c2,c3⟩ /\
  aH n'.rs=lq (aH x.f.n.rs) k.toNat/\aR n'=lq (aR x.f.n) k.toNat/\n'.s.k=x.f.n.s.k/\n'.now=x.f.n.now/\n'.le=x.f.n.le/\x.f.r≠none:=by
 cases hr:x.f.r with
 |none=>have:=h.no hr;grind
 |some y =>
  have e:=h.yes y hr;have hR:GL (dQ y.1 y.2 0 0):=by rw[e];exact GL.mk1 _ _ _
  obtain⟨_,m2,m3,m4⟩:=h.inv.red hi hat hR (k:=k.toNat) (by omega) (val:=val) (has:=has) hv;have eq:zW x.f k val has=aaV x.f.n (dQ y.1 y.2 0 0) k.toNat val has:=by
   unfold zW;rw[hr];exact if_pos hk
  have ek:aH (mM x.f.n (dQ y.1 y.2 0 0) k.toNat val has).rs=lq (aH x.f.n.rs) k.toNat:=by
   show aH (x.f.n.rs.eraseIdx k.toNat)=_;unfold aH;rw[<- B9,EN]
  refine⟨mM x.f.n (dQ y.1 y.2 0 0) k.toNat val has,by rw[eq];rfl,by rw[eq];rfl,⟨m2,h1,by grind,by grind,fun h0=>(by cases h0),fun z hz=>by grind,fun z hz=>h.nd z (List.eraseIdx_subset (show z∈x.f.n.rs.eraseIdx k.toNat from hz))⟩,ek,m3,m4,rfl,rfl,by simp⟩
theorem pM.YI(h:pM x)(hi:x.i<60)(kl:Nat)(keep:Nat->Bool):YH.pre ⟨x.f,mG x.f.n.s.d kl keep,fun o=>pM ⟨x.i+1,⟨HH ⟨x.f.n.id,x.f.n.now,o⟩,none⟩,x.cells,x.c1,0,0⟩/\(HH ⟨x.f.n.id,x.f.n.now,o⟩).s.k.m.ay=x.f.n.s.k.m.ay⟩:=by
 intro H;obtain⟨o,h1,h2,h3,h4,h5⟩:=h.inv.open_ hi kl keep H;refine⟨o,h1,h2,?_,?_⟩
 ·grind [h.inv.id]
 ·show pM _/\_;rw[h.inv.id];exact⟨⟨h4,h.c1,cW 0,cW 0,fun _=>rfl,fun y hy=>(by cases hy),fun z hz=>(by cases hz)⟩,h5⟩
end Go.Proofs.YtfjgoonelcaggaaGreat
namespace Go.Sx
open Go.RowKit
section
variable {H:Type} {enc:TypeId×Value->H} {P:Program} {w:World} {held:Bool}
def Rd(enc:TypeId×Value->H)(P:Program)(w:World)(held:Bool)(t:TypeId)(cs:List Value):Prop :=
 ∃(m:Nat) (x:DataW H×List MemPlace),DataW.trod enc P w 0 (fun _=>true) held m t cs=some x/\∀b off,MemPlace.cell b off∈x.2->w.frozen? ⟨b,off,none⟩=false
def AK.all(w:World):AK:=⟨w,fun b=>b<w.heap.size⟩
variable{cs:List Value}{ft t:TypeId}{i o:Nat}
theorem Rd.field{fs:Array Field}(hu:P.underlying t=some (.struct fs))(h:Rd enc P w held t cs){f:Field}(hf:fs[i]? = some f):Rd enc P w held f.type ((cs.drop f.offset).take (P.cellsOf f.type)):=by
 obtain⟨m,x,hx,hz⟩:=h;obtain⟨xs,n,rfl,hxx,hl,hlen,hget⟩:=DataW.trod_struct hu hx;have h1:=hget i f hf;have hi:i<xs.length:=by rw[hlen];exact(zBF.1 hf).1
 refine⟨n,xs[i],by grind,fun b off hm=>hz b off ?_⟩
 grind
theorem Rd.slice{dp:Bool}{t e:TypeId}{ks:List CK}{d:Nat}{v:Value}(ht:P.underlying t=some (.slice e))(hf:wC dp P d e=some ks)(hk:ks.length=P.cellsOf e)(hk1:1<=ks.length)(h:Rd enc P w held t [v]) :
 ∃(n cap:Nat) (rows:Nat->Nat->Value),L9 (AK.all w) v ks n cap rows/\(∀i,i<n->∀(j:Nat) (k:CK),ks[j]? = some k->k.ok (rows i j))/\∀i,i<n->∃cs:List Value,Rd enc P w held e cs/\Ch ks cs/\∀j,j<ks.length->cs[j]? = some (rows i j):=by
 obtain⟨m,⟨x1,x2⟩,hx,hz⟩:=h;obtain⟨p,n,cap,rows,_,_,hkk,hlt,hrep,hsat,hel⟩:=Nj ht hf hk hk1 hx hz;refine⟨n,cap,rows,L9.of (T:=0) (ρ:=⟨1,fun _=>p⟩) (w:=w) (ty:=e) (hrep _ 0 Nat.one_pos rfl) (hsat _) (fun b hb=>⟨hlt b hb,rfl⟩),hkk,fun i hi=>?_⟩;obtain⟨m',cs,x,h1,h2,h3,h4⟩:=hel i hi;exact⟨cs,⟨m',x,h1,h2⟩,h3,h4⟩
def fieldAt(P:Program)(t:TypeId)(i:Nat):Option (TypeId×Nat):=match P.underlying t with
 |some (.struct fs)=>(fs[i]?).map fun f=>(f.type,f.offset)
 |_=>none
theorem Rd.at_(h:Rd enc P w held t cs)(hf:fieldAt P t i=some (ft,o)):Rd enc P w held ft ((cs.drop o).take (P.cellsOf ft)):=by
 unfold fieldAt at hf;split at hf
 ·rename_i fs hu;cases hi:fs[i]? with
  |none=>grind
  |some f =>
   rw[hi]at hf;simp only[zBU,T2,Prod.mk.injEq]at hf;obtain⟨rfl,rfl⟩:=hf;exact h.field hu hi
 ·cases hf
theorem Rd.cell{v:Value}(h:Rd enc P w held t cs)(hf:fieldAt P t i=some (ft,o))(h1:P.cellsOf ft=1)(hv:cs[o]? = some v):Rd enc P w held ft [v]:=by
 have:=h.at_ hf
 grind [List.drop_eq_getElem_cons]
theorem afW{Y:Gx}(hY:Y.Ok){mB:List (Nat×cB)}(ht:Ac Y.G.X mB){f:Nat}{C:cB}{l:C.α->List (Nat×List An×List An)}(hb:fnBody Y mB f C l){t e:TypeId}{ks:List CK}{d:Nat}(hu:Y.G.X.P.underlying t=some (.slice e))(hf:wC true Y.G.X.P d e=some ks)
 (hk:ks.length=Y.G.X.P.cellsOf e) (hk1:1<=ks.length) (hhp:∀a,C.hp a=[]) (hres:∀a o,C.res a o = .a .tt) {W:World}
 (hinst:∀n cap rows,n<=cap->cap<=aB->(∀i,i<n->∃cs:List Value,Rd enc Y.G.X.P W held e cs/\Ch ks cs/\∀j,j<ks.length->cs[j]? = some (rows i j)) ->
  ∃a,C.pre a/\C.args a=[.a (.slc 0 0 ks.length n cap)]/\C.ro a=[(0,.arr e ks n rows),(1,.abs (yj (AK.all W)))]/\C.m=2) {args:Array Value} {ds:List (DataW H)} {ps:List MemPlace} {r:Reach} {b0:Nat}
 (hA:DataW.TrodAll enc Y.G.X.P W 0 (fun _=>true) held [t] args.toList ds ps) (hval:∀(j:Nat) (t':TypeId) (v:Value),[t][j]? = some t'->args.toList[j]? = some v->Value.okWide Y.G.X.P W r b0 t' v)
 (hz:∀b off,MemPlace.cell b off∈ps->W.frozen? ⟨b,off,none⟩=false):Calls Y.G.X.P f args W fun e w'=>e = .returned (.bool true)/\iy (fun _=>False) W w':=by
 obtain⟨v,hv⟩:∃v,args.toList=[v]:=by
  match hl:args.toList,ds,hA with
  |[v],[d],_=>grind
  |[],_,h=>cases ds<;>exact h.elim
  |v::u::r,ds,h =>
   cases ds with
   |nil=>exact h.elim
   |cons d ds =>
    obtain⟨_,_,_,h2,_⟩:=h;cases ds<;>exact h2.elim
 rw[hv]at hA hval;obtain⟨dd,rfl⟩:∃dd,ds=[dd]:=by
  match ds,hA with
  |[d],_=>grind
  |[],h=>exact h.elim
  |d::d'::r,⟨_,_,_,h2,_⟩=>exact h2.elim
 obtain⟨p1,p2,⟨fuel,hx⟩,h2,rfl⟩:=hA;have h2:p2=[]:=h2;have hv0:=hval 0 t v rfl rfl;have hv2:Cell.okWide Y.G.X.P W r b0 t v:=by unfold Value.okWide at hv0;rw[hu]at hv0;exact hv0
 have hone:∀o l c,v.cells.toList=[.slice o l c]->v = .slice o l c:=by
  intro o l c hv;cases v<;>simp[Value.cells]at hv<;>first|exact hv|(simp[hv];done)|skip
  all_goals(unfold Cell.okWide Cell.ok at hv2;grind)
 have hc:v.cells.toList=[v]:=by
  rcases DataW.trod_slice hu hx with⟨hv,_⟩ | ⟨a,len,cap,elems,rest,m,_,hv,_⟩
  ·grind
  ·grind
 rw[hc]at hx;obtain⟨p,n,cap,rows,hn,hcm,_,hlt,hrep,hsat,hel⟩:=Nj hu hf hk hk1 hx (fun b off hm=>hz b off (CQ _ hm));obtain⟨a,g1,g2,g3,g4⟩:=hinst n cap rows hn hcm fun i hi=>by
  obtain⟨m',cs,x,h1,h2,h3,h4⟩:=hel i hi;exact⟨cs,⟨m',x,h1,h2⟩,h3,h4⟩
 have:=aht hY (fun _=>Ii hY ht) hb.body a g1 (hhp a) (hres a) (w:=W) (ρ:=⟨2,fun t=>if t=0 then p else⟨0,0,0,fun b=>b<W.heap.size⟩⟩) (vs:=[v]) g4.symm (by
  rw[g3];refine⟨iy.refl _ _,fun x hx=>?_,?_⟩
  ·simp only[EV,LS,zBI,uf,List.not_mem_nil,or_false]at hx;rcases hx with rfl|rfl
   ·exact⟨(by decide:0<2),hsat _,hlt,fun h=>(by cases h)⟩
   ·exact⟨(by decide:1<2),fun w' hw b hb=>⟨hb,hw b hb⟩,fun b hb=>hb,fun h=>(by cases h)⟩
  ·simp only[EV,LS,zBI];exact List.pairwise_cons.2 ⟨fun y hy=>by
    simp only[zAZ]at hy;subst hy;exact⟨(by decide:0≠1),fun h=>(by cases h)⟩,List.pairwise_singleton _ _⟩) (by
  rw[g2];exact⟨v,[],rfl,hrep _ 0 (by grind) rfl,rfl⟩)
 rw[<- hv]at this;omega
end
end Go.Sx
namespace Go.Proofs.YtfjgoonelcaggaaGreat
open Go.Sx
def W4:cB where
 α:=ByteArray
 m:=0
 m':=0
 args:=fun k=>[.a (.str k)]
 res:=fun k _=>.a (.bool (dB k))
theorem abg:fnBody (Y Tryz.prog) [] 22 W4 fun _=>[]:=fnBody.of (p :=
 ∀x:ByteArray,True->aK (bF 1 (ag (aT x))) (Exists (bN (bF (ag (aT x)) 40=dB x))) (l6 (dB x))) (by kernel_rfl) (by
 delta aK aU bN ag aT aq bF aD bA l6
 intro k _;refine⟨fun c=>⟨(),?_,trivial,trivial⟩,fun c=>⟨(),?_,trivial,trivial⟩⟩
 ·have c:1<=k.size:=by have:=qi c;omega
  have:¬k=ByteArray.mk #[]:=fun h=>by rw[h]at c;exact absurd c (by decide)
  grind [dB]
 ·have c:k.size=0:=by have:=ug c;omega
  have:k=ByteArray.mk #[]:=ByteArray.ext (Array.eq_empty_of_size_eq_zero c);rw[this];rfl)
theorem abh:av (Y Tryz.prog).G.X 22 W4:=bp gf abg trivial
def afX:aX->Nat×List Nat
 |[]=>(0,[])
 |e::r=>match e.ch with
  |.Cd ts _ _ _ _=>(e.tag,ts)
  |_=>afX r
def S.amB(s:S)(f:NF):S:=(s.put (s.hp.del (afX s.hp).1)).new (ahN (afX s.hp).2 f)
def S.lists(s:S)(x:dL):S :=
 ((((((s.new (.arr 101 Nv x.cells.length (aa kD x.cells))).set 11 (.a (.slc s.nx 0 3 x.cells.length x.c1))).new
  (.arr 9 [.str] (aH x.f.n.rs).length (aa ic (aH x.f.n.rs)))).set 12 (.a (.slc (s.nx+1) 0 1 (aH x.f.n.rs).length x.c2))).new
  (.arr 4 [.bool] (aR x.f.n).length (aa gK (aR x.f.n)))).set 13 (.a (.slc (s.nx+2) 0 1 (aR x.f.n).length x.c3)))
def S.am3(s:S)(x:dL):S:=(((S.amB s x.f).at_ (s.tg 8) (wO x.f.n.now x.f.n.le)).int 9 x.f.n.s.k.m.ay).set 10 (.a (.bool x.f.r.isSome))
def S.clr(s t:S):S:=t.put (((((t.hp.del (s.tg 11)).del (s.tg 12)).del (s.tg 13)).del (s.uZ (s.tg 15) 8)).del (s.tg 15))
structure eU where
 n:Nat
 cap:Nat
 ops:Nat->Nat->Value
 g:AK
def HK:List CK:=[.int .i64,.int .i64,.int .i64,.int .i64,.int .i64,.str,.str,.bool,.deep]
structure Rp(a:eU):Prop where
 ok:∀i,i<a.n->∀(j:Nat) (k:CK),HK[j]? = some k->k.ok (a.ops i j)
 keep:∀i,i<a.n->∃l c rows,L9 a.g (a.ops i 8) [.bool] l c rows/\∀q,q<l->∃b,rows q 0 = .bool b
def afY:cB where
 α:=eU
 m:=2
 m':=2
 pre:=fun a=>a.n<=a.cap/\a.cap<=aB/\Rp a
 args:=fun a=>[.a (.slc 0 0 9 a.n a.cap)]
 ro:=fun a=>[(0,.arr 98 HK a.n a.ops),(1,.abs (yj a.g))]
 res:=fun _ _=>.a .tt
def tI(a:eU)(i:Nat):Int:=dR (a.ops i 0)
def abi:ByteArray:=⟨#[107]⟩
def de(a:eU)(i:Nat):ByteArray:=if dB (yD (LM (a.ops i 5)) 45)=false/\tI a i≠2/\tI a i≠3 then abi else yD (LM (a.ops i 5)) 45
def lY(a:eU)(i:Nat):ByteArray:=yD (LM (a.ops i 6)) 210
def oA(a:eU)(i:Nat)(kp:A):Chunk:=.obj 98 [.int .i64 (tI a i),.int .i64 (dR (a.ops i 1)),.int .i64 (dR (a.ops i 2)),.int .i64 (dR (a.ops i 3)),.int .i64 (dR (a.ops i 4)),.str (de a i),.str (lY a i),.bool (HO (a.ops i 7)),kp]
def amC(r:vj):List A:=[.int .i64 r.id,.int .i64 r.op,.str r.key,.int .i64 r.err,.str r.val,.bool r.has]
def afZ(a:eU)(x:dL):An:=.mk 99 dL (fun s y=>S.lists (S.clr s (S.am3 s y)) y) (fun _ y=>y.i=x.i+1/\pM y) (fun _ _=>0) fun _=>.mk 1000 [] []
def jU(a:eU)(x:dL)(sv:Bool):vj :=
 if dB (de a x.i)=false then⟨x.i+1,if tI a x.i=3 then 2 else 1,de a x.i,1,oN,false⟩
 else if sv=false then⟨x.i+1,if tI a x.i=3 then 2 else 1,de a x.i,6,oN,false⟩
 else if tI a x.i=2 then⟨x.i+1,1,de a x.i,0,(gl x.cells (WS x.cells (de a x.i)).toNat).val,true⟩
 else⟨x.i+1,2,de a x.i,0,oN,false⟩
def fk(a:eU)(x:dL)(sv:Bool):List ng:=if dB (de a x.i)=true/\sv=true/\tI a x.i≠2 then BD x.cells (de a x.i)else x.cells
def gz(a:eU)(x:dL)(sv:Bool):List Bool:=if dB (de a x.i)=true/\sv=true/\tI a x.i≠2 then x.f.n.rs.map (fun z=>mT x.f.n z&&!decide (z.w.key=de a x.i))else aR x.f.n
def ahU(a:eU)(x:dL):An:=.mk 75 Nat (fun s c =>
 (((((s.put ((s.hp.del (s.tg 11)).del (s.tg 13))).new (.arr 101 Nv (fk a x (dz x)).length (aa kD (fk a x (dz x))))).set 11 (.a (.slc s.nx 0 3 (fk a x (dz x)).length c))).new
  (.arr 4 [.bool] (gz a x (dz x)).length (aa gK (gz a x (dz x))))).set 13 (.a (.slc (s.nx+1) 0 1 (gz a x (dz x)).length x.c3))).at_ (s.tg 26) (.obj 61 (amC (jU a x (dz x)))))
 (fun _ c=>(fk a x (dz x)).length<=c) (fun _ _=>0) fun _=>.mk 1000 [] []
def akc(a:eU)(x:dL):An:=.flat 24 Nat (fun s k=>(s.int 18 k).set 17 (.a (.int .i64 (zT x.cells (de a x.i) k)))) (fun _ k=>k<=x.cells.length) (fun _ k=>x.cells.length-k)
def qF(l:List Bool)(k:Nat):List Bool:=(l.take k).map (fun _=>false)++l.drop k
def aiI(x:dL):An:=.flat 45 Nat (fun s k=>((s.put (s.hp.del (s.tg 13))).new (.arr 4 [.bool] (aR x.f.n).length (aa gK (qF (aR x.f.n) k))) |>.set 13 (.a (.slc s.nx 0 1 (aR x.f.n).length x.c3))).int 23 k) (fun _ k=>k<=(aR x.f.n).length) (fun _ k=>(aR x.f.n).length-k)
def yF(n:bG)(key:ByteArray)(k:Nat):List Bool:=(n.rs.take k).map (fun z=>mT n z&&!decide (z.w.key=key))++(aR n).drop k
def am4(a:eU)(x:dL):An:=.flat 65 Nat (fun s k=>((s.put (s.hp.del (s.tg 13))).new (.arr 4 [.bool] (aR x.f.n).length (aa gK (yF x.f.n (de a x.i) k))) |>.set 13 (.a (.slc s.nx 0 1 (aR x.f.n).length x.c3))).int 27 k) (fun _ k=>k<=(aH x.f.n.rs).length) (fun _ k=>(aH x.f.n.rs).length-k)
def wJ(a:eU)(x:dL):Bool:=decide (tI a x.i=2)&&(dB (de a x.i)&&(dz x&&decide (WS x.cells (de a x.i)<0)))
def ahV(a:eU)(x:dL):An:=.mk 0 Bool (fun s b=>s.set 230 (.a (.bool b))) (fun _ b=>b=wJ a x) (fun _ _=>0) fun _=>Al
def wK(a:eU)(x:dL):Bool:=gl (aR x.f.n) (dR (a.ops x.i 1)).toNat&&(dz x&&(HO (a.ops x.i 7)&&decide ((lY a x.i).size<=200)))
def YJ(a:eU)(x:dL):An:=.mk 0 Bool (fun s b=>s.set 408 (.a (.bool b))) (fun _ b=>b=wK a x) (fun _ _=>0) fun _=>Al
def ij(a:eU)(x:dL):List ng:=if wK a x=true then uT x.cells (gl x.f.n.rs (dR (a.ops x.i 1)).toNat).w.key (lY a x.i)else x.cells
def YK(a:eU)(x:dL):An:=.mk 87 Nat (fun s c=>((s.put (s.hp.del (s.tg 11))).new (.arr 101 Nv (ij a x).length (aa kD (ij a x)))).set 11 (.a (.slc s.nx 0 3 (ij a x).length c))) (fun _ c=>(ij a x).length<=c) (fun _ _=>0) fun _=>Al
def aiJ(a:eU)(x:dL):An:=.mk 55 Unit (fun s _=>s.set 24 (.a (.int .i64 (if tI a x.i=3 then 2 else 1)))) (fun _ _=>True) (fun _ _=>0) fun _=>.mk 1000 [] [.Em 56 9999 true (.mk 1000 [] [ahV a x,.Em 61 9999 true (.mk 1000 [am4 a x] [ahU a x])])]
def lhB(a:eU)(x:dL):Nat->LH
 |0=>.mk 1000 [aiI x] [afZ a x,aiJ a x,.Em 85 9999 true (.mk 1000 [] [YJ a x,YK a x])]
 |n+1=>.mk 1000 [aiI x] [afZ a x,aiJ a x,.Em 85 9999 true (.mk 1000 [] [YJ a x,YK a x]),.split 0 204 (lhB a x n)]
def akd(a:eU)(x:dL):LH:=.mk 1000 [] [.mk 21 Unit (fun s _=>s.at_ (s.tg 15) (oA a x.i (.val (a.ops x.i 8)))) (fun _ _=>True) (fun _ _=>0) fun _=>.mk 1000 [] [.mk 22 Unit (fun s _=>s.set 16 (.a (.bool (dz x)))) (fun _ _=>True) (fun _ _=>0) fun _=>.mk 1000 [akc a x] [.AL 28 15 8 4 [.bool] (lhB a x 6)]]]
def am5(a:eU):An:=.mk 15 dL (fun s x=>(S.lists (S.am3 s x) x).int 14 x.i) (fun _ x=>x.i<=min a.n 60/\pM x) (fun _ x=>min a.n 60-x.i) (fun x=>akd a x)
def ag0:List (Nat×cB):=[(14,Q6),(12,Ef),(11,aka),(20,ak6),(22,W4),(36,WL),(37,WM),(38,WN),(29,fTk.Mk),(39,WO),(40,afc),(35,fCr.Mk),(34,YH.Mk),(41,ak1),(13,om.Mk),(15,fBt.Mk),(16,HJ.Mk),(17,fRs.Mk),(25,oU.Mk),(19,fSv.Mk)]
theorem abj:Ac (Y Tryz.prog).G.X ag0:=⟨WY,C5,qf am1,ahK,abh,aaY,ab0,ab2,qf alv,ab4,afe,qf alU,qf am0,ahB,qf alB,qf alr,qf alI,qf alL,qf alG,qf alQ,trivial⟩
def cz(x:dL):Nat:=(aR x.f.n).length
def ki(x:dL)(y:eU)(z u:Prop):=cR x.f.n.now x.f.n.le.end_ (az x.f.n.le.ay) (az x.f.n.le.top/\cE y.n 9 y.ops/\yj y.g=yj y.g/\z/\u)
def gL(x:eU)(y:Prop):=bC (bD (aO true/\bD (aQ x.n x.cap/\y)))
def iw(x:dL):=aO x.f.r.isSome
def gp(x:dL)(y:Prop):=ah (aO (aN (ag x.i) 60)/\bf x.i/\y)
def zX(x:dL)(y:Prop):=gp x (aQ (cz x) x.c3/\aQ (aF (aH x.f.n.rs)) x.c2/\aQ (bV x.cells) x.c1/\iw x/\az x.f.n.s.k.m.ay/\ah y)
def iT(x:NF)(y:Prop):=aM (gC x.n.s.k.m (TX x=TX x/\y))
def Lh(x:dL)(y:eU)(u:ByteArray)(z:ByteArray×Int):=Exists (aD (zX x (bD (aJ (gL y (dR (y.ops (0+aG x.i) 0)=tI y x.i/\dR (y.ops (0+aG x.i) 1)=dR (y.ops x.i 1)/\dR (y.ops (0+aG x.i) 2)=dR (y.ops x.i 2)/\dR (y.ops (0+aG x.i) 3)=dR (y.ops x.i 3)/\dR (y.ops (0+aG x.i) 4)=dR (y.ops x.i 4)/\u=de y x.i/\yD z.fst z.snd=lY y x.i/\HO (y.ops (0+aG x.i) 7)=HO (y.ops x.i 7)/\y.ops (0+aG x.i) 8=y.ops x.i 8/\cE (cz x) 1 (aa gK (aR x.f.n))/\eO (aH x.f.n.rs)/\mm x.cells/\iT x.f (ki x y True True)))))))
def Rq(x:eU)(y:dL)(z u:ByteArray×Int):Prop:=ai (dR (x.ops (0+aG y.i) 0))->aK (dR (x.ops (0+aG y.i) 0) != (3:Int)) (Lh y x (uV 107) u) (Lh y x (yD z.fst z.snd) u)
def Rr(y:eU)(z:dL)(x u:ByteArray×Int):Prop:=∃v:ByteArray,yD x.fst x.snd=v/\cZ (tV (bg (dB v)) (dR (y.ops (0+aG z.i) 0)) (dR (y.ops (0+aG z.i) 0) != (2:Int)) (Rq y z x u) (Lh z y (yD x.fst x.snd) u))
def kE(x:eU)(y:dL)(z u v:Prop):=cR (tI x y.i) (dR (x.ops y.i 1)) (az (dR (x.ops y.i 2))) (cR (dR (x.ops y.i 3)) (dR (x.ops y.i 4)) (de x y.i=de x y.i) (lY x y.i=lY x y.i/\aO (HO (x.ops y.i 7))/\z/\u/\v))
def kY(x:eU)(y:dL)(z:Prop)(u:Nat)(v:Nat->Nat->Value)(w:Prop):=kE x y z (cE u 1 v) w
def HL(y:eU)(x:dL)(z u v:Prop):=bD (aJ (gL y (kY y x z (cz x) (aa gK (aR x.f.n)) (eO (aH x.f.n.rs)/\mm x.cells/\iT x.f (ki x y u v)))))
def dH(x:dL)(y:eU)(z:Nat):Int:=zT x.cells (de y x.i) z
def W5(z:Nat)(v:Int)(x:dL)(u:eU):=aY z (∃y:Nat,v=dH x u y/\bw z y (aO (dz x)/\zX x (HL u x (gu (u.ops x.i 8)) (y<=bV x.cells) (bM (bV x.cells) y z))))
def Rs(z:eU)(x:dL)(y:Nat):Prop:=fO y (bV x.cells) (aK (fc (gl x.cells (0+aG y)).key (de z x.i)) (W5 y (ag y) x z) (W5 y (dH x z y) x z))
def lF(x y:NF)(z:Prop):=pL x.n y.n (TX x=TX y) z
def BL(x z:dL)(u:List Bool)(v:Prop)(w:NF)(s:Int)(t:iJ)(y:eU)(h i:Prop):=aA (cz x) (cz z) 1 (aa gK u) (aa gK (aR x.f.n))/\wA (aH x.f.n.rs) (aH z.f.n.rs) ic/\v/\ah (lF w x.f (s=x.f.n.now/\pW t x.f.n.le (cE y.n 9 y.ops) (yj y.g=yj y.g/\(h/\pM x)/\i)))
def pX(y:eU)(z:dL)(u:Nat)(x:Int):Int:=((dR (y.ops z.i u)).tmod x+x).tmod x
def lG(y:eU)(x:dL)(z u v:Nat)(w s:Prop):=aO (tI y x.i == (0:Int))/\cR (tI y x.i) (bI x.i) (aO (aN (ag z) (ag (bV x.cells)))) (cR (dH x y z) (ag z) (aO (dz x)) (gp x (aQ u v/\w/\s)))
def GV(x:dL)(y:eU):Int:=qQ true 0 (x.f.n.now-pX y x 4 30)
def W6(x:dL)(y:eU)(u:Nat)(v:Nat->Nat->Value)(w:Nat)(t:Ci)(h:HJ.α)(j:HJ.β)(z l:Nat)(o:Nat->Nat->Value)(p:Prop):=aQ (cz x) x.c3/\az ((1:Int)+pX y x 3 4)/\aO (aN x.f.n.s.k.m.ay ((1:Int)+pX y x 3 4))/\aO (aN ((1:Int)+pX y x 3 4) x.f.n.s.k.m.ay)/\cR (GV x y) ((1:Int)+pX y x 3 4) (aO (tI y x.i == (1:Int))) (lG y x u (aF (aH x.f.n.rs)) x.c2 (iw x) (lD (gL y (aA (cz x) (cz x) 1 v (aa gK (qF (aR x.f.n) w))/\mI t.now (aJ (iT (HJ.f' h j) (kE y x (aQ z l) (eO (aH x.f.n.rs)) (cE y.n 9 y.ops/\yj y.g=yj y.g/\cE z 1 o/\p))))))))
def rT(v:Bool)(z:dL)(w:Int)(x:dL)(y:Nat)(u:eU)(t:Prop):=v=z.f.r.isSome/\w=z.f.n.s.k.m.ay/\az (bI x.i)/\aO (aN (ag y) (ag (bV x.cells)))/\cR (dH x u y) (ag y) (aO (dz x)) (gp x (lD (gL u t)))
def xY(x:dL)(y:Ci)(z u:Prop):=x.f.n.now=y.now/\pW x.f.n.le y.l z (aP u)
def Rt(v:eU)(x:dL)(s h j:Nat)(k:Nat->Nat->Value)(t:HJ.α)(g:HJ.β):Prop:=∃w:Ci,ah (xY x w True ((∃z:Nat,aS z (W6 x v s (aa gK (aR x.f.n)) z w t g h j k (bE z (cz x))))/\∀z:Nat,fS z (cz x) (bQ z fun y=>W6 x v s (mO (aa gK (qF (aR x.f.n) z)) (0+aG z) 0 (bW (cF false))) y w t g h j k (bL y (cz x) z)) (∃y:Ci,ah (GV x v=y.sent/\(1:Int)+pX v x 3 4=y.ep/\w.now=y.now/\(0:Int)=y.l.end_/\(0:Int)=y.l.ay/\(0:Int)=y.l.top/\(nN y.now/\cO y.sent y.now)/\aP (∃u:dL,ax (cz x) (cz u) x.c3 u.c3/\ax (aF (aH x.f.n.rs)) (aF (aH u.f.n.rs)) x.c2 u.c2/\(0=bV u.cells/\0=u.c1)/\rT true u ((1:Int)+pX v x 3 4) x s v (BL u x (qF (aR x.f.n) z) (bV u.cells=0) (HJ.f' t g) y.now (zS y) v (u.i=x.i+1) True))))))
def kZ(x:dL):Nat->Nat->Value:=aa ic (aH x.f.n.rs)
def CO(u t v h:Nat)(w:List ng)(j:Nat)(y:dL)(l:Nat)(z:eU)(o p:Nat->Nat->Value)(q:NF):=∃x:dL,ax u (cz x) t x.c3/\ax v (aF (aH x.f.n.rs)) h x.c2/\ax (bV w) (bV x.cells) j x.c1/\rT y.f.r.isSome x y.f.n.s.k.m.ay y l z (aA (cz x) u 1 o (aa gK (aR x.f.n))/\aA (aF (aH x.f.n.rs)) v 1 p (kZ x)/\kX x.cells w/\ah (lF q x.f (y.f.n.now=x.f.n.now/\pW y.f.n.le x.f.n.le (cE z.n 9 z.ops) (yj z.g=yj z.g/\(x.i=y.i+1/\pM x)/\True))))
def DT(x:dL)(y:Nat)(z:eU)(u:NF):=CO (cz x) x.c3 (aF (aH x.f.n.rs)) x.c2 x.cells x.c1 x y z (aa gK (aR x.f.n)) (kZ x) u
def qH(x:dL)(y:List ng)(z:Nat):=ax (bV x.cells) (bV y) x.c1 z
def GW(y x:dL)(z:Prop):=ax (cz y) (cz x) y.c3 x.c3/\ax (aF (aH y.f.n.rs)) (aF (aH x.f.n.rs)) y.c2 x.c2/\qH y x.cells x.c1/\z
def uW(x:eU->dL->Nat->Nat->Nat->(Nat->Nat->Value)->Prop):eU->dL->Nat->Nat->Nat->(Nat->Nat->Value)->Prop:=fun(y:eU) (z:dL) (u v w:Nat) (s:Nat->Nat->Value)=>x y z u v w s
def qI(x:NF):dP->Prop:=fun(y:dP)=>bz x.n y
def Ru:eU->dL->Nat->Nat->Nat->(Nat->Nat->Value)->Prop:=uW fun z x t g h j=>ai x.f.n.now->ai (dR (z.ops x.i 4))->(30:Int)≠(0:Int)/\ai ((dR (z.ops x.i 4)).tmod (30:Int)+30)/\(30:Int)≠(0:Int)/\ai (x.f.n.now-pX z x 4 30)/\∃y:HJ.α,ah (az 2/\(0:Int)=y.ir/\(1:Int)=y.f.n.id/\(1:Int)+pX z x 3 4=y.ep/\GV x z=y.tick/\mI 0 (aJ (uS dx (ax 1 (aj y.l) 1 y.cap) (ah (lF x.f (HJ.f y) (dc y.l 1 (aV 1 (gm 1)) Rg.encI/\HJ.pre y/\∀w:HJ.β,HJ.post y w/\Exists (qI (HJ.f y))->aI ((1:Int)+pX z x 3 4) x.f.n.s.k.m.ay (DT x t z (HJ.f' y w)) (aI x.f.n.s.k.m.ay ((1:Int)+pX z x 3 4) (Rt z x t g h j y w) (∃u:Ci,ah (GV x z=u.sent/\(1:Int)+pX z x 3 4=u.ep/\xY x u (nN u.now/\cO u.sent u.now) (∃v:dL,GW x v (rT true v x.f.n.s.k.m.ay x t z (BL v x (aR x.f.n) (kX v.cells x.cells) (HJ.f' y w) u.now (zS u) z (v.i=x.i+1) True))))))))))))
def oR(z:Bool)(x:eU)(y:dL)(u v w:Nat)(s t f g h j:Prop):=aO z/\aO (tI x y.i == (1:Int))/\lG x y u v w s (t/\f/\g/\h/\j)
def xZ(y:Bool)(z:eU)(x:dL)(u:Nat)(v:Prop):=oR y z x u (cz x) x.c3 (aQ (aF (aH x.f.n.rs)) x.c2) (aQ (bV x.cells) x.c1) (iw x) (az x.f.n.s.k.m.ay) (0=0) v
def lH(x:eU)(y:dL):Int:=if tI x y.i=(3:Int)then(2:Int)else(1:Int)
def Rv:eU->dL->Nat->Nat->Nat->(Nat->Nat->Value)->Prop:=uW fun x y u z v w=>ai (tI x y.i)->QZ (tI x y.i == (3:Int)) ((2:Int)=lH x y) (xZ true x y u (HL x y (aQ z v) (cE z 1 w) (True/\True))) ((1:Int)=lH x y)
def pN(x:gD)(y z:Nat)(u:NF)(v:eU)(w:dL)(s t f:Nat)(g:Nat->Nat->Value)(h:Prop):=aQ (bJ x.ms) y/\aQ (bT x.rs) z/\iT u (jf x.ms/\cE (bT x.rs) 6 (aa nc x.rs)/\kY v w (aQ s t) f g h)
def nh(x:om.α)(y:om.β):gD:=BK x.f x.w x.g y.b
def GX(s:Bool)(y:eU)(x:dL)(t:Nat)(u:om.α)(z:om.β)(v g:Nat)(h:Nat->Nat->Value):=∃w:Bool,s=w/\ah (az (lH y x)/\xZ true y x t (bD (aJ (gL y (pN (nh u z) z.mc z.rc (om.f' u z) y x v g (cz x) (aa gK (aR x.f.n)) (eO (aH x.f.n.rs)/\mm x.cells/\ki x y (cE v 1 h) (w=wJ y x/\True)))))))
def Rw(y:eU)(x:dL)(z u v:Nat)(w:Nat->Nat->Value)(s:om.α)(t:om.β):Prop:=aK (dz x) (GX (aN (dH x y z) 0) y x z s t u v w) (GX false y x z s t u v w)
def Rx(x:eU)(y:dL)(z u v:Nat)(w:Nat->Nat->Value)(s:om.α)(t:om.β):Prop:=jK (tI x y.i) 2 (∃f:ByteArray,de x y.i=f/\cZ (aK (dB f) (Rw x y z u v w s t) (GX false x y z s t u v w))) (GX false x y z s t u v w)
def rU(z:om.α)(x:om.β)(u:eU)(y:dL)(v w:Nat)(s:Prop):=pN (nh z x) x.mc x.rc (om.f' z x) u y v w (aF (aH y.f.n.rs)) (kZ y) s
def tw(x:Int)(y:Nat):Nat:=aC x-0+(y-aC (x+(1:Int)))
def zY(z:Bool)(y:eU)(x:dL)(u v:Nat)(w:Nat->Nat->Value)(t:List Bool)(g h:Prop):=ah (z=z/\ah (az (lH y x)/\oR true y x u (aF (aH x.f.n.rs)) x.c2 (iw x) (az x.f.n.s.k.m.ay) (0=0) (aO false) (az 0) (gL y (aA v (cz x) 1 w (aa gK t)/\g/\h))))
def qJ(x:dL)(y:eU)(z:Nat):List Bool:=yF x.f.n (de y x.i) z
def GY(x:dL)(y:eU)(z:Nat):Nat->Nat->Value:=bq (aa kD x.cells) 0 (aC (dH x y z)-0) fun u v=>aa kD x.cells (0+aC (dH x y z+(1:Int))+u) v
def GZ(v:Bool)(y:eU)(x:dL)(z:Nat)(w:Nat->Nat->Value)(s:Nat)(t:om.α)(f:om.β)(u g:Nat)(h:Nat->Nat->Value)(j:Prop):=zY v y x z (cz x) w (qJ x y s) (cE (tw (dH x y z) (bV x.cells)) 3 (GY x y z)) (cR (bI x.i) (lH y x) (de y x.i=de y x.i) (aJ (dx=dx/\bD (rU t f y x u g (ki x y (cE u 1 h) j)))))
def uX(z u:Nat)(x:dL)(y:eU)(v:Nat)(w:ByteArray)(s:Prop):=aQ z u/\aO (bF 0 (dH x y v))/\aO (tI y x.i == (2:Int))/\aO (bg (dz x))/\aO (bg (dB w))/\s
def Ry(y:eU)(x:dL)(z v w:Nat)(s:Nat->Nat->Value)(t:om.α)(g:om.β)(h:Bool)(i:ByteArray)(j:Nat):Prop:=∃u:Nat,aS u (aQ (cz x) x.c3/\uX (tw (dH x y z) (bV x.cells)) j x y z i (GZ h y x z (aa gK (aR x.f.n)) u t g v w s (bE u (aF (aH x.f.n.rs)))))
def BM(y:dL)(z:eU)(x:Nat)(u:Bool):Nat->Nat->Value:=mO (aa gK (qJ y z x)) (0+aG x) 0 (bW (cF u))
def Li(z:eU)(x:dL)(u w s:Nat)(t:Nat->Nat->Value)(g:om.α)(h:om.β)(j:Bool)(k:ByteArray)(l y:Nat):Prop:=fO y (aF (aH x.f.n.rs)) (fO y (cz x) (bQ y fun v=>aQ (cz x) x.c3/\uX (tw (dH x z u) (bV x.cells)) l x z u k (GZ j z x u (BM x z y (bg (fc (iC (aH x.f.n.rs) y) (de z x.i)))) v g h w s t (bL v (aF (aH x.f.n.rs)) y))))
def Lj(y:eU)(x:dL)(u w s:Nat)(t:Nat->Nat->Value)(g:om.α)(h:om.β)(i:Bool)(j:ByteArray)(k z:Nat):Prop:=fO z (cz x) (bQ z fun v=>aQ (cz x) x.c3/\uX (tw (dH x y u) (bV x.cells)) k x y u j (GZ i y x u (BM x y z false) v g h w s t (bL v (aF (aH x.f.n.rs)) z)))
def G0(z:Bool)(y:eU)(x:dL)(u:Nat)(v:List Bool)(w:Prop)(s:Int)(t:ByteArray)(f:Bool)(g:Prop):=zY z y x u (gz y x (dz x)).length (aa gK v) (gz y x (dz x)) w (bI x.i=(jU y x (dz x)).id/\lH y x=(jU y x (dz x)).op/\de y x.i=(jU y x (dz x)).key/\s=(jU y x (dz x)).err/\t=(jU y x (dz x)).val/\f=(jU y x (dz x)).has/\g)
def Rz(x:dL)(y:eU)(z u v:Nat)(w:Bool)(s:Nat)(t:List Bool)(f:Nat->Nat->Value)(g:ByteArray)(h:Bool)(i:Prop):=ax (cz x) (gz y x (dz x)).length x.c3 x.c3/\ax z (bV (fk y x (dz x))) u v/\G0 w y x s t (aA (bV (fk y x (dz x))) z 3 f (aa kD (fk y x (dz x)))) 0 g h i
def Lk(y:eU)(x:dL)(z u w:Nat)(s:Nat->Nat->Value)(t:om.α)(f:om.β)(g:Bool)(h i:Nat):Prop:=∃v:Nat,Rz x y (tw (dH x y z) (bV x.cells)) h v g z (qJ x y i) (GY x y z) dx false (rU t f y x u w (ki x y (cE u 1 s) (bE (bV (fk y x (dz x))) v)))
def G1(z:Bool)(y:eU)(x:dL)(v:Nat)(w:Nat->Nat->Value)(t:Nat)(g:om.α)(h:om.β)(u j:Nat)(l:Nat->Nat->Value)(o:Prop):=ah (z=z/\ah (az (lH y x)/\oR true y x v (aF (aH x.f.n.rs)) x.c2 (aQ (bV x.cells) x.c1) (iw x) (az x.f.n.s.k.m.ay) (0=0) (aO false) (aJ (gL y (aA (cz x) (cz x) 1 w (aa gK (qJ x y t))/\cR (bI x.i) (lH y x) (de y x.i=de y x.i) (aJ (dx=dx/\bD (rU g h y x u j (mm x.cells/\ki x y (cE u 1 l) o)))))))))
def Ll(z:eU)(x:dL)(u w s:Nat)(t:Nat->Nat->Value)(g:om.α)(h:om.β)(j:Bool)(k:ByteArray)(y:Nat):Prop:=fO y (aF (aH x.f.n.rs)) (fO y (cz x) (bQ y fun v=>uX (cz x) x.c3 x z u k (G1 j z x u (BM x z y (bg (fc (iC (aH x.f.n.rs) y) (de z x.i)))) v g h w s t (bL v (aF (aH x.f.n.rs)) y))))
def Lm(z:eU)(x:dL)(u w s:Nat)(t:Nat->Nat->Value)(g:om.α)(h:om.β)(i:Bool)(j:ByteArray)(y:Nat):Prop:=fO y (cz x) (bQ y fun v=>uX (cz x) x.c3 x z u j (G1 i z x u (BM x z y false) v g h w s t (bL v (aF (aH x.f.n.rs)) y)))
def Ln(x:dL)(y:eU)(v:Bool)(w:Nat)(s:List Bool)(t:Int)(f:om.α)(g:om.β)(z h:Nat)(i:Nat->Nat->Value):=∃u:Nat,ax (cz x) (gz y x (dz x)).length x.c3 x.c3/\qH x (fk y x (dz x)) u/\G0 v y x w s (kX (fk y x (dz x)) x.cells) t dx false (rU f g y x z h (ki x y (cE z 1 i) (bE (bV (fk y x (dz x))) u)))
def Lo(z:eU)(x:dL)(u v w:Nat)(s:Nat->Nat->Value)(t:om.α)(g:om.β)(h:Bool)(i:ByteArray):Prop:=(∃y:Nat,aS y (uX (cz x) x.c3 x z u i (G1 h z x u (aa gK (aR x.f.n)) y t g v w s (bE y (aF (aH x.f.n.rs))))))/\∀y:Nat,y<=aF (aH x.f.n.rs)->bS y (aF (aH x.f.n.rs)) (fO y (cz x) (aK (gl (qJ x z y) (0+aG y)) (Ll z x u v w s t g h i y) (Lm z x u v w s t g h i y))) (Ln x z h u (qJ x z y) 0 t g v w s)
def G2(x:Int)(y z u:Nat)(v:Nat->Prop):=sL x y x (fe x/\GG (x+(1:Int)) z (aC x) u (aC x) fun w=>v w)
def Lp(y:eU)(x:dL)(z v s:Nat)(t:Nat->Nat->Value)(g:om.α)(h:om.β)(j:Bool)(k:ByteArray):Prop:=jK (tI y x.i) 2 (mR (dH x y z) (bV x.cells) (∃w:Nat,Rz x y (bV x.cells) x.c1 w j z (aR x.f.n) (aa kD x.cells) (gl x.cells (0+aC (dH x y z))).val true (rU g h y x v s (ki x y (cE v 1 t) (bE (bV (fk y x (dz x))) w))))) (aK (bF 0 (dH x y z)) (G2 (dH x y z) x.c1 (bV x.cells) 40 fun w=>Ry y x z v s t g h j k w/\∀u:Nat,u<=aF (aH x.f.n.rs)->bS u (aF (aH x.f.n.rs)) (fO u (cz x) (aK (gl (qJ x y u) (0+aG u)) (Li y x z v s t g h j k w u) (Lj y x z v s t g h j k w u))) (Lk y x z v s t g h j w u)) (Lo y x z v s t g h j k))
def Lr(y:eU)(x:dL)(z u v:Nat)(w:Nat->Nat->Value)(s:om.α)(t:om.β)(g:Bool):Prop:=∃h:ByteArray,de y x.i=h/\cZ (aK (bg (dB h)) (Ln x y g z (aR x.f.n) 1 s t u v w) (aK (bg (dz x)) (Ln x y g z (aR x.f.n) 6 s t u v w) (Lp y x z u v w s t g h)))
def W7(x y:vj)(z:Prop):=x.op=y.op/\x.key=y.key/\x.err=y.err/\x.val=y.val/\x.has=y.has/\z
def ag1(x y:vj)(z u:Prop):=x.id=y.id/\W7 x y (z/\u)
def Ls:eU->dL->Nat->Nat->Nat->(Nat->Nat->Value)->Prop:=uW fun z x v t g h=>Rv z x v t g h/\aP (∃y:om.α,ah (bI x.i=y.w.id/\lH z x=y.w.op/\de z x.i=y.w.key/\ah (lF x.f (om.f y) (om.pre y/\∀u:om.β,om.post y u/\Exists (qI (om.f y))->Rx z x v t g h y u/\∀j:Bool,j=wJ z x->aK j (lE (ag (bT (gD.rs (nh y u))) != (0:Int)) (jF (aF (aH x.f.n.rs)) 16 x.c2 fun s=>jF (cz x) 1 x.c3 fun l=>CO (cz x+1) l (aF (aH x.f.n.rs)+1) s x.cells x.c1 x v z (bq (aa gK (aR x.f.n)) 0 (cz x) (ja 1 (bW (cF true)))) (bq (kZ x) 0 (aF (aH x.f.n.rs)) (ja 1 (bW (bR (de z x.i))))) (om.f' y u))) (Lr z x v t g h y u j/\∀s:Nat,bV (fk z x (dz x))<=s->lE (ag (bT (gD.rs (nh y u))) != (1:Int)) (dS 0 (bT (gD.rs (nh y u))) 0 (∃k:vj,ag1 (gl (gD.rs (nh y u)) 0) k ((jU z x (dz x)).id=k.id) (W7 (jU z x (dz x)) k (cZ (lE (ag (bJ (gD.ms (nh y u))) != (0:Int)) (CO (gz z x (dz x)).length x.c3 (aF (aH x.f.n.rs)) x.c2 (fk z x (dz x)) s x v z (aa gK (gz z x (dz x))) (kZ x) (om.f' y u))))))))))))
def zZ(x:dL)(y:eU)(z:Prop):=aO (bF (ag (aF (aH x.f.n.rs))) (dR (y.ops x.i 1)))/\ah (az (dR (y.ops x.i 1))/\aO (tI y x.i == (4:Int))/\z)
def x6(x:dL)(y:eU)(w:Nat)(z:oU.α)(u:oU.β)(v s:Nat)(t:Nat->Nat->Value)(g:Bool):=zZ x y (xZ false y x w (bD (aJ (gL y (pN (zW z.f z.k z.val z.has) u.fst u.snd (oU.f' z u) y x v s (cz x) (aa gK (aR x.f.n)) (eO (aH x.f.n.rs)/\mm x.cells/\ki x y (cE v 1 t) (g=wK y x/\True)))))))
def nQ(x:oU.α):List vj:=(zW x.f x.k x.val x.has).rs
def oS(x:eU->dL->Nat->Nat->Nat->(Nat->Nat->Value)->oU.α->oU.β->Prop):eU->dL->Nat->Nat->Nat->(Nat->Nat->Value)->oU.α->oU.β->Prop:=fun(y:eU) (z:dL) (u v w:Nat) (s:Nat->Nat->Value) (t:oU.α) (f:oU.β)=>x y z u v w s t f
def wL(x:oU.α)(y:eU)(z:dL):Bool:=bg (fc (gl (nQ x) 0).val (lY y z.i))
def Lt:eU->dL->Nat->Nat->Nat->(Nat->Nat->Value)->oU.α->oU.β->Prop:=oS fun x y v w s t u f=>aK (HO (x.ops y.i 7)) (∃z:Bool,bF (ag (aT (lY x y.i))) 200=z/\aO (wL u x y)/\x6 y x v u f w s t z) (∃z:Bool,false=z/\aO (wL u x y)/\x6 y x v u f w s t z)
def Lu:eU->dL->Nat->Nat->Nat->(Nat->Nat->Value)->oU.α->oU.β->Prop:=oS fun y x u v w s z t=>mR (dR (y.ops x.i 1)) (cz x) (rV (gl (aR x.f.n) (0+aC (dR (y.ops x.i 1)))) (dz x) (Lt y x u v w s z t) (∃g:Bool,false=g/\aO (wL z y x)/\x6 x y u z t v w s g))
def DU(x:dL)(y:eU)(w:Nat)(t:List ng)(z:oU.α)(u:oU.β)(v g:Nat)(h:Nat->Nat->Value)(i:Nat):=zZ x y (oR false y x w (cz x) x.c3 (aQ (aF (aH x.f.n.rs)) x.c2) (iw x) (az x.f.n.s.k.m.ay) (0=0) (aO false) (aJ (gL y (kX (ij y x) t/\pN (zW z.f z.k z.val z.has) u.fst u.snd (oU.f' z u) y x v g (cz x) (aa gK (aR x.f.n)) (eO (aH x.f.n.rs)/\ki x y (cE v 1 h) (bE (bV (ij y x)) i))))))
def RA(z:eU)(y:dL)(w:TK->Nat->Prop):=mR (dR (z.ops y.i 1)) (aF (aH y.f.n.rs)) (∃x:TK,qH y x.l x.cap/\gl (aH y.f.n.rs) (0+aC (dR (z.ops y.i 1)))=x.key/\lY z y.i=x.val/\kX x.l y.cells/\bV x.l<1000/\∀u:Nat,BC x<=u->∃v:Nat,ax (BC x) (bV (ij z y)) u v/\w x v)
def Lv:eU->dL->Nat->Nat->Nat->(Nat->Nat->Value)->oU.α->oU.β->Prop:=oS fun x y v w s t u f=>RA x y fun z g=>aO (wL u x y)/\DU y x v (uT z.l z.key z.val) u f w s t g
def RB(g:eU->dL->Nat->Nat->Nat->(Nat->Nat->Value)->oU.α->oU.β->Prop):eU->dL->Nat->Nat->Nat->(Nat->Nat->Value)->oU.α->oU.β->Prop:=oS fun y x v h j k w s=>g y x v h j k w s/\∀t:Nat,bV (ij y x)<=t->G2 (dR (y.ops x.i 1)) x.c2 (aF (aH x.f.n.rs)) 16 fun l=>G2 (dR (y.ops x.i 1)) x.c3 (cz x) 1 fun m=>CO (tw (dR (y.ops x.i 1)) (cz x)) m (tw (dR (y.ops x.i 1)) (aF (aH x.f.n.rs))) l (ij y x) t x v y (bq (aa gK (aR x.f.n)) 0 (aC (dR (y.ops x.i 1))-0) fun z u=>aa gK (aR x.f.n) (0+aC (dR (y.ops x.i 1)+(1:Int))+z) u) (bq (kZ x) 0 (aC (dR (y.ops x.i 1))-0) fun z u=>aa ic (aH x.f.n.rs) (0+aC (dR (y.ops x.i 1)+(1:Int))+z) u) (oU.f' w s)
def Lw:eU->dL->Nat->Nat->Nat->(Nat->Nat->Value)->oU.α->oU.β->Prop:=RB fun y x u v w s z t=>Lu y x u v w s z t/\∀f:Bool,f=wK y x->aK f (Lv y x u v w s z t) (∃g:Nat,qH x (ij y x) g/\aO (wL z y x)/\DU x y u x.cells z t v w s g)
def Lx:eU->dL->Nat->Nat->Nat->(Nat->Nat->Value)->oU.α->oU.β->Prop:=oS fun y z u v w s t f=>aK (HO (y.ops z.i 7)) (∃x:Bool,bF (ag (aT (lY y z.i))) 200=x/\bD (x6 z y u t f v w s x)) (∃x:Bool,false=x/\bD (x6 z y u t f v w s x))
def Lz:eU->dL->Nat->Nat->Nat->(Nat->Nat->Value)->oU.α->oU.β->Prop:=oS fun y x z u v w s t=>mR (dR (y.ops x.i 1)) (cz x) (rV (gl (aR x.f.n) (0+aC (dR (y.ops x.i 1)))) (dz x) (Lx y x z u v w s t) (∃g:Bool,false=g/\bD (x6 x y z s t u v w g)))
def LA:eU->dL->Nat->Nat->Nat->(Nat->Nat->Value)->oU.α->oU.β->Prop:=oS fun y x u v w s t f=>Lz y x u v w s t f/\∀g:Bool,g=wK y x->aK g (RA y x fun z h=>bD (DU x y u (uT z.l z.key z.val) t f v w s h)) (∃z:Nat,qH x (ij y x) z/\bD (DU x y u x.cells t f v w s z))
def LB:eU->dL->Nat->Nat->Nat->(Nat->Nat->Value)->oU.α->oU.β->Prop:=RB fun x y z u v w s t=>LA x y z u v w s t
def LC:eU->dL->Nat->Nat->Nat->(Nat->Nat->Value)->oU.α->oU.β->Prop:=oS fun z y u w s t x v=>aK (bF (ag (aF (aH y.f.n.rs))) (dR (z.ops y.i 1))) (lE (ag (bT (nQ x)) != (0:Int)) (DT y u z (oU.f' x v))) (lE (ag (bT (nQ x)) != (1:Int)) (dS 0 (bT (nQ x)) 0 (mR (dR (z.ops y.i 1)) (aF (aH y.f.n.rs)) (lE (bg (fc (gl (nQ x) 0).key (gl (aH y.f.n.rs) (0+aC (dR (z.ops y.i 1)))))) (dS 0 (bT (nQ x)) 0 (ai (gl (nQ x) 0).err->lE ((gl (nQ x) 0).err != (0:Int)) (dS 0 (bT (nQ x)) 0 (lE (bg ((gl (nQ x) 0).has == HO (z.ops y.i 7))) (aK (HO (z.ops y.i 7)) (dS 0 (bT (nQ x)) 0 (lE (wL x z y) (Lw z y u w s t x v))) (LB z y u w s t x v))))))))))
def RC(z:Int)(x:dL)(y:eU)(u:Prop):=z=x.f.n.now/\(0:Int)=x.f.n.le.end_/\(0:Int)=x.f.n.le.ay/\(0:Int)=x.f.n.le.top/\cE y.n 9 y.ops/\yj y.g=yj y.g/\(u/\pM x)/\True
def W8(h j:Nat)(z:dL)(l:Nat)(o:Nat->Nat->Value)(p:Nat)(w:eU):fCr.α->Prop:=fun(y:fCr.α)=>ah (ax h y.kl j y.kc/\ah (lF z.f (fCr.f y) ((aA y.kn l 1 o fun v q=>cF (y.keep v))/\fCr.pre y/\∀v:fCr.β,fCr.post y v/\Exists (qI (fCr.f y))->∃u:YH.α,(1:Int)=u.f.n.id/\bC (lF z.f (YH.f u) (iZ (mG y.f.n.s.d y.kl y.keep) u.d (YH.pre u/\∀t:YH.β,YH.post u t/\Exists (qI (YH.f u))->∃g:Ci,ah (xY z g True (∃x:dL,(0=cz x/\0=x.c3)/\(0=aF (aH x.f.n.rs)/\0=x.c2)/\qH z x.cells x.c1/\rT false x z.f.n.s.k.m.ay z p w (cz x=0/\aF (aH x.f.n.rs)=0/\kX x.cells z.cells/\ah (lF (YH.f' u t) x.f (RC g.now x w (x.i=z.i+1))))))))))))
def LD:eU->dL->Nat->Nat->Nat->(Nat->Nat->Value)->Prop:=uW fun z u v x y w=>aI 60 (ag x) (fm 60 y/\Exists (W8 60 (y-0) u x w v z)) (Exists (W8 x y u x w v z))
def LF:eU->dL->Nat->Nat->Nat->(Nat->Nat->Value)->Prop:=uW fun y x u w s t=>aK (tI y x.i == (4:Int)) (ai (dR (y.ops x.i 1))->∃z:oU.α,ah (dR (y.ops x.i 1)=z.k/\lY y x.i=z.val/\HO (y.ops x.i 7)=z.has/\ah (lF x.f (oU.f z) (oU.pre z/\∀v:oU.β,oU.post z v/\Exists (qI (oU.f z))->aI (dR (y.ops x.i 1)) 0 (lE (ag (bT (nQ z)) != (0:Int)) (DT x u y (oU.f' z v))) (LC y x u w s t z v))))) (aK (tI y x.i == (5:Int)) (LD y x u w s t) (DT x u y x.f))
def EU:eU->dL->Nat->Nat->Nat->(Nat->Nat->Value)->Prop:=uW fun y x w t g h=>jK (tI y x.i) 0 (∃u:fTk.α,aM (lF x.f (fTk.f u) (fTk.pre u/\∀j:fTk.β,fTk.post u j/\Exists (qI (fTk.f u))->oG x.f.n.now 1 (∃z:fBt.α,aM (lF (fTk.f' u j) (fBt.f z) (fBt.pre z/\∀l:fBt.β,fBt.post z l/\Exists (qI (fBt.f z))->lE false (zw (ai (gl (oO z.n) 0).kind->lE ((gl (oO z.n) 0).kind != (1:Int)) (zw (ai (gl (oO z.n) 0).tick->fe x.f.n.now->lE ((gl (oO z.n) 0).tick != x.f.n.now+(1:Int)) (zw (ai (gl (oO z.n) 0).ay->jo ((gl (oO z.n) 0).ay != x.f.n.s.k.m.ay) (Exists (bN (aq false))) false (∃v:dL,GW x v (rT x.f.r.isSome v x.f.n.s.k.m.ay x w y (BL v x (aR x.f.n) (kX v.cells x.cells) (fBt.f' z l) (x.f.n.now+(1:Int)) x.f.n.le y (v.i=x.i+1) True))))))))))))))) (aK (tI y x.i == (1:Int)) (ai (dR (y.ops x.i 3))->(4:Int)≠(0:Int)/\ai ((dR (y.ops x.i 3)).tmod (4:Int)+4)/\(4:Int)≠(0:Int)/\ai ((1:Int)+pX y x 3 4)/\Ru y x w t g h) (jo (tI y x.i == (2:Int)) (Ls y x w t g h) (tI y x.i == (3:Int)) (LF y x w t g h)))
def W9(v:fSv.α)(w:Bool)(u x:dL)(z:eU):=lE (bg (ahS v.f v.key == w)) (aY u.i (∃y:dL,bw u.i y.i (GW x y (x.f.r.isSome=y.f.r.isSome/\x.f.n.s.k.m.ay=y.f.n.s.k.m.ay/\lD (gL z (BL y x (aR x.f.n) (kX y.cells x.cells) x.f x.f.n.now x.f.n.le z (y.i<=min z.n 60) (bM (min z.n 60) y.i u.i)))))))
def LG(w:eU)(u:dL)(c:Nat):Prop:=∃h:AK,∃j o:Nat,∃p:Nat->Nat->Value,yj w.g=yj h/\L9 h (w.ops u.i 8) [CK.bool] j o p/\aY u.i (EU w u c j o p/\∀x:dL,x.i=u.i+1/\pM x->∃v:fRs.α,aM (lF x.f (fRs.f v) (fRs.pre v/\∀q:fRs.β,fRs.post v q/\Exists (qI (fRs.f v))->∃y:aff,ah (aF (aH v.n.rs)=aF y.xs/\q=y.c1)/\dF (aF (aH x.f.n.rs)) (aF y.xs) x.c2 y.c2 (wA y.xs (aH v.n.rs) ic) 1 (kZ x) (aa ic y.xs) (aF y.xs<1000/\aP (lE (x.f.n.s.k.m.ay != x.f.n.s.k.m.ay) (∃z:fSv.α,ah (uV 107=z.key/\ah (lF x.f (fSv.f z) (fSv.pre z/\∀d:fSv.β,fSv.post z d/\Exists (qI (fSv.f z))->aK x.f.r.isSome (∃t:Ci,ah (x.f.n.s.k.m.ay=t.ep/\xY x t True (W9 z (oP t.l t.now t.ep) u x w))) (W9 z false u x w))))))))))
def LI(z:eU)(x:dL):Prop:=fO x.i z.n (∃u:ByteArray×Int,LM (z.ops (0+aG x.i) 5)=u.fst/\(45:Int)=u.snd/\(0:Int)<=u.snd/\aP (∃v:ByteArray×Int,LM (z.ops (0+aG x.i) 6)=v.fst/\(210:Int)=v.snd/\(0:Int)<=v.snd/\aP (Rr z x u v/\aP (aK x.f.r.isSome (∃y:Ci,ah (x.f.n.s.k.m.ay=y.ep/\xY x y True (Exists (aD (oP y.l y.now y.ep=dz x/\zX x (HL z x (gu (z.ops x.i 8)) True True)))))) (Exists (aD (false=dz x/\zX x (HL z x (gu (z.ops x.i 8)) True True))))/\aP ((∃y:Nat,(-1:Int)=dH x z y/\aS y (aO (dz x)/\zX x (HL z x (gu (z.ops x.i 8)) (y<=bV x.cells) True)))/\∀y:Nat,y<=bV x.cells->bS y (bV x.cells) (Rs z x y) (LG z x y))))))
def ag2:Prop:=∀y:eU,y.n<=y.cap/\y.cap<=aB/\Rp y->Exists (aD (cZ (Q8 1200 fun z=>aP ((∃x:dL,aS x.i ((0=cz x/\0=x.c3)/\(0=aF (aH x.f.n.rs)/\0=x.c2)/\(0=bV x.cells/\0=x.c1)/\false=x.f.r.isSome/\(0:Int)=x.f.n.s.k.m.ay/\lD (gL y (cz x=0/\aF (aH x.f.n.rs)=0/\bV x.cells=0/\ah (pL (B6 z) x.f.n (TX { n:=B6 z,r:=none }=TX x.f) (RC 0 x y (x.i<=min y.n 60)))))))/\∀x:dL,x.i<=min y.n 60/\pM x->rV (aN (ag x.i) (ag y.n)) (aN (ag x.i) 60) (LI y x) (Exists (bN (aO true)))))))
theorem RD(i:Nat):0+(i:Int).toNat=i:=by omega
variable{i j k l:Nat}{p:dP}{x y:dL}{α:Type}
theorem ltA(i:Nat)(h:decide ((i:Int)<(l:Int))=true):i<l:=by grind
theorem geA(i:Nat)(h:decide ((i:Int)<(l:Int))=false):l<=i:=by grind
theorem ahW{a:eU}(h:dB (yD (LM (a.ops i 5)) 45)=false)(h2:dR (a.ops i 0)≠2)(h3:dR (a.ops i 0)≠3):de a i=abi:=if_pos ⟨h,h2,h3⟩
theorem RE{a:eU}(h:¬(dB (yD (LM (a.ops i 5)) 45)=false/\tI a i≠2/\tI a i≠3)):de a i=yD (LM (a.ops i 5)) 45:=if_neg h
theorem ake(a:eU)(x:dL)(hb:dB (yD (LM (a.ops x.i 5)) 45)=false)(h2:dR (a.ops x.i 0)≠2):Rq a x (LM (a.ops x.i 5),45) (LM (a.ops x.i 6),210):=by
 unfold Rq
 delta cE aK cR aQ aO ai aA az aG aM aN aF cz A1 bK aU ki gL ag bV bD eO aq Lh zX aJ aC gC ah aD uV bf mm iw iT bC gp
 try dsimp -iota -proj only
 rw[RD];intro _;refine⟨fun c=>⟨(),?_⟩,fun c=>⟨(),?_⟩⟩
 ·have h3:dR (a.ops x.i 0)≠3:=by simpa using c
  have e:=(ahW hb h2 h3).symm
  and_intros<;>first|exact cU|exact e|exact kL|skip
 ·have h3:dR (a.ops x.i 0)=3:=by simpa using c
  have e:=(RE (a:=a) (i:=x.i) fun h=>h.2.2 h3).symm
  and_intros<;>first|exact cU|exact e|exact kL|skip
theorem akf(a:eU)(x:dL):Rr a x (LM (a.ops x.i 5),45) (LM (a.ops x.i 6),210):=by
 unfold Rr
 delta cE aK cR aQ aO ai aA az aG aM aN aF cz bK aU tV ki gL aP ag bV bD eO aq Lh zX aJ aC gC ah aD bf bg mm iw cZ iT bC gp
 try dsimp -iota -proj only
 rw[RD];refine⟨yD (LM (a.ops x.i 5)) 45,rfl,trivial,fun _ _=>⟨fun c=>?_,fun c=>⟨(),?_⟩⟩⟩
 ·have hb:dB (yD (LM (a.ops x.i 5)) 45)=false:=by simpa using c
  intro _;refine⟨fun c=>ake a x hb (by simpa using c),fun c=>⟨(),?_⟩⟩;have h2:dR (a.ops x.i 0)=2:=by simpa using c
  have e:=(RE (a:=a) (i:=x.i) fun h=>h.2.1 h2).symm
  and_intros<;>first|exact cU|exact e|exact kL|skip
 ·have hb:dB (yD (LM (a.ops x.i 5)) 45)=true:=by simpa using c
  have e:=(RE (a:=a) (i:=x.i) fun h=>absurd (h.1.symm.trans hb) (by decide)).symm
  and_intros<;>first|exact cU|exact e|exact kL|skip
theorem akg(a:eU)(x:dL)(hx:pM x)(hi:x.i<60)(k:Nat)(hk:k<x.cells.length):Rs a x k:=by
 unfold Rs
 delta cE aK cR aQ aO ai aA az aG aM aN aF cz bK gu aU HL bI ki gL aZ ag bV bD eO aq zX dS aJ aC gC ah dH bf fO fc aY mm kY kE iw iT bC W5 bw bM gp
 try dsimp -iota -proj only
 rw[RD];have hl:=hx.inv.cl;have hR:bZ .i64 ((k:Int)+1):=by simp only[bZ];omega
 have hb:(0:Int)<=k/\(k:Int)<x.cells.length:=⟨by omega,by omega⟩
 have hm:x.cells.length-(k+1)<x.cells.length-k:=by omega
 grind [zT,af.refl]
theorem akh(hy:pM y)(hi:y.i<=60):fSv.pre ⟨y.f,abi⟩:=by
 refine⟨(show abi.size<=aB by decide),by grind [hy.inv.id],hy.inv.met.2.1,fun z hz=>?_⟩;have e:=hy.yes z hz;rw[e];have:=(GL.mk1 z.1 0 0).len;exact this
theorem aki(hy:pM y)(k:ByteArray):ahS y.f k=(y.f.r.isSome&&oP y.f.n.le y.f.n.now y.f.n.s.k.m.ay):=by
 unfold ahS;cases h:y.f.r with
 |none=>rfl
 |some z =>
  have e:=hy.yes z h;dsimp only;rw[e];exact GK (((GL.mk1 z.1 0 0).own k).trans hy.inv.id.symm)
theorem ahX(a:eU)(hok:Rp a)(x:dL)(hi:x.i<60)(hin:x.i<a.n)(k:Nat)
 (h30:∀(g:AK) (l c:Nat) rows,L9 g (a.ops x.i 8) [CK.bool] l c rows->(∀q,q<l->∃b,rows q 0 = .bool b)->EU a x k l c rows):LG a x k:=by
 unfold LG
 delta cE aK aQ aO ai aA az pL aM aF cz A1 bK nv aU bI gL bN aP ag bV bD BL aq dF pW aJ kX ah W9 aD lF lE uV bg GW aY wA ax bA xY kZ qI bC lD bw qH bM
 try dsimp -iota -proj only
 obtain⟨l,c,rows,hs,hb⟩:=hok.keep x.i hin;have h:=h30 a.g l c rows hs hb;have hR:bZ .i64 ((x.i:Int)+1):=by simp only[bZ];omega
 have hm:min a.n 60-(x.i+1)<min a.n 60-x.i:=by omega
 refine⟨a.g,l,c,rows,?_⟩
 (repeat' with_reducible apply And.intro)<;>first|exact cU|exact hs|exact hR|exact h|exact kL|skip
 rintro y ⟨hyi,hy⟩;have hy60:y.i<=60:=by omega
 have hrl:=hy.inv.rsl;have hr1:y.f.n.rs.length<1000:=by omega
 have hk1:(aH y.f.n.rs).length<1000:=by rw[ig];omega
 refine⟨y.f,?_⟩
 (repeat' with_reducible apply And.intro)<;>first|exact cU|exact hr1|exact kL|skip
 rintro c2 _;refine⟨⟨aH y.f.n.rs,c2,y.c2⟩,?_⟩
 (repeat' with_reducible apply And.intro)<;>first|exact cU|exact hk1|(intro h_;revert h_)|omega|grind [af.refl]|rfl|grind|grind|(dsimp only;omega)|skip
 rintro _ _;refine⟨fun c=>absurd c (by simp),fun _=>⟨⟨y.f,abi⟩,?_⟩⟩;have hsv:=akh hy hy60
 (repeat' with_reducible apply And.intro)<;>first|exact cU|exact hsv|exact kL|skip
 rintro _ _;have hi1:((x.i:Int)+1)=(y.i:Int):=by omega
 have hmn:y.i<=min a.n 60:=by omega
 have hm2:min a.n 60-y.i<min a.n 60-x.i:=by omega
 have se:=aki hy abi;refine⟨fun c=>⟨⟨y.f.n.now,y.f.n.le,y.f.n.s.k.m.ay,0⟩,?_⟩,fun c=>⟨fun c3=>?_,fun _=>⟨hR,y,?_⟩⟩⟩
 ·grind [af.refl]
 ·grind
 grind [af.refl]
def opA(x:dL)(kl:Nat)(keep:Nat->Bool):alX:=⟨x.f,mG x.f.n.s.d kl keep,fun o=>pM ⟨x.i+1,⟨HH ⟨x.f.n.id,x.f.n.now,o⟩,none⟩,x.cells,x.c1,0,0⟩/\(HH ⟨x.f.n.id,x.f.n.now,o⟩).s.k.m.ay=x.f.n.s.k.m.ay⟩
theorem ahY(a:eU)(x:dL)(hx:pM x)(hi:x.i<60)(k l c:Nat)(rows:Nat->Nat->Value)(hl:l<=c)(hb:∀q,q<l->∃b,rows q 0 = .bool b):LD a x k l c rows:=by
 unfold LD
 delta cE aK cR aQ aO aA az pL aM aN aF cz bK nv aU bI gL fm aP ag bV bD aq W8 rT pW aJ kX ah cF aI dH lF cO bf ax uW xY qI bC RC lD qH gp
 try dsimp -iota -proj only
 have hr:af l 1 rows (fun i _=>Value.bool (HO (rows i 0))):=⟨fun i hil j hj=>by
  have:j=0:=by omega
  subst this;obtain⟨b,e⟩:=hb i hil;rw[e];rfl⟩
 have hid:=hx.inv.id.symm;have hdn:=hx.inv.dn;refine⟨fun cc=>?_,fun cc=>?_⟩
 ·have h60:60<l:=by have:=qi cc;omega
  have hpre:fCr.pre ⟨x.f,60,c,l,fun i=>HO (rows i 0)⟩:=⟨by grind,by grind,by grind,by grind⟩
  refine⟨⟨by omega,by omega⟩,⟨x.f,60,c,l,fun i=>HO (rows i 0)⟩,?_⟩
  (repeat' with_reducible apply And.intro)<;>first|exact cU|exact hr|exact hpre|(intro h_;revert h_)|omega|with_reducible exact af.refl _ _ _|rfl|grind|grind|(dsimp only;omega)|skip
  rintro _ _;have hop:YH.pre (opA x 60 fun i=>HO (rows i 0)):=hx.YI hi 60 fun i=>HO (rows i 0);refine⟨opA x 60 fun i=>HO (rows i 0),?_⟩
  (repeat' with_reducible apply And.intro)<;>first|exact cU|exact hid|exact hop|exact kL|skip
  rintro o ⟨ho,_⟩;have h1:=ho.1;have h2:x.f.n.s.k.m.ay=(HH ⟨x.f.n.id,x.f.n.now,o⟩).s.k.m.ay:=ho.2.symm;refine⟨⟨x.f.n.now,x.f.n.le,0,0⟩,?_⟩
  (repeat' with_reducible apply And.intro)<;>first|exact cU|exact hid|exact kL|skip
  rintro _ _;refine⟨⟨x.i+1,⟨HH ⟨x.f.n.id,x.f.n.now,o⟩,none⟩,x.cells,x.c1,0,0⟩,?_⟩
  (repeat' with_reducible apply And.intro)<;>first|exact cU|exact h1|exact h2|(intro h_;revert h_)|omega|with_reducible exact af.refl _ _ _|rfl|grind|grind|(dsimp only;omega)|skip
 ·have h60:l<=60:=by have:=ug cc;omega
  have hpre:fCr.pre ⟨x.f,l,c,l,fun i=>HO (rows i 0)⟩:=⟨by grind,by grind,by grind,by grind⟩
  refine⟨⟨x.f,l,c,l,fun i=>HO (rows i 0)⟩,?_⟩
  (repeat' with_reducible apply And.intro)<;>first|exact cU|exact hr|exact hpre|(intro h_;revert h_)|omega|with_reducible exact af.refl _ _ _|rfl|grind|grind|(dsimp only;omega)|skip
  rintro _ _;have hop:YH.pre (opA x l fun i=>HO (rows i 0)):=hx.YI hi l fun i=>HO (rows i 0);refine⟨opA x l fun i=>HO (rows i 0),?_⟩
  (repeat' with_reducible apply And.intro)<;>first|exact cU|exact hid|exact hop|exact kL|skip
  rintro o ⟨ho,_⟩;have h1:=ho.1;have h2:x.f.n.s.k.m.ay=(HH ⟨x.f.n.id,x.f.n.now,o⟩).s.k.m.ay:=ho.2.symm;refine⟨⟨x.f.n.now,x.f.n.le,0,0⟩,?_⟩
  (repeat' with_reducible apply And.intro)<;>first|exact cU|exact hid|exact kL|skip
  rintro _ _;refine⟨⟨x.i+1,⟨HH ⟨x.f.n.id,x.f.n.now,o⟩,none⟩,x.cells,x.c1,0,0⟩,?_⟩
  (repeat' with_reducible apply And.intro)<;>first|exact cU|exact h1|exact h2|(intro h_;revert h_)|omega|with_reducible exact af.refl _ _ _|rfl|grind|grind|(dsimp only;omega)|skip
theorem am6(hx:pM x)(hi:x.i<60):(0<=x.f.n.now/\x.f.n.now<1000)/\bZ .i64 (x.f.n.now+1):=by
 have:=hx.inv.now;simp only[bZ];omega
theorem qG{g:List Bool}{n:bG}(h:aR n=g):g.length=(aR n).length/\(aR n).length<=g.length/\af (aR n).length 1 (aa gK g) (aa gK (aR n)):=by
 subst h;exact⟨rfl,cW _,.refl _ _ _⟩
theorem qK{g:List ByteArray}{l:List kI}(h:aH l=g):g.length=(aH l).length/\(aH l).length<=g.length/\af (aH l).length 1 (aa ic g) (aa ic (aH l)):=by
 subst h;exact⟨rfl,cW _,.refl _ _ _⟩
theorem qL{l m:iJ}(h:m=l):l.end_=m.end_/\l.ay=m.ay/\l.top=m.top:=by grind
def EX(a:eU)(i:Nat):Int:=1+((dR (a.ops i 3)).tmod 4+4).tmod 4
def agO(a:eU)(i:Nat):Int:=((dR (a.ops i 4)).tmod 30+30).tmod 30
def LJ(a:eU)(x:dL):Int:=bif true then max 0 (x.f.n.now-agO a x.i)else min 0 (x.f.n.now-agO a x.i)
theorem ag3(z:Int){n:Int}(h:1<=n)(hb:n<=30):0<=(z.tmod n+n).tmod n/\(z.tmod n+n).tmod n<n/\bZ .i64 (z.tmod n+n):=by
 have h1:=Int.lt_tmod_of_pos z (show(0:Int)<n by omega);have h2:=Int.tmod_lt_of_pos z (show(0:Int)<n by omega);have h3:=Int.tmod_nonneg n (show 0<=z.tmod n+n by omega);have h4:=Int.tmod_lt_of_pos (z.tmod n+n) (show(0:Int)<n by omega);exact⟨h3,h4,by simp only[bZ];omega⟩
theorem ag4(a:eU)(i:Nat):(1<=EX a i/\EX a i<=4)/\bZ .i64 ((dR (a.ops i 3)).tmod 4+4)/\bZ .i64 (EX a i):=by
 obtain⟨h1,h2,h3⟩:=ag3 (dR (a.ops i 3)) (n:=4) (by omega) (by omega);have:1<=EX a i/\EX a i<=4:=by unfold EX;omega
 exact⟨this,h3,by simp only[bZ];omega⟩
theorem aiK(a:eU)(hx:pM x)(hi:x.i<60):(0<=LJ a x/\LJ a x<=x.f.n.now)/\bZ .i64 ((dR (a.ops x.i 4)).tmod 30+30)/\bZ .i64 (x.f.n.now-agO a x.i):=by
 obtain⟨h1,h2,h3⟩:=ag3 (dR (a.ops x.i 4)) (n:=30) (by omega) (by omega);have hn:=hx.inv.now;have h4:0<=agO a x.i/\agO a x.i<30:=⟨h1,h2⟩
 refine⟨?_,h3,by simp only[bZ];omega⟩
 grind [LJ]
theorem Xa(l:List Bool)(h:k<=l.length):(qF l k).length=l.length:=by
 grind [qF]
theorem Xb(l:List Bool)(h:k<l.length):qF l (k+1)=(qF l k).set k false:=by
 grind [qF,List.take_succ_eq_append_getElem,List.drop_eq_getElem_cons]
theorem Xc(l:List Bool):qF l l.length=l.map fun _=>false:=by simp[qF]
theorem TZ(l:List Bool)(h:k<l.length):af l.length 1 (mO (aa gK (qF l k)) k 0 [.bool false]) (aa gK (qF l (k+1))):=by
 rw[Xb l h];exact .set k (by grind [Xa]) (fun i hi=>iY hi) (by rw[kK];rfl)
theorem akj(a:eU)(x:dL)(hx:pM x)(hi:x.i<60)(k l c:Nat)(rows:Nat->Nat->Value)(hat:bz x.f.n p)(b:HJ.β)(hlt:x.f.n.s.k.m.ay<EX a x.i):Rt a x k l c rows ⟨x.f,0,EX a x.i,LJ a x,[1],1⟩ b:=by
 unfold Rt
 delta cE aK cR aQ aO ai aA az aG pL aM aN aF cz bK nv aU qQ gI bI gL aP aZ ag bV bD BL bL eO aq W6 bQ rT pW aJ aC pX bW gC ah aS cF fS aI dH lF cO bf aY wA ax bS kE iw lG nN iT mI GV xY bC zS lD bw bM gp bE
 try dsimp -iota -proj only
 obtain⟨he,_,hE⟩:=ag4 a x.i;obtain⟨ht,_,_⟩:=aiK a hx hi;have hn:=hx.inv.now;obtain⟨g1,g2,g3,g4,g5,g6,g7⟩:=hx.gr hi hat he ht (c1:=0) (by grind);rw[if_pos hlt]at g1 g3 g4;rw[if_neg (show ¬EX a x.i<x.f.n.s.k.m.ay by omega),if_pos hlt]at g7;have hG:(aR x.f.n).length<1000:=by have:=hx.inv.rsl;rw[eR];omega
 have hT:x.f.n.now<1000000000000000/\0<=LJ a x/\LJ a x<=x.f.n.now:=⟨by omega,ht.1,ht.2⟩
 refine⟨⟨x.f.n.now,x.f.n.le,0,0⟩,?_⟩
 (repeat' with_reducible apply And.intro)<;>first|exact cU|exact rfl|exact kL|skip
 rintro _ _;refine⟨⟨0,?_⟩,fun j hj=>⟨fun cc=>?_,fun cc=>⟨⟨x.f.n.now,⟨0,0,0⟩,EX a x.i,LJ a x⟩,?_⟩⟩⟩
 ·grind [qF,af.refl]
 ·have hj:j<(aR x.f.n).length:=ltA j cc;rw[RD];have hr:=TZ (aR x.f.n) hj;have hm:(aR x.f.n).length-(j+1)<(aR x.f.n).length-j:=by omega
  have hR:bZ .i64 ((j:Int)+1):=by simp only[bZ];omega
  grind [af.refl]
 ·have hj:j=(aR x.f.n).length:=by have:=geA j cc;omega
  subst hj
  (repeat' with_reducible apply And.intro)<;>first|exact cU|exact hT|(intro h_;revert h_)|omega|with_reducible exact af.refl _ _ _|rfl|grind|grind|grind|skip
  rintro _ _;refine⟨⟨x.i+1,ET x.f (EX a x.i) (LJ a x) [1],[],0,x.c2,x.c3⟩,?_⟩;have q1:(aR x.f.n).length=(aR (ET x.f (EX a x.i) (LJ a x) [1]).n).length:=by rw[g3,T7,eR]
  have q2:(aH x.f.n.rs).length=(aH (ET x.f (EX a x.i) (LJ a x) [1]).n.rs).length:=by rw[g2]
  have q3:true=(ET x.f (EX a x.i) (LJ a x) [1]).r.isSome:=by rw[g6,zBg (by omega)];simp
  have q4:af (aR (ET x.f (EX a x.i) (LJ a x) [1]).n).length 1 (aa gK (qF (aR x.f.n) (aR x.f.n).length)) (aa gK (aR (ET x.f (EX a x.i) (LJ a x) [1]).n)):=.of_eq (by grind [Xc,aR]);have q5:af (aH (ET x.f (EX a x.i) (LJ a x) [1]).n.rs).length 1 (aa ic (aH x.f.n.rs)) (aa ic (aH (ET x.f (EX a x.i) (LJ a x) [1]).n.rs)):=.of_eq (by rw[g2]);have q6:=g4.symm;have q7:=g5.symm;have q8:=tJ iJ.end_ g7.symm;have q9:=tJ iJ.ay g7.symm;have q10:=tJ iJ.top g7.symm;have q11:=zBV q1.symm;have q12:=zBV q2.symm
  (repeat' with_reducible apply And.intro)<;>first|exact cU|exact g1|exact q1|exact q2|exact q3|exact q4|exact q5|exact q6|exact q7|exact q8|exact q9|exact q10|exact q11|exact q12|exact kL|skip
theorem ag5:af [(1:Int)].length 1 (aV 1 [Value.int .i64 1]) (aa Rg.encI [1]):=⟨fun i hi j hj=>by
 have hi:i<1:=hi;have:i=0:=by omega
 subst this;have:j=0:=by omega
 subst this;rfl⟩
theorem akk(a:eU)(x:dL)(hx:pM x)(hi:x.i<60)(k l c:Nat)(rows:Nat->Nat->Value):Ru a x k l c rows:=by
 unfold Ru
 delta cE aK cR aQ aO aj ai aA az cI pL aM aN aF cz dN fB bK nv aU CO qQ bI gL dx aP ag bV bD BL aq rT pW aJ kX pX ah aI dH lF cO DT bf GW uS wA ax gm uW nN mI GV xY kZ qI bC zS lD qH dc gp
 try dsimp -iota -proj only
 obtain⟨he,_,hE⟩:=ag4 a x.i;obtain⟨ht,hA,hB⟩:=aiK a hx hi;have hn:=hx.inv.now;have hid:=hx.inv.id.symm;have hpre:=hx.am2 hi he ht;have h1r:=ag5;have hT:x.f.n.now<1000000000000000/\0<=LJ a x/\LJ a x<=x.f.n.now:=⟨by omega,ht.1,ht.2⟩
 intro _ _;refine⟨by decide,hA,by decide,hB,⟨x.f,0,EX a x.i,LJ a x,[1],1⟩,?_⟩
 (repeat' with_reducible apply And.intro)<;>first|exact cU|exact hpre|exact h1r|exact hid|(intro h_;revert h_)|omega|with_reducible exact af.refl _ _ _|rfl|grind|grind|(dsimp only;omega)|skip
 rintro b ⟨_,p,hat⟩;have hat:bz x.f.n p:=hat;refine⟨fun cc=>?_,fun cc=>⟨fun dd=>akj a x hx hi k l c rows hat b (qi dd),fun dd=>?_⟩⟩
 ·have hs:EX a x.i<x.f.n.s.k.m.ay:=qi cc;obtain⟨g1,g2,g3,g4,g5,g6,g7⟩:=hx.gr hi hat he ht (c1:=x.c1) (by grind [hx.c1]);rw[if_neg (show ¬x.f.n.s.k.m.ay<EX a x.i by omega)]at g1 g3 g4;rw[if_pos hs]at g7;refine⟨⟨x.i+1,ET x.f (EX a x.i) (LJ a x) [1],x.cells,x.c1,x.c2,x.c3⟩,?_⟩;have q3:x.f.r.isSome=(ET x.f (EX a x.i) (LJ a x) [1]).r.isSome:=by rw[g6,Ml (by omega)];simp
  (repeat' with_reducible apply And.intro)<;>first|exact cU|exact g1|exact(qG g3).1|exact(qG g3).2.1|exact(qG g3).2.2|exact(qK g2).1|exact(qK g2).2.1|exact(qK g2).2.2|exact q3|exact g4.symm|exact g5.symm|exact(qL g7).1|exact(qL g7).2.1|exact(qL g7).2.2|(intro h_;revert h_)|omega|with_reducible exact af.refl _ _ _|rfl|grind|grind|(dsimp only;omega)|skip
 ·have hs:¬EX a x.i<x.f.n.s.k.m.ay:=ug cc;have hl:¬x.f.n.s.k.m.ay<EX a x.i:=ug dd;obtain⟨g1,g2,g3,g4,g5,g6,g7⟩:=hx.gr hi hat he ht (c1:=x.c1) (by grind [hx.c1]);rw[if_neg hl]at g1 g3 g4;rw[if_neg hs,if_neg hl]at g7;refine⟨⟨x.f.n.now,x.f.n.le,EX a x.i,LJ a x⟩,?_⟩
  (repeat' with_reducible apply And.intro)<;>first|exact cU|exact hT|(intro h_;revert h_)|omega|with_reducible exact af.refl _ _ _|rfl|grind|grind|grind|skip
  rintro _ _;refine⟨⟨x.i+1,ET x.f (EX a x.i) (LJ a x) [1],x.cells,x.c1,x.c2,x.c3⟩,?_⟩;have q3:true=(ET x.f (EX a x.i) (LJ a x) [1]).r.isSome:=by rw[g6,zBg (by omega)];simp
  (repeat' with_reducible apply And.intro)<;>first|exact cU|exact g1|exact(qG g3).1|exact(qG g3).2.1|exact(qG g3).2.2|exact(qK g2).1|exact(qK g2).2.1|exact(qK g2).2.2|exact q3|exact g4.symm|exact g5.symm|exact(qL g7).1|exact(qL g7).2.1|exact(qL g7).2.2|(intro h_;revert h_)|omega|with_reducible exact af.refl _ _ _|rfl|grind|grind|(dsimp only;omega)|skip
theorem NM(n:bG)(key:ByteArray):yF n key 0=aR n:=by simp[yF]
theorem ag6(n:bG)(key:ByteArray)(h:k<=n.rs.length):(yF n key k).length=n.rs.length:=by
 grind [yF,eR]
theorem ag7(n:bG)(key:ByteArray):yF n key n.rs.length=n.rs.map (fun z=>mT n z&&!decide (z.w.key=key)):=by
 grind [yF,eR]
theorem IB(n:bG)(key:ByteArray)(h:k<n.rs.length):gl (yF n key k) k=mT n (gl n.rs k):=by
 unfold yF;have hl:(List.map (fun z=>mT n z&&!decide (z.w.key=key)) (List.take k n.rs)).length=k:=by simp;omega
 have hg:k<(aR n).length:=by rw[eR];exact h
 rw[Go.Sx.bt (by omega),hl,zBr,List.drop_eq_getElem_cons hg]
 grind [aR,b8]
theorem ag8(n:bG)(key:ByteArray)(h:k<n.rs.length):yF n key (k+1)=(yF n key k).set k (mT n (gl n.rs k)&&!decide ((gl n.rs k).w.key=key)):=by
 unfold yF;have hl:(List.map (fun z=>mT n z&&!decide (z.w.key=key)) (List.take k n.rs)).length=k:=by simp;omega
 rw[List.set_append_right _ _ (by omega),hl,zBr,List.take_succ_eq_append_getElem h,T3,List.drop_eq_getElem_cons (i:=k) (by grind [eR]),zAY,b8 h];rfl
theorem Cb(n:bG)(key:ByteArray)(h:k<n.rs.length){v:Bool}(hv:v=(mT n (gl n.rs k)&&!decide ((gl n.rs k).w.key=key))):af (aR n).length 1 (mO (aa gK (yF n key k)) k 0 [.bool v]) (aa gK (yF n key (k+1))):=by
 rw[ag8 n key h,<- hv];exact .set k (by grind [ag6]) (fun i hi=>iY hi) (by rw[kK];rfl)
theorem BN{l:List kI}(h:k<l.length):gl (aH l) k=(gl l k).w.key:=Fk h
theorem Cc(hx:pM x)(hi:x.i<60)(hj:j<(aH x.f.n.rs).length):j<(aR x.f.n).length/\(aH x.f.n.rs).length-(j+1)<(aH x.f.n.rs).length-j/\bZ .i64 ((j:Int)+1):=by
 have:=hx.inv.rsl;rw[ig]at *;rw[eR];exact⟨hj,by omega,by simp only[bZ];omega⟩
theorem ahZ(a:eU)(x:dL)(hx:pM x)(hi:x.i<60)(k l c:Nat)(rows:Nat->Nat->Value)(w:om.α)(b:om.β)(m:Bool)(key:ByteArray)(c4:Nat)(j:Nat)(hj:j<(aH x.f.n.rs).length)(hg:gl (yF x.f.n (de a x.i) j) j=true):Li a x k l c rows w b m key c4 j:=by
 unfold Li
 delta cE cR aQ aO ai aA az aG aM aN aF cz bK pN oR bI ki gL dx aZ bJ ag bV bD bL GZ bQ bF dS aJ aC bW uX gC ah cF dH rU bT bf fO bg lH fc aY tw jf BM kY kE iw lG iT iC kZ bC nh zY qJ GY bw bM gp
 try dsimp -iota -proj only
 rw[RD];obtain⟨hj2,hm,hR⟩:=Cc hx hi hj;rw[ig]at hj;have e:=IB x.f.n (de a x.i) hj
 grind [Cb,BN,af.refl]
theorem ai0(a:eU)(x:dL)(hx:pM x)(hi:x.i<60)(k l c:Nat)(rows:Nat->Nat->Value)(w:om.α)(b:om.β)(m:Bool)(key:ByteArray)(c4:Nat)(j:Nat)(hj:j<(aH x.f.n.rs).length)(hg:gl (yF x.f.n (de a x.i) j) j=false):Lj a x k l c rows w b m key c4 j:=by
 unfold Lj
 delta cE cR aQ aO ai aA az aG aM aN aF cz bK pN oR bI ki gL dx aZ bJ ag bV bD bL GZ bQ bF dS aJ aC bW uX gC ah cF dH rU bT bf fO bg lH aY tw jf BM kY kE iw lG iT kZ bC nh zY qJ GY bw bM gp
 try dsimp -iota -proj only
 rw[RD];obtain⟨hj2,hm,hR⟩:=Cc hx hi hj
 grind [ig,IB,Cb,af.refl]
theorem ai1(a:eU)(x:dL)(hx:pM x)(hi:x.i<60)(k l c:Nat)(rows:Nat->Nat->Value)(w:om.α)(b:om.β)(m:Bool)(key:ByteArray)(j:Nat)(hj:j<(aH x.f.n.rs).length)(hg:gl (yF x.f.n (de a x.i) j) j=true):Ll a x k l c rows w b m key j:=by
 unfold Ll
 delta cE cR aQ aO ai aA az aG aM aN aF cz bK pN oR bI ki gL dx aZ bJ ag bV bD bL G1 bQ bF dS aJ aC bW uX gC ah cF dH rU bT bf fO bg lH fc aY mm jf BM kY kE iw lG iT iC kZ bC nh qJ bw bM gp
 try dsimp -iota -proj only
 rw[RD];obtain⟨hj2,hm,hR⟩:=Cc hx hi hj;rw[ig]at hj;have e:=IB x.f.n (de a x.i) hj
 grind [Cb,BN,af.refl]
theorem ai2(a:eU)(x:dL)(hx:pM x)(hi:x.i<60)(k l c:Nat)(rows:Nat->Nat->Value)(w:om.α)(b:om.β)(m:Bool)(key:ByteArray)(j:Nat)(hj:j<(aH x.f.n.rs).length)(hg:gl (yF x.f.n (de a x.i) j) j=false):Lm a x k l c rows w b m key j:=by
 unfold Lm
 delta cE cR aQ aO ai aA az aG aM aN aF cz bK pN oR bI ki gL dx aZ bJ ag bV bD bL G1 bQ bF dS aJ aC bW uX gC ah cF dH rU bT bf fO bg lH aY mm jf BM kY kE iw lG iT kZ bC nh qJ bw bM gp
 try dsimp -iota -proj only
 rw[RD];obtain⟨hj2,hm,hR⟩:=Cc hx hi hj
 grind [ig,IB,Cb,af.refl]
def HM(a:eU)(i:Nat):Int:=if tI a i=3 then 2 else 1
theorem abk(a:eU)(i:Nat):(de a i).size<=aB:=by
 unfold de;split
 ·decide
 ·exact YP (NI _ (n:=45)) (by decide)
theorem akl(a:eU)(x:dL)(k l c:Nat)(rows:Nat->Nat->Value):Rv a x k l c rows:=by
 unfold Rv
 delta cE aK cR aQ aO ai aA az aM aN aF cz bK aU oR HL bI ki gL ag bV bD eO aq QZ aJ gC ah aD dH bf xZ lH mm kY kE iw uW lG iT bC gp
 try dsimp -iota -proj only
 grind [af.refl]
theorem akm(a:eU)(x:dL)(l c:Nat)(rows:Nat->Nat->Value)(w:om.α)(b:om.β)(h2:tI a x.i=2)(hb:dB (de a x.i)=true):Rw a x x.cells.length l c rows w b:=by
 unfold Rw
 delta cE aK cR aQ aO aA az aM aN aF cz bK aU pN oR bI ki gL bJ ag bV bD eO aq GX aJ gC ah dH bT bf xZ lH mm jf kY kE iw lG iT bC nh gp
 try dsimp -iota -proj only
 refine⟨fun cc=>⟨_,rfl,?_⟩,fun cc=>⟨_,rfl,?_⟩⟩
 ·have e:decide (zT x.cells (de a x.i) x.cells.length<0)=wJ a x:=by unfold wJ;rw[zBg h2,hb,cc];rfl
  grind [af.refl]
 grind [wJ,af.refl]
theorem akn(a:eU)(x:dL)(l c:Nat)(rows:Nat->Nat->Value)(w:om.α)(b:om.β):Rx a x x.cells.length l c rows w b:=by
 unfold Rx
 delta cE aK cR aQ aO ai aA az aM aN aF cz bK aU pN oR bI ki gL aP bJ ag bV bD eO aq GX aJ gC ah dH bT bf xZ lH jK mm jf kY kE iw lG cZ iT bC nh gp
 try dsimp -iota -proj only
 refine fun _=>⟨fun cc=>⟨de a x.i,rfl,trivial,fun _ _=>⟨fun dd=>akm a x l c rows w b (by simpa using cc) dd,fun dd=>⟨_,rfl,?_⟩⟩⟩,fun cc=>⟨_,rfl,?_⟩⟩
 ·grind [wJ,af.refl]
 grind [wJ,af.refl]
theorem ag9{a:eU}(h:tI a x.i=2\/tI a x.i=3):HM a x.i=1\/HM a x.i=2:=by
 grind [HM]
structure ako(a:eU)(x:dL)(n':bG):Prop where
 alp:∀c4,(fk a x (dz x)).length<=c4->pM ⟨x.i+1,⟨n',x.f.r⟩,fk a x (dz x),c4,x.c2,x.c3⟩
 good:aR n'=gz a x (dz x)
 keys:aH n'.rs=aH x.f.n.rs
 k:n'.s.k=x.f.n.s.k
 now:n'.now=x.f.n.now
 le:n'.le=x.f.n.le
theorem ako.same{a:eU}{x:dL}(hx:pM x)(hi:x.i<60)(e1:fk a x (dz x)=x.cells)(e2:gz a x (dz x)=aR x.f.n):ako a x x.f.n:=by
 have h:=hx.same hi;refine⟨fun c4 hc=>?_,e2.symm,rfl,rfl,rfl,rfl⟩;rw[e1]at hc ⊢;exact⟨h.inv,hc,h.c2,h.c3,h.no,h.yes,h.nd⟩
theorem ai3(a:eU)(x:dL)(hx:pM x)(hi:x.i<60)(hk:tI a x.i=2\/tI a x.i=3):∃g,om.pre ⟨x.f,⟨0,x.i+1,HM a x.i,de a x.i⟩,g⟩ /\
 (wJ a x=true->(∀b,BK x.f ⟨0,x.i+1,HM a x.i,de a x.i⟩ g b=⟨jw x.f.n ⟨0,x.i+1,HM a x.i,de a x.i⟩ b,[],[]⟩)/\dB (de a x.i)=true/\x.f.r≠none) /\
 (wJ a x=false->∀b,∃n',BK x.f ⟨0,x.i+1,HM a x.i,de a x.i⟩ g b=⟨n',[],[jU a x (dz x)]⟩/\ako a x n'):=by
 obtain⟨g,h0,h1,h6,hK,hM,hH⟩:=hx.ask hi (op:=HM a x.i) (ag9 hk) (key:=de a x.i) (abk a x.i);have hr:dz x=true->x.f.r≠none:=fun h e=>by grind [dz]
 refine⟨g,h0,fun hm=>?_,fun hm b=>?_⟩
 ·unfold wJ at hm;simp only[jB,tB]at hm
  grind [HM]
 ·by_cases hb:dB (de a x.i)=false
  ·have e1:fk a x (dz x)=x.cells:=if_neg fun h=>by grind
   have e2:gz a x (dz x)=aR x.f.n:=if_neg fun h=>by grind
   have e3:jU a x (dz x)=⟨x.i+1,HM a x.i,de a x.i,1,oN,false⟩:=if_pos hb;exact⟨x.f.n,by grind,.same hx hi e1 e2⟩
  ·have hb2:dB (de a x.i)=true:=by simpa using hb
   by_cases hs:dz x=false
   ·have e1:fk a x (dz x)=x.cells:=if_neg fun h=>by grind
    have e2:gz a x (dz x)=aR x.f.n:=if_neg fun h=>by grind
    have e3:jU a x (dz x)=⟨x.i+1,HM a x.i,de a x.i,6,oN,false⟩:=by unfold jU;rw[if_neg hb,if_pos hs];rfl
    exact⟨x.f.n,by grind,.same hx hi e1 e2⟩
   ·have hs2:dz x=true:=by simpa using hs
    by_cases h2:tI a x.i=2
    ·have ho:HM a x.i=1:=if_neg (by omega);have e1:fk a x (dz x)=x.cells:=if_neg fun h=>h.2.2 h2;have e2:gz a x (dz x)=aR x.f.n:=if_neg fun h=>h.2.2 h2;have ha:¬WS x.cells (de a x.i)<0:=fun ha=>by
      grind [wJ]
     have e3:jU a x (dz x)=⟨x.i+1,HM a x.i,de a x.i,0,(gl x.cells (WS x.cells (de a x.i)).toNat).val,true⟩:=by unfold jU;rw[if_neg hb,if_neg hs,if_pos h2,ho]
     exact⟨x.f.n,by grind,.same hx hi e1 e2⟩
    ·have h3:tI a x.i=3:=by omega
     have ho:HM a x.i=2:=if_pos h3;have e1:fk a x (dz x)=BD x.cells (de a x.i):=if_pos ⟨hb2,hs2,h2⟩;have e2:gz a x (dz x)=x.f.n.rs.map (fun z=>mT x.f.n z&&!decide (z.w.key=de a x.i)):=if_pos ⟨hb2,hs2,h2⟩;have e3:jU a x (dz x)=⟨x.i+1,HM a x.i,de a x.i,0,oN,false⟩:=by unfold jU;rw[if_neg hb,if_neg hs,if_neg h2,ho]
     have hk2:=hx.kill hi (key:=de a x.i) hb2 (hr hs2) (c1:=(BD x.cells (de a x.i)).length) (cW _);refine⟨mw x.f.n (de a x.i),by grind,fun c4 hc=>?_,by grind,hk2.2.2.1,hk2.2.2.2,rfl,rfl⟩;rw[e1]at hc ⊢;have:=hx.kill hi (key:=de a x.i) hb2 (hr hs2) hc;exact this.1
theorem akp(a:eU)(x:dL)(k l c:Nat)(rows:Nat->Nat->Value)(w:om.α)(b:om.β)(m:Bool)(key:ByteArray)(c4:Nat):Ry a x k l c rows w b m key c4:=by
 unfold Ry
 delta cE cR aQ aO aA az aM aN aF cz bK pN oR bI ki gL dx bJ ag bV bD GZ bF aJ aC uX gC ah aS dH rU bT bf bg lH tw jf kY kE iw lG iT kZ bC nh zY qJ GY gp bE
 try dsimp -iota -proj only
 grind [NM,af.refl]
theorem tA{l:List α}(h:j<l.length):(lq l j).length=l.length-1:=by
 grind [lq]
theorem BO[Inhabited α]{enc:α->List Value}{l:List α}{m n:Nat}(hj:j<l.length)(hn:n<=(lq l j).length):af n m (bq (aa enc l) 0 j fun i q=>aa enc l (j+1+i) q) (aa enc (lq l j)):=by
 rw[tA hj]at hn;refine .app (by grind) ⟨fun i hi q hq=>?_⟩ ⟨fun i hi q hq=>?_⟩
 ·have e:gl (l.take j) i=gl l i:=by simp[gl,List.getD,List.getElem?_take_of_lt hi]
  unfold aa
  grind
 grind [gl,aa]
theorem Xd(a:eU)(x:dL)(h:0<=zT x.cells (de a x.i) x.cells.length):∃j:Nat,j<x.cells.length/\zT x.cells (de a x.i) x.cells.length=j/\WS x.cells (de a x.i)=j:=by
 rcases EM x.cells (de a x.i)with⟨h1,_⟩ | ⟨j,h1,h2,_⟩
 ·have h1:zT x.cells (de a x.i) x.cells.length = -1:=h1;omega
 ·exact⟨j,h1,h2,h2⟩
structure LK(a:eU)(x:dL):Prop where
 cells:fk a x (dz x)=BD x.cells (de a x.i)
 good:gz a x (dz x)=x.f.n.rs.map (fun z=>mT x.f.n z&&!decide (z.w.key=de a x.i))
 want:jU a x (dz x)=⟨x.i+1,if tI a x.i=3 then 2 else 1,de a x.i,0,oN,false⟩
theorem LK.of{a:eU}(hb:dB (de a x.i)=true)(hs:dz x=true)(h3:tI a x.i=3):LK a x :=
 have h2:¬tI a x.i=2:=by omega
 ⟨if_pos ⟨hb,hs,h2⟩,if_pos ⟨hb,hs,h2⟩,by grind [jU]⟩
theorem LK.rows{a:eU}(h:LK a x)(hk:k=(aH x.f.n.rs).length):(gz a x (dz x)).length=(aR x.f.n).length/\af (gz a x (dz x)).length 1 (aa gK (yF x.f.n (de a x.i) k)) (aa gK (gz a x (dz x))):=by
 rw[h.good,hk,ig,ag7];exact⟨by rw[T7,eR],.refl _ _ _⟩
theorem ai4(a:eU)(x:dL)(hC:LK a x)(l c:Nat)(rows:Nat->Nat->Value)(w:om.α)(b:om.β)(m:Bool)(c4 k:Nat)(hk:k=(aH x.f.n.rs).length)(h0:0<=zT x.cells (de a x.i) x.cells.length)(hc:(BD x.cells (de a x.i)).length<=c4):Lk a x x.cells.length l c rows w b m c4 k:=by
 unfold Lk
 delta cE cR aQ aO aA az aM aN aF cz bK pN oR bI ki gL dx bJ ag bV bD Rz aC gC ah G0 dH rU bT bf lH ax tw jf kY kE iw lG iT kZ bC nh zY qJ GY gp bE
 try dsimp -iota -proj only
 obtain⟨j,hj,e1,e2⟩:=Xd a x h0;have t1:((j:Int)+1).toNat=j+1:=by omega
 have t2:(j:Int).toNat=j:=by omega
 obtain⟨g1,g2⟩:=hC.rows hk;have d:BD x.cells (de a x.i)=lq x.cells j:=by unfold BD;rw[e2,if_neg (by omega),t2]
 rw[e1,t1,t2];rw[d]at hc;rw[hC.cells,hC.want,d];have q1:=g1.symm;have q2:=zBV g1;have q3:j-0+(x.cells.length-(j+1))=(lq x.cells j).length:=by rw[tA hj];omega
 have q4:=zBV q3.symm;have q5:af (lq x.cells j).length 3 (bq (aa kD x.cells) 0 (j-0) fun i q=>aa kD x.cells (0+(j+1)+i) q) (aa kD (lq x.cells j)):=by
  rw[LL,mA];exact BO hj (cW _)
 refine⟨c4,?_⟩
 (repeat' with_reducible apply And.intro)<;>first|exact cU|exact g2|exact q1|exact q2|exact q3|exact q4|exact q5|exact hc|exact kL|skip
theorem ai5(a:eU)(x:dL)(hx:pM x)(hi:x.i<60)(hC:LK a x)(l c:Nat)(rows:Nat->Nat->Value)(w:om.α)(b:om.β)(m:Bool)(key:ByteArray)(h0:¬0<=zT x.cells (de a x.i) x.cells.length):Lo a x x.cells.length l c rows w b m key:=by
 unfold Lo
 delta cE aK cR aQ aO aA az aG aM aN aF cz bK aU pN oR bI ki gL dx aZ bJ ag bV bD aq Ln G1 bF dS aJ aC kX uX gC ah aS G0 aI dH rU bT bf fO bg lH ax mm jf kY bS kE iw lG iT kZ bC nh zY qJ qH gp bE
 try dsimp -iota -proj only
 have hc1:=hx.c1;refine⟨⟨0,?_⟩,fun k hk=>⟨fun cc=>?_,fun cc=>?_⟩⟩
 ·grind [NM,af.refl]
 ·have hj:=ltA k cc;have hj2:=(Cc hx hi hj).1
  grind [ai1,ai2]
 ·have hk2:k=(aH x.f.n.rs).length:=by have:=geA k cc;omega
  obtain⟨g1,g2⟩:=hC.rows hk2;have d:BD x.cells (de a x.i)=x.cells:=by
   have h0:¬0<=WS x.cells (de a x.i):=h0;unfold BD;rw[if_pos (by omega)]
  have q1:=g1.symm;have q2:=zBV g1;rw[hC.cells,hC.want,d];refine⟨x.c1,?_⟩
  (repeat' with_reducible apply And.intro)<;>first|exact cU|exact g2|exact q1|exact q2|exact hc1|exact kL|skip
theorem ai6(a:eU)(x:dL)(hx:pM x)(hi:x.i<60)(hkd:tI a x.i=2\/tI a x.i=3)(l c:Nat)(rows:Nat->Nat->Value)(w:om.α)(b:om.β)(m:Bool)(key:ByteArray)
 (hm:wJ a x=false) (hb:dB (de a x.i)=true) (hs:dz x=true):Lp a x x.cells.length l c rows w b m key:=by
 unfold Lp
 delta cE aK cR aQ aO ai aA az aG gq aM aN aF cz mR bK aU pN oR bI ki gL fm aZ bJ ag bV bD aq G2 bF dS Rz aC gC ah G0 aI dH rU cO bT bf fO lH ax jK jf kY bS GG kE iw lG sL iT kZ bC nh zY qJ eu fe gp bE
 try dsimp -iota -proj only
 have hc1:=hx.c1;have hcl:=hx.inv.cl;refine fun _=>⟨fun cc=>?_,fun cc=>?_⟩
 ·have h2:tI a x.i=2:=by simpa using cc
  have ha:¬WS x.cells (de a x.i)<0:=fun ha=>by
   grind [wJ]
  have h0:0<=zT x.cells (de a x.i) x.cells.length:=Int.not_lt.1 ha;have e1:fk a x (dz x)=x.cells:=if_neg fun h=>h.2.2 h2;have e2:gz a x (dz x)=aR x.f.n:=if_neg fun h=>h.2.2 h2;have e3:jU a x (dz x)=⟨x.i+1,if tI a x.i=3 then 2 else 1,de a x.i,0,(gl x.cells (0+(zT x.cells (de a x.i) x.cells.length).toNat)).val,true⟩:=by
   unfold jU;rw[if_neg (by grind),if_neg (by grind),if_pos h2,if_neg (by omega),mA];rfl
  grind [Xd,af.refl]
 ·have h3:tI a x.i=3:=by
   have:¬tI a x.i=2:=by simpa using cc
   omega
  have hC:=LK.of hb hs h3;refine⟨fun dd=>?_,fun dd=>ai5 a x hx hi hC l c rows w b m key (ug dd)⟩;have h0:0<=zT x.cells (de a x.i) x.cells.length:=qi dd;obtain⟨j,hj,e1,e2⟩:=Xd a x h0;have t1:((j:Int)+1).toNat=j+1:=by omega
  have t2:(j:Int).toNat=j:=by omega
  have hd:(BD x.cells (de a x.i)).length=j-0+(x.cells.length-(j+1)):=by unfold BD;rw[e2,if_neg (by omega),t2,tA hj];omega
  rw[e1,t1,t2];refine⟨⟨by omega,by omega⟩,⟨by omega,by omega⟩,by simp only[bZ];omega,⟨by omega,by omega⟩,by omega,by omega,by omega,fun c4 hc4 _ _=>⟨akp a x _ l c rows w b m key c4,fun k hk=>⟨fun ee=>?_,fun ee=>?_⟩⟩⟩
  ·have hj:=ltA k ee;have hj2:=(Cc hx hi hj).1
   grind [ahZ,ai0]
  grind [ai4]
theorem ai7(a:eU)(x:dL)(hx:pM x)(hi:x.i<60)(hkd:tI a x.i=2\/tI a x.i=3)(l c:Nat)(rows:Nat->Nat->Value)(w:om.α)(b:om.β)(m:Bool)
 (hm:wJ a x=false):Lr a x x.cells.length l c rows w b m:=by
 unfold Lr
 delta cE aK cR aQ aO aA az aM aN aF cz bK aU pN oR bI ki gL dx aP bJ ag bV bD aq Ln kX gC ah G0 dH rU bT bf bg lH ax jf kY kE iw lG cZ iT kZ bC nh zY qH gp bE
 try dsimp -iota -proj only
 have hc1:=hx.c1;refine⟨de a x.i,rfl,trivial,fun _ _=>⟨fun cc=>?_,fun cc=>⟨fun dd=>?_,fun dd=>?_⟩⟩⟩
 ·have hb:dB (de a x.i)=false:=by simpa using cc
  have e1:fk a x (dz x)=x.cells:=if_neg fun h=>by grind
  have e2:gz a x (dz x)=aR x.f.n:=if_neg fun h=>by grind
  have e3:jU a x (dz x)=⟨x.i+1,if tI a x.i=3 then 2 else 1,de a x.i,1,oN,false⟩:=if_pos hb;rw[e1,e2,e3];refine⟨x.c1,?_⟩
  (repeat' with_reducible apply And.intro)<;>first|exact cU|exact hc1|exact kL|skip
 ·have hs:dz x=false:=by simpa using dd
  have hb:dB (de a x.i)=true:=by simpa using cc
  have e1:fk a x (dz x)=x.cells:=if_neg fun h=>by grind
  have e2:gz a x (dz x)=aR x.f.n:=if_neg fun h=>by grind
  have e3:jU a x (dz x)=⟨x.i+1,if tI a x.i=3 then 2 else 1,de a x.i,6,oN,false⟩:=by unfold jU;rw[if_neg (by grind),if_pos hs]
  rw[e1,e2,e3];refine⟨x.c1,?_⟩
  (repeat' with_reducible apply And.intro)<;>first|exact cU|exact hc1|exact kL|skip
 grind [ai6]
theorem YL(a:eU)(x:dL)(hx:pM x)(hi:x.i<60)(hkd:tI a x.i=2\/tI a x.i=3)(l c:Nat)(rows:Nat->Nat->Value):Ls a x x.cells.length l c rows:=by
 unfold Ls
 delta cE aK cR aQ aO aA az gq pL aM aN aF cz bK nv aU CO bI gL bN aP aZ bJ ag bV bD jF aq rT bR pW dS aJ kX bW ah cF aD dH lF ag1 lE bT bf lH ax bA ja uW cZ kZ qI bC nh W7 eu lD gp
 try dsimp -iota -proj only
 have hrl:=hx.inv.rsl;obtain⟨g,hpre,hM,hN⟩:=ai3 a x hx hi hkd;refine⟨akl a x _ l c rows,fun _ _=>⟨⟨x.f,⟨0,x.i+1,HM a x.i,de a x.i⟩,g⟩,?_⟩⟩
 (repeat' with_reducible apply And.intro)<;>first|exact cU|exact hpre|exact kL|skip
 rintro b ⟨_,p,hat⟩;have hat:bz x.f.n p:=hat;refine⟨akn a x l c rows _ b,fun m hm=>⟨fun cc=>?_,fun cc=>⟨ai7 a x hx hi hkd l c rows _ b m (hm.symm.trans cc),fun c4 hc4=>?_⟩⟩⟩
 ·obtain⟨hM,hkb,hr⟩:=hM (hm.symm.trans cc);have e:=hM b.b;have ef:om.f' ⟨x.f,⟨0,x.i+1,HM a x.i,de a x.i⟩,g⟩ b=⟨jw x.f.n ⟨0,x.i+1,HM a x.i,de a x.i⟩ b.b,x.f.r⟩:=by
   show NF.mk (BK x.f ⟨0,x.i+1,HM a x.i,de a x.i⟩ g b.b).n x.f.r=_;rw[e]
  dsimp only at ef ⊢;rw[e,ef];refine⟨fun dd=>absurd (show false=true from dd) (by decide),fun _=>?_⟩;have hl1:(aH x.f.n.rs).length<1000:=by rw[ig];omega
  have hl2:(aR x.f.n).length<1000:=by rw[eR];omega
  refine⟨by omega,cW _,by omega,fun c2 hc2 _ _=>⟨by omega,cW _,by omega,fun c3 hc3 _ _=>?_⟩⟩;obtain⟨h1,h2,h3⟩:=hx.ak4 hi hat (w:=⟨0,x.i+1,HM a x.i,de a x.i⟩) hkb rfl b.b hr hc2 hc3;have hk0:(jw x.f.n ⟨0,x.i+1,HM a x.i,de a x.i⟩ b.b).s.k=x.f.n.s.k:=rfl;have hn0:(jw x.f.n ⟨0,x.i+1,HM a x.i,de a x.i⟩ b.b).now=x.f.n.now:=rfl;have he0:(jw x.f.n ⟨0,x.i+1,HM a x.i,de a x.i⟩ b.b).le=x.f.n.le:=rfl;generalize jw x.f.n ⟨0,x.i+1,HM a x.i,de a x.i⟩ b.b=n' at *;have q1:(aR x.f.n).length+1=(aR n').length:=by rw[h2,wM];rfl
  have q2:(aH x.f.n.rs).length+1=(aH n'.rs).length:=by rw[h3,wM];rfl
  have q3:af (aR n').length 1 (bq (aa gK (aR x.f.n)) 0 (aR x.f.n).length fun i j=>aV 1 [Value.bool true] (0+i) j) (aa gK (aR n')):=by
   rw[<- q1,h2];exact .push rfl (cW _) rfl
  have q4:af (aH n'.rs).length 1 (bq (aa ic (aH x.f.n.rs)) 0 (aH x.f.n.rs).length fun i j=>aV 1 [Value.string (de a x.i)] (0+i) j) (aa ic (aH n'.rs)):=by
   rw[<- q2,h3];exact .push rfl (cW _) rfl
  grind [af.refl]
 ·obtain⟨n',e,hO⟩:=hN (hm.symm.trans cc) b.b;have ef:om.f' ⟨x.f,⟨0,x.i+1,HM a x.i,de a x.i⟩,g⟩ b=⟨n',x.f.r⟩:=by
   show NF.mk (BK x.f ⟨0,x.i+1,HM a x.i,de a x.i⟩ g b.b).n x.f.r=_;rw[e]
  dsimp only at ef ⊢;rw[e,ef];have hA:=hO.alp c4 hc4;obtain⟨_,h2,h3,hk0,hn0,he0⟩:=hO;refine⟨fun dd=>absurd (show false=true from dd) (by decide),fun _=>⟨⟨by decide,by grind⟩,by grind,jU a x (dz x),?_⟩⟩
  (repeat' with_reducible apply And.intro)<;>first|exact cU|exact rfl|exact kL|skip
  grind [af.refl]
def kO(a:eU)(i:Nat):Int:=dR (a.ops i 1)
def uY(a:eU)(i:Nat):Bool:=HO (a.ops i 7)
theorem NN(a:eU)(i:Nat):(lY a i).size<=210:=NI _ (n:=210)
structure akq(a:eU)(x:dL):Prop where
 out:∃n' ms,zW x.f (kO a x.i) (lY a x.i) (uY a x.i)=⟨n',ms,[⟨(gl x.f.n.rs (kO a x.i).toNat).w.id,(gl x.f.n.rs (kO a x.i).toNat).w.op,gl (aH x.f.n.rs) (kO a x.i).toNat,0,jh (lY a x.i) (uY a x.i),uY a x.i⟩]⟩ /\
  (∀c1 c2 c3,(ij a x).length<=c1->(lq (aH x.f.n.rs) (kO a x.i).toNat).length<=c2->(lq (aR x.f.n) (kO a x.i).toNat).length<=c3->pM ⟨x.i+1,⟨n',x.f.r⟩,ij a x,c1,c2,c3⟩) /\
  aH n'.rs=lq (aH x.f.n.rs) (kO a x.i).toNat/\aR n'=lq (aR x.f.n) (kO a x.i).toNat/\n'.s.k=x.f.n.s.k/\n'.now=x.f.n.now/\n'.le=x.f.n.le
theorem ai8(a:eU)(x:dL)(hx:pM x)(hi:x.i<60)(hat:bz x.f.n p)(hk:0<=kO a x.i/\kO a x.i<x.f.n.rs.length):akq a x:=by
 have hv:=NN a x.i;obtain⟨n',e1,e2,_,e4,e5,e6,e7,e8,e9⟩:=hx.red hi hat hk (val:=lY a x.i) (has:=uY a x.i) hv (cW _) (cW _) (cW _);have hkn:(kO a x.i).toNat<x.f.n.rs.length:=by omega
 have hmem:gl x.f.n.rs (kO a x.i).toNat∈x.f.n.rs:=by rw[b8 hkn];exact List.getElem_mem _
 have hfill:Ao x.f.n x.cells (kO a x.i).toNat (lY a x.i) (uY a x.i)=wK a x:=by
  have hs:dz x=oP x.f.n.le x.f.n.now x.f.n.s.k.m.ay:=by
   unfold dz;cases hr:x.f.r with
   |none=>grind
   |some y=>rfl
  unfold Ao wK;rw[hs];rfl
 have hc4:ij a x=(if Ao x.f.n x.cells (kO a x.i).toNat (lY a x.i) (uY a x.i)=true then uT x.cells (gl x.f.n.rs (kO a x.i).toNat).w.key (lY a x.i)else x.cells):=by rw[hfill];rfl
 have hq:∀q:gD,q.n=n'->q.rs=zL (gl x.f.n.rs (kO a x.i).toNat).w 0 (jh (lY a x.i) (uY a x.i)) (uY a x.i)->q=⟨n',q.ms,[⟨(gl x.f.n.rs (kO a x.i).toNat).w.id,(gl x.f.n.rs (kO a x.i).toNat).w.op,gl (aH x.f.n.rs) (kO a x.i).toNat,0,jh (lY a x.i) (uY a x.i),uY a x.i⟩]⟩:=by
  rintro⟨qn,qm,qr⟩ q1 q2;dsimp only at q1 q2 ⊢;rw[q1,q2];unfold zL;rw[if_pos (hx.nd _ hmem),BN hkn]
 refine⟨n',_,hq _ e1 e2,fun c1 c2 c3 h1 h2 h3=>?_,e4,e5,e6,e7,e8⟩;rw[hc4]at h1 ⊢;obtain⟨n2,f1,_,f3,_⟩:=hx.red hi hat hk (val:=lY a x.i) (has:=uY a x.i) hv h1 h2 h3
 grind
theorem ai9(a:eU)(x:dL)(k l c:Nat)(rows:Nat->Nat->Value)(q:oU.α)(b:oU.β)(hg:gl (aR x.f.n) (kO a x.i).toNat=true)(hs:dz x=true):Lt a x k l c rows q b:=by
 unfold Lt
 delta cE aK cR aQ aO aA az aM aN aF cz bK aU pN oR bI ki gL bJ ag bV bD aT eO aq x6 bF aJ gC ah nQ dH oS bT bf bg xZ fc mm jf wL kY kE iw lG iT bC zZ gp
 try dsimp -iota -proj only
 have hz:decide (((lY a x.i).size:Int)<=200)=decide ((lY a x.i).size<=200):=decide_eq_decide.2 (by omega);have hg:gl (aR x.f.n) (dR (a.ops x.i 1)).toNat=true:=hg
 grind [wK,af.refl]
theorem aia(a:eU)(x:dL)(k l c:Nat)(rows:Nat->Nat->Value)(q:oU.α)(b:oU.β)(hk:0<=kO a x.i/\kO a x.i<x.f.n.rs.length):Lu a x k l c rows q b:=by
 unfold Lu
 delta rV cE aK cR aQ aO aA az aM aN aF cz mR bK aU pN oR bI ki gL aZ bJ ag bV bD eO aq x6 bF dS aJ aC gC ah nQ dH oS bT bf bg xZ fc mm jf wL kY kE iw lG iT bC zZ gp
 try dsimp -iota -proj only
 have hk:0<=dR (a.ops x.i 1)/\dR (a.ops x.i 1)<x.f.n.rs.length:=hk;rw[eR,mA];refine⟨hk,by omega,fun cc=>⟨fun dd=>ai9 a x k l c rows q b cc dd,fun dd=>⟨_,rfl,?_⟩⟩,fun cc=>⟨_,rfl,?_⟩⟩
 ·grind [wK,af.refl]
 grind [wK,af.refl]
theorem aib(a:eU)(x:dL)(hx:pM x)(hi:x.i<60)(k l c:Nat)(rows:Nat->Nat->Value)(q:oU.α)(b:oU.β)(hk:0<=kO a x.i/\kO a x.i<x.f.n.rs.length)(hf:wK a x=true):Lv a x k l c rows q b:=by
 unfold Lv
 delta cE cR aQ aO aA az aM aN aF cz mR bK pN oR bI ki gL aZ bJ ag bV bD eO DU bF dS aJ aC kX gC ah nQ dH oS bT bf RA bg fc ax jf wL kY kE iw lG iT bC zZ BC qH gp bE
 try dsimp -iota -proj only
 have hk:0<=dR (a.ops x.i 1)/\dR (a.ops x.i 1)<x.f.n.rs.length:=hk;have hcl:=hx.inv.cl;have hl:x.cells.length<1000:=by omega
 have e:ij a x=uT x.cells (gl (aH x.f.n.rs) (dR (a.ops x.i 1)).toNat) (lY a x.i):=by unfold ij;rw[if_pos hf,BN (by omega)]
 have hk2:0<=dR (a.ops x.i 1)/\dR (a.ops x.i 1)<(aH x.f.n.rs).length:=by rw[ig];exact hk
 refine⟨hk2,by omega,⟨x.cells,x.c1,gl (aH x.f.n.rs) (0+(dR (a.ops x.i 1)).toNat),lY a x.i⟩,?_⟩
 (repeat' with_reducible apply And.intro)<;>first|exact cU|exact hl|(intro h_;revert h_)|omega|grind [af.refl]|rfl|grind|grind|(dsimp only;omega)|skip
 rintro c4 hc4;have hc4:(uT x.cells (gl (aH x.f.n.rs) (0+(dR (a.ops x.i 1)).toNat)) (lY a x.i)).length<=c4:=hc4;rw[mA]at hc4;dsimp only;rw[e,mA]
 grind [af.refl]
theorem aic(a:eU)(x:dL)(k l c:Nat)(rows:Nat->Nat->Value)(q:oU.α)(b:oU.β)(hg:gl (aR x.f.n) (kO a x.i).toNat=true)(hs:dz x=true):Lx a x k l c rows q b:=by
 unfold Lx
 delta cE aK cR aQ aO aA az aM aN aF cz bK aU pN oR bI ki gL bJ ag bV bD aT eO aq x6 bF aJ gC ah dH oS bT bf xZ mm jf kY kE iw lG iT bC zZ gp
 try dsimp -iota -proj only
 have hz:decide (((lY a x.i).size:Int)<=200)=decide ((lY a x.i).size<=200):=decide_eq_decide.2 (by omega);have hg:gl (aR x.f.n) (dR (a.ops x.i 1)).toNat=true:=hg
 grind [wK,af.refl]
theorem aid(a:eU)(x:dL)(k l c:Nat)(rows:Nat->Nat->Value)(q:oU.α)(b:oU.β)(hk:0<=kO a x.i/\kO a x.i<x.f.n.rs.length):Lz a x k l c rows q b:=by
 unfold Lz
 delta rV cE aK cR aQ aO aA az aM aN aF cz mR bK aU pN oR bI ki gL aZ bJ ag bV bD eO aq x6 bF dS aJ aC gC ah dH oS bT bf xZ mm jf kY kE iw lG iT bC zZ gp
 try dsimp -iota -proj only
 have hk:0<=dR (a.ops x.i 1)/\dR (a.ops x.i 1)<x.f.n.rs.length:=hk;rw[eR,mA];refine⟨hk,by omega,fun cc=>⟨fun dd=>aic a x k l c rows q b cc dd,fun dd=>⟨_,rfl,?_⟩⟩,fun cc=>⟨_,rfl,?_⟩⟩
 ·grind [wK,af.refl]
 grind [wK,af.refl]
theorem aie(a:eU)(x:dL)(hx:pM x)(hi:x.i<60)(k l c:Nat)(rows:Nat->Nat->Value)(b:oU.β)(hk:0<=kO a x.i/\kO a x.i<x.f.n.rs.length)(hO:akq a x):Lw a x k l c rows ⟨x.f,kO a x.i,lY a x.i,uY a x.i⟩ b:=by
 unfold Lw
 delta cE aK cR aQ aO ai aA az gq pL aM aN aF cz bK nv aU pN CO oR bI ki gL fm bJ ag bV bD eO aq G2 DU rT bF pW RB aJ aC kX gC ah nQ dH oS lF cO bT bf bg fc ax tw jf wL kY GG kE iw lG sL iT kZ bC zZ eu lD qH fe gp bE
 try dsimp -iota -proj only
 refine⟨⟨aia a x k l c rows _ b hk,fun m hm=>⟨fun cc=>aib a x hx hi k l c rows _ b hk (hm.symm.trans cc),fun cc=>?_⟩⟩,?_⟩
 ·grind [ij,hx.c1,af.refl]
 intro c4 hc4;have hK:0<=dR (a.ops x.i 1)/\dR (a.ops x.i 1)<x.f.n.rs.length:=hk;obtain⟨j,hj⟩:∃j:Nat,dR (a.ops x.i 1)=j:=⟨_,(Int.toNat_of_nonneg hK.1).symm⟩
 obtain⟨n',ms,e,hA,h2,h3,hk0,hn0,he0⟩:=hO;have ef:oU.f' ⟨x.f,kO a x.i,lY a x.i,uY a x.i⟩ b=⟨n',x.f.r⟩:=by
  show NF.mk (zW x.f (kO a x.i) (lY a x.i) (uY a x.i)).n x.f.r=_;rw[e]
 have t1:((j:Int)+1).toNat=j+1:=by omega
 have t2:(j:Int).toNat=j:=by omega
 have hkj:kO a x.i=(j:Int):=hj;rw[hkj,t2]at hA h2 h3;have hrl:=hx.inv.rsl;have hjk:j<(aH x.f.n.rs).length:=by rw[ig];omega
 have hjg:j<(aR x.f.n).length:=by rw[eR];omega
 have hl1:(aH x.f.n.rs).length<1000:=by rw[ig];omega
 have hl2:(aR x.f.n).length<1000:=by rw[eR];omega
 have hx2:=hx.c2;have hx3:=hx.c3;rw[ef,hj,t1,t2];refine⟨⟨by omega,by omega⟩,⟨by omega,by omega⟩,by simp only[bZ];omega,⟨by omega,by omega⟩,by omega,by omega,by omega,fun c2 hc2 _ _=>?_⟩;refine⟨⟨by omega,by omega⟩,⟨by omega,by omega⟩,by simp only[bZ];omega,⟨by omega,by omega⟩,by omega,by omega,by omega,fun c3 hc3 _ _=>?_⟩;have q1:j-0+((aR x.f.n).length-(j+1))=(aR n').length:=by rw[h3,tA hjg];omega
 have q2:j-0+((aH x.f.n.rs).length-(j+1))=(aH n'.rs).length:=by rw[h2,tA hjk];omega
 have q3:af (aR n').length 1 (bq (aa gK (aR x.f.n)) 0 (j-0) fun i q=>aa gK (aR x.f.n) (0+(j+1)+i) q) (aa gK (aR n')):=by
  rw[LL,mA,h3];exact BO hjg (cW _)
 have q4:af (aH n'.rs).length 1 (bq (aa ic (aH x.f.n.rs)) 0 (j-0) fun i q=>aa ic (aH x.f.n.rs) (0+(j+1)+i) q) (aa ic (aH n'.rs)):=by
  rw[LL,mA,h2];exact BO hjk (cW _)
 grind [af.refl]
theorem aif(a:eU)(x:dL)(hx:pM x)(hi:x.i<60)(k l c:Nat)(rows:Nat->Nat->Value)(q:oU.α)(b:oU.β)(hk:0<=kO a x.i/\kO a x.i<x.f.n.rs.length):LA a x k l c rows q b:=by
 unfold LA
 delta cE aK cR aQ aO aA az aM aN aF cz mR bK aU pN oR bI ki gL aZ bJ ag bV bD eO aq DU bF dS aJ aC kX gC ah dH oS bT bf RA ax jf kY kE iw lG iT bC zZ BC qH gp bE
 try dsimp -iota -proj only
 refine⟨aid a x k l c rows _ b hk,fun m hm=>⟨fun cc=>?_,fun cc=>?_⟩⟩
 ·have hf:wK a x=true:=hm.symm.trans cc;have hk:0<=dR (a.ops x.i 1)/\dR (a.ops x.i 1)<x.f.n.rs.length:=hk;have hcl:=hx.inv.cl;have hl:x.cells.length<1000:=by omega
  have e:ij a x=uT x.cells (gl (aH x.f.n.rs) (dR (a.ops x.i 1)).toNat) (lY a x.i):=by unfold ij;rw[if_pos hf,BN (by omega)]
  have hk2:0<=dR (a.ops x.i 1)/\dR (a.ops x.i 1)<(aH x.f.n.rs).length:=by rw[ig];exact hk
  refine⟨hk2,by omega,⟨x.cells,x.c1,gl (aH x.f.n.rs) (0+(dR (a.ops x.i 1)).toNat),lY a x.i⟩,?_⟩
  (repeat' with_reducible apply And.intro)<;>first|exact cU|exact hl|(intro h_;revert h_)|omega|grind [af.refl]|rfl|grind|grind|(dsimp only;omega)|skip
  rintro c4 hc4;have hc4:(uT x.cells (gl (aH x.f.n.rs) (0+(dR (a.ops x.i 1)).toNat)) (lY a x.i)).length<=c4:=hc4;rw[mA]at hc4;dsimp only;rw[e,mA]
  grind [af.refl]
 grind [ij,hx.c1,af.refl]
theorem aih(a:eU)(x:dL)(hx:pM x)(hi:x.i<60)(k l c:Nat)(rows:Nat->Nat->Value)(b:oU.β)(hk:0<=kO a x.i/\kO a x.i<x.f.n.rs.length)(hO:akq a x):LB a x k l c rows ⟨x.f,kO a x.i,lY a x.i,uY a x.i⟩ b:=by
 unfold LB
 delta cE cR aQ aO ai aA az gq pL aM aN aF cz bK nv CO bI gL fm ag bV bD G2 rT pW RB aJ aC kX ah dH oS lF cO bf ax tw GG sL kZ bC eu lD fe gp
 try dsimp -iota -proj only
 refine⟨aif a x hx hi k l c rows _ b hk,?_⟩;intro c4 hc4;have hK:0<=dR (a.ops x.i 1)/\dR (a.ops x.i 1)<x.f.n.rs.length:=hk;obtain⟨j,hj⟩:∃j:Nat,dR (a.ops x.i 1)=j:=⟨_,(Int.toNat_of_nonneg hK.1).symm⟩
 obtain⟨n',ms,e,hA,h2,h3,hk0,hn0,he0⟩:=hO;have ef:oU.f' ⟨x.f,kO a x.i,lY a x.i,uY a x.i⟩ b=⟨n',x.f.r⟩:=by
  show NF.mk (zW x.f (kO a x.i) (lY a x.i) (uY a x.i)).n x.f.r=_;rw[e]
 have t1:((j:Int)+1).toNat=j+1:=by omega
 have t2:(j:Int).toNat=j:=by omega
 have hkj:kO a x.i=(j:Int):=hj;rw[hkj,t2]at hA h2 h3;have hrl:=hx.inv.rsl;have hjk:j<(aH x.f.n.rs).length:=by rw[ig];omega
 have hjg:j<(aR x.f.n).length:=by rw[eR];omega
 have hl1:(aH x.f.n.rs).length<1000:=by rw[ig];omega
 have hl2:(aR x.f.n).length<1000:=by rw[eR];omega
 have hx2:=hx.c2;have hx3:=hx.c3;rw[ef,hj,t1,t2];refine⟨⟨by omega,by omega⟩,⟨by omega,by omega⟩,by simp only[bZ];omega,⟨by omega,by omega⟩,by omega,by omega,by omega,fun c2 hc2 _ _=>?_⟩;refine⟨⟨by omega,by omega⟩,⟨by omega,by omega⟩,by simp only[bZ];omega,⟨by omega,by omega⟩,by omega,by omega,by omega,fun c3 hc3 _ _=>?_⟩;have q1:j-0+((aR x.f.n).length-(j+1))=(aR n').length:=by rw[h3,tA hjg];omega
 have q2:j-0+((aH x.f.n.rs).length-(j+1))=(aH n'.rs).length:=by rw[h2,tA hjk];omega
 have q3:af (aR n').length 1 (bq (aa gK (aR x.f.n)) 0 (j-0) fun i q=>aa gK (aR x.f.n) (0+(j+1)+i) q) (aa gK (aR n')):=by
  rw[LL,mA,h3];exact BO hjg (cW _)
 have q4:af (aH n'.rs).length 1 (bq (aa ic (aH x.f.n.rs)) 0 (j-0) fun i q=>aa ic (aH x.f.n.rs) (0+(j+1)+i) q) (aa ic (aH n'.rs)):=by
  rw[LL,mA,h2];exact BO hjk (cW _)
 grind [af.refl]
theorem T0(a:eU)(x:dL)(hx:pM x)(hi:x.i<60)(hk:¬(0<=kO a x.i/\kO a x.i<x.f.n.rs.length))(b:oU.β):zW x.f (kO a x.i) (lY a x.i) (uY a x.i)=⟨x.f.n,[],[]⟩/\oU.f' ⟨x.f,kO a x.i,lY a x.i,uY a x.i⟩ b=x.f:=by
 have e:=afV (f:=x.f) (val:=lY a x.i) (has:=uY a x.i) hk;refine⟨e,?_⟩;show NF.mk (zW x.f (kO a x.i) (lY a x.i) (uY a x.i)).n x.f.r=_;rw[e]
theorem aii(a:eU)(x:dL)(hx:pM x)(hi:x.i<60)(k l c:Nat)(rows:Nat->Nat->Value)(b:oU.β)(hat:bz x.f.n p)(h0:0<=kO a x.i):LC a x k l c rows ⟨x.f,kO a x.i,lY a x.i,uY a x.i⟩ b:=by
 unfold LC
 delta cE aK cR aQ aO ai aA az pL aM aN aF cz mR bK nv aU CO bI gL bN aZ ag bV bD aq rT bF pW dS aJ aC kX ah aD nQ dH oS lF lE bT DT bf bg fc ax bA wL kZ bC lD gp
 try dsimp -iota -proj only
 have hS:=hx.same hi;refine⟨fun cc=>?_,fun cc=>?_⟩
 ·have hk:((aH x.f.n.rs).length:Int)<=kO a x.i:=qi cc;rw[ig]at hk;obtain⟨e1,e2⟩:=T0 a x hx hi (by omega) b
  grind [af.refl]
 ·have hk:¬((aH x.f.n.rs).length:Int)<=kO a x.i:=ug cc;rw[ig]at hk;have hk2:0<=kO a x.i/\kO a x.i<x.f.n.rs.length:=⟨h0,by omega⟩
  have hO:=ai8 a x hx hi hat hk2;have hO2:=hO;obtain⟨n',ms,e,_⟩:=hO2;have hb:0<=dR (a.ops x.i 1)/\dR (a.ops x.i 1)<(aH x.f.n.rs).length:=by rw[ig];exact hk2
  have hb2:0+(dR (a.ops x.i 1)).toNat<(aH x.f.n.rs).length:=by omega
  have h1:((0:Int)<=0/\(0:Int)<((1:Nat):Int))/\0<1:=by decide
  have hg:∀r:vj,gl [r] 0=r:=fun _=>rfl;dsimp only;rw[e];dsimp only;refine⟨fun dd=>absurd (show false=true from dd) (by decide),fun _=>⟨h1.1,h1.2,hb,hb2,fun dd=>?_,fun _=>⟨h1.1,h1.2,fun _=>⟨fun dd=>absurd (show false=true from dd) (by decide),fun _=>⟨h1.1,h1.2,fun dd=>?_,fun _=>⟨fun ff=>⟨h1.1,h1.2,fun dd=>?_,fun _=>aie a x hx hi k l c rows b hk2 hO⟩,fun _=>aih a x hx hi k l c rows b hk2 hO⟩⟩⟩⟩⟩⟩
  ·exfalso;rw[hg,mA]at dd
   grind [kO]
  ·grind [uY]
  grind [jh]
theorem aij(a:eU)(x:dL)(hx:pM x)(hi:x.i<60)(k l c:Nat)(rows:Nat->Nat->Value)(hl:l<=c)(hb:∀q,q<l->∃b,rows q 0 = .bool b):LF a x k l c rows:=by
 unfold LF
 delta cE aK cR aQ aO ai aA az pL aM aN aF cz bK nv aU CO bI gL bN ag bV bD aq rT pW aJ kX ah aI aD nQ dH lF lE bT DT bf ax bA uW kZ qI bC lD gp
 try dsimp -iota -proj only
 have hS:=hx.same hi;have hpre:oU.pre ⟨x.f,kO a x.i,lY a x.i,uY a x.i⟩:=hx.akb hi (NN a x.i);refine⟨fun _ _=>⟨⟨x.f,kO a x.i,lY a x.i,uY a x.i⟩,?_⟩,fun _=>⟨fun _=>ahY a x hx hi k l c rows hl hb,fun _=>⟨⟨x.i+1,x.f,x.cells,x.c1,x.c2,x.c3⟩,?_⟩⟩⟩
 ·(repeat' with_reducible apply And.intro)<;>first|exact cU|exact hpre|exact kL|skip
  rintro b ⟨_,p,hat⟩;have hat:bz x.f.n p:=hat;refine⟨fun cc=>?_,fun cc=>aii a x hx hi k l c rows b hat (by grind [kO])⟩;have hk:kO a x.i<0:=qi cc;obtain⟨e1,e2⟩:=T0 a x hx hi (by omega) b
  grind [af.refl]
 grind [af.refl]
theorem aik(a:eU)(x:dL)(hx:pM x)(hi:x.i<60)(l c:Nat)(rows:Nat->Nat->Value)(hl:l<=c)(hb:∀q,q<l->∃b,rows q 0 = .bool b):EU a x x.cells.length l c rows:=by
 unfold EU
 delta cE aK cR aQ aO ai aA az pL aM aN aF cz bK nv aU bI gL bN aZ jo ag bV bD BL aq rT pW aJ kX pX ah aD dH lF lE bf oO GW wA ax jK bA oG uW qI bC lD zw qH fe gp
 try dsimp -iota -proj only
 obtain⟨hT,hR⟩:=am6 hx hi;refine fun _=>⟨fun cc=>⟨x.f,?_⟩,fun cc=>⟨fun dd _=>?_,fun dd=>⟨fun ee=>YL a x hx hi (.inl (by simpa using ee)) l c rows,fun _=>⟨fun ee=>YL a x hx hi (.inr (by simpa using ee)) l c rows,fun _=>aij a x hx hi _ l c rows hl hb⟩⟩⟩⟩
 ·have hpre:fTk.pre x.f:=hT
  (repeat' with_reducible apply And.intro)<;>first|exact cU|exact hpre|exact kL|skip
  rintro _ _ _;refine⟨hR,⟨ES x.f.n,x.f.r⟩,?_⟩;have hpre:fBt.pre ⟨ES x.f.n,x.f.r⟩:=hx.inv.ws
  (repeat' with_reducible apply And.intro)<;>first|exact cU|exact hpre|exact kL|skip
  rintro b _;have h1:((0:Int)<=0/\(0:Int)<1)/\0<1:=by decide
  have hB:=hx.ak3 hi;refine⟨fun h=>absurd h (by decide),fun _=>⟨h1.1,h1.2,fun _=>⟨fun h=>absurd (show false=true from h) (by decide),fun _=>⟨h1.1,h1.2,fun _ _=>⟨fun h=>?_,fun _=>⟨h1.1,h1.2,fun _=>⟨fun h=>?_,fun _=>⟨fun h=>absurd h (by decide),fun _=>⟨⟨x.i+1,⟨TY (ES x.f.n),x.f.r⟩,x.cells,x.c1,x.c2,x.c3⟩,?_⟩⟩⟩⟩⟩⟩⟩⟩⟩
  ·exfalso;have h:((x.f.n.now+1) != (x.f.n.now+1))=true:=h;simp at h
  ·exfalso;have h:(x.f.n.s.k.m.ay != x.f.n.s.k.m.ay)=true:=h;simp at h
  ·(repeat' with_reducible apply And.intro)<;>first|exact cU|exact hB|exact kL|skip
 ·obtain⟨_,h1,h2⟩:=ag4 a x.i;exact⟨by decide,h1,by decide,h2,akk a x hx hi _ l c rows⟩
theorem ail(a:eU)(hok:Rp a)(x:dL)(hx:pM x)(hi:x.i<60)(hin:x.i<a.n):LI a x:=by
 unfold LI
 delta cE aK cR aQ aO aA az aG aM aN aF cz bK gu aU HL ki gL aP aZ ag bV bD eO aq zX pW dS aJ aC gC ah aS aI aD dH bf fO mm kY bS kE iw iT xY bC gp
 try dsimp -iota -proj only
 have hcl:=hx.inv.cl;refine⟨⟨by omega,by omega⟩,by omega,(LM (a.ops x.i 5),45),?_⟩;rw[RD];refine⟨rfl,rfl,(show(0:Int)<=45 by decide),fun _ _=>⟨(LM (a.ops x.i 6),210),rfl,rfl,(show(0:Int)<=210 by decide),fun _ _=>⟨akf a x,fun _ _=>⟨⟨fun cc=>⟨⟨x.f.n.now,x.f.n.le,x.f.n.s.k.m.ay,0⟩,?_⟩,fun cc=>⟨(),?_⟩⟩,fun _ _=>⟨⟨0,?_⟩,fun k hk=>⟨fun cc=>akg a x hx hi k (ltA k cc),fun cc=>?_⟩⟩⟩⟩⟩⟩
 ·(repeat' with_reducible apply And.intro)<;>first|exact cU|exact rfl|exact kL|skip
  rintro _ _;have e:oP x.f.n.le x.f.n.now x.f.n.s.k.m.ay=dz x:=by unfold dz;rw[cc];rfl
  refine⟨(),?_⟩
  grind [af.refl]
 ·grind [dz,af.refl]
 ·grind [zT,af.refl]
 ·have hk2:k=x.cells.length:=by have:=geA k cc;omega
  rw[hk2];exact ahX a hok x hi hin _ fun g l c rows hs hb=>aik a x hx hi l c rows hs.le hb
theorem amD:ag2:=by
 unfold ag2
 delta rV cE aK aQ aO aA az pL aM aN aF cz bK nv aU gL bN aP ag bV bD aq aJ ah aS aD DI bA kz cZ bC RC Q8 lD Bc
 try dsimp -iota -proj only
 rintro a ⟨hn,hc,hok⟩;refine⟨(),trivial,fun _ _=>⟨1200,rfl,trivial,fun _ _=>⟨⟨1,0,gO 1200,fun _=>none⟩,?_⟩⟩⟩;obtain⟨m1,m2,m3,m4⟩:=rR.make (H:=fun _=>none);obtain⟨k1,k2,k3⟩:=m1
 (repeat' with_reducible apply And.intro)<;>first|exact cU|exact k1|exact k2|exact k3|exact k3.1|exact k3.2.1|exact k3.2.2.1|exact k3.2.2.2|(intro h_;revert h_)|omega|grind [af.refl]|rfl|exact af.refl _ _ _|exact cW _|(dsimp only;omega)|skip
 rintro _ _;refine⟨⟨⟨0,⟨B6 ⟨1,0,gO 1200,fun _=>none⟩,none⟩,[],0,0,0⟩,?_⟩,fun x hx=>⟨fun cc=>⟨fun dd=>ail a hok x hx.2 (by grind) (by grind),fun _=>⟨(),rfl,trivial,trivial⟩⟩,fun _=>⟨(),rfl,trivial,trivial⟩⟩⟩;have hA:pM ⟨0,⟨B6 ⟨1,0,gO 1200,fun _=>none⟩,none⟩,[],0,0,0⟩:=⟨m2,cW _,cW _,cW _,fun _=>rfl,fun y hy=>(by cases hy),fun z hz=>(by cases hz)⟩
 have m3':=m3.symm;have hz:(0:Nat)<=min a.n 60:=Az _
 (repeat' with_reducible apply And.intro)<;>first|exact cU|exact hA|exact m3'|exact hz|(intro h_;revert h_)|omega|grind [af.refl]|rfl|exact af.refl _ _ _|exact cW _|(dsimp only;omega)|skip
theorem aim:fnBody (Y Tryz.prog) ag0 9 afY fun a=>[(9,[am5 a],[An.El 2 (.mk 1000 [am5 a] [])])]:=fnBody.of (p:=ag2) (by kernel_rfl) amD
section
variable {H:Type} {enc:TypeId×Value->H} {W:World} {held:Bool}
theorem amE:Tryz.prog.underlying 91=some (.slice 98):=by kernel_rfl
theorem uBo:Tryz.prog.underlying 96=some (.slice 4):=by kernel_rfl
theorem amF:wC true Tryz.prog 20 98=some HK:=by kernel_rfl
theorem kBo:wC true Tryz.prog 20 4=some [.bool]:=by kernel_rfl
theorem amG:fieldAt Tryz.prog 98 8=some (96,8):=by kernel_rfl
theorem instAlo:∀n cap rows,n<=cap->cap<=aB->(∀i,i<n->∃cs:List Value,Rd enc Tryz.prog W held 98 cs/\Ch HK cs/\∀j,j<HK.length->cs[j]? = some (rows i j)) ->
 ∃a,afY.pre a/\afY.args a=[.a (.slc 0 0 HK.length n cap)]/\afY.ro a=[(0,.arr 98 HK n rows),(1,.abs (yj (AK.all W)))]/\afY.m=2:=by
 intro n cap rows hn hc hr;refine⟨⟨n,cap,rows,AK.all W⟩,⟨hn,hc,⟨fun i hi j k hk=>?_,fun i hi=>?_⟩⟩,rfl,rfl,rfl⟩
 ·obtain⟨cs,_,h2,h3⟩:=hr i hi;have hj:j<HK.length:=(Cj.1 hk).1;exact h2.ok j k _ hk (h3 j hj)
 ·obtain⟨cs,h1,_,h3⟩:=hr i hi;obtain⟨n',cap',rows',s,k,_⟩:=(h1.cell amG (by kernel_rfl) (h3 8 (by decide))).slice uBo kBo (by kernel_rfl) (by decide);exact⟨n',cap',rows',s,fun q hq=>k q hq 0 .bool rfl⟩
end
end Go.Proofs.YtfjgoonelcaggaaGreat
