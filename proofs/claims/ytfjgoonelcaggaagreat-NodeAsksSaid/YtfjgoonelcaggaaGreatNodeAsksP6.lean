/-
  
-/
import Derived.Test.YtfjgoonelcaggaaGreatNodeAsksP5
import Derived.Test.YtfjgoonelcaggaaGreatNodeAsksP3
set_option maxRecDepth 100000
set_option maxHeartbeats 4000000
set_option linter.unusedVariables false
set_option linter.unusedSimpArgs false
namespace Go.Proofs.YtfjgoonelcaggaaGreat
open Go.Sx
structure mY(n:cW)(k:Nat)(get:ByteArray->Option aH)(cb jb:Nat):Prop where
 one:∃c es,dY n.s c es cb jb/\gE es=get/\c<=2000+100*k
 lt:k<100
 met:n.s.k.m.ready=0/\n.s.k.m.frozen=false/\0<=n.s.k.m.bN/\n.s.k.m.bN<1000/\0<=n.s.k.m.aZ/\n.s.k.m.aZ<1000
 id:1<=n.id/\n.id<=5
 now:0<=n.now/\n.now<1000
 num:0<=n.asked/\n.asked<=k/\0<=n.t.last/\n.t.last<=k/\n.t.l.length<=k/\n.ws.length<=k/\n.rs.length<=k
 rs:∀x∈n.rs,dN x.w.key=true/\0<=x.tok/\x.tok<=k
theorem dY.wide{s:mu}{n:Nat}{es:List (Option aH)}{cb jb:Nat}(h:dY s n es cb jb){cb':Nat}(hc:cb<=cb'):dY s n es cb' jb:=by
 obtain⟨cr,h1,h2⟩:=h.fl;exact⟨⟨cr,h1,by omega⟩,h.jl,h.jb,h.ms,h.nx,h.Z2,h.dn,h.keep,h.bN⟩
theorem mY.make{id now:Int}{d:bG}(h1:1<=id/\id<=5)(h2:0<=now/\now<1000)(hn:192<=d.n/\d.n<1500)(hc:d.calls=0)(H:PH):EN.pre ⟨id,now,d,H⟩/\mY (wH ⟨id,now,d,H⟩) 0 (fun _=>none) 0 0:=by
 obtain⟨m1,m2,m3,m4,_⟩:=zj (c:=0) (show 192<=d.n/\d.n<3000 by omega) (by omega) (by omega) H;have hm:(wH ⟨id,now,d,H⟩).s.k.m=⟨1,0,0,false⟩:=m3;refine⟨⟨h1.1,h1.2,m1⟩,⟨_,_,m2,rfl,by omega⟩,by omega,by rw[hm];decide,h1,h2,?_,fun x hx=>by cases hx⟩;exact⟨Int.le_refl 0,Int.le_refl 0,Int.le_refl 0,Int.le_refl 0,Nat.le_refl 0,Nat.le_refl 0,Nat.le_refl 0⟩
theorem OW:GS 0:=⟨Int.le_refl 0,by decide⟩
theorem Wv{n:cW}{fZ ep tick:Int}(hf:0<=fZ/\fZ<=5/\fZ≠n.id)(hid:1<=n.id/\n.id<=5)(he:0<=ep/\ep<1000)(ht:0<=tick/\tick<1000):B9 (J1 n fZ ep tick) :=
 ⟨(show(1:Int)<=2/\(2:Int)<=14 by omega),hf.2.2,⟨hf.1,hf.2.1⟩,(show 0<=n.id/\n.id<=5 by omega),(show 0<=ep/\ep<=_ by omega),(show 0<=tick/\tick<=_ by omega),OW,OW,OW,(show(0:Int)<=0/\(0:Int)<=1073741824 by omega),(show(0:Int)<=0/\(0:Int)<=2 by omega),(show(0:Int)<=0/\(0:Int)<=10 by omega),.inl rfl⟩
theorem mY.gr{n:cW}{p:gZ}{k:Nat}{get:ByteArray->Option aH}{cb jb:Nat}(h:mY n k get cb jb)(hat:eM n p){fZ ep tick:Int}{l:List Int}{cap:Nat}(hf:0<=fZ/\fZ<=5/\fZ≠n.id)(he:n.s.k.m.aZ<ep/\ep<1000)(ht:0<=tick/\tick<1000)(hl:Rg.gO l=true)(hw:n.ws=[])(hfit:cb+9<=378)(hk:k<99) :
 Qr ⟨n,p,fZ,ep,tick,l,cap⟩/\mY (SM n ep tick) (k+1) (fun _=>none) (cb+9) jb/\(SM n ep tick).s.k.m.aZ=ep:=by
 obtain⟨c,es,o1,o2,o3⟩:=h.one;have hn:=h.num;have hm:=h.met;have hid:=h.id;have hnw:=h.now;obtain⟨w1,w2,w3,w4⟩:=o1.Z7 (by omega) hfit;have hms:nU (wQ n ep)=true:=by
  have a1:Cp n.s.k.m.bN=true:=by simp only[Cp,Bool.and_eq_true,decide_eq_true_eq];omega
  have a2:Cp ep=true:=by simp only[Cp,Bool.and_eq_true,decide_eq_true_eq];omega
  unfold nU wQ;dsimp only;rw[a1,a2];rfl
 have hsv:gY n.s.k (wQ n ep)=true:=by
  unfold gY;rw[hms,show decide ((wQ n ep).bN<n.s.k.m.bN)=false from decide_eq_false (by show ¬(n.s.k.m.bN<n.s.k.m.bN);omega),show decide ((wQ n ep).aZ<n.s.k.m.aZ)=false from decide_eq_false (by show ¬(ep<n.s.k.m.aZ);omega)];rfl
 obtain⟨s1,s2,s3,s4⟩:=w1.save (m:=wQ n ep) hsv (by show n.s.k.m.bN=n.s.bN;exact o1.bN.symm) (by omega);obtain⟨cr,hfl,hcb⟩:=w1.fl;have hcl:(FF n.s).d.calls<=c+21:=hfl.one.log.calls;have hcl2:(FF n.s).d.calls=(iM n.s.fl [2]).d.calls+1:=rfl;have hdn:=w1.dn;have hkp:=o1.keep;have hms2:(SM n ep tick).s.k.m=wQ n ep:=s2;refine⟨⟨hat,Wv (n:=n) (fZ:=fZ) (ep:=ep) (tick:=tick) hf hid ⟨by omega,by omega⟩ (by omega),hl,hw,by dsimp only;omega,by dsimp only;omega,by dsimp only;omega,⟨w2,w3,by dsimp only;omega⟩,⟨by have:=hkp.at_;dsimp only;omega,hkp.slot,by dsimp only;omega,by dsimp only;omega,by have:=hkp.fL;dsimp only;omega,by have:=hkp.fL;dsimp only;omega⟩,hsv⟩,⟨⟨_,_,s1,by funext q;exact Ym _ q,by omega⟩,by omega,by rw[hms2];exact⟨rfl,rfl,hm.2.2.1,hm.2.2.2.1,by show 0<=ep;omega,he.2⟩,hid,hnw,⟨hn.1,by show n.asked<=_;push_cast;omega,hn.2.2.1,by show n.t.last<=_;push_cast;omega,by show(iP n.t zZ).l.length<=_;unfold iP;rw[List.length_map];omega,Nat.zero_le _,by show n.rs.length<=_;omega⟩,fun x hx=>by have:=h.rs x hx;exact⟨this.1,this.2.1,by push_cast;omega⟩⟩,by rw[hms2];rfl⟩
theorem G0{k:ByteArray}(h:k.size<64):(aL (some (jd k))).length=k.size+5:=Ez (x:=jd k) h (by show(0:Nat)<64;omega) rfl
theorem E8{s:Nat}(h:s<63)(k:ByteArray):(dS ((s:Int)+1) k).length=k.size+1:=by
 unfold dS;rw[List.length_append,jw,Ey (by omega)];omega
theorem mY.ask{n:cW}{p:gZ}{r:Rg.ga}{w:lF}{k:Nat}{get:ByteArray->Option aH}{cb jb:Nat}(h:mY n k get cb jb)(hat:eM n p)(hr:r.L.length<100000/\0<r.L.length)(hk:w.key.size<=aq)(hkill:w.op=2->dN w.key=true->cb+(w.key.size+13)<=378/\jb+(w.key.size+9)<=378):wP ⟨n,p,r,w,get w.key⟩:=by
 obtain⟨c,es,o1,o2,o3⟩:=h.one;subst o2;have hn:=h.num;have hm:=h.met;have hkk:=h.lt;have hb:=o1.bN;obtain⟨g1,g2⟩:=o1.get w.key;refine⟨hat,hr,hk,hm.2.1,by dsimp only;omega,by dsimp only;omega,by dsimp only;omega,g1,g2,fun h1 h2=>?_⟩;have h2:dN w.key=true:=h2;obtain⟨f1,f2⟩:=hkill h1 h2;have hl:=o1.len;have hks:=o5 h2;have hA:fT [w.key]=true:=by simp[fT,h2]
 have h0:∀i,i < [w.key].length->gl [w.key] i=w.key:=fun i hi=>by
  have:i=0:=by simp at hi;omega
  subst this;rfl
 have hwj:∀i,i < [w.key].length->8+(dS (n.s.ms.length+i+1) (gl [w.key] i)).length<=w.key.size+9:=fun i hi=>by
  have:i=0:=by simpa using hi
  subst this;have e:((n.s.ms.length:Int)+((0:Nat):Int)+1)=(n.s.ms.length:Int)+1:=by omega
  rw[h0 0 (by simp),e,E8 (s:=n.s.ms.length) (by omega) w.key];omega
 have hwc:∀i,i < [w.key].length->8+(aL (some (jd (gl [w.key] i)))).length<=w.key.size+13:=fun i hi=>by(rw[h0 i hi,G0 (k:=w.key) (by omega)];exact(show 8+(w.key.size+5)<=w.key.size+13 by omega))
 have hK:=(o1.kill (ks:=[w.key]) hA (wj:=w.key.size+9) (wc:=w.key.size+13) hwj hwc (by omega) (by rw[List.length_singleton];omega) (by rw[List.length_singleton];omega) (by rw[List.length_singleton];omega)).1;exact hK p.p 1
theorem mY.kill{n:cW}{key:ByteArray}{k:Nat}{get:ByteArray->Option aH}{cb jb:Nat}(h:mY n k get cb jb)(hk:dN key=true)(f1:cb+(key.size+13)<=378)(f2:jb+(key.size+9)<=378)(h99:k<99):mY (tD n key) (k+1) (Cq get key none) (cb+(key.size+13)) (jb+(key.size+9))/\(tD n key).s.k=n.s.k:=by
 obtain⟨c,es,o1,o2,o3⟩:=h.one;subst o2;have hn:=h.num;have hl:=o1.len;have hks:=o5 hk;have hA:fT [key]=true:=by simp[fT,hk]
 have h0:∀i,i < [key].length->gl [key] i=key:=fun i hi=>by
  have:i=0:=by simp at hi;omega
  subst this;rfl
 have hwj:∀i,i < [key].length->8+(dS (n.s.ms.length+i+1) (gl [key] i)).length<=key.size+9:=fun i hi=>by
  have:i=0:=by simpa using hi
  subst this;have e:((n.s.ms.length:Int)+((0:Nat):Int)+1)=(n.s.ms.length:Int)+1:=by omega
  rw[h0 0 (by simp),e,E8 (s:=n.s.ms.length) (by omega) key];omega
 have hK:=(o1.kill hA (wj:=key.size+9) (wc:=key.size+13) hwj (fun i hi=>by rw[h0 i hi,G0 (k:=key) (by omega)];omega) (by omega) (by rw[List.length_singleton];omega) (by rw[List.length_singleton];omega) (by rw[List.length_singleton];omega)).2;have hk2:(tD n key).s.k=n.s.k:=hK.k.1;have h1:=hK.one;simp only[List.length_singleton,Nat.mul_one,List.map_cons,List.map_nil]at h1;refine⟨⟨⟨_,_,h1,?_,by omega⟩,by omega,by rw[hk2];exact h.met,h.id,h.now,⟨hn.1,by show n.asked<=_;push_cast;omega,hn.2.2.1,by show n.t.last<=_;push_cast;omega,by show(iP n.t _).l.length<=_;unfold iP;rw[List.length_map];omega,by show n.ws.length<=_;omega,by show n.rs.length<=_;omega⟩,fun x hx=>by have:=h.rs x hx;exact⟨this.1,this.2.1,by push_cast;omega⟩⟩,hk2⟩;rw[xD];rfl
theorem mY.read{n:cW}{w:lF}{b:Nat}{k:Nat}{get:ByteArray->Option aH}{cb jb:Nat}(h:mY n k get cb jb)(hk:dN w.key=true)(h99:k<99):mY (mX n w b) (k+1) get cb jb:=by
 obtain⟨c,es,o1,o2,o3⟩:=h.one;have hn:=h.num;refine⟨⟨c,es,o1,o2,by omega⟩,by omega,h.met,h.id,h.now,⟨hn.1,by show n.asked<=_;push_cast;omega,by show 0<=n.t.last+1;omega,by show n.t.last+1<=_;push_cast;omega,by show(n.t.l++[_]).length<=_;rw[List.length_append,List.length_singleton];omega,by show n.ws.length<=_;omega,by show(n.rs++[_]).length<=_;rw[List.length_append,List.length_singleton];omega⟩,fun x hx=>?_⟩;rcases List.mem_append.1 hx with hx|hx
 ·have:=h.rs x hx;exact⟨this.1,this.2.1,by push_cast;omega⟩
 ·rw[List.mem_singleton]at hx;subst hx;exact⟨hk,by show 0<=n.t.last+1;omega,by show n.t.last+1<=_;push_cast;omega⟩
theorem mY.red{n:cW}{p:gZ}{r:Rg.ga}{i:Nat}{val:ByteArray}{has:Bool}{k:Nat}{get:ByteArray->Option aH}{cb jb:Nat}(h:mY n k get cb jb)(hat:eM n p)(hr:r.L.length<100000/\0<r.L.length)(hi:i<n.rs.length)(hv:val.size<64)(hfit:cb+((gl n.rs i).w.key.size+val.size+13)<=378)(h99:k<99) :
 Qp ⟨n,p,r,i,val,has⟩/\mY (r7 n r i val has) (k+1) (if nQ n r (gl n.rs i) val has=true then Cq get (gl n.rs i).w.key (some (iR (gl n.rs i) (fB val has)))else get) (cb+((gl n.rs i).w.key.size+val.size+13)) jb/\(r7 n r i val has).s.k=n.s.k:=by
 obtain⟨c,es,o1,o2,o3⟩:=h.one;subst o2;have hn:=h.num;have hmem:gl n.rs i∈n.rs:=by rw[bL hi];exact List.getElem_mem _
 obtain⟨x1,x2,x3⟩:=h.rs _ hmem;obtain⟨x,hx⟩:∃x,x=gl n.rs i:=⟨_,rfl⟩
 rw[<- hx]at x1 x2 x3 hfit ⊢;have hks:=o5 x1;have hvs:(fB val has).size<=val.size:=by
  unfold fB;cases has
  ·exact Nat.zero_le _
  ·exact Nat.le_refl _
 have hlen:(aL (some (iR x (fB val has)))).length=x.w.key.size+(fB val has).size+5:=Ez (x:=iR x (fB val has)) (by show x.w.key.size<64;omega) (by show(fB val has).size<64;omega) rfl;have hpo:kK (iR x (fB val has))=true:=E5 x1 (by omega);obtain⟨p1,p2⟩:=o1.put hpo (w:=x.w.key.size+val.size+13) (by rw[hlen];omega) (by omega) hfit;obtain⟨cr,hfl,hcb⟩:=p1.fl;have hcl:(LM n.s (iR x (fB val has))).d.calls<=c+20:=hfl.one.log.calls;have hdn:=p1.dn;have hrd:rI.rd ⟨n,p,r,i,val,has⟩=x:=hx.symm;have hsz:∀(a b:cW),a.rs=n.rs.eraseIdx i->a.rs.length<=k:=fun a _ e=>by rw[e,List.length_eraseIdx];split<;>omega
 have hul:(p5 n.t x.tok).l.length<=k:=Nat.le_trans (List.length_filter_le _ _) (by omega);have hrs:∀y∈n.rs.eraseIdx i,dN y.w.key=true/\0<=y.tok/\y.tok<=((k+1:Nat):Int):=fun y hy=>by
  have:=h.rs y (List.eraseIdx_subset hy);exact⟨this.1,this.2.1,by push_cast;omega⟩
 have hel:(n.rs.eraseIdx i).length<=k:=by rw[List.length_eraseIdx];split<;>omega
 have hnum:0<=n.asked/\n.asked<=((k+1:Nat):Int)/\0<=n.t.last/\n.t.last<=((k+1:Nat):Int)/\(p5 n.t x.tok).l.length<=k+1/\n.ws.length<=k+1/\(n.rs.eraseIdx i).length<=k+1:=by push_cast;omega
 refine⟨⟨hat,hr,h.met.2.1,hi,by dsimp only;omega,by rw[hrd];simp only[bR];omega,by rw[hrd];exact x1,by show val.size<=aq;unfold aq;omega,fun _=>by rw[hrd];exact p2,fun _=>by rw[hrd];dsimp only;omega⟩,?_⟩;by_cases hf:nQ n r x val has=true
 ·have eT:r7 n r i val has={ n with rs:=n.rs.eraseIdx i,t:=p5 n.t x.tok,s:=Y4 (LM n.s (iR x (fB val has))) }:=by unfold r7;rw[<- hx,if_pos hf]
  rw[if_pos hf,eT];exact⟨⟨⟨_,_,p1.flush,by rw[xD];rfl,by omega⟩,by omega,h.met,h.id,h.now,hnum,hrs⟩,rfl⟩
 ·have eT:r7 n r i val has={ n with rs:=n.rs.eraseIdx i,t:=p5 n.t x.tok }:=by unfold r7;rw[<- hx,if_neg hf]
  rw[if_neg hf,eT];exact⟨⟨⟨c,es,o1.wide (by omega),rfl,by omega⟩,by omega,h.met,h.id,h.now,hnum,hrs⟩,rfl⟩
def G1(n:cW)(r:Rg.ga):Prop:=∀k,gH n r k=true
theorem Yw{L:List (Int×Int)}{i:Int}(h0:0<L.length)(h:∀e∈L,e.2=i)(x:Int):Rg.sO L x=i:=by
 unfold Rg.sO;cases hf:L.find? (fun e=>decide (x<=e.1))with
 |some e=>exact h e (List.mem_of_find?_eq_some hf)
 |none=>exact h _ (by rw[bL h0];exact List.getElem_mem _)
theorem J2{i:Int}(h:1<=i/\i<=5):(Rg.kj [i]).length=8/\∀e∈Rg.kj [i],e.2=i:=by
 have hm:=Rg.V6 h.1 h.2;refine⟨Rg.uM hm,fun e he=>?_⟩;have he:=(Rg.uL hm).mem_iff.1 he;unfold Rg.cQ at he;rw[List.flatMap_cons,List.flatMap_nil,List.append_nil]at he;exact Rg.EW he
theorem Yx{ep:Int}{i:Int}{c1 c2:Nat}(h:1<=i/\i<=5):(pn ep [i] c1 c2).L.length<100000/\0<(pn ep [i] c1 c2).L.length:=by
 have:=(J2 h).1;show(Rg.kj [i]).length<100000/\0<(Rg.kj [i]).length;omega
theorem G1.alone{n:cW}{ep:Int}{c1 c2:Nat}(h:1<=n.id/\n.id<=5)(hg:GU n.le n.now n.s.k.m.aZ=true):G1 n (pn ep [n.id] c1 c2):=fun k=>by
 have e:xJ (pn ep [n.id] c1 c2) k=n.id:=Yw (by show 0<(Rg.kj [n.id]).length;rw[(J2 h).1];decide) (J2 h).2 _;unfold gH;rw[e,hg];simp
theorem Ww{now tick ep:Int}(h1:1<=ep)(h2:0<=tick)(h3:tick<=now)(h4:now-tick<20):tF now ⟨0,0,0⟩ tick ep=⟨ep,tick+20,ep⟩:=by
 have e:ze now ⟨0,0,0⟩ tick ep=false:=by
  simp only[ze,Bool.or_eq_false_iff,decide_eq_false_iff_not];omega
 unfold tF;rw[e,if_neg (by decide),if_neg (by dsimp only;omega)]
theorem Wx{now tick ep:Int}(h1:1<=ep)(h4:now-tick<20):GU ⟨ep,tick+20,ep⟩ now ep=true:=by
 simp only[GU,Bool.and_eq_true,decide_eq_true_eq];refine⟨by omega,trivial,by omega⟩
theorem G1.gr{n:cW}{ep tick:Int}{c1 c2:Nat}(h:1<=n.id/\n.id<=5)(h1:1<=ep)(h2:0<=tick)(h3:tick<=n.now)(h4:n.now-tick<20)(he:(SM n ep tick).s.k.m.aZ=ep):G1 (SM n ep tick) (pn ep [n.id] c1 c2) :=
 G1.alone (n:=SM n ep tick) h (by
  rw[he];show GU (tF n.now ⟨0,0,0⟩ tick ep) n.now ep=true;rw[Ww h1 h2 h3 h4];exact Wx h1 h4)
theorem G1.own{n:cW}{r:Rg.ga}(h:G1 n r)(k:ByteArray):¬xJ r k≠n.id:=by
 have:=h k;unfold gH at this;simp only[Bool.and_eq_true,decide_eq_true_eq]at this;exact fun hn=>hn this.1
theorem G1.same{n m:cW}{r:Rg.ga}(h:G1 n r)(h1:m.id=n.id)(h2:m.le=n.le)(h3:m.now=n.now)(h4:m.s.k.m.aZ=n.s.k.m.aZ):G1 m r:=fun k=>by
 have:=h k;unfold gH at this ⊢;rw[h1,h2,h3,h4];exact this
theorem Wy{n:cW}{r:Rg.ga}{w:lF}{g:Option aH}{b:Nat}(hs:G1 n r)(hb:uO w=false)(ho:w.op=1)(hg:oZ g n.now=none):lH n r w g b=⟨mX n w b,[],[]⟩:=by
 unfold lH;rw[if_neg (by rw[hb];decide),if_neg (hs.own _),if_neg (by rw[hs];decide),if_neg (by omega),hg]
theorem Yy{n:cW}{r:Rg.ga}{w:lF}{g:Option aH}{b:Nat}{x:aH}(hs:G1 n r)(hb:uO w=false)(ho:w.op=1)(hg:oZ g n.now=some x):lH n r w g b=kN n w 0 x.val true:=by
 unfold lH;rw[if_neg (by rw[hb];decide),if_neg (hs.own _),if_neg (by rw[hs];decide),if_neg (by omega),hg]
theorem Wz{n:cW}{r:Rg.ga}{w:lF}{g:Option aH}{b:Nat}(hs:G1 n r)(hb:uO w=false)(ho:w.op=2):lH n r w g b=kN (tD n w.key) w 0 p6 false:=by
 unfold lH;rw[if_neg (by rw[hb];decide),if_neg (hs.own _),if_neg (by rw[hs];decide),if_pos ho]
theorem WA{x:jq}{v:ByteArray}(now:Int)(hk:dN x.w.key=true)(hv:v.size<=200):oZ (some (iR x v)) now=some (iR x v):=by
 have:vL (iR x v) now=true:=by simp[vL,gh,iR,hk,hv]
 simp[oZ,this]
theorem WB{H:PH}{t:kP}(h:gU H t)(key:ByteArray)(b:Nat):wG (rZ t key b) (t.last+1)=some ⟨t.last+1,b,key,true,t.dU⟩:=by
 unfold wG rZ;dsimp only;rw[List.find?_append,List.find?_eq_none.2 fun e he=>by
  have:=(h.id e he).2.1;simp;omega]
 simp
theorem FH{n:cW}{p:gZ}(hat:eM n p)(w:lF)(b:Nat):Qo (mX n w b) ⟨w,n.t.last+1⟩=true:=by
 unfold Qo mX;dsimp only;rw[WB hat.tok]
theorem WC{n:cW}{p:gZ}{r:Rg.ga}(hat:eM n p)(hs:G1 n r)(w:lF)(b:Nat){v:ByteArray}(hv:v.size<=200):nQ (mX n w b) r ⟨w,n.t.last+1⟩ v true=true:=by
 have hs2:G1 (mX n w b) r:=hs.same rfl rfl rfl rfl;unfold nQ;rw[FH hat,hs2,show fB v true=v from rfl,decide_eq_true hv];rfl
theorem J3{w:lF}(ho:w.op=1\/w.op=2)(hk:dN w.key=true):uO w=false:=by
 unfold uO;rcases ho with ho|ho<;>simp[ho,hk]
end Go.Proofs.YtfjgoonelcaggaaGreat
namespace Go.Sx
section
structure Pk where
 f:Nat
 pick:List SV->S->Nat
 cs:List cG
def Yz:List Pk->Nat->Option Pk
 |[],_=>none
 |p::r,f=>bif Nat.beq p.f f then some p else Yz r f
def YA:List cG->Nat->Option cG
 |[],_=>none
 |c::_,0=>some c
 |_::r,n+1=>YA r n
def WD(jK:Nat->Option cG)(pk:List Pk):Sx.Spec:=fun f=>match Yz pk f with
 |some p=>some fun args s K=>match YA p.cs (p.pick args s)with
  |some C=>rM C args s K
  |none=>False
 |none=>(jK f).map rM
def G2(X:Cx)(f:Nat):List cG->Prop
 |[]=>True
 |c::r=>au X f c/\G2 X f r
def J4(X:Cx):List Pk->Prop
 |[]=>True
 |p::r=>G2 X p.f p.cs/\J4 X r
theorem G2.at_{X:Cx}{f:Nat}:∀ {l:List cG},G2 X f l->∀n C,YA l n=some C->au X f C
 |[],_,_,_,h=>by cases h
 |c::_,h,0,C,hc=>by simp only[YA,Option.some.injEq]at hc;subst hc;exact h.1
 |_::r,h,n+1,C,hc=>G2.at_ (l:=r) h.2 n C hc
theorem J4.at_{X:Cx}:∀ {l:List Pk},J4 X l->∀f p,Yz l f=some p->G2 X f p.cs
 |[],_,_,_,h=>by cases h
 |q::r,h,f,p,hp=>by
  simp only[Yz]at hp;by_cases hq:q.f=f
  ·subst hq;simp only[dz,cond_true,Option.some.injEq]at hp;subst hp;exact h.1
  ·rw[fh hq]at hp;exact J4.at_ h.2 f p hp
theorem WE{X:Cx}{jK:Nat->Option cG}(h:∀f C,jK f=some C->∀args s K,rM C args s K->vv X f args s K){pk:List Pk}(hp:J4 X pk):Zy X (WD jK pk):=by
 intro f g hg args s K hK;unfold WD at hg;split at hg
 ·rename_i p hpk;cases hg;split at hK
  ·rename_i C hC;exact(hp.at_ f p hpk).at_ _ C hC args s K hK
  ·exact hK.elim
 ·exact Pv h f g hg args s K hK
def Za(Y:Gx)(jK:List (Nat×cG))(pk:List Pk)(lh:Nat->LH)(n:Nat):iy:=F6 Y (WD (Dx jK) pk) lh n
theorem Mc{Y:Gx}(hY:Y.Ok){jK:List (Nat×cG)}(ht:vE Y.G.X jK){pk:List Pk}(hp:J4 Y.G.X pk){lh:Nat->LH}{n:Nat}:Kn Y.G.X (Za Y jK pk lh n) :=
 zC hY (WE (fun f C h=>ht.at_ f C h) hp) n
def Md(Y:Gx)(jK:List (Nat×cG))(pk:List Pk)(f:Nat)(C:cG)(l:C.α->List (Nat×List An×List An)):Prop :=
 xh Y C (fun a=>Za Y jK pk (KU 1000 (l a)) 20) (fun a=>KU 1000 (l a)) f
structure r8(Y:Gx)(jK:List (Nat×cG))(pk:List Pk)(f:Nat)(C:cG)(l:C.α->List (Nat×List An×List An)):Prop where
 body:Md Y jK pk f C l
theorem r8.of{Y:Gx}{jK:List (Nat×cG)}{pk:List Pk}{f:Nat}{C:cG}{l:C.α->List (Nat×List An×List An)}{p:Prop}(h:Md Y jK pk f C l=p)(hp:p):r8 Y jK pk f C l:=⟨h.mpr hp⟩
theorem aae{Y:Gx}(hY:Y.Ok){jK:List (Nat×cG)}(ht:vE Y.G.X jK){pk:List Pk}(hp:J4 Y.G.X pk){f:Nat}{C:cG}{l:C.α->List (Nat×List An×List An)}(hb:r8 Y jK pk f C l):au Y.G.X f C :=
 fun _ _ _ h=>TT hY (fun _=>Mc hY ht hp) hb.body h
theorem YB{Y:Gx}(hY:Y.Ok){jK:List (Nat×cG)}{pk:List Pk}(ht:vE Y.G.X jK/\J4 Y.G.X pk){f:Nat}{C:cG}{l:C.α->List (Nat×List An×List An)}(hb:r8 Y jK pk f C l){ts:List TypeId}{aks:List AK}{d:Nat}(hk:ED Y.G.X.P d ts=some aks)(hhp:∀a,C.hp a=[])(hres:∀a o,C.res a o = .a .tt)
 {H:Type} (hinst:∀ads,LP aks ads->∃a,C.pre a/\C.args a=Y6 0 ads/\C.ro a=Oc 0 aks ads/\C.m=Jy ads) {W:World} {args:Array Value} {ds:List (DataW H)} {ps:List MemPlace} {r:Reach} {b0:Nat} {enc:TypeId×Value->H} {held:Bool}
 (hA:DataW.TrodAll enc Y.G.X.P W 0 (fun _=>true) held ts args.toList ds ps) (hval:∀(j:Nat) (t:TypeId) (v:Value),ts[j]? = some t->args.toList[j]? = some v->Value.okWide Y.G.X.P W r b0 t v)
 (hz:∀b off,MemPlace.cell b off∈ps->W.frozen? ⟨b,off,none⟩=false):Calls Y.G.X.P f args W fun e w'=>e = .returned (.bool true)/\eZ (fun _=>False) W w' :=
 Yl hY (fun _=>Mc hY ht.1 ht.2) hb.body hk hhp hres hinst hA hval hz
def YC(c:Nat)(args:List SV)(s:S):Nat:=match args with
 |.a (.ptr t _ _ _)::_=>match s.hp.find t with
  |some (_,.obj _ cs)=>match cs[c]? with
   |some .nil=>0
   |_=>1
  |_=>1
 |_=>1
def YD(n:Int)(args:List SV)(_:S):Nat:=match args with
 |_::.agg (.lit _ k::_)::_=>bif decide (k=n)then 0 else 1
 |_=>1
end
end Go.Sx
namespace Go.Proofs.YtfjgoonelcaggaaGreat
open Go.Sx
noncomputable def J5:cG where
 α:=Unit
 β:=Unit
 m:=0
 m':=0
 pre:=fun _=>True
 args:=fun _=>[]
 hp:=fun _=>[]
 ro:=fun _=>[]
 post:=fun _ _=>True
 res:=fun _ _=>.a .tt
 cR:=fun _ _=>[]
noncomputable def Zb:List Pk:=[⟨13,YC 3,[Ov,JY]⟩]
noncomputable def WG:List (Nat×cG):=[(12,CG),(11,EN),(15,JG),(16,Qs),(17,Wh),(25,Wr),(19,L7),(50,Rg.V8)]
def kB:ByteArray:=⟨#[107]⟩
def vB:ByteArray:=⟨#[118]⟩
theorem jm:ak 1 1 (aF 1 [Value.int .i64 1]) (aa Rg.encI [1]):=.dB fun i hi=>by
 have:i=0:=by omega
 subst this;rfl
def J6(z u:gZ)(x y:cW)(w:nR)(s:EM)(f:E7)(g:Rg.ga)(h:Prop)(i:nV->bO)(j:nV->Prop):=mQ z u x y (Aa x y z u x.t z.mb x x.rs (oI x y z u (tE w.q.le y.le ((wH s).now=y.now) (p8 (x7 w f) g h (∀v:nV,eM (i v).n v.p->j v)))))
def uQ(x:UInt8):ByteArray:={ data:=#[x] }
def E9(z u:Int)(v:ByteArray)(s:gZ)(t:cW)(f:nR)(g:EM)(h:E7)(i:tC->nV->Prop):tC->Prop:=fun(x:tC)=>ag (z=x.w.id/\u=x.w.op/\v=x.w.key/\J6 s x.p t x.n f g h x.r (wP x/\x.w.node=(0:Int)) (fun y=>aS x y) fun y=>i x y)
def J7(y:EM)(x:nR)(u:gZ)(v:Prop)(w:Nat)(s:List Value)(f:Int)(g:ByteArray)(h:E7->tC->nV->Prop):=(wH y).t.last=x.n.t.last/\nL u.mb x.p.mb/\v/\oG x.n.rs (wH y).rs/\ag (rD (wH y).le x.n.le (oI (wH y) x.n u x.p ((wH y).now=x.n.now/\aG (ah x.l) w 1 (aF 1 (bT 1 s)) (aa Rg.encI x.l)/\Qr x/\∀z:E7,eM x.q z.p->Exists (E9 f 1 g z.p x.q x y z fun i j=>h z i j))))
def J8(u:Int)(v:EM->gZ->Prop):Int->Prop:=fun(z:Int)=>(400:Int)=z/\ee (∃x:EM,u=x.id/\aA (gP (mD z) x.d ((fun y=>none)=x.H/\(0:Int)=x.now/\((1:Int)<=x.id/\x.id<=(5:Int)/\wC x.d { d:=x.d,H:=x.H })/\∀y:gZ,eM (wH x) y->v x y)))
def Fa(x y:Int)(z:Bool)(u:Prop):=ai x->qp (x == y) z u (bz (aC false))
def uR(x:Bool)(y:Prop):=aD x y (bz (aC false))
def sV(x:Int)(y:Prop):=mJ 0 0 0 (ay x) y
def J9(z u:Int)(y:Nat)(v:gZ)(w:EM)(s:nR->Prop):=∃x:nR,ag (ay 2/\(0:Int)=x.fZ/\z=x.n.id/\u=x.ep/\(0:Int)=x.tick/\sV 0 (cA=p6/\aI (fS (cA=p6) (aI (bI (ag (y=ah x.l/\y=x.cap)/\aI (mQ v x.p (wH w) x.n (s x))))))))
def OX(z:Nat)(u:Bool)(x:bO)(y v:Int)(w:Prop):=dm 0 z 0 (qp u (af (cZ x.rs) == (1:Int)) (dm 0 (cZ x.rs) 0 (ai y->uR (y == v) w)) (bz (aC false)))
theorem OY:r8 (Y Tryz.prog) WG Zb 14 J5 fun _=>[(14,[],[An.zJ 1 (.mk 1000 [] [])])]:=r8.of (p :=
 aB (Exists (J8 1 fun v c=>∃z:GN,ag ((1:Int)=z.id/\(1:Int)=z.op/\uQ 107=z.key/\wJ (wH v) z.n c z.p (bp z.key<=aq/\∀e:Nat,True->∃u:jI,aA (fc (z.n.id=u.n.id) (xY z.n u.n z.p u.p (dG z.n.rs) z.p.rc (tE (wH v).le u.n.le ((wH v).now=u.n.now) (aA (Ca (wH v) u.n (u.n.ws=[]) (∀A:Nat,True->J9 1 2 1 c v fun x=>aA (u.n.id=x.n.id/\ag (lG (ag (bX W2=bX x.n.ws/\0=x.p.wc)) u.n x.n u.p x.p u.n.asked (J7 v x c (aG (bX x.n.ws) 0 7 (aa cB W2) (aa cB x.n.ws)) 1 [] 2 (uQ 107) fun f g t=>∃w:GV,aA (ag (uH (bO.n (aS g t)) w.n (bO.n (aS g t)).ws w.n.ws t.p.wc w.p.wc t.p w.p (oG w.n.rs (bO.n (aS g t)).rs) (dG w.n.rs<1000/\∀B:Nat,True->∃y:rI,ag (aT y.k (uQ 118=y.val/\true=y.has/\J6 t.p y.p (bO.n (aS g t)) y.n x v f y.r (Qp y) (fun d=>y.q) fun d=>Exists (E9 3 1 (uQ 107) d.p y.q.n x v f fun m h=>Exists (E9 4 2 (uQ 107) h.p (bO.n (aS m h)) x v f fun o i=>uR true (bf 0 1/\0<1/\Fa (gl [VW z] 0).err 6 true (bf 0 1/\0<1/\Fa (gl [oE u.n] 0).kind 1 (af (cZ (bO.rs (aS g t))) == (0:Int)) (uR (af (bl (iQ w.n.rs)) == (1:Int)) (OX (bl (iQ w.n.rs)) (gn (gl (iQ w.n.rs) 0) (uQ 107)) y.q (gl y.q.rs 0).id 2 (dm 0 (cZ y.q.rs) 0 (qp (gn (gl y.q.rs 0).val (uQ 118)) (af (cZ (bO.rs (aS m h))) == (1:Int)) (OX (cZ (bO.rs (aS m h))) (gl (bO.rs (aS m h)) 0).has (aS o i) (gl (bO.rs (aS o i)) 0).err 0 (∃s:z8,ag (uQ 107=s.key /\
 eW (bO.n (aS o i)) s.n i.p s.p (0=0) (rD x.q.le s.n.le ((wH v).now=s.n.now/\BB (bO.n (aS o i)) s (x7 x f) (uR (gH s.n s.r s.key) (∃j:Rg.Qk,ag ((1:Int)=j.n/\p8 (x7 x f) j.r (ah j.r.l<100000) (aB (bz (aC (decide (j.n∈j.r.l))))))))))))) (bz (aC false))))))))))))))))))))))))))))) (by kernel_rfl) (by
 delta qp aD mJ uH aS ah ai bF aG ay bT bn gF dm ki cA x7 af bX bl nL tE Ca dG bf gA aC dW cH bw fc zR wM dQ bp Aa aB bz eH xY bI lI eW J6 aI oG cZ BB aT az mQ fS uQ J7 ag p8 wC wJ lG aA sQ cU J8 oI rD gn Fa uR J9 OX E9 iT sV bt ee
 try dsimp -iota -proj only
 intro _ _;have hkB:dN kB=true:=by decide
 have hks:kB.size<=aq:=by decide
 obtain⟨mpre,hok0⟩:=mY.make (id:=1) (now:=0) (d:=mD 400) (by omega) (by omega) (by decide) rfl (fun _=>none);refine⟨400,rfl,trivial,fun _ _=>⟨EM.mk 1 0 (mD 400) fun _=>none,?_⟩⟩
 and_intros<;>first|exact bY|exact mpre.1|exact mpre.2.1|exact mpre.2.2.1|exact mpre.2.2.2.1|exact mpre.2.2.2.2.1|exact mpre.2.2.2.2.2|(intro h_;revert h_)|exact bZ|skip
 obtain⟨n0,hn0⟩:∃n0,n0=wH ⟨1,0,mD 400,fun _=>none⟩:=⟨_,rfl⟩
 rw[<- hn0]at hok0 ⊢;have hw0:n0.ws=[]:=by rw[hn0];rfl
 have hr0:n0.rs=[]:=by rw[hn0];rfl
 have hi0:n0.id=1:=by rw[hn0];rfl
 have hnow0:n0.now=0:=by rw[hn0];rfl
 have he0:n0.s.k.m.aZ=0:=by
  have:=(zj (d:=mD 400) (c:=0) (by decide) (Nat.le_refl 0) (by omega) (fun _=>none)).2.2.1;rw[hn0];show(kL (sI ⟨mD 400,fun _=>none⟩)).k.m.aZ=0;rw[this]
 intro b hat0;refine⟨GN.mk n0 b 1 1 kB,?_⟩
 and_intros<;>first|exact bY|exact hks|(intro h_;revert h_)|exact bZ|skip
 intro c1 _;refine⟨jI.mk n0 b,?_⟩
 and_intros<;>first|exact bY|exact hw0|(intro h_;revert h_)|exact bZ|skip
 intro c2 _;obtain⟨n1,hn1⟩:∃n1,n1={ n0 with ws:=W2 }:=⟨_,rfl⟩
 have e1:n1=n0:=by rw[hn1];cases n0;simp only at hw0;subst hw0;rfl
 have hok1:mY n1 0 (fun _=>none) 0 0:=by rw[e1];exact hok0
 have hat1:eM n1 { b with wc:=0 }:=by rw[hn1];exact⟨hat0.st,hat0.tok,hat0.sep,Nat.le_refl 0,hat0.rc⟩
 have hi1:n1.id=1:=by rw[e1];exact hi0
 have hnow1:n1.now=0:=by rw[e1];exact hnow0
 obtain⟨gr0,hok2,hep2⟩:=hok1.gr hat1 (fZ:=0) (ep:=2) (tick:=0) (l:=[1]) (cap:=1) (by rw[hi1];omega) (by rw[e1,he0];omega) (by omega) (by decide) (by rw[e1];exact hw0) (by omega) (by omega);have hrw:ak n1.ws.length 7 (aa cB W2) (aa cB n1.ws):=by rw[e1,hw0];exact ak.refl _ _ _
 have hwl:W2.length=n1.ws.length/\n1.ws.length<=0:=by rw[e1,hw0];exact⟨rfl,Nat.le_refl 0⟩
 have hwz:n1.ws.length=0:=hwl.1.symm;refine⟨nR.mk n1 { b with wc:=0 } 0 2 0 [1] 1,?_⟩;rw[<- e1]
 and_intros<;>first|exact bY|exact gr0|exact jm|exact hrw|exact hwl.1|exact hwl.2|exact hi1.symm|exact Nat.le_refl 1|(intro h_;revert h_)|exact bZ|skip
 rintro⟨p2,rc1,rc2⟩ hat2;obtain⟨n2,hn2⟩:∃n2,n2=SM n1 2 0:=⟨_,rfl⟩
 have eq2:nR.q ⟨n1,{ b with wc:=0 },0,2,0,[1],1⟩=n2:=hn2.symm;have hsv2:G1 (SM n1 2 0) (pn 2 [n1.id] rc1 rc2):=G1.gr hok1.id (by omega) (by omega) (by omega) (by omega) hep2;rw[hi1]at hsv2;have hr2:n2.rs=[]:=by rw[hn2];show n1.rs=[];rw[e1];exact hr0
 have hnow2:n1.now=n2.now:=by rw[hn2];rfl
 have hnz2:n2.now=0:=by rw[<- hnow2];exact hnow1
 rw[eq2]at hat2 ⊢;rw[<- hn2]at hsv2 hok2;have hrg:(pn 2 [1] rc1 rc2).L.length<100000/\0<(pn 2 [1] rc1 rc2).L.length:=Yx (by omega);have hrl:(pn 2 [1] rc1 rc2).l=[1]:=rfl;dsimp only;generalize pn 2 [1] rc1 rc2=r at *;have ok3:wP ⟨n2,p2,r,⟨0,2,1,kB⟩,none⟩:=hok2.ask hat2 hrg hks fun h=>absurd h (by decide);refine⟨⟨n2,p2,r,⟨0,2,1,kB⟩,none⟩,?_⟩
 and_intros<;>first|exact bY|exact ok3|exact hnow2|(intro h_;revert h_)|exact bZ|skip
 rintro b3 hat3;have e3:∀b,lH n2 r ⟨0,2,1,kB⟩ none b=⟨mX n2 ⟨0,2,1,kB⟩ b,[],[]⟩:=fun b=>Wy hsv2 (J3 (.inl rfl) hkB) rfl rfl;dsimp only at hat3 ⊢;rw[e3]at hat3 ⊢;have hok3:mY (mX n2 ⟨0,2,1,kB⟩ b3.b) 2 (fun _=>none) 9 0:=hok2.read (w:=⟨0,2,1,kB⟩) hkB (by omega);have hg3:gl (mX n2 ⟨0,2,1,kB⟩ b3.b).rs 0=⟨⟨0,2,1,kB⟩,n2.t.last+1⟩:=by
  show gl (n2.rs++[_]) 0=_;rw[hr2];rfl
 have hl3:(mX n2 ⟨0,2,1,kB⟩ b3.b).rs.length=1:=by
  show(n2.rs++[_]).length=1;rw[hr2];rfl
 have hsv3:G1 (mX n2 ⟨0,2,1,kB⟩ b3.b) r:=hsv2.same rfl rfl rfl rfl;have hf3:=WC hat2 hsv2 ⟨0,2,1,kB⟩ b3.b (v:=vB) (by decide);have hle3:(mX n2 ⟨0,2,1,kB⟩ b3.b).le=n2.le:=rfl;have hnow3:n1.now=(mX n2 ⟨0,2,1,kB⟩ b3.b).now:=hnow2;have hkey3:(gl (iQ (mX n2 ⟨0,2,1,kB⟩ b3.b).rs) 0)=kB:=by
  show gl (iQ (n2.rs++[_])) 0=_;rw[hr2];rfl
 generalize mX n2 ⟨0,2,1,kB⟩ b3.b=n3 at *;dsimp only at hat3 ⊢;have hlt3:n3.rs.length<1000:=by omega
 refine⟨GV.mk n3 b3.p,?_⟩
 and_intros<;>first|exact bY|exact hlt3|(intro h_;revert h_)|exact bZ|skip
 intro c4 _;obtain⟨ro3,hok4,hk4⟩:=hok3.red hat3 hrg (i:=0) (val:=vB) (has:=true) (by omega) (by decide) (by rw[hg3];show 9+(kB.size+vB.size+13)<=378;decide) (by omega);rw[hg3,if_pos hf3]at hok4;refine⟨rI.mk n3 b3.p r 0 vB true,?_⟩
 and_intros<;>first|exact bY|exact ro3|exact hle3.symm▸rfl|exact hnow3|(intro h_;revert h_)|exact bZ|skip
 rintro b5 hat5;have e5:rI.q ⟨n3,b3.p,r,0,vB,true⟩=⟨r7 n3 r 0 vB true,[],[⟨2,1,kB,0,vB,true⟩]⟩:=by
  unfold rI.q Yv;rw[hg3];rfl
 rw[e5]at hat5 ⊢;have hsv5:G1 (r7 n3 r 0 vB true) r:=hsv3.same rfl rfl rfl (by rw[hk4]);have hle5:n2.le=(r7 n3 r 0 vB true).le:=hle3.symm;have hnow5:n1.now=(r7 n3 r 0 vB true).now:=hnow3;generalize r7 n3 r 0 vB true=n5 at *;dsimp only at hat5 ⊢;have hget:Cq (fun _=>none) kB (some (iR ⟨⟨0,2,1,kB⟩,n2.t.last+1⟩ vB)) kB=some (iR ⟨⟨0,2,1,kB⟩,n2.t.last+1⟩ vB):=if_pos rfl;have ok5:wP ⟨n5,b5.p,r,⟨0,3,1,kB⟩,some (iR ⟨⟨0,2,1,kB⟩,n2.t.last+1⟩ vB)⟩:=by
  have:=hok4.ask (w:=⟨0,3,1,kB⟩) hat5 hrg hks fun h=>absurd h (by decide);dsimp only[fB]at this;exact hget▸this
 refine⟨⟨n5,b5.p,r,⟨0,3,1,kB⟩,some (iR ⟨⟨0,2,1,kB⟩,n2.t.last+1⟩ vB)⟩,?_⟩
 and_intros<;>first|exact bY|exact ok5|exact hle5▸rfl|exact hnow5|(intro h_;revert h_)|exact bZ|skip
 rintro b6 hat6;have e6:∀b,lH n5 r ⟨0,3,1,kB⟩ (some (iR ⟨⟨0,2,1,kB⟩,n2.t.last+1⟩ vB)) b=⟨n5,[],[⟨3,1,kB,0,vB,true⟩]⟩:=fun b=>Yy hsv5 (J3 (.inl rfl) hkB) rfl (WA _ hkB (by decide));dsimp only at hat6 ⊢;rw[e6]at hat6 ⊢;dsimp only at hat6 ⊢;have ok6:wP ⟨n5,b6.p,r,⟨0,4,2,kB⟩,some (iR ⟨⟨0,2,1,kB⟩,n2.t.last+1⟩ vB)⟩:=by
  have:=hok4.ask (w:=⟨0,4,2,kB⟩) hat6 hrg hks fun _ _=>⟨by show 9+(kB.size+vB.size+13)+(kB.size+13)<=378;decide,by show 0+(kB.size+9)<=378;decide⟩
  dsimp only[fB]at this;exact hget▸this
 obtain⟨hok7,hk7⟩:=hok4.kill (key:=kB) hkB (by show 9+(kB.size+vB.size+13)+(kB.size+13)<=378;decide) (by decide) (by omega);refine⟨⟨n5,b6.p,r,⟨0,4,2,kB⟩,some (iR ⟨⟨0,2,1,kB⟩,n2.t.last+1⟩ vB)⟩,?_⟩
 and_intros<;>first|exact bY|exact ok6|exact hle5▸rfl|exact hnow5|(intro h_;revert h_)|exact bZ|skip
 rintro b7 hat7;have e7:∀b,lH n5 r ⟨0,4,2,kB⟩ (some (iR ⟨⟨0,2,1,kB⟩,n2.t.last+1⟩ vB)) b=⟨tD n5 kB,[],[⟨4,2,kB,0,p6,false⟩]⟩:=fun b=>Wz hsv5 (J3 (.inr rfl) hkB) rfl;dsimp only at hat7 ⊢;rw[e7]at hat7 ⊢;have hsv7:G1 (tD n5 kB) r:=hsv5.same rfl rfl rfl (by rw[hk7]);have hle7:n2.le=(tD n5 kB).le:=hle5;have hnow7:n1.now=(tD n5 kB).now:=hnow5;generalize tD n5 kB=n7 at *;dsimp only at hat7 ⊢;have q1:((gl [VW ⟨n0,b,1,1,kB⟩] 0).err == 6)=true:=by show(Bq 1 kB 6 == 6)=true;decide
 have q2:(((iQ n3.rs).length:Int) == 1)=true:=by
  have:(iQ n3.rs).length=n3.rs.length:=by simp[iQ]
  rw[this,hl3];rfl
 have q3:decide (gl (iQ n3.rs) 0=kB)=true:=decide_eq_true hkey3;have hkl:(iQ n3.rs).length=1:=by simp[iQ,hl3]
 have q0:((gl [oE n0] 0).kind == 1)=true:=rfl;have q4:((gl [(⟨4,2,kB,0,p6,false⟩:tA)] 0).err == 0)=true:=rfl;have q5:(gl [(⟨3,1,kB,0,vB,true⟩:tA)] 0).has=true:=rfl;have q6:decide ((gl [(⟨2,1,kB,0,vB,true⟩:tA)] 0).val=vB)=true:=decide_eq_true rfl;have q7:((gl [(⟨2,1,kB,0,vB,true⟩:tA)] 0).id == 2)=true:=rfl;refine⟨fun _=>⟨⟨by decide,by decide⟩,by decide,fun _=>⟨fun _=>⟨fun _=>⟨⟨by decide,by decide⟩,by decide,fun _=>⟨fun _=>⟨fun _=>⟨fun _=>⟨⟨by omega,by rw[hkl];decide⟩,by rw[hkl];decide,fun _=>⟨fun _=>⟨⟨by decide,by decide⟩,by decide,fun _=>⟨fun _=>⟨⟨by decide,by decide⟩,by decide,fun _=>⟨fun _=>⟨⟨by decide,by decide⟩,by decide,fun _=>⟨fun _=>⟨⟨by decide,by decide⟩,by decide,fun _=>⟨fun _=>⟨z8.mk n7 b7.p r kB,?_⟩,fun c=>absurd (q4.symm.trans c) (by decide)⟩⟩,fun c=>absurd c (by decide)⟩,fun c=>absurd (q5.symm.trans c) (by decide)⟩,fun c=>absurd c (by decide)⟩,fun c=>absurd (q6.symm.trans c) (by decide)⟩,fun c=>absurd (q7.symm.trans c) (by decide)⟩⟩,fun c=>absurd c (by decide)⟩,fun c=>absurd (q3.symm.trans c) (by decide)⟩,fun c=>absurd (q2.symm.trans c) (by decide)⟩,fun c=>absurd c (by decide)⟩,fun c=>absurd (q0.symm.trans c) (by decide)⟩⟩,fun c=>absurd c (by decide)⟩,fun c=>absurd (q1.symm.trans c) (by decide)⟩⟩,fun c=>absurd c (by decide)⟩;have hfz:=hok7.met.2.1
 and_intros<;>first|exact bY|exact hrg.1|exact hrg.2|exact hks|exact hfz|exact hle7▸rfl|exact hnow7|(intro h_;revert h_)|exact bZ|skip
 intro _ _;refine⟨fun _=>⟨Rg.Qk.mk r 1,?_⟩,fun c=>absurd ((hsv7 kB).symm.trans c) (by decide)⟩;have hrl2:r.l.length<100000:=by rw[hrl];decide
 have hin:decide ((1:Int)∈r.l)=true:=by rw[hrl];decide
 and_intros<;>first|exact bY|exact hrl2|(intro h_;revert h_)|exact bZ|skip
 intro _ _;refine⟨(),?_⟩
 and_intros<;>first|exact bY|exact hin|(intro h_;revert h_)|exact bZ|skip)
theorem OZ:au (Y Tryz.prog).G.X 14 J5:=aae fF (jK:=WG) ⟨DD,GM,Ox,Mb,Wj,Wt,E0,Rg.Wa,trivial⟩ (pk:=Zb) ⟨⟨Sg,GX,trivial⟩,trivial⟩ OY
def rE(s:ByteArray)(n:Int):ByteArray:=if n<s.size then s.extract 0 n.toNat else s
theorem G3(s:ByteArray){n:Nat}:(rE s n).size<=n:=by
 unfold rE;split
 ·rw[ByteArray.size_extract];omega
 ·omega
noncomputable def aaf:cG where
 α:=ByteArray×Int
 β:=Unit
 m:=0
 m':=0
 pre:=fun a=>0<=a.2
 args:=fun a=>[.a (.str a.1),.a (.int .i64 a.2)]
 hp:=fun _=>[]
 ro:=fun _=>[]
 post:=fun _ _=>True
 res:=fun a _=>.a (.str (rE a.1 a.2))
 cR:=fun _ _=>[]
theorem YE:fnBody (Y Tryz.prog) [] 20 aaf fun _=>[]:=fnBody.of (p :=
 ∀x:ByteArray×Int,(0:Int)<=x.snd->aX x.snd (af (bp x.fst)) (cK x.snd (bp x.fst)/\bz (x.fst.extract 0 (aR x.snd)=rE x.fst x.snd)) (bz (x.fst=rE x.fst x.snd))) (by kernel_rfl) (by
 delta aD aK af eo aC aR bp bz az aX cK bt
 intro a h;refine⟨fun h1=>?_,fun h1=>⟨(),?_,trivial,trivial⟩⟩
 ·have h2:a.2<a.1.size:=by simpa using h1
  exact⟨by omega,(),by simp[rE,h2],trivial,trivial⟩
 ·have h2:¬a.2<a.1.size:=by simpa using h1
  simp[rE,h2])
theorem YF:au (Y Tryz.prog).G.X 20 aaf:=aU fF YE trivial
structure Ka where
 now:Int
 w:Int
noncomputable def WH:cG where
 α:=Ka
 β:=Unit
 m:=2
 m':=2
 pre:=fun a=>0<=a.now/\a.now<1000/\0<=a.w/\a.w<1000
 args:=fun a=>[.a (.ptr 0 0 0 0),.a (.slc 1 0 1 1 1)]
 hp:=fun a=>[(0,VV a.now)]
 ro:=fun a=>[(1,.arr 2 [.int .i64] 1 (aa Rg.encI [a.w]))]
 post:=fun _ _=>True
 res:=fun a _=>.a .any
 cR:=fun a _=>[(0,VV (a.now+a.w))]
def abe(a:Ka):An:=.flat 6 Nat (fun s i=>(s.at_ 0 (VV (if i=0 then a.now else a.now+a.w))).int 15 i) (fun _ i=>i<=1) (fun _ i=>1-i)
def uS(y:Nat)(x:Ka):Int:=if y=0 then x.now else x.now+x.w
def Fb(y:Int)(z:Nat)(x:Ka)(u:Prop):=ay 1/\gA (bF 1 (1=1)) (bn false) (aI (ag (bF 1 (1=1)/\y=uS z x/\eF 1 1 (aa Rg.encI (oD x.w))/\u)))
theorem WI:fnBody (Y Tryz.prog) [] 29 WH fun a=>[(29,[abe a],[.W3 0 11 false OS])]:=fnBody.of (p :=
 ∀y:Ka,(0:Int)<=y.now/\y.now<(1000:Int)/\bf y.w 1000->bI (cm (fun x=>Fb y.now x y (x<=1/\True)) fun x=>x<=1->aX (af x) 1 (bf (af x) 1/\0+ax x<1/\(ai (gl (oD y.w) (0+ax x))->aD (cn 0 (gl (oD y.w) (0+ax x))) (ai (uS x y)->pO ((1099511627776:Int)-uS x y) (gl (oD y.w) (0+ax x)) (jQ (uS x y) (gl (oD y.w) (0+ax x)) (bH x fun z=>Fb (uS x y+gl (oD y.w) (0+ax x)) z y (bS z 1 x))) (bH x fun z=>Fb (uS x y) z y (bS z 1 x))) (bH x fun u=>Fb (uS x y) u y (bS u 1 x)))) (sD (uS x y) (y.now+y.w)))) (by kernel_rfl) (by
 delta aD eF ai bF aG ay ax bn aK aY af bf gA aC aR bz bI bS bH aI cn Fb aT az ag aX pO jQ sD aQ oD uS bt cm
 try dsimp -iota -proj only
 rintro⟨now,w⟩ ⟨h1,h2,h3,h4⟩;dsimp only at *;have hg:∀i:Nat,i<1->gl [w] (0+(i:Int).toNat)=w:=fun i hi=>by
  have:i=0:=by omega
  subst this;rfl
 refine⟨rfl,⟨0,?_⟩,fun i hi=>⟨fun c1=>?_,fun c1 _=>⟨(),?_⟩⟩⟩
 ·have e:now=(if(0:Nat)=0 then now else now+w):=(if_pos rfl).symm
  and_intros<;>first|exact bY|exact e|(intro h_;revert h_)|exact bZ|skip
 ·have hi:i<1:=by have:=of_decide_eq_true c1;omega
  have h0:i=0:=by omega
  subst h0;rw[hg 0 hi,if_pos rfl];refine⟨by omega,by decide,fun _=>⟨fun _ _=>⟨by simp only[bR];omega,fun _ _=>⟨by simp only[bR];omega,by simp only[bR];omega,1,?_⟩,fun c=>(by exfalso;have:=of_decide_eq_false c;omega)⟩,fun c=>(by exfalso;have:=of_decide_eq_false c;omega)⟩⟩;have e:now+w=(if(1:Nat)=0 then now else now+w):=(if_neg (by decide)).symm
  and_intros<;>first|exact bY|exact e|(intro h_;revert h_)|exact bZ|skip
 ·have h1:i=1:=by have:=of_decide_eq_false c1;omega
  subst h1;have e:(if(1:Nat)=0 then now else now+w)=now+w:=if_neg (by decide)
  and_intros<;>first|exact bY|exact e|(intro h_;revert h_)|exact bZ|skip)
theorem WJ:au (Y Tryz.prog).G.X 29 WH:=aU fF WI trivial
theorem abO{α:Type}(x:α):(([x].length:Int) == 1)=true:=rfl
theorem abf{α:Type}(x:α):(([x].length:Int) != 1)=false:=rfl
theorem lt1{α:Type}(x:α):(0:Int)<=0/\(0:Int)<([x].length:Int):=⟨Int.le_refl 0,by show(0:Int)<((1:Nat):Int);omega⟩
theorem YG{α:Type}(x:α):0 < [x].length:=Nat.one_pos
def S.cl(s:S)(t c:Nat):A:=match s.hp.find t with
 |some (_,.obj _ cs)=>match cs[c]? with
  |some x=>x
  |none=>.cc
 |_=>.cc
def fA(now:Int)(l:List dF):List dF:=l.filter fun w=>decide (now-w.tick<60)
def Fc(w:dF):tA:=⟨w.w.id,w.w.op,w.w.key,10,p6,false⟩
def fK(now:Int)(l:List dF):List tA:=(l.filter fun w=>!decide (now-w.tick<60)).map Fc
theorem Fe(now:Int)(l:List dF)(w:dF):fA now (l++[w])=if now-w.tick<60 then fA now l++[w]else fA now l:=by
 unfold fA;rw[List.filter_append];by_cases h:now-w.tick<60<;>simp[h]
theorem Ff(now:Int)(l:List dF)(w:dF):fK now (l++[w])=if now-w.tick<60 then fK now l else fK now l++[Fc w]:=by
 unfold fK;rw[List.filter_append,List.map_append];by_cases h:now-w.tick<60<;>simp[h]
theorem SG(now:Int)(l:List dF):(fA now l).length<=l.length:=List.length_filter_le _ _
theorem SH(now:Int)(l:List dF):(fK now l).length<=l.length:=by unfold fK;rw[List.length_map];exact List.length_filter_le _ _
structure Cd where
 i:Nat
 wc:Nat
 rc:Nat
structure Qt where
 mc:Nat
 wc:Nat
 rc:Nat
noncomputable def Kb:cG where
 α:=jI
 β:=Qt
 m:=17
 m':=20
 pre:=fun a=>a.n.ws.length<1000/\∀w∈a.n.ws,w.w.node=0/\bR .i64 (a.n.now-w.tick)
 args:=fun _=>[.a (.ptr 0 0 0 0)]
 hp:=fun a=>[(0,Cr (.ptr 14 0 0 0) 7 1 3 5 6 a.n a.p),(5,.arr 125 rz a.n.ws.length (aa cB a.n.ws))]
 ro:=fun a=>[(1,Yn 2 a.n.le),(2,VV a.n.now),(7,stO 8 9 10 a.n.s.bN),(10,.obj 155 (.ptr 11 0 0 0::B0 a.n.s.k.m))]
 post:=fun a b=>(fA a.n.now a.n.ws).length<=b.wc
 res:=fun a b=>.agg [.slc 17 0 21 1 b.mc,.slc 18 0 6 (fK a.n.now a.n.ws).length b.rc]
 cR:=fun a b=>[(17,.arr 45 JE 1 (aa cC [oE a.n])),(18,.arr 61 Qf (fK a.n.now a.n.ws).length (aa jT (fK a.n.now a.n.ws))),(0,Cr (.ptr 14 0 0 0) 7 1 3 19 6 { a.n with ws:=fA a.n.now a.n.ws } { a.p with wc:=b.wc }),(19,.arr 125 rz (fA a.n.now a.n.ws).length (aa cB (fA a.n.now a.n.ws)))]
def YH(a:jI):An:=.mk 10 Cd (fun s x=>((((s.new (.arr 125 rz (fA a.n.now (a.n.ws.take x.i)).length (aa cB (fA a.n.now (a.n.ws.take x.i))))).new (.arr 61 Qf (fK a.n.now (a.n.ws.take x.i)).length (aa jT (fK a.n.now (a.n.ws.take x.i))))).at_ 0 (Ou (.ptr 14 0 0 0) (S.cl s 0 12) (.slc (s.nx+1) 0 6 (fK a.n.now (a.n.ws.take x.i)).length x.rc) 7 1 3 5 6 a.n a.p)).set 4 (.a (.slc s.nx 0 7 (fA a.n.now (a.n.ws.take x.i)).length x.wc))).int 55 x.i) (fun _ x=>x.i<=a.n.ws.length/\(fA a.n.now (a.n.ws.take x.i)).length<=x.wc) (fun _ x=>a.n.ws.length-x.i) fun _=>.mk 1000 [] []
def iU(x:Cd)(y:jI):List dF:=List.take x.i y.n.ws
def Ke(x:lR)(z:Nat)(v:Prop)(w:cW)(y:jI)(s:gZ)(u t:Nat)(f g h:Prop):=fe (bX x.n.ws) x.p.wc (bn (cn ((1:Int)+af z) 5)/\ay ((1:Int)+af z)/\bI (aA (v/\eW w y.n s y.p (bF (bk (x.to (bk x.l))) (u=u)) ((0=t/\f)/\nM (x.to (bk x.l))/\oH y.n.ws/\y4 y g h))))
def l7(x:jI)(y:Cd):dF:=gl x.n.ws (0+ax y.i)
def nS(x:jI)(y:Cd):Nat:=bX (fA x.n.now (iU y x))
def jk(x:jI)(y:List dF):Nat:=cZ (fK x.n.now y)
def Kf(v w:cW)(y x:List dF)(s z:Nat)(u:gZ):=aA (uH v w y x s z u u (lI x y) (bX x<=z/\True))
def Kg(x:jI):=bX x.n.ws<1000/\∀y:dF,y∈x.n.ws->y.w.node=(0:Int)/\ai (x.n.now-y.tick)
theorem O0:fnBody (Y2 Tryz.prog) [(51,LY (.ptr 9 0 0 0)),(53,Qh)] 15 Kb fun a=>[(15,[Qi,YH a],[]),(54,[],[.W3 0 13 true OS])]:=fnBody.of (p :=
 ∀x:jI,Kg x->ai x.n.now->Exists (wK fun z=>eW x.n z.n x.p z.p (0=bk z.q/\0=z.qc) (JH z x (fun s t=>eW z.n z.n z.p z.p (bF (bk (z.to (bk z.l))) (s=s)) (nM (z.to (bk z.l))/\oH x.n.ws/\y4 x (t<=5) True)) (fun s t y=>eW z.n y.n z.p y.p (sL z y.q s y.qc) (JI y z t fun g f=>eW y.n z.n y.p z.p (sL y (z.to (bk z.l)) g s) (jU (z.to (bk z.l)) (y.to (bk y.l))/\oH x.n.ws/\y4 x (f<=5) (5-f<5-t)))) fun s t=>(∃y:Cd,aT y.i ((0=nS x y/\0=y.wc)/\Ke z t (nS x y=0) z.n x z.p s (jk x (iU y x)) (0=y.rc) (jk x (iU y x)=0) ((y.i<=bX x.n.ws/\nS x y<=y.wc)/\True)))/\∀y:Cd,y.i<=bX x.n.ws/\nS x y<=y.wc->oh y.i (bX z.n.ws) (0+ax y.i<bX x.n.ws/\(ai (dF.tick (l7 x y))->mL x.n.now (dF.tick (l7 x y)) (aX (x.n.now-dF.tick (l7 x y)) 60 (jE (nS x y) 64 y.wc fun h=>aQ y.i (∃u:Cd,aY y.i=af u.i/\ag (nS x y+1=nS x u/\h=u.wc)/\Ke z t (iA (nS x u) (nS x y) 7 (aa cB (fA x.n.now (iU y x))) (zD .i64 (dF.w (l7 x y)).node (dF.w (l7 x y)).id (dF.w (l7 x y)).op (bJ (dF.w (l7 x y)).key) (dF.id (l7 x y)) (dF.to (l7 x y)) (dF.tick (l7 x y)) []) (aa cB (fA x.n.now (iU u x)))) x.n x x.p s 0 (jk x (iU y x)=jk x (iU u x) /\
 y.rc=u.rc) (rC (fK x.n.now (iU u x)) (fK x.n.now (iU y x))) (dD u.i (bX x.n.ws) (nS x u<=u.wc) y.i))) (ai (dF.w (l7 x y)).node->aC ((dF.w (l7 x y)).node == (0:Int))/\(ai (dF.w (l7 x y)).id->ai (dF.w (l7 x y)).op->jE (jk x (iU y x)) 64 y.rc fun j=>aQ y.i (∃v:Cd,aY y.i=af v.i/\ag (nS x y=nS x v/\y.wc=v.wc)/\Ke z t (lI (fA x.n.now (iU v x)) (fA x.n.now (iU y x))) x.n x x.p s 0 (jk x (iU y x)+1=jk x (iU v x)/\j=v.rc) (iA (jk x (iU v x)) (jk x (iU y x)) 6 (aa jT (fK x.n.now (iU y x))) (Bz (dF.w (l7 x y)) 10 (bw (bJ cA) (bP gf))) (aa jT (fK x.n.now (iU v x)))) (dD v.i (bX x.n.ws) (nS x v<=v.wc) y.i))))))) (∃f:Qt,eH (bk (z.to (bk z.l))) 1 s f.mc (ag (jk x (iU y x)=jk x x.n.ws/\y.rc=f.rc)) 21 (aa cC (z.to (bk z.l))) (y6 x) (rC (fK x.n.now x.n.ws) (fK x.n.now (iU y x))/\Kf x.n x.n (fA x.n.now (iU y x)) (fA x.n.now x.n.ws) y.wc f.wc x.p))))) (by kernel_rfl) (by
 delta aD mJ uH eF zD ai bF aG ay bT ax bn gC ki aK aY cA af bX bk bP dG bf gA aC uX aR dW cH bw fc dV aB fe eH dD jE bI iA y4 lI jU eW EP aP bJ iU rC bh cn gW Ke cZ bM aT az fS oH gf ag nM l7 mL nS aX Bo lG jk aA wz dI aQ sK oh y5 sL y6 jF sr wK JH Kf Kg ew ee JI Bz
 try dsimp -iota -proj only
 rintro⟨n,p⟩ ⟨h0,hw⟩ _;dsimp only at h0 hw;have hr:ak 1 21 (aF 21 (cC ⟨1,0,0,n.s.k.m.aZ,n.now,n.s.k.m.ready,0,0,0,p6,0,false,dx,0⟩)) (aa cC [⟨1,0,0,n.s.k.m.aZ,n.now,n.s.k.m.ready,0,0,0,p6,0,false,dx,0⟩]):=.dB fun i hi=>by
  have:i=0:=by omega
  subst this;rfl
 have k0:(0:Nat)<1000:=by omega
 have k1:(1:Nat)<1000:=by omega
 refine⟨lR.mk n p [] 0 [⟨1,0,0,n.s.k.m.aZ,n.now,n.s.k.m.ready,0,0,0,p6,0,false,dx,0⟩] 1,?_⟩
 and_intros<;>first|exact bY|exact hr|exact k1|exact k0|(intro h_;revert h_)|exact bZ|skip
 intro b _;refine⟨⟨0,?_⟩,fun i hi=>⟨fun c1=>⟨none,rfl,fun _=>⟨(),trivial,fun _ _=>⟨lR.mk n p [oE n] b [] 0,?_⟩⟩,fun c=>absurd rfl c⟩,fun c1=>⟨⟨⟨0,0,0⟩,?_⟩,fun x hx=>⟨fun c2=>?_,fun c2=>⟨⟨b,x.wc,x.rc⟩,?_⟩⟩⟩⟩⟩
 ·and_intros<;>first|exact bY|(intro h_;revert h_)|exact bZ|skip
 ·have c1:=of_decide_eq_true c1;have e1:((lR.mk n p [] 0 [⟨1,0,0,n.s.k.m.aZ,n.now,n.s.k.m.ready,0,0,0,p6,0,false,dx,0⟩] 1).to 1)=[oE n]:=rfl;have e2:((lR.mk n p [oE n] b [] 0).to 0)=[oE n]:=rfl
  and_intros<;>first|exact bY|exact k1|exact k0|(intro h_;revert h_)|exact bZ|skip
  intro b2 hb2;have hb2:b2=b:=hb2 rfl;subst hb2;refine⟨by simp only[bR];omega,i+1,?_⟩
  and_intros<;>first|exact bY|(intro h_;revert h_)|exact bZ|skip
 ·and_intros<;>first|exact bY|exact Nat.zero_le _|(intro h_;revert h_)|exact bZ|skip
 ·obtain⟨i,wc,rc⟩:=x;obtain⟨hi1,hi2⟩:=hx;dsimp only at *;have hi:i<n.ws.length:=by have:=of_decide_eq_true c2;omega
  have hz:0+(i:Int).toNat=i:=by omega
  have hmem:gl n.ws i∈n.ws:=by rw[bL hi];exact List.getElem_mem _
  obtain⟨w1,w2⟩:=hw _ hmem;have ht:n.ws.take (i+1)=n.ws.take i++[gl n.ws i]:=fD hi;have hm:n.ws.length-(i+1)<n.ws.length-i:=by omega
  rw[hz];generalize gl n.ws i=w at *;have hkl:(fA n.now (n.ws.take i)).length<=i:=Nat.le_trans (SG _ _) (by rw[List.length_take];omega);have htl:(fK n.now (n.ws.take i)).length<=i:=Nat.le_trans (SH _ _) (by rw[List.length_take];omega);refine⟨by omega,hi,fun _ _=>⟨w2,fun c3=>⟨by omega,by omega,by omega,fun cap q1 _ _=>⟨by simp only[bR];omega,⟨i+1,cap,rc⟩,?_⟩⟩,fun c3 _=>⟨by rw[w1];rfl,fun _ _=>⟨by omega,by omega,by omega,fun cap q1 _ _=>⟨by simp only[bR];omega,⟨i+1,wc,cap⟩,?_⟩⟩⟩⟩⟩
  ·have c3:n.now-w.tick<60:=of_decide_eq_true c3;have ek:fA n.now (n.ws.take (i+1))=fA n.now (n.ws.take i)++[w]:=by rw[ht,Fe,if_pos c3]
   have et:fK n.now (n.ws.take (i+1))=fK n.now (n.ws.take i):=by rw[ht,Ff,if_pos c3]
   dsimp only;rw[ek,et];have hp:ak (fA n.now (n.ws.take i)++[w]).length 7 (bg (aa cB (fA n.now (n.ws.take i))) 0 (fA n.now (n.ws.take i)).length fun i j=>aF 7 (cB w) (0+i) j) (aa cB (fA n.now (n.ws.take i)++[w])):=.push rfl (by simp) rfl;have hl:(fA n.now (n.ws.take i)).length+1=(fA n.now (n.ws.take i)++[w]).length:=by simp
   have hl2:(fA n.now (n.ws.take i)++[w]).length<=(fA n.now (n.ws.take i)).length+1:=by simp
   have hl3:(fA n.now (n.ws.take i)++[w]).length<=cap:=by rw[<- hl];exact q1
   and_intros<;>first|exact bY|exact hp|exact hl|exact hl2|exact hl3|exact hm|(intro h_;revert h_)|exact bZ|skip
  ·have c3:¬n.now-w.tick<60:=of_decide_eq_false c3;have ek:fA n.now (n.ws.take (i+1))=fA n.now (n.ws.take i):=by rw[ht,Fe,if_neg c3]
   have et:fK n.now (n.ws.take (i+1))=fK n.now (n.ws.take i)++[Fc w]:=by rw[ht,Ff,if_neg c3]
   dsimp only;rw[ek,et];have hp:ak (fK n.now (n.ws.take i)++[Fc w]).length 6 (bg (aa jT (fK n.now (n.ws.take i))) 0 (fK n.now (n.ws.take i)).length fun i j=>aF 6 (jT (Fc w)) (0+i) j) (aa jT (fK n.now (n.ws.take i)++[Fc w])):=.push rfl (by simp) rfl;have hl:(fK n.now (n.ws.take i)).length+1=(fK n.now (n.ws.take i)++[Fc w]).length:=by simp
   have hl2:(fK n.now (n.ws.take i)++[Fc w]).length<=(fK n.now (n.ws.take i)).length+1:=by simp
   and_intros<;>first|exact bY|exact hp|exact hl|exact hl2|exact hi2|exact hm|(intro h_;revert h_)|exact bZ|skip
 ·obtain⟨i,wc,rc⟩:=x;obtain⟨hi1,hi2⟩:=hx;dsimp only at *;have hi:i=n.ws.length:=by have:=of_decide_eq_false c2;omega
  subst hi;rw[List.take_length]at *
  and_intros<;>first|exact bY|exact hi2|(intro h_;revert h_)|exact bZ|skip)
theorem O1:au (Y Tryz.prog).G.X 15 Kb:=aU aa0 O0 ⟨EO,LZ,trivial⟩
structure qd where
 n:cW
 p:gZ
 fZ:Int
 id:Int
 err:Int
 item:aH
def SI(a:qd):pg:=⟨14,a.fZ,a.n.id,0,0,0,0,a.id,0,p6,a.err,false,a.item,0⟩
def abg(a:qd):List A:=[.lit .i64 14,.int .i64 a.fZ,.int .i64 a.n.id,.lit .i64 0,.lit .i64 0,.lit .i64 0,.lit .i64 0,.int .i64 a.id,.lit .i64 0,.str p6,.int .i64 a.err,.ff,.str a.item.key,.str a.item.val,.int .i64 a.item.e,.bool a.item.gone,.cc,.cc,.cc,.lit .i64 0,.cc]
def rF(fZ id:Int)(w:dF):Bool:=decide (w.to=fZ)&&decide (w.id=id)
def Cs(l:List dF)(fZ id:Int):Int:=match l.findIdx? (rF fZ id)with
 |some k=>(k:Int)
 |none=>-1
theorem G4{l:List dF}{fZ id:Int}(h:∀j,j<l.length->rF fZ id (gl l j)=false):l.findIdx? (rF fZ id)=none:=by
 rw[List.findIdx?_eq_none_iff];intro x hx;obtain⟨j,hj,rfl⟩:=List.mem_iff_getElem.1 hx;have:=h j hj;rw[bL hj]at this;exact this
theorem G5{l:List dF}{fZ id:Int}{i:Nat}(hi:i<l.length)(h1:rF fZ id (gl l i)=true)(h:∀j,j<i->rF fZ id (gl l j)=false):l.findIdx? (rF fZ id)=some i:=by
 rw[List.findIdx?_eq_some_iff_getElem];refine⟨hi,by rw[bL hi]at h1;exact h1,fun j hj=>?_⟩;have:=h j hj;rw[bL (by omega)]at this;rw[this];decide
structure x8 where
 l:List dF
 cap:Nat
 a:qd
noncomputable def WK:cG where
 α:=x8
 β:=Unit
 m:=2
 m':=2
 pre:=fun a=>a.l.length<1000
 args:=fun a=>[.a (.slc 0 0 7 a.l.length a.cap),.Cg 118 [.ptr 1 0 0 0]]
 hp:=fun _=>[]
 ro:=fun a=>[(0,.arr 125 rz a.l.length (aa cB a.l)),(1,.obj 45 (abg a.a))]
 post:=fun _ _=>True
 res:=fun a _=>.a (.int .i64 (Cs a.l a.a.fZ a.a.id))
 cR:=fun _ _=>[]
def abh(a:x8):An:=.flat 2 Nat (fun s k=>s.int 8 k) (fun _ k=>k<=a.l.length/\∀j,j<k->rF a.a.fZ a.a.id (gl a.l j)=false) (fun _ k=>a.l.length-k)
def BD(x:aH)(y:Prop):=fm x.key/\fm x.val/\ay x.e/\bn x.gone/\y
def zg(x:qd)(y:Prop):=mJ 14 x.fZ x.n.id (ay 0) (sV x.id (aI (fm p6/\ay x.err/\bI (BD x.item y))))
def Kh(z:Nat)(x:x8):=∀y:Nat,y<z->rF x.a.fZ x.a.id (gl x.l y)=false
def O2(y z:Int)(w:Prop)(u:Nat)(x:x8):=ai y->ai z->aD (y == z) w (bH u fun v=>rj (bX x.l) x.cap (0=0) 7 (aa cB x.l) (zg x.a (aI (dD v (bX x.l) (Kh v x) u))))
def qe(x:x8):Int:=Cs x.l x.a.fZ x.a.id
theorem WL:fnBody (Y Tryz.prog) [] 117 WK fun a=>[(117,[abh a],[])]:=fnBody.of (p :=
 ∀x:x8,bX x.l<1000->cm (fun y=>rj (bX x.l) x.cap (0=0) 7 (aa cB x.l) (zg x.a (aI ((y<=bX x.l/\Kh y x)/\True)))) fun y=>gX y (bX x.l) (Kh y x) (O2 (gl x.l (0+ax y)).to x.a.fZ (O2 (gl x.l (0+ax y)).id x.a.id (bz (af y=qe x)) y x) y x) (bz ((-1:Int)=qe x))) (by kernel_rfl) (by
 delta aD mJ eF ai bF aG ay ax bn dm aK aY af bX bf aC aR dV jD bz dD bI jR aP zg bH aI bh bM aT az ag O2 BD qe aQ dh gX Kh fm sV rj bt cm
 try dsimp -iota -proj only
 rintro⟨l,cap,q⟩ hl;dsimp only at *;have h0:∀j,j<0->rF q.fZ q.id (gl l j)=false:=fun j hj=>absurd hj (Nat.not_lt_zero j);refine⟨⟨0,?_⟩,fun i hi=>?_⟩
 ·and_intros<;>first|exact bY|exact h0|exact Nat.zero_le _|(intro h_;revert h_)|exact bZ|skip
 obtain⟨hi,hall⟩:=hi;rw[show 0+(i:Int).toNat=i by omega];refine⟨fun c1=>?_,fun c1=>⟨(),?_,trivial,trivial⟩⟩
 ·have hlt:i<l.length:=by have:=of_decide_eq_true c1;omega
  have hm:l.length-(i+1)<l.length-i:=by omega
  have step:rF q.fZ q.id (gl l i)=false->∀j,j<i+1->rF q.fZ q.id (gl l j)=false:=fun h j hj=>by
   by_cases e:j=i
   ·subst e;exact h
   ·exact hall j (by omega)
  refine⟨⟨by omega,by omega⟩,hlt,fun _ _=>⟨fun c2 _ _=>⟨fun c3=>⟨(),?_,trivial,trivial⟩,fun c3=>⟨by simp only[bR];omega,i+1,?_⟩⟩,fun c2=>⟨by simp only[bR];omega,i+1,?_⟩⟩⟩
  ·have h1:rF q.fZ q.id (gl l i)=true:=by
    unfold rF;rw[decide_eq_true (show(gl l i).to=q.fZ by simpa using c2),decide_eq_true (show(gl l i).id=q.id by simpa using c3)];rfl
   unfold Cs;rw[G5 hlt h1 hall]
  ·have h1:=step (by
    unfold rF;rw[decide_eq_false (show ¬(gl l i).id=q.id by simpa using c3)];simp)
   and_intros<;>first|exact bY|exact h1|exact hm|(intro h_;revert h_)|exact bZ|skip
  ·have h1:=step (by
    unfold rF;rw[decide_eq_false (show ¬(gl l i).to=q.fZ by simpa using c2)];rfl)
   and_intros<;>first|exact bY|exact h1|exact hm|(intro h_;revert h_)|exact bZ|skip
 ·have hn:l.findIdx? (rF q.fZ q.id)=none:=G4 fun j hj=>hall j (by have:=of_decide_eq_false c1;omega);unfold Cs;rw[hn])
theorem WM:au (Y Tryz.prog).G.X 117 WK:=aU fF WL trivial
def mm(e:Int):Int:=if e=7 then 6 else e
def wR(w:lF)(a:qd):Bool:=decide (mm a.err=0)&&(decide (w.op=1)&&(!decide (a.item.key=p6)&&!a.item.gone))
def eR(a:qd):bO:=match a.n.ws.findIdx? (rF a.fZ a.id)with
 |some k=>kN { a.n with ws:=a.n.ws.eraseIdx k } (gl a.n.ws k).w (mm a.err) (fB a.item.val (wR (gl a.n.ws k).w a)) (wR (gl a.n.ws k).w a)
 |none=>⟨a.n,[],[]⟩
structure WN where
 wc:Nat
 mc:Nat
 rc:Nat
noncomputable def WO:cG where
 α:=qd
 β:=WN
 m:=17
 m':=20
 pre:=fun a=>B9 (SI a)/\a.n.ws.length<1000/\a.n.ws.length<=a.p.wc/\(∀w∈a.n.ws,w.w.key.size<=aq)/\a.item.val.size<=aq/\a.n.s.k.m.ready=0
 args:=fun a=>[.a (.ptr 0 0 0 0),.agg (abg a)]
 hp:=fun a=>[(0,Cr (.ptr 14 0 0 0) 7 1 3 5 6 a.n a.p),(5,.arr 125 rz a.n.ws.length (aa cB a.n.ws))]
 ro:=fun a=>[(7,stO 8 9 10 a.n.s.bN),(10,.obj 155 (.ptr 11 0 0 0::B0 a.n.s.k.m))]
 post:=fun a b=>(eR a).n.ws.length<=b.wc
 res:=fun a b=>.agg [.slc 18 0 21 (eR a).ms.length b.mc,.slc 19 0 6 (eR a).rs.length b.rc]
 cR:=fun a b=>[(0,Cr (.ptr 14 0 0 0) 7 1 3 17 6 (eR a).n { a.p with wc:=b.wc }),(17,.arr 125 rz (eR a).n.ws.length (aa cB (eR a).n.ws)),B6 18 (eR a).ms,LW 19 (eR a).rs]
noncomputable def aag:List (Nat×cG):=[(55,Ql),(117,WK),(119,Wm),(54,L6)]
def abi(a:qd):An:=.mk 12 Unit (fun s _=>(((s.int 6 (mm a.err)).set 7 (.a (.bool (wR (gl a.n.ws (Cs a.n.ws a.fZ a.id).toNat).w a)))).set 8 (.a (.str (fB a.item.val (wR (gl a.n.ws (Cs a.n.ws a.fZ a.id).toNat).w a)))))) (fun _ _=>True) (fun _ _=>0) fun _=>.mk 1000 [] []
def abj(a:qd):An:=.mk 9 Unit (fun s _=>s.set 7 (.a (.bool (wR (gl a.n.ws (Cs a.n.ws a.fZ a.id).toNat).w a)))) (fun _ _=>True) (fun _ _=>0) fun _=>.mk 1000 [] [abi a]
def abk(a:qd):An:=.mk 8 Unit (fun s _=>s.int 6 (mm a.err)) (fun _ _=>True) (fun _ _=>0) fun _=>.mk 1000 [] [abj a]
def Ce(x:qd)(y:x8):lF:=(gl x.n.ws (0+aR (qe y))).w
def G6(y:x8)(x:qd)(z:GZ)(u:Nat):=bn (aK (qe y) 0)/\ay (qe y)/\aA (zg x (mJ 0 (lF.node (Ce x y)) (lF.id (Ce x y)) (ay (lF.op (Ce x y))) (fm (lF.key (Ce x y))/\zg x (aI (aA (uH x.n x.n (sS z) (sS z) u u x.p x.p (0=0) (aA (ay x.n.s.bN/\ag (wz x.n.s.k.m (oH (sS z)/\zg x (aI (True/\True))))))))))))
def Ki(x:qd):=∃y:WN,(0=bk (eR x).ms/\0=y.mc)/\(0=cZ (eR x).rs/\0=y.rc)/\bk (eR x).ms=0/\cZ (eR x).rs=0/\Kf x.n (eR x).n x.n.ws (eR x).n.ws x.p.wc y.wc x.p
def sW(x:qd):Bool:=wR (gl x.n.ws (aR (Cs x.n.ws x.fZ x.id))).w x
def Kj(x:qd):=B9 (SI x)/\bX x.n.ws<1000/\bX x.n.ws<=x.p.wc/\(∀y:dF,y∈x.n.ws->bp y.w.key<=aq)/\bp x.item.val<=aq/\x.n.s.k.m.ready=(0:Int)
theorem WQ:fnBody (Y Tryz.prog) aag 16 WO fun a=>[(16,[],[.isI 4 5 0 OS]),(63,[],[abk a])]:=fnBody.of (p :=
 ∀x:qd,Kj x->ai x.n.id->ai x.n.id->aD (x.n.id != x.n.id) (Ki x) (∃v:z7,By 14 v.m x.fZ x.n.id 0 0 x.id p6 x.err (false=v.m.last/\nY x.item v.m.item (0=ah v.l/\0=v.cap) ((0:Int)=v.m.base/\ah v.l=0/\Bx v/\aB (aD (bq (p9 v)) (Ki x) (x.n.s.k.m.ready=(0:Int)/\∃y:x8,eH (bX x.n.ws) (bX y.l) x.p.wc y.cap (0=0) 7 (aa cB x.n.ws) (aa cB y.l) (ay 14/\x.fZ=y.a.fZ/\x.n.id=y.a.n.id/\sV 0 (x.id=y.a.id/\aI (fm p6/\x.err=y.a.err/\bI (nY x.item y.a.item (ay 0) (bX y.l<1000/\aB (aX (qe y) 0 (Ki x) (q9 (qe y) (bX x.n.ws) (ai (qe y+(1:Int))/\∃z:GZ,ag (bX x.n.ws=bX z.l/\x.p.wc=z.cap)/\qe y=af z.k/\qe y+(1:Int)=aY z.k/\lI z.l x.n.ws/\(bX z.l<2000/\bX z.l<=z.cap/\z.k<bX z.l)/\∀w:Nat,bX (sS z)<=w->ai x.err->x6 (x.err == (7:Int)) ((6:Int)=mm x.err) (0=0) (G6 y x z w) (x.err=mm x.err)/\aB (aD (mm x.err == (0:Int)) (ai (lF.op (Ce x y))->qp (lF.op (Ce x y) == (1:Int)) (bq (gn x.item.key cA)) (Exists (az (bq x.item.gone=sW x/\ay (mm x.err)/\ag (G6 y x z w)))) (Exists (az (fV (sW x) (ay (mm x.err)) (ag (G6 y x z w)))))) (Exists (az (fV (sW x) (ay (mm x.err)) (ag (G6 y x z w)))))/\aB (x6 (sW x) (x.item.val=fB x.item.val (sW x)) (bn (sW x)) (ay (mm x.err) /\
 ag (G6 y x z w)) (cA=fB x.item.val (sW x))/\aB (∃u:mW,ag (BA (Ce x y) u (mm x.err) (fB x.item.val (sW x)) (sW x) (aA (uH x.n u.n (sS z) u.n.ws w u.p.wc x.p u.p (wO u) (∀f:Nat×Nat,True->∃t:WN,eH (bk (nO u)) (bk (eR x).ms) f.fst t.mc (ag (cZ (nP u)=cZ (eR x).rs/\f.snd=t.rc)) 21 (aa cC (nO u)) (aa cC (eR x).ms) (rC (eR x).rs (nP u)/\aA (uH u.n (eR x).n u.n.ws (eR x).n.ws u.p.wc t.wc u.p x.p (lI (eR x).n.ws (sS z)) (bX (eR x).n.ws<=t.wc/\True)))))))))))))))))))))))) (by kernel_rfl) (by
 delta qp aD mJ uH eF ah ai bF aG ay bn dm ki aK aY cA af bX bk Ce dG nY bf gA aC aR cH fV x6 G6 bp aB eH bI lI zg aI Ki rC sW cZ az fS p9 oH nO ag pJ BD BA aX qe By nP lG aA wz bq gn Kj sS fm q9 sV wO Kf Bx
 try dsimp -iota -proj only
 rintro⟨n,p,fZ,id,err,item⟩ ⟨hm,h1,h2,h3,h4,h5⟩ _ _;have ho:([]:List Int)=[]\/Rg.gO []=true:=.inl rfl;dsimp only at *;refine⟨fun c=>by simp at c,fun _=>⟨z7.mk (SI ⟨n,p,fZ,id,err,item⟩) [] 0,?_⟩⟩
 and_intros<;>first|exact bY|exact hm|exact ho|(intro h_;revert h_)|exact bZ|skip
 intro _ _;have hz:(!decide ((SI ⟨n,p,fZ,id,err,item⟩).key.size<=40))=false:=rfl;refine⟨fun c=>absurd (hz.symm.trans c) (by decide),fun _=>⟨h5,x8.mk n.ws p.wc ⟨n,p,fZ,id,err,item⟩,?_⟩⟩
 and_intros<;>first|exact bY|exact h1|(intro h_;revert h_)|exact bZ|skip
 intro _ _;dsimp only;cases hf:n.ws.findIdx? (rF fZ id)with
 |none =>
  have ei:Cs n.ws fZ id = -1:=by unfold Cs;rw[hf]
  have eN:eR ⟨n,p,fZ,id,err,item⟩=⟨n,[],[]⟩:=by unfold eR;dsimp only;rw[hf]
  rw[ei,eN];refine⟨fun _=>⟨⟨p.wc,0,0⟩,?_⟩,fun c=>absurd c (by decide)⟩
  and_intros<;>first|exact bY|exact h2|(intro h_;revert h_)|exact bZ|skip
 |some k =>
  have ei:Cs n.ws fZ id=(k:Int):=by unfold Cs;rw[hf]
  have hk:k<n.ws.length:=(List.findIdx?_eq_some_iff_getElem.1 hf).1;have e1:(k:Int).toNat=k:=by omega
  have e2:0+(k:Int).toNat=k:=by omega
  have hmem:gl n.ws k∈n.ws:=by rw[bL hk];exact List.getElem_mem _
  have hkey:=h3 _ hmem;have eN:eR ⟨n,p,fZ,id,err,item⟩=kN { n with ws:=n.ws.eraseIdx k } (gl n.ws k).w (mm err) (fB item.val (wR (gl n.ws k).w ⟨n,p,fZ,id,err,item⟩)) (wR (gl n.ws k).w ⟨n,p,fZ,id,err,item⟩):=by unfold eR;dsimp only;rw[hf]
  rw[ei,eN,e2,e1];have k2:n.ws.length<2000:=by omega
  refine⟨fun c=>(by exfalso;have:=of_decide_eq_true c;omega),fun _=>⟨⟨by omega,by omega⟩,hk,by simp only[bR];omega,GZ.mk n.ws p.wc k,?_⟩⟩
  and_intros<;>first|exact bY|exact k2|exact h2|exact hk|(intro h_;revert h_)|exact bZ|skip
  intro b hb hie;dsimp only at hb ⊢;obtain⟨w,hw⟩:∃w,w=(gl n.ws k).w:=⟨_,rfl⟩
  obtain⟨h,hh⟩:∃h,h=wR w ⟨n,p,fZ,id,err,item⟩:=⟨_,rfl⟩
  rw[<- hw]at hkey ⊢;rw[<- hh];have hv:(fB item.val h).size<=aq:=by
   unfold fB;cases h
   ·show p6.size<=aq;decide
   ·exact h4
  refine⟨⟨fun c=>⟨(),?_⟩,fun c=>⟨(),?_⟩⟩,fun _ _=>⟨⟨fun c1 _=>⟨fun c2=>⟨fun c3=>⟨(),?_⟩,fun c3=>⟨(),?_⟩⟩,fun c2=>⟨(),?_⟩⟩,fun c1=>⟨(),?_⟩⟩,fun _ _=>⟨⟨fun c=>⟨(),?_⟩,fun c=>⟨(),?_⟩⟩,fun _ _=>⟨mW.mk { n with ws:=n.ws.eraseIdx k } { p with wc:=b } w (mm err) (fB item.val h) h,?_⟩⟩⟩⟩
  ·have e:6=mm err:=by unfold mm;rw[if_pos (by simpa using c)]
   and_intros<;>first|exact bY|exact e|(intro h_;revert h_)|exact bZ|skip
  ·have e:err=mm err:=by unfold mm;rw[if_neg (by simpa using c)]
   and_intros<;>first|exact bY|exact e|(intro h_;revert h_)|exact bZ|skip
  ·have e:(!item.gone)=h:=by
    rw[hh];unfold wR;rw[decide_eq_true (show mm err=0 by simpa using c1),decide_eq_true (show w.op=1 by simpa using c2)];have c3:(!decide (item.key=p6))=true:=c3;dsimp only;rw[c3];rfl
   and_intros<;>first|exact bY|exact e|(intro h_;revert h_)|exact bZ|skip
  ·have e:false=h:=by
    rw[hh];unfold wR;have c3:(!decide (item.key=p6))=false:=c3;dsimp only;rw[c3];simp
   and_intros<;>first|exact bY|exact e|(intro h_;revert h_)|exact bZ|skip
  ·have e:false=h:=by
    rw[hh];unfold wR;rw[decide_eq_false (show ¬w.op=1 by simpa using c2)];simp
   and_intros<;>first|exact bY|exact e|(intro h_;revert h_)|exact bZ|skip
  ·have e:false=h:=by
    rw[hh];unfold wR;rw[decide_eq_false (show ¬mm err=0 by simpa using c1)];rfl
   and_intros<;>first|exact bY|exact e|(intro h_;revert h_)|exact bZ|skip
  ·have e:item.val=fB item.val h:=by rw[c];rfl
   and_intros<;>first|exact bY|exact e|(intro h_;revert h_)|exact bZ|skip
  ·have e:ByteArray.mk #[]=fB item.val h:=by rw[c];rfl
   and_intros<;>first|exact bY|exact e|(intro h_;revert h_)|exact bZ|skip
  ·and_intros<;>first|exact bY|exact hkey|exact hv|(intro h_;revert h_)|exact bZ|skip
   rintro⟨mc,rc⟩ _;refine⟨⟨b,mc,rc⟩,?_⟩;dsimp only[kN]
   and_intros<;>first|exact bY|exact hb|(intro h_;revert h_)|exact bZ|skip)
theorem WR:au (Y Tryz.prog).G.X 16 WO:=aU fF WQ ⟨L5,WM,Wq,EZ,trivial⟩
noncomputable def WS:cG where
 α:=ByteArray
 β:=Unit
 m:=0
 m':=0
 pre:=fun _=>True
 args:=fun k=>[.a (.str k)]
 hp:=fun _=>[]
 ro:=fun _=>[]
 post:=fun _ _=>True
 res:=fun k _=>.a (.bool (dN k))
 cR:=fun _ _=>[]
theorem WT:fnBody (Y Tryz.prog) [] 22 WS fun _=>[]:=fnBody.of (p :=
 ∀x:ByteArray,True->aD (cn 1 (af (bp x))) (bz (cn (af (bp x)) 40=dN x)) (Exists (dZ (dN x)))) (by kernel_rfl) (by
 delta aD af aC fV bp bz dZ cn az bt
 intro k _;refine⟨fun c=>⟨(),?_,trivial,trivial⟩,fun c=>⟨(),?_,trivial,trivial⟩⟩
 ·have c:1<=k.size:=by have:=of_decide_eq_true c;omega
  have:¬k=ByteArray.mk #[]:=fun h=>by rw[h]at c;exact absurd c (by decide)
  simp[dN,this];omega
 ·have c:k.size=0:=by have:=of_decide_eq_false c;omega
  have:k=ByteArray.mk #[]:=ByteArray.ext (Array.eq_empty_of_size_eq_zero c);rw[this];rfl)
theorem WU:au (Y Tryz.prog).G.X 22 WS:=aU fF WT trivial
end Go.Proofs.YtfjgoonelcaggaaGreat
namespace Go.Proofs.YtfjgoonelcaggaaGreat.Rg
open Go.Sx
theorem O3{x y:Int×Int}:gN x y=true↔(x.1<y.1\/x.1=y.1/\x.2<y.2):=by simp[gN]
theorem oJ{x y:Int×Int}:gN x y=false↔¬(x.1<y.1\/x.1=y.1/\x.2<y.2):=by
 rw[<- O3];simp
theorem O4{x y:Int×Int}(h1:gN x y=false)(h2:gN y x=false):x=y:=by
 rw[oJ]at *;exact Prod.ext (by omega) (by omega)
theorem G7{M:List (Int×Int)}(hM:∀e∈M,1<=e.2):∀k,k<=M.length ->
 k=0/\nc (M.take k)=(0,0)\/0<k/\nc (M.take k)∈M/\∀j,j<k->gN (gl M j) (nc (M.take k))=false
 |0,_=>.inl ⟨rfl,rfl⟩
 |k+1,h=>by
  have hk:k<M.length:=by omega
  have ih:=G7 hM k (by omega);have hg:=ym hk;have he:=hM _ hg;rw[fD hk,Bv];generalize nc (M.take k)=a at *;refine .inr ⟨by omega,?_⟩;rcases ih with⟨h0,rfl⟩ | ⟨h0,h1,h2⟩
  ·subst h0;refine⟨by simpa[va]using hg,fun j hj=>?_⟩;have:j=0:=by omega
   subst this;rw[oJ];simp only[va,if_true,true_or];omega
  ·have ha:=hM _ h1;by_cases c:(gl M k).1<a.1\/(gl M k).1=a.1/\(gl M k).2<a.2
   ·have e:va a (gl M k)=gl M k:=if_pos (.inr c);rw[e];refine⟨hg,fun j hj=>?_⟩;by_cases ej:j=k
    ·subst ej;rw[oJ];omega
    ·have:=h2 j (by omega);rw[oJ]at *;omega
   ·have e:va a (gl M k)=a:=if_neg (by omega);rw[e];refine⟨h1,fun j hj=>?_⟩;by_cases ej:j=k
    ·subst ej;rw[oJ];exact c
    ·exact h2 j (by omega)
theorem Fg{M:List (Int×Int)}(hM:∀e∈M,1<=e.2)(h0:0<M.length):nc M∈M/\∀x∈M,gN x (nc M)=false:=by
 rcases G7 hM M.length (Nat.le_refl _)with⟨h,_⟩ | ⟨_,h1,h2⟩
 ·omega
 ·rw[List.take_length]at *;refine⟨h1,fun x hx=>?_⟩;obtain⟨j,hj,rfl⟩:=List.getElem_of_mem hx;have:=h2 j hj;rwa[bL hj]at this
theorem Cf{S M:List (Int×Int)}(hM:∀e∈M,1<=e.2)(h0:0<M.length)(hp:S.Perm M)(hs:S.Pairwise fun x y=>gN y x=false):gl S 0=nc M:=by
 obtain⟨h1,h2⟩:=Fg hM h0;have hl:=hp.length_eq;have hS:0<S.length:=by omega
 refine O4 (h2 _ (hp.mem_iff.1 (ym hS))) ?_;obtain⟨j,hj,e⟩:=List.getElem_of_mem (hp.mem_iff.2 h1);by_cases ej:j=0
 ·subst ej;rw[<- e,bL hS,oJ];omega
 ·have:=List.pairwise_iff_getElem.1 hs 0 j hS hj (by omega);rw[e]at this;rwa[bL hS]
theorem Me{α:Type}[Inhabited α](p:α->Bool)(S:List α):S.find? p=if(S.filter p).length=0 then none else some (gl (S.filter p) 0):=by
 rw[<- List.head?_filter];generalize S.filter p=T;cases T with
 |nil=>rfl
 |cons a r=>rfl
theorem YI{S M:List (Int×Int)}(hM:∀e∈M,1<=e.2)(h0:0<M.length)(hp:S.Perm M)(hs:S.Pairwise fun x y=>gN y x=false)(h:Int) :
 sO S h=if(qu h M).2=0 then(nc M).2 else(qu h M).2:=by
 have cR:=hp.filter fun e=>decide (h<=e.1);have hl':=cR.length_eq;have hM':∀e∈M.filter (fun e=>decide (h<=e.1)),1<=e.2:=fun e he=>hM e (List.mem_filter.1 he).1;unfold sO qu;rw[Me];by_cases c:(M.filter fun e=>decide (h<=e.1)).length=0
 ·rw[if_pos (by omega),List.eq_nil_of_length_eq_zero c];show(gl S 0).2=if(0:Int)=0 then _ else _;rw[if_pos rfl,Cf hM h0 hp hs]
 ·rw[if_neg (by omega)];have e:=Cf hM' (by omega) cR (hs.filter _);have hm:=hM' _ (Fg hM' (by omega)).1;rw[if_neg (by omega)];show(gl (S.filter _) 0).2=_;rw[e]
theorem YJ{l:List Int}(h:gO l=true):∀e∈cQ l,1<=e.2:=fun e he=>by
 obtain⟨n,h1,h2⟩:=List.mem_flatMap.1 he;have:=V5 h h1;rw[EW h2];exact this.1
theorem Qu{l:List Int}(h:gO l=true)(x:Int):sO (kj l) x=iH l x:=by
 have h0:=z1 h;rw[YI (YJ h) (by rw[mh];omega) (uL h) (JP h)];exact(if_pos h).symm
theorem WV{L:List (Int×Int)}(h0:0<L.length)(x:Int):∃e∈L,sO L x=e.2:=by
 unfold sO;cases c:L.find? (fun e=>decide (x<=e.1))with
 |none=>exact⟨_,ym h0,rfl⟩
 |some e=>exact⟨e,List.mem_of_find?_eq_some c,rfl⟩
theorem YK{l:List Int}(h:gO l=true)(x:Int):sO (kj l) x∈l:=by
 have h0:=z1 h;obtain⟨e,h1,h2⟩:=WV (L:=kj l) (by rw[uM h];omega) x;obtain⟨n,h3,h4⟩:=List.mem_flatMap.1 ((uL h).mem_iff.1 h1);rw[h2,EW h4];exact h3
end Go.Proofs.YtfjgoonelcaggaaGreat.Rg
namespace Go.Proofs.YtfjgoonelcaggaaGreat
open Go.Sx
structure r9 where
 key:ByteArray
 err:Int
 val:ByteArray
 has:Bool
 other:Bool
 wait:Int
def r9.k(a:r9):ByteArray:=rE a.key 40
def r9.v(a:r9):ByteArray:=rE a.val 200
def lJ(a:r9):aH:=if a.err=0 then⟨a.k,a.v,0,!a.has⟩else dx
noncomputable def Mf:cG where
 α:=r9
 β:=Unit
 m:=0
 m':=0
 pre:=fun a=>a.key.size<=aq/\bR .i64 a.err/\a.val.size<=aq/\bR .i64 a.wait
 args:=fun a=>[.a (.str a.key),.a (.int .i64 a.err),.a (.str a.val),.a (.bool a.has),.a (.bool a.other),.a (.int .i64 a.wait)]
 hp:=fun _=>[]
 ro:=fun _=>[]
 post:=fun _ _=>True
 res:=fun _ _=>.a .tt
 cR:=fun _ _=>[]
noncomputable def WW:List Pk:=[⟨16,YD 2,[Qs,WO]⟩]
noncomputable def Qv:List (Nat×cG):=[(14,J5),(20,aaf),(22,WS),(28,Rg.qX),(27,Rg.JT),(12,CG),(11,EN),(13,JY),(29,WH),(15,Kb)]
theorem O5:vE (Y Tryz.prog).G.X Qv/\J4 (Y Tryz.prog).G.X WW:=⟨⟨OZ,YF,WU,Rg.Yp,Rg.OM,DD,GM,GX,WJ,O1,trivial⟩,⟨Mb,WR,trivial⟩,trivial⟩
def vm:List Int:=[1,2,3]
theorem Fh:Rg.gO vm=true:=by decide
def O6(k:ByteArray):Int:=Rg.iH vm (Rg.eu (fun _=>k) 1)
theorem YL(k:ByteArray)(ep:Int)(c1 c2:Nat):xJ (pn ep vm c1 c2) k=O6 k:=Rg.Qu Fh _
theorem WX(k:ByteArray):1<=O6 k/\O6 k<=3:=by
 have h:=Rg.YK Fh (Rg.eu (fun _=>k) 1);rw[Rg.Qu Fh]at h;have h:O6 k∈vm:=h;unfold vm at h;simp only[List.mem_cons,List.not_mem_nil,or_false]at h;omega
theorem abl{o:Int}(h:1<=o/\o<=3):1<=1+o.tmod 3/\1+o.tmod 3<=3/\1+o.tmod 3≠o:=by
 have h3:o=1\/o=2\/o=3:=by omega
 rcases h3 with h|h|h<;>subst h<;>decide
theorem YM{q:qd}{w:dF}(hw:q.n.ws=[w])(h1:w.to=q.fZ)(h2:w.id=q.id):eR q=kN { q.n with ws:=[] } w.w (mm q.err) (fB q.item.val (wR w.w q)) (wR w.w q):=by
 have hf:q.n.ws.findIdx? (rF q.fZ q.id)=some 0:=G5 (by rw[hw];exact Nat.one_pos) (by
  rw[hw];show rF q.fZ q.id w=true;unfold rF;rw[decide_eq_true h1,decide_eq_true h2];rfl) fun j hj=>absurd hj (Nat.not_lt_zero j)
 unfold eR;rw[hf,hw];rfl
theorem Mg{q:qd}(h:∀w∈q.n.ws,w.id≠q.id):eR q=⟨q.n,[],[]⟩:=by
 have hf:q.n.ws.findIdx? (rF q.fZ q.id)=none:=G4 fun j hj=>by
  have hm:gl q.n.ws j∈q.n.ws:=by rw[bL hj];exact List.getElem_mem _
  unfold rF;rw[decide_eq_false (h _ hm)];simp
 unfold eR;rw[hf]
theorem YN{q:qd}(h1:1<=q.fZ/\q.fZ<=3)(h2:1<=q.n.id/\q.n.id<=3)(h3:q.n.id≠q.fZ)(h4:0<=q.id/\q.id<=1099511627776)(h5:0<=q.err/\q.err<=9)(h6:q.item=dx\/gh q.item=true):B9 (SI q) :=
 ⟨(show(1:Int)<=14/\(14:Int)<=14 by omega),(show q.fZ≠q.n.id by omega),(show 0<=q.fZ/\q.fZ<=5 by omega),(show 0<=q.n.id/\q.n.id<=5 by omega),OW,OW,OW,h4,OW,(show(0:Int)<=0/\(0:Int)<=1073741824 by omega),(show(0:Int)<=0/\(0:Int)<=2 by omega),(show 0<=q.err/\q.err<=10 by omega),h6⟩
theorem SJ{a:r9}(hk:dN a.k=true)(hv:a.v.size<=200)(hh:a.has = !decide (a.v=ByteArray.mk #[])):lJ a=dx\/gh (lJ a)=true:=by
 unfold lJ;split
 ·refine .inr ?_;unfold gh;dsimp only;rw[hk,decide_eq_true hv,hh];by_cases h:a.v=ByteArray.mk #[]
  ·rw[decide_eq_true h];rfl
  ·rw[decide_eq_false h];rfl
 ·exact .inl rfl
def S.item(s:S)(t:Nat)(x:aH):S:=match s.hp.find t with
 |some (_,.obj ty cs)=>s.at_ t (.obj ty (cs.take 12++[.str x.key,.str x.val,.int .i64 x.e,.bool x.gone]++cs.drop 16))
 |_=>s
def YO(a:r9):An:=.mk 38 Unit (fun s _=>s.int 26 (mm a.err)) (fun _ _=>True) (fun _ _=>0) fun _=>.mk 1000 [] []
def YP(a:r9):An:=.mk 27 Unit (fun s _=>S.item s (s.tg 22) (lJ a)) (fun _ _=>True) (fun _ _=>0) fun _=>.mk 1000 [] [.Yu 0 [(212,false)] OS,YO a]
def Kk(x:bO):=eF (cZ x.rs) 6 (aa jT x.rs)
def WY(u:Ka)(y:tC)(x:nV)(z:nR)(v:E7):=mJ (u.now+u.w) (gl (bO.ms (aS y x)) 0).kind (gl (bO.ms (aS y x)) 0).fZ (ay (gl (bO.ms (aS y x)) 0).to) (mJ (gl (bO.ms (aS y x)) 0).aZ (gl (bO.ms (aS y x)) 0).tick (gl (bO.ms (aS y x)) 0).seq (ay (gl (bO.ms (aS y x)) 0).n) (ay (gl (bO.ms (aS y x)) 0).id/\ay (gl (bO.ms (aS y x)) 0).op/\fm (gl (bO.ms (aS y x)) 0).key/\ay (gl (bO.ms (aS y x)) 0).err/\bn (gl (bO.ms (aS y x)) 0).last/\BD (gl (bO.ms (aS y x)) 0).item (cH (aa cC (bO.ms (aS y x)) 0 16)/\cH (aa cC (bO.ms (aS y x)) 0 17)/\cH (aa cC (bO.ms (aS y x)) 0 18)/\ay (gl (bO.ms (aS y x)) 0).base/\cH (aa cC (bO.ms (aS y x)) 0 20)/\bh (bk (bO.ms (aS y x))) x.mc/\bh (cZ (bO.rs (aS y x))) x.rc/\oI (bO.n (aS y x)) (bO.n (aS y x)) x.p x.p (mQ x.p x.p (bO.n (aS y x)) (bO.n (aS y x)) (ay (bO.n (aS y x)).t.last/\lE x.p.mb (sR (bO.n (aS y x)).rs) (nM (bO.ms (aS y x))/\Kk (aS y x)/\sK z.q (Rg.ga.e (x7 z v)) (uN (x7 z v) (True/\True))))))))
def sX(x:Rg.ql):Int:=(1:Int)+(Rg.iH x.l x.h).tmod (3:Int)
def Kl(y:Rg.ql)(w:Int)(z:r9)(s:cW)(u:List dF)(t:Nat)(f:gZ)(g:tC)(i:nV)(j:qd->WN->Prop):qd->Prop:=fun(x:qd)=>ag (ay 14/\Rg.iH y.l y.h=x.fZ/\sX y=x.n.id/\sV 0 (w=x.id/\aI (cA=p6/\z.err=x.err/\bI (nY (lJ z) x.item (ay 0) (aA (uH s x.n u x.n.ws t x.p.wc f x.p (lI x.n.ws u) (aA (Ca (bO.n (aS g i)) x.n (Kj x) (∀v:WN,bX (eR x).n.ws<=v.wc->j x v)))))))))
def Km(x:r9)(z:Rg.ql)(y u:ByteArray×Int)(v w:Int)(s t:Prop):=fc (bn (cn 60 x.wait)) (bI (fc (bn false) (mG (ay (sX z)/\ay (Rg.iH z.l z.h)/\ag (bn (bq (x.has == bq (gn (rE y.fst y.snd) cA)))/\fm (rE y.fst y.snd)/\fm (rE u.fst u.snd)/\bI (bn true/\bI (ay x.err/\bn x.has/\bn x.other/\mJ x.wait v w s t)))))))
def O7(y:cW)(x:List dF)(z:Nat)(u:gZ)(v:Prop):=aA (uH y y x x z z u u (oH x) v)
def O8(z:tC)(u:nV)(v:r9)(w s:ByteArray)(t:Bool)(y:Qt)(x:jI)(f:Ka)(g:nR)(h:E7):=sV 0 (ay (gl (bO.ms (aS z u)) 0).id/\aI (fm cA/\ay v.err/\bI (BX w (lJ v) s 0 t (ay 0) (bh 1 y.mc) (jR (jk x x.n.ws) y.rc (eF 1 21 (y6 x)) 6 (aa jT (fK x.n.now x.n.ws)) (O7 x.n (fA x.n.now x.n.ws) y.wc x.p (WY f z u g h))))))
def Fi(x:jI):tA:=gl (fK x.n.now x.n.ws) 0
theorem WZ:r8 (Y Tryz.prog) Qv WW 6 Mf fun a=>[(6,[],[An.zJ 10 (.mk 1000 [] [.Yu 0 [(74,false),(92,false),(132,false)] OS,YP a])])]:=r8.of (p :=
 ∀y:r9,bp y.key<=aq/\ai y.err/\bp y.val<=aq/\ai y.wait->Exists (az (ee (∃t:ByteArray×Int,y.key=t.fst/\(40:Int)=t.snd/\(0:Int)<=t.snd/\aB (∃f:ByteArray×Int,y.val=f.fst/\(200:Int)=f.snd/\(0:Int)<=f.snd/\aB (∃B:ByteArray,rE t.fst t.snd=B/\ee (fR (bq (dN B)) (bz (bn true)) (aK y.err 0) (fR (aK 9 y.err) (bz (bn true)) (aK y.wait 0) (fR (aK 80 y.wait) (bz (bn true)) (bq (y.has == bq (gn (rE f.fst f.snd) cA))) (∃o:Rg.IG,wh o.n o.cap (rE t.fst t.snd) (fun z=>o.g z) (fun z=>o.g z) (∃z:Rg.ql,eH 3 (ah z.l) 3 z.cap (Rg.eu o.g o.n=z.h) 1 (aF 1 (bT 1 (bT 2 (gp 3)))) (aa Rg.encI z.l) (ah z.l<100000/\aB ((3:Int)≠(0:Int)/\ai (sX z)/\Exists (J8 (sX z) fun r d=>J9 (sX z) 4 3 d r fun j=>wJ (wH r) j.n d j.p (J7 r j d (lI j.n.ws (wH r).ws) 3 (bT 2 (gp 3)) 9 (rE t.fst t.snd) fun e v u=>aD (af (bk (bO.ms (aS v u))) != (1:Int)) False ((af (cZ (bO.rs (aS v u))) != (0:Int))=false/\dm 0 (bk (bO.ms (aS v u))) 0 (zf (gl (bO.ms (aS v u)) 0).kind 13 (zf (gl (bO.ms (aS v u)) 0).to (Rg.iH z.l z.h) (ai (gl (bO.ms (aS v u)) 0).fZ->fR ((gl (bO.ms (aS v u)) 0).fZ != sX z) False (bq (gn (gl (bO.ms (aS v u)) 0).key (rE t.fst t.snd))) (zf (gl (bO.ms (aS v u)) 0).op 1 (zf (gl (bO.ms (aS v u)) 0).aZ 4 (ai (gl (bO.ms (aS v u)) 0).id ->
 aK (gl (bO.ms (aS v u)) 0).id 1=false/\∃i:Ka,ag (bF 1 (1=1)/\(wH r).now=i.now/\aG 1 1 1 (aF 1 (gp y.wait)) (aa Rg.encI (oD i.w))/\((0:Int)<=i.now/\i.now<(1000:Int)/\bf i.w 1000)/\aB (∃x:jI,aA (ag (uH (bO.n (aS v u)) x.n (bO.n (aS v u)).ws x.n.ws u.p.wc x.p.wc u.p x.p (lI x.n.ws (bO.n (aS v u)).ws) (tE j.q.le x.n.le (i.now+i.w=x.n.now) (aA (Ca (bO.n (aS v u)) x.n (Kg x) (∀m:Qt,bX (fA x.n.now x.n.ws)<=m.wc->aD (cn 60 y.wait) (uR (af (jk x x.n.ws) == (1:Int)) (dm 0 (jk x x.n.ws) 0 (ai (tA.err (Fi x))->uR (tA.err (Fi x) == (10:Int)) (dm 0 (jk x x.n.ws) 0 (ai (tA.id (Fi x))->bz (aC (tA.id (Fi x) == (9:Int)))))))) (ai (gl (bO.ms (aS v u)) 0).id->aD (y.err == (0:Int)) (Exists (az (Km y z f t 14 (Rg.iH z.l z.h) (ay (sX z)) (O8 v u y (rE t.fst t.snd) (rE f.fst f.snd) (bq y.has) m x i j e)))) (Exists (az (Km y z f t 14 (Rg.iH z.l z.h) (ay (sX z)) (O8 v u y cA cA false m x i j e))))/\aB (aD y.other (jQ (gl (bO.ms (aS v u)) 0).id 1 (uR (af (jk x x.n.ws) == (0:Int)) (Exists (Kl z ((gl (bO.ms (aS v u)) 0).id+(1:Int)) y x.n (fA x.n.now x.n.ws) m.wc x.p v u fun s c=>bz (aC (af (cZ (eR s).rs) == (0:Int))))))) (Exists (Kl z (gl (bO.ms (aS v u)) 0).id y x.n (fA x.n.now x.n.ws) m.wc x.p v u fun s c=>Exists (Kl z (gl (bO.ms (aS v u)) 0).id y (eR s).n (eR s).n.ws c.wc s.p v u fun k A=>fR (af (jk x x.n.ws) != (0:Int)) False (af (cZ (eR s).rs) != (1:Int)) ((af (cZ (eR k).rs) != (0:Int))=false /\
 dm 0 (cZ (eR s).rs) 0 (x6 (y.err == (7:Int)) ((6:Int)=mm y.err) (0=0) (bI (aA (bn y.other/\Km y z f t (gl (eR s).rs 0).id (gl (eR s).rs 0).op (fm (gl (eR s).rs 0).key) (ay (gl (eR s).rs 0).err/\fm (gl (eR s).rs 0).val/\bn (gl (eR s).rs 0).has/\bh (bk (eR k).ms) A.mc/\bh (cZ (eR k).rs) A.rc/\O7 (eR k).n (eR k).n.ws A.wc k.p (nM (eR k).ms/\Kk (eR k)/\jR (bk (eR s).ms) c.mc (bh (cZ (eR s).rs) c.rc) 21 (aa cC (eR s).ms) (Kk (eR s)/\mJ 14 (Rg.iH z.l z.h) (sX z) (ay 0) (sV (gl (bO.ms (aS v u)) 0).id (aI (fm cA/\ay y.err/\bI (BD (lJ y) (aI (jR 1 m.mc (bh (jk x x.n.ws) m.rc) 21 (y6 x) (eF (jk x x.n.ws) 6 (aa jT (fK x.n.now x.n.ws))/\WY i v u j e))))))))))))) (y.err=mm y.err)/\aB (Fa (gl (eR s).rs 0).id 9 (gn (gl (eR s).rs 0).key (rE t.fst t.snd)) (ai (gl (eR s).rs 0).op->u9 ((gl (eR s).rs 0).op == (1:Int)) (gl (eR s).rs 0).err ((gl (eR s).rs 0).err == mm y.err) (aD (y.err != (0:Int)) (bz (bn true)) (x6 ((gl (eR s).rs 0).has == y.has) (aC (gn (gl (eR s).rs 0).val (rE f.fst f.snd))) True True (aC false))) (bz (aC false))))))))))))))))))))))))))))))))))))))))) (by kernel_rfl) (by
 delta qp aD mJ uH eF aS ah ai bF aG ay bT bn gF dm ki aK cA x7 af bX bk nL tE bP Ca dG nY bf gA aC BX dW cH bw fc dV zR x6 wM WY dQ u9 fR bp Aa aB bz eH xY bI jR lI eW J6 Kl bJ Km uN aI bh cn oG gJ cZ az mQ fS oH J7 O8 ag nM sX p8 wC pJ BD wh jQ wJ lG jk aA cU bq sK J8 oI rD gn Kj sR Fa uR J9 zf oD lE y6 E9 fm iT gp mG sV bt Kg Kk Fi ee O7
 try dsimp -iota -proj only
 rintro a ⟨hk,he,hv,hw⟩;have hvs:a.v.size<=200:=G3 a.val (n:=200);have hks:a.k.size<=40:=G3 a.key (n:=40);have hkm:a.k.size<=aq:=by unfold aq;omega
 refine⟨(),trivial,fun _ _=>⟨(a.key,40),rfl,rfl,by show(0:Int)<=40;omega,fun _ _=>⟨(a.val,200),rfl,rfl,by show(0:Int)<=200;omega,fun _ _=>⟨a.k,rfl,trivial,fun _ _=>?_⟩⟩⟩⟩;dsimp only;rw[show rE a.key 40=a.k from rfl,show rE a.val 200=a.v from rfl];refine⟨fun _=>⟨(),rfl,trivial,trivial⟩,fun c0=>⟨fun _=>⟨(),rfl,trivial,trivial⟩,fun c1=>⟨fun _=>⟨(),rfl,trivial,trivial⟩,fun c2=>⟨fun _=>⟨(),rfl,trivial,trivial⟩,fun c3=>⟨fun _=>⟨(),rfl,trivial,trivial⟩,fun c4=>⟨fun _=>⟨(),rfl,trivial,trivial⟩,fun c5=>⟨⟨fun _=>a.k,1,1⟩,?_⟩⟩⟩⟩⟩⟩⟩;have hkB:dN a.k=true:=by simpa using c0
 have c1:¬a.err<0:=of_decide_eq_false c1;have c2:¬9<a.err:=of_decide_eq_false c2;have c3:¬a.wait<0:=of_decide_eq_false c3;have c4:¬80<a.wait:=of_decide_eq_false c4;have c5:a.has = !decide (a.v=ByteArray.mk #[]):=by
  revert c5
  cases a.has<;>cases decide (a.v=ByteArray.mk #[])<;>decide
 have hr1:ak 1 1 (aF 1 [Value.string a.k]) (fun(i x:Nat)=>Value.string a.k):=.dB fun i hi=>by
  have:i=0:=by omega
  subst this;rfl
 have hg1:∀i:Nat,i<1->a.k.size<=aq:=fun _ _=>hkm
 and_intros<;>first|exact bY|exact hr1|exact hg1|exact Nat.le_refl 1|(intro h_;revert h_)|exact bZ|skip
 intro _ _;have hr3:ak 3 1 (aF 1 [Value.int .i64 1,Value.int .i64 2,Value.int .i64 3]) (aa Rg.encI vm):=.dB fun i hi=>by
  match i,(show i<3 from hi)with
  |0,_=>rfl
  |1,_=>rfl
  |2,_=>rfl
 have hl3:vm.length<100000:=by decide
 refine⟨⟨vm,3,Rg.eu (fun _=>a.k) 1⟩,?_⟩
 and_intros<;>first|exact bY|exact hr3|exact hl3|exact Nat.le_refl 3|(intro h_;revert h_)|exact bZ|skip
 intro _ _;dsimp only;rw[show Rg.iH vm (Rg.eu (fun _=>a.k) 1)=O6 a.k from rfl];obtain⟨o1,o2⟩:=WX a.k;obtain⟨m1,m2,m3⟩:=abl ⟨o1,o2⟩;have hown:∀ep c1 c2,xJ (pn ep vm c1 c2) a.k=O6 a.k:=YL a.k;generalize O6 a.k=own at *;generalize 1+own.tmod 3=me at *;obtain⟨mpre,hok0⟩:=mY.make (id:=me) (now:=0) (d:=mD 400) (by omega) (by omega) (by decide) rfl (fun _=>none);refine⟨by decide,by simp only[bR];omega,400,rfl,trivial,fun _ _=>⟨EM.mk me 0 (mD 400) fun _=>none,?_⟩⟩
 and_intros<;>first|exact bY|exact mpre.1|exact mpre.2.1|exact mpre.2.2.1|exact mpre.2.2.2.1|exact mpre.2.2.2.2.1|exact mpre.2.2.2.2.2|(intro h_;revert h_)|exact bZ|skip
 obtain⟨n0,hn0⟩:∃n0,n0=wH ⟨me,0,mD 400,fun _=>none⟩:=⟨_,rfl⟩
 rw[<- hn0]at hok0 ⊢;have hw0:n0.ws=[]:=by rw[hn0];rfl
 have hi0:n0.id=me:=by rw[hn0];rfl
 have hnow0:n0.now=0:=by rw[hn0];rfl
 have hbt0:n0.s.bN=n0.s.k.m.bN:=by obtain⟨_,_,o,_⟩:=hok0.one;exact o.bN
 have he0:n0.s.k.m.aZ=0:=by
  have:=(zj (d:=mD 400) (c:=0) (by decide) (Nat.le_refl 0) (by omega) (fun _=>none)).2.2.1;rw[hn0];show(kL (sI ⟨mD 400,fun _=>none⟩)).k.m.aZ=0;rw[this]
 intro b hat0;obtain⟨gr0,hok2,hep2⟩:=hok0.gr hat0 (fZ:=0) (ep:=4) (tick:=0) (l:=vm) (cap:=3) (by rw[hi0];omega) (by rw[he0];omega) (by omega) Fh hw0 (by omega) (by omega);refine⟨nR.mk n0 b 0 4 0 vm 3,?_⟩
 and_intros<;>first|exact bY|exact gr0|exact hr3|exact hi0.symm|exact hnow0|exact Nat.le_refl 3|(intro h_;revert h_)|exact bZ|skip
 rintro⟨p2,rc1,rc2⟩ hat2;obtain⟨n2,hn2⟩:∃n2,n2=SM n0 4 0:=⟨_,rfl⟩
 have eq2:nR.q ⟨n0,b,0,4,0,vm,3⟩=n2:=hn2.symm;have hi2:n2.id=me:=by rw[hn2];exact hi0
 have hw2:n2.ws=[]:=by rw[hn2];rfl
 have hnow2:n0.now=n2.now:=by rw[hn2];rfl
 have hnz2:n2.now=0:=by rw[<- hnow2];exact hnow0
 rw[eq2]at hat2 ⊢;rw[<- hn2]at hok2 hep2;have hbt2:n2.s.bN=n2.s.k.m.bN:=by obtain⟨_,_,o,_⟩:=hok2.one;exact o.bN
 have hmet:=hok2.met;have hnum:=hok2.num;have hrg:(pn 4 vm rc1 rc2).L.length<100000/\0<(pn 4 vm rc1 rc2).L.length:=by
  show(Rg.kj vm).length<100000/\0<(Rg.kj vm).length;rw[Rg.uM Fh];decide
 have hown:=hown 4 rc1 rc2;dsimp only;generalize pn 4 vm rc1 rc2=r at *;have ok3:wP ⟨n2,p2,r,⟨0,9,1,a.k⟩,none⟩:=hok2.ask hat2 hrg hkm fun h=>absurd (show(1:Int)=2 from h) (by decide);refine⟨⟨n2,p2,r,⟨0,9,1,a.k⟩,none⟩,?_⟩
 and_intros<;>first|exact bY|exact ok3|exact hnow2|(intro h_;revert h_)|exact bZ|skip
 rintro b3 hat3;have e3:∀q,lH n2 r ⟨0,9,1,a.k⟩ none q=⟨rB n2 r ⟨0,9,1,a.k⟩,[uP n2 r ⟨0,9,1,a.k⟩],[]⟩:=fun q=>by
  unfold lH;rw[if_neg (by rw[J3 (.inl rfl) hkB];decide),if_pos (by show xJ r a.k≠n2.id;rw[hown,hi2];omega)]
 have hmsg:gl [uP n2 r ⟨0,9,1,a.k⟩] 0=⟨13,me,own,4,0,0,0,n2.s.bN*1048576+(n2.asked+1),1,a.k,0,false,dx,0⟩:=by
  show uP n2 r ⟨0,9,1,a.k⟩=_;unfold uP;dsimp only;rw[hown,hi2,hep2]
 obtain⟨w,hwe⟩:∃w,w=E3 n2 r ⟨0,9,1,a.k⟩:=⟨_,rfl⟩
 have hww:w.w=⟨0,9,1,a.k⟩/\w.id=n2.s.bN*1048576+(n2.asked+1)/\w.to=own/\w.tick=0:=by
  rw[hwe];exact⟨rfl,rfl,hown,hnz2⟩
 have hws:(rB n2 r ⟨0,9,1,a.k⟩).ws=[w]:=by
  show n2.ws++[E3 n2 r ⟨0,9,1,a.k⟩]=_;rw[hw2,<- hwe];rfl
 have hid3:(rB n2 r ⟨0,9,1,a.k⟩).id=me:=hi2;have hs3:(rB n2 r ⟨0,9,1,a.k⟩).s=n2.s:=rfl;have hle3:(rB n2 r ⟨0,9,1,a.k⟩).le=n2.le:=rfl;have hnow3:(rB n2 r ⟨0,9,1,a.k⟩).now=0:=hnz2;obtain⟨id,hide⟩:∃id,id=n2.s.bN*1048576+(n2.asked+1):=⟨_,rfl⟩
 have hidr:1<=id/\id<=1099511627000:=by rw[hide,hbt2];omega
 rw[<- hide]at hmsg hww;dsimp only at hat3 ⊢;rw[e3]at hat3 ⊢;dsimp only at hat3 ⊢;rw[hmsg];generalize rB n2 r ⟨0,9,1,a.k⟩=n3 at *;obtain⟨w1,w2,w3,w4⟩:=hww;have hq:∀(x:pg),(([x].length:Int) != 1)=false:=fun _=>rfl;refine⟨fun c=>absurd ((hq _).symm.trans c) (by decide),fun _=>⟨rfl,lt1 _,YG _,fun _=>⟨fun c=>absurd (show((13:Int) != 13)=true from c) (by decide),fun _ _=>⟨fun c=>by simp at c,fun _ _=>⟨fun c=>by simp at c,fun _=>⟨fun c=>by simp at c,fun _ _=>⟨fun c=>absurd (show((1:Int) != 1)=true from c) (by decide),fun _ _=>⟨fun c=>absurd (show((4:Int) != 4)=true from c) (by decide),fun _ _=>⟨decide_eq_false (show ¬id<1 by omega),Ka.mk 0 a.wait,?_⟩⟩⟩⟩⟩⟩⟩⟩⟩;have hrw:ak 1 1 (aF 1 [Value.int .i64 a.wait]) (aa Rg.encI [a.wait]):=.dB fun i hi=>by
  have:i=0:=by omega
  subst this;rfl
 have d1:0<=a.wait:=by omega
 have d2:a.wait<1000:=by omega
 and_intros<;>first|exact bY|exact hrw|exact hnow0|exact hnz2|exact d1|exact d2|exact Nat.le_refl 1|(intro h_;revert h_)|exact bZ|skip
 intro _ _;have hrdy:n3.s.k.m.ready=0:=by rw[hs3];exact hmet.1
 have hpre:n3.ws.length<1000/\∀x∈n3.ws,x.w.node=0/\bR .i64 (0+a.wait-x.tick):=by
  rw[hws];refine⟨by show 1<1000;omega,fun x hx=>?_⟩;rw[List.mem_singleton]at hx;rw[hx,w1,w4];exact⟨rfl,by simp only[bR];omega⟩
 refine⟨jI.mk { n3 with now:=0+a.wait } b3.p,?_⟩
 and_intros<;>first|exact bY|exact hpre.1|exact hpre.2|exact hle3▸rfl|exact hs3▸rfl|(intro h_;revert h_)|exact bZ|skip
 rintro b4 hkw;dsimp only at hkw ⊢;rw[hws]at hkw ⊢;have hid1:bR .i64 id:=by simp only[bR];omega
 refine⟨fun f=>?_,fun f=>?_⟩
 ·have f:60<=a.wait:=of_decide_eq_true f;have et:fK (0+a.wait) [w]=[Fc w]:=by
   unfold fK;rw[List.filter_cons_of_pos (by rw[w4,decide_eq_false (by omega)];rfl)];rfl
  rw[et,show gl [Fc w] 0=Fc w from rfl];refine⟨fun _=>⟨lt1 _,YG _,fun _=>⟨fun _=>⟨lt1 _,YG _,fun _=>⟨(),?_,trivial,trivial⟩⟩,fun c=>absurd (show((10:Int) == 10)=false from c) (by decide)⟩⟩,fun c=>absurd ((abO _).symm.trans c) (by decide)⟩;show(w.w.id == 9)=true;rw[w1];rfl
 ·have f:¬60<=a.wait:=of_decide_eq_false f;have et:fK (0+a.wait) [w]=[]:=by
   unfold fK;rw[List.filter_cons_of_neg (by rw[w4,decide_eq_true (by omega)];decide)];rfl
  have ek:fA (0+a.wait) [w]=[w]:=by
   unfold fA;rw[List.filter_cons_of_pos (by rw[w4];exact decide_eq_true (by omega))];rfl
  rw[ek]at hkw;rw[et,ek];have hxm:=SJ hkB hvs c5;have hxv:(lJ a).val.size<=aq:=by
   unfold lJ;split
   ·show a.v.size<=aq;unfold aq;omega
   ·decide
  have hkw1:∀x∈[w],x.w.key.size<=aq:=fun x hx=>by
   rw[List.mem_singleton]at hx;rw[hx,w1];exact hkm
  have hl1:[w].length<1000:=by show 1<1000;omega
  have hl0:([]:List dF).length<1000:=by decide
  have hkw0:∀x∈([]:List dF),x.w.key.size<=aq:=fun x hx=>by cases hx
  have mo:∀id',0<=id'/\id'<=1099511627776->∀n p,n.id=me->B9 (SI ⟨n,p,own,id',a.err,lJ a⟩):=fun id' h n p hn=>YN ⟨o1,o2⟩ (by show 1<=n.id/\n.id<=3;omega) (by show n.id≠own;omega) h ⟨by show 0<=a.err;omega,by show a.err<=9;omega⟩ hxm;intro _;refine⟨⟨fun c=>⟨(),?_⟩,fun c=>⟨(),?_⟩⟩,fun _ _=>⟨fun d _=>⟨by simp only[bR];omega,fun _=>⟨qd.mk { n3 with now:=0+a.wait,ws:=[w] } { b3.p with wc:=b4.wc } own (id+1) a.err (lJ a),?_⟩,fun c=>absurd c (by decide)⟩,fun d=>⟨qd.mk { n3 with now:=0+a.wait,ws:=[w] } { b3.p with wc:=b4.wc } own id a.err (lJ a),?_⟩⟩⟩
  ·have ix:lJ a=⟨a.k,a.v,0,!a.has⟩:=if_pos (by simpa using c);rw[ix]
   and_intros<;>first|exact bY|(intro h_;revert h_)|exact bZ|skip
  ·have ix:lJ a=dx:=if_neg (by simpa using c);rw[ix]
   and_intros<;>first|exact bY|(intro h_;revert h_)|exact bZ|skip
  ·have mo1:=mo (id+1) (by omega) { n3 with now:=0+a.wait,ws:=[w] } { b3.p with wc:=b4.wc } hid3;have en:eR ⟨{ n3 with now:=0+a.wait,ws:=[w] },{ b3.p with wc:=b4.wc },own,id+1,a.err,lJ a⟩=⟨{ n3 with now:=0+a.wait,ws:=[w] },[],[]⟩:=Mg fun x hx=>by
    have hx:x∈[w]:=hx;rw[List.mem_singleton]at hx;show x.id≠id+1;rw[hx,w2];omega
   and_intros<;>first|exact bY|exact mo1|exact hl1|exact hkw|exact hkw1|exact hxv|exact hrdy|exact hid3.symm|exact hs3▸rfl|(intro h_;revert h_)|exact bZ|skip
   intro _ _;rw[en];exact⟨(),rfl,trivial,trivial⟩
  ·have mo1:=mo id (by omega) { n3 with now:=0+a.wait,ws:=[w] } { b3.p with wc:=b4.wc } hid3;obtain⟨h,hh⟩:∃h,h=wR w.w ⟨{ n3 with now:=0+a.wait,ws:=[w] },{ b3.p with wc:=b4.wc },own,id,a.err,lJ a⟩:=⟨_,rfl⟩
   have en:eR ⟨{ n3 with now:=0+a.wait,ws:=[w] },{ b3.p with wc:=b4.wc },own,id,a.err,lJ a⟩=⟨{ n3 with now:=0+a.wait,ws:=[] },[],[⟨9,1,a.k,mm a.err,fB (lJ a).val h,h⟩]⟩:=by
    rw[YM rfl w3 w2,<- hh];unfold kN y9 zb;rw[w1];rfl
   and_intros<;>first|exact bY|exact mo1|exact hl1|exact hkw|exact hkw1|exact hxv|exact hrdy|exact hid3.symm|exact hs3▸rfl|(intro h_;revert h_)|exact bZ|skip
   intro b5 hb5;rw[en]at hb5 ⊢;dsimp only at hb5 ⊢;have mo2:=mo id (by omega) { n3 with now:=0+a.wait,ws:=[] } { b3.p with wc:=b5.wc } hid3;have en2:eR ⟨{ n3 with now:=0+a.wait,ws:=[] },{ b3.p with wc:=b5.wc },own,id,a.err,lJ a⟩=⟨{ n3 with now:=0+a.wait,ws:=[] },[],[]⟩:=Mg fun x hx=>by cases hx
   refine⟨qd.mk { n3 with now:=0+a.wait,ws:=[] } { b3.p with wc:=b5.wc } own id a.err (lJ a),?_⟩
   and_intros<;>first|exact bY|exact mo2|exact hl0|exact hb5|exact hkw0|exact hxv|exact hrdy|exact hid3.symm|exact hs3▸rfl|(intro h_;revert h_)|exact bZ|skip
   intro b6 _;rw[en2];dsimp only;refine⟨fun c=>absurd c (by decide),fun _=>⟨fun c=>absurd ((abf _).symm.trans c) (by decide),fun _=>⟨rfl,lt1 _,YG _,⟨fun c=>⟨(),?_⟩,fun c=>⟨(),?_⟩⟩,fun _ _ _=>?_⟩⟩⟩
   ·have e:6=mm a.err:=by unfold mm;rw[if_pos (by simpa using c)]
    and_intros<;>first|exact bY|exact e|(intro h_;revert h_)|exact bZ|skip
   ·have e:a.err=mm a.err:=by unfold mm;rw[if_neg (by simpa using c)]
    and_intros<;>first|exact bY|exact e|(intro h_;revert h_)|exact bZ|skip
   ·rw[show gl [(⟨9,1,a.k,mm a.err,fB (lJ a).val h,h⟩:tA)] 0=⟨9,1,a.k,mm a.err,fB (lJ a).val h,h⟩from rfl];refine⟨fun _=>⟨fun _ _=>⟨fun _ _=>⟨fun _=>⟨fun _=>⟨(),rfl,trivial,trivial⟩,fun c6=>?_⟩,fun c=>by simp at c⟩,fun c=>absurd (show((1:Int) == 1)=false from c) (by decide)⟩,fun c=>absurd rfl (of_decide_eq_false c)⟩,fun c=>absurd (show((9:Int) == 9)=false from c) (by decide)⟩;have h0:a.err=0:=by simpa using c6
    have ix:lJ a=⟨a.k,a.v,0,!a.has⟩:=if_pos h0;have hne:decide (a.k=p6)=false:=decide_eq_false fun h2=>by rw[h2]at hkB;exact absurd hkB (by decide)
    have hha:h=a.has:=by
     rw[hh];unfold wR;dsimp only;rw[ix,w1,h0,hne];cases a.has<;>rfl
    rw[hha,ix];refine⟨fun _=>⟨(),decide_eq_true ?_,trivial,trivial⟩,fun c=>by simp at c⟩;show(if a.has=true then a.v else p6)=a.v;cases hb:a.has with
    |true=>rfl
    |false =>
     rw[hb]at c5;have:decide (a.v=ByteArray.mk #[])=true:=by revert c5;cases decide (a.v=ByteArray.mk #[])<;>decide
     exact(of_decide_eq_true this).symm)
theorem instAsks:∀ads,LP [.str,.int .i64,.str,.bool,.bool,.int .i64] ads->∃a:r9,Mf.pre a/\Mf.args a=Y6 0 ads/\Mf.ro a=Oc 0 [.str,.int .i64,.str,.bool,.bool,.int .i64] ads/\Mf.m=Jy ads:=by
 rintro ads ⟨d1,r1,rfl,⟨s1,rfl,h1⟩,d2,r2,rfl,⟨n2,rfl,h2⟩,d3,r3,rfl,⟨s3,rfl,h3⟩,d4,r4,rfl,⟨b4,rfl⟩,d5,r5,rfl,⟨b5,rfl⟩,d6,r6,rfl,⟨n6,rfl,h6⟩,rfl⟩;exact⟨⟨s1,n2,s3,b4,b5,n6⟩,⟨h1,h2,h3,h6⟩,rfl,rfl,rfl⟩
end Go.Proofs.YtfjgoonelcaggaaGreat
