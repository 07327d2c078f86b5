/-
  
-/
import Derived.Test.YtfhkbihcfmbbcaaGreatStoreNoneP3
import Derived.Test.YtfhkbihcfmbbcaaGreatStoreNoneP2
namespace Go.Proofs.YtfhkbihcfmbbcaaGreat
open Go.Sx
set_option maxRecDepth 100000
set_option linter.unusedVariables false
set_option linter.unusedSimpArgs false
def lastG (L:LogM):SegM:=gl L.l (L.l.length - 1)
def needB (L:LogM) (n:Nat):Bool:=decide (L.l.length=0)||decide (370<(lastG L).buf.length+n)
def appL1 (L:LogM) (n:Nat):LogM:=if needB L n then beginL L else L
def appD1 (L:LogM) (d:DevM) (n:Nat):DevM:=if needB L n then beginD L d else d
def hdrB (n:Nat) (next:Int):List Int:=[uw .u8 (uw .u64 (n:Int) / 256),uw .u8 (uw .u64 (n:Int) / 1),uw .u8 (uw .u64 next / 1099511627776),uw .u8 (uw .u64 next / 4294967296),uw .u8 (uw .u64 next / 16777216),uw .u8 (uw .u64 next / 65536),uw .u8 (uw .u64 next / 256),uw .u8 (uw .u64 next / 1)]
def bufApp (g:SegM) (next:Int) (body:List Int):List Int:=g.buf++hdrB body.length next++body
def segW (g:SegM) (next:Int) (body:List Int):SegM:={ g with buf:=bufApp g next body }
def segApp (g:SegM) (next:Int) (body:List Int):SegM:={ g with buf:=bufApp g next body,recs:=g.recs++[⟨next,body⟩] }
def condS (was now i:Nat):Bool:=decide (was<startS (i+1))&&decide (startS i<now)
def writesTo (L:LogM) (g:SegM) (was:Nat) (d:DevM):Nat->DevM
 | 0=>d
 | i+1=>if condS was g.buf.length i then devWr (writesTo L g was d i) (secNo L g i) 64 (secB g i L.run) else writesTo L g was d i
def putLast (L:LogM) (g:SegM):LogM:={ L with l:=L.l.set (L.l.length - 1) g }
def appL2 (L:LogM) (body:List Int):LogM:={ putLast L (segApp (lastG L) L.next body) with next:=L.next+1,fresh:=false }
def appD2 (L:LogM) (d:DevM) (body:List Int):DevM:=writesTo L (segW (lastG L) L.next body) (lastG L).buf.length d 8
def appL (L:LogM) (body:List Int):LogM:=appL2 (appL1 L body.length) body
def appD (L:LogM) (d:DevM) (body:List Int):DevM:=if (appL1 L body.length).fresh then devFl (appD2 (appL1 L body.length) (appD1 L d body.length) body) else appD2 (appL1 L body.length) (appD1 L d body.length) body
def Step (H:PH) (v:Value) (H':PH) (v':Value):Prop:=∀ x,H x≠none->x∉fpV v->H' x=H x/\x∉fpV v'
theorem Step.trans {H H' H'':PH} {v v' v'':Value} (h:Step H v H' v') (k:Step H' v' H'' v''):Step H v H'' v'':=fun x hx hv=>by
 obtain ⟨h1,h2⟩:=h x hx hv;obtain ⟨k1,k2⟩:=k x (by rw [h1];exact hx) h2;exact ⟨k1.trans h1,k2⟩
theorem app_step {H:PH} {v:Value} {b lo l c:Nat} {cs:List Value} (h:pminusV H v b=none):Step H v (pupd (pminusV H v) b lo cs) (slv b lo l c):=fun x hx hv=>by
 have hxb:x≠b:=fun e=>by rw [<- e,pminusV_ne hv] at h;exact hx h
 exact ⟨by rw [pupd_ne hxb,pminusV_ne hv],by simp [fpV,slv,hxb]⟩
theorem new_step {H:PH} {b lo l c:Nat} {cs:List Value} (h:H b=none):Step H (.slice none 0 0) (pupd H b lo cs) (slv b lo l c):=app_step (H:=H) (v:=.slice none 0 0) h
theorem slAt_new {H:PH} {b lo l c:Nat} {ks:List CK} {cs:List Value} {rows rows':Nat->Nat->Value} (hl:cs.length=c*ks.length) (h1:l<=c) (h2:c<=lenMax) (hp:PRows cs 0 ks l rows) (he:∀ i,i<l->∀ j,j<ks.length->rows i j=rows' i j):slAt (pupd H b lo cs) (slv b lo l c) ks l c rows' :=
 .inr ⟨b,lo,0,cs,by rw [Nat.add_zero],⟨h1,h2⟩,pupd_self ..,by omega,⟨fun i hi j k hj=>by
  have:=hp.at_ i hi j k hj;rw [he i hi j (List.getElem?_eq_some_iff.1 hj).1] at this;exact this⟩⟩
theorem fpV_nodup (v:Value):(fpV v).Nodup:=by
 unfold fpV;split<;>simp
def Fr (H:PH) (y:SegL) (H':PH) (y':SegL):Prop:=∀ x,H x≠none->x∉fpSeg y->H' x=H x/\x∉fpSeg y'
theorem Fr.trans {H H' H'':PH} {y y' y'':SegL} (h:Fr H y H' y') (k:Fr H' y' H'' y''):Fr H y H'' y'':=fun x hx hv=>by
 obtain ⟨h1,h2⟩:=h x hx hv;obtain ⟨k1,k2⟩:=k x (by rw [h1];exact hx) h2;exact ⟨k1.trans h1,k2⟩
theorem nd_seg {y:SegL}:(fpSeg y).Nodup↔(y.b∉fpV y.bv/\y.b∉fpV y.rv/\y.b∉y.vs.flatMap fpV)/\(∀ x∈fpV y.bv,x∉fpV y.rv/\x∉y.vs.flatMap fpV)/\(∀ x∈fpV y.rv,x∉y.vs.flatMap fpV)/\(y.vs.flatMap fpV).Nodup:=by
 unfold fpSeg;rw [List.nodup_cons,List.nodup_append,List.nodup_append];have a1:=fpV_nodup y.bv;have a2:=fpV_nodup y.rv;simp only [List.mem_append,not_or,a1,a2,true_and];constructor
 ·rintro ⟨h1,⟨h3,h4⟩,h2⟩;exact ⟨h1,fun x hx=>⟨fun e=>h2 x hx x (.inl e) rfl,fun e=>h2 x hx x (.inr e) rfl⟩,fun x hx e=>h4 x hx x e rfl,h3⟩
 ·rintro ⟨h1,h2,h3,h4⟩;refine ⟨h1,⟨h4,fun a ha b hb e=>h3 a ha (by rw [e];exact hb)⟩,fun a ha b hb e=>?_⟩;subst e;rcases hb with hb|hb
  ·exact (h2 a ha).1 hb
  ·exact (h2 a ha).2 hb
theorem seg_setbuf {X0 X2:PH} {y:SegL} {g:SegM} {v2:Value} {buf:List Int} (h:SegNd X0 y g) (hs:Step X0 y.bv X2 v2) (hb:BytesAt X2 v2 buf) :
 X2 y.b=some (0,segC g y.bv y.rv)/\SegNd (pupd X2 y.b 0 (segC { g with buf:=buf } v2 y.rv)) { y with bv:=v2 } { g with buf:=buf }/\Fr X0 y (pupd X2 y.b 0 (segC { g with buf:=buf } v2 y.rv)) { y with bv:=v2 }:=by
 have hd:=h.at_.dom;obtain ⟨⟨n1,n2,n3⟩,n4,n5,n6⟩:=nd_seg.1 h.nd;have s1:∀ x∈fpSeg y,x∉fpV y.bv->X2 x=X0 x/\x∉fpV v2:=fun x hx hv=>hs x (hd x hx) hv;have hbm:y.b∈fpSeg y:=List.mem_cons_self;obtain ⟨c1,c2⟩:=s1 y.b hbm n1;have hrv:∀ x∈fpV y.rv,x∈fpSeg y/\x∉fpV y.bv:=fun x hx=>⟨by simp [fpSeg,hx],fun e=>(n4 x e).1 hx⟩
 have hvs:∀ x∈y.vs.flatMap fpV,x∈fpSeg y/\x∉fpV y.bv:=fun x hx=>⟨List.mem_cons_of_mem _ (List.mem_append_right _ (List.mem_append_right _ hx)),fun e=>(n4 x e).2 hx⟩
 have same:∀ x,x≠y.b->(x∈fpV y.rv\/x∈y.vs.flatMap fpV)->pupd X2 y.b 0 (segC { g with buf:=buf } v2 y.rv) x=X0 x:=fun x hx h=>by
  rw [pupd_ne hx];rcases h with h|h
  ·exact (s1 x (hrv x h).1 (hrv x h).2).1
  ·exact (s1 x (hvs x h).1 (hvs x h).2).1
 refine ⟨c1.trans h.at_.cell,⟨⟨pupd_self ..,h.at_.rng,hb.frame fun x hx=>pupd_ne fun e=>c2 (by rw [<- e];exact hx),?_,h.at_.len,fun i hi=>(h.at_.body i hi).frame fun x hx=>?_⟩,?_⟩,?_⟩
 ·obtain ⟨c,hr⟩:=h.at_.recs;exact ⟨c,slAt_frame hr fun x hx=>same x (fun e=>n2 (by rw [<- e];exact hx)) (.inl hx)⟩
 ·have hm:x∈y.vs.flatMap fpV:=by
   refine List.mem_flatMap.2 ⟨_,?_,hx⟩;have hl:=h.at_.len;have hi':i<g.recs.length:=hi;rw [List.getD_eq_getElem?_getD,List.getElem?_eq_getElem (by omega)];exact List.getElem_mem _
  exact same x (fun e=>n3 (by rw [<- e];exact hm)) (.inr hm)
 ·refine nd_seg.2 ⟨⟨c2,n2,n3⟩,fun x hx=>⟨fun e=>?_,fun e=>?_⟩,n5,n6⟩
  ·exact (s1 x (hrv x e).1 (hrv x e).2).2 hx
  ·exact (s1 x (hvs x e).1 (hvs x e).2).2 hx
 ·intro x hx hn;simp only [fpSeg,List.mem_cons,List.mem_append,not_or] at hn ⊢;obtain ⟨a1,a2⟩:=hs x hx hn.2.1;exact ⟨by rw [pupd_ne hn.1,a1],hn.1,a2,hn.2.2⟩
theorem seg_setrecs {X3 X4 X5:PH} {y:SegL} {g:SegM} {v3 v4:Value} {r:RecM} (h:SegNd X3 y g) (hs:Step X3 (.slice none 0 0) X4 v3) (hb:BytesAt X4 v3 r.body) (hs2:Step X4 y.rv X5 v4)
 (hd4:∀ x∈fpV v3,X4 x≠none) (hr:∃ c,slAt X5 v4 ksRec (g.recs.length+1) c (recR (g.recs++[r]) (y.vs++[v3]))) :
 X4 y.b=some (0,segC g y.bv y.rv)/\X5 y.b=some (0,segC g y.bv y.rv)/\SegNd (pupd X5 y.b 0 (segC { g with recs:=g.recs++[r] } y.bv v4)) ⟨y.b,y.bv,v4,y.vs++[v3]⟩ { g with recs:=g.recs++[r] } /\
 Fr X3 y (pupd X5 y.b 0 (segC { g with recs:=g.recs++[r] } y.bv v4)) ⟨y.b,y.bv,v4,y.vs++[v3]⟩:=by
 have hd:=h.at_.dom;obtain ⟨⟨n1,n2,n3⟩,n4,n5,n6⟩:=nd_seg.1 h.nd;have s1:∀ x,X3 x≠none->X4 x=X3 x/\x∉fpV v3:=fun x hx=>hs x hx (by simp [fpV]);have s2:∀ x,X3 x≠none->x∉fpV y.rv->X5 x=X3 x/\x∉fpV v3/\x∉fpV v4:=fun x hx hv=>by
  obtain ⟨a1,a2⟩:=s1 x hx;obtain ⟨b1,b2⟩:=hs2 x (by rw [a1];exact hx) hv;exact ⟨b1.trans a1,a2,b2⟩
 have hbm:y.b∈fpSeg y:=List.mem_cons_self;have hbv:∀ x∈fpV y.bv,x∈fpSeg y/\x∉fpV y.rv:=fun x hx=>⟨by simp [fpSeg,hx],(n4 x hx).1⟩
 have hvs:∀ x∈y.vs.flatMap fpV,x∈fpSeg y/\x∉fpV y.rv:=fun x hx=>⟨List.mem_cons_of_mem _ (List.mem_append_right _ (List.mem_append_right _ hx)),fun e=>n5 x e hx⟩
 have hrv:∀ x∈fpV y.rv,x∈fpSeg y:=fun x hx=>by simp [fpSeg,hx]
 obtain ⟨c1,c2,c3⟩:=s2 y.b (hd _ hbm) n2;have hv3rv:∀ x∈fpV v3,x∉fpV y.rv:=fun x hx e=>(s1 x (hd x (hrv x e))).2 hx;have hv3:∀ x∈fpV v3,X5 x=X4 x/\x∉fpV v4:=fun x hx=>hs2 x (hd4 x hx) (hv3rv x hx);have same:∀ x∈fpSeg y,x≠y.b->x∉fpV y.rv->pupd X5 y.b 0 (segC { g with recs:=g.recs++[r] } y.bv v4) x=X3 x:=fun x hx h1 h2=>by
  rw [pupd_ne h1];exact (s2 x (hd x hx) h2).1
 have hl:=h.at_.len;refine ⟨(s1 _ (hd _ hbm)).1.trans h.at_.cell,c1.trans h.at_.cell,⟨⟨pupd_self ..,h.at_.rng,h.at_.buf.frame fun x hx=>same x (hbv x hx).1 (fun e=>n1 (by rw [<- e];exact hx)) (hbv x hx).2,?_,?_,?_⟩,?_⟩,?_⟩
 ·obtain ⟨c,hr⟩:=hr;refine ⟨c,?_⟩;simp only [List.length_append,List.length_singleton];exact slAt_frame hr fun x hx=>pupd_ne fun e=>c3 (by rw [<- e];exact hx)
 ·simp [hl]
 ·intro i hi;simp only [List.length_append,List.length_singleton] at hi;show BytesAt _ ((y.vs++[v3]).getD i undef) (gl (g.recs++[r]) i).body;rw [gl_app hi];by_cases hin:i<g.recs.length
  ·rw [if_pos hin];have e1:(y.vs++[v3]).getD i undef=y.vs.getD i undef:=by
    rw [List.getD_eq_getElem?_getD,List.getElem?_append_left (by omega),List.getD_eq_getElem?_getD]
   rw [e1];refine (h.at_.body i hin).frame fun x hx=>?_;have hm:x∈y.vs.flatMap fpV:=by
    refine List.mem_flatMap.2 ⟨_,?_,hx⟩;rw [List.getD_eq_getElem?_getD,List.getElem?_eq_getElem (by omega)];exact List.getElem_mem _
   exact same x (hvs x hm).1 (fun e=>n3 (by rw [<- e];exact hm)) (hvs x hm).2
  ·rw [if_neg hin];have e1:(y.vs++[v3]).getD i undef=v3:=by
    rw [List.getD_eq_getElem?_getD,List.getElem?_append_right (by omega),show i - y.vs.length=0 by omega];rfl
   rw [e1];refine hb.frame fun x hx=>?_;rw [pupd_ne (fun e=>c2 (by rw [<- e];exact hx)),(hv3 x hx).1]
 ·refine nd_seg.2 ⟨⟨n1,c3,?_⟩,fun x hx=>⟨?_,?_⟩,fun x hx=>?_,?_⟩
  ·simp only [List.flatMap_append,List.mem_append,not_or];exact ⟨n3,by simpa using c2⟩
  ·exact (s2 x (hd x (hbv x hx).1) (hbv x hx).2).2.2
  ·simp only [List.flatMap_append,List.mem_append,not_or];exact ⟨(n4 x hx).2,by simpa using (s2 x (hd x (hbv x hx).1) (hbv x hx).2).2.1⟩
  ·simp only [List.flatMap_append,List.mem_append,not_or];exact ⟨fun e=>(s2 x (hd x (hvs x e).1) (hvs x e).2).2.2 hx,fun e=>(hv3 x (by simpa using e)).2 hx⟩
  ·simp only [List.flatMap_append,List.nodup_append];refine ⟨n6,by simpa using fpV_nodup v3,fun a ha b hb e=>?_⟩;subst e;exact (s1 a (hd a (hvs a ha).1)).2 (by simpa using hb)
 ·intro x hx hn;simp only [fpSeg,List.mem_cons,List.mem_append,not_or] at hn;obtain ⟨a1,a2,a3⟩:=s2 x hx hn.2.2.1;refine ⟨by rw [pupd_ne hn.1,a1],?_⟩;simp only [fpSeg,List.mem_cons,List.mem_append,not_or,List.flatMap_append];exact ⟨hn.1,hn.2.1,a3,hn.2.2.2,by simpa using a2⟩
theorem sub_flatMap {α β:Type} {f:α->List β}:∀ {l:List α} {a:α},a∈l->(f a).Sublist (l.flatMap f)
 | [],_,h=>by cases h
 | x::r,a,h=>by
  rw [List.flatMap_cons];rcases List.mem_cons.1 h with rfl|h
  ·exact List.sublist_append_left _ _
  ·exact (sub_flatMap h).trans (List.sublist_append_right _ _)
theorem LogAt.segNd {H:PH} {y:LogL} {L:LogM} (h:LogAt H y L) {k:Nat} (hk:k<L.l.length):SegNd H (gl y.ys k) (gl L.l k):=by
 refine ⟨h.seg k hk,?_⟩;have hk':k<y.ys.length:=by rw [h.len];exact hk
 refine (List.nodup_append.1 h.nd).2.1.sublist (sub_flatMap ?_);rw [gl_eq hk'];exact List.getElem_mem _
theorem gl_set {α:Type} [Inhabited α] {l:List α} {k i:Nat} {x:α} (hi:i<l.length):gl (l.set k x) i=if i=k then x else gl l i:=by
 unfold gl;rw [List.getD_eq_getElem?_getD,List.getElem?_set];by_cases h:i=k
 ·subst h;simp [hi]
 ·rw [if_neg (fun e=>h e.symm),if_neg h,List.getD_eq_getElem?_getD]
theorem LogAt.set {H H':PH} {y:LogL} {L:LogM} {k:Nat} {sl:SegL} {g:SegM} (h:LogAt H y L) (hk:k<L.l.length) (hb:sl.b=(gl y.ys k).b) (hg:SegNd H' sl g) (hf:Fr H (gl y.ys k) H' sl) :
 LogAt H' ⟨y.lv,y.ys.set k sl⟩ { L with l:=L.l.set k g }/\∀ x,H x≠none->x∉fpLog y->H' x=H x/\x∉fpLog ⟨y.lv,y.ys.set k sl⟩:=by
 have hk':k<y.ys.length:=by rw [h.len];exact hk
 have hd:=h.dom;obtain ⟨A,B,e1,e2,hA⟩:∃ A B,y.ys=A++gl y.ys k::B/\y.ys.set k sl=A++sl::B/\A.length=k:=by
  refine ⟨y.ys.take k,y.ys.drop (k+1),?_,?_,by simp;omega⟩
  ·rw [gl_eq hk'];simp
  ·rw [List.set_eq_take_append_cons_drop,if_pos hk']
 obtain ⟨s,hs⟩:∃ s,s=gl y.ys k:=⟨_,rfl⟩
 rw [<- hs] at e1 hb hf;have F1:y.ys.flatMap fpSeg=A.flatMap fpSeg++(fpSeg s++B.flatMap fpSeg):=by rw [e1];simp
 have F2:(y.ys.set k sl).flatMap fpSeg=A.flatMap fpSeg++(fpSeg sl++B.flatMap fpSeg):=by rw [e2];simp
 have hnd:=h.nd;rw [F1] at hnd;simp only [List.nodup_append,List.mem_append] at hnd;obtain ⟨n1,⟨n2,⟨n3,n4,n5⟩,n6⟩,n7⟩:=hnd;have oV:∀ x∈fpV y.lv,H' x=H x/\x∉fpSeg sl:=fun x hx=>hf x (hd x (List.mem_append_left _ hx)) fun e=>n7 x hx x (.inr (.inl e)) rfl;have oA:∀ x∈A.flatMap fpSeg,H' x=H x/\x∉fpSeg sl:=fun x hx=>hf x (hd x (List.mem_append_right _ (by rw [F1];exact List.mem_append_left _ hx))) fun e=>n6 x hx x (.inl e) rfl;have oB:∀ x∈B.flatMap fpSeg,H' x=H x/\x∉fpSeg sl:=fun x hx=>hf x (hd x (List.mem_append_right _ (by rw [F1];exact List.mem_append_right _ (List.mem_append_right _ hx)))) fun e=>n5 x e x hx rfl;refine ⟨⟨?_,by simp [h.len],?_,?_⟩,?_⟩
 ·obtain ⟨c,hl⟩:=h.lst;refine ⟨c,?_⟩;simp only [List.length_set];have hl2:=slAt_frame (H':=H') hl fun x hx=>(oV x hx).1;have he:∀ i,i<L.l.length->ptrR y.ys i 0=ptrR (y.ys.set k sl) i 0:=fun i hi=>by
   simp only [ptrR];rw [gl_set (by rw [h.len];exact hi)];by_cases hik:i=k
   ·subst hik;rw [if_pos rfl,hb,hs]
   ·rw [if_neg hik]
  rcases hl2 with hz | ⟨b,lo,o,cs,g1,g2,g3,g4,g5⟩
  ·exact .inl hz
  ·refine .inr ⟨b,lo,o,cs,g1,g2,g3,g4,⟨fun i hi j q hj=>?_⟩⟩;have hj0:j=0:=by have:=(List.getElem?_eq_some_iff.1 hj).1;simpa using this
   subst hj0;have:=g5.at_ i hi 0 q hj;rw [he i hi] at this;exact this
 ·intro i hi;simp only [List.length_set] at hi;show SegAt H' (gl (y.ys.set k sl) i) (gl (L.l.set k g) i);rw [gl_set (by rw [h.len];exact hi),gl_set hi];by_cases hik:i=k
  ·rw [if_pos hik,if_pos hik];exact hg.at_
  ·rw [if_neg hik,if_neg hik];refine (h.seg i hi).frame fun x hx=>?_;have hm:gl y.ys i∈A\/gl y.ys i∈B:=by
    have hi':i<y.ys.length:=by rw [h.len];exact hi
    have e3:gl y.ys i=gl (A++s::B) i:=by rw [<- e1]
    rcases Nat.lt_or_ge i k with hlt|hge
    ·left;rw [e3,gl_append_left (by omega),gl_eq (by omega)];exact List.getElem_mem _
    ·right;have hlen:y.ys.length=A.length+(B.length+1):=by rw [e1];simp
     rw [e3,show i=A.length+((i - k - 1)+1) by omega,gl_append_right];have:gl (s::B) (i - k - 1+1)=gl B (i - k - 1):=by simp [gl]
     rw [this,gl_eq (by omega)];exact List.getElem_mem _
   rcases hm with hm|hm
   ·exact (oA x (List.mem_flatMap.2 ⟨_,hm,hx⟩)).1
   ·exact (oB x (List.mem_flatMap.2 ⟨_,hm,hx⟩)).1
 ·show (fpV y.lv++(y.ys.set k sl).flatMap fpSeg).Nodup;rw [F2];simp only [List.nodup_append,List.mem_append];refine ⟨n1,⟨n2,⟨hg.nd,n4,fun a ha b hb e=>?_⟩,fun a ha b hb e=>?_⟩,fun a ha b hb e=>?_⟩
  ·subst e;exact (oB a hb).2 ha
  ·subst e;rcases hb with hb|hb
   ·exact (oA a ha).2 hb
   ·exact n6 a ha a (.inr hb) rfl
  ·subst e;rcases hb with hb|hb|hb
   ·exact n7 a ha a (.inl hb) rfl
   ·exact (oV a ha).2 hb
   ·exact n7 a ha a (.inr (.inr hb)) rfl
 ·intro x hx hn;have hn1:x∉fpV y.lv:=fun e=>hn (List.mem_append_left _ e);have hn2:x∉A.flatMap fpSeg/\x∉fpSeg s/\x∉B.flatMap fpSeg:=by
   have:x∉y.ys.flatMap fpSeg:=fun e=>hn (List.mem_append_right _ e);rw [F1] at this;simpa only [List.mem_append,not_or] using this
  obtain ⟨a1,a2⟩:=hf x hx hn2.2.1;refine ⟨a1,?_⟩;show x∉fpV y.lv++(y.ys.set k sl).flatMap fpSeg;rw [F2];simp only [List.mem_append,not_or];exact ⟨hn1,hn2.1,a2,hn2.2.2⟩
def plTag (s:S):Nat:=match findPl s.hp with|some t=>t|none=>0
def S.log (s:S) (slot:Nat) (L:LogM) (lv:Value) (d:DevM) (H:PH):S :=
 (fun (q:S)=>(q.put (q.hp.del (plTag q))).new (.pool H))
  (((s.at_ (s.tg slot) (logObj (s.in_ (s.tg slot) 0) L lv)).at_ (s.in_ (s.tg slot) 0) (.obj 83 [.slc (s.in_ (s.in_ (s.tg slot) 0) 0) 0 129 d.n d.n,.int .i64 d.calls])).at_ (s.in_ (s.in_ (s.tg slot) 0) 0) (.arr 86 ksSec d.n (rowsD d)))
def S.dev (s:S) (td:Nat) (d:DevM):S:=(s.at_ td (.obj 83 [.slc (s.in_ td 0) 0 129 d.n d.n,.int .i64 d.calls])).at_ (s.in_ td 0) (.arr 86 ksSec d.n (rowsD d))
structure LogOk (L:LogM) (d:DevM):Prop where
 few:L.l.length<800
 segs:3<=L.segs/\L.segs<=200
 room:L.from_+L.segs*8<=d.n
 size:d.n<100000
 calls:d.calls<900000000000
 next:0<=L.next/\L.next<100000000000
 gen:∀ i,i<L.l.length->1<=(gl L.l i).gen/\(gl L.l i).gen<100000000000
 buf:∀ i,i<L.l.length->(gl L.l i).buf.length<=378
 recs:∀ i,i<L.l.length->(gl L.l i).recs.length*9<=(gl L.l i).buf.length
structure Log1 (L L1:LogM) (d d1:DevM) (n:Nat):Prop where
 pos:1<=L1.l.length
 few:L1.l.length<=801
 from_:L1.from_=L.from_
 segs:L1.segs=L.segs
 next:L1.next=L.next
 run:L1.run=L.run
 fresh:L1.fresh=L.fresh
 dn:d1.n=d.n
 calls:d1.calls<=d.calls+2
 gen:∀ i,i<L1.l.length->1<=(gl L1.l i).gen/\(gl L1.l i).gen<=100000000000
 buf:∀ i,i<L1.l.length->(gl L1.l i).buf.length<=378
 recs:∀ i,i<L1.l.length->(gl L1.l i).recs.length*9<=(gl L1.l i).buf.length
 last:(lastG L1).buf.length+n<=370
theorem newSeg_gen {L:LogM} {d:DevM} (ok:LogOk L d):1<=(newSeg L).gen/\(newSeg L).gen<=100000000000:=by
 by_cases h:L.l.length=0
 ·have:L.l=[]:=List.eq_nil_of_length_eq_zero h;simp only [newSeg,this,List.getLast?_nil];omega
 ·have hk:L.l.length - 1<L.l.length:=by omega
  have e:L.l.getLast? = some (gl L.l (L.l.length - 1)):=by rw [gl_eq hk,List.getLast?_eq_getElem?,List.getElem?_eq_getElem hk]
  have:=ok.gen _ hk;simp only [newSeg,e];omega
theorem keepN_mem {L:LogM} {i:Nat} (h:i<(keepN L).length):∃ j,j<L.l.length/\gl (keepN L) i=gl L.l j:=by
 have hm:gl (keepN L) i∈L.l:=by rw [gl_eq h];exact (List.mem_filter.1 (List.getElem_mem h)).1
 obtain ⟨j,hj,e⟩:=List.getElem_of_mem hm;exact ⟨j,hj,by rw [gl_eq hj];exact e.symm⟩
theorem keepN_le (L:LogM):(keepN L).length<=L.l.length:=List.length_filter_le _ _
theorem appL1_ok {L:LogM} {d:DevM} {n:Nat} (ok:LogOk L d) (hn:n<=300):Log1 L (appL1 L n) d (appD1 L d n) n:=by
 have hf:=ok.few;cases hB:needB L n with
 | false =>
  rw [show appL1 L n=L from if_neg (by rw [hB];decide),show appD1 L d n=d from if_neg (by rw [hB];decide)];simp only [needB,Bool.or_eq_false_iff,decide_eq_false_iff_not] at hB;exact ⟨by omega,by omega,rfl,rfl,rfl,rfl,rfl,rfl,by omega,fun i hi=>by have:=ok.gen i hi;omega,ok.buf,ok.recs,by omega⟩
 | true =>
  rw [show appL1 L n=beginL L from if_pos hB,show appD1 L d n=beginD L d from if_pos hB];have hln:(beginL L).l.length=(keepN L).length+1:=by simp [beginL]
  have hkl:=keepN_le L;have hg:=newSeg_gen ok;have hgl:∀ i,i<(keepN L).length+1->gl (beginL L).l i=if i<(keepN L).length then gl (keepN L) i else newSeg L:=fun i hi=>by simp only [beginL];exact gl_app hi
  refine ⟨by omega,by omega,rfl,rfl,rfl,rfl,rfl,rfl,by simp [beginD,devFl,devWr],fun i hi=>?_,fun i hi=>?_,fun i hi=>?_,?_⟩
  ·rw [hgl i (by omega)];split
   ·obtain ⟨j,hj,e⟩:=keepN_mem (L:=L) (i:=i) (by assumption);rw [e];have:=ok.gen j hj;omega
   ·exact hg
  ·rw [hgl i (by omega)];split
   ·obtain ⟨j,hj,e⟩:=keepN_mem (L:=L) (i:=i) (by assumption);rw [e];exact ok.buf j hj
   ·simp [newSeg]
  ·rw [hgl i (by omega)];split
   ·obtain ⟨j,hj,e⟩:=keepN_mem (L:=L) (i:=i) (by assumption);rw [e];exact ok.recs j hj
   ·simp [newSeg]
  ·have:lastG (beginL L)=newSeg L:=by
    show gl (beginL L).l ((beginL L).l.length - 1)=_;rw [hgl _ (by omega),if_neg (by omega)]
   rw [this];simp [newSeg];omega
theorem writesTo_n (L:LogM) (g:SegM) (was:Nat) (d:DevM):∀ i,(writesTo L g was d i).n=d.n/\(writesTo L g was d i).calls<=d.calls+i
 | 0=>⟨rfl,Nat.le_refl _⟩
 | i+1=>by
  have:=writesTo_n L g was d i;unfold writesTo;split
  ·simp only [devWr];omega
  ·omega
structure AppA where
 H:PH
 y:LogL
 L:LogM
 d:DevM
 body:List Int
 cap:Nat
noncomputable def cAppend:Con where
 α:=AppA
 β:=BegB
 m:=5
 m':=6
 pre:=fun a=>LogAt a.H a.y a.L/\LogOk a.L a.d/\1<=a.body.length/\a.body.length<=300
 args:=fun a=>[.a (.ptr 0 0 0 0),.a (.slc 4 0 1 a.body.length a.cap)]
 hp:=fun a=>[(0,logObj 1 a.L a.y.lv)]++devHp 1 2 a.d++[(3,.pool a.H)]
 ro:=fun a=>byteHp 4 a.body
 post:=fun a b=>LogAt b.H b.y (appL a.L a.body)/\∀ x,a.H x≠none->x∉fpLog a.y->b.H x=a.H x/\x∉fpLog b.y
 res:=fun a _=>.tup [.a (.int .i64 a.L.next),.a (.lit .i64 0)]
 hp':=fun a b=>[(0,logObj 1 (appL a.L a.body) b.y.lv)]++devHp 1 2 (appD a.L a.d a.body)++[(5,.pool b.H)]
def iAppW (a:AppA):An:=.flat 17 Nat (fun s i=>S.dev (s.int 95 i) (s.in_ (s.tg 0) 0) (writesTo (appL1 a.L a.body.length) (segW (lastG (appL1 a.L a.body.length)) a.L.next a.body) (lastG (appL1 a.L a.body.length)).buf.length (appD1 a.L a.d a.body.length) i)) (fun _ i=>i<=8) (fun _ i=>8 - i)
def iAppC (a:AppA):An:=.mk 10 (PH × LogL) (fun s x=>S.log s 0 (appL1 a.L a.body.length) x.2.lv (appD1 a.L a.d a.body.length) x.1) (fun _ x=>LogAt x.1 x.2 (appL1 a.L a.body.length)/\∀ z,a.H z≠none->z∉fpLog a.y->x.1 z=a.H z/\z∉fpLog x.2) (fun _ _=>0) fun _=>.mk 1000 [iAppW a] []
set_option maxHeartbeats 4000000 in
theorem bodyAppend:fnBody (Y Tryz.prog) [(76,cBegin),(79,cWrite),(72,cDevFlush)] 53 cAppend fun a=>[(53,[iAppW a],[iAppC a])]:=fnBody.of (p :=
 ∀ a:AppA,LogAt a.H a.y a.L/\LogOk a.L a.d/\1<=a.body.length/\a.body.length<=300->(decide ((↑a.body.length:Int)<1)=true->∃ b:BegB,(0:Int)=a.L.next/\(1:Int)=0/\a.H=b.H/\0=0/\logQ a.L (appL a.L a.body) a.y.lv b.y.lv (devQ a.d (appD a.L a.d a.body) ((LogAt b.H b.y (appL a.L a.body)/\∀ x:Nat,a.H x≠none->¬x∈fpLog a.y->b.H x=a.H x/\¬x∈fpLog b.y)/\True)))/\(decide ((↑a.body.length:Int)<1)=false->(decide (300<(↑a.body.length:Int))=true->∃ b:BegB,(0:Int)=a.L.next/\(1:Int)=0/\a.H=b.H/\0=0/\logQ a.L (appL a.L a.body) a.y.lv b.y.lv (devQ a.d (appD a.L a.d a.body) ((LogAt b.H b.y (appL a.L a.body)/\∀ x:Nat,a.H x≠none->¬x∈fpLog a.y->b.H x=a.H x/\¬x∈fpLog b.y)/\True)))/\(decide (300<(↑a.body.length:Int))=false->((∃ a_4:Option Go.Addr,∃ l c:Nat,a.y.lv=Value.slice a_4 l c/\l<=lenMax)/\(((↑(slLen a.y.lv):Int) == 0)=true->∃ a_5:BegA,0=0/\0=0/\logQ a.L a_5.L a.y.lv a_5.y.lv (devQ a.d a_5.d (a.H=a_5.H/\(LogAt a_5.H a_5.y a_5.L/\a_5.L.l.length<900/\3<=a_5.L.segs/\a_5.L.segs<=200/\a_5.L.from_+a_5.L.segs*8<=a_5.d.n/\a_5.d.n<100000/\a_5.d.calls<999999999999/\InR .i64 a_5.L.next/\(newSeg a_5.L).gen<(1000000000000:Int)/\(1:Int)<=(newSeg a_5.L).gen)/\∀ b:BegB,(LogAt b.H b.y (beginL a_5.L)/\∀ x:Nat,a_5.H x≠none->¬x∈fpLog a_5.y->b.H x=a_5.H x/\¬x∈fpLog b.y)->∃ a_7:PH × LogL,decide (300<(↑a.body.length:Int))=decide (300<(↑a.body.length:Int)) /\
 false=false/\(0:Int)=0/\(0:Int)=0/\0=0/\(0=0/\a.body.length=a.body.length/\a.cap=a.cap)/\b.H=a_7.fst/\0=0/\logQ (beginL a_5.L) (appL1 a.L a.body.length) b.y.lv a_7.snd.lv (devQ (beginD a_5.L a_5.d) (appD1 a.L a.d a.body.length) ((a.body.length<=a.body.length/\RowsEq a.body.length 1 (encRows encB a.body) (encRows encB a.body))/\(LogAt a_7.fst a_7.snd (appL1 a.L a.body.length)/\∀ z:Nat,a.H z≠none->¬z∈fpLog a.y->a_7.fst z=a.H z/\¬z∈fpLog a_7.snd)/\True)))))/\(((↑(slLen a.y.lv):Int) == 0)=false->InR .i64 ((↑(slLen a.y.lv):Int) - 1)/\∃ b o:Nat,∃ l c:Nat,a.y.lv=slv b o l c/\(0<=(↑(slLen a.y.lv):Int) - 1/\(↑(slLen a.y.lv):Int) - 1<(↑l:Int))/\∃ b_1 lo o_1:Nat,∃ cs:List Value,pv b (o+((↑(slLen a.y.lv):Int) - 1).toNat*1)=pv b_1 (lo+o_1)/\a.H b_1=some (lo,cs)/\((∃ v:Value,cs[o_1]? = some v/\v.oneCell'=true)/\True)/\∃ b o:Nat,cs.getD o_1 (Value.tuple #[])=pv b o/\∃ b_2 o_2:Nat,pv b o=pv b_2 o_2/\∃ b lo o:Nat,∃ cs:List Value,pv b_2 (o_2+3)=pv b (lo+o)/\a.H b=some (lo,cs)/\((∃ v:Value,cs[o]? = some v/\v.oneCell'=true)/\True)/\(∃ a:Option Go.Addr,∃ l c:Nat,cs.getD o (Value.tuple #[])=Value.slice a l c/\l<=lenMax)/\InR .i64 ((370:Int) - (↑a.body.length:Int))/\(decide ((370:Int) - (↑a.body.length:Int)<(↑(slLen (cs.getD o (Value.tuple #[]))):Int))=true->∃ a_6:BegA,0=0/\0=0/\logQ a.L a_6.L a.y.lv a_6.y.lv (devQ a.d a_6.d (a.H=a_6.H /\
 (LogAt a_6.H a_6.y a_6.L/\a_6.L.l.length<900/\3<=a_6.L.segs/\a_6.L.segs<=200/\a_6.L.from_+a_6.L.segs*8<=a_6.d.n/\a_6.d.n<100000/\a_6.d.calls<999999999999/\InR .i64 a_6.L.next/\(newSeg a_6.L).gen<(1000000000000:Int)/\(1:Int)<=(newSeg a_6.L).gen)/\∀ b:BegB,(LogAt b.H b.y (beginL a_6.L)/\∀ x:Nat,a_6.H x≠none->¬x∈fpLog a_6.y->b.H x=a_6.H x/\¬x∈fpLog b.y)->∃ a_8:PH × LogL,decide (300<(↑a.body.length:Int))=decide (300<(↑a.body.length:Int))/\false=false/\(0:Int)=0/\(0:Int)=0/\0=0/\(0=0/\a.body.length=a.body.length/\a.cap=a.cap)/\b.H=a_8.fst/\0=0/\logQ (beginL a_6.L) (appL1 a.L a.body.length) b.y.lv a_8.snd.lv (devQ (beginD a_6.L a_6.d) (appD1 a.L a.d a.body.length) ((a.body.length<=a.body.length/\RowsEq a.body.length 1 (encRows encB a.body) (encRows encB a.body))/\(LogAt a_8.fst a_8.snd (appL1 a.L a.body.length)/\∀ z:Nat,a.H z≠none->¬z∈fpLog a.y->a_8.fst z=a.H z/\¬z∈fpLog a_8.snd)/\True)))))/\(decide ((370:Int) - (↑a.body.length:Int)<(↑(slLen (cs.getD o (Value.tuple #[]))):Int))=false->∃ a_6:PH × LogL,decide (300<(↑a.body.length:Int))=decide (300<(↑a.body.length:Int))/\false=false/\(0:Int)=0/\(0:Int)=0/\0=0/\(0=0/\a.body.length=a.body.length/\a.cap=a.cap)/\a.H=a_6.fst/\0=0/\logQ a.L (appL1 a.L a.body.length) a.y.lv a_6.snd.lv (devQ a.d (appD1 a.L a.d a.body.length) ((a.body.length<=a.body.length/\RowsEq a.body.length 1 (encRows encB a.body) (encRows encB a.body)) /\
 (LogAt a_6.fst a_6.snd (appL1 a.L a.body.length)/\∀ z:Nat,a.H z≠none->¬z∈fpLog a.y->a_6.fst z=a.H z/\¬z∈fpLog a_6.snd)/\True)))))/\∀ a_4:PH × LogL,(LogAt a_4.fst a_4.snd (appL1 a.L a.body.length)/\∀ z:Nat,a.H z≠none->¬z∈fpLog a.y->a_4.fst z=a.H z/\¬z∈fpLog a_4.snd)->(∃ a:Option Go.Addr,∃ l c:Nat,a_4.snd.lv=Value.slice a l c/\l<=lenMax)/\InR .i64 ((↑(slLen a_4.snd.lv):Int) - 1)/\∃ b o:Nat,∃ l c:Nat,a_4.snd.lv=slv b o l c/\(0<=(↑(slLen a_4.snd.lv):Int) - 1/\(↑(slLen a_4.snd.lv):Int) - 1<(↑l:Int))/\∃ b_1 lo o_1:Nat,∃ cs:List Value,pv b (o+((↑(slLen a_4.snd.lv):Int) - 1).toNat*1)=pv b_1 (lo+o_1)/\a_4.fst b_1=some (lo,cs)/\((∃ v:Value,cs[o_1]? = some v/\v.oneCell'=true)/\True)/\((0:Int)<=2/\(2:Int)<=8)/\0<8/\(0:Int)<=0/\((0:Int)<=1/\(1:Int)<2)/\(0:Int)<=8/\((0:Int)<=0/\(0:Int)<2)/\((0:Int)<=2/\(2:Int)<=8)/\2<8/\(InR .i64 (appL1 a.L a.body.length).next->(0:Int)<=0/\((0:Int)<=5/\(5:Int)<6)/\(0:Int)<=8/\((0:Int)<=4/\(4:Int)<6)/\(0:Int)<=16/\((0:Int)<=3/\(3:Int)<6)/\(0:Int)<=24/\((0:Int)<=2/\(2:Int)<6)/\(0:Int)<=32/\((0:Int)<=1/\(1:Int)<6)/\(0:Int)<=40/\((0:Int)<=0/\(0:Int)<6)/\∃ b o:Nat,cs.getD o_1 (Value.tuple #[])=pv b o/\∃ b_2 o_2:Nat,pv b o=pv b_2 o_2/\∃ b lo o:Nat,∃ cs_1:List Value,pv b_2 (o_2+3)=pv b (lo+o)/\a_4.fst b=some (lo,cs_1) /\
 ((∃ v:Value,cs_1[o]? = some v/\v.oneCell'=true)/\True)/\(∃ a:Option Go.Addr,∃ l c:Nat,cs_1.getD o (Value.tuple #[])=Value.slice a l c/\l<=lenMax)/\∃ b o_3:Nat,cs.getD o_1 (Value.tuple #[])=pv b o_3/\∃ b_3 o_4:Nat,pv b o_3=pv b_3 o_4/\∃ b lo o_5:Nat,∃ cs_2:List Value,pv b_3 (o_4+3)=pv b (lo+o_5)/\a_4.fst b=some (lo,cs_2)/\((∃ v:Value,cs_2[o_5]? = some v/\v.oneCell'=true)/\True)/\0<8/\∃ l c:Nat,∃ rows:Nat->Nat->Value,slAt a_4.fst (cs_2.getD o_5 (Value.tuple #[])) [CK.int IntKind.u8] l c rows/\0+l<=l/\(l+8)*1<=140737488355328/\∀ cap:Nat,l+8<=cap->cap<=lenMax->(l+8<=c->cap=c)->(cap≠0/\0+(l+8)<=l+8)/\∀ (b lo:Nat) (cs_3:List Value),pminusV a_4.fst (cs_2.getD o_5 (Value.tuple #[])) b=none->cs_3.length=cap*1->(PRows cs_3 0 [CK.int IntKind.u8] (l+8) fun (i j:Nat)=>appRows rows 0 l (rowsOfA [A.int IntKind.u8 (uw .u8 (uw .u64 (↑a.body.length:Int) / (256:Int))),A.int IntKind.u8 (uw .u8 (uw .u64 (↑a.body.length:Int) / (1:Int))),A.int IntKind.u8 (uw .u8 (uw .u64 (appL1 a.L a.body.length).next / (1099511627776:Int))),A.int IntKind.u8 (uw .u8 (uw .u64 (appL1 a.L a.body.length).next / (4294967296:Int))),A.int IntKind.u8 (uw .u8 (uw .u64 (appL1 a.L a.body.length).next / (16777216:Int))),A.int IntKind.u8 (uw .u8 (uw .u64 (appL1 a.L a.body.length).next / (65536:Int))),A.int IntKind.u8 (uw .u8 (uw .u64 (appL1 a.L a.body.length).next / (256:Int))),A.int IntKind.u8 (uw .u8 (uw .u64 (appL1 a.L a.body.length).next / (1:Int)))] 1) (0+i) j) ->
 ∃ l_1 c:Nat,∃ rows:Nat->Nat->Value,slAt (pupd (pminusV a_4.fst (cs_2.getD o_5 (Value.tuple #[]))) b lo cs_3) (slv b lo (l+8) cap) [CK.int IntKind.u8] l_1 c rows/\0+l_1<=l_1/\0+a.body.length<=a.body.length/\(l_1+a.body.length)*1<=140737488355328/\∀ cap_1:Nat,l_1+a.body.length<=cap_1->cap_1<=lenMax->(l_1+a.body.length<=c->cap_1=c)->(cap_1≠0/\0+(l_1+a.body.length)<=l_1+a.body.length)/\∀ (b_4 lo_1:Nat) (cs_4:List Value),pminusV (pupd (pminusV a_4.fst (cs_2.getD o_5 (Value.tuple #[]))) b lo cs_3) (slv b lo (l+8) cap) b_4=none->cs_4.length=cap_1*1->(PRows cs_4 0 [CK.int IntKind.u8] (l_1+a.body.length) fun (i j:Nat)=>appRows rows 0 l_1 (fun (i j:Nat)=>encRows encB a.body (0+i) j) (0+i) j)->∃ b_5 o_6:Nat,cs.getD o_1 (Value.tuple #[])=pv b_5 o_6/\∃ b_6 o_7:Nat,pv b_5 o_6=pv b_6 o_7/\∃ b_7 lo_2 o_8:Nat,∃ cs_5:List Value,pv b_6 (o_7+3)=pv b_7 (lo_2+o_8)/\pupd (pminusV (pupd (pminusV a_4.fst (cs_2.getD o_5 (Value.tuple #[]))) b lo cs_3) (slv b lo (l+8) cap)) b_4 lo_1 cs_4 b_7=some (lo_2,cs_5)/\o_8+[A.val (slv b_4 lo_1 (l_1+a.body.length) cap_1)].length<=cs_5.length/\(∃ a_19:Nat,0=(↑a_19:Int)/\(↑(slLen (cs_1.getD o (Value.tuple #[]))):Int)=(↑(slLen (cs_1.getD o (Value.tuple #[]))):Int)/\0=0/\cs.getD o_1 (Value.tuple #[])=cs.getD o_1 (Value.tuple #[])/\decide (300<(↑a.body.length:Int))=decide (300<(↑a.body.length:Int))/\false=false/\(0:Int)=0 /\
 (0:Int)=0/\0=0/\(0=0/\a.body.length=a.body.length/\a.cap=a.cap)/\pupd (pupd (pminusV (pupd (pminusV a_4.fst (cs_2.getD o_5 (Value.tuple #[]))) b lo cs_3) (slv b lo (l+8) cap)) b_4 lo_1 cs_4) b_7 lo_2 (List.take o_8 cs_5++[Value.slice (some { block:=b_4,off:=lo_1 }) (l_1+a.body.length) cap_1]++List.drop (o_8+[Value.slice (some { block:=b_4,off:=lo_1 }) (l_1+a.body.length) cap_1].length) cs_5)=pupd (pupd (pminusV (pupd (pminusV a_4.fst (cs_2.getD o_5 (Value.tuple #[]))) b lo cs_3) (slv b lo (l+8) cap)) b_4 lo_1 cs_4) b_7 lo_2 (List.take o_8 cs_5++[Value.slice (some { block:=b_4,off:=lo_1 }) (l_1+a.body.length) cap_1]++List.drop (o_8+[Value.slice (some { block:=b_4,off:=lo_1 }) (l_1+a.body.length) cap_1].length) cs_5)/\uw .u8 (uw .u64 (↑a.body.length:Int) / (256:Int))=uw .u8 (uw .u64 (↑a.body.length:Int) / (256:Int))/\uw .u8 (uw .u64 (↑a.body.length:Int) / (1:Int))=uw .u8 (uw .u64 (↑a.body.length:Int) / (1:Int))/\uw .u8 (uw .u64 (appL1 a.L a.body.length).next / (1099511627776:Int))=uw .u8 (uw .u64 (appL1 a.L a.body.length).next / (1099511627776:Int))/\uw .u8 (uw .u64 (appL1 a.L a.body.length).next / (4294967296:Int))=uw .u8 (uw .u64 (appL1 a.L a.body.length).next / (4294967296:Int))/\uw .u8 (uw .u64 (appL1 a.L a.body.length).next / (16777216:Int))=uw .u8 (uw .u64 (appL1 a.L a.body.length).next / (16777216:Int))/\uw .u8 (uw .u64 (appL1 a.L a.body.length).next / (65536:Int))=uw .u8 (uw .u64 (appL1 a.L a.body.length).next / (65536:Int)) /\
 uw .u8 (uw .u64 (appL1 a.L a.body.length).next / (256:Int))=uw .u8 (uw .u64 (appL1 a.L a.body.length).next / (256:Int))/\uw .u8 (uw .u64 (appL1 a.L a.body.length).next / (1:Int))=uw .u8 (uw .u64 (appL1 a.L a.body.length).next / (1:Int))/\0=0/\logQ (appL1 a.L a.body.length) (appL1 a.L a.body.length) a_4.snd.lv a_4.snd.lv (devQ (appD1 a.L a.d a.body.length) (writesTo (appL1 a.L a.body.length) (segW (lastG (appL1 a.L a.body.length)) a.L.next a.body) (lastG (appL1 a.L a.body.length)).buf.length (appD1 a.L a.d a.body.length) a_19) ((a.body.length<=a.body.length/\RowsEq a.body.length 1 (encRows encB a.body) (encRows encB a.body))/\a_19<=8/\True)))/\∀ a_19:Nat,a_19<=8->(decide ((↑a_19:Int)<8)=true->InR .i64 ((↑a_19:Int)+1)/\InR .i64 (((↑a_19:Int)+1)*(48:Int))/\InR .i64 (((↑a_19:Int)+1)*(48:Int) - 6)/\(decide ((↑(slLen (cs_1.getD o (Value.tuple #[]))):Int)<bif true then max (0:Int) (((↑a_19:Int)+1)*(48:Int) - 6) else min (0:Int) (((↑a_19:Int)+1)*(48:Int) - 6))=true->∃ b_8 o_9:Nat,cs.getD o_1 (Value.tuple #[])=pv b_8 o_9/\∃ b_9 o_10:Nat,pv b_8 o_9=pv b_9 o_10/\∃ b_10 lo_3 o_11:Nat,∃ cs_6:List Value,pv b_9 (o_10+3)=pv b_10 (lo_3+o_11)/\pupd (pupd (pminusV (pupd (pminusV a_4.fst (cs_2.getD o_5 (Value.tuple #[]))) b lo cs_3) (slv b lo (l+8) cap)) b_4 lo_1 cs_4) b_7 lo_2 (List.take o_8 cs_5++[Value.slice (some { block:=b_4,off:=lo_1 }) (l_1+a.body.length) cap_1]++List.drop (o_8+[Value.slice (some { block:=b_4,off:=lo_1 }) (l_1+a.body.length) cap_1].length) cs_5) b_10=some (lo_3,cs_6) /\
 ((∃ v:Value,cs_6[o_11]? = some v/\v.oneCell'=true)/\True)/\(∃ a:Option Go.Addr,∃ l c:Nat,cs_6.getD o_11 (Value.tuple #[])=Value.slice a l c/\l<=lenMax)/\InR .i64 ((↑a_19:Int)*48)/\InR .i64 ((↑a_19:Int)*48 - (6:Int))/\(decide ((bif true then max (0:Int) ((↑a_19:Int)*48 - (6:Int)) else min (0:Int) ((↑a_19:Int)*48 - (6:Int)))<(↑(slLen (cs_6.getD o_11 (Value.tuple #[]))):Int))=true->∃ a_24:WriteA,0=0/\cs.getD o_1 (Value.tuple #[])=pv a_24.y.b 0/\(↑a_19:Int)=(↑a_24.i:Int)/\devQ (writesTo (appL1 a.L a.body.length) (segW (lastG (appL1 a.L a.body.length)) a.L.next a.body) (lastG (appL1 a.L a.body.length)).buf.length (appD1 a.L a.d a.body.length) a_19) a_24.d (0=0/\logQ (appL1 a.L a.body.length) a_24.L a_4.snd.lv a_24.lv (pupd (pupd (pminusV (pupd (pminusV a_4.fst (cs_2.getD o_5 (Value.tuple #[]))) b lo cs_3) (slv b lo (l+8) cap)) b_4 lo_1 cs_4) b_7 lo_2 (List.take o_8 cs_5++[Value.slice (some { block:=b_4,off:=lo_1 }) (l_1+a.body.length) cap_1]++List.drop (o_8+[Value.slice (some { block:=b_4,off:=lo_1 }) (l_1+a.body.length) cap_1].length) cs_5)=a_24.H/\(SegAt a_24.H a_24.y a_24.g/\a_24.i<8/\a_24.g.buf.length<=378/\(1:Int)<=a_24.g.gen/\3<=a_24.L.segs/\a_24.L.segs<=200/\a_24.L.from_+a_24.L.segs*8<=a_24.d.n/\a_24.d.n<100000/\a_24.d.calls<1000000000000)/\∀ b_11:Unit,True->InR .i64 ((↑a_19:Int)+1)/\∃ (a':Nat),(↑a_19:Int)+1=(↑a':Int)/\(↑(slLen (cs_1.getD o (Value.tuple #[]))):Int)=(↑(slLen (cs_1.getD o (Value.tuple #[]))):Int) /\
 0=0/\cs.getD o_1 (Value.tuple #[])=cs.getD o_1 (Value.tuple #[])/\decide (300<(↑a.body.length:Int))=decide (300<(↑a.body.length:Int))/\false=false/\(0:Int)=0/\(0:Int)=0/\0=0/\(0=0/\a.body.length=a.body.length/\a.cap=a.cap)/\pupd (pupd (pminusV (pupd (pminusV a_4.fst (cs_2.getD o_5 (Value.tuple #[]))) b lo cs_3) (slv b lo (l+8) cap)) b_4 lo_1 cs_4) b_7 lo_2 (List.take o_8 cs_5++[Value.slice (some { block:=b_4,off:=lo_1 }) (l_1+a.body.length) cap_1]++List.drop (o_8+[Value.slice (some { block:=b_4,off:=lo_1 }) (l_1+a.body.length) cap_1].length) cs_5)=pupd (pupd (pminusV (pupd (pminusV a_4.fst (cs_2.getD o_5 (Value.tuple #[]))) b lo cs_3) (slv b lo (l+8) cap)) b_4 lo_1 cs_4) b_7 lo_2 (List.take o_8 cs_5++[Value.slice (some { block:=b_4,off:=lo_1 }) (l_1+a.body.length) cap_1]++List.drop (o_8+[Value.slice (some { block:=b_4,off:=lo_1 }) (l_1+a.body.length) cap_1].length) cs_5)/\uw .u8 (uw .u64 (↑a.body.length:Int) / (256:Int))=uw .u8 (uw .u64 (↑a.body.length:Int) / (256:Int))/\uw .u8 (uw .u64 (↑a.body.length:Int) / (1:Int))=uw .u8 (uw .u64 (↑a.body.length:Int) / (1:Int))/\uw .u8 (uw .u64 (appL1 a.L a.body.length).next / (1099511627776:Int))=uw .u8 (uw .u64 (appL1 a.L a.body.length).next / (1099511627776:Int))/\uw .u8 (uw .u64 (appL1 a.L a.body.length).next / (4294967296:Int))=uw .u8 (uw .u64 (appL1 a.L a.body.length).next / (4294967296:Int))/\uw .u8 (uw .u64 (appL1 a.L a.body.length).next / (16777216:Int))=uw .u8 (uw .u64 (appL1 a.L a.body.length).next / (16777216:Int)) /\
 uw .u8 (uw .u64 (appL1 a.L a.body.length).next / (65536:Int))=uw .u8 (uw .u64 (appL1 a.L a.body.length).next / (65536:Int))/\uw .u8 (uw .u64 (appL1 a.L a.body.length).next / (256:Int))=uw .u8 (uw .u64 (appL1 a.L a.body.length).next / (256:Int))/\uw .u8 (uw .u64 (appL1 a.L a.body.length).next / (1:Int))=uw .u8 (uw .u64 (appL1 a.L a.body.length).next / (1:Int))/\0=0/\logQ (appL1 a.L a.body.length) (appL1 a.L a.body.length) a_4.snd.lv a_4.snd.lv (devQ (devWr a_24.d (secNo a_24.L a_24.g a_24.i) 64 (secB a_24.g a_24.i a_24.L.run)) (writesTo (appL1 a.L a.body.length) (segW (lastG (appL1 a.L a.body.length)) a.L.next a.body) (lastG (appL1 a.L a.body.length)).buf.length (appD1 a.L a.d a.body.length) a') ((a.body.length<=a.body.length/\RowsEq a.body.length 1 (encRows encB a.body) (encRows encB a.body))/\a'<=8/\8 - a'<8 - a_19)))))/\(decide ((bif true then max (0:Int) ((↑a_19:Int)*48 - (6:Int)) else min (0:Int) ((↑a_19:Int)*48 - (6:Int)))<(↑(slLen (cs_6.getD o_11 (Value.tuple #[]))):Int))=false->InR .i64 ((↑a_19:Int)+1)/\∃ (a':Nat),(↑a_19:Int)+1=(↑a':Int)/\(↑(slLen (cs_1.getD o (Value.tuple #[]))):Int)=(↑(slLen (cs_1.getD o (Value.tuple #[]))):Int)/\0=0/\cs.getD o_1 (Value.tuple #[])=cs.getD o_1 (Value.tuple #[])/\decide (300<(↑a.body.length:Int))=decide (300<(↑a.body.length:Int))/\false=false/\(0:Int)=0/\(0:Int)=0/\0=0/\(0=0/\a.body.length=a.body.length/\a.cap=a.cap) /\
 pupd (pupd (pminusV (pupd (pminusV a_4.fst (cs_2.getD o_5 (Value.tuple #[]))) b lo cs_3) (slv b lo (l+8) cap)) b_4 lo_1 cs_4) b_7 lo_2 (List.take o_8 cs_5++[Value.slice (some { block:=b_4,off:=lo_1 }) (l_1+a.body.length) cap_1]++List.drop (o_8+[Value.slice (some { block:=b_4,off:=lo_1 }) (l_1+a.body.length) cap_1].length) cs_5)=pupd (pupd (pminusV (pupd (pminusV a_4.fst (cs_2.getD o_5 (Value.tuple #[]))) b lo cs_3) (slv b lo (l+8) cap)) b_4 lo_1 cs_4) b_7 lo_2 (List.take o_8 cs_5++[Value.slice (some { block:=b_4,off:=lo_1 }) (l_1+a.body.length) cap_1]++List.drop (o_8+[Value.slice (some { block:=b_4,off:=lo_1 }) (l_1+a.body.length) cap_1].length) cs_5)/\uw .u8 (uw .u64 (↑a.body.length:Int) / (256:Int))=uw .u8 (uw .u64 (↑a.body.length:Int) / (256:Int))/\uw .u8 (uw .u64 (↑a.body.length:Int) / (1:Int))=uw .u8 (uw .u64 (↑a.body.length:Int) / (1:Int))/\uw .u8 (uw .u64 (appL1 a.L a.body.length).next / (1099511627776:Int))=uw .u8 (uw .u64 (appL1 a.L a.body.length).next / (1099511627776:Int))/\uw .u8 (uw .u64 (appL1 a.L a.body.length).next / (4294967296:Int))=uw .u8 (uw .u64 (appL1 a.L a.body.length).next / (4294967296:Int))/\uw .u8 (uw .u64 (appL1 a.L a.body.length).next / (16777216:Int))=uw .u8 (uw .u64 (appL1 a.L a.body.length).next / (16777216:Int))/\uw .u8 (uw .u64 (appL1 a.L a.body.length).next / (65536:Int))=uw .u8 (uw .u64 (appL1 a.L a.body.length).next / (65536:Int))/\uw .u8 (uw .u64 (appL1 a.L a.body.length).next / (256:Int))=uw .u8 (uw .u64 (appL1 a.L a.body.length).next / (256:Int)) /\
 uw .u8 (uw .u64 (appL1 a.L a.body.length).next / (1:Int))=uw .u8 (uw .u64 (appL1 a.L a.body.length).next / (1:Int))/\0=0/\logQ (appL1 a.L a.body.length) (appL1 a.L a.body.length) a_4.snd.lv a_4.snd.lv (devQ (writesTo (appL1 a.L a.body.length) (segW (lastG (appL1 a.L a.body.length)) a.L.next a.body) (lastG (appL1 a.L a.body.length)).buf.length (appD1 a.L a.d a.body.length) a_19) (writesTo (appL1 a.L a.body.length) (segW (lastG (appL1 a.L a.body.length)) a.L.next a.body) (lastG (appL1 a.L a.body.length)).buf.length (appD1 a.L a.d a.body.length) a') ((a.body.length<=a.body.length/\RowsEq a.body.length 1 (encRows encB a.body) (encRows encB a.body))/\a'<=8/\8 - a'<8 - a_19))))/\(decide ((↑(slLen (cs_1.getD o (Value.tuple #[]))):Int)<bif true then max (0:Int) (((↑a_19:Int)+1)*(48:Int) - 6) else min (0:Int) (((↑a_19:Int)+1)*(48:Int) - 6))=false->InR .i64 ((↑a_19:Int)+1)/\∃ (a':Nat),(↑a_19:Int)+1=(↑a':Int)/\(↑(slLen (cs_1.getD o (Value.tuple #[]))):Int)=(↑(slLen (cs_1.getD o (Value.tuple #[]))):Int)/\0=0/\cs.getD o_1 (Value.tuple #[])=cs.getD o_1 (Value.tuple #[])/\decide (300<(↑a.body.length:Int))=decide (300<(↑a.body.length:Int))/\false=false/\(0:Int)=0/\(0:Int)=0/\0=0/\(0=0/\a.body.length=a.body.length/\a.cap=a.cap)/\pupd (pupd (pminusV (pupd (pminusV a_4.fst (cs_2.getD o_5 (Value.tuple #[]))) b lo cs_3) (slv b lo (l+8) cap)) b_4 lo_1 cs_4) b_7 lo_2 (List.take o_8 cs_5++[Value.slice (some { block:=b_4,off:=lo_1 }) (l_1+a.body.length) cap_1]++List.drop (o_8+[Value.slice (some { block:=b_4,off:=lo_1 }) (l_1+a.body.length) cap_1].length) cs_5)=pupd (pupd (pminusV (pupd (pminusV a_4.fst (cs_2.getD o_5 (Value.tuple #[]))) b lo cs_3) (slv b lo (l+8) cap)) b_4 lo_1 cs_4) b_7 lo_2 (List.take o_8 cs_5++[Value.slice (some { block:=b_4,off:=lo_1 }) (l_1+a.body.length) cap_1]++List.drop (o_8+[Value.slice (some { block:=b_4,off:=lo_1 }) (l_1+a.body.length) cap_1].length) cs_5) /\
 uw .u8 (uw .u64 (↑a.body.length:Int) / (256:Int))=uw .u8 (uw .u64 (↑a.body.length:Int) / (256:Int))/\uw .u8 (uw .u64 (↑a.body.length:Int) / (1:Int))=uw .u8 (uw .u64 (↑a.body.length:Int) / (1:Int))/\uw .u8 (uw .u64 (appL1 a.L a.body.length).next / (1099511627776:Int))=uw .u8 (uw .u64 (appL1 a.L a.body.length).next / (1099511627776:Int))/\uw .u8 (uw .u64 (appL1 a.L a.body.length).next / (4294967296:Int))=uw .u8 (uw .u64 (appL1 a.L a.body.length).next / (4294967296:Int))/\uw .u8 (uw .u64 (appL1 a.L a.body.length).next / (16777216:Int))=uw .u8 (uw .u64 (appL1 a.L a.body.length).next / (16777216:Int))/\uw .u8 (uw .u64 (appL1 a.L a.body.length).next / (65536:Int))=uw .u8 (uw .u64 (appL1 a.L a.body.length).next / (65536:Int))/\uw .u8 (uw .u64 (appL1 a.L a.body.length).next / (256:Int))=uw .u8 (uw .u64 (appL1 a.L a.body.length).next / (256:Int))/\uw .u8 (uw .u64 (appL1 a.L a.body.length).next / (1:Int))=uw .u8 (uw .u64 (appL1 a.L a.body.length).next / (1:Int))/\0=0/\logQ (appL1 a.L a.body.length) (appL1 a.L a.body.length) a_4.snd.lv a_4.snd.lv (devQ (writesTo (appL1 a.L a.body.length) (segW (lastG (appL1 a.L a.body.length)) a.L.next a.body) (lastG (appL1 a.L a.body.length)).buf.length (appD1 a.L a.d a.body.length) a_19) (writesTo (appL1 a.L a.body.length) (segW (lastG (appL1 a.L a.body.length)) a.L.next a.body) (lastG (appL1 a.L a.body.length)).buf.length (appD1 a.L a.d a.body.length) a') ((a.body.length<=a.body.length /\
 RowsEq a.body.length 1 (encRows encB a.body) (encRows encB a.body))/\a'<=8/\8 - a'<8 - a_19))))/\(decide ((↑a_19:Int)<8)=false->∃ b_8 o:Nat,cs.getD o_1 (Value.tuple #[])=pv b_8 o/\∃ b_9 o_9:Nat,pv b_8 o=pv b_9 o_9/\∃ b_10 lo_3 o:Nat,∃ cs_6:List Value,pv b_9 (o_9+4)=pv b_10 (lo_3+o)/\pupd (pupd (pminusV (pupd (pminusV a_4.fst (cs_2.getD o_5 (Value.tuple #[]))) b lo cs_3) (slv b lo (l+8) cap)) b_4 lo_1 cs_4) b_7 lo_2 (List.take o_8 cs_5++[Value.slice (some { block:=b_4,off:=lo_1 }) (l_1+a.body.length) cap_1]++List.drop (o_8+[Value.slice (some { block:=b_4,off:=lo_1 }) (l_1+a.body.length) cap_1].length) cs_5) b_10=some (lo_3,cs_6)/\((∃ v:Value,cs_6[o]? = some v/\v.oneCell'=true)/\True)/\(InR .i64 (appL1 a.L a.body.length).next->∀ b_11:Bool,(b_11=true->a.body.length=0)->(b_11=true->∃ l_2 c:Nat,∃ rows:Nat->Nat->Value,slAt (pupd (pupd (pminusV (pupd (pminusV a_4.fst (cs_2.getD o_5 (Value.tuple #[]))) b lo cs_3) (slv b lo (l+8) cap)) b_4 lo_1 cs_4) b_7 lo_2 (List.take o_8 cs_5++[Value.slice (some { block:=b_4,off:=lo_1 }) (l_1+a.body.length) cap_1]++List.drop (o_8+[Value.slice (some { block:=b_4,off:=lo_1 }) (l_1+a.body.length) cap_1].length) cs_5)) (cs_6.getD o (Value.tuple #[])) [CK.int IntKind.i64,CK.deep] l_2 c rows/\0+l_2<=l_2/\1<=1/\(l_2+1)*32<=140737488355328/\∀ cap_2:Nat,l_2+1<=cap_2->cap_2<=lenMax->(l_2+1<=c->cap_2=c)->(cap_2≠0 /\
 0+(l_2+1)<=l_2+1)/\∀ (b_12 lo_4:Nat) (cs_7:List Value),pminusV (pupd (pupd (pminusV (pupd (pminusV a_4.fst (cs_2.getD o_5 (Value.tuple #[]))) b lo cs_3) (slv b lo (l+8) cap)) b_4 lo_1 cs_4) b_7 lo_2 (List.take o_8 cs_5++[Value.slice (some { block:=b_4,off:=lo_1 }) (l_1+a.body.length) cap_1]++List.drop (o_8+[Value.slice (some { block:=b_4,off:=lo_1 }) (l_1+a.body.length) cap_1].length) cs_5)) (cs_6.getD o (Value.tuple #[])) b_12=none->cs_7.length=cap_2*2->(PRows cs_7 0 [CK.int IntKind.i64,CK.deep] (l_2+1) fun (i j:Nat)=>appRows rows 0 l_2 (fun (i j:Nat)=>flatRows 2 [Value.int IntKind.i64 (appL1 a.L a.body.length).next,Value.slice none 0 0] (0+i) j) (0+i) j)->∃ b_13 o_10:Nat,cs.getD o_1 (Value.tuple #[])=pv b_13 o_10/\∃ b_14 o_11:Nat,pv b_13 o_10=pv b_14 o_11/\∃ b_15 lo_5 o_12:Nat,∃ cs:List Value,pv b_14 (o_11+4)=pv b_15 (lo_5+o_12)/\pupd (pminusV (pupd (pupd (pminusV (pupd (pminusV a_4.fst (cs_2.getD o_5 (Value.tuple #[]))) b lo cs_3) (slv b lo (l+8) cap)) b_4 lo_1 cs_4) b_7 lo_2 (List.take o_8 cs_5++[Value.slice (some { block:=b_4,off:=lo_1 }) (l_1+a.body.length) cap_1]++List.drop (o_8+[Value.slice (some { block:=b_4,off:=lo_1 }) (l_1+a.body.length) cap_1].length) cs_5)) (cs_6.getD o (Value.tuple #[]))) b_12 lo_4 cs_7 b_15=some (lo_5,cs)/\o_12+[A.val (slv b_12 lo_4 (l_2+1) cap_2)].length<=cs.length/\(InR .i64 (appL1 a.L a.body.length).next->InR .i64 ((appL1 a.L a.body.length).next+(1:Int)) /\
 ((appL1 a.L a.body.length).fresh=true->InR .i64 ((appL1 a.L a.body.length).next+(1:Int))->InR .i64 ((appL1 a.L a.body.length).next+(1:Int) - 1)/\∃ a_34:DevM,0=0/\devQ (writesTo (appL1 a.L a.body.length) (segW (lastG (appL1 a.L a.body.length)) a.L.next a.body) (lastG (appL1 a.L a.body.length)).buf.length (appD1 a.L a.d a.body.length) a_19) a_34 ((a_34.n<100000/\a_34.calls<1000000000000)/\∀ b_16:Unit,True->∃ b_17:BegB,(appL1 a.L a.body.length).next+(1:Int) - 1=a.L.next/\(0:Int)=0/\pupd (pupd (pminusV (pupd (pupd (pminusV (pupd (pminusV a_4.fst (cs_2.getD o_5 (Value.tuple #[]))) b lo cs_3) (slv b lo (l+8) cap)) b_4 lo_1 cs_4) b_7 lo_2 (List.take o_8 cs_5++[Value.slice (some { block:=b_4,off:=lo_1 }) (l_1+a.body.length) cap_1]++List.drop (o_8+[Value.slice (some { block:=b_4,off:=lo_1 }) (l_1+a.body.length) cap_1].length) cs_5)) (cs_6.getD o (Value.tuple #[]))) b_12 lo_4 cs_7) b_15 lo_5 (List.take o_12 cs++[Value.slice (some { block:=b_12,off:=lo_4 }) (l_2+1) cap_2]++List.drop (o_12+[Value.slice (some { block:=b_12,off:=lo_4 }) (l_2+1) cap_2].length) cs)=b_17.H/\0=0/\(↑(appL1 a.L a.body.length).from_:Int)=(↑(appL a.L a.body).from_:Int)/\(↑(appL1 a.L a.body.length).segs:Int)=(↑(appL a.L a.body).segs:Int)/\a_4.snd.lv=b_17.y.lv/\(appL1 a.L a.body.length).next+(1:Int)=(appL a.L a.body).next/\(appL1 a.L a.body.length).run=(appL a.L a.body).run/\false=(appL a.L a.body).fresh /\
 devQ (devFl a_34) (appD a.L a.d a.body) ((LogAt b_17.H b_17.y (appL a.L a.body)/\∀ x:Nat,a.H x≠none->¬x∈fpLog a.y->b_17.H x=a.H x/\¬x∈fpLog b_17.y)/\True)))/\((appL1 a.L a.body.length).fresh=false->InR .i64 ((appL1 a.L a.body.length).next+(1:Int))->InR .i64 ((appL1 a.L a.body.length).next+(1:Int) - 1)/\∃ b_16:BegB,(appL1 a.L a.body.length).next+(1:Int) - 1=a.L.next/\(0:Int)=0/\pupd (pupd (pminusV (pupd (pupd (pminusV (pupd (pminusV a_4.fst (cs_2.getD o_5 (Value.tuple #[]))) b lo cs_3) (slv b lo (l+8) cap)) b_4 lo_1 cs_4) b_7 lo_2 (List.take o_8 cs_5++[Value.slice (some { block:=b_4,off:=lo_1 }) (l_1+a.body.length) cap_1]++List.drop (o_8+[Value.slice (some { block:=b_4,off:=lo_1 }) (l_1+a.body.length) cap_1].length) cs_5)) (cs_6.getD o (Value.tuple #[]))) b_12 lo_4 cs_7) b_15 lo_5 (List.take o_12 cs++[Value.slice (some { block:=b_12,off:=lo_4 }) (l_2+1) cap_2]++List.drop (o_12+[Value.slice (some { block:=b_12,off:=lo_4 }) (l_2+1) cap_2].length) cs)=b_16.H/\0=0/\(↑(appL1 a.L a.body.length).from_:Int)=(↑(appL a.L a.body).from_:Int)/\(↑(appL1 a.L a.body.length).segs:Int)=(↑(appL a.L a.body).segs:Int)/\a_4.snd.lv=b_16.y.lv/\(appL1 a.L a.body.length).next+(1:Int)=(appL a.L a.body).next/\(appL1 a.L a.body.length).run=(appL a.L a.body).run/\(appL1 a.L a.body.length).fresh=(appL a.L a.body).fresh/\devQ (writesTo (appL1 a.L a.body.length) (segW (lastG (appL1 a.L a.body.length)) a.L.next a.body) (lastG (appL1 a.L a.body.length)).buf.length (appD1 a.L a.d a.body.length) a_19) (appD a.L a.d a.body) ((LogAt b_16.H b_16.y (appL a.L a.body) /\
 ∀ x:Nat,a.H x≠none->¬x∈fpLog a.y->b_16.H x=a.H x/\¬x∈fpLog b_16.y)/\True))))/\(b_11=false->0<=0/\0+a.body.length<=a.body.length/\(0+a.body.length)*1<=140737488355328/\∀ cap_2:Nat,0+a.body.length<=cap_2->cap_2<=lenMax->(0+a.body.length<=0->cap_2=0)->(cap_2≠0/\0+(0+a.body.length)<=0+a.body.length)/\∀ (b_12 lo_4:Nat) (cs_7:List Value),pupd (pupd (pminusV (pupd (pminusV a_4.fst (cs_2.getD o_5 (Value.tuple #[]))) b lo cs_3) (slv b lo (l+8) cap)) b_4 lo_1 cs_4) b_7 lo_2 (List.take o_8 cs_5++[Value.slice (some { block:=b_4,off:=lo_1 }) (l_1+a.body.length) cap_1]++List.drop (o_8+[Value.slice (some { block:=b_4,off:=lo_1 }) (l_1+a.body.length) cap_1].length) cs_5) b_12=none->cs_7.length=cap_2*1->(PRows cs_7 0 [CK.int IntKind.u8] (0+a.body.length) fun (i j:Nat)=>appRows (flatRows 1 []) 0 0 (fun (i j:Nat)=>encRows encB a.body (0+i) j) (0+i) j)->∃ l_2 c:Nat,∃ rows:Nat->Nat->Value,slAt (pupd (pupd (pupd (pminusV (pupd (pminusV a_4.fst (cs_2.getD o_5 (Value.tuple #[]))) b lo cs_3) (slv b lo (l+8) cap)) b_4 lo_1 cs_4) b_7 lo_2 (List.take o_8 cs_5++[Value.slice (some { block:=b_4,off:=lo_1 }) (l_1+a.body.length) cap_1]++List.drop (o_8+[Value.slice (some { block:=b_4,off:=lo_1 }) (l_1+a.body.length) cap_1].length) cs_5)) b_12 lo_4 cs_7) (cs_6.getD o (Value.tuple #[])) [CK.int IntKind.i64,CK.deep] l_2 c rows/\0+l_2<=l_2/\(l_2+1)*32<=140737488355328 /\
 ∀ cap_3:Nat,l_2+1<=cap_3->cap_3<=lenMax->(l_2+1<=c->cap_3=c)->(cap_3≠0/\0+(l_2+1)<=l_2+1)/\∀ (b_13 lo_5:Nat) (cs_8:List Value),pminusV (pupd (pupd (pupd (pminusV (pupd (pminusV a_4.fst (cs_2.getD o_5 (Value.tuple #[]))) b lo cs_3) (slv b lo (l+8) cap)) b_4 lo_1 cs_4) b_7 lo_2 (List.take o_8 cs_5++[Value.slice (some { block:=b_4,off:=lo_1 }) (l_1+a.body.length) cap_1]++List.drop (o_8+[Value.slice (some { block:=b_4,off:=lo_1 }) (l_1+a.body.length) cap_1].length) cs_5)) b_12 lo_4 cs_7) (cs_6.getD o (Value.tuple #[])) b_13=none->cs_8.length=cap_3*2->(PRows cs_8 0 [CK.int IntKind.i64,CK.deep] (l_2+1) fun (i j:Nat)=>appRows rows 0 l_2 (rowsOfA [A.int IntKind.i64 (appL1 a.L a.body.length).next,A.val (slv b_12 lo_4 (0+a.body.length) cap_2)] 2) (0+i) j)->∃ b_14 o_10:Nat,cs.getD o_1 (Value.tuple #[])=pv b_14 o_10/\∃ b_15 o_11:Nat,pv b_14 o_10=pv b_15 o_11/\∃ b_16 lo_6 o_12:Nat,∃ cs:List Value,pv b_15 (o_11+4)=pv b_16 (lo_6+o_12)/\pupd (pminusV (pupd (pupd (pupd (pminusV (pupd (pminusV a_4.fst (cs_2.getD o_5 (Value.tuple #[]))) b lo cs_3) (slv b lo (l+8) cap)) b_4 lo_1 cs_4) b_7 lo_2 (List.take o_8 cs_5++[Value.slice (some { block:=b_4,off:=lo_1 }) (l_1+a.body.length) cap_1]++List.drop (o_8+[Value.slice (some { block:=b_4,off:=lo_1 }) (l_1+a.body.length) cap_1].length) cs_5)) b_12 lo_4 cs_7) (cs_6.getD o (Value.tuple #[]))) b_13 lo_5 cs_8 b_16=some (lo_6,cs)/\o_12+[A.val (slv b_13 lo_5 (l_2+1) cap_3)].length<=cs.length /\
 (InR .i64 (appL1 a.L a.body.length).next->InR .i64 ((appL1 a.L a.body.length).next+(1:Int))/\((appL1 a.L a.body.length).fresh=true->InR .i64 ((appL1 a.L a.body.length).next+(1:Int))->InR .i64 ((appL1 a.L a.body.length).next+(1:Int) - 1)/\∃ a_40:DevM,0=0/\devQ (writesTo (appL1 a.L a.body.length) (segW (lastG (appL1 a.L a.body.length)) a.L.next a.body) (lastG (appL1 a.L a.body.length)).buf.length (appD1 a.L a.d a.body.length) a_19) a_40 ((a_40.n<100000/\a_40.calls<1000000000000)/\∀ b_17:Unit,True->∃ b_18:BegB,(appL1 a.L a.body.length).next+(1:Int) - 1=a.L.next/\(0:Int)=0/\pupd (pupd (pminusV (pupd (pupd (pupd (pminusV (pupd (pminusV a_4.fst (cs_2.getD o_5 (Value.tuple #[]))) b lo cs_3) (slv b lo (l+8) cap)) b_4 lo_1 cs_4) b_7 lo_2 (List.take o_8 cs_5++[Value.slice (some { block:=b_4,off:=lo_1 }) (l_1+a.body.length) cap_1]++List.drop (o_8+[Value.slice (some { block:=b_4,off:=lo_1 }) (l_1+a.body.length) cap_1].length) cs_5)) b_12 lo_4 cs_7) (cs_6.getD o (Value.tuple #[]))) b_13 lo_5 cs_8) b_16 lo_6 (List.take o_12 cs++[Value.slice (some { block:=b_13,off:=lo_5 }) (l_2+1) cap_3]++List.drop (o_12+[Value.slice (some { block:=b_13,off:=lo_5 }) (l_2+1) cap_3].length) cs)=b_18.H/\0=0/\(↑(appL1 a.L a.body.length).from_:Int)=(↑(appL a.L a.body).from_:Int)/\(↑(appL1 a.L a.body.length).segs:Int)=(↑(appL a.L a.body).segs:Int)/\a_4.snd.lv=b_18.y.lv/\(appL1 a.L a.body.length).next+(1:Int)=(appL a.L a.body).next /\
 (appL1 a.L a.body.length).run=(appL a.L a.body).run/\false=(appL a.L a.body).fresh/\devQ (devFl a_40) (appD a.L a.d a.body) ((LogAt b_18.H b_18.y (appL a.L a.body)/\∀ x:Nat,a.H x≠none->¬x∈fpLog a.y->b_18.H x=a.H x/\¬x∈fpLog b_18.y)/\True)))/\((appL1 a.L a.body.length).fresh=false->InR .i64 ((appL1 a.L a.body.length).next+(1:Int))->InR .i64 ((appL1 a.L a.body.length).next+(1:Int) - 1)/\∃ b_17:BegB,(appL1 a.L a.body.length).next+(1:Int) - 1=a.L.next/\(0:Int)=0/\pupd (pupd (pminusV (pupd (pupd (pupd (pminusV (pupd (pminusV a_4.fst (cs_2.getD o_5 (Value.tuple #[]))) b lo cs_3) (slv b lo (l+8) cap)) b_4 lo_1 cs_4) b_7 lo_2 (List.take o_8 cs_5++[Value.slice (some { block:=b_4,off:=lo_1 }) (l_1+a.body.length) cap_1]++List.drop (o_8+[Value.slice (some { block:=b_4,off:=lo_1 }) (l_1+a.body.length) cap_1].length) cs_5)) b_12 lo_4 cs_7) (cs_6.getD o (Value.tuple #[]))) b_13 lo_5 cs_8) b_16 lo_6 (List.take o_12 cs++[Value.slice (some { block:=b_13,off:=lo_5 }) (l_2+1) cap_3]++List.drop (o_12+[Value.slice (some { block:=b_13,off:=lo_5 }) (l_2+1) cap_3].length) cs)=b_17.H/\0=0/\(↑(appL1 a.L a.body.length).from_:Int)=(↑(appL a.L a.body).from_:Int)/\(↑(appL1 a.L a.body.length).segs:Int)=(↑(appL a.L a.body).segs:Int)/\a_4.snd.lv=b_17.y.lv/\(appL1 a.L a.body.length).next+(1:Int)=(appL a.L a.body).next/\(appL1 a.L a.body.length).run=(appL a.L a.body).run/\(appL1 a.L a.body.length).fresh=(appL a.L a.body).fresh /\
 devQ (writesTo (appL1 a.L a.body.length) (segW (lastG (appL1 a.L a.body.length)) a.L.next a.body) (lastG (appL1 a.L a.body.length)).buf.length (appD1 a.L a.d a.body.length) a_19) (appD a.L a.d a.body) ((LogAt b_17.H b_17.y (appL a.L a.body)/\∀ x:Nat,a.H x≠none->¬x∈fpLog a.y->b_17.H x=a.H x/\¬x∈fpLog b_17.y)/\True)))))))))) (by kernel_rfl) (by
 rintro ⟨H,y,L,d,body,cap⟩ ⟨hl,ok,hb1,hb2⟩;dsimp only at *;have hf:=ok.few;have hcl:=ok.calls;have hnx:=ok.next
 have hng:=newSeg_gen ok;obtain ⟨e1,_,⟨ea,ec,e2⟩,e3,_⟩:=hl.lv_len;refine ⟨fun c1=>?_,fun _=>⟨fun c2=>?_,fun _=>⟨⟨⟨ea,_,ec,e2,e3⟩,fun c3=>?_,fun c3=>?_⟩,?_⟩⟩⟩
 ·simp at c1;omega
 ·simp at c2;omega
 ·rw [e1] at c3;have hn0:L.l.length=0:=by simpa using c3
  have hneed:needB L body.length=true:=by simp only [needB,hn0];rfl
  have e1:appL1 L body.length=beginL L:=if_pos hneed;have e2:appD1 L d body.length=beginD L d:=if_pos hneed;refine ⟨BegA.mk H y L d,?_⟩
  (repeat' apply And.intro)<;>first|with_reducible (first|rfl|trivial|assumption)|omega|with_reducible (first|exact RowsEq.refl _ _ _|exact Nat.le_refl _)|(dsimp only [List.length_cons,List.length_nil]<;>omega)|exact ok.segs.1|exact ok.segs.2|exact ok.room|exact ok.size|(simp only [InR];omega)|skip
  intro b hpost;refine ⟨(b.H,b.y),?_⟩;simp only [e1,e2]
  (repeat' apply And.intro)<;>first|with_reducible (first|rfl|trivial|assumption)|omega|with_reducible (first|exact RowsEq.refl _ _ _|exact Nat.le_refl _)|(dsimp only [List.length_cons,List.length_nil]<;>omega)|exact hpost.1|exact hpost.2|rfl
 ·rw [e1] at c3 ⊢;have hn0:0<L.l.length:=by have:=(beq_eq_false_iff_ne.1 c3);omega
  have hk:L.l.length - 1<L.l.length:=by omega
  obtain ⟨b,lo,o,c,cs,g1,g2,g3,g4⟩:=hl.at_ hk;have hs:=hl.seg _ hk;obtain ⟨b1,b2,b3,b4,⟨ba,bc,b5⟩,b6⟩:=hs.buf.len;have e5:((L.l.length:Int) - 1).toNat=L.l.length - 1:=by omega
  refine ⟨by simp only [InR];omega,_,_,_,_,g1,by omega,b,lo,o+(L.l.length - 1)*1,cs,by rw [e5,Nat.add_assoc],g2,⟨⟨_,g3,rfl⟩,trivial⟩,?_⟩;refine ⟨_,_,g4,?_⟩;refine ⟨_,_,rfl,?_⟩;refine ⟨_,0,_,_,rfl,hs.cell,?_⟩;refine ⟨⟨⟨_,rfl,b6⟩,trivial⟩,⟨ba,_,bc,b5,b3⟩,by simp only [InR];omega,fun c4=>?_,fun c4=>?_⟩
  ·simp only [segC,List.getD_cons_succ,List.getD_cons_zero,b1] at c4;have hneed:needB L body.length=true:=by
    have:=of_decide_eq_true c4;rw [needB,Bool.or_eq_true];exact .inr (decide_eq_true (show 370<(lastG L).buf.length+body.length by unfold lastG;omega))
   have e1:appL1 L body.length=beginL L:=if_pos hneed;have e2:appD1 L d body.length=beginD L d:=if_pos hneed;refine ⟨BegA.mk H y L d,?_⟩
   (repeat' apply And.intro)<;>first|with_reducible (first|rfl|trivial|assumption)|omega|with_reducible (first|exact RowsEq.refl _ _ _|exact Nat.le_refl _)|(dsimp only [List.length_cons,List.length_nil]<;>omega)|exact ok.segs.1|exact ok.segs.2|exact ok.room|exact ok.size|(simp only [InR];omega)|skip
   intro b hpost;refine ⟨(b.H,b.y),?_⟩;simp only [e1,e2]
   (repeat' apply And.intro)<;>first|with_reducible (first|rfl|trivial|assumption)|omega|with_reducible (first|exact RowsEq.refl _ _ _|exact Nat.le_refl _)|(dsimp only [List.length_cons,List.length_nil]<;>omega)|exact hpost.1|exact hpost.2|rfl
  ·simp only [segC,List.getD_cons_succ,List.getD_cons_zero,b1] at c4;have hneed:needB L body.length=false:=by
    have:=of_decide_eq_false c4;rw [needB,Bool.or_eq_false_iff];exact ⟨decide_eq_false (by omega),decide_eq_false (show ¬ 370<(lastG L).buf.length+body.length by unfold lastG;omega)⟩
   have e1:appL1 L body.length=L:=if_neg (by rw [hneed];decide);have e2:appD1 L d body.length=d:=if_neg (by rw [hneed];decide);refine ⟨(H,y),?_⟩;simp only [e1,e2]
   (repeat' apply And.intro)<;>first|with_reducible (first|rfl|trivial|assumption)|omega|with_reducible (first|exact RowsEq.refl _ _ _|exact Nat.le_refl _)|(dsimp only [List.length_cons,List.length_nil]<;>omega)|exact hl|exact fun _ _ h=>⟨rfl,h⟩|exact fun _ _ h=>⟨trivial,h⟩|rfl
 ·rintro ⟨X,Y⟩ ⟨hX,hfr⟩;dsimp only at hX hfr ⊢;have h1:=appL1_ok (n:=body.length) ok hb2;have eA:appL L body=appL2 (appL1 L body.length) body:=rfl;have eD:appD L d body=if (appL1 L body.length).fresh then devFl (appD2 (appL1 L body.length) (appD1 L d body.length) body) else appD2 (appL1 L body.length) (appD1 L d body.length) body:=rfl;rw [eA,eD];obtain ⟨L1,hL1⟩:∃ L1,L1=appL1 L body.length:=⟨_,rfl⟩
  obtain ⟨d1,hd1⟩:∃ d1,d1=appD1 L d body.length:=⟨_,rfl⟩
  rw [<- hL1] at hX;rw [<- hL1,<- hd1] at h1 ⊢;have hp:=h1.pos;have hk:L1.l.length - 1<L1.l.length:=by omega
  obtain ⟨k1,_,⟨ka,kc,k2⟩,k3,_⟩:=hX.lv_len;obtain ⟨b,lo,o,c,cs,g1,g2,g3,g4⟩:=hX.at_ hk;have hs:=hX.segNd hk;obtain ⟨sl,hsl⟩:∃ sl,sl=gl Y.ys (L1.l.length - 1):=⟨_,rfl⟩
  have hlg:lastG L1=gl L1.l (L1.l.length - 1):=rfl;obtain ⟨g,hg⟩:∃ g,g=lastG L1:=⟨_,rfl⟩
  rw [<- hlg,<- hg,<- hsl] at hs;rw [<- hsl] at g3 g4;rw [<- hg];have hlast:=h1.last;rw [<- hg] at hlast;have hgen:=h1.gen _ hk;rw [<- hlg,<- hg] at hgen;obtain ⟨b1,b2,b3,b4,⟨ba,bc,b5⟩,b6⟩:=hs.at_.buf.len;have e5:((L1.l.length:Int) - 1).toNat=L1.l.length - 1:=by omega
  rw [k1];have hfew:=h1.few;refine ⟨⟨ka,_,kc,k2,k3⟩,by simp only [InR];omega,_,_,_,_,g1,by omega,b,lo,o+(L1.l.length - 1)*1,cs,by rw [e5,Nat.add_assoc],g2,⟨⟨_,g3,rfl⟩,trivial⟩,?_⟩
  repeat (first|refine And.intro (by omega) ?_|refine And.intro (by dsimp only;omega) ?_|refine And.intro (by simp only [InR];omega) ?_)
  intro _
  repeat (first|refine And.intro (by omega) ?_|refine And.intro (by dsimp only;omega) ?_|refine And.intro (by simp only [InR];omega) ?_)
  refine ⟨_,_,g4,?_⟩;refine ⟨_,_,rfl,?_⟩;refine ⟨_,0,_,_,rfl,hs.at_.cell,?_⟩;refine ⟨⟨⟨_,rfl,b6⟩,trivial⟩,⟨ba,_,bc,b5,b3⟩,?_⟩;refine ⟨_,_,g4,?_⟩;refine ⟨_,_,rfl,?_⟩;refine ⟨_,0,_,_,rfl,hs.at_.cell,?_⟩;refine ⟨⟨⟨_,rfl,b6⟩,trivial⟩,?_⟩
  repeat (first|refine And.intro (by omega) ?_|refine And.intro (by dsimp only;omega) ?_|refine And.intro (by simp only [InR];omega) ?_)
  obtain ⟨c0,hbuf⟩:=hs.at_.buf;simp only [show (segC g sl.bv sl.rv).getD 3 (Value.tuple #[])=sl.bv from rfl];refine ⟨_,c0,_,hbuf,?_⟩
  repeat (first|refine And.intro (by omega) ?_|refine And.intro (by dsimp only;omega) ?_|refine And.intro (by simp only [InR];omega) ?_)
  intro cap1 q1 q2 q3
  repeat (first|refine And.intro (by omega) ?_|refine And.intro (by dsimp only;omega) ?_|refine And.intro (by simp only [InR];omega) ?_)
  intro p1 lo1 cs1 hp1 hl1 hr1;have hA:Step X sl.bv (pupd (pminusV X sl.bv) p1 lo1 cs1) (slv p1 lo1 (g.buf.length+8) cap1):=app_step hp1;have hsA:slAt (pupd (pminusV X sl.bv) p1 lo1 cs1) (slv p1 lo1 (g.buf.length+8) cap1) [.int .u8] (g.buf.length+8) cap1 (encRows encB (g.buf++hdrB body.length L1.next)):=by
   refine slAt_new hl1 q1 q2 hr1 fun i hi j hj=>?_;have hj0:j=0:=by simpa using hj
   subst hj0;simp only [Nat.zero_add,appRows,encRows,encB,List.getD_cons_zero];by_cases hin:i<g.buf.length
   ·rw [if_pos hin,gl_append_left hin]
   ·rw [if_neg hin];obtain ⟨m,rfl⟩:∃ m,i=g.buf.length+m:=⟨i - g.buf.length,by omega⟩
    rw [gl_append_right,Nat.add_sub_cancel_left];have hm:m<8:=by omega
    match m,hm with
    | 0,_=>rfl
    | 1,_=>rfl
    | 2,_=>rfl
    | 3,_=>rfl
    | 4,_=>rfl
    | 5,_=>rfl
    | 6,_=>rfl
    | 7,_=>rfl
  refine ⟨_,cap1,_,hsA,?_⟩
  repeat (first|refine And.intro (by omega) ?_|refine And.intro (by dsimp only;omega) ?_|refine And.intro (by simp only [InR];omega) ?_)
  intro cap2 q4 q5 q6
  repeat (first|refine And.intro (by omega) ?_|refine And.intro (by dsimp only;omega) ?_|refine And.intro (by simp only [InR];omega) ?_)
  intro p2 lo2 cs2 hp2 hl2 hr2;have hB:Step X sl.bv (pupd (pminusV (pupd (pminusV X sl.bv) p1 lo1 cs1) (slv p1 lo1 (g.buf.length+8) cap1)) p2 lo2 cs2) (slv p2 lo2 (g.buf.length+8+body.length) cap2):=hA.trans (app_step hp2);have hlb:(bufApp g L1.next body).length=g.buf.length+8+body.length:=by simp only [bufApp,List.length_append];rfl
  have hBy:BytesAt (pupd (pminusV (pupd (pminusV X sl.bv) p1 lo1 cs1) (slv p1 lo1 (g.buf.length+8) cap1)) p2 lo2 cs2) (slv p2 lo2 (g.buf.length+8+body.length) cap2) (bufApp g L1.next body):=by
   refine ⟨cap2,?_⟩;rw [hlb];refine slAt_new hl2 q4 q5 hr2 fun i hi j hj=>?_;have hj0:j=0:=by simpa using hj
   subst hj0;simp only [Nat.zero_add,appRows,encRows,encB,List.getD_cons_zero,bufApp];have hl8:(g.buf++hdrB body.length L1.next).length=g.buf.length+8:=by rw [List.length_append];rfl
   by_cases hin:i<g.buf.length+8
   ·rw [if_pos hin,show gl (g.buf++hdrB body.length L1.next++body) i=gl (g.buf++hdrB body.length L1.next) i from gl_append_left (by rw [hl8];exact hin)]
   ·rw [if_neg hin];obtain ⟨m,rfl⟩:∃ m,i=g.buf.length+8+m:=⟨i - (g.buf.length+8),by omega⟩
    rw [<- hl8,gl_append_right,Nat.add_sub_cancel_left]
  obtain ⟨hc2,hs3,hf3⟩:=seg_setbuf hs hB hBy;obtain ⟨X2,hX2⟩:∃ X2,X2=pupd (pminusV (pupd (pminusV X sl.bv) p1 lo1 cs1) (slv p1 lo1 (g.buf.length+8) cap1)) p2 lo2 cs2:=⟨_,rfl⟩
  rw [<- hX2] at hc2 hs3 hf3 ⊢;refine ⟨_,_,g4,?_⟩;refine ⟨_,_,rfl,?_⟩;refine ⟨_,0,_,_,rfl,hc2,by simp [segC],?_⟩;obtain ⟨X3,hX3⟩:∃ X3,X3=pupd X2 sl.b 0 (segC { g with buf:=bufApp g L1.next body } (slv p2 lo2 (g.buf.length+8+body.length) cap2) sl.rv):=⟨_,rfl⟩
  have eX3:pupd X2 sl.b 0 (List.take 3 (segC g sl.bv sl.rv)++[Value.slice (some ⟨p2,lo2,none⟩) (g.buf.length+8+body.length) cap2]++List.drop (3+[Value.slice (some ⟨p2,lo2,none⟩) (g.buf.length+8+body.length) cap2].length) (segC g sl.bv sl.rv))=X3:=hX3.symm;rw [<- hX3] at hs3 hf3;simp only [eX3];obtain ⟨sl3,hsl3⟩:∃ s,s={ sl with bv:=slv p2 lo2 (g.buf.length+8+body.length) cap2 }:=⟨_,rfl⟩
  obtain ⟨g3',hg3⟩:∃ s:SegM,s={ g with buf:=bufApp g L1.next body }:=⟨_,rfl⟩
  have hsw:segW g L.next body=g3':=by rw [hg3,<- h1.next];rfl
  have hb3:g3'.buf.length=g.buf.length+8+body.length:=by rw [hg3];exact hlb
  have hgen3:g3'.gen=g.gen:=by rw [hg3]
  have hv2:sl3.bv=slv p2 lo2 (g.buf.length+8+body.length) cap2:=by rw [hsl3]
  have hb3s:sl3.b=sl.b:=by rw [hsl3]
  rw [<- hsl3,<- hg3] at hs3;rw [<- hsl3] at hf3;have hcell3:=hs3.at_.cell;have hwn:=writesTo_n L1 g3' g.buf.length d1;have hsegs:=ok.segs;have hroom:=ok.room;have hsize:=ok.size;have q1n:=h1.dn;have q1c:=h1.calls;have q1f:=h1.from_;have q1s:=h1.segs;rw [hsw];refine ⟨⟨0,?_⟩,fun i hi=>⟨fun c5=>?_,fun c5=>?_⟩⟩
  ·(repeat' apply And.intro)<;>first|with_reducible (first|rfl|trivial|assumption)|omega|with_reducible (first|exact RowsEq.refl _ _ _|exact Nat.le_refl _)|(dsimp only [List.length_cons,List.length_nil]<;>omega)|rfl|exact Nat.le_refl _|exact RowsEq.refl _ _ _
  ·have hi8:i<8:=by have:=of_decide_eq_true c5;omega
   have em:(bif true then max 0 (((i:Int)+1)*48 - 6) else min 0 (((i:Int)+1)*48 - 6))=(startS (i+1):Nat):=by simp only [cond_true,startS];omega
   have em2:(bif true then max 0 ((i:Int)*48 - 6) else min 0 ((i:Int)*48 - 6))=(startS i:Nat):=by simp only [cond_true,startS];omega
   simp only [show (segC g sl.bv sl.rv).getD 3 (Value.tuple #[])=sl.bv from rfl,b1,em,em2];have hw1:=hwn i
   repeat (first|refine And.intro (by omega) ?_|refine And.intro (by dsimp only;omega) ?_|refine And.intro (by simp only [InR];omega) ?_)
   refine ⟨fun c6=>?_,fun c6=>?_⟩
   ·have c6:g.buf.length<startS (i+1):=by have:=of_decide_eq_true c6;omega
    refine ⟨_,_,g4,?_⟩;refine ⟨_,_,rfl,?_⟩;refine ⟨_,0,_,_,rfl,by rw [<- hb3s];exact hcell3,?_⟩;refine ⟨⟨⟨_,rfl,by rw [hv2];rfl⟩,trivial⟩,⟨_,_,_,hv2,Nat.le_trans q4 q5⟩,?_⟩;simp only [hv2,segC,List.getD_cons_succ,List.getD_cons_zero,slLen_slv]
    repeat (first|refine And.intro (by omega) ?_|refine And.intro (by dsimp only;omega) ?_|refine And.intro (by simp only [InR];omega) ?_)
    refine ⟨fun c7=>?_,fun c7=>?_⟩
    ·have c7:startS i<g.buf.length+8+body.length:=by have:=of_decide_eq_true c7;omega
     have hcond:writesTo L1 g3' g.buf.length d1 (i+1)=devWr (writesTo L1 g3' g.buf.length d1 i) (secNo L1 g3' i) 64 (secB g3' i L1.run):=by
      have:condS g.buf.length g3'.buf.length i=true:=by simp only [condS,Bool.and_eq_true,decide_eq_true_eq];omega
      simp only [writesTo,this,if_true]
     refine ⟨WriteA.mk X3 sl3 g3' i L1 Y.lv (writesTo L1 g3' g.buf.length d1 i),?_⟩
     (repeat' apply And.intro)<;>first|with_reducible (first|rfl|trivial|assumption)|omega|with_reducible (first|exact RowsEq.refl _ _ _|exact Nat.le_refl _)|(dsimp only [List.length_cons,List.length_nil]<;>omega)|exact hs3.at_|(rw [hb3s];exact g4)|exact RowsEq.refl _ _ _|(dsimp only;omega)|skip
     intro _ _;refine ⟨by simp only [InR];omega,i+1,?_⟩;rw [hcond]
     (repeat' apply And.intro)<;>first|with_reducible (first|rfl|trivial|assumption)|omega|with_reducible (first|exact RowsEq.refl _ _ _|exact Nat.le_refl _)|(dsimp only [List.length_cons,List.length_nil]<;>omega)|exact RowsEq.refl _ _ _|(simp only [devWr];omega)|skip
    ·have c7:¬ startS i<g.buf.length+8+body.length:=by have:=of_decide_eq_false c7;omega
     have hcond:writesTo L1 g3' g.buf.length d1 (i+1)=writesTo L1 g3' g.buf.length d1 i:=by
      have:condS g.buf.length g3'.buf.length i=false:=by simp only [condS,Bool.and_eq_false_iff,decide_eq_false_iff_not];omega
      simp only [writesTo,this];rfl
     refine ⟨by simp only [InR];omega,i+1,?_⟩;rw [hcond]
     (repeat' apply And.intro)<;>first|with_reducible (first|rfl|trivial|assumption)|omega|with_reducible (first|exact RowsEq.refl _ _ _|exact Nat.le_refl _)|(dsimp only [List.length_cons,List.length_nil]<;>omega)|exact RowsEq.refl _ _ _|skip
   ·have c6:¬ g.buf.length<startS (i+1):=by have:=of_decide_eq_false c6;omega
    have hcond:writesTo L1 g3' g.buf.length d1 (i+1)=writesTo L1 g3' g.buf.length d1 i:=by
     have:condS g.buf.length g3'.buf.length i=false:=by simp only [condS,Bool.and_eq_false_iff,decide_eq_false_iff_not];omega
     simp only [writesTo,this];rfl
    refine ⟨by simp only [InR];omega,i+1,?_⟩;rw [hcond]
    (repeat' apply And.intro)<;>first|with_reducible (first|rfl|trivial|assumption)|omega|with_reducible (first|exact RowsEq.refl _ _ _|exact Nat.le_refl _)|(dsimp only [List.length_cons,List.length_nil]<;>omega)|exact RowsEq.refl _ _ _|skip
  ·have hi8:i=8:=by have:=of_decide_eq_false c5;omega
   subst hi8;have eD2:appD2 L1 d1 body=writesTo L1 g3' g.buf.length d1 8:=by
    have:segW (lastG L1) L1.next body=g3':=by rw [h1.next,<- hg];exact hsw
    unfold appD2;rw [this,<- hg]
   refine ⟨_,_,g4,?_⟩;refine ⟨_,_,rfl,?_⟩;refine ⟨_,0,_,_,rfl,by rw [<- hb3s];exact hcell3,?_⟩;obtain ⟨c9,hrec⟩:=hs3.at_.recs;obtain ⟨m1,m2,m3,m4,m5,_,m6⟩:=slAt_len hrec;refine ⟨⟨⟨_,rfl,m6⟩,trivial⟩,fun _ b11 hb11=>⟨fun e=>absurd (hb11 e) (by omega),fun _=>?_⟩⟩;simp only [show (segC g3' sl3.bv sl3.rv).getD 4 (Value.tuple #[])=sl3.rv from rfl,Nat.zero_add]
   repeat (first|refine And.intro (by omega) ?_|refine And.intro (by dsimp only;omega) ?_|refine And.intro (by simp only [InR];omega) ?_)
   intro cap3 u1 u2 u3
   repeat (first|refine And.intro (by omega) ?_|refine And.intro (by dsimp only;omega) ?_|refine And.intro (by simp only [InR];omega) ?_)
   intro p3 lo3 cs3 hp3 hl3 hr3;have hC:Step X3 (.slice none 0 0) (pupd X3 p3 lo3 cs3) (slv p3 lo3 body.length cap3):=new_step hp3;have hCb:BytesAt (pupd X3 p3 lo3 cs3) (slv p3 lo3 body.length cap3) body:=by
    refine ⟨cap3,slAt_new hl3 u1 u2 hr3 fun i hi j hj=>?_⟩;have hj0:j=0:=by simpa using hj
    subst hj0;simp only [appRows,Nat.not_lt_zero,if_false,Nat.sub_zero]
   have hx3:∀ x,X3 x≠none->x≠p3:=fun x hx e=>hx (by rw [e];exact hp3);have hrec4:slAt (pupd X3 p3 lo3 cs3) sl3.rv ksRec g3'.recs.length c9 (recR g3'.recs sl3.vs):=slAt_frame hrec fun x hx=>pupd_ne (hx3 x (slAt_dom hrec x hx));refine ⟨_,c9,_,hrec4,?_⟩;have hrc:=h1.recs _ hk;have hbc:=h1.buf _ hk;rw [<- hlg,<- hg] at hrc hbc;have hmr:g3'.recs.length=g.recs.length:=by rw [hg3]
   repeat (first|refine And.intro (by omega) ?_|refine And.intro (by dsimp only;omega) ?_|refine And.intro (by simp only [InR];omega) ?_)
   intro cap4 w1 w2 w3
   repeat (first|refine And.intro (by omega) ?_|refine And.intro (by dsimp only;omega) ?_|refine And.intro (by simp only [InR];omega) ?_)
   intro p4 lo4 cs4 hp4 hl4 hr4;have hD:Step (pupd X3 p3 lo3 cs3) sl3.rv (pupd (pminusV (pupd X3 p3 lo3 cs3) sl3.rv) p4 lo4 cs4) (slv p4 lo4 (g3'.recs.length+1) cap4):=app_step hp4;have hr5:slAt (pupd (pminusV (pupd X3 p3 lo3 cs3) sl3.rv) p4 lo4 cs4) (slv p4 lo4 (g3'.recs.length+1) cap4) ksRec (g3'.recs.length+1) cap4 (recR (g3'.recs++[⟨L1.next,body⟩]) (sl3.vs++[slv p3 lo3 body.length cap3])):=by
    refine slAt_new hl4 w1 w2 hr4 fun i hi j hj=>?_;have hvl:=hs3.at_.len;simp only [appRows,recR,Nat.zero_add];by_cases hin:i<g3'.recs.length
    ·rw [if_pos hin,gl_append_left hin];by_cases hj0:j=0
     ·rw [if_pos hj0,if_pos hj0]
     ·rw [if_neg hj0,if_neg hj0,List.getD_eq_getElem?_getD,List.getD_eq_getElem?_getD,List.getElem?_append_left (by omega)]
    ·rw [if_neg hin];obtain rfl:i=g3'.recs.length:=by omega
     rw [Nat.sub_self];have hj2:j<2:=hj
     match j,hj2 with
     | 0,_=>rw [if_pos rfl,show g3'.recs.length=g3'.recs.length+0 from rfl,gl_append_right];rfl
     | 1,_=>rw [if_neg (by decide),List.getD_eq_getElem?_getD,List.getElem?_append_right (by omega),hvl,Nat.sub_self];rfl
   obtain ⟨hcell4,hcell5,hnd6,hfr6⟩:=seg_setrecs (r:=⟨L1.next,body⟩) hs3 hC hCb hD (fun x hx=>by
    simp only [fpV,slv,List.mem_singleton] at hx;rw [hx,pupd_self];simp) ⟨cap4,hr5⟩
   have hset:=hX.set hk (sl:=⟨sl3.b,sl3.bv,slv p4 lo4 (g3'.recs.length+1) cap4,sl3.vs++[slv p3 lo3 body.length cap3]⟩) (g:={ g3' with recs:=g3'.recs++[⟨L1.next,body⟩] }) (by rw [<- hsl];exact hb3s) hnd6 (by rw [<- hsl];exact hf3.trans hfr6);have hAll:=hset.1.congr (L':=appL2 L1 body) (by
    simp only [appL2,putLast];rw [<- hg,hg3];rfl)
   have hFr:∀ z,H z≠none->z∉fpLog y->pupd (pupd (pminusV (pupd X3 p3 lo3 cs3) sl3.rv) p4 lo4 cs4) sl3.b 0 (segC { g3' with recs:=g3'.recs++[⟨L1.next,body⟩] } sl3.bv (slv p4 lo4 (g3'.recs.length+1) cap4)) z=H z/\z∉fpLog ⟨Y.lv,Y.ys.set (L1.l.length - 1) ⟨sl3.b,sl3.bv,slv p4 lo4 (g3'.recs.length+1) cap4,sl3.vs++[slv p3 lo3 body.length cap3]⟩⟩:=fun z hz hn=>by
    obtain ⟨f1,f2⟩:=hfr z hz hn;obtain ⟨f3,f4⟩:=hset.2 z (by rw [f1];exact hz) f2;exact ⟨f3.trans f1,f4⟩
   obtain ⟨X6,hX6⟩:∃ X6,X6=pupd (pupd (pminusV (pupd X3 p3 lo3 cs3) sl3.rv) p4 lo4 cs4) sl3.b 0 (segC { g3' with recs:=g3'.recs++[⟨L1.next,body⟩] } sl3.bv (slv p4 lo4 (g3'.recs.length+1) cap4)):=⟨_,rfl⟩
   rw [<- hX6] at hAll;simp only [<- hX6] at hFr;refine ⟨_,_,g4,?_⟩;refine ⟨_,_,rfl,?_⟩;refine ⟨_,0,_,_,rfl,by rw [<- hb3s];exact hcell5,by simp [segC],fun _=>?_⟩;have q1x:=h1.next
   have eDn:(appD2 L1 d1 body).n=d.n/\(appD2 L1 d1 body).calls<=d.calls+10:=by rw [eD2];have:=hwn 8;omega
   rw [eD2] at eDn;refine ⟨by simp only [InR];omega,fun hfre _=>⟨by simp only [InR];omega,writesTo L1 g3' g.buf.length d1 8,?_⟩,fun hfre _=>⟨by simp only [InR];omega,?_⟩⟩
   ·(repeat' apply And.intro)<;>first|with_reducible (first|rfl|trivial|assumption)|omega|with_reducible (first|exact RowsEq.refl _ _ _|exact Nat.le_refl _)|(dsimp only [List.length_cons,List.length_nil]<;>omega)|exact RowsEq.refl _ _ _|skip
    intro _ _;rw [hfre,if_pos rfl,eD2];refine ⟨⟨X6,⟨Y.lv,Y.ys.set (L1.l.length - 1) ⟨sl3.b,sl3.bv,slv p4 lo4 (g3'.recs.length+1) cap4,sl3.vs++[slv p3 lo3 body.length cap3]⟩⟩⟩,?_⟩
    (repeat' apply And.intro)<;>first|with_reducible (first|rfl|trivial|assumption)|omega|with_reducible (first|exact RowsEq.refl _ _ _|exact Nat.le_refl _)|(dsimp only [List.length_cons,List.length_nil]<;>omega)|exact hAll|exact hFr|(rw [hX6,hb3s];rfl)|exact Nat.le_refl _|exact RowsEq.refl _ _ _|rfl|skip
   ·rw [hfre,if_neg (by decide),eD2];refine ⟨⟨X6,⟨Y.lv,Y.ys.set (L1.l.length - 1) ⟨sl3.b,sl3.bv,slv p4 lo4 (g3'.recs.length+1) cap4,sl3.vs++[slv p3 lo3 body.length cap3]⟩⟩⟩,?_⟩
    (repeat' apply And.intro)<;>first|with_reducible (first|rfl|trivial|assumption)|omega|with_reducible (first|exact RowsEq.refl _ _ _|exact Nat.le_refl _)|(dsimp only [List.length_cons,List.length_nil]<;>omega)|exact hAll|exact hFr|(rw [hX6,hb3s];rfl)|exact Nat.le_refl _|exact RowsEq.refl _ _ _|rfl|skip)
theorem callAppend:CallsBy (Y Tryz.prog).G.X 53 cAppend:=fn_ok okY (tab:=[(76,cBegin),(79,cWrite),(72,cDevFlush)]) ⟨callBegin,callWrite,callDevFlush,trivial⟩ bodyAppend
end Go.Proofs.YtfhkbihcfmbbcaaGreat

namespace Go.Proofs.YtfhkbihcfmbbcaaGreat
open Go.Sx
set_option maxRecDepth 100000
set_option linter.unusedVariables false
set_option linter.unusedSimpArgs false
structure SortedR (rs:List RecM):Prop where
 lt:∀ i j,i<j->j<rs.length->(gl rs i).pos<(gl rs j).pos
 rng:∀ i,i<rs.length->0<=(gl rs i).pos/\(gl rs i).pos<1000000000000
theorem rec_at {H:PH} {v:Value} {rs:List RecM} {vs:List Value} {n c:Nat} (h:slAt H v ksRec n c (recR rs vs)) {k:Nat} (hk:k<n):∃ b lo o cs,v=slv b (lo+o) n c/\H b=some (lo,cs)/\cs[o+k*2]? = some (.int .i64 (gl rs k).pos)/\cs[o+k*2+1]? = some (vs.getD k undef) /\
 (vs.getD k undef).oneCell'=true/\InR .i64 (gl rs k).pos/\cs.getD (o+k*2) (Value.tuple #[]) = .int .i64 (gl rs k).pos/\cs.getD (o+k*2+1) (Value.tuple #[])=vs.getD k undef:=by
 rcases h with ⟨_,h0,_⟩ | ⟨b,lo,o,cs,h1,h2,h3,h4,h5⟩
 ·omega
 ·obtain ⟨g1,g2⟩:=h5.at_ k hk 0 (.int .i64) rfl;obtain ⟨g3,g4⟩:=h5.at_ k hk 1 .deep rfl;have g1:cs[o+k*2]? = some (.int .i64 (gl rs k).pos):=g1;have g3:cs[o+k*2+1]? = some (vs.getD k undef):=g3;obtain ⟨m,hm,hr⟩:=g2;have hr:InR .i64 (gl rs k).pos:=by
   have:(Value.int .i64 (gl rs k).pos) = .int .i64 m:=hm;injection this with _ e
   rw [e];exact hr
  exact ⟨b,lo,o,cs,h1,h3,g1,g3,g4,hr,by rw [List.getD_eq_getElem?_getD,g1];rfl,by rw [List.getD_eq_getElem?_getD,g3];rfl⟩
structure BinA where
 H:PH
 rv:Value
 rs:List RecM
 vs:List Value
 p:Int
noncomputable def cBin:Con where
 α:=BinA
 β:=Nat
 m:=1
 m':=1
 pre:=fun a=>(∃ c,slAt a.H a.rv ksRec a.rs.length c (recR a.rs a.vs))/\a.rs.length<=400/\SortedR a.rs/\0<=a.p/\a.p<1000000000000
 args:=fun a=>[.a (.val a.rv),.a (.int .i64 a.p),.a (.fn 95)]
 hp:=fun _=>[]
 ro:=fun a=>[(0,.pool a.H)]
 post:=fun a n=>n<=a.rs.length/\(∀ k,k<n->(gl a.rs k).pos<a.p)/\∀ k,n<=k->k<a.rs.length->a.p<=(gl a.rs k).pos
 res:=fun a n=>.tup [.a (.int .i64 n),.a (.bool (decide (n<a.rs.length)&&decide ((gl a.rs n).pos=a.p)))]
 hp':=fun _ _=>[]
def iBin (a:BinA):An:=.flat 3 (Nat × Nat) (fun s x=>(s.int 9 x.1).int 10 x.2) (fun _ x=>x.1<=x.2/\x.2<=a.rs.length/\(∀ k,k<x.1->(gl a.rs k).pos<a.p)/\∀ k,x.2<=k->k<a.rs.length->a.p<=(gl a.rs k).pos) (fun _ x=>x.2 - x.1)
set_option maxHeartbeats 4000000 in
theorem bodyBin:fnBody (Y Tryz.prog) [] 94 cBin fun a=>[(94,[iBin a],[])]:=fnBody.of (p :=
 ∀ a:BinA,(∃ c:Nat,slAt a.H a.rv [CK.int IntKind.i64,CK.deep] a.rs.length c (recR a.rs a.vs))/\a.rs.length<=400/\SortedR a.rs/\(0:Int)<=a.p/\a.p<(1000000000000:Int)->(∃ a_2:Option Go.Addr,∃ l c:Nat,a.rv=Value.slice a_2 l c/\l<=lenMax)/\(∃ a_2:Nat × Nat,(↑(slLen a.rv):Int)=(↑a_2.snd:Int)/\0=(↑a_2.fst:Int)/\(↑(slLen a.rv):Int)=(↑(slLen a.rv):Int)/\false=false/\(0:Int)=0/\a.rv=a.rv/\a.p=a.p/\a.H=a.H/\(a_2.fst<=a_2.snd/\a_2.snd<=a.rs.length/\(∀ k:Nat,k<a_2.fst->(gl a.rs k).pos<a.p)/\∀ k:Nat,a_2.snd<=k->k<a.rs.length->a.p<=(gl a.rs k).pos)/\True)/\∀ a_2:Nat × Nat,(a_2.fst<=a_2.snd/\a_2.snd<=a.rs.length/\(∀ k:Nat,k<a_2.fst->(gl a.rs k).pos<a.p)/\∀ k:Nat,a_2.snd<=k->k<a.rs.length->a.p<=(gl a.rs k).pos)->(decide ((↑a_2.fst:Int)<(↑a_2.snd:Int))=true->InR .i64 ((↑a_2.fst:Int)+(↑a_2.snd:Int))/\(0:Int)<=1/\∃ b o:Nat,∃ l c:Nat,a.rv=slv b o l c/\((0:Int)<=uw .i64 (uw .u64 ((↑a_2.fst:Int)+(↑a_2.snd:Int)) / (2:Int))/\uw .i64 (uw .u64 ((↑a_2.fst:Int)+(↑a_2.snd:Int)) / (2:Int))<(↑l:Int))/\∃ b_1 lo o_1:Nat,∃ cs:List Value,pv b (o+(uw .i64 (uw .u64 ((↑a_2.fst:Int)+(↑a_2.snd:Int)) / (2:Int))).toNat*2)=pv b_1 (lo+o_1)/\a.H b_1=some (lo,cs)/\((∃ v:Value,cs[o_1]? = some v/\∃ n:Int,v=Value.int IntKind.i64 n/\InR .i64 n)/\(∃ v:Value,cs[o_1+1]? = some v/\v.oneCell'=true)/\True)/\(InR .i64 (toI (cs.getD o_1 (Value.tuple #[]))) ->
 InR .i64 (toI (cs.getD o_1 (Value.tuple #[])) - a.p)/\(decide ((bif false then max (bif true then max (toI (cs.getD o_1 (Value.tuple #[])) - a.p) (-1:Int) else min (toI (cs.getD o_1 (Value.tuple #[])) - a.p) (-1:Int)) (1:Int) else min (bif true then max (toI (cs.getD o_1 (Value.tuple #[])) - a.p) (-1:Int) else min (toI (cs.getD o_1 (Value.tuple #[])) - a.p) (-1:Int)) (1:Int))<(0:Int))=true->InR .i64 (uw .i64 (uw .u64 ((↑a_2.fst:Int)+(↑a_2.snd:Int)) / (2:Int))+(1:Int))/\∃ (a':Nat × Nat),(↑a_2.snd:Int)=(↑a'.snd:Int)/\uw .i64 (uw .u64 ((↑a_2.fst:Int)+(↑a_2.snd:Int)) / (2:Int))+1=(↑a'.fst:Int)/\(↑(slLen a.rv):Int)=(↑(slLen a.rv):Int)/\false=false/\(0:Int)=0/\a.rv=a.rv/\a.p=a.p/\a.H=a.H/\(a'.fst<=a'.snd/\a'.snd<=a.rs.length/\(∀ k:Nat,k<a'.fst->(gl a.rs k).pos<a.p)/\∀ k:Nat,a'.snd<=k->k<a.rs.length->a.p<=(gl a.rs k).pos)/\a'.snd - a'.fst<a_2.snd - a_2.fst)/\(decide ((bif false then max (bif true then max (toI (cs.getD o_1 (Value.tuple #[])) - a.p) (-1:Int) else min (toI (cs.getD o_1 (Value.tuple #[])) - a.p) (-1:Int)) (1:Int) else min (bif true then max (toI (cs.getD o_1 (Value.tuple #[])) - a.p) (-1:Int) else min (toI (cs.getD o_1 (Value.tuple #[])) - a.p) (-1:Int)) (1:Int))<(0:Int))=false->∃ (a':Nat × Nat),uw .i64 (uw .u64 ((↑a_2.fst:Int)+(↑a_2.snd:Int)) / (2:Int))=(↑a'.snd:Int)/\(↑a_2.fst:Int)=(↑a'.fst:Int)/\(↑(slLen a.rv):Int)=(↑(slLen a.rv):Int) /\
 false=false/\(0:Int)=0/\a.rv=a.rv/\a.p=a.p/\a.H=a.H/\(a'.fst<=a'.snd/\a'.snd<=a.rs.length/\(∀ k:Nat,k<a'.fst->(gl a.rs k).pos<a.p)/\∀ k:Nat,a'.snd<=k->k<a.rs.length->a.p<=(gl a.rs k).pos)/\a'.snd - a'.fst<a_2.snd - a_2.fst)))/\(decide ((↑a_2.fst:Int)<(↑a_2.snd:Int))=false->(decide ((↑a_2.fst:Int)<(↑(slLen a.rv):Int))=true->∃ b o:Nat,∃ l c:Nat,a.rv=slv b o l c/\(0<=(↑a_2.fst:Int)/\(↑a_2.fst:Int)<(↑l:Int))/\∃ b_1 lo o_1:Nat,∃ cs:List Value,pv b (o+(↑a_2.fst:Int).toNat*2)=pv b_1 (lo+o_1)/\a.H b_1=some (lo,cs)/\((∃ v:Value,cs[o_1]? = some v/\∃ n:Int,v=Value.int IntKind.i64 n/\InR .i64 n)/\(∃ v:Value,cs[o_1+1]? = some v/\v.oneCell'=true)/\True)/\(InR .i64 (toI (cs.getD o_1 (Value.tuple #[])))->InR .i64 (toI (cs.getD o_1 (Value.tuple #[])) - a.p)/\∃ b:Nat,(↑a_2.fst:Int)=(↑b:Int)/\((bif false then max (bif true then max (toI (cs.getD o_1 (Value.tuple #[])) - a.p) (-1:Int) else min (toI (cs.getD o_1 (Value.tuple #[])) - a.p) (-1:Int)) (1:Int) else min (bif true then max (toI (cs.getD o_1 (Value.tuple #[])) - a.p) (-1:Int) else min (toI (cs.getD o_1 (Value.tuple #[])) - a.p) (-1:Int)) (1:Int)) == (0:Int))=(decide (b<a.rs.length)&&decide ((gl a.rs b).pos=a.p))/\(b<=a.rs.length/\(∀ k:Nat,k<b->(gl a.rs k).pos<a.p)/\∀ k:Nat,b<=k->k<a.rs.length->a.p<=(gl a.rs k).pos)/\True))/\(decide ((↑a_2.fst:Int)<(↑(slLen a.rv):Int))=false ->
 ∃ b:Nat,(↑a_2.fst:Int)=(↑b:Int)/\false=(decide (b<a.rs.length)&&decide ((gl a.rs b).pos=a.p))/\(b<=a.rs.length/\(∀ k:Nat,k<b->(gl a.rs k).pos<a.p)/\∀ k:Nat,b<=k->k<a.rs.length->a.p<=(gl a.rs k).pos)/\True))) (by kernel_rfl) (by
 rintro ⟨H,rv,rs,vs,p⟩ ⟨⟨c,hs⟩,h1,⟨h2,h2'⟩,h3,h4⟩;dsimp only at *;obtain ⟨e1,_,_,e4,_,⟨ea,e2⟩,_⟩:=slAt_len hs;refine ⟨⟨ea,_,_,e2,by omega⟩,⟨(0,rs.length),?_⟩,fun x hx=>?_⟩
 ·rw [e1]
  (repeat' (first|apply And.intro|(intro _)))<;>first|with_reducible (first|rfl|trivial|assumption)|omega|with_reducible (first|exact RowsEq.refl _ _ _|exact Nat.le_refl _)|(dsimp only [List.length_cons,List.length_nil]<;>omega)|(exfalso;dsimp only at *;omega)
 ·obtain ⟨i,j⟩:=x;obtain ⟨x1,x2,x3,x4⟩:=hx;dsimp only at *;have hmid:uw .i64 (uw .u64 ((i:Int)+j) / 2)=(((i+j) / 2:Nat):Int):=by
   have e1:uw .u64 ((i:Int)+j)=(i:Int)+j:=by simp only [uw];omega
   rw [e1];have e2:((i:Int)+j) / 2=(((i+j) / 2:Nat):Int):=by omega
   rw [e2];exact wrap_of_InR (k:=.i64) (by simp only [InR];omega)
  refine ⟨fun c1=>?_,fun c1=>?_⟩
  ·have c1:i<j:=by have:=of_decide_eq_true c1;omega
   obtain ⟨m,hm⟩:∃ m,m=(i+j) / 2:=⟨_,rfl⟩
   rw [hmid,<- hm];have hmi:i<=m/\m<j:=by omega
   obtain ⟨b,lo,o,cs,g1,g2,g3,g4,g5,g6,g7,g8⟩:=rec_at hs (k:=m) (by omega);have hr:=h2' m (by omega);refine ⟨by simp only [InR];omega,by omega,_,_,_,_,g1,by omega,b,lo,o+m*2,cs,by rw [Int.toNat_natCast,Nat.add_assoc],g2,⟨⟨_,g3,_,rfl,g6⟩,⟨_,g4,g5⟩,trivial⟩,fun _=>?_⟩;rw [g7];simp only [toI,cond_true,cond_false];refine ⟨by simp only [InR];omega,fun c2=>⟨by simp only [InR];omega,(m+1,j),?_⟩,fun c2=>⟨(i,m),?_⟩⟩
   ·have c2:=of_decide_eq_true c2;have hlt:(gl rs m).pos<p:=by omega
    (repeat' (first|apply And.intro|(intro _)))<;>first|with_reducible (first|rfl|trivial|assumption)|omega|with_reducible (first|exact RowsEq.refl _ _ _|exact Nat.le_refl _)|(dsimp only [List.length_cons,List.length_nil]<;>omega)|skip
    ·rename_i k hk;by_cases hkm:k=m
     ·rw [hkm];exact hlt
     ·have:=h2 k m (by dsimp only at hk;omega) (by omega);omega
    ·rename_i k hk1 hk2;exact x4 k hk1 hk2
   ·have c2:=of_decide_eq_false c2;have hge:p<=(gl rs m).pos:=by omega
    (repeat' (first|apply And.intro|(intro _)))<;>first|with_reducible (first|rfl|trivial|assumption)|omega|with_reducible (first|exact RowsEq.refl _ _ _|exact Nat.le_refl _)|(dsimp only [List.length_cons,List.length_nil]<;>omega)|skip
    ·rename_i k hk;exact x3 k hk
    ·rename_i k hk1 hk2;by_cases hkm:k=m
     ·rw [hkm];exact hge
     ·have:=h2 m k (by dsimp only at hk1;omega) hk2;omega
  ·have c1:i=j:=by have:=of_decide_eq_false c1;omega
   subst c1;rw [e1];refine ⟨fun c2=>?_,fun c2=>⟨i,?_⟩⟩
   ·have c2:i<rs.length:=by have:=of_decide_eq_true c2;omega
    obtain ⟨b,lo,o,cs,g1,g2,g3,g4,g5,g6,g7,g8⟩:=rec_at hs (k:=i) c2;have hr:=h2' i c2;refine ⟨_,_,_,_,g1,by omega,b,lo,o+i*2,cs,by rw [Int.toNat_natCast,Nat.add_assoc],g2,⟨⟨_,g3,_,rfl,g6⟩,⟨_,g4,g5⟩,trivial⟩,fun _=>?_⟩;rw [g7];simp only [toI,cond_true,cond_false];refine ⟨by simp only [InR];omega,i,?_⟩;have hb:(min (max ((gl rs i).pos - p) (-1)) 1 == 0)=(decide (i<rs.length)&&decide ((gl rs i).pos=p)):=by
     rw [Bool.eq_iff_iff];simp only [beq_iff_eq,Bool.and_eq_true,decide_eq_true_eq];omega
    (repeat' (first|apply And.intro|(intro _)))<;>first|with_reducible (first|rfl|trivial|assumption)|omega|with_reducible (first|exact RowsEq.refl _ _ _|exact Nat.le_refl _)|(dsimp only [List.length_cons,List.length_nil]<;>omega)|exact hb|(rename_i k hk;exact x3 k hk)|(rename_i k hk1 hk2;exact x4 k hk1 hk2)
   ·have c2:¬ i<rs.length:=by have:=of_decide_eq_false c2;omega
    have hb:false=(decide (i<rs.length)&&decide ((gl rs i).pos=p)):=by simp [c2]
    (repeat' (first|apply And.intro|(intro _)))<;>first|with_reducible (first|rfl|trivial|assumption)|omega|with_reducible (first|exact RowsEq.refl _ _ _|exact Nat.le_refl _)|(dsimp only [List.length_cons,List.length_nil]<;>omega)|exact hb|(rename_i k hk;exact x3 k hk)|(rename_i k hk1 hk2;exact x4 k hk1 hk2))
theorem callBin:CallsBy (Y Tryz.prog).G.X 94 cBin:=fn_ok okY (tab:=[]) trivial bodyBin
def findR (rs:List RecM) (p:Int):Option (List Int):=(rs.find? fun r=>decide (r.pos=p)).map (·.body)
def readTo (l:List SegM) (p:Int):Option (List Int):=l.findSome? fun g=>findR g.recs p
def errOf (o:Option (List Int)):Int:=match o with|some _=>0|none=>9
theorem drop_gl {α:Type} [Inhabited α] {l:List α} {k:Nat} (h:k<l.length):l.drop k=gl l k::l.drop (k+1):=by
 rw [gl_eq h];exact List.drop_eq_getElem_cons h
theorem find_at {α:Type} [Inhabited α] {q:α->Bool}:∀ {l:List α} {n:Nat},n<l.length->q (gl l n)=true->(∀ k,k<n->q (gl l k)=false)->l.find? q=some (gl l n)
 | [],n,h,_,_=>by simp at h
 | x::l,0,_,h,_=>by
  have h:q x=true:=h;simp [List.find?_cons,h,gl]
 | x::l,n+1,hn,h,hk=>by
  have h0:q x=false:=hk 0 (by omega);have e:∀ m,gl (x::l) (m+1)=gl l m:=fun m=>by simp [gl]
  rw [e] at h ⊢;rw [List.find?_cons,h0];exact find_at (by simpa using hn) h fun k hkn=>by have:=hk (k+1) (by omega);rwa [e] at this
theorem find_no {α:Type} [Inhabited α] {q:α->Bool} {l:List α} (h:∀ k,k<l.length->q (gl l k)=false):l.find? q=none:=by
 rw [List.find?_eq_none];intro x hx;obtain ⟨i,hi,rfl⟩:=List.getElem_of_mem hx;have:=h i hi;rw [gl_eq hi] at this;simp [this]
structure LRdA where
 H:PH
 y:LogL
 L:LogM
 p:Int
noncomputable def cLRead:Con where
 α:=LRdA
 β:=Nat
 m:=3
 m':=4
 pre:=fun a=>LogAt a.H a.y a.L/\a.L.l.length<1000/\0<=a.p/\a.p<1000000000000/\∀ i,i<a.L.l.length->SortedR (gl a.L.l i).recs/\(gl a.L.l i).recs.length<=400/\∀ k,k<(gl a.L.l i).recs.length->1<=(gl (gl a.L.l i).recs k).body.length/\(gl (gl a.L.l i).recs k).body.length<=1000
 args:=fun a=>[.a (.ptr 0 0 0 0),.a (.int .i64 a.p)]
 hp:=fun _=>[]
 ro:=fun a=>[(0,logObj 2 a.L a.y.lv),(1,.pool a.H)]
 post:=fun a c=>((readTo a.L.l a.p).getD []).length<=c
 res:=fun a c=>.tup [.a (.slc 3 0 1 ((readTo a.L.l a.p).getD []).length c),.a (.int .i64 (errOf (readTo a.L.l a.p)))]
 hp':=fun a c=>byteHp 3 ((readTo a.L.l a.p).getD [])
def iLRead (a:LRdA):An:=.flat 4 Nat (fun s k=>s.int 17 k) (fun _ k=>k<=a.L.l.length/\readTo (a.L.l.drop k) a.p=readTo a.L.l a.p) (fun _ k=>a.L.l.length - k)
set_option maxHeartbeats 4000000 in
theorem bodyLRead:fnBody (Y Tryz.prog) [(94,cBin)] 74 cLRead fun a=>[(74,[iLRead a],[])]:=fnBody.of (p :=
 ∀ a:LRdA,(LogAt a.H a.y a.L/\a.L.l.length<1000/\(0:Int)<=a.p/\a.p<(1000000000000:Int)/\∀ i:Nat,i<a.L.l.length->SortedR (gl a.L.l i).recs/\(gl a.L.l i).recs.length<=400/\∀ k:Nat,k<(gl a.L.l i).recs.length->1<=(gl (gl a.L.l i).recs k).body.length/\(gl (gl a.L.l i).recs k).body.length<=1000)->(∃ a_2:Option Go.Addr,∃ l c:Nat,a.y.lv=Value.slice a_2 l c/\l<=lenMax)/\(∃ a_2:Nat,0=(↑a_2:Int)/\(↑(slLen a.y.lv):Int)=(↑(slLen a.y.lv):Int)/\a.y.lv=a.y.lv/\false=false/\(0:Int)=0/\0=0/\a.p=a.p/\0=0/\logQ a.L a.L a.y.lv a.y.lv (a.H=a.H/\(a_2<=a.L.l.length/\readTo (List.drop a_2 a.L.l) a.p=readTo a.L.l a.p)/\True))/\∀ a_2:Nat,a_2<=a.L.l.length/\readTo (List.drop a_2 a.L.l) a.p=readTo a.L.l a.p->(decide ((↑a_2:Int)<(↑(slLen a.y.lv):Int))=true->∃ b o:Nat,∃ l c:Nat,a.y.lv=slv b o l c/\(0<=(↑a_2:Int)/\(↑a_2:Int)<(↑l:Int))/\∃ b_1 lo o_1:Nat,∃ cs:List Value,pv b (o+(↑a_2:Int).toNat*1)=pv b_1 (lo+o_1)/\a.H b_1=some (lo,cs)/\((∃ v:Value,cs[o_1]? = some v/\v.oneCell'=true)/\True)/\∃ b o:Nat,cs.getD o_1 (Value.tuple #[])=pv b o/\∃ b_2 o_2:Nat,pv b o=pv b_2 o_2/\∃ b lo o:Nat,∃ cs_1:List Value,pv b_2 (o_2+4)=pv b (lo+o)/\a.H b=some (lo,cs_1)/\((∃ v:Value,cs_1[o]? = some v/\v.oneCell'=true)/\True)/\∃ a_5:BinA,cs_1.getD o (Value.tuple #[])=a_5.rv/\a.p=a_5.p/\a.H=a_5.H/\((∃ c:Nat,slAt a_5.H a_5.rv [CK.int IntKind.i64,CK.deep] a_5.rs.length c (recR a_5.rs a_5.vs)) /\
 a_5.rs.length<=400/\SortedR a_5.rs/\(0:Int)<=a_5.p/\a_5.p<(1000000000000:Int))/\∀ b:Nat,(b<=a_5.rs.length/\(∀ k:Nat,k<b->(gl a_5.rs k).pos<a_5.p)/\∀ k:Nat,b<=k->k<a_5.rs.length->a_5.p<=(gl a_5.rs k).pos)->((decide (b<a_5.rs.length)&&decide ((gl a_5.rs b).pos=a_5.p))=true->∃ b_3 o:Nat,cs.getD o_1 (Value.tuple #[])=pv b_3 o/\∃ b_4 o_3:Nat,pv b_3 o=pv b_4 o_3/\∃ b_5 lo o:Nat,∃ cs:List Value,pv b_4 (o_3+4)=pv b_5 (lo+o)/\a.H b_5=some (lo,cs)/\((∃ v:Value,cs[o]? = some v/\v.oneCell'=true)/\True)/\∃ b_6 o_4:Nat,∃ l c:Nat,cs.getD o (Value.tuple #[])=slv b_6 o_4 l c/\(0<=(↑b:Int)/\(↑b:Int)<(↑l:Int))/\∃ b_7 o:Nat,pv b_6 (o_4+(↑b:Int).toNat*2)=pv b_7 o/\∃ b lo o_5:Nat,∃ cs:List Value,pv b_7 (o+1)=pv b (lo+o_5)/\a.H b=some (lo,cs)/\((∃ v:Value,cs[o_5]? = some v/\v.oneCell'=true)/\True)/\(∃ a:Option Go.Addr,∃ l c:Nat,cs.getD o_5 (Value.tuple #[])=Value.slice a l c)/\(nilS (cs.getD o_5 (Value.tuple #[]))=true->∃ b:Nat,(0=((readTo a.L.l a.p).getD []).length/\0=b)/\(0:Int)=errOf (readTo a.L.l a.p)/\((readTo a.L.l a.p).getD []).length=0/\((readTo a.L.l a.p).getD []).length<=b/\True)/\(nilS (cs.getD o_5 (Value.tuple #[]))=false->0<=0/\∃ l c:Nat,∃ rows:Nat->Nat->Value,slAt a.H (cs.getD o_5 (Value.tuple #[])) [CK.int IntKind.u8] l c rows/\(0+l)*1<=140737488355328/\∀ cap:Nat,0+l<=cap->cap<=lenMax->(0+l<=0 ->
 cap=0)->∃ b:Nat,(0=0/\0+l=((readTo a.L.l a.p).getD []).length/\cap=b)/\(0:Int)=errOf (readTo a.L.l a.p)/\(((readTo a.L.l a.p).getD []).length<=0+l/\RowsEq ((readTo a.L.l a.p).getD []).length 1 (appRows (flatRows 1 []) 0 0 rows) (encRows encB ((readTo a.L.l a.p).getD [])))/\((readTo a.L.l a.p).getD []).length<=b/\True))/\((decide (b<a_5.rs.length)&&decide ((gl a_5.rs b).pos=a_5.p))=false->InR .i64 ((↑a_2:Int)+1)/\∃ (a':Nat),(↑a_2:Int)+1=(↑a':Int)/\(↑(slLen a.y.lv):Int)=(↑(slLen a.y.lv):Int)/\a.y.lv=a.y.lv/\false=false/\(0:Int)=0/\0=0/\a.p=a.p/\0=0/\logQ a.L a.L a.y.lv a.y.lv (a.H=a.H/\(a'<=a.L.l.length/\readTo (List.drop a' a.L.l) a.p=readTo a.L.l a.p)/\a.L.l.length - a'<a.L.l.length - a_2)))/\(decide ((↑a_2:Int)<(↑(slLen a.y.lv):Int))=false->∃ b:Nat,(0=((readTo a.L.l a.p).getD []).length/\0=b)/\(9:Int)=errOf (readTo a.L.l a.p)/\((readTo a.L.l a.p).getD []).length=0/\((readTo a.L.l a.p).getD []).length<=b/\True)) (by kernel_rfl) (by
 rintro ⟨H,y,L,p⟩ ⟨hl,h1,h2,h3,h4⟩;dsimp only at *;obtain ⟨e1,_,⟨ea,ec,e2⟩,e3,_⟩:=hl.lv_len;refine ⟨⟨ea,_,ec,e2,e3⟩,⟨0,?_⟩,fun k hk=>?_⟩
 ·(repeat' apply And.intro)<;>first|with_reducible (first|rfl|trivial|assumption)|omega|with_reducible (first|exact RowsEq.refl _ _ _|exact Nat.le_refl _)|(dsimp only [List.length_cons,List.length_nil]<;>omega)|rfl
 ·obtain ⟨hk1,hk2⟩:=hk;rw [e1];refine ⟨fun c1=>?_,fun c1=>⟨0,?_⟩⟩
  ·have hk:k<L.l.length:=by have:=of_decide_eq_true c1;omega
   obtain ⟨b,lo,o,c,cs,g1,g2,g3,g4⟩:=hl.at_ hk;have hs:=hl.seg k hk;obtain ⟨hso,hrl,hbl⟩:=h4 k hk;obtain ⟨c9,hrec⟩:=hs.recs;obtain ⟨m1,m2,m3,m4,m5,⟨ma,m7⟩,m6⟩:=slAt_len hrec;rw [drop_gl hk] at hk2;simp only [readTo,List.findSome?_cons] at hk2;refine ⟨_,_,_,_,g1,by omega,b,lo,o+k*1,cs,by rw [Int.toNat_natCast,Nat.add_assoc],g2,⟨⟨_,g3,rfl⟩,trivial⟩,?_⟩;refine ⟨_,_,g4,?_⟩;refine ⟨_,_,rfl,?_⟩;refine ⟨_,0,_,_,rfl,hs.cell,?_⟩;refine ⟨⟨⟨_,rfl,m6⟩,trivial⟩,BinA.mk H (gl y.ys k).rv (gl L.l k).recs (gl y.ys k).vs p,?_⟩
   (repeat' apply And.intro)<;>first|with_reducible (first|rfl|trivial|assumption)|omega|with_reducible (first|exact RowsEq.refl _ _ _|exact Nat.le_refl _)|(dsimp only [List.length_cons,List.length_nil]<;>omega)|rfl|exact ⟨c9,hrec⟩|exact hso|skip
   rintro n ⟨n1,n2,n3⟩;dsimp only at n1 n2 n3 ⊢;refine ⟨fun c2=>?_,fun c2=>⟨by simp only [InR];omega,k+1,?_⟩⟩
   ·simp only [Bool.and_eq_true,decide_eq_true_eq] at c2;obtain ⟨c2,c3⟩:=c2;have hfind:findR (gl L.l k).recs p=some (gl (gl L.l k).recs n).body:=by
     unfold findR;rw [find_at (q:=fun (r:RecM)=>decide (r.pos=p)) c2 (by simp [c3]) fun q hq=>by have:=n2 q hq;simp;omega];rfl
    have hread:readTo L.l p=some (gl (gl L.l k).recs n).body:=by
     rw [hfind] at hk2;simp only [readTo];exact hk2.symm
    rw [hread];obtain ⟨b',lo',o',cs',q1,q2,q3,q4,q5,q6,q7,q8⟩:=rec_at hrec (k:=n) c2;obtain ⟨cb,hbody⟩:=hs.body n c2;obtain ⟨w1,w2,w3,w4,w5,⟨wa,w7⟩,w6⟩:=slAt_len hbody;obtain ⟨hb1,hb2⟩:=hbl n c2;refine ⟨_,_,g4,?_⟩;refine ⟨_,_,rfl,?_⟩;refine ⟨_,0,_,_,rfl,hs.cell,?_⟩;refine ⟨⟨⟨_,rfl,m6⟩,trivial⟩,_,_,_,_,q1,by omega,_,_,rfl,b',lo',o'+n*2+1,cs',by rw [Int.toNat_natCast];congr 1;omega,q2,⟨⟨_,q4,q5⟩,trivial⟩,?_⟩;rw [q8];have hnil:nilS ((gl y.ys k).vs.getD n undef)=false:=by
     rcases hbody with ⟨_,h0,_⟩ | ⟨b9,lo9,o9,cs9,h9,_⟩
     ·omega
     ·rw [h9];rfl
    refine ⟨⟨wa,_,_,w7⟩,fun c4=>absurd c4 (by rw [hnil];decide),fun _=>?_⟩
    repeat (first|refine And.intro (by omega) ?_|refine And.intro (by dsimp only;omega) ?_|refine And.intro (by simp only [InR];omega) ?_)
    refine ⟨_,cb,_,hbody,?_⟩
    repeat (first|refine And.intro (by omega) ?_|refine And.intro (by dsimp only;omega) ?_|refine And.intro (by simp only [InR];omega) ?_)
    intro cap u1 u2 u3;refine ⟨cap,?_⟩;have hrw:RowsEq (gl (gl L.l k).recs n).body.length 1 (appRows (flatRows 1 []) 0 0 (encRows encB (gl (gl L.l k).recs n).body)) (encRows encB (gl (gl L.l k).recs n).body):=⟨fun i hi j hj=>by
     simp only [appRows,Nat.not_lt_zero,if_false,Nat.sub_zero]⟩
    simp only [Nat.zero_add,Option.getD_some,errOf]
    (repeat' apply And.intro)<;>first|with_reducible (first|rfl|trivial|assumption)|omega|with_reducible (first|exact RowsEq.refl _ _ _|exact Nat.le_refl _)|(dsimp only [List.length_cons,List.length_nil]<;>omega)|exact hrw
   ·have hnone:findR (gl L.l k).recs p=none:=by
     unfold findR;rw [find_no (q:=fun (r:RecM)=>decide (r.pos=p)) fun q hq=>?_]
     ·rfl
     ·simp only [decide_eq_false_iff_not];intro e;rcases Nat.lt_or_ge q n with hqn|hqn
      ·have:=n2 q hqn;omega
      ·by_cases hqe:q=n
       ·subst hqe;simp [hq,e] at c2
       ·have:=hso.lt n q (by omega) hq;have:=n3 n (Nat.le_refl _) (by omega);omega
    rw [hnone] at hk2
    (repeat' apply And.intro)<;>first|with_reducible (first|rfl|trivial|assumption)|omega|with_reducible (first|exact RowsEq.refl _ _ _|exact Nat.le_refl _)|(dsimp only [List.length_cons,List.length_nil]<;>omega)|exact hk2
  ·have hkn:k=L.l.length:=by have:=of_decide_eq_false c1;omega
   subst hkn;rw [List.drop_length] at hk2;have:readTo L.l p=none:=hk2.symm;rw [this]
   (repeat' apply And.intro)<;>first|with_reducible (first|rfl|trivial|assumption)|omega|with_reducible (first|exact RowsEq.refl _ _ _|exact Nat.le_refl _)|(dsimp only [List.length_cons,List.length_nil]<;>omega)|rfl)
def firstTo (l:List SegM) (next:Int):Int:=match l.find? (fun g=>decide (0<g.recs.length)) with|some g=>(gl g.recs 0).pos|none=>next
structure FstA where
 H:PH
 y:LogL
 L:LogM
noncomputable def cFirst:Con where
 α:=FstA
 β:=Unit
 m:=3
 m':=3
 pre:=fun a=>LogAt a.H a.y a.L/\a.L.l.length<1000
 args:=fun a=>[.a (.ptr 0 0 0 0)]
 hp:=fun _=>[]
 ro:=fun a=>[(0,logObj 2 a.L a.y.lv),(1,.pool a.H)]
 post:=fun _ _=>True
 res:=fun a _=>.a (.int .i64 (firstTo a.L.l a.L.next))
 hp':=fun _ _=>[]
def iFirst (a:FstA):An:=.flat 4 Nat (fun s k=>s.int 12 k) (fun _ k=>k<=a.L.l.length/\firstTo (a.L.l.drop k) a.L.next=firstTo a.L.l a.L.next) (fun _ k=>a.L.l.length - k)
set_option maxHeartbeats 4000000 in
theorem bodyFirst:fnBody (Y Tryz.prog) [] 57 cFirst fun a=>[(57,[iFirst a],[])]:=fnBody.of (p :=
 ∀ a:FstA,LogAt a.H a.y a.L/\a.L.l.length<1000->(∃ a_2:Option Go.Addr,∃ l c:Nat,a.y.lv=Value.slice a_2 l c/\l<=lenMax)/\(∃ a_2:Nat,0=(↑a_2:Int)/\(↑(slLen a.y.lv):Int)=(↑(slLen a.y.lv):Int)/\a.y.lv=a.y.lv/\false=false/\(0:Int)=0/\0=0/\0=0/\logQ a.L a.L a.y.lv a.y.lv (a.H=a.H/\(a_2<=a.L.l.length/\firstTo (List.drop a_2 a.L.l) a.L.next=firstTo a.L.l a.L.next)/\True))/\∀ a_2:Nat,a_2<=a.L.l.length/\firstTo (List.drop a_2 a.L.l) a.L.next=firstTo a.L.l a.L.next->(decide ((↑a_2:Int)<(↑(slLen a.y.lv):Int))=true->∃ b o:Nat,∃ l c:Nat,a.y.lv=slv b o l c/\(0<=(↑a_2:Int)/\(↑a_2:Int)<(↑l:Int))/\∃ b_1 lo o_1:Nat,∃ cs:List Value,pv b (o+(↑a_2:Int).toNat*1)=pv b_1 (lo+o_1)/\a.H b_1=some (lo,cs)/\((∃ v:Value,cs[o_1]? = some v/\v.oneCell'=true)/\True)/\∃ b o:Nat,cs.getD o_1 (Value.tuple #[])=pv b o/\∃ b_2 o_2:Nat,pv b o=pv b_2 o_2/\∃ b lo o:Nat,∃ cs_1:List Value,pv b_2 (o_2+4)=pv b (lo+o)/\a.H b=some (lo,cs_1)/\((∃ v:Value,cs_1[o]? = some v/\v.oneCell'=true)/\True)/\(∃ a:Option Go.Addr,∃ l c:Nat,cs_1.getD o (Value.tuple #[])=Value.slice a l c/\l<=lenMax)/\(decide (0<(↑(slLen (cs_1.getD o (Value.tuple #[]))):Int))=true->∃ b o:Nat,cs.getD o_1 (Value.tuple #[])=pv b o/\∃ b_3 o_3:Nat,pv b o=pv b_3 o_3/\∃ b lo o:Nat,∃ cs:List Value,pv b_3 (o_3+4)=pv b (lo+o)/\a.H b=some (lo,cs)/\((∃ v:Value,cs[o]? = some v /\
 v.oneCell'=true)/\True)/\∃ b o_4:Nat,∃ l c:Nat,cs.getD o (Value.tuple #[])=slv b o_4 l c/\((0:Int)<=0/\0<(↑l:Int))/\∃ b_4 o:Nat,pv b (o_4+0)=pv b_4 o/\∃ b lo o_5:Nat,∃ cs:List Value,pv b_4 (o+0)=pv b (lo+o_5)/\a.H b=some (lo,cs)/\((∃ v:Value,cs[o_5]? = some v/\∃ n:Int,v=Value.int IntKind.i64 n/\InR .i64 n)/\True)/\(InR .i64 (toI (cs.getD o_5 (Value.tuple #[])))->∃ b:Unit,toI (cs.getD o_5 (Value.tuple #[]))=firstTo a.L.l a.L.next/\True/\True))/\(decide (0<(↑(slLen (cs_1.getD o (Value.tuple #[]))):Int))=false->InR .i64 ((↑a_2:Int)+1)/\∃ (a':Nat),(↑a_2:Int)+1=(↑a':Int)/\(↑(slLen a.y.lv):Int)=(↑(slLen a.y.lv):Int)/\a.y.lv=a.y.lv/\false=false/\(0:Int)=0/\0=0/\0=0/\logQ a.L a.L a.y.lv a.y.lv (a.H=a.H/\(a'<=a.L.l.length/\firstTo (List.drop a' a.L.l) a.L.next=firstTo a.L.l a.L.next)/\a.L.l.length - a'<a.L.l.length - a_2)))/\(decide ((↑a_2:Int)<(↑(slLen a.y.lv):Int))=false->InR .i64 a.L.next->∃ b:Unit,a.L.next=firstTo a.L.l a.L.next/\True/\True)) (by kernel_rfl) (by
 rintro ⟨H,y,L⟩ ⟨hl,h1⟩;dsimp only at *;obtain ⟨e1,_,⟨ea,ec,e2⟩,e3,_⟩:=hl.lv_len;refine ⟨⟨ea,_,ec,e2,e3⟩,⟨0,?_⟩,fun k hk=>?_⟩
 ·(repeat' apply And.intro)<;>first|with_reducible (first|rfl|trivial|assumption)|omega|with_reducible (first|exact RowsEq.refl _ _ _|exact Nat.le_refl _)|(dsimp only [List.length_cons,List.length_nil]<;>omega)|rfl
 ·obtain ⟨hk1,hk2⟩:=hk;rw [e1];refine ⟨fun c1=>?_,fun c1 _=>⟨(),?_⟩⟩
  ·have hk:k<L.l.length:=by have:=of_decide_eq_true c1;omega
   obtain ⟨b,lo,o,c,cs,g1,g2,g3,g4⟩:=hl.at_ hk;have hs:=hl.seg k hk;obtain ⟨c9,hrec⟩:=hs.recs;obtain ⟨m1,m2,m3,m4,m5,⟨ma,m7⟩,m6⟩:=slAt_len hrec;rw [drop_gl hk] at hk2;simp only [firstTo,List.find?_cons] at hk2;refine ⟨_,_,_,_,g1,by omega,b,lo,o+k*1,cs,by rw [Int.toNat_natCast,Nat.add_assoc],g2,⟨⟨_,g3,rfl⟩,trivial⟩,?_⟩;refine ⟨_,_,g4,?_⟩;refine ⟨_,_,rfl,?_⟩;refine ⟨_,0,_,_,rfl,hs.cell,?_⟩;refine ⟨⟨⟨_,rfl,m6⟩,trivial⟩,⟨ma,_,_,m7,by omega⟩,?_⟩;simp only [show (segC (gl L.l k) (gl y.ys k).bv (gl y.ys k).rv).getD 4 (Value.tuple #[])=(gl y.ys k).rv from rfl,m1];refine ⟨fun c2=>?_,fun c2=>⟨by simp only [InR];omega,k+1,?_⟩⟩
   ·have c2:0<(gl L.l k).recs.length:=by have:=of_decide_eq_true c2;omega
    obtain ⟨b',lo',o',cs',q1,q2,q3,q4,q5,q6,q7,q8⟩:=rec_at hrec (k:=0) c2;rw [decide_eq_true c2] at hk2;refine ⟨_,_,g4,?_⟩;refine ⟨_,_,rfl,?_⟩;refine ⟨_,0,_,_,rfl,hs.cell,?_⟩;refine ⟨⟨⟨_,rfl,m6⟩,trivial⟩,_,_,_,_,q1,by omega,_,_,rfl,b',lo',o',cs',rfl,q2,⟨⟨_,q3,_,rfl,q6⟩,trivial⟩,fun _=>⟨(),?_⟩⟩;have q7':cs'.getD o' (Value.tuple #[]) = .int .i64 (gl (gl L.l k).recs 0).pos:=q7;rw [q7']
    (repeat' apply And.intro)<;>first|with_reducible (first|rfl|trivial|assumption)|omega|with_reducible (first|exact RowsEq.refl _ _ _|exact Nat.le_refl _)|(dsimp only [List.length_cons,List.length_nil]<;>omega)|exact hk2
   ·have c2:¬ 0<(gl L.l k).recs.length:=by have:=of_decide_eq_false c2;omega
    rw [decide_eq_false c2] at hk2
    (repeat' apply And.intro)<;>first|with_reducible (first|rfl|trivial|assumption)|omega|with_reducible (first|exact RowsEq.refl _ _ _|exact Nat.le_refl _)|(dsimp only [List.length_cons,List.length_nil]<;>omega)|exact hk2
  ·have hkn:k=L.l.length:=by have:=of_decide_eq_false c1;omega
   subst hkn;rw [List.drop_length] at hk2
   (repeat' apply And.intro)<;>first|with_reducible (first|rfl|trivial|assumption)|omega|with_reducible (first|exact RowsEq.refl _ _ _|exact Nat.le_refl _)|(dsimp only [List.length_cons,List.length_nil]<;>omega)|exact hk2)
theorem callLRead:CallsBy (Y Tryz.prog).G.X 74 cLRead:=fn_ok okY (tab:=[(94,cBin)]) ⟨callBin,trivial⟩ bodyLRead
theorem callFirst:CallsBy (Y Tryz.prog).G.X 57 cFirst:=fn_ok okY (tab:=[]) trivial bodyFirst
end Go.Proofs.YtfhkbihcfmbbcaaGreat

namespace Go.Proofs.YtfhkbihcfmbbcaaGreat
open Go.Sx
set_option maxRecDepth 100000
set_option linter.unusedVariables false
set_option linter.unusedSimpArgs false
def gB (f:Nat->Int) (r len:Nat):Int:=getTo (fun k=>f (r+k)) len
def offS (i:Nat):Nat:=if i=0 then 22 else 16
def takeG (g:SegM) (i:Nat) (f:Nat->Int):SegM:=if i=0 then { g with gen:=uw .i64 (gB f 4 6),base:=uw .i64 (gB f 16 6) } else g
def takeB (g:SegM) (i:Nat) (f:Nat->Int):Bool :=
 (sumB f == gB f 0 4)&&((uw .i64 (gB f 4 6) == (takeG g i f).gen)&&(!decide (uw .i64 (gB f 10 4)<g.run)&&((f 14 == (i:Int))&&(decide (f 15<=roomS i)&&decide (g.buf.length=startS i)))))
def takeM (g:SegM) (i:Nat) (f:Nat->Int):SegM :=
 if takeB g i f then { takeG g i f with run:=uw .i64 (gB f 10 4),buf:=g.buf++(List.range (f 15).toNat).map fun k=>f (offS i+k) } else takeG g i f
theorem seg_setint {X:PH} {y:SegL} {g g':SegM} (h:SegNd X y g) (hb:g'.buf=g.buf) (hr:g'.recs=g.recs) (hg:InR .i64 g'.gen/\InR .i64 g'.base/\InR .i64 g'.run) :
 SegNd (pupd X y.b 0 (segC g' y.bv y.rv)) y g'/\Fr X y (pupd X y.b 0 (segC g' y.bv y.rv)) y:=by
 obtain ⟨⟨n1,n2,n3⟩,_⟩:=nd_seg.1 h.nd;refine ⟨⟨⟨pupd_self ..,hg,?_,?_,by rw [hr];exact h.at_.len,fun i hi=>?_⟩,h.nd⟩,fun x hx hn=>⟨pupd_ne fun e=>hn (by rw [e];exact List.mem_cons_self),hn⟩⟩
 ·rw [hb];exact h.at_.buf.frame fun x hx=>pupd_ne fun e=>n1 (by rw [<- e];exact hx)
 ·rw [hr];obtain ⟨c,hc⟩:=h.at_.recs;exact ⟨c,slAt_frame hc fun x hx=>pupd_ne fun e=>n2 (by rw [<- e];exact hx)⟩
 ·rw [hr] at hi ⊢;refine (h.at_.body i hi).frame fun x hx=>pupd_ne fun e=>n3 ?_;rw [<- e];refine List.mem_flatMap.2 ⟨_,?_,hx⟩;have:=h.at_.len;rw [List.getD_eq_getElem?_getD,List.getElem?_eq_getElem (by omega)];exact List.getElem_mem _
structure TakeA where
 H:PH
 y:SegL
 g:SegM
 i:Nat
 f:Nat->Int
 cap:Nat
structure TakeR where
 H:PH
 y:SegL
noncomputable def cTake:Con where
 α:=TakeA
 β:=TakeR
 m:=2
 m':=3
 pre:=fun a=>SegNd a.H a.y a.g/\a.i<8/\a.g.buf.length<=378/\64<=a.cap/\(takeB a.g a.i a.f=true->0<a.f 15)
 args:=fun a=>[.a (.val (pv a.y.b 0)),.a (.int .i64 a.i),.a (.slc 1 0 1 64 a.cap)]
 hp:=fun a=>[(0,.pool a.H)]
 ro:=fun a=>[(1,.arr 5 [.int .u8] 64 (rowsB a.f))]
 post:=fun a b=>SegNd b.H b.y (takeM a.g a.i a.f)/\b.y.b=a.y.b/\b.y.rv=a.y.rv/\Fr a.H a.y b.H b.y
 res:=fun a _=>.a (.bool (takeB a.g a.i a.f))
 hp':=fun _ b=>[(2,.pool b.H)]
def S.pool (s:S) (H:PH):S:=(s.put (s.hp.del (plTag s))).new (.pool H)
def iTakeC (a:TakeA):An:=.mk 5 PH (fun s H=>S.pool (s.set 7 (.a (.slc (s.tg 2) (offS a.i) 1 (roomS a.i) (a.cap - offS a.i)))) H) (fun _ H=>SegNd H a.y (takeG a.g a.i a.f)/\Fr a.H a.y H a.y) (fun _ _=>0) fun _=>.mk 1000 [] []
set_option maxHeartbeats 4000000 in
theorem bodyTake:fnBody (Y Tryz.prog) [(121,cGet),(91,cCrc)] 122 cTake fun a=>[(122,[],[iTakeC a])]:=fnBody.of (p :=
 ∀ a:TakeA,SegNd a.H a.y a.g/\a.i<8/\a.g.buf.length<=378/\64<=a.cap/\(takeB a.g a.i a.f=true->(0:Int)<a.f 15)->((0:Int)<=16/\(16:Int)<=64)/\((((↑a.i:Int) == 0)=true->((0:Int)<=10/\10<=(↑a.cap:Int))/\((0:Int)<=4/\(4:Int)<=10)/\((0:Int)<=6/\6<=(↑(a.cap - 16):Int))/\∃ a_3:GetA,(4=a_3.r/\6=a_3.len/\a.cap - 4=a_3.cap)/\(a_3.n<=64/\RowsEq a_3.n 1 (rowsB a.f) a_3.rows)/\(a_3.r+a_3.len<=a_3.n/\a_3.len<=8)/\∀ b:Unit,True->∃ a_5:GetA,(16=a_5.r/\6=a_5.len/\a.cap - 16 - 0=a_5.cap)/\(a_5.n<=64/\RowsEq a_5.n 1 (rowsB a.f) a_5.rows)/\(a_5.r+a_5.len<=a_5.n/\a_5.len<=8)/\∀ b:Unit,True->∃ b o:Nat,pv a.y.b 0=pv b o/\∃ b_1 o_1:Nat,pv b o=pv b_1 o_1/\∃ b lo o:Nat,∃ cs:List Value,pv b_1 (o_1+0)=pv b (lo+o)/\a.H b=some (lo,cs)/\o+[A.int IntKind.i64 (uw .i64 (getTo (fun (i:Nat)=>u8 a_3.rows (a_3.r+i)) a_3.len))].length<=cs.length/\∃ b_2 o_2:Nat,pv a.y.b 0=pv b_2 o_2/\∃ b_3 o_3:Nat,pv b_2 o_2=pv b_3 o_3/\∃ b_4 lo_1 o_4:Nat,∃ cs_1:List Value,pv b_3 (o_3+1)=pv b_4 (lo_1+o_4)/\pupd a.H b lo (List.take o cs++[Value.int IntKind.i64 (uw .i64 (getTo (fun (i:Nat)=>u8 a_3.rows (a_3.r+i)) a_3.len))]++List.drop (o+[Value.int IntKind.i64 (uw .i64 (getTo (fun (i:Nat)=>u8 a_3.rows (a_3.r+i)) a_3.len))].length) cs) b_4=some (lo_1,cs_1)/\o_4+[A.int IntKind.i64 (uw .i64 (getTo (fun (i:Nat)=>u8 a_5.rows (a_5.r+i)) a_5.len))].length<=cs_1.length /\
 ((0:Int)<=6/\(6:Int)<=48)/\∃ a_7:PH,(22=offS a.i/\42=roomS a.i/\a.cap - 16 - 6=a.cap - offS a.i)/\false=false/\pv a.y.b 0=pv a.y.b 0/\(↑a.i:Int)=(↑a.i:Int)/\(0=0/\64=64/\a.cap=a.cap)/\pupd (pupd a.H b lo (List.take o cs++[Value.int IntKind.i64 (uw .i64 (getTo (fun (i:Nat)=>u8 a_3.rows (a_3.r+i)) a_3.len))]++List.drop (o+[Value.int IntKind.i64 (uw .i64 (getTo (fun (i:Nat)=>u8 a_3.rows (a_3.r+i)) a_3.len))].length) cs)) b_4 lo_1 (List.take o_4 cs_1++[Value.int IntKind.i64 (uw .i64 (getTo (fun (i:Nat)=>u8 a_5.rows (a_5.r+i)) a_5.len))]++List.drop (o_4+[Value.int IntKind.i64 (uw .i64 (getTo (fun (i:Nat)=>u8 a_5.rows (a_5.r+i)) a_5.len))].length) cs_1)=a_7/\(64<=64/\RowsEq 64 1 (rowsB a.f) (rowsB a.f))/\(SegNd a_7 a.y (takeG a.g a.i a.f)/\Fr a.H a.y a_7 a.y)/\True)/\(((↑a.i:Int) == 0)=false->∃ a_3:PH,(16=offS a.i/\48=roomS a.i/\a.cap - 16=a.cap - offS a.i)/\false=false/\pv a.y.b 0=pv a.y.b 0/\(↑a.i:Int)=(↑a.i:Int)/\(0=0/\64=64/\a.cap=a.cap)/\a.H=a_3/\(64<=64/\RowsEq 64 1 (rowsB a.f) (rowsB a.f))/\(SegNd a_3 a.y (takeG a.g a.i a.f)/\Fr a.H a.y a_3 a.y)/\True))/\∀ a_2:PH,SegNd a_2 a.y (takeG a.g a.i a.f)/\Fr a.H a.y a_2 a.y->((0:Int)<=14/\14<=(↑a.cap:Int))/\((0:Int)<=10/\(10:Int)<=14)/\∃ a_4:GetA,(10=a_4.r/\4=a_4.len/\a.cap - 10=a_4.cap)/\(a_4.n<=64/\RowsEq a_4.n 1 (rowsB a.f) a_4.rows)/\(a_4.r+a_4.len<=a_4.n/\a_4.len<=8) /\
 ∀ b:Unit,True->((0:Int)<=4/\(4:Int)<=64)/\((0:Int)<=4/\4<=(↑a.cap:Int))/\∃ a_6:CrcA,(0=0/\1=1/\1=a_6.c)/\(4=a_6.r/\60=a_6.len/\a.cap - 4=a_6.cap)/\(a_6.n<=64/\RowsEq a_6.n 1 (rowsB a.f) a_6.rows)/\(a_6.r+a_6.len<=a_6.n/\a_6.len<100000)/\∀ b:Unit,True->∃ a_8:GetA,(0=a_8.r/\4=a_8.len/\a.cap - 0=a_8.cap)/\(a_8.n<=64/\RowsEq a_8.n 1 (rowsB a.f) a_8.rows)/\(a_8.r+a_8.len<=a_8.n/\a_8.len<=8)/\∀ b:Unit,True->((ibits Go.BinOp.xor IntKind.u32 (4294967295:Int) (crcTo (fun (i:Nat)=>u8 a_6.rows (a_6.r+i)) a_6.len) != getTo (fun (i:Nat)=>u8 a_8.rows (a_8.r+i)) a_8.len)=true->∃ b:TakeR,false=takeB a.g a.i a.f/\a_2=b.H/\(SegNd b.H b.y (takeM a.g a.i a.f)/\b.y.b=a.y.b/\b.y.rv=a.y.rv/\Fr a.H a.y b.H b.y)/\True)/\((ibits Go.BinOp.xor IntKind.u32 (4294967295:Int) (crcTo (fun (i:Nat)=>u8 a_6.rows (a_6.r+i)) a_6.len) != getTo (fun (i:Nat)=>u8 a_8.rows (a_8.r+i)) a_8.len)=false->((0:Int)<=10/\10<=(↑a.cap:Int))/\((0:Int)<=4/\(4:Int)<=10)/\∃ b o:Nat,pv a.y.b 0=pv b o/\∃ b_1 o_1:Nat,pv b o=pv b_1 o_1/\∃ b lo o:Nat,∃ cs:List Value,pv b_1 (o_1+0)=pv b (lo+o)/\a_2 b=some (lo,cs)/\((∃ v:Value,cs[o]? = some v/\∃ n:Int,v=Value.int IntKind.i64 n/\InR .i64 n)/\True)/\(InR .i64 (toI (cs.getD o (Value.tuple #[])))->∃ a_12:GetA,(4=a_12.r/\6=a_12.len/\a.cap - 4=a_12.cap)/\(a_12.n<=64/\RowsEq a_12.n 1 (rowsB a.f) a_12.rows) /\
 (a_12.r+a_12.len<=a_12.n/\a_12.len<=8)/\∀ b:Unit,True->((uw .i64 (getTo (fun (i:Nat)=>u8 a_12.rows (a_12.r+i)) a_12.len) != toI (cs.getD o (Value.tuple #[])))=true->∃ b:TakeR,false=takeB a.g a.i a.f/\a_2=b.H/\(SegNd b.H b.y (takeM a.g a.i a.f)/\b.y.b=a.y.b/\b.y.rv=a.y.rv/\Fr a.H a.y b.H b.y)/\True)/\((uw .i64 (getTo (fun (i:Nat)=>u8 a_12.rows (a_12.r+i)) a_12.len) != toI (cs.getD o (Value.tuple #[])))=false->∃ b o:Nat,pv a.y.b 0=pv b o/\∃ b_2 o_2:Nat,pv b o=pv b_2 o_2/\∃ b lo o:Nat,∃ cs:List Value,pv b_2 (o_2+2)=pv b (lo+o)/\a_2 b=some (lo,cs)/\((∃ v:Value,cs[o]? = some v/\∃ n:Int,v=Value.int IntKind.i64 n/\InR .i64 n)/\True)/\(InR .i64 (toI (cs.getD o (Value.tuple #[])))->(decide (uw .i64 (getTo (fun (i:Nat)=>u8 a_4.rows (a_4.r+i)) a_4.len)<toI (cs.getD o (Value.tuple #[])))=true->∃ b:TakeR,false=takeB a.g a.i a.f/\a_2=b.H/\(SegNd b.H b.y (takeM a.g a.i a.f)/\b.y.b=a.y.b/\b.y.rv=a.y.rv/\Fr a.H a.y b.H b.y)/\True)/\(decide (uw .i64 (getTo (fun (i:Nat)=>u8 a_4.rows (a_4.r+i)) a_4.len)<toI (cs.getD o (Value.tuple #[])))=false->((0:Int)<=14/\(14:Int)<64)/\14<64/\(InR .u8 (a.f 14)->((a.f 14 != (↑a.i:Int))=true->∃ b:TakeR,false=takeB a.g a.i a.f/\a_2=b.H/\(SegNd b.H b.y (takeM a.g a.i a.f)/\b.y.b=a.y.b/\b.y.rv=a.y.rv/\Fr a.H a.y b.H b.y)/\True)/\((a.f 14 != (↑a.i:Int))=false->((0:Int)<=15/\(15:Int)<64)/\15<64 /\
 (InR .u8 (a.f 15)->(decide ((↑(roomS a.i):Int)<a.f 15)=true->∃ b:TakeR,false=takeB a.g a.i a.f/\a_2=b.H/\(SegNd b.H b.y (takeM a.g a.i a.f)/\b.y.b=a.y.b/\b.y.rv=a.y.rv/\Fr a.H a.y b.H b.y)/\True)/\(decide ((↑(roomS a.i):Int)<a.f 15)=false->∃ b o:Nat,pv a.y.b 0=pv b o/\∃ b_3 o_3:Nat,pv b o=pv b_3 o_3/\∃ b lo o:Nat,∃ cs:List Value,pv b_3 (o_3+3)=pv b (lo+o)/\a_2 b=some (lo,cs)/\((∃ v:Value,cs[o]? = some v/\v.oneCell'=true)/\True)/\(∃ a:Option Go.Addr,∃ l c:Nat,cs.getD o (Value.tuple #[])=Value.slice a l c/\l<=lenMax)/\InR .i64 ((↑a.i:Int)*48)/\InR .i64 ((↑a.i:Int)*48 - (6:Int))/\(((↑(slLen (cs.getD o (Value.tuple #[]))):Int) != bif true then max (0:Int) ((↑a.i:Int)*48 - (6:Int)) else min (0:Int) ((↑a.i:Int)*48 - (6:Int)))=true->∃ b:TakeR,false=takeB a.g a.i a.f/\a_2=b.H/\(SegNd b.H b.y (takeM a.g a.i a.f)/\b.y.b=a.y.b/\b.y.rv=a.y.rv/\Fr a.H a.y b.H b.y)/\True)/\(((↑(slLen (cs.getD o (Value.tuple #[]))):Int) != bif true then max (0:Int) ((↑a.i:Int)*48 - (6:Int)) else min (0:Int) ((↑a.i:Int)*48 - (6:Int)))=false->∃ b o:Nat,pv a.y.b 0=pv b o/\∃ b_4 o_4:Nat,pv b o=pv b_4 o_4/\∃ b lo o:Nat,∃ cs:List Value,pv b_4 (o_4+2)=pv b (lo+o)/\a_2 b=some (lo,cs)/\o+[A.int IntKind.i64 (uw .i64 (getTo (fun (i:Nat)=>u8 a_4.rows (a_4.r+i)) a_4.len))].length<=cs.length/\∃ b_5 o_5:Nat,pv a.y.b 0=pv b_5 o_5 /\
 ∃ b_6 o_6:Nat,pv b_5 o_5=pv b_6 o_6/\∃ b_7 lo_1 o_7:Nat,∃ cs_1:List Value,pv b_6 (o_6+3)=pv b_7 (lo_1+o_7)/\pupd a_2 b lo (List.take o cs++[Value.int IntKind.i64 (uw .i64 (getTo (fun (i:Nat)=>u8 a_4.rows (a_4.r+i)) a_4.len))]++List.drop (o+[Value.int IntKind.i64 (uw .i64 (getTo (fun (i:Nat)=>u8 a_4.rows (a_4.r+i)) a_4.len))].length) cs) b_7=some (lo_1,cs_1)/\((∃ v:Value,cs_1[o_7]? = some v/\v.oneCell'=true)/\True)/\((0:Int)<=15/\(15:Int)<64)/\15<64/\(InR .u8 (a.f 15)->((0:Int)<=a.f 15/\a.f 15<=(↑(a.cap - offS a.i):Int))/\∃ l c:Nat,∃ rows:Nat->Nat->Value,slAt (pupd a_2 b lo (List.take o cs++[Value.int IntKind.i64 (uw .i64 (getTo (fun (i:Nat)=>u8 a_4.rows (a_4.r+i)) a_4.len))]++List.drop (o+[Value.int IntKind.i64 (uw .i64 (getTo (fun (i:Nat)=>u8 a_4.rows (a_4.r+i)) a_4.len))].length) cs)) (cs_1.getD o_7 (Value.tuple #[])) [CK.int IntKind.u8] l c rows/\0+l<=l/\offS a.i+0+((a.f 15).toNat - 0)<=64/\(l+((a.f 15).toNat - 0))*1<=140737488355328/\∀ cap:Nat,l+((a.f 15).toNat - 0)<=cap->cap<=lenMax->(l+((a.f 15).toNat - 0)<=c->cap=c)->(cap≠0/\0+(l+((a.f 15).toNat - 0))<=l+((a.f 15).toNat - 0))/\∀ (b_8 lo_2:Nat) (cs_2:List Value),pminusV (pupd a_2 b lo (List.take o cs++[Value.int IntKind.i64 (uw .i64 (getTo (fun (i:Nat)=>u8 a_4.rows (a_4.r+i)) a_4.len))]++List.drop (o+[Value.int IntKind.i64 (uw .i64 (getTo (fun (i:Nat)=>u8 a_4.rows (a_4.r+i)) a_4.len))].length) cs)) (cs_1.getD o_7 (Value.tuple #[])) b_8=none ->
 cs_2.length=cap*1->(PRows cs_2 0 [CK.int IntKind.u8] (l+((a.f 15).toNat - 0)) fun (i j:Nat)=>appRows rows 0 l (fun (i j:Nat)=>Value.int IntKind.u8 (a.f (offS a.i+0+i))) (0+i) j)->∃ b_9 o_8:Nat,pv a.y.b 0=pv b_9 o_8/\∃ b_10 o_9:Nat,pv b_9 o_8=pv b_10 o_9/\∃ b_11 lo_3 o_10:Nat,∃ cs_3:List Value,pv b_10 (o_9+3)=pv b_11 (lo_3+o_10)/\pupd (pminusV (pupd a_2 b lo (List.take o cs++[Value.int IntKind.i64 (uw .i64 (getTo (fun (i:Nat)=>u8 a_4.rows (a_4.r+i)) a_4.len))]++List.drop (o+[Value.int IntKind.i64 (uw .i64 (getTo (fun (i:Nat)=>u8 a_4.rows (a_4.r+i)) a_4.len))].length) cs)) (cs_1.getD o_7 (Value.tuple #[]))) b_8 lo_2 cs_2 b_11=some (lo_3,cs_3)/\o_10+[A.val (slv b_8 lo_2 (l+((a.f 15).toNat - 0)) cap)].length<=cs_3.length/\∃ b_12:TakeR,true=takeB a.g a.i a.f/\pupd (pupd (pminusV (pupd a_2 b lo (List.take o cs++[Value.int IntKind.i64 (uw .i64 (getTo (fun (i:Nat)=>u8 a_4.rows (a_4.r+i)) a_4.len))]++List.drop (o+[Value.int IntKind.i64 (uw .i64 (getTo (fun (i:Nat)=>u8 a_4.rows (a_4.r+i)) a_4.len))].length) cs)) (cs_1.getD o_7 (Value.tuple #[]))) b_8 lo_2 cs_2) b_11 lo_3 (List.take o_10 cs_3++[Value.slice (some { block:=b_8,off:=lo_2 }) (l+((a.f 15).toNat - 0)) cap]++List.drop (o_10+[Value.slice (some { block:=b_8,off:=lo_2 }) (l+((a.f 15).toNat - 0)) cap].length) cs_3)=b_12.H/\(SegNd b_12.H b_12.y (takeM a.g a.i a.f)/\b_12.y.b=a.y.b/\b_12.y.rv=a.y.rv/\Fr a.H a.y b_12.H b_12.y) /\
 True)))))))))))) (by kernel_rfl) (by
 rintro ⟨H,y,g,i,f,cap⟩ ⟨hs,hi,hlen,hcap,hpos⟩;dsimp only at *;have eG:∀ r len,getTo (fun i=>u8 (rowsB f) (r+i)) len=gB f r len:=fun _ _=>rfl;have eS:ibits .xor .u32 4294967295 (crcTo (fun i=>u8 (rowsB f) (4+i)) 60)=sumB f:=rfl;obtain ⟨rg1,rg2,rg3⟩:=hs.at_.rng
 repeat (first|refine And.intro (by omega) ?_|refine And.intro (by dsimp only;omega) ?_|refine And.intro (by simp only [InR];omega) ?_)
 refine ⟨⟨fun c1=>?_,fun c1=>?_⟩,?_⟩
 ·have hi0:i=0:=by simpa using c1
  subst hi0
  repeat (first|refine And.intro (by omega) ?_|refine And.intro (by dsimp only;omega) ?_|refine And.intro (by simp only [InR];omega) ?_)
  refine ⟨GetA.mk 4 6 (cap - 4) 64 (rowsB f),?_⟩
  (repeat' apply And.intro)<;>first|with_reducible (first|rfl|trivial|assumption)|omega|with_reducible (first|exact RowsEq.refl _ _ _|exact Nat.le_refl _)|(dsimp only [List.length_cons,List.length_nil]<;>omega)|skip
  intro _ _;refine ⟨GetA.mk 16 6 (cap - 16 - 0) 64 (rowsB f),?_⟩
  (repeat' apply And.intro)<;>first|with_reducible (first|rfl|trivial|assumption)|omega|with_reducible (first|exact RowsEq.refl _ _ _|exact Nat.le_refl _)|(dsimp only [List.length_cons,List.length_nil]<;>omega)|skip
  intro _ _;dsimp only;simp only [eG];have s1:=seg_setint (g':={ g with gen:=uw .i64 (gB f 4 6) }) hs rfl rfl ⟨InR_uw _ _,rg2,rg3⟩;have s2:=seg_setint (g':={ g with gen:=uw .i64 (gB f 4 6),base:=uw .i64 (gB f 16 6) }) s1.1 rfl rfl ⟨InR_uw _ _,InR_uw _ _,rg3⟩;refine ⟨_,_,rfl,?_⟩;refine ⟨_,_,rfl,?_⟩;refine ⟨_,0,_,_,rfl,hs.at_.cell,by simp [segC],?_⟩;refine ⟨_,_,rfl,?_⟩;refine ⟨_,_,rfl,?_⟩;refine ⟨_,0,_,_,rfl,s1.1.at_.cell,by simp [segC],?_⟩
  repeat (first|refine And.intro (by omega) ?_|refine And.intro (by dsimp only;omega) ?_|refine And.intro (by simp only [InR];omega) ?_)
  refine ⟨pupd (pupd H y.b 0 (segC { g with gen:=uw .i64 (gB f 4 6) } y.bv y.rv)) y.b 0 (segC { g with gen:=uw .i64 (gB f 4 6),base:=uw .i64 (gB f 16 6) } y.bv y.rv),?_⟩
  (repeat' apply And.intro)<;>first|with_reducible (first|rfl|trivial|assumption)|omega|with_reducible (first|exact RowsEq.refl _ _ _|exact Nat.le_refl _)|(dsimp only [List.length_cons,List.length_nil]<;>omega)|exact s2.1|exact s1.2.trans s2.2|rfl|(simp only [offS,if_true];omega)|skip
 ·have hi0:i≠0:=by simpa using c1
  refine ⟨H,?_⟩;have hg:takeG g i f=g:=if_neg hi0;rw [hg]
  (repeat' apply And.intro)<;>first|with_reducible (first|rfl|trivial|assumption)|omega|with_reducible (first|exact RowsEq.refl _ _ _|exact Nat.le_refl _)|(dsimp only [List.length_cons,List.length_nil]<;>omega)|exact hs|exact fun x _ hn=>⟨rfl,hn⟩|(simp only [offS,roomS,if_neg hi0];done)|skip
 ·rintro X ⟨hX,hfr⟩;obtain ⟨g1,hg1⟩:∃ g1,g1=takeG g i f:=⟨_,rfl⟩
  have eb:g1.buf=g.buf:=by rw [hg1];unfold takeG;split<;>rfl
  have er:g1.run=g.run:=by rw [hg1];unfold takeG;split<;>rfl
  rw [<- hg1] at hX;obtain ⟨rx1,rx2,rx3⟩:=hX.at_.rng;obtain ⟨b1,b2,b3,b4,⟨ba,bc,b5⟩,b6⟩:=hX.at_.buf.len;have hcell:=hX.at_.cell
  repeat (first|refine And.intro (by omega) ?_|refine And.intro (by dsimp only;omega) ?_|refine And.intro (by simp only [InR];omega) ?_)
  refine ⟨GetA.mk 10 4 (cap - 10) 64 (rowsB f),?_⟩
  (repeat' apply And.intro)<;>first|with_reducible (first|rfl|trivial|assumption)|omega|with_reducible (first|exact RowsEq.refl _ _ _|exact Nat.le_refl _)|(dsimp only [List.length_cons,List.length_nil]<;>omega)|skip
  intro _ _;dsimp only;simp only [eG]
  repeat (first|refine And.intro (by omega) ?_|refine And.intro (by dsimp only;omega) ?_|refine And.intro (by simp only [InR];omega) ?_)
  refine ⟨CrcA.mk 1 4 60 (cap - 4) 64 (rowsB f),?_⟩
  (repeat' apply And.intro)<;>first|with_reducible (first|rfl|trivial|assumption)|omega|with_reducible (first|exact RowsEq.refl _ _ _|exact Nat.le_refl _)|(dsimp only [List.length_cons,List.length_nil]<;>omega)|skip
  intro _ _;refine ⟨GetA.mk 0 4 (cap - 0) 64 (rowsB f),?_⟩
  (repeat' apply And.intro)<;>first|with_reducible (first|rfl|trivial|assumption)|omega|with_reducible (first|exact RowsEq.refl _ _ _|exact Nat.le_refl _)|(dsimp only [List.length_cons,List.length_nil]<;>omega)|skip
  intro _ _;dsimp only;simp only [eG,eS];refine ⟨fun c1=>?_,fun c1=>?_⟩
  ·have hF:takeB g i f=false:=by
    unfold takeB;rw [<- hg1];have:(sumB f == gB f 0 4)=false:=by simpa using c1
    rw [this];rfl
   refine ⟨⟨X,y⟩,?_⟩;rw [hF,show takeM g i f=g1 by unfold takeM;rw [hF];exact hg1.symm]
   (repeat' apply And.intro)<;>first|with_reducible (first|rfl|trivial|assumption)|omega|with_reducible (first|exact RowsEq.refl _ _ _|exact Nat.le_refl _)|(dsimp only [List.length_cons,List.length_nil]<;>omega)|exact hX.at_|exact hX|exact hfr|rfl
  ·have k1:(sumB f == gB f 0 4)=true:=by simpa using c1
   repeat (first|refine And.intro (by omega) ?_|refine And.intro (by dsimp only;omega) ?_|refine And.intro (by simp only [InR];omega) ?_)
   refine ⟨_,_,rfl,?_⟩;refine ⟨_,_,rfl,?_⟩;refine ⟨_,0,_,_,rfl,hcell,?_⟩;refine ⟨⟨⟨_,rfl,_,rfl,rx1⟩,trivial⟩,fun _=>⟨GetA.mk 4 6 (cap - 4) 64 (rowsB f),?_⟩⟩
   (repeat' apply And.intro)<;>first|with_reducible (first|rfl|trivial|assumption)|omega|with_reducible (first|exact RowsEq.refl _ _ _|exact Nat.le_refl _)|(dsimp only [List.length_cons,List.length_nil]<;>omega)|skip
   intro _ _;dsimp only;simp only [eG,segC,List.getD_cons_zero,toI];refine ⟨fun c2=>?_,fun c2=>?_⟩
   ·have hF:takeB g i f=false:=by
     unfold takeB;rw [<- hg1];have:(uw .i64 (gB f 4 6) == g1.gen)=false:=by simpa using c2
     rw [this,Bool.false_and,Bool.and_false]
    refine ⟨⟨X,y⟩,?_⟩;rw [hF,show takeM g i f=g1 by unfold takeM;rw [hF];exact hg1.symm]
    (repeat' apply And.intro)<;>first|with_reducible (first|rfl|trivial|assumption)|omega|with_reducible (first|exact RowsEq.refl _ _ _|exact Nat.le_refl _)|(dsimp only [List.length_cons,List.length_nil]<;>omega)|exact hX.at_|exact hX|exact hfr|rfl
   ·have k2:(uw .i64 (gB f 4 6) == g1.gen)=true:=by simpa using c2
    refine ⟨_,_,rfl,?_⟩;refine ⟨_,_,rfl,?_⟩;refine ⟨_,0,_,_,rfl,hcell,?_⟩;refine ⟨⟨⟨_,rfl,_,rfl,rx3⟩,trivial⟩,fun _=>?_⟩;simp only [segC,List.getD_cons_zero,List.getD_cons_succ,toI];refine ⟨fun c3=>?_,fun c3=>?_⟩
    ·have hF:takeB g i f=false:=by
      unfold takeB;rw [<- hg1];rw [<- er,c3,k1,k2];simp
     refine ⟨⟨X,y⟩,?_⟩;rw [hF,show takeM g i f=g1 by unfold takeM;rw [hF];exact hg1.symm]
     (repeat' apply And.intro)<;>first|with_reducible (first|rfl|trivial|assumption)|omega|with_reducible (first|exact RowsEq.refl _ _ _|exact Nat.le_refl _)|(dsimp only [List.length_cons,List.length_nil]<;>omega)|exact hX.at_|exact hX|exact hfr|rfl
    ·repeat (first|refine And.intro (by omega) ?_|refine And.intro (by dsimp only;omega) ?_|refine And.intro (by simp only [InR];omega) ?_)
     intro rg14;refine ⟨fun c4=>?_,fun c4=>?_⟩
     ·have hF:takeB g i f=false:=by
       unfold takeB;rw [<- hg1];have:(f 14 == (i:Int))=false:=by simpa using c4
       rw [this,Bool.false_and,Bool.and_false,Bool.and_false,Bool.and_false]
      refine ⟨⟨X,y⟩,?_⟩;rw [hF,show takeM g i f=g1 by unfold takeM;rw [hF];exact hg1.symm]
      (repeat' apply And.intro)<;>first|with_reducible (first|rfl|trivial|assumption)|omega|with_reducible (first|exact RowsEq.refl _ _ _|exact Nat.le_refl _)|(dsimp only [List.length_cons,List.length_nil]<;>omega)|exact hX.at_|exact hX|exact hfr|rfl
     ·have k4:(f 14 == (i:Int))=true:=by simpa using c4
      repeat (first|refine And.intro (by omega) ?_|refine And.intro (by dsimp only;omega) ?_|refine And.intro (by simp only [InR];omega) ?_)
      intro rg15;refine ⟨fun c5=>?_,fun c5=>?_⟩
      ·have hF:takeB g i f=false:=by
        unfold takeB;rw [<- hg1];have c5:=of_decide_eq_true c5;have:decide (f 15<=roomS i)=false:=by simp;omega
        rw [this,Bool.false_and,Bool.and_false,Bool.and_false,Bool.and_false,Bool.and_false]
       refine ⟨⟨X,y⟩,?_⟩;rw [hF,show takeM g i f=g1 by unfold takeM;rw [hF];exact hg1.symm]
       (repeat' apply And.intro)<;>first|with_reducible (first|rfl|trivial|assumption)|omega|with_reducible (first|exact RowsEq.refl _ _ _|exact Nat.le_refl _)|(dsimp only [List.length_cons,List.length_nil]<;>omega)|exact hX.at_|exact hX|exact hfr|rfl
      ·have k5:decide (f 15<=roomS i)=true:=by have:=of_decide_eq_false c5;simp;omega
       refine ⟨_,_,rfl,?_⟩;refine ⟨_,_,rfl,?_⟩;refine ⟨_,0,_,_,rfl,hcell,?_⟩;refine ⟨⟨⟨_,rfl,b6⟩,trivial⟩,⟨ba,_,bc,b5,b3⟩,?_⟩
       repeat (first|refine And.intro (by omega) ?_|refine And.intro (by dsimp only;omega) ?_|refine And.intro (by simp only [InR];omega) ?_)
       simp only [segC,List.getD_cons_zero,List.getD_cons_succ,b1];have em2:(bif true then max 0 ((i:Int)*48 - 6) else min 0 ((i:Int)*48 - 6))=(startS i:Nat):=by simp only [cond_true,startS];omega
       rw [em2];refine ⟨fun c6=>?_,fun c6=>?_⟩
       ·have hF:takeB g i f=false:=by
         unfold takeB;rw [<- hg1];have c6:g1.buf.length≠startS i:=by intro e;rw [e] at c6;simp at c6
         have:decide (g.buf.length=startS i)=false:=by rw [<- eb];simpa using c6
         rw [this,Bool.and_false,Bool.and_false,Bool.and_false,Bool.and_false,Bool.and_false]
        refine ⟨⟨X,y⟩,?_⟩;rw [hF,show takeM g i f=g1 by unfold takeM;rw [hF];exact hg1.symm]
        (repeat' apply And.intro)<;>first|with_reducible (first|rfl|trivial|assumption)|omega|with_reducible (first|exact RowsEq.refl _ _ _|exact Nat.le_refl _)|(dsimp only [List.length_cons,List.length_nil]<;>omega)|exact hX.at_|exact hX|exact hfr|rfl
       ·have k6:g1.buf.length=startS i:=by
         have:(g1.buf.length:Int)=(startS i:Nat):=by simpa using c6
         omega
        have hT:takeB g i f=true:=by
         unfold takeB;rw [<- hg1,k1,k2,<- er,c3,k4,k5,<- eb,k6];simp
        have s1:=seg_setint (g':={ g1 with run:=uw .i64 (gB f 10 4) }) hX rfl rfl ⟨rx1,rx2,InR_uw _ _⟩;obtain ⟨X1,hX1⟩:∃ X1,X1=pupd X y.b 0 (segC { g1 with run:=uw .i64 (gB f 10 4) } y.bv y.rv):=⟨_,rfl⟩
        rw [<- hX1] at s1;have hf15:(f 15).toNat<=roomS i:=by have:=of_decide_eq_true k5;omega
        have hroom:offS i+roomS i=64:=by unfold offS roomS;split<;>rfl
        have hroom2:roomS i<=48:=by unfold roomS;split<;>omega
        refine ⟨_,_,rfl,?_⟩;refine ⟨_,_,rfl,?_⟩;refine ⟨_,0,_,_,rfl,hcell,by simp [segC],?_⟩;simp only [show pupd X y.b 0 (List.take 2 (segC g1 y.bv y.rv)++[Value.int .i64 (uw .i64 (gB f 10 4))]++List.drop (2+[Value.int .i64 (uw .i64 (gB f 10 4))].length) (segC g1 y.bv y.rv))=X1 from hX1.symm];refine ⟨_,_,rfl,?_⟩;refine ⟨_,_,rfl,?_⟩;refine ⟨_,0,_,_,rfl,s1.1.at_.cell,?_⟩;refine ⟨⟨⟨_,rfl,b6⟩,trivial⟩,?_⟩
        repeat (first|refine And.intro (by omega) ?_|refine And.intro (by dsimp only;omega) ?_|refine And.intro (by simp only [InR];omega) ?_)
        intro _;obtain ⟨c0,hbuf⟩:=s1.1.at_.buf;simp only [InR] at rg15;have hp15:=hpos hT;simp only [show (segC { g1 with run:=uw .i64 (gB f 10 4) } y.bv y.rv).getD 3 (Value.tuple #[])=y.bv from rfl]
        repeat (first|refine And.intro (by omega) ?_|refine And.intro (by dsimp only;omega) ?_|refine And.intro (by simp only [InR];omega) ?_)
        refine ⟨_,c0,_,hbuf,?_⟩;dsimp only;rw [eb]
        repeat (first|refine And.intro (by omega) ?_|refine And.intro (by dsimp only;omega) ?_|refine And.intro (by simp only [InR];omega) ?_)
        intro cap1 q1 q2 q3
        repeat (first|refine And.intro (by omega) ?_|refine And.intro (by dsimp only;omega) ?_|refine And.intro (by simp only [InR];omega) ?_)
        intro p1 lo1 cs1 hp1 hl1 hr1;have hB:Step X1 y.bv (pupd (pminusV X1 y.bv) p1 lo1 cs1) (slv p1 lo1 (g.buf.length+((f 15).toNat - 0)) cap1):=app_step hp1;have hlb:(g.buf++(List.range (f 15).toNat).map fun k=>f (offS i+k)).length=g.buf.length+((f 15).toNat - 0):=by simp
        have hBy:BytesAt (pupd (pminusV X1 y.bv) p1 lo1 cs1) (slv p1 lo1 (g.buf.length+((f 15).toNat - 0)) cap1) (g.buf++(List.range (f 15).toNat).map fun k=>f (offS i+k)):=by
         refine ⟨cap1,?_⟩;rw [hlb];refine slAt_new hl1 q1 q2 hr1 fun k hk j hj=>?_;have hj0:j=0:=by simpa using hj
         subst hj0;simp only [Nat.zero_add,appRows,encRows,encB,List.getD_cons_zero];by_cases hin:k<g.buf.length
         ·rw [if_pos hin,gl_append_left hin]
         ·rw [if_neg hin];obtain ⟨m,rfl⟩:∃ m,k=g.buf.length+m:=⟨k - g.buf.length,by omega⟩
          rw [gl_append_right,Nat.add_sub_cancel_left];have:gl ((List.range (f 15).toNat).map fun k=>f (offS i+k)) m=f (offS i+m):=by
           rw [gl_eq (by simp;omega)];simp
          rw [this,Nat.add_zero]
        obtain ⟨hc2,hs3,hf3⟩:=seg_setbuf s1.1 hB hBy;refine ⟨_,_,rfl,?_⟩;refine ⟨_,_,rfl,?_⟩;refine ⟨_,0,_,_,rfl,hc2,by simp [segC],?_⟩;have hM:takeM g i f={ g1 with run:=uw .i64 (gB f 10 4),buf:=g.buf++(List.range (f 15).toNat).map fun k=>f (offS i+k) }:=by
         unfold takeM;rw [if_pos hT,<- hg1]
        refine ⟨⟨pupd (pupd (pminusV X1 y.bv) p1 lo1 cs1) y.b 0 (segC { g1 with run:=uw .i64 (gB f 10 4),buf:=g.buf++(List.range (f 15).toNat).map fun k=>f (offS i+k) } (slv p1 lo1 (g.buf.length+((f 15).toNat - 0)) cap1) y.rv),{ y with bv:=slv p1 lo1 (g.buf.length+((f 15).toNat - 0)) cap1 }⟩,?_⟩;rw [hT,hM];refine And.intro (by first|trivial|rfl) (And.intro rfl (And.intro ⟨hs3,rfl,rfl,?_⟩ trivial));exact (hfr.trans s1.2).trans hf3)
theorem callTake:CallsBy (Y Tryz.prog).G.X 122 cTake:=fn_ok okY (tab:=[(121,cGet),(91,cCrc)]) ⟨callGet,callCrc,trivial⟩ bodyTake
end Go.Proofs.YtfhkbihcfmbbcaaGreat

namespace Go.Proofs.YtfhkbihcfmbbcaaGreat
open Go.Sx
set_option maxRecDepth 100000
set_option linter.unusedVariables false
set_option linter.unusedSimpArgs false
structure GetVA where
 H:PH
 v:Value
 len:Nat
 c:Nat
 rows:Nat->Nat->Value
noncomputable def cGetV:Con where
 α:=GetVA
 β:=Unit
 m:=1
 m':=1
 pre:=fun a=>slAt a.H a.v [.int .u8] a.len a.c a.rows/\a.len<=8
 args:=fun a=>[.a (.val a.v)]
 hp:=fun _=>[]
 ro:=fun a=>[(0,.pool a.H)]
 post:=fun _ _=>True
 res:=fun a _=>.a (.int .u64 (getTo (fun i=>u8 a.rows i) a.len))
 hp':=fun _ _=>[]
def iGetV (a:GetVA):An:=.flat 3 Nat (fun s k=>(s.set 3 (.a (.int .u64 (getTo (fun i=>u8 a.rows i) k)))).int 8 k) (fun _ k=>k<=a.len) (fun _ k=>a.len - k)
set_option maxHeartbeats 4000000 in
theorem bodyGetV:fnBody (Y Tryz.prog) [] 121 cGetV fun a=>[(121,[iGetV a],[])]:=fnBody.of (p :=
 ∀ a:GetVA,slAt a.H a.v [CK.int IntKind.u8] a.len a.c a.rows/\a.len<=8->(∃ a_2:Option Go.Addr,∃ l c:Nat,a.v=Value.slice a_2 l c/\l<=lenMax)/\(∃ a_2:Nat,0=(↑a_2:Int)/\(0:Int)=getTo (fun (i:Nat)=>u8 a.rows i) a_2/\(↑(slLen a.v):Int)=(↑(slLen a.v):Int)/\a.v=a.v/\(0:Int)=0/\a.v=a.v/\a.H=a.H/\a_2<=a.len/\True)/\∀ a_2:Nat,a_2<=a.len->(decide ((↑a_2:Int)<(↑(slLen a.v):Int))=true->∃ b o:Nat,∃ l c:Nat,a.v=slv b o l c/\(0<=(↑a_2:Int)/\(↑a_2:Int)<(↑l:Int))/\∃ b_1 lo o_1:Nat,∃ cs:List Value,pv b (o+(↑a_2:Int).toNat*1)=pv b_1 (lo+o_1)/\a.H b_1=some (lo,cs)/\((∃ v:Value,cs[o_1]? = some v/\∃ n:Int,v=Value.int IntKind.u8 n/\InR .u8 n)/\True)/\(InR .u8 (toI (cs.getD o_1 (Value.tuple #[])))->(0:Int)<=8/\InR .i64 ((↑a_2:Int)+1)/\∃ (a':Nat),(↑a_2:Int)+1=(↑a':Int)/\ibits Go.BinOp.or IntKind.u64 (uw .u64 (getTo (fun (i:Nat)=>u8 a.rows i) a_2*(256:Int))) (toI (cs.getD o_1 (Value.tuple #[])))=getTo (fun (i:Nat)=>u8 a.rows i) a'/\(↑(slLen a.v):Int)=(↑(slLen a.v):Int)/\a.v=a.v/\(0:Int)=0/\a.v=a.v/\a.H=a.H/\a'<=a.len/\a.len - a'<a.len - a_2))/\(decide ((↑a_2:Int)<(↑(slLen a.v):Int))=false->∃ b:Unit,getTo (fun (i:Nat)=>u8 a.rows i) a_2=getTo (fun (i:Nat)=>u8 a.rows i) a.len/\True/\True)) (by kernel_rfl) (by
 rintro ⟨H,v,len,c,rows⟩ ⟨hs,h1⟩;dsimp only at *;obtain ⟨e1,_,e3,e4,_,⟨ea,e2⟩,_⟩:=slAt_len hs;refine ⟨⟨ea,_,_,e2,by omega⟩,⟨0,?_⟩,fun k hk=>⟨fun c1=>?_,fun c1=>⟨(),?_⟩⟩⟩
 ·(repeat' apply And.intro)<;>first|with_reducible (first|rfl|trivial|assumption)|omega|with_reducible (first|exact RowsEq.refl _ _ _|exact Nat.le_refl _)|(dsimp only [List.length_cons,List.length_nil]<;>omega)|rfl
 ·rw [e1] at c1;have hk:k<len:=by have:=of_decide_eq_true c1;omega
  rcases hs with ⟨_,h0,_⟩ | ⟨b,lo,o,cs,g1,g2,g3,g4,g5⟩
  ·omega
  ·obtain ⟨q1,m,q2,q3⟩:=g5.at_ k hk 0 (.int .u8) rfl;have q1:cs[o+k*1]? = some (rows k 0):=q1;have q4:cs.getD (o+k*1) (Value.tuple #[])=rows k 0:=by rw [List.getD_eq_getElem?_getD,q1];rfl
   refine ⟨_,_,_,_,g1,by omega,b,lo,o+k*1,cs,by rw [Int.toNat_natCast,Nat.add_assoc],g3,⟨⟨_,q1,m,q2,q3⟩,trivial⟩,fun _=>?_⟩;rw [q4];refine ⟨by omega,by simp only [InR];omega,k+1,?_⟩
   (repeat' apply And.intro)<;>first|with_reducible (first|rfl|trivial|assumption)|omega|with_reducible (first|exact RowsEq.refl _ _ _|exact Nat.le_refl _)|(dsimp only [List.length_cons,List.length_nil]<;>omega)|rfl
 ·have hk:k=len:=by rw [e1] at c1;have:=of_decide_eq_false c1;omega
  subst hk
  (repeat' apply And.intro)<;>first|with_reducible (first|rfl|trivial|assumption)|omega|with_reducible (first|exact RowsEq.refl _ _ _|exact Nat.le_refl _)|(dsimp only [List.length_cons,List.length_nil]<;>omega)|rfl)
theorem callGetV:CallsBy (Y Tryz.prog).G.X 121 cGetV:=fn_ok okY (tab:=[]) trivial bodyGetV
def recN (buf:List Int) (at_:Nat):Int:=uw .i64 (getTo (fun k=>gl buf (at_+k)) 2)
def recP (buf:List Int) (at_:Nat):Int:=uw .i64 (getTo (fun k=>gl buf (at_+2+k)) 6)
def recOk (buf:List Int) (at_:Nat):Bool:=decide (at_+8<=buf.length)&&(decide (1<=recN buf at_)&&(decide (recN buf at_<=300)&&decide ((at_:Int)+8+recN buf at_<=buf.length)))
def recAt (buf:List Int) (at_:Nat):RecM:=⟨recP buf at_,(buf.drop (at_+8)).take (recN buf at_).toNat⟩
def parseR (buf:List Int):Nat->Nat->List RecM × Nat
 | 0,at_=>([],at_)
 | k+1,at_=>if recOk buf at_ then (recAt buf at_::(parseR buf k (at_+8+(recN buf at_).toNat)).1,(parseR buf k (at_+8+(recN buf at_).toNat)).2) else ([],at_)
def recsM (g:SegM):SegM:={ g with recs:=(parseR g.buf 50 0).1,buf:=g.buf.take (parseR g.buf 50 0).2 }
structure RecsA where
 H:PH
 y:SegL
 g:SegM
noncomputable def cRecords:Con where
 α:=RecsA
 β:=TakeR
 m:=1
 m':=2
 pre:=fun a=>SegNd a.H a.y a.g/\a.g.buf.length<=378/\a.g.recs=[]
 args:=fun a=>[.a (.val (pv a.y.b 0))]
 hp:=fun a=>[(0,.pool a.H)]
 ro:=fun _=>[]
 post:=fun a b=>SegNd b.H b.y (recsM a.g)/\b.y.b=a.y.b/\Fr a.H a.y b.H b.y
 res:=fun _ _=>.tup []
 hp':=fun _ b=>[(1,.pool b.H)]
structure RecsS where
 H:PH
 y:SegL
 rs:List RecM
 at_:Nat
 k:Nat
def iRecs (a:RecsA):An:=.flat 1 RecsS (fun s x=>S.pool (s.int 2 x.at_) x.H) (fun _ x=>SegNd x.H x.y { a.g with recs:=x.rs }/\x.y.b=a.y.b/\Fr a.H a.y x.H x.y/\x.at_<=a.g.buf.length/\a.g.buf.length<x.at_+9*x.k/\x.rs++(parseR a.g.buf x.k x.at_).1=(parseR a.g.buf 50 0).1/\(parseR a.g.buf x.k x.at_).2=(parseR a.g.buf 50 0).2/\x.rs.length*9<=x.at_) (fun _ x=>a.g.buf.length - x.at_)
def iRecsC (a:RecsA):An:=.mk 7 RecsS (fun s x=>S.pool (s.int 2 x.at_) x.H) (fun _ x=>SegNd x.H x.y { a.g with recs:=(parseR a.g.buf 50 0).1 }/\x.y.b=a.y.b/\Fr a.H a.y x.H x.y/\x.at_<=a.g.buf.length/\x.at_=(parseR a.g.buf 50 0).2) (fun _ _=>0) fun _=>.mk 1000 [] []
set_option maxHeartbeats 4000000 in
theorem bodyRecords:fnBody (Y Tryz.prog) [(121,cGetV)] 123 cRecords fun a=>[(123,[iRecs a],[iRecsC a])]:=fnBody.of (p :=
 ∀ a:RecsA,SegNd a.H a.y a.g/\a.g.buf.length<=378/\a.g.recs=[]->((∃ a_2:RecsS,0=(↑a_2.at_:Int)/\pv a.y.b 0=pv a.y.b 0/\a.H=a_2.H/\(SegNd a_2.H a_2.y { gen:=a.g.gen,base:=a.g.base,run:=a.g.run,buf:=a.g.buf,recs:=a_2.rs }/\a_2.y.b=a.y.b/\Fr a.H a.y a_2.H a_2.y/\a_2.at_<=a.g.buf.length/\a.g.buf.length<a_2.at_+9*a_2.k/\a_2.rs++(parseR a.g.buf a_2.k a_2.at_).fst=(parseR a.g.buf 50 0).fst/\(parseR a.g.buf a_2.k a_2.at_).snd=(parseR a.g.buf 50 0).snd/\a_2.rs.length*9<=a_2.at_)/\True)/\∀ a_2:RecsS,SegNd a_2.H a_2.y { gen:=a.g.gen,base:=a.g.base,run:=a.g.run,buf:=a.g.buf,recs:=a_2.rs }/\a_2.y.b=a.y.b/\Fr a.H a.y a_2.H a_2.y/\a_2.at_<=a.g.buf.length/\a.g.buf.length<a_2.at_+9*a_2.k/\a_2.rs++(parseR a.g.buf a_2.k a_2.at_).fst=(parseR a.g.buf 50 0).fst/\(parseR a.g.buf a_2.k a_2.at_).snd=(parseR a.g.buf 50 0).snd/\a_2.rs.length*9<=a_2.at_->∃ b o:Nat,pv a.y.b 0=pv b o/\∃ b_1 o_1:Nat,pv b o=pv b_1 o_1/\∃ b lo o:Nat,∃ cs:List Value,pv b_1 (o_1+3)=pv b (lo+o)/\a_2.H b=some (lo,cs)/\((∃ v:Value,cs[o]? = some v/\v.oneCell'=true)/\True)/\(∃ a:Option Go.Addr,∃ l c:Nat,cs.getD o (Value.tuple #[])=Value.slice a l c/\l<=lenMax)/\InR .i64 ((↑(slLen (cs.getD o (Value.tuple #[]))):Int) - (↑a_2.at_:Int))/\(decide (8<=(↑(slLen (cs.getD o (Value.tuple #[]))):Int) - (↑a_2.at_:Int))=true->∃ b o:Nat,pv a.y.b 0=pv b o/\∃ b_2 o_2:Nat,pv b o=pv b_2 o_2 /\
 ∃ b lo o:Nat,∃ cs:List Value,pv b_2 (o_2+3)=pv b (lo+o)/\a_2.H b=some (lo,cs)/\((∃ v:Value,cs[o]? = some v/\v.oneCell'=true)/\True)/\InR .i64 ((↑a_2.at_:Int)+2)/\okSl (cs.getD o (Value.tuple #[]))/\(0<=(↑a_2.at_:Int)+2/\(↑a_2.at_:Int)+2<=(↑(slCap (cs.getD o (Value.tuple #[]))):Int))/\(0<=(↑a_2.at_:Int)/\(↑a_2.at_:Int)<=(↑((↑a_2.at_:Int)+2).toNat:Int))/\∃ a_5:GetVA,slcut 1 (cs.getD o (Value.tuple #[])) (↑a_2.at_:Int).toNat ((↑a_2.at_:Int)+2).toNat (slCap (cs.getD o (Value.tuple #[])))=a_5.v/\a_2.H=a_5.H/\(slAt a_5.H a_5.v [CK.int IntKind.u8] a_5.len a_5.c a_5.rows/\a_5.len<=8)/\∀ b:Unit,True->∃ b o:Nat,pv a.y.b 0=pv b o/\∃ b_3 o_3:Nat,pv b o=pv b_3 o_3/\∃ b lo o:Nat,∃ cs:List Value,pv b_3 (o_3+3)=pv b (lo+o)/\a_2.H b=some (lo,cs)/\((∃ v:Value,cs[o]? = some v/\v.oneCell'=true)/\True)/\InR .i64 ((↑a_2.at_:Int)+2)/\InR .i64 ((↑a_2.at_:Int)+8)/\okSl (cs.getD o (Value.tuple #[]))/\(0<=(↑a_2.at_:Int)+8/\(↑a_2.at_:Int)+8<=(↑(slCap (cs.getD o (Value.tuple #[]))):Int))/\(0<=(↑a_2.at_:Int)+2/\(↑a_2.at_:Int)+2<=(↑((↑a_2.at_:Int)+8).toNat:Int))/\∃ a_7:GetVA,slcut 1 (cs.getD o (Value.tuple #[])) ((↑a_2.at_:Int)+2).toNat ((↑a_2.at_:Int)+8).toNat (slCap (cs.getD o (Value.tuple #[])))=a_7.v/\a_2.H=a_7.H/\(slAt a_7.H a_7.v [CK.int IntKind.u8] a_7.len a_7.c a_7.rows/\a_7.len<=8)/\∀ b:Unit,True->(decide (uw .i64 (getTo (fun (i:Nat)=>u8 a_5.rows i) a_5.len)<(1:Int))=true ->
 ∃ a_10:RecsS,(↑a_2.at_:Int)=(↑a_10.at_:Int)/\pv a.y.b 0=pv a.y.b 0/\a_2.H=a_10.H/\(SegNd a_10.H a_10.y { gen:=a.g.gen,base:=a.g.base,run:=a.g.run,buf:=a.g.buf,recs:=(parseR a.g.buf 50 0).fst }/\a_10.y.b=a.y.b/\Fr a.H a.y a_10.H a_10.y/\a_10.at_<=a.g.buf.length/\a_10.at_=(parseR a.g.buf 50 0).snd)/\True)/\(decide (uw .i64 (getTo (fun (i:Nat)=>u8 a_5.rows i) a_5.len)<(1:Int))=false->(decide ((300:Int)<uw .i64 (getTo (fun (i:Nat)=>u8 a_5.rows i) a_5.len))=true->∃ a_11:RecsS,(↑a_2.at_:Int)=(↑a_11.at_:Int)/\pv a.y.b 0=pv a.y.b 0/\a_2.H=a_11.H/\(SegNd a_11.H a_11.y { gen:=a.g.gen,base:=a.g.base,run:=a.g.run,buf:=a.g.buf,recs:=(parseR a.g.buf 50 0).fst }/\a_11.y.b=a.y.b/\Fr a.H a.y a_11.H a_11.y/\a_11.at_<=a.g.buf.length/\a_11.at_=(parseR a.g.buf 50 0).snd)/\True)/\(decide ((300:Int)<uw .i64 (getTo (fun (i:Nat)=>u8 a_5.rows i) a_5.len))=false->∃ b o:Nat,pv a.y.b 0=pv b o/\∃ b_4 o_4:Nat,pv b o=pv b_4 o_4/\∃ b lo o:Nat,∃ cs:List Value,pv b_4 (o_4+3)=pv b (lo+o)/\a_2.H b=some (lo,cs)/\((∃ v:Value,cs[o]? = some v/\v.oneCell'=true)/\True)/\(∃ a:Option Go.Addr,∃ l c:Nat,cs.getD o (Value.tuple #[])=Value.slice a l c/\l<=lenMax)/\InR .i64 ((↑(slLen (cs.getD o (Value.tuple #[]))):Int) - (↑a_2.at_:Int))/\InR .i64 ((↑(slLen (cs.getD o (Value.tuple #[]))):Int) - (↑a_2.at_:Int) - 8)/\(decide ((↑(slLen (cs.getD o (Value.tuple #[]))):Int) - (↑a_2.at_:Int) - 8<uw .i64 (getTo (fun (i:Nat)=>u8 a_5.rows i) a_5.len))=true ->
 ∃ a_12:RecsS,(↑a_2.at_:Int)=(↑a_12.at_:Int)/\pv a.y.b 0=pv a.y.b 0/\a_2.H=a_12.H/\(SegNd a_12.H a_12.y { gen:=a.g.gen,base:=a.g.base,run:=a.g.run,buf:=a.g.buf,recs:=(parseR a.g.buf 50 0).fst }/\a_12.y.b=a.y.b/\Fr a.H a.y a_12.H a_12.y/\a_12.at_<=a.g.buf.length/\a_12.at_=(parseR a.g.buf 50 0).snd)/\True)/\(decide ((↑(slLen (cs.getD o (Value.tuple #[]))):Int) - (↑a_2.at_:Int) - 8<uw .i64 (getTo (fun (i:Nat)=>u8 a_5.rows i) a_5.len))=false->∃ b o:Nat,pv a.y.b 0=pv b o/\∃ b_5 o_5:Nat,pv b o=pv b_5 o_5/\∃ b lo o:Nat,∃ cs:List Value,pv b_5 (o_5+4)=pv b (lo+o)/\a_2.H b=some (lo,cs)/\((∃ v:Value,cs[o]? = some v/\v.oneCell'=true)/\True)/\∃ b o_6:Nat,pv a.y.b 0=pv b o_6/\∃ b_6 o_7:Nat,pv b o_6=pv b_6 o_7/\∃ b lo o_8:Nat,∃ cs_1:List Value,pv b_6 (o_7+3)=pv b (lo+o_8)/\a_2.H b=some (lo,cs_1)/\((∃ v:Value,cs_1[o_8]? = some v/\v.oneCell'=true)/\True)/\InR .i64 ((↑a_2.at_:Int)+8)/\InR .i64 ((↑a_2.at_:Int)+8)/\InR .i64 ((↑a_2.at_:Int)+8+uw .i64 (getTo (fun (i:Nat)=>u8 a_5.rows i) a_5.len))/\okSl (cs_1.getD o_8 (Value.tuple #[]))/\(0<=(↑a_2.at_:Int)+8+uw .i64 (getTo (fun (i:Nat)=>u8 a_5.rows i) a_5.len)/\(↑a_2.at_:Int)+8+uw .i64 (getTo (fun (i:Nat)=>u8 a_5.rows i) a_5.len)<=(↑(slCap (cs_1.getD o_8 (Value.tuple #[]))):Int))/\(0<=(↑a_2.at_:Int)+8/\(↑a_2.at_:Int)+8<=(↑((↑a_2.at_:Int)+8+uw .i64 (getTo (fun (i:Nat)=>u8 a_5.rows i) a_5.len)).toNat:Int)) /\
 (∃ a:Option Go.Addr,∃ l c:Nat,slcut 1 (cs_1.getD o_8 (Value.tuple #[])) ((↑a_2.at_:Int)+8).toNat ((↑a_2.at_:Int)+8+uw .i64 (getTo (fun (i:Nat)=>u8 a_5.rows i) a_5.len)).toNat (slCap (cs_1.getD o_8 (Value.tuple #[])))=Value.slice a l c)/\(nilS (slcut 1 (cs_1.getD o_8 (Value.tuple #[])) ((↑a_2.at_:Int)+8).toNat ((↑a_2.at_:Int)+8+uw .i64 (getTo (fun (i:Nat)=>u8 a_5.rows i) a_5.len)).toNat (slCap (cs_1.getD o_8 (Value.tuple #[]))))=true->∃ l c:Nat,∃ rows:Nat->Nat->Value,slAt a_2.H (cs.getD o (Value.tuple #[])) [CK.int IntKind.i64,CK.deep] l c rows/\0+l<=l/\1<=1/\(l+1)*32<=140737488355328/\∀ cap:Nat,l+1<=cap->cap<=lenMax->(l+1<=c->cap=c)->(cap≠0/\0+(l+1)<=l+1)/\∀ (b lo:Nat) (cs_2:List Value),pminusV a_2.H (cs.getD o (Value.tuple #[])) b=none->cs_2.length=cap*2->(PRows cs_2 0 [CK.int IntKind.i64,CK.deep] (l+1) fun (i j:Nat)=>appRows rows 0 l (fun (i j:Nat)=>flatRows 2 [Value.int IntKind.i64 (uw .i64 (getTo (fun (i:Nat)=>u8 a_7.rows i) a_7.len)),Value.slice none 0 0] (0+i) j) (0+i) j)->∃ b_7 o_9:Nat,pv a.y.b 0=pv b_7 o_9/\∃ b_8 o_10:Nat,pv b_7 o_9=pv b_8 o_10/\∃ b_9 lo_1 o_11:Nat,∃ cs_3:List Value,pv b_8 (o_10+4)=pv b_9 (lo_1+o_11)/\pupd (pminusV a_2.H (cs.getD o (Value.tuple #[]))) b lo cs_2 b_9=some (lo_1,cs_3)/\o_11+[A.val (slv b lo (l+1) cap)].length<=cs_3.length/\InR .i64 ((8:Int)+uw .i64 (getTo (fun (i:Nat)=>u8 a_5.rows i) a_5.len)) /\
 InR .i64 ((↑a_2.at_:Int)+((8:Int)+uw .i64 (getTo (fun (i:Nat)=>u8 a_5.rows i) a_5.len)))/\∃ (a':RecsS),(↑a_2.at_:Int)+((8:Int)+uw .i64 (getTo (fun (i:Nat)=>u8 a_5.rows i) a_5.len))=(↑a'.at_:Int)/\pv a.y.b 0=pv a.y.b 0/\pupd (pupd (pminusV a_2.H (cs.getD o (Value.tuple #[]))) b lo cs_2) b_9 lo_1 (List.take o_11 cs_3++[Value.slice (some { block:=b,off:=lo }) (l+1) cap]++List.drop (o_11+[Value.slice (some { block:=b,off:=lo }) (l+1) cap].length) cs_3)=a'.H/\(SegNd a'.H a'.y { gen:=a.g.gen,base:=a.g.base,run:=a.g.run,buf:=a.g.buf,recs:=a'.rs }/\a'.y.b=a.y.b/\Fr a.H a.y a'.H a'.y/\a'.at_<=a.g.buf.length/\a.g.buf.length<a'.at_+9*a'.k/\a'.rs++(parseR a.g.buf a'.k a'.at_).fst=(parseR a.g.buf 50 0).fst/\(parseR a.g.buf a'.k a'.at_).snd=(parseR a.g.buf 50 0).snd/\a'.rs.length*9<=a'.at_)/\a.g.buf.length - a'.at_<a.g.buf.length - a_2.at_)/\(nilS (slcut 1 (cs_1.getD o_8 (Value.tuple #[])) ((↑a_2.at_:Int)+8).toNat ((↑a_2.at_:Int)+8+uw .i64 (getTo (fun (i:Nat)=>u8 a_5.rows i) a_5.len)).toNat (slCap (cs_1.getD o_8 (Value.tuple #[]))))=false->0<=0/\∃ l c:Nat,∃ rows:Nat->Nat->Value,slAt a_2.H (slcut 1 (cs_1.getD o_8 (Value.tuple #[])) ((↑a_2.at_:Int)+8).toNat ((↑a_2.at_:Int)+8+uw .i64 (getTo (fun (i:Nat)=>u8 a_5.rows i) a_5.len)).toNat (slCap (cs_1.getD o_8 (Value.tuple #[])))) [CK.int IntKind.u8] l c rows/\(0+l)*1<=140737488355328/\∀ cap:Nat,0+l<=cap ->
 cap<=lenMax->(0+l<=0->cap=0)->(cap≠0/\0+(0+l)<=0+l)/\∀ (b lo:Nat) (cs_2:List Value),a_2.H b=none->cs_2.length=cap*1->(PRows cs_2 0 [CK.int IntKind.u8] (0+l) fun (i j:Nat)=>appRows (flatRows 1 []) 0 0 rows (0+i) j)->∃ l_1 c:Nat,∃ rows:Nat->Nat->Value,slAt (pupd a_2.H b lo cs_2) (cs.getD o (Value.tuple #[])) [CK.int IntKind.i64,CK.deep] l_1 c rows/\0+l_1<=l_1/\(l_1+1)*32<=140737488355328/\∀ cap_1:Nat,l_1+1<=cap_1->cap_1<=lenMax->(l_1+1<=c->cap_1=c)->(cap_1≠0/\0+(l_1+1)<=l_1+1)/\∀ (b_7 lo_1:Nat) (cs_3:List Value),pminusV (pupd a_2.H b lo cs_2) (cs.getD o (Value.tuple #[])) b_7=none->cs_3.length=cap_1*2->(PRows cs_3 0 [CK.int IntKind.i64,CK.deep] (l_1+1) fun (i j:Nat)=>appRows rows 0 l_1 (rowsOfA [A.int IntKind.i64 (uw .i64 (getTo (fun (i:Nat)=>u8 a_7.rows i) a_7.len)),A.val (slv b lo (0+l) cap)] 2) (0+i) j)->∃ b_8 o_9:Nat,pv a.y.b 0=pv b_8 o_9/\∃ b_9 o_10:Nat,pv b_8 o_9=pv b_9 o_10/\∃ b_10 lo_2 o_11:Nat,∃ cs_4:List Value,pv b_9 (o_10+4)=pv b_10 (lo_2+o_11)/\pupd (pminusV (pupd a_2.H b lo cs_2) (cs.getD o (Value.tuple #[]))) b_7 lo_1 cs_3 b_10=some (lo_2,cs_4)/\o_11+[A.val (slv b_7 lo_1 (l_1+1) cap_1)].length<=cs_4.length/\InR .i64 ((8:Int)+uw .i64 (getTo (fun (i:Nat)=>u8 a_5.rows i) a_5.len))/\InR .i64 ((↑a_2.at_:Int)+((8:Int)+uw .i64 (getTo (fun (i:Nat)=>u8 a_5.rows i) a_5.len)))/\∃ (a':RecsS),(↑a_2.at_:Int)+((8:Int)+uw .i64 (getTo (fun (i:Nat)=>u8 a_5.rows i) a_5.len))=(↑a'.at_:Int) /\
 pv a.y.b 0=pv a.y.b 0/\pupd (pupd (pminusV (pupd a_2.H b lo cs_2) (cs.getD o (Value.tuple #[]))) b_7 lo_1 cs_3) b_10 lo_2 (List.take o_11 cs_4++[Value.slice (some { block:=b_7,off:=lo_1 }) (l_1+1) cap_1]++List.drop (o_11+[Value.slice (some { block:=b_7,off:=lo_1 }) (l_1+1) cap_1].length) cs_4)=a'.H/\(SegNd a'.H a'.y { gen:=a.g.gen,base:=a.g.base,run:=a.g.run,buf:=a.g.buf,recs:=a'.rs }/\a'.y.b=a.y.b/\Fr a.H a.y a'.H a'.y/\a'.at_<=a.g.buf.length/\a.g.buf.length<a'.at_+9*a'.k/\a'.rs++(parseR a.g.buf a'.k a'.at_).fst=(parseR a.g.buf 50 0).fst/\(parseR a.g.buf a'.k a'.at_).snd=(parseR a.g.buf 50 0).snd/\a'.rs.length*9<=a'.at_)/\a.g.buf.length - a'.at_<a.g.buf.length - a_2.at_)))))/\(decide (8<=(↑(slLen (cs.getD o (Value.tuple #[]))):Int) - (↑a_2.at_:Int))=false->∃ a_5:RecsS,(↑a_2.at_:Int)=(↑a_5.at_:Int)/\pv a.y.b 0=pv a.y.b 0/\a_2.H=a_5.H/\(SegNd a_5.H a_5.y { gen:=a.g.gen,base:=a.g.base,run:=a.g.run,buf:=a.g.buf,recs:=(parseR a.g.buf 50 0).fst }/\a_5.y.b=a.y.b/\Fr a.H a.y a_5.H a_5.y/\a_5.at_<=a.g.buf.length/\a_5.at_=(parseR a.g.buf 50 0).snd)/\True))/\∀ a_2:RecsS,SegNd a_2.H a_2.y { gen:=a.g.gen,base:=a.g.base,run:=a.g.run,buf:=a.g.buf,recs:=(parseR a.g.buf 50 0).fst }/\a_2.y.b=a.y.b/\Fr a.H a.y a_2.H a_2.y/\a_2.at_<=a.g.buf.length/\a_2.at_=(parseR a.g.buf 50 0).snd->∃ b o:Nat,pv a.y.b 0=pv b o/\∃ b_1 o_1:Nat,pv b o=pv b_1 o_1 /\
 ∃ b lo o:Nat,∃ cs:List Value,pv b_1 (o_1+3)=pv b (lo+o)/\a_2.H b=some (lo,cs)/\((∃ v:Value,cs[o]? = some v/\v.oneCell'=true)/\True)/\okSl (cs.getD o (Value.tuple #[]))/\(0<=(↑a_2.at_:Int)/\(↑a_2.at_:Int)<=(↑(slCap (cs.getD o (Value.tuple #[]))):Int))/\∃ b o_2:Nat,pv a.y.b 0=pv b o_2/\∃ b_2 o_3:Nat,pv b o_2=pv b_2 o_3/\∃ b lo o_4:Nat,∃ cs_1:List Value,pv b_2 (o_3+3)=pv b (lo+o_4)/\a_2.H b=some (lo,cs_1)/\o_4+[A.val (slcut 1 (cs.getD o (Value.tuple #[])) 0 (↑a_2.at_:Int).toNat (slCap (cs.getD o (Value.tuple #[]))))].length<=cs_1.length/\∃ b_3:TakeR,pupd a_2.H b lo (List.take o_4 cs_1++[slcut 1 (cs.getD o (Value.tuple #[])) 0 (↑a_2.at_:Int).toNat (slCap (cs.getD o (Value.tuple #[])))]++List.drop (o_4+[slcut 1 (cs.getD o (Value.tuple #[])) 0 (↑a_2.at_:Int).toNat (slCap (cs.getD o (Value.tuple #[])))].length) cs_1)=b_3.H/\(SegNd b_3.H b_3.y (recsM a.g)/\b_3.y.b=a.y.b/\Fr a.H a.y b_3.H b_3.y)/\True) (by kernel_rfl) (by
 rintro ⟨H,y,g⟩ ⟨hs,hlen,hnil⟩;dsimp only at *;refine ⟨⟨⟨⟨H,y,[],0,50⟩,?_⟩,?_⟩,?_⟩
 ·have hs':SegNd H y { g with recs:=[] }:=by rw [<- hnil];exact hs
  (repeat' apply And.intro)<;>first|with_reducible (first|rfl|trivial|assumption)|omega|with_reducible (first|exact RowsEq.refl _ _ _|exact Nat.le_refl _)|(dsimp only [List.length_cons,List.length_nil]<;>omega)|exact hs'|exact fun x _ hn=>⟨rfl,hn⟩|rfl|skip
 ·rintro ⟨X,Y,rs,at_,k⟩ ⟨hX,hb,hfr,h1,h2,h3,h4,h5⟩;dsimp only at *;have hcell:X y.b=some (0,segC { g with recs:=rs } Y.bv Y.rv):=by rw [<- hb];exact hX.at_.cell
  obtain ⟨b1,b2,b3,b4,⟨ba,bc,b5⟩,b6⟩:=hX.at_.buf.len;have b1:slLen Y.bv=g.buf.length:=b1;have b4:g.buf.length<=slCap Y.bv:=b4;have hbuf:BytesAt X Y.bv g.buf:=hX.at_.buf;have pstop:recOk g.buf at_=false->rs=(parseR g.buf 50 0).1/\at_=(parseR g.buf 50 0).2:=fun hR=>by
   have:parseR g.buf k at_=([],at_):=by
    cases k with
    | zero=>rfl
    | succ k=>unfold parseR;rw [hR];rfl
   rw [this] at h3 h4;exact ⟨by simpa using h3,h4⟩
  have e3:(segC { g with recs:=rs } Y.bv Y.rv).getD 3 (Value.tuple #[])=Y.bv:=rfl;have e4:(segC { g with recs:=rs } Y.bv Y.rv).getD 4 (Value.tuple #[])=Y.rv:=rfl;have eN:getTo (fun i=>u8 (fun i=>encRows encB g.buf (at_+i)) i) 2=getTo (fun k=>gl g.buf (at_+k)) 2:=rfl;have eP:getTo (fun i=>u8 (fun i=>encRows encB g.buf (at_+2+i)) i) 6=getTo (fun k=>gl g.buf (at_+2+k)) 6:=rfl;refine ⟨_,_,rfl,?_⟩;refine ⟨_,_,rfl,?_⟩;refine ⟨_,0,_,_,rfl,hcell,?_⟩;refine ⟨⟨⟨_,rfl,b6⟩,trivial⟩,⟨ba,_,bc,b5,b3⟩,?_⟩;simp only [e3,b1];refine ⟨by simp only [InR];omega,fun c1=>?_,fun c1=>?_⟩
  ·have c1:at_+8<=g.buf.length:=by have:=of_decide_eq_true c1;omega
   have w1:((at_:Int)+2).toNat=at_+2:=by omega
   have w2:((at_:Int)+8).toNat=at_+8:=by omega
   have cut1:=hbuf.cut (a:=at_) (e:=at_+2) (by omega) (by omega);rw [show at_+2 - at_=2 by omega] at cut1;have cut2:=hbuf.cut (a:=at_+2) (e:=at_+8) (by omega) (by omega);rw [show at_+8 - (at_+2)=6 by omega] at cut2;refine ⟨_,_,rfl,?_⟩;refine ⟨_,_,rfl,?_⟩;refine ⟨_,0,_,_,rfl,hcell,?_⟩;refine ⟨⟨⟨_,rfl,b6⟩,trivial⟩,?_⟩;simp only [e3,w1,Int.toNat_natCast]
   repeat (first|refine And.intro (by omega) ?_|refine And.intro (by dsimp only;omega) ?_|refine And.intro (by simp only [InR];omega) ?_)
   refine ⟨GetVA.mk X (slcut 1 Y.bv at_ (at_+2) (slCap Y.bv)) 2 (slCap Y.bv - at_) (fun i=>encRows encB g.buf (at_+i)),rfl,rfl,⟨cut1,by show 2<=8;omega⟩,fun _ _=>?_⟩;dsimp only;refine ⟨_,_,rfl,?_⟩;refine ⟨_,_,rfl,?_⟩;refine ⟨_,0,_,_,rfl,hcell,?_⟩;refine ⟨⟨⟨_,rfl,b6⟩,trivial⟩,?_⟩;simp only [e3,w1,w2,eN]
   repeat (first|refine And.intro (by omega) ?_|refine And.intro (by dsimp only;omega) ?_|refine And.intro (by simp only [InR];omega) ?_)
   refine ⟨GetVA.mk X (slcut 1 Y.bv (at_+2) (at_+8) (slCap Y.bv)) 6 (slCap Y.bv - (at_+2)) (fun i=>encRows encB g.buf (at_+2+i)),rfl,rfl,⟨cut2,by show 6<=8;omega⟩,fun _ _=>?_⟩;dsimp only;simp only [eP];rw [show uw .i64 (getTo (fun k=>gl g.buf (at_+k)) 2)=recN g.buf at_ from rfl,show uw .i64 (getTo (fun k=>gl g.buf (at_+2+k)) 6)=recP g.buf at_ from rfl];obtain ⟨N,hN⟩:∃ N,N=recN g.buf at_:=⟨_,rfl⟩
   rw [<- hN];have hNr:InR .i64 N:=by rw [hN];exact InR_uw _ _
   refine ⟨fun c2=>?_,fun c2=>⟨fun c3=>?_,fun c3=>?_⟩⟩
   ·have c2:=of_decide_eq_true c2;refine ⟨RecsS.mk X Y rs at_ 0,?_⟩;have hR:recOk g.buf at_=false:=by unfold recOk;rw [<- hN,show decide (1<=N)=false from decide_eq_false (by omega)];simp
    obtain ⟨hp1,hp2⟩:=pstop hR
    (repeat' apply And.intro)<;>first|with_reducible (first|rfl|trivial|assumption)|omega|with_reducible (first|exact RowsEq.refl _ _ _|exact Nat.le_refl _)|(dsimp only [List.length_cons,List.length_nil]<;>omega)|(rw [<- hp1];exact hX)|exact hfr|exact hb|exact hp2
   ·have c3:=of_decide_eq_true c3;refine ⟨RecsS.mk X Y rs at_ 0,?_⟩;have hR:recOk g.buf at_=false:=by unfold recOk;rw [<- hN,show decide (N<=300)=false from decide_eq_false (by omega)];simp
    obtain ⟨hp1,hp2⟩:=pstop hR
    (repeat' apply And.intro)<;>first|with_reducible (first|rfl|trivial|assumption)|omega|with_reducible (first|exact RowsEq.refl _ _ _|exact Nat.le_refl _)|(dsimp only [List.length_cons,List.length_nil]<;>omega)|(rw [<- hp1];exact hX)|exact hfr|exact hb|exact hp2
   ·have c2:=of_decide_eq_false c2;have c3:=of_decide_eq_false c3;refine ⟨_,_,rfl,?_⟩;refine ⟨_,_,rfl,?_⟩;refine ⟨_,0,_,_,rfl,hcell,?_⟩;refine ⟨⟨⟨_,rfl,b6⟩,trivial⟩,⟨ba,_,bc,b5,b3⟩,?_⟩;simp only [e3,b1]
    repeat (first|refine And.intro (by omega) ?_|refine And.intro (by dsimp only;omega) ?_|refine And.intro (by simp only [InR];omega) ?_)
    refine ⟨fun c4=>?_,fun c4=>?_⟩
    ·have c4:=of_decide_eq_true c4;refine ⟨RecsS.mk X Y rs at_ 0,?_⟩;have hR:recOk g.buf at_=false:=by unfold recOk;rw [<- hN,show decide ((at_:Int)+8+N<=g.buf.length)=false from decide_eq_false (by omega)];simp
     obtain ⟨hp1,hp2⟩:=pstop hR
     (repeat' apply And.intro)<;>first|with_reducible (first|rfl|trivial|assumption)|omega|with_reducible (first|exact RowsEq.refl _ _ _|exact Nat.le_refl _)|(dsimp only [List.length_cons,List.length_nil]<;>omega)|(rw [<- hp1];exact hX)|exact hfr|exact hb|exact hp2
    ·have c4:=of_decide_eq_false c4;have hR:recOk g.buf at_=true:=by
      unfold recOk;rw [<- hN];simp only [Bool.and_eq_true,decide_eq_true_eq];omega
     obtain ⟨nn,rfl⟩:∃ nn:Nat,N=nn:=⟨N.toNat,by omega⟩
     have w3:((at_:Int)+8+nn).toNat=at_+8+nn:=by omega
     obtain ⟨c9,hrec⟩:=hX.at_.recs;have hrec:slAt X Y.rv ksRec rs.length c9 (recR rs Y.vs):=hrec;obtain ⟨m1,m2,m3,m4,m5,_,m6⟩:=slAt_len hrec;have cut3:=hbuf.cut (a:=at_+8) (e:=at_+8+nn) (by omega) (by omega);rw [show at_+8+nn - (at_+8)=nn by omega] at cut3;obtain ⟨_,_,_,_,_,⟨za,zs⟩,_⟩:=slAt_len cut3;have hnz:nilS (slcut 1 Y.bv (at_+8) (at_+8+nn) (slCap Y.bv))=false:=by
      rcases cut3 with ⟨_,h0,_⟩ | ⟨b9,lo9,o9,cs9,h9,_⟩
      ·omega
      ·rw [h9];rfl
     refine ⟨_,_,rfl,?_⟩;refine ⟨_,_,rfl,?_⟩;refine ⟨_,0,_,_,rfl,hcell,?_⟩;refine ⟨⟨⟨_,rfl,m6⟩,trivial⟩,?_⟩;refine ⟨_,_,rfl,?_⟩;refine ⟨_,_,rfl,?_⟩;refine ⟨_,0,_,_,rfl,hcell,?_⟩;refine ⟨⟨⟨_,rfl,b6⟩,trivial⟩,?_⟩;simp only [e3,e4,w2,w3]
     repeat (first|refine And.intro (by omega) ?_|refine And.intro (by dsimp only;omega) ?_|refine And.intro (by simp only [InR];omega) ?_)
     refine ⟨⟨za,_,_,zs⟩,fun c5=>absurd c5 (by rw [hnz];decide),fun _=>?_⟩
     repeat (first|refine And.intro (by omega) ?_|refine And.intro (by dsimp only;omega) ?_|refine And.intro (by simp only [InR];omega) ?_)
     refine ⟨_,_,_,cut3,?_⟩;simp only [Nat.zero_add]
     repeat (first|refine And.intro (by omega) ?_|refine And.intro (by dsimp only;omega) ?_|refine And.intro (by simp only [InR];omega) ?_)
     intro cap3 u1 u2 u3
     repeat (first|refine And.intro (by omega) ?_|refine And.intro (by dsimp only;omega) ?_|refine And.intro (by simp only [InR];omega) ?_)
     intro p3 lo3 cs3 hp3 hl3 hr3;obtain ⟨r,hr⟩:∃ r,r=recAt g.buf at_:=⟨_,rfl⟩
     have hrb:r.body.length=nn:=by
      rw [hr];simp only [recAt,<- hN];simp;omega
     have hC:Step X (.slice none 0 0) (pupd X p3 lo3 cs3) (slv p3 lo3 nn cap3):=new_step hp3;have hCb:BytesAt (pupd X p3 lo3 cs3) (slv p3 lo3 nn cap3) r.body:=by
      refine ⟨cap3,?_⟩;rw [hrb];refine slAt_new hl3 u1 u2 hr3 fun i hi j hj=>?_;have hj0:j=0:=by simpa using hj
      subst hj0;simp only [appRows,Nat.not_lt_zero,if_false,Nat.sub_zero,encRows,encB,List.getD_cons_zero];have:gl r.body i=gl g.buf (at_+8+i):=by
       rw [hr];simp only [recAt,<- hN,gl];rw [List.getD_eq_getElem?_getD,List.getElem?_take_of_lt (by simpa using hi),List.getElem?_drop,List.getD_eq_getElem?_getD]
      rw [this]
     have hx3:∀ x,X x≠none->x≠p3:=fun x hx e=>hx (by rw [e];exact hp3);have hrec4:slAt (pupd X p3 lo3 cs3) Y.rv ksRec rs.length c9 (recR rs Y.vs):=slAt_frame hrec fun x hx=>pupd_ne (hx3 x (slAt_dom hrec x hx));refine ⟨_,c9,_,hrec4,?_⟩
     repeat (first|refine And.intro (by omega) ?_|refine And.intro (by dsimp only;omega) ?_|refine And.intro (by simp only [InR];omega) ?_)
     intro cap4 v1 v2 v3
     repeat (first|refine And.intro (by omega) ?_|refine And.intro (by dsimp only;omega) ?_|refine And.intro (by simp only [InR];omega) ?_)
     intro p4 lo4 cs4 hp4 hl4 hr4;have hD:Step (pupd X p3 lo3 cs3) Y.rv (pupd (pminusV (pupd X p3 lo3 cs3) Y.rv) p4 lo4 cs4) (slv p4 lo4 (rs.length+1) cap4):=app_step hp4;have hvl:Y.vs.length=rs.length:=hX.at_.len;have hr5:slAt (pupd (pminusV (pupd X p3 lo3 cs3) Y.rv) p4 lo4 cs4) (slv p4 lo4 (rs.length+1) cap4) ksRec (rs.length+1) cap4 (recR (rs++[r]) (Y.vs++[slv p3 lo3 nn cap3])):=by
      refine slAt_new hl4 v1 v2 hr4 fun i hi j hj=>?_;simp only [appRows,recR,Nat.zero_add];by_cases hin:i<rs.length
      ·rw [if_pos hin,gl_append_left hin];by_cases hj0:j=0
       ·rw [if_pos hj0,if_pos hj0]
       ·rw [if_neg hj0,if_neg hj0,List.getD_eq_getElem?_getD,List.getD_eq_getElem?_getD,List.getElem?_append_left (by omega)]
      ·rw [if_neg hin];obtain rfl:i=rs.length:=by omega
       rw [Nat.sub_self];have hj2:j<2:=hj
       match j,hj2 with
       | 0,_=>rw [if_pos rfl,show rs.length=rs.length+0 from rfl,gl_append_right,hr];rfl
       | 1,_=>rw [if_neg (by decide),List.getD_eq_getElem?_getD,List.getElem?_append_right (by omega),hvl,Nat.sub_self];rfl
     obtain ⟨hcell4,hcell5,hnd6,hfr6⟩:=seg_setrecs (r:=r) hX hC hCb hD (fun x hx=>by
      simp only [fpV,slv,List.mem_singleton] at hx;rw [hx,pupd_self];simp) ⟨cap4,hr5⟩
     have hpk:∃ k',k=k'+1:=by
      cases k with
      | zero=>omega
      | succ k=>exact ⟨k,rfl⟩
     obtain ⟨k',rfl⟩:=hpk;have hps:parseR g.buf (k'+1) at_=(r::(parseR g.buf k' (at_+8+nn)).1,(parseR g.buf k' (at_+8+nn)).2):=by
      have e:(recN g.buf at_).toNat=nn:=by rw [<- hN];rfl
      rw [hr];show (if recOk g.buf at_=true then _ else _)=_;rw [if_pos hR,e]
     rw [hps] at h3 h4;refine ⟨_,_,rfl,?_⟩;refine ⟨_,_,rfl,?_⟩;refine ⟨_,0,_,_,rfl,by rw [<- hb];exact hcell5,by simp [segC],?_⟩
     repeat (first|refine And.intro (by omega) ?_|refine And.intro (by dsimp only;omega) ?_|refine And.intro (by simp only [InR];omega) ?_)
     refine ⟨⟨pupd (pupd (pminusV (pupd X p3 lo3 cs3) Y.rv) p4 lo4 cs4) Y.b 0 (segC { g with recs:=rs++[r] } Y.bv (slv p4 lo4 (rs.length+1) cap4)),⟨Y.b,Y.bv,slv p4 lo4 (rs.length+1) cap4,Y.vs++[slv p3 lo3 nn cap3]⟩,rs++[r],at_+8+nn,k'⟩,?_⟩;have hnd7:SegNd (pupd (pupd (pminusV (pupd X p3 lo3 cs3) Y.rv) p4 lo4 cs4) Y.b 0 (segC { g with recs:=rs++[r] } Y.bv (slv p4 lo4 (rs.length+1) cap4))) ⟨Y.b,Y.bv,slv p4 lo4 (rs.length+1) cap4,Y.vs++[slv p3 lo3 nn cap3]⟩ { g with recs:=rs++[r] }:=hnd6;have h3':rs++[r]++(parseR g.buf k' (at_+8+nn)).1=(parseR g.buf 50 0).1:=by rw [<- h3,List.append_assoc];rfl
     dsimp only
     (repeat' apply And.intro)<;>first|with_reducible (first|rfl|trivial|assumption)|omega|with_reducible (first|exact RowsEq.refl _ _ _|exact Nat.le_refl _)|(dsimp only [List.length_cons,List.length_nil]<;>omega)|exact hnd7|exact hb|exact hfr.trans hfr6|exact h3'|exact h4|(rw [<- hb];rfl)|(rw [List.length_append,List.length_singleton];omega)|skip
  ·have c1:=of_decide_eq_false c1;refine ⟨RecsS.mk X Y rs at_ 0,?_⟩;have hR:recOk g.buf at_=false:=by unfold recOk;rw [show decide (at_+8<=g.buf.length)=false from decide_eq_false (by omega)];rfl
   obtain ⟨hp1,hp2⟩:=pstop hR
   (repeat' apply And.intro)<;>first|with_reducible (first|rfl|trivial|assumption)|omega|with_reducible (first|exact RowsEq.refl _ _ _|exact Nat.le_refl _)|(dsimp only [List.length_cons,List.length_nil]<;>omega)|(rw [<- hp1];exact hX)|exact hfr|exact hb|exact hp2
 ·rintro ⟨X,Y,rs,at_,k⟩ ⟨hX,hb,hfr,h1,h2⟩;dsimp only at *;have hcell:X y.b=some (0,segC { g with recs:=(parseR g.buf 50 0).1 } Y.bv Y.rv):=by rw [<- hb];exact hX.at_.cell
  obtain ⟨b1,b2,b3,b4,⟨ba,bc,b5⟩,b6⟩:=hX.at_.buf.len;have b1:slLen Y.bv=g.buf.length:=b1;have b4:g.buf.length<=slCap Y.bv:=b4;have hbuf:BytesAt X Y.bv g.buf:=hX.at_.buf;have e3:(segC { g with recs:=(parseR g.buf 50 0).1 } Y.bv Y.rv).getD 3 (Value.tuple #[])=Y.bv:=rfl;refine ⟨_,_,rfl,?_⟩;refine ⟨_,_,rfl,?_⟩;refine ⟨_,0,_,_,rfl,hcell,?_⟩;refine ⟨⟨⟨_,rfl,b6⟩,trivial⟩,?_⟩;simp only [e3,Int.toNat_natCast]
  repeat (first|refine And.intro (by omega) ?_|refine And.intro (by dsimp only;omega) ?_|refine And.intro (by simp only [InR];omega) ?_)
  have hcut:=hbuf.cut (a:=0) (e:=at_) (by omega) h1;have hfpc:fpV (slcut 1 Y.bv 0 at_ (slCap Y.bv))=fpV Y.bv:=by
   obtain ⟨c,hb⟩:=hbuf;rcases hb with ⟨h0,_⟩ | ⟨b9,lo9,o9,cs9,h9,_⟩
   ·rw [h0];rfl
   ·rw [h9,slcut_zero];rfl
  have hst:Step X Y.bv X (slcut 1 Y.bv 0 at_ (slCap Y.bv)):=fun x hx hn=>⟨rfl,by rw [hfpc];exact hn⟩
  have hby:BytesAt X (slcut 1 Y.bv 0 at_ (slCap Y.bv)) (g.buf.take at_):=by
   refine ⟨slCap Y.bv - 0,?_⟩;rw [show (g.buf.take at_).length=at_ - 0 by simp;omega];rcases hcut with h0 | ⟨b9,lo9,o9,cs9,g1,g2,g3,g4,g5⟩
   ·exact .inl h0
   ·refine .inr ⟨b9,lo9,o9,cs9,g1,g2,g3,g4,⟨fun i hi j q hj=>?_⟩⟩;have:=g5.at_ i hi j q hj;have e:encRows encB g.buf (0+i) j=encRows encB (g.buf.take at_) i j:=by
     unfold encRows;rw [Nat.zero_add,gl_take (by omega)]
    rwa [e] at this
  obtain ⟨hc2,hs3,hf3⟩:=seg_setbuf hX hst hby;refine ⟨_,_,rfl,?_⟩;refine ⟨_,_,rfl,?_⟩;refine ⟨_,0,_,_,rfl,hcell,by simp [segC],?_⟩;refine ⟨⟨pupd X Y.b 0 (segC { g with recs:=(parseR g.buf 50 0).1,buf:=g.buf.take at_ } (slcut 1 Y.bv 0 at_ (slCap Y.bv)) Y.rv),{ Y with bv:=slcut 1 Y.bv 0 at_ (slCap Y.bv) }⟩,?_⟩;have hM:recsM g={ g with recs:=(parseR g.buf 50 0).1,buf:=g.buf.take at_ }:=by unfold recsM;rw [<- h2]
  rw [hM];refine And.intro (by rw [<- hb];rfl) (And.intro ⟨hs3,hb,hfr.trans hf3⟩ trivial))
theorem callRecords:CallsBy (Y Tryz.prog).G.X 123 cRecords:=fn_ok okY (tab:=[(121,cGetV)]) ⟨callGetV,trivial⟩ bodyRecords
end Go.Proofs.YtfhkbihcfmbbcaaGreat

namespace Go.Sx
section
def newPool (s:S) (K:S->Prop):Prop:=K ⟨s.nt,s.fr,⟨s.nx,true,.pool fun _=>none⟩::s.hp,s.nx+1,s.kp,s.rt⟩
theorem newPool_ok:∀ s K,newPool s K->ViewOk s K:=by
 intro s K h w0 M ρ a w hs;have hl:=ρ.le_ext ⟨0,0,0,fun _=>False⟩;have hn:=hs.n;have hpl:(ρ.ext ⟨0,0,0,fun _=>False⟩).pl s.nx=⟨0,0,0,fun _=>False⟩:=by rw [<- hn];exact ρ.ext_new _
 refine ⟨_,ρ.ext ⟨0,0,0,fun _=>False⟩,h,hl,⟨hs.defers,hs.size,by show ρ.n+1=s.nx+1;rw [hn],hs.frame.mono hl,?_⟩⟩;refine (hs.heap.mono hl).cons (e:=⟨s.nx,true,.pool fun _=>none⟩) ⟨by show s.nx<ρ.n+1;omega,?_,?_,?_⟩ fun x hx=>⟨?_,?_⟩
 ·intro b lo cs hb;cases hb
 ·rw [hpl];exact fun b hb=>hb.elim
 ·rw [hpl];exact fun _ b hb=>hb.elim
 ·have:=(hs.heap.ent x hx).tag;show s.nx≠x.tag;omega
 ·rw [hpl];exact fun _ b hb=>hb.elim
def An.newPool (key:Nat) (next:LH):An:=.view key Sx.newPool newPool_ok next
def A.no0:A->Bool
 | .ptr t _ _ _=>!Nat.beq t 0
 | .slc t _ _ _ _=>!Nat.beq t 0
 | .sub t _ _ _ _ _=>!Nat.beq t 0
 | _=>true
def CV.no0:CV->Bool
 | .a x=>x.no0
 | .agg xs=>xs.all A.no0
def SV.no0:SV->Bool
 | .a x=>x.no0
 | .agg xs=>xs.all A.no0
 | .tup xs=>xs.all CV.no0
 | .clo _ xs=>xs.all A.no0
def Chunk.no0:Chunk->Bool
 | .obj _ cs=>cs.all A.no0
 | _=>true
structure Off0 (ρ ρ':Env):Prop where
 n:ρ'.n=ρ.n
 pl:∀ t,t≠0->ρ'.pl t=ρ.pl t
theorem ne0 {t:Nat} (h:(!Nat.beq t 0)=true):t≠0:=by rintro rfl;simp at h
theorem A.Rep.off0 {ρ ρ':Env} (h:Off0 ρ ρ') {x:A} (hx:x.no0=true) {v:Value} (r:x.Rep ρ v):x.Rep ρ' v:=by
 cases x<;>simp only [A.Rep,A.no0] at r hx ⊢<;>try exact r
 case ptr t _ _ _=>rw [h.n,h.pl t (ne0 hx)];exact r
 case slc t _ _ _ _=>rw [h.n,h.pl t (ne0 hx)];exact r
 case sub t _ _ _ _ _=>rw [h.n,h.pl t (ne0 hx)];exact r
theorem RepL.off0 {ρ ρ':Env} (h:Off0 ρ ρ'):∀ {xs:List A} {vs:List Value},xs.all A.no0=true->RepL ρ xs vs->RepL ρ' xs vs
 | [],_,_,r=>r
 | x::xs,_,hx,⟨v,t,e,r1,r2⟩=>by
  simp only [List.all_cons,Bool.and_eq_true] at hx;exact ⟨v,t,e,r1.off0 h hx.1,RepL.off0 h hx.2 r2⟩
theorem CV.Rep.off0 {ρ ρ':Env} (h:Off0 ρ ρ'):∀ {x:CV} {v:Value},x.no0=true->x.Rep ρ v->x.Rep ρ' v
 | .a _,_,hx,r=>A.Rep.off0 h hx r
 | .agg _,_,hx,⟨vs,e,r⟩=>⟨vs,e,RepL.off0 h hx r⟩
theorem RepC.off0 {ρ ρ':Env} (h:Off0 ρ ρ'):∀ {xs:List CV} {vs:List Value},xs.all CV.no0=true->RepC ρ xs vs->RepC ρ' xs vs
 | [],_,_,r=>r
 | x::xs,_,hx,⟨v,t,e,r1,r2⟩=>by
  simp only [List.all_cons,Bool.and_eq_true] at hx;exact ⟨v,t,e,r1.off0 h hx.1,RepC.off0 h hx.2 r2⟩
theorem SV.Rep.off0 {ρ ρ':Env} (h:Off0 ρ ρ'):∀ {x:SV} {v:Value},x.no0=true->x.Rep ρ v->x.Rep ρ' v
 | .a _,_,hx,r=>A.Rep.off0 h hx r
 | .agg _,_,hx,⟨vs,e,r⟩=>⟨vs,e,RepL.off0 h hx r⟩
 | .tup _,_,hx,⟨vs,e,r⟩=>⟨vs,e,RepC.off0 h hx r⟩
 | .clo _ _,_,hx,⟨vs,e,r⟩=>⟨vs,e,RepL.off0 h hx r⟩
theorem Chunk.Sat.off0 {ρ ρ':Env} (h:Off0 ρ ρ') {p:Place} {w:World} {ch:Chunk} (hx:ch.no0=true) (r:ch.Sat ρ p w):ch.Sat ρ' p w:=by
 cases ch with
 | obj ty cs=>obtain ⟨vs,fr,h1,h2,⟨us,xs,h5,h3⟩,h4⟩:=r;exact ⟨vs,fr,h1,h2,⟨us,xs,h5,h3.off0 h hx⟩,h4⟩
 | arr ty ks n rows=>exact r
 | abs R=>exact r
 | pool H=>exact r
structure Sl1 where
 ty:Nat
 ks:List CK
 n:Nat
 cap:Nat
 rows:Nat->Nat->Value
structure V1 (α:Type) where
 a:α
 H:PH
 v:Value
def Con.val1 (C:Con) (sl:C.α->Sl1):Con where
 α:=V1 C.α
 β:=C.β
 m:=1
 m':=C.m'
 pre:=fun x=>C.pre x.a/\slAt x.H x.v (sl x.a).ks (sl x.a).n (sl x.a).cap (sl x.a).rows
 args:=fun x=>[.a (.val x.v)]
 hp:=fun _=>[]
 ro:=fun x=>[(0,.pool x.H)]
 post:=fun x b=>C.post x.a b
 res:=fun x b=>C.res x.a b
 hp':=fun x b=>C.hp' x.a b
structure Val1 (C:Con) (sl:C.α->Sl1):Prop where
 m:C.m=1
 hp:∀ a,C.hp a=[]
 ro:∀ a,C.ro a=[(0,.arr (sl a).ty (sl a).ks (sl a).n (sl a).rows)]
 args:∀ a,C.args a=[.a (.slc 0 0 (sl a).ks.length (sl a).n (sl a).cap)]
 res:∀ a b,(C.res a b).no0=true
 hp':∀ a b,∀ p∈C.hp' a b,p.1≠0/\p.2.no0=true
theorem val1_sem {X:Cx} {C:Con} {f:Nat} (hs:ConSem X C f) {sl:C.α->Sl1} (hv:Val1 C sl):ConSem X (C.val1 sl) f:=by
 rintro ⟨a,H,v⟩ ⟨hpre,hsl⟩ M ρ w vs hn hh hargs;obtain ⟨u,_,rfl,hu,rfl⟩:=hargs;obtain ⟨rfl,_⟩:=hu;have hps:=(hh.ent ⟨0,false,.pool H⟩ (by simp [wrs,ros,Con.val1])).ch;dsimp only at hpre hsl hps hn;obtain ⟨p,hp1,hp2,hp3⟩:∃ p:Place,(∀ (ρ':Env),0<ρ'.n->ρ'.pl 0=p->(A.slc 0 0 (sl a).ks.length (sl a).n (sl a).cap).Rep ρ' u)/\(∀ ρ',(Chunk.arr (sl a).ty (sl a).ks (sl a).n (sl a).rows).Sat ρ' p w)/\∀ b,p.fp b->b<w.heap.size:=by
  rcases hsl with ⟨rfl,h0,h1⟩ | ⟨b,lo,o,cs,rfl,⟨hlc,hcm⟩,hH,hfit,hrows⟩
  ·exact ⟨nilPlace,fun ρ' h _=>⟨h,by omega,by rw [h1];exact Nat.zero_le _,.inl ⟨h0,h1,rfl⟩⟩,fun ρ'=>.inl ⟨h0,rfl,fun b hb=>hb⟩,fun b hb=>hb.elim⟩
  ·obtain ⟨hfp,vs,vty,fr,hb,hvl,hvs,hun⟩:=hps b lo cs hH;refine ⟨⟨b,lo+o,(sl a).cap,fun x=>x=b⟩,fun ρ' h e=>⟨h,hlc,hcm,.inr ⟨_,rfl,fun _=>by rw [e];simp⟩⟩,fun ρ'=>.inr ⟨vs,vty,fr,hb,by simp only;omega,hlc,fun x h1 h2=>hun x (by simp only at h1;omega) (by simp only at h2;omega),fun _=>Iff.rfl,fun i hi j k hk=>?_⟩,fun x hx=>?_⟩
   ·obtain ⟨g1,g2⟩:=hrows.at_ i hi j k hk;refine ⟨?_,g2⟩;have hlt:o+i*(sl a).ks.length+j<cs.length:=(List.getElem?_eq_some_iff.1 g1).1;rw [<- g1,<- hvs _ hlt];congr 1;simp only;omega
   ·simp only at hx;subst hx;exact (Array.getElem?_eq_some_iff.1 hb).1
 have hpl:(⟨1,fun _=>p⟩:Env).pl 0=p:=rfl;refine (hs a hpre M ⟨1,fun _=>p⟩ w [u] (by rw [hv.m]) ?_ ?_).mono ?_
 ·rw [hv.hp,hv.ro];refine ⟨hh.keeps,fun e he=>?_,by simp [wrs,ros]⟩;have he:e=⟨0,false,.arr (sl a).ty (sl a).ks (sl a).n (sl a).rows⟩:=by simpa [wrs,ros] using he
  subst he;exact ⟨Nat.one_pos,hp2 _,hp3,fun h=>(by cases h)⟩
 ·rw [hv.args];exact ⟨u,[],rfl,hp1 _ Nat.one_pos rfl,rfl⟩
 ·rintro e w' ⟨r,rfl,o,ρ2,g1,g2,g3,g4,g5⟩;have hoff:Off0 ρ2 ⟨ρ2.n,fun t=>if t=0 then ρ.pl 0 else ρ2.pl t⟩:=⟨rfl,fun t ht=>if_neg ht⟩
  refine ⟨r,rfl,o,⟨ρ2.n,fun t=>if t=0 then ρ.pl 0 else ρ2.pl t⟩,g1,g2,fun T hT=>?_,g4.off0 hoff (hv.res a o),?_⟩
  ·have hT:T<1:=hT;have:T=0:=by omega
   subst this;rfl
  ·have hent:∀ e∈wrs (C.hp' a o),e.tag≠0/\e.ch.no0=true:=fun e he=>by
    obtain ⟨q,hq,rfl⟩:=List.mem_map.1 he;exact hv.hp' a o q hq
   refine ⟨g5.keeps,fun e he=>?_,g5.apart.imp_of_mem fun {x y} hx hy hxy=>?_⟩
   ·obtain ⟨h1,h2⟩:=hent e he;have he:=g5.ent e he;exact ⟨he.tag,by rw [hoff.pl _ h1];exact he.ch.off0 hoff h2,by rw [hoff.pl _ h1];exact he.lt,by rw [hoff.pl _ h1];exact he.own⟩
   ·refine ⟨hxy.1,?_⟩;rw [hoff.pl _ (hent x hx).1,hoff.pl _ (hent y hy).1];exact hxy.2
end
end Go.Sx

namespace Go.Proofs.YtfhkbihcfmbbcaaGreat
open Go.Sx
set_option maxRecDepth 100000
set_option linter.unusedVariables false
set_option linter.unusedSimpArgs false
structure RdS where
 g:SegM
 ok:Bool
 run:Int
def g0:SegM:=⟨0,0,0,[],[]⟩
def secF (L:LogM) (d:DevM) (k i:Nat):Nat->Int:=d.now (L.from_+k*8+i)
def rdStep (x:RdS) (i:Nat) (f:Nat->Int):RdS :=
 ⟨if !(x.ok&&takeB x.g i f)&&decide (i=0) then { (if x.ok then takeM x.g i f else x.g) with gen:=0 } else (if x.ok then takeM x.g i f else x.g),x.ok&&takeB x.g i f,max x.run (uw .i64 (gB f 10 4)+1)⟩
def rdTo (L:LogM) (d:DevM) (k:Nat):Nat->RdS
 | 0=>⟨g0,true,L.run⟩
 | i+1=>rdStep (rdTo L d k i) i (secF L d k i)
def segOf (L:LogM) (d:DevM) (k:Nat):Option SegM :=
 if (rdTo L d k 8).g.gen<1\/((rdTo L d k 8).g.gen - 1).tmod L.segs≠k then none else some (recsM (rdTo L d k 8).g)
structure RdOk (L:LogM) (d:DevM) (k:Nat):Prop where
 run:∀ i,i<8->0<=uw .i64 (gB (secF L d k i) 10 4)/\uw .i64 (gB (secF L d k i) 10 4)<100000000000
 used:∀ i,i<8->(rdTo L d k i).ok=true->takeB (rdTo L d k i).g i (secF L d k i)=true->0<secF L d k i 15
theorem takeM_recs (g:SegM) (i:Nat) (f:Nat->Int):(takeM g i f).recs=g.recs:=by
 have e:(takeG g i f).recs=g.recs:=by unfold takeG;split<;>rfl
 unfold takeM;split
 ·exact e
 ·exact e
theorem takeG_buf (g:SegM) (i:Nat) (f:Nat->Int):(takeG g i f).buf=g.buf:=by
 unfold takeG;split<;>rfl
theorem takeM_no {g:SegM} {i:Nat} {f:Nat->Int} (h:takeB g i f=false):takeM g i f=takeG g i f:=by
 unfold takeM;rw [h];rfl
theorem takeM_yes {g:SegM} {i:Nat} {f:Nat->Int} (h:takeB g i f=true):(takeM g i f).buf=g.buf++(List.range (f 15).toNat).map fun k=>f (offS i+k):=by
 unfold takeM;rw [if_pos h]
theorem takeB_out {g:SegM} {i:Nat} {f:Nat->Int} (h:takeB g i f=true):f 15<=roomS i/\g.buf.length=startS i:=by
 unfold takeB at h;simp only [Bool.and_eq_true,decide_eq_true_eq] at h;exact h.2.2.2.2
theorem takeM_len {g:SegM} {i:Nat} {f:Nat->Int} (h:g.buf.length<=startS i):(takeM g i f).buf.length<=startS (i+1):=by
 cases hB:takeB g i f with
 | false=>rw [takeM_no hB,takeG_buf];unfold startS at *;omega
 | true =>
  obtain ⟨h1,h2⟩:=takeB_out hB;rw [takeM_yes hB];simp only [List.length_append,List.length_map,List.length_range];unfold startS roomS at *;split at h1<;>omega
structure RdInv (L:LogM) (x:RdS) (i:Nat):Prop where
 recs:x.g.recs=[]
 buf:x.g.buf.length<=startS i
 run:0<=x.run/\x.run<200000000000
theorem rdTo_inv {L:LogM} {d:DevM} {k:Nat} (h:RdOk L d k) (h0:0<=L.run/\L.run<200000000000):∀ i,i<=8->RdInv L (rdTo L d k i) i
 | 0,_=>⟨rfl,by show [].length<=_;simp,h0⟩
 | i+1,hi=>by
  have ih:=rdTo_inv h h0 i (by omega);have hr:=h.run i (by omega);obtain ⟨g1,g2,g3⟩:=ih;have hb:(if (rdTo L d k i).ok then takeM (rdTo L d k i).g i (secF L d k i) else (rdTo L d k i).g).recs=[]/\(if (rdTo L d k i).ok then takeM (rdTo L d k i).g i (secF L d k i) else (rdTo L d k i).g).buf.length<=startS (i+1):=by
   split
   ·exact ⟨(takeM_recs _ _ _).trans g1,takeM_len g2⟩
   ·exact ⟨g1,by unfold startS at *;omega⟩
  show RdInv L (rdStep (rdTo L d k i) i (secF L d k i)) (i+1);unfold rdStep;refine ⟨?_,?_,by dsimp only;omega⟩
  ·dsimp only;split
   ·exact hb.1
   ·exact hb.1
  ·dsimp only;split
   ·exact hb.2
   ·exact hb.2
theorem SegNd.gen0 {X:PH} {y:SegL} {g:SegM} (h:SegNd X y g):SegNd (pupd X y.b 0 (segC { g with gen:=0 } y.bv y.rv)) y { g with gen:=0 }/\Fr X y (pupd X y.b 0 (segC { g with gen:=0 } y.bv y.rv)) y :=
 seg_setint h rfl rfl ⟨by simp only [InR];omega,h.at_.rng.2.1,h.at_.rng.2.2⟩
theorem g0_at (H:PH) (b:Nat):SegNd (pupd H b 0 [.int .i64 0,.int .i64 0,.int .i64 0,.slice none 0 0,.slice none 0 0]) (newL b) g0 :=
 ⟨⟨pupd_self ..,⟨by simp only [g0,InR];omega,by simp only [g0,InR];omega,by simp only [g0,InR];omega⟩,⟨0,.inl ⟨rfl,rfl,rfl⟩⟩,⟨0,.inl ⟨rfl,rfl,rfl⟩⟩,rfl,fun i hi=>absurd hi (Nat.not_lt_zero i)⟩,by simp [newL,fpSeg,fpV]⟩
structure RSegA where
 H:PH
 L:LogM
 lv:Value
 d:DevM
 k:Nat
structure RSegB where
 H:PH
 y:SegL
 v:Value
def rsPost (H:PH) (b:RSegB):Option SegM->Prop
 | none=>b.v = .pointer none/\∀ x,H x≠none->b.H x=H x
 | some g=>b.v=pv b.y.b 0/\SegNd b.H b.y g/\∀ x,H x≠none->b.H x=H x/\x∉fpSeg b.y
noncomputable def cReadS:Con where
 α:=RSegA
 β:=RSegB
 m:=4
 m':=5
 pre:=fun a=>a.k<a.L.segs/\3<=a.L.segs/\a.L.segs<=200/\a.L.from_+a.L.segs*8<=a.d.n/\a.d.n<100000/\0<=a.L.run/\a.L.run<200000000000/\RdOk a.L a.d a.k
 args:=fun a=>[.a (.ptr 0 0 0 0),.a (.int .i64 a.k)]
 hp:=fun a=>[(0,logObj 1 a.L a.lv),(3,.pool a.H)]
 ro:=fun a=>devHp 1 2 a.d
 post:=fun a b=>rsPost a.H b (segOf a.L a.d a.k)
 res:=fun _ b=>.a (.val b.v)
 hp':=fun a b=>[(0,logObj 1 { a.L with run:=(rdTo a.L a.d a.k 8).run } a.lv),(4,.pool b.H)]
structure RdL where
 i:Nat
 H:PH
 y:SegL
def iReadS (a:RSegA):An:=.flat 4 RdL (fun s x=>S.pool ((((s.at_ (s.tg 0) (logObj (s.in_ (s.tg 0) 0) { a.L with run:=(rdTo a.L a.d a.k x.i).run } a.lv)).set 5 (.a (.val (pv x.y.b 0)))).set 6 (.a (.bool (rdTo a.L a.d a.k x.i).ok))).int 12 x.i) x.H)
 (fun _ x=>x.i<=8/\SegNd x.H x.y (rdTo a.L a.d a.k x.i).g/\∀ z,a.H z≠none->x.H z=a.H z/\z∉fpSeg x.y) (fun _ x=>8 - x.i)
def vReadS (a:RSegA):An:=.absSlot 3 5 (.mk 1000 [iReadS a] [])
set_option maxHeartbeats 4000000 in
theorem bodyReadS:fnBody (Y Tryz.prog) [(89,cDevRead),(121,cGet),(122,cTake),(123,cRecords)] 102 cReadS fun a=>[(102,[],[vReadS a])]:=fnBody.of (p :=
 ∀ a:RSegA,a.k<a.L.segs/\3<=a.L.segs/\a.L.segs<=200/\a.L.from_+a.L.segs*8<=a.d.n/\a.d.n<100000/\(0:Int)<=a.L.run/\a.L.run<(200000000000:Int)/\RdOk a.L a.d a.k->∀ b:Nat,a.H b=none->(∃ a_3:RdL,0=(↑a_3.i:Int)/\true=(rdTo a.L a.d a.k a_3.i).ok/\pv b 0=pv a_3.y.b 0/\0=0/\(↑a.k:Int)=(↑a.k:Int)/\pupd a.H b 0 [Value.int IntKind.i64 (0:Int),Value.int IntKind.i64 (0:Int),Value.int IntKind.i64 (0:Int),Value.slice none 0 0,Value.slice none 0 0]=a_3.H/\0=0/\(↑a.L.from_:Int)=(↑a.L.from_:Int)/\(↑a.L.segs:Int)=(↑a.L.segs:Int)/\a.lv=a.lv/\a.L.next=a.L.next/\a.L.run=(rdTo a.L a.d a.k a_3.i).run/\a.L.fresh=a.L.fresh/\devQ a.d a.d ((a_3.i<=8/\SegNd a_3.H a_3.y (rdTo a.L a.d a.k a_3.i).g/\∀ z:Nat,a.H z≠none->a_3.H z=a.H z/\¬z∈fpSeg a_3.y)/\True))/\∀ a_3:RdL,(a_3.i<=8/\SegNd a_3.H a_3.y (rdTo a.L a.d a.k a_3.i).g/\∀ z:Nat,a.H z≠none->a_3.H z=a.H z/\¬z∈fpSeg a_3.y)->(decide ((↑a_3.i:Int)<8)=true->InR .i64 (↑a.L.from_:Int)->InR .i64 ((↑a.k:Int)*8)/\InR .i64 ((↑a.L.from_:Int)+(↑a.k:Int)*8)/\InR .i64 ((↑a.L.from_:Int)+(↑a.k:Int)*8+(↑a_3.i:Int))/\∃ a_7:RdA,0=0/\(↑a.L.from_:Int)+(↑a.k:Int)*8+(↑a_3.i:Int)=(↑a_7.i:Int)/\devQ a.d a_7.d ((a_7.i<a_7.d.n/\a_7.d.n<100000)/\∀ b:Nat,64<=b->InR .i64 (rdTo a.L a.d a.k a_3.i).run->((0:Int)<=14/\14<=(↑b:Int))/\((0:Int)<=10/\(10:Int)<=14)/\∃ a_10:GetA,(10=a_10.r /\
 4=a_10.len/\b - 10=a_10.cap)/\(a_10.n<=64/\RowsEq a_10.n 1 (rowsB (a_7.d.now a_7.i)) a_10.rows)/\(a_10.r+a_10.len<=a_10.n/\a_10.len<=8)/\∀ b_1:Unit,True->InR .i64 (uw .i64 (getTo (fun (i:Nat)=>u8 a_10.rows (a_10.r+i)) a_10.len)+(1:Int))/\((rdTo a.L a.d a.k a_3.i).ok=true->∃ a_13:TakeA,pv a_3.y.b 0=pv a_13.y.b 0/\(↑a_3.i:Int)=(↑a_13.i:Int)/\(0=0/\64=64/\b=a_13.cap)/\a_3.H=a_13.H/\(64<=64/\RowsEq 64 1 (rowsB (a_7.d.now a_7.i)) (rowsB a_13.f))/\(SegNd a_13.H a_13.y a_13.g/\a_13.i<8/\a_13.g.buf.length<=378/\64<=a_13.cap/\(takeB a_13.g a_13.i a_13.f=true->(0:Int)<a_13.f 15))/\∀ b:TakeR,SegNd b.H b.y (takeM a_13.g a_13.i a_13.f)/\b.y.b=a_13.y.b/\b.y.rv=a_13.y.rv/\Fr a_13.H a_13.y b.H b.y->((!takeB a_13.g a_13.i a_13.f)=true->(((↑a_3.i:Int) == 0)=true->∃ b_2 o:Nat,pv a_3.y.b 0=pv b_2 o/\∃ b_3 o_1:Nat,pv b_2 o=pv b_3 o_1/\∃ b_4 lo o:Nat,∃ cs:List Value,pv b_3 (o_1+0)=pv b_4 (lo+o)/\b.H b_4=some (lo,cs)/\o+1<=cs.length/\InR .i64 ((↑a_3.i:Int)+1)/\∃ (a':RdL),(↑a_3.i:Int)+1=(↑a'.i:Int)/\takeB a_13.g a_13.i a_13.f=(rdTo a.L a.d a.k a'.i).ok/\pv a_3.y.b 0=pv a'.y.b 0/\0=0/\(↑a.k:Int)=(↑a.k:Int)/\pupd b.H b_4 lo (List.take o cs++[Value.int IntKind.i64 (0:Int)]++List.drop (o+1) cs)=a'.H/\0=0/\(↑a.L.from_:Int)=(↑a.L.from_:Int)/\(↑a.L.segs:Int)=(↑a.L.segs:Int)/\a.lv=a.lv/\a.L.next=a.L.next/\(bif true then max (rdTo a.L a.d a.k a_3.i).run (uw .i64 (getTo (fun (i:Nat)=>u8 a_10.rows (a_10.r+i)) a_10.len)+(1:Int)) else min (rdTo a.L a.d a.k a_3.i).run (uw .i64 (getTo (fun (i:Nat)=>u8 a_10.rows (a_10.r+i)) a_10.len)+(1:Int)))=(rdTo a.L a.d a.k a'.i).run /\
 a.L.fresh=a.L.fresh/\devQ a.d a.d ((a'.i<=8/\SegNd a'.H a'.y (rdTo a.L a.d a.k a'.i).g/\∀ z:Nat,a.H z≠none->a'.H z=a.H z/\¬z∈fpSeg a'.y)/\8 - a'.i<8 - a_3.i))/\(((↑a_3.i:Int) == 0)=false->InR .i64 ((↑a_3.i:Int)+1)/\∃ (a':RdL),(↑a_3.i:Int)+1=(↑a'.i:Int)/\takeB a_13.g a_13.i a_13.f=(rdTo a.L a.d a.k a'.i).ok/\pv a_3.y.b 0=pv a'.y.b 0/\0=0/\(↑a.k:Int)=(↑a.k:Int)/\b.H=a'.H/\0=0/\(↑a.L.from_:Int)=(↑a.L.from_:Int)/\(↑a.L.segs:Int)=(↑a.L.segs:Int)/\a.lv=a.lv/\a.L.next=a.L.next/\(bif true then max (rdTo a.L a.d a.k a_3.i).run (uw .i64 (getTo (fun (i:Nat)=>u8 a_10.rows (a_10.r+i)) a_10.len)+(1:Int)) else min (rdTo a.L a.d a.k a_3.i).run (uw .i64 (getTo (fun (i:Nat)=>u8 a_10.rows (a_10.r+i)) a_10.len)+(1:Int)))=(rdTo a.L a.d a.k a'.i).run/\a.L.fresh=a.L.fresh/\devQ a.d a.d ((a'.i<=8/\SegNd a'.H a'.y (rdTo a.L a.d a.k a'.i).g/\∀ z:Nat,a.H z≠none->a'.H z=a.H z/\¬z∈fpSeg a'.y)/\8 - a'.i<8 - a_3.i)))/\((!takeB a_13.g a_13.i a_13.f)=false->InR .i64 ((↑a_3.i:Int)+1)/\∃ (a':RdL),(↑a_3.i:Int)+1=(↑a'.i:Int)/\takeB a_13.g a_13.i a_13.f=(rdTo a.L a.d a.k a'.i).ok/\pv a_3.y.b 0=pv a'.y.b 0/\0=0/\(↑a.k:Int)=(↑a.k:Int)/\b.H=a'.H/\0=0/\(↑a.L.from_:Int)=(↑a.L.from_:Int)/\(↑a.L.segs:Int)=(↑a.L.segs:Int)/\a.lv=a.lv/\a.L.next=a.L.next/\(bif true then max (rdTo a.L a.d a.k a_3.i).run (uw .i64 (getTo (fun (i:Nat)=>u8 a_10.rows (a_10.r+i)) a_10.len)+(1:Int)) else min (rdTo a.L a.d a.k a_3.i).run (uw .i64 (getTo (fun (i:Nat)=>u8 a_10.rows (a_10.r+i)) a_10.len)+(1:Int)))=(rdTo a.L a.d a.k a'.i).run /\
 a.L.fresh=a.L.fresh/\devQ a.d a.d ((a'.i<=8/\SegNd a'.H a'.y (rdTo a.L a.d a.k a'.i).g/\∀ z:Nat,a.H z≠none->a'.H z=a.H z/\¬z∈fpSeg a'.y)/\8 - a'.i<8 - a_3.i)))/\((rdTo a.L a.d a.k a_3.i).ok=false->(((↑a_3.i:Int) == 0)=true->∃ b o:Nat,pv a_3.y.b 0=pv b o/\∃ b_2 o_1:Nat,pv b o=pv b_2 o_1/\∃ b lo o:Nat,∃ cs:List Value,pv b_2 (o_1+0)=pv b (lo+o)/\a_3.H b=some (lo,cs)/\o+1<=cs.length/\InR .i64 ((↑a_3.i:Int)+1)/\∃ (a':RdL),(↑a_3.i:Int)+1=(↑a'.i:Int)/\false=(rdTo a.L a.d a.k a'.i).ok/\pv a_3.y.b 0=pv a'.y.b 0/\0=0/\(↑a.k:Int)=(↑a.k:Int)/\pupd a_3.H b lo (List.take o cs++[Value.int IntKind.i64 (0:Int)]++List.drop (o+1) cs)=a'.H/\0=0/\(↑a.L.from_:Int)=(↑a.L.from_:Int)/\(↑a.L.segs:Int)=(↑a.L.segs:Int)/\a.lv=a.lv/\a.L.next=a.L.next/\(bif true then max (rdTo a.L a.d a.k a_3.i).run (uw .i64 (getTo (fun (i:Nat)=>u8 a_10.rows (a_10.r+i)) a_10.len)+(1:Int)) else min (rdTo a.L a.d a.k a_3.i).run (uw .i64 (getTo (fun (i:Nat)=>u8 a_10.rows (a_10.r+i)) a_10.len)+(1:Int)))=(rdTo a.L a.d a.k a'.i).run/\a.L.fresh=a.L.fresh/\devQ a.d a.d ((a'.i<=8/\SegNd a'.H a'.y (rdTo a.L a.d a.k a'.i).g/\∀ z:Nat,a.H z≠none->a'.H z=a.H z/\¬z∈fpSeg a'.y)/\8 - a'.i<8 - a_3.i))/\(((↑a_3.i:Int) == 0)=false->InR .i64 ((↑a_3.i:Int)+1)/\∃ (a':RdL),(↑a_3.i:Int)+1=(↑a'.i:Int)/\false=(rdTo a.L a.d a.k a'.i).ok/\pv a_3.y.b 0=pv a'.y.b 0 /\
 0=0/\(↑a.k:Int)=(↑a.k:Int)/\a_3.H=a'.H/\0=0/\(↑a.L.from_:Int)=(↑a.L.from_:Int)/\(↑a.L.segs:Int)=(↑a.L.segs:Int)/\a.lv=a.lv/\a.L.next=a.L.next/\(bif true then max (rdTo a.L a.d a.k a_3.i).run (uw .i64 (getTo (fun (i:Nat)=>u8 a_10.rows (a_10.r+i)) a_10.len)+(1:Int)) else min (rdTo a.L a.d a.k a_3.i).run (uw .i64 (getTo (fun (i:Nat)=>u8 a_10.rows (a_10.r+i)) a_10.len)+(1:Int)))=(rdTo a.L a.d a.k a'.i).run/\a.L.fresh=a.L.fresh/\devQ a.d a.d ((a'.i<=8/\SegNd a'.H a'.y (rdTo a.L a.d a.k a'.i).g/\∀ z:Nat,a.H z≠none->a'.H z=a.H z/\¬z∈fpSeg a'.y)/\8 - a'.i<8 - a_3.i)))))/\(decide ((↑a_3.i:Int)<8)=false->∃ b o:Nat,pv a_3.y.b 0=pv b o/\∃ b_1 o_1:Nat,pv b o=pv b_1 o_1/\∃ b lo o:Nat,∃ cs:List Value,pv b_1 (o_1+0)=pv b (lo+o)/\a_3.H b=some (lo,cs)/\((∃ v:Value,cs[o]? = some v/\∃ n:Int,v=Value.int IntKind.i64 n/\InR .i64 n)/\True)/\(InR .i64 (toI (cs.getD o (Value.tuple #[])))->(decide (toI (cs.getD o (Value.tuple #[]))<(1:Int))=true->∃ b:RSegB,Value.pointer none=b.v/\a_3.H=b.H/\0=0/\(↑a.L.from_:Int)=(↑a.L.from_:Int)/\(↑a.L.segs:Int)=(↑a.L.segs:Int)/\a.lv=a.lv/\a.L.next=a.L.next/\(rdTo a.L a.d a.k a_3.i).run=(rdTo a.L a.d a.k 8).run/\a.L.fresh=a.L.fresh/\rsPost a.H b (segOf a.L a.d a.k)/\True)/\(decide (toI (cs.getD o (Value.tuple #[]))<(1:Int))=false->∃ b o:Nat,pv a_3.y.b 0=pv b o/\∃ b_2 o_2:Nat,pv b o=pv b_2 o_2 /\
 ∃ b lo o:Nat,∃ cs:List Value,pv b_2 (o_2+0)=pv b (lo+o)/\a_3.H b=some (lo,cs)/\((∃ v:Value,cs[o]? = some v/\∃ n:Int,v=Value.int IntKind.i64 n/\InR .i64 n)/\True)/\(InR .i64 (toI (cs.getD o (Value.tuple #[])))->InR .i64 (toI (cs.getD o (Value.tuple #[])) - (1:Int))/\(InR .i64 (↑a.L.segs:Int)->(↑a.L.segs:Int)≠(0:Int)/\(((toI (cs.getD o (Value.tuple #[])) - (1:Int)).tmod (↑a.L.segs:Int) != (↑a.k:Int))=true->∃ b:RSegB,Value.pointer none=b.v/\a_3.H=b.H/\0=0/\(↑a.L.from_:Int)=(↑a.L.from_:Int)/\(↑a.L.segs:Int)=(↑a.L.segs:Int)/\a.lv=a.lv/\a.L.next=a.L.next/\(rdTo a.L a.d a.k a_3.i).run=(rdTo a.L a.d a.k 8).run/\a.L.fresh=a.L.fresh/\rsPost a.H b (segOf a.L a.d a.k)/\True)/\(((toI (cs.getD o (Value.tuple #[])) - (1:Int)).tmod (↑a.L.segs:Int) != (↑a.k:Int))=false->∃ a_11:RecsA,pv a_3.y.b 0=pv a_11.y.b 0/\a_3.H=a_11.H/\(SegNd a_11.H a_11.y a_11.g/\a_11.g.buf.length<=378/\a_11.g.recs=[])/\∀ b:TakeR,SegNd b.H b.y (recsM a_11.g)/\b.y.b=a_11.y.b/\Fr a_11.H a_11.y b.H b.y->∃ b_3:RSegB,pv a_3.y.b 0=b_3.v/\b.H=b_3.H/\0=0/\(↑a.L.from_:Int)=(↑a.L.from_:Int)/\(↑a.L.segs:Int)=(↑a.L.segs:Int)/\a.lv=a.lv/\a.L.next=a.L.next/\(rdTo a.L a.d a.k a_3.i).run=(rdTo a.L a.d a.k 8).run/\a.L.fresh=a.L.fresh/\rsPost a.H b_3 (segOf a.L a.d a.k)/\True))))))) (by kernel_rfl) (by
 rintro ⟨H,L,lv,d,k⟩ ⟨h1,h2,h3,h4,h5,h6,h7,ok⟩;dsimp only at *;intro b hb;refine ⟨⟨⟨0,pupd H b 0 [.int .i64 0,.int .i64 0,.int .i64 0,.slice none 0 0,.slice none 0 0],newL b⟩,?_⟩,?_⟩
 ·have hz:∀ z,H z≠none->pupd H b 0 [.int .i64 0,.int .i64 0,.int .i64 0,.slice none 0 0,.slice none 0 0] z=H z/\¬ z∈fpSeg (newL b):=fun z hz=>by
   have:z≠b:=fun e=>hz (by rw [e];exact hb);exact ⟨pupd_ne this,by simpa [newL,fpSeg,fpV] using this⟩
  (repeat' apply And.intro)<;>first|with_reducible (first|rfl|trivial|assumption)|omega|with_reducible (first|exact RowsEq.refl _ _ _|exact Nat.le_refl _)|(dsimp only [List.length_cons,List.length_nil]<;>omega)|exact g0_at H b|exact hz|rfl
 ·rintro ⟨i,X,Y⟩ ⟨hi,hX,hfr⟩;dsimp only at *;obtain ⟨v1,v2,v3⟩:=rdTo_inv ok ⟨h6,h7⟩ i hi;refine ⟨fun c1=>?_,fun c1=>?_⟩
  ·have hi8:i<8:=by have:=of_decide_eq_true c1;omega
   obtain ⟨F,hF⟩:∃ F,F=secF L d k i:=⟨_,rfl⟩
   have hok:=ok.run i hi8;have hus:=ok.used i hi8;have hstep:rdTo L d k (i+1)=rdStep (rdTo L d k i) i F:=by rw [hF];rfl
   have hdn:d.now (L.from_+k*8+i)=F:=by rw [hF];rfl
   rw [<- hF] at hok hus;obtain ⟨R,hR⟩:∃ R,R=rdTo L d k i:=⟨_,rfl⟩
   rw [<- hR] at hX v1 v2 v3 hus ⊢;have e10:getTo (fun i=>u8 (rowsB F) (10+i)) 4=gB F 10 4:=rfl;intro _;refine ⟨by simp only [InR];omega,by simp only [InR];omega,by simp only [InR];omega,RdA.mk d (L.from_+k*8+i),?_⟩;have hin:L.from_+k*8+i<d.n:=by omega
   (repeat' apply And.intro)<;>first|with_reducible (first|rfl|trivial|assumption)|omega|with_reducible (first|exact RowsEq.refl _ _ _|exact Nat.le_refl _)|(dsimp only [List.length_cons,List.length_nil]<;>omega)|skip
   intro cap hcap;intro _
   repeat (first|refine And.intro (by omega) ?_|refine And.intro (by dsimp only;omega) ?_|refine And.intro (by simp only [InR];omega) ?_)
   refine ⟨GetA.mk 10 4 (cap - 10) 64 (rowsB F),?_⟩;simp only [hdn]
   (repeat' apply And.intro)<;>first|with_reducible (first|rfl|trivial|assumption)|omega|with_reducible (first|exact RowsEq.refl _ _ _|exact Nat.le_refl _)|(dsimp only [List.length_cons,List.length_nil]<;>omega)|skip
   intro _ _;simp only [e10,cond_true];refine ⟨by simp only [InR];omega,fun c2=>⟨TakeA.mk X Y R.g i F cap,?_⟩,fun c2=>⟨fun c3=>?_,fun c3=>?_⟩⟩
   ·have hsz:R.g.buf.length<=378:=by unfold startS at v2;omega
    (repeat' apply And.intro)<;>first|with_reducible (first|rfl|trivial|assumption)|omega|with_reducible (first|exact RowsEq.refl _ _ _|exact Nat.le_refl _)|(dsimp only [List.length_cons,List.length_nil]<;>omega)|exact hX|exact hus c2|skip
    rintro ⟨X1,Y1⟩ ⟨t1,t2,t3,t4⟩;dsimp only at *;have f1:∀ z,H z≠none->X1 z=H z/\¬ z∈fpSeg Y1:=fun z hz=>by
     obtain ⟨a1,a2⟩:=hfr z hz;obtain ⟨b1,b2⟩:=t4 z (by rw [a1];exact hz) a2;exact ⟨b1.trans a1,b2⟩
    refine ⟨fun c3=>⟨fun c4=>?_,fun c4=>?_⟩,fun c3=>?_⟩
    ·have hg:(rdStep R i F).g={ takeM R.g i F with gen:=0 }:=by
      have:takeB R.g i F=false:=by simpa using c3
      have hi0:i=0:=by simpa using c4
      subst hi0;simp [rdStep,c2,this]
     obtain ⟨q1,q2⟩:=t1.gen0;refine ⟨_,_,rfl,_,_,rfl,Y1.b,0,0,_,by rw [t2],t1.at_.cell,by simp [segC],by simp only [InR];omega,⟨i+1,pupd X1 Y1.b 0 (segC { takeM R.g i F with gen:=0 } Y1.bv Y1.rv),Y1⟩,?_⟩;rw [hstep,<- hR];have f2:∀ z,H z≠none->pupd X1 Y1.b 0 (segC { takeM R.g i F with gen:=0 } Y1.bv Y1.rv) z=H z/\¬ z∈fpSeg Y1:=fun z hz=>by
      obtain ⟨a1,a2⟩:=f1 z hz;obtain ⟨b1,b2⟩:=q2 z (by rw [a1];exact hz) a2;exact ⟨b1.trans a1,b2⟩
     rw [hg]
     (repeat' apply And.intro)<;>first|with_reducible (first|rfl|trivial|assumption)|omega|with_reducible (first|exact RowsEq.refl _ _ _|exact Nat.le_refl _)|(dsimp only [List.length_cons,List.length_nil]<;>omega)|exact q1|exact f2|(rw [t2];done)|(simp [rdStep,c2];done)|rfl|skip
    ·have hg:(rdStep R i F).g=takeM R.g i F:=by
      have hi0:i≠0:=by simpa using c4
      simp [rdStep,c2,hi0]
     refine ⟨by simp only [InR];omega,⟨i+1,X1,Y1⟩,?_⟩;rw [hstep,<- hR,hg]
     (repeat' apply And.intro)<;>first|with_reducible (first|rfl|trivial|assumption)|omega|with_reducible (first|exact RowsEq.refl _ _ _|exact Nat.le_refl _)|(dsimp only [List.length_cons,List.length_nil]<;>omega)|exact t1|exact f1|(rw [t2];done)|(simp [rdStep,c2];done)|rfl|skip
    ·have hg:(rdStep R i F).g=takeM R.g i F:=by
      have:takeB R.g i F=true:=by simpa using c3
      simp [rdStep,c2,this]
     refine ⟨by simp only [InR];omega,⟨i+1,X1,Y1⟩,?_⟩;rw [hstep,<- hR,hg]
     (repeat' apply And.intro)<;>first|with_reducible (first|rfl|trivial|assumption)|omega|with_reducible (first|exact RowsEq.refl _ _ _|exact Nat.le_refl _)|(dsimp only [List.length_cons,List.length_nil]<;>omega)|exact t1|exact f1|(rw [t2];done)|(simp [rdStep,c2];done)|rfl|skip
   ·have hg:(rdStep R i F).g={ R.g with gen:=0 }:=by
     have hi0:i=0:=by simpa using c3
     subst hi0;simp [rdStep,c2]
    obtain ⟨q1,q2⟩:=hX.gen0;refine ⟨_,_,rfl,_,_,rfl,Y.b,0,0,_,rfl,hX.at_.cell,by simp [segC],by simp only [InR];omega,⟨i+1,pupd X Y.b 0 (segC { R.g with gen:=0 } Y.bv Y.rv),Y⟩,?_⟩;rw [hstep,<- hR];have f2:∀ z,H z≠none->pupd X Y.b 0 (segC { R.g with gen:=0 } Y.bv Y.rv) z=H z/\¬ z∈fpSeg Y:=fun z hz=>by
     obtain ⟨a1,a2⟩:=hfr z hz;obtain ⟨b1,b2⟩:=q2 z (by rw [a1];exact hz) a2;exact ⟨b1.trans a1,b2⟩
    rw [hg]
    (repeat' apply And.intro)<;>first|with_reducible (first|rfl|trivial|assumption)|omega|with_reducible (first|exact RowsEq.refl _ _ _|exact Nat.le_refl _)|(dsimp only [List.length_cons,List.length_nil]<;>omega)|exact q1|exact f2|(simp [rdStep,c2];done)|rfl|skip
   ·have hg:(rdStep R i F).g=R.g:=by
     have hi0:i≠0:=by simpa using c3
     simp [rdStep,c2,hi0]
    refine ⟨by simp only [InR];omega,⟨i+1,X,Y⟩,?_⟩;rw [hstep,<- hR,hg]
    (repeat' apply And.intro)<;>first|with_reducible (first|rfl|trivial|assumption)|omega|with_reducible (first|exact RowsEq.refl _ _ _|exact Nat.le_refl _)|(dsimp only [List.length_cons,List.length_nil]<;>omega)|exact hX|exact hfr|(simp [rdStep,c2];done)|rfl|skip
  ·have hi8:i=8:=by have:=of_decide_eq_false c1;omega
   subst hi8;obtain ⟨r1,r2,r3⟩:=hX.at_.rng;have hcell:=hX.at_.cell;obtain ⟨R,hR⟩:∃ R,R=rdTo L d k 8:=⟨_,rfl⟩
   rw [<- hR] at hX v1 v2 v3 r1 hcell ⊢;have hseg:segOf L d k=if R.g.gen<1\/(R.g.gen - 1).tmod L.segs≠k then none else some (recsM R.g):=by rw [hR];rfl
   have fnone:segOf L d k=none->rsPost H ⟨X,Y,.pointer none⟩ (segOf L d k):=fun e=>by
    rw [e];exact ⟨rfl,fun z hz=>(hfr z hz).1⟩
   refine ⟨_,_,rfl,?_⟩;refine ⟨_,_,rfl,?_⟩;refine ⟨_,0,_,_,rfl,hcell,?_⟩;refine ⟨⟨⟨_,rfl,_,rfl,r1⟩,trivial⟩,fun _=>?_⟩;simp only [segC,List.getD_cons_zero,toI];refine ⟨fun c2=>⟨⟨X,Y,.pointer none⟩,?_⟩,fun c2=>?_⟩
   ·have c2:=of_decide_eq_true c2;have hno:segOf L d k=none:=by rw [hseg,if_pos (.inl c2)]
    (repeat' apply And.intro)<;>first|with_reducible (first|rfl|trivial|assumption)|omega|with_reducible (first|exact RowsEq.refl _ _ _|exact Nat.le_refl _)|(dsimp only [List.length_cons,List.length_nil]<;>omega)|exact fnone hno|rfl
   ·have c2:=of_decide_eq_false c2;refine ⟨_,_,rfl,?_⟩;refine ⟨_,_,rfl,?_⟩;refine ⟨_,0,_,_,rfl,hcell,?_⟩;refine ⟨⟨⟨_,rfl,_,rfl,r1⟩,trivial⟩,fun _=>?_⟩;simp only [segC,List.getD_cons_zero,toI];refine ⟨by simp only [InR] at *;omega,fun _=>⟨by omega,fun c3=>⟨⟨X,Y,.pointer none⟩,?_⟩,fun c3=>?_⟩⟩
    ·have c3:(R.g.gen - 1).tmod L.segs≠k:=by simpa using c3
     have hno:segOf L d k=none:=by rw [hseg,if_pos (.inr c3)]
     (repeat' apply And.intro)<;>first|with_reducible (first|rfl|trivial|assumption)|omega|with_reducible (first|exact RowsEq.refl _ _ _|exact Nat.le_refl _)|(dsimp only [List.length_cons,List.length_nil]<;>omega)|exact fnone hno|rfl
    ·have c3:(R.g.gen - 1).tmod L.segs=k:=by simpa using c3
     have hyes:segOf L d k=some (recsM R.g):=by rw [hseg,if_neg (by rintro (e|e)<;>omega)]
     refine ⟨RecsA.mk X Y R.g,?_⟩;have hsz:R.g.buf.length<=378:=v2
     (repeat' apply And.intro)<;>first|with_reducible (first|rfl|trivial|assumption)|omega|with_reducible (first|exact RowsEq.refl _ _ _|exact Nat.le_refl _)|(dsimp only [List.length_cons,List.length_nil]<;>omega)|exact hX|exact v1|skip
     rintro ⟨X1,Y1⟩ ⟨t1,t2,t3⟩;dsimp only at *;have f1:∀ z,H z≠none->X1 z=H z/\¬ z∈fpSeg Y1:=fun z hz=>by
      obtain ⟨a1,a2⟩:=hfr z hz;obtain ⟨b1,b2⟩:=t3 z (by rw [a1];exact hz) a2;exact ⟨b1.trans a1,b2⟩
     refine ⟨⟨X1,Y1,pv Y.b 0⟩,?_⟩;rw [hyes];have hp:rsPost H ⟨X1,Y1,pv Y.b 0⟩ (some (recsM R.g)):=⟨by rw [t2],t1,f1⟩
     (repeat' apply And.intro)<;>first|with_reducible (first|rfl|trivial|assumption)|omega|with_reducible (first|exact RowsEq.refl _ _ _|exact Nat.le_refl _)|(dsimp only [List.length_cons,List.length_nil]<;>omega)|exact t1|exact f1|(show pv Y.b 0=pv Y1.b 0;rw [t2])|rfl)
theorem callReadS:CallsBy (Y Tryz.prog).G.X 102 cReadS:=fn_ok okY (tab:=[(89,cDevRead),(121,cGet),(122,cTake),(123,cRecords)]) ⟨callDevRead,callGet,callTake,callRecords,trivial⟩ bodyReadS
end Go.Proofs.YtfhkbihcfmbbcaaGreat

namespace Go.Proofs.YtfhkbihcfmbbcaaGreat
open Go.Sx
set_option maxRecDepth 100000
set_option linter.unusedVariables false
set_option linter.unusedSimpArgs false
noncomputable def cLenZ (n:Int):Con where
 α:=Unit
 β:=Unit
 m:=0
 m':=0
 pre:=fun _=>True
 args:=fun a=>[.a (.lit .u64 n)]
 hp:=fun _=>[]
 ro:=fun _=>[]
 post:=fun _ _=>True
 res:=fun _ b=>.a (.lit .i64 n)
 hp':=fun _ _=>[]
set_option maxHeartbeats 4000000 in
theorem bodyLen0:fnBody (Yf Tryz.prog) [] 101 (cLenZ 0) fun _=>[]:=fnBody.of (p :=
 ∀ a:Unit,True->∃ b:Unit,(0:Int)=0/\True/\True) (by kernel_rfl) (by
 exact fun _ _=>⟨(),rfl,trivial,trivial⟩)
set_option maxHeartbeats 4000000 in
theorem bodyLen1:fnBody (Yf Tryz.prog) [] 101 (cLenZ 1) fun _=>[]:=fnBody.of (p :=
 ∀ a:Unit,True->∃ b:Unit,(1:Int)=1/\True/\True) (by kernel_rfl) (by
 exact fun _ _=>⟨(),rfl,trivial,trivial⟩)
noncomputable def cLenU:Con where
 α:=Int
 β:=Unit
 m:=0
 m':=0
 pre:=fun a=>a=0\/a=1
 args:=fun a=>[.a (.int .u64 a)]
 hp:=fun _=>[]
 ro:=fun _=>[]
 post:=fun _ _=>True
 res:=fun a _=>.a (.int .i64 a)
 hp':=fun _ _=>[]
theorem semLen (n:Int) (h:fnBody (Yf Tryz.prog) [] 101 (cLenZ n) fun _=>[]):ConSem (Yf Tryz.prog).G.X (cLenZ n) 101:=con_sem okYf (fun _=>CHof_ok okYf (tab:=[]) trivial) h.body
theorem semLenU:ConSem (Y Tryz.prog).G.X cLenU 101:=by
 intro a ha M ρ w vs hn hh hargs;rcases ha with rfl|rfl
 ·exact semLen 0 bodyLen0 () trivial M ρ w vs hn hh hargs
 ·exact semLen 1 bodyLen1 () trivial M ρ w vs hn hh hargs
theorem callLenU:CallsBy (Y Tryz.prog).G.X 101 cLenU:=fun _ _ _ h=>con_okS semLenU h
noncomputable def cNev (k:Nat):Con where
 α:=Unit
 β:=Unit
 m:=0
 m':=0
 pre:=fun _=>False
 args:=fun _=>List.replicate k (.a .any)
 hp:=fun _=>[]
 ro:=fun _=>[]
 post:=fun _ _=>True
 res:=fun _ _=>.a .any
 hp':=fun _ _=>[]
theorem callNev (k f:Nat):CallsBy (Y Tryz.prog).G.X f (cNev k):=fn_ok okY (tab:=[]) trivial (l:=fun _=>[]) ⟨fun a h=>False.elim h⟩
structure OneA where
 v:Value
 n:Nat
def isOne (v:Value) (n:Nat):Prop:=n<=1/\(∃ a c,v = .slice a n c)/\v.oneCell'=true
noncomputable def cIns1:Con where
 α:=OneA
 β:=Unit
 m:=0
 m':=0
 pre:=fun a=>isOne a.v a.n
 args:=fun a=>[.a (.val a.v),.a (.int .i64 0),.a (.int .i64 a.n),.a (.fn 104)]
 hp:=fun _=>[]
 ro:=fun _=>[]
 post:=fun _ _=>True
 res:=fun _ _=>.tup []
 hp':=fun _ _=>[]
def iInsN:An:=.flat 4 Unit (fun s _=>s) (fun _ _=>False) (fun _ _=>0)
def iIns1 (a:OneA):An:=.mk 1 Unit (fun s _=>s) (fun _ _=>True) (fun _ _=>0) fun _=>.mk 60 [iInsN] []
set_option maxHeartbeats 4000000 in
theorem bodyIns1:fnBody (Y Tryz.prog) [] 131 cIns1 fun a=>[(131,[iIns1 a],[])]:=fnBody.of (p :=
 ∀ a:OneA,isOne a.v a.n->InR .i64 (1:Int)/\(∃ a_2:Unit,(1:Int)=1/\a.v=a.v/\(0:Int)=0/\(↑a.n:Int)=(↑a.n:Int)/\True/\True)/\∀ a_2:Unit,True->(decide (1<(↑a.n:Int))=true->(∃ a_5:Unit,(1:Int)=1/\decide (1<(↑a.n:Int))=decide (1<(↑a.n:Int))/\(1:Int)=1/\a.v=a.v/\(0:Int)=0/\(↑a.n:Int)=(↑a.n:Int)/\False/\True)/\∀ a_5:Unit,False->(true=true->∃ b o:Nat,∃ l c:Nat,a.v=slv b o l c/\((0:Int)<=1/\1<(↑l:Int))/\False)/\(true=false->InR .i64 (2:Int)/\∃ (a':Unit),(2:Int)=1/\a.v=a.v/\(0:Int)=0/\(↑a.n:Int)=(↑a.n:Int)/\True/\0<0))/\(decide (1<(↑a.n:Int))=false->∃ b:Unit,True/\True)) (by kernel_rfl) (by
 rintro ⟨v,n⟩ ⟨h1,_⟩;dsimp only at *;refine ⟨by simp only [InR];omega,⟨(),?_⟩,fun _ _=>⟨fun c1=>?_,fun _=>⟨(),trivial,trivial⟩⟩⟩
 ·(repeat' apply And.intro)<;>first|trivial|rfl
 ·exfalso;have:=of_decide_eq_true c1;omega)
theorem callIns1:CallsBy (Y Tryz.prog).G.X 131 cIns1:=fn_ok okY (tab:=[]) trivial bodyIns1
noncomputable def cSort1:Con where
 α:=OneA
 β:=Unit
 m:=0
 m':=0
 pre:=fun a=>isOne a.v a.n
 args:=fun a=>[.a (.val a.v),.a (.fn 104)]
 hp:=fun _=>[]
 ro:=fun _=>[]
 post:=fun _ _=>True
 res:=fun _ _=>.tup []
 hp':=fun _ _=>[]
noncomputable def tabSort1:List (Nat × Con):=[(101,cLenU),(131,cIns1),(132,cNev 4),(133,cNev 4),(134,cNev 4)]
def iSort1:An:=.flat 2 Unit (fun s _=>s) (fun _ _=>True) (fun _ _=>0)
set_option maxHeartbeats 4000000 in
theorem bodySort1:fnBody (Y Tryz.prog) tabSort1 103 cSort1 fun a=>[(124,[iSort1],[])]:=fnBody.of (p :=
 ∀ a:OneA,isOne a.v a.n->(∃ a_2:Option Go.Addr,∃ l c:Nat,a.v=Value.slice a_2 l c/\l<=lenMax)/\∃ a_2:Int,uw .u64 (↑(slLen a.v):Int)=a_2/\(a_2=(0:Int)\/a_2=(1:Int))/\∀ b:Unit,True->(∃ a_4:Unit,true=true/\true=true/\a.v=a.v/\(0:Int)=0/\(↑(slLen a.v):Int)=(↑(slLen a.v):Int)/\a_2=a_2/\True/\True)/\∀ a_4:Unit,True->InR .i64 ((↑(slLen a.v):Int) - 0)/\(decide ((↑(slLen a.v):Int) - 0<=(12:Int))=true->∃ a_7:OneA,a.v=a_7.v/\(0:Int)=0/\(↑(slLen a.v):Int)=(↑a_7.n:Int)/\isOne a_7.v a_7.n/\∀ b:Unit,True->∃ b:Unit,True/\True)/\(decide ((↑(slLen a.v):Int) - 0<=(12:Int))=false->((a_2 == (0:Int))=true->∃ a:Unit,False/\∀ b:Unit,True->∃ b:Unit,True/\True)/\((a_2 == (0:Int))=false->∃ a:Unit,False/\∀ b:Unit,True->False))) (by kernel_rfl) (by
 rintro ⟨v,n⟩ ⟨h1,⟨ba,c,h2⟩,h3⟩;dsimp only at h1 h2 h3;subst h2;have hl:slLen (.slice ba n c)=n:=rfl;dsimp only at *;rw [hl];have e1:uw .u64 (n:Int)=n:=by simp only [uw];omega
 refine ⟨⟨_,_,_,rfl,by simp only [lenMax];omega⟩,n,e1,by omega,fun _ _=>⟨⟨(),?_⟩,fun _ _=>⟨by simp only [InR];omega,fun c1=>⟨⟨.slice ba n c,n⟩,?_⟩,fun c1=>?_⟩⟩⟩
 ·(repeat' apply And.intro)<;>first|trivial|rfl
 ·have hp:isOne (.slice ba n c) n:=⟨h1,⟨_,_,rfl⟩,h3⟩
  (repeat' (first|apply And.intro|(intro _)|apply Exists.intro ()))<;>first|trivial|rfl|omega|exact h1|exact h3|exact ⟨_,_,rfl⟩
 ·exfalso;have:=of_decide_eq_false c1;omega)
theorem callSort1:CallsBy (Y Tryz.prog).G.X 103 cSort1:=fn_ok okY (tab:=tabSort1) ⟨callLenU,callIns1,callNev _ _,callNev _ _,callNev _ _,trivial⟩ bodySort1
structure DelOA where
 H:PH
 y:LogL
 L:LogM
 gb:Nat
 t:Int
 s:Int
noncomputable def cNoDelO:Con where
 α:=DelOA
 β:=Unit
 m:=3
 m':=3
 pre:=fun a=>LogAt a.H a.y a.L/\a.L.l.length<1000/\0<=a.s/\a.s<=1000/\InR .i64 a.t/\0<=a.t/\(∃ r,a.H a.gb=some (0,.int .i64 a.t::r))/\∀ i,i<a.L.l.length->a.t - a.s<(gl a.L.l i).gen
 args:=fun a=>[.a (.val a.y.lv),.clo 105 [.ptr 0 0 0 0,.ptr 1 0 0 0]]
 hp:=fun _=>[]
 ro:=fun a=>[(0,.obj 148 [.val (pv a.gb 0)]),(1,.obj 3 [.int .i64 a.s]),(2,.pool a.H)]
 post:=fun _ _=>True
 res:=fun a _=>.a (.val a.y.lv)
 hp':=fun _ _=>[]
noncomputable def cIdxNoO:Con where
 α:=DelOA
 β:=Unit
 m:=3
 m':=3
 pre:=cNoDelO.pre
 args:=cNoDelO.args
 hp:=fun _=>[]
 ro:=cNoDelO.ro
 post:=fun _ _=>True
 res:=fun a _=>.a (.lit .i64 (-1))
 hp':=fun _ _=>[]
def iNoDelO (a:DelOA):An:=.flat 2 Nat (fun s k=>s.int 8 k) (fun _ k=>k<=a.L.l.length) (fun _ k=>a.L.l.length - k)
set_option maxHeartbeats 4000000 in
theorem bodyIdxNoO:fnBody (Y Tryz.prog) [] 109 cIdxNoO fun a=>[(109,[iNoDelO a],[])]:=fnBody.of (p :=
 ∀ a:DelOA,(LogAt a.H a.y a.L/\a.L.l.length<1000/\(0:Int)<=a.s/\a.s<=(1000:Int)/\InR .i64 a.t/\(0:Int)<=a.t/\(∃ r:List Value,a.H a.gb=some (0,Value.int IntKind.i64 a.t::r))/\∀ i:Nat,i<a.L.l.length->a.t - a.s<(gl a.L.l i).gen)->(∃ a_2:Option Go.Addr,∃ l c:Nat,a.y.lv=Value.slice a_2 l c/\l<=lenMax)/\(∃ a_2:Nat,0=(↑a_2:Int)/\(↑(slLen a.y.lv):Int)=(↑(slLen a.y.lv):Int)/\(0:Int)=0/\a.y.lv=a.y.lv/\0=0/\0=0/\pv a.gb 0=pv a.gb 0/\a.s=a.s/\a.H=a.H/\a_2<=a.L.l.length/\True)/\∀ a_2:Nat,a_2<=a.L.l.length->(decide ((↑a_2:Int)<(↑(slLen a.y.lv):Int))=true->∃ b o:Nat,∃ l c:Nat,a.y.lv=slv b o l c/\(0<=(↑a_2:Int)/\(↑a_2:Int)<(↑l:Int))/\∃ b_1 lo o_1:Nat,∃ cs:List Value,pv b (o+(↑a_2:Int).toNat*1)=pv b_1 (lo+o_1)/\a.H b_1=some (lo,cs)/\((∃ v:Value,cs[o_1]? = some v/\v.oneCell'=true)/\True)/\∃ b o:Nat,cs.getD o_1 (Value.tuple #[])=pv b o/\∃ b_2 o_2:Nat,pv b o=pv b_2 o_2/\∃ b lo o:Nat,∃ cs:List Value,pv b_2 (o_2+0)=pv b (lo+o)/\a.H b=some (lo,cs)/\((∃ v:Value,cs[o]? = some v/\∃ n:Int,v=Value.int IntKind.i64 n/\InR .i64 n)/\True)/\(InR .i64 (toI (cs.getD o (Value.tuple #[])))->∃ b o_3:Nat,pv a.gb 0=pv b o_3/\∃ b_3 o_4:Nat,pv b o_3=pv b_3 o_4/\∃ b lo o_5:Nat,∃ cs_1:List Value,pv b_3 (o_4+0)=pv b (lo+o_5)/\a.H b=some (lo,cs_1)/\((∃ v:Value,cs_1[o_5]? = some v/\∃ n:Int,v=Value.int IntKind.i64 n /\
 InR .i64 n)/\True)/\(InR .i64 (toI (cs_1.getD o_5 (Value.tuple #[])))->InR .i64 a.s->InR .i64 (toI (cs_1.getD o_5 (Value.tuple #[])) - a.s)/\(decide (toI (cs.getD o (Value.tuple #[]))<=toI (cs_1.getD o_5 (Value.tuple #[])) - a.s)=true->∃ b:Unit,(↑a_2:Int)=(-1:Int)/\True/\True)/\(decide (toI (cs.getD o (Value.tuple #[]))<=toI (cs_1.getD o_5 (Value.tuple #[])) - a.s)=false->InR .i64 ((↑a_2:Int)+1)/\∃ (a':Nat),(↑a_2:Int)+1=(↑a':Int)/\(↑(slLen a.y.lv):Int)=(↑(slLen a.y.lv):Int)/\(0:Int)=0/\a.y.lv=a.y.lv/\0=0/\0=0/\pv a.gb 0=pv a.gb 0/\a.s=a.s/\a.H=a.H/\a'<=a.L.l.length/\a.L.l.length - a'<a.L.l.length - a_2))))/\(decide ((↑a_2:Int)<(↑(slLen a.y.lv):Int))=false->∃ b:Unit,(-1:Int)=(-1:Int)/\True/\True)) (by kernel_rfl) (by
 rintro ⟨H,y,L,gb,T,S⟩ ⟨hl,h1,h2,h2',h3,h4,⟨gr,hgb⟩,h5⟩;dsimp only at *;obtain ⟨e1,_,⟨ea,ec,e2⟩,e3,_⟩:=hl.lv_len;refine ⟨⟨ea,_,ec,e2,e3⟩,⟨0,?_⟩,fun k hk=>⟨fun c1=>?_,fun c1=>⟨(),?_⟩⟩⟩
 ·(repeat' apply And.intro)<;>first|with_reducible (first|rfl|trivial|assumption)|omega|with_reducible (first|exact RowsEq.refl _ _ _|exact Nat.le_refl _)|(dsimp only [List.length_cons,List.length_nil]<;>omega)
 ·rw [e1] at c1;have hk:k<L.l.length:=by simpa using c1
  obtain ⟨b,lo,o,c,cs,g1,g2,g3,g4⟩:=hl.at_ hk;have hs:=hl.seg k hk;obtain ⟨r1,_,_⟩:=hs.rng;refine ⟨_,_,_,_,g1,by omega,b,lo,o+k*1,cs,by rw [Int.toNat_natCast,Nat.add_assoc],g2,⟨⟨_,g3,rfl⟩,trivial⟩,?_⟩;refine ⟨_,_,g4,?_⟩;refine ⟨_,_,rfl,?_⟩;refine ⟨_,0,_,_,rfl,hs.cell,?_⟩;refine ⟨⟨⟨_,rfl,_,rfl,r1⟩,trivial⟩,fun _=>?_⟩;refine ⟨_,_,rfl,?_⟩;refine ⟨_,_,rfl,?_⟩;refine ⟨_,0,_,_,rfl,hgb,?_⟩;refine ⟨⟨⟨_,rfl,_,rfl,h3⟩,trivial⟩,fun _ _=>?_⟩;simp only [segC,List.getD_cons_zero,toI,InR] at h3 ⊢;have h6:=h5 k hk;refine ⟨by omega,fun c2=>?_,fun c2=>⟨by omega,k+1,?_⟩⟩
  ·exfalso;simp at c2;omega
  ·(repeat' apply And.intro)<;>first|with_reducible (first|rfl|trivial|assumption)|omega|with_reducible (first|exact RowsEq.refl _ _ _|exact Nat.le_refl _)|(dsimp only [List.length_cons,List.length_nil]<;>omega)
 ·(repeat' apply And.intro)<;>first|with_reducible (first|rfl|trivial|assumption)|omega|with_reducible (first|exact RowsEq.refl _ _ _|exact Nat.le_refl _)|(dsimp only [List.length_cons,List.length_nil]<;>omega))
theorem callIdxNoO:CallsBy (Y Tryz.prog).G.X 109 cIdxNoO:=fn_ok okY (tab:=[]) trivial bodyIdxNoO
set_option maxHeartbeats 4000000 in
theorem bodyNoDelO:fnBody (Y Tryz.prog) [(109,cIdxNoO)] 97 cNoDelO fun a=>[]:=fnBody.of (p :=
 ∀ a:DelOA,(LogAt a.H a.y a.L/\a.L.l.length<1000/\(0:Int)<=a.s/\a.s<=(1000:Int)/\InR .i64 a.t/\(0:Int)<=a.t/\(∃ r:List Value,a.H a.gb=some (0,Value.int IntKind.i64 a.t::r))/\∀ i:Nat,i<a.L.l.length->a.t - a.s<(gl a.L.l i).gen)->∃ a_2:DelOA,a.y.lv=a_2.y.lv/\0=0/\0=0/\pv a.gb 0=pv a_2.gb 0/\a.s=a_2.s/\a.H=a_2.H/\(LogAt a_2.H a_2.y a_2.L/\a_2.L.l.length<1000/\(0:Int)<=a_2.s/\a_2.s<=(1000:Int)/\InR .i64 a_2.t/\(0:Int)<=a_2.t/\(∃ r:List Value,a_2.H a_2.gb=some (0,Value.int IntKind.i64 a_2.t::r))/\∀ i:Nat,i<a_2.L.l.length->a_2.t - a_2.s<(gl a_2.L.l i).gen)/\∀ b:Unit,True->∃ b:Unit,a.y.lv=a.y.lv/\True/\True) (by kernel_rfl) (by
 intro a h;refine ⟨a,?_⟩;obtain ⟨h1,h2,h3,h4,h5,h6,h7,h8⟩:=h
 (repeat' (first|apply And.intro|(intro _)|apply Exists.intro ()))<;>first|with_reducible (first|rfl|trivial|assumption)|omega|with_reducible (first|exact RowsEq.refl _ _ _|exact Nat.le_refl _)|(dsimp only [List.length_cons,List.length_nil]<;>omega)|exact h7|exact h5.2|exact h5.1|exact h8 _ (by assumption))
theorem callNoDelO:CallsBy (Y Tryz.prog).G.X 97 cNoDelO:=fn_ok okY (tab:=[(109,cIdxNoO)]) ⟨callIdxNoO,trivial⟩ bodyNoDelO
end Go.Proofs.YtfhkbihcfmbbcaaGreat

namespace Go.Proofs.YtfhkbihcfmbbcaaGreat
open Go.Sx
set_option maxRecDepth 100000
set_option linter.unusedVariables false
set_option linter.unusedSimpArgs false
def opL (from_ segs:Nat) (d:DevM):Nat->LogM
 | 0=>⟨from_,segs,[],1,1,true⟩
 | k+1=>{ opL from_ segs d k with l:=(opL from_ segs d k).l++(segOf (opL from_ segs d k) d k).toList,run:=(rdTo (opL from_ segs d k) d k 8).run }
def nextOf (l:List SegM):Int:=match l.getLast? with
 | none=>1
 | some g=>match g.recs.getLast? with
  | none=>g.base+64
  | some r=>r.pos+65
def openM (from_ segs:Nat) (d:DevM):LogM:={ opL from_ segs d segs with next:=nextOf (opL from_ segs d segs).l }
structure OpenOk (from_ segs:Nat) (d:DevM):Prop where
 few:3<=segs/\segs<=200
 room:from_+segs*8<=d.n
 size:d.n<100000
 rd:∀ k,k<segs->RdOk (opL from_ segs d k) d k
 one:(opL from_ segs d segs).l.length<=1
 rng:∀ i,i<(opL from_ segs d segs).l.length->1<=(gl (opL from_ segs d segs).l i).gen/\0<=(gl (opL from_ segs d segs).l i).base/\(gl (opL from_ segs d segs).l i).base<100000000000 /\
  ∀ j,j<(gl (opL from_ segs d segs).l i).recs.length->0<=(gl (gl (opL from_ segs d segs).l i).recs j).pos/\(gl (gl (opL from_ segs d segs).l i).recs j).pos<100000000000
theorem opL_same (from_ segs:Nat) (d:DevM):∀ k,(opL from_ segs d k).from_=from_/\(opL from_ segs d k).segs=segs/\(opL from_ segs d k).next=1/\(opL from_ segs d k).fresh=true
 | 0=>⟨rfl,rfl,rfl,rfl⟩
 | k+1=>opL_same from_ segs d k
theorem opL_run {from_ segs:Nat} {d:DevM} (h:OpenOk from_ segs d):∀ k,k<=segs->0<=(opL from_ segs d k).run/\(opL from_ segs d k).run<200000000000
 | 0,_=>⟨by simp [opL],by simp [opL]⟩
 | k+1,hk=>(rdTo_inv (h.rd k (by omega)) (opL_run h k (by omega)) 8 (Nat.le_refl _)).run
structure OpA where
 H:PH
 d:DevM
 from_:Nat
 segs:Nat
structure OpS where
 k:Nat
 H:PH
 y:LogL
noncomputable def cLOpen:Con where
 α:=OpA
 β:=BegB
 m:=3
 m':=5
 pre:=fun a=>OpenOk a.from_ a.segs a.d
 args:=fun a=>[.a (.ptr 0 0 0 0),.a (.int .i64 a.from_),.a (.int .i64 a.segs)]
 hp:=fun a=>[(2,.pool a.H)]
 ro:=fun a=>devHp 0 1 a.d
 post:=fun a b=>LogAt b.H b.y (openM a.from_ a.segs a.d)/\∀ x,a.H x≠none->b.H x=a.H x/\x∉fpLog b.y
 res:=fun a _=>.tup [.a (.ptr 3 0 0 0),.a (.lit .i64 0)]
 hp':=fun a b=>[(3,logObj 0 (openM a.from_ a.segs a.d) b.y.lv),(4,.pool b.H)]
def iLOpen (a:OpA):An:=.flat 7 OpS (fun s x=>S.pool ((s.at_ (s.tg 8) (logObj (s.in_ (s.tg 8) 0) (opL a.from_ a.segs a.d x.k) x.y.lv)).int 43 x.k) x.H)
 (fun _ x=>x.k<=a.segs/\LogAt x.H x.y (opL a.from_ a.segs a.d x.k)/\∀ z,a.H z≠none->x.H z=a.H z/\z∉fpLog x.y) (fun _ x=>a.segs - x.k)
set_option maxHeartbeats 4000000 in
theorem bodyLOpen:fnBody (Y Tryz.prog) [(102,cReadS),(103,cSort1),(97,cNoDelO)] 85 cLOpen fun a=>[(85,[iLOpen a],[])]:=fnBody.of (p :=
 ∀ a:OpA,OpenOk a.from_ a.segs a.d->InR .i64 (↑a.segs:Int)->(decide ((↑a.segs:Int)<3)=true->∃ b:BegB,False)/\(decide ((↑a.segs:Int)<3)=false->InR .i64 (↑a.segs:Int)->(decide (200<(↑a.segs:Int))=true->∃ b:BegB,False)/\(decide (200<(↑a.segs:Int))=false->(decide ((↑a.from_:Int)<0)=true->∃ b:BegB,False)/\(decide ((↑a.from_:Int)<0)=false->InR .i64 (↑a.segs:Int)->InR .i64 ((↑a.segs:Int)*8)/\InR .i64 ((↑a.d.n:Int) - (↑a.segs:Int)*8)/\(decide ((↑a.d.n:Int) - (↑a.segs:Int)*8<(↑a.from_:Int))=true->∃ b:BegB,False)/\(decide ((↑a.d.n:Int) - (↑a.segs:Int)*8<(↑a.from_:Int))=false->InR .i64 (↑a.segs:Int)->InR .i64 (↑a.segs:Int)->(∃ a_11:OpS,0=(↑a_11.k:Int)/\(↑a.segs:Int)=(↑a.segs:Int)/\0=0/\decide ((↑a.d.n:Int) - (↑a.segs:Int)*8<(↑a.from_:Int))=decide ((↑a.d.n:Int) - (↑a.segs:Int)*8<(↑a.from_:Int))/\false=false/\(0:Int)=0/\0=0/\0=0/\(↑a.from_:Int)=(↑a.from_:Int)/\(↑a.segs:Int)=(↑a.segs:Int)/\a.H=a_11.H/\0=0/\(↑a.from_:Int)=(↑(opL a.from_ a.segs a.d a_11.k).from_:Int)/\(↑a.segs:Int)=(↑(opL a.from_ a.segs a.d a_11.k).segs:Int)/\Value.slice none 0 0=a_11.y.lv/\(1:Int)=(opL a.from_ a.segs a.d a_11.k).next/\(1:Int)=(opL a.from_ a.segs a.d a_11.k).run/\true=(opL a.from_ a.segs a.d a_11.k).fresh/\(↑a.segs:Int)=(↑a.segs:Int)/\devQ a.d a.d ((a_11.k<=a.segs/\LogAt a_11.H a_11.y (opL a.from_ a.segs a.d a_11.k) /\
 ∀ z:Nat,a.H z≠none->a_11.H z=a.H z/\¬z∈fpLog a_11.y)/\True))/\∀ a_11:OpS,(a_11.k<=a.segs/\LogAt a_11.H a_11.y (opL a.from_ a.segs a.d a_11.k)/\∀ z:Nat,a.H z≠none->a_11.H z=a.H z/\¬z∈fpLog a_11.y)->(decide ((↑a_11.k:Int)<(↑a.segs:Int))=true->∃ a_14:RSegA,0=0/\(↑a_11.k:Int)=(↑a_14.k:Int)/\0=0/\logQ (opL a.from_ a.segs a.d a_11.k) a_14.L a_11.y.lv a_14.lv (a_11.H=a_14.H/\devQ a.d a_14.d ((a_14.k<a_14.L.segs/\3<=a_14.L.segs/\a_14.L.segs<=200/\a_14.L.from_+a_14.L.segs*8<=a_14.d.n/\a_14.d.n<100000/\(0:Int)<=a_14.L.run/\a_14.L.run<(200000000000:Int)/\RdOk a_14.L a_14.d a_14.k)/\∀ b:RSegB,rsPost a_14.H b (segOf a_14.L a_14.d a_14.k)->(∃ p:Option Go.Addr,b.v=Value.pointer p)/\((!nilP b.v)=true->∃ l c:Nat,∃ rows:Nat->Nat->Value,slAt b.H a_14.lv [CK.deep] l c rows/\0+l<=l/\1<=1/\(l+1)*8<=140737488355328/\∀ cap:Nat,l+1<=cap->cap<=lenMax->(l+1<=c->cap=c)->(cap≠0/\0+(l+1)<=l+1)/\∀ (b_1 lo:Nat) (cs:List Value),pminusV b.H a_14.lv b_1=none->cs.length=cap*1->(PRows cs 0 [CK.deep] (l+1) fun (i j:Nat)=>appRows rows 0 l (fun (i j:Nat)=>flatRows 1 [b.v] (0+i) j) (0+i) j)->InR .i64 ((↑a_11.k:Int)+1)/\∃ (a':OpS),(↑a_11.k:Int)+1=(↑a'.k:Int)/\(↑a.segs:Int)=(↑a.segs:Int)/\0=0/\decide ((↑a.d.n:Int) - (↑a.segs:Int)*8<(↑a.from_:Int))=decide ((↑a.d.n:Int) - (↑a.segs:Int)*8<(↑a.from_:Int)) /\
 false=false/\(0:Int)=0/\0=0/\0=0/\(↑a.from_:Int)=(↑a.from_:Int)/\(↑a.segs:Int)=(↑a.segs:Int)/\pupd (pminusV b.H a_14.lv) b_1 lo cs=a'.H/\0=0/\(↑a_14.L.from_:Int)=(↑(opL a.from_ a.segs a.d a'.k).from_:Int)/\(↑a_14.L.segs:Int)=(↑(opL a.from_ a.segs a.d a'.k).segs:Int)/\slv b_1 lo (l+1) cap=a'.y.lv/\a_14.L.next=(opL a.from_ a.segs a.d a'.k).next/\(rdTo a_14.L a_14.d a_14.k 8).run=(opL a.from_ a.segs a.d a'.k).run/\a_14.L.fresh=(opL a.from_ a.segs a.d a'.k).fresh/\(↑a.segs:Int)=(↑a.segs:Int)/\devQ a.d a.d ((a'.k<=a.segs/\LogAt a'.H a'.y (opL a.from_ a.segs a.d a'.k)/\∀ z:Nat,a.H z≠none->a'.H z=a.H z/\¬z∈fpLog a'.y)/\a.segs - a'.k<a.segs - a_11.k))/\((!nilP b.v)=false->InR .i64 ((↑a_11.k:Int)+1)/\∃ (a':OpS),(↑a_11.k:Int)+1=(↑a'.k:Int)/\(↑a.segs:Int)=(↑a.segs:Int)/\0=0/\decide ((↑a.d.n:Int) - (↑a.segs:Int)*8<(↑a.from_:Int))=decide ((↑a.d.n:Int) - (↑a.segs:Int)*8<(↑a.from_:Int))/\false=false/\(0:Int)=0/\0=0/\0=0/\(↑a.from_:Int)=(↑a.from_:Int)/\(↑a.segs:Int)=(↑a.segs:Int)/\b.H=a'.H/\0=0/\(↑a_14.L.from_:Int)=(↑(opL a.from_ a.segs a.d a'.k).from_:Int)/\(↑a_14.L.segs:Int)=(↑(opL a.from_ a.segs a.d a'.k).segs:Int)/\a_14.lv=a'.y.lv/\a_14.L.next=(opL a.from_ a.segs a.d a'.k).next/\(rdTo a_14.L a_14.d a_14.k 8).run=(opL a.from_ a.segs a.d a'.k).run/\a_14.L.fresh=(opL a.from_ a.segs a.d a'.k).fresh /\
 (↑a.segs:Int)=(↑a.segs:Int)/\devQ a.d a.d ((a'.k<=a.segs/\LogAt a'.H a'.y (opL a.from_ a.segs a.d a'.k)/\∀ z:Nat,a.H z≠none->a'.H z=a.H z/\¬z∈fpLog a'.y)/\a.segs - a'.k<a.segs - a_11.k)))))/\(decide ((↑a_11.k:Int)<(↑a.segs:Int))=false->∃ a_14:OneA,a_11.y.lv=a_14.v/\isOne a_14.v a_14.n/\∀ b:Unit,True->(∃ a:Option Go.Addr,∃ l c:Nat,a_11.y.lv=Value.slice a l c/\l<=lenMax)/\(decide (0<(↑(slLen a_11.y.lv):Int))=true->InR .i64 ((↑(slLen a_11.y.lv):Int) - 1)/\∃ b o:Nat,∃ l c:Nat,a_11.y.lv=slv b o l c/\(0<=(↑(slLen a_11.y.lv):Int) - 1/\(↑(slLen a_11.y.lv):Int) - 1<(↑l:Int))/\∃ b_1 lo o_1:Nat,∃ cs:List Value,pv b (o+((↑(slLen a_11.y.lv):Int) - 1).toNat*1)=pv b_1 (lo+o_1)/\a_11.H b_1=some (lo,cs)/\((∃ v:Value,cs[o_1]? = some v/\v.oneCell'=true)/\True)/\∃ a_17:DelOA,a_11.y.lv=a_17.y.lv/\0=0/\0=0/\cs.getD o_1 (Value.tuple #[])=pv a_17.gb 0/\(↑a.segs:Int)=a_17.s/\a_11.H=a_17.H/\(LogAt a_17.H a_17.y a_17.L/\a_17.L.l.length<1000/\(0:Int)<=a_17.s/\a_17.s<=(1000:Int)/\InR .i64 a_17.t/\(0:Int)<=a_17.t/\(∃ r:List Value,a_17.H a_17.gb=some (0,Value.int IntKind.i64 a_17.t::r))/\∀ i:Nat,i<a_17.L.l.length->a_17.t - a_17.s<(gl a_17.L.l i).gen)/\∀ b:Unit,True->∃ b o:Nat,cs.getD o_1 (Value.tuple #[])=pv b o/\∃ b_2 o_2:Nat,pv b o=pv b_2 o_2/\∃ b lo o:Nat,∃ cs_1:List Value,pv b_2 (o_2+1)=pv b (lo+o)/\a_11.H b=some (lo,cs_1) /\
 ((∃ v:Value,cs_1[o]? = some v/\∃ n:Int,v=Value.int IntKind.i64 n/\InR .i64 n)/\True)/\(InR .i64 (toI (cs_1.getD o (Value.tuple #[])))->InR .i64 (toI (cs_1.getD o (Value.tuple #[]))+(64:Int))/\∃ b o_3:Nat,cs.getD o_1 (Value.tuple #[])=pv b o_3/\∃ b_3 o_4:Nat,pv b o_3=pv b_3 o_4/\∃ b lo o_5:Nat,∃ cs_2:List Value,pv b_3 (o_4+4)=pv b (lo+o_5)/\a_11.H b=some (lo,cs_2)/\((∃ v:Value,cs_2[o_5]? = some v/\v.oneCell'=true)/\True)/\(∃ a:Option Go.Addr,∃ l c:Nat,cs_2.getD o_5 (Value.tuple #[])=Value.slice a l c/\l<=lenMax)/\(decide (0<(↑(slLen (cs_2.getD o_5 (Value.tuple #[]))):Int))=true->∃ b o:Nat,cs.getD o_1 (Value.tuple #[])=pv b o/\∃ b_4 o_6:Nat,pv b o=pv b_4 o_6/\∃ b lo o:Nat,∃ cs:List Value,pv b_4 (o_6+4)=pv b (lo+o)/\a_11.H b=some (lo,cs)/\((∃ v:Value,cs[o]? = some v/\v.oneCell'=true)/\True)/\InR .i64 ((↑(slLen (cs_2.getD o_5 (Value.tuple #[]))):Int) - 1)/\∃ b o_7:Nat,∃ l c:Nat,cs.getD o (Value.tuple #[])=slv b o_7 l c/\(0<=(↑(slLen (cs_2.getD o_5 (Value.tuple #[]))):Int) - 1/\(↑(slLen (cs_2.getD o_5 (Value.tuple #[]))):Int) - 1<(↑l:Int))/\∃ b_5 o:Nat,pv b (o_7+((↑(slLen (cs_2.getD o_5 (Value.tuple #[]))):Int) - 1).toNat*2)=pv b_5 o/\∃ b lo o_8:Nat,∃ cs:List Value,pv b_5 (o+0)=pv b (lo+o_8)/\a_11.H b=some (lo,cs)/\((∃ v:Value,cs[o_8]? = some v/\∃ n:Int,v=Value.int IntKind.i64 n/\InR .i64 n)/\True)/\(InR .i64 (toI (cs.getD o_8 (Value.tuple #[]))) ->
 InR .i64 (toI (cs.getD o_8 (Value.tuple #[]))+(1:Int))/\InR .i64 (toI (cs.getD o_8 (Value.tuple #[]))+(1:Int)+64)/\∃ b:BegB,0=0/\(0:Int)=0/\0=0/\(↑(opL a.from_ a.segs a.d a_11.k).from_:Int)=(↑(openM a.from_ a.segs a.d).from_:Int)/\(↑(opL a.from_ a.segs a.d a_11.k).segs:Int)=(↑(openM a.from_ a.segs a.d).segs:Int)/\a_17.y.lv=b.y.lv/\toI (cs.getD o_8 (Value.tuple #[]))+(1:Int)+64=(openM a.from_ a.segs a.d).next/\(opL a.from_ a.segs a.d a_11.k).run=(openM a.from_ a.segs a.d).run/\(opL a.from_ a.segs a.d a_11.k).fresh=(openM a.from_ a.segs a.d).fresh/\a_11.H=b.H/\(LogAt b.H b.y (openM a.from_ a.segs a.d)/\∀ x:Nat,a.H x≠none->b.H x=a.H x/\¬x∈fpLog b.y)/\True))/\(decide (0<(↑(slLen (cs_2.getD o_5 (Value.tuple #[]))):Int))=false->∃ b:BegB,0=0/\(0:Int)=0/\0=0/\(↑(opL a.from_ a.segs a.d a_11.k).from_:Int)=(↑(openM a.from_ a.segs a.d).from_:Int)/\(↑(opL a.from_ a.segs a.d a_11.k).segs:Int)=(↑(openM a.from_ a.segs a.d).segs:Int)/\a_17.y.lv=b.y.lv/\toI (cs_1.getD o (Value.tuple #[]))+(64:Int)=(openM a.from_ a.segs a.d).next/\(opL a.from_ a.segs a.d a_11.k).run=(openM a.from_ a.segs a.d).run/\(opL a.from_ a.segs a.d a_11.k).fresh=(openM a.from_ a.segs a.d).fresh/\a_11.H=b.H/\(LogAt b.H b.y (openM a.from_ a.segs a.d)/\∀ x:Nat,a.H x≠none->b.H x=a.H x/\¬x∈fpLog b.y)/\True)))/\(decide (0<(↑(slLen a_11.y.lv):Int))=false->∃ b:BegB,0=0/\(0:Int)=0 /\
 0=0/\logQ (opL a.from_ a.segs a.d a_11.k) (openM a.from_ a.segs a.d) a_11.y.lv b.y.lv (a_11.H=b.H/\(LogAt b.H b.y (openM a.from_ a.segs a.d)/\∀ x:Nat,a.H x≠none->b.H x=a.H x/\¬x∈fpLog b.y)/\True)))))))) (by kernel_rfl) (by
 rintro ⟨H,d,fr,sg⟩ ok;dsimp only at *;have ok:OpenOk fr sg d:=ok;obtain ⟨s1,s2⟩:=ok.few;have s3:=ok.room;have s4:=ok.size;refine fun _=>⟨fun c=>by exfalso;have:=of_decide_eq_true c;omega,fun _ _=>⟨fun c=>by exfalso;have:=of_decide_eq_true c;omega,fun _=>⟨fun c=>by exfalso;have:=of_decide_eq_true c;omega,fun _ _=>⟨by simp only [InR];omega,by simp only [InR];omega,fun c=>by exfalso;have:=of_decide_eq_true c;omega,fun _ _ _=>⟨⟨⟨0,H,⟨.slice none 0 0,[]⟩⟩,?_⟩,?_⟩⟩⟩⟩⟩
 ·have h0:LogAt H ⟨.slice none 0 0,[]⟩ (opL fr sg d 0):=⟨⟨0,.inl ⟨rfl,rfl,rfl⟩⟩,rfl,fun i hi=>absurd hi (Nat.not_lt_zero i),by simp [fpV]⟩
  have h1:∀ z,H z≠none->H z=H z/\¬ z∈fpLog ⟨.slice none 0 0,[]⟩:=fun z _=>⟨rfl,by simp [fpLog,fpV]⟩
  (repeat' apply And.intro)<;>first|with_reducible (first|rfl|trivial|assumption)|omega|with_reducible (first|exact RowsEq.refl _ _ _|exact Nat.le_refl _)|(dsimp only [List.length_cons,List.length_nil]<;>omega)|exact h0|exact h1|rfl|exact fun _ _=>⟨trivial,by simp [fpLog,fpV]⟩
 ·rintro ⟨k,X,Y⟩ ⟨hk,hX,hfr⟩;dsimp only at *;obtain ⟨e1,_,⟨ea,ec,e2⟩,e3,e5⟩:=hX.lv_len;obtain ⟨m1,m2,m3,m4⟩:=opL_same fr sg d k;refine ⟨fun c1=>?_,fun c1=>?_⟩
  ·have hk':k<sg:=by have:=of_decide_eq_true c1;omega
   have hrd:=ok.rd k hk';obtain ⟨hr1,hr2⟩:=opL_run ok k (by omega);have hstep:opL fr sg d (k+1)={ opL fr sg d k with l:=(opL fr sg d k).l++(segOf (opL fr sg d k) d k).toList,run:=(rdTo (opL fr sg d k) d k 8).run }:=rfl;obtain ⟨L,hL⟩:∃ L,L=opL fr sg d k:=⟨_,rfl⟩
   rw [<- hL] at hX e1 e2 e3 m1 m2 m3 m4 hrd hr1 hr2 hstep ⊢;refine ⟨RSegA.mk X L Y.lv d k,?_⟩
   (repeat' apply And.intro)<;>first|with_reducible (first|rfl|trivial|assumption)|omega|with_reducible (first|exact RowsEq.refl _ _ _|exact Nat.le_refl _)|(dsimp only [List.length_cons,List.length_nil]<;>omega)|exact hrd|(dsimp only;omega)|skip
   rintro ⟨X1,sl,v⟩ hpost;dsimp only at hpost ⊢;cases hseg:segOf L d k with
   | none =>
    rw [hseg] at hpost;obtain ⟨hv,hf⟩:=hpost;dsimp only at hv hf;subst hv;have hX1:LogAt X1 Y (opL fr sg d (k+1)):=(hX.frame fun x hx=>hf x (hX.dom x hx)).congr (by rw [hstep,hseg];simp);have hz:∀ z,H z≠none->X1 z=H z/\¬ z∈fpLog Y:=fun z hz=>by
     obtain ⟨a1,a2⟩:=hfr z hz;exact ⟨(hf z (by rw [a1];exact hz)).trans a1,a2⟩
    refine ⟨⟨_,rfl⟩,fun c=>absurd c (by decide),fun _=>⟨by simp only [InR];omega,⟨k+1,X1,Y⟩,?_⟩⟩
    (repeat' apply And.intro)<;>first|with_reducible (first|rfl|trivial|assumption)|omega|with_reducible (first|exact RowsEq.refl _ _ _|exact Nat.le_refl _)|(dsimp only [List.length_cons,List.length_nil]<;>omega)|exact hX1|exact hz|(rw [hstep];done)|rfl|skip
   | some g =>
    rw [hseg] at hpost;obtain ⟨hv,hs,hf⟩:=hpost;dsimp only at hv hs hf;subst hv;have hXf:LogAt X1 Y L:=hX.frame fun x hx=>(hf x (hX.dom x hx)).1;refine ⟨⟨_,rfl⟩,fun _=>?_,fun c=>absurd c (show ¬ (true=false) by decide)⟩;obtain ⟨c0,hsl⟩:=hXf.lst;refine ⟨_,c0,_,hsl,?_⟩;have hone:L.l.length<=100000:=by
     have:=ok.few;have:∀ j,(opL fr sg d j).l.length<=j:=fun j=>by
      induction j with
      | zero=>exact Nat.le_refl _
      | succ j ih =>
       show ((opL fr sg d j).l++(segOf (opL fr sg d j) d j).toList).length<=_;rw [List.length_append];have:(segOf (opL fr sg d j) d j).toList.length<=1:=by cases segOf (opL fr sg d j) d j<;>simp
       omega
     have:=this k;rw [<- hL] at this;omega
    repeat (first|refine And.intro (by omega) ?_|refine And.intro (by dsimp only;omega) ?_|refine And.intro (by simp only [InR];omega) ?_)
    intro cap q1 q2 q3
    repeat (first|refine And.intro (by omega) ?_|refine And.intro (by dsimp only;omega) ?_|refine And.intro (by simp only [InR];omega) ?_)
    intro p1 lo1 cs1 hp1 hl1 hr1;have hpush:=push_at (lo:=lo1) (L':=opL fr sg d (k+1)) hXf hs (fun x hx=>(hf x (hX.dom x hx)).2) hp1 hl1 q1 q2 hr1 (by
     intro i hi;simp only [Nat.zero_add,appRows,ptrR];rw [gl_app (by rw [hX.len];exact hi),hX.len];by_cases hin:i<L.l.length
     ·rw [if_pos hin,if_pos hin]
     ·rw [if_neg hin,if_neg hin,show i - L.l.length=0 by omega];rfl) (by rw [hstep,hseg];rfl)
    have hz:∀ z,H z≠none->pupd (pminusV X1 Y.lv) p1 lo1 cs1 z=H z/\¬ z∈fpLog ⟨slv p1 lo1 (L.l.length+1) cap,Y.ys++[sl]⟩:=fun z hz=>by
     obtain ⟨a1,a2⟩:=hfr z hz;obtain ⟨b1,b2⟩:=hf z (by rw [a1];exact hz);obtain ⟨c1,c2⟩:=hpush.2 z (by rw [b1,a1];exact hz) a2 b2;exact ⟨c1.trans (b1.trans a1),c2⟩
    refine ⟨by simp only [InR];omega,⟨k+1,pupd (pminusV X1 Y.lv) p1 lo1 cs1,⟨slv p1 lo1 (L.l.length+1) cap,Y.ys++[sl]⟩⟩,?_⟩
    (repeat' apply And.intro)<;>first|with_reducible (first|rfl|trivial|assumption)|omega|with_reducible (first|exact RowsEq.refl _ _ _|exact Nat.le_refl _)|(dsimp only [List.length_cons,List.length_nil]<;>omega)|exact hpush.1|exact hz|(rw [hstep];done)|rfl|skip
  ·have hk':k=sg:=by have:=of_decide_eq_false c1;omega
   subst hk';have hone:=ok.one;have hrng:=ok.rng;have hM:(openM fr k d).l=(opL fr k d k).l:=rfl;have hM2:(openM fr k d).next=nextOf (opL fr k d k).l:=rfl
   have hM3:(openM fr k d).from_=fr/\(openM fr k d).segs=k/\(openM fr k d).run=(opL fr k d k).run/\(openM fr k d).fresh=true:=⟨m1,m2,rfl,m4⟩
   obtain ⟨L,hL⟩:∃ L,L=opL fr k d k:=⟨_,rfl⟩
   rw [<- hL] at hX e1 e2 e3 m1 m2 m3 m4 hone hrng hM hM2 hM3 ⊢;obtain ⟨M,hMM⟩:∃ M,M=openM fr k d:=⟨_,rfl⟩
   rw [<- hMM] at hM hM2 hM3 ⊢;obtain ⟨n1,n2,n3,n4⟩:=hM3;have hXM:LogAt X Y M:=hX.congr hM;refine ⟨OneA.mk Y.lv L.l.length,rfl,⟨hone,⟨ea,ec,e2⟩,e5⟩,fun _ _=>⟨⟨ea,_,ec,e2,e3⟩,fun c2=>?_,fun c2=>⟨⟨X,Y⟩,?_⟩⟩⟩
   ·rw [e1] at c2;have hn:0<L.l.length:=by have:=of_decide_eq_true c2;omega
    have hk1:L.l.length - 1<L.l.length:=by omega
    obtain ⟨b,lo,o,c,cs,g1,g2,g3,g4⟩:=hX.at_ hk1;have hs:=hX.seg _ hk1;obtain ⟨r1,r2,r3⟩:=hs.rng;obtain ⟨u1,u2,u3,u4⟩:=hrng _ hk1;have hlast:L.l.getLast? = some (gl L.l (L.l.length - 1)):=by rw [gl_eq hk1,List.getLast?_eq_getElem?,List.getElem?_eq_getElem hk1]
    have hall:∀ i,i<L.l.length->(gl L.l (L.l.length - 1)).gen - (k:Int)<(gl L.l i).gen:=fun i hi=>by
     have:i=L.l.length - 1:=by omega
     rw [this];omega
    obtain ⟨sl,hsl⟩:∃ sl,sl=gl Y.ys (L.l.length - 1):=⟨_,rfl⟩
    obtain ⟨g,hg⟩:∃ g,g=gl L.l (L.l.length - 1):=⟨_,rfl⟩
    rw [<- hg] at hs r1 r2 r3 u1 u2 u3 u4 hlast hall;rw [<- hsl] at g3 g4 hs;have e6:((L.l.length:Int) - 1).toNat=L.l.length - 1:=by omega
    rw [e1];refine ⟨by simp only [InR];omega,_,_,_,_,g1,by omega,b,lo,o+(L.l.length - 1)*1,cs,by rw [e6,Nat.add_assoc],g2,⟨⟨_,g3,rfl⟩,trivial⟩,DelOA.mk X Y L sl.b g.gen k,?_⟩
    (repeat' apply And.intro)<;>first|with_reducible (first|rfl|trivial|assumption)|omega|with_reducible (first|exact RowsEq.refl _ _ _|exact Nat.le_refl _)|(dsimp only [List.length_cons,List.length_nil]<;>omega)|exact g4|exact hX|exact r1.1|exact r1.2|exact hall|exact ⟨_,hs.cell⟩|(dsimp only;omega)|skip
    intro _ _;obtain ⟨c9,hrec⟩:=hs.recs;obtain ⟨w1,w2,w3,w4,w5,⟨wa,w7⟩,w6⟩:=slAt_len hrec;refine ⟨_,_,g4,?_⟩;refine ⟨_,_,rfl,?_⟩;refine ⟨_,0,_,_,rfl,hs.cell,?_⟩;refine ⟨⟨⟨_,rfl,_,rfl,r2⟩,trivial⟩,fun _=>?_⟩;simp only [show toI ((segC g sl.bv sl.rv).getD 1 (Value.tuple #[]))=g.base from rfl];refine ⟨by simp only [InR];omega,_,_,g4,?_⟩;refine ⟨_,_,rfl,?_⟩;refine ⟨_,0,_,_,rfl,hs.cell,?_⟩;refine ⟨⟨⟨_,rfl,w6⟩,trivial⟩,⟨wa,_,_,w7,by omega⟩,?_⟩;simp only [show (segC g sl.bv sl.rv).getD 4 (Value.tuple #[])=sl.rv from rfl,w1];refine ⟨fun c3=>?_,fun c3=>⟨⟨X,Y⟩,?_⟩⟩
    ·have hq:0<g.recs.length:=by have:=of_decide_eq_true c3;omega
     have hq1:g.recs.length - 1<g.recs.length:=by omega
     have hrl:g.recs.getLast? = some (gl g.recs (g.recs.length - 1)):=by rw [gl_eq hq1,List.getLast?_eq_getElem?,List.getElem?_eq_getElem hq1]
     have hnx:M.next=(gl g.recs (g.recs.length - 1)).pos+65:=by rw [hM2];simp only [nextOf,hlast,hrl]
     obtain ⟨b',lo',o',cs',q1,q2,q3,q4,q5,q6,q7,q8⟩:=rec_at hrec (k:=g.recs.length - 1) hq1;obtain ⟨p1,p2⟩:=u4 _ hq1;have e7:((g.recs.length:Int) - 1).toNat=g.recs.length - 1:=by omega
     refine ⟨_,_,g4,?_⟩;refine ⟨_,_,rfl,?_⟩;refine ⟨_,0,_,_,rfl,hs.cell,?_⟩;refine ⟨⟨⟨_,rfl,w6⟩,trivial⟩,by simp only [InR,lenMax] at *;omega,?_⟩;simp only [show (segC g sl.bv sl.rv).getD 4 (Value.tuple #[])=sl.rv from rfl];refine ⟨_,_,_,_,q1,by omega,_,_,rfl,b',lo',o'+(g.recs.length - 1)*2,cs',by rw [e7];congr 1;omega,q2,⟨⟨_,q3,_,rfl,q6⟩,trivial⟩,fun _=>?_⟩;rw [q7];simp only [toI];refine ⟨by simp only [InR];omega,by simp only [InR];omega,⟨X,Y⟩,?_⟩
     (repeat' apply And.intro)<;>first|with_reducible (first|rfl|trivial|assumption)|omega|with_reducible (first|exact RowsEq.refl _ _ _|exact Nat.le_refl _)|(dsimp only [List.length_cons,List.length_nil]<;>omega)|exact hXM|exact hfr|(rw [n3];done)|(rw [n4,m4];done)|(dsimp only;omega)|skip
    ·have hq:g.recs.length=0:=by have:=of_decide_eq_false c3;omega
     have hrl:g.recs.getLast? = none:=by rw [List.eq_nil_of_length_eq_zero hq];rfl
     have hnx:M.next=g.base+64:=by rw [hM2];simp only [nextOf,hlast,hrl]
     (repeat' apply And.intro)<;>first|with_reducible (first|rfl|trivial|assumption)|omega|with_reducible (first|exact RowsEq.refl _ _ _|exact Nat.le_refl _)|(dsimp only [List.length_cons,List.length_nil]<;>omega)|exact hXM|exact hfr|(rw [n3];done)|(rw [n4,m4];done)|(dsimp only;omega)|skip
   ·rw [e1] at c2;have hn:L.l=[]:=List.eq_nil_of_length_eq_zero (by have:=of_decide_eq_false c2;omega);have hnx:M.next=1:=by rw [hM2,hn];rfl
    (repeat' apply And.intro)<;>first|with_reducible (first|rfl|trivial|assumption)|omega|with_reducible (first|exact RowsEq.refl _ _ _|exact Nat.le_refl _)|(dsimp only [List.length_cons,List.length_nil]<;>omega)|exact hXM|exact hfr|(rw [n3];done)|(rw [n4,m4];done)|(rw [hnx,m3];done)|(dsimp only;omega)|skip)
theorem callLOpen:CallsBy (Y Tryz.prog).G.X 85 cLOpen:=fn_ok okY (tab:=[(102,cReadS),(103,cSort1),(97,cNoDelO)]) ⟨callReadS,callSort1,callNoDelO,trivial⟩ bodyLOpen
end Go.Proofs.YtfhkbihcfmbbcaaGreat

namespace Go.Proofs.YtfhkbihcfmbbcaaGreat
open Go.Sx
set_option maxRecDepth 100000
set_option linter.unusedVariables false
set_option linter.unusedSimpArgs false
structure OutAt (H:PH) (v:Value) (vs:List Value) (rs:List RecM):Prop where
 rows:∃ c,slAt H v ksRec rs.length c (recR rs vs)
 len:vs.length=rs.length
 body:∀ i,i<rs.length->BytesAt H (vs.getD i undef) (gl rs i).body
 sep:∀ x∈fpV v,x∉vs.flatMap fpV
theorem vs_mem {vs:List Value} {i x:Nat} (hi:i<vs.length) (hx:x∈fpV (vs.getD i undef)):x∈vs.flatMap fpV:=by
 refine List.mem_flatMap.2 ⟨_,?_,hx⟩;rw [List.getD_eq_getElem?_getD,List.getElem?_eq_getElem hi];exact List.getElem_mem _
theorem OutAt.dom {H:PH} {v:Value} {vs:List Value} {rs:List RecM} (h:OutAt H v vs rs):∀ x,x∈fpV v\/x∈vs.flatMap fpV->H x≠none:=by
 rintro x (hx|hx)
 ·obtain ⟨c,hr⟩:=h.rows;exact slAt_dom hr x hx
 ·obtain ⟨u,hu,hx⟩:=List.mem_flatMap.1 hx;obtain ⟨i,hi,rfl⟩:=List.getElem_of_mem hu;obtain ⟨c,hb⟩:=h.body i (by rw [<- h.len];exact hi);rw [List.getD_eq_getElem?_getD,List.getElem?_eq_getElem hi] at hb;exact slAt_dom hb x hx
theorem OutAt.push {H:PH} {v:Value} {vs:List Value} {rs:List RecM} {r:RecM} {p3 lo3 p4 lo4 cap3 cap4 n:Nat} {cs3 cs4:List Value} (h:OutAt H v vs rs) (hn:n=r.body.length) (hp3:H p3=none)
 (hb:BytesAt (pupd H p3 lo3 cs3) (slv p3 lo3 n cap3) r.body) (hp4:pminusV (pupd H p3 lo3 cs3) v p4=none)
 (hr:slAt (pupd (pminusV (pupd H p3 lo3 cs3) v) p4 lo4 cs4) (slv p4 lo4 (rs.length+1) cap4) ksRec (rs.length+1) cap4 (recR (rs++[r]) (vs++[slv p3 lo3 n cap3]))) :
 OutAt (pupd (pminusV (pupd H p3 lo3 cs3) v) p4 lo4 cs4) (slv p4 lo4 (rs.length+1) cap4) (vs++[slv p3 lo3 n cap3]) (rs++[r]) /\
 ∀ z,H z≠none->z∉fpV v->z∉vs.flatMap fpV->pupd (pminusV (pupd H p3 lo3 cs3) v) p4 lo4 cs4 z=H z/\z∉fpV (slv p4 lo4 (rs.length+1) cap4)/\z∉(vs++[slv p3 lo3 n cap3]).flatMap fpV:=by
 have hd:=h.dom;have h3:∀ z,H z≠none->z≠p3:=fun z hz e=>hz (by rw [e];exact hp3);have h3v:p3∉fpV v:=fun e=>hd p3 (.inl e) hp3;have h34:p4≠p3:=fun e=>by rw [e,pminusV_ne h3v,pupd_self] at hp4;cases hp4
 have hz4:∀ z,H z≠none->z∉fpV v->z≠p4:=fun z hz hv e=>by
  rw [<- e,pminusV_ne hv,pupd_ne (h3 z hz)] at hp4;exact hz hp4
 have same:∀ z,H z≠none->z∉fpV v->pupd (pminusV (pupd H p3 lo3 cs3) v) p4 lo4 cs4 z=H z:=fun z hz hv=>by
  rw [pupd_ne (hz4 z hz hv),pminusV_ne hv,pupd_ne (h3 z hz)]
 have hvs:∀ z∈vs.flatMap fpV,z∉fpV v:=fun z hz e=>h.sep z e hz;refine ⟨⟨⟨cap4,by simpa using hr⟩,by simp [h.len],fun i hi=>?_,fun x hx=>?_⟩,fun z hz hv hs=>⟨same z hz hv,?_,?_⟩⟩
 ·rw [List.length_append,List.length_singleton] at hi;rw [gl_app hi];by_cases hin:i<rs.length
  ·rw [if_pos hin,List.getD_eq_getElem?_getD,List.getElem?_append_left (by rw [h.len];exact hin),<- List.getD_eq_getElem?_getD];refine (h.body i hin).frame fun x hx=>?_;have hm:=vs_mem (by rw [h.len];exact hin) hx;exact same x (hd x (.inr hm)) (hvs x hm)
  ·rw [if_neg hin];have e1:(vs++[slv p3 lo3 n cap3]).getD i undef=slv p3 lo3 n cap3:=by
    rw [List.getD_eq_getElem?_getD,List.getElem?_append_right (by rw [h.len];omega),show i - vs.length=0 by rw [h.len];omega];rfl
   rw [e1];refine hb.frame fun x hx=>?_;simp only [fpV,slv,List.mem_singleton] at hx;rw [hx,pupd_ne h34.symm,pminusV_ne h3v]
 ·simp only [fpV,slv,List.mem_singleton] at hx;subst hx;simp only [List.flatMap_append,List.mem_append,not_or];refine ⟨fun e=>?_,by simpa [fpV,slv] using h34⟩;exact hz4 x (hd x (.inr e)) (hvs x e) rfl
 ·simp only [fpV,slv,List.mem_singleton];exact hz4 z hz hv
 ·simp only [List.flatMap_append,List.mem_append,not_or];exact ⟨hs,by simpa [fpV,slv] using h3 z hz⟩
def allR (l:List SegM):List RecM:=l.flatMap (·.recs)
def outR (l:List SegM) (i j:Nat):List RecM:=allR (l.take i)++(gl l i).recs.take j
theorem outR_push {l:List SegM} {i j:Nat} (hj:j<(gl l i).recs.length):outR l i (j+1)=outR l i j++[gl (gl l i).recs j]:=by
 unfold outR;rw [take_push hj,List.append_assoc]
theorem outR_next {l:List SegM} {i j:Nat} (hi:i<l.length) (hj:(gl l i).recs.length<=j):outR l i j=allR (l.take (i+1)):=by
 unfold outR allR;rw [flatMap_push hi,List.take_of_length_le hj]
structure LAllA where
 H:PH
 y:LogL
 L:LogM
structure LAllB where
 H:PH
 v:Value
 vs:List Value
structure LAllS where
 i:Nat
 j:Nat
 H:PH
 v:Value
 vs:List Value
noncomputable def cLAll:Con where
 α:=LAllA
 β:=LAllB
 m:=3
 m':=4
 pre:=fun a=>LogAt a.H a.y a.L/\a.L.l.length<1000/\∀ i,i<a.L.l.length->(gl a.L.l i).recs.length<=400/\∀ k,k<(gl a.L.l i).recs.length->1<=(gl (gl a.L.l i).recs k).body.length/\(gl (gl a.L.l i).recs k).body.length<=1000
 args:=fun a=>[.a (.ptr 0 0 0 0)]
 hp:=fun a=>[(1,.pool a.H)]
 ro:=fun a=>[(0,logObj 2 a.L a.y.lv)]
 post:=fun a b=>OutAt b.H b.v b.vs (allR a.L.l)/\∀ z,a.H z≠none->b.H z=a.H z/\z∉fpV b.v/\z∉b.vs.flatMap fpV
 res:=fun _ b=>.a (.val b.v)
 hp':=fun _ b=>[(3,.pool b.H)]
structure AllI (a:LAllA) (x:LAllS) (rs:List RecM):Prop where
 out:OutAt x.H x.v x.vs rs
 fr:∀ z,a.H z≠none->x.H z=a.H z/\z∉fpV x.v/\z∉x.vs.flatMap fpV
def iLAll2 (a:LAllA) (i:Nat):An:=.flat 8 LAllS (fun s x=>S.pool ((s.set 3 (.a (.val x.v))).int 24 x.j) x.H) (fun _ x=>x.j<=(gl a.L.l i).recs.length/\AllI a x (outR a.L.l i x.j)) (fun _ x=>(gl a.L.l i).recs.length - x.j)
def iLAll (a:LAllA):An:=.mk 5 LAllS (fun s x=>S.pool ((s.set 3 (.a (.val x.v))).int 15 x.i) x.H) (fun _ x=>x.i<=a.L.l.length/\AllI a x (allR (a.L.l.take x.i))) (fun _ x=>a.L.l.length - x.i) fun x=>.mk 60 [iLAll2 a x.i] []
set_option maxHeartbeats 4000000 in
theorem bodyLAll:fnBody (Y Tryz.prog) [] 86 cLAll fun a=>[(86,[iLAll a],[])]:=fnBody.of (p :=
 ∀ a:LAllA,(LogAt a.H a.y a.L/\a.L.l.length<1000/\∀ i:Nat,i<a.L.l.length->(gl a.L.l i).recs.length<=400/\∀ k:Nat,k<(gl a.L.l i).recs.length->1<=(gl (gl a.L.l i).recs k).body.length/\(gl (gl a.L.l i).recs k).body.length<=1000)->(∃ a_2:Option Go.Addr,∃ l c:Nat,a.y.lv=Value.slice a_2 l c/\l<=lenMax)/\(∃ a_2:LAllS,0=(↑a_2.i:Int)/\Value.slice none 0 0=a_2.v/\(↑(slLen a.y.lv):Int)=(↑(slLen a.y.lv):Int)/\a.y.lv=a.y.lv/\false=false/\0=0/\a.H=a_2.H/\0=0/\logQ a.L a.L a.y.lv a.y.lv ((a_2.i<=a.L.l.length/\AllI a a_2 (allR (List.take a_2.i a.L.l)))/\True))/\∀ a_2:LAllS,a_2.i<=a.L.l.length/\AllI a a_2 (allR (List.take a_2.i a.L.l))->(decide ((↑a_2.i:Int)<(↑(slLen a.y.lv):Int))=true->∃ b o:Nat,∃ l c:Nat,a.y.lv=slv b o l c/\(0<=(↑a_2.i:Int)/\(↑a_2.i:Int)<(↑l:Int))/\∃ b_1 lo o_1:Nat,∃ cs:List Value,pv b (o+(↑a_2.i:Int).toNat*1)=pv b_1 (lo+o_1)/\a_2.H b_1=some (lo,cs)/\((∃ v:Value,cs[o_1]? = some v/\v.oneCell'=true)/\True)/\∃ b o:Nat,cs.getD o_1 (Value.tuple #[])=pv b o/\∃ b_2 o_2:Nat,pv b o=pv b_2 o_2/\∃ b lo o:Nat,∃ cs_1:List Value,pv b_2 (o_2+4)=pv b (lo+o)/\a_2.H b=some (lo,cs_1)/\((∃ v:Value,cs_1[o]? = some v/\v.oneCell'=true)/\True)/\(∃ a:Option Go.Addr,∃ l c:Nat,cs_1.getD o (Value.tuple #[])=Value.slice a l c/\l<=lenMax)/\(∃ a_5:LAllS,0=(↑a_5.j:Int)/\a_2.v=a_5.v/\(↑(slLen (cs_1.getD o (Value.tuple #[]))):Int)=(↑(slLen (cs_1.getD o (Value.tuple #[]))):Int) /\
 cs_1.getD o (Value.tuple #[])=cs_1.getD o (Value.tuple #[])/\cs.getD o_1 (Value.tuple #[])=cs.getD o_1 (Value.tuple #[])/\decide ((↑a_2.i:Int)<(↑(slLen a.y.lv):Int))=decide ((↑a_2.i:Int)<(↑(slLen a.y.lv):Int))/\(↑a_2.i:Int)=(↑a_2.i:Int)/\(↑(slLen a.y.lv):Int)=(↑(slLen a.y.lv):Int)/\a.y.lv=a.y.lv/\false=false/\0=0/\a_2.H=a_5.H/\0=0/\logQ a.L a.L a.y.lv a.y.lv ((a_5.j<=(gl a.L.l a_2.i).recs.length/\AllI a a_5 (outR a.L.l a_2.i a_5.j))/\True))/\∀ a_5:LAllS,a_5.j<=(gl a.L.l a_2.i).recs.length/\AllI a a_5 (outR a.L.l a_2.i a_5.j)->(decide ((↑a_5.j:Int)<(↑(slLen (cs_1.getD o (Value.tuple #[]))):Int))=true->∃ b o_3:Nat,∃ l c:Nat,cs_1.getD o (Value.tuple #[])=slv b o_3 l c/\(0<=(↑a_5.j:Int)/\(↑a_5.j:Int)<(↑l:Int))/\∃ b_3 lo o_4:Nat,∃ cs_2:List Value,pv b (o_3+(↑a_5.j:Int).toNat*2)=pv b_3 (lo+o_4)/\a_5.H b_3=some (lo,cs_2)/\((∃ v:Value,cs_2[o_4]? = some v/\∃ n:Int,v=Value.int IntKind.i64 n/\InR .i64 n)/\(∃ v:Value,cs_2[o_4+1]? = some v/\v.oneCell'=true)/\True)/\(InR .i64 (toI (cs_2.getD o_4 (Value.tuple #[])))->(∃ a:Option Go.Addr,∃ l c:Nat,cs_2.getD (o_4+1) (Value.tuple #[])=Value.slice a l c)/\(nilS (cs_2.getD (o_4+1) (Value.tuple #[]))=true->∃ l c:Nat,∃ rows:Nat->Nat->Value,slAt a_5.H a_5.v [CK.int IntKind.i64,CK.deep] l c rows/\0+l<=l/\1<=1/\(l+1)*32<=140737488355328/\∀ cap:Nat,l+1<=cap->cap<=lenMax->(l+1<=c ->
 cap=c)->(cap≠0/\0+(l+1)<=l+1)/\∀ (b lo:Nat) (cs_3:List Value),pminusV a_5.H a_5.v b=none->cs_3.length=cap*2->(PRows cs_3 0 [CK.int IntKind.i64,CK.deep] (l+1) fun (i j:Nat)=>appRows rows 0 l (fun (i j:Nat)=>flatRows 2 [Value.int IntKind.i64 (toI (cs_2.getD o_4 (Value.tuple #[]))),Value.slice none 0 0] (0+i) j) (0+i) j)->InR .i64 ((↑a_5.j:Int)+1)/\∃ (a':LAllS),(↑a_5.j:Int)+1=(↑a'.j:Int)/\slv b lo (l+1) cap=a'.v/\(↑(slLen (cs_1.getD o (Value.tuple #[]))):Int)=(↑(slLen (cs_1.getD o (Value.tuple #[]))):Int)/\cs_1.getD o (Value.tuple #[])=cs_1.getD o (Value.tuple #[])/\cs.getD o_1 (Value.tuple #[])=cs.getD o_1 (Value.tuple #[])/\decide ((↑a_2.i:Int)<(↑(slLen a.y.lv):Int))=decide ((↑a_2.i:Int)<(↑(slLen a.y.lv):Int))/\(↑a_2.i:Int)=(↑a_2.i:Int)/\(↑(slLen a.y.lv):Int)=(↑(slLen a.y.lv):Int)/\a.y.lv=a.y.lv/\false=false/\0=0/\pupd (pminusV a_5.H a_5.v) b lo cs_3=a'.H/\0=0/\logQ a.L a.L a.y.lv a.y.lv ((a'.j<=(gl a.L.l a_2.i).recs.length/\AllI a a' (outR a.L.l a_2.i a'.j))/\(gl a.L.l a_2.i).recs.length - a'.j<(gl a.L.l a_2.i).recs.length - a_5.j))/\(nilS (cs_2.getD (o_4+1) (Value.tuple #[]))=false->0<=0/\∃ l c:Nat,∃ rows:Nat->Nat->Value,slAt a_5.H (cs_2.getD (o_4+1) (Value.tuple #[])) [CK.int IntKind.u8] l c rows/\(0+l)*1<=140737488355328/\∀ cap:Nat,0+l<=cap->cap<=lenMax->(0+l<=0->cap=0)->(cap≠0/\0+(0+l)<=0+l)/\∀ (b lo:Nat) (cs_3:List Value),a_5.H b=none ->
 cs_3.length=cap*1->(PRows cs_3 0 [CK.int IntKind.u8] (0+l) fun (i j:Nat)=>appRows (flatRows 1 []) 0 0 rows (0+i) j)->∃ l_1 c:Nat,∃ rows:Nat->Nat->Value,slAt (pupd a_5.H b lo cs_3) a_5.v [CK.int IntKind.i64,CK.deep] l_1 c rows/\0+l_1<=l_1/\(l_1+1)*32<=140737488355328/\∀ cap_1:Nat,l_1+1<=cap_1->cap_1<=lenMax->(l_1+1<=c->cap_1=c)->(cap_1≠0/\0+(l_1+1)<=l_1+1)/\∀ (b_4 lo_1:Nat) (cs_4:List Value),pminusV (pupd a_5.H b lo cs_3) a_5.v b_4=none->cs_4.length=cap_1*2->(PRows cs_4 0 [CK.int IntKind.i64,CK.deep] (l_1+1) fun (i j:Nat)=>appRows rows 0 l_1 (rowsOfA [A.int IntKind.i64 (toI (cs_2.getD o_4 (Value.tuple #[]))),A.val (slv b lo (0+l) cap)] 2) (0+i) j)->InR .i64 ((↑a_5.j:Int)+1)/\∃ (a':LAllS),(↑a_5.j:Int)+1=(↑a'.j:Int)/\slv b_4 lo_1 (l_1+1) cap_1=a'.v/\(↑(slLen (cs_1.getD o (Value.tuple #[]))):Int)=(↑(slLen (cs_1.getD o (Value.tuple #[]))):Int)/\cs_1.getD o (Value.tuple #[])=cs_1.getD o (Value.tuple #[])/\cs.getD o_1 (Value.tuple #[])=cs.getD o_1 (Value.tuple #[])/\decide ((↑a_2.i:Int)<(↑(slLen a.y.lv):Int))=decide ((↑a_2.i:Int)<(↑(slLen a.y.lv):Int))/\(↑a_2.i:Int)=(↑a_2.i:Int)/\(↑(slLen a.y.lv):Int)=(↑(slLen a.y.lv):Int)/\a.y.lv=a.y.lv/\false=false/\0=0/\pupd (pminusV (pupd a_5.H b lo cs_3) a_5.v) b_4 lo_1 cs_4=a'.H/\0=0/\logQ a.L a.L a.y.lv a.y.lv ((a'.j<=(gl a.L.l a_2.i).recs.length/\AllI a a' (outR a.L.l a_2.i a'.j)) /\
 (gl a.L.l a_2.i).recs.length - a'.j<(gl a.L.l a_2.i).recs.length - a_5.j))))/\(decide ((↑a_5.j:Int)<(↑(slLen (cs_1.getD o (Value.tuple #[]))):Int))=false->InR .i64 ((↑a_2.i:Int)+1)/\∃ (a':LAllS),(↑a_2.i:Int)+1=(↑a'.i:Int)/\a_5.v=a'.v/\(↑(slLen a.y.lv):Int)=(↑(slLen a.y.lv):Int)/\a.y.lv=a.y.lv/\false=false/\0=0/\a_5.H=a'.H/\0=0/\logQ a.L a.L a.y.lv a.y.lv ((a'.i<=a.L.l.length/\AllI a a' (allR (List.take a'.i a.L.l)))/\a.L.l.length - a'.i<a.L.l.length - a_2.i)))/\(decide ((↑a_2.i:Int)<(↑(slLen a.y.lv):Int))=false->∃ b:LAllB,a_2.v=b.v/\a_2.H=b.H/\(OutAt b.H b.v b.vs (allR a.L.l)/\∀ z:Nat,a.H z≠none->b.H z=a.H z/\¬z∈fpV b.v/\¬z∈List.flatMap fpV b.vs)/\True)) (by kernel_rfl) (by
 rintro ⟨H,y,L⟩ ⟨hl,h1,h2⟩;dsimp only at *;obtain ⟨e1,_,⟨ea,ec,e2⟩,e3,_⟩:=hl.lv_len;refine ⟨⟨ea,_,ec,e2,e3⟩,⟨⟨0,0,H,.slice none 0 0,[]⟩,?_⟩,fun x hx=>?_⟩
 ·have h0:AllI ⟨H,y,L⟩ ⟨0,0,H,.slice none 0 0,[]⟩ (allR (L.l.take 0)):=⟨⟨⟨0,.inl ⟨rfl,rfl,rfl⟩⟩,rfl,fun i hi=>absurd hi (Nat.not_lt_zero i),fun x hx=>by cases hx⟩,fun z _=>⟨rfl,by simp [fpV],by simp⟩⟩
  (repeat' apply And.intro)<;>first|with_reducible (first|rfl|trivial|assumption)|omega|with_reducible (first|exact RowsEq.refl _ _ _|exact Nat.le_refl _)|(dsimp only [List.length_cons,List.length_nil]<;>omega)|exact h0
 ·obtain ⟨i,j0,X,v,vs⟩:=x;obtain ⟨hi,hI⟩:=hx;dsimp only at hi hI ⊢;rw [e1];refine ⟨fun c1=>?_,fun c1=>?_⟩
  ·have hi':i<L.l.length:=by have:=of_decide_eq_true c1;omega
   have hX:LogAt X y L:=hl.frame fun x hx=>(hI.fr x (hl.dom x hx)).1;obtain ⟨b,lo,o,c,cs,g1,g2,g3,g4⟩:=hX.at_ hi';have hs:=hX.seg i hi';obtain ⟨c9,hrec⟩:=hs.recs;obtain ⟨m1,m2,m3,m4,m5,⟨ma,m7⟩,m6⟩:=slAt_len hrec;obtain ⟨hrl,hbl⟩:=h2 i hi';refine ⟨_,_,_,_,g1,by omega,b,lo,o+i*1,cs,by rw [Int.toNat_natCast,Nat.add_assoc],g2,⟨⟨_,g3,rfl⟩,trivial⟩,?_⟩;refine ⟨_,_,g4,?_⟩;refine ⟨_,_,rfl,?_⟩;refine ⟨_,0,_,_,rfl,hs.cell,?_⟩;refine ⟨⟨⟨_,rfl,m6⟩,trivial⟩,⟨ma,_,_,m7,by omega⟩,?_⟩;simp only [show (segC (gl L.l i) (gl y.ys i).bv (gl y.ys i).rv).getD 4 (Value.tuple #[])=(gl y.ys i).rv from rfl,m1];refine ⟨⟨⟨i,0,X,v,vs⟩,?_⟩,fun x2 hx2=>?_⟩
   ·have h0:AllI ⟨H,y,L⟩ ⟨i,0,X,v,vs⟩ (outR L.l i 0):=by
     have:outR L.l i 0=allR (L.l.take i):=by simp [outR]
     rw [this];exact ⟨hI.out,hI.fr⟩
    (repeat' apply And.intro)<;>first|with_reducible (first|rfl|trivial|assumption)|omega|with_reducible (first|exact RowsEq.refl _ _ _|exact Nat.le_refl _)|(dsimp only [List.length_cons,List.length_nil]<;>omega)|exact h0
   ·obtain ⟨i2,j,X,v,vs⟩:=x2;obtain ⟨hj,hJ⟩:=hx2;dsimp only at hj hJ ⊢;have hX:LogAt X y L:=hl.frame fun x hx=>(hJ.fr x (hl.dom x hx)).1;have hs:=hX.seg i hi';obtain ⟨c9,hrec⟩:=hs.recs;have hlen:(outR L.l i j).length<=400400:=by
     have a1:=flatMap_take_len (l:=L.l) (f:=fun g:SegM=>g.recs) (m:=400) (fun q hq=>(h2 q hq).1) i (by omega);unfold outR allR;rw [List.length_append,List.length_take];omega
    refine ⟨fun c2=>?_,fun c2=>⟨by simp only [InR];omega,⟨i+1,0,X,v,vs⟩,?_⟩⟩
    ·have hj':j<(gl L.l i).recs.length:=by have:=of_decide_eq_true c2;omega
     obtain ⟨b',lo',o',cs',q1,q2,q3,q4,q5,q6,q7,q8⟩:=rec_at hrec (k:=j) hj';obtain ⟨cb,hbody⟩:=hs.body j hj';obtain ⟨w1,w2,w3,w4,w5,⟨wa,w7⟩,w6⟩:=slAt_len hbody;obtain ⟨hb1,hb2⟩:=hbl j hj';have hnil:nilS ((gl y.ys i).vs.getD j undef)=false:=by
      rcases hbody with ⟨_,h0,_⟩ | ⟨b9,lo9,o9,cs9,h9,_⟩
      ·omega
      ·rw [h9];rfl
     refine ⟨_,_,_,_,q1,by omega,b',lo',o'+j*2,cs',by rw [Int.toNat_natCast];congr 1;omega,q2,⟨⟨_,q3,_,rfl,q6⟩,⟨_,q4,q5⟩,trivial⟩,fun _=>?_⟩;rw [q7,q8];refine ⟨⟨wa,_,_,w7⟩,fun c4=>absurd c4 (by rw [hnil];decide),fun _=>?_⟩
     repeat (first|refine And.intro (by omega) ?_|refine And.intro (by dsimp only;omega) ?_|refine And.intro (by simp only [InR];omega) ?_)
     refine ⟨_,cb,_,hbody,?_⟩;simp only [Nat.zero_add]
     repeat (first|refine And.intro (by omega) ?_|refine And.intro (by dsimp only;omega) ?_|refine And.intro (by simp only [InR];omega) ?_)
     intro cap3 u1 u2 u3
     repeat (first|refine And.intro (by omega) ?_|refine And.intro (by dsimp only;omega) ?_|refine And.intro (by simp only [InR];omega) ?_)
     intro p3 lo3 cs3 hp3 hl3 hr3;obtain ⟨r,hr⟩:∃ r,r=gl (gl L.l i).recs j:=⟨_,rfl⟩
     rw [<- hr] at hbody hb1 hb2 hr3 u1 u3 ⊢;have hCb:BytesAt (pupd X p3 lo3 cs3) (slv p3 lo3 r.body.length cap3) r.body:=by
      refine ⟨cap3,slAt_new hl3 u1 u2 hr3 fun q hq j hj=>?_⟩;have hj0:j=0:=by simpa using hj
      subst hj0;simp only [appRows,Nat.not_lt_zero,if_false,Nat.sub_zero]
     obtain ⟨c8,hout⟩:=hJ.out.rows;have hx3:∀ x,X x≠none->x≠p3:=fun x hx e=>hx (by rw [e];exact hp3);have hout4:slAt (pupd X p3 lo3 cs3) v ksRec (outR L.l i j).length c8 (recR (outR L.l i j) vs):=slAt_frame hout fun x hx=>pupd_ne (hx3 x (slAt_dom hout x hx));refine ⟨_,c8,_,hout4,?_⟩
     repeat (first|refine And.intro (by omega) ?_|refine And.intro (by dsimp only;omega) ?_|refine And.intro (by simp only [InR];omega) ?_)
     intro cap4 v1 v2 v3
     repeat (first|refine And.intro (by omega) ?_|refine And.intro (by dsimp only;omega) ?_|refine And.intro (by simp only [InR];omega) ?_)
     intro p4 lo4 cs4 hp4 hl4 hr4;have hvl:vs.length=(outR L.l i j).length:=hJ.out.len;have hr5:slAt (pupd (pminusV (pupd X p3 lo3 cs3) v) p4 lo4 cs4) (slv p4 lo4 ((outR L.l i j).length+1) cap4) ksRec ((outR L.l i j).length+1) cap4 (recR (outR L.l i j++[r]) (vs++[slv p3 lo3 r.body.length cap3])):=by
      refine slAt_new hl4 v1 v2 hr4 fun q hq j' hj2=>?_;simp only [appRows,recR,Nat.zero_add];by_cases hin:q<(outR L.l i j).length
      ·rw [if_pos hin,gl_append_left hin];by_cases hj0:j'=0
       ·rw [if_pos hj0,if_pos hj0]
       ·rw [if_neg hj0,if_neg hj0,List.getD_eq_getElem?_getD,List.getD_eq_getElem?_getD,List.getElem?_append_left (by omega)]
      ·rw [if_neg hin];obtain rfl:q=(outR L.l i j).length:=by omega
       rw [Nat.sub_self];have hj2:j'<2:=hj2
       match j',hj2 with
       | 0,_=>rw [if_pos rfl,show (outR L.l i j).length=(outR L.l i j).length+0 from rfl,gl_append_right];rfl
       | 1,_=>rw [if_neg (by decide),List.getD_eq_getElem?_getD,List.getElem?_append_right (by omega),hvl,Nat.sub_self];rfl
     obtain ⟨hO,hF⟩:=hJ.out.push (r:=r) rfl hp3 hCb hp4 hr5;have hN:AllI ⟨H,y,L⟩ ⟨i,j+1,pupd (pminusV (pupd X p3 lo3 cs3) v) p4 lo4 cs4,slv p4 lo4 ((outR L.l i j).length+1) cap4,vs++[slv p3 lo3 r.body.length cap3]⟩ (outR L.l i (j+1)):=by
      refine ⟨by rw [outR_push hj',<- hr];exact hO,fun z hz=>?_⟩;obtain ⟨a1,a2,a3⟩:=hJ.fr z hz;obtain ⟨b1,b2,b3⟩:=hF z (by rw [a1];exact hz) a2 a3;exact ⟨b1.trans a1,b2,b3⟩
     refine ⟨by simp only [InR];omega,⟨i,j+1,pupd (pminusV (pupd X p3 lo3 cs3) v) p4 lo4 cs4,slv p4 lo4 ((outR L.l i j).length+1) cap4,vs++[slv p3 lo3 r.body.length cap3]⟩,?_⟩
     (repeat' apply And.intro)<;>first|with_reducible (first|rfl|trivial|assumption)|omega|with_reducible (first|exact RowsEq.refl _ _ _|exact Nat.le_refl _)|(dsimp only [List.length_cons,List.length_nil]<;>omega)|exact hN
    ·have hj':¬ j<(gl L.l i).recs.length:=by have:=of_decide_eq_false c2;omega
     have hN:AllI ⟨H,y,L⟩ ⟨i+1,0,X,v,vs⟩ (allR (L.l.take (i+1))):=by
      rw [<- outR_next hi' (Nat.le_of_not_lt hj')];exact ⟨hJ.out,hJ.fr⟩
     (repeat' apply And.intro)<;>first|with_reducible (first|rfl|trivial|assumption)|omega|with_reducible (first|exact RowsEq.refl _ _ _|exact Nat.le_refl _)|(dsimp only [List.length_cons,List.length_nil]<;>omega)|exact hN
  ·have hi':i=L.l.length:=by have:=of_decide_eq_false c1;omega
   subst hi';rw [List.take_length] at hI;refine ⟨⟨X,v,vs⟩,?_⟩
   (repeat' apply And.intro)<;>first|with_reducible (first|rfl|trivial|assumption)|omega|with_reducible (first|exact RowsEq.refl _ _ _|exact Nat.le_refl _)|(dsimp only [List.length_cons,List.length_nil]<;>omega)|exact hI.out|exact hI.fr|rfl)
theorem callLAll:CallsBy (Y Tryz.prog).G.X 86 cLAll:=fn_ok okY (tab:=[]) trivial bodyLAll
end Go.Proofs.YtfhkbihcfmbbcaaGreat

namespace Go.Proofs.YtfhkbihcfmbbcaaGreat.Ix
open Go.Sx
set_option maxRecDepth 100000
set_option linter.unusedVariables false
def x64 (a b:Int):Int:=ibits .xor .u64 a b
def w64 (a:Int):Int:=uw .u64 a
def stir1 (x:Int):Int:=w64 (x64 x (x / 1073741824)*13787848793156543929)
def stir2 (x:Int):Int:=w64 (x64 x (x / 134217728)*10723151780598845931)
def stir3 (x:Int):Int:=x64 x (x / 2147483648)
def stirI (x:Int):Int:=stir3 (stir2 (stir1 x))
noncomputable def cStir:Con where
 α:=Int
 β:=Unit
 m:=0
 m':=0
 pre:=fun _=>True
 args:=fun a=>[.a (.int .u64 a)]
 hp:=fun _=>[]
 ro:=fun _=>[]
 post:=fun _ _=>True
 res:=fun a _=>.a (.int .u64 (stirI a))
 hp':=fun _ _=>[]
set_option maxHeartbeats 4000000 in
theorem bodyStir:fnBody (Y Tryz.prog) [] 106 cStir fun _=>[]:=fnBody.of (p :=
 ∀ a:Int,True->(0:Int)<=30/\(0:Int)<=27/\(0:Int)<=31/\∃ b:Unit,ibits Go.BinOp.xor IntKind.u64 (uw .u64 (ibits Go.BinOp.xor IntKind.u64 (uw .u64 (ibits Go.BinOp.xor IntKind.u64 a (a / (1073741824:Int))*(13787848793156543929:Int))) (uw .u64 (ibits Go.BinOp.xor IntKind.u64 a (a / (1073741824:Int))*(13787848793156543929:Int)) / (134217728:Int))*(10723151780598845931:Int))) (uw .u64 (ibits Go.BinOp.xor IntKind.u64 (uw .u64 (ibits Go.BinOp.xor IntKind.u64 a (a / (1073741824:Int))*(13787848793156543929:Int))) (uw .u64 (ibits Go.BinOp.xor IntKind.u64 a (a / (1073741824:Int))*(13787848793156543929:Int)) / (134217728:Int))*(10723151780598845931:Int)) / (2147483648:Int))=Ix.stirI a/\True/\True) (by kernel_rfl) (by
 intro a _;exact ⟨by decide,by decide,by decide,(),rfl,trivial,trivial⟩)
theorem callStir:CallsBy (Y Tryz.prog).G.X 106 cStir:=fn_ok okY (tab:=[]) trivial bodyStir
def hashTo (h:Int) (b:ByteArray):Nat->Int
 | 0=>h
 | i+1=>w64 (stirI (x64 (hashTo h b i) ((b.data.getD i 0).toNat:Int))+1)
def hash1 (h:Int) (b:ByteArray):Int:=stirI (x64 (hashTo h b b.size) (w64 (256+w64 b.size)))
def hashG (g:Nat->ByteArray):Nat->Int
 | 0=>11400714819323198485
 | i+1=>hash1 (hashG g i) (g i)
structure OfA where
 g:Nat->ByteArray
 n:Nat
 cap:Nat
noncomputable def cMixOf:Con where
 α:=OfA
 β:=Unit
 m:=1
 m':=1
 pre:=fun a=>a.n<100000/\∀ i,i<a.n->(a.g i).size<=lenMax
 args:=fun a=>[.a (.slc 0 0 1 a.n a.cap)]
 hp:=fun _=>[]
 ro:=fun a=>[(0,.arr 9 [.str] a.n (fun i _=>.string (a.g i)))]
 post:=fun _ _=>True
 res:=fun a _=>.a (.int .u64 (hashG a.g a.n))
 hp':=fun _ _=>[]
def iOf2 (a:OfA) (i:Nat):An:=.flat 6 Nat (fun s j=>(s.int 15 j).set 3 (.a (.int .u64 (hashTo (hashG a.g i) (a.g i) j)))) (fun _ j=>j<=(a.g i).size) (fun _ j=>(a.g i).size - j)
def iOf1 (a:OfA):An:=.mk 3 Nat (fun s i=>(s.int 9 i).set 3 (.a (.int .u64 (hashG a.g i)))) (fun _ i=>i<=a.n) (fun _ i=>a.n - i) (fun i=>.mk 60 [iOf2 a i] [])
set_option maxHeartbeats 4000000 in
theorem bodyMixOf:fnBody (Y Tryz.prog) [(106,cStir)] 92 cMixOf fun a=>[(92,[iOf1 a],[])]:=fnBody.of (p :=
 ∀ a:Ix.OfA,(a.n<100000/\∀ i:Nat,i<a.n->(a.g i).size<=lenMax)->(∃ a_2:Nat,(11400714819323198485:Int)=Ix.hashG a.g a_2/\0=(↑a_2:Int)/\(↑a.n:Int)=(↑a.n:Int)/\(0=0/\a.n=a.n/\a.cap=a.cap)/\(0:Int)=0/\(0=0/\a.n=a.n/\a.cap=a.cap)/\(a.n<=a.n/\RowsEq a.n 1 (fun (i x:Nat)=>Value.string (a.g i)) fun (i x:Nat)=>Value.string (a.g i))/\a_2<=a.n/\True)/\∀ a_2:Nat,a_2<=a.n->(decide ((↑a_2:Int)<(↑a.n:Int))=true->(0<=(↑a_2:Int)/\(↑a_2:Int)<(↑a.n:Int))/\0+(↑a_2:Int).toNat<a.n/\(∃ a_5:Nat,Ix.hashG a.g a_2=Ix.hashTo (Ix.hashG a.g a_2) (a.g a_2) a_5/\0=(↑a_5:Int)/\(↑(a.g (0+(↑a_2:Int).toNat)).size:Int)=(↑(a.g (0+(↑a_2:Int).toNat)).size:Int)/\a.g (0+(↑a_2:Int).toNat)=a.g (0+(↑a_2:Int).toNat)/\decide ((↑a_2:Int)<(↑a.n:Int))=decide ((↑a_2:Int)<(↑a.n:Int))/\(↑a_2:Int)=(↑a_2:Int)/\(↑a.n:Int)=(↑a.n:Int)/\(0=0/\a.n=a.n/\a.cap=a.cap)/\(0:Int)=0/\(0=0/\a.n=a.n/\a.cap=a.cap)/\(a.n<=a.n/\RowsEq a.n 1 (fun (i x:Nat)=>Value.string (a.g i)) fun (i x:Nat)=>Value.string (a.g i))/\a_5<=(a.g a_2).size/\True)/\∀ a_5:Nat,a_5<=(a.g a_2).size->(decide ((↑a_5:Int)<(↑(a.g (0+(↑a_2:Int).toNat)).size:Int))=true->(0<=(↑a_5:Int)/\(↑a_5:Int)<(↑(a.g (0+(↑a_2:Int).toNat)).size:Int))/\∃ a_8:Int,ibits Go.BinOp.xor IntKind.u64 (Ix.hashTo (Ix.hashG a.g a_2) (a.g a_2) a_5) (↑((a.g (0+(↑a_2:Int).toNat)).data.getD (↑a_5:Int).toNat (0:UInt8)).toNat:Int)=a_8 /\
 True/\∀ b:Unit,True->InR .i64 ((↑a_5:Int)+1)/\∃ (a':Nat),uw .u64 (Ix.stirI a_8+(1:Int))=Ix.hashTo (Ix.hashG a.g a_2) (a.g a_2) a'/\(↑a_5:Int)+1=(↑a':Int)/\(↑(a.g (0+(↑a_2:Int).toNat)).size:Int)=(↑(a.g (0+(↑a_2:Int).toNat)).size:Int)/\a.g (0+(↑a_2:Int).toNat)=a.g (0+(↑a_2:Int).toNat)/\decide ((↑a_2:Int)<(↑a.n:Int))=decide ((↑a_2:Int)<(↑a.n:Int))/\(↑a_2:Int)=(↑a_2:Int)/\(↑a.n:Int)=(↑a.n:Int)/\(0=0/\a.n=a.n/\a.cap=a.cap)/\(0:Int)=0/\(0=0/\a.n=a.n/\a.cap=a.cap)/\(a.n<=a.n/\RowsEq a.n 1 (fun (i x:Nat)=>Value.string (a.g i)) fun (i x:Nat)=>Value.string (a.g i))/\a'<=(a.g a_2).size/\(a.g a_2).size - a'<(a.g a_2).size - a_5)/\(decide ((↑a_5:Int)<(↑(a.g (0+(↑a_2:Int).toNat)).size:Int))=false->∃ a_8:Int,ibits Go.BinOp.xor IntKind.u64 (Ix.hashTo (Ix.hashG a.g a_2) (a.g a_2) a_5) (uw .u64 ((256:Int)+uw .u64 (↑(a.g (0+(↑a_2:Int).toNat)).size:Int)))=a_8/\True/\∀ b:Unit,True->InR .i64 ((↑a_2:Int)+1)/\∃ (a':Nat),Ix.stirI a_8=Ix.hashG a.g a'/\(↑a_2:Int)+1=(↑a':Int)/\(↑a.n:Int)=(↑a.n:Int)/\(0=0/\a.n=a.n/\a.cap=a.cap)/\(0:Int)=0/\(0=0/\a.n=a.n/\a.cap=a.cap)/\(a.n<=a.n/\RowsEq a.n 1 (fun (i x:Nat)=>Value.string (a.g i)) fun (i x:Nat)=>Value.string (a.g i))/\a'<=a.n/\a.n - a'<a.n - a_2))/\(decide ((↑a_2:Int)<(↑a.n:Int))=false->∃ b:Unit,Ix.hashG a.g a_2=Ix.hashG a.g a.n /\
 True/\True)) (by kernel_rfl) (by
 intro a h;obtain ⟨hn,hs⟩:=h;simp only [Nat.zero_add,Int.toNat_natCast];refine ⟨⟨0,by (repeat' apply And.intro)<;>(first|exact trivial|rfl|omega|assumption|exact RowsEq.refl _ _ _|(simp only [InR];omega)|(simp;done)|(simp;omega)|grind)⟩,fun i hi=>⟨fun h1=>?_,fun h1=>?_⟩⟩
 ·have hi':i<a.n:=by simpa using h1
  have hsz:=hs i hi';refine ⟨by omega,hi',⟨0,by (repeat' apply And.intro)<;>(first|exact trivial|rfl|omega|assumption|exact RowsEq.refl _ _ _|(simp only [InR];omega)|(simp;done)|(simp;omega)|grind)⟩,fun j hj=>⟨fun h2=>?_,fun h2=>?_⟩⟩
  ·have hj':j<(a.g i).size:=by simpa using h2
   refine ⟨by omega,_,rfl,trivial,fun _ _=>⟨by simp only [InR,lenMax] at *;omega,j+1,?_⟩⟩
   (repeat' apply And.intro)<;>(first|exact trivial|rfl|omega|assumption|exact RowsEq.refl _ _ _|(simp only [InR];omega)|(simp;done)|(simp;omega)|grind)
  ·have hj' : j = (a.g i).size := by have : ¬ j < (a.g i).size := by simpa using h2
                                     omega
   subst hj';refine ⟨_,rfl,trivial,fun _ _=>⟨by simp only [InR];omega,i+1,?_⟩⟩
   (repeat' apply And.intro)<;>(first|exact trivial|rfl|omega|assumption|exact RowsEq.refl _ _ _|(simp only [InR];omega)|(simp;done)|(simp;omega)|grind)
 ·have hi' : i = a.n := by have : ¬ i < a.n := by simpa using h1
                           omega
  subst hi';exact ⟨(),rfl,trivial,trivial⟩)
theorem callMixOf:CallsBy (Y Tryz.prog).G.X 92 cMixOf:=fn_ok okY (tab:=[(106,cStir)]) ⟨callStir,trivial⟩ bodyMixOf
end Go.Proofs.YtfhkbihcfmbbcaaGreat.Ix
