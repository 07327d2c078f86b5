/-
  
-/
import Derived.Test.YtfhkbihcfmbbcaaGreatStoreNoneP2
import Derived.Test.YtfhkbihcfmbbcaaGreatStoreNoneP6
import Derived.Carry
import Derived.ChangeArms
import Derived.OpenShut
import Derived.RowKit3
namespace Go.Sx
open Go.RowKit
def flatFs (P:Program) (g:TypeId->Option (List CK)):List Field->Nat->Option (List CK)
 | [],_=>some []
 | f::r,o=>match g f.type,flatFs P g r (o+P.cellsOf f.type) with
  | some ks,some l=>bif Nat.beq f.offset o&&Nat.beq ks.length (P.cellsOf f.type) then some (ks++l) else none
  | _,_=>none
def flatKd (dp:Bool) (P:Program):Nat->TypeId->Option (List CK)
 | 0,_=>none
 | d+1,t=>match P.underlying t with
  | some (.slice _)=>bif dp then some [.deep] else none
  | some .bool=>some [.bool]
  | some (.int k)=>some [.int k]
  | some .string=>some [.str]
  | some (.struct fs)=>match flatFs P (flatKd dp P d) fs.toList 0 with
   | some ks=>bif Nat.beq ks.length (P.cellsOf t) then some ks else none
   | none=>none
  | some (.array n e)=>match flatKd dp P d e with
   | some ks=>bif Nat.beq ks.length (P.cellsOf e)&&Nat.beq (n*ks.length) (P.cellsOf t) then some (rep n ks) else none
   | none=>none
  | _=>none
def flatK (P:Program):Nat->TypeId->Option (List CK):=flatKd false P
structure KsOk (ks:List CK) (cs:List Value):Prop where
 len:cs.length=ks.length
 ok:∀ (j:Nat) (k:CK) (v:Value),ks[j]? = some k->cs[j]? = some v->k.ok v
theorem KsOk.append {ks ls:List CK} {cs ds:List Value} (h:KsOk ks cs) (g:KsOk ls ds):KsOk (ks++ls) (cs++ds):=by
 refine ⟨by simp [h.len,g.len],fun j k v hk hv=>?_⟩;by_cases hj:j<ks.length
 ·rw [List.getElem?_append_left hj] at hk;rw [List.getElem?_append_left (by rw [h.len];exact hj)] at hv;exact h.ok j k v hk hv
 ·rw [List.getElem?_append_right (by omega)] at hk;rw [List.getElem?_append_right (by rw [h.len];omega),h.len] at hv;exact g.ok _ k v hk hv
section
variable {H:Type} {enc:TypeId × Value->H} {P:Program} {w:World} {base:Nat} {spare:Nat->Bool} {held:Bool}
theorem flatFs_ok {g:TypeId->Option (List CK)} {n:Nat} {cs:List Value}
 (hg:∀ t cs x ks,DataW.trod enc P w base spare held n t cs=some x->g t=some ks->KsOk ks cs) :
 ∀ (fs:List Field) (o:Nat) (ks:List CK),flatFs P g fs o=some ks->(∀ f∈fs,∃ x,DataW.trod enc P w base spare held n f.type ((cs.drop f.offset).take (P.cellsOf f.type))=some x)->o+ks.length=cs.length->KsOk ks (cs.drop o)
 | [],o,ks,h,_,hl=>by
  simp [flatFs] at h;subst h;refine ⟨by simp at hl ⊢;omega,fun j k v hk=>by simp at hk⟩
 | f::r,o,ks,h,hf,hl=>by
  simp only [flatFs] at h;split at h
  ·rename_i k1 l1 e1 e2;cases hb:(Nat.beq f.offset o&&Nat.beq k1.length (P.cellsOf f.type))
   ·rw [hb] at h;cases h
   rw [hb] at h;simp only [cond_true,Option.some.injEq] at h;subst h;simp only [Bool.and_eq_true] at hb;have ho:=Nat.eq_of_beq_eq_true hb.1;have hk:=Nat.eq_of_beq_eq_true hb.2;obtain ⟨x,hx⟩:=hf f List.mem_cons_self;rw [ho] at hx;have h1:=hg _ _ _ _ hx e1;have h2:=flatFs_ok hg r _ l1 e2 (fun f hf'=>hf f (List.mem_cons_of_mem _ hf')) (by rw [<- hk];simp at hl;omega);have e:cs.drop o=(cs.drop o).take (P.cellsOf f.type)++cs.drop (o+P.cellsOf f.type):=by
    rw [<- List.drop_drop,List.take_append_drop]
   rw [e];exact h1.append h2
  ·cases h
theorem rep_ok {ks:List CK} {cs:List Value}:∀ (n:Nat) (o:Nat),(∀ i,i<n->KsOk ks ((cs.drop (o+i*ks.length)).take ks.length))->o+n*ks.length=cs.length->KsOk (rep n ks) (cs.drop o)
 | 0,o,_,hl=>⟨by simp at hl;simp [rep];omega,fun j k v hk=>by simp [rep] at hk⟩
 | n+1,o,h,hl=>by
  have h1:=h 0 (by omega);have h2:=rep_ok (ks:=ks) (cs:=cs) n (o+ks.length) (fun i hi=>by
   have:=h (i+1) (by omega);rwa [Nat.succ_mul,show o+(i*ks.length+ks.length)=o+ks.length+i*ks.length by omega] at this) (by rw [Nat.succ_mul] at hl;omega)
  have e:cs.drop o=(cs.drop o).take ks.length++cs.drop (o+ks.length):=by
   rw [<- List.drop_drop,List.take_append_drop]
  rw [e,rep];exact KsOk.append (by simpa using h1) h2
theorem flat_ok {dp:Bool}:∀ (d n:Nat) (t:TypeId) (cs:List Value) (x:DataW H × List MemPlace) (ks:List CK),DataW.trod enc P w base spare held n t cs=some x->flatKd dp P d t=some ks->KsOk ks cs
 | 0,_,_,_,_,_,_,h=>by simp [flatKd] at h
 | d+1,n,t,cs,x,ks,hx,h=>by
  simp only [flatKd] at h;split at h
  ·rename_i e hu;cases dp with
   | false=>cases h
   | true =>
    simp only [cond_true,Option.some.injEq] at h;subst h;have one:∃ v:Value,cs=[v]/\v.oneCell'=true:=by
     rcases DataW.trod_slice hu hx with ⟨hv,_⟩ | ⟨a,len,cap,elems,rest,m,_,hv,_⟩<;>exact ⟨_,hv,rfl⟩
    obtain ⟨v,rfl,hv⟩:=one;refine ⟨rfl,fun j k u hk hv'=>?_⟩;cases j with
    | zero=>simp at hk hv';subst hk hv';exact hv
    | succ j=>simp at hk
  ·rename_i hu;cases h;obtain ⟨b,rfl,_⟩:=DataW.trod_bool hu hx;refine ⟨rfl,fun j k v hk hv=>?_⟩;cases j with
   | zero=>simp at hk hv;subst hk hv;exact ⟨b,rfl⟩
   | succ j=>simp at hk
  ·rename_i k hu;cases h;obtain ⟨m,rfl,_,hw⟩:=DataW.trod_int hu hx;refine ⟨rfl,fun j k' v hk hv=>?_⟩;cases j with
   | zero=>simp at hk hv;subst hk hv;exact ⟨m,rfl,by rw [InR_iff];simpa [Lit.wf] using hw⟩
   | succ j=>simp at hk
  ·rename_i hu;cases h;obtain ⟨s,rfl,_,hs⟩:=DataW.trod_string hu hx;refine ⟨rfl,fun j k' v hk hv=>?_⟩;cases j with
   | zero=>simp at hk hv;subst hk hv;exact ⟨s,rfl,by unfold lenMax;unfold maxLen at hs;exact hs⟩
   | succ j=>simp at hk
  ·rename_i fs hu;obtain ⟨xs,m,rfl,_,hl,hlen,hget⟩:=DataW.trod_struct hu hx;split at h
   ·rename_i ks' e;cases hb:Nat.beq ks'.length (P.cellsOf t)
    ·rw [hb] at h;cases h
    rw [hb] at h;cases h;have hb:=Nat.eq_of_beq_eq_true hb;have:=flatFs_ok (enc:=enc) (w:=w) (base:=base) (spare:=spare) (held:=held) (n:=m) (cs:=cs) (fun t cs x ks h1 h2=>flat_ok d m t cs x ks h1 h2) fs.toList 0 ks e (fun f hf=>by
     obtain ⟨i,hi,e⟩:=List.getElem_of_mem hf;have hi':i<fs.size:=by simpa using hi
     have h1:=hget i f (by rw [Array.getElem?_eq_getElem hi'];congr 1);rw [h1];exact ⟨xs[i]'(by omega),List.getElem?_eq_getElem _⟩) (by omega)
    simpa using this
   ·cases h
  ·rename_i k e hu;obtain ⟨xs,m,rfl,_,hl,hlen,hget⟩:=DataW.trod_array hu hx;split at h
   ·rename_i ks' e';cases hb:(Nat.beq ks'.length (P.cellsOf e)&&Nat.beq (k*ks'.length) (P.cellsOf t))
    ·rw [hb] at h;cases h
    rw [hb] at h;cases h;simp only [Bool.and_eq_true] at hb;have hb1:=Nat.eq_of_beq_eq_true hb.1;have hb2:=Nat.eq_of_beq_eq_true hb.2;have:=rep_ok (ks:=ks') (cs:=cs) k 0 (fun i hi=>by
     have h1:=hget i hi;rw [List.getElem?_eq_getElem (by omega)] at h1;rw [hb1,Nat.zero_add];exact flat_ok d m e _ _ _ h1 e') (by rw [hb2];omega)
    simpa using this
   ·cases h
  ·cases h
inductive RK where
 | c (k:CK)
 | s (e:TypeId) (ks:List CK)
inductive AK where
 | int (k:IntKind)
 | bool
 | str
 | agg (ks:List CK)
 | slc (e:TypeId) (ks:List CK)
 | rcd (fs:List RK)
def isSlcT (P:Program) (u:TypeId):Bool:=match P.underlying u with
 | some (.slice _)=>true
 | _=>false
def recFs (P:Program) (d:Nat) (ts:List TypeId):List Field->Nat->Option (List RK)
 | [],_=>some []
 | f::r,o=>bif Nat.beq f.offset o then
  (match P.underlying f.type with
  | some (.slice e)=>match flatK P d e,ts[o]?,recFs P d ts r (o+1) with
   | some ks,some u,some l=>bif Nat.beq ks.length (P.cellsOf e)&&(Nat.ble 1 ks.length&&(Nat.beq (P.cellsOf f.type) 1&&isSlcT P u)) then some (.s e ks::l) else none
   | _,_,_=>none
  | _=>match flatK P d f.type,recFs P d ts r (o+P.cellsOf f.type) with
   | some ks,some l=>bif Nat.beq ks.length (P.cellsOf f.type) then some (ks.map .c++l) else none
   | _,_=>none) else none
def argK (P:Program) (d:Nat) (t:TypeId):Option AK :=
 match P.underlying t with
 | some .bool=>some .bool
 | some (.int k)=>some (.int k)
 | some .string=>some .str
 | some (.struct fs)=>match flatK P d t with
  | some ks=>some (.agg ks)
  | none=>match P.cellTypes P.depth t with
   | some ts=>match recFs P d ts fs.toList 0 with
    | some l=>bif Nat.beq l.length (P.cellsOf t)&&Nat.beq ts.length (P.cellsOf t) then some (.rcd l) else none
    | none=>none
   | none=>none
 | some (.slice e)=>match flatKd true P d e with
  | some ks=>bif Nat.beq ks.length (P.cellsOf e)&&Nat.ble 1 ks.length then some (.slc e ks) else none
  | none=>none
 | _=>none
def argKs (P:Program) (d:Nat):List TypeId->Option (List AK)
 | []=>some []
 | t::r=>match argK P d t,argKs P d r with
  | some k,some l=>some (k::l)
  | _,_=>none
inductive RD where
 | a (x:A)
 | s (m n cap:Nat) (rows:Nat->Nat->Value)
inductive AD where
 | a (x:A)
 | agg (xs:List A)
 | slc (m n cap:Nat) (rows:Nat->Nat->Value)
 | rcd (xs:List RD)
def okRD:RK->RD->Prop
 | .c k,d=>∃ v,d = .a (atomOf k v)/\k.ok v
 | .s _ ks,d=>∃ n cap rows,d = .s ks.length n cap rows/\n<=cap/\cap<=lenMax/\∀ i,i<n->∀ (j:Nat) (k:CK),ks[j]? = some k->k.ok (rows i j)
def okRDs:List RK->List RD->Prop
 | [],l=>l=[]
 | k::ks,l=>∃ d r,l=d::r/\okRD k d/\okRDs ks r
def rAt:Nat->List RD->List A
 | _,[]=>[]
 | n,.a x::r=>x::rAt n r
 | n,.s m l c _::r=>.slc n 0 m l c::rAt (n+1) r
def rChs:Nat->List RK->List RD->List (Nat × Chunk)
 | n,.s e ks::r,.s _ l _ rows::q=>(n,.arr e ks l rows)::rChs (n+1) r q
 | n,_::r,_::q=>rChs n r q
 | _,_,_=>[]
def rN:List RD->Nat
 | []=>0
 | .s _ _ _ _::r=>rN r+1
 | _::r=>rN r
def okAD:AK->AD->Prop
 | .int k,d=>∃ n,d = .a (.int k n)/\InR k n
 | .bool,d=>∃ b,d = .a (.bool b)
 | .str,d=>∃ s,d = .a (.str s)/\s.size<=lenMax
 | .agg ks,d=>∃ r:Nat->Value,d = .agg (atoms r ks 0)/\∀ (j:Nat) (k:CK),ks[j]? = some k->k.ok (r j)
 | .slc _ ks,d=>∃ n cap rows,d = .slc ks.length n cap rows/\n<=cap/\cap<=lenMax/\∀ i,i<n->∀ (j:Nat) (k:CK),ks[j]? = some k->k.ok (rows i j)
 | .rcd fs,d=>∃ xs,d = .rcd xs/\okRDs fs xs
def okADs:List AK->List AD->Prop
 | [],l=>l=[]
 | k::ks,l=>∃ d r,l=d::r/\okAD k d/\okADs ks r
def svs:Nat->List AD->List SV
 | _,[]=>[]
 | n,.a x::r=>.a x::svs n r
 | n,.agg xs::r=>.agg xs::svs n r
 | n,.slc m l c _::r=>.a (.slc n 0 m l c)::svs (n+1) r
 | n,.rcd xs::r=>.agg (rAt n xs)::svs (n+rN xs) r
def chs:Nat->List AK->List AD->List (Nat × Chunk)
 | n,.slc e ks::r,.slc _ l _ rows::s=>(n,.arr e ks l rows)::chs (n+1) r s
 | n,.rcd fs::r,.rcd xs::s=>rChs n fs xs++chs (n+rN xs) r s
 | n,_::r,_::s=>chs n r s
 | _,_,_=>[]
def slcs:List AD->Nat
 | []=>0
 | .slc _ _ _ _::r=>slcs r+1
 | .rcd xs::r=>slcs r+rN xs
 | _::r=>slcs r
theorem cells?_get {w:World} {base:Nat} {a:Addr}:∀ {n:Nat} {cs:List Value},w.cells? base a n=some cs->cs.length=n/\base<=a.block/\∀ i,i<n->w.cell? (a.add i)=cs[i]?:=by
 intro n cs h;unfold World.cells? at h;split at h
 ·rename_i hb;have hl:=mapM_some_length h;refine ⟨by simpa using hl,hb,fun i hi=>?_⟩;exact mapM_some_get h i i (by simp [hi])
 ·cases h
theorem Addr.add_off (a:Addr) (n:Nat) (h:a.spot=none):a.add n=⟨a.block,a.off+n,none⟩:=by
 unfold Addr.add;split
 ·subst_vars;cases a;simp_all
 ·cases a;simp_all
theorem open_cell {dp:Bool} {t e:TypeId} {ks:List CK} {d fuel:Nat} {v:Value} {dd:DataW H} {ps:List MemPlace} (ht:P.underlying t=some (.slice e)) (hf:flatKd dp P d e=some ks) (hk:ks.length=P.cellsOf e) (hk1:1<=ks.length)
 (h:DataW.trod enc P w 0 (fun _=>true) held fuel t [v]=some (dd,ps)) (hz:∀ b off,MemPlace.cell b off∈ps->w.frozen? ⟨b,off,none⟩=false) :
 ∃ (p:Place) (n cap:Nat) (rows:Nat->Nat->Value),n<=cap/\cap<=lenMax/\(∀ i,i<n->∀ (j:Nat) (k:CK),ks[j]? = some k->k.ok (rows i j))/\(∀ b,p.fp b->b<w.heap.size) /\
  (∀ (ρ:Env) (T:Nat),T<ρ.n->ρ.pl T=p->(A.slc T 0 ks.length n cap).Rep ρ v)/\(∀ (ρ:Env),(Chunk.arr e ks n rows).Sat ρ p w) /\
  ∀ i,i<n->∃ (m:Nat) (cs:List Value) (x:DataW H × List MemPlace),DataW.trod enc P w 0 (fun _=>true) held m e cs=some x/\(∀ b off,MemPlace.cell b off∈x.2->w.frozen? ⟨b,off,none⟩=false)/\KsOk ks cs/\∀ j,j<ks.length->cs[j]? = some (rows i j):=by
 rcases DataW.trod_slice ht h with ⟨hv,_⟩ | ⟨a,len,cap,elems,rest,m,rfl,hv,hx,_,hlc,hcm,hel,hget,hsp,_⟩
 ·cases hv;refine ⟨nilPlace,0,0,fun _ _=>undef,Nat.le_refl _,Nat.zero_le _,fun i hi=>absurd hi (Nat.not_lt_zero _),fun b hb=>hb.elim,fun ρ T hT _=>⟨hT,Nat.le_refl _,Nat.zero_le _,.inl ⟨rfl,rfl,rfl⟩⟩,fun ρ=>.inl ⟨rfl,rfl,fun b hb=>hb⟩,fun i hi=>absurd hi (Nat.not_lt_zero _)⟩
 ·cases hv;obtain ⟨hr1,hr2⟩:=hsp rfl;by_cases hc0:cap=0
  ·subst hc0;have hl0:len=0:=by omega
   subst hl0;exact ⟨⟨a.block,a.off,0,fun _=>False⟩,0,0,fun _ _=>undef,Nat.le_refl _,Nat.zero_le _,fun i hi=>absurd hi (Nat.not_lt_zero _),fun b hb=>hb.elim,fun ρ T hT hp=>⟨hT,Nat.le_refl _,Nat.zero_le _,.inr ⟨a,rfl,fun h=>absurd rfl h⟩⟩,fun ρ=>.inl ⟨rfl,rfl,fun b hb=>hb⟩,fun i hi=>absurd hi (Nat.not_lt_zero _)⟩
  have hspot:a.spot=none:=by
   have fin:∀ (o:Option (DataW H × List MemPlace)),(∃ x,o=some x)->(w.cells? 0 (a.add (0*P.cellsOf e)) (P.cellsOf e)).bind (DataW.trod enc P w 0 (fun _=>true) held m e)=o->a.spot=none:=by
    rintro o ⟨x,rfl⟩ ho;obtain ⟨cs,hcs,hx⟩:=Option.bind_eq_some_iff.1 ho;obtain ⟨h1,_,hc⟩:=cells?_get hcs;have:=hc 0 (by omega);rw [Nat.zero_mul,show ∀ a:Addr,(a.add 0).add 0=a from fun a=>rfl,List.getElem?_eq_getElem (by omega)] at this;unfold World.cell? at this;split at this
    ·cases hsp:a.spot with
     | none=>rfl
     | some s=>rw [hsp] at this;simp at this
    ·cases this
   by_cases h1:0<len
   ·exact fin _ ⟨elems[0]'(by omega),List.getElem?_eq_getElem _⟩ (hget 0 h1)
   ·have:=hr2 0 (by omega);rw [show len+0=0 by omega] at this;exact fin _ ⟨rest[0]'(by omega),List.getElem?_eq_getElem _⟩ this
  have row:∀ i,i<cap->∃ cs:List Value,(KsOk ks cs/\∀ j,j<ks.length->w.cell? ⟨a.block,a.off+i*ks.length+j,none⟩=cs[j]?)/\(i<len->∃ x∈elems,DataW.trod enc P w 0 (fun _=>true) held m e cs=some x):=by
   intro i hi;have fin:∀ (x:DataW H × List MemPlace),(w.cells? 0 (a.add (i*P.cellsOf e)) (P.cellsOf e)).bind (DataW.trod enc P w 0 (fun _=>true) held m e)=some x->∃ cs:List Value,(KsOk ks cs/\∀ j,j<ks.length->w.cell? ⟨a.block,a.off+i*ks.length+j,none⟩=cs[j]?)/\DataW.trod enc P w 0 (fun _=>true) held m e cs=some x:=by
    intro x ho;obtain ⟨cs,hcs,hx⟩:=Option.bind_eq_some_iff.1 ho;obtain ⟨_,_,hc⟩:=cells?_get hcs;refine ⟨cs,⟨flat_ok d m e cs x ks hx hf,fun j hj=>?_⟩,hx⟩;have:=hc j (by omega);rw [Addr.add_off a _ hspot,Addr.add_plain,<- hk] at this;exact this
   by_cases h1:i<len
   ·obtain ⟨cs,g1,g2⟩:=fin (elems[i]'(by omega)) ((hget i h1).trans (List.getElem?_eq_getElem _));exact ⟨cs,g1,fun _=>⟨_,List.getElem_mem _,g2⟩⟩
   ·have:=hr2 (i - len) (by omega);rw [show len+(i - len)=i by omega] at this;obtain ⟨cs,g1,g2⟩:=fin (rest[i - len]'(by omega)) (this.trans (List.getElem?_eq_getElem _));exact ⟨cs,g1,fun h=>absurd h h1⟩
  ·have hcell:∀ i,i<cap->∀ (j:Nat) (k:CK),ks[j]? = some k->∃ v,w.cell? ⟨a.block,a.off+i*ks.length+j,none⟩=some v/\k.ok v:=by
    intro i hi j k hj;have hjl:j<ks.length:=(List.getElem?_eq_some_iff.1 hj).1;obtain ⟨cs,⟨h1,h2⟩,_⟩:=row i hi;have hlt:j<cs.length:=by rw [h1.len];exact hjl
    exact ⟨cs[j],by rw [h2 j hjl,List.getElem?_eq_getElem hlt],h1.ok j k _ hj (List.getElem?_eq_getElem hlt)⟩
   have hblk:∃ vs ty fr,w.heap[a.block]? = some (.cells vs ty fr):=by
    obtain ⟨v,hv,_⟩:=hcell 0 (by omega) 0 (ks[0]'(by omega)) (List.getElem?_eq_getElem _);unfold World.cell? at hv;split at hv
    ·rename_i vs ty fr hh;exact ⟨vs,ty,fr,hh⟩
    ·cases hv
   obtain ⟨vs,ty,fr,hb⟩:=hblk;have hget2:∀ i,i<cap->∀ (j:Nat) (k:CK),ks[j]? = some k->∃ v,vs[a.off+i*ks.length+j]? = some v/\k.ok v:=by
    intro i hi j k hj;obtain ⟨v,hv,hok⟩:=hcell i hi j k hj;rw [cell_of hb] at hv;exact ⟨v,hv,hok⟩
   have hfit:a.off+cap*ks.length<=vs.size:=by
    obtain ⟨v,hv,_⟩:=hget2 (cap - 1) (by omega) (ks.length - 1) (ks[ks.length - 1]'(by omega)) (List.getElem?_eq_getElem _);obtain ⟨hlt,_⟩:=Array.getElem?_eq_some_iff.1 hv;have:(cap - 1)*ks.length+ks.length=cap*ks.length:=by
     rw [<- Nat.succ_mul];congr 1;omega
    omega
   have hblt:a.block<w.heap.size:=by
    obtain ⟨hlt,_⟩:=Array.getElem?_eq_some_iff.1 hb;exact hlt
   refine ⟨⟨a.block,a.off,cap,fun b=>b=a.block⟩,len,cap,fun i j=>vs[a.off+i*ks.length+j]?.getD undef,hlc,by unfold lenMax;unfold maxLen at hcm;exact hcm,fun i hi j k hj=>?_,fun b hb=>by rw [hb];exact hblt,fun ρ T hT hp=>⟨hT,hlc,by unfold lenMax;unfold maxLen at hcm;exact hcm,.inr ⟨a,rfl,fun _=>⟨by rw [hp];cases a;simp at hspot;subst hspot;simp,by rw [hp];simp⟩⟩⟩,fun ρ=>.inr ⟨vs,ty,fr,hb,hfit,hlc,fun o h1 h2=>?_,fun _=>Iff.rfl,fun i hi j k hj=>?_⟩,fun i hi=>?_⟩
   ·obtain ⟨v,hv,hok⟩:=hget2 i (by omega) j k hj;simp only;rw [hv];exact hok
   ·have hmem:MemPlace.cell a.block o∈ps:=by
     have e:ps=MemPlace.row a ((elems.length+rest.length)*P.cellsOf e)++(elems++rest).flatMap (·.2):=congrArg Prod.snd hx;rw [e];refine List.mem_append_left _ (List.mem_map.2 ⟨o - a.off,?_,?_⟩)
     ·rw [List.mem_range,hel,hr1,<- hk];simp only at h1 h2;rw [show len+(cap - len)=cap by omega];omega
     ·simp only at h1;show MemPlace.cell a.block (a.off+(o - a.off))=_;rw [show a.off+(o - a.off)=o by omega]
    have:=hz _ _ hmem;simp only [World.frozen?,hb] at this;obtain ⟨lo,hi⟩:=fr;simpa using this
   ·obtain ⟨v,hv,hok⟩:=hget2 i (by omega) j k hj;simp only;rw [hv];exact ⟨rfl,hok⟩
   ·obtain ⟨cs,⟨g1,g2⟩,g3⟩:=row i (by omega);obtain ⟨x,hxm,hxt⟩:=g3 hi;refine ⟨m,cs,x,hxt,fun b off hm=>hz b off ?_,g1,fun j hj=>?_⟩
    ·have e:ps=MemPlace.row a ((elems.length+rest.length)*P.cellsOf e)++(elems++rest).flatMap (·.2):=congrArg Prod.snd hx;rw [e];exact List.mem_append_right _ (List.mem_flatMap.2 ⟨x,List.mem_append_left _ hxm,hm⟩)
    ·have h2:=g2 j hj;rw [cell_of hb] at h2;have hlt:j<cs.length:=by rw [g1.len];exact hj
     rw [List.getElem?_eq_getElem hlt] at h2 ⊢;simp only;rw [h2];rfl
theorem open_slice {t e:TypeId} {ks:List CK} {d:Nat} {v:Value} {dd:DataW H} {ps:List MemPlace} {r:Reach} {b0:Nat} (ht:P.underlying t=some (.slice e)) (hf:flatKd true P d e=some ks) (hk:ks.length=P.cellsOf e) (hk1:1<=ks.length)
 (hval:Value.okWide P w r b0 t v) (h:DataW.Trod enc P w 0 (fun _=>true) held t v dd ps) (hz:∀ b off,MemPlace.cell b off∈ps->w.frozen? ⟨b,off,none⟩=false) :
 ∃ (p:Place) (n cap:Nat) (rows:Nat->Nat->Value),n<=cap/\cap<=lenMax/\(∀ i,i<n->∀ (j:Nat) (k:CK),ks[j]? = some k->k.ok (rows i j))/\(∀ b,p.fp b->b<w.heap.size) /\
  (∀ (ρ:Env) (T:Nat),T<ρ.n->ρ.pl T=p->(A.slc T 0 ks.length n cap).Rep ρ v)/\∀ (ρ:Env),(Chunk.arr e ks n rows).Sat ρ p w:=by
 obtain ⟨fuel,h⟩:=h;have hv2:Cell.okWide P w r b0 t v:=by unfold Value.okWide at hval;rw [ht] at hval;exact hval
 have hone:∀ o l c,v.cells.toList=[.slice o l c]->v = .slice o l c:=by
  intro o l c hv;cases v<;>simp [Value.cells] at hv<;>first|exact hv|(simp [hv];done)|skip
  all_goals (unfold Cell.okWide Cell.ok at hv2;rw [ht] at hv2;simp at hv2)
 have hc:v.cells.toList=[v]:=by
  rcases DataW.trod_slice ht h with ⟨hv,_⟩ | ⟨a,len,cap,elems,rest,m,_,hv,_⟩
  ·rw [hone _ _ _ hv];rfl
  ·rw [hone _ _ _ hv];rfl
 rw [hc] at h;obtain ⟨p,n,cap,rows,g1,g2,g3,g4,g5,g6,_⟩:=open_cell ht hf hk hk1 h hz;exact ⟨p,n,cap,rows,g1,g2,g3,g4,g5,g6⟩
theorem okRDs_app:∀ {ks:List CK} {l:List RK} {vs:List Value} {xs:List RD},KsOk ks vs->okRDs l xs->okRDs (ks.map .c++l) ((List.zipWith (fun k v=>RD.a (atomOf k v)) ks vs)++xs)
 | [],l,vs,xs,h,hx=>by
  have:vs=[]:=List.eq_nil_of_length_eq_zero (by simpa using h.len);subst this;exact hx
 | k::ks,l,[],xs,h,hx=>by have:=h.len;simp at this
 | k::ks,l,v::vs,xs,h,hx=>⟨_,_,rfl,⟨v,rfl,h.ok 0 k v rfl rfl⟩,okRDs_app (ks:=ks) (vs:=vs) ⟨by have:=h.len;simpa using this,fun j k' v' hk hv=>h.ok (j+1) k' v' (by simpa using hk) (by simpa using hv)⟩ hx⟩
theorem rAt_app:∀ (n:Nat) (ks:List CK) (vs:List Value) (xs:List RD),rAt n ((List.zipWith (fun k v=>RD.a (atomOf k v)) ks vs)++xs)=List.zipWith atomOf ks vs++rAt n xs
 | _,[],_,_=>by simp
 | _,_::_,[],_=>by simp
 | n,k::ks,v::vs,xs=>by simp [rAt,rAt_app n ks vs xs]
theorem rN_app:∀ (ks:List CK) (vs:List Value) (xs:List RD),rN ((List.zipWith (fun k v=>RD.a (atomOf k v)) ks vs)++xs)=rN xs
 | [],_,_=>by simp
 | _::_,[],_=>by simp
 | k::ks,v::vs,xs=>by simp [rN,rN_app ks vs xs]
theorem rChs_app:∀ (n:Nat) {ks:List CK} {vs:List Value} (l:List RK) (xs:List RD),vs.length=ks.length->rChs n (ks.map .c++l) ((List.zipWith (fun k v=>RD.a (atomOf k v)) ks vs)++xs)=rChs n l xs
 | _,[],[],_,_,_=>by simp
 | _,[],_::_,_,_,h=>by simp at h
 | _,_::_,[],_,_,h=>by simp at h
 | n,k::ks,v::vs,l,xs,h=>by
  have:=rChs_app n (ks:=ks) (vs:=vs) l xs (by simpa using h);simpa [rChs] using this
theorem zip_repL {ρ:Env}:∀ {ks:List CK} {vs:List Value},KsOk ks vs->RepL ρ (List.zipWith atomOf ks vs) vs
 | [],vs,h=>by
  have:vs=[]:=List.eq_nil_of_length_eq_zero (by simpa using h.len);subst this;rfl
 | k::ks,[],h=>by have:=h.len;simp at this
 | k::ks,v::vs,h=>⟨v,vs,rfl,atomOf_rep (h.ok 0 k v rfl rfl) ρ,zip_repL ⟨by have:=h.len;simpa using this,fun j k' v' hk hv=>h.ok (j+1) k' v' (by simpa using hk) (by simpa using hv)⟩⟩
theorem rChs_tag:∀ (n:Nat) (fs:List RK) (xs:List RD),∀ p∈rChs n fs xs,n<=p.1/\p.1<n+rN xs
 | _,[],_,_,h=>by simp [rChs] at h
 | _,_::_,[],_,h=>by simp [rChs] at h
 | n,k::r,x::s,p,h=>by
  cases k<;>cases x<;>simp only [rChs,List.mem_cons] at h
  ·exact rChs_tag n r s p h
  ·have:=rChs_tag n r s p h;simp only [rN];omega
  ·exact rChs_tag n r s p h
  ·rcases h with rfl|h
   ·simp only [rN];omega
   ·have:=rChs_tag (n+1) r s p h;simp only [rN];omega
theorem open_rec {r:Reach} {b0 d n:Nat} {ts:List TypeId} {cs:List Value} (hts:∀ (i:Nat) (v:Value),cs[i]? = some v->∃ u:TypeId,ts[i]? = some u/\Cell.okWide P w r b0 u v) :
 ∀ (fs:List Field) (o:Nat) (l:List RK) (ρ0:Env),recFs P d ts fs o=some l ->
  (∀ f∈fs,∃ x,DataW.trod enc P w 0 (fun _=>true) held n f.type ((cs.drop f.offset).take (P.cellsOf f.type))=some x/\∀ b off,MemPlace.cell b off∈x.2->w.frozen? ⟨b,off,none⟩=false)->o+l.length=cs.length ->
  ∃ (xs:List RD) (ρ:Env),okRDs l xs/\ρ0.le ρ/\ρ.n=ρ0.n+rN xs/\RepL ρ (rAt ρ0.n xs) (cs.drop o)/\HeapSat w (fun _=>False) ρ (ros (rChs ρ0.n l xs)) w
 | [],o,l,ρ0,h,_,hl=>by
  simp [recFs] at h;subst h;refine ⟨[],ρ0,rfl,Env.le.refl _,rfl,?_,⟨Keeps.refl _ _,fun e he=>(by cases he),.nil⟩⟩;have:cs.drop o=[]:=List.drop_eq_nil_of_le (by simp at hl;omega);rw [this];rfl
 | f::fs,o,l,ρ0,h,hf,hl=>by
  simp only [recFs] at h;cases ho:Nat.beq f.offset o with
  | false=>rw [ho] at h;cases h
  | true =>
  rw [ho] at h;simp only [cond_true] at h;have ho':=Nat.eq_of_beq_eq_true ho;obtain ⟨x,hx,hz⟩:=hf f List.mem_cons_self;rw [ho'] at hx;have hfr:∀ g∈fs,∃ x,DataW.trod enc P w 0 (fun _=>true) held n g.type ((cs.drop g.offset).take (P.cellsOf g.type))=some x/\∀ b off,MemPlace.cell b off∈x.2->w.frozen? ⟨b,off,none⟩=false:=fun g hg=>hf g (List.mem_cons_of_mem _ hg);split at h
  ·rename_i e hu;split at h
   ·rename_i ks u l1 e1 e2 e3;cases hb:(Nat.beq ks.length (P.cellsOf e)&&(Nat.ble 1 ks.length&&(Nat.beq (P.cellsOf f.type) 1&&isSlcT P u)))
    ·rw [hb] at h;cases h
    rw [hb] at h;simp only [cond_true,Option.some.injEq] at h;subst h;simp only [Bool.and_eq_true] at hb;obtain ⟨h1,h2,h3,h4⟩:=hb;have hlt:o<cs.length:=by simp at hl;omega
    have hc1:=Nat.eq_of_beq_eq_true h3;have hone:(cs.drop o).take (P.cellsOf f.type)=[cs[o]]:=by
     rw [hc1,List.drop_eq_getElem_cons hlt];rfl
    rw [hone] at hx;obtain ⟨u',hu',hok⟩:=hts o cs[o] (List.getElem?_eq_getElem hlt);rw [e2] at hu';cases hu';obtain ⟨p,m,cap,rows,hn,hc,hrows,hlt2,hrep,hsat,_⟩:=open_cell hu e1 (Nat.eq_of_beq_eq_true h1) (Nat.le_of_ble_eq_true h2) (dd:=x.1) (ps:=x.2) hx hz;obtain ⟨xs,ρ,g1,g2,g3,g4,g5⟩:=open_rec hts fs (o+1) l1 (ρ0.ext p) e3 hfr (by simp at hl ⊢;omega);have hpl:ρ.pl ρ0.n=p:=by rw [g2.pl _ (Nat.lt_succ_self _)];exact ρ0.ext_new p
    have hlt':ρ0.n<ρ.n:=g2.n;refine ⟨.s ks.length m cap rows::xs,ρ,⟨_,_,rfl,⟨m,cap,rows,rfl,hn,hc,hrows⟩,g1⟩,(ρ0.le_ext p).trans g2,by rw [g3];simp [rN,Env.ext];omega,?_,?_⟩
    ·rw [List.drop_eq_getElem_cons hlt];exact ⟨_,_,rfl,hrep ρ ρ0.n hlt' hpl,g4⟩
    ·refine HeapSat.cons g5 ⟨hlt',by simp only;rw [hpl];exact hsat ρ,by simp only;rw [hpl];exact hlt2,fun h=>(by cases h)⟩ fun y hy=>⟨?_,fun h=>?_⟩
     ·obtain ⟨q,hq,rfl⟩:=List.mem_map.1 hy;have:=(rChs_tag _ _ _ _ hq).1;simp only [Env.ext] at this ⊢;omega
     ·rw [ros_wr hy] at h;cases h
   ·cases h
  ·split at h
   ·rename_i ks l1 e1 e3;cases hb:Nat.beq ks.length (P.cellsOf f.type)
    ·rw [hb] at h;cases h
    rw [hb] at h;simp only [cond_true,Option.some.injEq] at h;subst h;have hb':=Nat.eq_of_beq_eq_true hb;have hks:=flat_ok d n f.type _ _ ks hx e1;obtain ⟨xs,ρ,g1,g2,g3,g4,g5⟩:=open_rec hts fs (o+P.cellsOf f.type) l1 ρ0 e3 hfr (by rw [<- hb'];simp at hl;omega);refine ⟨(List.zipWith (fun k v=>RD.a (atomOf k v)) ks ((cs.drop o).take (P.cellsOf f.type)))++xs,ρ,okRDs_app hks g1,g2,by rw [rN_app];exact g3,?_,?_⟩
    ·rw [rAt_app];have e:cs.drop o=(cs.drop o).take (P.cellsOf f.type)++cs.drop (o+P.cellsOf f.type):=by
      rw [<- List.drop_drop,List.take_append_drop]
     rw [e,List.take_append_of_le_length (by rw [hks.len,hb'];exact Nat.le_refl _),List.take_take,Nat.min_self];exact (zip_repL hks).append g4
    ·rw [rChs_app _ _ _ hks.len];exact g5
   ·cases h
theorem chs_tag:∀ (n:Nat) (aks:List AK) (ads:List AD),∀ p∈chs n aks ads,n<=p.1
 | _,[],_,_,h=>by simp [chs] at h
 | _,_::_,[],_,h=>by simp [chs] at h
 | n,k::r,a::s,p,h=>by
  have key:∀ m,n<=m->p∈chs m r s->n<=p.1:=fun m hm h=>Nat.le_trans hm (chs_tag m r s p h);cases k<;>cases a<;>simp only [chs,List.mem_cons,List.mem_append] at h<;>first|exact key n (Nat.le_refl _) h|skip
  ·rcases h with rfl|h
   ·exact Nat.le_refl _
   ·exact key (n+1) (Nat.le_succ _) h
  ·rcases h with h|h
   ·exact (rChs_tag _ _ _ _ h).1
   ·exact key _ (Nat.le_add_right _ _) h
theorem atoms_repL {ρ:Env} {ks:List CK} {cs:List Value} (h:KsOk ks cs):RepL ρ (atoms (fun j=>cs.getD j undef) ks 0) cs:=by
 have:=atoms_rep ρ (fun j=>cs.getD j undef) ks 0 (fun j k hk=>by
  have hj:j<cs.length:=by rw [h.len];exact (List.getElem?_eq_some_iff.1 hk).1
  rw [Nat.zero_add];refine h.ok j k _ hk ?_;simp [List.getD,List.getElem?_eq_getElem hj])
 have e:(List.range' 0 ks.length).map (fun j=>cs.getD j undef)=cs:=by
  apply List.ext_getElem
  ·simp [h.len]
  ·intro i h1 h2;simp [List.getD,List.getElem?_eq_getElem h2]
 rwa [e] at this
theorem open_args {r:Reach} {b0 d:Nat}:∀ (ts:List TypeId) (aks:List AK) (vs:List Value) (ds:List (DataW H)) (ps:List MemPlace) (ρ0:Env),argKs P d ts=some aks->DataW.TrodAll enc P w 0 (fun _=>true) held ts vs ds ps ->
 (∀ (j:Nat) (t:TypeId) (v:Value),ts[j]? = some t->vs[j]? = some v->Value.okWide P w r b0 t v)->(∀ b off,MemPlace.cell b off∈ps->w.frozen? ⟨b,off,none⟩=false) ->
 ∃ (ads:List AD) (ρ:Env),okADs aks ads/\ρ0.le ρ/\ρ.n=ρ0.n+slcs ads/\RepArgs ρ (svs ρ0.n ads) vs/\HeapSat w (fun _=>False) ρ (ros (chs ρ0.n aks ads)) w
 | [],aks,[],[],ps,ρ0,h,hA,_,_=>by
  simp [argKs] at h;subst h;exact ⟨[],ρ0,rfl,Env.le.refl _,rfl,rfl,⟨Keeps.refl _ _,fun e he=>(by cases he),.nil⟩⟩
 | t::ts,aks,v::vs,dd::ds,ps,ρ0,h,hA,hval,hz=>by
  obtain ⟨p1,p2,hT,hA',rfl⟩:=hA;simp only [argKs] at h;split at h
  ·rename_i k l e1 e2;cases h;have hv0:=hval 0 t v rfl rfl;have rec_:=fun ρ=>open_args (r:=r) (b0:=b0) (d:=d) ts l vs ds p2 ρ e2 hA' (fun j t v hj hv=>hval (j+1) t v (by simpa using hj) (by simpa using hv)) (fun b off hm=>hz b off (List.mem_append_right _ hm));have hz1:∀ b off,MemPlace.cell b off∈p1->w.frozen? ⟨b,off,none⟩=false:=fun b off hm=>hz b off (List.mem_append_left _ hm);obtain ⟨fuel,hx⟩:=hT;have one:∀ u,v.cells.toList=[u]->u.oneCell'=true->(∀ x,v≠.agg x)->v=u:=by
    intro u hv hu hna;cases v<;>simp [Value.cells] at hv<;>first|exact hv|exact hv.symm|(rename_i x;exact absurd rfl (hna x))|(subst hv;simp [Value.oneCell'] at hu)
   have nagg:∀ x:Array Value,v = .agg x->(∃ fs,P.underlying t=some (.struct fs))\/∃ n e,P.underlying t=some (.array n e):=by
    intro x hx;subst hx;unfold Value.okWide at hv0;split at hv0
    ·rename_i fs hu;exact .inl ⟨fs,hu⟩
    ·rename_i n e hu;exact .inr ⟨n,e,hu⟩
    ·rename_i h1 h2;unfold Cell.okWide at hv0;split at hv0<;>first|(cases ‹Value.agg x=_›;done)|skip
     all_goals (first|(rename_i e;cases e;done)|skip)
     unfold Cell.ok at hv0;split at hv0<;>first|(rename_i e;cases e;done)|exact hv0.elim|skip
   unfold argK at e1;split at e1
   ·rename_i hu;cases e1;obtain ⟨b,hb,_⟩:=DataW.trod_bool hu hx;have hv:=one _ hb rfl (fun x hx=>by rcases nagg x hx with ⟨_,h⟩ | ⟨_,_,h⟩<;>rw [hu] at h<;>cases h);subst hv;obtain ⟨ads,ρ,h1,h2,h3,h4,h5⟩:=rec_ ρ0;exact ⟨.a (.bool b)::ads,ρ,⟨_,_,rfl,⟨b,rfl⟩,h1⟩,h2,h3,⟨_,_,rfl,rfl,h4⟩,h5⟩
   ·rename_i kk hu;cases e1;obtain ⟨m,hb,_,hw⟩:=DataW.trod_int hu hx;have hv:=one _ hb rfl (fun x hx=>by rcases nagg x hx with ⟨_,h⟩ | ⟨_,_,h⟩<;>rw [hu] at h<;>cases h);subst hv;have hin:InR kk m:=by rw [InR_iff];simpa [Lit.wf] using hw
    obtain ⟨ads,ρ,h1,h2,h3,h4,h5⟩:=rec_ ρ0;exact ⟨.a (.int kk m)::ads,ρ,⟨_,_,rfl,⟨m,rfl,hin⟩,h1⟩,h2,h3,⟨_,_,rfl,⟨rfl,hin⟩,h4⟩,h5⟩
   ·rename_i hu;cases e1;obtain ⟨s,hb,_,hs⟩:=DataW.trod_string hu hx;have hv:=one _ hb rfl (fun x hx=>by rcases nagg x hx with ⟨_,h⟩ | ⟨_,_,h⟩<;>rw [hu] at h<;>cases h);subst hv;have hs':s.size<=lenMax:=by unfold lenMax;unfold maxLen at hs;exact hs
    obtain ⟨ads,ρ,h1,h2,h3,h4,h5⟩:=rec_ ρ0;exact ⟨.a (.str s)::ads,ρ,⟨_,_,rfl,⟨s,rfl,hs'⟩,h1⟩,h2,h3,⟨_,_,rfl,⟨rfl,hs'⟩,h4⟩,h5⟩
   ·rename_i fs hu;cases hf:flatK P d t with
    | none =>
     rw [hf] at e1;simp only at e1;split at e1
     ·rename_i tys hty;split at e1
      ·rename_i fl hfl;cases hb:(Nat.beq fl.length (P.cellsOf t)&&Nat.beq tys.length (P.cellsOf t))
       ·rw [hb] at e1;cases e1
       rw [hb] at e1;simp only [cond_true,Option.some.injEq] at e1;subst e1;simp only [Bool.and_eq_true] at hb;have hb1:=Nat.eq_of_beq_eq_true hb.1;have hb2:=Nat.eq_of_beq_eq_true hb.2;have hv:∃ cs:Array Value,v = .agg cs/\cs.size=P.cellsOf t/\Row.okWide P w r b0 t cs:=by
        unfold Value.okWide at hv0;rw [hu] at hv0;exact hv0
       obtain ⟨cs,rfl,hcs,hrow⟩:=hv;obtain ⟨tys',hty',_,hcell⟩:=hrow;rw [hty] at hty';cases hty';obtain ⟨xs,m,rfl,hxx,hl,hlen,hget⟩:=DataW.trod_struct hu hx;have hps:p1=xs.flatMap (·.2):=congrArg Prod.snd hxx;obtain ⟨rd,ρ1,g1,g2,g3,g4,g5⟩:=open_rec (r:=r) (b0:=b0) (d:=d) (n:=m) (ts:=tys) (cs:=cs.toList) (enc:=enc) (held:=held) (P:=P) (w:=w) (fun i v hi=>by
        have hi':cs[i]? = some v:=by simpa using hi
        obtain ⟨u,h1,h2⟩:=hcell i v hi';have hlt:=(Array.getElem?_eq_some_iff.1 hi').1;rw [Nat.mod_eq_of_lt (by omega)] at h1;exact ⟨u,h1,h2⟩) fs.toList 0 fl ρ0 hfl (fun f hf=>by
        obtain ⟨i,hi,e⟩:=List.getElem_of_mem hf;have hi':i<fs.size:=by simpa using hi
        have h1:=hget i f (by rw [Array.getElem?_eq_getElem hi'];congr 1);refine ⟨xs[i]'(by omega),by rw [<- List.getElem?_eq_getElem (by omega)];exact h1,fun b off hm=>hz1 b off ?_⟩;rw [hps];exact List.mem_flatMap.2 ⟨_,List.getElem_mem _,hm⟩) (by simp [hb1,hcs])
       obtain ⟨ads,ρ,h1,h2,h3,h4,h5⟩:=rec_ ρ1;rw [g3] at h4 h5;refine ⟨.rcd rd::ads,ρ,⟨_,_,rfl,⟨rd,rfl,g1⟩,h1⟩,g2.trans h2,by rw [h3,g3];simp [slcs];omega,⟨_,_,rfl,⟨cs.toList,by simp,?_⟩,h4⟩,?_⟩
       ·have:=g4.mono h2;simpa using this
       ·show HeapSat w (fun _=>False) ρ (ros (rChs ρ0.n fl rd++chs (ρ0.n+rN rd) l ads)) w;rw [show ros (rChs ρ0.n fl rd++chs (ρ0.n+rN rd) l ads)=ros (rChs ρ0.n fl rd)++ros (chs (ρ0.n+rN rd) l ads) from List.map_append ..];refine (g5.mono h2).app h5 fun x hx y hy=>⟨?_,fun h=>?_⟩
        ·obtain ⟨q,hq,rfl⟩:=List.mem_map.1 hx;obtain ⟨q',hq',rfl⟩:=List.mem_map.1 hy;have a1:=rChs_tag _ _ _ _ hq;have a2:=chs_tag _ _ _ _ hq';simp only;omega
        ·rw [ros_wr hx,ros_wr hy] at h;cases h
      ·cases e1
     ·cases e1
    | some ks =>
     rw [hf] at e1;cases e1;have hks:=flat_ok d fuel t _ _ ks hx hf;have hv:∃ cs:Array Value,v = .agg cs:=by
      unfold Value.okWide at hv0;rw [hu] at hv0;obtain ⟨cs,h,_⟩:=hv0;exact ⟨cs,h⟩
     obtain ⟨cs,rfl⟩:=hv;have hks:KsOk ks cs.toList:=hks;obtain ⟨ads,ρ,h1,h2,h3,h4,h5⟩:=rec_ ρ0;refine ⟨.agg (atoms (fun j=>cs.toList.getD j undef) ks 0)::ads,ρ,⟨_,_,rfl,⟨_,rfl,fun j k hj=>?_⟩,h1⟩,h2,h3,⟨_,_,rfl,⟨cs.toList,by simp,atoms_repL hks⟩,h4⟩,h5⟩;have hjl:j<cs.toList.length:=by rw [hks.len];exact (List.getElem?_eq_some_iff.1 hj).1
     exact hks.ok j k _ hj (by simp [List.getD,List.getElem?_eq_getElem hjl])
   ·rename_i e hu;split at e1
    ·rename_i ks hf;cases hb:(Nat.beq ks.length (P.cellsOf e)&&Nat.ble 1 ks.length)
     ·rw [hb] at e1;cases e1
     rw [hb] at e1;cases e1;simp only [Bool.and_eq_true] at hb;obtain ⟨p,n,cap,rows,hn,hc,hrows,hlt,hrep,hsat⟩:=open_slice hu hf (Nat.eq_of_beq_eq_true hb.1) (Nat.le_of_ble_eq_true hb.2) hv0 ⟨fuel,hx⟩ hz1;obtain ⟨ads,ρ,h1,h2,h3,h4,h5⟩:=rec_ (ρ0.ext p);have hpl:ρ.pl ρ0.n=p:=by rw [h2.pl _ (Nat.lt_succ_self _)];exact ρ0.ext_new p
     have hlt':ρ0.n<ρ.n:=h2.n;refine ⟨.slc ks.length n cap rows::ads,ρ,⟨_,_,rfl,⟨n,cap,rows,rfl,hn,hc,hrows⟩,h1⟩,(ρ0.le_ext p).trans h2,by rw [h3];simp [slcs,Env.ext];omega,⟨_,_,rfl,hrep ρ ρ0.n hlt' hpl,h4⟩,?_⟩;refine HeapSat.cons h5 ⟨hlt',by simp only;rw [hpl];exact hsat ρ,by simp only;rw [hpl];exact hlt,fun h=>(by cases h)⟩ fun x hx=>⟨?_,fun h=>?_⟩
     ·obtain ⟨q,hq,rfl⟩:=List.mem_map.1 hx;have:=chs_tag _ _ _ _ hq;simp only [Env.ext] at this ⊢;omega
     ·rw [ros_wr hx] at h;cases h
    ·cases e1
   ·cases e1
  ·cases h
 | [],_,[],_::_,_,_,_,h,_,_=>h.elim
 | [],_,_::_,_,_,_,_,h,_,_=>h.elim
 | _::_,_,[],_,_,_,_,h,_,_=>h.elim
 | _::_,_,_::_,[],_,_,_,h,_,_=>h.elim
theorem law_con {Y:Gx} (hY:Y.Ok) {C:Con} {ch:C.α->CallH} (hch:∀ a,HOk Y.G.X (ch a)) {lh:C.α->Nat->LH} {f:Nat} (hb:conBody Y C ch lh f) (a:C.α) (hp:C.pre a) (hhp:C.hp a=[]) (hres:∀ o,C.res a o = .a .tt) {w:World} {ρ:Env} {vs:List Value}
 (hn:ρ.n=C.m) (hh:HeapSat w (fun _=>False) ρ (ros (C.ro a)) w) (hargs:RepArgs ρ (C.args a) vs):Calls Y.G.X.P f vs.toArray w fun e w'=>e = .returned (.bool true)/\Keeps (fun _=>False) w w':=by
 refine (xbody_ok hY (hch a) (hb a hp) w (fun _=>False) ρ w vs hn ?_ hargs).mono ?_
 ·show HeapSat w (fun _=>False) ρ (wrs (C.hp a)++ros (C.ro a)) w;rw [hhp];exact hh
 ·rintro e w' ⟨v,rfl,sv,s',ρ',hK,_,_,_,_,hrep,hh'⟩;refine ⟨?_,hh'.keeps⟩;obtain ⟨o,hK⟩:=hK;obtain ⟨τ,_,_,hw,q⟩:=matchV_ok hK (Wf.nil _ _);have:=q ρ' (subEnv ρ' τ C.m') v (subEnv_fits hw) hrep;rw [hres o] at this;rw [show v = .bool true from this]
theorem law_run {Y:Gx} (hY:Y.Ok) {C:Con} {ch:C.α->CallH} (hch:∀ a,HOk Y.G.X (ch a)) {lh:C.α->Nat->LH} {f:Nat} (hb:conBody Y C ch lh f) {ts:List TypeId} {aks:List AK} {d:Nat} (hk:argKs Y.G.X.P d ts=some aks) (hhp:∀ a,C.hp a=[]) (hres:∀ a o,C.res a o = .a .tt)
 (hinst:∀ ads,okADs aks ads->∃ a,C.pre a/\C.args a=svs 0 ads/\C.ro a=chs 0 aks ads/\C.m=slcs ads) {W:World} {args:Array Value} {ds:List (DataW H)} {ps:List MemPlace} {r:Reach} {b0:Nat}
 (hA:DataW.TrodAll enc Y.G.X.P W 0 (fun _=>true) held ts args.toList ds ps) (hval:∀ (j:Nat) (t:TypeId) (v:Value),ts[j]? = some t->args.toList[j]? = some v->Value.okWide Y.G.X.P W r b0 t v)
 (hz:∀ b off,MemPlace.cell b off∈ps->W.frozen? ⟨b,off,none⟩=false):Calls Y.G.X.P f args W fun e w'=>e = .returned (.bool true)/\Keeps (fun _=>False) W w':=by
 obtain ⟨ads,ρ,h1,_,h3,h4,h5⟩:=open_args (r:=r) (b0:=b0) (d:=d) ts aks args.toList ds ps ⟨0,fun _=>nilPlace⟩ hk hA hval hz;obtain ⟨a,g1,g2,g3,g4⟩:=hinst ads h1;have:=law_con hY hch hb a g1 (hhp a) (hres a) (w:=W) (ρ:=ρ) (vs:=args.toList) (by rw [h3,g4];simp) (by rw [g3];exact h5) (by rw [g2];exact h4);simpa using this
theorem fn_run {Y:Gx} (hY:Y.Ok) {tab:List (Nat × Con)} (ht:TabOk Y.G.X tab) {f:Nat} {C:Con} {l:C.α->List (Nat × List An × List An)} (hb:fnBody Y tab f C l) {ts:List TypeId} {aks:List AK} {d:Nat} (hk:argKs Y.G.X.P d ts=some aks) (hhp:∀ a,C.hp a=[]) (hres:∀ a o,C.res a o = .a .tt)
 (hinst:∀ ads,okADs aks ads->∃ a,C.pre a/\C.args a=svs 0 ads/\C.ro a=chs 0 aks ads/\C.m=slcs ads) {W:World} {args:Array Value} {ds:List (DataW H)} {ps:List MemPlace} {r:Reach} {b0:Nat}
 (hA:DataW.TrodAll enc Y.G.X.P W 0 (fun _=>true) held ts args.toList ds ps) (hval:∀ (j:Nat) (t:TypeId) (v:Value),ts[j]? = some t->args.toList[j]? = some v->Value.okWide Y.G.X.P W r b0 t v)
 (hz:∀ b off,MemPlace.cell b off∈ps->W.frozen? ⟨b,off,none⟩=false):Calls Y.G.X.P f args W fun e w'=>e = .returned (.bool true)/\Keeps (fun _=>False) W w' :=
 law_run hY (fun _=>CHof_ok hY ht) hb.body hk hhp hres hinst hA hval hz
theorem trodAll_len:∀ {ts:List TypeId} {vs:List Value} {ds:List (DataW H)} {ps:List MemPlace},DataW.TrodAll enc P w base spare held ts vs ds ps->ds.length=ts.length
 | [],[],[],_,_=>rfl
 | _::_,_::_,_::_,_,⟨_,_,_,h,_⟩=>by simp [trodAll_len h]
 | [],[],_::_,_,h=>h.elim
 | [],_::_,_,_,h=>h.elim
 | _::_,[],_,_,h=>h.elim
 | _::_,_::_,[],_,h=>h.elim
theorem trodAll_stays (hl:laidOutB P=true) {W W':World} (hk:Keeps (fun _=>False) W W') {sp:Nat->Bool}:∀ {ts:List TypeId} {vs:List Value} {ds:List (DataW H)} {ps:List MemPlace},(∀ t∈ts,P.readableRec t=true/\t<P.types.size) ->
 DataW.TrodAll enc P W 0 (fun _=>true) true ts vs ds ps->(∀ p∈ps,p.block<W.heap.size/\sp p.block=true)->DataW.TrodAll enc P W' 0 sp true ts vs ds ps
 | [],[],[],_,_,h,_=>h
 | t::ts,v::vs,d::ds,ps,ht,⟨p1,p2,h1,h2,e⟩,hp=>by
  subst e;have hb:Below W.heap.size W W':=⟨hk.os,hk.tape,hk.output,hk.size,fun b hb=>hk.block b hb id⟩
  obtain ⟨a1,a2⟩:=ht t List.mem_cons_self;exact ⟨p1,p2,WideElems.Trod_stays hl a1 a2 h1 (fun x hx=>hb.same (hp x (List.mem_append_left _ hx)).1) (fun x hx=>(hp x (List.mem_append_left _ hx)).2),
   trodAll_stays hl hk (fun t h=>ht t (List.mem_cons_of_mem _ h)) h2 fun x hx=>hp x (List.mem_append_right _ hx),rfl⟩
 | [],[],_::_,_,_,h,_=>h.elim
 | [],_::_,_,_,_,h,_=>h.elim
 | _::_,[],_,_,_,h,_=>h.elim
 | _::_,_::_,[],_,_,h,_=>h.elim
end
end Go.Sx

namespace Go.Proofs.YtfhkbihcfmbbcaaGreat
open Go.Sx
set_option maxRecDepth 100000
set_option linter.unusedVariables false
set_option linter.unusedSimpArgs false
theorem StAt.cache {s:StM} {p:StP} (h:StAt s p) {m:FlM} {q:FlP} (hf:FlAt m q) (hfr:FlFr p.fl q):StAt { s with cL:=m.L,d:=m.d,cl:=m.l } ⟨q.H,q.y,q.x,q.cap,p.jy,p.jc,p.kc⟩ :=
 ⟨hf,h.jl.frame fun z hz=>(hfr z (h.jl.dom z hz) (h.sep z hz)).1,fun z hz=>(hfr z (h.jl.dom z hz) (h.sep z hz)).2,h.cap⟩
noncomputable def tabSt:List (Nat × Con):=[(11,cDevNew),(10,cStMake),(12,cStOpen),(9,cKill),(18,cFPut),(25,cFGet),(15,cDevCrash),(72,cDevFlush),(24,cJSeq),(58,Ix.cKeys),(28,cJAdd)]
theorem tabSt_ok:TabOk (Y Tryz.prog).G.X tabSt:=⟨callDevNew,callStMake,callStOpen,callKill,callFPut,callFGet,callDevCrash,callDevFlush,callJSeq,Ix.callKeys,callJAdd,trivial⟩
def keyKS:ByteArray:=⟨#[107]⟩
def itKS:ItemM:=⟨keyKS,⟨#[118]⟩,0,false⟩
noncomputable def cBegunS:Con where
 α:=Unit
 β:=Unit
 m:=0
 m':=0
 pre:=fun _=>True
 args:=fun _=>[]
 hp:=fun _=>[]
 ro:=fun _=>[]
 post:=fun _ _=>True
 res:=fun _ _=>.a .tt
 hp':=fun _ _=>[]
set_option maxHeartbeats 4000000 in
theorem bodyBegunS:fnBody (Y Tryz.prog) tabSt 13 cBegunS fun _=>[(13,[],[An.newPool 1 (.mk 1000 [] [])])]:=fnBody.of (p :=
 ∀ a:Unit,True->∃ a:Int,(400:Int)=a/\True/\∀ b:Unit,True->∃ a_2:SMakA,0=0/\devQ (devNew a) a_2.d ((fun (x:Nat)=>none)=a_2.H/\(192<=a_2.d.n/\a_2.d.n<100000/\a_2.d.calls<100000000000/\PartOk (makA a_2))/\∀ b:StP,StAt (partM (makA a_2)) b/\StFr a_2.H [] [] b->∃ a:FPutA,0=0/\{ data:=#[(107:UInt8)] }=a.x.key/\{ data:=#[(118:UInt8)] }=a.x.val/\(0:Int)=a.x.e/\false=a.x.gone/\0=0/\0=0/\0=0/\logQ (partM (makA a_2)).cL a.m.L b.cy.lv a.p.y.lv (devQ (partM (makA a_2)).d a.m.d (idxQ b.x a.p.x b.xc a.p.cap (b.H=a.p.H/\(FlAt a.m a.p/\(putOk a.x=true->FlOk a.m (bodyOf (some a.x)).length))/\∀ b_1:FlP,FlAt (putF a.m a.x) b_1/\FlFr a.p b_1->∃ a_4:FGetA,0=0/\{ data:=#[(107:UInt8)] }=a_4.key/\(0:Int)=a_4.now/\0=0/\0=0/\0=0/\logQ (putF a.m a.x).L a_4.m.L b_1.y.lv a_4.p.y.lv (devQ (putF a.m a.x).d a_4.m.d (idxQ b_1.x a_4.p.x b_1.cap a_4.p.cap (b_1.H=a_4.p.H/\(FlAt a_4.m a_4.p/\FlRd a_4.m/\EntIs a_4.m a_4.key a_4.r/\a_4.key.size<=lenMax)/\∀ b_2:Unit,True->∃ a_6:SKilA,0=0/\(0=0/\1=a_6.ks.length/\1=a_6.kc)/\0=0/\0=0/\0=0/\(partM (makA a_2)).boot=a_6.s.boot/\0=0/\0=0/\0=0/\logQ (putF a.m a.x).L a_6.s.cL b_1.y.lv a_6.p.cy.lv (devQ (putF a.m a.x).d a_6.s.d (idxQ b_1.x a_6.p.x b_1.cap a_6.p.xc (0=0/\markQ (partM (makA a_2)).ms a_6.s.ms b.jc a_6.p.jc (0=0/\logQ (partM (makA a_2)).jL a_6.s.jL b.jy.lv a_6.p.jy.lv (0=0/\keepQ (partM (makA a_2)).k a_6.s.k b.kc a_6.p.kc (b_1.H=a_6.p.H /\
 (a_6.ks.length<=1/\RowsEq a_6.ks.length 1 (flatRows 1 [Value.string { data:=#[(107:UInt8)] }]) (encRows encT a_6.ks))/\(StAt a_6.s a_6.p/\KillOk a_6)/\∀ b:StP,StAt (killS a_6.s a_6.ks) b/\StFr a_6.p.H (fpLog a_6.p.cy) (fpLog a_6.p.jy) b->∃ a_8:FGetA,0=0/\{ data:=#[(107:UInt8)] }=a_8.key/\(0:Int)=a_8.now/\0=0/\0=0/\0=0/\logQ (killS a_6.s a_6.ks).cL a_8.m.L b.cy.lv a_8.p.y.lv (devQ (killS a_6.s a_6.ks).d a_8.m.d (idxQ b.x a_8.p.x b.xc a_8.p.cap (b.H=a_8.p.H/\(FlAt a_8.m a_8.p/\FlRd a_8.m/\EntIs a_8.m a_8.key a_8.r/\a_8.key.size<=lenMax)/\∀ b_3:Unit,True->∃ a_10:CrashA,0=0/\(0=a_10.klen/\0=a_10.kcap)/\devQ (killS a_6.s a_6.ks).d a_10.d (a_10.kn=0/\(1<=a_10.d.n/\a_10.d.n<=2048/\a_10.kr+a_10.klen<=a_10.kn/\a_10.klen<100000)/\∀ b_4:Unit,True->∃ a_12:SOpnA,0=0/\devQ (devCrash a_10.d a_10.klen fun (i:Nat)=>a_10.keep (a_10.kr+i)) a_12.d (b.H=a_12.H/\(((0+1<a_12.d.n/\a_12.d.n<100000/\(supTo 0 a_12.d 2).turn≠(0:Int)/\∀ k:Nat,k<2->supG (supTo 0 a_12.d k) (a_12.d.now (0+k))=true->(1:Int)<=a_12.d.now (0+k) 12)/\(supTo 0 a_12.d 2).text=textM a_12.m/\mayM a_12.m=true)/\PartOk (opnA a_12))/\∀ b:StP,StAt (partM (opnA a_12)) b/\StFr a_12.H [] [] b->(((if putOk a.x=true then (0:Int) else (1:Int)) == (0:Int))=true->((getR a_4.r a_4.now).isSome=true->(decide (((getR a_4.r a_4.now).getD zeroItem).val={ data:=#[(118:UInt8)] })=true->(((if allK a_6.ks=true then seqOf (addsJ a_6.s.jr a_6.ks).ms else (0:Int)) == (1:Int))=true ->
 (((if allK a_6.ks=true then (0:Int) else (1:Int)) == (0:Int))=true->((!(getR a_8.r a_8.now).isSome)=true->∃ a:JSqA,0=0/\0=0/\markQ (partM (opnA a_12)).ms a.ms b.jc a.cap (a.ms.length<100000/\∀ b:Unit,True->((seqOf a.ms == (1:Int))=true->InR .i64 (partM (opnA a_12)).boot->(((partM (opnA a_12)).boot == (2:Int))=true->InR .i64 (killS a_6.s a_6.ks).boot->(((killS a_6.s a_6.ks).boot == (1:Int))=true->∃ b:Unit,((partM (opnA a_12)).k.m.boot == (2:Int))=true/\True/\True)/\(((killS a_6.s a_6.ks).boot == (1:Int))=false->∃ b:Unit,false=true/\True/\True))/\(((partM (opnA a_12)).boot == (2:Int))=false->∃ b:Unit,false=true/\True/\True))/\((seqOf a.ms == (1:Int))=false->∃ b:Unit,false=true/\True/\True)))/\((!(getR a_8.r a_8.now).isSome)=false->∃ b:Unit,false=true/\True/\True))/\(((if allK a_6.ks=true then (0:Int) else (1:Int)) == (0:Int))=false->∃ b:Unit,false=true/\True/\True))/\(((if allK a_6.ks=true then seqOf (addsJ a_6.s.jr a_6.ks).ms else (0:Int)) == (1:Int))=false->∃ b:Unit,false=true/\True/\True))/\(decide (((getR a_4.r a_4.now).getD zeroItem).val={ data:=#[(118:UInt8)] })=false->∃ b:Unit,false=true/\True/\True))/\((getR a_4.r a_4.now).isSome=false->∃ b:Unit,false=true/\True/\True))/\(((if putOk a.x=true then (0:Int) else (1:Int)) == (0:Int))=false->∃ b:Unit,false=true/\True/\True)))))))))))))))))))) (by kernel_rfl) (by
 intro _ _;obtain ⟨m1,m2,m3,m4,m5,m6,m7⟩:=make_ok (d:=devNew 400) (c:=0) (by decide) (Nat.le_refl 0) (by omega) (fun _=>none);refine ⟨400,rfl,trivial,fun _ _=>⟨SMakA.mk (devNew 400) (fun _=>none),?_⟩⟩;obtain ⟨S0,hS0⟩:∃ s,s=partM (makA ⟨devNew 400,fun _=>none⟩):=⟨_,rfl⟩
 rw [<- hS0] at m2 m3 m4 m5 m6 m7;rw [<- hS0]
 (repeat' apply And.intro)<;>first|with_reducible (first|rfl|trivial|assumption)|exact m1.1|exact m1.2.1|exact m1.2.2.1|exact m1.2.2.2|(intro h_;revert h_)|omega|with_reducible exact RowsEq.refl _ _ _|rfl|exact RowsEq.refl _ _ _|exact Nat.le_refl _|(dsimp only;omega)|skip
 rintro p0 ⟨hat0,_⟩;have hp:putOk itKS=true:=by decide
 have hl1:8+(bodyOf (some itKS)).length<=15:=by decide
 obtain ⟨o1,ok1⟩:=m2.put (x:=itKS) hp hl1 (by decide) (by omega);refine ⟨FPutA.mk S0.fl p0.fl itKS,?_⟩;have f0:=hat0.fl
 (repeat' apply And.intro)<;>first|with_reducible (first|rfl|trivial|assumption)|exact f0|exact fun _=>ok1|(intro h_;revert h_)|omega|with_reducible exact RowsEq.refl _ _ _|rfl|exact RowsEq.refl _ _ _|exact Nat.le_refl _|(dsimp only;omega)|skip
 rintro q1 ⟨hf1,hfr1⟩;have hat1:StAt (putS S0 itKS) _:=hat0.cache hf1 hfr1;obtain ⟨g1,g2⟩:=o1.get keyKS;have e1:gE ([]++[some itKS]) keyKS=some itKS:=rfl;rw [e1] at g2;have hks:keyKS.size<=lenMax:=by decide
 refine ⟨FGetA.mk (putS S0 itKS).fl q1 keyKS 0 (some itKS),?_⟩
 (repeat' apply And.intro)<;>first|with_reducible (first|rfl|trivial|assumption)|exact hf1|exact g1|exact g2|exact hks|(intro h_;revert h_)|omega|with_reducible exact RowsEq.refl _ _ _|rfl|exact RowsEq.refl _ _ _|exact Nat.le_refl _|(dsimp only;omega)|skip
 intro _ _;have hK:allK [keyKS]=true:=by decide
 have h0:(putS S0 itKS).ms.length=0:=by show S0.ms.length=0;rw [m4];rfl
 have hwj:∀ i:Nat,i < [keyKS].length->8+(markB ((putS S0 itKS).ms.length+i+1) (gl [keyKS] i)).length<=12:=fun i hi=>by
  obtain rfl:i=0:=by simp at hi;omega
  rw [h0];decide
 have hwc:∀ i:Nat,i < [keyKS].length->8+(bodyOf (some (itemD (gl [keyKS] i)))).length<=16:=fun i hi=>by
  obtain rfl:i=0:=by simp at hi;omega
  decide
 obtain ⟨kok,kd⟩:=o1.kill hK hwj hwc (by decide) (by decide) (by decide) (by decide);have hr1:RowsEq [keyKS].length 1 (flatRows 1 [Value.string keyKS]) (encRows encT [keyKS]):=.of_cells fun i hi=>by
  obtain rfl:i=0:=by simp at hi;omega
  rfl
 have hok:=kok ⟨q1.H,q1.y,q1.x,q1.cap,p0.jy,p0.jc,p0.kc⟩ 1;refine ⟨SKilA.mk (putS S0 itKS) ⟨q1.H,q1.y,q1.x,q1.cap,p0.jy,p0.jc,p0.kc⟩ [keyKS] 1,?_⟩
 (repeat' apply And.intro)<;>first|with_reducible (first|rfl|trivial|assumption)|exact hr1|exact hat1|exact hok|(intro h_;revert h_)|omega|with_reducible exact RowsEq.refl _ _ _|rfl|exact RowsEq.refl _ _ _|exact Nat.le_refl _|(dsimp only;omega)|skip
 rintro p2 ⟨hat2,_⟩;dsimp only at hat2 ⊢;obtain ⟨k1,k2,k3,k4,k5,k6,k7⟩:=kd;obtain ⟨S2,hS2⟩:∃ s,s=killS (putS S0 itKS) [keyKS]:=⟨_,rfl⟩
 rw [<- hS2] at hat2 k1 k2 k4 k5 k6 k7;rw [<- hS2];obtain ⟨g3,g4⟩:=k1.get keyKS;have e2:gE ([]++[some itKS]++[keyKS].map fun q=>some (itemD q)) keyKS=none:=rfl;rw [e2] at g4;have f2:=hat2.fl;refine ⟨FGetA.mk S2.fl p2.fl keyKS 0 none,?_⟩
 (repeat' apply And.intro)<;>first|with_reducible (first|rfl|trivial|assumption)|exact f2|exact g3|exact g4|exact hks|(intro h_;revert h_)|omega|with_reducible exact RowsEq.refl _ _ _|rfl|exact RowsEq.refl _ _ _|exact Nat.le_refl _|(dsimp only;omega)|skip
 intro _ _;have hn2:S2.d.n=400:=by rw [k5];show (putF S0.fl itKS).d.n=400;rw [putF_n];exact m7
 refine ⟨CrashA.mk S2.d 0 0 0 0 fun _=>false,?_⟩;have c1:1<=S2.d.n:=by omega
 have c2:S2.d.n<=2048:=by omega
 (repeat' apply And.intro)<;>first|with_reducible (first|rfl|trivial|assumption)|exact c1|exact c2|(intro h_;revert h_)|omega|with_reducible exact RowsEq.refl _ _ _|rfl|exact RowsEq.refl _ _ _|exact Nat.le_refl _|(dsimp only;omega)|skip
 intro _ _;have hsm:S2.k.m=⟨1,0,0,false⟩:=by rw [k6.1];exact m3
 obtain ⟨r1,r2,r3,r4,_⟩:=k1.reopen (d':=devCrash S2.d 0 fun i=>false) (c:=0) (fun r j=>(crash_now k7.1 r j).trans (k7.2 r j)) rfl (Nat.le_refl 0) (by omega) (by rw [hsm];decide) (by decide) p2.H;refine ⟨SOpnA.mk (devCrash S2.d 0 fun i=>false) p2.H S2.k.m S2.ms ([]++[some itKS]++[keyKS].map fun q=>some (itemD q)),?_⟩;obtain ⟨S3,hS3⟩:∃ s,s=partM (opnA ⟨devCrash S2.d 0 fun i=>false,p2.H,S2.k.m,S2.ms,[]++[some itKS]++[keyKS].map fun q=>some (itemD q)⟩):=⟨_,rfl⟩
 rw [<- hS3] at r2 r3 r4;rw [<- hS3]
 (repeat' apply And.intro)<;>first|with_reducible (first|rfl|trivial|assumption)|exact r1.1.1.1|exact r1.1.1.2.1|exact r1.1.1.2.2.1|exact r1.1.1.2.2.2|exact r1.1.2.1|exact r1.1.2.2|exact r1.2|(intro h_;revert h_)|omega|with_reducible exact RowsEq.refl _ _ _|rfl|exact RowsEq.refl _ _ _|exact Nat.le_refl _|(dsimp only;omega)|skip
 rintro p3 ⟨hat3,_⟩;rw [hp,hK];have e3:getR (some itKS) 0=some itKS:=rfl;have e4:getR none 0=none:=rfl;have b2:S2.boot=1:=by rw [k6.2];show S0.boot=1;rw [m2.boot,m3]
 have b3:S3.boot=2:=by rw [r3,hsm];rfl
 have b4:S3.k.m.boot=2:=by rw [r2,hsm];rfl
 have l2:S2.ms.length=1:=by rw [k2,h0];rfl
 have s2:seqOf (addsJ (putS S0 itKS).jr [keyKS]).ms=1:=by rw [k3,h0];rfl
 have s3:seqOf S3.ms=1:=by rw [r4,k1.seq,l2];rfl
 have l3:S3.ms.length<100000:=by rw [r4,l2];omega
 dsimp only;rw [e3,e4,b2,b3,b4,s2];refine ⟨fun _=>⟨fun _=>⟨fun _=>⟨fun _=>⟨fun _=>⟨fun _=>⟨JSqA.mk S3.ms p3.jc,?_⟩,fun c=>absurd c (by decide)⟩,fun c=>absurd c (by decide)⟩,fun c=>absurd c (by decide)⟩,fun c=>absurd c (by decide)⟩,fun c=>absurd c (by decide)⟩,fun c=>absurd c (by decide)⟩
 (repeat' apply And.intro)<;>first|with_reducible (first|rfl|trivial|assumption)|exact l3|(intro h_;revert h_)|omega|with_reducible exact RowsEq.refl _ _ _|rfl|exact RowsEq.refl _ _ _|exact Nat.le_refl _|(dsimp only;omega)|skip
 intro _ _;dsimp only;rw [s3];exact ⟨fun _ _=>⟨fun _ _=>⟨fun _=>⟨(),rfl,trivial,trivial⟩,fun c=>absurd c (by decide)⟩,fun c=>absurd c (by decide)⟩,fun c=>absurd c (by decide)⟩)
theorem callBegunS:CallsBy (Y Tryz.prog).G.X 13 cBegunS:=fn_ok okY (tab:=tabSt) tabSt_ok bodyBegunS
end Go.Proofs.YtfhkbihcfmbbcaaGreat

namespace Go.Proofs.YtfhkbihcfmbbcaaGreat
open Go.Sx
set_option maxRecDepth 100000
set_option linter.unusedVariables false
set_option linter.unusedSimpArgs false
def _root_.Go.Sx.An.never (key:Nat):An:=.flat key Unit (fun s _=>⟨s.nt,[],[],s.nx,s.kp,s.rt⟩) (fun _ _=>False) (fun _ _=>0)
noncomputable def cMakeNo:Con where
 α:=DevM
 β:=Unit
 m:=2
 m':=2
 pre:=fun d=>d.n<192
 args:=fun _=>[.a (.ptr 0 0 0 0)]
 hp:=fun _=>[]
 ro:=fun d=>devHp 0 1 d
 post:=fun _ _=>True
 res:=fun _ _=>.tup [.a .nil,.a (.lit .i64 4)]
 hp':=fun _ _=>[]
set_option maxHeartbeats 4000000 in
theorem bodyMakeNo:fnBody (Y Tryz.prog) [] 10 cMakeNo fun _=>[(10,[An.never 5],[])]:=fnBody.of (p :=
 ∀ a:DevM,a.n<192->(decide ((↑a.n:Int)<192)=true->∃ b:Unit,(4:Int)=4/\True/\True)/\(decide ((↑a.n:Int)<192)=false->(∃ a:Unit,False/\True)/\∀ a:Unit,False->False)) (by kernel_rfl) (by
 intro d h;exact ⟨fun _=>⟨(),rfl,trivial,trivial⟩,fun c=>by (exfalso;have:=of_decide_eq_false c;omega)⟩)
theorem callMakeNo:CallsBy (Y Tryz.prog).G.X 10 cMakeNo:=fn_ok okY (tab:=[]) trivial bodyMakeNo
structure SOpZ where
 at_:Nat
 d:DevM
noncomputable def cSOpenZ:Con where
 α:=SOpZ
 β:=Unit
 m:=2
 m':=2
 pre:=fun a=>a.at_+1<a.d.n/\a.d.n<100000/\∀ k,k<2->∀ j,j<64->a.d.now (a.at_+k) j=0
 args:=fun a=>[.a (.ptr 0 0 0 0),.a (.int .i64 a.at_)]
 hp:=fun _=>[]
 ro:=fun a=>devHp 0 1 a.d
 post:=fun _ _=>True
 res:=fun _ _=>.tup [.a .nil,.a (.lit .i64 3)]
 hp':=fun _ _=>[]
def iSOpenZ:An:=.flat 7 Nat (fun s k=>s.int 23 k) (fun _ k=>k<=2) (fun _ k=>2 - k)
set_option maxHeartbeats 4000000 in
theorem bodySOpenZ:fnBody (Y Tryz.prog) [(90,cGet),(91,cCrc),(89,cDevRead)] 64 cSOpenZ fun a=>[(64,[iSOpenZ],[])]:=fnBody.of (p :=
 ∀ a:SOpZ,(a.at_+1<a.d.n/\a.d.n<100000/\∀ k:Nat,k<2->∀ j:Nat,j<64->a.d.now (a.at_+k) j=(0:Int))->(decide (0<=(↑a.at_:Int))=true->InR .i64 ((↑a.d.n:Int) - 1)/\((!decide ((↑a.at_:Int)<(↑a.d.n:Int) - 1))=true->∃ b:Unit,(4:Int)=3/\True/\True)/\((!decide ((↑a.at_:Int)<(↑a.d.n:Int) - 1))=false->(∃ a_4:Nat,0=(↑a_4:Int)/\0=0/\(!decide ((↑a.at_:Int)<(↑a.d.n:Int) - 1)) = !decide ((↑a.at_:Int)<(↑a.d.n:Int) - 1)/\false=false/\(0:Int)=0/\0=0/\(↑a.at_:Int)=(↑a.at_:Int)/\0=0/\(↑a.at_:Int)=(↑a.at_:Int)/\(0:Int)=0/\(0:Int)=0/\devQ a.d a.d (a_4<=2/\True))/\∀ a_4:Nat,a_4<=2->(decide ((↑a_4:Int)<2)=true->InR .i64 ((↑a.at_:Int)+(↑a_4:Int))/\∃ a_7:RdA,0=0/\(↑a.at_:Int)+(↑a_4:Int)=(↑a_7.i:Int)/\devQ a.d a_7.d ((a_7.i<a_7.d.n/\a_7.d.n<100000)/\∀ b:Nat,64<=b->((0:Int)<=12/\12<=(↑b:Int))/\((0:Int)<=4/\(4:Int)<=12)/\∃ a_9:GetA,(4=a_9.r/\8=a_9.len/\b - 4=a_9.cap)/\(a_9.n<=64/\RowsEq a_9.n 1 (rowsB (a_7.d.now a_7.i)) a_9.rows)/\(a_9.r+a_9.len<=a_9.n/\a_9.len<=8)/\∀ b_1:Unit,True->((0:Int)<=4/\(4:Int)<=64)/\((0:Int)<=4/\4<=(↑b:Int))/\∃ a_11:CrcA,(0=0/\1=1/\1=a_11.c)/\(4=a_11.r/\60=a_11.len/\b - 4=a_11.cap)/\(a_11.n<=64/\RowsEq a_11.n 1 (rowsB (a_7.d.now a_7.i)) a_11.rows)/\(a_11.r+a_11.len<=a_11.n/\a_11.len<100000)/\∀ b_2:Unit,True->∃ a_13:GetA,(0=a_13.r /\
 4=a_13.len/\b - 0=a_13.cap)/\(a_13.n<=64/\RowsEq a_13.n 1 (rowsB (a_7.d.now a_7.i)) a_13.rows)/\(a_13.r+a_13.len<=a_13.n/\a_13.len<=8)/\∀ b_3:Unit,True->((ibits Go.BinOp.xor IntKind.u32 (4294967295:Int) (crcTo (fun (i:Nat)=>u8 a_11.rows (a_11.r+i)) a_11.len) == getTo (fun (i:Nat)=>u8 a_13.rows (a_13.r+i)) a_13.len)=true->(decide ((0:Int)<uw .i64 (getTo (fun (i:Nat)=>u8 a_9.rows (a_9.r+i)) a_9.len))=true->((0:Int)<=12/\(12:Int)<64)/\12<64/\(InR .u8 (a_7.d.now a_7.i 12)->(decide (a_7.d.now a_7.i 12<=(40:Int))=true->((0:Int)<=12/\(12:Int)<64)/\12<64/\(InR .u8 (a_7.d.now a_7.i 12)->InR .i64 ((13:Int)+a_7.d.now a_7.i 12)/\((0:Int)<=13+a_7.d.now a_7.i 12/\(13:Int)+a_7.d.now a_7.i 12<=(↑b:Int))/\((0:Int)<=13/\13<=(↑((13:Int)+a_7.d.now a_7.i 12).toNat:Int))/\∀ b:Bool,(b=true->((13:Int)+a_7.d.now a_7.i 12).toNat - 13=0)->(b=true->InR .i64 ((↑a_4:Int)+1)/\∃ (a':Nat),(↑a_4:Int)+1=(↑a':Int)/\0=0/\(!decide ((↑a.at_:Int)<(↑a.d.n:Int) - 1)) = !decide ((↑a.at_:Int)<(↑a.d.n:Int) - 1)/\false=false/\(0:Int)=0/\0=0/\(↑a.at_:Int)=(↑a.at_:Int)/\0=0/\(↑a.at_:Int)=(↑a.at_:Int)/\uw .i64 (getTo (fun (i:Nat)=>u8 a_9.rows (a_9.r+i)) a_9.len)=(0:Int)/\(↑a_4:Int)=0/\devQ a.d a.d (a'<=2/\2 - a'<2 - a_4))/\(b=false->0<=0/\13+(((13:Int)+a_7.d.now a_7.i 12).toNat - 13)<=64/\(0+(((13:Int)+a_7.d.now a_7.i 12).toNat - 13))*1<=140737488355328 /\
 ∀ cap:Nat,0+(((13:Int)+a_7.d.now a_7.i 12).toNat - 13)<=cap->cap<=lenMax->(0+(((13:Int)+a_7.d.now a_7.i 12).toNat - 13)<=0->cap=0)->InR .i64 ((↑a_4:Int)+1)/\∃ (a':Nat),(↑a_4:Int)+1=(↑a':Int)/\0=0/\(!decide ((↑a.at_:Int)<(↑a.d.n:Int) - 1)) = !decide ((↑a.at_:Int)<(↑a.d.n:Int) - 1)/\false=false/\(0:Int)=0/\0=0/\(↑a.at_:Int)=(↑a.at_:Int)/\0=0/\(↑a.at_:Int)=(↑a.at_:Int)/\uw .i64 (getTo (fun (i:Nat)=>u8 a_9.rows (a_9.r+i)) a_9.len)=(0:Int)/\False)))/\(decide (a_7.d.now a_7.i 12<=(40:Int))=false->InR .i64 ((↑a_4:Int)+1)/\∃ (a':Nat),(↑a_4:Int)+1=(↑a':Int)/\0=0/\(!decide ((↑a.at_:Int)<(↑a.d.n:Int) - 1)) = !decide ((↑a.at_:Int)<(↑a.d.n:Int) - 1)/\false=false/\(0:Int)=0/\0=0/\(↑a.at_:Int)=(↑a.at_:Int)/\0=0/\(↑a.at_:Int)=(↑a.at_:Int)/\(0:Int)=0/\(0:Int)=0/\devQ a.d a.d (a'<=2/\2 - a'<2 - a_4))))/\(decide ((0:Int)<uw .i64 (getTo (fun (i:Nat)=>u8 a_9.rows (a_9.r+i)) a_9.len))=false->InR .i64 ((↑a_4:Int)+1)/\∃ (a':Nat),(↑a_4:Int)+1=(↑a':Int)/\0=0/\(!decide ((↑a.at_:Int)<(↑a.d.n:Int) - 1)) = !decide ((↑a.at_:Int)<(↑a.d.n:Int) - 1)/\false=false/\(0:Int)=0/\0=0/\(↑a.at_:Int)=(↑a.at_:Int)/\0=0/\(↑a.at_:Int)=(↑a.at_:Int)/\(0:Int)=0/\(0:Int)=0/\devQ a.d a.d (a'<=2/\2 - a'<2 - a_4)))/\((ibits Go.BinOp.xor IntKind.u32 (4294967295:Int) (crcTo (fun (i:Nat)=>u8 a_11.rows (a_11.r+i)) a_11.len) == getTo (fun (i:Nat)=>u8 a_13.rows (a_13.r+i)) a_13.len)=false ->
 InR .i64 ((↑a_4:Int)+1)/\∃ (a':Nat),(↑a_4:Int)+1=(↑a':Int)/\0=0/\(!decide ((↑a.at_:Int)<(↑a.d.n:Int) - 1)) = !decide ((↑a.at_:Int)<(↑a.d.n:Int) - 1)/\false=false/\(0:Int)=0/\0=0/\(↑a.at_:Int)=(↑a.at_:Int)/\0=0/\(↑a.at_:Int)=(↑a.at_:Int)/\(0:Int)=0/\(0:Int)=0/\devQ a.d a.d (a'<=2/\2 - a'<2 - a_4))))/\(decide ((↑a_4:Int)<2)=false->∃ b:Unit,(3:Int)=3/\True/\True)))/\(decide (0<=(↑a.at_:Int))=false->∃ b:Unit,(4:Int)=3/\True/\True)) (by kernel_rfl) (by
 rintro ⟨at_,d⟩ ⟨h1,h2,h3⟩;dsimp only at *;refine ⟨fun _=>⟨by simp only [InR];omega,fun c=>by (exfalso;simp at c;omega),fun _=>⟨⟨0,?_⟩,fun k hk=>⟨fun c1=>?_,fun _=>⟨(),rfl,trivial,trivial⟩⟩⟩⟩,fun c=>by (exfalso;simp at c)⟩
 ·(repeat' apply And.intro)<;>first|with_reducible (first|rfl|trivial|assumption)|(intro h_;revert h_)|omega|with_reducible exact RowsEq.refl _ _ _|rfl|exact RowsEq.refl _ _ _|exact Nat.le_refl _|(dsimp only;omega)|skip
 have hk2:k<2:=by have:=of_decide_eq_true c1;omega
 have hz:=sup_zero (h3 k hk2);obtain ⟨F,hF⟩:∃ F,F=d.now (at_+k):=⟨_,rfl⟩
 rw [<- hF] at hz;have hin:at_+k<d.n:=by omega
 refine ⟨by simp only [InR];omega,RdA.mk d (at_+k),?_⟩;dsimp only;rw [<- hF]
 (repeat' apply And.intro)<;>first|with_reducible (first|rfl|trivial|assumption)|(intro h_;revert h_)|omega|with_reducible exact RowsEq.refl _ _ _|rfl|exact RowsEq.refl _ _ _|exact Nat.le_refl _|(dsimp only;omega)|skip
 intro b hb
 repeat (first|refine And.intro (by omega) ?_|refine And.intro (by dsimp only;omega) ?_|refine And.intro (by simp only [InR];omega) ?_)
 refine ⟨GetA.mk 4 8 (b - 4) 64 (rowsB F),?_⟩
 (repeat' apply And.intro)<;>first|with_reducible (first|rfl|trivial|assumption)|(intro h_;revert h_)|omega|with_reducible exact RowsEq.refl _ _ _|rfl|exact RowsEq.refl _ _ _|exact Nat.le_refl _|(dsimp only;omega)|skip
 intro _ _
 repeat (first|refine And.intro (by omega) ?_|refine And.intro (by dsimp only;omega) ?_|refine And.intro (by simp only [InR];omega) ?_)
 refine ⟨CrcA.mk 1 4 60 (b - 4) 64 (rowsB F),?_⟩
 (repeat' apply And.intro)<;>first|with_reducible (first|rfl|trivial|assumption)|(intro h_;revert h_)|omega|with_reducible exact RowsEq.refl _ _ _|rfl|exact RowsEq.refl _ _ _|exact Nat.le_refl _|(dsimp only;omega)|skip
 intro _ _;refine ⟨GetA.mk 0 4 (b - 0) 64 (rowsB F),?_⟩
 (repeat' apply And.intro)<;>first|with_reducible (first|rfl|trivial|assumption)|(intro h_;revert h_)|omega|with_reducible exact RowsEq.refl _ _ _|rfl|exact RowsEq.refl _ _ _|exact Nat.le_refl _|(dsimp only;omega)|skip
 intro _ _;have hz:(ibits .xor .u32 4294967295 (crcTo (fun i=>u8 (rowsB F) (4+i)) 60) == getTo (fun i=>u8 (rowsB F) (0+i)) 4)=false:=hz;refine ⟨fun c=>by (exfalso;have c:(ibits .xor .u32 4294967295 (crcTo (fun i=>u8 (rowsB F) (4+i)) 60) == getTo (fun i=>u8 (rowsB F) (0+i)) 4)=true:=c;rw [hz] at c;cases c),fun _=>⟨by simp only [InR];omega,k+1,?_⟩⟩
 (repeat' apply And.intro)<;>first|with_reducible (first|rfl|trivial|assumption)|(intro h_;revert h_)|omega|with_reducible exact RowsEq.refl _ _ _|rfl|exact RowsEq.refl _ _ _|exact Nat.le_refl _|(dsimp only;omega)|skip)
theorem callSOpenZ:CallsBy (Y Tryz.prog).G.X 64 cSOpenZ:=fn_ok okY (tab:=[(90,cGet),(91,cCrc),(89,cDevRead)]) ⟨callGetU,callCrc,callDevRead,trivial⟩ bodySOpenZ
noncomputable def cOpenZ:Con where
 α:=DevM
 β:=Unit
 m:=2
 m':=2
 pre:=fun d=>192<=d.n/\d.n<100000/\∀ k,k<2->∀ j,j<64->d.now k j=0
 args:=fun _=>[.a (.ptr 0 0 0 0)]
 hp:=fun _=>[]
 ro:=fun d=>devHp 0 1 d
 post:=fun _ _=>True
 res:=fun _ _=>.tup [.a .nil,.a (.lit .i64 3)]
 hp':=fun _ _=>[]
set_option maxHeartbeats 4000000 in
theorem bodyOpenZ:fnBody (Y Tryz.prog) [(64,cSOpenZ)] 12 cOpenZ fun _=>[]:=fnBody.of (p :=
 ∀ a:DevM,(192<=a.n/\a.n<100000/\∀ k:Nat,k<2->∀ j:Nat,j<64->a.now k j=(0:Int))->(decide ((↑a.n:Int)<192)=true->∃ b:Unit,(4:Int)=3/\True/\True)/\(decide ((↑a.n:Int)<192)=false->∃ a_3:SOpZ,0=0/\0=(↑a_3.at_:Int)/\devQ a a_3.d ((a_3.at_+1<a_3.d.n/\a_3.d.n<100000/\∀ k:Nat,k<2->∀ j:Nat,j<64->a_3.d.now (a_3.at_+k) j=(0:Int))/\∀ b:Unit,True->∃ b:Unit,(3:Int)=3/\True/\True))) (by kernel_rfl) (by
 rintro d ⟨h1,h2,h3⟩;refine ⟨fun c=>by (exfalso;have:=of_decide_eq_true c;omega),fun _=>⟨SOpZ.mk 0 d,?_⟩⟩;have h4:∀ k:Nat,k<2->∀ j:Nat,j<64->d.now (0+k) j=0:=fun k hk j hj=>by rw [Nat.zero_add];exact h3 k hk j hj
 (repeat' apply And.intro)<;>first|with_reducible (first|rfl|trivial|assumption)|exact h4|(intro h_;revert h_)|omega|with_reducible exact RowsEq.refl _ _ _|rfl|exact RowsEq.refl _ _ _|exact Nat.le_refl _|(dsimp only;omega)|skip
 exact fun _ _=>⟨(),rfl,trivial,trivial⟩)
theorem callOpenZ:CallsBy (Y Tryz.prog).G.X 12 cOpenZ:=fn_ok okY (tab:=[(64,cSOpenZ)]) ⟨callSOpenZ,trivial⟩ bodyOpenZ
noncomputable def cNonS:Con where
 α:=Unit
 β:=Unit
 m:=0
 m':=0
 pre:=fun _=>True
 args:=fun _=>[]
 hp:=fun _=>[]
 ro:=fun _=>[]
 post:=fun _ _=>True
 res:=fun _ _=>.a .tt
 hp':=fun _ _=>[]
noncomputable def tabNonS:List (Nat × Con):=[(13,cBegunS),(11,cDevNew),(10,cMakeNo),(12,cOpenZ)]
theorem tabNonS_ok:TabOk (Y Tryz.prog).G.X tabNonS:=⟨callBegunS,callDevNew,callMakeNo,callOpenZ,trivial⟩
set_option maxHeartbeats 4000000 in
theorem bodyNonS:fnBody (Y Tryz.prog) tabNonS 3 cNonS fun _=>[]:=fnBody.of (p :=
 ∀ a:Unit,True->∃ a:Int,(191:Int)=a/\True/\∀ b:Unit,True->∃ a_2:DevM,0=0/\devQ (devNew a) a_2 (a_2.n<192/\∀ b:Unit,True->∃ a:Int,(400:Int)=a/\True/\∀ b:Unit,True->∃ a_4:DevM,0=0/\devQ (devNew a) a_4 ((192<=a_4.n/\a_4.n<100000/\∀ k:Nat,k<2->∀ j:Nat,j<64->a_4.now k j=(0:Int))/\∀ b:Unit,True->∃ a:Unit,True/\∀ b:Unit,True->∃ b:Unit,true=true/\True/\True))) (by kernel_rfl) (by
 intro _ _;have n1:(devNew 191).n<192:=by decide
 have n2:192<=(devNew 400).n:=by decide
 have n3:(devNew 400).n<100000:=by decide
 have n4:∀ k:Nat,k<2->∀ j:Nat,j<64->(devNew 400).now k j=0:=fun _ _ _ _=>rfl;refine ⟨191,rfl,trivial,fun _ _=>⟨devNew 191,?_⟩⟩
 (repeat' apply And.intro)<;>first|with_reducible (first|rfl|trivial|assumption)|exact n1|(intro h_;revert h_)|omega|with_reducible exact RowsEq.refl _ _ _|rfl|exact RowsEq.refl _ _ _|exact Nat.le_refl _|(dsimp only;omega)|skip
 refine fun _ _=>⟨400,rfl,trivial,fun _ _=>⟨devNew 400,?_⟩⟩
 (repeat' apply And.intro)<;>first|with_reducible (first|rfl|trivial|assumption)|exact n2|exact n3|exact n4|(intro h_;revert h_)|omega|with_reducible exact RowsEq.refl _ _ _|rfl|exact RowsEq.refl _ _ _|exact Nat.le_refl _|(dsimp only;omega)|skip
 exact fun _ _=>⟨(),trivial,fun _ _=>⟨(),rfl,trivial,trivial⟩⟩)
theorem instNonS:∀ ads,okADs [] ads->∃ a:Unit,cNonS.pre a/\cNonS.args a=svs 0 ads/\cNonS.ro a=chs 0 [] ads/\cNonS.m=slcs ads:=by
 rintro ads rfl;exact ⟨(),trivial,rfl,rfl,rfl⟩
end Go.Proofs.YtfhkbihcfmbbcaaGreat
