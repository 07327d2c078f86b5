/-
  
-/
import Derived.Test.YtfhkbihcfmbbcaaGreatStoreKillsP2
import Derived.Test.YtfhkbihcfmbbcaaGreatStoreKillsP6
import Derived.Carry
import Derived.ChangeArms
import Derived.OpenShut
import Derived.RowKit3
import Derived.Test.YtfhkbihcfmbbcaaGreatStoreKillsP5
namespace Go.Sx
open Go.RowKit
def flatFs (P:Program) (g:TypeId->Option (List CK)):List Field->Nat->Option (List CK)
 | [],_=>some []
 | f::r,o=>match g f.type,flatFs P g r (o+P.cellsOf f.type) with
  | some ks,some l=>bif Nat.beq f.offset o&&Nat.beq ks.length (P.cellsOf f.type) then some (ks++l) else none
  | _,_=>none
def flatKd (dp:Bool) (P:Program):Nat->TypeId->Option (List CK)
 | 0,_=>none
 | d+1,t=>match P.underlying t with
  | some (.slice _)=>bif dp then some [.deep] else none
  | some .bool=>some [.bool]
  | some (.int k)=>some [.int k]
  | some .string=>some [.str]
  | some (.struct fs)=>match flatFs P (flatKd dp P d) fs.toList 0 with
   | some ks=>bif Nat.beq ks.length (P.cellsOf t) then some ks else none
   | none=>none
  | some (.array n e)=>match flatKd dp P d e with
   | some ks=>bif Nat.beq ks.length (P.cellsOf e)&&Nat.beq (n*ks.length) (P.cellsOf t) then some (rep n ks) else none
   | none=>none
  | _=>none
def flatK (P:Program):Nat->TypeId->Option (List CK):=flatKd false P
structure KsOk (ks:List CK) (cs:List Value):Prop where
 len:cs.length=ks.length
 ok:∀ (j:Nat) (k:CK) (v:Value),ks[j]? = some k->cs[j]? = some v->k.ok v
theorem KsOk.append {ks ls:List CK} {cs ds:List Value} (h:KsOk ks cs) (g:KsOk ls ds):KsOk (ks++ls) (cs++ds):=by
 refine ⟨by simp [h.len,g.len],fun j k v hk hv=>?_⟩;by_cases hj:j<ks.length
 ·rw [List.getElem?_append_left hj] at hk;rw [List.getElem?_append_left (by rw [h.len];exact hj)] at hv;exact h.ok j k v hk hv
 ·rw [List.getElem?_append_right (by omega)] at hk;rw [List.getElem?_append_right (by rw [h.len];omega),h.len] at hv;exact g.ok _ k v hk hv
section
variable {H:Type} {enc:TypeId × Value->H} {P:Program} {w:World} {base:Nat} {spare:Nat->Bool} {held:Bool}
theorem flatFs_ok {g:TypeId->Option (List CK)} {n:Nat} {cs:List Value}
 (hg:∀ t cs x ks,DataW.trod enc P w base spare held n t cs=some x->g t=some ks->KsOk ks cs) :
 ∀ (fs:List Field) (o:Nat) (ks:List CK),flatFs P g fs o=some ks->(∀ f∈fs,∃ x,DataW.trod enc P w base spare held n f.type ((cs.drop f.offset).take (P.cellsOf f.type))=some x)->o+ks.length=cs.length->KsOk ks (cs.drop o)
 | [],o,ks,h,_,hl=>by
  simp [flatFs] at h;subst h;refine ⟨by simp at hl ⊢;omega,fun j k v hk=>by simp at hk⟩
 | f::r,o,ks,h,hf,hl=>by
  simp only [flatFs] at h;split at h
  ·rename_i k1 l1 e1 e2;cases hb:(Nat.beq f.offset o&&Nat.beq k1.length (P.cellsOf f.type))
   ·rw [hb] at h;cases h
   rw [hb] at h;simp only [cond_true,Option.some.injEq] at h;subst h;simp only [Bool.and_eq_true] at hb;have ho:=Nat.eq_of_beq_eq_true hb.1;have hk:=Nat.eq_of_beq_eq_true hb.2;obtain ⟨x,hx⟩:=hf f List.mem_cons_self;rw [ho] at hx;have h1:=hg _ _ _ _ hx e1;have h2:=flatFs_ok hg r _ l1 e2 (fun f hf'=>hf f (List.mem_cons_of_mem _ hf')) (by rw [<- hk];simp at hl;omega);have e:cs.drop o=(cs.drop o).take (P.cellsOf f.type)++cs.drop (o+P.cellsOf f.type):=by
    rw [<- List.drop_drop,List.take_append_drop]
   rw [e];exact h1.append h2
  ·cases h
theorem rep_ok {ks:List CK} {cs:List Value}:∀ (n:Nat) (o:Nat),(∀ i,i<n->KsOk ks ((cs.drop (o+i*ks.length)).take ks.length))->o+n*ks.length=cs.length->KsOk (rep n ks) (cs.drop o)
 | 0,o,_,hl=>⟨by simp at hl;simp [rep];omega,fun j k v hk=>by simp [rep] at hk⟩
 | n+1,o,h,hl=>by
  have h1:=h 0 (by omega);have h2:=rep_ok (ks:=ks) (cs:=cs) n (o+ks.length) (fun i hi=>by
   have:=h (i+1) (by omega);rwa [Nat.succ_mul,show o+(i*ks.length+ks.length)=o+ks.length+i*ks.length by omega] at this) (by rw [Nat.succ_mul] at hl;omega)
  have e:cs.drop o=(cs.drop o).take ks.length++cs.drop (o+ks.length):=by
   rw [<- List.drop_drop,List.take_append_drop]
  rw [e,rep];exact KsOk.append (by simpa using h1) h2
theorem flat_ok {dp:Bool}:∀ (d n:Nat) (t:TypeId) (cs:List Value) (x:DataW H × List MemPlace) (ks:List CK),DataW.trod enc P w base spare held n t cs=some x->flatKd dp P d t=some ks->KsOk ks cs
 | 0,_,_,_,_,_,_,h=>by simp [flatKd] at h
 | d+1,n,t,cs,x,ks,hx,h=>by
  simp only [flatKd] at h;split at h
  ·rename_i e hu;cases dp with
   | false=>cases h
   | true =>
    simp only [cond_true,Option.some.injEq] at h;subst h;have one:∃ v:Value,cs=[v]/\v.oneCell'=true:=by
     rcases DataW.trod_slice hu hx with ⟨hv,_⟩ | ⟨a,len,cap,elems,rest,m,_,hv,_⟩<;>exact ⟨_,hv,rfl⟩
    obtain ⟨v,rfl,hv⟩:=one;refine ⟨rfl,fun j k u hk hv'=>?_⟩;cases j with
    | zero=>simp at hk hv';subst hk hv';exact hv
    | succ j=>simp at hk
  ·rename_i hu;cases h;obtain ⟨b,rfl,_⟩:=DataW.trod_bool hu hx;refine ⟨rfl,fun j k v hk hv=>?_⟩;cases j with
   | zero=>simp at hk hv;subst hk hv;exact ⟨b,rfl⟩
   | succ j=>simp at hk
  ·rename_i k hu;cases h;obtain ⟨m,rfl,_,hw⟩:=DataW.trod_int hu hx;refine ⟨rfl,fun j k' v hk hv=>?_⟩;cases j with
   | zero=>simp at hk hv;subst hk hv;exact ⟨m,rfl,by rw [InR_iff];simpa [Lit.wf] using hw⟩
   | succ j=>simp at hk
  ·rename_i hu;cases h;obtain ⟨s,rfl,_,hs⟩:=DataW.trod_string hu hx;refine ⟨rfl,fun j k' v hk hv=>?_⟩;cases j with
   | zero=>simp at hk hv;subst hk hv;exact ⟨s,rfl,by unfold lenMax;unfold maxLen at hs;exact hs⟩
   | succ j=>simp at hk
  ·rename_i fs hu;obtain ⟨xs,m,rfl,_,hl,hlen,hget⟩:=DataW.trod_struct hu hx;split at h
   ·rename_i ks' e;cases hb:Nat.beq ks'.length (P.cellsOf t)
    ·rw [hb] at h;cases h
    rw [hb] at h;cases h;have hb:=Nat.eq_of_beq_eq_true hb;have:=flatFs_ok (enc:=enc) (w:=w) (base:=base) (spare:=spare) (held:=held) (n:=m) (cs:=cs) (fun t cs x ks h1 h2=>flat_ok d m t cs x ks h1 h2) fs.toList 0 ks e (fun f hf=>by
     obtain ⟨i,hi,e⟩:=List.getElem_of_mem hf;have hi':i<fs.size:=by simpa using hi
     have h1:=hget i f (by rw [Array.getElem?_eq_getElem hi'];congr 1);rw [h1];exact ⟨xs[i]'(by omega),List.getElem?_eq_getElem _⟩) (by omega)
    simpa using this
   ·cases h
  ·rename_i k e hu;obtain ⟨xs,m,rfl,_,hl,hlen,hget⟩:=DataW.trod_array hu hx;split at h
   ·rename_i ks' e';cases hb:(Nat.beq ks'.length (P.cellsOf e)&&Nat.beq (k*ks'.length) (P.cellsOf t))
    ·rw [hb] at h;cases h
    rw [hb] at h;cases h;simp only [Bool.and_eq_true] at hb;have hb1:=Nat.eq_of_beq_eq_true hb.1;have hb2:=Nat.eq_of_beq_eq_true hb.2;have:=rep_ok (ks:=ks') (cs:=cs) k 0 (fun i hi=>by
     have h1:=hget i hi;rw [List.getElem?_eq_getElem (by omega)] at h1;rw [hb1,Nat.zero_add];exact flat_ok d m e _ _ _ h1 e') (by rw [hb2];omega)
    simpa using this
   ·cases h
  ·cases h
inductive RK where
 | c (k:CK)
 | s (e:TypeId) (ks:List CK)
inductive AK where
 | int (k:IntKind)
 | bool
 | str
 | agg (ks:List CK)
 | slc (e:TypeId) (ks:List CK)
 | rcd (fs:List RK)
def isSlcT (P:Program) (u:TypeId):Bool:=match P.underlying u with
 | some (.slice _)=>true
 | _=>false
def recFs (P:Program) (d:Nat) (ts:List TypeId):List Field->Nat->Option (List RK)
 | [],_=>some []
 | f::r,o=>bif Nat.beq f.offset o then
  (match P.underlying f.type with
  | some (.slice e)=>match flatK P d e,ts[o]?,recFs P d ts r (o+1) with
   | some ks,some u,some l=>bif Nat.beq ks.length (P.cellsOf e)&&(Nat.ble 1 ks.length&&(Nat.beq (P.cellsOf f.type) 1&&isSlcT P u)) then some (.s e ks::l) else none
   | _,_,_=>none
  | _=>match flatK P d f.type,recFs P d ts r (o+P.cellsOf f.type) with
   | some ks,some l=>bif Nat.beq ks.length (P.cellsOf f.type) then some (ks.map .c++l) else none
   | _,_=>none) else none
def argK (P:Program) (d:Nat) (t:TypeId):Option AK :=
 match P.underlying t with
 | some .bool=>some .bool
 | some (.int k)=>some (.int k)
 | some .string=>some .str
 | some (.struct fs)=>match flatK P d t with
  | some ks=>some (.agg ks)
  | none=>match P.cellTypes P.depth t with
   | some ts=>match recFs P d ts fs.toList 0 with
    | some l=>bif Nat.beq l.length (P.cellsOf t)&&Nat.beq ts.length (P.cellsOf t) then some (.rcd l) else none
    | none=>none
   | none=>none
 | some (.slice e)=>match flatKd true P d e with
  | some ks=>bif Nat.beq ks.length (P.cellsOf e)&&Nat.ble 1 ks.length then some (.slc e ks) else none
  | none=>none
 | _=>none
def argKs (P:Program) (d:Nat):List TypeId->Option (List AK)
 | []=>some []
 | t::r=>match argK P d t,argKs P d r with
  | some k,some l=>some (k::l)
  | _,_=>none
inductive RD where
 | a (x:A)
 | s (m n cap:Nat) (rows:Nat->Nat->Value)
inductive AD where
 | a (x:A)
 | agg (xs:List A)
 | slc (m n cap:Nat) (rows:Nat->Nat->Value)
 | rcd (xs:List RD)
def okRD:RK->RD->Prop
 | .c k,d=>∃ v,d = .a (atomOf k v)/\k.ok v
 | .s _ ks,d=>∃ n cap rows,d = .s ks.length n cap rows/\n<=cap/\cap<=lenMax/\∀ i,i<n->∀ (j:Nat) (k:CK),ks[j]? = some k->k.ok (rows i j)
def okRDs:List RK->List RD->Prop
 | [],l=>l=[]
 | k::ks,l=>∃ d r,l=d::r/\okRD k d/\okRDs ks r
def rAt:Nat->List RD->List A
 | _,[]=>[]
 | n,.a x::r=>x::rAt n r
 | n,.s m l c _::r=>.slc n 0 m l c::rAt (n+1) r
def rChs:Nat->List RK->List RD->List (Nat × Chunk)
 | n,.s e ks::r,.s _ l _ rows::q=>(n,.arr e ks l rows)::rChs (n+1) r q
 | n,_::r,_::q=>rChs n r q
 | _,_,_=>[]
def rN:List RD->Nat
 | []=>0
 | .s _ _ _ _::r=>rN r+1
 | _::r=>rN r
def okAD:AK->AD->Prop
 | .int k,d=>∃ n,d = .a (.int k n)/\InR k n
 | .bool,d=>∃ b,d = .a (.bool b)
 | .str,d=>∃ s,d = .a (.str s)/\s.size<=lenMax
 | .agg ks,d=>∃ r:Nat->Value,d = .agg (atoms r ks 0)/\∀ (j:Nat) (k:CK),ks[j]? = some k->k.ok (r j)
 | .slc _ ks,d=>∃ n cap rows,d = .slc ks.length n cap rows/\n<=cap/\cap<=lenMax/\∀ i,i<n->∀ (j:Nat) (k:CK),ks[j]? = some k->k.ok (rows i j)
 | .rcd fs,d=>∃ xs,d = .rcd xs/\okRDs fs xs
def okADs:List AK->List AD->Prop
 | [],l=>l=[]
 | k::ks,l=>∃ d r,l=d::r/\okAD k d/\okADs ks r
def svs:Nat->List AD->List SV
 | _,[]=>[]
 | n,.a x::r=>.a x::svs n r
 | n,.agg xs::r=>.agg xs::svs n r
 | n,.slc m l c _::r=>.a (.slc n 0 m l c)::svs (n+1) r
 | n,.rcd xs::r=>.agg (rAt n xs)::svs (n+rN xs) r
def chs:Nat->List AK->List AD->List (Nat × Chunk)
 | n,.slc e ks::r,.slc _ l _ rows::s=>(n,.arr e ks l rows)::chs (n+1) r s
 | n,.rcd fs::r,.rcd xs::s=>rChs n fs xs++chs (n+rN xs) r s
 | n,_::r,_::s=>chs n r s
 | _,_,_=>[]
def slcs:List AD->Nat
 | []=>0
 | .slc _ _ _ _::r=>slcs r+1
 | .rcd xs::r=>slcs r+rN xs
 | _::r=>slcs r
theorem cells?_get {w:World} {base:Nat} {a:Addr}:∀ {n:Nat} {cs:List Value},w.cells? base a n=some cs->cs.length=n/\base<=a.block/\∀ i,i<n->w.cell? (a.add i)=cs[i]?:=by
 intro n cs h;unfold World.cells? at h;split at h
 ·rename_i hb;have hl:=mapM_some_length h;refine ⟨by simpa using hl,hb,fun i hi=>?_⟩;exact mapM_some_get h i i (by simp [hi])
 ·cases h
theorem Addr.add_off (a:Addr) (n:Nat) (h:a.spot=none):a.add n=⟨a.block,a.off+n,none⟩:=by
 unfold Addr.add;split
 ·subst_vars;cases a;simp_all
 ·cases a;simp_all
theorem open_cell {dp:Bool} {t e:TypeId} {ks:List CK} {d fuel:Nat} {v:Value} {dd:DataW H} {ps:List MemPlace} (ht:P.underlying t=some (.slice e)) (hf:flatKd dp P d e=some ks) (hk:ks.length=P.cellsOf e) (hk1:1<=ks.length)
 (h:DataW.trod enc P w 0 (fun _=>true) held fuel t [v]=some (dd,ps)) (hz:∀ b off,MemPlace.cell b off∈ps->w.frozen? ⟨b,off,none⟩=false) :
 ∃ (p:Place) (n cap:Nat) (rows:Nat->Nat->Value),n<=cap/\cap<=lenMax/\(∀ i,i<n->∀ (j:Nat) (k:CK),ks[j]? = some k->k.ok (rows i j))/\(∀ b,p.fp b->b<w.heap.size) /\
  (∀ (ρ:Env) (T:Nat),T<ρ.n->ρ.pl T=p->(A.slc T 0 ks.length n cap).Rep ρ v)/\(∀ (ρ:Env),(Chunk.arr e ks n rows).Sat ρ p w) /\
  ∀ i,i<n->∃ (m:Nat) (cs:List Value) (x:DataW H × List MemPlace),DataW.trod enc P w 0 (fun _=>true) held m e cs=some x/\(∀ b off,MemPlace.cell b off∈x.2->w.frozen? ⟨b,off,none⟩=false)/\KsOk ks cs/\∀ j,j<ks.length->cs[j]? = some (rows i j):=by
 rcases DataW.trod_slice ht h with ⟨hv,_⟩ | ⟨a,len,cap,elems,rest,m,rfl,hv,hx,_,hlc,hcm,hel,hget,hsp,_⟩
 ·cases hv;refine ⟨nilPlace,0,0,fun _ _=>undef,Nat.le_refl _,Nat.zero_le _,fun i hi=>absurd hi (Nat.not_lt_zero _),fun b hb=>hb.elim,fun ρ T hT _=>⟨hT,Nat.le_refl _,Nat.zero_le _,.inl ⟨rfl,rfl,rfl⟩⟩,fun ρ=>.inl ⟨rfl,rfl,fun b hb=>hb⟩,fun i hi=>absurd hi (Nat.not_lt_zero _)⟩
 ·cases hv;obtain ⟨hr1,hr2⟩:=hsp rfl;by_cases hc0:cap=0
  ·subst hc0;have hl0:len=0:=by omega
   subst hl0;exact ⟨⟨a.block,a.off,0,fun _=>False⟩,0,0,fun _ _=>undef,Nat.le_refl _,Nat.zero_le _,fun i hi=>absurd hi (Nat.not_lt_zero _),fun b hb=>hb.elim,fun ρ T hT hp=>⟨hT,Nat.le_refl _,Nat.zero_le _,.inr ⟨a,rfl,fun h=>absurd rfl h⟩⟩,fun ρ=>.inl ⟨rfl,rfl,fun b hb=>hb⟩,fun i hi=>absurd hi (Nat.not_lt_zero _)⟩
  have hspot:a.spot=none:=by
   have fin:∀ (o:Option (DataW H × List MemPlace)),(∃ x,o=some x)->(w.cells? 0 (a.add (0*P.cellsOf e)) (P.cellsOf e)).bind (DataW.trod enc P w 0 (fun _=>true) held m e)=o->a.spot=none:=by
    rintro o ⟨x,rfl⟩ ho;obtain ⟨cs,hcs,hx⟩:=Option.bind_eq_some_iff.1 ho;obtain ⟨h1,_,hc⟩:=cells?_get hcs;have:=hc 0 (by omega);rw [Nat.zero_mul,show ∀ a:Addr,(a.add 0).add 0=a from fun a=>rfl,List.getElem?_eq_getElem (by omega)] at this;unfold World.cell? at this;split at this
    ·cases hsp:a.spot with
     | none=>rfl
     | some s=>rw [hsp] at this;simp at this
    ·cases this
   by_cases h1:0<len
   ·exact fin _ ⟨elems[0]'(by omega),List.getElem?_eq_getElem _⟩ (hget 0 h1)
   ·have:=hr2 0 (by omega);rw [show len+0=0 by omega] at this;exact fin _ ⟨rest[0]'(by omega),List.getElem?_eq_getElem _⟩ this
  have row:∀ i,i<cap->∃ cs:List Value,(KsOk ks cs/\∀ j,j<ks.length->w.cell? ⟨a.block,a.off+i*ks.length+j,none⟩=cs[j]?)/\(i<len->∃ x∈elems,DataW.trod enc P w 0 (fun _=>true) held m e cs=some x):=by
   intro i hi;have fin:∀ (x:DataW H × List MemPlace),(w.cells? 0 (a.add (i*P.cellsOf e)) (P.cellsOf e)).bind (DataW.trod enc P w 0 (fun _=>true) held m e)=some x->∃ cs:List Value,(KsOk ks cs/\∀ j,j<ks.length->w.cell? ⟨a.block,a.off+i*ks.length+j,none⟩=cs[j]?)/\DataW.trod enc P w 0 (fun _=>true) held m e cs=some x:=by
    intro x ho;obtain ⟨cs,hcs,hx⟩:=Option.bind_eq_some_iff.1 ho;obtain ⟨_,_,hc⟩:=cells?_get hcs;refine ⟨cs,⟨flat_ok d m e cs x ks hx hf,fun j hj=>?_⟩,hx⟩;have:=hc j (by omega);rw [Addr.add_off a _ hspot,Addr.add_plain,<- hk] at this;exact this
   by_cases h1:i<len
   ·obtain ⟨cs,g1,g2⟩:=fin (elems[i]'(by omega)) ((hget i h1).trans (List.getElem?_eq_getElem _));exact ⟨cs,g1,fun _=>⟨_,List.getElem_mem _,g2⟩⟩
   ·have:=hr2 (i - len) (by omega);rw [show len+(i - len)=i by omega] at this;obtain ⟨cs,g1,g2⟩:=fin (rest[i - len]'(by omega)) (this.trans (List.getElem?_eq_getElem _));exact ⟨cs,g1,fun h=>absurd h h1⟩
  ·have hcell:∀ i,i<cap->∀ (j:Nat) (k:CK),ks[j]? = some k->∃ v,w.cell? ⟨a.block,a.off+i*ks.length+j,none⟩=some v/\k.ok v:=by
    intro i hi j k hj;have hjl:j<ks.length:=(List.getElem?_eq_some_iff.1 hj).1;obtain ⟨cs,⟨h1,h2⟩,_⟩:=row i hi;have hlt:j<cs.length:=by rw [h1.len];exact hjl
    exact ⟨cs[j],by rw [h2 j hjl,List.getElem?_eq_getElem hlt],h1.ok j k _ hj (List.getElem?_eq_getElem hlt)⟩
   have hblk:∃ vs ty fr,w.heap[a.block]? = some (.cells vs ty fr):=by
    obtain ⟨v,hv,_⟩:=hcell 0 (by omega) 0 (ks[0]'(by omega)) (List.getElem?_eq_getElem _);unfold World.cell? at hv;split at hv
    ·rename_i vs ty fr hh;exact ⟨vs,ty,fr,hh⟩
    ·cases hv
   obtain ⟨vs,ty,fr,hb⟩:=hblk;have hget2:∀ i,i<cap->∀ (j:Nat) (k:CK),ks[j]? = some k->∃ v,vs[a.off+i*ks.length+j]? = some v/\k.ok v:=by
    intro i hi j k hj;obtain ⟨v,hv,hok⟩:=hcell i hi j k hj;rw [cell_of hb] at hv;exact ⟨v,hv,hok⟩
   have hfit:a.off+cap*ks.length<=vs.size:=by
    obtain ⟨v,hv,_⟩:=hget2 (cap - 1) (by omega) (ks.length - 1) (ks[ks.length - 1]'(by omega)) (List.getElem?_eq_getElem _);obtain ⟨hlt,_⟩:=Array.getElem?_eq_some_iff.1 hv;have:(cap - 1)*ks.length+ks.length=cap*ks.length:=by
     rw [<- Nat.succ_mul];congr 1;omega
    omega
   have hblt:a.block<w.heap.size:=by
    obtain ⟨hlt,_⟩:=Array.getElem?_eq_some_iff.1 hb;exact hlt
   refine ⟨⟨a.block,a.off,cap,fun b=>b=a.block⟩,len,cap,fun i j=>vs[a.off+i*ks.length+j]?.getD undef,hlc,by unfold lenMax;unfold maxLen at hcm;exact hcm,fun i hi j k hj=>?_,fun b hb=>by rw [hb];exact hblt,fun ρ T hT hp=>⟨hT,hlc,by unfold lenMax;unfold maxLen at hcm;exact hcm,.inr ⟨a,rfl,fun _=>⟨by rw [hp];cases a;simp at hspot;subst hspot;simp,by rw [hp];simp⟩⟩⟩,fun ρ=>.inr ⟨vs,ty,fr,hb,hfit,hlc,fun o h1 h2=>?_,fun _=>Iff.rfl,fun i hi j k hj=>?_⟩,fun i hi=>?_⟩
   ·obtain ⟨v,hv,hok⟩:=hget2 i (by omega) j k hj;simp only;rw [hv];exact hok
   ·have hmem:MemPlace.cell a.block o∈ps:=by
     have e:ps=MemPlace.row a ((elems.length+rest.length)*P.cellsOf e)++(elems++rest).flatMap (·.2):=congrArg Prod.snd hx;rw [e];refine List.mem_append_left _ (List.mem_map.2 ⟨o - a.off,?_,?_⟩)
     ·rw [List.mem_range,hel,hr1,<- hk];simp only at h1 h2;rw [show len+(cap - len)=cap by omega];omega
     ·simp only at h1;show MemPlace.cell a.block (a.off+(o - a.off))=_;rw [show a.off+(o - a.off)=o by omega]
    have:=hz _ _ hmem;simp only [World.frozen?,hb] at this;obtain ⟨lo,hi⟩:=fr;simpa using this
   ·obtain ⟨v,hv,hok⟩:=hget2 i (by omega) j k hj;simp only;rw [hv];exact ⟨rfl,hok⟩
   ·obtain ⟨cs,⟨g1,g2⟩,g3⟩:=row i (by omega);obtain ⟨x,hxm,hxt⟩:=g3 hi;refine ⟨m,cs,x,hxt,fun b off hm=>hz b off ?_,g1,fun j hj=>?_⟩
    ·have e:ps=MemPlace.row a ((elems.length+rest.length)*P.cellsOf e)++(elems++rest).flatMap (·.2):=congrArg Prod.snd hx;rw [e];exact List.mem_append_right _ (List.mem_flatMap.2 ⟨x,List.mem_append_left _ hxm,hm⟩)
    ·have h2:=g2 j hj;rw [cell_of hb] at h2;have hlt:j<cs.length:=by rw [g1.len];exact hj
     rw [List.getElem?_eq_getElem hlt] at h2 ⊢;simp only;rw [h2];rfl
theorem open_slice {t e:TypeId} {ks:List CK} {d:Nat} {v:Value} {dd:DataW H} {ps:List MemPlace} {r:Reach} {b0:Nat} (ht:P.underlying t=some (.slice e)) (hf:flatKd true P d e=some ks) (hk:ks.length=P.cellsOf e) (hk1:1<=ks.length)
 (hval:Value.okWide P w r b0 t v) (h:DataW.Trod enc P w 0 (fun _=>true) held t v dd ps) (hz:∀ b off,MemPlace.cell b off∈ps->w.frozen? ⟨b,off,none⟩=false) :
 ∃ (p:Place) (n cap:Nat) (rows:Nat->Nat->Value),n<=cap/\cap<=lenMax/\(∀ i,i<n->∀ (j:Nat) (k:CK),ks[j]? = some k->k.ok (rows i j))/\(∀ b,p.fp b->b<w.heap.size) /\
  (∀ (ρ:Env) (T:Nat),T<ρ.n->ρ.pl T=p->(A.slc T 0 ks.length n cap).Rep ρ v)/\∀ (ρ:Env),(Chunk.arr e ks n rows).Sat ρ p w:=by
 obtain ⟨fuel,h⟩:=h;have hv2:Cell.okWide P w r b0 t v:=by unfold Value.okWide at hval;rw [ht] at hval;exact hval
 have hone:∀ o l c,v.cells.toList=[.slice o l c]->v = .slice o l c:=by
  intro o l c hv;cases v<;>simp [Value.cells] at hv<;>first|exact hv|(simp [hv];done)|skip
  all_goals (unfold Cell.okWide Cell.ok at hv2;rw [ht] at hv2;simp at hv2)
 have hc:v.cells.toList=[v]:=by
  rcases DataW.trod_slice ht h with ⟨hv,_⟩ | ⟨a,len,cap,elems,rest,m,_,hv,_⟩
  ·rw [hone _ _ _ hv];rfl
  ·rw [hone _ _ _ hv];rfl
 rw [hc] at h;obtain ⟨p,n,cap,rows,g1,g2,g3,g4,g5,g6,_⟩:=open_cell ht hf hk hk1 h hz;exact ⟨p,n,cap,rows,g1,g2,g3,g4,g5,g6⟩
theorem okRDs_app:∀ {ks:List CK} {l:List RK} {vs:List Value} {xs:List RD},KsOk ks vs->okRDs l xs->okRDs (ks.map .c++l) ((List.zipWith (fun k v=>RD.a (atomOf k v)) ks vs)++xs)
 | [],l,vs,xs,h,hx=>by
  have:vs=[]:=List.eq_nil_of_length_eq_zero (by simpa using h.len);subst this;exact hx
 | k::ks,l,[],xs,h,hx=>by have:=h.len;simp at this
 | k::ks,l,v::vs,xs,h,hx=>⟨_,_,rfl,⟨v,rfl,h.ok 0 k v rfl rfl⟩,okRDs_app (ks:=ks) (vs:=vs) ⟨by have:=h.len;simpa using this,fun j k' v' hk hv=>h.ok (j+1) k' v' (by simpa using hk) (by simpa using hv)⟩ hx⟩
theorem rAt_app:∀ (n:Nat) (ks:List CK) (vs:List Value) (xs:List RD),rAt n ((List.zipWith (fun k v=>RD.a (atomOf k v)) ks vs)++xs)=List.zipWith atomOf ks vs++rAt n xs
 | _,[],_,_=>by simp
 | _,_::_,[],_=>by simp
 | n,k::ks,v::vs,xs=>by simp [rAt,rAt_app n ks vs xs]
theorem rN_app:∀ (ks:List CK) (vs:List Value) (xs:List RD),rN ((List.zipWith (fun k v=>RD.a (atomOf k v)) ks vs)++xs)=rN xs
 | [],_,_=>by simp
 | _::_,[],_=>by simp
 | k::ks,v::vs,xs=>by simp [rN,rN_app ks vs xs]
theorem rChs_app:∀ (n:Nat) {ks:List CK} {vs:List Value} (l:List RK) (xs:List RD),vs.length=ks.length->rChs n (ks.map .c++l) ((List.zipWith (fun k v=>RD.a (atomOf k v)) ks vs)++xs)=rChs n l xs
 | _,[],[],_,_,_=>by simp
 | _,[],_::_,_,_,h=>by simp at h
 | _,_::_,[],_,_,h=>by simp at h
 | n,k::ks,v::vs,l,xs,h=>by
  have:=rChs_app n (ks:=ks) (vs:=vs) l xs (by simpa using h);simpa [rChs] using this
theorem zip_repL {ρ:Env}:∀ {ks:List CK} {vs:List Value},KsOk ks vs->RepL ρ (List.zipWith atomOf ks vs) vs
 | [],vs,h=>by
  have:vs=[]:=List.eq_nil_of_length_eq_zero (by simpa using h.len);subst this;rfl
 | k::ks,[],h=>by have:=h.len;simp at this
 | k::ks,v::vs,h=>⟨v,vs,rfl,atomOf_rep (h.ok 0 k v rfl rfl) ρ,zip_repL ⟨by have:=h.len;simpa using this,fun j k' v' hk hv=>h.ok (j+1) k' v' (by simpa using hk) (by simpa using hv)⟩⟩
theorem rChs_tag:∀ (n:Nat) (fs:List RK) (xs:List RD),∀ p∈rChs n fs xs,n<=p.1/\p.1<n+rN xs
 | _,[],_,_,h=>by simp [rChs] at h
 | _,_::_,[],_,h=>by simp [rChs] at h
 | n,k::r,x::s,p,h=>by
  cases k<;>cases x<;>simp only [rChs,List.mem_cons] at h
  ·exact rChs_tag n r s p h
  ·have:=rChs_tag n r s p h;simp only [rN];omega
  ·exact rChs_tag n r s p h
  ·rcases h with rfl|h
   ·simp only [rN];omega
   ·have:=rChs_tag (n+1) r s p h;simp only [rN];omega
theorem open_rec {r:Reach} {b0 d n:Nat} {ts:List TypeId} {cs:List Value} (hts:∀ (i:Nat) (v:Value),cs[i]? = some v->∃ u:TypeId,ts[i]? = some u/\Cell.okWide P w r b0 u v) :
 ∀ (fs:List Field) (o:Nat) (l:List RK) (ρ0:Env),recFs P d ts fs o=some l ->
  (∀ f∈fs,∃ x,DataW.trod enc P w 0 (fun _=>true) held n f.type ((cs.drop f.offset).take (P.cellsOf f.type))=some x/\∀ b off,MemPlace.cell b off∈x.2->w.frozen? ⟨b,off,none⟩=false)->o+l.length=cs.length ->
  ∃ (xs:List RD) (ρ:Env),okRDs l xs/\ρ0.le ρ/\ρ.n=ρ0.n+rN xs/\RepL ρ (rAt ρ0.n xs) (cs.drop o)/\HeapSat w (fun _=>False) ρ (ros (rChs ρ0.n l xs)) w
 | [],o,l,ρ0,h,_,hl=>by
  simp [recFs] at h;subst h;refine ⟨[],ρ0,rfl,Env.le.refl _,rfl,?_,⟨Keeps.refl _ _,fun e he=>(by cases he),.nil⟩⟩;have:cs.drop o=[]:=List.drop_eq_nil_of_le (by simp at hl;omega);rw [this];rfl
 | f::fs,o,l,ρ0,h,hf,hl=>by
  simp only [recFs] at h;cases ho:Nat.beq f.offset o with
  | false=>rw [ho] at h;cases h
  | true =>
  rw [ho] at h;simp only [cond_true] at h;have ho':=Nat.eq_of_beq_eq_true ho;obtain ⟨x,hx,hz⟩:=hf f List.mem_cons_self;rw [ho'] at hx;have hfr:∀ g∈fs,∃ x,DataW.trod enc P w 0 (fun _=>true) held n g.type ((cs.drop g.offset).take (P.cellsOf g.type))=some x/\∀ b off,MemPlace.cell b off∈x.2->w.frozen? ⟨b,off,none⟩=false:=fun g hg=>hf g (List.mem_cons_of_mem _ hg);split at h
  ·rename_i e hu;split at h
   ·rename_i ks u l1 e1 e2 e3;cases hb:(Nat.beq ks.length (P.cellsOf e)&&(Nat.ble 1 ks.length&&(Nat.beq (P.cellsOf f.type) 1&&isSlcT P u)))
    ·rw [hb] at h;cases h
    rw [hb] at h;simp only [cond_true,Option.some.injEq] at h;subst h;simp only [Bool.and_eq_true] at hb;obtain ⟨h1,h2,h3,h4⟩:=hb;have hlt:o<cs.length:=by simp at hl;omega
    have hc1:=Nat.eq_of_beq_eq_true h3;have hone:(cs.drop o).take (P.cellsOf f.type)=[cs[o]]:=by
     rw [hc1,List.drop_eq_getElem_cons hlt];rfl
    rw [hone] at hx;obtain ⟨u',hu',hok⟩:=hts o cs[o] (List.getElem?_eq_getElem hlt);rw [e2] at hu';cases hu';obtain ⟨p,m,cap,rows,hn,hc,hrows,hlt2,hrep,hsat,_⟩:=open_cell hu e1 (Nat.eq_of_beq_eq_true h1) (Nat.le_of_ble_eq_true h2) (dd:=x.1) (ps:=x.2) hx hz;obtain ⟨xs,ρ,g1,g2,g3,g4,g5⟩:=open_rec hts fs (o+1) l1 (ρ0.ext p) e3 hfr (by simp at hl ⊢;omega);have hpl:ρ.pl ρ0.n=p:=by rw [g2.pl _ (Nat.lt_succ_self _)];exact ρ0.ext_new p
    have hlt':ρ0.n<ρ.n:=g2.n;refine ⟨.s ks.length m cap rows::xs,ρ,⟨_,_,rfl,⟨m,cap,rows,rfl,hn,hc,hrows⟩,g1⟩,(ρ0.le_ext p).trans g2,by rw [g3];simp [rN,Env.ext];omega,?_,?_⟩
    ·rw [List.drop_eq_getElem_cons hlt];exact ⟨_,_,rfl,hrep ρ ρ0.n hlt' hpl,g4⟩
    ·refine HeapSat.cons g5 ⟨hlt',by simp only;rw [hpl];exact hsat ρ,by simp only;rw [hpl];exact hlt2,fun h=>(by cases h)⟩ fun y hy=>⟨?_,fun h=>?_⟩
     ·obtain ⟨q,hq,rfl⟩:=List.mem_map.1 hy;have:=(rChs_tag _ _ _ _ hq).1;simp only [Env.ext] at this ⊢;omega
     ·rw [ros_wr hy] at h;cases h
   ·cases h
  ·split at h
   ·rename_i ks l1 e1 e3;cases hb:Nat.beq ks.length (P.cellsOf f.type)
    ·rw [hb] at h;cases h
    rw [hb] at h;simp only [cond_true,Option.some.injEq] at h;subst h;have hb':=Nat.eq_of_beq_eq_true hb;have hks:=flat_ok d n f.type _ _ ks hx e1;obtain ⟨xs,ρ,g1,g2,g3,g4,g5⟩:=open_rec hts fs (o+P.cellsOf f.type) l1 ρ0 e3 hfr (by rw [<- hb'];simp at hl;omega);refine ⟨(List.zipWith (fun k v=>RD.a (atomOf k v)) ks ((cs.drop o).take (P.cellsOf f.type)))++xs,ρ,okRDs_app hks g1,g2,by rw [rN_app];exact g3,?_,?_⟩
    ·rw [rAt_app];have e:cs.drop o=(cs.drop o).take (P.cellsOf f.type)++cs.drop (o+P.cellsOf f.type):=by
      rw [<- List.drop_drop,List.take_append_drop]
     rw [e,List.take_append_of_le_length (by rw [hks.len,hb'];exact Nat.le_refl _),List.take_take,Nat.min_self];exact (zip_repL hks).append g4
    ·rw [rChs_app _ _ _ hks.len];exact g5
   ·cases h
theorem chs_tag:∀ (n:Nat) (aks:List AK) (ads:List AD),∀ p∈chs n aks ads,n<=p.1
 | _,[],_,_,h=>by simp [chs] at h
 | _,_::_,[],_,h=>by simp [chs] at h
 | n,k::r,a::s,p,h=>by
  have key:∀ m,n<=m->p∈chs m r s->n<=p.1:=fun m hm h=>Nat.le_trans hm (chs_tag m r s p h);cases k<;>cases a<;>simp only [chs,List.mem_cons,List.mem_append] at h<;>first|exact key n (Nat.le_refl _) h|skip
  ·rcases h with rfl|h
   ·exact Nat.le_refl _
   ·exact key (n+1) (Nat.le_succ _) h
  ·rcases h with h|h
   ·exact (rChs_tag _ _ _ _ h).1
   ·exact key _ (Nat.le_add_right _ _) h
theorem atoms_repL {ρ:Env} {ks:List CK} {cs:List Value} (h:KsOk ks cs):RepL ρ (atoms (fun j=>cs.getD j undef) ks 0) cs:=by
 have:=atoms_rep ρ (fun j=>cs.getD j undef) ks 0 (fun j k hk=>by
  have hj:j<cs.length:=by rw [h.len];exact (List.getElem?_eq_some_iff.1 hk).1
  rw [Nat.zero_add];refine h.ok j k _ hk ?_;simp [List.getD,List.getElem?_eq_getElem hj])
 have e:(List.range' 0 ks.length).map (fun j=>cs.getD j undef)=cs:=by
  apply List.ext_getElem
  ·simp [h.len]
  ·intro i h1 h2;simp [List.getD,List.getElem?_eq_getElem h2]
 rwa [e] at this
theorem open_args {r:Reach} {b0 d:Nat}:∀ (ts:List TypeId) (aks:List AK) (vs:List Value) (ds:List (DataW H)) (ps:List MemPlace) (ρ0:Env),argKs P d ts=some aks->DataW.TrodAll enc P w 0 (fun _=>true) held ts vs ds ps ->
 (∀ (j:Nat) (t:TypeId) (v:Value),ts[j]? = some t->vs[j]? = some v->Value.okWide P w r b0 t v)->(∀ b off,MemPlace.cell b off∈ps->w.frozen? ⟨b,off,none⟩=false) ->
 ∃ (ads:List AD) (ρ:Env),okADs aks ads/\ρ0.le ρ/\ρ.n=ρ0.n+slcs ads/\RepArgs ρ (svs ρ0.n ads) vs/\HeapSat w (fun _=>False) ρ (ros (chs ρ0.n aks ads)) w
 | [],aks,[],[],ps,ρ0,h,hA,_,_=>by
  simp [argKs] at h;subst h;exact ⟨[],ρ0,rfl,Env.le.refl _,rfl,rfl,⟨Keeps.refl _ _,fun e he=>(by cases he),.nil⟩⟩
 | t::ts,aks,v::vs,dd::ds,ps,ρ0,h,hA,hval,hz=>by
  obtain ⟨p1,p2,hT,hA',rfl⟩:=hA;simp only [argKs] at h;split at h
  ·rename_i k l e1 e2;cases h;have hv0:=hval 0 t v rfl rfl;have rec_:=fun ρ=>open_args (r:=r) (b0:=b0) (d:=d) ts l vs ds p2 ρ e2 hA' (fun j t v hj hv=>hval (j+1) t v (by simpa using hj) (by simpa using hv)) (fun b off hm=>hz b off (List.mem_append_right _ hm));have hz1:∀ b off,MemPlace.cell b off∈p1->w.frozen? ⟨b,off,none⟩=false:=fun b off hm=>hz b off (List.mem_append_left _ hm);obtain ⟨fuel,hx⟩:=hT;have one:∀ u,v.cells.toList=[u]->u.oneCell'=true->(∀ x,v≠.agg x)->v=u:=by
    intro u hv hu hna;cases v<;>simp [Value.cells] at hv<;>first|exact hv|exact hv.symm|(rename_i x;exact absurd rfl (hna x))|(subst hv;simp [Value.oneCell'] at hu)
   have nagg:∀ x:Array Value,v = .agg x->(∃ fs,P.underlying t=some (.struct fs))\/∃ n e,P.underlying t=some (.array n e):=by
    intro x hx;subst hx;unfold Value.okWide at hv0;split at hv0
    ·rename_i fs hu;exact .inl ⟨fs,hu⟩
    ·rename_i n e hu;exact .inr ⟨n,e,hu⟩
    ·rename_i h1 h2;unfold Cell.okWide at hv0;split at hv0<;>first|(cases ‹Value.agg x=_›;done)|skip
     all_goals (first|(rename_i e;cases e;done)|skip)
     unfold Cell.ok at hv0;split at hv0<;>first|(rename_i e;cases e;done)|exact hv0.elim|skip
   unfold argK at e1;split at e1
   ·rename_i hu;cases e1;obtain ⟨b,hb,_⟩:=DataW.trod_bool hu hx;have hv:=one _ hb rfl (fun x hx=>by rcases nagg x hx with ⟨_,h⟩ | ⟨_,_,h⟩<;>rw [hu] at h<;>cases h);subst hv;obtain ⟨ads,ρ,h1,h2,h3,h4,h5⟩:=rec_ ρ0;exact ⟨.a (.bool b)::ads,ρ,⟨_,_,rfl,⟨b,rfl⟩,h1⟩,h2,h3,⟨_,_,rfl,rfl,h4⟩,h5⟩
   ·rename_i kk hu;cases e1;obtain ⟨m,hb,_,hw⟩:=DataW.trod_int hu hx;have hv:=one _ hb rfl (fun x hx=>by rcases nagg x hx with ⟨_,h⟩ | ⟨_,_,h⟩<;>rw [hu] at h<;>cases h);subst hv;have hin:InR kk m:=by rw [InR_iff];simpa [Lit.wf] using hw
    obtain ⟨ads,ρ,h1,h2,h3,h4,h5⟩:=rec_ ρ0;exact ⟨.a (.int kk m)::ads,ρ,⟨_,_,rfl,⟨m,rfl,hin⟩,h1⟩,h2,h3,⟨_,_,rfl,⟨rfl,hin⟩,h4⟩,h5⟩
   ·rename_i hu;cases e1;obtain ⟨s,hb,_,hs⟩:=DataW.trod_string hu hx;have hv:=one _ hb rfl (fun x hx=>by rcases nagg x hx with ⟨_,h⟩ | ⟨_,_,h⟩<;>rw [hu] at h<;>cases h);subst hv;have hs':s.size<=lenMax:=by unfold lenMax;unfold maxLen at hs;exact hs
    obtain ⟨ads,ρ,h1,h2,h3,h4,h5⟩:=rec_ ρ0;exact ⟨.a (.str s)::ads,ρ,⟨_,_,rfl,⟨s,rfl,hs'⟩,h1⟩,h2,h3,⟨_,_,rfl,⟨rfl,hs'⟩,h4⟩,h5⟩
   ·rename_i fs hu;cases hf:flatK P d t with
    | none =>
     rw [hf] at e1;simp only at e1;split at e1
     ·rename_i tys hty;split at e1
      ·rename_i fl hfl;cases hb:(Nat.beq fl.length (P.cellsOf t)&&Nat.beq tys.length (P.cellsOf t))
       ·rw [hb] at e1;cases e1
       rw [hb] at e1;simp only [cond_true,Option.some.injEq] at e1;subst e1;simp only [Bool.and_eq_true] at hb;have hb1:=Nat.eq_of_beq_eq_true hb.1;have hb2:=Nat.eq_of_beq_eq_true hb.2;have hv:∃ cs:Array Value,v = .agg cs/\cs.size=P.cellsOf t/\Row.okWide P w r b0 t cs:=by
        unfold Value.okWide at hv0;rw [hu] at hv0;exact hv0
       obtain ⟨cs,rfl,hcs,hrow⟩:=hv;obtain ⟨tys',hty',_,hcell⟩:=hrow;rw [hty] at hty';cases hty';obtain ⟨xs,m,rfl,hxx,hl,hlen,hget⟩:=DataW.trod_struct hu hx;have hps:p1=xs.flatMap (·.2):=congrArg Prod.snd hxx;obtain ⟨rd,ρ1,g1,g2,g3,g4,g5⟩:=open_rec (r:=r) (b0:=b0) (d:=d) (n:=m) (ts:=tys) (cs:=cs.toList) (enc:=enc) (held:=held) (P:=P) (w:=w) (fun i v hi=>by
        have hi':cs[i]? = some v:=by simpa using hi
        obtain ⟨u,h1,h2⟩:=hcell i v hi';have hlt:=(Array.getElem?_eq_some_iff.1 hi').1;rw [Nat.mod_eq_of_lt (by omega)] at h1;exact ⟨u,h1,h2⟩) fs.toList 0 fl ρ0 hfl (fun f hf=>by
        obtain ⟨i,hi,e⟩:=List.getElem_of_mem hf;have hi':i<fs.size:=by simpa using hi
        have h1:=hget i f (by rw [Array.getElem?_eq_getElem hi'];congr 1);refine ⟨xs[i]'(by omega),by rw [<- List.getElem?_eq_getElem (by omega)];exact h1,fun b off hm=>hz1 b off ?_⟩;rw [hps];exact List.mem_flatMap.2 ⟨_,List.getElem_mem _,hm⟩) (by simp [hb1,hcs])
       obtain ⟨ads,ρ,h1,h2,h3,h4,h5⟩:=rec_ ρ1;rw [g3] at h4 h5;refine ⟨.rcd rd::ads,ρ,⟨_,_,rfl,⟨rd,rfl,g1⟩,h1⟩,g2.trans h2,by rw [h3,g3];simp [slcs];omega,⟨_,_,rfl,⟨cs.toList,by simp,?_⟩,h4⟩,?_⟩
       ·have:=g4.mono h2;simpa using this
       ·show HeapSat w (fun _=>False) ρ (ros (rChs ρ0.n fl rd++chs (ρ0.n+rN rd) l ads)) w;rw [show ros (rChs ρ0.n fl rd++chs (ρ0.n+rN rd) l ads)=ros (rChs ρ0.n fl rd)++ros (chs (ρ0.n+rN rd) l ads) from List.map_append ..];refine (g5.mono h2).app h5 fun x hx y hy=>⟨?_,fun h=>?_⟩
        ·obtain ⟨q,hq,rfl⟩:=List.mem_map.1 hx;obtain ⟨q',hq',rfl⟩:=List.mem_map.1 hy;have a1:=rChs_tag _ _ _ _ hq;have a2:=chs_tag _ _ _ _ hq';simp only;omega
        ·rw [ros_wr hx,ros_wr hy] at h;cases h
      ·cases e1
     ·cases e1
    | some ks =>
     rw [hf] at e1;cases e1;have hks:=flat_ok d fuel t _ _ ks hx hf;have hv:∃ cs:Array Value,v = .agg cs:=by
      unfold Value.okWide at hv0;rw [hu] at hv0;obtain ⟨cs,h,_⟩:=hv0;exact ⟨cs,h⟩
     obtain ⟨cs,rfl⟩:=hv;have hks:KsOk ks cs.toList:=hks;obtain ⟨ads,ρ,h1,h2,h3,h4,h5⟩:=rec_ ρ0;refine ⟨.agg (atoms (fun j=>cs.toList.getD j undef) ks 0)::ads,ρ,⟨_,_,rfl,⟨_,rfl,fun j k hj=>?_⟩,h1⟩,h2,h3,⟨_,_,rfl,⟨cs.toList,by simp,atoms_repL hks⟩,h4⟩,h5⟩;have hjl:j<cs.toList.length:=by rw [hks.len];exact (List.getElem?_eq_some_iff.1 hj).1
     exact hks.ok j k _ hj (by simp [List.getD,List.getElem?_eq_getElem hjl])
   ·rename_i e hu;split at e1
    ·rename_i ks hf;cases hb:(Nat.beq ks.length (P.cellsOf e)&&Nat.ble 1 ks.length)
     ·rw [hb] at e1;cases e1
     rw [hb] at e1;cases e1;simp only [Bool.and_eq_true] at hb;obtain ⟨p,n,cap,rows,hn,hc,hrows,hlt,hrep,hsat⟩:=open_slice hu hf (Nat.eq_of_beq_eq_true hb.1) (Nat.le_of_ble_eq_true hb.2) hv0 ⟨fuel,hx⟩ hz1;obtain ⟨ads,ρ,h1,h2,h3,h4,h5⟩:=rec_ (ρ0.ext p);have hpl:ρ.pl ρ0.n=p:=by rw [h2.pl _ (Nat.lt_succ_self _)];exact ρ0.ext_new p
     have hlt':ρ0.n<ρ.n:=h2.n;refine ⟨.slc ks.length n cap rows::ads,ρ,⟨_,_,rfl,⟨n,cap,rows,rfl,hn,hc,hrows⟩,h1⟩,(ρ0.le_ext p).trans h2,by rw [h3];simp [slcs,Env.ext];omega,⟨_,_,rfl,hrep ρ ρ0.n hlt' hpl,h4⟩,?_⟩;refine HeapSat.cons h5 ⟨hlt',by simp only;rw [hpl];exact hsat ρ,by simp only;rw [hpl];exact hlt,fun h=>(by cases h)⟩ fun x hx=>⟨?_,fun h=>?_⟩
     ·obtain ⟨q,hq,rfl⟩:=List.mem_map.1 hx;have:=chs_tag _ _ _ _ hq;simp only [Env.ext] at this ⊢;omega
     ·rw [ros_wr hx] at h;cases h
    ·cases e1
   ·cases e1
  ·cases h
 | [],_,[],_::_,_,_,_,h,_,_=>h.elim
 | [],_,_::_,_,_,_,_,h,_,_=>h.elim
 | _::_,_,[],_,_,_,_,h,_,_=>h.elim
 | _::_,_,_::_,[],_,_,_,h,_,_=>h.elim
theorem law_con {Y:Gx} (hY:Y.Ok) {C:Con} {ch:C.α->CallH} (hch:∀ a,HOk Y.G.X (ch a)) {lh:C.α->Nat->LH} {f:Nat} (hb:conBody Y C ch lh f) (a:C.α) (hp:C.pre a) (hhp:C.hp a=[]) (hres:∀ o,C.res a o = .a .tt) {w:World} {ρ:Env} {vs:List Value}
 (hn:ρ.n=C.m) (hh:HeapSat w (fun _=>False) ρ (ros (C.ro a)) w) (hargs:RepArgs ρ (C.args a) vs):Calls Y.G.X.P f vs.toArray w fun e w'=>e = .returned (.bool true)/\Keeps (fun _=>False) w w':=by
 refine (xbody_ok hY (hch a) (hb a hp) w (fun _=>False) ρ w vs hn ?_ hargs).mono ?_
 ·show HeapSat w (fun _=>False) ρ (wrs (C.hp a)++ros (C.ro a)) w;rw [hhp];exact hh
 ·rintro e w' ⟨v,rfl,sv,s',ρ',hK,_,_,_,_,hrep,hh'⟩;refine ⟨?_,hh'.keeps⟩;obtain ⟨o,hK⟩:=hK;obtain ⟨τ,_,_,hw,q⟩:=matchV_ok hK (Wf.nil _ _);have:=q ρ' (subEnv ρ' τ C.m') v (subEnv_fits hw) hrep;rw [hres o] at this;rw [show v = .bool true from this]
theorem law_run {Y:Gx} (hY:Y.Ok) {C:Con} {ch:C.α->CallH} (hch:∀ a,HOk Y.G.X (ch a)) {lh:C.α->Nat->LH} {f:Nat} (hb:conBody Y C ch lh f) {ts:List TypeId} {aks:List AK} {d:Nat} (hk:argKs Y.G.X.P d ts=some aks) (hhp:∀ a,C.hp a=[]) (hres:∀ a o,C.res a o = .a .tt)
 (hinst:∀ ads,okADs aks ads->∃ a,C.pre a/\C.args a=svs 0 ads/\C.ro a=chs 0 aks ads/\C.m=slcs ads) {W:World} {args:Array Value} {ds:List (DataW H)} {ps:List MemPlace} {r:Reach} {b0:Nat}
 (hA:DataW.TrodAll enc Y.G.X.P W 0 (fun _=>true) held ts args.toList ds ps) (hval:∀ (j:Nat) (t:TypeId) (v:Value),ts[j]? = some t->args.toList[j]? = some v->Value.okWide Y.G.X.P W r b0 t v)
 (hz:∀ b off,MemPlace.cell b off∈ps->W.frozen? ⟨b,off,none⟩=false):Calls Y.G.X.P f args W fun e w'=>e = .returned (.bool true)/\Keeps (fun _=>False) W w':=by
 obtain ⟨ads,ρ,h1,_,h3,h4,h5⟩:=open_args (r:=r) (b0:=b0) (d:=d) ts aks args.toList ds ps ⟨0,fun _=>nilPlace⟩ hk hA hval hz;obtain ⟨a,g1,g2,g3,g4⟩:=hinst ads h1;have:=law_con hY hch hb a g1 (hhp a) (hres a) (w:=W) (ρ:=ρ) (vs:=args.toList) (by rw [h3,g4];simp) (by rw [g3];exact h5) (by rw [g2];exact h4);simpa using this
theorem fn_run {Y:Gx} (hY:Y.Ok) {tab:List (Nat × Con)} (ht:TabOk Y.G.X tab) {f:Nat} {C:Con} {l:C.α->List (Nat × List An × List An)} (hb:fnBody Y tab f C l) {ts:List TypeId} {aks:List AK} {d:Nat} (hk:argKs Y.G.X.P d ts=some aks) (hhp:∀ a,C.hp a=[]) (hres:∀ a o,C.res a o = .a .tt)
 (hinst:∀ ads,okADs aks ads->∃ a,C.pre a/\C.args a=svs 0 ads/\C.ro a=chs 0 aks ads/\C.m=slcs ads) {W:World} {args:Array Value} {ds:List (DataW H)} {ps:List MemPlace} {r:Reach} {b0:Nat}
 (hA:DataW.TrodAll enc Y.G.X.P W 0 (fun _=>true) held ts args.toList ds ps) (hval:∀ (j:Nat) (t:TypeId) (v:Value),ts[j]? = some t->args.toList[j]? = some v->Value.okWide Y.G.X.P W r b0 t v)
 (hz:∀ b off,MemPlace.cell b off∈ps->W.frozen? ⟨b,off,none⟩=false):Calls Y.G.X.P f args W fun e w'=>e = .returned (.bool true)/\Keeps (fun _=>False) W w' :=
 law_run hY (fun _=>CHof_ok hY ht) hb.body hk hhp hres hinst hA hval hz
theorem trodAll_len:∀ {ts:List TypeId} {vs:List Value} {ds:List (DataW H)} {ps:List MemPlace},DataW.TrodAll enc P w base spare held ts vs ds ps->ds.length=ts.length
 | [],[],[],_,_=>rfl
 | _::_,_::_,_::_,_,⟨_,_,_,h,_⟩=>by simp [trodAll_len h]
 | [],[],_::_,_,h=>h.elim
 | [],_::_,_,_,h=>h.elim
 | _::_,[],_,_,h=>h.elim
 | _::_,_::_,[],_,h=>h.elim
theorem trodAll_stays (hl:laidOutB P=true) {W W':World} (hk:Keeps (fun _=>False) W W') {sp:Nat->Bool}:∀ {ts:List TypeId} {vs:List Value} {ds:List (DataW H)} {ps:List MemPlace},(∀ t∈ts,P.readableRec t=true/\t<P.types.size) ->
 DataW.TrodAll enc P W 0 (fun _=>true) true ts vs ds ps->(∀ p∈ps,p.block<W.heap.size/\sp p.block=true)->DataW.TrodAll enc P W' 0 sp true ts vs ds ps
 | [],[],[],_,_,h,_=>h
 | t::ts,v::vs,d::ds,ps,ht,⟨p1,p2,h1,h2,e⟩,hp=>by
  subst e;have hb:Below W.heap.size W W':=⟨hk.os,hk.tape,hk.output,hk.size,fun b hb=>hk.block b hb id⟩
  obtain ⟨a1,a2⟩:=ht t List.mem_cons_self;exact ⟨p1,p2,WideElems.Trod_stays hl a1 a2 h1 (fun x hx=>hb.same (hp x (List.mem_append_left _ hx)).1) (fun x hx=>(hp x (List.mem_append_left _ hx)).2),
   trodAll_stays hl hk (fun t h=>ht t (List.mem_cons_of_mem _ h)) h2 fun x hx=>hp x (List.mem_append_right _ hx),rfl⟩
 | [],[],_::_,_,_,h,_=>h.elim
 | [],_::_,_,_,_,h,_=>h.elim
 | _::_,[],_,_,_,h,_=>h.elim
 | _::_,_::_,[],_,_,h,_=>h.elim
end
end Go.Sx

namespace Go.Proofs.YtfhkbihcfmbbcaaGreat
open Go.Sx
set_option maxRecDepth 100000
set_option linter.unusedVariables false
set_option linter.unusedSimpArgs false
def S.st (s:S) (c:Nat) (m:StM) (p:StP):S :=
 (fun (s3:S)=>(s3.put (s3.hp.del (plTag s3))).new (.pool p.H))
 ((((((((((((((s.at_ c (stO (s.in_ c 0) (s.in_ c 1) (s.in_ c 2) m.boot)).at_
  (s.in_ (s.in_ c 0) 0) (logObj (s.in_ (s.in_ (s.in_ c 0) 0) 0) m.cL p.cy.lv)).at_
  (s.in_ (s.in_ (s.in_ c 0) 0) 0) (.obj 83 [.slc (s.in_ (s.in_ (s.in_ (s.in_ c 0) 0) 0) 0) 0 129 m.d.n m.d.n,.int .i64 m.d.calls])).at_
  (s.in_ (s.in_ (s.in_ (s.in_ c 0) 0) 0) 0) (.arr 86 ksSec m.d.n (rowsD m.d))).at_
  (s.in_ (s.in_ c 0) 1) (.obj 128 [.slc (s.in_ (s.in_ (s.in_ c 0) 1) 0) 0 4 p.x.t.length p.xc,.int .i64 p.x.n,.int .i64 p.x.used])).at_
  (s.in_ (s.in_ (s.in_ c 0) 1) 0) (.arr 132 Ix.ksP p.x.t.length (encRows Ix.encP p.x.t))).at_
  (s.in_ c 1) (jrO (s.in_ (s.in_ c 1) 0) (s.in_ (s.in_ c 1) 1) m.ms.length p.jc)).at_
  (s.in_ (s.in_ c 1) 1) (.arr 105 ksMark m.ms.length (encRows encMark m.ms))).at_
  (s.in_ (s.in_ c 1) 0) (logObj (s.in_ (s.in_ (s.in_ c 0) 0) 0) m.jL p.jy.lv)).at_
  (s.in_ c 2) (.obj 89 (.ptr (s.in_ (s.in_ c 2) 0) 0 0 0::metaA m.k.m))).at_
  (s.in_ (s.in_ c 2) 0) (.obj 136 (supA (s.in_ (s.in_ (s.in_ c 0) 0) 0) (s.in_ (s.in_ (s.in_ c 2) 0) 3) m.k.s p.kc))).at_
  (s.in_ (s.in_ (s.in_ c 2) 0) 3) (.arr 5 [.int .u8] m.k.s.text.length (encRows encB m.k.s.text)))))
theorem StAt.cache {s:StM} {p:StP} (h:StAt s p) {m:FlM} {q:FlP} (hf:FlAt m q) (hfr:FlFr p.fl q):StAt { s with cL:=m.L,d:=m.d,cl:=m.l } ⟨q.H,q.y,q.x,q.cap,p.jy,p.jc,p.kc⟩ :=
 ⟨hf,h.jl.frame fun z hz=>(hfr z (h.jl.dom z hz) (h.sep z hz)).1,fun z hz=>(hfr z (h.jl.dom z hz) (h.sep z hz)).2,h.cap⟩
noncomputable def tabSt:List (Nat × Con):=[(11,cDevNew),(10,cStMake),(12,cStOpen),(9,cKill),(18,cFPut),(25,cFGet),(15,cDevCrash),(72,cDevFlush),(24,cJSeq),(58,Ix.cKeys),(28,cJAdd)]
theorem tabSt_ok:TabOk (Y Tryz.prog).G.X tabSt:=⟨callDevNew,callStMake,callStOpen,callKill,callFPut,callFGet,callDevCrash,callDevFlush,callJSeq,Ix.callKeys,callJAdd,trivial⟩
def keyKS:ByteArray:=⟨#[107]⟩
def itKS:ItemM:=⟨keyKS,⟨#[118]⟩,0,false⟩
noncomputable def cBegunS:Con where
 α:=Unit
 β:=Unit
 m:=0
 m':=0
 pre:=fun _=>True
 args:=fun _=>[]
 hp:=fun _=>[]
 ro:=fun _=>[]
 post:=fun _ _=>True
 res:=fun _ _=>.a .tt
 hp':=fun _ _=>[]
set_option maxHeartbeats 4000000 in
theorem bodyBegunS:fnBody (Y Tryz.prog) tabSt 13 cBegunS fun _=>[(13,[],[An.newPool 1 (.mk 1000 [] [])])]:=fnBody.of (p :=
 ∀ a:Unit,True->∃ a:Int,(400:Int)=a/\True/\∀ b:Unit,True->∃ a_2:SMakA,0=0/\devQ (devNew a) a_2.d ((fun (x:Nat)=>none)=a_2.H/\(192<=a_2.d.n/\a_2.d.n<100000/\a_2.d.calls<100000000000/\PartOk (makA a_2))/\∀ b:StP,StAt (partM (makA a_2)) b/\StFr a_2.H [] [] b->∃ a:FPutA,0=0/\{ data:=#[(107:UInt8)] }=a.x.key/\{ data:=#[(118:UInt8)] }=a.x.val/\(0:Int)=a.x.e/\false=a.x.gone/\0=0/\0=0/\0=0/\logQ (partM (makA a_2)).cL a.m.L b.cy.lv a.p.y.lv (devQ (partM (makA a_2)).d a.m.d (idxQ b.x a.p.x b.xc a.p.cap (b.H=a.p.H/\(FlAt a.m a.p/\(putOk a.x=true->FlOk a.m (bodyOf (some a.x)).length))/\∀ b_1:FlP,FlAt (putF a.m a.x) b_1/\FlFr a.p b_1->∃ a_4:FGetA,0=0/\{ data:=#[(107:UInt8)] }=a_4.key/\(0:Int)=a_4.now/\0=0/\0=0/\0=0/\logQ (putF a.m a.x).L a_4.m.L b_1.y.lv a_4.p.y.lv (devQ (putF a.m a.x).d a_4.m.d (idxQ b_1.x a_4.p.x b_1.cap a_4.p.cap (b_1.H=a_4.p.H/\(FlAt a_4.m a_4.p/\FlRd a_4.m/\EntIs a_4.m a_4.key a_4.r/\a_4.key.size<=lenMax)/\∀ b_2:Unit,True->∃ a_6:SKilA,0=0/\(0=0/\1=a_6.ks.length/\1=a_6.kc)/\0=0/\0=0/\0=0/\(partM (makA a_2)).boot=a_6.s.boot/\0=0/\0=0/\0=0/\logQ (putF a.m a.x).L a_6.s.cL b_1.y.lv a_6.p.cy.lv (devQ (putF a.m a.x).d a_6.s.d (idxQ b_1.x a_6.p.x b_1.cap a_6.p.xc (0=0/\markQ (partM (makA a_2)).ms a_6.s.ms b.jc a_6.p.jc (0=0/\logQ (partM (makA a_2)).jL a_6.s.jL b.jy.lv a_6.p.jy.lv (0=0/\keepQ (partM (makA a_2)).k a_6.s.k b.kc a_6.p.kc (b_1.H=a_6.p.H /\
 (a_6.ks.length<=1/\RowsEq a_6.ks.length 1 (flatRows 1 [Value.string { data:=#[(107:UInt8)] }]) (encRows encT a_6.ks))/\(StAt a_6.s a_6.p/\KillOk a_6)/\∀ b:StP,StAt (killS a_6.s a_6.ks) b/\StFr a_6.p.H (fpLog a_6.p.cy) (fpLog a_6.p.jy) b->∃ a_8:FGetA,0=0/\{ data:=#[(107:UInt8)] }=a_8.key/\(0:Int)=a_8.now/\0=0/\0=0/\0=0/\logQ (killS a_6.s a_6.ks).cL a_8.m.L b.cy.lv a_8.p.y.lv (devQ (killS a_6.s a_6.ks).d a_8.m.d (idxQ b.x a_8.p.x b.xc a_8.p.cap (b.H=a_8.p.H/\(FlAt a_8.m a_8.p/\FlRd a_8.m/\EntIs a_8.m a_8.key a_8.r/\a_8.key.size<=lenMax)/\∀ b_3:Unit,True->∃ a_10:CrashA,0=0/\(0=a_10.klen/\0=a_10.kcap)/\devQ (killS a_6.s a_6.ks).d a_10.d (a_10.kn=0/\(1<=a_10.d.n/\a_10.d.n<=2048/\a_10.kr+a_10.klen<=a_10.kn/\a_10.klen<100000)/\∀ b_4:Unit,True->∃ a_12:SOpnA,0=0/\devQ (devCrash a_10.d a_10.klen fun (i:Nat)=>a_10.keep (a_10.kr+i)) a_12.d (b.H=a_12.H/\(((0+1<a_12.d.n/\a_12.d.n<100000/\(supTo 0 a_12.d 2).turn≠(0:Int)/\∀ k:Nat,k<2->supG (supTo 0 a_12.d k) (a_12.d.now (0+k))=true->(1:Int)<=a_12.d.now (0+k) 12)/\(supTo 0 a_12.d 2).text=textM a_12.m/\mayM a_12.m=true)/\PartOk (opnA a_12))/\∀ b:StP,StAt (partM (opnA a_12)) b/\StFr a_12.H [] [] b->(((if putOk a.x=true then (0:Int) else (1:Int)) == (0:Int))=true->((getR a_4.r a_4.now).isSome=true->(decide (((getR a_4.r a_4.now).getD zeroItem).val={ data:=#[(118:UInt8)] })=true->(((if allK a_6.ks=true then seqOf (addsJ a_6.s.jr a_6.ks).ms else (0:Int)) == (1:Int))=true ->
 (((if allK a_6.ks=true then (0:Int) else (1:Int)) == (0:Int))=true->((!(getR a_8.r a_8.now).isSome)=true->∃ a:JSqA,0=0/\0=0/\markQ (partM (opnA a_12)).ms a.ms b.jc a.cap (a.ms.length<100000/\∀ b:Unit,True->((seqOf a.ms == (1:Int))=true->InR .i64 (partM (opnA a_12)).boot->(((partM (opnA a_12)).boot == (2:Int))=true->InR .i64 (killS a_6.s a_6.ks).boot->(((killS a_6.s a_6.ks).boot == (1:Int))=true->∃ b:Unit,((partM (opnA a_12)).k.m.boot == (2:Int))=true/\True/\True)/\(((killS a_6.s a_6.ks).boot == (1:Int))=false->∃ b:Unit,false=true/\True/\True))/\(((partM (opnA a_12)).boot == (2:Int))=false->∃ b:Unit,false=true/\True/\True))/\((seqOf a.ms == (1:Int))=false->∃ b:Unit,false=true/\True/\True)))/\((!(getR a_8.r a_8.now).isSome)=false->∃ b:Unit,false=true/\True/\True))/\(((if allK a_6.ks=true then (0:Int) else (1:Int)) == (0:Int))=false->∃ b:Unit,false=true/\True/\True))/\(((if allK a_6.ks=true then seqOf (addsJ a_6.s.jr a_6.ks).ms else (0:Int)) == (1:Int))=false->∃ b:Unit,false=true/\True/\True))/\(decide (((getR a_4.r a_4.now).getD zeroItem).val={ data:=#[(118:UInt8)] })=false->∃ b:Unit,false=true/\True/\True))/\((getR a_4.r a_4.now).isSome=false->∃ b:Unit,false=true/\True/\True))/\(((if putOk a.x=true then (0:Int) else (1:Int)) == (0:Int))=false->∃ b:Unit,false=true/\True/\True)))))))))))))))))))) (by kernel_rfl) (by
 intro _ _;obtain ⟨m1,m2,m3,m4,m5,m6,m7⟩:=make_ok (d:=devNew 400) (c:=0) (by decide) (Nat.le_refl 0) (by omega) (fun _=>none);refine ⟨400,rfl,trivial,fun _ _=>⟨SMakA.mk (devNew 400) (fun _=>none),?_⟩⟩;obtain ⟨S0,hS0⟩:∃ s,s=partM (makA ⟨devNew 400,fun _=>none⟩):=⟨_,rfl⟩
 rw [<- hS0] at m2 m3 m4 m5 m6 m7;rw [<- hS0]
 (repeat' apply And.intro)<;>first|with_reducible (first|rfl|trivial|assumption)|exact m1.1|exact m1.2.1|exact m1.2.2.1|exact m1.2.2.2|(intro h_;revert h_)|omega|with_reducible exact RowsEq.refl _ _ _|rfl|exact RowsEq.refl _ _ _|exact Nat.le_refl _|(dsimp only;omega)|skip
 rintro p0 ⟨hat0,_⟩;have hp:putOk itKS=true:=by decide
 have hl1:8+(bodyOf (some itKS)).length<=15:=by decide
 obtain ⟨o1,ok1⟩:=m2.put (x:=itKS) hp hl1 (by decide) (by omega);refine ⟨FPutA.mk S0.fl p0.fl itKS,?_⟩;have f0:=hat0.fl
 (repeat' apply And.intro)<;>first|with_reducible (first|rfl|trivial|assumption)|exact f0|exact fun _=>ok1|(intro h_;revert h_)|omega|with_reducible exact RowsEq.refl _ _ _|rfl|exact RowsEq.refl _ _ _|exact Nat.le_refl _|(dsimp only;omega)|skip
 rintro q1 ⟨hf1,hfr1⟩;have hat1:StAt (putS S0 itKS) _:=hat0.cache hf1 hfr1;obtain ⟨g1,g2⟩:=o1.get keyKS;have e1:gE ([]++[some itKS]) keyKS=some itKS:=rfl;rw [e1] at g2;have hks:keyKS.size<=lenMax:=by decide
 refine ⟨FGetA.mk (putS S0 itKS).fl q1 keyKS 0 (some itKS),?_⟩
 (repeat' apply And.intro)<;>first|with_reducible (first|rfl|trivial|assumption)|exact hf1|exact g1|exact g2|exact hks|(intro h_;revert h_)|omega|with_reducible exact RowsEq.refl _ _ _|rfl|exact RowsEq.refl _ _ _|exact Nat.le_refl _|(dsimp only;omega)|skip
 intro _ _;have hK:allK [keyKS]=true:=by decide
 have h0:(putS S0 itKS).ms.length=0:=by show S0.ms.length=0;rw [m4];rfl
 have hwj:∀ i:Nat,i < [keyKS].length->8+(markB ((putS S0 itKS).ms.length+i+1) (gl [keyKS] i)).length<=12:=fun i hi=>by
  obtain rfl:i=0:=by simp at hi;omega
  rw [h0];decide
 have hwc:∀ i:Nat,i < [keyKS].length->8+(bodyOf (some (itemD (gl [keyKS] i)))).length<=16:=fun i hi=>by
  obtain rfl:i=0:=by simp at hi;omega
  decide
 obtain ⟨kok,kd⟩:=o1.kill hK hwj hwc (by decide) (by decide) (by decide) (by decide);have hr1:RowsEq [keyKS].length 1 (flatRows 1 [Value.string keyKS]) (encRows encT [keyKS]):=.of_cells fun i hi=>by
  obtain rfl:i=0:=by simp at hi;omega
  rfl
 have hok:=kok ⟨q1.H,q1.y,q1.x,q1.cap,p0.jy,p0.jc,p0.kc⟩ 1;refine ⟨SKilA.mk (putS S0 itKS) ⟨q1.H,q1.y,q1.x,q1.cap,p0.jy,p0.jc,p0.kc⟩ [keyKS] 1,?_⟩
 (repeat' apply And.intro)<;>first|with_reducible (first|rfl|trivial|assumption)|exact hr1|exact hat1|exact hok|(intro h_;revert h_)|omega|with_reducible exact RowsEq.refl _ _ _|rfl|exact RowsEq.refl _ _ _|exact Nat.le_refl _|(dsimp only;omega)|skip
 rintro p2 ⟨hat2,_⟩;dsimp only at hat2 ⊢;obtain ⟨k1,k2,k3,k4,k5,k6,k7⟩:=kd;obtain ⟨S2,hS2⟩:∃ s,s=killS (putS S0 itKS) [keyKS]:=⟨_,rfl⟩
 rw [<- hS2] at hat2 k1 k2 k4 k5 k6 k7;rw [<- hS2];obtain ⟨g3,g4⟩:=k1.get keyKS;have e2:gE ([]++[some itKS]++[keyKS].map fun q=>some (itemD q)) keyKS=none:=rfl;rw [e2] at g4;have f2:=hat2.fl;refine ⟨FGetA.mk S2.fl p2.fl keyKS 0 none,?_⟩
 (repeat' apply And.intro)<;>first|with_reducible (first|rfl|trivial|assumption)|exact f2|exact g3|exact g4|exact hks|(intro h_;revert h_)|omega|with_reducible exact RowsEq.refl _ _ _|rfl|exact RowsEq.refl _ _ _|exact Nat.le_refl _|(dsimp only;omega)|skip
 intro _ _;have hn2:S2.d.n=400:=by rw [k5];show (putF S0.fl itKS).d.n=400;rw [putF_n];exact m7
 refine ⟨CrashA.mk S2.d 0 0 0 0 fun _=>false,?_⟩;have c1:1<=S2.d.n:=by omega
 have c2:S2.d.n<=2048:=by omega
 (repeat' apply And.intro)<;>first|with_reducible (first|rfl|trivial|assumption)|exact c1|exact c2|(intro h_;revert h_)|omega|with_reducible exact RowsEq.refl _ _ _|rfl|exact RowsEq.refl _ _ _|exact Nat.le_refl _|(dsimp only;omega)|skip
 intro _ _;have hsm:S2.k.m=⟨1,0,0,false⟩:=by rw [k6.1];exact m3
 obtain ⟨r1,r2,r3,r4,_⟩:=k1.reopen (d':=devCrash S2.d 0 fun i=>false) (c:=0) (fun r j=>(crash_now k7.1 r j).trans (k7.2 r j)) rfl (Nat.le_refl 0) (by omega) (by rw [hsm];decide) (by decide) p2.H;refine ⟨SOpnA.mk (devCrash S2.d 0 fun i=>false) p2.H S2.k.m S2.ms ([]++[some itKS]++[keyKS].map fun q=>some (itemD q)),?_⟩;obtain ⟨S3,hS3⟩:∃ s,s=partM (opnA ⟨devCrash S2.d 0 fun i=>false,p2.H,S2.k.m,S2.ms,[]++[some itKS]++[keyKS].map fun q=>some (itemD q)⟩):=⟨_,rfl⟩
 rw [<- hS3] at r2 r3 r4;rw [<- hS3]
 (repeat' apply And.intro)<;>first|with_reducible (first|rfl|trivial|assumption)|exact r1.1.1.1|exact r1.1.1.2.1|exact r1.1.1.2.2.1|exact r1.1.1.2.2.2|exact r1.1.2.1|exact r1.1.2.2|exact r1.2|(intro h_;revert h_)|omega|with_reducible exact RowsEq.refl _ _ _|rfl|exact RowsEq.refl _ _ _|exact Nat.le_refl _|(dsimp only;omega)|skip
 rintro p3 ⟨hat3,_⟩;rw [hp,hK];have e3:getR (some itKS) 0=some itKS:=rfl;have e4:getR none 0=none:=rfl;have b2:S2.boot=1:=by rw [k6.2];show S0.boot=1;rw [m2.boot,m3]
 have b3:S3.boot=2:=by rw [r3,hsm];rfl
 have b4:S3.k.m.boot=2:=by rw [r2,hsm];rfl
 have l2:S2.ms.length=1:=by rw [k2,h0];rfl
 have s2:seqOf (addsJ (putS S0 itKS).jr [keyKS]).ms=1:=by rw [k3,h0];rfl
 have s3:seqOf S3.ms=1:=by rw [r4,k1.seq,l2];rfl
 have l3:S3.ms.length<100000:=by rw [r4,l2];omega
 dsimp only;rw [e3,e4,b2,b3,b4,s2];refine ⟨fun _=>⟨fun _=>⟨fun _=>⟨fun _=>⟨fun _=>⟨fun _=>⟨JSqA.mk S3.ms p3.jc,?_⟩,fun c=>absurd c (by decide)⟩,fun c=>absurd c (by decide)⟩,fun c=>absurd c (by decide)⟩,fun c=>absurd c (by decide)⟩,fun c=>absurd c (by decide)⟩,fun c=>absurd c (by decide)⟩
 (repeat' apply And.intro)<;>first|with_reducible (first|rfl|trivial|assumption)|exact l3|(intro h_;revert h_)|omega|with_reducible exact RowsEq.refl _ _ _|rfl|exact RowsEq.refl _ _ _|exact Nat.le_refl _|(dsimp only;omega)|skip
 intro _ _;dsimp only;rw [s3];exact ⟨fun _ _=>⟨fun _ _=>⟨fun _=>⟨(),rfl,trivial,trivial⟩,fun c=>absurd c (by decide)⟩,fun c=>absurd c (by decide)⟩,fun c=>absurd c (by decide)⟩)
theorem callBegunS:CallsBy (Y Tryz.prog).G.X 13 cBegunS:=fn_ok okY (tab:=tabSt) tabSt_ok bodyBegunS
end Go.Proofs.YtfhkbihcfmbbcaaGreat

namespace Go.Proofs.YtfhkbihcfmbbcaaGreat
open Go.Sx
set_option maxRecDepth 100000
set_option linter.unusedVariables false
set_option linter.unusedSimpArgs false
noncomputable def cJBase:Con where
 α:=JSqA
 β:=Unit
 m:=3
 m':=3
 pre:=fun a=>a.ms.length<100000/\∀ i,i<a.ms.length->0<=(gl a.ms i).seq
 args:=fun a=>[.a (.ptr 0 0 0 0)]
 hp:=fun _=>[]
 ro:=fun a=>[(0,jrO 2 1 a.ms.length a.cap),(1,.arr 105 ksMark a.ms.length (encRows encMark a.ms))]
 post:=fun _ _=>True
 res:=fun a _=>.a (.int .i64 (baseOf a.ms))
 hp':=fun _ _=>[]
set_option maxHeartbeats 4000000 in
theorem bodyJBase:fnBody (Y Tryz.prog) [] 33 cJBase fun _=>[]:=fnBody.of (p :=
 ∀ a:JSqA,(a.ms.length<100000/\∀ i:Nat,i<a.ms.length->(0:Int)<=(gl a.ms i).seq)->(((↑a.ms.length:Int) == 0)=true->∃ b:Unit,(0:Int)=baseOf a.ms/\True/\True)/\(((↑a.ms.length:Int) == 0)=false->((0:Int)<=0/\0<(↑a.ms.length:Int))/\0<a.ms.length/\(InR .i64 (gl a.ms 0).seq->InR .i64 ((gl a.ms 0).seq - (1:Int))/\∃ b:Unit,(gl a.ms 0).seq - (1:Int)=baseOf a.ms/\True/\True))) (by kernel_rfl) (by
 rintro ⟨ms,cap⟩ ⟨hn,hs⟩;dsimp only at *;refine ⟨fun c=>⟨(),?_,trivial,trivial⟩,fun c=>?_⟩
 ·have:=eq_of_beq c;unfold baseOf;rw [if_pos (by omega)]
 ·have h0:ms.length≠0:=fun e=>by rw [e] at c;cases c
  have:=hs 0 (by omega);refine ⟨⟨by omega,by omega⟩,by omega,fun hr=>⟨by simp only [InR] at hr ⊢;omega,(),?_,trivial,trivial⟩⟩;unfold baseOf;rw [if_neg h0])
theorem callJBase:CallsBy (Y Tryz.prog).G.X 33 cJBase:=fn_ok okY (tab:=[]) trivial bodyJBase
def ksMk:List CK:=[.int .i64,.str]
def encMk (x:MarkM):List Value:=[.int .i64 x.seq,.string x.key]
structure SncA where
 ms:List MarkM
 cap:Nat
 seq:Int
 n:Int
def sncOk (a:SncA):Bool:=!decide (a.seq<baseOf a.ms)&&!decide (seqOf a.ms<a.seq)
def sncTo (a:SncA) (i:Nat):List MarkM:=((a.ms.take i).filter fun x=>decide (a.seq<x.seq)).take a.n.toNat
def sncL (a:SncA):List MarkM:=if sncOk a then sncTo a a.ms.length else []
theorem snc_yes {a:SncA} {i:Nat} (hi:i<a.ms.length) (h:a.seq<(gl a.ms i).seq) (h2:((sncTo a i).length:Int)<a.n):sncTo a (i+1)=sncTo a i++[gl a.ms i]:=by
 unfold sncTo at h2 ⊢;rw [take_push hi,List.filter_append];have e:[gl a.ms i].filter (fun x=>decide (a.seq<x.seq))=[gl a.ms i]:=by simp [h]
 have hl:((a.ms.take i).filter fun x=>decide (a.seq<x.seq)).length<a.n.toNat:=by
  rw [List.length_take] at h2;omega
 have a1:(((a.ms.take i).filter fun x=>decide (a.seq<x.seq))++[gl a.ms i]).take a.n.toNat=((a.ms.take i).filter fun x=>decide (a.seq<x.seq))++[gl a.ms i]:=List.take_of_length_le (by rw [List.length_append,List.length_singleton];omega);have a2:((a.ms.take i).filter fun x=>decide (a.seq<x.seq)).take a.n.toNat=(a.ms.take i).filter fun x=>decide (a.seq<x.seq):=List.take_of_length_le (by omega);rw [e,a1,a2]
theorem snc_full {a:SncA} {i:Nat} (hi:i<a.ms.length) (h2:¬ ((sncTo a i).length:Int)<a.n):sncTo a (i+1)=sncTo a i:=by
 unfold sncTo at h2 ⊢;rw [List.length_take] at h2;rw [take_push hi,List.filter_append,List.take_append_of_le_length (by omega)]
theorem snc_no {a:SncA} {i:Nat} (hi:i<a.ms.length) (h:¬ a.seq<(gl a.ms i).seq):sncTo a (i+1)=sncTo a i:=by
 unfold sncTo;rw [take_push hi,List.filter_append];have e:[gl a.ms i].filter (fun x=>decide (a.seq<x.seq))=[]:=by simp [h]
 rw [e,List.append_nil]
theorem snc_len (a:SncA) {i:Nat} (hi:i<=a.ms.length):(sncTo a i).length<=i:=by
 unfold sncTo;have h1:=List.length_filter_le (fun x:MarkM=>decide (a.seq<x.seq)) (a.ms.take i);rw [List.length_take] at h1 ⊢;omega
theorem rows_mk {ms:List MarkM} {x:MarkM}:RowsEq (ms++[x]).length 2 (appRows (encRows encMk ms) 0 ms.length fun (i j:Nat)=>flatRows 2 [Value.int .i64 x.seq,Value.string x.key] (0+i) j) (encRows encMk (ms++[x])):=⟨fun i hi j hj=>by
 rw [List.length_append,List.length_singleton] at hi;simp only [appRows,Nat.zero_add];by_cases h:i<ms.length
 ·rw [if_pos h];unfold encRows;rw [gl_append_left h]
 ·rw [if_neg h];obtain rfl:i=ms.length:=by omega
  rw [Nat.sub_self];unfold encRows;have:gl (ms++[x]) ms.length=x:=by
   have:=gl_append_right (l:=ms) (m:=[x]) (i:=0);rw [Nat.add_zero] at this;rw [this];rfl
  rw [this];rcases (by omega:j=0\/j=1) with rfl|rfl<;>rfl⟩
noncomputable def cJSince:Con where
 α:=SncA
 β:=Nat
 m:=3
 m':=4
 pre:=fun a=>a.ms.length<100000/\(∀ i,i<a.ms.length->0<=(gl a.ms i).seq)/\InR .i64 a.seq/\InR .i64 a.n
 args:=fun a=>[.a (.ptr 0 0 0 0),.a (.int .i64 a.seq),.a (.int .i64 a.n)]
 hp:=fun _=>[]
 ro:=fun a=>[(0,jrO 2 1 a.ms.length a.cap),(1,.arr 105 ksMark a.ms.length (encRows encMark a.ms))]
 post:=fun _ _=>True
 res:=fun a c=>.tup [.a (.slc 3 0 2 (sncL a).length c),.a (.bool (sncOk a))]
 hp':=fun a c=>[(3,.arr 66 ksMk (sncL a).length (encRows encMk (sncL a)))]
def iSince (a:SncA):An:=.flat 5 (Nat × Nat) (fun s x=>((s.new (.arr 66 ksMk (sncTo a x.1).length (encRows encMk (sncTo a x.1)))).set 8 (.a (.slc s.nx 0 2 (sncTo a x.1).length x.2))).int 30 x.1) (fun _ x=>x.1<=a.ms.length) (fun _ x=>a.ms.length - x.1)
set_option maxHeartbeats 4000000 in
theorem bodyJSince:fnBody (Y Tryz.prog) [(33,cJBase),(24,cJSeq)] 27 cJSince fun a=>[(27,[iSince a],[])]:=fnBody.of (p :=
 ∀ a:SncA,a.ms.length<100000/\(∀ i:Nat,i<a.ms.length->(0:Int)<=(gl a.ms i).seq)/\InR .i64 a.seq/\InR .i64 a.n->∃ a_2:JSqA,0=0/\0=0/\markQ a.ms a_2.ms a.cap a_2.cap ((a_2.ms.length<100000/\∀ i:Nat,i<a_2.ms.length->(0:Int)<=(gl a_2.ms i).seq)/\∀ b:Unit,True->(decide (a.seq<baseOf a_2.ms)=true->∃ b:Nat,(0=(sncL a).length/\0=b)/\false=sncOk a/\(sncL a).length=0/\True/\True)/\(decide (a.seq<baseOf a_2.ms)=false->∃ a_5:JSqA,0=0/\0=0/\markQ a.ms a_5.ms a.cap a_5.cap (a_5.ms.length<100000/\∀ b:Unit,True->(decide (seqOf a_5.ms<a.seq)=true->∃ b:Nat,(0=(sncL a).length/\0=b)/\false=sncOk a/\(sncL a).length=0/\True/\True)/\(decide (seqOf a_5.ms<a.seq)=false->(∃ a_8:Nat × Nat,0=(↑a_8.fst:Int)/\(0=(sncTo a a_8.fst).length/\0=a_8.snd)/\(↑a.ms.length:Int)=(↑a.ms.length:Int)/\(0=0/\a.ms.length=a.ms.length/\a.cap=a.cap)/\decide (seqOf a_5.ms<a.seq)=decide (seqOf a_5.ms<a.seq)/\false=false/\0=0/\a.seq=a.seq/\a.n=a.n/\(sncTo a a_8.fst).length=0/\0=0/\markQ a.ms a.ms a.cap a.cap (a_8.fst<=a.ms.length/\True))/\∀ a_8:Nat × Nat,a_8.fst<=a.ms.length->(decide ((↑a_8.fst:Int)<(↑a.ms.length:Int))=true->(0<=(↑a_8.fst:Int)/\(↑a_8.fst:Int)<(↑a.ms.length:Int))/\0+(↑a_8.fst:Int).toNat<a.ms.length/\(InR .i64 (gl a.ms (0+(↑a_8.fst:Int).toNat)).seq->(decide (a.seq<(gl a.ms (0+(↑a_8.fst:Int).toNat)).seq)=true ->
 (decide ((↑(sncTo a a_8.fst).length:Int)<a.n)=true->0+(sncTo a a_8.fst).length<=(sncTo a a_8.fst).length/\1<=1/\((sncTo a a_8.fst).length+1)*24<=140737488355328/\∀ cap:Nat,(sncTo a a_8.fst).length+1<=cap->cap<=lenMax->((sncTo a a_8.fst).length+1<=a_8.snd->cap=a_8.snd)->InR .i64 ((↑a_8.fst:Int)+1)/\∃ (a':Nat × Nat),(↑a_8.fst:Int)+1=(↑a'.fst:Int)/\(0=0/\(sncTo a a_8.fst).length+1=(sncTo a a'.fst).length/\cap=a'.snd)/\(↑a.ms.length:Int)=(↑a.ms.length:Int)/\(0=0/\a.ms.length=a.ms.length/\a.cap=a.cap)/\decide (seqOf a_5.ms<a.seq)=decide (seqOf a_5.ms<a.seq)/\false=false/\0=0/\a.seq=a.seq/\a.n=a.n/\((sncTo a a'.fst).length<=(sncTo a a_8.fst).length+1/\RowsEq (sncTo a a'.fst).length 2 (appRows (encRows encMk (sncTo a a_8.fst)) 0 (sncTo a a_8.fst).length fun (i j:Nat)=>flatRows 2 [Value.int IntKind.i64 (gl a.ms (0+(↑a_8.fst:Int).toNat)).seq,Value.string (gl a.ms (0+(↑a_8.fst:Int).toNat)).key] (0+i) j) (encRows encMk (sncTo a a'.fst)))/\0=0/\markQ a.ms a.ms a.cap a.cap (a'.fst<=a.ms.length/\a.ms.length - a'.fst<a.ms.length - a_8.fst))/\(decide ((↑(sncTo a a_8.fst).length:Int)<a.n)=false->InR .i64 ((↑a_8.fst:Int)+1)/\∃ (a':Nat × Nat),(↑a_8.fst:Int)+1=(↑a'.fst:Int)/\(0=0/\(sncTo a a_8.fst).length=(sncTo a a'.fst).length/\a_8.snd=a'.snd)/\(↑a.ms.length:Int)=(↑a.ms.length:Int)/\(0=0/\a.ms.length=a.ms.length/\a.cap=a.cap) /\
 decide (seqOf a_5.ms<a.seq)=decide (seqOf a_5.ms<a.seq)/\false=false/\0=0/\a.seq=a.seq/\a.n=a.n/\((sncTo a a'.fst).length<=(sncTo a a_8.fst).length/\RowsEq (sncTo a a'.fst).length 2 (encRows encMk (sncTo a a_8.fst)) (encRows encMk (sncTo a a'.fst)))/\0=0/\markQ a.ms a.ms a.cap a.cap (a'.fst<=a.ms.length/\a.ms.length - a'.fst<a.ms.length - a_8.fst)))/\(decide (a.seq<(gl a.ms (0+(↑a_8.fst:Int).toNat)).seq)=false->InR .i64 ((↑a_8.fst:Int)+1)/\∃ (a':Nat × Nat),(↑a_8.fst:Int)+1=(↑a'.fst:Int)/\(0=0/\(sncTo a a_8.fst).length=(sncTo a a'.fst).length/\a_8.snd=a'.snd)/\(↑a.ms.length:Int)=(↑a.ms.length:Int)/\(0=0/\a.ms.length=a.ms.length/\a.cap=a.cap)/\decide (seqOf a_5.ms<a.seq)=decide (seqOf a_5.ms<a.seq)/\false=false/\0=0/\a.seq=a.seq/\a.n=a.n/\((sncTo a a'.fst).length<=(sncTo a a_8.fst).length/\RowsEq (sncTo a a'.fst).length 2 (encRows encMk (sncTo a a_8.fst)) (encRows encMk (sncTo a a'.fst)))/\0=0/\markQ a.ms a.ms a.cap a.cap (a'.fst<=a.ms.length/\a.ms.length - a'.fst<a.ms.length - a_8.fst))))/\(decide ((↑a_8.fst:Int)<(↑a.ms.length:Int))=false->∃ b:Nat,(0=0/\(sncTo a a_8.fst).length=(sncL a).length/\a_8.snd=b)/\true=sncOk a/\((sncL a).length<=(sncTo a a_8.fst).length/\RowsEq (sncL a).length 2 (encRows encMk (sncTo a a_8.fst)) (encRows encMk (sncL a)))/\True/\True)))))) (by kernel_rfl) (by
 rintro a ⟨hn,hs,hq,hn2⟩;refine ⟨JSqA.mk a.ms a.cap,?_⟩
 (repeat' apply And.intro)<;>first|with_reducible (first|rfl|trivial|assumption)|exact hn|exact hs|(intro h_;revert h_)|omega|with_reducible exact RowsEq.refl _ _ _|rfl|exact RowsEq.refl _ _ _|exact Nat.le_refl _|(dsimp only;omega)|skip
 intro _ _;dsimp only;have no:sncOk a=false->sncL a=[]:=fun h=>if_neg (by rw [h];decide);refine ⟨fun c=>?_,fun c=>⟨JSqA.mk a.ms a.cap,?_⟩⟩
 ·have h:sncOk a=false:=by unfold sncOk;rw [c];rfl
  rw [no h,h];exact ⟨0,⟨rfl,rfl⟩,rfl,rfl,trivial,trivial⟩
 (repeat' apply And.intro)<;>first|with_reducible (first|rfl|trivial|assumption)|exact hn|(intro h_;revert h_)|omega|with_reducible exact RowsEq.refl _ _ _|rfl|exact RowsEq.refl _ _ _|exact Nat.le_refl _|(dsimp only;omega)|skip
 intro _ _;dsimp only;refine ⟨fun c2=>?_,fun c2=>⟨⟨(0,0),?_⟩,fun x hx=>?_⟩⟩
 ·have h:sncOk a=false:=by unfold sncOk;rw [c2,Bool.not_true,Bool.and_false]
  rw [no h,h];exact ⟨0,⟨rfl,rfl⟩,rfl,rfl,trivial,trivial⟩
 ·have e:sncTo a 0=[]:=by simp [sncTo]
  dsimp only;rw [e]
  (repeat' apply And.intro)<;>first|with_reducible (first|rfl|trivial|assumption)|(intro h_;revert h_)|omega|with_reducible exact RowsEq.refl _ _ _|rfl|exact RowsEq.refl _ _ _|exact Nat.le_refl _|(dsimp only;omega)|skip
 obtain ⟨i,c3⟩:=x;have hi:i<=a.ms.length:=hx;dsimp only;rw [show 0+(i:Int).toNat=i by omega];have hl:=snc_len a hi;refine ⟨fun d1=>?_,fun d1=>?_⟩
 ·have hlt:i<a.ms.length:=by have:=of_decide_eq_true d1;omega
  refine ⟨⟨by omega,by omega⟩,hlt,fun _=>⟨fun d2=>⟨fun d3=>⟨by omega,by omega,by omega,fun c4 q1 q2 q3=>⟨by simp only [InR];omega,(i+1,c4),?_⟩⟩,fun d3=>⟨by simp only [InR];omega,(i+1,c3),?_⟩⟩,fun d2=>⟨by simp only [InR];omega,(i+1,c3),?_⟩⟩⟩
  ·have e:=snc_yes hlt (of_decide_eq_true d2) (of_decide_eq_true d3);have hr:=rows_mk (ms:=sncTo a i) (x:=gl a.ms i);have hl2:(sncTo a i).length+1=(sncTo a i++[gl a.ms i]).length:=by rw [List.length_append];rfl
   dsimp only;rw [e]
   (repeat' apply And.intro)<;>first|with_reducible (first|rfl|trivial|assumption)|exact hr|exact hl2|exact Nat.le_of_eq hl2.symm|(intro h_;revert h_)|omega|with_reducible exact RowsEq.refl _ _ _|rfl|exact RowsEq.refl _ _ _|exact Nat.le_refl _|(dsimp only;omega)|skip
  ·dsimp only;rw [snc_full hlt (of_decide_eq_false d3)]
   (repeat' apply And.intro)<;>first|with_reducible (first|rfl|trivial|assumption)|(intro h_;revert h_)|omega|with_reducible exact RowsEq.refl _ _ _|rfl|exact RowsEq.refl _ _ _|exact Nat.le_refl _|(dsimp only;omega)|skip
  ·dsimp only;rw [snc_no hlt (of_decide_eq_false d2)]
   (repeat' apply And.intro)<;>first|with_reducible (first|rfl|trivial|assumption)|(intro h_;revert h_)|omega|with_reducible exact RowsEq.refl _ _ _|rfl|exact RowsEq.refl _ _ _|exact Nat.le_refl _|(dsimp only;omega)|skip
 ·have hi':i=a.ms.length:=by have:=of_decide_eq_false d1;omega
  subst hi';have h:sncOk a=true:=by unfold sncOk;rw [c,c2];rfl
  have e:sncL a=sncTo a a.ms.length:=if_pos h;rw [h,e];refine ⟨c3,?_⟩
  (repeat' apply And.intro)<;>first|with_reducible (first|rfl|trivial|assumption)|(intro h_;revert h_)|omega|with_reducible exact RowsEq.refl _ _ _|rfl|exact RowsEq.refl _ _ _|exact Nat.le_refl _|(dsimp only;omega)|skip)
theorem callJSince:CallsBy (Y Tryz.prog).G.X 27 cJSince:=fn_ok okY (tab:=[(33,cJBase),(24,cJSeq)]) ⟨callJBase,callJSeq,trivial⟩ bodyJSince
end Go.Proofs.YtfhkbihcfmbbcaaGreat

namespace Go.Proofs.YtfhkbihcfmbbcaaGreat
open Go.Sx
set_option maxRecDepth 100000
set_option linter.unusedVariables false
set_option linter.unusedSimpArgs false
def nameK (i:Nat):ByteArray:=(ByteArray.empty.push 107).push (UInt8.ofNat (97+i))
def vS:ByteArray:=⟨#[118]⟩
def itS (i:Nat):ItemM:=⟨nameK i,vS,0,false⟩
noncomputable def cNameK:Con where
 α:=Nat
 β:=Unit
 m:=0
 m':=0
 pre:=fun i=>i<20
 args:=fun i=>[.a (.int .i64 i)]
 hp:=fun _=>[]
 ro:=fun _=>[]
 post:=fun _ _=>True
 res:=fun i _=>.a (.str (nameK i))
 hp':=fun _ _=>[]
set_option maxHeartbeats 4000000 in
theorem bodyNameK:fnBody (Y Tryz.prog) [] 26 cNameK fun _=>[]:=fnBody.of (p :=
 ∀ a:Nat,a<20->InR .i64 ((97:Int)+(↑a:Int))/\2<=2/\∃ b:Unit,bytesStr (flatRows 1 [Value.int IntKind.u8 (107:Int),Value.int IntKind.u8 (uw .u8 ((97:Int)+(↑a:Int)))]) 0 2=nameK a/\True/\True) (by kernel_rfl) (by
 intro i h;have hu:uw .u8 (97+(i:Int))=((97+i:Nat):Int):=by simp only [uw];omega
 rw [hu];exact ⟨by simp only [InR];omega,by omega,(),rfl,trivial,trivial⟩)
theorem callNameK:CallsBy (Y Tryz.prog).G.X 26 cNameK:=fn_ok okY (tab:=[]) trivial bodyNameK
theorem nameK_inj {i j:Nat} (hi:i<20) (hj:j<20) (h:nameK i=nameK j):i=j:=by
 have h2:(nameK i).data.toList=(nameK j).data.toList:=by rw [h]
 have e:∀ i,(nameK i).data.toList=[107,UInt8.ofNat (97+i)]:=fun _=>rfl;rw [e,e] at h2;have h3:UInt8.ofNat (97+i)=UInt8.ofNat (97+j):=(List.cons.inj (List.cons.inj h2).2).1;have h4:=congrArg UInt8.toNat h3;simp only [UInt8.toNat_ofNat'] at h4;omega
def kOf (n v:Int):Nat:=((v.tmod n+n).tmod n).toNat
theorem kOf_ok {n:Int} (h:1<=n) (hb:n<=10) (v:Int):(v.tmod n+n).tmod n=(kOf n v:Nat)/\kOf n v<n.toNat/\InR .i64 (v.tmod n+n):=by
 have h1:=Int.lt_tmod_of_pos v (show (0:Int)<n by omega);have h2:=Int.tmod_lt_of_pos v (show (0:Int)<n by omega);have h3:=Int.tmod_nonneg n (show 0<=v.tmod n+n by omega);have h4:=Int.tmod_lt_of_pos (v.tmod n+n) (show (0:Int)<n by omega);exact ⟨by unfold kOf;omega,by unfold kOf;omega,by simp only [InR];omega⟩
structure KlsA where
 n:Int
 dl:Nat
 dc:Nat
 kill:Nat->Nat->Value
def ksN (a:KlsA) (i:Nat):List Nat:=(List.range i).map fun q=>kOf a.n (toI (a.kill q 0))
def ksB (a:KlsA) (i:Nat):List ByteArray:=(ksN a i).map nameK
def dN (a:KlsA):Nat:=min a.dl 5
theorem ksN_succ (a:KlsA) (i:Nat):ksN a (i+1)=ksN a i++[kOf a.n (toI (a.kill i 0))]:=by simp [ksN,List.range_succ]
theorem ksB_succ (a:KlsA) (i:Nat):ksB a (i+1)=ksB a i++[nameK (kOf a.n (toI (a.kill i 0)))]:=by simp [ksB,ksN_succ]
theorem ksB_len (a:KlsA) (i:Nat):(ksB a i).length=i:=by simp [ksB,ksN]
theorem ksN_lt {a:KlsA} (h1:1<=a.n) (h2:a.n<=10) {i k:Nat} (hk:k∈ksN a i):k<a.n.toNat:=by
 unfold ksN at hk;obtain ⟨q,_,rfl⟩:=List.mem_map.1 hk;exact (kOf_ok h1 h2 _).2.1
theorem inK_ks {a:KlsA} (h1:1<=a.n) (h2:a.n<=10) {i k:Nat} (hk:k<a.n.toNat):inK (ksB a i) (nameK k)=decide (k∈ksN a i):=by
 rw [Bool.eq_iff_iff];unfold inK ksB;simp only [List.any_eq_true,List.mem_map,decide_eq_true_eq];constructor
 ·rintro ⟨_,⟨q,hq,rfl⟩,e⟩;have:=ksN_lt h1 h2 hq;have:=nameK_inj (by omega) (by omega) e;rw [<- this];exact hq
 ·exact fun h=>⟨_,⟨k,h,rfl⟩,rfl⟩
noncomputable def cKls:Con where
 α:=KlsA
 β:=Unit
 m:=1
 m':=1
 pre:=fun a=>InR .i64 a.n/\a.dl<=a.dc/\a.dc<=lenMax/\∀ i,i<a.dl->a.kill i 0 = .int .i64 (toI (a.kill i 0))/\InR .i64 (toI (a.kill i 0))
 args:=fun a=>[.a (.int .i64 a.n),.a (.slc 0 0 1 a.dl a.dc)]
 hp:=fun _=>[]
 ro:=fun a=>[(0,.arr 3 [.int .i64] a.dl a.kill)]
 post:=fun _ _=>True
 res:=fun _ _=>.a .tt
 hp':=fun _ _=>[]
def esP (i:Nat):List (Option ItemM):=(List.range i).map fun k=>some (itS k)
theorem esP_succ (i:Nat):esP (i+1)=esP i++[some (itS i)]:=by simp [esP,List.range_succ]
theorem rows_T {l:List ByteArray} {x:ByteArray} {n:Nat} (hn:n=l.length):RowsEq (n+1) 1 (appRows (encRows encT l) 0 n fun (i j:Nat)=>flatRows 1 [Value.string x] (0+i) j) (encRows encT (l++[x])):=⟨fun i hi j hj=>by
 subst hn;obtain rfl:j=0:=by omega
 simp only [appRows,Nat.zero_add];by_cases h:i<l.length
 ·rw [if_pos h];unfold encRows;rw [gl_append_left h]
 ·rw [if_neg h];obtain rfl:i=l.length:=by omega
  rw [Nat.sub_self];unfold encRows;have:gl (l++[x]) l.length=x:=by
   have:=gl_append_right (l:=l) (m:=[x]) (i:=0);rw [Nat.add_zero] at this;rw [this];rfl
  rw [this];rfl⟩
theorem gE_puts:∀ i,i<20->∀ k,k<20->gE (esP i) (nameK k)=if k<i then some (itS k) else none
 | 0,_,k,_=>by simp [esP,gE]
 | i+1,hi,k,hk=>by
  have ih:=gE_puts i (by omega) k hk;rw [esP_succ,gE_push];have:(itS i).gone=false:=rfl;simp only [stepE,this,Bool.false_eq_true,if_false];unfold updK;by_cases e:nameK k=(itS i).key
  ·have:k=i:=nameK_inj hk (by omega) e;subst this;rw [if_pos e,if_pos (by omega)]
  ·have:k≠i:=fun e2=>e (by rw [e2];rfl);rw [if_neg e,ih];by_cases h:k<i
   ·rw [if_pos h,if_pos (by omega)]
   ·rw [if_neg h,if_neg (by omega)]
structure KlsS where
 i:Nat
 s:StM
 p:StP
structure KlsI (x:KlsS):Prop where
 at_:StAt x.s x.p
 one:StOne x.s (500+20*x.i) (esP x.i) (16*x.i) 0
 ms:x.s.ms=[]
 n:x.s.d.n=400
def iKls1 (a:KlsA):An:=.flat 11 KlsS (fun s x=>(S.st s (s.tg 6) x.s x.p).int 9 x.i) (fun _ x=>x.i<=a.n.toNat/\KlsI x) (fun _ x=>a.n.toNat - x.i)
def iKls2 (a:KlsA):An:=.flat 17 (Nat × Nat) (fun s x=>(((s.at_ (s.tg 11) (.arr 4 [.bool] a.n.toNat fun j _=>.bool (decide (j∈ksN a x.1)))).new (.arr 9 [.str] x.1 (encRows encT (ksB a x.1)))).set 10 (.a (.slc s.nx 0 1 x.1 x.2))).int 12 x.1) (fun _ x=>x.1<=dN a) (fun _ x=>dN a - x.1)
def iKls3 (a:KlsA):An:=.flat 27 Nat (fun s i=>s.int 17 i) (fun _ i=>i<=dN a) (fun _ i=>dN a - i)
def iKls4 (a:KlsA):An:=.flat 32 Nat (fun s i=>s.int 18 i) (fun _ i=>i<=a.n.toNat) (fun _ i=>a.n.toNat - i)
def iKlsC (a:KlsA):An:=.mk 22 Nat (fun s c=>(((s.at_ (s.tg 11) (.arr 4 [.bool] a.n.toNat fun j _=>.bool (decide (j∈ksN a (dN a))))).new (.arr 9 [.str] (dN a) (encRows encT (ksB a (dN a))))).set 10 (.a (.slc s.nx 0 1 (dN a) c))).int 12 (dN a)) (fun _ _=>True) (fun _ _=>0) fun _=>.mk 1000 [iKls3 a,iKls4 a] []
noncomputable def tabKls:List (Nat × Con):=(13,cBegunS)::(26,cNameK)::(27,cJSince)::tabSt
theorem tabKls_ok:TabOk (Y Tryz.prog).G.X tabKls:=⟨callBegunS,callNameK,callJSince,tabSt_ok⟩
set_option maxHeartbeats 4000000 in
theorem bodyKls:fnBody (Y Tryz.prog) tabKls 6 cKls fun a=>[(6,[iKls1 a,iKls2 a],[An.newPool 2 (.mk 1000 [iKls1 a,iKls2 a] [iKlsC a])])]:=fnBody.of (p :=
 ∀ a:KlsA,(InR .i64 a.n/\a.dl<=a.dc/\a.dc<=lenMax/\∀ i:Nat,i<a.dl->a.kill i 0=Value.int IntKind.i64 (toI (a.kill i 0))/\InR .i64 (toI (a.kill i 0)))->∃ a_2:Unit,True/\∀ b:Unit,True->(decide (a.n<(1:Int))=true->∃ b:Unit,true=true/\True/\True)/\(decide (a.n<(1:Int))=false->(decide ((10:Int)<a.n)=true->∃ b:Unit,true=true/\True/\True)/\(decide ((10:Int)<a.n)=false->∃ a_6:Int,(400:Int)=a_6/\True/\∀ b:Unit,True->∃ a_8:SMakA,0=0/\devQ (devNew a_6) a_8.d ((fun (x:Nat)=>none)=a_8.H/\(192<=a_8.d.n/\a_8.d.n<100000/\a_8.d.calls<100000000000/\PartOk (makA a_8))/\∀ b:StP,StAt (partM (makA a_8)) b/\StFr a_8.H [] [] b->(∃ a_10:KlsS,0=(↑a_10.i:Int)/\false=false/\(0:Int)=0/\0=0/\decide ((10:Int)<a.n)=decide ((10:Int)<a.n)/\false=false/\true=true/\false=false/\a.n=a.n/\(0=0/\a.dl=a.dl/\a.dc=a.dc)/\b.H=a_10.p.H/\0=0/\0=0/\0=0/\storeQ (partM (makA a_8)) a_10.s b a_10.p ((a.dl<=a.dl/\RowsEq a.dl 1 a.kill a.kill)/\(a_10.i<=a.n.toNat/\KlsI a_10)/\True))/\∀ a_10:KlsS,a_10.i<=a.n.toNat/\KlsI a_10->(decide ((↑a_10.i:Int)<a.n)=true->∃ a_13:Nat,(↑a_10.i:Int)=(↑a_13:Int)/\a_13<20/\∀ b:Unit,True->∃ a_15:FPutA,0=0/\nameK a_13=a_15.x.key/\{ data:=#[(118:UInt8)] }=a_15.x.val/\(0:Int)=a_15.x.e/\false=a_15.x.gone/\0=0/\0=0/\0=0/\logQ a_10.s.cL a_15.m.L a_10.p.cy.lv a_15.p.y.lv (devQ a_10.s.d a_15.m.d (idxQ a_10.p.x a_15.p.x a_10.p.xc a_15.p.cap (a_10.p.H=a_15.p.H /\
 (FlAt a_15.m a_15.p/\(putOk a_15.x=true->FlOk a_15.m (bodyOf (some a_15.x)).length))/\∀ b:FlP,FlAt (putF a_15.m a_15.x) b/\FlFr a_15.p b->InR .i64 ((↑a_10.i:Int)+1)/\∃ (a':KlsS),(↑a_10.i:Int)+1=(↑a'.i:Int)/\false=false/\(0:Int)=0/\0=0/\decide ((10:Int)<a.n)=decide ((10:Int)<a.n)/\false=false/\true=true/\false=false/\a.n=a.n/\(0=0/\a.dl=a.dl/\a.dc=a.dc)/\b.H=a'.p.H/\0=0/\0=0/\0=0/\a_10.s.boot=a'.s.boot/\0=0/\0=0/\0=0/\logQ (putF a_15.m a_15.x).L a'.s.cL b.y.lv a'.p.cy.lv (devQ (putF a_15.m a_15.x).d a'.s.d (idxQ b.x a'.p.x b.cap a'.p.xc (0=0/\markQ a_10.s.ms a'.s.ms a_10.p.jc a'.p.jc (0=0/\logQ a_10.s.jL a'.s.jL a_10.p.jy.lv a'.p.jy.lv (0=0/\keepQ a_10.s.k a'.s.k a_10.p.kc a'.p.kc ((a.dl<=a.dl/\RowsEq a.dl 1 a.kill a.kill)/\(a'.i<=a.n.toNat/\KlsI a')/\a.n.toNat - a'.i<a.n.toNat - a_10.i))))))))))/\(decide ((↑a_10.i:Int)<a.n)=false->(0:Int)<=a.n/\a.n<=a.n/\(1:Int)*a.n<=(281474976710656:Int)/\((∃ a_13:Nat × Nat,0=(↑a_13.fst:Int)/\(0=a_13.fst/\0=a_13.snd)/\(0=0/\a.n.toNat=a.n.toNat/\a.n.toNat=a.n.toNat)/\decide ((↑a_10.i:Int)<a.n)=decide ((↑a_10.i:Int)<a.n)/\(↑a_10.i:Int)=(↑a_10.i:Int)/\false=false/\(0:Int)=0/\0=0/\decide ((10:Int)<a.n)=decide ((10:Int)<a.n)/\false=false/\true=true/\false=false/\a.n=a.n/\(0=0/\a.dl=a.dl/\a.dc=a.dc)/\a_13.fst=0/\(a.n.toNat<=a.n.toNat /\
 RowsEq a.n.toNat 1 (fun (x j:Nat)=>[Value.bool false].getD j (Value.tuple #[])) fun (j x:Nat)=>Value.bool (decide (j∈ksN a a_13.fst)))/\a_10.p.H=a_10.p.H/\0=0/\0=0/\0=0/\storeQ a_10.s a_10.s a_10.p a_10.p ((a.dl<=a.dl/\RowsEq a.dl 1 a.kill a.kill)/\a_13.fst<=dN a/\True))/\∀ a_13:Nat × Nat,a_13.fst<=dN a->(decide ((↑a_13.fst:Int)<(↑a.dl:Int))=true->(decide ((↑a_13.fst:Int)<5)=true->(0<=(↑a_13.fst:Int)/\(↑a_13.fst:Int)<(↑a.dl:Int))/\0+(↑a_13.fst:Int).toNat<a.dl/\(InR .i64 (toI (a.kill (0+(↑a_13.fst:Int).toNat) 0))->a.n≠(0:Int)/\InR .i64 ((toI (a.kill (0+(↑a_13.fst:Int).toNat) 0)).tmod a.n+a.n)/\a.n≠(0:Int)/\∃ a_18:Nat,((toI (a.kill (0+(↑a_13.fst:Int).toNat) 0)).tmod a.n+a.n).tmod a.n=(↑a_18:Int)/\a_18<20/\∀ b:Unit,True->0+a_13.fst<=a_13.fst/\1<=1/\(a_13.fst+1)*16<=140737488355328/\∀ cap:Nat,a_13.fst+1<=cap->cap<=lenMax->(a_13.fst+1<=a_13.snd->cap=a_13.snd)->((0:Int)<=((toI (a.kill (0+(↑a_13.fst:Int).toNat) 0)).tmod a.n+a.n).tmod a.n/\((toI (a.kill (0+(↑a_13.fst:Int).toNat) 0)).tmod a.n+a.n).tmod a.n<(↑a.n.toNat:Int))/\0+(((toI (a.kill (0+(↑a_13.fst:Int).toNat) 0)).tmod a.n+a.n).tmod a.n).toNat<a.n.toNat/\InR .i64 ((↑a_13.fst:Int)+1)/\∃ (a':Nat × Nat),(↑a_13.fst:Int)+1=(↑a'.fst:Int)/\(0=0/\a_13.fst+1=a'.fst/\cap=a'.snd)/\(0=0/\a.n.toNat=a.n.toNat/\a.n.toNat=a.n.toNat)/\decide ((↑a_10.i:Int)<a.n)=decide ((↑a_10.i:Int)<a.n) /\
 (↑a_10.i:Int)=(↑a_10.i:Int)/\false=false/\(0:Int)=0/\0=0/\decide ((10:Int)<a.n)=decide ((10:Int)<a.n)/\false=false/\true=true/\false=false/\a.n=a.n/\(0=0/\a.dl=a.dl/\a.dc=a.dc)/\(a'.fst<=a_13.fst+1/\RowsEq a'.fst 1 (appRows (encRows encT (ksB a a_13.fst)) 0 a_13.fst fun (i j:Nat)=>flatRows 1 [Value.string (nameK a_18)] (0+i) j) (encRows encT (ksB a a'.fst)))/\(a.n.toNat<=a.n.toNat/\RowsEq a.n.toNat 1 (updR (fun (j x:Nat)=>Value.bool (decide (j∈ksN a a_13.fst))) (0+(((toI (a.kill (0+(↑a_13.fst:Int).toNat) 0)).tmod a.n+a.n).tmod a.n).toNat) 0 [Value.bool true]) fun (j x:Nat)=>Value.bool (decide (j∈ksN a a'.fst)))/\a_10.p.H=a_10.p.H/\0=0/\0=0/\0=0/\storeQ a_10.s a_10.s a_10.p a_10.p ((a.dl<=a.dl/\RowsEq a.dl 1 a.kill a.kill)/\a'.fst<=dN a/\dN a - a'.fst<dN a - a_13.fst)))/\(decide ((↑a_13.fst:Int)<5)=false->∃ a_17:Nat,(↑a_13.fst:Int)=(↑(dN a):Int)/\(0=0/\a_13.fst=dN a/\a_13.snd=a_17)/\(0=0/\a.n.toNat=a.n.toNat/\a.n.toNat=a.n.toNat)/\decide ((↑a_10.i:Int)<a.n)=decide ((↑a_10.i:Int)<a.n)/\(↑a_10.i:Int)=(↑a_10.i:Int)/\false=false/\(0:Int)=0/\0=0/\decide ((10:Int)<a.n)=decide ((10:Int)<a.n)/\false=false/\true=true/\false=false/\a.n=a.n/\(0=0/\a.dl=a.dl/\a.dc=a.dc)/\(dN a<=a_13.fst/\RowsEq (dN a) 1 (encRows encT (ksB a a_13.fst)) (encRows encT (ksB a (dN a))))/\(a.n.toNat<=a.n.toNat /\
 RowsEq a.n.toNat 1 (fun (j x:Nat)=>Value.bool (decide (j∈ksN a a_13.fst))) fun (j x:Nat)=>Value.bool (decide (j∈ksN a (dN a))))/\a_10.p.H=a_10.p.H/\0=0/\0=0/\0=0/\storeQ a_10.s a_10.s a_10.p a_10.p ((a.dl<=a.dl/\RowsEq a.dl 1 a.kill a.kill)/\True/\True)))/\(decide ((↑a_13.fst:Int)<(↑a.dl:Int))=false->∃ a_16:Nat,(↑a_13.fst:Int)=(↑(dN a):Int)/\(0=0/\a_13.fst=dN a/\a_13.snd=a_16)/\(0=0/\a.n.toNat=a.n.toNat/\a.n.toNat=a.n.toNat)/\decide ((↑a_10.i:Int)<a.n)=decide ((↑a_10.i:Int)<a.n)/\(↑a_10.i:Int)=(↑a_10.i:Int)/\false=false/\(0:Int)=0/\0=0/\decide ((10:Int)<a.n)=decide ((10:Int)<a.n)/\false=false/\true=true/\false=false/\a.n=a.n/\(0=0/\a.dl=a.dl/\a.dc=a.dc)/\(dN a<=a_13.fst/\RowsEq (dN a) 1 (encRows encT (ksB a a_13.fst)) (encRows encT (ksB a (dN a))))/\(a.n.toNat<=a.n.toNat/\RowsEq a.n.toNat 1 (fun (j x:Nat)=>Value.bool (decide (j∈ksN a a_13.fst))) fun (j x:Nat)=>Value.bool (decide (j∈ksN a (dN a))))/\a_10.p.H=a_10.p.H/\0=0/\0=0/\0=0/\storeQ a_10.s a_10.s a_10.p a_10.p ((a.dl<=a.dl/\RowsEq a.dl 1 a.kill a.kill)/\True/\True)))/\∀ a_13:Nat,True->∃ a_15:SKilA,0=0/\(0=0/\dN a=a_15.ks.length/\a_13=a_15.kc)/\0=0/\0=0/\0=0/\storeQ a_10.s a_15.s a_10.p a_15.p (a_10.p.H=a_15.p.H/\(a_15.ks.length<=dN a/\RowsEq a_15.ks.length 1 (encRows encT (ksB a (dN a))) (encRows encT a_15.ks))/\(StAt a_15.s a_15.p /\
 KillOk a_15)/\∀ b:StP,StAt (killS a_15.s a_15.ks) b/\StFr a_15.p.H (fpLog a_15.p.cy) (fpLog a_15.p.jy) b->∃ a_17:SncA,0=0/\(0:Int)=a_17.seq/\(10:Int)=a_17.n/\0=0/\markQ (killS a_15.s a_15.ks).ms a_17.ms b.jc a_17.cap ((a_17.ms.length<100000/\(∀ i:Nat,i<a_17.ms.length->(0:Int)<=(gl a_17.ms i).seq)/\InR .i64 a_17.seq/\InR .i64 a_17.n)/\∀ b_1:Nat,True->(((if allK a_15.ks=true then (0:Int) else (1:Int)) != (0:Int))=true->∃ b:Unit,false=true/\True/\True)/\(((if allK a_15.ks=true then (0:Int) else (1:Int)) != (0:Int))=false->(((if allK a_15.ks=true then seqOf (addsJ a_15.s.jr a_15.ks).ms else (0:Int)) != (↑(dN a):Int))=true->∃ b:Unit,false=true/\True/\True)/\(((if allK a_15.ks=true then seqOf (addsJ a_15.s.jr a_15.ks).ms else (0:Int)) != (↑(dN a):Int))=false->((!sncOk a_17)=true->∃ b:Unit,false=true/\True/\True)/\((!sncOk a_17)=false->(((↑(sncL a_17).length:Int) != (↑(dN a):Int))=true->∃ b:Unit,false=true/\True/\True)/\(((↑(sncL a_17).length:Int) != (↑(dN a):Int))=false->(∃ a_23:Nat,0=(↑a_23:Int)/\((↑(sncL a_17).length:Int) != (↑(dN a):Int))=((↑(sncL a_17).length:Int) != (↑(dN a):Int))/\sncOk a_17=sncOk a_17/\(0=0/\(sncL a_17).length=(sncL a_17).length/\b_1=b_1)/\((if allK a_15.ks=true then (0:Int) else (1:Int))=if allK a_15.ks=true then (0:Int) else (1:Int))/\((if allK a_15.ks=true then seqOf (addsJ a_15.s.jr a_15.ks).ms else (0:Int))=if allK a_15.ks=true then seqOf (addsJ a_15.s.jr a_15.ks).ms else (0:Int)) /\
 (↑(dN a):Int)=(↑(dN a):Int)/\(0=0/\dN a=dN a/\a_13=a_13)/\(0=0/\a.n.toNat=a.n.toNat/\a.n.toNat=a.n.toNat)/\decide ((↑a_10.i:Int)<a.n)=decide ((↑a_10.i:Int)<a.n)/\(↑a_10.i:Int)=(↑a_10.i:Int)/\false=false/\0=0/\decide ((10:Int)<a.n)=decide ((10:Int)<a.n)/\false=false/\true=true/\false=false/\a.n=a.n/\(0=0/\a.dl=a.dl/\a.dc=a.dc)/\((sncL a_17).length<=(sncL a_17).length/\RowsEq (sncL a_17).length 2 (encRows encMk (sncL a_17)) (encRows encMk (sncL a_17)))/\0=0/\0=0/\0=0/\storeQ (killS a_15.s a_15.ks) (killS a_15.s a_15.ks) b b (b.H=b.H/\(dN a<=dN a/\RowsEq (dN a) 1 (encRows encT (ksB a (dN a))) (encRows encT (ksB a (dN a))))/\(a.n.toNat<=a.n.toNat/\RowsEq a.n.toNat 1 (fun (j x:Nat)=>Value.bool (decide (j∈ksN a (dN a)))) fun (j x:Nat)=>Value.bool (decide (j∈ksN a (dN a))))/\(a.dl<=a.dl/\RowsEq a.dl 1 a.kill a.kill)/\a_23<=dN a/\True))/\∀ a_23:Nat,a_23<=dN a->(decide ((↑a_23:Int)<(↑(dN a):Int))=true->(0<=(↑a_23:Int)/\(↑a_23:Int)<(↑(sncL a_17).length:Int))/\0+(↑a_23:Int).toNat<(sncL a_17).length/\(0<=(↑a_23:Int)/\(↑a_23:Int)<(↑(dN a):Int))/\0+(↑a_23:Int).toNat<dN a/\((!decide ((gl (sncL a_17) (0+(↑a_23:Int).toNat)).key=gl (ksB a (dN a)) (0+(↑a_23:Int).toNat)))=true->∃ b:Unit,false=true/\True/\True)/\((!decide ((gl (sncL a_17) (0+(↑a_23:Int).toNat)).key=gl (ksB a (dN a)) (0+(↑a_23:Int).toNat)))=false ->
 (0<=(↑a_23:Int)/\(↑a_23:Int)<(↑(sncL a_17).length:Int))/\0+(↑a_23:Int).toNat<(sncL a_17).length/\(InR .i64 (gl (sncL a_17) (0+(↑a_23:Int).toNat)).seq->InR .i64 ((↑a_23:Int)+1)/\(((gl (sncL a_17) (0+(↑a_23:Int).toNat)).seq != (↑a_23:Int)+1)=true->∃ b:Unit,false=true/\True/\True)/\(((gl (sncL a_17) (0+(↑a_23:Int).toNat)).seq != (↑a_23:Int)+1)=false->InR .i64 ((↑a_23:Int)+1)/\∃ (a':Nat),(↑a_23:Int)+1=(↑a':Int)/\((↑(sncL a_17).length:Int) != (↑(dN a):Int))=((↑(sncL a_17).length:Int) != (↑(dN a):Int))/\sncOk a_17=sncOk a_17/\(0=0/\(sncL a_17).length=(sncL a_17).length/\b_1=b_1)/\((if allK a_15.ks=true then (0:Int) else (1:Int))=if allK a_15.ks=true then (0:Int) else (1:Int))/\((if allK a_15.ks=true then seqOf (addsJ a_15.s.jr a_15.ks).ms else (0:Int))=if allK a_15.ks=true then seqOf (addsJ a_15.s.jr a_15.ks).ms else (0:Int))/\(↑(dN a):Int)=(↑(dN a):Int)/\(0=0/\dN a=dN a/\a_13=a_13)/\(0=0/\a.n.toNat=a.n.toNat/\a.n.toNat=a.n.toNat)/\decide ((↑a_10.i:Int)<a.n)=decide ((↑a_10.i:Int)<a.n)/\(↑a_10.i:Int)=(↑a_10.i:Int)/\false=false/\0=0/\decide ((10:Int)<a.n)=decide ((10:Int)<a.n)/\false=false/\true=true/\false=false/\a.n=a.n/\(0=0/\a.dl=a.dl/\a.dc=a.dc)/\((sncL a_17).length<=(sncL a_17).length/\RowsEq (sncL a_17).length 2 (encRows encMk (sncL a_17)) (encRows encMk (sncL a_17)))/\0=0 /\
 0=0/\0=0/\storeQ (killS a_15.s a_15.ks) (killS a_15.s a_15.ks) b b (b.H=b.H/\(dN a<=dN a/\RowsEq (dN a) 1 (encRows encT (ksB a (dN a))) (encRows encT (ksB a (dN a))))/\(a.n.toNat<=a.n.toNat/\RowsEq a.n.toNat 1 (fun (j x:Nat)=>Value.bool (decide (j∈ksN a (dN a)))) fun (j x:Nat)=>Value.bool (decide (j∈ksN a (dN a))))/\(a.dl<=a.dl/\RowsEq a.dl 1 a.kill a.kill)/\a'<=dN a/\dN a - a'<dN a - a_23)))))/\(decide ((↑a_23:Int)<(↑(dN a):Int))=false->(∃ a_26:Nat,0=(↑a_26:Int)/\decide ((↑a_23:Int)<(↑(dN a):Int))=decide ((↑a_23:Int)<(↑(dN a):Int))/\(↑a_23:Int)=(↑a_23:Int)/\((↑(sncL a_17).length:Int) != (↑(dN a):Int))=((↑(sncL a_17).length:Int) != (↑(dN a):Int))/\sncOk a_17=sncOk a_17/\(0=0/\(sncL a_17).length=(sncL a_17).length/\b_1=b_1)/\((if allK a_15.ks=true then (0:Int) else (1:Int))=if allK a_15.ks=true then (0:Int) else (1:Int))/\((if allK a_15.ks=true then seqOf (addsJ a_15.s.jr a_15.ks).ms else (0:Int))=if allK a_15.ks=true then seqOf (addsJ a_15.s.jr a_15.ks).ms else (0:Int))/\(↑(dN a):Int)=(↑(dN a):Int)/\(0=0/\dN a=dN a/\a_13=a_13)/\(0=0/\a.n.toNat=a.n.toNat/\a.n.toNat=a.n.toNat)/\decide ((↑a_10.i:Int)<a.n)=decide ((↑a_10.i:Int)<a.n)/\(↑a_10.i:Int)=(↑a_10.i:Int)/\false=false/\0=0/\decide ((10:Int)<a.n)=decide ((10:Int)<a.n)/\false=false/\true=true/\false=false/\a.n=a.n/\(0=0/\a.dl=a.dl /\
 a.dc=a.dc)/\((sncL a_17).length<=(sncL a_17).length/\RowsEq (sncL a_17).length 2 (encRows encMk (sncL a_17)) (encRows encMk (sncL a_17)))/\0=0/\0=0/\0=0/\storeQ (killS a_15.s a_15.ks) (killS a_15.s a_15.ks) b b (b.H=b.H/\(dN a<=dN a/\RowsEq (dN a) 1 (encRows encT (ksB a (dN a))) (encRows encT (ksB a (dN a))))/\(a.n.toNat<=a.n.toNat/\RowsEq a.n.toNat 1 (fun (j x:Nat)=>Value.bool (decide (j∈ksN a (dN a)))) fun (j x:Nat)=>Value.bool (decide (j∈ksN a (dN a))))/\(a.dl<=a.dl/\RowsEq a.dl 1 a.kill a.kill)/\a_26<=a.n.toNat/\True))/\∀ a_26:Nat,a_26<=a.n.toNat->(decide ((↑a_26:Int)<a.n)=true->(∃ a_29:Nat,(↑a_26:Int)=(↑a_29:Int)/\a_29<20/\∀ b_2:Unit,True->(∃ a_31:FGetA,0=0/\nameK a_29=a_31.key/\(0:Int)=a_31.now/\0=0/\0=0/\0=0/\logQ (killS a_15.s a_15.ks).cL a_31.m.L b.cy.lv a_31.p.y.lv (devQ (killS a_15.s a_15.ks).d a_31.m.d (idxQ b.x a_31.p.x b.xc a_31.p.cap (b.H=a_31.p.H/\(FlAt a_31.m a_31.p/\FlRd a_31.m/\EntIs a_31.m a_31.key a_31.r/\a_31.key.size<=lenMax)/\∀ b_3:Unit,True->(0<=(↑a_26:Int)/\(↑a_26:Int)<(↑a.n.toNat:Int))/\0+(↑a_26:Int).toNat<a.n.toNat/\(((getR a_31.r a_31.now).isSome == decide (0+(↑a_26:Int).toNat∈ksN a (dN a)))=true->∃ b:Unit,false=true/\True/\True)/\(((getR a_31.r a_31.now).isSome == decide (0+(↑a_26:Int).toNat∈ksN a (dN a)))=false->InR .i64 ((↑a_26:Int)+1)/\∃ (a':Nat),(↑a_26:Int)+1=(↑a':Int)/\decide ((↑a_23:Int)<(↑(dN a):Int))=decide ((↑a_23:Int)<(↑(dN a):Int)) /\
 (↑a_23:Int)=(↑a_23:Int)/\((↑(sncL a_17).length:Int) != (↑(dN a):Int))=((↑(sncL a_17).length:Int) != (↑(dN a):Int))/\sncOk a_17=sncOk a_17/\(0=0/\(sncL a_17).length=(sncL a_17).length/\b_1=b_1)/\((if allK a_15.ks=true then (0:Int) else (1:Int))=if allK a_15.ks=true then (0:Int) else (1:Int))/\((if allK a_15.ks=true then seqOf (addsJ a_15.s.jr a_15.ks).ms else (0:Int))=if allK a_15.ks=true then seqOf (addsJ a_15.s.jr a_15.ks).ms else (0:Int))/\(↑(dN a):Int)=(↑(dN a):Int)/\(0=0/\dN a=dN a/\a_13=a_13)/\(0=0/\a.n.toNat=a.n.toNat/\a.n.toNat=a.n.toNat)/\decide ((↑a_10.i:Int)<a.n)=decide ((↑a_10.i:Int)<a.n)/\(↑a_10.i:Int)=(↑a_10.i:Int)/\false=false/\0=0/\decide ((10:Int)<a.n)=decide ((10:Int)<a.n)/\false=false/\true=true/\false=false/\a.n=a.n/\(0=0/\a.dl=a.dl/\a.dc=a.dc)/\((sncL a_17).length<=(sncL a_17).length/\RowsEq (sncL a_17).length 2 (encRows encMk (sncL a_17)) (encRows encMk (sncL a_17)))/\0=0/\0=0/\0=0/\storeQ (killS a_15.s a_15.ks) (killS a_15.s a_15.ks) b b (b.H=b.H/\(dN a<=dN a/\RowsEq (dN a) 1 (encRows encT (ksB a (dN a))) (encRows encT (ksB a (dN a))))/\(a.n.toNat<=a.n.toNat/\RowsEq a.n.toNat 1 (fun (j x:Nat)=>Value.bool (decide (j∈ksN a (dN a)))) fun (j x:Nat)=>Value.bool (decide (j∈ksN a (dN a))))/\(a.dl<=a.dl/\RowsEq a.dl 1 a.kill a.kill)/\a'<=a.n.toNat/\a.n.toNat - a'<a.n.toNat - a_26))))))/\∃ a_31:FGetA,0=0 /\
 nameK a_29=a_31.key/\(0:Int)=a_31.now/\0=0/\0=0/\0=0/\logQ (killS a_15.s a_15.ks).cL a_31.m.L b.cy.lv a_31.p.y.lv (devQ (killS a_15.s a_15.ks).d a_31.m.d (idxQ b.x a_31.p.x b.xc a_31.p.cap (b.H=a_31.p.H/\(FlAt a_31.m a_31.p/\FlRd a_31.m/\EntIs a_31.m a_31.key a_31.r/\a_31.key.size<=lenMax)/\∀ b_3:Unit,True->(0<=(↑a_26:Int)/\(↑a_26:Int)<(↑a.n.toNat:Int))/\0+(↑a_26:Int).toNat<a.n.toNat/\(((getR a_31.r a_31.now).isSome == decide (0+(↑a_26:Int).toNat∈ksN a (dN a)))=true->∃ b:Unit,false=true/\True/\True)/\(((getR a_31.r a_31.now).isSome == decide (0+(↑a_26:Int).toNat∈ksN a (dN a)))=false->InR .i64 ((↑a_26:Int)+1)/\∃ (a':Nat),(↑a_26:Int)+1=(↑a':Int)/\decide ((↑a_23:Int)<(↑(dN a):Int))=decide ((↑a_23:Int)<(↑(dN a):Int))/\(↑a_23:Int)=(↑a_23:Int)/\((↑(sncL a_17).length:Int) != (↑(dN a):Int))=((↑(sncL a_17).length:Int) != (↑(dN a):Int))/\sncOk a_17=sncOk a_17/\(0=0/\(sncL a_17).length=(sncL a_17).length/\b_1=b_1)/\((if allK a_15.ks=true then (0:Int) else (1:Int))=if allK a_15.ks=true then (0:Int) else (1:Int))/\((if allK a_15.ks=true then seqOf (addsJ a_15.s.jr a_15.ks).ms else (0:Int))=if allK a_15.ks=true then seqOf (addsJ a_15.s.jr a_15.ks).ms else (0:Int))/\(↑(dN a):Int)=(↑(dN a):Int)/\(0=0/\dN a=dN a/\a_13=a_13)/\(0=0/\a.n.toNat=a.n.toNat/\a.n.toNat=a.n.toNat)/\decide ((↑a_10.i:Int)<a.n)=decide ((↑a_10.i:Int)<a.n) /\
 (↑a_10.i:Int)=(↑a_10.i:Int)/\false=false/\0=0/\decide ((10:Int)<a.n)=decide ((10:Int)<a.n)/\false=false/\true=true/\false=false/\a.n=a.n/\(0=0/\a.dl=a.dl/\a.dc=a.dc)/\((sncL a_17).length<=(sncL a_17).length/\RowsEq (sncL a_17).length 2 (encRows encMk (sncL a_17)) (encRows encMk (sncL a_17)))/\0=0/\0=0/\0=0/\storeQ (killS a_15.s a_15.ks) (killS a_15.s a_15.ks) b b (b.H=b.H/\(dN a<=dN a/\RowsEq (dN a) 1 (encRows encT (ksB a (dN a))) (encRows encT (ksB a (dN a))))/\(a.n.toNat<=a.n.toNat/\RowsEq a.n.toNat 1 (fun (j x:Nat)=>Value.bool (decide (j∈ksN a (dN a)))) fun (j x:Nat)=>Value.bool (decide (j∈ksN a (dN a))))/\(a.dl<=a.dl/\RowsEq a.dl 1 a.kill a.kill)/\a'<=a.n.toNat/\a.n.toNat - a'<a.n.toNat - a_26))))))/\∃ a_29:Nat,(↑a_26:Int)=(↑a_29:Int)/\a_29<20/\∀ b_2:Unit,True->∃ a_31:FGetA,0=0/\nameK a_29=a_31.key/\(0:Int)=a_31.now/\0=0/\0=0/\0=0/\logQ (killS a_15.s a_15.ks).cL a_31.m.L b.cy.lv a_31.p.y.lv (devQ (killS a_15.s a_15.ks).d a_31.m.d (idxQ b.x a_31.p.x b.xc a_31.p.cap (b.H=a_31.p.H/\(FlAt a_31.m a_31.p/\FlRd a_31.m/\EntIs a_31.m a_31.key a_31.r/\a_31.key.size<=lenMax)/\∀ b_3:Unit,True->(0<=(↑a_26:Int)/\(↑a_26:Int)<(↑a.n.toNat:Int))/\0+(↑a_26:Int).toNat<a.n.toNat/\(((getR a_31.r a_31.now).isSome == decide (0+(↑a_26:Int).toNat∈ksN a (dN a)))=true->∃ b:Unit,false=true/\True/\True)/\(((getR a_31.r a_31.now).isSome == decide (0+(↑a_26:Int).toNat∈ksN a (dN a)))=false ->
 InR .i64 ((↑a_26:Int)+1)/\∃ (a':Nat),(↑a_26:Int)+1=(↑a':Int)/\decide ((↑a_23:Int)<(↑(dN a):Int))=decide ((↑a_23:Int)<(↑(dN a):Int))/\(↑a_23:Int)=(↑a_23:Int)/\((↑(sncL a_17).length:Int) != (↑(dN a):Int))=((↑(sncL a_17).length:Int) != (↑(dN a):Int))/\sncOk a_17=sncOk a_17/\(0=0/\(sncL a_17).length=(sncL a_17).length/\b_1=b_1)/\((if allK a_15.ks=true then (0:Int) else (1:Int))=if allK a_15.ks=true then (0:Int) else (1:Int))/\((if allK a_15.ks=true then seqOf (addsJ a_15.s.jr a_15.ks).ms else (0:Int))=if allK a_15.ks=true then seqOf (addsJ a_15.s.jr a_15.ks).ms else (0:Int))/\(↑(dN a):Int)=(↑(dN a):Int)/\(0=0/\dN a=dN a/\a_13=a_13)/\(0=0/\a.n.toNat=a.n.toNat/\a.n.toNat=a.n.toNat)/\decide ((↑a_10.i:Int)<a.n)=decide ((↑a_10.i:Int)<a.n)/\(↑a_10.i:Int)=(↑a_10.i:Int)/\false=false/\0=0/\decide ((10:Int)<a.n)=decide ((10:Int)<a.n)/\false=false/\true=true/\false=false/\a.n=a.n/\(0=0/\a.dl=a.dl/\a.dc=a.dc)/\((sncL a_17).length<=(sncL a_17).length/\RowsEq (sncL a_17).length 2 (encRows encMk (sncL a_17)) (encRows encMk (sncL a_17)))/\0=0/\0=0/\0=0/\storeQ (killS a_15.s a_15.ks) (killS a_15.s a_15.ks) b b (b.H=b.H/\(dN a<=dN a/\RowsEq (dN a) 1 (encRows encT (ksB a (dN a))) (encRows encT (ksB a (dN a))))/\(a.n.toNat<=a.n.toNat/\RowsEq a.n.toNat 1 (fun (j x:Nat)=>Value.bool (decide (j∈ksN a (dN a)))) fun (j x:Nat)=>Value.bool (decide (j∈ksN a (dN a)))) /\
 (a.dl<=a.dl/\RowsEq a.dl 1 a.kill a.kill)/\a'<=a.n.toNat/\a.n.toNat - a'<a.n.toNat - a_26))))))/\(decide ((↑a_26:Int)<a.n)=false->∃ b:Unit,true=true/\True/\True))))))))))))) (by kernel_rfl) (by
 rintro a ⟨g1,g4,g5,g7⟩;refine ⟨(),trivial,fun _ _=>⟨fun _=>⟨(),rfl,trivial,trivial⟩,fun c1=>⟨fun _=>⟨(),rfl,trivial,trivial⟩,fun c2=>?_⟩⟩⟩;have c1:=of_decide_eq_false c1;have c2:=of_decide_eq_false c2;have hn1:1<=a.n:=by omega
 have hn10:a.n<=10:=by omega
 obtain ⟨m1,m2,m3,m4,m5,m6,m7⟩:=make_ok (d:=devNew 400) (c:=0) (by decide) (Nat.le_refl 0) (by omega) (fun _=>none);refine ⟨400,rfl,trivial,fun _ _=>⟨SMakA.mk (devNew 400) (fun _=>none),?_⟩⟩;obtain ⟨S0,hS0⟩:∃ s,s=partM (makA ⟨devNew 400,fun _=>none⟩):=⟨_,rfl⟩
 rw [<- hS0] at m2 m3 m4 m5 m6 m7;rw [<- hS0]
 (repeat' apply And.intro)<;>first|with_reducible (first|rfl|trivial|assumption)|exact m1.1|exact m1.2.1|exact m1.2.2.1|exact m1.2.2.2|(intro h_;revert h_)|omega|with_reducible exact RowsEq.refl _ _ _|rfl|exact RowsEq.refl _ _ _|exact Nat.le_refl _|(dsimp only;omega)|skip
 rintro p0 ⟨hat0,_⟩;refine ⟨⟨⟨0,S0,p0⟩,?_⟩,fun x hx=>?_⟩
 ·have hI:KlsI ⟨0,S0,p0⟩:=⟨hat0,m2,m4,m7⟩
  (repeat' apply And.intro)<;>first|with_reducible (first|rfl|trivial|assumption)|exact hI|exact Nat.zero_le _|(intro h_;revert h_)|omega|with_reducible exact RowsEq.refl _ _ _|rfl|exact RowsEq.refl _ _ _|exact Nat.le_refl _|(dsimp only;omega)|skip
 obtain ⟨i,s,p⟩:=x;obtain ⟨hi,hI⟩:=hx;obtain ⟨hat,hone,hms,hdn⟩:=hI;dsimp only at hi hat hone hms hdn ⊢;refine ⟨fun c4=>?_,fun c4=>?_⟩
 ·have c4:=of_decide_eq_true c4;have hp:putOk (itS i)=true:=rfl;have hl1:8+(bodyOf (some (itS i))).length<=16:=by
   rw [body_small (show (nameK i).size<64 by show 2<64;omega) (show vS.size<64 by decide) rfl];show 8+(2+1+5)<=16;omega
  obtain ⟨o1,ok1⟩:=hone.put hp hl1 (by omega) (by omega);have f0:=hat.fl;refine ⟨i,rfl,by omega,fun _ _=>⟨FPutA.mk s.fl p.fl (itS i),?_⟩⟩
  (repeat' apply And.intro)<;>first|with_reducible (first|rfl|trivial|assumption)|exact f0|exact fun _=>ok1|(intro h_;revert h_)|omega|with_reducible exact RowsEq.refl _ _ _|rfl|exact RowsEq.refl _ _ _|exact Nat.le_refl _|(dsimp only;omega)|skip
  rintro q1 ⟨hf1,hfr1⟩;have hat1:StAt (putS s (itS i)) _:=hat.cache hf1 hfr1;refine ⟨by simp only [InR];omega,⟨i+1,putS s (itS i),⟨q1.H,q1.y,q1.x,q1.cap,p.jy,p.jc,p.kc⟩⟩,?_⟩;have hI:KlsI ⟨i+1,putS s (itS i),⟨q1.H,q1.y,q1.x,q1.cap,p.jy,p.jc,p.kc⟩⟩:=⟨hat1,by
   have e1:500+20*(i+1)=500+20*i+20:=by omega
   have e2:16*(i+1)=16*i+16:=by omega
   show StOne _ (500+20*(i+1)) (esP (i+1)) (16*(i+1)) 0;rw [e1,e2,esP_succ];exact o1,hms,by
   show (putF s.fl (itS i)).d.n=400;rw [putF_n];exact hdn⟩
  have hi1:i+1<=a.n.toNat:=by omega
  (repeat' apply And.intro)<;>first|with_reducible (first|rfl|trivial|assumption)|exact hI|exact hi1|(intro h_;revert h_)|omega|with_reducible exact RowsEq.refl _ _ _|rfl|exact RowsEq.refl _ _ _|exact Nat.le_refl _|(dsimp only;omega)|skip
 have hin:i=a.n.toNat:=by have:=of_decide_eq_false c4;omega
 have hr0:RowsEq a.n.toNat 1 (fun (x j:Nat)=>[Value.bool false].getD j (Value.tuple #[])) fun (j x:Nat)=>Value.bool (decide (j∈ksN a 0)):=⟨fun i hi j hj=>by
  obtain rfl:j=0:=by omega
  rfl⟩
 have hdN:dN a<=5/\dN a<=a.dl:=by unfold dN;omega
 refine ⟨by omega,by omega,by omega,⟨⟨(0,0),?_⟩,fun x hx=>?_⟩,fun c _=>?_⟩
 ·(repeat' apply And.intro)<;>first|with_reducible (first|rfl|trivial|assumption)|exact hr0|exact Nat.zero_le _|(intro h_;revert h_)|omega|with_reducible exact RowsEq.refl _ _ _|rfl|exact RowsEq.refl _ _ _|exact Nat.le_refl _|(dsimp only;omega)|skip
 ·obtain ⟨k,cap⟩:=x;have hk:k<=dN a:=hx;dsimp only;rw [show 0+(k:Int).toNat=k by omega];refine ⟨fun d1=>⟨fun d2=>?_,fun d2=>⟨cap,?_⟩⟩,fun d1=>⟨cap,?_⟩⟩
  ·have d1:=of_decide_eq_true d1;have d2:=of_decide_eq_true d2;have hkl:k<a.dl:=by omega
   obtain ⟨k1,k2,k3⟩:=kOf_ok hn1 hn10 (toI (a.kill k 0));have hnn:a.n≠0:=by omega
   obtain ⟨kk,hkk⟩:∃ kk,kk=kOf a.n (toI (a.kill k 0)):=⟨_,rfl⟩
   rw [<- hkk] at k1 k2;rw [k1,show 0+(kk:Int).toNat=kk by omega];refine ⟨⟨by omega,by omega⟩,hkl,fun _=>⟨hnn,k3,hnn,kk,rfl,by omega,fun _ _=>⟨by omega,by omega,by omega,fun cap2 q1 q2 q3=>⟨⟨by omega,by omega⟩,k2,by simp only [InR];omega,(k+1,cap2),?_⟩⟩⟩⟩;have hr1:RowsEq (k+1) 1 (appRows (encRows encT (ksB a k)) 0 k fun (i j:Nat)=>flatRows 1 [Value.string (nameK kk)] (0+i) j) (encRows encT (ksB a (k+1))):=by
    rw [ksB_succ,<- hkk];exact rows_T (ksB_len a k).symm
   have hr2:RowsEq a.n.toNat 1 (updR (fun (j x:Nat)=>Value.bool (decide (j∈ksN a k))) kk 0 [Value.bool true]) fun (j x:Nat)=>Value.bool (decide (j∈ksN a (k+1))):=⟨fun i hi j hj=>by
    obtain rfl:j=0:=by omega
    rw [ksN_succ,<- hkk];by_cases e:i=kk
    ·subst e;rw [updR_self];have e2:decide (i∈ksN a k++[i])=true:=by simp
     rw [e2];rfl
    ·rw [updR_other e];simp [e]⟩
   have hk1:k+1<=dN a:=by unfold dN;omega
   have hk2:dN a - (k+1)<dN a - k:=by omega
   (repeat' apply And.intro)<;>first|with_reducible (first|rfl|trivial|assumption)|exact hr1|exact hr2|exact hk1|exact hk2|(intro h_;revert h_)|omega|with_reducible exact RowsEq.refl _ _ _|rfl|exact RowsEq.refl _ _ _|exact Nat.le_refl _|(dsimp only;omega)|skip
  ·have e:k=dN a:=by have:=of_decide_eq_true d1;have:=of_decide_eq_false d2;unfold dN at hk ⊢;omega
   rw [e]
   (repeat' apply And.intro)<;>first|with_reducible (first|rfl|trivial|assumption)|(intro h_;revert h_)|omega|with_reducible exact RowsEq.refl _ _ _|rfl|exact RowsEq.refl _ _ _|exact Nat.le_refl _|(dsimp only;omega)|skip
  ·have e:k=dN a:=by have:=of_decide_eq_false d1;unfold dN at hk ⊢;omega
   rw [e]
   (repeat' apply And.intro)<;>first|with_reducible (first|rfl|trivial|assumption)|(intro h_;revert h_)|omega|with_reducible exact RowsEq.refl _ _ _|rfl|exact RowsEq.refl _ _ _|exact Nat.le_refl _|(dsimp only;omega)|skip
 obtain ⟨ks,hks⟩:∃ ks,ks=ksB a (dN a):=⟨_,rfl⟩
 have hkl:ks.length=dN a:=by rw [hks];exact ksB_len _ _
 have hnm:∀ k∈ks,∃ q,q<20/\k=nameK q:=fun k hk=>by
  rw [hks] at hk;obtain ⟨q,hq,rfl⟩:=List.mem_map.1 hk;exact ⟨q,by have:=ksN_lt hn1 hn10 hq;omega,rfl⟩
 have hK:allK ks=true:=List.all_eq_true.2 fun k hk=>by
  obtain ⟨q,_,rfl⟩:=hnm k hk;rfl
 have hsz:∀ j,j<ks.length->(gl ks j).size=2:=fun j hj=>by
  obtain ⟨q,_,e⟩:=hnm (gl ks j) (by rw [gl_eq hj];exact List.getElem_mem _);rw [e];rfl
 have hm0:s.ms.length=0:=by rw [hms];rfl
 have hwj:∀ j,j<ks.length->8+(markB (s.ms.length+j+1) (gl ks j)).length<=11:=fun j hj=>by
  have hv:(vi (((0:Nat):Int)+(j:Int)+1)).length=1:=vi_one (by omega);rw [hm0];unfold markB;rw [List.length_append,hv,txB_len,hsz j hj];omega
 have hwc:∀ j,j<ks.length->8+(bodyOf (some (itemD (gl ks j)))).length<=15:=fun j hj=>by
  have h2:=hsz j hj;rw [body_small (show (itemD (gl ks j)).key.size<64 by show (gl ks j).size<64;omega) (show (itemD (gl ks j)).val.size<64 by show 0<64;omega) rfl];show 8+((gl ks j).size+0+5)<=15;omega
 obtain ⟨kok,kd⟩:=hone.kill hK hwj hwc (by omega) (by omega) (by omega) (by omega);obtain ⟨k1,k2,k3,k4,k5,k6,k7⟩:=kd;rw [hm0,hkl] at k2 k3;have hok:=kok p c;have hkl2:dN a=ks.length:=hkl.symm;rw [<- hks];refine ⟨SKilA.mk s p ks c,?_⟩;have hrk:RowsEq ks.length 1 (encRows encT ks) (encRows encT ks):=RowsEq.refl _ _ _
 (repeat' apply And.intro)<;>first|with_reducible (first|rfl|trivial|assumption)|exact hkl2|exact Nat.le_of_eq hkl|exact hrk|exact hat|exact hok|(intro h_;revert h_)|omega|with_reducible exact RowsEq.refl _ _ _|rfl|exact RowsEq.refl _ _ _|exact Nat.le_refl _|(dsimp only;omega)|skip
 rintro p2 ⟨hat2,_⟩;dsimp only at hat2 ⊢;obtain ⟨S2,hS2⟩:∃ s2,s2=killS s ks:=⟨_,rfl⟩
 rw [<- hS2] at hat2 k1 k2 k4;rw [<- hS2];have hml:S2.ms.length=dN a:=by rw [k2];omega
 have hsq:∀ j,j<S2.ms.length->(gl S2.ms j).seq=(j:Int)+1:=fun j hj=>(k1.ms j hj).1;have hs0:∀ j,j<S2.ms.length->0<=(gl S2.ms j).seq:=fun j hj=>by rw [hsq j hj];omega
 have hbase:baseOf S2.ms=0:=by
  unfold baseOf;split
  ·rfl
  ·rw [hsq 0 (by omega)];rfl
 have hseq:seqOf S2.ms=(dN a:Nat):=by rw [k1.seq,hml]
 have hOk:sncOk ⟨S2.ms,p2.jc,0,10⟩=true:=by
  unfold sncOk;dsimp only;rw [hbase,hseq,show decide ((0:Int)<0)=false from rfl,show decide (((dN a:Nat):Int)<0)=false from decide_eq_false (by omega)];rfl
 have hL:sncL ⟨S2.ms,p2.jc,0,10⟩=S2.ms:=by
  unfold sncL;rw [if_pos hOk];unfold sncTo;dsimp only;rw [List.take_length,List.filter_eq_self.2 fun x hx=>by
   obtain ⟨j,hj,rfl⟩:=List.getElem_of_mem hx;rw [<- gl_eq hj,hsq j hj];exact decide_eq_true (by omega),List.take_of_length_le (by rw [hml];show dN a<=10;omega)]
 have hl9:S2.ms.length<100000:=by omega
 have hr64:InR .i64 0:=by simp only [InR];omega
 have hr65:InR .i64 10:=by simp only [InR];omega
 refine ⟨SncA.mk S2.ms p2.jc 0 10,?_⟩
 (repeat' apply And.intro)<;>first|with_reducible (first|rfl|trivial|assumption)|exact hl9|exact hs0|exact hr64|exact hr65|(intro h_;revert h_)|omega|with_reducible exact RowsEq.refl _ _ _|rfl|exact RowsEq.refl _ _ _|exact Nat.le_refl _|(dsimp only;omega)|skip
 intro cs _;rw [hL,hOk,hK,hml,k3];have hdd:((((0:Nat):Int)+((dN a:Nat):Int)) != ((dN a:Nat):Int))=false:=by simp
 refine ⟨fun e=>absurd e (by decide),fun _=>⟨fun e=>by (exfalso;simp at e),fun _=>⟨fun e=>absurd e (by decide),fun _=>⟨fun e=>by (exfalso;simp at e),fun _=>⟨⟨0,?_⟩,fun j hj=>⟨fun d1=>?_,fun d1=>⟨⟨0,?_⟩,fun j4 hj4=>?_⟩⟩⟩⟩⟩⟩⟩
 ·(repeat' apply And.intro)<;>first|with_reducible (first|rfl|trivial|assumption)|exact Nat.zero_le _|(intro h_;revert h_)|omega|with_reducible exact RowsEq.refl _ _ _|rfl|exact RowsEq.refl _ _ _|exact Nat.le_refl _|(dsimp only;omega)|skip
 ·have hj:j<dN a:=by have:=of_decide_eq_true d1;omega
  have hkey:(gl S2.ms j).key=gl ks j:=by
   have:=k4 j (by omega);rwa [hm0,Nat.zero_add] at this
  rw [show 0+(j:Int).toNat=j by omega,hkey,hsq j (by omega)];have hj1:j+1<=dN a:=hj;have hj2:dN a - (j+1)<dN a - j:=by omega
  refine ⟨⟨by omega,by omega⟩,by omega,⟨by omega,by omega⟩,by omega,fun e=>by (exfalso;simp at e),fun _=>⟨⟨by omega,by omega⟩,by omega,fun _=>⟨by simp only [InR];omega,fun e=>by (exfalso;simp at e),fun _=>⟨by simp only [InR];omega,j+1,?_⟩⟩⟩⟩
  (repeat' apply And.intro)<;>first|with_reducible (first|rfl|trivial|assumption)|exact hj1|exact hj2|(intro h_;revert h_)|omega|with_reducible exact RowsEq.refl _ _ _|rfl|exact RowsEq.refl _ _ _|exact Nat.le_refl _|(dsimp only;omega)|skip
 ·(repeat' apply And.intro)<;>first|with_reducible (first|rfl|trivial|assumption)|exact Nat.zero_le _|(intro h_;revert h_)|omega|with_reducible exact RowsEq.refl _ _ _|rfl|exact RowsEq.refl _ _ _|exact Nat.le_refl _|(dsimp only;omega)|skip
 ·refine ⟨fun d2=>?_,fun _=>⟨(),rfl,trivial,trivial⟩⟩;have hj4':j4<a.n.toNat:=by have:=of_decide_eq_true d2;omega
  obtain ⟨e1,e2⟩:=k1.get (nameK j4);have hg:gE (esP i++ks.map fun q=>some (itemD q)) (nameK j4)=if decide (j4∈ksN a (dN a)) then none else some (itS j4):=by
   rw [gE_drops,hks,inK_ks hn1 hn10 hj4',gE_puts i (by omega) j4 (by omega),if_pos (show j4<i by omega)]
  rw [hg] at e2;obtain ⟨r,hr⟩:∃ r,r=if decide (j4∈ksN a (dN a)) then none else some (itS j4):=⟨_,rfl⟩
  have hgr:(getR r 0).isSome = !decide (j4∈ksN a (dN a)):=by
   rw [hr];cases decide (j4∈ksN a (dN a)) with
   | true=>rw [if_pos rfl];rfl
   | false=>rw [if_neg (by decide)];rfl
  rw [<- hr] at e2;have f2:=hat2.fl;have hks3:(nameK j4).size<=lenMax:=by show 2<=lenMax;decide
  have hj1:j4+1<=a.n.toNat:=hj4';have hj2:a.n.toNat - (j4+1)<a.n.toNat - j4:=by omega
  have hin2:InR .i64 ((j4:Int)+1):=by simp only [InR];omega
  have hnx:((!decide (j4∈ksN a (dN a))) == decide (j4∈ksN a (dN a)))=false:=by cases decide (j4∈ksN a (dN a))<;>rfl
  and_intros
  all_goals
   refine ⟨j4,rfl,by omega,fun _ _=>?_⟩
   and_intros
   all_goals
    refine ⟨FGetA.mk S2.fl p2.fl (nameK j4) 0 r,?_⟩
    (repeat' apply And.intro)<;>first|with_reducible (first|rfl|trivial|assumption)|exact f2|exact e1|exact e2|exact hks3|(intro h_;revert h_)|omega|with_reducible exact RowsEq.refl _ _ _|rfl|exact RowsEq.refl _ _ _|exact Nat.le_refl _|(dsimp only;omega)|skip
    intro _ _;dsimp only;rw [hgr,show 0+(j4:Int).toNat=j4 by omega,hnx];refine ⟨⟨by omega,by omega⟩,by omega,fun c=>by (exfalso;exact absurd c (by decide)),fun _=>⟨hin2,j4+1,?_⟩⟩
    (repeat' apply And.intro)<;>first|with_reducible (first|rfl|trivial|assumption)|exact hj1|exact hj2|(intro h_;revert h_)|omega|with_reducible exact RowsEq.refl _ _ _|rfl|exact RowsEq.refl _ _ _|exact Nat.le_refl _|(dsimp only;omega)|skip)
theorem instKls:∀ ads,okADs [.int .i64,.slc 3 [.int .i64]] ads->∃ a:KlsA,cKls.pre a/\cKls.args a=svs 0 ads/\cKls.ro a=chs 0 [.int .i64,.slc 3 [.int .i64]] ads/\cKls.m=slcs ads:=by
 rintro ads ⟨d2,r2,rfl,⟨i,rfl,hi⟩,d3,r3,rfl,⟨n3,cap3,rows3,rfl,h4,h5,h6⟩,rfl⟩;refine ⟨⟨i,n3,cap3,rows3⟩,⟨hi,h4,h5,fun i hi=>?_⟩,rfl,rfl,rfl⟩;obtain ⟨x,e⟩:=h6 i hi 0 _ rfl;show rows3 i 0 = .int .i64 (toI (rows3 i 0))/\InR .i64 (toI (rows3 i 0));rw [e.1];exact ⟨rfl,e.2⟩
end Go.Proofs.YtfhkbihcfmbbcaaGreat
