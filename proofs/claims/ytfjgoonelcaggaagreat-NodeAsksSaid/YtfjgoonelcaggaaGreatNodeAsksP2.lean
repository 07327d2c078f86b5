/-
  
-/
import Derived.Test.YtfjgoonelcaggaaGreatNodeAsksP1
import Derived.MapKept
import Derived.Laws.IdiomRangeMap
import Derived.Deep.Quiet
import Derived.Test.YtfjgoonelcaggaaGreatProg
set_option maxRecDepth 100000
set_option maxHeartbeats 4000000
set_option linter.unusedVariables false
set_option linter.unusedSimpArgs false
namespace Go.Sx
section
def aam(b:Nat)(o:Obj):Place->World->Prop:=fun p w=>(∀x,p.fp x↔x=b)/\w.heap[b]? = some o
def abo(o:Obj):Place->World->Prop:=fun p w=>(∀x,p.fp x↔x=p.blk)/\p.off=0/\w.heap[p.blk]? = some o
structure gz where
 key:Int
 val:Value
 born:Nat
 deriving Inhabited
def gz.enc(k:IntKind)(e:gz):MapEntry:=⟨.int k e.key,e.val,e.born⟩
def lV(k:IntKind)(l:List gz):Array MapEntry:=(l.map (gz.enc k)).toArray
def mS(b:Nat)(k:IntKind)(l:List gz)(dU:Nat):Place->World->Prop:=aam b (.map (lV k l) dU)
def ni(b:Nat)(seen:List Nat)(dU:Nat):Place->World->Prop:=abo (.mapIter (some b) dU seen.toArray dU)
def getM(l:List gz)(n:Int):Option Value:=(l.find? fun e=>e.key == n).map (·.val)
def C6(n:Int)(u:Value)(dU:Nat):List gz->List gz
 |[]=>[⟨n,u,dU⟩]
 |e::r=>if e.key=n then { e with val:=u }::r else e::C6 n u dU r
def C7(l:List gz)(n:Int):Bool:=l.any fun e=>e.key == n
def C8(n:Int):List gz->List gz
 |[]=>[]
 |e::r=>if e.key=n then r else e::C8 n r
structure Zr(k:IntKind)(l:List gz)(dU:Nat):Prop where
 val:∀e∈l,e.val.oneCell'=true/\e.born<dU/\bR k e.key
 nodup:(l.map (·.born)).Nodup
def vc(n:Int):List gz->Nat->Option (Nat×Value)
 |[],_=>none
 |e::r,i=>if e.key=n then some (i,e.val)else vc n r (i+1)
theorem rL(kd:IntKind)(n:Int):∀(l:List gz) (i:Nat),Instr.findNow (.int kd) (.int kd n) (l.map (gz.enc kd)) i=some (vc n l i)
 |[],_=>rfl
 |e::r,i=>by
  simp only[List.map_cons,Instr.findNow,gz.enc,Instr.sameNow,if_true,vc];by_cases h:e.key=n
  ·rw[if_pos h];simp[h]
  ·have:(n == e.key)=false:=by simp;exact fun e2=>h e2.symm
   rw[if_neg h,this];exact rL kd n r (i+1)
theorem KG(n:Int):∀(l:List gz) (i:Nat),(vc n l i).map Prod.snd=getM l n
 |[],_=>rfl
 |e::r,i=>by
  unfold vc getM;by_cases h:e.key=n
  ·rw[if_pos h,List.find?_cons,show(e.key == n)=true by simp[h]];rfl
  ·rw[if_neg h,List.find?_cons,show(e.key == n)=false by simp[h]];exact KG n r (i+1)
theorem KH(n:Int):∀(l:List gz) (i:Nat),(vc n l i).isSome=C7 l n
 |[],_=>rfl
 |e::r,i=>by
  unfold vc C7;by_cases h:e.key=n
  ·rw[if_pos h,List.any_cons,show(e.key == n)=true by simp[h]];rfl
  ·rw[if_neg h,List.any_cons,show(e.key == n)=false by simp[h],Bool.false_or];exact KH n r (i+1)
theorem C9(n:Int)(u:Value)(dU:Nat):∀(l:List gz) (i q:Nat) (v:Value),vc n l i=some (q,v)->∃j,q=i+j/\j<l.length/\C6 n u dU l=l.modify j (fun e=>{ e with val:=u })/\C8 n l=l.eraseIdx j/\∃e,l[j]? = some e/\e.key=n
 |[],_,_,_,h=>by simp[vc]at h
 |e::r,i,q,v,h=>by
  unfold vc at h;unfold C6 C8;by_cases hk:e.key=n
  ·rw[if_pos hk]at h;obtain⟨rfl,rfl⟩:=Prod.mk.inj (Option.some.inj h);exact⟨0,rfl,by simp,by rw[if_pos hk];rfl,by rw[if_pos hk];rfl,e,rfl,hk⟩
  ·rw[if_neg hk]at h;obtain⟨j,a1,a2,a3,a4,e',a5,a6⟩:=C9 n u dU r (i+1) q v h;exact⟨j+1,by omega,by simp;omega,by rw[if_neg hk,a3];rfl,by rw[if_neg hk,a4];rfl,e',by simpa using a5,a6⟩
theorem Ht(n:Int)(u:Value)(dU:Nat):∀(l:List gz) (i:Nat),vc n l i=none->C6 n u dU l=l++[⟨n,u,dU⟩]/\C8 n l=l
 |[],_,_=>⟨rfl,rfl⟩
 |e::r,i,h=>by
  unfold vc at h;unfold C6 C8;by_cases hk:e.key=n
  ·rw[if_pos hk]at h;cases h
  ·rw[if_neg hk]at h;obtain⟨a1,a2⟩:=Ht n u dU r (i+1) h;exact⟨by rw[if_neg hk,a1];rfl,by rw[if_neg hk,a2]⟩
open Go.MapKept (IsKey run_checkKey run_findKey)
def Fq(o:Option Value):Value:=o.getD (.pointer none)
variable {P:Program}
theorem wZ(kd:IntKind)(n:Int):IsKey (.int kd) (.int kd n):=by simp[IsKey]
theorem Tj{t kt et:TypeId}{kd:IntKind}{n:Int}{w:World}{b dU:Nat}{l:List gz}(h:P.underlying t=some (.map kt et))(hk:P.underlying kt=some (.int kd))(hb:w.heap[b]? = some (.map (lV kd l) dU))
 (hz:∀w,(zeroValue et).run P w = .ok (.pointer none) w):(Instr.lookup t (.map (some b)) (.int kd n) false).run P w = .ok (Fq (getM l n)) w:=by
 have e:=rL kd n l 0;have e2:=KG n l 0;have e1:(Instr.findKey kt (.int kd n) (lV kd l).toList).run P w = .ok (vc n l 0) w:=run_findKey hk e;simp only[Instr.lookup,Sem.run_bind,run_underlying h,Result.andThen,Go.MapKept.run_getObj_map hb,run_checkKey hk (wZ kd n),Sem.run_pure];rw[e1,<- e2];cases vc n l 0 with
 |none=>simp[Fq,hz]
 |some q=>simp[Fq]
theorem Hu{t kt et:TypeId}{kd:IntKind}{n:Int}{w:World}(h:P.underlying t=some (.map kt et))(hk:P.underlying kt=some (.int kd))
 (hz:∀w,(zeroValue et).run P w = .ok (.pointer none) w):(Instr.lookup t (.map none) (.int kd n) false).run P w = .ok (.pointer none) w:=by
 have e1:(Instr.findKey kt (.int kd n) []).run P w = .ok none w:=run_findKey hk rfl;simp[Instr.lookup,run_underlying h,run_checkKey hk (wZ kd n),e1,hz]
theorem QI(k:IntKind)(l:List gz):(lV k l).size=l.length:=by simp[lV]
theorem QJ{t kt et:TypeId}{kd:IntKind}{n:Int}{u:Value}{w:World}{b dU:Nat}{l:List gz}(h:P.underlying t=some (.map kt et))(hk:P.underlying kt=some (.int kd))(hb:w.heap[b]? = some (.map (lV kd l) dU)) :
 (Instr.mapUpdate t (.map (some b)) (.int kd n) u).run P w = .ok () { w with heap:=w.heap.setIfInBounds b (.map (lV kd (C6 n u dU l)) (if C7 l n then dU else dU+1)) }:=by
 have e:=rL kd n l 0;have e1:(Instr.findKey kt (.int kd n) (lV kd l).toList).run P w = .ok (vc n l 0) w:=run_findKey hk e;have e2:=KH n l 0;simp only[Instr.mapUpdate,Sem.run_bind,run_underlying h,Result.andThen,Go.MapKept.run_getObj_map hb,run_checkKey hk (wZ kd n)];rw[e1,<- e2];cases hp:vc n l 0 with
 |none =>
  obtain⟨a1,_⟩:=Ht n u dU l 0 hp;simp only[Option.isSome_none,Bool.false_eq_true,if_false];rw[Go.MapKept.run_setObj_map _ hb,a1];congr 4;simp[lV,gz.enc]
 |some q =>
  obtain⟨i,v⟩:=q;obtain⟨j,a1,a2,a3,_,e',a5,a6⟩:=C9 n u dU l 0 i v hp;have a1:i=j:=by omega
  subst a1;simp only[Option.isSome_some,if_true];have hkey:(((lV kd l)[i]?).map (·.key)).getD (.int kd n) = .int kd n:=by
   simp[lV,a5,gz.enc,a6]
  rw[hkey];have hst:(Instr.keyThatStays (.int kd n) (.int kd n)).run P w = .ok (.int kd n) w:=by
   have hs:Instr.sameBits 10000 (.int kd n) (.int kd n)=true:=by simp[Instr.sameBits]
   simp[Instr.keyThatStays,hs]
  simp only[Sem.run_bind,hst,Result.andThen];rw[Go.MapKept.run_setObj_map _ hb,a3];congr 4;refine Array.ext_getElem? fun q=>?_;simp only[lV,Array.getElem?_modify,List.getElem?_toArray,List.getElem?_map,List.getElem?_modify];by_cases hq:i=q
  ·subst hq;simp only[if_true,a5,Option.map_some,gz.enc,a6];show _=some _;rw[<- a6];rfl
  ·simp only[if_neg hq];cases l[q]?<;>rfl
theorem xL{α β:Type}(f:α->β):∀(l:List α) (i:Nat),(l.map f).eraseIdx i=(l.eraseIdx i).map f
 |[],_=>rfl
 |_::_,0=>rfl
 |a::r,i+1=>by simp[List.eraseIdx_cons_succ,xL f r i]
theorem MA{t kt et:TypeId}{rt:TypeId}{kd:IntKind}{n:Int}{w:World}{b dU:Nat}{l:List gz}{kt2:TypeId}(h:P.underlying t=some (.map kt et))(hk:P.underlying kt=some (.int kd))(hb:w.heap[b]? = some (.map (lV kd l) dU)) :
 (Builtin.delete_ #[t,kt2] rt #[.map (some b),.int kd n]).run P w = .ok (.tuple #[]) { w with heap:=w.heap.setIfInBounds b (.map (lV kd (C8 n l)) dU) }:=by
 have e:=rL kd n l 0;have e1:(Instr.findKey kt (.int kd n) (lV kd l).toList).run P w = .ok (vc n l 0) w:=run_findKey hk e;simp only[Builtin.delete_,Sem.run_bind,run_underlying h,Result.andThen,Go.MapKept.run_getObj_map hb,run_checkKey hk (wZ kd n),List.getElem?_toArray,List.getElem?_cons_zero,List.getElem?_cons_succ];rw[e1];cases hp:vc n l 0 with
 |none =>
  obtain⟨_,a1⟩:=Ht n (.pointer none) dU l 0 hp;simp only[Sem.run_bind,Go.MapKept.run_setObj_map _ hb,Result.andThen,Sem.run_pure,a1]
 |some q =>
  obtain⟨i,v⟩:=q;obtain⟨j,a1,a2,_,a3,_⟩:=C9 n (.pointer none) dU l 0 i v hp;have a1:i=j:=by omega
  subst a1;have e3:(lV kd l).eraseIdxIfInBounds i=lV kd (l.eraseIdx i):=by
   unfold Array.eraseIdxIfInBounds;rw[dif_pos (by rw[QI];exact a2)];apply Array.toList_inj.1;simp[lV,xL]
  simp only[Sem.run_bind,Go.MapKept.run_setObj_map _ hb,Result.andThen,Sem.run_pure,a3,e3]
theorem run_next_end{ty:TypeId}{w:World}{b r dU:Nat}{kd:IntKind}{l:List gz}{seen:List Nat}(hb:w.heap[b]? = some (.map (lV kd l) dU))(hr:w.heap[r]? = some (.mapIter (some b) dU seen.toArray dU))(ho:Zr kd l dU) :
 ((∀e∈l,e.born∈seen)/\(Instr.next (.pointer (some ⟨r,0,none⟩)) false ty).run P w = .ok (.tuple #[.bool false]) w) \/
 ∃e∈l,e.born∉seen/\∃w1:World,(w1.Alike w/\w1.tape=w.tape)/\(Instr.next (.pointer (some ⟨r,0,none⟩)) false ty).run P w = .ok (.tuple #[.bool true,.int kd e.key,e.val]) { w1 with heap:=w1.heap.setIfInBounds r (.mapIter (some b) dU (seen++[e.born]).toArray dU) }:=by
 have hg:(getObj r).run P w = .ok (.mapIter (some b) dU seen.toArray dU) w:=by simp[getObj,Sem.run,hr]
 have hold:∀x∈(lV kd l).toList,x.born<dU:=fun x hx=>by
  simp only[lV,List.mem_map]at hx;obtain⟨e,he,rfl⟩:=hx;exact(ho.val e he).2.1
 simp only[Instr.next,Sem.run_bind,hg,Go.MapKept.run_getObj_map hb,Result.andThen,next_test_false seen.toArray (lV kd l) dU dU hold (Nat.le_refl _),Bool.false_eq_true,if_false];have hL:∀x∈Array.filter (fun e=>!seen.toArray.contains e.born) (lV kd l),∃e∈l,e.born∉seen/\x=e.enc kd:=fun x hx=>by
  rw[Array.mem_filter]at hx;obtain⟨h1,h2⟩:=hx;simp only[lV,List.mem_toArray,List.mem_map]at h1;obtain⟨e,he,rfl⟩:=h1;exact⟨e,he,by simpa[gz.enc]using h2,rfl⟩
 have hL0:Array.filter (fun e=>!seen.toArray.contains e.born) (lV kd l) = #[]->∀e∈l,e.born∈seen:=fun h e he=>by
  rw[Array.filter_eq_empty_iff]at h;have:=h (e.enc kd) (by simp only[lV,List.mem_toArray,List.mem_map];exact⟨e,he,rfl⟩);simpa[gz.enc]using this
 generalize Array.filter (fun e=>!seen.toArray.contains e.born) (lV kd l)=L at hL hL0 ⊢;have hmem:∀x∈L,x.born<dU:=fun x hx=>by
  obtain⟨e,he,_,rfl⟩:=hL x hx;exact(ho.val e he).2.1
 have e1:L.filter (fun x=>decide (x.born<dU))=L:=Array.filter_eq_self.2 (fun x hx=>by simpa using hmem x hx);have e2:L.filter (fun x=>decide (x.born ≥ dU)) = #[]:=by
  rw[Array.filter_eq_empty_iff];intro x hx;have:=hmem x hx;simp;omega
 simp only[e1,e2,Array.append_empty];by_cases h0:L.size=0
 ·left;have:L = #[]:=Array.eq_empty_of_size_eq_zero h0;refine⟨hL0 this,?_⟩;subst this;simp[choose,Sem.run,Question.forced]
 ·right;have hne:L.isEmpty=false:=by simp[Array.isEmpty,h0]
  simp only[hne,Bool.false_eq_true,if_false,Array.empty_append,Array.size_map];have hch:∃(j:Nat) (w1:World),j<L.size/\(w1.Alike w/\w1.tape=w.tape)/\(choose (Question.mapNext L.size)).run P w = .ok j w1:=by
   by_cases hf:L.size<=1
   ·exact⟨0,w,by omega,⟨⟨rfl,rfl,rfl⟩,rfl⟩,by simp[choose,Sem.run,Question.forced,hf]⟩
   ·exact⟨_,w.drew,Nat.mod_lt _ (by omega),⟨⟨rfl,rfl,rfl⟩,rfl⟩,by
     simp only[choose,Sem.run,Question.forced,decide_eq_true_eq,hf,if_false,Question.cut];rfl⟩
  obtain⟨j,w1,hj,hal,hrun⟩:=hch;obtain⟨e,he,hns,hx⟩:=hL L[j] (Array.getElem_mem hj);refine⟨e,he,hns,w1,hal,?_⟩;have hr1:w1.heap[r]? = some (.mapIter (some b) dU seen.toArray dU):=by rw[hal.1.1];exact hr
  have hset:∀o':Obj,(setObj r o').run P w1 = .ok () { w1 with heap:=w1.heap.setIfInBounds r o' }:=fun o'=>by
   simp[setObj,Sem.run,hr1]
  simp only[hrun,Array.getElem?_map,Array.getElem?_eq_getElem hj,Option.map_some,Sem.run_bind,hset,Result.andThen,Sem.run_pure,hx,gz.enc];congr 4;simp
theorem QK{w:World}{b r dU:Nat}{kd:IntKind}{l:List gz}{seen:List Nat}{e:gz}(hb:w.heap[b]? = some (.map (lV kd l) dU))(hr:w.heap[r]? = some (.mapIter (some b) dU (seen++[e.born]).toArray dU))(ho:Zr kd l dU)(he:e∈l) :
 (Instr.entry (.pointer (some ⟨r,0,none⟩))).run P w = .ok (.tuple #[.int kd e.key,e.val]) w:=by
 have hg:(getObj r).run P w = .ok (.mapIter (some b) dU (seen++[e.born]).toArray dU) w:=by simp[getObj,Sem.run,hr]
 have hf:(lV kd l).find? (·.born == e.born)=some (e.enc kd):=by
  rw[<- Array.find?_toList];refine find_born (e.enc kd) _ ?_ ?_
  ·simp only[lV,List.map_map];exact ho.nodup
  ·simp only[lV,List.mem_map];exact⟨e,he,rfl⟩
 have hbk:(seen++[e.born]).toArray.back? = some e.born:=by simp
 simp only[Instr.entry,Sem.run_bind,hg,Result.andThen,hbk,Go.MapKept.run_getObj_map hb,bne_self_eq_false,Bool.false_eq_true,if_false,hf];rfl
def Da(P:Program)(t:Nat):Option (IntKind×Nat):=match P.underlying t with
 |some (.map k e)=>match P.underlying k with
  |some (.int kd)=>some (kd,e)
  |_=>none
 |_=>none
theorem zm{P:Program}{t e:Nat}{kd:IntKind}(h:Da P t=some (kd,e)):∃k,P.underlying t=some (.map k e)/\P.underlying k=some (.int kd):=by
 unfold Da at h;split at h
 ·rename_i k e' h1;split at h
  ·rename_i kd' h2;simp only[Option.some.injEq,Prod.mk.injEq]at h;obtain⟨rfl,rfl⟩:=h;exact⟨k,h1,h2⟩
  ·cases h
 ·cases h
def Db(no:Nat):aJ->Option Nat
 |[]=>none
 |e::r=>match e.ch with
  |.abs _=>bif Nat.beq e.tag no then Db no r else some e.tag
  |_=>Db no r
def tR(no:Nat)(hp:aJ)(v:Value)(kd:IntKind)(K:Nat->Bool->Nat->List gz->Nat->Prop):Prop :=
 match Db no hp with
 |some tm=>match hp.find tm with
  |some (wr,.abs R)=>∃(b:Nat) (l:List gz) (dU:Nat),v = .map (some b)/\R=mS b kd l dU/\Zr kd l dU/\K tm wr b l dU
  |_=>False
 |none=>False
theorem qJ{no:Nat}{hp:aJ}{v:Value}{kd:IntKind}{K:Nat->Bool->Nat->List gz->Nat->Prop}(h:tR no hp v kd K){w0:World}{M:Nat->Prop}{ρ:Env}{w:World}(hh:aj w0 M ρ hp w) :
 ∃tm wr b l dU,K tm wr b l dU/\hp.find tm=some (wr,.abs (mS b kd l dU))/\v = .map (some b)/\Zr kd l dU/\(∀x,(ρ.pl tm).fp x↔x=b)/\w.heap[b]? = some (.map (lV kd l) dU):=by
 unfold tR at h;split at h
 ·rename_i tm _;split at h
  ·rename_i wr R hf;obtain⟨b,l,dU,hv,rfl,hl,hK⟩:=h;have hc:=(hh.iq _ (aJ.bu hf)).ch w (fun _ _=>rfl);exact⟨tm,wr,b,l,dU,hK,hf,hv,hl,hc.1,hc.2⟩
  ·exact h.elim
 ·exact h.elim
def Made(P:Program)(m:Sem Value)(s:S)(K:KV)(w0:World)(M:Nat->Prop)(ρ:Env)(w:World):Prop :=
 ∃v w' ρ',m.run P w = .ok v w'/\ρ.le ρ'/\∃sv s',K sv s'/\s'.nt=s.nt/\s'.fr=s.fr/\ρ'.n=s'.nx/\sv.cz ρ' v/\aj w0 M ρ' s'.hp w'
theorem Tk{u:Value}(h:Ci u = .nil):u = .pointer none:=by
 unfold Ci at h;split at h<;>first|rfl|cases h
theorem Tl{P:Program}{e:Nat}{te:TI}(ty:CT P e te)(h:te.zero=[.nil])(ha:te.agg=false):∀w,(zeroValue e).run P w = .ok (.pointer none) w:=by
 obtain⟨z,hz,_,hzero,_,_,_,h1⟩:=iw ty;rw[h]at hzero;have e1:z.cells.toList=[.pointer none]:=by
  cases hc:z.cells.toList with
  |nil=>rw[hc]at hzero;simp at hzero
  |cons u r =>
   rw[hc]at hzero;cases r with
   |nil =>
    simp only[List.map_cons,List.map_nil,List.cons.injEq,and_true]at hzero;rw[Tk hzero.symm]
   |cons _ _=>simp at hzero
 have:z = .pointer none:=by
  rcases h1 ha with ho | ⟨vs,rfl⟩
  ·cases z<;>simp[Value.cells,Value.oneCell']at e1 ho<;>first|(simp[e1];done)|exact e1
  ·simp[Value.cells]at e1
 rw[<- this];exact hz
def Hv:List A->Bool
 |[.nil]=>true
 |_=>false
theorem QL{l:List A}(h:Hv l=true):l=[.nil]:=by
 unfold Hv at h;split at h
 ·rfl
 ·cases h
def Tm(X:Cx)(t:Nat)(x i:SV)(ok:Bool)(s:S)(K:KV):Prop :=
 match x,i with
 |.a (.val v),.a y=>match y.i?,Da X.P t with
  |some (k,n),some (kd,e)=>match X.ti e with
   |some te=>bif pq k kd&&(!ok&&(!te.agg&&Hv te.zero))then
    ∃m,v = .map m/\(m=none->K (.a .nil) s)/\(m≠none->tR s.nx s.hp v kd fun _ _ _ l _=>K (.a (.val (Fq (getM l n)))) s)else False
   |none=>False
  |_,_=>False
 |_,_=>False
theorem Tn{l:List gz}{n:Int}{u:Value}(h:getM l n=some u):∃e∈l,e.val=u:=by
 unfold getM at h;simp only[Option.map_eq_some_iff]at h;obtain⟨e,h1,h2⟩:=h;exact⟨e,List.mem_of_find?_eq_some h1,h2⟩
theorem look_ok{X:Cx}(hX:X.Ok){t:Nat}{x i:SV}{ok:Bool}{s:S}{K:KV}(h:Tm X t x i ok s K){w0:World}{M:Nat->Prop}{ρ:Env}(hρ:ρ.n=s.nx){w:World}(hh:aj w0 M ρ s.hp w){u v:Value}(hu:x.cz ρ u)(hv:i.cz ρ v) :
 Made X.P (Instr.lookup t u v ok) s K w0 M ρ w:=by
 unfold Tm at h;split at h
 ·rename_i v0 y;split at h
  ·rename_i k n kd e hy hm;split at h
   ·rename_i te hte;cases hb:(pq k kd&&(!ok&&(!te.agg&&Hv te.zero)))
    ·simp[hb]at h
    simp only[hb,cond_true]at h;simp only[Bool.and_eq_true,Bool.not_eq_true']at hb;obtain⟨hk,hok,hag,hz⟩:=hb;have hk:=mw hk;subst hk hok;obtain⟨kt,t1,t2⟩:=zm hm;obtain⟨rfl,hn⟩:=A.kq hy hv;have hz:=Tl (hX.ty hte) (QL hz) hag;obtain⟨rfl,_⟩:=hu;obtain⟨m,rfl,h1,h2⟩:=h;cases m with
    |none=>exact⟨_,w,ρ,Hu t1 t2 hz,Env.le.refl ρ,.a .nil,s,h1 rfl,rfl,rfl,hρ,rfl,hh⟩
    |some b =>
     obtain⟨tm,wr,b',l,dU,hK,hf,hb,hl,_,hc⟩:=qJ (h2 (by simp)) hh;obtain rfl:b=b':=by simpa using hb
     refine⟨_,w,ρ,Tj t1 t2 hc hz,Env.le.refl ρ,_,s,hK,rfl,rfl,hρ,⟨rfl,?_⟩,hh⟩;cases hg:getM l n with
     |none=>rfl
     |some u =>
      obtain⟨e,he,rfl⟩:=Tn hg;exact(hl.val e he).1
   ·exact h.elim
  ·exact h.elim
 ·exact h.elim
theorem Fs{w:World}{b:Nat}{o:Obj}(h:∀vs ty fr,w.heap[b]?≠some (.cells vs ty fr))(ho:∀vs ty fr,o≠.cells vs ty fr)(a:Addr):({ w with heap:=w.heap.setIfInBounds b o }:World).frozen? a=w.frozen? a:=by
 unfold World.frozen?;by_cases hb:a.block=b
 ·subst hb;by_cases hlt:a.block<w.heap.size
  ·have e1:(w.heap.setIfInBounds a.block o)[a.block]? = some o:=by simp[hlt]
   simp only[e1];have h2:=h;cases hx:w.heap[a.block]? with
   |none=>cases o<;>first|rfl|exact absurd rfl (ho _ _ _)
   |some q =>
    cases q<;>first|exact absurd hx (h _ _ _)|(cases o<;>first|rfl|exact absurd rfl (ho _ _ _))
  ·have e1:(w.heap.setIfInBounds a.block o)[a.block]? = w.heap[a.block]?:=by
    rw[Array.getElem?_eq_none (by simpa using hlt),Array.getElem?_eq_none (by simpa using hlt)]
   simp only[e1]
 ·have e1:(w.heap.setIfInBounds b o)[a.block]? = w.heap[a.block]?:=by
   rw[Array.getElem?_setIfInBounds];simp[Ne.symm hb]
  simp only[e1]
theorem aj.raw{w0:World}{M:Nat->Prop}{ρ:Env}{hp:aJ}{w w1:World}{t b:Nat}{c:Chunk}{o o':Obj}(hh:aj w0 M ρ hp w)(hf:hp.find t=some (true,c))(hfp:∀x,(ρ.pl t).fp x↔x=b)(hb:w.heap[b]? = some o)(ho:∀vs ty fr,o≠.cells vs ty fr)(ho':∀vs ty fr,o'≠.cells vs ty fr)
 (hal:w1.Alike w/\w1.tape=w.tape) {R:Place->World->Prop} (hR:∀w2:World,w2.heap[b]? = some o'->R (ρ.pl t) w2):aj w0 M ρ (hp.vb t (.abs R)) { w1 with heap:=w1.heap.setIfInBounds b o' }:=by
 have hlt:b<w.heap.size:=by
  rcases Nat.lt_or_ge b w.heap.size with h|h
  ·exact h
  ·simp[Array.getElem?_eq_none h]at hb
 obtain⟨⟨a1,a2,a3⟩,a4⟩:=hal;refine hh.vb hf ⟨a2,a4,a3,by simp[a1],fun x hx hn=>?_,fun a _=>?_⟩ fun w2 hw2=>hR w2 ?_
 ·have hne:b≠x:=fun e=>hn ((hfp x).2 e.symm);show(w1.heap.setIfInBounds b o')[x]? = _;rw[a1,Array.getElem?_setIfInBounds,if_neg hne]
 ·have e1:=Fs (w:=w1) (b:=b) (o:=o') (fun vs ty fr e=>by rw[a1,hb]at e;exact ho vs ty fr (Option.some.inj e)) ho' a;rw[e1];simp only[World.frozen?,a1]
 ·rw[hw2 b ((hfp b).2 rfl)];show(w1.heap.setIfInBounds b o')[b]? = _;rw[a1];simp[hlt]
def MB(X:Cx)(t:Nat)(m k x:SV)(s:S)(K:KV):Prop :=
 match m,k,x with
 |.a (.val v),.a y,.a z=>match y.i?,Da X.P t with
  |some (kk,n),some (kd,_)=>bif pq kk kd then KF 3 z s fun z s=>match z with
   |.val u=>tR s.nx s.hp v kd fun tm wr b l dU=>wr=true/\K (.a .any) (s.put (s.hp.vb tm (.abs (mS b kd (C6 n u dU l) (bif C7 l n then dU else dU+1)))))
   |_=>False else False
  |_,_=>False
 |_,_,_=>False
theorem To{X:Cx}{t:Nat}{m k x:SV}{s:S}{K:KV}(h:MB X t m k x s K){w0:World}{M:Nat->Prop}{ρ:Env}(hρ:ρ.n=s.nx){w:World}(hh:aj w0 M ρ s.hp w){um uk ux:Value}(hm:m.cz ρ um)(hk:k.cz ρ uk)(hx:x.cz ρ ux) :
 ∃w' s' ρ',(Instr.mapUpdate t um uk ux).run X.P w = .ok () w'/\K (.a .any) s'/\s'.nt=s.nt/\s'.fr=s.fr/\ρ.le ρ'/\ρ'.n=s'.nx/\aj w0 M ρ' s'.hp w':=by
 unfold MB at h;split at h
 ·rename_i v y z;split at h
  ·rename_i kk n kd e hy hmt;cases hb:pq kk kd
   ·simp[hb]at h
   simp only[hb,cond_true]at h;have:=mw hb;subst this;obtain⟨kt,t1,t2⟩:=zm hmt;obtain⟨rfl,_⟩:=A.kq hy hk;obtain⟨rfl,_⟩:=hm;obtain⟨z',s1,ρ1,k1,a1,a2,a3,a4,a5,a6⟩:=Cz 3 z s _ h w0 M ρ w hρ hh ux hx;split at k1
   ·rename_i u;obtain⟨rfl,_⟩:=a5;obtain⟨tm,wr,b,l,dU,⟨hw,hK⟩,hf,hv,hl,hfp,hc⟩:=qJ k1 a6;subst hw;subst hv;refine⟨_,_,ρ1,QJ t1 t2 hc,hK,a1,a2,a4,a3,?_⟩;have e:(if C7 l n then dU else dU+1)=bif C7 l n then dU else dU+1:=by cases C7 l n<;>rfl
    rw[e];exact a6.raw hf hfp hc (fun _ _ _ e=>by cases e) (fun _ _ _ e=>by cases e) ⟨⟨rfl,rfl,rfl⟩,rfl⟩ fun w2 h2=>⟨hfp,h2⟩
   ·exact k1.elim
  ·exact h.elim
 ·exact h.elim
def Hw(X:Cx)(t:Nat)(m k:SV)(s:S)(K:KV):Prop :=
 match m,k with
 |.a (.val v),.a y=>match y.i?,Da X.P t with
  |some (kk,n),some (kd,_)=>bif pq kk kd then tR s.nx s.hp v kd fun tm wr b l dU=>wr=true/\K (.a .any) (s.put (s.hp.vb tm (.abs (mS b kd (C8 n l) dU))))else False
  |_,_=>False
 |_,_=>False
theorem QM{X:Cx}{t kt rt:Nat}{m k:SV}{s:S}{K:KV}(h:Hw X t m k s K){w0:World}{M:Nat->Prop}{ρ:Env}{w:World}(hh:aj w0 M ρ s.hp w){um uk:Value}(hm:m.cz ρ um)(hk:k.cz ρ uk) :
 ∃w' cR,(Builtin.delete_ #[t,kt] rt #[um,uk]).run X.P w = .ok (.tuple #[]) w'/\aj w0 M ρ cR w'/\K (.a .any) (s.put cR):=by
 unfold Hw at h;split at h
 ·rename_i v y;split at h
  ·rename_i kk n kd e hy hmt;cases hb:pq kk kd
   ·simp[hb]at h
   simp only[hb,cond_true]at h;have:=mw hb;subst this;obtain⟨kt',t1,t2⟩:=zm hmt;obtain⟨rfl,_⟩:=A.kq hy hk;obtain⟨rfl,_⟩:=hm;obtain⟨tm,wr,b,l,dU,⟨hw,hK⟩,hf,hv,hl,hfp,hc⟩:=qJ h hh;subst hw;subst hv;exact⟨_,_,MA t1 t2 hc,hh.raw hf hfp hc (fun _ _ _ e=>by cases e) (fun _ _ _ e=>by cases e) ⟨⟨rfl,rfl,rfl⟩,rfl⟩ fun w2 h2=>⟨hfp,h2⟩,hK⟩
  ·exact h.elim
 ·exact h.elim
theorem MC(w:World)(o:Obj)(ho:∀vs ty fr,o≠.cells vs ty fr)(a:Addr):(w.alloc o).frozen? a=w.frozen? a:=by
 by_cases hb:a.block=w.heap.size
 ·have e1:(w.alloc o).heap[a.block]? = some o:=by rw[hb];show(w.heap.push _)[w.heap.size]? = _;simp
  have e2:w.heap[a.block]? = none:=by rw[hb];simp
  simp only[World.frozen?,e1,e2];cases o<;>first|rfl|exact absurd rfl (ho _ _ _)
 ·have e:(w.alloc o).heap[a.block]? = w.heap[a.block]?:=by
   show(w.heap.push o)[a.block]? = _;rw[Array.getElem?_push,if_neg hb]
  simp[World.frozen?,e]
theorem aj.Tp{w0:World}{M:Nat->Prop}{ρ:Env}{w:World}{hp:aJ}(r:aj w0 M ρ hp w)(o:Obj)(ho:∀vs ty fr,o≠.cells vs ty fr){R:Place->World->Prop}
 (hR:∀w2:World,w2.heap[w.heap.size]? = some o->R ⟨w.heap.size,0,0,fun b=>b=w.heap.size⟩ w2):aj w0 M (ρ.ext ⟨w.heap.size,0,0,fun b=>b=w.heap.size⟩) (⟨ρ.n,true,.abs R⟩::hp) (w.alloc o) :=
 r.alloc o _ (fun _=>Iff.rfl) (MC w o ho) fun w2 h2=>hR w2 (by
  rw[h2 _ rfl];show(w.heap.push o)[w.heap.size]? = _;simp)
def MD(X:Cx)(t:Nat)(s:S)(K:KV):Prop :=
 match Da X.P t with
 |some (kd,_)=>∀b:Nat,K (.a (.val (.map (some b)))) (s.new (.abs (mS b kd [] 0)))
 |none=>False
theorem Tq{X:Cx}{t:Nat}{s:S}{K:KV}(h:MD X t s K){w0:World}{M:Nat->Prop}{ρ:Env}(hρ:ρ.n=s.nx){w:World}(hh:aj w0 M ρ s.hp w):Made X.P (Instr.makeMap t none) s K w0 M ρ w:=by
 unfold MD at h;split at h
 ·rename_i kd e hm;have hn:=hh.Tp (.map #[] 0) (fun _ _ _ e=>by cases e) (R:=mS w.heap.size kd [] 0) fun w2 h2=>⟨fun _=>Iff.rfl,h2⟩
  refine⟨.map (some w.heap.size),w.alloc (.map #[] 0),ρ.ext ⟨w.heap.size,0,0,fun b=>b=w.heap.size⟩,by simp[Instr.makeMap],ρ.eE _,_,_,h w.heap.size,rfl,rfl,?_,⟨rfl,rfl⟩,?_⟩
  ·show ρ.n+1=s.nx+1;rw[hρ]
  ·rw[hρ]at hn;exact hn
 ·exact h.elim
def ME(X:Cx)(t:Nat)(x:SV)(s:S)(K:KV):Prop :=
 match x with
 |.a (.val v)=>match Da X.P t with
  |some (kd,_)=>tR s.nx s.hp v kd fun _ _ b _ dU=>K (.a (.ptr s.nx 0 0 0)) (s.new (.abs (ni b [] dU)))
  |none=>False
 |_=>False
theorem Tr{X:Cx}{t:Nat}{x:SV}{s:S}{K:KV}(h:ME X t x s K){w0:World}{M:Nat->Prop}{ρ:Env}(hρ:ρ.n=s.nx){w:World}(hh:aj w0 M ρ s.hp w){u:Value}(hu:x.cz ρ u):Made X.P (Instr.range t u) s K w0 M ρ w:=by
 unfold ME at h;split at h
 ·rename_i v;split at h
  ·rename_i kd e hm;obtain⟨kt,t1,t2⟩:=zm hm;obtain⟨rfl,_⟩:=hu;obtain⟨tm,wr,b,l,dU,hK,hf,hv,hl,hfp,hc⟩:=qJ h hh;subst hv;have hn:=hh.Tp (.mapIter (some b) dU #[] dU) (fun _ _ _ e=>by cases e) (R:=ni b [] dU) fun w2 h2=>⟨fun _=>Iff.rfl,rfl,h2⟩
   refine⟨_,_,ρ.ext ⟨w.heap.size,0,0,fun b=>b=w.heap.size⟩,run_range_map w t kt _ b _ dU t1 hc,ρ.eE _,_,_,hK,rfl,rfl,?_,?_,?_⟩
   ·show ρ.n+1=s.nx+1;rw[hρ]
   ·refine⟨by show s.nx<ρ.n+1;omega,?_⟩;rw[<- hρ,ρ.dH]
   ·rw[hρ]at hn;exact hn
  ·exact h.elim
 ·exact h.elim
def zn(t:Nat)(hp:aJ)(kd:IntKind)(K:Bool->Nat->List gz->Nat->List Nat->Prop):Prop :=
 match hp.find t with
 |some (wr,.abs R)=>∃(b:Nat) (seen:List Nat) (dU:Nat),R=ni b seen dU/\tR t hp (.map (some b)) kd fun _ _ b l clk'=>clk'=dU/\K wr b l dU seen
 |_=>False
theorem BI{t:Nat}{hp:aJ}{kd:IntKind}{K:Bool->Nat->List gz->Nat->List Nat->Prop}(h:zn t hp kd K){w0:World}{M:Nat->Prop}{ρ:Env}{w:World}(hh:aj w0 M ρ hp w) :
 ∃wr b l dU seen,K wr b l dU seen/\hp.find t=some (wr,.abs (ni b seen dU))/\Zr kd l dU/\w.heap[b]? = some (.map (lV kd l) dU)/\(∀x,(ρ.pl t).fp x↔x=(ρ.pl t).blk)/\(ρ.pl t).off=0/\w.heap[(ρ.pl t).blk]? = some (.mapIter (some b) dU seen.toArray dU):=by
 unfold zn at h;split at h
 ·rename_i wr R hf;obtain⟨b,seen,dU,rfl,hm⟩:=h;obtain⟨tm,wr2,b2,l,clk2,⟨rfl,hK⟩,_,hb,hl,_,hc⟩:=qJ hm hh;obtain rfl:b=b2:=by simpa using hb
  have hi:=(hh.iq _ (aJ.bu hf)).ch w (fun _ _=>rfl);exact⟨wr,b,l,_,seen,hK,hf,hl,hc,hi.1,hi.2.1,hi.2.2⟩
 ·exact h.elim
def Ts(it:SV)(s:S)(K:KV):Prop :=
 match it with
 |.a (.ptr t 0 _ 0)=>∃kd,zn t s.hp kd fun wr b l dU seen=>wr=true/\((∀e∈l,e.born∈seen)->K (.ng [.a .ff]) s) /\
  ∀e∈l,e.born∉seen->K (.ng [.a .tt,.a (.int kd e.key),.a (.val e.val)]) (s.put (s.hp.vb t (.abs (ni b (seen++[e.born]) dU))))
 |_=>False
theorem Xl{P:Program}{it:SV}{s:S}{K:KV}(h:Ts it s K){w0:World}{M:Nat->Prop}{ρ:Env}(hρ:ρ.n=s.nx){w:World}(hh:aj w0 M ρ s.hp w){u:Value}{ty:Nat}(hu:it.cz ρ u):Made P (Instr.next u false ty) s K w0 M ρ w:=by
 unfold Ts at h;split at h
 ·rename_i t e;obtain⟨kd,h⟩:=h;obtain⟨wr,b,l,dU,seen,⟨hw,h1,h2⟩,hf,hl,hc,hfp,hoff,hi⟩:=BI h hh;subst hw;obtain⟨_,rfl⟩:=hu;rw[hoff,show 0+0*e+0=0 by omega];rcases run_next_end (ty:=ty) hc hi hl with⟨g1,g2⟩ | ⟨x,hx,hns,w1,hal,g2⟩
  ·exact⟨_,w,ρ,g2,Env.le.refl ρ,_,s,h1 g1,rfl,rfl,hρ,⟨[.bool false],rfl,_,[],rfl,rfl,rfl⟩,hh⟩
  ·refine⟨_,_,ρ,g2,Env.le.refl ρ,_,_,h2 x hx hns,rfl,rfl,hρ,⟨[.bool true,.int kd x.key,x.val],rfl,_,_,rfl,rfl,_,_,rfl,⟨rfl,(hl.val x hx).2.2⟩,_,_,rfl,⟨rfl,(hl.val x hx).1⟩,rfl⟩,?_⟩;exact hh.raw hf hfp hi (fun _ _ _ e=>by cases e) (fun _ _ _ e=>by cases e) hal fun w2 hw2=>⟨hfp,hoff,hw2⟩
 ·exact h.elim
def MF(it:SV)(s:S)(K:KV):Prop :=
 match it with
 |.a (.ptr t 0 _ 0)=>∃kd,zn t s.hp kd fun _ _ l _ seen=>∃(sn:List Nat) (e:gz),seen=sn++[e.born]/\e∈l/\K (.ng [.a (.int kd e.key),.a (.val e.val)]) s
 |_=>False
theorem Tt{P:Program}{it:SV}{s:S}{K:KV}(h:MF it s K){w0:World}{M:Nat->Prop}{ρ:Env}(hρ:ρ.n=s.nx){w:World}(hh:aj w0 M ρ s.hp w){u:Value}(hu:it.cz ρ u):Made P (Instr.entry u) s K w0 M ρ w:=by
 unfold MF at h;split at h
 ·rename_i t e;obtain⟨kd,h⟩:=h;obtain⟨wr,b,l,dU,seen,⟨sn,x,rfl,hx,hK⟩,hf,hl,hc,hfp,hoff,hi⟩:=BI h hh;obtain⟨_,rfl⟩:=hu;rw[hoff,show 0+0*e+0=0 by omega];exact⟨_,w,ρ,QK hc hi hl hx,Env.le.refl ρ,_,s,hK,rfl,rfl,hρ,⟨[.int kd x.key,x.val],rfl,_,_,rfl,⟨rfl,(hl.val x hx).2.2⟩,_,_,rfl,⟨rfl,(hl.val x hx).1⟩,rfl⟩,hh⟩
 ·exact h.elim
end
section
def Tu:D->Bool
 |.str=>true
 |.slc _=>true
 |_=>false
def Tv:SV->Nat
 |.a (.slc _ _ _ m _)=>m
 |_=>1
def Zs(X:Cx)(t:Nat)(x y:SV)(s:S)(K:KV):Prop :=
 match x with
 |.a (.val v)=>Hs s y fun s'=>Hr X t v y s' K
 |.a (.slc a b c d e)=>bif Hl s y then(bif Nat.beq (Tv y) 0 then Cw X t (.a (.slc a b c d e)) y s K else Hs s y fun s'=>tP X t (.a (.slc a b c d e)) y s' K)else tP X t (.a (.slc a b c d e)) y s K
 |x=>bif Hl s y then Cw X t x y s K else tP X t x y s K
theorem Xm{X:Cx}(hX:X.Ok){t xt rt:Nat}{xd:TypeDesc}(hxt:X.P.underlying xt=some xd)(hxd:xd = .string\/∃e',xd = .slice e'){x y:SV}{s:S}{K:KV}(h:Zs X t x y s K){w0:World}{M:Nat->Prop}{ρ:Env}(hρ:ρ.n=s.nx)
 {w:World} (hh:aj w0 M ρ s.hp w) {u v:Value} (hu:x.cz ρ u) (hv:y.cz ρ v) :
 ∃r w' ρ',(Builtin.append_ #[t,xt] rt #[u,v]).run X.P w = .ok r w'/\ρ.le ρ'/\∃sv s',K sv s'/\s'.nt=s.nt/\s'.fr=s.fr/\ρ'.n=s'.nx/\sv.cz ρ' r/\aj w0 M ρ' s'.hp w':=by
 unfold Zs at h;split at h
 ·obtain⟨s1,ρ1,k1,a1,a2,a3,a4,a5⟩:=FU h hρ hh;obtain⟨r,w',ρ',hr,hle,sv,s2,k2,b1,b2,b3,b4,b5⟩:=Mz (rt:=rt) hX hxt hxd k1 a3 a5 (A.cz.mono a4 hu) (hv.mono a4);exact⟨r,w',ρ',hr,a4.trans hle,sv,s2,k2,b1.trans a1,b2.trans a2,b3,b4,b5⟩
 ·cases ho:Hl s y with
  |false=>rw[ho]at h;simp only[cond_false]at h;exact wY hX hxt hxd h hρ hh hu hv
  |true =>
   rw[ho]at h;simp only[cond_true]at h;cases hm:Nat.beq (Tv y) 0 with
   |true=>rw[hm]at h;simp only[cond_true]at h;exact FR hX hxt hxd h hρ hh hu hv
   |false =>
    rw[hm]at h;simp only[cond_false]at h;obtain⟨s1,ρ1,k1,a1,a2,a3,a4,a5⟩:=FU h hρ hh;obtain⟨r,w',ρ',hr,hle,sv,s2,k2,b1,b2,b3,b4,b5⟩:=wY (rt:=rt) hX hxt hxd k1 a3 a5 (hu.mono a4) (hv.mono a4);exact⟨r,w',ρ',hr,a4.trans hle,sv,s2,k2,b1.trans a1,b2.trans a2,b3,b4,b5⟩
 ·cases ho:Hl s y with
  |false=>rw[ho]at h;simp only[cond_false]at h;exact wY hX hxt hxd h hρ hh hu hv
  |true=>rw[ho]at h;simp only[cond_true]at h;exact FR hX hxt hxd h hρ hh hu hv
def Xn(s:S):SV->Bool
 |.a (.slc t _ _ _ _)=>match s.hp.find t with|some (_,.obj _ _)=>true|_=>false
 |.a (.sub t _ _ _ _ _)=>match s.hp.find t with|some (_,.obj _ _)=>true|_=>false
 |_=>false
def Tw(b:Bool)(x:A):A:=bif b then(match x with | .int k n=>.lit k n|x=>x)else x
theorem QN{b:Bool}{x:A}{ρ:Env}{v:Value}(h:x.cz ρ v):(Tw b x).cz ρ v:=by
 cases b
 ·exact h
 ·cases x<;>exact h
def Dc(X:Cx)(b:Builtin)(args:List Operand)(ts:List Nat)(s:S)(K:KV):Prop :=
 match b,args,ts with
 |.len,[x],[t]=>match s.ev x with
  |.a (.val v)=>Zo X t v fun r=>K (.a r) s
  |y=>Zg X t y fun r=>K (.a (Tw (Xn s y) r)) s
 |.append,[x,y],[t,xt]=>match X.ti xt with
  |some tx=>bif Tu tx.d then Zs X t (s.ev x) (s.ev y) s K else(match tx.d with | .int _=>S0 X t (s.ev x) (s.ev y) s K|_=>False)
  |none=>False
 |.min,[x,y],_=>match s.ev x,s.ev y with
  |.a x,.a y=>Pg false x y fun r=>K (.a r) s
  |_,_=>False
 |.max,[x,y],_=>match s.ev x,s.ev y with
  |.a x,.a y=>Pg true x y fun r=>K (.a r) s
  |_,_=>False
 |.clear,[x],[t]=>Mu X t (s.ev x) s K
 |.cap,[x],[t]=>Zi X t (s.ev x) fun r=>K (.a r) s
 |.copy,[x,y],[t,_]=>S7 X t (s.ev x) (s.ev y) s K
 |.delete,[m,k],[t,_]=>Hw X t (s.ev m) (s.ev k) s K
 |_,_,_=>False
def xun(op:UnOp)(x:SV)(s:S)(K:KV):Prop :=
 match op,x with
 |.not,.a .tt=>K (.a .ff) s
 |.not,.a .ff=>K (.a .tt) s
 |.not,.a (.bool b)=>K (.a (.bool (!b))) s
 |.neg,.a (.lit k n)=>K (.a (.lit k (k.wrap (0-n)))) s
 |.neg,.a (.int k n)=>bif k.signed then bR k (0-n)/\K (.a (.int k (0-n))) s else K (.a (.int k (uw k (0-n)))) s
 |.xor,.a (.lit k n)=>K (.a (.lit k (dL .xor k (if k.signed=true then -1 else k.max) n))) s
 |.xor,.a (.int k n)=>K (.a (.int k (dL .xor k (if k.signed=true then -1 else k.max) n))) s
 |_,_=>False
def KI(x:SV)(i:Nat)(s:S)(K:KV):Prop :=
 match x with
 |.ng xs=>match xs[i]? with
  |some c=>K c.sv s
  |none=>False
 |_=>False
def Tx(X:Cx)(t:Nat)(x:SV)(f:Nat)(s:S)(K:KV):Prop :=
 match x with
 |.agg cs=>match X.P.underlying t with
  |some (.struct fs)=>match fs[f]? with
   |some g=>match X.ti g.type with
    |some ti=>bif ti.agg then K (.agg ((cs.drop g.offset).take ti.sz)) s else(match cs[g.offset]? with
     |some a=>K (.a a) s
     |none=>False)
    |none=>False
   |none=>False
  |_=>False
 |_=>False
theorem Xo{X:Cx}(hX:X.Ok){t:Nat}{x:SV}{f:Nat}{s:S}{K:KV}(h:Tx X t x f s K){ρ:Env}{u:Value}(hu:x.cz ρ u) :
 ∃sv r,K sv s/\sv.cz ρ r/\∀w:World,(Instr.field t u f).run X.P w = .ok r w:=by
 unfold Tx at h;split at h
 ·rename_i cs;obtain⟨vs,rfl,hr⟩:=hu;split at h
  ·rename_i fs he;split at h
   ·rename_i g hg;split at h
    ·rename_i ti hti;have ty:=hX.ty hti;cases ha:ti.agg
     ·rw[ha,cond_false]at h;split at h
      ·rename_i a hc;obtain⟨v,h1,h2⟩:=hr.get hc;exact⟨.a a,v,h,h2,fun w=>by simp[Instr.field,run_underlying he,hg,part,asAgg,tL ty,ha,h1]⟩
      ·exact h.elim
     ·rw[ha,cond_true]at h;refine⟨_,.agg ((vs.drop g.offset).take ti.sz).toArray,h,⟨_,rfl,(hr.drop g.offset).take ti.sz⟩,fun w=>?_⟩;simp[Instr.field,run_underlying he,hg,part,asAgg,tL ty,ha,cu ty,List.extract]
    ·exact h.elim
   ·exact h.elim
  ·exact h.elim
 ·exact h.elim
def zo:List SV->Option (List A)
 |[]=>some []
 |.a x::r=>(zo r).map (x::·)
 |_=>none
theorem BJ{ρ:Env}{s:S}{a:Act}(h:dK ρ s.fr a.tmps):∀ {l:List Operand} {xs:List A},zo (l.map s.ev)=some xs->cE ρ xs (l.map a.eval)
 |[],xs,e=>by simp[zo]at e;subst e;rfl
 |o::r,xs,e=>by
  simp only[List.map_cons]at e;have ho:=h.ev o;unfold zo at e;split at e
  ·rename_i e';cases e'
  ·rename_i x t e';simp only[List.cons.injEq]at e';obtain⟨e1,rfl⟩:=e';rw[e1]at ho;simp only[Option.map_eq_some_iff]at e;obtain⟨ys,hy,rfl⟩:=e;exact⟨_,_,rfl,ho,BJ h hy⟩
  ·cases e
def W0(X:Cx)(o:Oper)(s:S)(K:KV):Prop :=
 match o.op with
 |.move x=>K (s.ev x) s
 |.assign x=>K (s.ev x) s
 |.pick c a b=>match s.ev c with
  |.a .tt=>K (s.ev a) s
  |.a .ff=>K (s.ev b) s
  |.a (.bool c)=>CS X.force c (K (s.ev a) s) (K (s.ev b) s)
  |_=>False
 |.alloc t=>Mo X t s K
 |.box t v=>Zd t (s.ev v) s K
 |.build t ps=>Mp X t ps.toList s K
 |.buildSlice t n ps=>vu X t n ps.toList s K
 |.load t a=>match s.ev a with
  |.a (.val v)=>Td X t v s K
  |y=>Pb X t y s K
 |.store t a v=>match s.ev a with
  |.a (.val p)=>Mw X t p (s.ev v) s K
  |y=>Mm X t y (s.ev v) s K
 |.nilCheck x=>match s.ev x with
  |.a (.ptr t r e c)=>K (.a (.ptr t r e c)) s
  |.a (.fn f)=>K (.a (.fn f)) s
  |.a (.val v)=>∃b o,v=pv b o/\K (.a (.val (pv b o))) s
  |.Cg f xs=>K (.Cg f xs) s
  |_=>False
 |.binOp op t x y _=>match s.ev x,s.ev y with
  |.a (.val v),.a z=>Zp X op t v z fun r=>K (.a r) s
  |.a x,.a y=>Ky X op t x y fun r=>K (.a r) s
  |.agg xs,.agg ys=>Ta X op t xs ys fun r=>K (.a r) s
  |_,_=>False
 |.unOp op _ x=>xun op (s.ev x) s K
 |.convert a b x=>match s.ev x with
  |.a (.val v)=>Tf X a b v s K
  |y=>Ms X a b y s K
 |.makeFunc fn first captured=>match fn,first.toList with
  |.func f,[]=>match captured.toList with
   |[]=>K (.a (.fn f)) s
   |cs=>match zo (cs.map s.ev)with
    |some xs=>K (.Cg f xs) s
    |none=>False
  |_,_=>False
 |.makeSlice t l c=>SY X t (s.ev l) (s.ev c) s K
 |.slice t x lo hi mx=>match s.ev x with
  |.a (.val v)=>Mx X t v lo hi mx s K
  |y=>Mr X t y lo hi mx s K
 |.fieldAddr t x f=>match s.ev x with
  |.a (.val v)=>Mv X t v f s K
  |y=>Mt X t y f s K
 |.indexAddr t x i=>match s.ev x with
  |.a (.val v)=>Zn X t v (s.ev i) s K
  |y=>Zk X t y (s.ev i) s K
 |.field t x f=>Tx X t (s.ev x) f s K
 |.index t x i=>S5 X t (s.ev x) (s.ev i) s K
 |.extract x i=>KI (s.ev x) i s K
 |.lookup t x i ok=>Tm X t (s.ev x) (s.ev i) ok s K
 |.mapUpdate t m k x=>MB X t (s.ev m) (s.ev k) (s.ev x) s K
 |.makeMap t r=>match r with
  |none=>MD X t s K
  |_=>False
 |.range t x=>ME X t (s.ev x) s K
 |.next it str=>bif str then False else Ts (s.ev it) s K
 |.entry it=>MF (s.ev it) s K
 |.call c=>match c.callee with
  |.builtin b=>Dc X b c.args.toList c.argTypes.toList s K
  |_=>False
 |_=>False
def jt(o:Oper):Bool :=
 match o.op with
 |.alloc _=>false
 |.box _ _=>false
 |.buildSlice _ _ _=>false
 |.store _ _ _=>false
 |.makeSlice _ _ _=>false
 |.lookup _ _ _ _=>false
 |.mapUpdate _ _ _ _=>false
 |.makeMap _ _=>false
 |.range _ _=>false
 |.next _ _=>false
 |.entry _=>false
 |.call c=>match c.callee with
  |.builtin .len=>true
  |.builtin .cap=>true
  |.builtin .min=>true
  |.builtin .max=>true
  |_=>false
 |_=>true
theorem Good.makes{X:Cx}{o:Oper}{s:S}{K:KV}
 (h:∀ρ:Env,ρ.n=s.nx->∀(a:Act) (w w0:World) (M:Nat->Prop),dK ρ s.fr a.tmps->aj w0 M ρ s.hp w ->
  ∃v w' ρ',(execOp a.eval o).run X.P w = .ok (.value v) w'/\ρ.le ρ'/\∃sv s',K sv s'/\s'.nt=s.nt/\s'.fr=s.fr/\ρ'.n=s'.nx/\sv.cz ρ' v/\aj w0 M ρ' s'.hp w'):Good X o s K:=by
 intro w0 M ρ a w hs;obtain⟨v,w',ρ',hr,hle,sv,s',hK,h1,h2,h3,h4,h5⟩:=h ρ hs.n a w w0 M hs.frame hs.heap;exact⟨_,w',hr,v,.inl rfl,sv,s',ρ',hK,h1,h2,hle,h3,h4,h5⟩
theorem jV.still{X:Cx}{o:Oper}{s:S}{K:KV}
 (h:∀ρ:Env,ρ.n=s.nx->∀(a:Act) (w w0:World) (M:Nat->Prop),dK ρ s.fr a.tmps->aj w0 M ρ s.hp w ->
  ∃sv v,K sv s/\sv.cz ρ v/\∀w':World,(∀t,Fk o s=some t->∀b,(ρ.pl t).fp b->w'.heap[b]? = w.heap[b]?)->(execOp a.eval o).run X.P w' = .ok (.value v) w'):jV X o s K:=by
 intro w0 M ρ a w hs;obtain⟨sv,v,h1,h2,h3⟩:=h ρ hs.n a w w0 M hs.frame hs.heap;exact⟨v,sv,h1,h2,h3⟩
theorem jY{P:Program}{m:Sem Value}{v:Value}{w w':World}(h:m.run P w = .ok v w'):(do Pure.pure (Next.value (<- m)):Sem Next).run P w = .ok (.value v) w':=by
 simp[h]
theorem Am{X:Cx}(hX:X.Ok){o:Oper}{s:S}{K:KV}(hq:jt o=true)(h:W0 X o s K):jV X o s K:=by
 obtain⟨dst,op,type,pos,after,guard⟩:=o;unfold W0 at h;cases op<;>simp only at h<;>first|(exact h.elim)|(simp[jt]at hq;done)|skip
 case move x=>exact jV.still fun ρ hρ a w w0 M hf hh=>⟨_,_,h,hf.ev x,fun _ _=>rfl⟩
 case assign x=>exact jV.still fun ρ hρ a w w0 M hf hh=>⟨_,_,h,hf.ev x,fun _ _=>rfl⟩
 case pick c x y =>
  refine jV.still fun ρ hρ a w w0 M hf hh=>?_;have hc:=hf.ev c;split at h
  ·rename_i e;rw[e]at hc;have hc':a.eval c = .bool true:=hc;exact⟨_,_,h,hf.ev x,fun w' hw=>by simp[execOp,hc',asBool]⟩
  ·rename_i e;rw[e]at hc;have hc':a.eval c = .bool false:=hc;exact⟨_,_,h,hf.ev y,fun w' hw=>by simp[execOp,hc',asBool]⟩
  ·rename_i b e;rw[e]at hc;have hc':a.eval c = .bool b:=hc;have h:=Ad h;cases b with
   |true=>exact⟨_,_,h.1 rfl,hf.ev x,fun w' hw=>by simp[execOp,hc',asBool]⟩
   |false=>exact⟨_,_,h.2 rfl,hf.ev y,fun w' hw=>by simp[execOp,hc',asBool]⟩
  ·exact h.elim
 case build t ps =>
  refine jV.still fun ρ hρ a w w0 M hf hh=>?_;obtain⟨u,sv,h1,h2,h3⟩:=SX hX h hf;exact⟨sv,u,h3,h2,fun w' hw=>jY (h1 w')⟩
 case load t x =>
  refine jV.still fun ρ hρ a w w0 M hf hh=>?_;split at h
  ·rename_i v hx;have hc:=hf.ev x;rw[hx]at hc;obtain⟨b,off,e,u,sv,h1,h2,h3⟩:=Te hX h hc hh;refine⟨sv,u,h3,h2,fun w' hw=>jY ?_⟩;have h4:=h1 w' fun t' ht'=>hw t' (by simp only[Fk,hx,Fj];exact ht');simp[Instr.loadAt,e,Instr.sureAddr,h4]
  ·obtain⟨b,off,e,u,sv,h1,h2,h3⟩:=Pc hX h (hf.ev x) hh;refine⟨sv,u,h3,h2,fun w' hw=>jY ?_⟩;have h4:=h1 w' fun t' ht'=>hw t' (zh ht');simp[Instr.loadAt,e,Instr.sureAddr,h4]
 case nilCheck x =>
  refine jV.still fun ρ hρ a w w0 M hf hh=>?_;have hc:=hf.ev x;split at h
  ·rename_i t r e c eq;rw[eq]at hc;obtain⟨h1,h2⟩:=hc;exact⟨_,_,h,⟨h1,h2⟩,fun w' hw=>by simp[execOp,h2]⟩
  ·rename_i f eq;rw[eq]at hc;have hc':a.eval x = .func (.func f) #[] #[]:=hc;exact⟨_,_,h,hc',fun w' hw=>by simp[execOp,hc']⟩
  ·rename_i v eq;rw[eq]at hc;obtain⟨b,o,rfl,h⟩:=h;obtain⟨hc',h2⟩:=hc;exact⟨_,_,h,⟨hc',h2⟩,fun w' hw=>by simp[execOp,hc',pv]⟩
  ·rename_i f xs eq;rw[eq]at hc;obtain⟨vs,hc',h2⟩:=hc;exact⟨_,_,h,⟨vs,rfl,h2⟩,fun w' hw=>by simp[execOp,hc']⟩
  ·exact h.elim
 case binOp op t x y yt =>
  refine jV.still fun ρ hρ a w w0 M hf hh=>?_;split at h
  ·rename_i p q hp hq;have h1:=hf.ev x;have h2:=hf.ev y;rw[hp]at h1;rw[hq]at h2;obtain⟨z,r,g1,g2,g3⟩:=Xj hX h h1 h2 x y;refine⟨.a z,r,g1,g2,fun w' hw=>jY ?_⟩;simp[(g3 w').1,(g3 w').2]
  ·rename_i p q _ hp hq;have h1:=hf.ev x;have h2:=hf.ev y;rw[hp]at h1;rw[hq]at h2;obtain⟨z,r,g1,g2,g3⟩:=S1 hX h h1 h2;refine⟨.a z,r,g1,g2,fun w' hw=>jY ?_⟩;simp[Fo op t x y h1 (KA h),g3]
  ·rename_i p q hp hq;have h1:=hf.ev x;have h2:=hf.ev y;rw[hp]at h1;rw[hq]at h2;obtain⟨us,e1,h1⟩:=h1;obtain⟨vs,e2,h2⟩:=h2;obtain⟨z,r,g1,g2,g3⟩:=Tc h h1 h2 x y;refine⟨.a z,r,g1,g2,fun w' hw=>jY ?_⟩;have:=g3 w';simp only[e1,e2];simpa using this
  ·exact h.elim
 case unOp op t x =>
  refine jV.still fun ρ hρ a w w0 M hf hh=>?_;have hc:=hf.ev x;unfold xun at h;split at h
  ·rename_i e;rw[e]at hc;have hc':a.eval x = .bool true:=hc;exact⟨_,.bool false,h,rfl,fun w' hw=>by simp[execOp,Op.unary,hc']⟩
  ·rename_i e;rw[e]at hc;have hc':a.eval x = .bool false:=hc;exact⟨_,.bool true,h,rfl,fun w' hw=>by simp[execOp,Op.unary,hc']⟩
  ·rename_i b e;rw[e]at hc;have hc':a.eval x = .bool b:=hc;exact⟨_,.bool (!b),h,rfl,fun w' hw=>by simp[execOp,Op.unary,hc']⟩
  ·rename_i k n e;rw[e]at hc;obtain⟨hc',_⟩:=hc;exact⟨_,.int k (k.wrap (0-n)),h,⟨rfl,iW _ _⟩,fun w' hw=>by simp[execOp,Op.unary,Op.intArith,hc']⟩
  ·rename_i k n e;rw[e]at hc;obtain⟨hc',_⟩:=hc;cases hs:k.signed
   ·rw[hs]at h;exact⟨_,.int k (k.wrap (0-n)),h,⟨by rw[FI],tK _ _⟩,fun w' hw=>by simp[execOp,Op.unary,Op.intArith,hc']⟩
   ·rw[hs]at h;exact⟨_,.int k (0-n),h.2,⟨rfl,h.1⟩,fun w' hw=>by rw[<- fM h.1];simp[execOp,Op.unary,Op.intArith,hc']⟩
  ·rename_i k n e;rw[e]at hc;obtain⟨hc',_⟩:=hc;exact⟨_,.int k (dL .xor k (if k.signed=true then -1 else k.max) n),h,⟨rfl,iW _ _⟩,fun w' hw=>by simp[execOp,Op.unary,Op.intBits,dL,hc']⟩
  ·rename_i k n e;rw[e]at hc;obtain⟨hc',_⟩:=hc;exact⟨_,.int k (dL .xor k (if k.signed=true then -1 else k.max) n),h,⟨rfl,iW _ _⟩,fun w' hw=>by simp[execOp,Op.unary,Op.intBits,dL,hc']⟩
  ·exact h.elim
 case convert t d x =>
  refine jV.still fun ρ hρ a w w0 M hf hh=>?_;split at h
  ·rename_i v hx;have hc:=hf.ev x;rw[hx]at hc;obtain⟨sv,r,h1,h2,h3⟩:=Tg hX h hc hh;exact⟨sv,r,h1,h2,fun w' hw=>jY (h3 w' fun t' ht'=>hw t' (by simp only[Fk,hx,Fj];exact ht'))⟩
  ·obtain⟨sv,r,h1,h2,h3⟩:=S3 hX h hh (hf.ev x);exact⟨sv,r,h1,h2,fun w' hw=>jY (h3 w' fun t' ht'=>hw t' (zh ht'))⟩
 case makeFunc fn first captured =>
  refine jV.still fun ρ hρ a w w0 M hf hh=>?_;split at h
  ·rename_i f h1;have e1:first = #[]:=by cases first;simpa using h1
   subst e1;split at h
   ·rename_i h2;have e2:captured = #[]:=by cases captured;simpa using h2
    subst e2;exact⟨_,.func (.func f) #[] #[],h,rfl,fun w' hw=>by simp[execOp,Instr.makeFunc]⟩
   ·split at h
    ·rename_i xs hxs;refine⟨_,.func (.func f) #[] (captured.map a.eval),h,⟨captured.toList.map a.eval,by congr 1;apply Array.toList_inj.1;simp,BJ hf hxs⟩,fun w' hw=>by simp[execOp,Instr.makeFunc]⟩
    ·exact h.elim
  ·exact h.elim
 case slice t x lo hi mx =>
  refine jV.still fun ρ hρ a w w0 M hf hh=>?_;split at h
  ·rename_i v hx;have hc:=hf.ev x;rw[hx]at hc;obtain⟨v,sv,h1,h2,h3⟩:=QH hX h hf hc;exact⟨sv,v,h3,h2,fun w' hw=>jY (h1 w')⟩
  ·obtain⟨v,sv,h1,h2,h3⟩:=SZ hX h hf (hf.ev x);exact⟨sv,v,h3,h2,fun w' hw=>jY (h1 w')⟩
 case field t x f =>
  refine jV.still fun ρ hρ a w w0 M hf hh=>?_;obtain⟨sv,r,h1,h2,h3⟩:=Xo hX h (hf.ev x);exact⟨sv,r,h1,h2,fun w' hw=>jY (h3 w')⟩
 case fieldAddr t x f =>
  refine jV.still fun ρ hρ a w w0 M hf hh=>?_;split at h
  ·rename_i v hx;have hc:=hf.ev x;rw[hx]at hc;obtain⟨sv,r,h1,h2,h3⟩:=QE hX h hc;exact⟨sv,r,h1,h2,fun w' hw=>jY (h3 w')⟩
  ·obtain⟨sv,r,h1,h2,h3⟩:=S4 hX h (hf.ev x);exact⟨sv,r,h1,h2,fun w' hw=>jY (h3 w')⟩
 case indexAddr t x i =>
  refine jV.still fun ρ hρ a w w0 M hf hh=>?_;split at h
  ·rename_i v hx;have hc:=hf.ev x;rw[hx]at hc;obtain⟨sv,r,h1,h2,h3⟩:=Xh hX h hc (hf.ev i);exact⟨sv,r,h1,h2,fun w' hw=>jY (h3 w')⟩
  ·obtain⟨sv,r,h1,h2,h3⟩:=Zl hX h (hf.ev x) (hf.ev i);exact⟨sv,r,h1,h2,fun w' hw=>jY (h3 w')⟩
 case index t x i =>
  refine jV.still fun ρ hρ a w w0 M hf hh=>?_;obtain⟨sv,r,h1,h2,h3⟩:=Xf hX h (hf.ev x) (hf.ev i);exact⟨sv,r,h1,h2,fun w' hw=>jY (h3 w')⟩
 case extract x i =>
  refine jV.still fun ρ hρ a w w0 M hf hh=>?_;have hc:=hf.ev x;unfold KI at h;split at h
  ·rename_i xs e;rw[e]at hc;obtain⟨vs,hv,hr⟩:=hc;split at h
   ·rename_i c hc;obtain⟨v,h1,h2⟩:=hr.get hc;exact⟨_,v,h,h2.sv,fun w' hw=>by simp[execOp,Instr.extract,hv,h1]⟩
   ·exact h.elim
  ·exact h.elim
 case call c =>
  obtain⟨callee,args,ts⟩:=c;split at h
  ·rename_i b hb;simp only at hb;subst hb;unfold Dc at h;split at h
   ·rename_i x t ha ht;have e1:args = #[x]:=by cases args;simpa using ha
    have e2:ts = #[t]:=by cases ts;simpa using ht
    subst e1 e2;refine jV.still fun ρ hρ a w w0 M hf hh=>?_;split at h
    ·rename_i v hx;have hc:=hf.ev x;rw[hx]at hc;obtain⟨z,r,g1,g2,g3⟩:=Xi (rt:=type) hX h hc;exact⟨.a z,r,g1,g2,fun w' hw=>by simp[execOp,resolve,invoke,builtin,g3]⟩
    ·obtain⟨z,r,g1,g2,g3⟩:=Zh (rt:=type) hX h (hf.ev x);exact⟨.a (Tw _ z),r,g1,QN g2,fun w' hw=>by simp[execOp,resolve,invoke,builtin,g3]⟩
   ·simp[jt]at hq
   ·rename_i x y ha;have e1:args = #[x,y]:=by cases args;simpa using ha
    subst e1;split at h
    ·rename_i p q hp hq;refine jV.still fun ρ hρ a w w0 M hf hh=>?_;have h1:=hf.ev x;have h2:=hf.ev y;rw[hp]at h1;rw[hq]at h2;obtain⟨z,r,g1,g2,g3⟩:=Ph (P:=X.P) h h1 h2;refine⟨.a z,r,g1,g2,fun w' hw=>?_⟩;have g4:(Builtin.min_ ts type #[a.eval x,a.eval y]).run X.P w' = .ok r w':=g3 w';simp[execOp,resolve,invoke,builtin,g4]
    ·exact h.elim
   ·rename_i x y ha;have e1:args = #[x,y]:=by cases args;simpa using ha
    subst e1;split at h
    ·rename_i p q hp hq;refine jV.still fun ρ hρ a w w0 M hf hh=>?_;have h1:=hf.ev x;have h2:=hf.ev y;rw[hp]at h1;rw[hq]at h2;obtain⟨z,r,g1,g2,g3⟩:=Ph (P:=X.P) h h1 h2;refine⟨.a z,r,g1,g2,fun w' hw=>?_⟩;have g4:(Builtin.max_ ts type #[a.eval x,a.eval y]).run X.P w' = .ok r w':=g3 w';simp[execOp,resolve,invoke,builtin,g4]
    ·exact h.elim
   ·simp[jt]at hq
   ·rename_i x t ha ht;have e1:args = #[x]:=by cases args;simpa using ha
    have e2:ts = #[t]:=by cases ts;simpa using ht
    subst e1 e2;refine jV.still fun ρ hρ a w w0 M hf hh=>?_;obtain⟨z,r,g1,g2,g3⟩:=Zj (rt:=type) hX h (hf.ev x);exact⟨.a z,r,g1,g2,fun w' hw=>by simp[execOp,resolve,invoke,builtin,g3]⟩
   ·simp[jt]at hq
   ·simp[jt]at hq
   ·exact h.elim
  ·exact h.elim
theorem Ty{X:Cx}(hX:X.Ok){o:Oper}{s:S}{K:KV}(h:W0 X o s K):Good X o s K:=by
 cases hq:jt o
 case true=>exact(Am hX hq h).good
 obtain⟨dst,op,type,pos,after,guard⟩:=o;unfold W0 at h;cases op<;>simp only at h<;>first|(exact h.elim)|(simp[jt]at hq;done)|skip
 case alloc t =>
  refine Good.makes fun ρ hρ a w w0 M hf hh=>?_;obtain⟨u,w',ρ',h1,h2⟩:=SU hX h hρ hh;exact⟨u,w',ρ',jY h1,h2⟩
 case box t v =>
  refine Good.makes fun ρ hρ a w w0 M hf hh=>?_;obtain⟨u,w',ρ',h1,h2⟩:=Ze (P:=X.P) h hρ hh (hf.ev v);exact⟨u,w',ρ',jY h1,h2⟩
 case buildSlice t n ps =>
  refine Good.makes fun ρ hρ a w w0 M hf hh=>?_;obtain⟨u,w',ρ',h1,h2⟩:=Fm hX h hρ hf hh;exact⟨u,w',ρ',jY h1,h2⟩
 case store t x v =>
  intro w0 M ρ a w hs;split at h
  ·rename_i p hx;have hc:=hs.frame.ev x;rw[hx]at hc;obtain⟨b,off,e,w',cR,h1,h2,h3⟩:=QG hX h hc (hs.frame.ev v) hs.heap;refine⟨.skip,w',?_,undef,.inr ⟨rfl,rfl⟩,.a .any,s.put cR,ρ,h3,rfl,rfl,Env.le.refl ρ,hs.n,trivial,h2⟩;simp[execOp,Instr.storeAt,e,Instr.sureAddr,h1]
  obtain⟨b,off,e,w',cR,h1,h2,h3⟩:=SS hX h (hs.frame.ev x) (hs.frame.ev v) hs.heap;refine⟨.skip,w',?_,undef,.inr ⟨rfl,rfl⟩,.a .any,s.put cR,ρ,h3,rfl,rfl,Env.le.refl ρ,hs.n,trivial,h2⟩;simp[execOp,Instr.storeAt,e,Instr.sureAddr,h1]
 case makeSlice t l c =>
  refine Good.makes fun ρ hρ a w w0 M hf hh=>?_;obtain⟨u,w',ρ',h1,h2⟩:=zj hX h hρ hh (hf.ev l) (hf.ev c);exact⟨u,w',ρ',jY h1,h2⟩
 case lookup t x i ok =>
  refine Good.makes fun ρ hρ a w w0 M hf hh=>?_;obtain⟨u,w',ρ',h1,h2⟩:=look_ok hX h hρ hh (hf.ev x) (hf.ev i);exact⟨u,w',ρ',jY h1,h2⟩
 case mapUpdate t m k x =>
  intro w0 M ρ a w hs;obtain⟨w',s',ρ',h1,h2,h3,h4,h5,h6,h7⟩:=To h hs.n hs.heap (hs.frame.ev m) (hs.frame.ev k) (hs.frame.ev x);refine⟨.skip,w',?_,undef,.inr ⟨rfl,rfl⟩,.a .any,s',ρ',h2,h3,h4,h5,h6,trivial,h7⟩;simp[execOp,h1]
 case makeMap t r =>
  split at h
  ·refine Good.makes fun ρ hρ a w w0 M hf hh=>?_;obtain⟨u,w',ρ',h1,h2⟩:=Tq h hρ hh;exact⟨u,w',ρ',jY h1,h2⟩
  ·exact h.elim
 case range t x =>
  refine Good.makes fun ρ hρ a w w0 M hf hh=>?_;obtain⟨u,w',ρ',h1,h2⟩:=Tr h hρ hh (hf.ev x);exact⟨u,w',ρ',jY h1,h2⟩
 case next it str =>
  cases str with
  |true=>exact h.elim
  |false =>
   refine Good.makes fun ρ hρ a w w0 M hf hh=>?_;obtain⟨u,w',ρ',h1,h2⟩:=Xl (ty:=type) h hρ hh (hf.ev it);exact⟨u,w',ρ',jY h1,h2⟩
 case entry it =>
  refine Good.makes fun ρ hρ a w w0 M hf hh=>?_;obtain⟨u,w',ρ',h1,h2⟩:=Tt h hρ hh (hf.ev it);exact⟨u,w',ρ',jY h1,h2⟩
 case call c =>
  obtain⟨callee,args,ts⟩:=c;split at h
  ·rename_i b hb;simp only at hb;subst hb;unfold Dc at h;split at h
   ·simp[jt]at hq
   ·rename_i x y t xt ha ht;have e1:args = #[x,y]:=by cases args;simpa using ha
    have e2:ts = #[t,xt]:=by cases ts;simpa using ht
    subst e1 e2;split at h
    ·rename_i tx htx;cases hs:Tu tx.d
     ·rw[hs]at h;simp only[cond_false]at h;split at h
      ·rename_i ik hik;have hx1:=qG ((hX.ty htx).desc.trans hik);refine Good.makes fun ρ hρ a w w0 M hf hh=>?_;obtain⟨u,w',ρ',h1,h2⟩:=Xb (rt:=type) hX hx1 h hρ hh (hf.ev x) (hf.ev y);exact⟨u,w',ρ',by simp[execOp,resolve,invoke,builtin,h1],h2⟩
      ·exact h.elim
     rw[hs]at h;simp only[cond_true]at h;have hxd:∃xd,X.P.underlying xt=some xd/\(xd = .string\/∃e',xd = .slice e'):=by
      have ty:=hX.ty htx;cases hd:tx.d<;>rw[hd]at hs<;>simp[Tu]at hs
      ·exact⟨_,oO (ty.desc.trans hd),.inl rfl⟩
      ·exact⟨_,cF (ty.desc.trans hd),.inr ⟨_,rfl⟩⟩
     obtain⟨xd,hx1,hx2⟩:=hxd;refine Good.makes fun ρ hρ a w w0 M hf hh=>?_;obtain⟨u,w',ρ',h1,h2⟩:=Xm (rt:=type) hX hx1 hx2 h hρ hh (hf.ev x) (hf.ev y);exact⟨u,w',ρ',by simp[execOp,resolve,invoke,builtin,h1],h2⟩
    ·exact h.elim
   ·simp[jt]at hq
   ·simp[jt]at hq
   ·rename_i x t ha ht;have e1:args = #[x]:=by cases args;simpa using ha
    have e2:ts = #[t]:=by cases ts;simpa using ht
    subst e1 e2;intro w0 M ρ a w hs;obtain⟨w',cR,h1,h2,h3⟩:=S6 (rt:=type) hX h hs.heap (hs.frame.ev x);exact⟨.value (.tuple #[]),w',by simp[execOp,resolve,invoke,builtin,h1],.tuple #[],.inl rfl,.a .any,s.put cR,ρ,h3,rfl,rfl,Env.le.refl ρ,hs.n,trivial,h2⟩
   ·simp[jt]at hq
   ·rename_i x y t xt ha ht;have e1:args = #[x,y]:=by cases args;simpa using ha
    have e2:ts = #[t,xt]:=by cases ts;simpa using ht
    subst e1 e2;intro w0 M ρ a w hs;obtain⟨z,r,w',cR,h1,h2,h3,h4⟩:=Xg (rt:=type) (xt:=xt) hX h hs.heap (hs.frame.ev x) (hs.frame.ev y);exact⟨.value r,w',by simp[execOp,resolve,invoke,builtin,h1],r,.inl rfl,z,s.put cR,ρ,h4,rfl,rfl,Env.le.refl ρ,hs.n,h3,h2⟩
   ·rename_i m k t xt ha ht;have e1:args = #[m,k]:=by cases args;simpa using ha
    have e2:ts = #[t,xt]:=by cases ts;simpa using ht
    subst e1 e2;intro w0 M ρ a w hs;obtain⟨w',cR,h1,h2,h3⟩:=QM (rt:=type) (kt:=xt) h hs.heap (hs.frame.ev m) (hs.frame.ev k);exact⟨.value (.tuple #[]),w',by simp[execOp,resolve,invoke,builtin,h1],.tuple #[],.inl rfl,.a .any,s.put cR,ρ,h3,rfl,rfl,Env.le.refl ρ,hs.n,trivial,h2⟩
   ·exact h.elim
  ·exact h.elim
end
section
def jv(ρ:Env):List SV->List Value->Prop
 |[],vs=>vs=[]
 |x::xs,vs=>∃v r,vs=v::r/\x.cz ρ v/\jv ρ xs r
def vv(X:Cx)(f:Nat)(args:List SV)(s:S)(K:KV):Prop :=
 ∀w0 M (ρ:Env) (w:World) vs,ρ.n=s.nx->aj w0 M ρ s.hp w->jv ρ args vs->Calls X.P f vs.toArray w fun e w'=>∃v,e = .returned v/\Out w0 M ρ s w' v K
abbrev iy:=Nat->List SV->S->KV->Prop
def Kn(X:Cx)(ch:iy):Prop:=∀f args s K,ch f args s K->vv X f args s K
structure abp(P:Program)(f:Nat)(fn:Func):Prop where
 at_:P.funcs[f]? = some fn
 body:fn.body.isSome=true
 name : (fn.name == "runtime.NumGoroutine") = false
structure Fx where
 X:Cx
 F:List (Nat×Func)
 I:List (Nat×List Nat)
structure Fx.Ok(G:Fx):Prop where
 cx:G.X.Ok
 fns:∀p∈G.F,abp G.X.P p.1 p.2
def MG:List (Nat×Func)->Nat->Option Func
 |[],_=>none
 |(j,i)::r,t=>bif Nat.beq j t then some i else MG r t
theorem s9:∀ {l:List (Nat×Func)} {t:Nat} {i:Func},MG l t=some i->(t,i)∈l
 |[],_,_,h=>by simp[MG]at h
 |(j,i')::r,t,i,h=>by
  simp only[MG]at h;by_cases hj:j=t
  ·subst hj;simp only[dz,cond_true,Option.some.injEq]at h;subst h;exact List.mem_cons_self
  ·simp only[fh hj,cond_false]at h;exact List.mem_cons_of_mem _ (s9 h)
def Tz:List (Nat×List Nat)->Nat->Option (List Nat)
 |[],_=>none
 |(j,i)::r,t=>bif Nat.beq j t then some i else Tz r t
def MH(G:Fx)(ch:iy)(o:Oper)(s:S)(K:KV):Prop :=
 match o.op with
 |.call c=>match c.callee with
  |.value f=>match s.ev f with
   |.a (.fn g)=>match MG G.F g with
    |some _=>ch g (c.args.toList.map s.ev) s K
    |none=>False
   |.Cg g xs=>match MG G.F g with
    |some _=>ch g (c.args.toList.map s.ev++xs.map SV.a) s K
    |none=>False
   |_=>False
  |.builtin _=>W0 G.X o s K
  |.invoke _ _=>False
 |_=>W0 G.X o s K
def Ft(o:Oper)(v:SV)(s:S)(K:S->Prop):Prop :=
 match o.dst with
 |none=>K s
 |some d=>bif Nat.blt d s.nt then Hg v fun v=>K (s.set d v)else False
def Dd(X:Cx)(all:List Oper)(o:Oper)(s:S)(run skip:S->Prop):Prop :=
 mark X.SP (match o.dst with|some d=>d|none=>99999) <| match o.guard with
 |none=>run s
 |some (j,want) =>
  match(all[j]?).bind (·.dst)with
  |some d=>match look s.fr d with
   |.a .tt=>bif want then run s else skip s
   |.a .ff=>bif want then skip s else run s
   |.a (.bool b)=>CS X.force b (bif want then run (s.set d (.a .tt))else skip (s.set d (.a .tt))) (bif want then skip (s.set d (.a .ff))else run (s.set d (.a .ff)))
   |.ng []=>skip s
   |_=>False
  |none=>False
def TA(G:Fx)(ch:iy)(all:List Oper):List Oper->S->(S->Prop)->Prop
 |[],s,K=>K s
 |o::r,s,K=>Dd G.X all o s
  (fun s=>MH G ch o s fun v s=>Ft o v s fun s=>TA G ch all r s K)
  (fun s=>Ft o (.ng []) s fun s=>TA G ch all r s K)
theorem ir.set{w0:World}{M:Nat->Prop}{ρ:Env}{s:S}{a:Act}{w:World}(h:ir w0 M ρ s a w){d:Nat}(hd:d<s.nt){sv:SV}{v:Value}(hv:sv.cz ρ v) :
 ir w0 M ρ (s.set d sv) (a.put (some d) v) w where
 defers:=h.defers
 size:=by simpa[Act.put,S.set]using h.size
 n:=h.n
 frame:=h.frame.set (by rw[h.size];exact hd) hv
 heap:=h.heap
theorem ir.Xp{w0:World}{M:Nat->Prop}{ρ:Env}{s:S}{a:Act}{w:World}(h:ir w0 M ρ s a w){d:Nat}{sv:SV}(hv:sv.cz ρ (a.tmps.getD d undef)) :
 ir w0 M ρ (s.set d sv) a w where
 defers:=h.defers
 size:=h.size
 n:=h.n
 frame:=by
  intro j;simp only[S.set,look];by_cases hj:d=j
  ·subst hj;simp only[dz,cond_true];exact hv
  ·simp only[fh hj,cond_false];exact h.frame j
 heap:=h.heap
theorem qn{o:Oper}{sv:SV}{s:S}{K:S->Prop}(h:Ft o sv s K){w0:World}{M:Nat->Prop}{ρ:Env}{a:Act}{w:World}(hs:ir w0 M ρ s a w){v:Value}(hv:sv.cz ρ v) :
 ∃s',K s'/\ir w0 M ρ s' (a.put o.dst v) w:=by
 unfold Ft at h;split at h
 ·rename_i hd;rw[hd];exact⟨s,h,hs⟩
 ·rename_i d hd;cases hb:Nat.blt d s.nt
  ·simp[hb]at h
  ·simp only[hb,cond_true,FM]at h;rw[hd];exact⟨_,h,hs.set (by simp[Nat.blt]at hb;omega) hv⟩
theorem qK{ρ:Env}{s:S}{a:Act}(h:dK ρ s.fr a.tmps):∀l:List Operand,jv ρ (l.map s.ev) (l.map a.eval)
 |[]=>rfl
 |x::l=>⟨a.eval x,l.map a.eval,rfl,h.ev x,qK h l⟩
theorem vw{ρ:Env}{xs:List A}{us:List Value}(h:cE ρ xs us):∀ {l:List SV} {vs:List Value},jv ρ l vs->jv ρ (l++xs.map SV.a) (vs++us)
 |[],vs,hl=>by
  have hl:vs=[]:=hl;subst hl
  induction xs generalizing us with
  |nil=>exact h
  |cons x xs ih =>
   obtain⟨u,t,rfl,r1,r2⟩:=h;exact⟨u,t,rfl,r1,ih r2⟩
 |x::l,vs,hl=>by
  obtain⟨v,r,rfl,h1,h2⟩:=hl;exact⟨v,r++us,rfl,h1,vw h h2⟩
theorem Xq{G:Fx}(hG:G.Ok){ch:iy}(hch:Kn G.X ch){o:Oper}{s:S}{K:KV}(h:MH G ch o s K){w0:World}{M:Nat->Prop}{ρ:Env}{a:Act}{w:World}(hs:ir w0 M ρ s a w)
 {next:Act->World->Prop} {Q:Exit->Act->World->Prop} (hn:∀v w',Out w0 M ρ s w' v K->next (a.put o.dst v) w'):o.wp G.X.P a w next Q:=by
 have plain:∀K,W0 G.X o s K->(∀v w',Out w0 M ρ s w' v K->next (a.put o.dst v) w')->o.wp G.X.P a w next Q:=by
  intro K h hn;obtain⟨r,w',hr,v,hv,hout⟩:=Ty hG.cx h w0 M ρ a w hs;unfold Oper.wp;rw[hr];rcases hv with rfl | ⟨rfl,rfl⟩
  ·exact hn v w' hout
  ·exact hn _ w' hout
 unfold MH at h;split at h
 ·rename_i c hc;split at h
  ·rename_i f hf;split at h
   ·rename_i g hg;split at h
    ·rename_i fn hfn;have hok:=hG.fns _ (s9 hfn);have hev:a.eval f = .func (.func g) #[] #[]:=by have:=hs.frame.ev f;rw[hg]at this;exact this
     have hcall:=hch _ _ _ _ h w0 M ρ w (c.args.toList.map a.eval) hs.n hs.heap (qK hs.frame _);have hrun:(execOp a.eval o).run G.X.P w = .ok (.enter g (c.args.map a.eval)) w:=by
      obtain⟨callee,args,ts⟩:=c;simp only at hf;have hb:fn.body≠none:=by have:=hok.body;cases hh:fn.body<;>simp[hh]at this ⊢
      have hne : fn.name ≠ "runtime.NumGoroutine" := by have := hok.name; simpa using this
      simp[execOp,hc,hf,resolve,hev,Deferred.ofValue,invoke,callFunc,hok.at_,hne,hb]
     unfold Oper.wp;rw[hrun];show Calls G.X.P g _ w _;have e:(c.args.toList.map a.eval).toArray=c.args.map a.eval:=by apply Array.toList_inj.1;simp
     rw[e]at hcall;refine hcall.mono ?_;rintro e w' ⟨v,rfl,hout⟩;exact hn v w' hout
    ·exact h.elim
   ·rename_i g xs hg;split at h
    ·rename_i fn hfn;have hok:=hG.fns _ (s9 hfn);obtain⟨us,hev,hrep⟩:∃us:List Value,a.eval f = .func (.func g) #[] us.toArray/\cE ρ xs us:=by have:=hs.frame.ev f;rw[hg]at this;exact this
     have hcall:=hch _ _ _ _ h w0 M ρ w (c.args.toList.map a.eval++us) hs.n hs.heap (vw hrep (qK hs.frame _));have hrun:(execOp a.eval o).run G.X.P w = .ok (.enter g (c.args.map a.eval++us.toArray)) w:=by
      obtain⟨callee,args,ts⟩:=c;simp only at hf;have hb:fn.body≠none:=by have:=hok.body;cases hh:fn.body<;>simp[hh]at this ⊢
      have hne : fn.name ≠ "runtime.NumGoroutine" := by have := hok.name; simpa using this
      simp[execOp,hc,hf,resolve,hev,Deferred.ofValue,invoke,callFunc,hok.at_,hne,hb]
     unfold Oper.wp;rw[hrun];show Calls G.X.P g _ w _;have e:(c.args.toList.map a.eval++us).toArray=c.args.map a.eval++us.toArray:=by apply Array.toList_inj.1;simp
     rw[e]at hcall;refine hcall.mono ?_;rintro e w' ⟨v,rfl,hout⟩;exact hn v w' hout
    ·exact h.elim
   ·exact h.elim
  ·exact plain K h hn
  ·exact h.elim
 ·exact plain K h hn
theorem w8{X:Cx}{all:List Oper}{o:Oper}{s:S}{run skip:S->Prop}(h:Dd X all o s run skip){w0:World}{M:Nat->Prop}{ρ:Env}{a:Act}{w:World}(hs:ir w0 M ρ s a w) :
 ∃s',s'.nt=s.nt/\ir w0 M ρ s' a w/\s'.hp=s.hp/\((Region.wanted o (yielded all.toArray a.tmps)=true/\run s')\/(Region.wanted o (yielded all.toArray a.tmps)=false/\skip s')):=by
 unfold Dd at h;have h:=Pa h;split at h
 ·rename_i hg;exact⟨s,rfl,hs,rfl,.inl ⟨by simp[Region.wanted,hg],h⟩⟩
 ·rename_i j want hg;split at h
  ·rename_i d hd;have hy:∀b,a.tmps.getD d undef = .bool b->d<a.tmps.size->yielded all.toArray a.tmps j=some b:=by
    intro b hb hlt;unfold yielded;have:(all.toArray[j]?).bind (·.dst)=some d:=by simpa using hd
    rw[this];have e:a.tmps[d]? = some (.bool b):=by
     rw[Array.getElem?_eq_getElem hlt];congr 1;simpa[Array.getD,hlt]using hb
    simp[e]
   have hlt:∀b,a.tmps.getD d undef = .bool b->d<a.tmps.size:=by
    intro b hb;rcases Nat.lt_or_ge d a.tmps.size with h|h
    ·exact h
    ·simp[Array.getD,Nat.not_lt.2 h,undef]at hb
   have wn:∀b,a.tmps.getD d undef = .bool b->Region.wanted o (yielded all.toArray a.tmps)=(b == want):=by
    intro b hb;simp[Region.wanted,hg,hy b hb (hlt b hb)]
   have hf:=hs.frame d;split at h
   ·rename_i e;rw[e]at hf;have hb:a.tmps.getD d undef = .bool true:=hf;refine⟨s,rfl,hs,rfl,?_⟩;rw[wn true hb];cases want
    ·exact .inr ⟨rfl,h⟩
    ·exact .inl ⟨rfl,h⟩
   ·rename_i e;rw[e]at hf;have hb:a.tmps.getD d undef = .bool false:=hf;refine⟨s,rfl,hs,rfl,?_⟩;rw[wn false hb];cases want
    ·exact .inl ⟨rfl,h⟩
    ·exact .inr ⟨rfl,h⟩
   ·rename_i b e;rw[e]at hf;have hb:a.tmps.getD d undef = .bool b:=hf;rw[wn b hb];have h:=Ad h;cases b
    ·refine⟨s.set d (.a .ff),rfl,hs.Xp (d:=d) (sv:=.a .ff) hb,rfl,?_⟩;have h:=h.2 rfl;cases want
     ·exact .inl ⟨rfl,h⟩
     ·exact .inr ⟨rfl,h⟩
    ·refine⟨s.set d (.a .tt),rfl,hs.Xp (d:=d) (sv:=.a .tt) hb,rfl,?_⟩;have h:=h.1 rfl;cases want
     ·exact .inr ⟨rfl,h⟩
     ·exact .inl ⟨rfl,h⟩
   ·rename_i e;rw[e]at hf;obtain⟨vs,hv,hvs⟩:=hf;have hvs:vs=[]:=hvs;subst hvs;refine⟨s,rfl,hs,rfl,.inr ⟨?_,h⟩⟩;have hy:yielded all.toArray a.tmps j=none:=by
     unfold yielded;have:(all.toArray[j]?).bind (·.dst)=some d:=by simpa using hd
     rw[this];by_cases hlt:d<a.tmps.size
     ·have e:a.tmps[d]? = some (.tuple #[]):=by
       rw[Array.getElem?_eq_getElem hlt];congr 1;simpa[Array.getD,hlt]using hv
      simp[e]
     ·simp[Array.getElem?_eq_none (Nat.not_lt.1 hlt)]
    simp[Region.wanted,hg,hy]
   ·exact h.elim
  ·exact h.elim
theorem Out.sat{w0:World}{M:Nat->Prop}{ρ:Env}{s:S}{a:Act}{w w':World}{v:Value}{K:KV}(hs:ir w0 M ρ s a w)(h:Out w0 M ρ s w' v K) :
 ∃sv s' ρ',K sv s'/\ρ.le ρ'/\sv.cz ρ' v/\ir w0 M ρ' s' a w':=by
 obtain⟨sv,s',ρ',h1,h2,h3,h4,h5,h6,h7⟩:=h;exact⟨sv,s',ρ',h1,h4,h6,hs.defers,hs.size.trans h2.symm,h5,by rw[h3];exact hs.frame.mono h4,h7⟩
theorem Hx{G:Fx}(hG:G.Ok){ch:iy}(hch:Kn G.X ch){all:List Oper}{w0:World}{M:Nat->Prop}{Q:Exit->Act->World->Prop}{K:S->Prop}:∀(l:List Oper) (s:S) (ρ:Env) (a:Act) (w:World),TA G ch all l s K->ir w0 M ρ s a w ->
 (∀s' ρ' a' w',K s'->ρ.le ρ'->ir w0 M ρ' s' a' w'->Q .normal a' w')->wpList G.X.P all.toArray Q l a w
 |[],s,ρ,a,w,h,hs,hQ=>hQ s ρ a w h (Env.le.refl ρ) hs
 |o::r,s,ρ,a,w,h,hs,hQ=>by
  simp only[TA]at h;obtain⟨s',_,hs',_,hcase⟩:=w8 h hs;unfold wpList;rcases hcase with⟨hw,h⟩ | ⟨hw,h⟩
  ·rw[if_pos hw];refine .inl (Xq hG hch h hs' fun v w' hout=>?_);obtain⟨sv,s'',ρ',hK,hle,hv,hs''⟩:=hout.sat hs';obtain⟨s3,h3,hs3⟩:=qn hK hs'' hv;exact Hx hG hch r s3 ρ' _ w' h3 hs3 fun s4 ρ4 a4 w4 k hl hs4=>hQ s4 ρ4 a4 w4 k (hle.trans hl) hs4
  ·rw[if_neg (by simp[hw])];obtain⟨s3,h3,hs3⟩:=qn h hs' (v:=undef) ⟨[],rfl,rfl⟩;exact Hx hG hch r s3 ρ _ w h3 hs3 hQ
end
section
variable {P:Program} {ops:Array Oper} {Q:Exit->Act->World->Prop}
def Zt(ops:Array Oper)(i j:Nat):Prop:=∃o,ops[j]? = some o/\∃e∈o.after,Region.binds .any e=true/\e.on=i
inductive Ao(ops:Array Oper):Nat->Nat->Prop where
 |one {i j:Nat}:Zt ops i j->Ao ops i j
 |step {i j k:Nat}:Ao ops i j->Zt ops j k->Ao ops i k
structure DE where
 i:Nat
 o:Oper
 v:Value
 m:Sem Next
 wanted:Bool
def kO(a:Act)(D:List DE):Act:=D.foldl (fun a d=>a.put d.o.dst d.v) a
theorem iZ(a:Act)(D D':List DE):kO a (D++D')=kO (kO a D) D':=by simp[kO]
theorem qw(a:Act)(d:DE)(D:List DE):kO a (d::D)=kO (a.put d.o.dst d.v) D:=rfl
def Fu(P:Program)(m:Sem Next)(w:World)(R:Value->World->Prop):Prop :=
 (∃v w',(m.run P w = .ok (.value v) w'\/(m.run P w = .ok .skip w'/\v=undef))/\R v w') \/
 (∃f args,m.run P w = .ok (.enter f args) w/\Calls P f args w fun e w'=>∃v,e = .returned v/\R v w')
theorem Fu.wp{o:Oper}{a:Act}{w:World}{R:Value->World->Prop}(h:Fu P (execOp a.eval o) w R){next:Act->World->Prop}(hn:∀v w',R v w'->next (a.put o.dst v) w'):o.wp P a w next Q:=by
 unfold Oper.wp;rcases h with⟨v,w',h | ⟨h,rfl⟩,hr⟩ | ⟨f,args,h,hc⟩
 ·rw[h];exact hn _ _ hr
 ·rw[h];exact hn _ _ hr
 ·rw[h];refine hc.mono ?_;rintro e w' ⟨v,rfl,hr⟩;exact hn _ _ hr
def pG(P:Program)(ops:Array Oper)(iV:Nat->Nat->Bool)(Q:Act->World->Prop):List (Nat×Bool)->List (Nat×Sem Next×Value)->Act->World->Prop
 |[],_,a,w=>Q a w
 |(i,loud)::r,E,a,w =>
  match ops[i]? with
  |none=>False
  |some o =>
   if Region.wanted o (yielded ops a.tmps)=true then
    if loud=true then Fu P (execOp a.eval o) w fun v w'=>(∀e∈E,iV e.1 i=false->e.2.1.run P w' = .ok (.value e.2.2) w')/\pG P ops iV Q r (E.filter fun e=>!iV e.1 i) (a.put o.dst v) w'
    else ∃v,(execOp a.eval o).run P w = .ok (.value v) w/\pG P ops iV Q r ((i,execOp a.eval o,v)::E) (a.put o.dst v) w
   else pG P ops iV Q r E (a.put o.dst undef) w
def ta(o:Oper):Bool:=match o.op with | .select _ _=>false|_=>true
theorem De{o:Oper}(h:ta o=true):∀cs b,o.op≠.select cs b:=by
 intro cs b e;simp[ta,e]at h
theorem qL{o:Oper}(hs:ta o=true):∀(D:List DE) (a:Act),(∀d∈D,d.o.apart ops o=true)->execOp (kO a D).eval o=execOp a.eval o/\Region.wanted o (yielded ops (kO a D).tmps)=Region.wanted o (yielded ops a.tmps)
 |[],_,_=>⟨rfl,rfl⟩
 |d::D,a,h=>by
  obtain⟨h1,_,_⟩:=Oper.apart_spec (h d List.mem_cons_self);obtain⟨e1,e2⟩:=qL hs D (a.put d.o.dst d.v) fun x hx=>h x (List.mem_cons_of_mem _ hx);rw[qw];exact⟨e1.trans (execOp_put o (De hs) a d.o.dst d.v h1),e2.trans (wanted_put o a d.o.dst d.v h1)⟩
theorem mA{o:Oper}(u:Value):∀(D:List DE) (a:Act),(∀d∈D,d.o.apart ops o=true)->kO (a.put o.dst u) D=(kO a D).put o.dst u
 |[],_,_=>rfl
 |d::D,a,h=>by
  obtain⟨_,h2,_⟩:=Oper.apart_spec (h d List.mem_cons_self);rw[qw,qw,<- mA u D _ fun x hx=>h x (List.mem_cons_of_mem _ hx)];rw[Act.put_comm a d.v u h2]
def aN(P:Program)(ops:Array Oper)(w:World):Act->List DE->Prop
 |_,[]=>True
 |a,d::D=>Region.wanted d.o (yielded ops a.tmps)=d.wanted/\(d.wanted=true->execOp a.eval d.o=d.m/\d.m.run P w = .ok (.value d.v) w)/\(d.wanted=false->d.v=undef)/\aN P ops w (a.put d.o.dst d.v) D
theorem aN.append{w:World}:∀ {D D':List DE} {a:Act},aN P ops w a D->aN P ops w (kO a D) D'->aN P ops w a (D++D')
 |[],_,_,_,h=>h
 |_::_,_,_,⟨h1,h2,h3,h4⟩,h=>⟨h1,h2,h3,aN.append h4 h⟩
theorem aN.right{w:World}:∀ {D D':List DE} {a:Act},aN P ops w a (D++D')->aN P ops w (kO a D) D'
 |[],_,_,h=>h
 |d::_,D',a,⟨_,_,_,h4⟩=>by rw[qw];exact aN.right h4
theorem aN.left{w:World}:∀ {D D':List DE} {a:Act},aN P ops w a (D++D')->aN P ops w a D
 |[],_,_,_=>trivial
 |_::_,_,_,⟨h1,h2,h3,h4⟩=>⟨h1,h2,h3,aN.left h4⟩
theorem aN.other{w:World}{o:Oper}{u:Value}:∀ {D:List DE} {a:Act},(∀d∈D,d.o.apart ops o=true/\ta d.o=true)->aN P ops w a D->aN P ops w (a.put o.dst u) D
 |[],_,_,_=>trivial
 |d::D,a,h,⟨h1,h2,h3,h4⟩=>by
  obtain⟨hap,hs⟩:=h d List.mem_cons_self;obtain⟨_,g2,g3⟩:=Oper.apart_spec hap;refine⟨(wanted_put d.o a o.dst u g3).trans h1,fun hw=>?_,h3,?_⟩
  ·obtain⟨q1,q2⟩:=h2 hw;exact⟨(execOp_put d.o (De hs) a o.dst u g3).trans q1,q2⟩
  ·have e:(a.put o.dst u).put d.o.dst d.v=(a.put d.o.dst d.v).put o.dst u:=Act.put_comm a u d.v fun x hx hd=>g2 x hd hx;rw[e];exact aN.other (fun x hx=>h x (List.mem_cons_of_mem _ hx)) h4
theorem aN.world{w w':World}:∀ {D:List DE} {a:Act},(∀d∈D,d.wanted=true->d.m.run P w' = .ok (.value d.v) w')->aN P ops w a D->aN P ops w' a D
 |[],_,_,_=>trivial
 |d::_,_,h,⟨h1,h2,h3,h4⟩=>⟨h1,fun hw=>⟨(h2 hw).1,h d List.mem_cons_self hw⟩,h3,aN.world (fun x hx=>h x (List.mem_cons_of_mem _ hx)) h4⟩
structure fN(ops:Array Oper)(listed:Array Bool)(xs:List Nat):Prop where
 size:listed.size=ops.size
 lt:∀x∈xs,x<ops.size
 un:∀x∈xs,listed.getD x true=false
 nodup:xs.Nodup
 all:∀k,k<ops.size->listed.getD k true=true\/k∈xs
 real:∀i j,Zt ops i j->listed.getD j false=true->listed.getD i false=true
 Zu:xs.Pairwise fun x y=>¬Ao ops y x
structure Ck(ops:Array Oper)(iV:Nat->Nat->Bool):Prop where
 apart:∀(i j:Nat) (oi oj:Oper),ops[i]? = some oi->ops[j]? = some oj->i≠j->Ao ops i j\/Ao ops j i\/oi.apart ops oj=true
 SK:∀(i:Nat) (o:Oper),ops[i]? = some o->ta o=true
 iV:∀i j,j<ops.size->iV i j=true->Ao ops i j
 lt:∀i j,Zt ops i j->i≠j/\i<ops.size
theorem yd{x y:Oper}(h:x.apart ops y=true):y.apart ops x=true:=by
 obtain⟨h1,h2,h3⟩:=Oper.apart_spec h;unfold Oper.apart;cases hx:x.dst with
 |none =>
  cases hy:y.dst with
  |none=>rfl
  |some d =>
   have:=h3 d hy
   simp_all
 |some e =>
  have g1:=h1 e hx;cases hy:y.dst with
  |none=>simp_all
  |some d =>
   have g2:=h2 e hx;have g3:=h3 d hy;rw[hy]at g2;have:e≠d:=fun h=>g2 (by rw[h])
   simp_all
theorem Pm{listed:Array Bool}{n i:Nat}(hs:listed.size=n)(hi:i<n)(b:Bool):listed.getD i true=b↔listed.getD i false=b:=by
 simp[Array.getD,hs,hi]
theorem kS{listed:Array Bool}{i:Nat}(h:i∈Region.ready .any ops listed):i<ops.size/\listed.getD i true=false/\∀j,Zt ops j i->listed.getD j false=true:=by
 obtain⟨h2,o,ho,hall⟩:=mem_ready.1 h;refine⟨(Array.getElem?_eq_some_iff.1 ho).1,h2,?_⟩;rintro j ⟨o',ho',e,he,hb,rfl⟩;rw[ho]at ho';cases ho';exact hall e he hb
theorem KJ{listed:Array Bool}{i:Nat}(h1:i<ops.size)(h2:listed.getD i true=false)(h3:∀j,Zt ops j i->listed.getD j false=true):i∈Region.ready .any ops listed :=
 mem_ready.2 ⟨h2,ops[i],Array.getElem?_eq_getElem h1,fun e he hb=>h3 e.on ⟨_,Array.getElem?_eq_getElem h1,e,he,hb,rfl⟩⟩
theorem fN.Xr{listed:Array Bool}{xs:List Nat}(h:fN ops listed xs){i j:Nat}(ha:Ao ops i j)(hj:listed.getD j false=true):listed.getD i false=true:=by
 induction ha with
 |one d=>exact h.real _ _ d hj
 |step _ d ih=>exact ih (h.real _ _ d hj)
theorem QO{listed:Array Bool}{xs:List Nat}(h:fN ops listed xs){i j:Nat}(hr:i∈Region.ready .any ops listed)(ha:Ao ops j i):listed.getD j false=true:=by
 obtain⟨_,_,h3⟩:=kS hr;cases ha with
 |one d=>exact h3 _ d
 |step ha d=>exact h.Xr ha (h3 _ d)
theorem mT{listed:Array Bool}{xs:List Nat}(h:fN ops listed xs){i j:Nat}(hr:i∈Region.ready .any ops listed)(hj:j∈xs):¬Ao ops j i:=by
 intro ha;have h1:=QO h hr ha;have h2:=h.un j hj;rw[Pm h.size (h.lt j hj)]at h2;rw[h2]at h1;cases h1
theorem fN.take{listed:Array Bool}{L R:List Nat}{i:Nat}(h:fN ops listed (L++i::R))(hr:i∈Region.ready .any ops listed):fN ops (listed.setIfInBounds i true) (L++R):=by
 obtain⟨hlt,hun,hdep⟩:=kS hr;have hsub:(L++R).Sublist (L++i::R):=List.Sublist.append (List.Sublist.refl L) (List.sublist_cons_self i R);have hne:∀x∈L++R,x≠i:=by
  intro x hx e;subst e;have:=h.nodup;rw[List.nodup_append]at this;obtain⟨_,h2,h3⟩:=this;rcases List.mem_append.1 hx with hx|hx
  ·exact h3 x hx x List.mem_cons_self rfl
  ·exact(List.nodup_cons.1 h2).1 hx
 have setf:∀k,listed.getD k false=true->(listed.setIfInBounds i true).getD k false=true:=by
  intro k hk;by_cases hki:i=k
  ·subst hki;simp[Array.getD,h.size,hlt]
  ·rw[getD_set_ne false hki];exact hk
 refine⟨by simpa using h.size,fun x hx=>h.lt x (hsub.subset hx),?_,h.nodup.sublist hsub,?_,?_,h.Zu.sublist hsub⟩
 ·intro x hx;rw[getD_set_ne true (Ne.symm (hne x hx))];exact h.un x (hsub.subset hx)
 ·intro k hk;by_cases hki:i=k
  ·subst hki;left;simp[Array.getD,h.size,hlt]
  ·rw[getD_set_ne true hki];rcases h.all k hk with h'|h'
   ·exact .inl h'
   ·right;simp only[List.mem_append,List.mem_cons]at h' ⊢;rcases h' with h'|h'|h'
    ·exact .inl h'
    ·exact absurd h'.symm hki
    ·exact .inr h'
 ·intro k j hd hj;apply setf;by_cases hji:i=j
  ·subst hji;exact hdep k hd
  ·rw[getD_set_ne false hji]at hj;exact h.real k j hd hj
theorem fN.head{iV:Nat->Nat->Bool}(hf:Ck ops iV){listed:Array Bool}{x:Nat}{xs:List Nat}(h:fN ops listed (x::xs)):x∈Region.ready .any ops listed:=by
 refine KJ (h.lt x List.mem_cons_self) (h.un x List.mem_cons_self) fun j hd=>?_;obtain⟨hne,hlt⟩:=hf.lt _ _ hd;rw[<- Pm h.size hlt];rcases h.all j hlt with h'|h'
 ·exact h'
 ·rcases List.mem_cons.1 h' with rfl|h'
  ·exact absurd rfl hne
  ·exact absurd (.one hd) ((List.pairwise_cons.1 h.Zu).1 j h')
theorem mU{iV:Nat->Nat->Bool}(hf:Ck ops iV){listed:Array Bool}{L R:List Nat}{i:Nat}(h:fN ops listed (L++i::R))(hr:i∈Region.ready .any ops listed){j:Nat}(hj:j∈L){oi oj:Oper}(hoi:ops[i]? = some oi)(hoj:ops[j]? = some oj):oj.apart ops oi=true:=by
 have hne:j≠i:=by
  rintro rfl;exact(List.nodup_append.1 h.nodup).2.2 j hj j List.mem_cons_self rfl
 rcases hf.apart j i oj oi hoj hoi hne with h'|h'|h'
 ·exact absurd h' (mT h hr (List.mem_append_left _ hj))
 ·exact absurd h' ((List.pairwise_append.1 h.Zu).2.2 j hj i List.mem_cons_self)
 ·exact h'
def nj(ops:Array Oper)(pi:List (Nat×Bool)):Prop:=∀(L R:List (Nat×Bool)) (h:Nat),pi=L++(h,true)::R->∀q∈R,Ao ops h q.1
theorem nj.drop{L R:List (Nat×Bool)}(h:nj ops (L++R)):nj ops R:=fun L' R' x e=>h (L++L') R' x (by rw[e];simp)
theorem advance{iV:Nat->Nat->Bool}{Q:Act->World->Prop}:∀(L R:List (Nat×Bool)) (E:List (Nat×Sem Next×Value)) (a:Act) (w:World),(∀p∈L,p.2=false)->pG P ops iV Q (L++R) E a w ->
 ∃D E',D.map (·.i)=L.map (·.1)/\(∀d∈D,ops[d.i]? = some d.o)/\aN P ops w a D/\(∀e∈E,e∈E')/\(∀d∈D,d.wanted=true->(d.i,d.m,d.v)∈E')/\pG P ops iV Q R E' (kO a D) w
 |[],R,E,a,w,_,h=>⟨[],E,rfl,fun d hd=>(by cases hd),trivial,fun e he=>he,fun d hd=>(by cases hd),h⟩
 |(i,b)::L,R,E,a,w,hq,h=>by
  have hb:b=false:=hq (i,b) List.mem_cons_self;subst hb;simp only[List.cons_append,pG]at h;cases ho:ops[i]? with
  |none=>rw[ho]at h;exact h.elim
  |some o =>
   rw[ho]at h;simp only at h;by_cases hw:Region.wanted o (yielded ops a.tmps)=true
   ·rw[if_pos hw]at h;simp only[Bool.false_eq_true,if_false]at h;obtain⟨v,hv,h⟩:=h;obtain⟨D,E',e1,e2,e3,e4,e5,e6⟩:=advance L R _ _ w (fun p hp=>hq p (List.mem_cons_of_mem _ hp)) h;refine⟨⟨i,o,v,execOp a.eval o,true⟩::D,E',by simp[e1],?_,⟨hw,fun _=>⟨rfl,hv⟩,fun h=>(by cases h),e3⟩,fun e he=>e4 e (List.mem_cons_of_mem _ he),?_,e6⟩
    ·intro d hd;rcases List.mem_cons.1 hd with rfl|hd
     ·exact ho
     ·exact e2 d hd
    ·intro d hd hw;rcases List.mem_cons.1 hd with rfl|hd
     ·exact e4 _ List.mem_cons_self
     ·exact e5 d hd hw
   ·rw[if_neg hw]at h;obtain⟨D,E',e1,e2,e3,e4,e5,e6⟩:=advance L R _ _ w (fun p hp=>hq p (List.mem_cons_of_mem _ hp)) h;refine⟨⟨i,o,undef,.pure .skip,false⟩::D,E',by simp[e1],?_,⟨by simpa using hw,fun h=>(by cases h),fun _=>rfl,e3⟩,e4,?_,e6⟩
    ·intro d hd;rcases List.mem_cons.1 hd with rfl|hd
     ·exact ho
     ·exact e2 d hd
    ·intro d hd hw;rcases List.mem_cons.1 hd with rfl|hd
     ·cases hw
     ·exact e5 d hd hw
theorem tS{iV:Nat->Nat->Bool}(hf:Ck ops iV){Q:Act->World->Prop}{Q':Exit->Act->World->Prop}(hQ:∀a w,Q a w->Q' .normal a w):∀(fuel:Nat) (D:List DE) (pi:List (Nat×Bool)) (E:List (Nat×Sem Next×Value)) (listed:Array Bool) (a:Act) (w:World),
 D.length+pi.length=fuel->fN ops listed (D.map (·.i)++pi.map (·.1))->(∀d∈D,ops[d.i]? = some d.o)->nj ops pi->aN P ops w a D->(∀d∈D,d.wanted=true->(d.i,d.m,d.v)∈E) ->
 pG P ops iV Q pi E (kO a D) w->wpAny P .any ops Q' fuel listed a w:=by
 intro fuel
 induction fuel with
 |zero =>
  intro D pi E listed a w hlen hst hop hlo hpr hE hrun;have hD:D=[]:=by cases D<;>simp_all
  have hp:pi=[]:=by cases pi<;>simp_all
  subst hD hp;refine⟨?_,hQ _ _ hrun⟩;apply List.eq_nil_iff_forall_not_mem.2;intro i hi;obtain⟨h1,h2,_⟩:=kS hi;rcases hst.all i h1 with h|h
  ·rw[h]at h2;cases h2
  ·cases h
 |succ fuel ih =>
  intro D pi E listed a w hlen hst hop hlo hpr hE hrun;refine⟨?_,?_⟩
  ·intro h0;cases hx:D.map (·.i)++pi.map (·.1)with
   |nil =>
    have:=congrArg List.length hx;simp only[List.length_append,List.length_map,List.length_nil]at this;omega
   |cons x xs =>
    rw[hx]at hst;have:=hst.head hf;rw[h0]at this;cases this
  ·intro i hi;obtain⟨hilt,hiun,_⟩:=kS hi;have key:∀(D:List DE) (b:Bool) (R:List (Nat×Bool)) (E:List (Nat×Sem Next×Value)),D.length+R.length=fuel->fN ops listed (D.map (·.i)++i::R.map (·.1))->(∀d∈D,ops[d.i]? = some d.o)->nj ops ((i,b)::R)->aN P ops w a D->(∀d∈D,d.wanted=true->(d.i,d.m,d.v)∈E) ->
    pG P ops iV Q ((i,b)::R) E (kO a D) w->wpOp P ops Q' i (wpAny P .any ops Q' fuel (listed.setIfInBounds i true)) a w:=by
    intro D b R E hlen hst hop hlo hpr hE hrun;have hst':=hst.take hi;simp only[pG]at hrun;unfold wpOp;cases ho:ops[i]? with
    |none=>rw[ho]at hrun;exact hrun.elim
    |some o =>
     rw[ho]at hrun;simp only at hrun ⊢;have hap:∀d∈D,d.o.apart ops o=true:=fun d hd=>mU hf hst hi (List.mem_map_of_mem hd) ho (hop d hd);have hap':∀d∈D,o.apart ops d.o=true:=fun d hd=>yd (hap d hd);have hselo:=hf.SK i o ho;have hseld:∀d∈D,d.o.apart ops o=true/\ta d.o=true:=fun d hd=>⟨hap d hd,hf.SK d.i d.o (hop d hd)⟩
     obtain⟨e1,e2⟩:=qL hselo D a hap;rw[e1,e2]at hrun;have hlo':nj ops R:=nj.drop (L:=[(i,b)]) hlo;by_cases hw:Region.wanted o (yielded ops a.tmps)=true
     ·rw[if_pos hw]at hrun ⊢;refine .inl ?_;cases b with
      |true =>
       simp only[if_true]at hrun;refine hrun.wp fun v w' ⟨hst2,hr⟩=>?_;rw[<- mA v D a hap]at hr;have hna:∀d∈D,iV d.i i=false:=fun d hd=>by
        cases hc:iV d.i i with
        |false=>rfl
        |true=>exact absurd (hf.iV _ _ hilt hc) (mT hst hi (List.mem_append_left _ (List.mem_map_of_mem hd)))
       refine ih D R _ _ _ w' hlen hst' hop hlo' ?_ (fun d hd hdw=>List.mem_filter.2 ⟨hE d hd hdw,by rw[hna d hd];rfl⟩) hr;refine aN.world (fun d hd hdw=>?_) (aN.other hseld hpr);exact hst2 (d.i,d.m,d.v) (hE d hd hdw) (hna d hd)
      |false =>
       simp only[Bool.false_eq_true,if_false]at hrun;obtain⟨v,hv,hr⟩:=hrun;unfold Oper.wp;rw[hv];rw[<- mA v D a hap]at hr;exact ih D R _ _ _ w hlen hst' hop hlo' (aN.other hseld hpr) (fun d hd hdw=>List.mem_cons_of_mem _ (hE d hd hdw)) hr
     ·rw[if_neg hw]at hrun ⊢;rw[<- mA undef D a hap]at hrun;exact ih D R E _ _ w hlen hst' hop hlo' (aN.other hseld hpr) hE hrun
   have hmem:i∈D.map (·.i)++pi.map (·.1):=by
    rcases hst.all i hilt with h|h
    ·rw[h]at hiun;cases hiun
    ·exact h
   rcases List.mem_append.1 hmem with hm|hm
   ·obtain⟨d,hd,hdi⟩:=List.mem_map.1 hm;obtain⟨D1,D2,rfl⟩:=List.append_of_mem hd;have hdo:ops[i]? = some d.o:=by rw[<- hdi];exact hop d hd
    have hst2:fN ops listed (D1.map (·.i)++i::(D2.map (·.i)++pi.map (·.1))):=by
     have e:(D1++d::D2).map (·.i)++pi.map (·.1)=D1.map (·.i)++i::(D2.map (·.i)++pi.map (·.1)):=by simp[hdi]
     rw[e]at hst;exact hst
    have hap:∀x∈D1,x.o.apart ops d.o=true:=fun x hx=>mU hf hst2 hi (List.mem_map_of_mem hx) hdo (hop x (List.mem_append_left _ hx));have hseld:∀x∈D1,x.o.apart ops d.o=true/\ta x.o=true:=fun x hx=>⟨hap x hx,hf.SK x.i x.o (hop x (List.mem_append_left _ hx))⟩
    obtain⟨e1,e2⟩:=qL (hf.SK i d.o hdo) D1 a hap;have hr:=aN.right hpr;have hl:=aN.left hpr;obtain⟨g1,g2,g3,g4⟩:=hr;rw[e2]at g1;rw[e1]at g2;have hnew:aN P ops w (a.put d.o.dst d.v) (D1++D2):=by
     refine aN.append (aN.other hseld hl) ?_;rw[mA d.v D1 a hap];exact g4
    have hputs:kO a (D1++d::D2)=kO (a.put d.o.dst d.v) (D1++D2):=by
     rw[iZ,qw,iZ,mA d.v D1 a hap]
    have hst3:fN ops (listed.setIfInBounds i true) ((D1++D2).map (·.i)++pi.map (·.1)):=by
     have:=hst2.take hi;simpa using this
    have hnext:wpAny P .any ops Q' fuel (listed.setIfInBounds i true) (a.put d.o.dst d.v) w:=by
     refine ih (D1++D2) pi E _ _ w (by simp at hlen ⊢;omega) hst3 ?_ hlo hnew ?_ (by rw[<- hputs];exact hrun)
     ·intro x hx;refine hop x ?_;simp only[List.mem_append,List.mem_cons]at hx ⊢;rcases hx with h|h
      ·exact .inl h
      ·exact .inr (.inr h)
     ·intro x hx;refine hE x ?_;simp only[List.mem_append,List.mem_cons]at hx ⊢;rcases hx with h|h
      ·exact .inl h
      ·exact .inr (.inr h)
    unfold wpOp;rw[hdo];simp only;cases hdw:d.wanted with
    |true =>
     rw[hdw]at g1;rw[if_pos g1];obtain⟨q1,q2⟩:=g2 hdw;refine .inl ?_;unfold Oper.wp;rw[q1,q2];exact hnext
    |false =>
     rw[hdw]at g1;rw[if_neg (by simp[g1])];rw[g3 hdw]at hnext;exact hnext
   ·obtain⟨p,hp,hpi⟩:=List.mem_map.1 hm;obtain⟨L,R,rfl⟩:=List.append_of_mem hp;obtain⟨i',b⟩:=p;simp only at hpi;subst hpi;have hq:∀p∈L,p.2=false:=by
     intro p hpL;cases hb:p.2 with
     |false=>rfl
     |true =>
      obtain⟨L1,L2,rfl⟩:=List.append_of_mem hpL;have:Ao ops p.1 i':=hlo L1 (L2++(i',b)::R) p.1 (by rw[<- hb];simp) (i',b) (by simp);exact absurd this (mT hst hi (List.mem_append_right _ (List.mem_map_of_mem (List.mem_append_left _ hpL))))
    obtain⟨D',E',f1,f2,f3,f4,f5,f6⟩:=advance L ((i',b)::R) E _ w hq hrun;refine key (D++D') b R E' ?_ ?_ ?_ (nj.drop hlo) (aN.append hpr f3) ?_ ?_
    ·have:=congrArg List.length f1;simp at this hlen ⊢;omega
    ·have e:(D++D').map (·.i)++i'::R.map (·.1)=D.map (·.i)++(L++(i',b)::R).map (·.1):=by simp[f1]
     rw[e];exact hst
    ·intro d hd;rcases List.mem_append.1 hd with h|h
     ·exact hop d h
     ·exact f2 d h
    ·intro d hd hdw;rcases List.mem_append.1 hd with h|h
     ·exact f4 _ (hE d h hdw)
     ·exact f5 d h hdw
    ·rw[iZ];exact f6
end
section
variable {P:Program} {ops:Array Oper}
theorem QS{iV:Nat->Nat->Bool}(hf:Ck ops iV){Q:Act->World->Prop}{Q':Exit->Act->World->Prop}{fuel:Nat}{listed:Array Bool}{a:Act}{w:World}{i:Nat}(hi:i∈Region.ready .any ops listed)
 {D:List DE} {b:Bool} {R:List (Nat×Bool)} {E:List (Nat×Sem Next×Value)}
 (ih:∀(E:List (Nat×Sem Next×Value)) (listed:Array Bool) (a:Act) (w:World),fN ops listed (D.map (·.i)++R.map (·.1))->aN P ops w a D->(∀d∈D,d.wanted=true->(d.i,d.m,d.v)∈E)->pG P ops iV Q R E (kO a D) w->wpAny P .any ops Q' fuel listed a w)
 (hst:fN ops listed (D.map (·.i)++i::R.map (·.1))) (hop:∀d∈D,ops[d.i]? = some d.o) (hpr:aN P ops w a D) (hE:∀d∈D,d.wanted=true->(d.i,d.m,d.v)∈E)
 (hrun:pG P ops iV Q ((i,b)::R) E (kO a D) w):wpOp P ops Q' i (wpAny P .any ops Q' fuel (listed.setIfInBounds i true)) a w:=by
 obtain⟨hilt,hiun,_⟩:=kS hi;have hst':=hst.take hi;simp only[pG]at hrun;unfold wpOp;cases ho:ops[i]? with
 |none=>rw[ho]at hrun;exact hrun.elim
 |some o =>
  rw[ho]at hrun;simp only at hrun ⊢;have hap:∀d∈D,d.o.apart ops o=true:=fun d hd=>mU hf hst hi (List.mem_map_of_mem hd) ho (hop d hd);have hap':∀d∈D,o.apart ops d.o=true:=fun d hd=>yd (hap d hd);have hselo:=hf.SK i o ho;have hseld:∀d∈D,d.o.apart ops o=true/\ta d.o=true:=fun d hd=>⟨hap d hd,hf.SK d.i d.o (hop d hd)⟩
  obtain⟨e1,e2⟩:=qL hselo D a hap;rw[e1,e2]at hrun;by_cases hw:Region.wanted o (yielded ops a.tmps)=true
  ·rw[if_pos hw]at hrun ⊢;refine .inl ?_;cases b with
   |true =>
    simp only[if_true]at hrun;refine hrun.wp fun v w' ⟨hst2,hr⟩=>?_;rw[<- mA v D a hap]at hr;have hna:∀d∈D,iV d.i i=false:=fun d hd=>by
     cases hc:iV d.i i with
     |false=>rfl
     |true=>exact absurd (hf.iV _ _ hilt hc) (mT hst hi (List.mem_append_left _ (List.mem_map_of_mem hd)))
    refine ih _ _ _ w' hst' ?_ (fun d hd hdw=>List.mem_filter.2 ⟨hE d hd hdw,by rw[hna d hd];rfl⟩) hr;refine aN.world (fun d hd hdw=>?_) (aN.other hseld hpr);exact hst2 (d.i,d.m,d.v) (hE d hd hdw) (hna d hd)
   |false =>
    simp only[Bool.false_eq_true,if_false]at hrun;obtain⟨v,hv,hr⟩:=hrun;unfold Oper.wp;rw[hv];rw[<- mA v D a hap]at hr;exact ih _ _ _ w hst' (aN.other hseld hpr) (fun d hd hdw=>List.mem_cons_of_mem _ (hE d hd hdw)) hr
  ·rw[if_neg hw]at hrun ⊢;rw[<- mA undef D a hap]at hrun;exact ih E _ _ w hst' (aN.other hseld hpr) hE hrun
theorem Df{iV:Nat->Nat->Bool}(hf:Ck ops iV){Q':Exit->Act->World->Prop}{fuel:Nat}{listed:Array Bool}{a:Act}{w:World}{i:Nat}(hi:i∈Region.ready .any ops listed)
 {D:List DE} {X:List Nat} {E:List (Nat×Sem Next×Value)} {C:List (Nat×Sem Next×Value)->Act->Prop}
 (ih:∀(E:List (Nat×Sem Next×Value)) (a:Act),aN P ops w a D->(∀d∈D,d.wanted=true->(d.i,d.m,d.v)∈E)->C E (kO a D)->wpAny P .any ops Q' fuel (listed.setIfInBounds i true) a w)
 (hst:fN ops listed (D.map (·.i)++i::X)) (hop:∀d∈D,ops[d.i]? = some d.o) (hpr:aN P ops w a D) (hE:∀d∈D,d.wanted=true->(d.i,d.m,d.v)∈E) {o:Oper} (ho:ops[i]? = some o)
 (hrun:if Region.wanted o (yielded ops (kO a D).tmps)=true then ∃v,(execOp (kO a D).eval o).run P w = .ok (.value v) w/\C ((i,execOp (kO a D).eval o,v)::E) ((kO a D).put o.dst v)else C E ((kO a D).put o.dst undef)) :
 wpOp P ops Q' i (wpAny P .any ops Q' fuel (listed.setIfInBounds i true)) a w:=by
 unfold wpOp;rw[ho];simp only;have hap:∀d∈D,d.o.apart ops o=true:=fun d hd=>mU hf hst hi (List.mem_map_of_mem hd) ho (hop d hd);have hselo:=hf.SK i o ho;have hseld:∀d∈D,d.o.apart ops o=true/\ta d.o=true:=fun d hd=>⟨hap d hd,hf.SK d.i d.o (hop d hd)⟩
 obtain⟨e1,e2⟩:=qL hselo D a hap;rw[e1,e2]at hrun;by_cases hw:Region.wanted o (yielded ops a.tmps)=true
 ·rw[if_pos hw]at hrun ⊢;refine .inl ?_;obtain⟨v,hv,hr⟩:=hrun;unfold Oper.wp;rw[hv];rw[<- mA v D a hap]at hr;exact ih _ _ (aN.other hseld hpr) (fun d hd hdw=>List.mem_cons_of_mem _ (hE d hd hdw)) hr
 ·rw[if_neg hw]at hrun ⊢;rw[<- mA undef D a hap]at hrun;exact ih E _ (aN.other hseld hpr) hE hrun
theorem xM{iV:Nat->Nat->Bool}(hf:Ck ops iV){Q':Exit->Act->World->Prop}{fuel:Nat}{listed:Array Bool}{a:Act}{w:World}{i:Nat}(hi:i∈Region.ready .any ops listed)
 {D:List DE} {X:List Nat} {d:DE} (hd:d∈D) (hdi:d.i=i) (hst:fN ops listed (D.map (·.i)++X)) (hop:∀d∈D,ops[d.i]? = some d.o) (hpr:aN P ops w a D)
 (next:∀(D1 D2:List DE) (a':Act),D=D1++d::D2->aN P ops w a' (D1++D2)->kO a D=kO a' (D1++D2)->wpAny P .any ops Q' fuel (listed.setIfInBounds i true) a' w) :
 wpOp P ops Q' i (wpAny P .any ops Q' fuel (listed.setIfInBounds i true)) a w:=by
 obtain⟨D1,D2,rfl⟩:=List.append_of_mem hd;have hdo:ops[i]? = some d.o:=by rw[<- hdi];exact hop d hd
 have hst2:fN ops listed (D1.map (·.i)++i::(D2.map (·.i)++X)):=by
  have e:(D1++d::D2).map (·.i)++X=D1.map (·.i)++i::(D2.map (·.i)++X):=by simp[hdi]
  rw[e]at hst;exact hst
 have hap:∀x∈D1,x.o.apart ops d.o=true:=fun x hx=>mU hf hst2 hi (List.mem_map_of_mem hx) hdo (hop x (List.mem_append_left _ hx));have hseld:∀x∈D1,x.o.apart ops d.o=true/\ta x.o=true:=fun x hx=>⟨hap x hx,hf.SK x.i x.o (hop x (List.mem_append_left _ hx))⟩
 obtain⟨e1,e2⟩:=qL (hf.SK i d.o hdo) D1 a hap;have hr:=aN.right hpr;have hl:=aN.left hpr;obtain⟨g1,g2,g3,g4⟩:=hr;rw[e2]at g1;rw[e1]at g2;have hnew:aN P ops w (a.put d.o.dst d.v) (D1++D2):=by
  refine aN.append (aN.other hseld hl) ?_;rw[mA d.v D1 a hap];exact g4
 have hputs:kO a (D1++d::D2)=kO (a.put d.o.dst d.v) (D1++D2):=by
  rw[iZ,qw,iZ,mA d.v D1 a hap]
 have hnext:wpAny P .any ops Q' fuel (listed.setIfInBounds i true) (a.put d.o.dst d.v) w:=next D1 D2 _ rfl hnew hputs
 unfold wpOp;rw[hdo];simp only;cases hdw:d.wanted with
 |true =>
  rw[hdw]at g1;rw[if_pos g1];obtain⟨q1,q2⟩:=g2 hdw;refine .inl ?_;unfold Oper.wp;rw[q1,q2];exact hnext
 |false =>
  rw[hdw]at g1;rw[if_neg (by simp[g1])];rw[g3 hdw]at hnext;exact hnext
def kT(P:Program)(ops:Array Oper)(K:List (Nat×Sem Next×Value)->Act->World->Prop):List Nat->List (Nat×Sem Next×Value)->Act->World->Prop
 |[],E,a,w=>K E a w
 |i::r,E,a,w =>
  match ops[i]? with
  |none=>False
  |some o =>
   if Region.wanted o (yielded ops a.tmps)=true then ∃v,(execOp a.eval o).run P w = .ok (.value v) w/\kT P ops K r ((i,execOp a.eval o,v)::E) (a.put o.dst v) w
   else kT P ops K r E (a.put o.dst undef) w
theorem ye{iV:Nat->Nat->Bool}{Q:Act->World->Prop}{R1 R2:List (Nat×Bool)}:∀(L:List Nat) (E:List (Nat×Sem Next×Value)) (a:Act) (w:World),
 pG P ops iV Q (L.map (fun i=>(i,false))++R1) E a w->pG P ops iV Q (L.map (fun i=>(i,false))++R2) E a w->kT P ops (fun E a w=>pG P ops iV Q R1 E a w/\pG P ops iV Q R2 E a w) L E a w
 |[],_,_,_,h1,h2=>⟨h1,h2⟩
 |i::L,E,a,w,h1,h2=>by
  simp only[List.map_cons,List.cons_append,pG,kT]at h1 h2 ⊢;cases ho:ops[i]? with
  |none=>rw[ho]at h1;exact h1.elim
  |some o =>
   rw[ho]at h1 h2;simp only at h1 h2 ⊢;by_cases hw:Region.wanted o (yielded ops a.tmps)=true
   ·rw[if_pos hw]at h1 h2 ⊢;simp only[Bool.false_eq_true,if_false]at h1 h2;obtain⟨v,hv,h1⟩:=h1;obtain⟨v',hv',h2⟩:=h2;rw[hv]at hv';cases hv';exact⟨v,hv,ye L _ _ w h1 h2⟩
   ·rw[if_neg hw]at h1 h2 ⊢;exact ye L _ _ w h1 h2
theorem tc{K:List (Nat×Sem Next×Value)->Act->World->Prop}:∀(L R:List Nat) (E:List (Nat×Sem Next×Value)) (a:Act) (w:World),kT P ops K (L++R) E a w ->
 ∃D E',D.map (·.i)=L/\(∀d∈D,ops[d.i]? = some d.o)/\aN P ops w a D/\(∀e∈E,e∈E')/\(∀d∈D,d.wanted=true->(d.i,d.m,d.v)∈E')/\kT P ops K R E' (kO a D) w
 |[],R,E,a,w,h=>⟨[],E,rfl,fun d hd=>(by cases hd),trivial,fun e he=>he,fun d hd=>(by cases hd),h⟩
 |i::L,R,E,a,w,h=>by
  simp only[List.cons_append,kT]at h;cases ho:ops[i]? with
  |none=>rw[ho]at h;exact h.elim
  |some o =>
   rw[ho]at h;simp only at h;by_cases hw:Region.wanted o (yielded ops a.tmps)=true
   ·rw[if_pos hw]at h;obtain⟨v,hv,h⟩:=h;obtain⟨D,E',e1,e2,e3,e4,e5,e6⟩:=tc L R _ _ w h;refine⟨⟨i,o,v,execOp a.eval o,true⟩::D,E',by simp[e1],?_,⟨hw,fun _=>⟨rfl,hv⟩,fun h=>(by cases h),e3⟩,fun e he=>e4 e (List.mem_cons_of_mem _ he),?_,e6⟩
    ·intro d hd;rcases List.mem_cons.1 hd with rfl|hd
     ·exact ho
     ·exact e2 d hd
    ·intro d hd hw;rcases List.mem_cons.1 hd with rfl|hd
     ·exact e4 _ List.mem_cons_self
     ·exact e5 d hd hw
   ·rw[if_neg hw]at h;obtain⟨D,E',e1,e2,e3,e4,e5,e6⟩:=tc L R _ _ w h;refine⟨⟨i,o,undef,.pure .skip,false⟩::D,E',by simp[e1],?_,⟨by simpa using hw,fun h=>(by cases h),fun _=>rfl,e3⟩,e4,?_,e6⟩
    ·intro d hd;rcases List.mem_cons.1 hd with rfl|hd
     ·exact ho
     ·exact e2 d hd
    ·intro d hd hw;rcases List.mem_cons.1 hd with rfl|hd
     ·cases hw
     ·exact e5 d hd hw
theorem MI{iV:Nat->Nat->Bool}(hf:Ck ops iV){Q:Act->World->Prop}{Q':Exit->Act->World->Prop}(hQ:∀a w,Q a w->Q' .normal a w){x y:Nat}{R:List (Nat×Bool)}(hR:nj ops R)(hx:∀q∈R,Ao ops x q.1)(hy:∀q∈R,Ao ops y q.1) :
 ∀(fuel:Nat) (D:List DE) (L:List Nat) (E:List (Nat×Sem Next×Value)) (listed:Array Bool) (a:Act) (w:World),
 D.length+(L.length+2+R.length)=fuel->fN ops listed (D.map (·.i)++(L++x::y::R.map (·.1)))->fN ops listed (D.map (·.i)++(L++y::x::R.map (·.1)))->(∀d∈D,ops[d.i]? = some d.o)->aN P ops w a D->(∀d∈D,d.wanted=true->(d.i,d.m,d.v)∈E) ->
 kT P ops (fun E a w=>pG P ops iV Q ((x,true)::(y,true)::R) E a w/\pG P ops iV Q ((y,true)::(x,true)::R) E a w) L E (kO a D) w->wpAny P .any ops Q' fuel listed a w:=by
 have lo1:∀z,(∀q∈R,Ao ops z q.1)->nj ops ((z,true)::R):=by
  intro z hz L' R' h e q hq;cases L' with
  |nil=>simp at e;obtain⟨rfl,rfl⟩:=e;exact hz q hq
  |cons p L'=>simp at e;exact hR L' R' h e.2 q hq
 intro fuel
 induction fuel with
 |zero=>intro D L E listed a w hlen;omega
 |succ fuel ih =>
  intro D L E listed a w hlen hst1 hst2 hop hpr hE hrun;refine⟨?_,?_⟩
  ·intro h0;cases hX:D.map (·.i)++(L++x::y::R.map (·.1))with
   |nil=>have:=congrArg List.length hX;simp at this
   |cons z zs =>
    rw[hX]at hst1;have:=hst1.head hf;rw[h0]at this;cases this
  ·intro i hi;obtain⟨hilt,hiun,_⟩:=kS hi;have hmem:i∈D.map (·.i)++(L++x::y::R.map (·.1)):=by
    rcases hst1.all i hilt with h|h
    ·rw[h]at hiun;cases hiun
    ·exact h
   have two:∀(x y:Nat),i=x->(∀q∈R,Ao ops y q.1)->fN ops listed (D.map (·.i)++(L++x::y::R.map (·.1)))->kT P ops (fun E a w=>pG P ops iV Q ((x,true)::(y,true)::R) E a w) L E (kO a D) w ->
    D.length+(L.length+2+R.length)=fuel+1->wpOp P ops Q' i (wpAny P .any ops Q' fuel (listed.setIfInBounds i true)) a w:=by
    rintro x y rfl hy hst hrun hlen;obtain⟨D',E',f1,f2,f3,f4,f5,f6⟩:=tc L [] E _ w (by simpa using hrun);refine QS (Q:=Q) (D:=D++D') (b:=true) (R:=(y,true)::R) (E:=E') hf hi ?_ ?_ ?_ (aN.append hpr f3) ?_ ?_
    ·intro E2 listed2 a2 w2 h1 h2 h3 h4;refine tS hf hQ fuel (D++D') ((y,true)::R) E2 listed2 a2 w2 ?_ h1 ?_ (lo1 y hy) h2 h3 h4
     ·have:=congrArg List.length f1;simp at this hlen ⊢;omega
     ·intro d hd;rcases List.mem_append.1 hd with h|h
      ·exact hop d h
      ·exact f2 d h
    ·have e:(D++D').map (·.i)++i::((y,true)::R).map (·.1)=D.map (·.i)++(L++i::y::R.map (·.1)):=by simp[f1]
     rw[e];exact hst
    ·intro d hd;rcases List.mem_append.1 hd with h|h
     ·exact hop d h
     ·exact f2 d h
    ·intro d hd hdw;rcases List.mem_append.1 hd with h|h
     ·exact f4 _ (hE d h hdw)
     ·exact f5 d h hdw
    ·rw[iZ];exact f6
   have mono:∀ {K K':List (Nat×Sem Next×Value)->Act->World->Prop},(∀E a w,K E a w->K' E a w)->∀(L:List Nat) (E:List (Nat×Sem Next×Value)) (a:Act),kT P ops K L E a w->kT P ops K' L E a w:=by
    intro K K' hk L
    induction L with
    |nil=>intro E a h;exact hk _ _ _ h
    |cons j L ihL =>
     intro E a h;simp only[kT]at h ⊢;cases ho:ops[j]? with
     |none=>rw[ho]at h;exact h.elim
     |some o =>
      rw[ho]at h;simp only at h ⊢;by_cases hw:Region.wanted o (yielded ops a.tmps)=true
      ·rw[if_pos hw]at h ⊢;obtain⟨v,hv,h⟩:=h;exact⟨v,hv,ihL _ _ h⟩
      ·rw[if_neg hw]at h ⊢;exact ihL _ _ h
   rcases List.mem_append.1 hmem with hm|hm
   ·obtain⟨d,hd,hdi⟩:=List.mem_map.1 hm;refine xM hf hi hd hdi hst1 hop hpr ?_;rintro D1 D2 a' rfl h3 h4;have sub:∀z∈D1++D2,z∈D1++d::D2:=by
     intro z hz;simp only[List.mem_append,List.mem_cons]at hz ⊢;rcases hz with h|h
     ·exact .inl h
     ·exact .inr (.inr h)
    have st:∀X:List Nat,fN ops listed ((D1++d::D2).map (·.i)++X)->fN ops (listed.setIfInBounds i true) ((D1++D2).map (·.i)++X):=by
     intro X h;have e:(D1++d::D2).map (·.i)++X=D1.map (·.i)++i::(D2.map (·.i)++X):=by simp[hdi]
     rw[e]at h;simpa using h.take hi
    refine ih (D1++D2) L E _ a' w (by simp at hlen ⊢;omega) (st _ hst1) (st _ hst2) (fun d hd=>hop d (sub d hd)) h3 (fun d hd=>hE d (sub d hd)) (by rw[<- h4];exact hrun)
   ·rcases List.mem_append.1 hm with hm|hm
    ·obtain⟨L1,L2,rfl⟩:=List.append_of_mem hm;obtain⟨D',E',f1,f2,f3,f4,f5,f6⟩:=tc L1 (i::L2) E _ w hrun;simp only[kT]at f6;cases ho:ops[i]? with
     |none=>rw[ho]at f6;exact f6.elim
     |some o =>
      rw[ho]at f6;simp only at f6;rw[<- iZ]at f6;have hop':∀d∈D++D',ops[d.i]? = some d.o:=by
       intro d hd;rcases List.mem_append.1 hd with h|h
       ·exact hop d h
       ·exact f2 d h
      have st:∀X:List Nat,fN ops listed (D.map (·.i)++((L1++i::L2)++X))->fN ops listed ((D++D').map (·.i)++i::(L2++X)):=by
       intro X h;have e:(D++D').map (·.i)++i::(L2++X)=D.map (·.i)++((L1++i::L2)++X):=by simp[f1]
       rw[e];exact h
      refine Df (D:=D++D') (X:=L2++x::y::R.map (·.1)) (E:=E') (C:=fun E a=>kT P ops (fun E a w=>pG P ops iV Q ((x,true)::(y,true)::R) E a w/\pG P ops iV Q ((y,true)::(x,true)::R) E a w) L2 E a w) hf hi ?_ (st _ hst1) hop' (aN.append hpr f3) ?_ ho f6
      ·intro E2 a2 g1 g2 g3;refine ih (D++D') L2 E2 _ a2 w ?_ ((st _ hst1).take hi) ((st _ hst2).take hi) hop' g1 g2 g3;have:=congrArg List.length f1;simp at this hlen ⊢;omega
      ·intro d hd hdw;rcases List.mem_append.1 hd with h|h
       ·exact f4 _ (hE d h hdw)
       ·exact f5 d h hdw
    ·rcases List.mem_cons.1 hm with rfl|hm
     ·exact two i y rfl hy hst1 (mono (fun _ _ _ h=>h.1) L E _ hrun) hlen
     ·rcases List.mem_cons.1 hm with rfl|hm
      ·exact two i x rfl hx hst2 (mono (fun _ _ _ h=>h.2) L E _ hrun) hlen
      ·obtain⟨q,hq,rfl⟩:=List.mem_map.1 hm;exact absurd (hx q hq) (mT hst1 hi (by simp))
inductive RT where
 |one (pi:List (Nat×Bool))
 |two (L:List Nat) (x:Nat) (tx:RT) (y:Nat) (ty:RT)
def RT.len:RT->Nat
 |.one pi=>pi.length
 |.two L _ tx _ _=>L.length+1+tx.len
def RT.xF:RT->List (List Nat)
 |.one pi=>[pi.map (·.1)]
 |.two L x tx y ty=>(tx.xF.map fun l=>L++x::l)++ty.xF.map fun l=>L++y::l
theorem RT.zq:∀T:RT,∃l,l∈T.xF
 |.one pi=>⟨_,List.mem_singleton.2 rfl⟩
 |.two L x tx y ty=>by
  obtain⟨l,h⟩:=RT.zq tx;exact⟨L++x::l,List.mem_append_left _ (List.mem_map.2 ⟨l,h,rfl⟩)⟩
def RT.Ok(ops:Array Oper):RT->Prop
 |.one pi=>nj ops pi
 |.two _ x tx y ty=>(tx.Ok ops/\ty.Ok ops)/\tx.len=ty.len/\(∀l∈tx.xF,∀z∈l,z=y\/Ao ops x z\/Ao ops y z)/\∀l∈ty.xF,∀z∈l,z=x\/Ao ops x z\/Ao ops y z
def uV(P:Program)(ops:Array Oper)(iV:Nat->Nat->Bool)(x:Nat)(K:List (Nat×Sem Next×Value)->Act->World->Prop)(E:List (Nat×Sem Next×Value))(a:Act)(w:World):Prop :=
 match ops[x]? with
 |none=>False
 |some o =>
  if Region.wanted o (yielded ops a.tmps)=true then Fu P (execOp a.eval o) w fun v w'=>(∀e∈E,iV e.1 x=false->e.2.1.run P w' = .ok (.value e.2.2) w')/\K (E.filter fun e=>!iV e.1 x) (a.put o.dst v) w'
  else K E (a.put o.dst undef) w
def xN(P:Program)(ops:Array Oper)(iV:Nat->Nat->Bool)(Q:Act->World->Prop):RT->List (Nat×Sem Next×Value)->Act->World->Prop
 |.one pi,E,a,w=>pG P ops iV Q pi E a w
 |.two L x tx y ty,E,a,w=>kT P ops (fun E a w=>uV P ops iV x (xN P ops iV Q tx) E a w/\uV P ops iV y (xN P ops iV Q ty) E a w) L E a w
theorem QT{iV:Nat->Nat->Bool}(hf:Ck ops iV){Q':Exit->Act->World->Prop}{fuel:Nat}{listed:Array Bool}{a:Act}{w:World}{i:Nat}(hi:i∈Region.ready .any ops listed)
 {D:List DE} {X:List Nat} {E:List (Nat×Sem Next×Value)} {K:List (Nat×Sem Next×Value)->Act->World->Prop}
 (ih:∀(E:List (Nat×Sem Next×Value)) (a:Act) (w:World),(∀d∈D,d.wanted=true->(d.i,d.m,d.v)∈E)->aN P ops w a D->K E (kO a D) w->wpAny P .any ops Q' fuel (listed.setIfInBounds i true) a w)
 (hst:fN ops listed (D.map (·.i)++i::X)) (hop:∀d∈D,ops[d.i]? = some d.o) (hpr:aN P ops w a D) (hE:∀d∈D,d.wanted=true->(d.i,d.m,d.v)∈E)
 (hrun:uV P ops iV i K E (kO a D) w):wpOp P ops Q' i (wpAny P .any ops Q' fuel (listed.setIfInBounds i true)) a w:=by
 obtain⟨hilt,hiun,_⟩:=kS hi;unfold uV at hrun;unfold wpOp;cases ho:ops[i]? with
 |none=>rw[ho]at hrun;exact hrun.elim
 |some o =>
  rw[ho]at hrun;simp only at hrun ⊢;have hap:∀d∈D,d.o.apart ops o=true:=fun d hd=>mU hf hst hi (List.mem_map_of_mem hd) ho (hop d hd);have hselo:=hf.SK i o ho;have hseld:∀d∈D,d.o.apart ops o=true/\ta d.o=true:=fun d hd=>⟨hap d hd,hf.SK d.i d.o (hop d hd)⟩
  obtain⟨e1,e2⟩:=qL hselo D a hap;rw[e1,e2]at hrun;by_cases hw:Region.wanted o (yielded ops a.tmps)=true
  ·rw[if_pos hw]at hrun ⊢;refine .inl ?_;refine hrun.wp fun v w' ⟨hst2,hr⟩=>?_;rw[<- mA v D a hap]at hr;have hna:∀d∈D,iV d.i i=false:=fun d hd=>by
    cases hc:iV d.i i with
    |false=>rfl
    |true=>exact absurd (hf.iV _ _ hilt hc) (mT hst hi (List.mem_append_left _ (List.mem_map_of_mem hd)))
   refine ih _ _ w' (fun d hd hdw=>List.mem_filter.2 ⟨hE d hd hdw,by rw[hna d hd];rfl⟩) ?_ hr;refine aN.world (fun d hd hdw=>?_) (aN.other hseld hpr);exact hst2 (d.i,d.m,d.v) (hE d hd hdw) (hna d hd)
  ·rw[if_neg hw]at hrun ⊢;rw[<- mA undef D a hap]at hrun;exact ih _ _ w hE (aN.other hseld hpr) hrun
theorem qM{K K':List (Nat×Sem Next×Value)->Act->World->Prop}(hk:∀E a w,K E a w->K' E a w):∀(L:List Nat) (E:List (Nat×Sem Next×Value)) (a:Act) (w:World),kT P ops K L E a w->kT P ops K' L E a w
 |[],_,_,_,h=>hk _ _ _ h
 |j::L,E,a,w,h=>by
  simp only[kT]at h ⊢;cases ho:ops[j]? with
  |none=>rw[ho]at h;exact h.elim
  |some o =>
   rw[ho]at h;simp only at h ⊢;by_cases hw:Region.wanted o (yielded ops a.tmps)=true
   ·rw[if_pos hw]at h ⊢;obtain⟨v,hv,h⟩:=h;exact⟨v,hv,qM hk L _ _ w h⟩
   ·rw[if_neg hw]at h ⊢;exact qM hk L _ _ w h
theorem KK{iV:Nat->Nat->Bool}(hf:Ck ops iV){Q:Act->World->Prop}{Q':Exit->Act->World->Prop}(hQ:∀a w,Q a w->Q' .normal a w) :
 ∀(fuel:Nat) (D:List DE) (T:RT) (E:List (Nat×Sem Next×Value)) (listed:Array Bool) (a:Act) (w:World),
 D.length+T.len=fuel->(∀l∈T.xF,fN ops listed (D.map (·.i)++l))->T.Ok ops->(∀d∈D,ops[d.i]? = some d.o)->aN P ops w a D->(∀d∈D,d.wanted=true->(d.i,d.m,d.v)∈E) ->
 xN P ops iV Q T E (kO a D) w->wpAny P .any ops Q' fuel listed a w:=by
 intro fuel
 induction fuel with
 |zero =>
  intro D T E listed a w hlen hst hok hop hpr hE hrun;cases T with
  |one pi=>exact tS hf hQ 0 D pi E listed a w hlen (hst _ (List.mem_singleton.2 rfl)) hop hok hpr hE hrun
  |two L x tx y ty=>simp only[RT.len]at hlen;omega
 |succ fuel ih =>
  intro D T E listed a w hlen hst hok hop hpr hE hrun;cases T with
  |one pi=>exact tS hf hQ (fuel+1) D pi E listed a w hlen (hst _ (List.mem_singleton.2 rfl)) hop hok hpr hE hrun
  |two L x tx y ty =>
   simp only[RT.len]at hlen;obtain⟨⟨okx,oky⟩,hxy,hx,hy⟩:=hok;obtain⟨lx,hlx⟩:=RT.zq tx;obtain⟨ly,hly⟩:=RT.zq ty;have hstx:∀l∈tx.xF,fN ops listed (D.map (·.i)++(L++x::l)):=fun l hl=>hst _ (List.mem_append_left _ (List.mem_map.2 ⟨l,hl,rfl⟩));have hsty:∀l∈ty.xF,fN ops listed (D.map (·.i)++(L++y::l)):=fun l hl=>hst _ (List.mem_append_right _ (List.mem_map.2 ⟨l,hl,rfl⟩));refine⟨?_,?_⟩
   ·intro h0;have hst1:=hstx lx hlx;cases hX:D.map (·.i)++(L++x::lx)with
    |nil=>have:=congrArg List.length hX;simp at this
    |cons z zs =>
     rw[hX]at hst1;have:=hst1.head hf;rw[h0]at this;cases this
   ·intro i hi;obtain⟨hilt,hiun,_⟩:=kS hi;have hmem:i∈D.map (·.i)++(L++x::lx):=by
     rcases(hstx lx hlx).all i hilt with h|h
     ·rw[h]at hiun;cases hiun
     ·exact h
    have two:∀(x:Nat) (tx:RT),i=x->tx.Ok ops->D.length+(L.length+1+tx.len)=fuel+1->(∀l∈tx.xF,fN ops listed (D.map (·.i)++(L++x::l)))->kT P ops (fun E a w=>uV P ops iV x (xN P ops iV Q tx) E a w) L E (kO a D) w ->
     wpOp P ops Q' i (wpAny P .any ops Q' fuel (listed.setIfInBounds i true)) a w:=by
     rintro x tx rfl okx hlen hst hrun;obtain⟨D',E',f1,f2,f3,f4,f5,f6⟩:=tc L [] E _ w (by simpa using hrun);have hE':∀d∈D++D',d.wanted=true->(d.i,d.m,d.v)∈E':=by
      intro d hd hdw;rcases List.mem_append.1 hd with h|h
      ·exact f4 _ (hE d h hdw)
      ·exact f5 d h hdw
     have hop':∀d∈D++D',ops[d.i]? = some d.o:=by
      intro d hd;rcases List.mem_append.1 hd with h|h
      ·exact hop d h
      ·exact f2 d h
     have hstD:∀l∈tx.xF,fN ops listed ((D++D').map (·.i)++i::l):=by
      intro l hl;have e:(D++D').map (·.i)++i::l=D.map (·.i)++(L++i::l):=by simp[f1]
      rw[e];exact hst l hl
     obtain⟨lx,hlx⟩:=RT.zq tx;refine QT (D:=D++D') (X:=lx) (E:=E') (K:=xN P ops iV Q tx) hf hi ?_ (hstD lx hlx) hop' (aN.append hpr f3) hE' ?_
     ·intro E2 a2 w2 hE2 h2 h4;refine ih (D++D') tx E2 _ a2 w2 ?_ (fun l hl=>(hstD l hl).take hi) okx hop' h2 hE2 h4;have:=congrArg List.length f1;simp at this hlen ⊢;omega
     ·rw[iZ];exact f6
    rcases List.mem_append.1 hmem with hm|hm
    ·obtain⟨d,hd,hdi⟩:=List.mem_map.1 hm;refine xM hf hi hd hdi (hstx lx hlx) hop hpr ?_;rintro D1 D2 a' rfl h3 h4;have sub:∀z∈D1++D2,z∈D1++d::D2:=by
      intro z hz;simp only[List.mem_append,List.mem_cons]at hz ⊢;rcases hz with h|h
      ·exact .inl h
      ·exact .inr (.inr h)
     have st:∀X:List Nat,fN ops listed ((D1++d::D2).map (·.i)++X)->fN ops (listed.setIfInBounds i true) ((D1++D2).map (·.i)++X):=by
      intro X h;have e:(D1++d::D2).map (·.i)++X=D1.map (·.i)++i::(D2.map (·.i)++X):=by simp[hdi]
      rw[e]at h;simpa using h.take hi
     refine ih (D1++D2) (.two L x tx y ty) E _ a' w (by simp[RT.len]at hlen ⊢;omega) (fun l hl=>st _ (hst l hl)) ⟨⟨okx,oky⟩,hxy,hx,hy⟩ (fun d hd=>hop d (sub d hd)) h3 (fun d hd=>hE d (sub d hd)) (by rw[<- h4];exact hrun)
    ·rcases List.mem_append.1 hm with hm|hm
     ·obtain⟨L1,L2,rfl⟩:=List.append_of_mem hm;simp only[xN]at hrun;obtain⟨D',E',f1,f2,f3,f4,f5,f6⟩:=tc L1 (i::L2) E _ w hrun;simp only[kT]at f6;cases ho:ops[i]? with
      |none=>rw[ho]at f6;exact f6.elim
      |some o =>
       rw[ho]at f6;simp only at f6;rw[<- iZ]at f6;have hop':∀d∈D++D',ops[d.i]? = some d.o:=by
        intro d hd;rcases List.mem_append.1 hd with h|h
        ·exact hop d h
        ·exact f2 d h
       have st:∀X:List Nat,fN ops listed (D.map (·.i)++((L1++i::L2)++X))->fN ops listed ((D++D').map (·.i)++i::(L2++X)):=by
        intro X h;have e:(D++D').map (·.i)++i::(L2++X)=D.map (·.i)++((L1++i::L2)++X):=by simp[f1]
        rw[e];exact h
       refine Df (D:=D++D') (X:=L2++x::lx) (E:=E') (C:=fun E a=>kT P ops (fun E a w=>uV P ops iV x (xN P ops iV Q tx) E a w/\uV P ops iV y (xN P ops iV Q ty) E a w) L2 E a w) hf hi ?_ (st _ (hstx lx hlx)) hop' (aN.append hpr f3) ?_ ho f6
       ·intro E2 a2 g1 g2 g3;refine ih (D++D') (.two L2 x tx y ty) E2 _ a2 w ?_ ?_ ⟨⟨okx,oky⟩,hxy,hx,hy⟩ hop' g1 g2 g3
        ·have:=congrArg List.length f1;simp[RT.len]at this hlen ⊢;omega
        ·intro l hl;simp only[RT.xF,List.mem_append,List.mem_map]at hl;rcases hl with⟨l',h',rfl⟩ | ⟨l',h',rfl⟩
         ·exact(st _ (hstx l' h')).take hi
         ·exact(st _ (hsty l' h')).take hi
       ·intro d hd hdw;rcases List.mem_append.1 hd with h|h
        ·exact f4 _ (hE d h hdw)
        ·exact f5 d h hdw
     ·have toy:i=y->wpOp P ops Q' i (wpAny P .any ops Q' fuel (listed.setIfInBounds i true)) a w:=fun e=>two y ty e oky (by omega) hsty (qM (fun _ _ _ h=>h.2) L E _ w hrun);rcases List.mem_cons.1 hm with hm|hm
      ·exact two x tx hm okx (by omega) hstx (qM (fun _ _ _ h=>h.1) L E _ w hrun)
      ·rcases hx lx hlx i hm with h|h|h
       ·exact toy h
       ·exact absurd h (mT (hstx lx hlx) hi (by simp))
       ·
        have hyr:y∈D.map (·.i)++(L++x::lx):=by
         have hs:=hsty ly hly;have hylt:=hs.lt y (by simp);have hyun:=hs.un y (by simp);rcases(hstx lx hlx).all y hylt with h|h
         ·rw[h]at hyun;cases hyun
         ·exact h
        exact absurd h (mT (hstx lx hlx) hi hyr)
end
section
structure RG where
 pi:List (Nat×Bool)
 rows:List (Nat×Nat)
 two:Nat
 tr:Option RT
def tf:List (Nat×Nat)->Nat->Nat
 |[],_=>0
 |(j,v)::r,i=>bif Nat.beq j i then v else tf r i
def bit(n i:Nat):Bool:=Nat.beq (Nat.land (Nat.shiftRight n i) 1) 1
theorem Ap(n i:Nat):bit n i=n.testBit i:=by
 rw[Nat.testBit_eq_decide_div_mod_eq];unfold bit;have h:Nat.land (Nat.shiftRight n i) 1=n/2^i%2:=by
  show(n >>> i) &&& 1=_;rw[Nat.and_one_is_mod,Nat.shiftRight_eq_div_pow]
 rw[h];by_cases h1:n/2^i%2=1
 ·simp[h1]
 ·rw[fh h1];simp[h1]
def YV(e:Edge):Bool:=Region.binds .any e
def deps(o:Oper):List Nat:=(o.after.toList.filter YV).map (·.on)
def rowOf(rows:List (Nat×Nat)):List Nat->Nat
 |[]=>0
 |d::r=>Nat.lor (Nat.lor (Nat.shiftLeft 1 d) (tf rows d)) (rowOf rows r)
def Hy(all:List Oper)(ops:Array Oper)(o:Oper)(j:Nat):Bool :=
 match all[j]? with
 |none=>false
 |some p=>o.apart ops p
def TB(all:List Oper)(ops:Array Oper)(rows:List (Nat×Nat)):List (Nat×Bool)->Nat->Bool
 |[],seen=>Nat.beq (seen+1) (2^all.length)
 |(i,b)::r,seen =>
  match all[i]? with
  |none=>false
  |some o=>!bit seen i&&ta o&&(deps o).all (bit seen)&&Nat.beq (tf rows i) (rowOf rows (deps o)) &&
   r.all (fun q=>bit (tf rows q.1) i||(!b&&Hy all ops o q.1))&&TB all ops rows r (Nat.lor seen (Nat.shiftLeft 1 i))
def MJ(all:List Oper)(g:RG):Bool:=Nat.beq g.pi.length all.length&&TB all all.toArray g.rows g.pi 0
def RG.iV(g:RG)(e i:Nat):Bool:=bit (tf g.rows i) e
theorem Pn(a b i:Nat):bit (Nat.lor a b) i=(bit a i||bit b i):=by
 rw[Ap,Ap,Ap];exact Nat.testBit_or a b i
theorem Po(d i:Nat):bit (Nat.shiftLeft 1 d) i=true↔d=i:=by
 rw[Ap];show(1 <<< d).testBit i=true↔_;rw[Nat.one_shiftLeft,Nat.testBit_two_pow];simp
theorem KL(i:Nat):bit 0 i=false:=by rw[Ap];simp
theorem TC{o:Oper}{d:Nat}:d∈deps o↔∃e∈o.after,Region.binds .any e=true/\e.on=d:=by
 unfold deps YV;simp only[List.mem_map,List.mem_filter,Array.mem_toList_iff,and_assoc]
structure Step(all:List Oper)(rows:List (Nat×Nat))(pre:List Nat)(i:Nat)(b:Bool)(R:List (Nat×Bool)):Prop where
 at_:∃o,all[i]? = some o/\ta o=true/\(∀d∈deps o,d∈pre)/\tf rows i=rowOf rows (deps o)/\∀q∈R,bit (tf rows q.1) i=true\/(b=false/\Hy all all.toArray o q.1=true)
 new:i∉pre
theorem Dg{all:List Oper}{rows:List (Nat×Nat)}:∀(pi:List (Nat×Bool)) (seen:Nat) (pre:List Nat),TB all all.toArray rows pi seen=true->(∀x,bit seen x=true↔x∈pre) ->
 (∀L i b R,pi=L++(i,b)::R->Step all rows (pre++L.map (·.1)) i b R)/\(∀k,k<all.length->k∈pre++pi.map (·.1))
 |[],seen,pre,h,hs=>by
  refine⟨fun L i b R e=>by simp at e,fun k hk=>?_⟩;simp only[TB]at h;have h1:seen=2^all.length-1:=by have:=Nat.eq_of_beq_eq_true h;omega
  have:bit seen k=true:=by rw[Ap,h1,Nat.testBit_two_pow_sub_one];simpa using hk
  simpa using(hs k).1 this
 |(i,b)::r,seen,pre,h,hs=>by
  simp only[TB]at h;cases ho:all[i]? with
  |none=>rw[ho]at h;cases h
  |some o =>
   rw[ho]at h;simp only[Bool.and_eq_true,Bool.not_eq_true',List.all_eq_true,Bool.or_eq_true]at h;obtain⟨⟨⟨⟨⟨h1,h2⟩,h3⟩,h4⟩,h5⟩,h6⟩:=h;have ih:=Dg r (Nat.lor seen (Nat.shiftLeft 1 i)) (pre++[i]) h6 (by
    intro x;rw[Pn,Bool.or_eq_true,hs x,Po];simp only[List.mem_append,List.mem_singleton];exact⟨fun h=>h.imp id Eq.symm,fun h=>h.imp id Eq.symm⟩)
   refine⟨?_,?_⟩
   ·intro L i' b' R e;cases L with
    |nil =>
     simp only[List.nil_append,List.cons.injEq,Prod.mk.injEq]at e;obtain⟨⟨rfl,rfl⟩,rfl⟩:=e;refine⟨⟨o,ho,h2,fun d hd=>by simpa using(hs d).1 (h3 d hd),Nat.eq_of_beq_eq_true h4,?_⟩,?_⟩
     ·intro q hq;rcases h5 q hq with h | ⟨h,h'⟩
      ·exact .inl h
      ·exact .inr ⟨h,h'⟩
     ·intro hm;have:=(hs i).2 (by simpa using hm);rw[this]at h1;cases h1
    |cons p L =>
     simp only[List.cons_append,List.cons.injEq]at e;obtain⟨rfl,rfl⟩:=e;have:=ih.1 L i' b' R rfl;simpa using this
   ·intro k hk;have:=ih.2 k hk;simpa using this
theorem qN{α:Type}{R:α->α->Prop}:∀(xs:List α),(∀a x b y c,xs=a++x::(b++y::c)->R x y)->xs.Pairwise R
 |[],_=>.nil
 |x::xs,h=>by
  refine List.pairwise_cons.2 ⟨fun y hy=>?_,qN xs fun a x' b y c e=>h (x::a) x' b y c (by rw[e];rfl)⟩;obtain⟨b,c,rfl⟩:=List.append_of_mem hy;exact h [] x b y c rfl
theorem FV{all:List Oper}{g:RG}(h:MJ all g=true):g.pi.length=all.length/\Ck all.toArray g.iV/\fN all.toArray (Array.replicate all.toArray.size false) (g.pi.map (·.1))/\nj all.toArray g.pi:=by
 simp only[MJ,Bool.and_eq_true]at h;obtain⟨hlen,h⟩:=h;obtain⟨hsp,hcov⟩:=Dg g.pi 0 [] h (fun x=>by simp[KL]);simp only[List.nil_append]at hsp hcov;have hdep:∀ {d i:Nat} {o:Oper},all[i]? = some o->(Zt all.toArray d i↔d∈deps o):=by
  intro d i o ho;rw[TC];constructor
  ·rintro⟨o',ho',h⟩;have:o'=o:=by simpa[ho]using ho'.symm
   subst this;exact h
  ·intro h;exact⟨o,by simpa using ho,h⟩
 have hahead:∀ {y x:Nat},Ao all.toArray y x->∀L b R,g.pi=L++(x,b)::R->y∈L.map (·.1):=by
  intro y x ha
  induction ha with
  |one d =>
   intro L b R e;obtain⟨⟨o,ho,_,hd,_⟩,_⟩:=hsp L _ b R e;exact hd _ ((hdep ho).1 d)
  | @step j k _ d ih =>
   intro L b R e;obtain⟨⟨o,ho,_,hd,_⟩,_⟩:=hsp L _ b R e;obtain⟨p,hp,hpj⟩:=List.mem_map.1 (hd _ ((hdep ho).1 d));obtain⟨L1,L2,rfl⟩:=List.append_of_mem hp;obtain⟨j',b'⟩:=p;simp only at hpj;subst hpj;have:=ih L1 b' (L2++(k,b)::R) (by rw[e];simp);simp only[List.map_append,List.mem_append];exact .inl this
 have hrow1:∀(rs:List Nat) (e:Nat),bit (rowOf g.rows rs) e=true->∃d∈rs,d=e\/bit (tf g.rows d) e=true:=by
  intro rs e
  induction rs with
  |nil=>intro h;simp only[rowOf,KL]at h;cases h
  |cons d rs ih =>
   intro h;simp only[rowOf,Pn,Bool.or_eq_true,Po]at h;rcases h with(h|h)|h
   ·exact⟨d,List.mem_cons_self,.inl h⟩
   ·exact⟨d,List.mem_cons_self,.inr h⟩
   ·obtain⟨d',hd',h'⟩:=ih h;exact⟨d',List.mem_cons_of_mem _ hd',h'⟩
 have hrow:∀(n:Nat) (L:List (Nat×Bool)),L.length=n->∀i b R,g.pi=L++(i,b)::R->∀e,bit (tf g.rows i) e=true->Ao all.toArray e i:=by
  intro n
  induction n using Nat.strongRecOn with
  |ind n ih =>
   intro L hL i b R e x hx;obtain⟨⟨o,ho,_,hd,hr,_⟩,_⟩:=hsp L _ b R e;rw[hr]at hx;obtain⟨d,hd1,hd2⟩:=hrow1 _ _ hx;have hdp:=(hdep ho).2 hd1;rcases hd2 with rfl|hd2
   ·exact .one hdp
   ·obtain⟨p,hp,hpj⟩:=List.mem_map.1 (hd _ hd1);obtain⟨L1,L2,rfl⟩:=List.append_of_mem hp;obtain⟨j',b'⟩:=p;simp only at hpj;subst hpj;exact .step (ih L1.length (by simp at hL;omega) L1 rfl j' b' (L2++(i,b)::R) (by rw[e];simp) x hd2) hdp
 have hsplit:∀x∈g.pi.map (·.1),∃L b R,g.pi=L++(x,b)::R:=by
  intro x hx;obtain⟨p,hp,rfl⟩:=List.mem_map.1 hx;obtain⟨L,R,e⟩:=List.append_of_mem hp;exact⟨L,p.2,R,e⟩
 have hanc:∀i∈g.pi.map (·.1),∀e,bit (tf g.rows i) e=true->Ao all.toArray e i:=by
  intro i hi e he;obtain⟨L,b,R,h⟩:=hsplit i hi;exact hrow _ L rfl i b R h e he
 have hlt:∀x∈g.pi.map (·.1),x<all.length:=by
  intro x hx;obtain⟨L,b,R,e⟩:=hsplit x hx;obtain⟨⟨o,ho,_⟩,_⟩:=hsp L x b R e;exact(List.getElem?_eq_some_iff.1 ho).1
 have hmapsplit:∀(a:List Nat) (x:Nat) (c:List Nat),g.pi.map (·.1)=a++x::c->∃L b R,g.pi=L++(x,b)::R/\L.map (·.1)=a/\R.map (·.1)=c:=by
  intro a x c e;obtain⟨l1,l2,e1,e2,e3⟩:=List.map_eq_append_iff.1 e;obtain⟨p,l3,e4,e5,e6⟩:=List.map_eq_cons_iff.1 e3;subst e4;refine⟨l1,p.2,l3,?_,e2,e6⟩;rw[e1,<- e5]
 have hnodup:(g.pi.map (·.1)).Nodup:=by
  refine qN _ fun a x b y c e=>?_;rintro rfl;obtain⟨L,b',R,e1,e2,e3⟩:=hmapsplit (a++x::b) x c (by rw[e];simp);have:=(hsp L x b' R e1).new;rw[e2]at this;exact this (by simp)
 refine⟨Nat.eq_of_beq_eq_true hlen,⟨?_,?_,?_,?_⟩,⟨by simp,fun x hx=>by simpa using hlt x hx,?_,hnodup,fun k hk=>.inr (hcov k (by simpa using hk)),?_,?_⟩,?_⟩
 ·
  have one:∀(a:List Nat) (x:Nat) (b:List Nat) (y:Nat) (c:List Nat),g.pi.map (·.1)=a++x::(b++y::c)->∀ox oy,all[x]? = some ox->all[y]? = some oy->Ao all.toArray x y\/ox.apart all.toArray oy=true:=by
   intro a x b y c e ox oy hx hy;obtain⟨L,b',R,e1,e2,e3⟩:=hmapsplit a x (b++y::c) e;obtain⟨⟨o,ho,_,_,_,hq⟩,_⟩:=hsp L x b' R e1;have hym:y∈R.map (·.1):=by rw[e3];simp
   obtain⟨q,hqm,rfl⟩:=List.mem_map.1 hym;rcases hq q hqm with h | ⟨_,h⟩
   ·exact .inl (hanc _ (by rw[e];simp) _ h)
   ·refine .inr ?_;rw[hx]at ho;cases ho;simpa[Hy,hy]using h
  intro i j oi oj hi hj hne;have hi':all[i]? = some oi:=by simpa using hi
  have hj':all[j]? = some oj:=by simpa using hj
  have mi:=hcov i (List.getElem?_eq_some_iff.1 hi').1;have mj:=hcov j (List.getElem?_eq_some_iff.1 hj').1;obtain⟨a,c,e⟩:=List.append_of_mem mi;rw[e]at mj;rcases List.mem_append.1 mj with h|h
  ·obtain⟨a1,a2,rfl⟩:=List.append_of_mem h;rcases one a1 j a2 i c (by rw[e];simp) oj oi hj' hi' with h|h
   ·exact .inr (.inl h)
   ·exact .inr (.inr (yd h))
  ·rcases List.mem_cons.1 h with h|h
   ·exact absurd h.symm hne
   ·obtain⟨c1,c2,rfl⟩:=List.append_of_mem h;rcases one a i c1 j c2 e oi oj hi' hj' with h|h
    ·exact .inl h
    ·exact .inr (.inr h)
 ·intro i o ho;have ho':all[i]? = some o:=by simpa using ho
  obtain⟨L,b,R,e⟩:=hsplit i (hcov i (List.getElem?_eq_some_iff.1 ho').1);obtain⟨⟨o',h1,h2,_⟩,_⟩:=hsp L i b R e;rw[ho']at h1;cases h1;exact h2
 ·intro i j hj h;exact hanc j (hcov j (by simpa using hj)) i h
 ·intro i j hd;obtain⟨o,ho,_⟩:=id hd;have ho':all[j]? = some o:=by simpa using ho
  obtain⟨L,b,R,e⟩:=hsplit j (hcov j (List.getElem?_eq_some_iff.1 ho').1);have hs:=hsp L j b R e;have hm:=hahead (.one hd) L b R e;refine⟨?_,?_⟩
  ·rintro rfl;exact hs.new hm
  ·have:i∈g.pi.map (·.1):=by rw[e];simp only[List.map_append,List.mem_append];exact .inl hm
   simpa using hlt i this
 ·intro x hx;have:=hlt x hx;simp[Array.getD,this]
 ·intro i j hd hj;simp[Array.getD]at hj
 ·refine qN _ fun a x b y c e ha=>?_;obtain⟨L,b',R,e1,e2,e3⟩:=hmapsplit a x (b++y::c) e;have hm:=hahead ha L b' R e1;rw[e2]at hm;rw[e]at hnodup;exact(List.nodup_append.1 hnodup).2.2 y hm y (by simp) rfl
 ·intro L R x e q hq;obtain⟨⟨o,ho,_,_,_,hq'⟩,_⟩:=hsp L x true R e;rcases hq' q hq with h | ⟨h,_⟩
  ·refine hanc q.1 ?_ _ h;rw[e];simp only[List.map_append,List.mem_append,List.map_cons,List.mem_cons];exact .inr (.inr (List.mem_map_of_mem hq))
  ·cases h
def Hz:List (Nat×Bool)->Bool
 |[]=>true
 |(_,b)::r=>!b&&Hz r
theorem Dh:∀ {l:List (Nat×Bool)},Hz l=true->l=(l.map (·.1)).map fun i=>(i,false)
 |[],_=>rfl
 |(i,b)::r,h=>by
  simp only[Hz,Bool.and_eq_true,Bool.not_eq_true']at h;obtain⟨rfl,h⟩:=h;simp only[List.map_cons];rw[<- Dh h]
def RT.W1:RT->List (List (Nat×Bool))
 |.one pi=>[pi]
 |.two L x tx y ty=>(tx.W1.map fun p=>L.map (fun i=>(i,false))++(x,false)::p)++ty.W1.map fun p=>L.map (fun i=>(i,false))++(y,false)::p
def waits(rows:List (Nat×Nat))(n x y:Nat)(z:Nat):Bool:=Nat.blt z n&&(bit (tf rows z) x||bit (tf rows z) y)
def RT.cond(rows:List (Nat×Nat))(n:Nat):RT->Bool
 |.one _=>true
 |.two _ x tx y ty=>tx.cond rows n&&ty.cond rows n&&Nat.beq tx.len ty.len&&tx.xF.all (fun l=>l.all fun z=>Nat.beq z y||waits rows n x y z)&&ty.xF.all (fun l=>l.all fun z=>Nat.beq z x||waits rows n x y z)
def MK(all:List Oper)(rows:List (Nat×Nat))(T:RT):Bool:=T.W1.all (fun pi=>MJ all ⟨pi,rows,0,none⟩)&&T.cond rows all.length
theorem RT.zu:∀T:RT,T.xF=T.W1.map fun p=>p.map (·.1)
 |.one pi=>rfl
 |.two L x tx y ty=>by
  have e:(L.map fun i=>(i,false)).map (·.1)=L:=by simp[Function.comp_def]
  simp only[RT.xF,RT.W1,RT.zu tx,RT.zu ty,List.map_append,List.map_map];congr 1<;>(apply List.map_congr_left;intro p _;simp[Function.comp_def])
theorem RT.Zv(T:RT):∃p,p∈T.W1:=by
 obtain⟨l,h⟩:=RT.zq T;rw[RT.zu]at h;obtain⟨p,hp,_⟩:=List.mem_map.1 h;exact⟨p,hp⟩
theorem RT.HA:∀(T:RT) (rows:List (Nat×Nat)) (n:Nat),T.cond rows n=true->∀p∈T.W1,p.length=T.len
 |.one pi,_,_,_,p,hp=>by simp[RT.W1]at hp;subst hp;rfl
 |.two L x tx y ty,rows,n,h,p,hp=>by
  simp only[RT.cond,Bool.and_eq_true]at h;obtain⟨⟨⟨⟨h1,h2⟩,h3⟩,_⟩,_⟩:=h;have h3:=Nat.eq_of_beq_eq_true h3;simp only[RT.W1,List.mem_append,List.mem_map]at hp;rcases hp with⟨q,hq,rfl⟩ | ⟨q,hq,rfl⟩
  ·have:=RT.HA tx rows n h1 q hq;simp[RT.len,this];omega
  ·have:=RT.HA ty rows n h2 q hq;simp[RT.len,this];omega
theorem Di{ops:Array Oper}{rows:List (Nat×Nat)}{n:Nat}(hanc:∀i j,j<n->bit (tf rows j) i=true->Ao ops i j):∀(T:RT) (pre:List (Nat×Bool)),(∀p∈T.W1,nj ops (pre++p))->T.cond rows n=true->T.Ok ops
 |.one pi,pre,h,_=>nj.drop (h pi (List.mem_singleton.2 rfl))
 |.two L x tx y ty,pre,h,hc=>by
  simp only[RT.cond,Bool.and_eq_true,List.all_eq_true,Bool.or_eq_true]at hc;obtain⟨⟨⟨⟨h1,h2⟩,h3⟩,h4⟩,h5⟩:=hc;have wt:∀z,waits rows n x y z=true->Ao ops x z\/Ao ops y z:=by
   intro z hz;simp only[waits,Bool.and_eq_true,Bool.or_eq_true]at hz;have hlt:z<n:=by have:=hz.1;simp[Nat.blt]at this;omega
   exact hz.2.imp (hanc _ _ hlt) (hanc _ _ hlt)
  refine⟨⟨Di hanc tx (pre++(L.map (fun i=>(i,false))++[(x,false)])) (fun p hp=>?_) h1,Di hanc ty (pre++(L.map (fun i=>(i,false))++[(y,false)])) (fun p hp=>?_) h2⟩,Nat.eq_of_beq_eq_true h3,fun l hl z hz=>?_,fun l hl z hz=>?_⟩
  ·have:=h _ (List.mem_append_left _ (List.mem_map.2 ⟨p,hp,rfl⟩));simpa using this
  ·have:=h _ (List.mem_append_right _ (List.mem_map.2 ⟨p,hp,rfl⟩));simpa using this
  ·rcases h4 l hl z hz with h|h
   ·exact .inl (Nat.eq_of_beq_eq_true h)
   ·exact .inr (wt z h)
  ·rcases h5 l hl z hz with h|h
   ·exact .inl (Nat.eq_of_beq_eq_true h)
   ·exact .inr (wt z h)
theorem Xs{all:List Oper}{g:RG}{T:RT}(h:MK all g.rows T=true):T.len=all.length/\Ck all.toArray g.iV/\(∀l∈T.xF,fN all.toArray (Array.replicate all.toArray.size false) l)/\T.Ok all.toArray:=by
 simp only[MK,Bool.and_eq_true,List.all_eq_true]at h;obtain⟨h1,h2⟩:=h;obtain⟨p0,hp0⟩:=RT.Zv T;obtain⟨hlen,hf,_,_⟩:=FV (h1 p0 hp0);have hf:Ck all.toArray g.iV:=hf;refine⟨by rw[<- RT.HA T _ _ h2 p0 hp0];exact hlen,hf,fun l hl=>?_,Di (rows:=g.rows) (n:=all.length) (fun i j hj hb=>hf.iV i j (by simpa using hj) hb) T [] (fun p hp=>(FV (h1 p hp)).2.2.2) h2⟩;rw[RT.zu]at hl;obtain⟨p,hp,rfl⟩:=List.mem_map.1 hl;exact(FV (h1 p hp)).2.2.1
def TD(all:List Oper)(g:RG):Bool :=
 match g.tr with
 |some T=>MK all g.rows T
 |none=>match g.two with
  |0=>MJ all g
  |k+1=>match g.pi.drop k with
   |(x,true)::(y,true)::R=>Hz (g.pi.take k)&&MJ all ⟨g.pi.take k++(x,false)::(y,true)::R,g.rows,0,none⟩&&MJ all ⟨g.pi.take k++(y,false)::(x,true)::R,g.rows,0,none⟩
   |_=>false
end
section
def has:List Nat->Nat->Bool
 |[],_=>false
 |j::r,i=>bif Nat.beq j i then true else has r i
theorem Pp:∀ {l:List Nat} {i:Nat},has l i=true↔i∈l
 |[],i=>by simp[has]
 |j::r,i=>by
  simp only[has];by_cases h:j=i
  ·subst h;simp
  ·rw[fh h];simp only[cond_false,List.mem_cons];rw[Pp];exact⟨.inr,fun h'=>h'.resolve_left fun e=>h e.symm⟩
def aJ.freeze(ts:List Nat)(hp:aJ):aJ:=hp.map fun e=>⟨e.tag,bif has ts e.tag then false else e.wr,e.ch⟩
def TE(old:aJ)(ts:List Nat)(e:Ch):Option Ch :=
 match old.find e.tag with
 |some (m,_)=>bif has ts e.tag then some ⟨e.tag,m,e.ch⟩else some e
 |none=>bif e.wr then some e else none
def aJ.Xt(old:aJ)(ts:List Nat)(hp:aJ):aJ:=hp.filterMap (TE old ts)
def oQ(g:RG)(i:Nat):List (Nat×Option Nat)->Option (List Nat)
 |[]=>some []
 |(e,x)::r=>bif g.iV e i then oQ g i r else
  match x,oQ g i r with
  |some t,some ts=>some (t::ts)
  |_,_=>none
def Pq(g:RG)(i:Nat)(E:List (Nat×Option Nat)):List (Nat×Option Nat):=E.filter fun p=>!g.iV p.1 i
def Pr(G:Fx)(ch:iy)(o:Oper)(ts:List Nat)(s:S)(K:KV):Prop :=
 match ts with
 |[]=>MH G ch o s K
 |_::_=>bif ts.all (fun t=>(s.hp.find t).isSome)then MH G ch o (s.put (s.hp.freeze ts)) fun v s'=>K v (s'.put (aJ.Xt s.hp ts s'.hp))else False
def xO(G:Fx)(ch:iy)(all:List Oper)(g:RG):List (Nat×Bool)->List (Nat×Option Nat)->S->(S->Prop)->Prop
 |[],_,s,K=>K s
 |(i,loud)::r,E,s,K =>
  match all[i]? with
  |none=>False
  |some o=>Dd G.X all o s
   (fun s=>bif loud then
    (match oQ g i E with
    |none=>False
    |some ts=>Pr G ch o ts s fun v s=>Ft o v s fun s=>xO G ch all g r (Pq g i E) s K)
    else bif jt o then
     W0 G.X o s fun v s1=>Ft o v s1 fun s2=>xO G ch all g r (match Fk o s with|some t=>(i,some t)::E|none=>E) s2 K
    else False)
   (fun s=>Ft o (.ng []) s fun s=>xO G ch all g r E s K)
theorem tT{ρ:Env}:∀ {hp:aJ},hp.Pairwise (qC ρ)->∀ {x y:Ch},x∈hp->y∈hp->x.tag≠y.tag->(x.wr||y.wr)=true->∀b,(ρ.pl x.tag).fp b->¬(ρ.pl y.tag).fp b
 |[],_,_,_,hx,_,_,_=>by cases hx
 |e::r,h,x,y,hx,hy,hne,hw=>by
  obtain⟨h1,h2⟩:=List.pairwise_cons.1 h;rcases List.mem_cons.1 hx with hx|hx
  ·rcases List.mem_cons.1 hy with hy|hy
   ·exact absurd (by rw[hx,hy]) hne
   ·rw[hx]at hw ⊢;exact(h1 y hy).2 hw
  ·rcases List.mem_cons.1 hy with hy|hy
   ·intro b hb hb';rw[hy]at hb' hw;exact(h1 x hx).2 (by rw[Bool.or_comm];exact hw) b hb' hb
   ·exact tT h2 hx hy hne hw
theorem yf{ts:List Nat}{hp:aJ}{e:Ch}(h:e∈hp.freeze ts):∃e0∈hp,e.tag=e0.tag/\e.ch=e0.ch/\(e.wr=true->e0.wr=true/\e.tag∉ts):=by
 obtain⟨e0,h0,rfl⟩:=List.mem_map.1 h;refine⟨e0,h0,rfl,rfl,?_⟩;show(bif has ts e0.tag then false else e0.wr)=true->_;cases hh:has ts e0.tag with
 |true=>intro h;cases h
 |false=>intro h;exact⟨h,fun hm=>by rw[Pp.2 hm]at hh;cases hh⟩
def mq(ρ:Env)(hp:aJ):Nat->Prop:=fun b=>∃e∈hp,e.wr=true/\(ρ.pl e.tag).fp b
theorem aj.freeze{w0:World}{M:Nat->Prop}{ρ:Env}{w:World}{hp:aJ}(h:aj w0 M ρ hp w)(ts:List Nat):aj w (mq ρ (hp.freeze ts)) ρ (hp.freeze ts) w where
 keeps:=eZ.refl _ w
 iq:=fun e he=>by
  obtain⟨e0,h0,h1,h2,_⟩:=yf he;have hs:=h.iq e0 h0;exact⟨h1▸hs.tag,by rw[h1,h2];exact hs.ch,by rw[h1];exact hs.lt,fun hw b hb _=>⟨e,he,hw,hb⟩⟩
 apart:=by
  refine List.pairwise_map.2 (h.apart.imp fun {x y} hxy=>⟨hxy.1,fun hw=>hxy.2 ?_⟩);have hw':((bif has ts x.tag then false else x.wr)||(bif has ts y.tag then false else y.wr))=true:=hw;cases hx:has ts x.tag<;>cases hy:has ts y.tag<;>simp[hx,hy]at hw'<;>simp[hw']
theorem aJ.QU{hp:aJ}{t:Nat}(h:(hp.find t).isSome=true):∃m ch,(⟨t,m,ch⟩:Ch)∈hp:=by
 cases hf:hp.find t with
 |none=>rw[hf]at h;cases h
 |some p=>exact⟨p.1,p.2,aJ.bu hf⟩
theorem Dj{old:aJ}{ts:List Nat}{e e2:Ch}(h:TE old ts e2=some e):e.tag=e2.tag/\e.ch=e2.ch/\(e=e2/\(e2.wr=true\/∃m ch,(⟨e.tag,m,ch⟩:Ch)∈old)\/∃ch,(⟨e.tag,e.wr,ch⟩:Ch)∈old):=by
 unfold TE at h;cases hf:old.find e2.tag with
 |none =>
  rw[hf]at h;simp only at h;cases hw:e2.wr with
  |false=>rw[hw]at h;cases h
  |true =>
   rw[hw]at h;simp only[cond_true,Option.some.injEq]at h;subst h;exact⟨rfl,rfl,.inl ⟨rfl,.inl rfl⟩⟩
 |some p =>
  obtain⟨m,ch⟩:=p;rw[hf]at h;simp only at h;have hm:=aJ.bu hf;cases hh:has ts e2.tag with
  |true=>rw[hh]at h;cases h;exact⟨rfl,rfl,.inr ⟨ch,hm⟩⟩
  |false=>rw[hh]at h;cases h;exact⟨rfl,rfl,.inl ⟨rfl,.inr ⟨m,ch,hm⟩⟩⟩
theorem KM{w0:World}{M:Nat->Prop}{ρ:Env}{w:World}{hp:aJ}(h:aj w0 M ρ hp w)(ts:List Nat){b:Nat}(hb:b<w0.heap.size)(hm:mq ρ (hp.freeze ts) b):M b:=by
 obtain⟨e,he,hw,hf⟩:=hm;obtain⟨e0,h0,h1,_,h3⟩:=yf he;exact(h.iq e0 h0).own (h3 hw).1 b (by rw[<- h1];exact hf) hb
theorem aj.Xt{w0:World}{M:Nat->Prop}{ρ ρ':Env}{w w':World}{hp cR:aJ}{ts:List Nat}(h:aj w0 M ρ hp w)(hle:ρ.le ρ')(h':aj w (mq ρ (hp.freeze ts)) ρ' cR w') :
 aj w0 M ρ' (aJ.Xt hp ts cR) w' where
 keeps:=⟨h'.keeps.os.trans h.keeps.os,h'.keeps.tape.trans h.keeps.tape,h'.keeps.output.trans h.keeps.output,Nat.le_trans h.keeps.size h'.keeps.size,fun b hb hn =>
  (h'.keeps.block b (Nat.lt_of_lt_of_le hb h.keeps.size) fun hm=>hn (KM h ts hb hm)).trans (h.keeps.block b hb hn),fun a ha=>(h'.keeps.frz a (Nat.lt_of_lt_of_le ha h.keeps.size)).trans (h.keeps.frz a ha)⟩
 iq:=fun e he=>by
  obtain⟨e2,he2,ht⟩:=List.mem_filterMap.1 he;obtain⟨h1,h2,h3⟩:=Dj ht;have hs:=h'.iq e2 he2;refine⟨h1▸hs.tag,by rw[h1,h2];exact hs.ch,by rw[h1];exact hs.lt,fun hw b hb hlt=>?_⟩;rcases h3 with⟨rfl,_⟩ | ⟨ch,hm⟩
  ·exact KM h ts hlt (hs.own hw b hb (Nat.lt_of_lt_of_le hlt h.keeps.size))
  ·have hs0:=h.iq _ hm;refine hs0.own hw b ?_ hlt;rw[<- hle.pl _ hs0.tag];exact hb
 apart:=by
  refine List.pairwise_filterMap.2 (List.Pairwise.imp_of_mem (fun {x y} hx hy hxy=>?_) h'.apart);intro e he e' he';obtain⟨h1,_,h3⟩:=Dj he;obtain⟨h1',_,h3'⟩:=Dj he';have hne:e.tag≠e'.tag:=by rw[h1,h1'];exact hxy.1
  refine⟨hne,fun hw=>?_⟩;by_cases hxw:(x.wr||y.wr)=true
  ·rw[h1,h1'];exact hxy.2 hxw
  ·have hx0:x.wr=false:=by cases hh:x.wr<;>simp[hh]at hxw ⊢
   have hy0:y.wr=false:=by cases hh:y.wr<;>simp[hh]at hxw ⊢
   have gx:∃m ch,(⟨e.tag,m,ch⟩:Ch)∈hp/\(e.wr=true->m=true):=by
    rcases h3 with⟨rfl,h | ⟨m,ch,h⟩⟩ | ⟨ch,h⟩
    ·rw[hx0]at h;cases h
    ·exact⟨m,ch,h,fun hh=>by rw[hx0]at hh;cases hh⟩
    ·exact⟨_,ch,h,id⟩
   have gy:∃m ch,(⟨e'.tag,m,ch⟩:Ch)∈hp/\(e'.wr=true->m=true):=by
    rcases h3' with⟨rfl,h | ⟨m,ch,h⟩⟩ | ⟨ch,h⟩
    ·rw[hy0]at h;cases h
    ·exact⟨m,ch,h,fun hh=>by rw[hy0]at hh;cases hh⟩
    ·exact⟨_,ch,h,id⟩
   obtain⟨m,ch,g1,g2⟩:=gx;obtain⟨m',ch',g1',g2'⟩:=gy;have:=tT h.apart g1 g1' hne (by
    show(m||m')=true;cases he:e.wr with
    |true=>rw[g2 he];rfl
    |false =>
     rw[he]at hw;rw[g2' (by simpa using hw)];simp)
   rw[hle.pl _ (h.iq _ g1).tag,hle.pl _ (h.iq _ g1').tag];exact this
theorem HB{w0:World}{M:Nat->Prop}{ρ ρ':Env}{w w':World}{hp cR:aJ}{ts:List Nat}(h:aj w0 M ρ hp w)(h':aj w (mq ρ (hp.freeze ts)) ρ' cR w'){t:Nat}(ht:t∈ts)(hf:(hp.find t).isSome=true){b:Nat}(hb:(ρ.pl t).fp b):w'.heap[b]? = w.heap[b]?:=by
 obtain⟨m,ch,hm⟩:=aJ.QU hf;refine h'.keeps.block b ((h.iq _ hm).lt b hb) ?_;rintro⟨e,he,hw,hfp⟩;obtain⟨e0,h0,h1,_,h3⟩:=yf he;obtain⟨h4,h5⟩:=h3 hw;have hne:e0.tag≠t:=by rintro rfl;rw[h1]at h5;exact h5 ht
 exact tT h.apart h0 hm hne (by rw[h4];rfl) b (by rw[<- h1];exact hfp) hb
theorem FW{G:Fx}(hG:G.Ok){ch:iy}(hch:Kn G.X ch){o:Oper}{s:S}{K:KV}(h:MH G ch o s K){w0:World}{M:Nat->Prop}{ρ:Env}{a:Act}{w:World}(hs:ir w0 M ρ s a w) :
 Fu G.X.P (execOp a.eval o) w fun v w'=>Out w0 M ρ s w' v K:=by
 have plain:∀K,W0 G.X o s K->Fu G.X.P (execOp a.eval o) w fun v w'=>Out w0 M ρ s w' v K:=by
  intro K h;obtain⟨r,w',hr,v,hv,hout⟩:=Ty hG.cx h w0 M ρ a w hs;refine .inl ⟨v,w',?_,hout⟩;rcases hv with rfl | ⟨rfl,rfl⟩
  ·exact .inl hr
  ·exact .inr ⟨hr,rfl⟩
 unfold MH at h;split at h
 ·rename_i c hc;split at h
  ·rename_i f hf;split at h
   ·rename_i g hg;split at h
    ·rename_i fn hfn;have hok:=hG.fns _ (s9 hfn);have hev:a.eval f = .func (.func g) #[] #[]:=by have:=hs.frame.ev f;rw[hg]at this;exact this
     have hcall:=hch _ _ _ _ h w0 M ρ w (c.args.toList.map a.eval) hs.n hs.heap (qK hs.frame _);refine .inr ⟨g,c.args.map a.eval,?_,?_⟩
     ·obtain⟨callee,args,ts⟩:=c;simp only at hf;have hb:fn.body≠none:=by have:=hok.body;cases hh:fn.body<;>simp[hh]at this ⊢
      have hne : fn.name ≠ "runtime.NumGoroutine" := by have := hok.name; simpa using this
      simp[execOp,hc,hf,resolve,hev,Deferred.ofValue,invoke,callFunc,hok.at_,hne,hb]
     ·have e:(c.args.toList.map a.eval).toArray=c.args.map a.eval:=by apply Array.toList_inj.1;simp
      rw[e]at hcall;exact hcall
    ·exact h.elim
   ·rename_i g xs hg;split at h
    ·rename_i fn hfn;have hok:=hG.fns _ (s9 hfn);obtain⟨us,hev,hrep⟩:∃us:List Value,a.eval f = .func (.func g) #[] us.toArray/\cE ρ xs us:=by have:=hs.frame.ev f;rw[hg]at this;exact this
     have hcall:=hch _ _ _ _ h w0 M ρ w (c.args.toList.map a.eval++us) hs.n hs.heap (vw hrep (qK hs.frame _));refine .inr ⟨g,c.args.map a.eval++us.toArray,?_,?_⟩
     ·obtain⟨callee,args,ts⟩:=c;simp only at hf;have hb:fn.body≠none:=by have:=hok.body;cases hh:fn.body<;>simp[hh]at this ⊢
      have hne : fn.name ≠ "runtime.NumGoroutine" := by have := hok.name; simpa using this
      simp[execOp,hc,hf,resolve,hev,Deferred.ofValue,invoke,callFunc,hok.at_,hne,hb]
     ·have e:(c.args.toList.map a.eval++us).toArray=c.args.map a.eval++us.toArray:=by apply Array.toList_inj.1;simp
      rw[e]at hcall;exact hcall
    ·exact h.elim
   ·exact h.elim
  ·exact plain K h
  ·exact h.elim
 ·exact plain K h
theorem Fu.mono{P:Program}{m:Sem Next}{w:World}{R R':Value->World->Prop}(h:Fu P m w R)(hh:∀v w',R v w'->R' v w'):Fu P m w R':=by
 rcases h with⟨v,w',h1,h2⟩ | ⟨f,args,h1,h2⟩
 ·exact .inl ⟨v,w',h1,hh _ _ h2⟩
 ·refine .inr ⟨f,args,h1,h2.mono ?_⟩;rintro e w' ⟨v,rfl,h3⟩;exact⟨v,rfl,hh _ _ h3⟩
theorem Dk{G:Fx}(hG:G.Ok){ch:iy}(hch:Kn G.X ch){o:Oper}{ts:List Nat}{s:S}{K:KV}(h:Pr G ch o ts s K){w0:World}{M:Nat->Prop}{ρ:Env}{a:Act}{w:World}(hs:ir w0 M ρ s a w) :
 Fu G.X.P (execOp a.eval o) w fun v w'=>Out w0 M ρ s w' v K/\∀t∈ts,∀b,(ρ.pl t).fp b->w'.heap[b]? = w.heap[b]?:=by
 unfold Pr at h;cases ts with
 |nil=>exact(FW hG hch h hs).mono fun v w' ho=>⟨ho,fun t ht=>by cases ht⟩
 |cons t0 ts =>
  simp only at h;cases ha:(t0::ts).all fun t=>(s.hp.find t).isSome with
  |false=>rw[ha]at h;exact h.elim
  |true =>
   rw[ha]at h;simp only[cond_true]at h;have hs':ir w (mq ρ (s.hp.freeze (t0::ts))) ρ (s.put (s.hp.freeze (t0::ts))) a w:=⟨hs.defers,hs.size,hs.n,hs.frame,hs.heap.freeze _⟩
   refine(FW hG hch h hs').mono fun v w' ho=>?_;obtain⟨sv,s',ρ',h1,h2,h3,h4,h5,h6,h7⟩:=ho;refine⟨⟨sv,_,ρ',h1,h2,h3,h4,h5,h6,hs.heap.Xt h4 h7⟩,fun t ht b hb=>HB hs.heap h7 ht ?_ hb⟩;exact List.all_eq_true.1 ha t ht
def KN(P:Program)(ρ:Env)(w:World)(E:List (Nat×Option Nat))(e:Nat×Sem Next×Value):Prop :=
 (∀w':World,e.2.1.run P w' = .ok (.value e.2.2) w')\/(∃t,(e.1,some t)∈E/\t<ρ.n/\∀w':World,(∀b,(ρ.pl t).fp b->w'.heap[b]? = w.heap[b]?)->e.2.1.run P w' = .ok (.value e.2.2) w')\/(e.1,none)∈E
theorem ia{g:RG}{i:Nat}:∀ {E:List (Nat×Option Nat)} {ts:List Nat},oQ g i E=some ts->∀ {e x},(e,x)∈E->g.iV e i=false->∃t∈ts,x=some t
 |[],_,_,_,_,hm,_=>by cases hm
 |(e',x')::E,ts,h,e,x,hm,ha=>by
  simp only[oQ]at h;cases hb:g.iV e' i with
  |true =>
   rw[hb]at h;simp only[cond_true]at h;rcases List.mem_cons.1 hm with h'|h'
   ·cases h';rw[hb]at ha;cases ha
   ·exact ia h h' ha
  |false =>
   rw[hb]at h;simp only[cond_false]at h;split at h
   ·rename_i t ts' h1;cases h;rcases List.mem_cons.1 hm with h'|h'
    ·cases h';exact⟨t,List.mem_cons_self,rfl⟩
    ·obtain⟨t',ht,e'⟩:=ia h1 h' ha;exact⟨t',List.mem_cons_of_mem _ ht,e'⟩
   ·cases h
theorem og{G:Fx}(hG:G.Ok){ch:iy}(hch:Kn G.X ch){all:List Oper}{g:RG}{w0:World}{M:Nat->Prop}{Q:Act->World->Prop}{K:S->Prop}:∀(pi:List (Nat×Bool)) (E:List (Nat×Option Nat)) (Es:List (Nat×Sem Next×Value)) (s:S) (ρ:Env) (a:Act) (w:World),
 xO G ch all g pi E s K->ir w0 M ρ s a w->(∀e∈Es,KN G.X.P ρ w E e) ->
 (∀s' ρ' a' w',K s'->ρ.le ρ'->ir w0 M ρ' s' a' w'->Q a' w')->pG G.X.P all.toArray g.iV Q pi Es a w
 |[],E,Es,s,ρ,a,w,h,hs,_,hQ=>hQ s ρ a w h (Env.le.refl ρ) hs
 |(i,loud)::r,E,Es,s,ρ,a,w,h,hs,hE,hQ=>by
  simp only[xO]at h;simp only[pG];cases ho:all[i]? with
  |none=>rw[ho]at h;exact h.elim
  |some o =>
   rw[ho]at h;have ho':all.toArray[i]? = some o:=by simpa using ho
   rw[ho'];simp only at h ⊢;obtain⟨s',_,hs',_,hcase⟩:=w8 h hs;rcases hcase with⟨hw,h⟩ | ⟨hw,h⟩
   ·rw[if_pos hw];cases loud with
    |true =>
     simp only[cond_true,if_true]at h ⊢;cases hf:oQ g i E with
     |none=>rw[hf]at h;exact h.elim
     |some ts =>
      rw[hf]at h;simp only at h;refine(Dk hG hch h hs').mono ?_;rintro v w' ⟨hout,hkeep⟩;refine⟨?_,?_⟩
      ·intro e he hae;rcases hE e he with k | ⟨t,k1,k2,k3⟩|k
       ·exact k w'
       ·obtain⟨t',ht',e'⟩:=ia hf k1 hae;cases e';exact k3 w' (hkeep t ht')
       ·obtain⟨t',ht',e'⟩:=ia hf k hae;cases e'
      ·obtain⟨sv,s2,ρ',hK,hle,hv,hs2⟩:=hout.sat hs';obtain⟨s3,h3,hs3⟩:=qn hK hs2 hv;refine og hG hch r _ (Es.filter fun e=>!g.iV e.1 i) s3 ρ' _ w' h3 hs3 ?_ fun s4 ρ4 a4 w4 k hl hs4=>hQ s4 ρ4 a4 w4 k (hle.trans hl) hs4;intro e he;obtain⟨he,hna⟩:=List.mem_filter.1 he;have hae:g.iV e.1 i=false:=by simpa using hna
       rcases hE e he with k | ⟨t,k1,k2,k3⟩|k
       ·exact .inl k
       ·have hm:(e.1,some t)∈Pq g i E:=List.mem_filter.2 ⟨k1,by simp[hae]⟩;obtain⟨t',ht',e'⟩:=ia hf k1 hae;cases e';refine .inr (.inl ⟨t,hm,Nat.lt_of_lt_of_le k2 hle.n,fun w'' hw''=>k3 w'' fun b hb=>?_⟩);exact(hw'' b (by rw[hle.pl t k2];exact hb)).trans (hkeep t ht' b hb)
       ·exact .inr (.inr (List.mem_filter.2 ⟨k,by simp[hae]⟩))
    |false =>
     simp only[cond_false,Bool.false_eq_true,if_false]at h ⊢;cases hq:jt o with
     |false=>rw[hq]at h;exact h.elim
     |true =>
      rw[hq]at h;simp only[cond_true]at h;obtain⟨v,sv,h1,h2,h3⟩:=Am hG.cx hq h w0 M ρ a w hs';refine⟨v,h3 w fun _ _ _ _=>rfl,?_⟩;obtain⟨s3,h4,hs3⟩:=qn h1 hs' h2;refine og hG hch r _ _ s3 ρ _ w h4 hs3 ?_ hQ;intro e he;rcases List.mem_cons.1 he with rfl|he
      ·cases hr:Fk o s' with
       |none=>exact .inl fun w'=>h3 w' fun t ht=>by rw[hr]at ht;cases ht
       |some t =>
        refine .inr (.inl ⟨t,List.mem_cons_self,?_,fun w' hw'=>h3 w' fun t' ht'=>?_⟩)
        ·have hp:∀x,Fj s'.hp (s'.ev x)=some t->t<ρ.n:=by
          intro x hr;have:=hs'.frame.ev x;unfold Fj at hr;split at hr
          ·obtain⟨e,he,rfl⟩:=x9 hr;exact(hs'.heap.iq e he).tag
          unfold Mj at hr;split at hr
          ·rename_i e;cases hr;rw[e]at this;exact this.1
          ·rename_i e;cases hr;rw[e]at this;exact this.1
          ·cases hr
         unfold Fk at hr;split at hr
         ·exact hp _ hr
         ·exact hp _ hr
         ·cases hr
        ·rw[hr]at ht';cases ht';exact hw'
      ·rcases hE e he with k | ⟨t,k1,k2,k3⟩|k
       ·exact .inl k
       ·refine .inr (.inl ⟨t,?_,k2,k3⟩);split
        ·exact List.mem_cons_of_mem _ k1
        ·exact k1
       ·refine .inr (.inr ?_);split
        ·exact List.mem_cons_of_mem _ k
        ·exact k
   ·rw[if_neg (by simp[hw])];obtain⟨s3,h3,hs3⟩:=qn h hs' (v:=undef) ⟨[],rfl,rfl⟩;exact og hG hch r E Es s3 ρ _ w h3 hs3 hE hQ
theorem ir.draw{w0:World}{M:Nat->Prop}{ρ:Env}{s:S}{a:Act}{w:World}(h:ir w0 M ρ s a w):ir w0 M ρ s a { w with drawn:=w.drawn+1 } :=
 ⟨h.defers,h.size,h.n,h.frame,h.heap.world (M':=fun _=>False) ⟨rfl,rfl,rfl,Nat.le_refl _,fun _ _ _=>rfl,fun _ _=>rfl⟩ (fun _ _ h=>h.elim) fun _ _ _ _=>rfl⟩
theorem TF{G:Fx}(hG:G.Ok){ch:iy}(hch:Kn G.X ch){all:List Oper}{g:RG}(hg:MJ all g=true){w0:World}{M:Nat->Prop}{Q:Exit->Act->World->Prop}{K:S->Prop}{id:Nat}{s:S}{ρ:Env}{a:Act}{w:World}
 (h:xO G ch all g g.pi [] s K) (hs:ir w0 M ρ s a w) (hQ:∀s' ρ' a' w',K s'->ρ.le ρ'->ir w0 M ρ' s' a' w'->Q .normal a' w'):(Code.region id all.toArray true).wp G.X.P Q a w:=by
 obtain⟨hlen,hf,hst,hlo⟩:=FV hg;refine wp_region_any hG.cx.mixed ?_;refine tS hf (Q:=fun a' w'=>Q .normal a' w') (fun _ _ h=>h) _ [] g.pi [] _ a _ ?_ hst (fun d hd=>by cases hd) hlo trivial (fun d hd=>by cases hd) ?_
 ·simpa using hlen
 ·exact og hG hch g.pi [] [] s ρ a _ h hs.draw (fun e he=>by cases he) hQ
def QV(G:Fx)(ch:iy)(all:List Oper)(g:RG)(i:Nat)(loud:Bool)(E:List (Nat×Option Nat))(s:S)(K:List (Nat×Option Nat)->S->Prop):Prop :=
 match all[i]? with
 |none=>False
 |some o=>Dd G.X all o s
  (fun s=>bif loud then
   (match oQ g i E with
   |none=>False
   |some ts=>Pr G ch o ts s fun v s=>Ft o v s fun s=>K (Pq g i E) s)
   else bif jt o then
    W0 G.X o s fun v s1=>Ft o v s1 fun s2=>K (match Fk o s with|some t=>(i,some t)::E|none=>E) s2
   else False)
  (fun s=>Ft o (.ng []) s fun s=>K E s)
def CA(G:Fx)(ch:iy)(all:List Oper)(g:RG):List Nat->List (Nat×Option Nat)->S->(List (Nat×Option Nat)->S->Prop)->Prop
 |[],E,s,K=>K E s
 |i::r,E,s,K=>QV G ch all g i false E s fun E s=>CA G ch all g r E s K
def Dl(G:Fx)(ch:iy)(all:List Oper)(g:RG):RT->List (Nat×Option Nat)->S->(S->Prop)->Prop
 |.one pi,E,s,K=>xO G ch all g pi E s K
 |.two L x tx y ty,E,s,K=>CA G ch all g L E s fun E s=>QV G ch all g x true E s (fun E s=>Dl G ch all g tx E s K)/\QV G ch all g y true E s (fun E s=>Dl G ch all g ty E s K)
def YW(P:Program)(w0:World)(M:Nat->Prop)(ρ:Env)(Kc:List (Nat×Option Nat)->S->Prop)(Es:List (Nat×Sem Next×Value))(a:Act)(w:World):Prop :=
 ∃E' s' ρ',Kc E' s'/\ρ.le ρ'/\ir w0 M ρ' s' a w/\∀e∈Es,KN P ρ' w E' e
theorem FX{G:Fx}(hG:G.Ok){ch:iy}(hch:Kn G.X ch){all:List Oper}{g:RG}{i:Nat}{E:List (Nat×Option Nat)}{s:S}{Kc:List (Nat×Option Nat)->S->Prop}(h:QV G ch all g i true E s Kc){w0:World}{M:Nat->Prop}{ρ:Env}{a:Act}{w:World}{Es:List (Nat×Sem Next×Value)}
 (hs:ir w0 M ρ s a w) (hE:∀e∈Es,KN G.X.P ρ w E e):uV G.X.P all.toArray g.iV i (YW G.X.P w0 M ρ Kc) Es a w:=by
 unfold QV at h;unfold uV;cases ho:all[i]? with
 |none=>rw[ho]at h;exact h.elim
 |some o =>
  rw[ho]at h;have ho':all.toArray[i]? = some o:=by simpa using ho
  rw[ho'];simp only at h ⊢;obtain⟨s',_,hs',_,hcase⟩:=w8 h hs;rcases hcase with⟨hw,h⟩ | ⟨hw,h⟩
  ·rw[if_pos hw];simp only[cond_true]at h;cases hf:oQ g i E with
   |none=>rw[hf]at h;exact h.elim
   |some ts =>
    rw[hf]at h;simp only at h;refine(Dk hG hch h hs').mono ?_;rintro v w' ⟨hout,hkeep⟩;refine⟨?_,?_⟩
    ·intro e he hae;rcases hE e he with k | ⟨t,k1,k2,k3⟩|k
     ·exact k w'
     ·obtain⟨t',ht',e'⟩:=ia hf k1 hae;cases e';exact k3 w' (hkeep t ht')
     ·obtain⟨t',ht',e'⟩:=ia hf k hae;cases e'
    ·obtain⟨sv,s2,ρ',hK,hle,hv,hs2⟩:=hout.sat hs';obtain⟨s3,h3,hs3⟩:=qn hK hs2 hv;refine⟨_,s3,ρ',h3,hle,hs3,?_⟩;intro e he;obtain⟨he,hna⟩:=List.mem_filter.1 he;have hae:g.iV e.1 i=false:=by simpa using hna
     rcases hE e he with k | ⟨t,k1,k2,k3⟩|k
     ·exact .inl k
     ·have hm:(e.1,some t)∈Pq g i E:=List.mem_filter.2 ⟨k1,by simp[hae]⟩;obtain⟨t',ht',e'⟩:=ia hf k1 hae;cases e';refine .inr (.inl ⟨t,hm,Nat.lt_of_lt_of_le k2 hle.n,fun w'' hw''=>k3 w'' fun b hb=>?_⟩);exact(hw'' b (by rw[hle.pl t k2];exact hb)).trans (hkeep t ht' b hb)
     ·exact .inr (.inr (List.mem_filter.2 ⟨k,by simp[hae]⟩))
  ·rw[if_neg (by simp[hw])];obtain⟨s3,h3,hs3⟩:=qn h hs' (v:=undef) ⟨[],rfl,rfl⟩;exact⟨_,s3,ρ,h3,Env.le.refl ρ,hs3,hE⟩
theorem vz{G:Fx}(hG:G.Ok){ch:iy}{all:List Oper}{g:RG}{Kc:List (Nat×Option Nat)->S->Prop}{w0:World}{M:Nat->Prop}{ρ:Env}{w:World}:∀(L:List Nat) (E:List (Nat×Option Nat)) (s:S) (a:Act) (Es:List (Nat×Sem Next×Value)),CA G ch all g L E s Kc ->
 ir w0 M ρ s a w->(∀e∈Es,KN G.X.P ρ w E e)->kT G.X.P all.toArray (YW G.X.P w0 M ρ Kc) L Es a w
 |[],E,s,a,Es,h,hs,hE=>⟨E,s,ρ,h,Env.le.refl ρ,hs,hE⟩
 |i::L,E,s,a,Es,h,hs,hE=>by
  simp only[CA,QV]at h;simp only[kT];cases ho:all[i]? with
  |none=>rw[ho]at h;exact h.elim
  |some o =>
   rw[ho]at h;have ho':all.toArray[i]? = some o:=by simpa using ho
   rw[ho'];simp only at h ⊢;obtain⟨s',_,hs',_,hcase⟩:=w8 h hs;rcases hcase with⟨hw,h⟩ | ⟨hw,h⟩
   ·rw[if_pos hw];simp only[cond_false]at h;cases hq:jt o with
    |false=>rw[hq]at h;exact h.elim
    |true =>
     rw[hq]at h;simp only[cond_true]at h;obtain⟨v,sv,h1,h2,h3⟩:=Am hG.cx hq h w0 M ρ a w hs';refine⟨v,h3 w fun _ _ _ _=>rfl,?_⟩;obtain⟨s3,h4,hs3⟩:=qn h1 hs' h2;refine vz hG L _ s3 _ _ h4 hs3 ?_;intro e he;rcases List.mem_cons.1 he with rfl|he
     ·cases hr:Fk o s' with
      |none=>exact .inl fun w'=>h3 w' fun t ht=>by rw[hr]at ht;cases ht
      |some t =>
       refine .inr (.inl ⟨t,List.mem_cons_self,?_,fun w' hw'=>h3 w' fun t' ht'=>?_⟩)
       ·have hp:∀x,Fj s'.hp (s'.ev x)=some t->t<ρ.n:=by
         intro x hr;have:=hs'.frame.ev x;unfold Fj at hr;split at hr
         ·obtain⟨e,he,rfl⟩:=x9 hr;exact(hs'.heap.iq e he).tag
         unfold Mj at hr;split at hr
         ·rename_i e;cases hr;rw[e]at this;exact this.1
         ·rename_i e;cases hr;rw[e]at this;exact this.1
         ·cases hr
        unfold Fk at hr;split at hr
        ·exact hp _ hr
        ·exact hp _ hr
        ·cases hr
       ·rw[hr]at ht';cases ht';exact hw'
     ·rcases hE e he with k | ⟨t,k1,k2,k3⟩|k
      ·exact .inl k
      ·refine .inr (.inl ⟨t,?_,k2,k3⟩);split
       ·exact List.mem_cons_of_mem _ k1
       ·exact k1
      ·refine .inr (.inr ?_);split
       ·exact List.mem_cons_of_mem _ k
       ·exact k
   ·rw[if_neg (by simp[hw])];obtain⟨s3,h3,hs3⟩:=qn h hs' (v:=undef) ⟨[],rfl,rfl⟩;exact vz hG L _ s3 _ _ h3 hs3 hE
theorem Dm{P:Program}{ops:Array Oper}{iV:Nat->Nat->Bool}{x:Nat}{K K':List (Nat×Sem Next×Value)->Act->World->Prop}(hk:∀E a w,K E a w->K' E a w){E:List (Nat×Sem Next×Value)}{a:Act}{w:World}(h:uV P ops iV x K E a w):uV P ops iV x K' E a w:=by
 unfold uV at h ⊢;cases ho:ops[x]? with
 |none=>rw[ho]at h;exact h.elim
 |some o =>
  rw[ho]at h;simp only at h ⊢;by_cases hw:Region.wanted o (yielded ops a.tmps)=true
  ·rw[if_pos hw]at h ⊢;exact h.mono fun v w' ⟨h1,h2⟩=>⟨h1,hk _ _ _ h2⟩
  ·rw[if_neg hw]at h ⊢;exact hk _ _ _ h
theorem yg{G:Fx}(hG:G.Ok){ch:iy}(hch:Kn G.X ch){all:List Oper}{g:RG}{w0:World}{M:Nat->Prop}{Q:Act->World->Prop}{K:S->Prop}:∀(T:RT) (E:List (Nat×Option Nat)) (Es:List (Nat×Sem Next×Value)) (s:S) (ρ:Env) (a:Act) (w:World),
 Dl G ch all g T E s K->ir w0 M ρ s a w->(∀e∈Es,KN G.X.P ρ w E e) ->
 (∀s' ρ' a' w',K s'->ρ.le ρ'->ir w0 M ρ' s' a' w'->Q a' w')->xN G.X.P all.toArray g.iV Q T Es a w
 |.one pi,E,Es,s,ρ,a,w,h,hs,hE,hQ=>og hG hch pi E Es s ρ a w h hs hE hQ
 |.two L x tx y ty,E,Es,s,ρ,a,w,h,hs,hE,hQ=>by
  simp only[Dl]at h;simp only[xN];refine qM ?_ L Es a w (vz hG L E s a Es h hs hE);rintro Es1 a1 w1 ⟨E1,s1,ρ1,⟨h1,h2⟩,hle,hs1,hE1⟩;refine⟨Dm ?_ (FX hG hch h1 hs1 hE1),Dm ?_ (FX hG hch h2 hs1 hE1)⟩
  ·rintro Es2 a2 w2 ⟨E2,s2,ρ2,h3,hle2,hs2,hE2⟩;exact yg hG hch tx E2 Es2 s2 ρ2 a2 w2 h3 hs2 hE2 fun s' ρ' a' w' k hl hs'=>hQ s' ρ' a' w' k (hle.trans (hle2.trans hl)) hs'
  ·rintro Es2 a2 w2 ⟨E2,s2,ρ2,h3,hle2,hs2,hE2⟩;exact yg hG hch ty E2 Es2 s2 ρ2 a2 w2 h3 hs2 hE2 fun s' ρ' a' w' k hl hs'=>hQ s' ρ' a' w' k (hle.trans (hle2.trans hl)) hs'
def ML(G:Fx)(ch:iy)(all:List Oper)(g:RG)(s:S)(K:S->Prop):Prop :=
 match g.tr with
 |some T=>Dl G ch all g T [] s K
 |none=>match g.two with
  |0=>xO G ch all g g.pi [] s K
  |k+1=>match g.pi.drop k with
   |p::q::R=>xO G ch all g (g.pi.take k++p::q::R) [] s K/\xO G ch all g (g.pi.take k++q::p::R) [] s K
   |_=>False
theorem QW{G:Fx}(hG:G.Ok){ch:iy}(hch:Kn G.X ch){all:List Oper}{g:RG}(hg:TD all g=true){w0:World}{M:Nat->Prop}{Q:Exit->Act->World->Prop}{K:S->Prop}{id:Nat}{s:S}{ρ:Env}{a:Act}{w:World}
 (h:ML G ch all g s K) (hs:ir w0 M ρ s a w) (hQ:∀s' ρ' a' w',K s'->ρ.le ρ'->ir w0 M ρ' s' a' w'->Q .normal a' w'):(Code.region id all.toArray true).wp G.X.P Q a w:=by
 unfold ML at h;unfold TD at hg;cases htr:g.tr with
 |some T =>
  rw[htr]at h hg;obtain⟨hlen,hf,hst,hok⟩:=Xs hg;refine wp_region_any hG.cx.mixed ?_;refine KK hf (Q:=fun a' w'=>Q .normal a' w') (fun _ _ h=>h) _ [] T [] _ a _ ?_ (by simpa using hst) hok (fun d hd=>by cases hd) trivial (fun d hd=>by cases hd) ?_
  ·simpa using hlen
  ·exact yg hG hch T [] [] s ρ a _ h hs.draw (fun e he=>by cases he) hQ
 |none =>
 rw[htr]at h hg;simp only at h hg;cases ht:g.two with
 |zero=>rw[ht]at h hg;exact TF hG hch hg h hs hQ
 |succ k =>
  rw[ht]at h hg;simp only at h hg;split at hg
  ·rename_i x y R e;rw[e]at h;simp only[Bool.and_eq_true]at hg;obtain⟨⟨hq,h1⟩,h2⟩:=hg;obtain⟨hlen,hf,hst1,hlo1⟩:=FV h1;obtain⟨_,_,hst2,hlo2⟩:=FV h2;have hqm:=Dh hq;refine wp_region_any hG.cx.mixed ?_;have r1:=og (Q:=fun a' w'=>Q .normal a' w') hG hch _ [] [] s ρ a _ h.1 hs.draw (fun e he=>by cases he) hQ;have r2:=og (Q:=fun a' w'=>Q .normal a' w') hG hch _ [] [] s ρ a _ h.2 hs.draw (fun e he=>by cases he) hQ;rw[hqm]at r1 r2;have rr:=ye _ _ _ _ r1 r2;refine MI (iV:=g.iV) (x:=x) (y:=y) (R:=R) hf (Q:=fun a' w'=>Q .normal a' w') (fun _ _ h=>h) ?_ ?_ ?_ _ [] ((g.pi.take k).map (·.1)) [] _ a _ ?_ ?_ ?_ (fun d hd=>by cases hd) trivial (fun d hd=>by cases hd) rr
   ·intro L' R' z ez q hq;exact hlo1 (g.pi.take k++(x,false)::(y,true)::L') R' z (by rw[ez];simp) q hq
   ·exact hlo2 (g.pi.take k++[(y,false)]) R x (by simp)
   ·exact hlo1 (g.pi.take k++[(x,false)]) R y (by simp)
   ·have:(g.pi.take k++(x,false)::(y,true)::R).length=all.length:=hlen;simp only[List.length_append,List.length_cons,List.length_map,List.length_nil,Nat.zero_add]at this ⊢;show _=all.toArray.size;simp only[List.size_toArray];omega
   ·simpa using hst1
   ·simpa using hst2
  ·cases hg
end
section
abbrev Sub:=List (Nat×Option Nat)
def kU:Sub->Nat->Option (Option Nat)
 |[],_=>none
 |(j,v)::r,t=>bif Nat.beq j t then some v else kU r t
def oeq:Option Nat->Option Nat->Bool
 |none,none=>true
 |some a,some b=>Nat.beq a b
 |_,_=>false
theorem TG{a b:Option Nat}(h:oeq a b=true):a=b:=by
 cases a<;>cases b<;>simp[oeq]at h<;>simp[h]
def zv(n0 N:Nat)(σ:Sub)(T:Nat)(x:Option Nat)(K:Sub->Prop):Prop :=
 match kU σ T with
 |some y=>bif oeq y x then K σ else False
 |none=>bif Nat.blt T N&&(Nat.ble n0 T||oeq x (some T))then K ((T,x)::σ)else False
def zw:Place:=⟨0,0,0,fun _=>False⟩
def placeOf(ρ:Env):Option Nat->Place
 |some t=>ρ.pl t
 |none=>zw
structure Ext(σ σ':Sub):Prop where
 at_:∀T x,kU σ T=some x->kU σ' T=some x
theorem Ext.refl(σ:Sub):Ext σ σ:=⟨fun _ _ h=>h⟩
theorem Ext.trans{a b c:Sub}(h:Ext a b)(k:Ext b c):Ext a c:=⟨fun T x e=>k.at_ T x (h.at_ T x e)⟩
structure Wf(n0 N:Nat)(σ:Sub):Prop where
 lt:∀T x,kU σ T=some x->T<N
 id:∀T x,kU σ T=some x->T<n0->x=some T
theorem Wf.nil(n0 N:Nat):Wf n0 N []:=⟨fun _ _ h=>(by cases h),fun _ _ h=>(by cases h)⟩
def Fits(ρ ρ':Env)(σ:Sub):Prop:=∀T x,kU σ T=some x->T<ρ'.n/\ρ'.pl T=placeOf ρ x
theorem Fits.ext{ρ ρ':Env}{σ σ':Sub}(h:Fits ρ ρ' σ')(k:Ext σ σ'):Fits ρ ρ' σ:=fun T x e=>h T x (k.at_ T x e)
theorem qO{n0 N:Nat}{σ:Sub}{T:Nat}{x:Option Nat}{K:Sub->Prop}(h:zv n0 N σ T x K)(hw:Wf n0 N σ):∃σ',K σ'/\Ext σ σ'/\Wf n0 N σ'/\kU σ' T=some x:=by
 unfold zv at h;split at h
 ·rename_i y hy;cases hb:oeq y x
  ·rw[hb]at h;exact h.elim
  ·rw[hb]at h;have:=TG hb;subst this;exact⟨σ,h,Ext.refl σ,hw,hy⟩
 ·rename_i hn;cases hb:(Nat.blt T N&&(Nat.ble n0 T||oeq x (some T)))
  ·rw[hb]at h;exact h.elim
  ·rw[hb]at h;simp only[Bool.and_eq_true,Bool.or_eq_true]at hb;obtain⟨h1,h2⟩:=hb;have hlt:T<N:=by simp[Nat.blt]at h1;omega
   have hself:kU ((T,x)::σ) T=some x:=by simp[kU]
   refine⟨_,h,⟨fun T' x' e=>?_⟩,⟨fun T' x' e=>?_,fun T' x' e hl=>?_⟩,hself⟩
   ·simp only[kU];by_cases he:T=T'
    ·subst he;rw[hn]at e;cases e
    ·rw[fh he];exact e
   ·simp only[kU]at e;by_cases he:T=T'
    ·subst he;exact hlt
    ·rw[fh he]at e;exact hw.lt _ _ e
   ·simp only[kU]at e;by_cases he:T=T'
    ·subst he;simp only[dz,cond_true,Option.some.injEq]at e;subst e;rcases h2 with h2|h2
     ·have:=Nat.le_of_ble_eq_true h2;omega
     ·exact TG h2
    ·rw[fh he]at e;exact hw.id _ _ e hl
def HC(x:A)(k:IntKind)(n:Int)(K:Prop):Prop :=
 match x.i? with
 |some (j,m)=>bif pq j k then m=n/\K else False
 |none=>False
def Dn(x:A)(b:Bool)(K:Prop):Prop :=
 match x.b? with
 |some c=>c=b/\K
 |none=>False
def pH(n0 N:Nat)(σ:Sub)(x y:A)(K:Sub->Prop):Prop :=
 match y with
 |.any=>K σ
 |.lit k n=>HC x k n (K σ)
 |.int k n=>HC x k n (K σ)
 |.tt=>Dn x true (K σ)
 |.ff=>Dn x false (K σ)
 |.bool b=>Dn x b (K σ)
 |.str t=>match x with
  |.str s=>s=t/\K σ
  |_=>False
 |.nil=>match x with
  |.nil=>K σ
  |_=>False
 |.cc=>match x with
  |.cc=>K σ
  |_=>False
 |.fn g=>match x with
  |.fn f=>bif Nat.beq f g then K σ else False
  |_=>False
 |.val u=>match x with
  |.val v=>v=u/\K σ
  |.cc=>Value.slice none 0 0=u/\K σ
  |.nil=>Value.pointer none=u/\K σ
  |_=>False
 |.ptr T R E C=>match x with
  |.ptr t r e c=>bif Nat.beq e E&&Nat.beq c C then r=R/\zv n0 N σ T (some t) K else False
  |_=>False
 |.slc T R E L C=>match x with
  |.slc t r e l c=>bif Nat.beq e E then(r=R/\l=L/\c=C)/\zv n0 N σ T (some t) K else False
  |.cc=>(0=L/\0=C)/\zv n0 N σ T none K
  |_=>False
 |.sub T R E O L C=>match x with
  |.sub t r e o l c=>bif Nat.beq e E&&Nat.beq o O then(r=R/\l=L/\c=C)/\zv n0 N σ T (some t) K else False
  |_=>False
theorem FY{x:A}{k:IntKind}{n:Int}{K:Prop}(h:HC x k n K):K/\∀(ρ:Env) v,x.cz ρ v->v = .int k n/\bR k n:=by
 unfold HC at h;split at h
 ·rename_i j m hi;cases hk:pq j k
  ·rw[hk]at h;exact h.elim
  ·rw[hk]at h;obtain⟨rfl,h⟩:=h;have:=mw hk;subst this;exact⟨h,fun ρ v r=>A.kq hi r⟩
 ·exact h.elim
theorem Aq{x:A}{b:Bool}{K:Prop}(h:Dn x b K):K/\∀(ρ:Env) v,x.cz ρ v->v = .bool b:=by
 unfold Dn at h;split at h
 ·rename_i c hc;obtain⟨rfl,h⟩:=h;exact⟨h,fun ρ v r=>A.ya hc r⟩
 ·exact h.elim
theorem Ar{n0 N:Nat}{σ:Sub}{x y:A}{K:Sub->Prop}(h:pH n0 N σ x y K)(hw:Wf n0 N σ) :
 ∃σ',K σ'/\Ext σ σ'/\Wf n0 N σ'/\∀ρ ρ' v,Fits ρ ρ' σ'->x.cz ρ v->y.cz ρ' v:=by
 cases y with
 |any=>exact⟨σ,h,Ext.refl σ,hw,fun _ _ _ _ _=>trivial⟩
 |lit k n=>obtain⟨h,hr⟩:=FY h;exact⟨σ,h,Ext.refl σ,hw,fun ρ _ v _ r=>hr ρ v r⟩
 |int k n=>obtain⟨h,hr⟩:=FY h;exact⟨σ,h,Ext.refl σ,hw,fun ρ _ v _ r=>hr ρ v r⟩
 |tt=>obtain⟨h,hr⟩:=Aq h;exact⟨σ,h,Ext.refl σ,hw,fun ρ _ v _ r=>hr ρ v r⟩
 |ff=>obtain⟨h,hr⟩:=Aq h;exact⟨σ,h,Ext.refl σ,hw,fun ρ _ v _ r=>hr ρ v r⟩
 |bool b=>obtain⟨h,hr⟩:=Aq h;exact⟨σ,h,Ext.refl σ,hw,fun ρ _ v _ r=>hr ρ v r⟩
 |str t =>
  cases x<;>simp only[pH]at h<;>try exact h.elim
  obtain⟨rfl,h⟩:=h;exact⟨σ,h,Ext.refl σ,hw,fun ρ _ v _ r=>r⟩
 |nil =>
  cases x<;>simp only[pH]at h<;>try exact h.elim
  exact⟨σ,h,Ext.refl σ,hw,fun ρ _ v _ r=>r⟩
 |cc =>
  cases x<;>simp only[pH]at h<;>try exact h.elim
  exact⟨σ,h,Ext.refl σ,hw,fun ρ _ v _ r=>r⟩
 |fn g =>
  cases x<;>simp only[pH]at h<;>try exact h.elim
  rename_i f;cases hb:Nat.beq f g
  ·rw[hb]at h;exact h.elim
  ·rw[hb]at h;have:=Nat.eq_of_beq_eq_true hb;subst this;exact⟨σ,h,Ext.refl σ,hw,fun ρ _ v _ r=>r⟩
 |val u =>
  cases x<;>simp only[pH]at h<;>try exact h.elim
  ·obtain⟨rfl,h⟩:=h;exact⟨σ,h,Ext.refl σ,hw,fun ρ _ v _ r=>⟨r,rfl⟩⟩
  ·obtain⟨rfl,h⟩:=h;exact⟨σ,h,Ext.refl σ,hw,fun ρ _ v _ r=>⟨r,rfl⟩⟩
  ·obtain⟨rfl,h⟩:=h;exact⟨σ,h,Ext.refl σ,hw,fun ρ _ v _ r=>r⟩
 |ptr T R E C =>
  cases x<;>simp only[pH]at h<;>try exact h.elim
  rename_i t r e c;cases hb:(Nat.beq e E&&Nat.beq c C)
  ·rw[hb]at h;exact h.elim
  ·rw[hb]at h;simp only[Bool.and_eq_true]at hb;have h1:=Nat.eq_of_beq_eq_true hb.1;have h2:=Nat.eq_of_beq_eq_true hb.2;subst h1;subst h2;obtain⟨rfl,h⟩:=h;obtain⟨σ',hk,he,hw',hs⟩:=qO h hw;refine⟨σ',hk,he,hw',fun ρ ρ' v hf r=>?_⟩;obtain⟨h1,h2⟩:=hf _ _ hs;obtain⟨_,rfl⟩:=r;exact⟨h1,by rw[h2];rfl⟩
 |slc T R E L C =>
  cases x<;>simp only[pH]at h<;>try exact h.elim
  ·obtain⟨⟨rfl,rfl⟩,h⟩:=h;obtain⟨σ',hk,he,hw',hs⟩:=qO h hw;refine⟨σ',hk,he,hw',fun ρ ρ' v hf r=>?_⟩;obtain⟨h1,h2⟩:=hf _ _ hs;exact⟨h1,Nat.le_refl _,by unfold aq;omega,.inl ⟨rfl,rfl,r⟩⟩
  ·rename_i t r e l c;cases hb:Nat.beq e E
   ·rw[hb]at h;exact h.elim
   ·rw[hb]at h;have h1:=Nat.eq_of_beq_eq_true hb;subst h1;obtain⟨⟨rfl,rfl,rfl⟩,h⟩:=h;obtain⟨σ',hk,he,hw',hs⟩:=qO h hw;refine⟨σ',hk,he,hw',fun ρ ρ' v hf r=>?_⟩;obtain⟨h1,h2⟩:=hf _ _ hs;obtain⟨_,h3,h4,h5⟩:=r;exact⟨h1,h3,h4,by rw[h2];exact h5⟩
 |sub T R E O L C =>
  cases x<;>simp only[pH]at h<;>try exact h.elim
  rename_i t r e o l c;cases hb:(Nat.beq e E&&Nat.beq o O)
  ·rw[hb]at h;exact h.elim
  ·rw[hb]at h;simp only[Bool.and_eq_true]at hb;have h1:=Nat.eq_of_beq_eq_true hb.1;have h2:=Nat.eq_of_beq_eq_true hb.2;subst h1;subst h2;obtain⟨⟨rfl,rfl,rfl⟩,h⟩:=h;obtain⟨σ',hk,he,hw',hs⟩:=qO h hw;refine⟨σ',hk,he,hw',fun ρ ρ' v hf r=>?_⟩;obtain⟨h1,h2⟩:=hf _ _ hs;obtain⟨_,h3,h4,rfl⟩:=r;exact⟨h1,h3,h4,by rw[h2];rfl⟩
def As(n0 N:Nat):Sub->List A->List A->(Sub->Prop)->Prop
 |σ,[],[],K=>K σ
 |σ,x::xs,y::ys,K=>pH n0 N σ x y fun σ=>As n0 N σ xs ys K
 |_,_,_,_=>False
theorem th{n0 N:Nat}{K:Sub->Prop}:∀ {σ:Sub} {xs ys:List A},As n0 N σ xs ys K->Wf n0 N σ ->
 ∃σ',K σ'/\Ext σ σ'/\Wf n0 N σ'/\∀ρ ρ' vs,Fits ρ ρ' σ'->cE ρ xs vs->cE ρ' ys vs
 |σ,[],[],h,hw=>⟨σ,h,Ext.refl σ,hw,fun _ _ _ _ r=>r⟩
 |σ,x::xs,y::ys,h,hw=>by
  obtain⟨σ1,h1,e1,w1,r1⟩:=Ar h hw;obtain⟨σ2,h2,e2,w2,r2⟩:=th h1 w1;refine⟨σ2,h2,e1.trans e2,w2,fun ρ ρ' vs hf r=>?_⟩;obtain⟨v,t,e,ra,rb⟩:=r;exact⟨v,t,e,r1 ρ ρ' v (hf.ext e2) ra,r2 ρ ρ' t hf rb⟩
 |_,[],_::_,h,_=>h.elim
 |_,_::_,[],h,_=>h.elim
def HD(n0 N:Nat)(σ:Sub)(x y:CV)(K:Sub->Prop):Prop :=
 match x,y with
 |.a x,.a y=>pH n0 N σ x y K
 |.agg xs,.agg ys=>As n0 N σ xs ys K
 |_,_=>False
theorem MM{n0 N:Nat}{K:Sub->Prop}{σ:Sub}{x y:CV}(h:HD n0 N σ x y K)(hw:Wf n0 N σ) :
 ∃σ',K σ'/\Ext σ σ'/\Wf n0 N σ'/\∀ρ ρ' v,Fits ρ ρ' σ'->x.cz ρ v->y.cz ρ' v:=by
 cases x<;>cases y<;>simp only[HD]at h
 ·exact Ar h hw
 ·obtain⟨σ',h1,h2,h3,h4⟩:=th h hw;refine⟨σ',h1,h2,h3,fun ρ ρ' v hf r=>?_⟩;obtain⟨vs,e,r⟩:=r;exact⟨vs,e,h4 ρ ρ' vs hf r⟩
def HE(n0 N:Nat):Sub->List CV->List CV->(Sub->Prop)->Prop
 |σ,[],[],K=>K σ
 |σ,x::xs,y::ys,K=>HD n0 N σ x y fun σ=>HE n0 N σ xs ys K
 |_,_,_,_=>False
theorem Dp{n0 N:Nat}{K:Sub->Prop}:∀ {σ:Sub} {xs ys:List CV},HE n0 N σ xs ys K->Wf n0 N σ ->
 ∃σ',K σ'/\Ext σ σ'/\Wf n0 N σ'/\∀ρ ρ' vs,Fits ρ ρ' σ'->tG ρ xs vs->tG ρ' ys vs
 |σ,[],[],h,hw=>⟨σ,h,Ext.refl σ,hw,fun _ _ _ _ r=>r⟩
 |σ,x::xs,y::ys,h,hw=>by
  obtain⟨σ1,h1,e1,w1,r1⟩:=MM h hw;obtain⟨σ2,h2,e2,w2,r2⟩:=Dp h1 w1;refine⟨σ2,h2,e1.trans e2,w2,fun ρ ρ' vs hf r=>?_⟩;obtain⟨v,t,e,ra,rb⟩:=r;exact⟨v,t,e,r1 ρ ρ' v (hf.ext e2) ra,r2 ρ ρ' t hf rb⟩
 |_,[],_::_,h,_=>h.elim
 |_,_::_,[],h,_=>h.elim
def isAny:SV->Bool
 |.a .any=>true
 |_=>false
def Dq(n0 N:Nat)(σ:Sub)(x y:SV)(K:Sub->Prop):Prop :=
 bif isAny y then K σ else
 match x,y with
 |.a x,.a y=>pH n0 N σ x y K
 |.agg xs,.agg ys=>As n0 N σ xs ys K
 |.ng xs,.ng ys=>HE n0 N σ xs ys K
 |.Cg f xs,.Cg g ys=>bif Nat.beq f g then As n0 N σ xs ys K else False
 |_,_=>False
theorem w9{n0 N:Nat}{K:Sub->Prop}{σ:Sub}{x y:SV}(h:Dq n0 N σ x y K)(hw:Wf n0 N σ) :
 ∃σ',K σ'/\Ext σ σ'/\Wf n0 N σ'/\∀ρ ρ' v,Fits ρ ρ' σ'->x.cz ρ v->y.cz ρ' v:=by
 unfold Dq at h;cases hb:isAny y
 ·rw[hb]at h;simp only[cond_false]at h;split at h
  ·exact Ar h hw
  ·obtain⟨σ',h1,h2,h3,h4⟩:=th h hw;refine⟨σ',h1,h2,h3,fun ρ ρ' v hf r=>?_⟩;obtain⟨vs,e,r⟩:=r;exact⟨vs,e,h4 ρ ρ' vs hf r⟩
  ·obtain⟨σ',h1,h2,h3,h4⟩:=Dp h hw;refine⟨σ',h1,h2,h3,fun ρ ρ' v hf r=>?_⟩;obtain⟨vs,e,r⟩:=r;exact⟨vs,e,h4 ρ ρ' vs hf r⟩
  ·rename_i f xs g ys;cases hb:Nat.beq f g
   ·rw[hb]at h;exact h.elim
   rw[hb]at h;have:=Nat.eq_of_beq_eq_true hb;subst this;obtain⟨σ',h1,h2,h3,h4⟩:=th h hw;refine⟨σ',h1,h2,h3,fun ρ ρ' v hf r=>?_⟩;obtain⟨vs,e,r⟩:=r;exact⟨vs,e,h4 ρ ρ' vs hf r⟩
  ·exact h.elim
 ·rw[hb]at h;simp only[cond_true]at h;refine⟨σ,h,Ext.refl σ,hw,fun _ _ _ _ _=>?_⟩;unfold isAny at hb;split at hb
  ·trivial
  ·cases hb
def Au(n0 N:Nat):Sub->List SV->List SV->(Sub->Prop)->Prop
 |σ,[],[],K=>K σ
 |σ,x::xs,y::ys,K=>Dq n0 N σ x y fun σ=>Au n0 N σ xs ys K
 |_,_,_,_=>False
theorem zx{n0 N:Nat}{K:Sub->Prop}:∀ {σ:Sub} {xs ys:List SV},Au n0 N σ xs ys K->Wf n0 N σ ->
 ∃σ',K σ'/\Ext σ σ'/\Wf n0 N σ'/\∀ρ ρ' vs,Fits ρ ρ' σ'->jv ρ xs vs->jv ρ' ys vs
 |σ,[],[],h,hw=>⟨σ,h,Ext.refl σ,hw,fun _ _ _ _ r=>r⟩
 |σ,x::xs,y::ys,h,hw=>by
  obtain⟨σ1,h1,e1,w1,r1⟩:=w9 h hw;obtain⟨σ2,h2,e2,w2,r2⟩:=zx h1 w1;refine⟨σ2,h2,e1.trans e2,w2,fun ρ ρ' vs hf r=>?_⟩;obtain⟨v,t,e,ra,rb⟩:=r;exact⟨v,t,e,r1 ρ ρ' v (hf.ext e2) ra,r2 ρ ρ' t hf rb⟩
 |_,[],_::_,h,_=>h.elim
 |_,_::_,[],h,_=>h.elim
def zy(n0 N:Nat)(fr:List (Nat×SV)):List Nat->Sub->List (Nat×SV)->(Sub->Prop)->Prop
 |_,σ,[],K=>K σ
 |seen,σ,(i,v)::r,K=>bif Ab seen i then zy n0 N fr seen σ r K else Dq n0 N σ (look fr i) v fun σ=>zy n0 N fr (i::seen) σ r K
theorem yh{n0 N:Nat}{K:Sub->Prop}{fr:List (Nat×SV)}:∀ {seen:List Nat} {σ:Sub} {ys:List (Nat×SV)},zy n0 N fr seen σ ys K->Wf n0 N σ ->
 ∃σ',K σ'/\Ext σ σ'/\Wf n0 N σ'/\∀(ρ ρ':Env) (tmps:Array Value),Fits ρ ρ' σ'->dK ρ fr tmps->∀j,Ab seen j=false->(look ys j).cz ρ' (tmps.getD j undef)
 |_,σ,[],h,hw=>⟨σ,h,Ext.refl σ,hw,fun _ _ _ _ _ _ _=>trivial⟩
 |seen,σ,(i,y)::ys,h,hw=>by
  simp only[zy]at h;cases hs:Ab seen i
  ·rw[hs]at h;simp only[cond_false]at h;obtain⟨σ1,h1,e1,w1,r1⟩:=w9 h hw;obtain⟨σ2,h2,e2,w2,r2⟩:=yh h1 w1;refine⟨σ2,h2,e1.trans e2,w2,fun ρ ρ' vs hf r=>?_⟩;intro j hj;simp only[look];by_cases hij:i=j
   ·subst hij;simp only[dz,cond_true];exact r1 ρ ρ' _ (hf.ext e2) (r i)
   ·rw[fh hij];refine r2 ρ ρ' vs hf r j ?_;simp only[Ab,fh hij,cond_false];exact hj
  ·rw[hs]at h;simp only[cond_true]at h;obtain⟨σ2,h2,e2,w2,r2⟩:=yh h hw;refine⟨σ2,h2,e2,w2,fun ρ ρ' vs hf r=>?_⟩;intro j hj;simp only[look];by_cases hij:i=j
   ·subst hij;rw[hs]at hj;cases hj
   ·rw[fh hij];exact r2 ρ ρ' vs hf r j hj
structure ak(n m:Nat)(rows rows':Nat->Nat->Value):Prop where
 at_:∀i,i<n->∀j,j<m->rows i j=rows' i j
@[simp] theorem ak.refl(n m:Nat)(rows:Nat->Nat->Value):ak n m rows rows:=⟨fun _ _ _ _=>rfl⟩
def tU(n0 N:Nat)(σ:Sub)(c d:Chunk)(K:Sub->Prop):Prop :=
 match c,d with
 |.obj ty cs,.obj ty' cs'=>bif Nat.beq ty ty' then As n0 N σ cs cs' K else False
 |.arr ty ks n rows,.arr ty' ks' n' rows'=>bif Nat.beq ty ty'&&nh ks ks' then(n'<=n/\ak n' ks'.length rows rows')/\K σ else False
 |.abs R,.abs R'=>R=R'/\K σ
 |.cI H,.cI H'=>H=H'/\K σ
 |_,_=>False
theorem qP{n0 N:Nat}{K:Sub->Prop}{σ:Sub}{c d:Chunk}(h:tU n0 N σ c d K)(hw:Wf n0 N σ) :
 ∃σ',K σ'/\Ext σ σ'/\Wf n0 N σ'/\∀ρ ρ' p w,Fits ρ ρ' σ'->c.Sat ρ p w->d.Sat ρ' p w:=by
 unfold tU at h;split at h
 ·rename_i ty cs ty' cs';cases hb:Nat.beq ty ty'
  ·rw[hb]at h;exact h.elim
  ·rw[hb]at h;have:=Nat.eq_of_beq_eq_true hb;subst this;obtain⟨σ',h1,h2,h3,h4⟩:=th h hw;refine⟨σ',h1,h2,h3,fun ρ ρ' p w hf r=>?_⟩;obtain⟨vs,fr,a,b,⟨us,xs,e,c⟩,d⟩:=r;exact⟨vs,fr,a,b,⟨us,xs,e,h4 ρ ρ' _ hf c⟩,d⟩
 ·rename_i ty ks n rows ty' ks' n' rows';cases hb:(Nat.beq ty ty'&&nh ks ks')
  ·rw[hb]at h;exact h.elim
  ·rw[hb]at h;simp only[Bool.and_eq_true]at hb;have e1:=Nat.eq_of_beq_eq_true hb.1;have e2:=oP hb.2;subst e1;subst e2;obtain⟨⟨hn,hr⟩,h⟩:=h;refine⟨σ,h,Ext.refl σ,hw,fun ρ ρ' p w hf r=>?_⟩;rcases r with⟨a,b,c⟩ | ⟨vs,ty',fr,a,b,c,d,e,f⟩
   ·exact .inl ⟨by omega,b,c⟩
   ·refine .inr ⟨vs,ty',fr,a,b,by omega,d,e,fun i hi j k hk=>?_⟩;rw[<- hr.at_ i hi j (List.getElem?_eq_some_iff.1 hk).1];exact f i (by omega) j k hk
 ·obtain⟨rfl,h⟩:=h;exact⟨σ,h,Ext.refl σ,hw,fun ρ ρ' p w hf r=>r⟩
 ·obtain⟨rfl,h⟩:=h;exact⟨σ,h,Ext.refl σ,hw,fun ρ ρ' p w hf r=>r⟩
 ·exact h.elim
def BK(T:Nat):aJ->Bool
 |[]=>true
 |e::r=>bif Nat.beq e.tag T then false else BK T r
theorem tV{T:Nat}:∀ {hp:aJ},BK T hp=true->∀e∈hp,T≠e.tag
 |[],_,_,h=>by cases h
 |x::r,h,e,he=>by
  simp only[BK]at h;by_cases hx:x.tag=T
  ·rw[hx,dz]at h;cases h
  ·rw[fh hx]at h;rcases List.mem_cons.1 he with rfl|he
   ·exact fun hh=>hx hh.symm
   ·exact tV h e he
def Xu:Chunk->Prop->Prop
 |.arr _ _ n _,K=>n=0/\K
 |_,_=>False
def CB(wr:Bool):aJ->Option Nat
 |[]=>none
 |e::r=>match e.ch with
  |.abs _=>bif (bif wr then e.wr else !e.wr)then some e.tag else CB wr r
  |_=>CB wr r
def TH(n0 T:Nat)(wr:Bool)(c:Chunk)(hp:aJ):Option Nat:=match c with
 |.abs _=>bif Nat.blt T n0 then(match hp.find T with
  |some (_,.abs _)=>some T
  |_=>CB wr hp)else CB wr hp
 |.cI _=>tI hp
 |_=>none
def oM(n0 N:Nat):Nat->Nat->Sub->aJ->aJ->(Sub->aJ->Prop)->Prop
 |0,_,_,_,_,_=>False
 |_+1,_,σ,hp,[],K=>K σ hp
 |n+1,d,σ,hp,e::r,K=>bif BK e.tag r then
  (match kU σ e.tag with
  |some none=>Xu e.ch (oM n0 N n r.length σ hp r K)
  |some (some t)=>match hp.find t with
   |some (wr,ch)=>bif !e.wr||wr then tU n0 N σ ch e.ch fun σ=>oM n0 N n r.length σ (hp.del t) r K else False
   |none=>False
  |none=>match TH n0 e.tag e.wr e.ch hp with
   |some t=>(match hp.find t with
    |some (wr,ch)=>bif !e.wr||wr then zv n0 N σ e.tag (some t) fun σ=>tU n0 N σ ch e.ch fun σ=>oM n0 N n r.length σ (hp.del t) r K else False
    |none=>False)
   |none=>match d with
    |d+1=>oM n0 N n d σ hp (r++[e]) K
    |0=>match hp.find e.tag with
     |some (wr,ch)=>bif !e.wr||wr then zv n0 N σ e.tag (some e.tag) fun σ=>tU n0 N σ ch e.ch fun σ=>oM n0 N n r.length σ (hp.del e.tag) r K else False
     |none=>False)else False
inductive Mh(σ:Sub):aJ->aJ->aJ->Prop where
 |nil (hp:aJ):Mh σ hp [] hp
 |later {hp r rest:aJ} {e:Ch}:Mh σ hp (r++[e]) rest->Mh σ hp (e::r) rest
 |skip {hp r rest:aJ} {T:Nat} {wr:Bool} {ty:TypeId} {ks:List CK} {rows:Nat->Nat->Value}:kU σ T=some none->(∀e∈r,T≠e.tag)->Mh σ hp r rest->Mh σ hp (⟨T,wr,.arr ty ks 0 rows⟩::r) rest
 |take {hp r rest:aJ} {T t:Nat} {wr wr':Bool} {ch ch':Chunk}:kU σ T=some (some t)->hp.find t=some (wr',ch')->(wr=true->wr'=true) ->
  (∀ρ ρ' p w,Fits ρ ρ' σ->ch'.Sat ρ p w->ch.Sat ρ' p w)->(∀e∈r,T≠e.tag)->Mh σ (hp.del t) r rest->Mh σ hp (⟨T,wr,ch⟩::r) rest
theorem kV{n0 N:Nat}{K:Sub->aJ->Prop}:∀ {n d:Nat} {J:aJ} {σ:Sub} {hp:aJ},oM n0 N n d σ hp J K->Wf n0 N σ->∃σ' rest,K σ' rest/\Ext σ σ'/\Wf n0 N σ'/\Mh σ' hp J rest
 |0,_,_,_,_,h,_=>h.elim
 |_+1,_,[],σ,hp,h,hw=>⟨σ,hp,h,Ext.refl σ,hw,.nil hp⟩
 |n+1,d,⟨T,wr,ch⟩::r,σ,hp,h,hw=>by
  simp only[oM]at h;cases hn:BK T r
  ·rw[hn]at h;exact h.elim
  rw[hn]at h;simp only[cond_true]at h;have hne:=tV hn;split at h
  ·rename_i hs;cases ch<;>simp only[Xu]at h<;>try exact h.elim
   obtain⟨rfl,h⟩:=h;obtain⟨σ',rest,h1,h2,h3,h4⟩:=kV h hw;exact⟨σ',rest,h1,h2,h3,.skip (h2.at_ _ _ hs) hne h4⟩
  ·rename_i t hs;split at h
   ·rename_i wr' ch' hf;cases hb:(!wr||wr')
    ·rw[hb]at h;exact h.elim
    rw[hb]at h;simp only[cond_true]at h;obtain⟨σ1,k1,e1,w1,r1⟩:=qP h hw;obtain⟨σ',rest,h1,h2,h3,h4⟩:=kV k1 w1;refine⟨σ',rest,h1,e1.trans h2,h3,.take ((e1.trans h2).at_ _ _ hs) hf (fun hw=>?_) (fun ρ ρ' p w hf=>r1 ρ ρ' p w (hf.ext h2)) hne h4⟩;subst hw;simpa using hb
   ·exact h.elim
  ·split at h
   ·split at h
    ·rename_i wr' ch' hf;cases hb:(!wr||wr')
     ·rw[hb]at h;exact h.elim
     rw[hb]at h;simp only[cond_true]at h;obtain⟨σ0,k0,e0,w0,s0⟩:=qO h hw;obtain⟨σ1,k1,e1,w1,r1⟩:=qP k0 w0;obtain⟨σ',rest,h1,h2,h3,h4⟩:=kV k1 w1;refine⟨σ',rest,h1,e0.trans (e1.trans h2),h3,.take ((e1.trans h2).at_ _ _ s0) hf (fun hw=>?_) (fun ρ ρ' p w hf=>r1 ρ ρ' p w (hf.ext h2)) hne h4⟩;subst hw;simpa using hb
    ·exact h.elim
   ·split at h
    ·obtain⟨σ',rest,h1,h2,h3,h4⟩:=kV h hw;exact⟨σ',rest,h1,h2,h3,.later h4⟩
    ·split at h
     ·rename_i wr' ch' hf;cases hb:(!wr||wr')
      ·rw[hb]at h;exact h.elim
      rw[hb]at h;simp only[cond_true]at h;obtain⟨σ0,k0,e0,w0,s0⟩:=qO h hw;obtain⟨σ1,k1,e1,w1,r1⟩:=qP k0 w0;obtain⟨σ',rest,h1,h2,h3,h4⟩:=kV k1 w1;refine⟨σ',rest,h1,e0.trans (e1.trans h2),h3,.take ((e1.trans h2).at_ _ _ s0) hf (fun hw=>?_) (fun ρ ρ' p w hf=>r1 ρ ρ' p w (hf.ext h2)) hne h4⟩;subst hw;simpa using hb
     ·exact h.elim
theorem Mh.rest{σ:Sub}{hp J rest:aJ}(h:Mh σ hp J rest):rest.Sublist hp:=by
 induction h with
 |nil=>exact List.Sublist.refl _
 |later _ ih=>exact ih
 |skip _ _ _ ih=>exact ih
 |take _ _ _ _ _ _ ih=>exact ih.trans aJ.js
theorem Mh.src{σ:Sub}{hp J rest:aJ}(h:Mh σ hp J rest){ρ ρ':Env}(hf:Fits ρ ρ' σ):∀e∈J,(∀b,¬(ρ'.pl e.tag).fp b)\/∃e'∈hp,ρ'.pl e.tag=ρ.pl e'.tag/\(e.wr=true->e'.wr=true):=by
 induction h with
 |nil=>intro e he;cases he
 |later _ ih=>intro e he;exact ih e (by simp only[List.mem_cons,List.mem_append,List.not_mem_nil,or_false]at he ⊢;exact he.symm)
 |skip hs _ _ ih =>
  intro e he;rcases List.mem_cons.1 he with rfl|he
  ·left;intro b;rw[(hf _ _ hs).2];exact id
  ·exact ih e he
 |take hs hfd hw _ _ _ ih =>
  intro e he;rcases List.mem_cons.1 he with rfl|he
  ·exact .inr ⟨_,aJ.bu hfd,(hf _ _ hs).2,hw⟩
  ·rcases ih e he with h | ⟨e',h1,h2⟩
   ·exact .inl h
   ·exact .inr ⟨e',aJ.js.subset h1,h2⟩
theorem qC.symm{ρ:Env}{x y:Ch}(h:qC ρ x y):qC ρ y x:=⟨h.1.symm,fun hw b hb hb'=>h.2 (by rw[Bool.or_comm];exact hw) b hb' hb⟩
theorem aj.perm{w0:World}{M:Nat->Prop}{ρ:Env}{w:World}{hp cR:aJ}(h:aj w0 M ρ hp w)(hq:hp.Perm cR):aj w0 M ρ cR w :=
 ⟨h.keeps,fun e he=>h.iq e (hq.mem_iff.2 he),hq.pairwise h.apart fun h=>h.symm⟩
theorem Mh.sat{σ:Sub}{hp J rest:aJ}(h:Mh σ hp J rest){ρ ρ':Env}(hf:Fits ρ ρ' σ){w0:World}{M:Nat->Prop}{w:World}(hh:aj w0 M ρ hp w):aj w0 M ρ' J w:=by
 induction h with
 |nil=>exact⟨hh.keeps,fun _ h=>(by cases h),.nil⟩
 |later _ ih=>exact(ih hh).perm (List.perm_append_singleton _ _)
 |skip hs hne _ ih =>
  refine(ih hh).cons ⟨(hf _ _ hs).1,?_,?_,?_⟩ fun x hx=>⟨hne x hx,fun _ b hb=>?_⟩
  ·refine .inl ⟨rfl,?_,fun b hb=>?_⟩
   ·rw[(hf _ _ hs).2];rfl
   ·rw[(hf _ _ hs).2]at hb;exact hb
  ·intro b hb;rw[(hf _ _ hs).2]at hb;exact hb.elim
  ·intro _ b hb;rw[(hf _ _ hs).2]at hb;exact hb.elim
  ·rw[(hf _ _ hs).2]at hb;exact hb.elim
 | @take hp r rest T t wr wr' ch ch' hs hfd hw hc hne hg ih =>
  have hp1:=(hf _ _ hs).2;have he:=hh.iq _ (aJ.bu hfd);refine(ih (hh.sub aJ.js)).cons ⟨(hf _ _ hs).1,?_,?_,?_⟩ fun x hx=>⟨hne x hx,fun hwr b hb hb'=>?_⟩
  ·rw[hp1];exact hc ρ ρ' _ w hf he.ch
  ·rw[hp1];exact he.lt
  ·intro h1;rw[hp1];exact he.own (hw h1)
  ·rw[hp1]at hb;rcases hg.src hf x hx with h | ⟨e',h1,h2,h3⟩
   ·exact h b hb'
   ·rw[h2]at hb';refine(hh.vo hfd e' h1).2 ?_ b hb hb';simp only[Bool.or_eq_true]at hwr ⊢;exact hwr.imp hw h3
theorem Mh.apart{σ:Sub}{hp J rest:aJ}(h:Mh σ hp J rest){ρ ρ':Env}(hf:Fits ρ ρ' σ){w0:World}{M:Nat->Prop}{w:World}(hh:aj w0 M ρ hp w) :
 ∀e∈J,∀f∈rest,(e.wr||f.wr)=true->∀b,(ρ'.pl e.tag).fp b->¬(ρ.pl f.tag).fp b:=by
 induction h with
 |nil=>intro e he;cases he
 |later _ ih=>intro e he;exact ih hh e (by simp only[List.mem_cons,List.mem_append,List.not_mem_nil,or_false]at he ⊢;exact he.symm)
 |skip hs _ _ ih =>
  intro e he f hfm;rcases List.mem_cons.1 he with rfl|he
  ·intro _ b hb;rw[(hf _ _ hs).2]at hb;exact hb.elim
  ·exact ih hh e he f hfm
 |take hs hfd hw _ _ hg ih =>
  intro e he f hfm;rcases List.mem_cons.1 he with rfl|he
  ·intro hwr b hb;rw[(hf _ _ hs).2]at hb;refine(hh.vo hfd f (hg.rest.subset hfm)).2 ?_ b hb;simp only[Bool.or_eq_true]at hwr ⊢;exact hwr.imp hw id
  ·exact ih (hh.sub aJ.js) e he f hfm
structure Env.upto(m:Nat)(ρ ρ':Env):Prop where
 n:m<=ρ'.n
 pl:∀t:Nat,t<m->ρ'.pl t=ρ.pl t
theorem Env.le.upto{ρ ρ':Env}(h:ρ.le ρ'){n:Nat}(hn:n<=ρ.n):Env.upto n ρ ρ':=⟨Nat.le_trans hn h.n,fun t ht=>h.pl t (Nat.lt_of_lt_of_le ht hn)⟩
theorem Env.upto.trans{n:Nat}{a b c:Env}(h:Env.upto n a b)(k:Env.upto n b c):Env.upto n a c:=⟨k.n,fun t ht=>(k.pl t ht).trans (h.pl t ht)⟩
def jA(ρ:Env)(σ:Sub)(N:Nat):Env:=⟨N,fun T=>match kU σ T with|some x=>placeOf ρ x|none=>ρ.pl T⟩
theorem oR{ρ:Env}{σ:Sub}{n0 N:Nat}(h:Wf n0 N σ):Fits ρ (jA ρ σ N) σ:=fun T x e=>⟨h.lt T x e,by simp[jA,e]⟩
theorem KO{ρ:Env}{σ:Sub}{n0 N:Nat}(h:Wf n0 N σ)(hN:n0<=N):Env.upto n0 ρ (jA ρ σ N):=⟨hN,fun t ht=>by
 show(match kU σ t with|some x=>placeOf ρ x|none=>ρ.pl t)=ρ.pl t;split
 ·rename_i x e;rw[h.id t x e ht];rfl
 ·rfl⟩
def zz(n0:Nat)(s J:S)(p:Prop):Prop :=
 bif Nat.beq s.nt J.nt&&Nat.ble n0 J.nx then zy n0 J.nx s.fr [] [] J.fr (fun σ=>oM n0 J.nx 1000 J.hp.length σ s.hp J.hp fun _ _=>p)else False
theorem yj{n0:Nat}{s J:S}{p:Prop}(h:zz n0 s J p):p/\∀w0 M ρ a w,ir w0 M ρ s a w->∃ρ',Env.upto n0 ρ ρ'/\ir w0 M ρ' J a w:=by
 unfold zz at h;cases hb:(Nat.beq s.nt J.nt&&Nat.ble n0 J.nx)
 ·rw[hb]at h;exact h.elim
 rw[hb]at h;simp only[cond_true]at h;simp only[Bool.and_eq_true]at hb;have hnt:=Nat.eq_of_beq_eq_true hb.1;have hnx:=Nat.le_of_ble_eq_true hb.2;obtain⟨σ1,h1,e1,w1,f1⟩:=yh h (Wf.nil _ _);obtain⟨σ2,rest,h2,e2,w2,g⟩:=kV h1 w1;refine⟨h2,fun w0 M ρ a w hs=>⟨jA ρ σ2 J.nx,KO w2 hnx,⟨hs.defers,hs.size.trans hnt,rfl,?_,g.sat (oR w2) hs.heap⟩⟩⟩;exact fun j=>f1 ρ _ _ ((oR w2).ext e2) hs.frame j rfl
end
section
inductive XE where
 |normal
 |ret
 |exit (i:Nat)
def XE.toE:XE->Exit
 |.normal=>.normal
 |.ret=>.ret
 |.exit i=>.exit i
abbrev KX:=XE->S->Prop
def XQ(K:KX)(n0:Nat)(w0:World)(M:Nat->Prop)(ρ:Env):Exit->Act->World->Prop:=fun e a w=>∃xe s' ρ',e=xe.toE/\K xe s'/\Env.upto n0 ρ ρ'/\ir w0 M ρ' s' a w
theorem XQ.up{K:KX}{n0:Nat}{w0:World}{M:Nat->Prop}{ρ ρ':Env}(h:Env.upto n0 ρ ρ'){e:Exit}{a:Act}{w:World}(q:XQ K n0 w0 M ρ' e a w):XQ K n0 w0 M ρ e a w :=
 let ⟨xe,s',ρ'',h1,h2,h3,h4⟩:=q
 ⟨xe,s',ρ'',h1,h2,h.trans h3,h4⟩
def tW(P:Program)(n0:Nat)(c:Code)(s:S)(K:KX):Prop :=
 ∀w0 M ρ a w,n0<=ρ.n->ir w0 M ρ s a w->c.wp P (XQ K n0 w0 M ρ) a w
def yl(s:S)(K:S->Prop):Prop:=∀w0 M ρ a w,ir w0 M ρ s a w->∃s' ρ',K s'/\ρ.le ρ'/\ir w0 M ρ' s' a w
mutual
inductive LH:Type 1 where
 |mk (fuel:Nat) (loop cut:List An)
inductive An:Type 1 where
 |mk (key:Nat) (α:Type) (J:S->α->S) (p:S->α->Prop) (μ:S->α->Nat) (next:α->LH)
 |view (key:Nat) (V:S->(S->Prop)->Prop) (ok:∀s K,V s K->yl s K) (next:LH)
end
def An.key:An->Nat
 |.mk k _ _ _ _ _=>k
 |.view k _ _ _=>k
def MN:List An->Nat->Option An
 |[],_=>none
 |a::r,k=>bif Nat.beq a.key k then some a else MN r k
def LH.at_:LH->Nat->Option An
 |.mk _ l _,k=>MN l k
def LH.aan:LH->Nat->Option An
 |.mk _ _ c,k=>MN c k
def LH.fuel:LH->Nat
 |.mk n _ _=>n
def qQ:Code->Nat
 |.region id _ _=>id
 |.seq a _=>qQ a
 |.block _ b=>qQ b
 |.loop b=>qQ b
 |_=>0
def TJ(F:S->Prop)(K:KX):KX:=fun xe s=>match xe with | .normal=>F s|xe=>K xe s
def TK(i:Nat)(K:KX):KX:=fun xe s=>match xe with | .exit j=>bif Nat.beq j i then K .normal s else K (.exit j) s|xe=>K xe s
def Dr(xb:S->KX->Prop)(K:KX):Nat->S->Prop
 |0,_=>False
 |n+1,s=>xb s (TJ (Dr xb K n) K)
def xP:List A->List Nat->List Nat
 |[],acc=>acc
 |.ptr t _ _ _::r,acc=>xP r (t::acc)
 |.slc t _ _ _ _::r,acc=>xP r (t::acc)
 |.sub t _ _ _ _ _::r,acc=>xP r (t::acc)
 |_::r,acc=>xP r acc
def Zw(v:SV)(acc:List Nat):List Nat :=
 match v with
 |.a x=>xP [x] acc
 |.agg xs=>xP xs acc
 |.ng cs=>cs.foldr (fun c acc=>match c with | .a x=>xP [x] acc | .agg xs=>xP xs acc) acc
 |.Cg _ xs=>xP xs acc
def MO:List (Nat×SV)->List Nat->List Nat
 |[],acc=>acc
 |(_,v)::r,acc=>MO r (Zw v acc)
def reach(hp:aJ):Nat->List Nat->List Nat->List Nat
 |0,work,seen=>work++seen
 |_+1,[],seen=>seen
 |n+1,t::work,seen=>bif has seen t then reach hp n work seen else
  match hp.find t with
  |some (_,.obj _ cs)=>reach hp n (xP cs work) (t::seen)
  |some _=>reach hp n work (t::seen)
  |none=>reach hp n work seen
def aao:Chunk->Bool
 |.abs _=>true
 |.cI _=>true
 |_=>false
def aap(hp:aJ)(seen:List Nat):aJ:=hp.filter fun e=>has seen e.tag||aao e.ch
def S.tidy(s:S):S :=
 let fr:=only s.fr s.kp
 ⟨s.nt,fr,aap s.hp (reach s.hp 400 (MO fr s.rt) []),s.nx,s.kp,s.rt⟩
theorem ir.tidy{w0:World}{M:Nat->Prop}{ρ:Env}{s:S}{a:Act}{w:World}(h:ir w0 M ρ s a w):ir w0 M ρ s.tidy a w :=
 ⟨h.defers,h.size,h.n,h.frame.only s.kp,h.heap.sub List.filter_sublist⟩
def HF:List (Nat×SV)->(List (Nat×SV)->Prop)->Prop
 |[],K=>K []
 |(i,v)::r,K=>Hg v fun v=>HF r fun r=>K ((i,v)::r)
theorem FZ:∀(l:List (Nat×SV)) (K:List (Nat×SV)->Prop),HF l K=K l
 |[],_=>rfl
 |(i,v)::r,K=>by simp only[HF,FM,FZ r]
def MP(c:Chunk)(K:Chunk->Prop):Prop:=match c with
 |.obj ty cs=>yb cs fun cs=>K (.obj ty cs)
 |.arr ty ks n rows=>K (.arr ty ks n rows)
 |.abs R=>K (.abs R)
 |.cI H=>K (.cI H)
theorem QX(c:Chunk)(K:Chunk->Prop):MP c K=K c:=by cases c<;>simp only[MP,wV]
def TL(b:Bool)(K:Bool->Prop):Prop:=match b with
 |true=>K true
 |false=>K false
theorem QY(b:Bool)(K:Bool->Prop):TL b K=K b:=by cases b<;>rfl
def HG:aJ->(aJ->Prop)->Prop
 |[],K=>K []
 |e::r,K=>vr e.tag fun t=>TL e.wr fun w=>MP e.ch fun c=>HG r fun r=>K (⟨t,w,c⟩::r)
theorem F0:∀(l:aJ) (K:aJ->Prop),HG l K=K l
 |[],_=>rfl
 |e::r,K=>by simp only[HG,Ag,QY,QX,F0 r]
def S.force(s:S)(K:S->Prop):Prop:=HF s.fr fun fr=>HG s.hp fun hp=>vr s.nt fun nt=>vr s.nx fun nx=>K ⟨nt,fr,hp,nx,s.kp,s.rt⟩
theorem S.force_eq(s:S)(K:S->Prop):s.force K=K s:=by simp only[S.force,FZ,F0,Ag]
def Xv:List (Nat×RG)->Nat->Option RG
 |[],_=>none
 |(j,g)::r,i=>bif Nat.beq j i then some g else Xv r i
def nk(G:Fx)(ch:iy)(jK:List (Nat×RG))(n0:Nat):Code->LH->S->KX->Prop
 |.skip,_,s,K=>K .normal s
 |.region id ops d,_,s,K=>bif d then
  (match Xv jK id with
  |some g=>ML G ch ops.toList g s fun s=>s.tidy.force (K .normal)
  |none=>False)
  else TA G ch ops.toList ops.toList s fun s=>s.tidy.force (K .normal)
 |.seq x y,lh,s,K=>match lh.aan (qQ y)with
  |none=>nk G ch jK n0 x lh s (TJ (fun s=>nk G ch jK n0 y lh s K) K)
  |some (.mk _ α J p _ next)=>nk G ch jK n0 x lh s (TJ (fun s'=>∃a:α,zz n0 s' (J s a) (p s a/\True)) K)/\∀a:α,p s a->(J s a).force fun s=>nk G ch jK n0 y (next a) s K
  |some (.view _ V _ next)=>nk G ch jK n0 x lh s (TJ (fun s'=>V s' fun s=>s.force fun s=>nk G ch jK n0 y next s K) K)
 |.cond c x y,lh,s,K =>
  match s.ev c with
  |.a .tt=>nk G ch jK n0 x lh s K
  |.a .ff=>nk G ch jK n0 y lh s K
  |.a (.bool b)=>CS G.X.force b (nk G ch jK n0 x lh s K) (nk G ch jK n0 y lh s K)
  |_=>False
 |.block i b,lh,s,K=>nk G ch jK n0 b lh s (TK i K)
 |.loop b,lh,s,K=>match lh.at_ (qQ b)with
  |none=>Dr (fun s K=>nk G ch jK n0 b lh s K) K lh.fuel s
  |some (.mk _ α J p μ next)=>(∃a:α,zz n0 s (J s a) (p s a/\True))/\∀a:α,p s a->(J s a).force fun s1=>nk G ch jK n0 b (next a) s1 fun xe s'=>match xe with
   |.normal=>∃a':α,zz n0 s' (J s a') (p s a'/\μ s a'<μ s a)
   |xe=>K xe s'
  |some (.view ..)=>False
 |.exit i,_,s,K=>K (.exit i) s
 |.ret,_,s,K=>K .ret s
 |_,_,_,_=>False
def uW(jK:List (Nat×RG)):Code->Bool
 |.region id ops d=>bif d then(match Xv jK id with|some g=>TD ops.toList g|none=>true)else true
 |.seq x y=>uW jK x&&uW jK y
 |.cond _ x y=>uW jK x&&uW jK y
 |.block _ b=>uW jK b
 |.loop b=>uW jK b
 |_=>true
theorem tW.mono{P:Program}{n0:Nat}{c:Code}{s:S}{K K':KX}(h:tW P n0 c s K)(hk:∀xe s,K xe s->K' xe s):tW P n0 c s K' :=
 fun w0 M ρ a w hn hs=>wp_mono (h w0 M ρ a w hn hs) fun _ _ _ ⟨xe,s',ρ',h1,h2,h3,h4⟩=>⟨xe,s',ρ',h1,hk _ _ h2,h3,h4⟩
def QZ(P:Program)(b:Code)(Q:Exit->Act->World->Prop):Nat->Act->World->Prop
 |0,_,_=>False
 |n+1,a,w=>b.wp P (Exit.then (QZ P b Q n) Q) a w
theorem least{p:Nat->Prop}:∀n,p n->∃m,p m/\∀k,p k->m<=k:=by
 intro n
 induction n using Nat.strongRecOn with
 |ind n ih =>
  intro h;by_cases hx:∃k,k<n/\p k
  ·obtain⟨k,hk,hp⟩:=hx;exact ih k hk hp
  ·exact⟨n,h,fun k hk=>Nat.le_of_not_lt fun hlt=>hx ⟨k,hlt,hk⟩⟩
theorem QZ.loop{P:Program}{b:Code}{Q:Exit->Act->World->Prop}{a:Act}{w:World}(h:∃n,QZ P b Q n a w):(Code.loop b).wp P Q a w:=by
 classical
 have hl:∀a w,(∃n,QZ P b Q n a w)->∃m,QZ P b Q m a w/\∀k,QZ P b Q k a w->m<=k:=fun a w ⟨n,hn⟩=>least n hn;refine wp_loop (fun a w=>∃n,QZ P b Q n a w) (fun a w=>if h:∃n,QZ P b Q n a w then Classical.choose (hl a w h)else 0) h ?_;intro a w hI;obtain⟨h1,h2⟩:=Classical.choose_spec (hl a w hI);simp only[dif_pos hI];generalize Classical.choose (hl a w hI)=m at h1 h2 ⊢;cases m with
 |zero=>exact h1.elim
 |succ m =>
  refine wp_mono h1 ?_;intro e a' w' hq;cases e with
  |normal =>
   have hI':∃n,QZ P b Q n a' w':=⟨m,hq⟩
   refine⟨hI',?_⟩;simp only[dif_pos hI'];exact Nat.lt_succ_of_le ((Classical.choose_spec (hl a' w' hI')).2 m hq)
  |exit i=>exact hq
  |goto l=>exact hq
  |ret=>exact hq
  |panic c=>exact hq
  |outgrown=>exact hq
def LoopN(P:Program)(n0:Nat)(b:Code)(K:KX):Nat->S->Prop
 |0,_=>False
 |n+1,s=>tW P n0 b s (TJ (LoopN P n0 b K n) K)
theorem LoopN.unr{P:Program}{n0:Nat}{b:Code}{K:KX}{w0:World}{M:Nat->Prop}{ρ:Env}:∀(n:Nat) (s:S) (ρ':Env) (a:Act) (w:World),LoopN P n0 b K n s->Env.upto n0 ρ ρ'->ir w0 M ρ' s a w->QZ P b (XQ K n0 w0 M ρ) n a w
 |0,_,_,_,_,h,_,_=>h
 |n+1,s,ρ',a,w,h,hu,hs=>by
  refine wp_mono (h w0 M ρ' a w hu.n hs) ?_;rintro e a' w' ⟨xe,s',ρ'',rfl,hk,hu',hs'⟩;cases xe with
  |normal=>exact LoopN.unr n s' ρ'' a' w' hk (hu.trans hu') hs'
  |ret=>exact⟨.ret,s',ρ'',rfl,hk,hu.trans hu',hs'⟩
  |exit i=>exact⟨.exit i,s',ρ'',rfl,hk,hu.trans hu',hs'⟩
theorem LoopN.ok{P:Program}{n0:Nat}{b:Code}{K:KX}{n:Nat}{s:S}(h:LoopN P n0 b K n s):tW P n0 (.loop b) s K :=
 fun _ _ ρ _ _ hn hs=>QZ.loop ⟨n,LoopN.unr n s ρ _ _ h ((Env.le.refl ρ).upto hn) hs⟩
theorem Q0{P:Program}{n0:Nat}{b:Code}{xb:S->KX->Prop}(hb:∀s K,xb s K->tW P n0 b s K){K:KX}{n:Nat}{s:S}(h:Dr xb K n s):tW P n0 (.loop b) s K:=by
 refine LoopN.ok (n:=n) ?_
 induction n generalizing s with
 |zero=>exact h
 |succ n ih =>
  refine tW.mono (hb _ _ h) fun xe s' hk=>?_;cases xe with
  |normal=>exact ih hk
  |ret=>exact hk
  |exit i=>exact hk
theorem TM{G:Fx}(hG:G.Ok){ch:iy}(hch:Kn G.X ch){jK:List (Nat×RG)}{n0:Nat}:∀(c:Code) (lh:LH) (s:S) (K:KX),uW jK c=true->nk G ch jK n0 c lh s K->tW G.X.P n0 c s K:=by
 intro c
 induction c with
 |skip=>exact fun _ s K _ h w0 M ρ a w hn hs=>wp_skip ⟨.normal,s,ρ,rfl,h,(Env.le.refl ρ).upto hn,hs⟩
 |region id ops d =>
  intro lh s K hr h w0 M ρ a w hn hs;simp only[nk]at h;cases d with
  |true =>
   simp only[cond_true]at h;simp only[uW,cond_true]at hr;cases hg:Xv jK id with
   |none=>rw[hg]at h;exact h.elim
   |some g =>
    rw[hg]at h hr;simp only at h hr;have:=QW (id:=id) (Q:=XQ K n0 w0 M ρ) hG hch hr h hs fun s' ρ' a' w' hk hle hs'=>⟨.normal,s'.tidy,ρ',rfl,(S.force_eq s'.tidy (K .normal)).mp hk,hle.upto hn,hs'.tidy⟩
    simpa using this
  |false =>
   simp only[cond_false]at h;refine wp_region_list ?_;have:=Hx (Q:=XQ K n0 w0 M ρ) hG hch ops.toList s ρ a w h hs fun s' ρ' a' w' hk hle hs'=>⟨.normal,s'.tidy,ρ',rfl,(S.force_eq s'.tidy (K .normal)).mp hk,hle.upto hn,hs'.tidy⟩
   simpa using this
 |seq x y ihx ihy =>
  intro lh s K hr h w0 M ρ a w hn hs;simp only[uW,Bool.and_eq_true]at hr;simp only[nk]at h;cases hcut:lh.aan (qQ y)with
  |none =>
   rw[hcut]at h;refine wp_seq (wp_mono (ihx lh s _ hr.1 h w0 M ρ a w hn hs) ?_);rintro e a' w' ⟨xe,s',ρ',rfl,hk,hu,hs'⟩;cases xe with
   |normal=>exact wp_mono (ihy lh s' K hr.2 hk w0 M ρ' a' w' hu.n hs') fun e a w q=>q.up hu
   |ret=>exact⟨.ret,s',ρ',rfl,hk,hu,hs'⟩
   |exit i=>exact⟨.exit i,s',ρ',rfl,hk,hu,hs'⟩
  |some an =>
   cases an with
   |view key V ok next =>
    rw[hcut]at h;refine wp_seq (wp_mono (ihx lh s _ hr.1 h w0 M ρ a w hn hs) ?_);rintro e a' w' ⟨xe,s',ρ',rfl,hk,hu,hs'⟩;cases xe with
    |normal =>
     obtain⟨s2,ρ2,hk2,hle2,hs2⟩:=ok _ _ hk w0 M ρ' a' w' hs';have hu2:Env.upto n0 ρ' ρ2:=hle2.upto hu.n;exact wp_mono (ihy _ _ K hr.2 ((S.force_eq _ _).mp hk2) w0 M ρ2 a' w' hu2.n hs2) fun e a w q=>q.up (hu.trans hu2)
    |ret=>exact⟨.ret,s',ρ',rfl,hk,hu,hs'⟩
    |exit i=>exact⟨.exit i,s',ρ',rfl,hk,hu,hs'⟩
   |mk key α J p μ next =>
    rw[hcut]at h;obtain⟨h1,h2⟩:=h;refine wp_seq (wp_mono (ihx lh s _ hr.1 h1 w0 M ρ a w hn hs) ?_);rintro e a' w' ⟨xe,s',ρ',rfl,hk,hu,hs'⟩;cases xe with
    |normal =>
     obtain⟨x,hx⟩:=hk;obtain⟨⟨hp,_⟩,hm⟩:=yj hx;obtain⟨ρ2,hu2,hs2⟩:=hm w0 M ρ' a' w' hs';exact wp_mono (ihy _ _ K hr.2 ((S.force_eq _ _).mp (h2 x hp)) w0 M ρ2 a' w' hu2.n hs2) fun e a w q=>q.up (hu.trans hu2)
    |ret=>exact⟨.ret,s',ρ',rfl,hk,hu,hs'⟩
    |exit i=>exact⟨.exit i,s',ρ',rfl,hk,hu,hs'⟩
 |cond c x y ihx ihy =>
  intro lh s K hr h w0 M ρ a w hn hs;simp only[uW,Bool.and_eq_true]at hr;have hc:=hs.frame.ev c;simp only[nk]at h;split at h
  ·rename_i e;rw[e]at hc;exact wp_cond_true hc (ihx lh s K hr.1 h w0 M ρ a w hn hs)
  ·rename_i e;rw[e]at hc;exact wp_cond_false hc (ihy lh s K hr.2 h w0 M ρ a w hn hs)
  ·rename_i b e;rw[e]at hc;have h:=Ad h;exact wp_cond_split hc (fun hb=>ihx lh s K hr.1 (h.1 hb) w0 M ρ a w hn hs) fun hb=>ihy lh s K hr.2 (h.2 hb) w0 M ρ a w hn hs
  ·exact h.elim
 |block i b ih =>
  intro lh s K hr h w0 M ρ a w hn hs;refine wp_block (wp_mono (ih lh s _ hr h w0 M ρ a w hn hs) ?_);rintro e a' w' ⟨xe,s',ρ',rfl,hk,hu,hs'⟩;cases xe with
  |normal=>exact⟨.normal,s',ρ',rfl,hk,hu,hs'⟩
  |ret=>exact⟨.ret,s',ρ',rfl,hk,hu,hs'⟩
  |exit j =>
   simp only[TK]at hk;simp only[XE.toE,Exit.inBlock];by_cases hj:j=i
   ·subst hj;simp only[dz,cond_true]at hk;rw[if_pos rfl];exact⟨.normal,s',ρ',rfl,hk,hu,hs'⟩
   ·simp only[fh hj,cond_false]at hk;rw[if_neg hj];exact⟨.exit j,s',ρ',rfl,hk,hu,hs'⟩
 |loop b ih =>
  intro lh s K hr h;simp only[nk]at h;cases hat:lh.at_ (qQ b)with
  |none =>
   rw[hat]at h;exact Q0 (fun s K h=>ih lh s K hr h) h
  |some an =>
   cases an with
   |view key V ok next=>rw[hat]at h;exact h.elim
   |mk key α J p μ next =>
    rw[hat]at h;obtain⟨⟨a0,h0⟩,hrd⟩:=h;obtain⟨⟨hp0,_⟩,hs0⟩:=yj h0;intro w0 M ρ a w hn hs;have key:∀(m:Nat) (x:α),p s x->μ s x<m->∀(ρ':Env) (a:Act) (w:World),Env.upto n0 ρ ρ'->ir w0 M ρ' (J s x) a w->QZ G.X.P b (XQ K n0 w0 M ρ) m a w:=by
     intro m
     induction m with
     |zero=>intro x _ h;omega
     |succ m ihm =>
      intro x hx hm ρ' a w hu hs;refine wp_mono (ih (next x) _ _ hr ((S.force_eq _ _).mp (hrd x hx)) w0 M ρ' a w hu.n hs) ?_;rintro e a' w' ⟨xe,s',ρ'',rfl,hk,hu',hs'⟩;cases xe with
      |normal =>
       obtain⟨x',hx'⟩:=hk;obtain⟨⟨h1,h2⟩,h3⟩:=yj hx';obtain⟨ρ3,h4,h5⟩:=h3 w0 M ρ'' a' w' hs';exact ihm x' h1 (by omega) ρ3 a' w' ((hu.trans hu').trans h4) h5
      |ret=>exact⟨.ret,s',ρ'',rfl,hk,hu.trans hu',hs'⟩
      |exit i=>exact⟨.exit i,s',ρ'',rfl,hk,hu.trans hu',hs'⟩
    obtain⟨ρ1,h1,h2⟩:=hs0 w0 M ρ a w hs;exact QZ.loop ⟨_,key (μ s a0+1) a0 hp0 (Nat.lt_succ_self _) ρ1 a w h1 h2⟩
 |exit i=>exact fun _ s K _ h w0 M ρ a w hn hs=>wp_exit ⟨.exit i,s,ρ,rfl,h,(Env.le.refl ρ).upto hn,hs⟩
 |ret=>exact fun _ s K _ h w0 M ρ a w hn hs=>wp_ret ⟨.ret,s,ρ,rfl,h,(Env.le.refl ρ).upto hn,hs⟩
 |_=>exact fun _ s K _ h=>h.elim
def SV.cv:SV->Option CV
 |.a x=>some (.a x)
 |.agg xs=>some (.agg xs)
 |.ng _=>none
 |.Cg _ _=>none
def TN(X:Cx)(s:S)(r:ResultVar)(K:SV->Prop):Prop :=
 match r with
 |.tmp t=>K (look s.fr t)
 |.cell a t=>Pb X t (look s.fr a) s fun v _=>K v
def TO(X:Cx)(s:S):List ResultVar->(List CV->Prop)->Prop
 |[],K=>K []
 |r::rs,K=>TN X s r fun v=>match v.cv with|some c=>TO X s rs fun cs=>K (c::cs)|none=>False
def zA(X:Cx)(s:S)(fn:Func)(K:SV->Prop):Prop :=
 match fn.results.toList with
 |[r]=>TN X s r K
 |rs=>TO X s rs fun cs=>K (.ng cs)
theorem SV.Zx{v:SV}{c:CV}(h:v.cv=some c){ρ:Env}{x:Value}(r:v.cz ρ x):c.cz ρ x:=by
 cases v<;>simp[SV.cv]at h<;>subst h<;>exact r
def Q1(tmps:Array Value):ResultVar->Sem Value
 |.tmp t=>pure (tmps.getD t undef)
 |.cell a t=>do loadVar t (<- asAddr (tmps.getD a undef))
theorem KP{X:Cx}(hX:X.Ok){s:S}{r:ResultVar}{K:SV->Prop}(h:TN X s r K){w0:World}{M:Nat->Prop}{ρ:Env}{a:Act}{w:World}(hs:ir w0 M ρ s a w) :
 ∃u sv,(Q1 a.tmps r).run X.P w = .ok u w/\sv.cz ρ u/\K sv:=by
 cases r with
 |tmp t=>exact⟨_,_,rfl,hs.frame t,h⟩
 |cell ad t =>
  obtain⟨b,o,e,u,sv,h1,h2,h3⟩:=Pc hX h (hs.frame ad) hs.heap;refine⟨u,sv,?_,h2,h3⟩;have:=h1 w fun _ _ _ _=>rfl;simp[Q1,e,asAddr,this]
theorem KQ{X:Cx}(hX:X.Ok){s:S}{w0:World}{M:Nat->Prop}{ρ:Env}{a:Act}{w:World}(hs:ir w0 M ρ s a w):∀ {rs:List ResultVar} {K:List CV->Prop},TO X s rs K ->
 ∃us cs,(rs.mapM (Q1 a.tmps)).run X.P w = .ok us w/\us.length=rs.length/\tG ρ cs us/\K cs
 |[],K,h=>⟨[],[],by simp,rfl,rfl,h⟩
 |r::rs,K,h=>by
  obtain⟨u,sv,h1,h2,h3⟩:=KP hX h hs;cases hc:sv.cv with
  |none=>rw[hc]at h3;exact h3.elim
  |some c =>
   rw[hc]at h3;obtain⟨us,cs,g1,g2,g3,g4⟩:=KQ hX hs h3;exact⟨u::us,c::cs,by simp[List.mapM_cons,h1,g1],by simp[g2],⟨u,us,rfl,SV.Zx hc h2,g3⟩,g4⟩
theorem MQ(fn:Func)(tmps:Array Value):results fn tmps=(do
 let vs <- fn.results.mapM (Q1 tmps)
 pure (if h:vs.size=1 then vs[0]else .tuple vs)):=rfl
theorem KR{X:Cx}(hX:X.Ok){s:S}{fn:Func}{K:SV->Prop}(h:zA X s fn K){w0:World}{M:Nat->Prop}{ρ:Env}{a:Act}{w:World}(hs:ir w0 M ρ s a w) :
 ∃u sv,(results fn a.tmps).run X.P w = .ok u w/\sv.cz ρ u/\K sv:=by
 rw[MQ];unfold zA at h;have hm:∀us:List Value,(fn.results.toList.mapM (Q1 a.tmps)).run X.P w = .ok us w->(fn.results.mapM (Q1 a.tmps)).run X.P w = .ok us.toArray w:=by
  intro us hu;rw[Array.mapM_eq_mapM_toList,<- bind_pure_comp];simp[hu]
 split at h
 ·rename_i r hr;obtain⟨u,sv,h1,h2,h3⟩:=KP hX h hs;refine⟨u,sv,?_,h2,h3⟩;have:=hm [u] (by rw[hr];simp[List.mapM_cons,h1]);simp[this]
 ·rename_i rs hne;obtain⟨us,cs,h1,h2,h3,h4⟩:=KQ hX hs h;have:=hm us h1;refine⟨.tuple us.toArray,.ng cs,?_,⟨us,rfl,h3⟩,h4⟩;have hl:us.length≠1:=by
   intro e;rw[h2]at e
   match hh:fn.results.toList,e with
   |[r],_=>exact hne r hh
  simp[this,hl]
def F5:Nat->List SV->List (Nat×SV)
 |_,[]=>[]
 |i,v::vs=>(i,v)::F5 (i+1) vs
theorem Ds:∀(vs:List SV) (i j:Nat),look (F5 i vs) j=if i<=j then(vs[j-i]?).getD (.a .any)else .a .any
 |[],i,j=>by simp[F5,look]
 |v::vs,i,j=>by
  simp only[F5,look];by_cases h:i=j
  ·subst h;simp
  ·rw[fh h,cond_false,Ds vs (i+1) j];by_cases h1:i<=j
   ·have h2:i+1<=j:=by omega
    have h3:j-i=(j-(i+1))+1:=by omega
    simp[h1,h2,h3]
   ·have h2:¬i+1<=j:=by omega
    simp[h1,h2]
theorem jv.get{ρ:Env}:∀ {xs:List SV} {vs:List Value},jv ρ xs vs->vs.length=xs.length/\∀(i:Nat) (x:SV),xs[i]? = some x->∃v,vs[i]? = some v/\x.cz ρ v
 |[],vs,h=>by simp[jv]at h;subst h;simp
 |x::xs,vs,⟨v,r,e,h1,h2⟩=>by
  subst e;obtain⟨g1,g2⟩:=jv.get h2;refine⟨by simp[g1],fun i y hy=>?_⟩;cases i with
  |zero=>simp at hy;subst hy;exact⟨v,by simp,h1⟩
  |succ i=>simp at hy;obtain⟨u,hu,hr⟩:=g2 i y hy;exact⟨u,by simpa using hu,hr⟩
theorem Q2{ρ:Env}{xs:List SV}{vs:List Value}(h:jv ρ xs vs)(n:Nat):dK ρ (F5 0 xs) (vs.toArray++Array.replicate n undef):=by
 intro j;rw[Ds];obtain⟨h1,h2⟩:=h.get;simp only[Nat.zero_le,if_true,Nat.sub_zero];cases hx:xs[j]? with
 |none=>exact trivial
 |some x =>
  obtain⟨v,hv,hr⟩:=h2 j x hx;have hj:=(List.getElem?_eq_some_iff.1 hv).1;have e:(vs.toArray++Array.replicate n undef).getD j undef=v:=by
   rw[Array.getD_eq_getD_getElem?,Array.getElem?_append_left (by simpa using hj)];simp[hv]
  rw[e];exact hr
structure Gx where
 G:Fx
 R:List (Nat×List (Nat×RG))
def Pt:List (Nat×List (Nat×RG))->Nat->List (Nat×RG)
 |[],_=>[]
 |(j,t)::r,f=>bif Nat.beq j f then t else Pt r f
structure Gx.Ok(Y:Gx):Prop where
 g:Y.G.Ok
 reg:∀p∈Y.G.F,∀c,p.2.body=some c->uW (Pt Y.R p.1) c=true
abbrev Spec:=Nat->Option (List SV->S->KV->Prop)
def Zy(X:Cx)(sp:Spec):Prop:=∀f h,sp f=some h->∀args s K,h args s K->vv X f args s K
def KS(Y:Gx)(ch:iy)(lh:Nat->LH)(f:Nat)(args:List SV)(s:S)(K:KV):Prop :=
 match MG Y.G.F f with
 |some fn=>match fn.body with
  |some c=>mark Y.G.X.SP (100000+f) <| nk Y.G ch (Pt Y.R f) s.nx c (lh f) ⟨args.length+(fn.ntmps-args.length),F5 0 args,s.hp,s.nx,(Tz Y.G.I f).getD [],MO s.fr s.rt⟩ fun xe s' =>
   match xe with
   |.exit _=>False
   |_=>zA Y.G.X s' fn fun v=>K v ⟨s.nt,s.fr,s'.hp,s'.nx,s.kp,s.rt⟩
  |none=>False
 |none=>False
def MR:List SV->Bool
 |[]=>false
 |.a (.sub _ _ _ _ _ _)::_=>true
 |_::r=>MR r
def F6(Y:Gx)(sp:Spec)(lh:Nat->LH):Nat->iy
 |0=>fun _ _ _ _=>False
 |n+1=>fun f args s K =>
  match sp f with
  |some h=>bif MR args then KS Y (F6 Y sp lh n) lh f args s K else h args s K
  |none=>KS Y (F6 Y sp lh n) lh f args s K
theorem zB{Y:Gx}(hY:Y.Ok){ch:iy}(hch:Kn Y.G.X ch){lh:Nat->LH}{f:Nat}{args:List SV}{s:S}{K:KV}(h:KS Y ch lh f args s K):vv Y.G.X f args s K:=by
 unfold KS at h;split at h
 ·rename_i fn hfn;split at h
  ·rename_i c hc;have h:=Pa h;intro w0 M ρ w vs hn hh hargs;have hm:=s9 hfn;have hok:=hY.g.fns _ hm;refine calls_of_wp hok.at_ hc ?_;have hl:=hargs.get.1;refine wp_mono (TM hY.g hch c _ _ _ (hY.reg _ hm c hc) h w0 M ρ _ w (by rw[hn];exact Nat.le_refl _) ⟨rfl,?_,hn,?_,hh⟩) ?_
   ·simp[hl]
   ·have:=Q2 hargs (fn.ntmps-args.length);simpa[hl]using this
   ·rintro e a' w' ⟨xe,s',ρ',rfl,hk,hu,hs'⟩;have fin:∀(e':Exit),(e' = .normal\/e' = .ret)->(zA Y.G.X s' fn fun v=>K v ⟨s.nt,s.fr,s'.hp,s'.nx,s.kp,s.rt⟩)->bodyPost Y.G.X.P fn (fun e w'=>∃v,e = .returned v/\Out w0 M ρ s w' v K) e' a' w':=by
     intro e' he' hk;obtain⟨u,sv,h1,h2,h3⟩:=KR hY.g.cx hk hs';have hout:Out w0 M ρ s w' u K:=⟨sv,_,ρ',h3,rfl,rfl,⟨by rw[hn];exact hu.n,fun t ht=>hu.pl t (by rw[<- hn];exact ht)⟩,hs'.n,h2,hs'.heap⟩
     rcases he' with rfl|rfl
     ·exact⟨hs'.defers,u,h1,u,rfl,hout⟩
     ·exact⟨hs'.defers,u,h1,u,rfl,hout⟩
    cases xe with
    |normal=>exact fin .normal (.inl rfl) hk
    |ret=>exact fin .ret (.inr rfl) hk
    |exit i=>exact hk.elim
  ·exact h.elim
 ·exact h.elim
theorem zC{Y:Gx}(hY:Y.Ok){sp:Spec}(hsp:Zy Y.G.X sp){lh:Nat->LH}:∀n,Kn Y.G.X (F6 Y sp lh n)
 |0=>fun f args s K h=>h.elim
 |n+1=>fun f args s K h=>by
  simp only[F6]at h;split at h
  ·rename_i g hg;cases hs:MR args
   ·rw[hs]at h;exact hsp f g hg args s K h
   ·rw[hs]at h;exact zB hY (zC hY hsp n) h
  ·exact zB hY (zC hY hsp n) h
end
section
def BL(P:Program)(ts:List Nat):List (Nat×Func):=ts.filterMap fun t=>(P.funcs[t]?).map fun i=>(t,i)
theorem vA(P:Program):∀ts,(BL P ts).map (fun p=>P.funcs[p.1]?)=(BL P ts).map fun p=>some p.2
 |[]=>rfl
 |t::ts=>by
  unfold BL;simp only[List.filterMap_cons];cases h:P.funcs[t]? with
  |none=>exact vA P ts
  |some i =>
   simp only[Option.map_some,List.map_cons,h];congr 1;exact vA P ts
def Zz(R:List (Nat×List (Nat×RG)))(p:Nat×Func):Bool :=
 p.2.body.isSome && !(p.2.name == "runtime.NumGoroutine") && (match p.2.body with | some c => uW (Pt R p.1) c | none => true)
theorem HH{P:Program}{T:List (Nat×TI)}{F:List (Nat×Func)}{I:List (Nat×List Nat)}{R:List (Nat×List (Nat×RG))}{force SP dp:Bool}(ht:T.map (fun p=>CR dp P p.1)=T.map fun p=>some p.2)(hm:P.follows .mixedOrders=true)
 (hF:F.map (fun p=>P.funcs[p.1]?)=F.map fun p=>some p.2) (hB:F.all (Zz R)=true):(⟨⟨⟨P,T,force,SP⟩,F,I⟩,R⟩:Gx).Ok:=by
 have hb:∀p∈F,Zz R p=true:=List.all_eq_true.1 hB;refine⟨⟨⟨⟨dp,ht⟩,hm⟩,fun p hp=>?_⟩,fun p hp c hc=>?_⟩
 ·have h:=hb p hp;simp only[Zz,Bool.and_eq_true,Bool.not_eq_true']at h;refine⟨?_,h.1.1,h.1.2⟩;obtain⟨n,hn,e⟩:=List.getElem_of_mem hp;have:=congrArg (fun l=>l[n]?) hF;simp only[List.getElem?_map]at this;rw[List.getElem?_eq_getElem hn,e]at this;simpa using this
 ·have h:=hb p hp;have hp2:p.2.body=some c:=hc;simp only[Zz,Bool.and_eq_true,hp2]at h;exact h.2
theorem abQ{P:Program}{T:List (Nat×TI)}{F:List (Nat×Func)}{I:List (Nat×List Nat)}{R:List (Nat×List (Nat×RG))}{force SP:Bool}(ht:T.map (fun p=>abn P p.1)=T.map fun p=>some p.2)(hm:P.follows .mixedOrders=true)
 (hF:F.map (fun p=>P.funcs[p.1]?)=F.map fun p=>some p.2) (hB:F.all (Zz R)=true):(⟨⟨⟨P,T,force,SP⟩,F,I⟩,R⟩:Gx).Ok:=HH (dp:=false) ht hm hF hB
end
section
def xg(l:List (Nat×Chunk)):aJ:=l.map fun p=>⟨p.1,true,p.2⟩
def Fv(l:List (Nat×Chunk)):aJ:=l.map fun p=>⟨p.1,false,p.2⟩
structure cG where
 α:Type
 β:Type
 m:Nat
 m':Nat
 pre:α->Prop
 args:α->List SV
 hp:α->List (Nat×Chunk)
 ro:α->List (Nat×Chunk)
 post:α->β->Prop
 res:α->β->SV
 cR:α->β->List (Nat×Chunk)
def abq(C:cG)(a:C.α):KV:=fun v s'=>∃b,Dq C.m C.m' [] v (C.res a b) fun σ=>oM C.m C.m' 1000 (C.cR a b).length σ s'.hp (xg (C.cR a b)) fun _ _=>C.post a b/\True
def abr(C:cG)(a:C.α):S:=⟨0,[],xg (C.hp a)++Fv (C.ro a),C.m,[],List.range C.m⟩
def xh(Y:Gx)(C:cG)(ch:C.α->iy)(lh:C.α->Nat->LH)(f:Nat):Prop:=∀a,C.pre a->KS Y (ch a) (lh a) f (C.args a) (abr C a) (abq C a)
def tZ(n0 N:Nat):Nat->Nat->Sub->aJ->aJ->(Sub->Prop)->Prop
 |0,_,_,_,_,_=>False
 |_+1,_,σ,_,[],K=>K σ
 |n+1,d,σ,hp,e::r,K=>bif BK e.tag r then
  (match kU σ e.tag with
  |some none=>Xu e.ch (tZ n0 N n r.length σ hp r K)
  |some (some t)=>match hp.find t with
   |some (_,ch)=>tU n0 N σ ch e.ch fun σ=>tZ n0 N n r.length σ hp r K
   |none=>False
  |none=>match TH n0 e.tag false e.ch hp with
   |some t=>(match hp.find t with
    |some (_,ch)=>zv n0 N σ e.tag (some t) fun σ=>tU n0 N σ ch e.ch fun σ=>tZ n0 N n r.length σ hp r K
    |none=>False)
   |none=>match d with
    |d+1=>tZ n0 N n d σ hp (r++[e]) K
    |0=>False)else False
inductive Cl(σ:Sub)(hp:aJ):aJ->Prop where
 |nil:Cl σ hp []
 |later {r:aJ} {e:Ch}:Cl σ hp (r++[e])->Cl σ hp (e::r)
 |skip {r:aJ} {T:Nat} {wr:Bool} {ty:TypeId} {ks:List CK} {rows:Nat->Nat->Value}:kU σ T=some none->(∀e∈r,T≠e.tag)->Cl σ hp r->Cl σ hp (⟨T,wr,.arr ty ks 0 rows⟩::r)
 |take {r:aJ} {T t:Nat} {wr wr':Bool} {ch ch':Chunk}:kU σ T=some (some t)->hp.find t=some (wr',ch') ->
  (∀ρ ρ' p w,Fits ρ ρ' σ->ch'.Sat ρ p w->ch.Sat ρ' p w)->(∀e∈r,T≠e.tag)->Cl σ hp r->Cl σ hp (⟨T,wr,ch⟩::r)
theorem qR{n0 N:Nat}{hp:aJ}{K:Sub->Prop}:∀ {n d:Nat} {J:aJ} {σ:Sub},tZ n0 N n d σ hp J K->Wf n0 N σ->∃σ',K σ'/\Ext σ σ'/\Wf n0 N σ'/\Cl σ' hp J
 |0,_,_,_,h,_=>h.elim
 |_+1,_,[],σ,h,hw=>⟨σ,h,Ext.refl σ,hw,.nil⟩
 |n+1,d,⟨T,wr,ch⟩::r,σ,h,hw=>by
  simp only[tZ]at h;cases hn:BK T r
  ·rw[hn]at h;exact h.elim
  rw[hn]at h;simp only[cond_true]at h;have hne:=tV hn;split at h
  ·rename_i hs;cases ch<;>simp only[Xu]at h<;>try exact h.elim
   obtain⟨rfl,h⟩:=h;obtain⟨σ',h1,h2,h3,h4⟩:=qR h hw;exact⟨σ',h1,h2,h3,.skip (h2.at_ _ _ hs) hne h4⟩
  ·rename_i t hs;split at h
   ·rename_i wr' ch' hf;obtain⟨σ1,k1,e1,w1,r1⟩:=qP h hw;obtain⟨σ',h1,h2,h3,h4⟩:=qR k1 w1;exact⟨σ',h1,e1.trans h2,h3,.take ((e1.trans h2).at_ _ _ hs) hf (fun ρ ρ' p w hf=>r1 ρ ρ' p w (hf.ext h2)) hne h4⟩
   ·exact h.elim
  ·split at h
   ·split at h
    ·rename_i wr' ch' hf;obtain⟨σ0,k0,e0,w0,s0⟩:=qO h hw;obtain⟨σ1,k1,e1,w1,r1⟩:=qP k0 w0;obtain⟨σ',h1,h2,h3,h4⟩:=qR k1 w1;exact⟨σ',h1,e0.trans (e1.trans h2),h3,.take ((e1.trans h2).at_ _ _ s0) hf (fun ρ ρ' p w hf=>r1 ρ ρ' p w (hf.ext h2)) hne h4⟩
    ·exact h.elim
   ·split at h
    ·obtain⟨σ',h1,h2,h3,h4⟩:=qR h hw;exact⟨σ',h1,h2,h3,.later h4⟩
    ·exact h.elim
theorem Cl.src{σ:Sub}{hp J:aJ}(h:Cl σ hp J){ρ ρ':Env}(hf:Fits ρ ρ' σ):∀e∈J,(∀b,¬(ρ'.pl e.tag).fp b)\/∃e'∈hp,ρ'.pl e.tag=ρ.pl e'.tag:=by
 induction h with
 |nil=>intro e he;cases he
 |later _ ih=>intro e he;exact ih e (by simp only[List.mem_cons,List.mem_append,List.not_mem_nil,or_false]at he ⊢;exact he.symm)
 |skip hs _ _ ih =>
  intro e he;rcases List.mem_cons.1 he with rfl|he
  ·left;intro b;rw[(hf _ _ hs).2];exact id
  ·exact ih e he
 |take hs hfd _ _ _ ih =>
  intro e he;rcases List.mem_cons.1 he with rfl|he
  ·exact .inr ⟨_,aJ.bu hfd,(hf _ _ hs).2⟩
  ·exact ih e he
theorem Cl.sat{σ:Sub}{hp J:aJ}(h:Cl σ hp J){ρ ρ':Env}(hf:Fits ρ ρ' σ){w0:World}{M:Nat->Prop}{w:World}(hh:aj w0 M ρ hp w)(hr:∀e∈J,e.wr=false){w1:World}{M1:Nat->Prop}(hk:eZ M1 w1 w):aj w1 M1 ρ' J w:=by
 induction h with
 |nil=>exact⟨hk,fun _ h=>(by cases h),.nil⟩
 |later _ ih=>exact(ih fun e he=>hr e (by simp only[List.mem_cons,List.mem_append,List.not_mem_nil,or_false]at he ⊢;exact he.symm)).perm (List.perm_append_singleton _ _)
 |skip hs hne _ ih =>
  refine(ih fun e he=>hr e (List.mem_cons_of_mem _ he)).cons ⟨(hf _ _ hs).1,?_,?_,?_⟩ fun x hx=>⟨hne x hx,fun _ b hb=>?_⟩
  ·refine .inl ⟨rfl,?_,fun b hb=>?_⟩
   ·rw[(hf _ _ hs).2];rfl
   ·rw[(hf _ _ hs).2]at hb;exact hb
  ·intro b hb;rw[(hf _ _ hs).2]at hb;exact hb.elim
  ·intro _ b hb;rw[(hf _ _ hs).2]at hb;exact hb.elim
  ·rw[(hf _ _ hs).2]at hb;exact hb.elim
 |take hs hfd hc hne _ ih =>
  have hp1:=(hf _ _ hs).2;have he:=hh.iq _ (aJ.bu hfd);refine(ih fun e he=>hr e (List.mem_cons_of_mem _ he)).cons ⟨(hf _ _ hs).1,?_,?_,?_⟩ fun x hx=>⟨hne x hx,fun hwr=>?_⟩
  ·rw[hp1];exact hc ρ ρ' _ w hf he.ch
  ·rw[hp1];exact he.lt
  ·intro h1;have:=hr _ List.mem_cons_self;simp only at this h1;rw[this]at h1;cases h1
  ·have h1:=hr _ List.mem_cons_self;have h2:=hr x (List.mem_cons_of_mem _ hx);simp only at h1;rw[h1,h2]at hwr;cases hwr
def Dt(σ:Sub)(nx m T:Nat):Nat:=bif Nat.blt T m then(match kU σ T with|some (some t)=>bif Nat.blt t nx then t else nx+T|_=>nx+T)else nx+T
def HI(f:Nat->Nat):A->A
 |.ptr T r e c=>.ptr (f T) r e c
 |.slc T r e l c=>.slc (f T) r e l c
 |.sub T r e o l c=>.sub (f T) r e o l c
 |x=>x
def TP(f:Nat->Nat):CV->CV
 |.a x=>.a (HI f x)
 |.agg xs=>.agg (xs.map (HI f))
def aaq(f:Nat->Nat):SV->SV
 |.a x=>.a (HI f x)
 |.agg xs=>.agg (xs.map (HI f))
 |.ng xs=>.ng (xs.map (TP f))
 |.Cg g xs=>.Cg g (xs.map (HI f))
def TQ(f:Nat->Nat):Chunk->Chunk
 |.obj ty cs=>.obj ty (cs.map (HI f))
 |c=>c
def Du(f:Nat->Nat)(ρ ρ':Env):Prop:=∀T,T<ρ.n->f T<ρ'.n/\ρ'.pl (f T)=ρ.pl T
theorem Dv{f:Nat->Nat}{ρ ρ':Env}(h:Du f ρ ρ'){x:A}{v:Value}(r:x.cz ρ v):(HI f x).cz ρ' v:=by
 cases x<;>simp only[HI,A.cz]at r ⊢<;>try exact r
 ·obtain⟨h1,rfl⟩:=r;obtain⟨h2,h3⟩:=h _ h1;exact⟨h2,by rw[h3]⟩
 ·obtain⟨h1,h4,h5,h6⟩:=r;obtain⟨h2,h3⟩:=h _ h1;exact⟨h2,h4,h5,by rw[h3];exact h6⟩
 ·obtain⟨h1,h4,h5,rfl⟩:=r;obtain⟨h2,h3⟩:=h _ h1;exact⟨h2,h4,h5,by rw[h3]⟩
theorem vC{f:Nat->Nat}{ρ ρ':Env}(h:Du f ρ ρ'):∀ {xs:List A} {vs:List Value},cE ρ xs vs->cE ρ' (xs.map (HI f)) vs
 |[],_,r=>r
 |_::_,_,⟨v,t,e,r1,r2⟩=>⟨v,t,e,Dv h r1,vC h r2⟩
theorem Q3{f:Nat->Nat}{ρ ρ':Env}(h:Du f ρ ρ'):∀ {x:CV} {v:Value},x.cz ρ v->(TP f x).cz ρ' v
 |.a _,_,r=>Dv h r
 |.agg _,_,⟨vs,e,r⟩=>⟨vs,e,vC h r⟩
theorem KT{f:Nat->Nat}{ρ ρ':Env}(h:Du f ρ ρ'):∀ {xs:List CV} {vs:List Value},tG ρ xs vs->tG ρ' (xs.map (TP f)) vs
 |[],_,r=>r
 |_::_,_,⟨v,t,e,r1,r2⟩=>⟨v,t,e,Q3 h r1,KT h r2⟩
theorem TR{f:Nat->Nat}{ρ ρ':Env}(h:Du f ρ ρ'):∀ {x:SV} {v:Value},x.cz ρ v->(aaq f x).cz ρ' v
 |.a _,_,r=>Dv h r
 |.agg _,_,⟨vs,e,r⟩=>⟨vs,e,vC h r⟩
 |.ng _,_,⟨vs,e,r⟩=>⟨vs,e,KT h r⟩
 |.Cg _ _,_,⟨vs,e,r⟩=>⟨vs,e,vC h r⟩
theorem Q4{f:Nat->Nat}{ρ ρ':Env}(h:Du f ρ ρ'){c:Chunk}{p:Place}{w:World}(r:c.Sat ρ p w):(TQ f c).Sat ρ' p w:=by
 cases c with
 |obj ty cs=>obtain⟨vs,fr,a,b,⟨us,xs,e,c⟩,d⟩:=r;exact⟨vs,fr,a,b,⟨us,xs,e,vC h c⟩,d⟩
 |arr ty ks n rows=>exact r
 |abs R=>exact r
 |cI H=>exact r
def Pu(f:Nat->Nat)(l:List (Nat×Chunk)):aJ:=l.map fun p=>⟨f p.1,true,TQ f p.2⟩
def distinct:aJ->Bool
 |[]=>true
 |e::r=>BK e.tag r&&distinct r
theorem sj:∀ {hp:aJ},distinct hp=true->hp.Pairwise fun x y=>x.tag≠y.tag
 |[],_=>.nil
 |e::r,h=>by
  simp only[distinct,Bool.and_eq_true]at h;exact List.pairwise_cons.2 ⟨fun y hy=>tV h.1 y hy,sj h.2⟩
def rM(C:cG)(args:List SV)(s:S)(K:KV):Prop :=
 ∃a,Au 0 C.m [] args (C.args a) fun σ=>oM 0 C.m 1000 (C.hp a).length σ s.hp (xg (C.hp a)) fun σ rest=>tZ 0 C.m 1000 (C.ro a).length σ rest (Fv (C.ro a)) fun σ =>
  bif distinct (xg (C.hp a)++Fv (C.ro a))then C.pre a /\
  ∀b,C.post a b->bif distinct (Pu (Dt σ s.nx C.m) (C.cR a b)++rest)then
   K (aaq (Dt σ s.nx C.m) (C.res a b)) ⟨s.nt,s.fr,Pu (Dt σ s.nx C.m) (C.cR a b)++rest,s.nx+C.m',s.kp,s.rt⟩else False else False
theorem aj.local{w0:World}{M:Nat->Prop}{ρ:Env}{hp:aJ}{w:World}(h:aj w0 M ρ hp w):aj w (mq ρ hp) ρ hp w where
 keeps:=eZ.refl _ w
 iq:=fun e he=>⟨(h.iq e he).tag,(h.iq e he).ch,(h.iq e he).lt,fun hw _ hb _=>⟨e,he,hw,hb⟩⟩
 apart:=h.apart
theorem aj.app{w0:World}{M:Nat->Prop}{ρ:Env}{w:World}:∀ {h1 h2:aJ},aj w0 M ρ h1 w->aj w0 M ρ h2 w->(∀x∈h1,∀y∈h2,qC ρ x y)->aj w0 M ρ (h1++h2) w
 |[],_,_,h,_=>h
 |e::r,h2,h,h',ha=>by
  have hr:=aj.app (h.sub (List.sublist_cons_self e r)) h' fun x hx=>ha x (List.mem_cons_of_mem _ hx);refine hr.cons (h.iq e List.mem_cons_self) fun x hx=>?_;rcases List.mem_append.1 hx with hx|hx
  ·exact(List.pairwise_cons.1 h.apart).1 x hx
  ·exact ha e List.mem_cons_self x hx
theorem TS{l:List (Nat×Chunk)}{e:Ch}(h:e∈xg l):e.wr=true:=by
 obtain⟨p,_,rfl⟩:=List.mem_map.1 h;rfl
theorem Dw{l:List (Nat×Chunk)}{e:Ch}(h:e∈Fv l):e.wr=false:=by
 obtain⟨p,_,rfl⟩:=List.mem_map.1 h;rfl
def mB(X:Cx)(C:cG)(f:Nat):Prop:=∀a,C.pre a->∀(M:Nat->Prop) (ρ:Env) (w:World) (vs:List Value),ρ.n=C.m->aj w M ρ (xg (C.hp a)++Fv (C.ro a)) w->jv ρ (C.args a) vs ->
 Calls X.P f vs.toArray w fun e w'=>∃v,e = .returned v/\∃o ρ2,C.post a o/\ρ2.n=C.m'/\(∀T,T<C.m->ρ2.pl T=ρ.pl T)/\(C.res a o).cz ρ2 v/\aj w M ρ2 (xg (C.cR a o)) w'
theorem xk{X:Cx}{C:cG}{f:Nat}(hb:mB X C f){args:List SV}{s:S}{K:KV}(h:rM C args s K):vv X f args s K:=by
 obtain⟨a,h⟩:=h;obtain⟨σ1,h1,e1,w1,r1⟩:=zx h (Wf.nil _ _);obtain⟨σ2,rest,h2,e2,w2,g⟩:=kV h1 w1;obtain⟨σ,hcont,e3,w3,gr⟩:=qR h2 w2;cases hd0:distinct (xg (C.hp a)++Fv (C.ro a))with
 |false=>rw[hd0]at hcont;exact hcont.elim
 |true =>
 rw[hd0]at hcont;obtain⟨hpre,hpost⟩:=hcont;intro w0 M ρ w vs hn hh hargs;have hf:Fits ρ (jA ρ σ C.m) σ:=oR w3;have hfw:=hf.ext e3;have hW:aj w0 M (jA ρ σ C.m) (xg (C.hp a)) w:=g.sat hfw hh;have hrest:aj w0 M ρ rest w:=hh.sub g.rest;have hWl:=hW.local;have hRo:aj w (mq (jA ρ σ C.m) (xg (C.hp a))) (jA ρ σ C.m) (Fv (C.ro a)) w:=gr.sat hf hrest (fun e he=>Dw he) (eZ.refl _ w);have hapW:∀g0∈xg (C.hp a),∀f∈rest,∀b,((jA ρ σ C.m).pl g0.tag).fp b->¬(ρ.pl f.tag).fp b:=fun g0 hg0 f hf0=>g.apart hfw hh g0 hg0 f hf0 (by rw[TS hg0];rfl);have hM1:∀f∈rest,∀b,(ρ.pl f.tag).fp b->¬mq (jA ρ σ C.m) (xg (C.hp a)) b:=by
  rintro f hf0 b hb ⟨g0,hg0,_,hfp⟩;exact hapW g0 hg0 f hf0 b hfp hb
 have hM:∀b,b<w0.heap.size->mq (jA ρ σ C.m) (xg (C.hp a)) b->M b:=by
  rintro b hb ⟨g0,hg0,hw,hfp⟩;exact(hW.iq g0 hg0).own hw b hfp hb
 have hdist:=List.pairwise_append.1 (sj hd0);have hJ:aj w (mq (jA ρ σ C.m) (xg (C.hp a))) (jA ρ σ C.m) (xg (C.hp a)++Fv (C.ro a)) w:=by
  refine hWl.app hRo fun x hx y hy=>⟨hdist.2.2 x hx y hy,fun _ b hb hb'=>?_⟩
  rcases gr.src hf y hy with h | ⟨y',h1,h2⟩
  ·exact h b hb'
  ·rw[h2]at hb';exact hapW x hx y' h1 b hb hb'
 have hargs':jv (jA ρ σ C.m) (C.args a) vs:=r1 ρ _ vs (hf.ext (e2.trans e3)) hargs;refine(hb a hpre _ (jA ρ σ C.m) w vs rfl hJ hargs').mono ?_;rintro e w' ⟨v,rfl,o,ρ2,hpo,hn2,hpl2,hres,hnew⟩;refine⟨v,rfl,?_⟩;have hcont:=hpost o hpo;cases hd:distinct (Pu (Dt σ s.nx C.m) (C.cR a o)++rest)with
 |false=>rw[hd]at hcont;exact hcont.elim
 |true =>
 rw[hd]at hcont;simp only[cond_true]at hcont;have hds:=List.pairwise_append.1 (sj hd)
 let ρ3:Env:=⟨s.nx+C.m',fun t=>if t<s.nx then ρ.pl t else ρ2.pl (t-s.nx)⟩
 have hle:ρ.le ρ3:=⟨by show ρ.n<=s.nx+C.m';omega,fun t ht=>by show(if t<s.nx then _ else _)=_;rw[if_pos (by omega)]⟩
 have hmv:Du (Dt σ s.nx C.m) ρ2 ρ3:=by
  intro T hT;have hT':T<C.m':=by rw[<- hn2];exact hT
  have fresh:s.nx+T<ρ3.n/\ρ3.pl (s.nx+T)=ρ2.pl T:=⟨by show s.nx+T<s.nx+C.m';omega,by show(if s.nx+T<s.nx then _ else _)=_;rw[if_neg (by omega),Nat.add_sub_cancel_left]⟩
  unfold Dt;cases hlt:Nat.blt T C.m with
  |false=>exact fresh
  |true =>
   have hTm:T<C.m:=by simp[Nat.blt]at hlt;omega
   simp only[cond_true];split
   ·rename_i t hst;cases hlt2:Nat.blt t s.nx with
    |false=>exact fresh
    |true =>
     have htn:t<s.nx:=by simp[Nat.blt]at hlt2;omega
     refine⟨by show t<s.nx+C.m';omega,?_⟩;show(if t<s.nx then _ else _)=_;rw[if_pos htn];rw[hpl2 T hTm,(hf T _ hst).2];rfl
   ·exact fresh
 have hkeep:eZ (mq (jA ρ σ C.m) (xg (C.hp a))) w w':=hnew.keeps;have hfix:∀f∈rest,∀b,(ρ.pl f.tag).fp b->w'.heap[b]? = w.heap[b]?:=fun f hf0 b hb=>hkeep.block b ((hrest.iq f hf0).lt b hb) (hM1 f hf0 b hb);have hrest3:aj w0 M ρ3 rest w':=(hrest.world hkeep hM hfix).mono hle;have hown:∀g0∈xg (C.cR a o),∀b,(ρ2.pl g0.tag).fp b->b<w.heap.size->mq (jA ρ σ C.m) (xg (C.hp a)) b:=fun g0 hg0 b hb hlt=>(hnew.iq g0 hg0).own (TS hg0) b hb hlt;refine⟨_,_,ρ3,hcont,rfl,rfl,hle,rfl,TR hmv hres,?_⟩;have hren:aj w0 M ρ3 (Pu (Dt σ s.nx C.m) (C.cR a o)) w':=by
  refine⟨hrest3.keeps,fun e he=>?_,?_⟩
  ·obtain⟨p,hp,rfl⟩:=List.mem_map.1 he;have hg:=hnew.iq ⟨p.1,true,p.2⟩ (List.mem_map.2 ⟨p,hp,rfl⟩);obtain⟨m1,m2⟩:=hmv _ hg.tag;refine⟨m1,?_,?_,fun _ b hb hlt=>?_⟩
   ·show(TQ _ p.2).Sat ρ3 (ρ3.pl _) w';rw[m2];exact Q4 hmv hg.ch
   ·show ∀b,(ρ3.pl _).fp b->_;rw[m2];exact hg.lt
   ·have hb':(ρ2.pl p.1).fp b:=by have:(ρ3.pl (Dt σ s.nx C.m p.1)).fp b:=hb;rw[m2]at this;exact this
    exact hM b hlt (hown ⟨p.1,true,p.2⟩ (List.mem_map.2 ⟨p,hp,rfl⟩) b hb' (Nat.lt_of_lt_of_le hlt hh.keeps.size))
  ·have hd1:=List.pairwise_map.1 hds.1;have ha1:=List.pairwise_map.1 hnew.apart;refine List.pairwise_map.2 (List.Pairwise.imp_of_mem (fun {x y} hx hy hxy=>?_) (hd1.and ha1));obtain⟨hne,hap⟩:=hxy;have gx:=hmv _ (hnew.iq ⟨x.1,true,x.2⟩ (List.mem_map.2 ⟨x,hx,rfl⟩)).tag;have gy:=hmv _ (hnew.iq ⟨y.1,true,y.2⟩ (List.mem_map.2 ⟨y,hy,rfl⟩)).tag;refine⟨hne,fun _ b hb hb'=>?_⟩;have hb1:(ρ3.pl (Dt σ s.nx C.m x.1)).fp b:=hb;have hb2:(ρ3.pl (Dt σ s.nx C.m y.1)).fp b:=hb';rw[gx.2]at hb1;rw[gy.2]at hb2;exact hap.2 rfl b hb1 hb2
 refine hren.app hrest3 fun x hx y hy=>⟨hds.2.2 x hx y hy,fun _ b hb hb'=>?_⟩
 obtain⟨p,hp,rfl⟩:=List.mem_map.1 hx;have hmem:(⟨p.1,true,p.2⟩:Ch)∈xg (C.cR a o):=List.mem_map.2 ⟨p,hp,rfl⟩;have gx:=hmv _ (hnew.iq _ hmem).tag;have hb1:(ρ3.pl (Dt σ s.nx C.m p.1)).fp b:=hb;rw[gx.2]at hb1;have hb2:(ρ.pl y.tag).fp b:=by rw[<- hle.pl _ (hrest.iq y hy).tag];exact hb'
 have hlt:=(hrest.iq y hy).lt b hb2;exact hM1 y hy b hb2 (hown _ hmem b hb1 hlt)
theorem CC{Y:Gx}(hY:Y.Ok){C:cG}{ch:C.α->iy}(hch:∀a,Kn Y.G.X (ch a)){lh:C.α->Nat->LH}{f:Nat}(hb:xh Y C ch lh f):mB Y.G.X C f:=by
 intro a hpre M ρ w vs hn hJ hargs;refine(zB hY (hch a) (hb a hpre) w M ρ w vs hn hJ hargs).mono ?_;rintro e w' ⟨v,rfl,sv,s',ρ1,hK,_,_,hle1,hn1,hrep1,hh1⟩;refine⟨v,rfl,?_⟩;obtain⟨o,hK⟩:=hK;obtain⟨τ1,k1,f1,v1,q1⟩:=w9 hK (Wf.nil _ _);obtain⟨τ,rest',⟨hpo,_⟩,f2,v2,gt⟩:=kV k1 v1;have hft:Fits ρ1 (jA ρ1 τ C.m') τ:=oR v2;refine⟨o,jA ρ1 τ C.m',hpo,rfl,fun T hTm=>?_,q1 ρ1 _ v (hft.ext f2) hrep1,gt.sat hft hh1⟩;rw[<- hle1.pl T (by rw[hn];exact hTm)];show(match kU τ T with|some x=>placeOf ρ1 x|none=>ρ1.pl T)=_;split
 ·rename_i x hx;rw[v2.id T x hx hTm];rfl
 ·rfl
theorem TT{Y:Gx}(hY:Y.Ok){C:cG}{ch:C.α->iy}(hch:∀a,Kn Y.G.X (ch a)){lh:C.α->Nat->LH}{f:Nat}(hb:xh Y C ch lh f){args:List SV}{s:S}{K:KV}(h:rM C args s K):vv Y.G.X f args s K :=
 xk (CC hY hch hb) h
def cons(jK:Nat->Option cG):Sx.Spec:=fun f=>(jK f).map rM
theorem Pv{X:Cx}{jK:Nat->Option cG}(h:∀f C,jK f=some C->∀args s K,rM C args s K->vv X f args s K):Zy X (cons jK):=by
 intro f g hg args s K hK;unfold cons at hg;cases ht:jK f with
 |none=>rw[ht]at hg;cases hg
 |some C=>rw[ht]at hg;cases hg;exact h f C ht args s K hK
end
section
def gl{α:Type}[Inhabited α](l:List α)(i:Nat):α:=l.getD i default
theorem bL{α:Type}[Inhabited α]{l:List α}{i:Nat}(h:i<l.length):gl l i=l[i]:=by simp[gl,List.getD,h]
theorem bV{α:Type}[Inhabited α]{l m:List α}{i:Nat}(h:i<l.length):gl (l++m) i=gl l i:=by simp[gl,List.getD,List.getElem?_append_left h]
theorem br{α:Type}[Inhabited α]{l m:List α}{i:Nat}(h:l.length<=i):gl (l++m) i=gl m (i-l.length):=by simp[gl,List.getD,List.getElem?_append_right h]
theorem vD{α:Type}[Inhabited α]{l:List α}{i:Nat}{x:α}(h:i<l.length):gl (l.set i x) i=x:=by simp[gl,List.getD,h]
theorem Av{α:Type}[Inhabited α]{l:List α}{i j:Nat}{x:α}(h:i≠j):gl (l.set i x) j=gl l j:=by simp[gl,List.getD,List.getElem?_set_ne h]
theorem HJ{α β:Type}[Inhabited α][Inhabited β]{l:List α}{f:α->β}{i:Nat}(h:i<l.length):gl (l.map f) i=f (gl l i):=by simp[gl,List.getD,h]
theorem Pw{α:Type}[Inhabited α]{l:List α}{i k:Nat}(h:i<k):gl (l.take k) i=gl l i:=by simp[gl,List.getD,h]
theorem fD{α:Type}[Inhabited α]{l:List α}{i:Nat}(h:i<l.length):l.take (i+1)=l.take i++[gl l i]:=by
 rw[List.take_succ_eq_append_getElem h,bL h]
theorem ym{α:Type}[Inhabited α]{l:List α}{i:Nat}(h:i<l.length):gl l i∈l:=by rw[bL h];exact List.getElem_mem h
def aa{α:Type}[Inhabited α](enc:α->List Value)(l:List α):Nat->Nat->Value:=fun i j=>(enc (gl l i)).getD j undef
theorem iz{rows:Nat->Nat->Value}{row c i:Nat}{vs:List Value}(h:i≠row):kQ rows row c vs i=rows i:=by
 funext j;simp[kQ,h]
theorem jB{rows:Nat->Nat->Value}{row c:Nat}{vs:List Value}:kQ rows row c vs row=fun j=>bif Nat.ble c j&&Nat.blt j (c+vs.length)then vs.getD (j-c) undef else rows row j:=by
 funext j;simp[kQ]
def cellsOf(m:Nat)(r:Nat->Value):List Value:=(List.range m).map r
theorem ak.dB{n m:Nat}{rows rows':Nat->Nat->Value}(h:∀i,i<n->cellsOf m (rows i)=cellsOf m (rows' i)):ak n m rows rows':=by
 refine⟨fun i hi j hj=>?_⟩;have:=congrArg (fun l=>l[j]?) (h i hi);simpa[cellsOf,hj]using this
theorem ak.zero{m:Nat}{a b:Nat->Nat->Value}:ak 0 m a b:=⟨fun _ h=>absurd h (Nat.not_lt_zero _)⟩
theorem ak.of_eq{n m:Nat}{a b:Nat->Nat->Value}(h:a=b):ak n m a b:=h▸.refl n m a
theorem ak.set{α:Type}[Inhabited α]{enc:α->List Value}{n m:Nat}{l:List α}{x:α}(i0:Nat){rows:Nat->Nat->Value}(h0:i0<l.length)
 (h1:∀i,i≠i0->rows i=aa enc l i) (h2:cellsOf m (rows i0)=cellsOf m fun j=>(enc x).getD j undef):ak n m rows (aa enc (l.set i0 x)):=by
 refine .dB fun i _=>?_;by_cases hi:i=i0
 ·subst hi;rw[h2];unfold aa;rw[vD h0]
 ·rw[h1 i hi];unfold aa;rw[Av fun h=>hi h.symm]
theorem HK{r0 r1:Nat->Nat->Value}{s l i:Nat}(h:i<l):bg r0 s l r1 i=r0 (s+i):=by funext j;simp[bg,h]
theorem Fw{r0 r1:Nat->Nat->Value}{s l i:Nat}(h:l<=i):bg r0 s l r1 i=r1 (i-l):=by funext j;simp[bg,Nat.not_lt.2 h]
theorem ak.app{α:Type}[Inhabited α]{enc:α->List Value}{n m s:Nat}{l q:List α}{r0 r1:Nat->Nat->Value}{k:Nat}(hk:l.length=k)(h0:ak k m (fun i=>r0 (s+i)) (aa enc l))(h1:ak (n-k) m r1 (aa enc q)) :
 ak n m (bg r0 s k r1) (aa enc (l++q)):=by
 refine⟨fun i hi j hj=>?_⟩;by_cases h:i<k
 ·rw[HK h];refine(h0.at_ i h j hj).trans ?_;unfold aa;rw[bV (by omega)]
 ·rw[Fw (by omega)];refine(h1.at_ (i-k) (by omega) j hj).trans ?_;unfold aa;rw[br (by omega),hk]
theorem ak.one{α:Type}[Inhabited α]{enc:α->List Value}{n m:Nat}{x:α}{rows:Nat->Nat->Value}(hn:n<=1)(h:cellsOf m (rows 0)=cellsOf m fun j=>(enc x).getD j undef):ak n m rows (aa enc [x]):=by
 refine .dB fun i hi=>?_;have:i=0:=by omega
 subst this;rw[h];rfl
theorem ak.push{α:Type}[Inhabited α]{enc:α->List Value}{n m:Nat}{l:List α}{x:α}{r1:Nat->Nat->Value}{k:Nat}(hk:l.length=k)(hn:n<=k+1)(h:cellsOf m (r1 0)=cellsOf m fun j=>(enc x).getD j undef) :
 ak n m (bg (aa enc l) 0 k r1) (aa enc (l++[x])) :=
 .app hk (.of_eq (by funext i;simp)) (.one (by omega) h)
def au(X:Cx)(f:Nat)(C:cG):Prop:=∀args s K,rM C args s K->vv X f args s K
def Dx:List (Nat×cG)->Nat->Option cG
 |[],_=>none
 |(j,c)::r,f=>bif Nat.beq j f then some c else Dx r f
def vE(X:Cx):List (Nat×cG)->Prop
 |[]=>True
 |p::r=>au X p.1 p.2/\vE X r
theorem vE.at_{X:Cx}:∀ {l:List (Nat×cG)},vE X l->∀f C,Dx l f=some C->au X f C
 |[],_,_,_,h=>by cases h
 |(j,c)::r,h,f,C,hc=>by
  simp only[Dx]at hc;by_cases hj:j=f
  ·subst hj;simp only[dz,cond_true,Option.some.injEq]at hc;subst hc;exact h.1
  ·rw[fh hj]at hc;exact vE.at_ h.2 f C hc
def KU(n:Nat):List (Nat×List An×List An)->Nat->LH
 |[],_=>.mk n [] []
 |(j,l,c)::r,f=>bif Nat.beq j f then .mk n l c else KU n r f
def aar(Y:Gx)(jK:List (Nat×cG))(lh:Nat->LH)(n:Nat):iy:=F6 Y (cons (Dx jK)) lh n
theorem CD{Y:Gx}(hY:Y.Ok){jK:List (Nat×cG)}(ht:vE Y.G.X jK){lh:Nat->LH}{n:Nat}:Kn Y.G.X (aar Y jK lh n) :=
 zC hY (Pv fun f C h=>ht.at_ f C h) n
def Px(Y:Gx)(jK:List (Nat×cG))(f:Nat)(C:cG)(l:C.α->List (Nat×List An×List An)):Prop :=
 xh Y C (fun a=>aar Y jK (KU 1000 (l a)) 20) (fun a=>KU 1000 (l a)) f
structure fnBody(Y:Gx)(jK:List (Nat×cG))(f:Nat)(C:cG)(l:C.α->List (Nat×List An×List An)):Prop where
 body:Px Y jK f C l
theorem fnBody.of{Y:Gx}{jK:List (Nat×cG)}{f:Nat}{C:cG}{l:C.α->List (Nat×List An×List An)}{p:Prop}(h:Px Y jK f C l=p)(hp:p):fnBody Y jK f C l:=⟨h.mpr hp⟩
theorem aU{Y:Gx}(hY:Y.Ok){jK:List (Nat×cG)}{f:Nat}{C:cG}{l:C.α->List (Nat×List An×List An)}(hb:fnBody Y jK f C l)(ht:vE Y.G.X jK):au Y.G.X f C :=
 fun _ _ _ h=>TT hY (fun _=>CD hY ht) hb.body h
def An.flat(key:Nat)(α:Type)(J:S->α->S)(p:S->α->Prop)(μ:S->α->Nat):An:=.mk key α J p μ fun _=>.mk 60 [] []
def YX:SV->Nat
 |.a (.ptr t _ _ _)=>t
 |.a (.slc t _ _ _ _)=>t
 |_=>0
def S.tg(s:S)(i:Nat):Nat:=YX (look s.fr i)
def S.iv(s:S)(i:Nat):Int:=match look s.fr i with
 |.a (.int _ n)=>n
 |.a (.lit _ n)=>n
 |_=>0
def S.qx(s:S)(t c:Nat):Nat:=match s.hp.find t with
 |some (_,.obj _ cs)=>match cs[c]? with|some x=>YX (.a x)|none=>0
 |_=>0
def S.at_(s:S)(t:Nat)(ch:Chunk):S:=s.put (s.hp.vb t ch)
def S.int(s:S)(i:Nat)(n:Int):S:=s.set i (.a (.int .i64 n))
end
theorem bY{p:Prop}(h:p:=by first|with_reducible rfl|with_reducible trivial|with_reducible assumption):p:=h
theorem dg{p:Prop}(h:p:=by first|with_reducible (first|rfl|trivial|assumption)|omega|with_reducible (first|exact ak.refl _ _ _|exact Nat.le_refl _)|(dsimp only[List.length_cons,List.length_nil]<;>omega)):p:=h
theorem bZ{p:Prop}(h:p:=by first|omega|with_reducible exact ak.refl _ _ _|rfl|exact ak.refl _ _ _|exact Nat.le_refl _|(dsimp only;omega)):p:=h
theorem rO{p:Prop}(h:p:=by first|with_reducible rfl|omega|(dsimp only;omega)|exact ak.refl _ _ _|assumption|rfl|trivial|exact Nat.le_refl _):p:=h
theorem lT{p q:Prop}(k:q)(h:p:=by first|omega|(dsimp only;omega)|(simp only[bR];omega)):p/\q:=⟨h,k⟩
end Go.Sx
namespace Go.Proofs.YtfjgoonelcaggaaGreat
open Go.Sx
namespace Tab
def T:List (Nat×TI):=[(2,⟨1,8,false,.int .i64,[.lit .i64 0],[.int .i64]⟩),
 (3,⟨1,8,false,.int .i64,[.lit .i64 0],[.int .i64]⟩),
 (4,⟨1,1,false,.bool,[.ff],[.bool]⟩),
 (5,⟨1,1,false,.int .u8,[.lit .u8 0],[.int .u8]⟩),
 (9,⟨1,16,false,.str,[.str ⟨#[]⟩],[.str]⟩),
 (22,⟨1,8,false,.ptr,[.nil],[.deep]⟩),
 (24,⟨1,8,true,.struct [(0,1)],[.lit .i64 0],[.int .i64]⟩),
 (25,⟨1,8,false,.int .i64,[.lit .i64 0],[.int .i64]⟩),
 (28,⟨1,8,false,.ptr,[.nil],[.deep]⟩),
 (30,⟨1,8,false,.ptr,[.nil],[.deep]⟩),
 (31,⟨1,24,false,.slc 45,[.cc],[.deep]⟩),
 (32,⟨1,24,false,.slc 61,[.cc],[.deep]⟩),
 (34,⟨2,48,true,.struct [(0,1),(1,1)],[.cc,.cc],[.deep,.deep]⟩),
 (40,⟨4,48,true,.struct [(0,1),(1,1),(2,1),(3,1)],[.str ⟨#[]⟩,.str ⟨#[]⟩,.lit .i64 0,.ff],[.str,.str,.int .i64,.bool]⟩),
 (41,⟨1,24,false,.slc 40,[.cc],[.deep]⟩),
 (42,⟨1,24,false,.slc 144,[.cc],[.deep]⟩),
 (43,⟨1,24,false,.slc 3,[.cc],[.deep]⟩),
 (45,⟨21,256,true,.struct [(0,1),(1,1),(2,1),(3,1),(4,1),(5,1),(6,1),(7,1),(8,1),(9,1),(10,1),(11,1),(12,4),(16,1),(17,1),(18,1),(19,1),(20,1)],[.lit .i64 0,.lit .i64 0,.lit .i64 0,.lit .i64 0,.lit .i64 0,.lit .i64 0,.lit .i64 0,.lit .i64 0,.lit .i64 0,.str ⟨#[]⟩,.lit .i64 0,.ff,.str ⟨#[]⟩,.str ⟨#[]⟩,.lit .i64 0,.ff,.cc,.cc,.cc,.lit .i64 0,.cc],[.int .i64,.int .i64,.int .i64,.int .i64,.int .i64,.int .i64,.int .i64,.int .i64,.int .i64,.str,.int .i64,.bool,.str,.str,.int .i64,.bool,.deep,.deep,.deep,.int .i64,.deep]⟩),
 (46,⟨1,24,false,.slc 9,[.cc],[.deep]⟩),
 (48,⟨1,8,false,.ptr,[.nil],[.deep]⟩),
 (50,⟨1,8,false,.func,[.val .nilFunc],[.other]⟩),
 (58,⟨1,24,false,.slc 5,[.cc],[.deep]⟩),
 (59,⟨1,8,false,.func,[.val .nilFunc],[.other]⟩),
 (61,⟨6,64,true,.struct [(0,1),(1,1),(2,1),(3,1),(4,1),(5,1)],[.lit .i64 0,.lit .i64 0,.str ⟨#[]⟩,.lit .i64 0,.str ⟨#[]⟩,.ff],[.int .i64,.int .i64,.str,.int .i64,.str,.bool]⟩),
 (64,⟨1,8,false,.int .u64,[.lit .u64 0],[.int .u64]⟩),
 (72,⟨4,32,true,.struct [(0,1),(1,1),(2,1),(3,1)],[.lit .i64 0,.lit .i64 0,.lit .i64 0,.ff],[.int .i64,.int .i64,.int .i64,.bool]⟩),
 (74,⟨1,8,false,.ptr,[.nil],[.deep]⟩),
 (75,⟨1,8,false,.ptr,[.nil],[.deep]⟩),
 (76,⟨1,8,false,.ptr,[.nil],[.deep]⟩),
 (77,⟨1,24,false,.slc 136,[.cc],[.deep]⟩),
 (78,⟨1,8,false,.other,[.val (.map none)],[.other]⟩),
 (79,⟨1,8,false,.other,[.val (.map none)],[.other]⟩),
 (80,⟨1,24,false,.slc 125,[.cc],[.deep]⟩),
 (81,⟨1,24,false,.slc 134,[.cc],[.deep]⟩),
 (83,⟨14,192,true,.struct [(0,1),(1,1),(2,1),(3,1),(4,1),(5,1),(6,1),(7,1),(8,1),(9,1),(10,1),(11,1),(12,2)],[.nil,.nil,.lit .i64 0,.nil,.nil,.ff,.cc,.val (.map none),.val (.map none),.cc,.cc,.lit .i64 0,.cc,.cc],[.deep,.deep,.int .i64,.deep,.deep,.bool,.deep,.other,.other,.deep,.deep,.int .i64,.deep,.deep]⟩),
 (84,⟨1,8,false,.ptr,[.nil],[.deep]⟩),
 (85,⟨1,8,false,.ptr,[.nil],[.deep]⟩),
 (86,⟨1,8,false,.ptr,[.nil],[.deep]⟩),
 (88,⟨4,32,true,.struct [(0,1),(1,1),(2,1),(3,1)],[.nil,.nil,.nil,.lit .i64 0],[.deep,.deep,.deep,.int .i64]⟩),
 (96,⟨1,24,false,.slc 4,[.cc],[.deep]⟩),
 (108,⟨1,8,false,.int .u64,[.lit .u64 0],[.int .u64]⟩),
 (114,⟨1,24,false,.slc 158,[.cc],[.deep]⟩),
 (116,⟨2,32,true,.struct [(0,1),(1,1)],[.cc,.lit .i64 0],[.deep,.int .i64]⟩),
 (119,⟨4,40,true,.struct [(0,1),(1,1),(2,1),(3,1)],[.lit .i64 0,.lit .i64 0,.lit .i64 0,.str ⟨#[]⟩],[.int .i64,.int .i64,.int .i64,.str]⟩),
 (122,⟨1,8,false,.ptr,[.nil],[.deep]⟩),
 (125,⟨7,64,true,.struct [(0,4),(4,1),(5,1),(6,1)],[.lit .i64 0,.lit .i64 0,.lit .i64 0,.str ⟨#[]⟩,.lit .i64 0,.lit .i64 0,.lit .i64 0],[.int .i64,.int .i64,.int .i64,.str,.int .i64,.int .i64,.int .i64]⟩),
 (127,⟨4,32,true,.struct [(0,1),(1,1),(2,1),(3,1)],[.nil,.lit .i64 0,.lit .i64 0,.lit .i64 0],[.deep,.int .i64,.int .i64,.int .i64]⟩),
 (131,⟨1,8,false,.ptr,[.nil],[.deep]⟩),
 (134,⟨5,48,true,.struct [(0,4),(4,1)],[.lit .i64 0,.lit .i64 0,.lit .i64 0,.str ⟨#[]⟩,.lit .i64 0],[.int .i64,.int .i64,.int .i64,.str,.int .i64]⟩),
 (136,⟨4,32,true,.struct [(0,1),(1,1),(2,1),(3,1)],[.lit .u64 0,.lit .u64 0,.lit .i64 0,.lit .i64 0],[.int .u64,.int .u64,.int .i64,.int .i64]⟩),
 (144,⟨2,24,true,.struct [(0,1),(1,1)],[.lit .i64 0,.str ⟨#[]⟩],[.int .i64,.str]⟩),
 (152,⟨1,24,false,.slc 2,[.cc],[.deep]⟩),
 (153,⟨1,8,false,.ptr,[.nil],[.deep]⟩),
 (155,⟨5,40,true,.struct [(0,1),(1,4)],[.nil,.lit .i64 0,.lit .i64 0,.lit .i64 0,.ff],[.deep,.int .i64,.int .i64,.int .i64,.bool]⟩),
 (156,⟨64,64,true,.arr 64 5,.replicate 64 (.lit .u8 0),.replicate 64 (.int .u8)⟩),
 (158,⟨129,129,true,.struct [(0,64),(64,64),(128,1)],[.lit .u8 0,.lit .u8 0,.lit .u8 0,.lit .u8 0,.lit .u8 0,.lit .u8 0,.lit .u8 0,.lit .u8 0,.lit .u8 0,.lit .u8 0,.lit .u8 0,.lit .u8 0,.lit .u8 0,.lit .u8 0,.lit .u8 0,.lit .u8 0,.lit .u8 0,.lit .u8 0,.lit .u8 0,.lit .u8 0,.lit .u8 0,.lit .u8 0,.lit .u8 0,.lit .u8 0,.lit .u8 0,.lit .u8 0,.lit .u8 0,.lit .u8 0,.lit .u8 0,.lit .u8 0,.lit .u8 0,.lit .u8 0,.lit .u8 0,.lit .u8 0,.lit .u8 0,.lit .u8 0,.lit .u8 0,.lit .u8 0,.lit .u8 0,.lit .u8 0,.lit .u8 0,.lit .u8 0,.lit .u8 0,.lit .u8 0,.lit .u8 0,.lit .u8 0,.lit .u8 0,.lit .u8 0,.lit .u8 0,.lit .u8 0,.lit .u8 0,.lit .u8 0,.lit .u8 0,.lit .u8 0,.lit .u8 0,.lit .u8 0,.lit .u8 0,.lit .u8 0,.lit .u8 0,.lit .u8 0,.lit .u8 0,.lit .u8 0,.lit .u8 0,.lit .u8 0,.lit .u8 0,.lit .u8 0,.lit .u8 0,.lit .u8 0,.lit .u8 0,.lit .u8 0,.lit .u8 0,.lit .u8 0,.lit .u8 0,.lit .u8 0,.lit .u8 0,.lit .u8 0,.lit .u8 0,.lit .u8 0,.lit .u8 0,.lit .u8 0,.lit .u8 0,.lit .u8 0,.lit .u8 0,.lit .u8 0,.lit .u8 0,.lit .u8 0,.lit .u8 0,.lit .u8 0,.lit .u8 0,.lit .u8 0,.lit .u8 0,.lit .u8 0,.lit .u8 0,.lit .u8 0,.lit .u8 0,.lit .u8 0,.lit .u8 0,.lit .u8 0,.lit .u8 0,.lit .u8 0,.lit .u8 0,.lit .u8 0,.lit .u8 0,.lit .u8 0,.lit .u8 0,.lit .u8 0,.lit .u8 0,.lit .u8 0,.lit .u8 0,.lit .u8 0,.lit .u8 0,.lit .u8 0,.lit .u8 0,.lit .u8 0,.lit .u8 0,.lit .u8 0,.lit .u8 0,.lit .u8 0,.lit .u8 0,.lit .u8 0,.lit .u8 0,.lit .u8 0,.lit .u8 0,.lit .u8 0,.lit .u8 0,.lit .u8 0,.lit .u8 0,.lit .u8 0,.ff],[.int .u8,.int .u8,.int .u8,.int .u8,.int .u8,.int .u8,.int .u8,.int .u8,.int .u8,.int .u8,.int .u8,.int .u8,.int .u8,.int .u8,.int .u8,.int .u8,.int .u8,.int .u8,.int .u8,.int .u8,.int .u8,.int .u8,.int .u8,.int .u8,.int .u8,.int .u8,.int .u8,.int .u8,.int .u8,.int .u8,.int .u8,.int .u8,.int .u8,.int .u8,.int .u8,.int .u8,.int .u8,.int .u8,.int .u8,.int .u8,.int .u8,.int .u8,.int .u8,.int .u8,.int .u8,.int .u8,.int .u8,.int .u8,.int .u8,.int .u8,.int .u8,.int .u8,.int .u8,.int .u8,.int .u8,.int .u8,.int .u8,.int .u8,.int .u8,.int .u8,.int .u8,.int .u8,.int .u8,.int .u8,.int .u8,.int .u8,.int .u8,.int .u8,.int .u8,.int .u8,.int .u8,.int .u8,.int .u8,.int .u8,.int .u8,.int .u8,.int .u8,.int .u8,.int .u8,.int .u8,.int .u8,.int .u8,.int .u8,.int .u8,.int .u8,.int .u8,.int .u8,.int .u8,.int .u8,.int .u8,.int .u8,.int .u8,.int .u8,.int .u8,.int .u8,.int .u8,.int .u8,.int .u8,.int .u8,.int .u8,.int .u8,.int .u8,.int .u8,.int .u8,.int .u8,.int .u8,.int .u8,.int .u8,.int .u8,.int .u8,.int .u8,.int .u8,.int .u8,.int .u8,.int .u8,.int .u8,.int .u8,.int .u8,.int .u8,.int .u8,.int .u8,.int .u8,.int .u8,.int .u8,.int .u8,.int .u8,.int .u8,.int .u8,.bool]⟩),
 (159,⟨1,24,false,.slc 208,[.cc],[.deep]⟩),
 (161,⟨3,56,true,.struct [(0,1),(1,1),(2,1)],[.lit .i64 0,.cc,.cc],[.int .i64,.deep,.deep]⟩),
 (192,⟨1,8,false,.func,[.val .nilFunc],[.other]⟩),
 (194,⟨1,8,false,.ptr,[.nil],[.deep]⟩),
 (195,⟨1,8,false,.other,[.val (.map none)],[.other]⟩),
 (197,⟨2,16,true,.struct [(0,1),(1,1)],[.lit .i64 0,.val (.map none)],[.int .i64,.other]⟩),
 (199,⟨2,24,true,.struct [(0,1),(1,1)],[.str ⟨#[]⟩,.ff],[.str,.bool]⟩),
 (202,⟨1,8,false,.ptr,[.nil],[.deep]⟩),
 (203,⟨1,8,false,.ptr,[.nil],[.deep]⟩),
 (205,⟨2,16,true,.struct [(0,1),(1,1)],[.nil,.nil],[.deep,.deep]⟩),
 (208,⟨2,16,true,.struct [(0,1),(1,1)],[.lit .u64 0,.lit .i64 0],[.int .u64,.int .i64]⟩),
 (224,⟨1,24,false,.slc 228,[.cc],[.deep]⟩),
 (226,⟨2,32,true,.struct [(0,1),(1,1)],[.nil,.cc],[.deep,.deep]⟩),
 (228,⟨3,32,true,.struct [(0,2),(2,1)],[.lit .i64 0,.str ⟨#[]⟩,.lit .i64 0],[.int .i64,.str,.int .i64]⟩),
 (245,⟨1,24,false,.slc 251,[.cc],[.deep]⟩),
 (247,⟨3,40,true,.struct [(0,1),(1,1),(2,1)],[.cc,.lit .i64 0,.lit .i64 0],[.deep,.int .i64,.int .i64]⟩),
 (251,⟨4,32,true,.struct [(0,1),(1,1),(2,1),(3,1)],[.str ⟨#[]⟩,.lit .i64 0,.ff,.ff],[.str,.int .i64,.bool,.bool]⟩),
 (252,⟨1,24,false,.slc 289,[.cc],[.deep]⟩),
 (254,⟨7,72,true,.struct [(0,1),(1,1),(2,1),(3,1),(4,1),(5,1),(6,1)],[.nil,.lit .i64 0,.lit .i64 0,.cc,.lit .i64 0,.lit .i64 0,.ff],[.deep,.int .i64,.int .i64,.deep,.int .i64,.int .i64,.bool]⟩),
 (259,⟨1,8,false,.ptr,[.nil],[.deep]⟩),
 (262,⟨5,56,true,.struct [(0,1),(1,1),(2,1),(3,1),(4,1)],[.nil,.lit .i64 0,.lit .i64 0,.cc,.lit .i64 0],[.deep,.int .i64,.int .i64,.deep,.int .i64]⟩),
 (266,⟨1,24,false,.slc 269,[.cc],[.deep]⟩),
 (269,⟨2,32,true,.struct [(0,1),(1,1)],[.lit .i64 0,.cc],[.int .i64,.deep]⟩),
 (276,⟨1,8,false,.func,[.val .nilFunc],[.other]⟩),
 (286,⟨1,8,false,.func,[.val .nilFunc],[.other]⟩),
 (288,⟨5,72,true,.struct [(0,1),(1,1),(2,1),(3,1),(4,1)],[.lit .i64 0,.lit .i64 0,.lit .i64 0,.cc,.cc],[.int .i64,.int .i64,.int .i64,.deep,.deep]⟩),
 (289,⟨1,8,false,.ptr,[.nil],[.deep]⟩),
 (290,⟨8,8,true,.arr 8 5,.replicate 8 (.lit .u8 0),.replicate 8 (.int .u8)⟩),
 (299,⟨1,4,false,.int .u32,[.lit .u32 0],[.int .u32]⟩),
 (301,⟨1,24,false,.slc 259,[.cc],[.deep]⟩),
 (304,⟨1,8,false,.func,[.val .nilFunc],[.other]⟩),
 (306,⟨1,8,false,.func,[.val .nilFunc],[.other]⟩),
 (315,⟨1,8,false,.int .i64,[.lit .i64 0],[.int .i64]⟩),
 (327,⟨1,24,false,.slc 58,[.cc],[.deep]⟩),
 (335,⟨1,8,false,.func,[.val .nilFunc],[.other]⟩),
 (336,⟨1,8,false,.int .u64,[.lit .u64 0],[.int .u64]⟩),
 (340,⟨1,8,false,.ptr,[.nil],[.deep]⟩),
 (354,⟨1,8,false,.ptr,[.nil],[.deep]⟩)]
def ids:List Nat:=[3,4,5,6,7,35,77,12,11,13,14,15,16,17,18,19,20,21,22,23,24,25,26,28,27,29,30,79,125,83,46,47,48,49,50,52,33,51,54,55,56,57,62,63,44,45,66,67,68,69,70,71,72,73,74,76,75,80,170,171,172,145,100,129,130,81,82,84,85,86,87,88,89,90,91,95,96,97,98,99,118,117,119,78,120,122,121,123,124,173,201,202,203,199,177,128,146,175,176,140,178,179,180,126,127,132,131,134,135,136,137,138,103,112,142,143,107,111,144,166,165,162,164,163,167,168,169,174,205,206,207,209,208,210,133,183,182,184,185,151,152,157,104,156,200,195,196,197,198,204,230,231,232,189,233,234,235,236,181,211,212,213,190,191,192,153,228,229,224,225,254,255,256,257,258,259,260,261,237,238,193,194,275,240,241,276,277,227,283]
def I:List (Nat×List Nat):=[(3,[0,1,2,4,6,7]),(4,[0,1,2,3,4,10,11,12,13,15,16,17,18,19,22,40,46,59,69,86,96,109,131,132,138,148]),(5,[0,1,4,5,6,7,9,10,11,12,13,14,15,18,36,39,72,75,101,104,121]),(6,[0,1,2,3,4,5,12,13,14,15,16,17,18,19,20,21,22,23,24,25,26,29,58,74,92,132,139,167,174,212,219]),(7,[0,1,4,5,6,7,9,10,13,21,33,72,74]),(35,[0,1,4,5,6,7,8,9,11,21,22,23,24,31,41]),(77,[0,2,3,4,5,6,10,18]),(12,[0,2]),(11,[0,1,2,6,7,8,9,19]),(13,[0,1,2,3,8,10]),(14,[0,1,2,3,4,5,6,7,8,9,10,35]),(15,[0,2,3,4,6,8,38,53,54,55,56,70]),(16,[0,1,3,4,5,6,22,42,43,48,52,57,61,63,66,69,81,84,88,93]),(17,[0,2,3,5,7,11,12,13,14]),(18,[0,2,4]),(19,[0,1,4,6,38,48]),(20,[0,1,4,8]),(21,[0,2,3,4,5,6,15]),(22,[0,2]),(23,[0,1,2,6,7,8,21]),(24,[0,1,2,3,4,5,106,153,158,167,172,209]),(25,[0,1,2,3,8,9,11,26,47,73,87]),(26,[0,2]),(28,[0,2,3,4,5,9,18]),(27,[0,1,4,5,6,7,8,9,10,11,14,18,22,50,80,87]),(29,[0,1,4,6,8,11,13,14,15,16,29]),(30,[0,2,4]),(79,[0,2,3,6]),(125,[0,1,4,5,6,7,8,9,10,11,19,65]),(83,[0,1,4,5,6,7,8,9,10,21,29,42]),(46,[0,2,3,4,5,6,7,8,12,15,16,17,24,33]),(47,[0,1,2,3,8,9,11]),(48,[0,1,3,4,5,7,18,36,45,110,119]),(49,[0,2,3]),(50,[0,1,4]),(52,[0,2,4]),(33,[0,2,4]),(51,[0,1,5,6,7,8,9]),(54,[0,1,2,3,4,6,10,13,47]),(55,[0,1,2,48,66]),(56,[0,2,3,4,5,6,7,8,30]),(57,[0,1,3,4,28,37]),(62,[0,1,3,4,25]),(63,[0,1,3,4,5,6,7,8,16,39,59]),(44,[0,1,4]),(45,[0,1,4]),(66,[0,2,3,5,6,7,8,9,10,14,15,16]),(67,[0,2]),(68,[0,1,2,3,4]),(69,[0,1,2]),(70,[0,2,3,7,37]),(71,[0,1,2,6,7,16]),(72,[0,1,4,5,6,17]),(73,[0,1,3,4,5,6,7,10,29]),(74,[0,2,4]),(76,[0,2]),(75,[0,1,4]),(80,[0,2,4]),(170,[0,1,4,5,6,7,8,9,10,11,14,23,24,35,63,88]),(171,[0,2,4]),(172,[0,1,4,5,6,8,9,10,11,12,13,14,15,27,30]),(145,[0,1,2,4,11,12,13,14,22]),(100,[0,1,3,4,5,6,9,41]),(129,[0,1,2,6,7,8,9,10,12,13,14,15,16,19,30,36,37,38,39,65]),(130,[0,1,2,6,7,8,9,10,12,13,14,23,30,31,32,33,42,58,71]),(81,[0,1,2,6,7,12,16]),(82,[0,1,4,5,6,7,17]),(84,[0,2,4]),(85,[0]),(86,[0,2]),(87,[0,2,4]),(88,[0,1,3,4]),(89,[0,1,4,5,7,8,9,10,12,13,14,15,16,21,33,42]),(90,[0,1,3,4,5,27]),(91,[0,1,4]),(95,[0,1,4,6,7,8,9,10,19]),(96,[0,1,2,22]),(97,[0,1,2,3,5,7,9,10,11,12,29,34,35,36,37,42]),(98,[0,1,2,6,8,20,25,34,40,84,85,86,87]),(99,[0,1,2,6,7,43,59]),(118,[0,1,2,3]),(117,[0,1,4,5,7,8,9,16]),(119,[0,1,2,6,7,16]),(78,[0,1,4,6,8,12,13,14,15,21]),(120,[0,2]),(122,[0,2,3,5,6,7,8,9,10,15,17]),(121,[0,1,4,5,6,7]),(123,[0,1,2,6,7,8,9,11,22,32,58]),(124,[0,2,4]),(173,[0,1,4]),(201,[0,1,4,5,6,11]),(202,[0,2,3,5,6,7,8,9]),(203,[0,2,3,5,7,8,9,10,11,14,15,16,17,24,25]),(199,[0,2,4]),(177,[0,2,3,4,5,6,7,8,9,10,11,12,21,31,37,43]),(128,[0,1,2,3,5]),(146,[0,1,4,5,8]),(175,[0,1,2,5,6,7,8,9,10,11,12,13,14,17,42,43,44,50,73,105]),(176,[0,2,3,5,7,9,13,14,15,16,22,23,24,25]),(140,[0,2,12]),(178,[0]),(179,[0,2,3,4,5,14,28]),(180,[0,1,4,5,8,16]),(126,[0,1,4,5,8]),(127,[0,1,2,6,7,8,9,10,11,12,15,20,24,25,34,40]),(132,[0,1,3]),(131,[0,1,4,5,7,9,14,16,30]),(134,[0,1,2,4,5,7,9,10,11,12,13,15,16,17,18,19,28,30,31,32,33,53,81,88]),(135,[0,1,4,6,8,10,12,13,14,15,16,21,23,24,25,26,41]),(136,[0,1,2,6,7,8,9,11,26]),(137,[0,1,4,13]),(138,[0,1,4,5,7,8,9,16]),(103,[0,1,4,15]),(112,[0,1,6]),(142,[0,2,4,6,14]),(143,[0,3]),(107,[0,2]),(111,[0]),(144,[0,1,4,12]),(166,[0,1,4,6,7,8,9,10]),(165,[0,1,4,6,7,8,9,10]),(162,[0,1,4,5,6,7,8,9,10,11,12,13,16,49,53,95,96,112,118,147]),(164,[0,2,4,6,10,11,12,13,21]),(163,[0,1,4,5,6,7,9,13,14,15,16,27]),(167,[0,2,4,19,20,21,22,26]),(168,[0,1,4,5,6,7,8,24,25,26,34,45,61]),(169,[0,2,3,5,10,11,12]),(174,[0,1,2,3,8,9,10,11,48,56]),(205,[0,1,4,5,6,7,8,9,12,13,33,59,82]),(206,[0,1,4]),(207,[0,1,4]),(209,[0,1,2,4]),(208,[0,1,4,5,6,7,12,19,29]),(210,[0,2,3,4,5,6,7,8,9,10,11,12,13,14,18,28,40,55,83]),(133,[0,1,4]),(183,[0,1,2,3]),(182,[0,1,4,5,6,7,12,19,29]),(184,[0,1,4,5,6,7,8,9,20,32]),(185,[0,1,2,4]),(151,[0,2,4]),(152,[0,2,3,5,6,9,10,11,12,13,16,17]),(157,[0,1,3]),(104,[0,1,4,6,14,15,16,17,22,30]),(156,[2]),(200,[0,1,4,5,10,14]),(195,[0,1,2,3,4,5,18,38]),(196,[0,1,4,6,7,8]),(197,[0,2]),(198,[0,1,2,6,7]),(204,[0,1,4,6,7,8]),(230,[0,2,3,5,6,7,8,9]),(231,[0,1,2,6,7,8,12,87]),(232,[0,2,3,4,12,51]),(189,[0,2]),(233,[0,1,2,3,4,10,11,12,13,14,15,16,17,18,19,20,25,32,39,56,75,80,97,125]),(234,[0,1,4,5,7,8,9,16]),(235,[0,2,3,4,5,6,7,14,18,25]),(236,[0,1,4]),(181,[0,1,4,5,7,8,9,16]),(211,[0,1,4,5,7,8,9,16]),(212,[0,1,4,5,6,9,17]),(213,[0,1,4,5,7,8,9,11,15,16,17,18,30]),(190,[0,1,4]),(191,[0,1,4]),(192,[0,1,2,3,4,5,9]),(153,[0,2,4]),(228,[0,1,2,4]),(229,[0,1,2,6,7,8,30]),(224,[0,2,4,8]),(225,[0,2,4,8,14]),(254,[0,1,2,3,8,9,14,34]),(255,[0,1,2,3,8,9,10,11,12,21,33]),(256,[0,1,2,8,9,10,11,12,17,35,45]),(257,[0,1,2,3,8,9,10,11,12,13,14,34,36,55,57,60]),(258,[0,1,2,8,9,15]),(259,[0,1,2,3,8,9,10,11,12,16,36,41,45,65,69,84,104,109,124]),(260,[0,1,2,3,4,10,11,12,47,65,70]),(261,[0,1,2,3,4,10,11,12,13,47,66,71,120,139,144]),(237,[0,1,2,6,7,8,9,10,11,17,31]),(238,[0,1,2,4]),(193,[0,1,2,3,4]),(194,[0,2,3,5,7,11,12,13,14,18]),(275,[0,1,2,3,4,10,11,18,40,58]),(240,[0,2]),(241,[0,2]),(276,[0,1,2,3,8]),(277,[0,1,2,3,4,5,12]),(227,[0,2]),(283,[0,1,2,3,4,10,11,22])]
def iJ(l:List Nat):Nat->Nat->List (Nat×Bool)
|0,_=>[]
|n+1,i=>(i,l.any (Nat.beq i))::iJ l n (i+1)
def iK:Nat->List Nat->List (Nat×Nat)
|_,[]=>[]
|n,v::r=>(n,v)::iK (n-1) r
def R:List (Nat×List (Nat×RG)):=[(3,[]),
 (4,[]),
 (5,[]),
 (6,[]),
 (7,[]),
 (35,[(13,⟨iJ [9] 10 0,iK 9 [511,255,96,0,0,0,7,3,1,0],0,none⟩)]),
 (77,[]),
 (12,[]),
 (11,[]),
 (13,[]),
 (14,[]),
 (15,[(3,⟨[(0,false),(1,false),(2,false),(3,false),(4,false),(6,false),(7,false),(8,false),(9,false),(10,false),(11,false),(12,false),(15,false),(16,false),(17,false),(18,false),(19,false),(20,false),(21,false),(5,true),(13,true),(14,false),(22,true),(23,false),(24,false),(25,true),(26,true)],[(26,67108863),(25,33554430),(24,16777214),(23,8372222),(22,4177918),(14,16382),(13,8190),(5,30),(21,2064384),(20,1015808),(19,491520),(18,229376),(17,98304),(16,32768),(15,0),(12,4032),(11,1984),(10,960),(9,448),(8,192),(7,64),(6,0),(4,14),(3,6),(2,2),(1,0),(0,0)],0,none⟩),
  (12,⟨[(0,false),(1,false),(2,false),(3,false),(4,false),(5,false),(6,false),(8,false),(9,false),(7,true),(10,false),(11,false)],[(11,2047),(10,1023),(7,127),(9,256),(8,0),(6,63),(5,31),(4,15),(3,7),(2,3),(1,1),(0,0)],0,none⟩)]),
 (16,[(1,⟨iJ [13] 16 0,iK 15 [32767,16383,8191,4095,2047,1023,511,231,103,39,7,15,7,3,1,0],0,none⟩),
  (20,⟨[(0,false),(1,false),(2,false),(3,false),(4,false),(5,false),(6,false),(8,false),(7,true),(9,true),(10,true)],[(10,1023),(9,510),(7,126),(8,0),(6,32),(5,0),(4,14),(3,6),(2,2),(1,0),(0,0)],0,none⟩)]),
 (17,[]),
 (18,[]),
 (19,[(1,⟨[(0,false),(1,false),(2,false),(3,false),(4,false),(5,false),(6,false),(7,false),(9,false),(10,false),(11,false),(12,false),(8,true),(13,false),(14,false),(15,false),(16,false),(17,false),(18,false),(19,false),(20,false),(21,false),(22,false),(23,false),(24,false),(25,false),(26,false),(27,true),(28,false),(29,true),(30,false),(31,false)],[(31,2147483647),(30,1073741823),(29,536870911),(28,267452415),(27,133234687),(26,66125823),(25,32571391),(24,15794175),(23,7405567),(22,3211263),(21,1114111),(20,65535),(19,524287),(18,262143),(17,131071),(16,65535),(15,32767),(14,16383),(13,8191),(8,255),(12,3591),(11,1543),(10,519),(9,7),(7,7),(6,63),(5,31),(4,15),(3,7),(2,3),(1,1),(0,0)],0,none⟩)]),
 (20,[]),
 (21,[]),
 (22,[]),
 (23,[]),
 (24,[(14,⟨iJ [11] 30 0,iK 29 [536870911,268435455,134217727,66322431,32767999,15990783,4456447,262143,1310719,262143,524287,262143,131071,65535,32767,16383,8191,4095,2047,1023,511,255,127,63,31,15,7,3,1,0],0,none⟩)]),
 (25,[(7,⟨iJ [6] 12 0,iK 11 [2047,511,255,255,127,63,16,0,7,3,1,0],0,none⟩),
  (9,⟨iJ [12] 14 0,iK 13 [8191,4095,1920,0,384,128,0,63,31,15,7,3,1,0],0,none⟩)]),
 (26,[]),
 (28,[]),
 (27,[]),
 (29,[]),
 (30,[]),
 (79,[]),
 (125,[(7,⟨iJ [13,14] 20 0,iK 19 [524287,131071,65535,65535,32767,16383,8190,3584,1536,512,0,224,96,32,0,14,6,2,0,0],0,none⟩)]),
 (83,[]),
 (46,[]),
 (47,[]),
 (48,[(1,⟨iJ [6] 8 0,iK 7 [127,63,16,0,7,3,1,0],0,none⟩),
  (9,⟨[(0,false),(1,false),(2,false),(3,false),(6,false),(7,false),(8,false),(9,false),(4,true),(5,false),(10,false),(11,false)],[(11,2047),(10,1023),(5,31),(4,15),(9,448),(8,192),(7,64),(6,0),(3,7),(2,3),(1,1),(0,0)],0,none⟩),
  (10,⟨iJ [15,17,18,21] 22 0,iK 21 [2097151,1048575,524287,262142,131040,65504,32512,16128,7936,3840,1792,768,256,0,0,0,0,14,6,2,0,0],0,none⟩),
  (11,⟨iJ [14,17,18] 19 0,iK 18 [262143,131070,65534,32640,16256,8064,3968,1920,896,384,128,0,32,0,8,0,0,0,0],0,none⟩),
  (15,⟨iJ [6,7] 8 0,iK 7 [127,48,16,0,7,3,1,0],0,none⟩),
  (16,⟨iJ [6,7] 13 0,iK 12 [4095,1023,511,511,255,127,48,16,0,7,3,1,0],0,none⟩)]),
 (49,[]),
 (50,[]),
 (52,[]),
 (33,[]),
 (51,[(4,⟨iJ [7,8,12] 13 0,iK 12 [4095,2047,1023,511,254,64,0,30,14,6,2,0,0],0,none⟩)]),
 (54,[(2,⟨iJ [16,17,21] 22 0,iK 21 [2097151,1048575,524287,262143,131070,65472,32704,0,0,0,1024,0,256,0,64,0,30,14,6,2,0,0],0,none⟩)]),
 (55,[]),
 (56,[]),
 (57,[(5,⟨iJ [8] 9 0,iK 8 [255,64,0,16,0,7,3,1,0],0,none⟩)]),
 (62,[(2,⟨iJ [9] 12 0,iK 11 [2047,1020,508,252,124,60,28,12,4,0,1,0],0,none⟩)]),
 (63,[]),
 (44,[]),
 (45,[(1,⟨[(0,false),(1,false),(2,false),(3,false),(4,false),(5,false),(6,false),(7,false),(8,false),(9,false),(10,false),(11,false),(12,false),(13,false),(14,false),(15,false),(16,false),(17,false),(18,false),(20,false),(21,false),(22,false),(23,false),(19,true),(24,false),(25,false),(26,false)],[(26,67108863),(25,33554431),(24,16777215),(19,524287),(23,7372799),(22,3178495),(21,1081343),(20,32767),(18,262143),(17,131071),(16,65535),(15,32767),(14,16383),(13,8191),(12,4095),(11,1919),(10,895),(9,383),(8,127),(7,127),(6,63),(5,31),(4,15),(3,7),(2,3),(1,1),(0,0)],0,none⟩)]),
 (66,[]),
 (67,[]),
 (68,[]),
 (69,[]),
 (70,[(4,⟨iJ [] 28 0,iK 27 [134217727,67108863,33554431,15794175,7405567,2162687,65535,65535,524287,262143,65535,65535,32767,16383,8191,4095,2047,1023,511,255,63,63,31,15,7,3,0,0],0,none⟩)]),
 (71,[(5,⟨iJ [6] 8 0,iK 7 [127,63,24,0,0,3,0,0],0,none⟩)]),
 (72,[(5,⟨iJ [] 10 0,iK 9 [511,15,112,48,16,0,7,3,1,0],0,none⟩)]),
 (73,[(7,⟨iJ [7] 8 0,iK 7 [127,0,16,0,7,3,1,0],0,none⟩)]),
 (74,[]),
 (76,[]),
 (75,[]),
 (80,[]),
 (170,[(13,⟨[(0,false),(1,false),(5,false),(6,false),(2,true),(3,true),(4,false),(7,true),(8,false),(9,false),(10,false),(11,false),(12,false),(13,false),(14,false),(15,false),(16,false),(17,false),(18,false),(19,false),(20,false),(21,false),(22,false)],[(22,4194303),(21,2097151),(20,1048575),(19,524287),(18,262143),(17,131071),(16,65535),(15,32767),(14,15359),(13,7167),(12,3071),(11,1023),(10,1023),(9,511),(8,255),(7,111),(4,15),(3,7),(2,3),(6,32),(5,0),(1,1),(0,0)],0,none⟩)]),
 (171,[]),
 (172,[]),
 (145,[]),
 (100,[(3,⟨iJ [1] 24 0,iK 23 [8388607,4194303,2097151,999423,475135,212991,81919,16383,32767,16383,8191,4095,2047,975,463,207,79,15,31,15,7,3,1,0],0,none⟩),
  (5,⟨iJ [5,6] 8 0,iK 7 [127,63,16,0,7,3,1,0],0,none⟩)]),
 (129,[(14,⟨iJ [15,16,19] 20 0,iK 19 [524287,262143,131071,65534,32736,16352,4096,0,2016,960,448,0,64,0,0,14,6,2,0,0],0,none⟩)]),
 (130,[(12,⟨iJ [6] 7 0,iK 6 [63,16,0,7,3,1,0],0,none⟩),
  (14,⟨iJ [8] 9 0,iK 8 [255,64,0,16,0,7,3,1,0],0,none⟩)]),
 (81,[]),
 (82,[]),
 (84,[]),
 (85,[]),
 (86,[]),
 (87,[]),
 (88,[]),
 (89,[]),
 (90,[(1,⟨iJ [16,17,21,22] 24 0,iK 23 [8388607,3145727,0,524287,524287,262143,131071,65024,32256,15872,7680,3584,1536,512,0,128,0,63,31,15,7,3,1,0],0,some (.two [0,1,2,3,4,5,6,7,8,9,10,11,12,13,14,15] 16 (.two [] 17 (.one [(18,false),(19,false),(20,false),(21,true),(22,true),(23,false)]) 21 (.one [(17,true),(18,false),(19,false),(20,false),(22,true),(23,false)])) 21 (.one [(16,true),(17,true),(18,false),(19,false),(20,false),(22,true),(23,false)]))⟩),
  (4,⟨iJ [12,14,15,18] 19 0,iK 18 [262143,131071,65535,32766,16352,8160,4032,1024,0,448,192,64,0,0,14,6,2,0,0],0,none⟩)]),
 (91,[]),
 (95,[]),
 (96,[]),
 (97,[]),
 (98,[(8,⟨iJ [11] 12 0,iK 11 [2047,896,0,128,0,63,31,15,7,3,1,0],0,none⟩)]),
 (99,[]),
 (118,[]),
 (117,[]),
 (119,[(5,⟨iJ [6] 8 0,iK 7 [127,63,24,0,0,3,0,0],0,none⟩)]),
 (78,[]),
 (120,[]),
 (122,[(10,⟨[(0,false),(1,false),(2,false),(3,false),(4,false),(7,false),(8,false),(9,false),(5,true),(6,true),(10,true),(11,true),(12,false)],[(12,4095),(11,2047),(10,896),(6,63),(5,30),(9,0),(8,128),(7,0),(4,8),(3,0),(2,2),(1,0),(0,0)],0,some (.two [0,1,2,3,4,7,8,9] 5 (.two [] 6 (.one [(10,true),(11,true),(12,false)]) 10 (.one [(6,true),(11,true),(12,false)])) 10 (.one [(5,true),(6,true),(11,true),(12,false)]))⟩)]),
 (121,[(2,⟨iJ [8,9] 10 0,iK 9 [511,240,112,48,16,0,7,3,1,0],0,none⟩)]),
 (123,[(3,⟨iJ [] 11 0,iK 10 [1023,480,224,96,32,0,15,7,3,1,0],0,none⟩)]),
 (124,[]),
 (173,[]),
 (201,[]),
 (202,[]),
 (203,[]),
 (199,[]),
 (177,[]),
 (128,[]),
 (146,[(5,⟨iJ [12] 14 0,iK 13 [8191,4095,0,960,448,192,64,0,30,14,6,2,0,0],0,none⟩)]),
 (175,[(3,⟨[(0,false),(1,false),(2,false),(3,false),(4,false),(5,false),(6,false),(7,false),(8,false),(9,false),(10,false),(11,false),(12,false),(14,false),(15,false),(13,true),(16,false),(17,false),(18,false),(19,false)],[(19,524287),(18,262143),(17,131071),(16,63487),(13,6143),(15,18431),(14,2047),(12,2047),(11,2047),(10,1023),(9,511),(8,255),(7,127),(6,63),(5,31),(4,15),(3,7),(2,3),(1,1),(0,0)],0,none⟩)]),
 (176,[(10,⟨iJ [5,7,8] 10 0,iK 9 [511,255,126,62,24,8,0,2,0,0],0,none⟩)]),
 (140,[(3,⟨iJ [] 15 0,iK 14 [16383,8191,4095,2047,1023,496,240,112,48,16,0,7,3,1,0],0,none⟩)]),
 (178,[]),
 (179,[]),
 (180,[]),
 (126,[]),
 (127,[]),
 (132,[]),
 (131,[]),
 (134,[(13,⟨[(0,false),(1,false),(2,false),(3,false),(4,false),(7,false),(5,true),(6,true),(8,true),(9,true),(10,false),(11,false),(12,false),(13,false),(14,false)],[(14,16383),(13,4095),(12,2047),(11,2047),(10,1023),(9,511),(8,240),(6,48),(5,16),(7,0),(4,0),(3,7),(2,3),(1,1),(0,0)],0,none⟩),
  (16,⟨iJ [10,11,14] 15 0,iK 14 [16383,8191,4095,2046,992,480,0,96,0,0,14,6,2,0,0],0,none⟩),
  (18,⟨iJ [6,9] 10 0,iK 9 [511,255,127,62,0,14,6,2,0,0],0,none⟩)]),
 (135,[]),
 (136,[]),
 (137,[(4,⟨iJ [10,11] 12 0,iK 11 [2047,768,256,0,112,48,16,0,7,3,1,0],0,none⟩)]),
 (138,[]),
 (103,[]),
 (112,[]),
 (142,[]),
 (143,[]),
 (107,[]),
 (111,[]),
 (144,[]),
 (166,[]),
 (165,[]),
 (162,[(10,⟨iJ [] 13 0,iK 12 [4095,2047,1023,496,240,112,48,16,0,7,3,1,0],0,none⟩),
  (13,⟨iJ [6] 7 0,iK 6 [63,30,14,6,2,0,0],0,none⟩),
  (15,⟨[(0,false),(1,false),(2,false),(3,false),(4,false),(5,false),(7,false),(6,true),(8,true),(9,false),(10,false),(11,true)],[(11,2047),(10,1023),(9,511),(8,254),(6,62),(7,0),(5,0),(4,14),(3,6),(2,2),(1,0),(0,0)],0,none⟩),
  (19,⟨[(0,false),(1,false),(3,false),(2,true),(4,false),(5,false),(6,false),(8,false),(9,false),(10,false),(11,false),(12,false),(7,true),(13,false),(14,false)],[(14,16383),(13,8191),(7,127),(12,3903),(11,1855),(10,831),(9,319),(8,63),(6,63),(5,31),(4,15),(2,3),(3,0),(1,1),(0,0)],0,none⟩),
  (24,⟨iJ [10,12,13,16] 17 0,iK 16 [65535,32767,16383,8190,4064,2016,512,0,224,96,32,0,14,6,2,0,0],0,none⟩),
  (28,⟨iJ [9] 12 0,iK 11 [2047,1023,480,224,96,32,0,15,7,3,1,0],0,none⟩)]),
 (164,[]),
 (163,[]),
 (167,[]),
 (168,[(2,⟨[(0,false),(3,false),(4,false),(5,false),(6,false),(7,false),(8,false),(1,true),(2,true),(9,false),(10,false),(11,false)],[(11,2047),(10,1023),(9,511),(2,3),(1,1),(8,248),(7,120),(6,56),(5,24),(4,8),(3,0),(0,0)],0,none⟩)]),
 (169,[(6,⟨iJ [20,23] 24 0,iK 23 [8388607,4194303,2097151,1048063,523775,261631,130048,64512,31744,0,7168,3072,1024,0,0,224,96,32,0,0,7,3,1,0],0,none⟩)]),
 (174,[(5,⟨iJ [4,5,7] 8 0,iK 7 [127,60,28,12,4,0,1,0],0,none⟩),
  (6,⟨iJ [11] 13 0,iK 12 [4095,2047,0,496,0,112,48,16,0,7,3,1,0],0,none⟩)]),
 (205,[(6,⟨iJ [13] 19 0,iK 18 [262143,65535,32767,32767,16383,8191,4080,0,1008,256,0,112,48,16,0,7,3,1,0],0,none⟩),
  (9,⟨iJ [7,13] 14 0,iK 13 [8191,4095,2047,1022,480,224,96,32,0,14,6,2,0,0],0,none⟩),
  (14,⟨iJ [] 19 0,iK 18 [262143,131071,63,32767,14399,6207,2111,63,1023,511,255,127,63,31,15,7,3,1,0],0,none⟩)]),
 (206,[]),
 (207,[(1,⟨iJ [] 12 0,iK 11 [2047,1023,511,255,112,48,16,0,7,3,1,0],0,none⟩)]),
 (209,[(1,⟨iJ [] 12 0,iK 11 [2047,1023,496,0,112,48,16,0,7,3,1,0],0,none⟩)]),
 (208,[]),
 (210,[]),
 (133,[]),
 (183,[(1,⟨iJ [6] 9 0,iK 8 [255,127,60,28,12,4,0,1,0],0,none⟩)]),
 (182,[]),
 (184,[]),
 (185,[]),
 (151,[]),
 (152,[]),
 (157,[(1,⟨[(0,false),(1,false),(2,false),(3,false),(4,false),(6,false),(7,false),(8,false),(9,false),(5,true),(10,false),(11,false)],[(11,2047),(10,1023),(5,31),(9,448),(8,192),(7,64),(6,0),(4,0),(3,7),(2,3),(1,1),(0,0)],0,none⟩)]),
 (104,[]),
 (156,[]),
 (200,[]),
 (195,[(4,⟨iJ [15] 16 0,iK 15 [32767,16383,8191,4094,2046,1022,510,254,126,32,0,14,6,2,0,0],0,none⟩),
  (8,⟨iJ [6,9] 10 0,iK 9 [511,255,127,62,0,14,6,2,0,0],0,none⟩),
  (9,⟨iJ [6,7,10] 11 0,iK 10 [1023,511,255,126,32,0,14,6,2,0,0],0,none⟩)]),
 (196,[]),
 (197,[]),
 (198,[(1,⟨iJ [] 11 0,iK 10 [1023,511,224,96,32,0,15,7,3,1,0],0,none⟩),
  (2,⟨iJ [19,20] 22 0,iK 21 [2097151,1048575,516096,229376,98304,32768,0,0,0,4080,0,1008,256,0,112,48,16,0,7,3,1,0],0,none⟩)]),
 (204,[]),
 (230,[]),
 (231,[(3,⟨[(0,false),(1,false),(2,false),(3,false),(6,false),(7,false),(4,true),(5,false),(8,true),(9,false),(10,false),(11,false),(12,true),(13,false),(14,false),(15,true)],[(15,32767),(14,16383),(13,8191),(12,3581),(11,1533),(10,509),(9,476),(8,220),(5,28),(4,12),(7,64),(6,0),(3,4),(2,0),(1,0),(0,0)],0,none⟩),
  (6,⟨[(0,false),(1,false),(5,false),(6,false),(2,true),(3,true),(4,false),(7,true),(8,false),(9,false),(10,false),(11,false),(14,false),(15,false),(16,false),(17,false),(12,true),(13,false),(18,false),(19,false),(20,false),(21,false),(22,false),(23,false),(24,false),(25,false),(26,false),(27,false),(28,false),(29,false),(30,false),(31,false),(32,false),(33,false),(34,false),(35,false),(36,false),(37,false),(38,false),(39,false),(40,false),(41,false),(42,false),(43,false),(44,false),(45,false),(46,false),(47,false),(48,false),(49,false),(50,false),(51,false),(52,true),(53,false),(54,false)],[(54,18014398509481983),(53,9007199254740991),(52,2322168557862911),(51,70368744177663),(50,1125899906842623),(49,562949953421311),(48,281474976710655),(47,140737488355327),(46,70368744177663),(45,35184372088831),(44,17592186044415),(43,8796093022207),(42,2336462209023),(41,137438953471),(40,1099511627775),(39,549755813887),(38,274877906943),(37,137438953471),(36,68719476735),(35,34359738367),(34,17179869183),(33,536870911),(32,4294967295),(31,2147483647),(30,1073741823),(29,536870911),(28,268435455),(27,134217727),(26,67108863),(25,31457279),(24,14680063),(23,6291455),(22,2097151),(21,2097151),(20,1048575),(19,524287),(18,262143),(13,8191),(12,4095),(17,115711),(16,50175),(15,17407),(14,1023),(11,2047),(10,1023),(9,511),(8,255),(7,111),(4,15),(3,7),(2,3),(6,32),(5,0),(1,1),(0,0)],0,none⟩),
  (9,⟨iJ [10,13] 14 0,iK 13 [8191,4095,2047,1022,480,192,64,0,0,14,6,2,0,0],0,none⟩)]),
 (232,[(5,⟨iJ [17,19,20,23] 24 0,iK 23 [8388607,4194303,2097151,1048574,524256,262112,131008,65472,28672,0,4096,0,1024,0,448,192,64,0,0,14,6,2,0,0],0,none⟩)]),
 (189,[]),
 (233,[(17,⟨iJ [13] 17 0,iK 16 [65535,32767,16383,8191,3591,1543,7,7,247,119,39,7,7,7,3,1,0],0,none⟩)]),
 (234,[]),
 (235,[]),
 (236,[]),
 (181,[]),
 (211,[]),
 (212,[]),
 (213,[]),
 (190,[]),
 (191,[]),
 (192,[]),
 (153,[]),
 (228,[(1,⟨iJ [] 15 0,iK 14 [16383,8191,4080,1792,768,256,0,112,48,16,0,7,3,1,0],0,none⟩)]),
 (229,[(2,⟨iJ [7] 8 0,iK 7 [127,60,28,12,4,0,1,0],0,none⟩),
  (7,⟨iJ [7] 8 0,iK 7 [127,60,28,12,4,0,1,0],0,none⟩),
  (9,⟨[(0,false),(1,false),(2,false),(3,false),(4,false),(5,false),(6,false),(8,false),(9,false),(10,false),(11,false),(12,false),(7,true),(13,false),(14,false),(15,true),(16,false),(17,false),(18,true)],[(18,262143),(17,131071),(16,65534),(15,32766),(14,16380),(13,8128),(7,64),(12,3840),(11,1792),(10,768),(9,256),(8,0),(6,0),(5,28),(4,12),(3,4),(2,0),(1,0),(0,0)],0,none⟩),
  (10,⟨iJ [4,5,7] 8 0,iK 7 [127,60,28,12,4,0,1,0],0,none⟩)]),
 (224,[]),
 (225,[]),
 (254,[(4,⟨iJ [14] 17 0,iK 16 [65535,32767,16383,7695,3599,1039,15,15,239,111,15,15,15,7,3,0,0],0,none⟩),
  (6,⟨iJ [15,17] 18 0,iK 17 [131071,65535,32739,16355,7168,3072,0,0,480,224,64,0,0,8,0,0,0,0],0,none⟩)]),
 (255,[(10,⟨iJ [17,19] 20 0,iK 19 [524287,262143,131011,65475,28672,12288,0,0,1984,960,384,0,0,0,24,0,0,0,0,0],0,none⟩)]),
 (256,[(10,⟨iJ [17,19] 20 0,iK 19 [524287,262143,131011,65475,28672,12288,0,0,1984,960,384,0,0,0,24,0,0,0,0,0],0,none⟩)]),
 (257,[]),
 (258,[(3,⟨iJ [13,15] 16 0,iK 15 [32767,16383,8179,4083,1792,768,0,0,112,48,0,0,0,0,0,0],0,none⟩)]),
 (259,[(5,⟨iJ [14] 18 0,iK 17 [131071,65535,32767,16383,7695,3599,1039,15,15,239,111,15,15,15,7,3,0,0],0,none⟩),
  (11,⟨iJ [15,17] 18 0,iK 17 [131071,65535,32739,16355,7168,3072,0,0,480,224,64,0,0,8,0,0,0,0],0,none⟩),
  (16,⟨iJ [10] 13 0,iK 12 [4095,2047,1023,480,224,64,0,0,14,6,0,0,0],0,none⟩),
  (17,⟨iJ [15,17] 18 0,iK 17 [131071,65535,32739,16355,7168,3072,0,0,480,224,64,0,0,8,0,0,0,0],0,none⟩),
  (22,⟨iJ [10] 13 0,iK 12 [4095,2047,1023,480,224,64,0,0,14,6,0,0,0],0,none⟩),
  (23,⟨iJ [15,17] 18 0,iK 17 [131071,65535,32739,16355,7168,3072,0,0,480,224,64,0,0,8,0,0,0,0],0,none⟩)]),
 (260,[(1,⟨iJ [13,15] 16 0,iK 15 [32767,16383,8179,4083,1792,768,0,0,112,48,0,0,0,0,0,0],0,none⟩),
  (3,⟨iJ [13] 17 0,iK 16 [65535,32767,16383,8191,3599,1551,15,15,239,111,15,15,15,7,3,0,0],0,none⟩),
  (5,⟨iJ [13] 16 0,iK 15 [32767,16383,8191,3599,1551,15,15,239,111,15,15,15,7,3,0,0],0,none⟩),
  (8,⟨iJ [13,15] 16 0,iK 15 [32767,16383,8179,4083,1792,768,0,0,112,48,0,0,0,0,0,0],0,none⟩)]),
 (261,[(1,⟨iJ [13,15] 16 0,iK 15 [32767,16383,8179,4083,1792,768,0,0,112,48,0,0,0,0,0,0],0,none⟩),
  (3,⟨iJ [13] 16 0,iK 15 [32767,16383,8191,3599,1551,15,15,239,111,15,15,15,7,3,0,0],0,none⟩),
  (5,⟨iJ [13] 17 0,iK 16 [65535,32767,16383,8191,3599,1551,15,15,239,111,15,15,15,7,3,0,0],0,none⟩),
  (8,⟨iJ [13,15] 16 0,iK 15 [32767,16383,8179,4083,1792,768,0,0,112,48,0,0,0,0,0,0],0,none⟩),
  (10,⟨iJ [13,15] 16 0,iK 15 [32767,16383,8179,4083,1792,768,0,0,112,48,0,0,0,0,0,0],0,none⟩),
  (13,⟨iJ [13] 16 0,iK 15 [32767,16383,8191,3599,1551,15,15,239,111,15,15,15,7,3,0,0],0,none⟩),
  (15,⟨iJ [13] 17 0,iK 16 [65535,32767,16383,8191,3599,1551,15,15,239,111,15,15,15,7,3,0,0],0,none⟩),
  (18,⟨iJ [13,15] 16 0,iK 15 [32767,16383,8179,4083,1792,768,0,0,112,48,0,0,0,0,0,0],0,none⟩),
  (21,⟨iJ [13,15] 16 0,iK 15 [32767,16383,8179,4083,1792,768,0,0,112,48,0,0,0,0,0,0],0,none⟩)]),
 (237,[]),
 (238,[]),
 (193,[]),
 (194,[]),
 (275,[(3,⟨iJ [19] 22 0,iK 21 [2097151,1048575,524287,258079,127007,57375,24607,31,31,31,2015,991,415,31,31,31,31,15,7,0,1,0],0,none⟩),
  (5,⟨iJ [13] 16 0,iK 15 [32767,16383,8191,3968,1920,768,0,0,0,62,30,12,0,0,0,0],0,none⟩),
  (6,⟨iJ [21,23] 24 0,iK 23 [8388607,4194303,2096911,1048335,507904,245760,98304,0,0,0,7936,3840,1536,0,0,0,96,0,0,0,6,0,0,0],0,none⟩)]),
 (240,[]),
 (241,[(1,⟨iJ [9] 10 0,iK 9 [511,255,127,56,24,8,0,3,1,0],0,none⟩),
  (2,⟨iJ [9] 10 0,iK 9 [511,255,127,56,24,8,0,3,1,0],0,none⟩),
  (3,⟨iJ [9] 10 0,iK 9 [511,255,127,56,24,8,0,3,1,0],0,none⟩)]),
 (276,[]),
 (277,[]),
 (227,[]),
 (283,[(1,⟨iJ [9] 11 0,iK 10 [1023,511,224,96,0,0,14,6,0,0,0],0,none⟩)])]
end Tab
def Y(P:Program):Gx:=⟨⟨⟨P,Tab.T,false,false⟩,BL P Tab.ids,Tab.I⟩,Tab.R⟩
theorem okT:Tab.T.map (fun p=>CR true Tryz.prog p.1)=Tab.T.map fun p=>some p.2:=by kernel_rfl
theorem okB:(BL Tryz.prog Tab.ids).all (Zz Tab.R)=true:=by kernel_rfl
theorem mixed:Tryz.prog.follows .mixedOrders=true:=by kernel_rfl
theorem fF:(Y Tryz.prog).Ok:=HH (dp:=true) okT mixed (vA _ _) okB
def Yf(P:Program):Gx:=⟨⟨⟨P,Tab.T,true,false⟩,BL P Tab.ids,Tab.I⟩,Tab.R⟩
theorem aas:(Yf Tryz.prog).Ok:=HH (dp:=true) okT mixed (vA _ _) okB
end Go.Proofs.YtfjgoonelcaggaaGreat
namespace Go.Sx
section
end
end Go.Sx
