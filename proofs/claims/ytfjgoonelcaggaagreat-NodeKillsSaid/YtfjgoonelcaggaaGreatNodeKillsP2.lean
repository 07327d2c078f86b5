/-
  
-/
import Derived.Test.YtfjgoonelcaggaaGreatNodeKillsP1
import Derived.MapKept
import Derived.Laws.IdiomRangeMap
import Derived.Deep.Quiet
import Derived.Test.YtfjgoonelcaggaaGreatProg
set_option maxRecDepth 100000
set_option maxHeartbeats 4000000
set_option linter.unusedVariables false
set_option linter.unusedSimpArgs false
namespace Go.Sx
section
def YM(b:Nat)(o:Obj):Place->World->Prop:=fun p w=>(∀x,p.fp x↔x=b)/\w.heap[b]? = some o
def ZW(o:Obj):Place->World->Prop:=fun p w=>(∀x,p.fp x↔x=p.blk)/\p.off=0/\w.heap[p.blk]? = some o
structure fI where
 key:Int
 val:Value
 born:Nat
 deriving Inhabited
def fI.enc(k:IntKind)(e:fI):MapEntry:=⟨.int k e.key,e.val,e.born⟩
def kT(k:IntKind)(l:List fI):Array MapEntry:=(l.map (fI.enc k)).toArray
def mZ(b:Nat)(k:IntKind)(l:List fI)(dG:Nat):Place->World->Prop:=YM b (.map (kT k l) dG)
def mh(b:Nat)(seen:List Nat)(dG:Nat):Place->World->Prop:=ZW (.mapIter (some b) dG seen.toArray dG)
def getM(l:List fI)(n:Int):Option Value:=(l.find? fun e=>e.key == n).map (·.val)
def BP(n:Int)(u:Value)(dG:Nat):List fI->List fI
 |[]=>[⟨n,u,dG⟩]
 |e::r=>if e.key=n then { e with val:=u }::r else e::BP n u dG r
def BQ(l:List fI)(n:Int):Bool:=l.any fun e=>e.key == n
def BR(n:Int):List fI->List fI
 |[]=>[]
 |e::r=>if e.key=n then r else e::BR n r
structure VB(k:IntKind)(l:List fI)(dG:Nat):Prop where
 val:∀e∈l,e.val.oneCell'=true/\e.born<dG/\bL k e.key
 nodup:(l.map (·.born)).Nodup
def tP(n:Int):List fI->Nat->Option (Nat×Value)
 |[],_=>none
 |e::r,i=>if e.key=n then some (i,e.val)else tP n r (i+1)
theorem qD(kd:IntKind)(n:Int):∀(l:List fI) (i:Nat),Instr.findNow (.int kd) (.int kd n) (l.map (fI.enc kd)) i=some (tP n l i)
 |[],_=>rfl
 |e::r,i=>by
  simp only[List.map_cons,Instr.findNow,fI.enc,Instr.sameNow,if_true,tP];by_cases h:e.key=n
  ·rw[if_pos h];simp[h]
  ·have:(n == e.key)=false:=by simp;exact fun e2=>h e2.symm
   rw[if_neg h,this];exact qD kd n r (i+1)
theorem Jd(n:Int):∀(l:List fI) (i:Nat),(tP n l i).map Prod.snd=getM l n
 |[],_=>rfl
 |e::r,i=>by
  unfold tP getM;by_cases h:e.key=n
  ·rw[if_pos h,List.find?_cons,show(e.key == n)=true by simp[h]];rfl
  ·rw[if_neg h,List.find?_cons,show(e.key == n)=false by simp[h]];exact Jd n r (i+1)
theorem Je(n:Int):∀(l:List fI) (i:Nat),(tP n l i).isSome=BQ l n
 |[],_=>rfl
 |e::r,i=>by
  unfold tP BQ;by_cases h:e.key=n
  ·rw[if_pos h,List.any_cons,show(e.key == n)=true by simp[h]];rfl
  ·rw[if_neg h,List.any_cons,show(e.key == n)=false by simp[h],Bool.false_or];exact Je n r (i+1)
theorem BS(n:Int)(u:Value)(dG:Nat):∀(l:List fI) (i q:Nat) (v:Value),tP n l i=some (q,v)->∃j,q=i+j/\j<l.length/\BP n u dG l=l.modify j (fun e=>{ e with val:=u })/\BR n l=l.eraseIdx j/\∃e,l[j]? = some e/\e.key=n
 |[],_,_,_,h=>by simp[tP]at h
 |e::r,i,q,v,h=>by
  unfold tP at h;unfold BP BR;by_cases hk:e.key=n
  ·rw[if_pos hk]at h;obtain⟨rfl,rfl⟩:=Prod.mk.inj (Option.some.inj h);exact⟨0,rfl,by simp,by rw[if_pos hk];rfl,by rw[if_pos hk];rfl,e,rfl,hk⟩
  ·rw[if_neg hk]at h;obtain⟨j,a1,a2,a3,a4,e',a5,a6⟩:=BS n u dG r (i+1) q v h;exact⟨j+1,by omega,by simp;omega,by rw[if_neg hk,a3];rfl,by rw[if_neg hk,a4];rfl,e',by simpa using a5,a6⟩
theorem FU(n:Int)(u:Value)(dG:Nat):∀(l:List fI) (i:Nat),tP n l i=none->BP n u dG l=l++[⟨n,u,dG⟩]/\BR n l=l
 |[],_,_=>⟨rfl,rfl⟩
 |e::r,i,h=>by
  unfold tP at h;unfold BP BR;by_cases hk:e.key=n
  ·rw[if_pos hk]at h;cases h
  ·rw[if_neg hk]at h;obtain⟨a1,a2⟩:=FU n u dG r (i+1) h;exact⟨by rw[if_neg hk,a1];rfl,by rw[if_neg hk,a2]⟩
open Go.MapKept (IsKey run_checkKey run_findKey)
def DZ(o:Option Value):Value:=o.getD (.pointer none)
variable {P:Program}
theorem vv(kd:IntKind)(n:Int):IsKey (.int kd) (.int kd n):=by simp[IsKey]
theorem RL{t kt et:TypeId}{kd:IntKind}{n:Int}{w:World}{b dG:Nat}{l:List fI}(h:P.underlying t=some (.map kt et))(hk:P.underlying kt=some (.int kd))(hb:w.heap[b]? = some (.map (kT kd l) dG))
 (hz:∀w,(zeroValue et).run P w = .ok (.pointer none) w):(Instr.lookup t (.map (some b)) (.int kd n) false).run P w = .ok (DZ (getM l n)) w:=by
 have e:=qD kd n l 0;have e2:=Jd n l 0;have e1:(Instr.findKey kt (.int kd n) (kT kd l).toList).run P w = .ok (tP n l 0) w:=run_findKey hk e;simp only[Instr.lookup,Sem.run_bind,run_underlying h,Result.andThen,Go.MapKept.run_getObj_map hb,run_checkKey hk (vv kd n),Sem.run_pure];rw[e1,<- e2];cases tP n l 0 with
 |none=>simp[DZ,hz]
 |some q=>simp[DZ]
theorem FV{t kt et:TypeId}{kd:IntKind}{n:Int}{w:World}(h:P.underlying t=some (.map kt et))(hk:P.underlying kt=some (.int kd))
 (hz:∀w,(zeroValue et).run P w = .ok (.pointer none) w):(Instr.lookup t (.map none) (.int kd n) false).run P w = .ok (.pointer none) w:=by
 have e1:(Instr.findKey kt (.int kd n) []).run P w = .ok none w:=run_findKey hk rfl;simp[Instr.lookup,run_underlying h,run_checkKey hk (vv kd n),e1,hz]
theorem O6(k:IntKind)(l:List fI):(kT k l).size=l.length:=by simp[kT]
theorem O7{t kt et:TypeId}{kd:IntKind}{n:Int}{u:Value}{w:World}{b dG:Nat}{l:List fI}(h:P.underlying t=some (.map kt et))(hk:P.underlying kt=some (.int kd))(hb:w.heap[b]? = some (.map (kT kd l) dG)) :
 (Instr.mapUpdate t (.map (some b)) (.int kd n) u).run P w = .ok () { w with heap:=w.heap.setIfInBounds b (.map (kT kd (BP n u dG l)) (if BQ l n then dG else dG+1)) }:=by
 have e:=qD kd n l 0;have e1:(Instr.findKey kt (.int kd n) (kT kd l).toList).run P w = .ok (tP n l 0) w:=run_findKey hk e;have e2:=Je n l 0;simp only[Instr.mapUpdate,Sem.run_bind,run_underlying h,Result.andThen,Go.MapKept.run_getObj_map hb,run_checkKey hk (vv kd n)];rw[e1,<- e2];cases hp:tP n l 0 with
 |none =>
  obtain⟨a1,_⟩:=FU n u dG l 0 hp;simp only[Option.isSome_none,Bool.false_eq_true,if_false];rw[Go.MapKept.run_setObj_map _ hb,a1];congr 4;simp[kT,fI.enc]
 |some q =>
  obtain⟨i,v⟩:=q;obtain⟨j,a1,a2,a3,_,e',a5,a6⟩:=BS n u dG l 0 i v hp;have a1:i=j:=by omega
  subst a1;simp only[Option.isSome_some,if_true];have hkey:(((kT kd l)[i]?).map (·.key)).getD (.int kd n) = .int kd n:=by
   simp[kT,a5,fI.enc,a6]
  rw[hkey];have hst:(Instr.keyThatStays (.int kd n) (.int kd n)).run P w = .ok (.int kd n) w:=by
   have hs:Instr.sameBits 10000 (.int kd n) (.int kd n)=true:=by simp[Instr.sameBits]
   simp[Instr.keyThatStays,hs]
  simp only[Sem.run_bind,hst,Result.andThen];rw[Go.MapKept.run_setObj_map _ hb,a3];congr 4;refine Array.ext_getElem? fun q=>?_;simp only[kT,Array.getElem?_modify,List.getElem?_toArray,List.getElem?_map,List.getElem?_modify];by_cases hq:i=q
  ·subst hq;simp only[if_true,a5,Option.map_some,fI.enc,a6];show _=some _;rw[<- a6];rfl
  ·simp only[if_neg hq];cases l[q]?<;>rfl
theorem vZ{α β:Type}(f:α->β):∀(l:List α) (i:Nat),(l.map f).eraseIdx i=(l.eraseIdx i).map f
 |[],_=>rfl
 |_::_,0=>rfl
 |a::r,i+1=>by simp[List.eraseIdx_cons_succ,vZ f r i]
theorem K9{t kt et:TypeId}{rt:TypeId}{kd:IntKind}{n:Int}{w:World}{b dG:Nat}{l:List fI}{kt2:TypeId}(h:P.underlying t=some (.map kt et))(hk:P.underlying kt=some (.int kd))(hb:w.heap[b]? = some (.map (kT kd l) dG)) :
 (Builtin.delete_ #[t,kt2] rt #[.map (some b),.int kd n]).run P w = .ok (.tuple #[]) { w with heap:=w.heap.setIfInBounds b (.map (kT kd (BR n l)) dG) }:=by
 have e:=qD kd n l 0;have e1:(Instr.findKey kt (.int kd n) (kT kd l).toList).run P w = .ok (tP n l 0) w:=run_findKey hk e;simp only[Builtin.delete_,Sem.run_bind,run_underlying h,Result.andThen,Go.MapKept.run_getObj_map hb,run_checkKey hk (vv kd n),List.getElem?_toArray,List.getElem?_cons_zero,List.getElem?_cons_succ];rw[e1];cases hp:tP n l 0 with
 |none =>
  obtain⟨_,a1⟩:=FU n (.pointer none) dG l 0 hp;simp only[Sem.run_bind,Go.MapKept.run_setObj_map _ hb,Result.andThen,Sem.run_pure,a1]
 |some q =>
  obtain⟨i,v⟩:=q;obtain⟨j,a1,a2,_,a3,_⟩:=BS n (.pointer none) dG l 0 i v hp;have a1:i=j:=by omega
  subst a1;have e3:(kT kd l).eraseIdxIfInBounds i=kT kd (l.eraseIdx i):=by
   unfold Array.eraseIdxIfInBounds;rw[dif_pos (by rw[O6];exact a2)];apply Array.toList_inj.1;simp[kT,vZ]
  simp only[Sem.run_bind,Go.MapKept.run_setObj_map _ hb,Result.andThen,Sem.run_pure,a3,e3]
theorem run_next_end{ty:TypeId}{w:World}{b r dG:Nat}{kd:IntKind}{l:List fI}{seen:List Nat}(hb:w.heap[b]? = some (.map (kT kd l) dG))(hr:w.heap[r]? = some (.mapIter (some b) dG seen.toArray dG))(ho:VB kd l dG) :
 ((∀e∈l,e.born∈seen)/\(Instr.next (.pointer (some ⟨r,0,none⟩)) false ty).run P w = .ok (.tuple #[.bool false]) w) \/
 ∃e∈l,e.born∉seen/\∃w1:World,(w1.Alike w/\w1.tape=w.tape)/\(Instr.next (.pointer (some ⟨r,0,none⟩)) false ty).run P w = .ok (.tuple #[.bool true,.int kd e.key,e.val]) { w1 with heap:=w1.heap.setIfInBounds r (.mapIter (some b) dG (seen++[e.born]).toArray dG) }:=by
 have hg:(getObj r).run P w = .ok (.mapIter (some b) dG seen.toArray dG) w:=by simp[getObj,Sem.run,hr]
 have hold:∀x∈(kT kd l).toList,x.born<dG:=fun x hx=>by
  simp only[kT,List.mem_map]at hx;obtain⟨e,he,rfl⟩:=hx;exact(ho.val e he).2.1
 simp only[Instr.next,Sem.run_bind,hg,Go.MapKept.run_getObj_map hb,Result.andThen,next_test_false seen.toArray (kT kd l) dG dG hold (Nat.le_refl _),Bool.false_eq_true,if_false];have hL:∀x∈Array.filter (fun e=>!seen.toArray.contains e.born) (kT kd l),∃e∈l,e.born∉seen/\x=e.enc kd:=fun x hx=>by
  rw[Array.mem_filter]at hx;obtain⟨h1,h2⟩:=hx;simp only[kT,List.mem_toArray,List.mem_map]at h1;obtain⟨e,he,rfl⟩:=h1;exact⟨e,he,by simpa[fI.enc]using h2,rfl⟩
 have hL0:Array.filter (fun e=>!seen.toArray.contains e.born) (kT kd l) = #[]->∀e∈l,e.born∈seen:=fun h e he=>by
  rw[Array.filter_eq_empty_iff]at h;have:=h (e.enc kd) (by simp only[kT,List.mem_toArray,List.mem_map];exact⟨e,he,rfl⟩);simpa[fI.enc]using this
 generalize Array.filter (fun e=>!seen.toArray.contains e.born) (kT kd l)=L at hL hL0 ⊢;have hmem:∀x∈L,x.born<dG:=fun x hx=>by
  obtain⟨e,he,_,rfl⟩:=hL x hx;exact(ho.val e he).2.1
 have e1:L.filter (fun x=>decide (x.born<dG))=L:=Array.filter_eq_self.2 (fun x hx=>by simpa using hmem x hx);have e2:L.filter (fun x=>decide (x.born ≥ dG)) = #[]:=by
  rw[Array.filter_eq_empty_iff];intro x hx;have:=hmem x hx;simp;omega
 simp only[e1,e2,Array.append_empty];by_cases h0:L.size=0
 ·left;have:L = #[]:=Array.eq_empty_of_size_eq_zero h0;refine⟨hL0 this,?_⟩;subst this;simp[choose,Sem.run,Question.forced]
 ·right;have hne:L.isEmpty=false:=by simp[Array.isEmpty,h0]
  simp only[hne,Bool.false_eq_true,if_false,Array.empty_append,Array.size_map];have hch:∃(j:Nat) (w1:World),j<L.size/\(w1.Alike w/\w1.tape=w.tape)/\(choose (Question.mapNext L.size)).run P w = .ok j w1:=by
   by_cases hf:L.size<=1
   ·exact⟨0,w,by omega,⟨⟨rfl,rfl,rfl⟩,rfl⟩,by simp[choose,Sem.run,Question.forced,hf]⟩
   ·exact⟨_,w.drew,Nat.mod_lt _ (by omega),⟨⟨rfl,rfl,rfl⟩,rfl⟩,by
     simp only[choose,Sem.run,Question.forced,decide_eq_true_eq,hf,if_false,Question.cut];rfl⟩
  obtain⟨j,w1,hj,hal,hrun⟩:=hch;obtain⟨e,he,hns,hx⟩:=hL L[j] (Array.getElem_mem hj);refine⟨e,he,hns,w1,hal,?_⟩;have hr1:w1.heap[r]? = some (.mapIter (some b) dG seen.toArray dG):=by rw[hal.1.1];exact hr
  have hset:∀o':Obj,(setObj r o').run P w1 = .ok () { w1 with heap:=w1.heap.setIfInBounds r o' }:=fun o'=>by
   simp[setObj,Sem.run,hr1]
  simp only[hrun,Array.getElem?_map,Array.getElem?_eq_getElem hj,Option.map_some,Sem.run_bind,hset,Result.andThen,Sem.run_pure,hx,fI.enc];congr 4;simp
theorem O8{w:World}{b r dG:Nat}{kd:IntKind}{l:List fI}{seen:List Nat}{e:fI}(hb:w.heap[b]? = some (.map (kT kd l) dG))(hr:w.heap[r]? = some (.mapIter (some b) dG (seen++[e.born]).toArray dG))(ho:VB kd l dG)(he:e∈l) :
 (Instr.entry (.pointer (some ⟨r,0,none⟩))).run P w = .ok (.tuple #[.int kd e.key,e.val]) w:=by
 have hg:(getObj r).run P w = .ok (.mapIter (some b) dG (seen++[e.born]).toArray dG) w:=by simp[getObj,Sem.run,hr]
 have hf:(kT kd l).find? (·.born == e.born)=some (e.enc kd):=by
  rw[<- Array.find?_toList];refine find_born (e.enc kd) _ ?_ ?_
  ·simp only[kT,List.map_map];exact ho.nodup
  ·simp only[kT,List.mem_map];exact⟨e,he,rfl⟩
 have hbk:(seen++[e.born]).toArray.back? = some e.born:=by simp
 simp only[Instr.entry,Sem.run_bind,hg,Result.andThen,hbk,Go.MapKept.run_getObj_map hb,bne_self_eq_false,Bool.false_eq_true,if_false,hf];rfl
def BT(P:Program)(t:Nat):Option (IntKind×Nat):=match P.underlying t with
 |some (.map k e)=>match P.underlying k with
  |some (.int kd)=>some (kd,e)
  |_=>none
 |_=>none
theorem xS{P:Program}{t e:Nat}{kd:IntKind}(h:BT P t=some (kd,e)):∃k,P.underlying t=some (.map k e)/\P.underlying k=some (.int kd):=by
 unfold BT at h;split at h
 ·rename_i k e' h1;split at h
  ·rename_i kd' h2;simp only[Option.some.injEq,Prod.mk.injEq]at h;obtain⟨rfl,rfl⟩:=h;exact⟨k,h1,h2⟩
  ·cases h
 ·cases h
def BU(no:Nat):aF->Option Nat
 |[]=>none
 |e::r=>match e.ch with
  |.abs _=>bif Nat.beq e.tag no then BU no r else some e.tag
  |_=>BU no r
def sx(no:Nat)(hp:aF)(v:Value)(kd:IntKind)(K:Nat->Bool->Nat->List fI->Nat->Prop):Prop :=
 match BU no hp with
 |some tm=>match hp.find tm with
  |some (wr,.abs R)=>∃(b:Nat) (l:List fI) (dG:Nat),v = .map (some b)/\R=mZ b kd l dG/\VB kd l dG/\K tm wr b l dG
  |_=>False
 |none=>False
theorem pZ{no:Nat}{hp:aF}{v:Value}{kd:IntKind}{K:Nat->Bool->Nat->List fI->Nat->Prop}(h:sx no hp v kd K){w0:World}{M:Nat->Prop}{ρ:Env}{w:World}(hh:ai w0 M ρ hp w) :
 ∃tm wr b l dG,K tm wr b l dG/\hp.find tm=some (wr,.abs (mZ b kd l dG))/\v = .map (some b)/\VB kd l dG/\(∀x,(ρ.pl tm).fp x↔x=b)/\w.heap[b]? = some (.map (kT kd l) dG):=by
 unfold sx at h;split at h
 ·rename_i tm _;split at h
  ·rename_i wr R hf;obtain⟨b,l,dG,hv,rfl,hl,hK⟩:=h;have hc:=(hh.gH _ (aF.bk hf)).ch w (fun _ _=>rfl);exact⟨tm,wr,b,l,dG,hK,hf,hv,hl,hc.1,hc.2⟩
  ·exact h.elim
 ·exact h.elim
def Made(P:Program)(m:Sem Value)(s:S)(K:KV)(w0:World)(M:Nat->Prop)(ρ:Env)(w:World):Prop :=
 ∃v w' ρ',m.run P w = .ok v w'/\ρ.le ρ'/\∃sv s',K sv s'/\s'.nt=s.nt/\s'.fr=s.fr/\ρ'.n=s'.nx/\sv.b8 ρ' v/\ai w0 M ρ' s'.hp w'
theorem RM{u:Value}(h:A3 u = .nil):u = .pointer none:=by
 unfold A3 at h;split at h<;>first|rfl|cases h
theorem RN{P:Program}{e:Nat}{te:TI}(ty:BD P e te)(h:te.zero=[.nil])(ha:te.agg=false):∀w,(zeroValue e).run P w = .ok (.pointer none) w:=by
 obtain⟨z,hz,_,hzero,_,_,_,h1⟩:=gJ ty;rw[h]at hzero;have e1:z.cells.toList=[.pointer none]:=by
  cases hc:z.cells.toList with
  |nil=>rw[hc]at hzero;simp at hzero
  |cons u r =>
   rw[hc]at hzero;cases r with
   |nil =>
    simp only[List.map_cons,List.map_nil,List.cons.injEq,and_true]at hzero;rw[RM hzero.symm]
   |cons _ _=>simp at hzero
 have:z = .pointer none:=by
  rcases h1 ha with ho | ⟨vs,rfl⟩
  ·cases z<;>simp[Value.cells,Value.oneCell']at e1 ho<;>first|(simp[e1];done)|exact e1
  ·simp[Value.cells]at e1
 rw[<- this];exact hz
def FW:List A->Bool
 |[.nil]=>true
 |_=>false
theorem O9{l:List A}(h:FW l=true):l=[.nil]:=by
 unfold FW at h;split at h
 ·rfl
 ·cases h
def RO(X:Cx)(t:Nat)(x i:SV)(ok:Bool)(s:S)(K:KV):Prop :=
 match x,i with
 |.a (.val v),.a y=>match y.i?,BT X.P t with
  |some (k,n),some (kd,e)=>match X.ti e with
   |some te=>bif oz k kd&&(!ok&&(!te.agg&&FW te.zero))then
    ∃m,v = .map m/\(m=none->K (.a .nil) s)/\(m≠none->sx s.nx s.hp v kd fun _ _ _ l _=>K (.a (.val (DZ (getM l n)))) s)else False
   |none=>False
  |_,_=>False
 |_,_=>False
theorem RP{l:List fI}{n:Int}{u:Value}(h:getM l n=some u):∃e∈l,e.val=u:=by
 unfold getM at h;simp only[Option.map_eq_some_iff]at h;obtain⟨e,h1,h2⟩:=h;exact⟨e,List.mem_of_find?_eq_some h1,h2⟩
theorem look_ok{X:Cx}(hX:X.Ok){t:Nat}{x i:SV}{ok:Bool}{s:S}{K:KV}(h:RO X t x i ok s K){w0:World}{M:Nat->Prop}{ρ:Env}(hρ:ρ.n=s.nx){w:World}(hh:ai w0 M ρ s.hp w){u v:Value}(hu:x.b8 ρ u)(hv:i.b8 ρ v) :
 Made X.P (Instr.lookup t u v ok) s K w0 M ρ w:=by
 unfold RO at h;split at h
 ·rename_i v0 y;split at h
  ·rename_i k n kd e hy hm;split at h
   ·rename_i te hte;cases hb:(oz k kd&&(!ok&&(!te.agg&&FW te.zero)))
    ·simp[hb]at h
    simp only[hb,cond_true]at h;simp only[Bool.and_eq_true,Bool.not_eq_true']at hb;obtain⟨hk,hok,hag,hz⟩:=hb;have hk:=lF hk;subst hk hok;obtain⟨kt,t1,t2⟩:=xS hm;obtain⟨rfl,hn⟩:=A.jC hy hv;have hz:=RN (hX.ty hte) (O9 hz) hag;obtain⟨rfl,_⟩:=hu;obtain⟨m,rfl,h1,h2⟩:=h;cases m with
    |none=>exact⟨_,w,ρ,FV t1 t2 hz,Env.le.refl ρ,.a .nil,s,h1 rfl,rfl,rfl,hρ,rfl,hh⟩
    |some b =>
     obtain⟨tm,wr,b',l,dG,hK,hf,hb,hl,_,hc⟩:=pZ (h2 (by simp)) hh;obtain rfl:b=b':=by simpa using hb
     refine⟨_,w,ρ,RL t1 t2 hc hz,Env.le.refl ρ,_,s,hK,rfl,rfl,hρ,⟨rfl,?_⟩,hh⟩;cases hg:getM l n with
     |none=>rfl
     |some u =>
      obtain⟨e,he,rfl⟩:=RP hg;exact(hl.val e he).1
   ·exact h.elim
  ·exact h.elim
 ·exact h.elim
theorem D3{w:World}{b:Nat}{o:Obj}(h:∀vs ty fr,w.heap[b]?≠some (.cells vs ty fr))(ho:∀vs ty fr,o≠.cells vs ty fr)(a:Addr):({ w with heap:=w.heap.setIfInBounds b o }:World).frozen? a=w.frozen? a:=by
 unfold World.frozen?;by_cases hb:a.block=b
 ·subst hb;by_cases hlt:a.block<w.heap.size
  ·have e1:(w.heap.setIfInBounds a.block o)[a.block]? = some o:=by simp[hlt]
   simp only[e1];have h2:=h;cases hx:w.heap[a.block]? with
   |none=>cases o<;>first|rfl|exact absurd rfl (ho _ _ _)
   |some q =>
    cases q<;>first|exact absurd hx (h _ _ _)|(cases o<;>first|rfl|exact absurd rfl (ho _ _ _))
  ·have e1:(w.heap.setIfInBounds a.block o)[a.block]? = w.heap[a.block]?:=by
    rw[Array.getElem?_eq_none (by simpa using hlt),Array.getElem?_eq_none (by simpa using hlt)]
   simp only[e1]
 ·have e1:(w.heap.setIfInBounds b o)[a.block]? = w.heap[a.block]?:=by
   rw[Array.getElem?_setIfInBounds];simp[Ne.symm hb]
  simp only[e1]
theorem ai.raw{w0:World}{M:Nat->Prop}{ρ:Env}{hp:aF}{w w1:World}{t b:Nat}{c:Chunk}{o o':Obj}(hh:ai w0 M ρ hp w)(hf:hp.find t=some (true,c))(hfp:∀x,(ρ.pl t).fp x↔x=b)(hb:w.heap[b]? = some o)(ho:∀vs ty fr,o≠.cells vs ty fr)(ho':∀vs ty fr,o'≠.cells vs ty fr)
 (hal:w1.Alike w/\w1.tape=w.tape) {R:Place->World->Prop} (hR:∀w2:World,w2.heap[b]? = some o'->R (ρ.pl t) w2):ai w0 M ρ (hp.tO t (.abs R)) { w1 with heap:=w1.heap.setIfInBounds b o' }:=by
 have hlt:b<w.heap.size:=by
  rcases Nat.lt_or_ge b w.heap.size with h|h
  ·exact h
  ·simp[Array.getElem?_eq_none h]at hb
 obtain⟨⟨a1,a2,a3⟩,a4⟩:=hal;refine hh.tO hf ⟨a2,a4,a3,by simp[a1],fun x hx hn=>?_,fun a _=>?_⟩ fun w2 hw2=>hR w2 ?_
 ·have hne:b≠x:=fun e=>hn ((hfp x).2 e.symm);show(w1.heap.setIfInBounds b o')[x]? = _;rw[a1,Array.getElem?_setIfInBounds,if_neg hne]
 ·have e1:=D3 (w:=w1) (b:=b) (o:=o') (fun vs ty fr e=>by rw[a1,hb]at e;exact ho vs ty fr (Option.some.inj e)) ho' a;rw[e1];simp only[World.frozen?,a1]
 ·rw[hw2 b ((hfp b).2 rfl)];show(w1.heap.setIfInBounds b o')[b]? = _;rw[a1];simp[hlt]
def La(X:Cx)(t:Nat)(m k x:SV)(s:S)(K:KV):Prop :=
 match m,k,x with
 |.a (.val v),.a y,.a z=>match y.i?,BT X.P t with
  |some (kk,n),some (kd,_)=>bif oz kk kd then Jc 3 z s fun z s=>match z with
   |.val u=>sx s.nx s.hp v kd fun tm wr b l dG=>wr=true/\K (.a .any) (s.put (s.hp.tO tm (.abs (mZ b kd (BP n u dG l) (bif BQ l n then dG else dG+1)))))
   |_=>False else False
  |_,_=>False
 |_,_,_=>False
theorem RQ{X:Cx}{t:Nat}{m k x:SV}{s:S}{K:KV}(h:La X t m k x s K){w0:World}{M:Nat->Prop}{ρ:Env}(hρ:ρ.n=s.nx){w:World}(hh:ai w0 M ρ s.hp w){um uk ux:Value}(hm:m.b8 ρ um)(hk:k.b8 ρ uk)(hx:x.b8 ρ ux) :
 ∃w' s' ρ',(Instr.mapUpdate t um uk ux).run X.P w = .ok () w'/\K (.a .any) s'/\s'.nt=s.nt/\s'.fr=s.fr/\ρ.le ρ'/\ρ'.n=s'.nx/\ai w0 M ρ' s'.hp w':=by
 unfold La at h;split at h
 ·rename_i v y z;split at h
  ·rename_i kk n kd e hy hmt;cases hb:oz kk kd
   ·simp[hb]at h
   simp only[hb,cond_true]at h;have:=lF hb;subst this;obtain⟨kt,t1,t2⟩:=xS hmt;obtain⟨rfl,_⟩:=A.jC hy hk;obtain⟨rfl,_⟩:=hm;obtain⟨z',s1,ρ1,k1,a1,a2,a3,a4,a5,a6⟩:=Bj 3 z s _ h w0 M ρ w hρ hh ux hx;split at k1
   ·rename_i u;obtain⟨rfl,_⟩:=a5;obtain⟨tm,wr,b,l,dG,⟨hw,hK⟩,hf,hv,hl,hfp,hc⟩:=pZ k1 a6;subst hw;subst hv;refine⟨_,_,ρ1,O7 t1 t2 hc,hK,a1,a2,a4,a3,?_⟩;have e:(if BQ l n then dG else dG+1)=bif BQ l n then dG else dG+1:=by cases BQ l n<;>rfl
    rw[e];exact a6.raw hf hfp hc (fun _ _ _ e=>by cases e) (fun _ _ _ e=>by cases e) ⟨⟨rfl,rfl,rfl⟩,rfl⟩ fun w2 h2=>⟨hfp,h2⟩
   ·exact k1.elim
  ·exact h.elim
 ·exact h.elim
def FX(X:Cx)(t:Nat)(m k:SV)(s:S)(K:KV):Prop :=
 match m,k with
 |.a (.val v),.a y=>match y.i?,BT X.P t with
  |some (kk,n),some (kd,_)=>bif oz kk kd then sx s.nx s.hp v kd fun tm wr b l dG=>wr=true/\K (.a .any) (s.put (s.hp.tO tm (.abs (mZ b kd (BR n l) dG))))else False
  |_,_=>False
 |_,_=>False
theorem Pa{X:Cx}{t kt rt:Nat}{m k:SV}{s:S}{K:KV}(h:FX X t m k s K){w0:World}{M:Nat->Prop}{ρ:Env}{w:World}(hh:ai w0 M ρ s.hp w){um uk:Value}(hm:m.b8 ρ um)(hk:k.b8 ρ uk) :
 ∃w' cT,(Builtin.delete_ #[t,kt] rt #[um,uk]).run X.P w = .ok (.tuple #[]) w'/\ai w0 M ρ cT w'/\K (.a .any) (s.put cT):=by
 unfold FX at h;split at h
 ·rename_i v y;split at h
  ·rename_i kk n kd e hy hmt;cases hb:oz kk kd
   ·simp[hb]at h
   simp only[hb,cond_true]at h;have:=lF hb;subst this;obtain⟨kt',t1,t2⟩:=xS hmt;obtain⟨rfl,_⟩:=A.jC hy hk;obtain⟨rfl,_⟩:=hm;obtain⟨tm,wr,b,l,dG,⟨hw,hK⟩,hf,hv,hl,hfp,hc⟩:=pZ h hh;subst hw;subst hv;exact⟨_,_,K9 t1 t2 hc,hh.raw hf hfp hc (fun _ _ _ e=>by cases e) (fun _ _ _ e=>by cases e) ⟨⟨rfl,rfl,rfl⟩,rfl⟩ fun w2 h2=>⟨hfp,h2⟩,hK⟩
  ·exact h.elim
 ·exact h.elim
theorem Lb(w:World)(o:Obj)(ho:∀vs ty fr,o≠.cells vs ty fr)(a:Addr):(w.alloc o).frozen? a=w.frozen? a:=by
 by_cases hb:a.block=w.heap.size
 ·have e1:(w.alloc o).heap[a.block]? = some o:=by rw[hb];show(w.heap.push _)[w.heap.size]? = _;simp
  have e2:w.heap[a.block]? = none:=by rw[hb];simp
  simp only[World.frozen?,e1,e2];cases o<;>first|rfl|exact absurd rfl (ho _ _ _)
 ·have e:(w.alloc o).heap[a.block]? = w.heap[a.block]?:=by
   show(w.heap.push o)[a.block]? = _;rw[Array.getElem?_push,if_neg hb]
  simp[World.frozen?,e]
theorem ai.RR{w0:World}{M:Nat->Prop}{ρ:Env}{w:World}{hp:aF}(r:ai w0 M ρ hp w)(o:Obj)(ho:∀vs ty fr,o≠.cells vs ty fr){R:Place->World->Prop}
 (hR:∀w2:World,w2.heap[w.heap.size]? = some o->R ⟨w.heap.size,0,0,fun b=>b=w.heap.size⟩ w2):ai w0 M (ρ.ext ⟨w.heap.size,0,0,fun b=>b=w.heap.size⟩) (⟨ρ.n,true,.abs R⟩::hp) (w.alloc o) :=
 r.alloc o _ (fun _=>Iff.rfl) (Lb w o ho) fun w2 h2=>hR w2 (by
  rw[h2 _ rfl];show(w.heap.push o)[w.heap.size]? = _;simp)
def Lc(X:Cx)(t:Nat)(s:S)(K:KV):Prop :=
 match BT X.P t with
 |some (kd,_)=>∀b:Nat,K (.a (.val (.map (some b)))) (s.new (.abs (mZ b kd [] 0)))
 |none=>False
theorem RS{X:Cx}{t:Nat}{s:S}{K:KV}(h:Lc X t s K){w0:World}{M:Nat->Prop}{ρ:Env}(hρ:ρ.n=s.nx){w:World}(hh:ai w0 M ρ s.hp w):Made X.P (Instr.makeMap t none) s K w0 M ρ w:=by
 unfold Lc at h;split at h
 ·rename_i kd e hm;have hn:=hh.RR (.map #[] 0) (fun _ _ _ e=>by cases e) (R:=mZ w.heap.size kd [] 0) fun w2 h2=>⟨fun _=>Iff.rfl,h2⟩
  refine⟨.map (some w.heap.size),w.alloc (.map #[] 0),ρ.ext ⟨w.heap.size,0,0,fun b=>b=w.heap.size⟩,by simp[Instr.makeMap],ρ.dV _,_,_,h w.heap.size,rfl,rfl,?_,⟨rfl,rfl⟩,?_⟩
  ·show ρ.n+1=s.nx+1;rw[hρ]
  ·rw[hρ]at hn;exact hn
 ·exact h.elim
def Ld(X:Cx)(t:Nat)(x:SV)(s:S)(K:KV):Prop :=
 match x with
 |.a (.val v)=>match BT X.P t with
  |some (kd,_)=>sx s.nx s.hp v kd fun _ _ b _ dG=>K (.a (.ptr s.nx 0 0 0)) (s.new (.abs (mh b [] dG)))
  |none=>False
 |_=>False
theorem RU{X:Cx}{t:Nat}{x:SV}{s:S}{K:KV}(h:Ld X t x s K){w0:World}{M:Nat->Prop}{ρ:Env}(hρ:ρ.n=s.nx){w:World}(hh:ai w0 M ρ s.hp w){u:Value}(hu:x.b8 ρ u):Made X.P (Instr.range t u) s K w0 M ρ w:=by
 unfold Ld at h;split at h
 ·rename_i v;split at h
  ·rename_i kd e hm;obtain⟨kt,t1,t2⟩:=xS hm;obtain⟨rfl,_⟩:=hu;obtain⟨tm,wr,b,l,dG,hK,hf,hv,hl,hfp,hc⟩:=pZ h hh;subst hv;have hn:=hh.RR (.mapIter (some b) dG #[] dG) (fun _ _ _ e=>by cases e) (R:=mh b [] dG) fun w2 h2=>⟨fun _=>Iff.rfl,rfl,h2⟩
   refine⟨_,_,ρ.ext ⟨w.heap.size,0,0,fun b=>b=w.heap.size⟩,run_range_map w t kt _ b _ dG t1 hc,ρ.dV _,_,_,hK,rfl,rfl,?_,?_,?_⟩
   ·show ρ.n+1=s.nx+1;rw[hρ]
   ·refine⟨by show s.nx<ρ.n+1;omega,?_⟩;rw[<- hρ,ρ.dr]
   ·rw[hρ]at hn;exact hn
  ·exact h.elim
 ·exact h.elim
def xT(t:Nat)(hp:aF)(kd:IntKind)(K:Bool->Nat->List fI->Nat->List Nat->Prop):Prop :=
 match hp.find t with
 |some (wr,.abs R)=>∃(b:Nat) (seen:List Nat) (dG:Nat),R=mh b seen dG/\sx t hp (.map (some b)) kd fun _ _ b l clk'=>clk'=dG/\K wr b l dG seen
 |_=>False
theorem Aw{t:Nat}{hp:aF}{kd:IntKind}{K:Bool->Nat->List fI->Nat->List Nat->Prop}(h:xT t hp kd K){w0:World}{M:Nat->Prop}{ρ:Env}{w:World}(hh:ai w0 M ρ hp w) :
 ∃wr b l dG seen,K wr b l dG seen/\hp.find t=some (wr,.abs (mh b seen dG))/\VB kd l dG/\w.heap[b]? = some (.map (kT kd l) dG)/\(∀x,(ρ.pl t).fp x↔x=(ρ.pl t).blk)/\(ρ.pl t).off=0/\w.heap[(ρ.pl t).blk]? = some (.mapIter (some b) dG seen.toArray dG):=by
 unfold xT at h;split at h
 ·rename_i wr R hf;obtain⟨b,seen,dG,rfl,hm⟩:=h;obtain⟨tm,wr2,b2,l,clk2,⟨rfl,hK⟩,_,hb,hl,_,hc⟩:=pZ hm hh;obtain rfl:b=b2:=by simpa using hb
  have hi:=(hh.gH _ (aF.bk hf)).ch w (fun _ _=>rfl);exact⟨wr,b,l,_,seen,hK,hf,hl,hc,hi.1,hi.2.1,hi.2.2⟩
 ·exact h.elim
def RV(it:SV)(s:S)(K:KV):Prop :=
 match it with
 |.a (.ptr t 0 _ 0)=>∃kd,xT t s.hp kd fun wr b l dG seen=>wr=true/\((∀e∈l,e.born∈seen)->K (.l8 [.a .ff]) s) /\
  ∀e∈l,e.born∉seen->K (.l8 [.a .tt,.a (.int kd e.key),.a (.val e.val)]) (s.put (s.hp.tO t (.abs (mh b (seen++[e.born]) dG))))
 |_=>False
theorem VC{P:Program}{it:SV}{s:S}{K:KV}(h:RV it s K){w0:World}{M:Nat->Prop}{ρ:Env}(hρ:ρ.n=s.nx){w:World}(hh:ai w0 M ρ s.hp w){u:Value}{ty:Nat}(hu:it.b8 ρ u):Made P (Instr.next u false ty) s K w0 M ρ w:=by
 unfold RV at h;split at h
 ·rename_i t e;obtain⟨kd,h⟩:=h;obtain⟨wr,b,l,dG,seen,⟨hw,h1,h2⟩,hf,hl,hc,hfp,hoff,hi⟩:=Aw h hh;subst hw;obtain⟨_,rfl⟩:=hu;rw[hoff,show 0+0*e+0=0 by omega];rcases run_next_end (ty:=ty) hc hi hl with⟨g1,g2⟩ | ⟨x,hx,hns,w1,hal,g2⟩
  ·exact⟨_,w,ρ,g2,Env.le.refl ρ,_,s,h1 g1,rfl,rfl,hρ,⟨[.bool false],rfl,_,[],rfl,rfl,rfl⟩,hh⟩
  ·refine⟨_,_,ρ,g2,Env.le.refl ρ,_,_,h2 x hx hns,rfl,rfl,hρ,⟨[.bool true,.int kd x.key,x.val],rfl,_,_,rfl,rfl,_,_,rfl,⟨rfl,(hl.val x hx).2.2⟩,_,_,rfl,⟨rfl,(hl.val x hx).1⟩,rfl⟩,?_⟩;exact hh.raw hf hfp hi (fun _ _ _ e=>by cases e) (fun _ _ _ e=>by cases e) hal fun w2 hw2=>⟨hfp,hoff,hw2⟩
 ·exact h.elim
def Le(it:SV)(s:S)(K:KV):Prop :=
 match it with
 |.a (.ptr t 0 _ 0)=>∃kd,xT t s.hp kd fun _ _ l _ seen=>∃(sn:List Nat) (e:fI),seen=sn++[e.born]/\e∈l/\K (.l8 [.a (.int kd e.key),.a (.val e.val)]) s
 |_=>False
theorem RW{P:Program}{it:SV}{s:S}{K:KV}(h:Le it s K){w0:World}{M:Nat->Prop}{ρ:Env}(hρ:ρ.n=s.nx){w:World}(hh:ai w0 M ρ s.hp w){u:Value}(hu:it.b8 ρ u):Made P (Instr.entry u) s K w0 M ρ w:=by
 unfold Le at h;split at h
 ·rename_i t e;obtain⟨kd,h⟩:=h;obtain⟨wr,b,l,dG,seen,⟨sn,x,rfl,hx,hK⟩,hf,hl,hc,hfp,hoff,hi⟩:=Aw h hh;obtain⟨_,rfl⟩:=hu;rw[hoff,show 0+0*e+0=0 by omega];exact⟨_,w,ρ,O8 hc hi hl hx,Env.le.refl ρ,_,s,hK,rfl,rfl,hρ,⟨[.int kd x.key,x.val],rfl,_,_,rfl,⟨rfl,(hl.val x hx).2.2⟩,_,_,rfl,⟨rfl,(hl.val x hx).1⟩,rfl⟩,hh⟩
 ·exact h.elim
end
section
def RX:D->Bool
 |.str=>true
 |.slc _=>true
 |_=>false
def RY:SV->Nat
 |.a (.slc _ _ _ m _)=>m
 |_=>1
def Xp(X:Cx)(t:Nat)(x y:SV)(s:S)(K:KV):Prop :=
 match x with
 |.a (.val v)=>FT s y fun s'=>FR X t v y s' K
 |.a (.slc a b c d e)=>bif FN s y then(bif Nat.beq (RY y) 0 then Bh X t (.a (.slc a b c d e)) y s K else FT s y fun s'=>sr X t (.a (.slc a b c d e)) y s' K)else sr X t (.a (.slc a b c d e)) y s K
 |x=>bif FN s y then Bh X t x y s K else sr X t x y s K
theorem VD{X:Cx}(hX:X.Ok){t xt rt:Nat}{xd:TypeDesc}(hxt:X.P.underlying xt=some xd)(hxd:xd = .string\/∃e',xd = .slice e'){x y:SV}{s:S}{K:KV}(h:Xp X t x y s K){w0:World}{M:Nat->Prop}{ρ:Env}(hρ:ρ.n=s.nx)
 {w:World} (hh:ai w0 M ρ s.hp w) {u v:Value} (hu:x.b8 ρ u) (hv:y.b8 ρ v) :
 ∃r w' ρ',(Builtin.append_ #[t,xt] rt #[u,v]).run X.P w = .ok r w'/\ρ.le ρ'/\∃sv s',K sv s'/\s'.nt=s.nt/\s'.fr=s.fr/\ρ'.n=s'.nx/\sv.b8 ρ' r/\ai w0 M ρ' s'.hp w':=by
 unfold Xp at h;split at h
 ·obtain⟨s1,ρ1,k1,a1,a2,a3,a4,a5⟩:=Ey h hρ hh;obtain⟨r,w',ρ',hr,hle,sv,s2,k2,b1,b2,b3,b4,b5⟩:=K8 (rt:=rt) hX hxt hxd k1 a3 a5 (A.b8.mono a4 hu) (hv.mono a4);exact⟨r,w',ρ',hr,a4.trans hle,sv,s2,k2,b1.trans a1,b2.trans a2,b3,b4,b5⟩
 ·cases ho:FN s y with
  |false=>rw[ho]at h;simp only[cond_false]at h;exact vu hX hxt hxd h hρ hh hu hv
  |true =>
   rw[ho]at h;simp only[cond_true]at h;cases hm:Nat.beq (RY y) 0 with
   |true=>rw[hm]at h;simp only[cond_true]at h;exact Ew hX hxt hxd h hρ hh hu hv
   |false =>
    rw[hm]at h;simp only[cond_false]at h;obtain⟨s1,ρ1,k1,a1,a2,a3,a4,a5⟩:=Ey h hρ hh;obtain⟨r,w',ρ',hr,hle,sv,s2,k2,b1,b2,b3,b4,b5⟩:=vu (rt:=rt) hX hxt hxd k1 a3 a5 (hu.mono a4) (hv.mono a4);exact⟨r,w',ρ',hr,a4.trans hle,sv,s2,k2,b1.trans a1,b2.trans a2,b3,b4,b5⟩
 ·cases ho:FN s y with
  |false=>rw[ho]at h;simp only[cond_false]at h;exact vu hX hxt hxd h hρ hh hu hv
  |true=>rw[ho]at h;simp only[cond_true]at h;exact Ew hX hxt hxd h hρ hh hu hv
def VE(s:S):SV->Bool
 |.a (.slc t _ _ _ _)=>match s.hp.find t with|some (_,.obj _ _)=>true|_=>false
 |.a (.sub t _ _ _ _ _)=>match s.hp.find t with|some (_,.obj _ _)=>true|_=>false
 |_=>false
def RZ(b:Bool)(x:A):A:=bif b then(match x with | .int k n=>.lit k n|x=>x)else x
theorem Pb{b:Bool}{x:A}{ρ:Env}{v:Value}(h:x.b8 ρ v):(RZ b x).b8 ρ v:=by
 cases b
 ·exact h
 ·cases x<;>exact h
def BV(X:Cx)(b:Builtin)(args:List Operand)(ts:List Nat)(s:S)(K:KV):Prop :=
 match b,args,ts with
 |.len,[x],[t]=>match s.ev x with
  |.a (.val v)=>Xm X t v fun r=>K (.a r) s
  |y=>Xe X t y fun r=>K (.a (RZ (VE s y) r)) s
 |.append,[x,y],[t,xt]=>match X.ti xt with
  |some tx=>bif RX tx.d then Xp X t (s.ev x) (s.ev y) s K else(match tx.d with | .int _=>Rp X t (s.ev x) (s.ev y) s K|_=>False)
  |none=>False
 |.min,[x,y],_=>match s.ev x,s.ev y with
  |.a x,.a y=>NL false x y fun r=>K (.a r) s
  |_,_=>False
 |.max,[x,y],_=>match s.ev x,s.ev y with
  |.a x,.a y=>NL true x y fun r=>K (.a r) s
  |_,_=>False
 |.clear,[x],[t]=>K3 X t (s.ev x) s K
 |.cap,[x],[t]=>Xg X t (s.ev x) fun r=>K (.a r) s
 |.copy,[x,y],[t,_]=>Rw X t (s.ev x) (s.ev y) s K
 |.delete,[m,k],[t,_]=>FX X t (s.ev m) (s.ev k) s K
 |_,_,_=>False
def xun(op:UnOp)(x:SV)(s:S)(K:KV):Prop :=
 match op,x with
 |.not,.a .tt=>K (.a .ff) s
 |.not,.a .ff=>K (.a .tt) s
 |.not,.a (.bool b)=>K (.a (.bool (!b))) s
 |.neg,.a (.lit k n)=>K (.a (.lit k (k.wrap (0-n)))) s
 |.neg,.a (.int k n)=>bif k.signed then bL k (0-n)/\K (.a (.int k (0-n))) s else K (.a (.int k (uw k (0-n)))) s
 |.xor,.a (.lit k n)=>K (.a (.lit k (dz .xor k (if k.signed=true then -1 else k.max) n))) s
 |.xor,.a (.int k n)=>K (.a (.int k (dz .xor k (if k.signed=true then -1 else k.max) n))) s
 |_,_=>False
def Jf(x:SV)(i:Nat)(s:S)(K:KV):Prop :=
 match x with
 |.l8 xs=>match xs[i]? with
  |some c=>K c.sv s
  |none=>False
 |_=>False
def R3(X:Cx)(t:Nat)(x:SV)(f:Nat)(s:S)(K:KV):Prop :=
 match x with
 |.agg cs=>match X.P.underlying t with
  |some (.struct fs)=>match fs[f]? with
   |some g=>match X.ti g.type with
    |some ti=>bif ti.agg then K (.agg ((cs.drop g.offset).take ti.sz)) s else(match cs[g.offset]? with
     |some a=>K (.a a) s
     |none=>False)
    |none=>False
   |none=>False
  |_=>False
 |_=>False
theorem VF{X:Cx}(hX:X.Ok){t:Nat}{x:SV}{f:Nat}{s:S}{K:KV}(h:R3 X t x f s K){ρ:Env}{u:Value}(hu:x.b8 ρ u) :
 ∃sv r,K sv s/\sv.b8 ρ r/\∀w:World,(Instr.field t u f).run X.P w = .ok r w:=by
 unfold R3 at h;split at h
 ·rename_i cs;obtain⟨vs,rfl,hr⟩:=hu;split at h
  ·rename_i fs he;split at h
   ·rename_i g hg;split at h
    ·rename_i ti hti;have ty:=hX.ty hti;cases ha:ti.agg
     ·rw[ha,cond_false]at h;split at h
      ·rename_i a hc;obtain⟨v,h1,h2⟩:=hr.get hc;exact⟨.a a,v,h,h2,fun w=>by simp[Instr.field,run_underlying he,hg,part,asAgg,r9 ty,ha,h1]⟩
      ·exact h.elim
     ·rw[ha,cond_true]at h;refine⟨_,.agg ((vs.drop g.offset).take ti.sz).toArray,h,⟨_,rfl,(hr.drop g.offset).take ti.sz⟩,fun w=>?_⟩;simp[Instr.field,run_underlying he,hg,part,asAgg,r9 ty,ha,bV ty,List.extract]
    ·exact h.elim
   ·exact h.elim
  ·exact h.elim
 ·exact h.elim
def xU:List SV->Option (List A)
 |[]=>some []
 |.a x::r=>(xU r).map (x::·)
 |_=>none
theorem Ax{ρ:Env}{s:S}{a:Act}(h:dy ρ s.fr a.tmps):∀ {l:List Operand} {xs:List A},xU (l.map s.ev)=some xs->ct ρ xs (l.map a.eval)
 |[],xs,e=>by simp[xU]at e;subst e;rfl
 |o::r,xs,e=>by
  simp only[List.map_cons]at e;have ho:=h.ev o;unfold xU at e;split at e
  ·rename_i e';cases e'
  ·rename_i x t e';simp only[List.cons.injEq]at e';obtain⟨e1,rfl⟩:=e';rw[e1]at ho;simp only[Option.map_eq_some_iff]at e;obtain⟨ys,hy,rfl⟩:=e;exact⟨_,_,rfl,ho,Ax h hy⟩
  ·cases e
def Vg(X:Cx)(o:Oper)(s:S)(K:KV):Prop :=
 match o.op with
 |.move x=>K (s.ev x) s
 |.assign x=>K (s.ev x) s
 |.pick c a b=>match s.ev c with
  |.a .tt=>K (s.ev a) s
  |.a .ff=>K (s.ev b) s
  |.a (.bool c)=>BC X.force c (K (s.ev a) s) (K (s.ev b) s)
  |_=>False
 |.alloc t=>KW X t s K
 |.box t v=>Xb t (s.ev v) s K
 |.build t ps=>KY X t ps.toList s K
 |.buildSlice t n ps=>uh X t n ps.toList s K
 |.load t a=>match s.ev a with
  |.a (.val v)=>RC X t v s K
  |y=>NG X t y s K
 |.store t a v=>match s.ev a with
  |.a (.val p)=>K5 X t p (s.ev v) s K
  |y=>KT X t y (s.ev v) s K
 |.nilCheck x=>match s.ev x with
  |.a (.ptr t r e c)=>K (.a (.ptr t r e c)) s
  |.a (.fn f)=>K (.a (.fn f)) s
  |.a (.val v)=>∃b o,v=pv b o/\K (.a (.val (pv b o))) s
  |.Bd f xs=>K (.Bd f xs) s
  |_=>False
 |.binOp op t x y _=>match s.ev x,s.ev y with
  |.a (.val v),.a z=>Xn X op t v z fun r=>K (.a r) s
  |.a x,.a y=>IZ X op t x y fun r=>K (.a r) s
  |.agg xs,.agg ys=>Rz X op t xs ys fun r=>K (.a r) s
  |_,_=>False
 |.unOp op _ x=>xun op (s.ev x) s K
 |.convert a b x=>match s.ev x with
  |.a (.val v)=>RF X a b v s K
  |y=>K1 X a b y s K
 |.makeFunc fn first captured=>match fn,first.toList with
  |.func f,[]=>match captured.toList with
   |[]=>K (.a (.fn f)) s
   |cs=>match xU (cs.map s.ev)with
    |some xs=>K (.Bd f xs) s
    |none=>False
  |_,_=>False
 |.makeSlice t l c=>Rn X t (s.ev l) (s.ev c) s K
 |.slice t x lo hi mx=>match s.ev x with
  |.a (.val v)=>K6 X t v lo hi mx s K
  |y=>K0 X t y lo hi mx s K
 |.fieldAddr t x f=>match s.ev x with
  |.a (.val v)=>K4 X t v f s K
  |y=>K2 X t y f s K
 |.indexAddr t x i=>match s.ev x with
  |.a (.val v)=>Xl X t v (s.ev i) s K
  |y=>Xi X t y (s.ev i) s K
 |.field t x f=>R3 X t (s.ev x) f s K
 |.index t x i=>Ru X t (s.ev x) (s.ev i) s K
 |.extract x i=>Jf (s.ev x) i s K
 |.lookup t x i ok=>RO X t (s.ev x) (s.ev i) ok s K
 |.mapUpdate t m k x=>La X t (s.ev m) (s.ev k) (s.ev x) s K
 |.makeMap t r=>match r with
  |none=>Lc X t s K
  |_=>False
 |.range t x=>Ld X t (s.ev x) s K
 |.next it str=>bif str then False else RV (s.ev it) s K
 |.entry it=>Le (s.ev it) s K
 |.call c=>match c.callee with
  |.builtin b=>BV X b c.args.toList c.argTypes.toList s K
  |_=>False
 |_=>False
def iT(o:Oper):Bool :=
 match o.op with
 |.alloc _=>false
 |.box _ _=>false
 |.buildSlice _ _ _=>false
 |.store _ _ _=>false
 |.makeSlice _ _ _=>false
 |.lookup _ _ _ _=>false
 |.mapUpdate _ _ _ _=>false
 |.makeMap _ _=>false
 |.range _ _=>false
 |.next _ _=>false
 |.entry _=>false
 |.call c=>match c.callee with
  |.builtin .len=>true
  |.builtin .cap=>true
  |.builtin .min=>true
  |.builtin .max=>true
  |_=>false
 |_=>true
theorem Good.makes{X:Cx}{o:Oper}{s:S}{K:KV}
 (h:∀ρ:Env,ρ.n=s.nx->∀(a:Act) (w w0:World) (M:Nat->Prop),dy ρ s.fr a.tmps->ai w0 M ρ s.hp w ->
  ∃v w' ρ',(execOp a.eval o).run X.P w = .ok (.value v) w'/\ρ.le ρ'/\∃sv s',K sv s'/\s'.nt=s.nt/\s'.fr=s.fr/\ρ'.n=s'.nx/\sv.b8 ρ' v/\ai w0 M ρ' s'.hp w'):Good X o s K:=by
 intro w0 M ρ a w hs;obtain⟨v,w',ρ',hr,hle,sv,s',hK,h1,h2,h3,h4,h5⟩:=h ρ hs.n a w w0 M hs.frame hs.heap;exact⟨_,w',hr,v,.inl rfl,sv,s',ρ',hK,h1,h2,hle,h3,h4,h5⟩
theorem js.still{X:Cx}{o:Oper}{s:S}{K:KV}
 (h:∀ρ:Env,ρ.n=s.nx->∀(a:Act) (w w0:World) (M:Nat->Prop),dy ρ s.fr a.tmps->ai w0 M ρ s.hp w ->
  ∃sv v,K sv s/\sv.b8 ρ v/\∀w':World,(∀t,DU o s=some t->∀b,(ρ.pl t).fp b->w'.heap[b]? = w.heap[b]?)->(execOp a.eval o).run X.P w' = .ok (.value v) w'):js X o s K:=by
 intro w0 M ρ a w hs;obtain⟨sv,v,h1,h2,h3⟩:=h ρ hs.n a w w0 M hs.frame hs.heap;exact⟨v,sv,h1,h2,h3⟩
theorem jv{P:Program}{m:Sem Value}{v:Value}{w w':World}(h:m.run P w = .ok v w'):(do Pure.pure (Next.value (<- m)):Sem Next).run P w = .ok (.value v) w':=by
 simp[h]
theorem yW{X:Cx}(hX:X.Ok){o:Oper}{s:S}{K:KV}(hq:iT o=true)(h:Vg X o s K):js X o s K:=by
 obtain⟨dst,op,type,pos,after,guard⟩:=o;unfold Vg at h;cases op<;>simp only at h<;>first|(exact h.elim)|(simp[iT]at hq;done)|skip
 case move x=>exact js.still fun ρ hρ a w w0 M hf hh=>⟨_,_,h,hf.ev x,fun _ _=>rfl⟩
 case assign x=>exact js.still fun ρ hρ a w w0 M hf hh=>⟨_,_,h,hf.ev x,fun _ _=>rfl⟩
 case pick c x y =>
  refine js.still fun ρ hρ a w w0 M hf hh=>?_;have hc:=hf.ev c;split at h
  ·rename_i e;rw[e]at hc;have hc':a.eval c = .bool true:=hc;exact⟨_,_,h,hf.ev x,fun w' hw=>by simp[execOp,hc',asBool]⟩
  ·rename_i e;rw[e]at hc;have hc':a.eval c = .bool false:=hc;exact⟨_,_,h,hf.ev y,fun w' hw=>by simp[execOp,hc',asBool]⟩
  ·rename_i b e;rw[e]at hc;have hc':a.eval c = .bool b:=hc;have h:=yN h;cases b with
   |true=>exact⟨_,_,h.1 rfl,hf.ev x,fun w' hw=>by simp[execOp,hc',asBool]⟩
   |false=>exact⟨_,_,h.2 rfl,hf.ev y,fun w' hw=>by simp[execOp,hc',asBool]⟩
  ·exact h.elim
 case build t ps =>
  refine js.still fun ρ hρ a w w0 M hf hh=>?_;obtain⟨u,sv,h1,h2,h3⟩:=Rm hX h hf;exact⟨sv,u,h3,h2,fun w' hw=>jv (h1 w')⟩
 case load t x =>
  refine js.still fun ρ hρ a w w0 M hf hh=>?_;split at h
  ·rename_i v hx;have hc:=hf.ev x;rw[hx]at hc;obtain⟨b,off,e,u,sv,h1,h2,h3⟩:=RE hX h hc hh;refine⟨sv,u,h3,h2,fun w' hw=>jv ?_⟩;have h4:=h1 w' fun t' ht'=>hw t' (by simp only[DU,hx,DT];exact ht');simp[Instr.loadAt,e,Instr.sureAddr,h4]
  ·obtain⟨b,off,e,u,sv,h1,h2,h3⟩:=NH hX h (hf.ev x) hh;refine⟨sv,u,h3,h2,fun w' hw=>jv ?_⟩;have h4:=h1 w' fun t' ht'=>hw t' (xN ht');simp[Instr.loadAt,e,Instr.sureAddr,h4]
 case nilCheck x =>
  refine js.still fun ρ hρ a w w0 M hf hh=>?_;have hc:=hf.ev x;split at h
  ·rename_i t r e c eq;rw[eq]at hc;obtain⟨h1,h2⟩:=hc;exact⟨_,_,h,⟨h1,h2⟩,fun w' hw=>by simp[execOp,h2]⟩
  ·rename_i f eq;rw[eq]at hc;have hc':a.eval x = .func (.func f) #[] #[]:=hc;exact⟨_,_,h,hc',fun w' hw=>by simp[execOp,hc']⟩
  ·rename_i v eq;rw[eq]at hc;obtain⟨b,o,rfl,h⟩:=h;obtain⟨hc',h2⟩:=hc;exact⟨_,_,h,⟨hc',h2⟩,fun w' hw=>by simp[execOp,hc',pv]⟩
  ·rename_i f xs eq;rw[eq]at hc;obtain⟨vs,hc',h2⟩:=hc;exact⟨_,_,h,⟨vs,rfl,h2⟩,fun w' hw=>by simp[execOp,hc']⟩
  ·exact h.elim
 case binOp op t x y yt =>
  refine js.still fun ρ hρ a w w0 M hf hh=>?_;split at h
  ·rename_i p q hp hq;have h1:=hf.ev x;have h2:=hf.ev y;rw[hp]at h1;rw[hq]at h2;obtain⟨z,r,g1,g2,g3⟩:=Vz hX h h1 h2 x y;refine⟨.a z,r,g1,g2,fun w' hw=>jv ?_⟩;simp[(g3 w').1,(g3 w').2]
  ·rename_i p q _ hp hq;have h1:=hf.ev x;have h2:=hf.ev y;rw[hp]at h1;rw[hq]at h2;obtain⟨z,r,g1,g2,g3⟩:=Rq hX h h1 h2;refine⟨.a z,r,g1,g2,fun w' hw=>jv ?_⟩;simp[DX op t x y h1 (I7 h),g3]
  ·rename_i p q hp hq;have h1:=hf.ev x;have h2:=hf.ev y;rw[hp]at h1;rw[hq]at h2;obtain⟨us,e1,h1⟩:=h1;obtain⟨vs,e2,h2⟩:=h2;obtain⟨z,r,g1,g2,g3⟩:=RB h h1 h2 x y;refine⟨.a z,r,g1,g2,fun w' hw=>jv ?_⟩;have:=g3 w';simp only[e1,e2];simpa using this
  ·exact h.elim
 case unOp op t x =>
  refine js.still fun ρ hρ a w w0 M hf hh=>?_;have hc:=hf.ev x;unfold xun at h;split at h
  ·rename_i e;rw[e]at hc;have hc':a.eval x = .bool true:=hc;exact⟨_,.bool false,h,rfl,fun w' hw=>by simp[execOp,Op.unary,hc']⟩
  ·rename_i e;rw[e]at hc;have hc':a.eval x = .bool false:=hc;exact⟨_,.bool true,h,rfl,fun w' hw=>by simp[execOp,Op.unary,hc']⟩
  ·rename_i b e;rw[e]at hc;have hc':a.eval x = .bool b:=hc;exact⟨_,.bool (!b),h,rfl,fun w' hw=>by simp[execOp,Op.unary,hc']⟩
  ·rename_i k n e;rw[e]at hc;obtain⟨hc',_⟩:=hc;exact⟨_,.int k (k.wrap (0-n)),h,⟨rfl,iB _ _⟩,fun w' hw=>by simp[execOp,Op.unary,Op.intArith,hc']⟩
  ·rename_i k n e;rw[e]at hc;obtain⟨hc',_⟩:=hc;cases hs:k.signed
   ·rw[hs]at h;exact⟨_,.int k (k.wrap (0-n)),h,⟨by rw[El],r8 _ _⟩,fun w' hw=>by simp[execOp,Op.unary,Op.intArith,hc']⟩
   ·rw[hs]at h;exact⟨_,.int k (0-n),h.2,⟨rfl,h.1⟩,fun w' hw=>by rw[<- fc h.1];simp[execOp,Op.unary,Op.intArith,hc']⟩
  ·rename_i k n e;rw[e]at hc;obtain⟨hc',_⟩:=hc;exact⟨_,.int k (dz .xor k (if k.signed=true then -1 else k.max) n),h,⟨rfl,iB _ _⟩,fun w' hw=>by simp[execOp,Op.unary,Op.intBits,dz,hc']⟩
  ·rename_i k n e;rw[e]at hc;obtain⟨hc',_⟩:=hc;exact⟨_,.int k (dz .xor k (if k.signed=true then -1 else k.max) n),h,⟨rfl,iB _ _⟩,fun w' hw=>by simp[execOp,Op.unary,Op.intBits,dz,hc']⟩
  ·exact h.elim
 case convert t d x =>
  refine js.still fun ρ hρ a w w0 M hf hh=>?_;split at h
  ·rename_i v hx;have hc:=hf.ev x;rw[hx]at hc;obtain⟨sv,r,h1,h2,h3⟩:=RH hX h hc hh;exact⟨sv,r,h1,h2,fun w' hw=>jv (h3 w' fun t' ht'=>hw t' (by simp only[DU,hx,DT];exact ht'))⟩
  ·obtain⟨sv,r,h1,h2,h3⟩:=Rs hX h hh (hf.ev x);exact⟨sv,r,h1,h2,fun w' hw=>jv (h3 w' fun t' ht'=>hw t' (xN ht'))⟩
 case makeFunc fn first captured =>
  refine js.still fun ρ hρ a w w0 M hf hh=>?_;split at h
  ·rename_i f h1;have e1:first = #[]:=by cases first;simpa using h1
   subst e1;split at h
   ·rename_i h2;have e2:captured = #[]:=by cases captured;simpa using h2
    subst e2;exact⟨_,.func (.func f) #[] #[],h,rfl,fun w' hw=>by simp[execOp,Instr.makeFunc]⟩
   ·split at h
    ·rename_i xs hxs;refine⟨_,.func (.func f) #[] (captured.map a.eval),h,⟨captured.toList.map a.eval,by congr 1;apply Array.toList_inj.1;simp,Ax hf hxs⟩,fun w' hw=>by simp[execOp,Instr.makeFunc]⟩
    ·exact h.elim
  ·exact h.elim
 case slice t x lo hi mx =>
  refine js.still fun ρ hρ a w w0 M hf hh=>?_;split at h
  ·rename_i v hx;have hc:=hf.ev x;rw[hx]at hc;obtain⟨v,sv,h1,h2,h3⟩:=O5 hX h hf hc;exact⟨sv,v,h3,h2,fun w' hw=>jv (h1 w')⟩
  ·obtain⟨v,sv,h1,h2,h3⟩:=Ro hX h hf (hf.ev x);exact⟨sv,v,h3,h2,fun w' hw=>jv (h1 w')⟩
 case field t x f =>
  refine js.still fun ρ hρ a w w0 M hf hh=>?_;obtain⟨sv,r,h1,h2,h3⟩:=VF hX h (hf.ev x);exact⟨sv,r,h1,h2,fun w' hw=>jv (h3 w')⟩
 case fieldAddr t x f =>
  refine js.still fun ρ hρ a w w0 M hf hh=>?_;split at h
  ·rename_i v hx;have hc:=hf.ev x;rw[hx]at hc;obtain⟨sv,r,h1,h2,h3⟩:=O2 hX h hc;exact⟨sv,r,h1,h2,fun w' hw=>jv (h3 w')⟩
  ·obtain⟨sv,r,h1,h2,h3⟩:=Rt hX h (hf.ev x);exact⟨sv,r,h1,h2,fun w' hw=>jv (h3 w')⟩
 case indexAddr t x i =>
  refine js.still fun ρ hρ a w w0 M hf hh=>?_;split at h
  ·rename_i v hx;have hc:=hf.ev x;rw[hx]at hc;obtain⟨sv,r,h1,h2,h3⟩:=Vx hX h hc (hf.ev i);exact⟨sv,r,h1,h2,fun w' hw=>jv (h3 w')⟩
  ·obtain⟨sv,r,h1,h2,h3⟩:=Xj hX h (hf.ev x) (hf.ev i);exact⟨sv,r,h1,h2,fun w' hw=>jv (h3 w')⟩
 case index t x i =>
  refine js.still fun ρ hρ a w w0 M hf hh=>?_;obtain⟨sv,r,h1,h2,h3⟩:=Vv hX h (hf.ev x) (hf.ev i);exact⟨sv,r,h1,h2,fun w' hw=>jv (h3 w')⟩
 case extract x i =>
  refine js.still fun ρ hρ a w w0 M hf hh=>?_;have hc:=hf.ev x;unfold Jf at h;split at h
  ·rename_i xs e;rw[e]at hc;obtain⟨vs,hv,hr⟩:=hc;split at h
   ·rename_i c hc;obtain⟨v,h1,h2⟩:=hr.get hc;exact⟨_,v,h,h2.sv,fun w' hw=>by simp[execOp,Instr.extract,hv,h1]⟩
   ·exact h.elim
  ·exact h.elim
 case call c =>
  obtain⟨callee,args,ts⟩:=c;split at h
  ·rename_i b hb;simp only at hb;subst hb;unfold BV at h;split at h
   ·rename_i x t ha ht;have e1:args = #[x]:=by cases args;simpa using ha
    have e2:ts = #[t]:=by cases ts;simpa using ht
    subst e1 e2;refine js.still fun ρ hρ a w w0 M hf hh=>?_;split at h
    ·rename_i v hx;have hc:=hf.ev x;rw[hx]at hc;obtain⟨z,r,g1,g2,g3⟩:=Vy (rt:=type) hX h hc;exact⟨.a z,r,g1,g2,fun w' hw=>by simp[execOp,resolve,invoke,builtin,g3]⟩
    ·obtain⟨z,r,g1,g2,g3⟩:=Xf (rt:=type) hX h (hf.ev x);exact⟨.a (RZ _ z),r,g1,Pb g2,fun w' hw=>by simp[execOp,resolve,invoke,builtin,g3]⟩
   ·simp[iT]at hq
   ·rename_i x y ha;have e1:args = #[x,y]:=by cases args;simpa using ha
    subst e1;split at h
    ·rename_i p q hp hq;refine js.still fun ρ hρ a w w0 M hf hh=>?_;have h1:=hf.ev x;have h2:=hf.ev y;rw[hp]at h1;rw[hq]at h2;obtain⟨z,r,g1,g2,g3⟩:=NM (P:=X.P) h h1 h2;refine⟨.a z,r,g1,g2,fun w' hw=>?_⟩;have g4:(Builtin.min_ ts type #[a.eval x,a.eval y]).run X.P w' = .ok r w':=g3 w';simp[execOp,resolve,invoke,builtin,g4]
    ·exact h.elim
   ·rename_i x y ha;have e1:args = #[x,y]:=by cases args;simpa using ha
    subst e1;split at h
    ·rename_i p q hp hq;refine js.still fun ρ hρ a w w0 M hf hh=>?_;have h1:=hf.ev x;have h2:=hf.ev y;rw[hp]at h1;rw[hq]at h2;obtain⟨z,r,g1,g2,g3⟩:=NM (P:=X.P) h h1 h2;refine⟨.a z,r,g1,g2,fun w' hw=>?_⟩;have g4:(Builtin.max_ ts type #[a.eval x,a.eval y]).run X.P w' = .ok r w':=g3 w';simp[execOp,resolve,invoke,builtin,g4]
    ·exact h.elim
   ·simp[iT]at hq
   ·rename_i x t ha ht;have e1:args = #[x]:=by cases args;simpa using ha
    have e2:ts = #[t]:=by cases ts;simpa using ht
    subst e1 e2;refine js.still fun ρ hρ a w w0 M hf hh=>?_;obtain⟨z,r,g1,g2,g3⟩:=Xh (rt:=type) hX h (hf.ev x);exact⟨.a z,r,g1,g2,fun w' hw=>by simp[execOp,resolve,invoke,builtin,g3]⟩
   ·simp[iT]at hq
   ·simp[iT]at hq
   ·exact h.elim
  ·exact h.elim
theorem R4{X:Cx}(hX:X.Ok){o:Oper}{s:S}{K:KV}(h:Vg X o s K):Good X o s K:=by
 cases hq:iT o
 case true=>exact(yW hX hq h).good
 obtain⟨dst,op,type,pos,after,guard⟩:=o;unfold Vg at h;cases op<;>simp only at h<;>first|(exact h.elim)|(simp[iT]at hq;done)|skip
 case alloc t =>
  refine Good.makes fun ρ hρ a w w0 M hf hh=>?_;obtain⟨u,w',ρ',h1,h2⟩:=Rl hX h hρ hh;exact⟨u,w',ρ',jv h1,h2⟩
 case box t v =>
  refine Good.makes fun ρ hρ a w w0 M hf hh=>?_;obtain⟨u,w',ρ',h1,h2⟩:=Xc (P:=X.P) h hρ hh (hf.ev v);exact⟨u,w',ρ',jv h1,h2⟩
 case buildSlice t n ps =>
  refine Good.makes fun ρ hρ a w w0 M hf hh=>?_;obtain⟨u,w',ρ',h1,h2⟩:=DW hX h hρ hf hh;exact⟨u,w',ρ',jv h1,h2⟩
 case store t x v =>
  intro w0 M ρ a w hs;split at h
  ·rename_i p hx;have hc:=hs.frame.ev x;rw[hx]at hc;obtain⟨b,off,e,w',cT,h1,h2,h3⟩:=O4 hX h hc (hs.frame.ev v) hs.heap;refine⟨.skip,w',?_,undef,.inr ⟨rfl,rfl⟩,.a .any,s.put cT,ρ,h3,rfl,rfl,Env.le.refl ρ,hs.n,trivial,h2⟩;simp[execOp,Instr.storeAt,e,Instr.sureAddr,h1]
  obtain⟨b,off,e,w',cT,h1,h2,h3⟩:=Rk hX h (hs.frame.ev x) (hs.frame.ev v) hs.heap;refine⟨.skip,w',?_,undef,.inr ⟨rfl,rfl⟩,.a .any,s.put cT,ρ,h3,rfl,rfl,Env.le.refl ρ,hs.n,trivial,h2⟩;simp[execOp,Instr.storeAt,e,Instr.sureAddr,h1]
 case makeSlice t l c =>
  refine Good.makes fun ρ hρ a w w0 M hf hh=>?_;obtain⟨u,w',ρ',h1,h2⟩:=xP hX h hρ hh (hf.ev l) (hf.ev c);exact⟨u,w',ρ',jv h1,h2⟩
 case lookup t x i ok =>
  refine Good.makes fun ρ hρ a w w0 M hf hh=>?_;obtain⟨u,w',ρ',h1,h2⟩:=look_ok hX h hρ hh (hf.ev x) (hf.ev i);exact⟨u,w',ρ',jv h1,h2⟩
 case mapUpdate t m k x =>
  intro w0 M ρ a w hs;obtain⟨w',s',ρ',h1,h2,h3,h4,h5,h6,h7⟩:=RQ h hs.n hs.heap (hs.frame.ev m) (hs.frame.ev k) (hs.frame.ev x);refine⟨.skip,w',?_,undef,.inr ⟨rfl,rfl⟩,.a .any,s',ρ',h2,h3,h4,h5,h6,trivial,h7⟩;simp[execOp,h1]
 case makeMap t r =>
  split at h
  ·refine Good.makes fun ρ hρ a w w0 M hf hh=>?_;obtain⟨u,w',ρ',h1,h2⟩:=RS h hρ hh;exact⟨u,w',ρ',jv h1,h2⟩
  ·exact h.elim
 case range t x =>
  refine Good.makes fun ρ hρ a w w0 M hf hh=>?_;obtain⟨u,w',ρ',h1,h2⟩:=RU h hρ hh (hf.ev x);exact⟨u,w',ρ',jv h1,h2⟩
 case next it str =>
  cases str with
  |true=>exact h.elim
  |false =>
   refine Good.makes fun ρ hρ a w w0 M hf hh=>?_;obtain⟨u,w',ρ',h1,h2⟩:=VC (ty:=type) h hρ hh (hf.ev it);exact⟨u,w',ρ',jv h1,h2⟩
 case entry it =>
  refine Good.makes fun ρ hρ a w w0 M hf hh=>?_;obtain⟨u,w',ρ',h1,h2⟩:=RW h hρ hh (hf.ev it);exact⟨u,w',ρ',jv h1,h2⟩
 case call c =>
  obtain⟨callee,args,ts⟩:=c;split at h
  ·rename_i b hb;simp only at hb;subst hb;unfold BV at h;split at h
   ·simp[iT]at hq
   ·rename_i x y t xt ha ht;have e1:args = #[x,y]:=by cases args;simpa using ha
    have e2:ts = #[t,xt]:=by cases ts;simpa using ht
    subst e1 e2;split at h
    ·rename_i tx htx;cases hs:RX tx.d
     ·rw[hs]at h;simp only[cond_false]at h;split at h
      ·rename_i ik hik;have hx1:=pW ((hX.ty htx).desc.trans hik);refine Good.makes fun ρ hρ a w w0 M hf hh=>?_;obtain⟨u,w',ρ',h1,h2⟩:=Vr (rt:=type) hX hx1 h hρ hh (hf.ev x) (hf.ev y);exact⟨u,w',ρ',by simp[execOp,resolve,invoke,builtin,h1],h2⟩
      ·exact h.elim
     rw[hs]at h;simp only[cond_true]at h;have hxd:∃xd,X.P.underlying xt=some xd/\(xd = .string\/∃e',xd = .slice e'):=by
      have ty:=hX.ty htx;cases hd:tx.d<;>rw[hd]at hs<;>simp[RX]at hs
      ·exact⟨_,nV (ty.desc.trans hd),.inl rfl⟩
      ·exact⟨_,cw (ty.desc.trans hd),.inr ⟨_,rfl⟩⟩
     obtain⟨xd,hx1,hx2⟩:=hxd;refine Good.makes fun ρ hρ a w w0 M hf hh=>?_;obtain⟨u,w',ρ',h1,h2⟩:=VD (rt:=type) hX hx1 hx2 h hρ hh (hf.ev x) (hf.ev y);exact⟨u,w',ρ',by simp[execOp,resolve,invoke,builtin,h1],h2⟩
    ·exact h.elim
   ·simp[iT]at hq
   ·simp[iT]at hq
   ·rename_i x t ha ht;have e1:args = #[x]:=by cases args;simpa using ha
    have e2:ts = #[t]:=by cases ts;simpa using ht
    subst e1 e2;intro w0 M ρ a w hs;obtain⟨w',cT,h1,h2,h3⟩:=Rv (rt:=type) hX h hs.heap (hs.frame.ev x);exact⟨.value (.tuple #[]),w',by simp[execOp,resolve,invoke,builtin,h1],.tuple #[],.inl rfl,.a .any,s.put cT,ρ,h3,rfl,rfl,Env.le.refl ρ,hs.n,trivial,h2⟩
   ·simp[iT]at hq
   ·rename_i x y t xt ha ht;have e1:args = #[x,y]:=by cases args;simpa using ha
    have e2:ts = #[t,xt]:=by cases ts;simpa using ht
    subst e1 e2;intro w0 M ρ a w hs;obtain⟨z,r,w',cT,h1,h2,h3,h4⟩:=Vw (rt:=type) (xt:=xt) hX h hs.heap (hs.frame.ev x) (hs.frame.ev y);exact⟨.value r,w',by simp[execOp,resolve,invoke,builtin,h1],r,.inl rfl,z,s.put cT,ρ,h4,rfl,rfl,Env.le.refl ρ,hs.n,h3,h2⟩
   ·rename_i m k t xt ha ht;have e1:args = #[m,k]:=by cases args;simpa using ha
    have e2:ts = #[t,xt]:=by cases ts;simpa using ht
    subst e1 e2;intro w0 M ρ a w hs;obtain⟨w',cT,h1,h2,h3⟩:=Pa (rt:=type) (kt:=xt) h hs.heap (hs.frame.ev m) (hs.frame.ev k);exact⟨.value (.tuple #[]),w',by simp[execOp,resolve,invoke,builtin,h1],.tuple #[],.inl rfl,.a .any,s.put cT,ρ,h3,rfl,rfl,Env.le.refl ρ,hs.n,trivial,h2⟩
   ·exact h.elim
  ·exact h.elim
end
section
def iU(ρ:Env):List SV->List Value->Prop
 |[],vs=>vs=[]
 |x::xs,vs=>∃v r,vs=v::r/\x.b8 ρ v/\iU ρ xs r
def uj(X:Cx)(f:Nat)(args:List SV)(s:S)(K:KV):Prop :=
 ∀w0 M (ρ:Env) (w:World) vs,ρ.n=s.nx->ai w0 M ρ s.hp w->iU ρ args vs->Calls X.P f vs.toArray w fun e w'=>∃v,e = .returned v/\Out w0 M ρ s w' v K
abbrev gM:=Nat->List SV->S->KV->Prop
def IM(X:Cx)(ch:gM):Prop:=∀f args s K,ch f args s K->uj X f args s K
structure ZX(P:Program)(f:Nat)(fn:Func):Prop where
 at_:P.funcs[f]? = some fn
 body:fn.body.isSome=true
 name : (fn.name == "runtime.NumGoroutine") = false
structure Fx where
 X:Cx
 F:List (Nat×Func)
 I:List (Nat×List Nat)
structure Fx.Ok(G:Fx):Prop where
 cx:G.X.Ok
 fns:∀p∈G.F,ZX G.X.P p.1 p.2
def Lf:List (Nat×Func)->Nat->Option Func
 |[],_=>none
 |(j,i)::r,t=>bif Nat.beq j t then some i else Lf r t
theorem rJ:∀ {l:List (Nat×Func)} {t:Nat} {i:Func},Lf l t=some i->(t,i)∈l
 |[],_,_,h=>by simp[Lf]at h
 |(j,i')::r,t,i,h=>by
  simp only[Lf]at h;by_cases hj:j=t
  ·subst hj;simp only[dh,cond_true,Option.some.injEq]at h;subst h;exact List.mem_cons_self
  ·simp only[ey hj,cond_false]at h;exact List.mem_cons_of_mem _ (rJ h)
def R5:List (Nat×List Nat)->Nat->Option (List Nat)
 |[],_=>none
 |(j,i)::r,t=>bif Nat.beq j t then some i else R5 r t
def Lg(G:Fx)(ch:gM)(o:Oper)(s:S)(K:KV):Prop :=
 match o.op with
 |.call c=>match c.callee with
  |.value f=>match s.ev f with
   |.a (.fn g)=>match Lf G.F g with
    |some _=>ch g (c.args.toList.map s.ev) s K
    |none=>False
   |.Bd g xs=>match Lf G.F g with
    |some _=>ch g (c.args.toList.map s.ev++xs.map SV.a) s K
    |none=>False
   |_=>False
  |.builtin _=>Vg G.X o s K
  |.invoke _ _=>False
 |_=>Vg G.X o s K
def D4(o:Oper)(v:SV)(s:S)(K:S->Prop):Prop :=
 match o.dst with
 |none=>K s
 |some d=>bif Nat.blt d s.nt then FJ v fun v=>K (s.set d v)else False
def BW(X:Cx)(all:List Oper)(o:Oper)(s:S)(run skip:S->Prop):Prop :=
 mark X.Rh (match o.dst with|some d=>d|none=>99999) <| match o.guard with
 |none=>run s
 |some (j,want) =>
  match(all[j]?).bind (·.dst)with
  |some d=>match look s.fr d with
   |.a .tt=>bif want then run s else skip s
   |.a .ff=>bif want then skip s else run s
   |.a (.bool b)=>BC X.force b (bif want then run (s.set d (.a .tt))else skip (s.set d (.a .tt))) (bif want then skip (s.set d (.a .ff))else run (s.set d (.a .ff)))
   |.l8 []=>skip s
   |_=>False
  |none=>False
def R6(G:Fx)(ch:gM)(all:List Oper):List Oper->S->(S->Prop)->Prop
 |[],s,K=>K s
 |o::r,s,K=>BW G.X all o s
  (fun s=>Lg G ch o s fun v s=>D4 o v s fun s=>R6 G ch all r s K)
  (fun s=>D4 o (.l8 []) s fun s=>R6 G ch all r s K)
theorem gI.set{w0:World}{M:Nat->Prop}{ρ:Env}{s:S}{a:Act}{w:World}(h:gI w0 M ρ s a w){d:Nat}(hd:d<s.nt){sv:SV}{v:Value}(hv:sv.b8 ρ v) :
 gI w0 M ρ (s.set d sv) (a.put (some d) v) w where
 defers:=h.defers
 size:=by simpa[Act.put,S.set]using h.size
 n:=h.n
 frame:=h.frame.set (by rw[h.size];exact hd) hv
 heap:=h.heap
theorem gI.VG{w0:World}{M:Nat->Prop}{ρ:Env}{s:S}{a:Act}{w:World}(h:gI w0 M ρ s a w){d:Nat}{sv:SV}(hv:sv.b8 ρ (a.tmps.getD d undef)) :
 gI w0 M ρ (s.set d sv) a w where
 defers:=h.defers
 size:=h.size
 n:=h.n
 frame:=by
  intro j;simp only[S.set,look];by_cases hj:d=j
  ·subst hj;simp only[dh,cond_true];exact hv
  ·simp only[ey hj,cond_false];exact h.frame j
 heap:=h.heap
theorem pG{o:Oper}{sv:SV}{s:S}{K:S->Prop}(h:D4 o sv s K){w0:World}{M:Nat->Prop}{ρ:Env}{a:Act}{w:World}(hs:gI w0 M ρ s a w){v:Value}(hv:sv.b8 ρ v) :
 ∃s',K s'/\gI w0 M ρ s' (a.put o.dst v) w:=by
 unfold D4 at h;split at h
 ·rename_i hd;rw[hd];exact⟨s,h,hs⟩
 ·rename_i d hd;cases hb:Nat.blt d s.nt
  ·simp[hb]at h
  ·simp only[hb,cond_true,Ep]at h;rw[hd];exact⟨_,h,hs.set (by simp[Nat.blt]at hb;omega) hv⟩
theorem p5{ρ:Env}{s:S}{a:Act}(h:dy ρ s.fr a.tmps):∀l:List Operand,iU ρ (l.map s.ev) (l.map a.eval)
 |[]=>rfl
 |x::l=>⟨a.eval x,l.map a.eval,rfl,h.ev x,p5 h l⟩
theorem uo{ρ:Env}{xs:List A}{us:List Value}(h:ct ρ xs us):∀ {l:List SV} {vs:List Value},iU ρ l vs->iU ρ (l++xs.map SV.a) (vs++us)
 |[],vs,hl=>by
  have hl:vs=[]:=hl;subst hl
  induction xs generalizing us with
  |nil=>exact h
  |cons x xs ih =>
   obtain⟨u,t,rfl,r1,r2⟩:=h;exact⟨u,t,rfl,r1,ih r2⟩
 |x::l,vs,hl=>by
  obtain⟨v,r,rfl,h1,h2⟩:=hl;exact⟨v,r++us,rfl,h1,uo h h2⟩
theorem VH{G:Fx}(hG:G.Ok){ch:gM}(hch:IM G.X ch){o:Oper}{s:S}{K:KV}(h:Lg G ch o s K){w0:World}{M:Nat->Prop}{ρ:Env}{a:Act}{w:World}(hs:gI w0 M ρ s a w)
 {next:Act->World->Prop} {Q:Exit->Act->World->Prop} (hn:∀v w',Out w0 M ρ s w' v K->next (a.put o.dst v) w'):o.wp G.X.P a w next Q:=by
 have plain:∀K,Vg G.X o s K->(∀v w',Out w0 M ρ s w' v K->next (a.put o.dst v) w')->o.wp G.X.P a w next Q:=by
  intro K h hn;obtain⟨r,w',hr,v,hv,hout⟩:=R4 hG.cx h w0 M ρ a w hs;unfold Oper.wp;rw[hr];rcases hv with rfl | ⟨rfl,rfl⟩
  ·exact hn v w' hout
  ·exact hn _ w' hout
 unfold Lg at h;split at h
 ·rename_i c hc;split at h
  ·rename_i f hf;split at h
   ·rename_i g hg;split at h
    ·rename_i fn hfn;have hok:=hG.fns _ (rJ hfn);have hev:a.eval f = .func (.func g) #[] #[]:=by have:=hs.frame.ev f;rw[hg]at this;exact this
     have hcall:=hch _ _ _ _ h w0 M ρ w (c.args.toList.map a.eval) hs.n hs.heap (p5 hs.frame _);have hrun:(execOp a.eval o).run G.X.P w = .ok (.enter g (c.args.map a.eval)) w:=by
      obtain⟨callee,args,ts⟩:=c;simp only at hf;have hb:fn.body≠none:=by have:=hok.body;cases hh:fn.body<;>simp[hh]at this ⊢
      have hne : fn.name ≠ "runtime.NumGoroutine" := by have := hok.name; simpa using this
      simp[execOp,hc,hf,resolve,hev,Deferred.ofValue,invoke,callFunc,hok.at_,hne,hb]
     unfold Oper.wp;rw[hrun];show Calls G.X.P g _ w _;have e:(c.args.toList.map a.eval).toArray=c.args.map a.eval:=by apply Array.toList_inj.1;simp
     rw[e]at hcall;refine hcall.mono ?_;rintro e w' ⟨v,rfl,hout⟩;exact hn v w' hout
    ·exact h.elim
   ·rename_i g xs hg;split at h
    ·rename_i fn hfn;have hok:=hG.fns _ (rJ hfn);obtain⟨us,hev,hrep⟩:∃us:List Value,a.eval f = .func (.func g) #[] us.toArray/\ct ρ xs us:=by have:=hs.frame.ev f;rw[hg]at this;exact this
     have hcall:=hch _ _ _ _ h w0 M ρ w (c.args.toList.map a.eval++us) hs.n hs.heap (uo hrep (p5 hs.frame _));have hrun:(execOp a.eval o).run G.X.P w = .ok (.enter g (c.args.map a.eval++us.toArray)) w:=by
      obtain⟨callee,args,ts⟩:=c;simp only at hf;have hb:fn.body≠none:=by have:=hok.body;cases hh:fn.body<;>simp[hh]at this ⊢
      have hne : fn.name ≠ "runtime.NumGoroutine" := by have := hok.name; simpa using this
      simp[execOp,hc,hf,resolve,hev,Deferred.ofValue,invoke,callFunc,hok.at_,hne,hb]
     unfold Oper.wp;rw[hrun];show Calls G.X.P g _ w _;have e:(c.args.toList.map a.eval++us).toArray=c.args.map a.eval++us.toArray:=by apply Array.toList_inj.1;simp
     rw[e]at hcall;refine hcall.mono ?_;rintro e w' ⟨v,rfl,hout⟩;exact hn v w' hout
    ·exact h.elim
   ·exact h.elim
  ·exact plain K h hn
  ·exact h.elim
 ·exact plain K h hn
theorem vw{X:Cx}{all:List Oper}{o:Oper}{s:S}{run skip:S->Prop}(h:BW X all o s run skip){w0:World}{M:Nat->Prop}{ρ:Env}{a:Act}{w:World}(hs:gI w0 M ρ s a w) :
 ∃s',s'.nt=s.nt/\gI w0 M ρ s' a w/\s'.hp=s.hp/\((Region.wanted o (yielded all.toArray a.tmps)=true/\run s')\/(Region.wanted o (yielded all.toArray a.tmps)=false/\skip s')):=by
 unfold BW at h;have h:=NF h;split at h
 ·rename_i hg;exact⟨s,rfl,hs,rfl,.inl ⟨by simp[Region.wanted,hg],h⟩⟩
 ·rename_i j want hg;split at h
  ·rename_i d hd;have hy:∀b,a.tmps.getD d undef = .bool b->d<a.tmps.size->yielded all.toArray a.tmps j=some b:=by
    intro b hb hlt;unfold yielded;have:(all.toArray[j]?).bind (·.dst)=some d:=by simpa using hd
    rw[this];have e:a.tmps[d]? = some (.bool b):=by
     rw[Array.getElem?_eq_getElem hlt];congr 1;simpa[Array.getD,hlt]using hb
    simp[e]
   have hlt:∀b,a.tmps.getD d undef = .bool b->d<a.tmps.size:=by
    intro b hb;rcases Nat.lt_or_ge d a.tmps.size with h|h
    ·exact h
    ·simp[Array.getD,Nat.not_lt.2 h,undef]at hb
   have wn:∀b,a.tmps.getD d undef = .bool b->Region.wanted o (yielded all.toArray a.tmps)=(b == want):=by
    intro b hb;simp[Region.wanted,hg,hy b hb (hlt b hb)]
   have hf:=hs.frame d;split at h
   ·rename_i e;rw[e]at hf;have hb:a.tmps.getD d undef = .bool true:=hf;refine⟨s,rfl,hs,rfl,?_⟩;rw[wn true hb];cases want
    ·exact .inr ⟨rfl,h⟩
    ·exact .inl ⟨rfl,h⟩
   ·rename_i e;rw[e]at hf;have hb:a.tmps.getD d undef = .bool false:=hf;refine⟨s,rfl,hs,rfl,?_⟩;rw[wn false hb];cases want
    ·exact .inl ⟨rfl,h⟩
    ·exact .inr ⟨rfl,h⟩
   ·rename_i b e;rw[e]at hf;have hb:a.tmps.getD d undef = .bool b:=hf;rw[wn b hb];have h:=yN h;cases b
    ·refine⟨s.set d (.a .ff),rfl,hs.VG (d:=d) (sv:=.a .ff) hb,rfl,?_⟩;have h:=h.2 rfl;cases want
     ·exact .inl ⟨rfl,h⟩
     ·exact .inr ⟨rfl,h⟩
    ·refine⟨s.set d (.a .tt),rfl,hs.VG (d:=d) (sv:=.a .tt) hb,rfl,?_⟩;have h:=h.1 rfl;cases want
     ·exact .inr ⟨rfl,h⟩
     ·exact .inl ⟨rfl,h⟩
   ·rename_i e;rw[e]at hf;obtain⟨vs,hv,hvs⟩:=hf;have hvs:vs=[]:=hvs;subst hvs;refine⟨s,rfl,hs,rfl,.inr ⟨?_,h⟩⟩;have hy:yielded all.toArray a.tmps j=none:=by
     unfold yielded;have:(all.toArray[j]?).bind (·.dst)=some d:=by simpa using hd
     rw[this];by_cases hlt:d<a.tmps.size
     ·have e:a.tmps[d]? = some (.tuple #[]):=by
       rw[Array.getElem?_eq_getElem hlt];congr 1;simpa[Array.getD,hlt]using hv
      simp[e]
     ·simp[Array.getElem?_eq_none (Nat.not_lt.1 hlt)]
    simp[Region.wanted,hg,hy]
   ·exact h.elim
  ·exact h.elim
theorem Out.sat{w0:World}{M:Nat->Prop}{ρ:Env}{s:S}{a:Act}{w w':World}{v:Value}{K:KV}(hs:gI w0 M ρ s a w)(h:Out w0 M ρ s w' v K) :
 ∃sv s' ρ',K sv s'/\ρ.le ρ'/\sv.b8 ρ' v/\gI w0 M ρ' s' a w':=by
 obtain⟨sv,s',ρ',h1,h2,h3,h4,h5,h6,h7⟩:=h;exact⟨sv,s',ρ',h1,h4,h6,hs.defers,hs.size.trans h2.symm,h5,by rw[h3];exact hs.frame.mono h4,h7⟩
theorem FY{G:Fx}(hG:G.Ok){ch:gM}(hch:IM G.X ch){all:List Oper}{w0:World}{M:Nat->Prop}{Q:Exit->Act->World->Prop}{K:S->Prop}:∀(l:List Oper) (s:S) (ρ:Env) (a:Act) (w:World),R6 G ch all l s K->gI w0 M ρ s a w ->
 (∀s' ρ' a' w',K s'->ρ.le ρ'->gI w0 M ρ' s' a' w'->Q .normal a' w')->wpList G.X.P all.toArray Q l a w
 |[],s,ρ,a,w,h,hs,hQ=>hQ s ρ a w h (Env.le.refl ρ) hs
 |o::r,s,ρ,a,w,h,hs,hQ=>by
  simp only[R6]at h;obtain⟨s',_,hs',_,hcase⟩:=vw h hs;unfold wpList;rcases hcase with⟨hw,h⟩ | ⟨hw,h⟩
  ·rw[if_pos hw];refine .inl (VH hG hch h hs' fun v w' hout=>?_);obtain⟨sv,s'',ρ',hK,hle,hv,hs''⟩:=hout.sat hs';obtain⟨s3,h3,hs3⟩:=pG hK hs'' hv;exact FY hG hch r s3 ρ' _ w' h3 hs3 fun s4 ρ4 a4 w4 k hl hs4=>hQ s4 ρ4 a4 w4 k (hle.trans hl) hs4
  ·rw[if_neg (by simp[hw])];obtain⟨s3,h3,hs3⟩:=pG h hs' (v:=undef) ⟨[],rfl,rfl⟩;exact FY hG hch r s3 ρ _ w h3 hs3 hQ
end
section
variable {P:Program} {ops:Array Oper} {Q:Exit->Act->World->Prop}
def Xq(ops:Array Oper)(i j:Nat):Prop:=∃o,ops[j]? = some o/\∃e∈o.after,Region.binds .any e=true/\e.on=i
inductive yX(ops:Array Oper):Nat->Nat->Prop where
 |one {i j:Nat}:Xq ops i j->yX ops i j
 |step {i j k:Nat}:yX ops i j->Xq ops j k->yX ops i k
structure DE where
 i:Nat
 o:Oper
 v:Value
 m:Sem Next
 wanted:Bool
def jU(a:Act)(D:List DE):Act:=D.foldl (fun a d=>a.put d.o.dst d.v) a
theorem iE(a:Act)(D D':List DE):jU a (D++D')=jU (jU a D) D':=by simp[jU]
theorem pM(a:Act)(d:DE)(D:List DE):jU a (d::D)=jU (a.put d.o.dst d.v) D:=rfl
def D5(P:Program)(m:Sem Next)(w:World)(R:Value->World->Prop):Prop :=
 (∃v w',(m.run P w = .ok (.value v) w'\/(m.run P w = .ok .skip w'/\v=undef))/\R v w') \/
 (∃f args,m.run P w = .ok (.enter f args) w/\Calls P f args w fun e w'=>∃v,e = .returned v/\R v w')
theorem D5.wp{o:Oper}{a:Act}{w:World}{R:Value->World->Prop}(h:D5 P (execOp a.eval o) w R){next:Act->World->Prop}(hn:∀v w',R v w'->next (a.put o.dst v) w'):o.wp P a w next Q:=by
 unfold Oper.wp;rcases h with⟨v,w',h | ⟨h,rfl⟩,hr⟩ | ⟨f,args,h,hc⟩
 ·rw[h];exact hn _ _ hr
 ·rw[h];exact hn _ _ hr
 ·rw[h];refine hc.mono ?_;rintro e w' ⟨v,rfl,hr⟩;exact hn _ _ hr
def oF(P:Program)(ops:Array Oper)(iA:Nat->Nat->Bool)(Q:Act->World->Prop):List (Nat×Bool)->List (Nat×Sem Next×Value)->Act->World->Prop
 |[],_,a,w=>Q a w
 |(i,loud)::r,E,a,w =>
  match ops[i]? with
  |none=>False
  |some o =>
   if Region.wanted o (yielded ops a.tmps)=true then
    if loud=true then D5 P (execOp a.eval o) w fun v w'=>(∀e∈E,iA e.1 i=false->e.2.1.run P w' = .ok (.value e.2.2) w')/\oF P ops iA Q r (E.filter fun e=>!iA e.1 i) (a.put o.dst v) w'
    else ∃v,(execOp a.eval o).run P w = .ok (.value v) w/\oF P ops iA Q r ((i,execOp a.eval o,v)::E) (a.put o.dst v) w
   else oF P ops iA Q r E (a.put o.dst undef) w
def rK(o:Oper):Bool:=match o.op with | .select _ _=>false|_=>true
theorem BX{o:Oper}(h:rK o=true):∀cs b,o.op≠.select cs b:=by
 intro cs b e;simp[rK,e]at h
theorem p6{o:Oper}(hs:rK o=true):∀(D:List DE) (a:Act),(∀d∈D,d.o.apart ops o=true)->execOp (jU a D).eval o=execOp a.eval o/\Region.wanted o (yielded ops (jU a D).tmps)=Region.wanted o (yielded ops a.tmps)
 |[],_,_=>⟨rfl,rfl⟩
 |d::D,a,h=>by
  obtain⟨h1,_,_⟩:=Oper.apart_spec (h d List.mem_cons_self);obtain⟨e1,e2⟩:=p6 hs D (a.put d.o.dst d.v) fun x hx=>h x (List.mem_cons_of_mem _ hx);rw[pM];exact⟨e1.trans (execOp_put o (BX hs) a d.o.dst d.v h1),e2.trans (wanted_put o a d.o.dst d.v h1)⟩
theorem lH{o:Oper}(u:Value):∀(D:List DE) (a:Act),(∀d∈D,d.o.apart ops o=true)->jU (a.put o.dst u) D=(jU a D).put o.dst u
 |[],_,_=>rfl
 |d::D,a,h=>by
  obtain⟨_,h2,_⟩:=Oper.apart_spec (h d List.mem_cons_self);rw[pM,pM,<- lH u D _ fun x hx=>h x (List.mem_cons_of_mem _ hx)];rw[Act.put_comm a d.v u h2]
def aK(P:Program)(ops:Array Oper)(w:World):Act->List DE->Prop
 |_,[]=>True
 |a,d::D=>Region.wanted d.o (yielded ops a.tmps)=d.wanted/\(d.wanted=true->execOp a.eval d.o=d.m/\d.m.run P w = .ok (.value d.v) w)/\(d.wanted=false->d.v=undef)/\aK P ops w (a.put d.o.dst d.v) D
theorem aK.append{w:World}:∀ {D D':List DE} {a:Act},aK P ops w a D->aK P ops w (jU a D) D'->aK P ops w a (D++D')
 |[],_,_,_,h=>h
 |_::_,_,_,⟨h1,h2,h3,h4⟩,h=>⟨h1,h2,h3,aK.append h4 h⟩
theorem aK.right{w:World}:∀ {D D':List DE} {a:Act},aK P ops w a (D++D')->aK P ops w (jU a D) D'
 |[],_,_,h=>h
 |d::_,D',a,⟨_,_,_,h4⟩=>by rw[pM];exact aK.right h4
theorem aK.left{w:World}:∀ {D D':List DE} {a:Act},aK P ops w a (D++D')->aK P ops w a D
 |[],_,_,_=>trivial
 |_::_,_,_,⟨h1,h2,h3,h4⟩=>⟨h1,h2,h3,aK.left h4⟩
theorem aK.other{w:World}{o:Oper}{u:Value}:∀ {D:List DE} {a:Act},(∀d∈D,d.o.apart ops o=true/\rK d.o=true)->aK P ops w a D->aK P ops w (a.put o.dst u) D
 |[],_,_,_=>trivial
 |d::D,a,h,⟨h1,h2,h3,h4⟩=>by
  obtain⟨hap,hs⟩:=h d List.mem_cons_self;obtain⟨_,g2,g3⟩:=Oper.apart_spec hap;refine⟨(wanted_put d.o a o.dst u g3).trans h1,fun hw=>?_,h3,?_⟩
  ·obtain⟨q1,q2⟩:=h2 hw;exact⟨(execOp_put d.o (BX hs) a o.dst u g3).trans q1,q2⟩
  ·have e:(a.put o.dst u).put d.o.dst d.v=(a.put d.o.dst d.v).put o.dst u:=Act.put_comm a u d.v fun x hx hd=>g2 x hd hx;rw[e];exact aK.other (fun x hx=>h x (List.mem_cons_of_mem _ hx)) h4
theorem aK.world{w w':World}:∀ {D:List DE} {a:Act},(∀d∈D,d.wanted=true->d.m.run P w' = .ok (.value d.v) w')->aK P ops w a D->aK P ops w' a D
 |[],_,_,_=>trivial
 |d::_,_,h,⟨h1,h2,h3,h4⟩=>⟨h1,fun hw=>⟨(h2 hw).1,h d List.mem_cons_self hw⟩,h3,aK.world (fun x hx=>h x (List.mem_cons_of_mem _ hx)) h4⟩
structure fe(ops:Array Oper)(listed:Array Bool)(xs:List Nat):Prop where
 size:listed.size=ops.size
 lt:∀x∈xs,x<ops.size
 un:∀x∈xs,listed.getD x true=false
 nodup:xs.Nodup
 all:∀k,k<ops.size->listed.getD k true=true\/k∈xs
 real:∀i j,Xq ops i j->listed.getD j false=true->listed.getD i false=true
 Xr:xs.Pairwise fun x y=>¬yX ops y x
structure A5(ops:Array Oper)(iA:Nat->Nat->Bool):Prop where
 apart:∀(i j:Nat) (oi oj:Oper),ops[i]? = some oi->ops[j]? = some oj->i≠j->yX ops i j\/yX ops j i\/oi.apart ops oj=true
 Rb:∀(i:Nat) (o:Oper),ops[i]? = some o->rK o=true
 iA:∀i j,j<ops.size->iA i j=true->yX ops i j
 lt:∀i j,Xq ops i j->i≠j/\i<ops.size
theorem wE{x y:Oper}(h:x.apart ops y=true):y.apart ops x=true:=by
 obtain⟨h1,h2,h3⟩:=Oper.apart_spec h;unfold Oper.apart;cases hx:x.dst with
 |none =>
  cases hy:y.dst with
  |none=>rfl
  |some d =>
   have:=h3 d hy
   simp_all
 |some e =>
  have g1:=h1 e hx;cases hy:y.dst with
  |none=>simp_all
  |some d =>
   have g2:=h2 e hx;have g3:=h3 d hy;rw[hy]at g2;have:e≠d:=fun h=>g2 (by rw[h])
   simp_all
theorem NO{listed:Array Bool}{n i:Nat}(hs:listed.size=n)(hi:i<n)(b:Bool):listed.getD i true=b↔listed.getD i false=b:=by
 simp[Array.getD,hs,hi]
theorem jX{listed:Array Bool}{i:Nat}(h:i∈Region.ready .any ops listed):i<ops.size/\listed.getD i true=false/\∀j,Xq ops j i->listed.getD j false=true:=by
 obtain⟨h2,o,ho,hall⟩:=mem_ready.1 h;refine⟨(Array.getElem?_eq_some_iff.1 ho).1,h2,?_⟩;rintro j ⟨o',ho',e,he,hb,rfl⟩;rw[ho]at ho';cases ho';exact hall e he hb
theorem Jg{listed:Array Bool}{i:Nat}(h1:i<ops.size)(h2:listed.getD i true=false)(h3:∀j,Xq ops j i->listed.getD j false=true):i∈Region.ready .any ops listed :=
 mem_ready.2 ⟨h2,ops[i],Array.getElem?_eq_getElem h1,fun e he hb=>h3 e.on ⟨_,Array.getElem?_eq_getElem h1,e,he,hb,rfl⟩⟩
theorem fe.VI{listed:Array Bool}{xs:List Nat}(h:fe ops listed xs){i j:Nat}(ha:yX ops i j)(hj:listed.getD j false=true):listed.getD i false=true:=by
 induction ha with
 |one d=>exact h.real _ _ d hj
 |step _ d ih=>exact ih (h.real _ _ d hj)
theorem Pc{listed:Array Bool}{xs:List Nat}(h:fe ops listed xs){i j:Nat}(hr:i∈Region.ready .any ops listed)(ha:yX ops j i):listed.getD j false=true:=by
 obtain⟨_,_,h3⟩:=jX hr;cases ha with
 |one d=>exact h3 _ d
 |step ha d=>exact h.VI ha (h3 _ d)
theorem lY{listed:Array Bool}{xs:List Nat}(h:fe ops listed xs){i j:Nat}(hr:i∈Region.ready .any ops listed)(hj:j∈xs):¬yX ops j i:=by
 intro ha;have h1:=Pc h hr ha;have h2:=h.un j hj;rw[NO h.size (h.lt j hj)]at h2;rw[h2]at h1;cases h1
theorem fe.take{listed:Array Bool}{L R:List Nat}{i:Nat}(h:fe ops listed (L++i::R))(hr:i∈Region.ready .any ops listed):fe ops (listed.setIfInBounds i true) (L++R):=by
 obtain⟨hlt,hun,hdep⟩:=jX hr;have hsub:(L++R).Sublist (L++i::R):=List.Sublist.append (List.Sublist.refl L) (List.sublist_cons_self i R);have hne:∀x∈L++R,x≠i:=by
  intro x hx e;subst e;have:=h.nodup;rw[List.nodup_append]at this;obtain⟨_,h2,h3⟩:=this;rcases List.mem_append.1 hx with hx|hx
  ·exact h3 x hx x List.mem_cons_self rfl
  ·exact(List.nodup_cons.1 h2).1 hx
 have setf:∀k,listed.getD k false=true->(listed.setIfInBounds i true).getD k false=true:=by
  intro k hk;by_cases hki:i=k
  ·subst hki;simp[Array.getD,h.size,hlt]
  ·rw[getD_set_ne false hki];exact hk
 refine⟨by simpa using h.size,fun x hx=>h.lt x (hsub.subset hx),?_,h.nodup.sublist hsub,?_,?_,h.Xr.sublist hsub⟩
 ·intro x hx;rw[getD_set_ne true (Ne.symm (hne x hx))];exact h.un x (hsub.subset hx)
 ·intro k hk;by_cases hki:i=k
  ·subst hki;left;simp[Array.getD,h.size,hlt]
  ·rw[getD_set_ne true hki];rcases h.all k hk with h'|h'
   ·exact .inl h'
   ·right;simp only[List.mem_append,List.mem_cons]at h' ⊢;rcases h' with h'|h'|h'
    ·exact .inl h'
    ·exact absurd h'.symm hki
    ·exact .inr h'
 ·intro k j hd hj;apply setf;by_cases hji:i=j
  ·subst hji;exact hdep k hd
  ·rw[getD_set_ne false hji]at hj;exact h.real k j hd hj
theorem fe.head{iA:Nat->Nat->Bool}(hf:A5 ops iA){listed:Array Bool}{x:Nat}{xs:List Nat}(h:fe ops listed (x::xs)):x∈Region.ready .any ops listed:=by
 refine Jg (h.lt x List.mem_cons_self) (h.un x List.mem_cons_self) fun j hd=>?_;obtain⟨hne,hlt⟩:=hf.lt _ _ hd;rw[<- NO h.size hlt];rcases h.all j hlt with h'|h'
 ·exact h'
 ·rcases List.mem_cons.1 h' with rfl|h'
  ·exact absurd rfl hne
  ·exact absurd (.one hd) ((List.pairwise_cons.1 h.Xr).1 j h')
theorem lZ{iA:Nat->Nat->Bool}(hf:A5 ops iA){listed:Array Bool}{L R:List Nat}{i:Nat}(h:fe ops listed (L++i::R))(hr:i∈Region.ready .any ops listed){j:Nat}(hj:j∈L){oi oj:Oper}(hoi:ops[i]? = some oi)(hoj:ops[j]? = some oj):oj.apart ops oi=true:=by
 have hne:j≠i:=by
  rintro rfl;exact(List.nodup_append.1 h.nodup).2.2 j hj j List.mem_cons_self rfl
 rcases hf.apart j i oj oi hoj hoi hne with h'|h'|h'
 ·exact absurd h' (lY h hr (List.mem_append_left _ hj))
 ·exact absurd h' ((List.pairwise_append.1 h.Xr).2.2 j hj i List.mem_cons_self)
 ·exact h'
def mm(ops:Array Oper)(pi:List (Nat×Bool)):Prop:=∀(L R:List (Nat×Bool)) (h:Nat),pi=L++(h,true)::R->∀q∈R,yX ops h q.1
theorem mm.drop{L R:List (Nat×Bool)}(h:mm ops (L++R)):mm ops R:=fun L' R' x e=>h (L++L') R' x (by rw[e];simp)
theorem advance{iA:Nat->Nat->Bool}{Q:Act->World->Prop}:∀(L R:List (Nat×Bool)) (E:List (Nat×Sem Next×Value)) (a:Act) (w:World),(∀p∈L,p.2=false)->oF P ops iA Q (L++R) E a w ->
 ∃D E',D.map (·.i)=L.map (·.1)/\(∀d∈D,ops[d.i]? = some d.o)/\aK P ops w a D/\(∀e∈E,e∈E')/\(∀d∈D,d.wanted=true->(d.i,d.m,d.v)∈E')/\oF P ops iA Q R E' (jU a D) w
 |[],R,E,a,w,_,h=>⟨[],E,rfl,fun d hd=>(by cases hd),trivial,fun e he=>he,fun d hd=>(by cases hd),h⟩
 |(i,b)::L,R,E,a,w,hq,h=>by
  have hb:b=false:=hq (i,b) List.mem_cons_self;subst hb;simp only[List.cons_append,oF]at h;cases ho:ops[i]? with
  |none=>rw[ho]at h;exact h.elim
  |some o =>
   rw[ho]at h;simp only at h;by_cases hw:Region.wanted o (yielded ops a.tmps)=true
   ·rw[if_pos hw]at h;simp only[Bool.false_eq_true,if_false]at h;obtain⟨v,hv,h⟩:=h;obtain⟨D,E',e1,e2,e3,e4,e5,e6⟩:=advance L R _ _ w (fun p hp=>hq p (List.mem_cons_of_mem _ hp)) h;refine⟨⟨i,o,v,execOp a.eval o,true⟩::D,E',by simp[e1],?_,⟨hw,fun _=>⟨rfl,hv⟩,fun h=>(by cases h),e3⟩,fun e he=>e4 e (List.mem_cons_of_mem _ he),?_,e6⟩
    ·intro d hd;rcases List.mem_cons.1 hd with rfl|hd
     ·exact ho
     ·exact e2 d hd
    ·intro d hd hw;rcases List.mem_cons.1 hd with rfl|hd
     ·exact e4 _ List.mem_cons_self
     ·exact e5 d hd hw
   ·rw[if_neg hw]at h;obtain⟨D,E',e1,e2,e3,e4,e5,e6⟩:=advance L R _ _ w (fun p hp=>hq p (List.mem_cons_of_mem _ hp)) h;refine⟨⟨i,o,undef,.pure .skip,false⟩::D,E',by simp[e1],?_,⟨by simpa using hw,fun h=>(by cases h),fun _=>rfl,e3⟩,e4,?_,e6⟩
    ·intro d hd;rcases List.mem_cons.1 hd with rfl|hd
     ·exact ho
     ·exact e2 d hd
    ·intro d hd hw;rcases List.mem_cons.1 hd with rfl|hd
     ·cases hw
     ·exact e5 d hd hw
theorem sA{iA:Nat->Nat->Bool}(hf:A5 ops iA){Q:Act->World->Prop}{Q':Exit->Act->World->Prop}(hQ:∀a w,Q a w->Q' .normal a w):∀(fuel:Nat) (D:List DE) (pi:List (Nat×Bool)) (E:List (Nat×Sem Next×Value)) (listed:Array Bool) (a:Act) (w:World),
 D.length+pi.length=fuel->fe ops listed (D.map (·.i)++pi.map (·.1))->(∀d∈D,ops[d.i]? = some d.o)->mm ops pi->aK P ops w a D->(∀d∈D,d.wanted=true->(d.i,d.m,d.v)∈E) ->
 oF P ops iA Q pi E (jU a D) w->wpAny P .any ops Q' fuel listed a w:=by
 intro fuel
 induction fuel with
 |zero =>
  intro D pi E listed a w hlen hst hop hlo hpr hE hrun;have hD:D=[]:=by cases D<;>simp_all
  have hp:pi=[]:=by cases pi<;>simp_all
  subst hD hp;refine⟨?_,hQ _ _ hrun⟩;apply List.eq_nil_iff_forall_not_mem.2;intro i hi;obtain⟨h1,h2,_⟩:=jX hi;rcases hst.all i h1 with h|h
  ·rw[h]at h2;cases h2
  ·cases h
 |succ fuel ih =>
  intro D pi E listed a w hlen hst hop hlo hpr hE hrun;refine⟨?_,?_⟩
  ·intro h0;cases hx:D.map (·.i)++pi.map (·.1)with
   |nil =>
    have:=congrArg List.length hx;simp only[List.length_append,List.length_map,List.length_nil]at this;omega
   |cons x xs =>
    rw[hx]at hst;have:=hst.head hf;rw[h0]at this;cases this
  ·intro i hi;obtain⟨hilt,hiun,_⟩:=jX hi;have key:∀(D:List DE) (b:Bool) (R:List (Nat×Bool)) (E:List (Nat×Sem Next×Value)),D.length+R.length=fuel->fe ops listed (D.map (·.i)++i::R.map (·.1))->(∀d∈D,ops[d.i]? = some d.o)->mm ops ((i,b)::R)->aK P ops w a D->(∀d∈D,d.wanted=true->(d.i,d.m,d.v)∈E) ->
    oF P ops iA Q ((i,b)::R) E (jU a D) w->wpOp P ops Q' i (wpAny P .any ops Q' fuel (listed.setIfInBounds i true)) a w:=by
    intro D b R E hlen hst hop hlo hpr hE hrun;have hst':=hst.take hi;simp only[oF]at hrun;unfold wpOp;cases ho:ops[i]? with
    |none=>rw[ho]at hrun;exact hrun.elim
    |some o =>
     rw[ho]at hrun;simp only at hrun ⊢;have hap:∀d∈D,d.o.apart ops o=true:=fun d hd=>lZ hf hst hi (List.mem_map_of_mem hd) ho (hop d hd);have hap':∀d∈D,o.apart ops d.o=true:=fun d hd=>wE (hap d hd);have hselo:=hf.Rb i o ho;have hseld:∀d∈D,d.o.apart ops o=true/\rK d.o=true:=fun d hd=>⟨hap d hd,hf.Rb d.i d.o (hop d hd)⟩
     obtain⟨e1,e2⟩:=p6 hselo D a hap;rw[e1,e2]at hrun;have hlo':mm ops R:=mm.drop (L:=[(i,b)]) hlo;by_cases hw:Region.wanted o (yielded ops a.tmps)=true
     ·rw[if_pos hw]at hrun ⊢;refine .inl ?_;cases b with
      |true =>
       simp only[if_true]at hrun;refine hrun.wp fun v w' ⟨hst2,hr⟩=>?_;rw[<- lH v D a hap]at hr;have hna:∀d∈D,iA d.i i=false:=fun d hd=>by
        cases hc:iA d.i i with
        |false=>rfl
        |true=>exact absurd (hf.iA _ _ hilt hc) (lY hst hi (List.mem_append_left _ (List.mem_map_of_mem hd)))
       refine ih D R _ _ _ w' hlen hst' hop hlo' ?_ (fun d hd hdw=>List.mem_filter.2 ⟨hE d hd hdw,by rw[hna d hd];rfl⟩) hr;refine aK.world (fun d hd hdw=>?_) (aK.other hseld hpr);exact hst2 (d.i,d.m,d.v) (hE d hd hdw) (hna d hd)
      |false =>
       simp only[Bool.false_eq_true,if_false]at hrun;obtain⟨v,hv,hr⟩:=hrun;unfold Oper.wp;rw[hv];rw[<- lH v D a hap]at hr;exact ih D R _ _ _ w hlen hst' hop hlo' (aK.other hseld hpr) (fun d hd hdw=>List.mem_cons_of_mem _ (hE d hd hdw)) hr
     ·rw[if_neg hw]at hrun ⊢;rw[<- lH undef D a hap]at hrun;exact ih D R E _ _ w hlen hst' hop hlo' (aK.other hseld hpr) hE hrun
   have hmem:i∈D.map (·.i)++pi.map (·.1):=by
    rcases hst.all i hilt with h|h
    ·rw[h]at hiun;cases hiun
    ·exact h
   rcases List.mem_append.1 hmem with hm|hm
   ·obtain⟨d,hd,hdi⟩:=List.mem_map.1 hm;obtain⟨D1,D2,rfl⟩:=List.append_of_mem hd;have hdo:ops[i]? = some d.o:=by rw[<- hdi];exact hop d hd
    have hst2:fe ops listed (D1.map (·.i)++i::(D2.map (·.i)++pi.map (·.1))):=by
     have e:(D1++d::D2).map (·.i)++pi.map (·.1)=D1.map (·.i)++i::(D2.map (·.i)++pi.map (·.1)):=by simp[hdi]
     rw[e]at hst;exact hst
    have hap:∀x∈D1,x.o.apart ops d.o=true:=fun x hx=>lZ hf hst2 hi (List.mem_map_of_mem hx) hdo (hop x (List.mem_append_left _ hx));have hseld:∀x∈D1,x.o.apart ops d.o=true/\rK x.o=true:=fun x hx=>⟨hap x hx,hf.Rb x.i x.o (hop x (List.mem_append_left _ hx))⟩
    obtain⟨e1,e2⟩:=p6 (hf.Rb i d.o hdo) D1 a hap;have hr:=aK.right hpr;have hl:=aK.left hpr;obtain⟨g1,g2,g3,g4⟩:=hr;rw[e2]at g1;rw[e1]at g2;have hnew:aK P ops w (a.put d.o.dst d.v) (D1++D2):=by
     refine aK.append (aK.other hseld hl) ?_;rw[lH d.v D1 a hap];exact g4
    have hputs:jU a (D1++d::D2)=jU (a.put d.o.dst d.v) (D1++D2):=by
     rw[iE,pM,iE,lH d.v D1 a hap]
    have hst3:fe ops (listed.setIfInBounds i true) ((D1++D2).map (·.i)++pi.map (·.1)):=by
     have:=hst2.take hi;simpa using this
    have hnext:wpAny P .any ops Q' fuel (listed.setIfInBounds i true) (a.put d.o.dst d.v) w:=by
     refine ih (D1++D2) pi E _ _ w (by simp at hlen ⊢;omega) hst3 ?_ hlo hnew ?_ (by rw[<- hputs];exact hrun)
     ·intro x hx;refine hop x ?_;simp only[List.mem_append,List.mem_cons]at hx ⊢;rcases hx with h|h
      ·exact .inl h
      ·exact .inr (.inr h)
     ·intro x hx;refine hE x ?_;simp only[List.mem_append,List.mem_cons]at hx ⊢;rcases hx with h|h
      ·exact .inl h
      ·exact .inr (.inr h)
    unfold wpOp;rw[hdo];simp only;cases hdw:d.wanted with
    |true =>
     rw[hdw]at g1;rw[if_pos g1];obtain⟨q1,q2⟩:=g2 hdw;refine .inl ?_;unfold Oper.wp;rw[q1,q2];exact hnext
    |false =>
     rw[hdw]at g1;rw[if_neg (by simp[g1])];rw[g3 hdw]at hnext;exact hnext
   ·obtain⟨p,hp,hpi⟩:=List.mem_map.1 hm;obtain⟨L,R,rfl⟩:=List.append_of_mem hp;obtain⟨i',b⟩:=p;simp only at hpi;subst hpi;have hq:∀p∈L,p.2=false:=by
     intro p hpL;cases hb:p.2 with
     |false=>rfl
     |true =>
      obtain⟨L1,L2,rfl⟩:=List.append_of_mem hpL;have:yX ops p.1 i':=hlo L1 (L2++(i',b)::R) p.1 (by rw[<- hb];simp) (i',b) (by simp);exact absurd this (lY hst hi (List.mem_append_right _ (List.mem_map_of_mem (List.mem_append_left _ hpL))))
    obtain⟨D',E',f1,f2,f3,f4,f5,f6⟩:=advance L ((i',b)::R) E _ w hq hrun;refine key (D++D') b R E' ?_ ?_ ?_ (mm.drop hlo) (aK.append hpr f3) ?_ ?_
    ·have:=congrArg List.length f1;simp at this hlen ⊢;omega
    ·have e:(D++D').map (·.i)++i'::R.map (·.1)=D.map (·.i)++(L++(i',b)::R).map (·.1):=by simp[f1]
     rw[e];exact hst
    ·intro d hd;rcases List.mem_append.1 hd with h|h
     ·exact hop d h
     ·exact f2 d h
    ·intro d hd hdw;rcases List.mem_append.1 hd with h|h
     ·exact f4 _ (hE d h hdw)
     ·exact f5 d h hdw
    ·rw[iE];exact f6
end
section
variable {P:Program} {ops:Array Oper}
theorem Pd{iA:Nat->Nat->Bool}(hf:A5 ops iA){Q:Act->World->Prop}{Q':Exit->Act->World->Prop}{fuel:Nat}{listed:Array Bool}{a:Act}{w:World}{i:Nat}(hi:i∈Region.ready .any ops listed)
 {D:List DE} {b:Bool} {R:List (Nat×Bool)} {E:List (Nat×Sem Next×Value)}
 (ih:∀(E:List (Nat×Sem Next×Value)) (listed:Array Bool) (a:Act) (w:World),fe ops listed (D.map (·.i)++R.map (·.1))->aK P ops w a D->(∀d∈D,d.wanted=true->(d.i,d.m,d.v)∈E)->oF P ops iA Q R E (jU a D) w->wpAny P .any ops Q' fuel listed a w)
 (hst:fe ops listed (D.map (·.i)++i::R.map (·.1))) (hop:∀d∈D,ops[d.i]? = some d.o) (hpr:aK P ops w a D) (hE:∀d∈D,d.wanted=true->(d.i,d.m,d.v)∈E)
 (hrun:oF P ops iA Q ((i,b)::R) E (jU a D) w):wpOp P ops Q' i (wpAny P .any ops Q' fuel (listed.setIfInBounds i true)) a w:=by
 obtain⟨hilt,hiun,_⟩:=jX hi;have hst':=hst.take hi;simp only[oF]at hrun;unfold wpOp;cases ho:ops[i]? with
 |none=>rw[ho]at hrun;exact hrun.elim
 |some o =>
  rw[ho]at hrun;simp only at hrun ⊢;have hap:∀d∈D,d.o.apart ops o=true:=fun d hd=>lZ hf hst hi (List.mem_map_of_mem hd) ho (hop d hd);have hap':∀d∈D,o.apart ops d.o=true:=fun d hd=>wE (hap d hd);have hselo:=hf.Rb i o ho;have hseld:∀d∈D,d.o.apart ops o=true/\rK d.o=true:=fun d hd=>⟨hap d hd,hf.Rb d.i d.o (hop d hd)⟩
  obtain⟨e1,e2⟩:=p6 hselo D a hap;rw[e1,e2]at hrun;by_cases hw:Region.wanted o (yielded ops a.tmps)=true
  ·rw[if_pos hw]at hrun ⊢;refine .inl ?_;cases b with
   |true =>
    simp only[if_true]at hrun;refine hrun.wp fun v w' ⟨hst2,hr⟩=>?_;rw[<- lH v D a hap]at hr;have hna:∀d∈D,iA d.i i=false:=fun d hd=>by
     cases hc:iA d.i i with
     |false=>rfl
     |true=>exact absurd (hf.iA _ _ hilt hc) (lY hst hi (List.mem_append_left _ (List.mem_map_of_mem hd)))
    refine ih _ _ _ w' hst' ?_ (fun d hd hdw=>List.mem_filter.2 ⟨hE d hd hdw,by rw[hna d hd];rfl⟩) hr;refine aK.world (fun d hd hdw=>?_) (aK.other hseld hpr);exact hst2 (d.i,d.m,d.v) (hE d hd hdw) (hna d hd)
   |false =>
    simp only[Bool.false_eq_true,if_false]at hrun;obtain⟨v,hv,hr⟩:=hrun;unfold Oper.wp;rw[hv];rw[<- lH v D a hap]at hr;exact ih _ _ _ w hst' (aK.other hseld hpr) (fun d hd hdw=>List.mem_cons_of_mem _ (hE d hd hdw)) hr
  ·rw[if_neg hw]at hrun ⊢;rw[<- lH undef D a hap]at hrun;exact ih E _ _ w hst' (aK.other hseld hpr) hE hrun
theorem BY{iA:Nat->Nat->Bool}(hf:A5 ops iA){Q':Exit->Act->World->Prop}{fuel:Nat}{listed:Array Bool}{a:Act}{w:World}{i:Nat}(hi:i∈Region.ready .any ops listed)
 {D:List DE} {X:List Nat} {E:List (Nat×Sem Next×Value)} {C:List (Nat×Sem Next×Value)->Act->Prop}
 (ih:∀(E:List (Nat×Sem Next×Value)) (a:Act),aK P ops w a D->(∀d∈D,d.wanted=true->(d.i,d.m,d.v)∈E)->C E (jU a D)->wpAny P .any ops Q' fuel (listed.setIfInBounds i true) a w)
 (hst:fe ops listed (D.map (·.i)++i::X)) (hop:∀d∈D,ops[d.i]? = some d.o) (hpr:aK P ops w a D) (hE:∀d∈D,d.wanted=true->(d.i,d.m,d.v)∈E) {o:Oper} (ho:ops[i]? = some o)
 (hrun:if Region.wanted o (yielded ops (jU a D).tmps)=true then ∃v,(execOp (jU a D).eval o).run P w = .ok (.value v) w/\C ((i,execOp (jU a D).eval o,v)::E) ((jU a D).put o.dst v)else C E ((jU a D).put o.dst undef)) :
 wpOp P ops Q' i (wpAny P .any ops Q' fuel (listed.setIfInBounds i true)) a w:=by
 unfold wpOp;rw[ho];simp only;have hap:∀d∈D,d.o.apart ops o=true:=fun d hd=>lZ hf hst hi (List.mem_map_of_mem hd) ho (hop d hd);have hselo:=hf.Rb i o ho;have hseld:∀d∈D,d.o.apart ops o=true/\rK d.o=true:=fun d hd=>⟨hap d hd,hf.Rb d.i d.o (hop d hd)⟩
 obtain⟨e1,e2⟩:=p6 hselo D a hap;rw[e1,e2]at hrun;by_cases hw:Region.wanted o (yielded ops a.tmps)=true
 ·rw[if_pos hw]at hrun ⊢;refine .inl ?_;obtain⟨v,hv,hr⟩:=hrun;unfold Oper.wp;rw[hv];rw[<- lH v D a hap]at hr;exact ih _ _ (aK.other hseld hpr) (fun d hd hdw=>List.mem_cons_of_mem _ (hE d hd hdw)) hr
 ·rw[if_neg hw]at hrun ⊢;rw[<- lH undef D a hap]at hrun;exact ih E _ (aK.other hseld hpr) hE hrun
theorem v7{iA:Nat->Nat->Bool}(hf:A5 ops iA){Q':Exit->Act->World->Prop}{fuel:Nat}{listed:Array Bool}{a:Act}{w:World}{i:Nat}(hi:i∈Region.ready .any ops listed)
 {D:List DE} {X:List Nat} {d:DE} (hd:d∈D) (hdi:d.i=i) (hst:fe ops listed (D.map (·.i)++X)) (hop:∀d∈D,ops[d.i]? = some d.o) (hpr:aK P ops w a D)
 (next:∀(D1 D2:List DE) (a':Act),D=D1++d::D2->aK P ops w a' (D1++D2)->jU a D=jU a' (D1++D2)->wpAny P .any ops Q' fuel (listed.setIfInBounds i true) a' w) :
 wpOp P ops Q' i (wpAny P .any ops Q' fuel (listed.setIfInBounds i true)) a w:=by
 obtain⟨D1,D2,rfl⟩:=List.append_of_mem hd;have hdo:ops[i]? = some d.o:=by rw[<- hdi];exact hop d hd
 have hst2:fe ops listed (D1.map (·.i)++i::(D2.map (·.i)++X)):=by
  have e:(D1++d::D2).map (·.i)++X=D1.map (·.i)++i::(D2.map (·.i)++X):=by simp[hdi]
  rw[e]at hst;exact hst
 have hap:∀x∈D1,x.o.apart ops d.o=true:=fun x hx=>lZ hf hst2 hi (List.mem_map_of_mem hx) hdo (hop x (List.mem_append_left _ hx));have hseld:∀x∈D1,x.o.apart ops d.o=true/\rK x.o=true:=fun x hx=>⟨hap x hx,hf.Rb x.i x.o (hop x (List.mem_append_left _ hx))⟩
 obtain⟨e1,e2⟩:=p6 (hf.Rb i d.o hdo) D1 a hap;have hr:=aK.right hpr;have hl:=aK.left hpr;obtain⟨g1,g2,g3,g4⟩:=hr;rw[e2]at g1;rw[e1]at g2;have hnew:aK P ops w (a.put d.o.dst d.v) (D1++D2):=by
  refine aK.append (aK.other hseld hl) ?_;rw[lH d.v D1 a hap];exact g4
 have hputs:jU a (D1++d::D2)=jU (a.put d.o.dst d.v) (D1++D2):=by
  rw[iE,pM,iE,lH d.v D1 a hap]
 have hnext:wpAny P .any ops Q' fuel (listed.setIfInBounds i true) (a.put d.o.dst d.v) w:=next D1 D2 _ rfl hnew hputs
 unfold wpOp;rw[hdo];simp only;cases hdw:d.wanted with
 |true =>
  rw[hdw]at g1;rw[if_pos g1];obtain⟨q1,q2⟩:=g2 hdw;refine .inl ?_;unfold Oper.wp;rw[q1,q2];exact hnext
 |false =>
  rw[hdw]at g1;rw[if_neg (by simp[g1])];rw[g3 hdw]at hnext;exact hnext
def jY(P:Program)(ops:Array Oper)(K:List (Nat×Sem Next×Value)->Act->World->Prop):List Nat->List (Nat×Sem Next×Value)->Act->World->Prop
 |[],E,a,w=>K E a w
 |i::r,E,a,w =>
  match ops[i]? with
  |none=>False
  |some o =>
   if Region.wanted o (yielded ops a.tmps)=true then ∃v,(execOp a.eval o).run P w = .ok (.value v) w/\jY P ops K r ((i,execOp a.eval o,v)::E) (a.put o.dst v) w
   else jY P ops K r E (a.put o.dst undef) w
theorem wF{iA:Nat->Nat->Bool}{Q:Act->World->Prop}{R1 R2:List (Nat×Bool)}:∀(L:List Nat) (E:List (Nat×Sem Next×Value)) (a:Act) (w:World),
 oF P ops iA Q (L.map (fun i=>(i,false))++R1) E a w->oF P ops iA Q (L.map (fun i=>(i,false))++R2) E a w->jY P ops (fun E a w=>oF P ops iA Q R1 E a w/\oF P ops iA Q R2 E a w) L E a w
 |[],_,_,_,h1,h2=>⟨h1,h2⟩
 |i::L,E,a,w,h1,h2=>by
  simp only[List.map_cons,List.cons_append,oF,jY]at h1 h2 ⊢;cases ho:ops[i]? with
  |none=>rw[ho]at h1;exact h1.elim
  |some o =>
   rw[ho]at h1 h2;simp only at h1 h2 ⊢;by_cases hw:Region.wanted o (yielded ops a.tmps)=true
   ·rw[if_pos hw]at h1 h2 ⊢;simp only[Bool.false_eq_true,if_false]at h1 h2;obtain⟨v,hv,h1⟩:=h1;obtain⟨v',hv',h2⟩:=h2;rw[hv]at hv';cases hv';exact⟨v,hv,wF L _ _ w h1 h2⟩
   ·rw[if_neg hw]at h1 h2 ⊢;exact wF L _ _ w h1 h2
theorem rL{K:List (Nat×Sem Next×Value)->Act->World->Prop}:∀(L R:List Nat) (E:List (Nat×Sem Next×Value)) (a:Act) (w:World),jY P ops K (L++R) E a w ->
 ∃D E',D.map (·.i)=L/\(∀d∈D,ops[d.i]? = some d.o)/\aK P ops w a D/\(∀e∈E,e∈E')/\(∀d∈D,d.wanted=true->(d.i,d.m,d.v)∈E')/\jY P ops K R E' (jU a D) w
 |[],R,E,a,w,h=>⟨[],E,rfl,fun d hd=>(by cases hd),trivial,fun e he=>he,fun d hd=>(by cases hd),h⟩
 |i::L,R,E,a,w,h=>by
  simp only[List.cons_append,jY]at h;cases ho:ops[i]? with
  |none=>rw[ho]at h;exact h.elim
  |some o =>
   rw[ho]at h;simp only at h;by_cases hw:Region.wanted o (yielded ops a.tmps)=true
   ·rw[if_pos hw]at h;obtain⟨v,hv,h⟩:=h;obtain⟨D,E',e1,e2,e3,e4,e5,e6⟩:=rL L R _ _ w h;refine⟨⟨i,o,v,execOp a.eval o,true⟩::D,E',by simp[e1],?_,⟨hw,fun _=>⟨rfl,hv⟩,fun h=>(by cases h),e3⟩,fun e he=>e4 e (List.mem_cons_of_mem _ he),?_,e6⟩
    ·intro d hd;rcases List.mem_cons.1 hd with rfl|hd
     ·exact ho
     ·exact e2 d hd
    ·intro d hd hw;rcases List.mem_cons.1 hd with rfl|hd
     ·exact e4 _ List.mem_cons_self
     ·exact e5 d hd hw
   ·rw[if_neg hw]at h;obtain⟨D,E',e1,e2,e3,e4,e5,e6⟩:=rL L R _ _ w h;refine⟨⟨i,o,undef,.pure .skip,false⟩::D,E',by simp[e1],?_,⟨by simpa using hw,fun h=>(by cases h),fun _=>rfl,e3⟩,e4,?_,e6⟩
    ·intro d hd;rcases List.mem_cons.1 hd with rfl|hd
     ·exact ho
     ·exact e2 d hd
    ·intro d hd hw;rcases List.mem_cons.1 hd with rfl|hd
     ·cases hw
     ·exact e5 d hd hw
theorem Lh{iA:Nat->Nat->Bool}(hf:A5 ops iA){Q:Act->World->Prop}{Q':Exit->Act->World->Prop}(hQ:∀a w,Q a w->Q' .normal a w){x y:Nat}{R:List (Nat×Bool)}(hR:mm ops R)(hx:∀q∈R,yX ops x q.1)(hy:∀q∈R,yX ops y q.1) :
 ∀(fuel:Nat) (D:List DE) (L:List Nat) (E:List (Nat×Sem Next×Value)) (listed:Array Bool) (a:Act) (w:World),
 D.length+(L.length+2+R.length)=fuel->fe ops listed (D.map (·.i)++(L++x::y::R.map (·.1)))->fe ops listed (D.map (·.i)++(L++y::x::R.map (·.1)))->(∀d∈D,ops[d.i]? = some d.o)->aK P ops w a D->(∀d∈D,d.wanted=true->(d.i,d.m,d.v)∈E) ->
 jY P ops (fun E a w=>oF P ops iA Q ((x,true)::(y,true)::R) E a w/\oF P ops iA Q ((y,true)::(x,true)::R) E a w) L E (jU a D) w->wpAny P .any ops Q' fuel listed a w:=by
 have lo1:∀z,(∀q∈R,yX ops z q.1)->mm ops ((z,true)::R):=by
  intro z hz L' R' h e q hq;cases L' with
  |nil=>simp at e;obtain⟨rfl,rfl⟩:=e;exact hz q hq
  |cons p L'=>simp at e;exact hR L' R' h e.2 q hq
 intro fuel
 induction fuel with
 |zero=>intro D L E listed a w hlen;omega
 |succ fuel ih =>
  intro D L E listed a w hlen hst1 hst2 hop hpr hE hrun;refine⟨?_,?_⟩
  ·intro h0;cases hX:D.map (·.i)++(L++x::y::R.map (·.1))with
   |nil=>have:=congrArg List.length hX;simp at this
   |cons z zs =>
    rw[hX]at hst1;have:=hst1.head hf;rw[h0]at this;cases this
  ·intro i hi;obtain⟨hilt,hiun,_⟩:=jX hi;have hmem:i∈D.map (·.i)++(L++x::y::R.map (·.1)):=by
    rcases hst1.all i hilt with h|h
    ·rw[h]at hiun;cases hiun
    ·exact h
   have two:∀(x y:Nat),i=x->(∀q∈R,yX ops y q.1)->fe ops listed (D.map (·.i)++(L++x::y::R.map (·.1)))->jY P ops (fun E a w=>oF P ops iA Q ((x,true)::(y,true)::R) E a w) L E (jU a D) w ->
    D.length+(L.length+2+R.length)=fuel+1->wpOp P ops Q' i (wpAny P .any ops Q' fuel (listed.setIfInBounds i true)) a w:=by
    rintro x y rfl hy hst hrun hlen;obtain⟨D',E',f1,f2,f3,f4,f5,f6⟩:=rL L [] E _ w (by simpa using hrun);refine Pd (Q:=Q) (D:=D++D') (b:=true) (R:=(y,true)::R) (E:=E') hf hi ?_ ?_ ?_ (aK.append hpr f3) ?_ ?_
    ·intro E2 listed2 a2 w2 h1 h2 h3 h4;refine sA hf hQ fuel (D++D') ((y,true)::R) E2 listed2 a2 w2 ?_ h1 ?_ (lo1 y hy) h2 h3 h4
     ·have:=congrArg List.length f1;simp at this hlen ⊢;omega
     ·intro d hd;rcases List.mem_append.1 hd with h|h
      ·exact hop d h
      ·exact f2 d h
    ·have e:(D++D').map (·.i)++i::((y,true)::R).map (·.1)=D.map (·.i)++(L++i::y::R.map (·.1)):=by simp[f1]
     rw[e];exact hst
    ·intro d hd;rcases List.mem_append.1 hd with h|h
     ·exact hop d h
     ·exact f2 d h
    ·intro d hd hdw;rcases List.mem_append.1 hd with h|h
     ·exact f4 _ (hE d h hdw)
     ·exact f5 d h hdw
    ·rw[iE];exact f6
   have mono:∀ {K K':List (Nat×Sem Next×Value)->Act->World->Prop},(∀E a w,K E a w->K' E a w)->∀(L:List Nat) (E:List (Nat×Sem Next×Value)) (a:Act),jY P ops K L E a w->jY P ops K' L E a w:=by
    intro K K' hk L
    induction L with
    |nil=>intro E a h;exact hk _ _ _ h
    |cons j L ihL =>
     intro E a h;simp only[jY]at h ⊢;cases ho:ops[j]? with
     |none=>rw[ho]at h;exact h.elim
     |some o =>
      rw[ho]at h;simp only at h ⊢;by_cases hw:Region.wanted o (yielded ops a.tmps)=true
      ·rw[if_pos hw]at h ⊢;obtain⟨v,hv,h⟩:=h;exact⟨v,hv,ihL _ _ h⟩
      ·rw[if_neg hw]at h ⊢;exact ihL _ _ h
   rcases List.mem_append.1 hmem with hm|hm
   ·obtain⟨d,hd,hdi⟩:=List.mem_map.1 hm;refine v7 hf hi hd hdi hst1 hop hpr ?_;rintro D1 D2 a' rfl h3 h4;have sub:∀z∈D1++D2,z∈D1++d::D2:=by
     intro z hz;simp only[List.mem_append,List.mem_cons]at hz ⊢;rcases hz with h|h
     ·exact .inl h
     ·exact .inr (.inr h)
    have st:∀X:List Nat,fe ops listed ((D1++d::D2).map (·.i)++X)->fe ops (listed.setIfInBounds i true) ((D1++D2).map (·.i)++X):=by
     intro X h;have e:(D1++d::D2).map (·.i)++X=D1.map (·.i)++i::(D2.map (·.i)++X):=by simp[hdi]
     rw[e]at h;simpa using h.take hi
    refine ih (D1++D2) L E _ a' w (by simp at hlen ⊢;omega) (st _ hst1) (st _ hst2) (fun d hd=>hop d (sub d hd)) h3 (fun d hd=>hE d (sub d hd)) (by rw[<- h4];exact hrun)
   ·rcases List.mem_append.1 hm with hm|hm
    ·obtain⟨L1,L2,rfl⟩:=List.append_of_mem hm;obtain⟨D',E',f1,f2,f3,f4,f5,f6⟩:=rL L1 (i::L2) E _ w hrun;simp only[jY]at f6;cases ho:ops[i]? with
     |none=>rw[ho]at f6;exact f6.elim
     |some o =>
      rw[ho]at f6;simp only at f6;rw[<- iE]at f6;have hop':∀d∈D++D',ops[d.i]? = some d.o:=by
       intro d hd;rcases List.mem_append.1 hd with h|h
       ·exact hop d h
       ·exact f2 d h
      have st:∀X:List Nat,fe ops listed (D.map (·.i)++((L1++i::L2)++X))->fe ops listed ((D++D').map (·.i)++i::(L2++X)):=by
       intro X h;have e:(D++D').map (·.i)++i::(L2++X)=D.map (·.i)++((L1++i::L2)++X):=by simp[f1]
       rw[e];exact h
      refine BY (D:=D++D') (X:=L2++x::y::R.map (·.1)) (E:=E') (C:=fun E a=>jY P ops (fun E a w=>oF P ops iA Q ((x,true)::(y,true)::R) E a w/\oF P ops iA Q ((y,true)::(x,true)::R) E a w) L2 E a w) hf hi ?_ (st _ hst1) hop' (aK.append hpr f3) ?_ ho f6
      ·intro E2 a2 g1 g2 g3;refine ih (D++D') L2 E2 _ a2 w ?_ ((st _ hst1).take hi) ((st _ hst2).take hi) hop' g1 g2 g3;have:=congrArg List.length f1;simp at this hlen ⊢;omega
      ·intro d hd hdw;rcases List.mem_append.1 hd with h|h
       ·exact f4 _ (hE d h hdw)
       ·exact f5 d h hdw
    ·rcases List.mem_cons.1 hm with rfl|hm
     ·exact two i y rfl hy hst1 (mono (fun _ _ _ h=>h.1) L E _ hrun) hlen
     ·rcases List.mem_cons.1 hm with rfl|hm
      ·exact two i x rfl hx hst2 (mono (fun _ _ _ h=>h.2) L E _ hrun) hlen
      ·obtain⟨q,hq,rfl⟩:=List.mem_map.1 hm;exact absurd (hx q hq) (lY hst1 hi (by simp))
inductive RT where
 |one (pi:List (Nat×Bool))
 |two (L:List Nat) (x:Nat) (tx:RT) (y:Nat) (ty:RT)
def RT.len:RT->Nat
 |.one pi=>pi.length
 |.two L _ tx _ _=>L.length+1+tx.len
def RT.vQ:RT->List (List Nat)
 |.one pi=>[pi.map (·.1)]
 |.two L x tx y ty=>(tx.vQ.map fun l=>L++x::l)++ty.vQ.map fun l=>L++y::l
theorem RT.xV:∀T:RT,∃l,l∈T.vQ
 |.one pi=>⟨_,List.mem_singleton.2 rfl⟩
 |.two L x tx y ty=>by
  obtain⟨l,h⟩:=RT.xV tx;exact⟨L++x::l,List.mem_append_left _ (List.mem_map.2 ⟨l,h,rfl⟩)⟩
def RT.Ok(ops:Array Oper):RT->Prop
 |.one pi=>mm ops pi
 |.two _ x tx y ty=>(tx.Ok ops/\ty.Ok ops)/\tx.len=ty.len/\(∀l∈tx.vQ,∀z∈l,z=y\/yX ops x z\/yX ops y z)/\∀l∈ty.vQ,∀z∈l,z=x\/yX ops x z\/yX ops y z
def tF(P:Program)(ops:Array Oper)(iA:Nat->Nat->Bool)(x:Nat)(K:List (Nat×Sem Next×Value)->Act->World->Prop)(E:List (Nat×Sem Next×Value))(a:Act)(w:World):Prop :=
 match ops[x]? with
 |none=>False
 |some o =>
  if Region.wanted o (yielded ops a.tmps)=true then D5 P (execOp a.eval o) w fun v w'=>(∀e∈E,iA e.1 x=false->e.2.1.run P w' = .ok (.value e.2.2) w')/\K (E.filter fun e=>!iA e.1 x) (a.put o.dst v) w'
  else K E (a.put o.dst undef) w
def v8(P:Program)(ops:Array Oper)(iA:Nat->Nat->Bool)(Q:Act->World->Prop):RT->List (Nat×Sem Next×Value)->Act->World->Prop
 |.one pi,E,a,w=>oF P ops iA Q pi E a w
 |.two L x tx y ty,E,a,w=>jY P ops (fun E a w=>tF P ops iA x (v8 P ops iA Q tx) E a w/\tF P ops iA y (v8 P ops iA Q ty) E a w) L E a w
theorem Pe{iA:Nat->Nat->Bool}(hf:A5 ops iA){Q':Exit->Act->World->Prop}{fuel:Nat}{listed:Array Bool}{a:Act}{w:World}{i:Nat}(hi:i∈Region.ready .any ops listed)
 {D:List DE} {X:List Nat} {E:List (Nat×Sem Next×Value)} {K:List (Nat×Sem Next×Value)->Act->World->Prop}
 (ih:∀(E:List (Nat×Sem Next×Value)) (a:Act) (w:World),(∀d∈D,d.wanted=true->(d.i,d.m,d.v)∈E)->aK P ops w a D->K E (jU a D) w->wpAny P .any ops Q' fuel (listed.setIfInBounds i true) a w)
 (hst:fe ops listed (D.map (·.i)++i::X)) (hop:∀d∈D,ops[d.i]? = some d.o) (hpr:aK P ops w a D) (hE:∀d∈D,d.wanted=true->(d.i,d.m,d.v)∈E)
 (hrun:tF P ops iA i K E (jU a D) w):wpOp P ops Q' i (wpAny P .any ops Q' fuel (listed.setIfInBounds i true)) a w:=by
 obtain⟨hilt,hiun,_⟩:=jX hi;unfold tF at hrun;unfold wpOp;cases ho:ops[i]? with
 |none=>rw[ho]at hrun;exact hrun.elim
 |some o =>
  rw[ho]at hrun;simp only at hrun ⊢;have hap:∀d∈D,d.o.apart ops o=true:=fun d hd=>lZ hf hst hi (List.mem_map_of_mem hd) ho (hop d hd);have hselo:=hf.Rb i o ho;have hseld:∀d∈D,d.o.apart ops o=true/\rK d.o=true:=fun d hd=>⟨hap d hd,hf.Rb d.i d.o (hop d hd)⟩
  obtain⟨e1,e2⟩:=p6 hselo D a hap;rw[e1,e2]at hrun;by_cases hw:Region.wanted o (yielded ops a.tmps)=true
  ·rw[if_pos hw]at hrun ⊢;refine .inl ?_;refine hrun.wp fun v w' ⟨hst2,hr⟩=>?_;rw[<- lH v D a hap]at hr;have hna:∀d∈D,iA d.i i=false:=fun d hd=>by
    cases hc:iA d.i i with
    |false=>rfl
    |true=>exact absurd (hf.iA _ _ hilt hc) (lY hst hi (List.mem_append_left _ (List.mem_map_of_mem hd)))
   refine ih _ _ w' (fun d hd hdw=>List.mem_filter.2 ⟨hE d hd hdw,by rw[hna d hd];rfl⟩) ?_ hr;refine aK.world (fun d hd hdw=>?_) (aK.other hseld hpr);exact hst2 (d.i,d.m,d.v) (hE d hd hdw) (hna d hd)
  ·rw[if_neg hw]at hrun ⊢;rw[<- lH undef D a hap]at hrun;exact ih _ _ w hE (aK.other hseld hpr) hrun
theorem p7{K K':List (Nat×Sem Next×Value)->Act->World->Prop}(hk:∀E a w,K E a w->K' E a w):∀(L:List Nat) (E:List (Nat×Sem Next×Value)) (a:Act) (w:World),jY P ops K L E a w->jY P ops K' L E a w
 |[],_,_,_,h=>hk _ _ _ h
 |j::L,E,a,w,h=>by
  simp only[jY]at h ⊢;cases ho:ops[j]? with
  |none=>rw[ho]at h;exact h.elim
  |some o =>
   rw[ho]at h;simp only at h ⊢;by_cases hw:Region.wanted o (yielded ops a.tmps)=true
   ·rw[if_pos hw]at h ⊢;obtain⟨v,hv,h⟩:=h;exact⟨v,hv,p7 hk L _ _ w h⟩
   ·rw[if_neg hw]at h ⊢;exact p7 hk L _ _ w h
theorem Jh{iA:Nat->Nat->Bool}(hf:A5 ops iA){Q:Act->World->Prop}{Q':Exit->Act->World->Prop}(hQ:∀a w,Q a w->Q' .normal a w) :
 ∀(fuel:Nat) (D:List DE) (T:RT) (E:List (Nat×Sem Next×Value)) (listed:Array Bool) (a:Act) (w:World),
 D.length+T.len=fuel->(∀l∈T.vQ,fe ops listed (D.map (·.i)++l))->T.Ok ops->(∀d∈D,ops[d.i]? = some d.o)->aK P ops w a D->(∀d∈D,d.wanted=true->(d.i,d.m,d.v)∈E) ->
 v8 P ops iA Q T E (jU a D) w->wpAny P .any ops Q' fuel listed a w:=by
 intro fuel
 induction fuel with
 |zero =>
  intro D T E listed a w hlen hst hok hop hpr hE hrun;cases T with
  |one pi=>exact sA hf hQ 0 D pi E listed a w hlen (hst _ (List.mem_singleton.2 rfl)) hop hok hpr hE hrun
  |two L x tx y ty=>simp only[RT.len]at hlen;omega
 |succ fuel ih =>
  intro D T E listed a w hlen hst hok hop hpr hE hrun;cases T with
  |one pi=>exact sA hf hQ (fuel+1) D pi E listed a w hlen (hst _ (List.mem_singleton.2 rfl)) hop hok hpr hE hrun
  |two L x tx y ty =>
   simp only[RT.len]at hlen;obtain⟨⟨okx,oky⟩,hxy,hx,hy⟩:=hok;obtain⟨lx,hlx⟩:=RT.xV tx;obtain⟨ly,hly⟩:=RT.xV ty;have hstx:∀l∈tx.vQ,fe ops listed (D.map (·.i)++(L++x::l)):=fun l hl=>hst _ (List.mem_append_left _ (List.mem_map.2 ⟨l,hl,rfl⟩));have hsty:∀l∈ty.vQ,fe ops listed (D.map (·.i)++(L++y::l)):=fun l hl=>hst _ (List.mem_append_right _ (List.mem_map.2 ⟨l,hl,rfl⟩));refine⟨?_,?_⟩
   ·intro h0;have hst1:=hstx lx hlx;cases hX:D.map (·.i)++(L++x::lx)with
    |nil=>have:=congrArg List.length hX;simp at this
    |cons z zs =>
     rw[hX]at hst1;have:=hst1.head hf;rw[h0]at this;cases this
   ·intro i hi;obtain⟨hilt,hiun,_⟩:=jX hi;have hmem:i∈D.map (·.i)++(L++x::lx):=by
     rcases(hstx lx hlx).all i hilt with h|h
     ·rw[h]at hiun;cases hiun
     ·exact h
    have two:∀(x:Nat) (tx:RT),i=x->tx.Ok ops->D.length+(L.length+1+tx.len)=fuel+1->(∀l∈tx.vQ,fe ops listed (D.map (·.i)++(L++x::l)))->jY P ops (fun E a w=>tF P ops iA x (v8 P ops iA Q tx) E a w) L E (jU a D) w ->
     wpOp P ops Q' i (wpAny P .any ops Q' fuel (listed.setIfInBounds i true)) a w:=by
     rintro x tx rfl okx hlen hst hrun;obtain⟨D',E',f1,f2,f3,f4,f5,f6⟩:=rL L [] E _ w (by simpa using hrun);have hE':∀d∈D++D',d.wanted=true->(d.i,d.m,d.v)∈E':=by
      intro d hd hdw;rcases List.mem_append.1 hd with h|h
      ·exact f4 _ (hE d h hdw)
      ·exact f5 d h hdw
     have hop':∀d∈D++D',ops[d.i]? = some d.o:=by
      intro d hd;rcases List.mem_append.1 hd with h|h
      ·exact hop d h
      ·exact f2 d h
     have hstD:∀l∈tx.vQ,fe ops listed ((D++D').map (·.i)++i::l):=by
      intro l hl;have e:(D++D').map (·.i)++i::l=D.map (·.i)++(L++i::l):=by simp[f1]
      rw[e];exact hst l hl
     obtain⟨lx,hlx⟩:=RT.xV tx;refine Pe (D:=D++D') (X:=lx) (E:=E') (K:=v8 P ops iA Q tx) hf hi ?_ (hstD lx hlx) hop' (aK.append hpr f3) hE' ?_
     ·intro E2 a2 w2 hE2 h2 h4;refine ih (D++D') tx E2 _ a2 w2 ?_ (fun l hl=>(hstD l hl).take hi) okx hop' h2 hE2 h4;have:=congrArg List.length f1;simp at this hlen ⊢;omega
     ·rw[iE];exact f6
    rcases List.mem_append.1 hmem with hm|hm
    ·obtain⟨d,hd,hdi⟩:=List.mem_map.1 hm;refine v7 hf hi hd hdi (hstx lx hlx) hop hpr ?_;rintro D1 D2 a' rfl h3 h4;have sub:∀z∈D1++D2,z∈D1++d::D2:=by
      intro z hz;simp only[List.mem_append,List.mem_cons]at hz ⊢;rcases hz with h|h
      ·exact .inl h
      ·exact .inr (.inr h)
     have st:∀X:List Nat,fe ops listed ((D1++d::D2).map (·.i)++X)->fe ops (listed.setIfInBounds i true) ((D1++D2).map (·.i)++X):=by
      intro X h;have e:(D1++d::D2).map (·.i)++X=D1.map (·.i)++i::(D2.map (·.i)++X):=by simp[hdi]
      rw[e]at h;simpa using h.take hi
     refine ih (D1++D2) (.two L x tx y ty) E _ a' w (by simp[RT.len]at hlen ⊢;omega) (fun l hl=>st _ (hst l hl)) ⟨⟨okx,oky⟩,hxy,hx,hy⟩ (fun d hd=>hop d (sub d hd)) h3 (fun d hd=>hE d (sub d hd)) (by rw[<- h4];exact hrun)
    ·rcases List.mem_append.1 hm with hm|hm
     ·obtain⟨L1,L2,rfl⟩:=List.append_of_mem hm;simp only[v8]at hrun;obtain⟨D',E',f1,f2,f3,f4,f5,f6⟩:=rL L1 (i::L2) E _ w hrun;simp only[jY]at f6;cases ho:ops[i]? with
      |none=>rw[ho]at f6;exact f6.elim
      |some o =>
       rw[ho]at f6;simp only at f6;rw[<- iE]at f6;have hop':∀d∈D++D',ops[d.i]? = some d.o:=by
        intro d hd;rcases List.mem_append.1 hd with h|h
        ·exact hop d h
        ·exact f2 d h
       have st:∀X:List Nat,fe ops listed (D.map (·.i)++((L1++i::L2)++X))->fe ops listed ((D++D').map (·.i)++i::(L2++X)):=by
        intro X h;have e:(D++D').map (·.i)++i::(L2++X)=D.map (·.i)++((L1++i::L2)++X):=by simp[f1]
        rw[e];exact h
       refine BY (D:=D++D') (X:=L2++x::lx) (E:=E') (C:=fun E a=>jY P ops (fun E a w=>tF P ops iA x (v8 P ops iA Q tx) E a w/\tF P ops iA y (v8 P ops iA Q ty) E a w) L2 E a w) hf hi ?_ (st _ (hstx lx hlx)) hop' (aK.append hpr f3) ?_ ho f6
       ·intro E2 a2 g1 g2 g3;refine ih (D++D') (.two L2 x tx y ty) E2 _ a2 w ?_ ?_ ⟨⟨okx,oky⟩,hxy,hx,hy⟩ hop' g1 g2 g3
        ·have:=congrArg List.length f1;simp[RT.len]at this hlen ⊢;omega
        ·intro l hl;simp only[RT.vQ,List.mem_append,List.mem_map]at hl;rcases hl with⟨l',h',rfl⟩ | ⟨l',h',rfl⟩
         ·exact(st _ (hstx l' h')).take hi
         ·exact(st _ (hsty l' h')).take hi
       ·intro d hd hdw;rcases List.mem_append.1 hd with h|h
        ·exact f4 _ (hE d h hdw)
        ·exact f5 d h hdw
     ·have toy:i=y->wpOp P ops Q' i (wpAny P .any ops Q' fuel (listed.setIfInBounds i true)) a w:=fun e=>two y ty e oky (by omega) hsty (p7 (fun _ _ _ h=>h.2) L E _ w hrun);rcases List.mem_cons.1 hm with hm|hm
      ·exact two x tx hm okx (by omega) hstx (p7 (fun _ _ _ h=>h.1) L E _ w hrun)
      ·rcases hx lx hlx i hm with h|h|h
       ·exact toy h
       ·exact absurd h (lY (hstx lx hlx) hi (by simp))
       ·
        have hyr:y∈D.map (·.i)++(L++x::lx):=by
         have hs:=hsty ly hly;have hylt:=hs.lt y (by simp);have hyun:=hs.un y (by simp);rcases(hstx lx hlx).all y hylt with h|h
         ·rw[h]at hyun;cases hyun
         ·exact h
        exact absurd h (lY (hstx lx hlx) hi hyr)
end
section
structure RG where
 pi:List (Nat×Bool)
 rows:List (Nat×Nat)
 two:Nat
 tr:Option RT
def rM:List (Nat×Nat)->Nat->Nat
 |[],_=>0
 |(j,v)::r,i=>bif Nat.beq j i then v else rM r i
def bit(n i:Nat):Bool:=Nat.beq (Nat.land (Nat.shiftRight n i) 1) 1
theorem yY(n i:Nat):bit n i=n.testBit i:=by
 rw[Nat.testBit_eq_decide_div_mod_eq];unfold bit;have h:Nat.land (Nat.shiftRight n i) 1=n/2^i%2:=by
  show(n >>> i) &&& 1=_;rw[Nat.and_one_is_mod,Nat.shiftRight_eq_div_pow]
 rw[h];by_cases h1:n/2^i%2=1
 ·simp[h1]
 ·rw[ey h1];simp[h1]
def WS(e:Edge):Bool:=Region.binds .any e
def deps(o:Oper):List Nat:=(o.after.toList.filter WS).map (·.on)
def rowOf(rows:List (Nat×Nat)):List Nat->Nat
 |[]=>0
 |d::r=>Nat.lor (Nat.lor (Nat.shiftLeft 1 d) (rM rows d)) (rowOf rows r)
def FZ(all:List Oper)(ops:Array Oper)(o:Oper)(j:Nat):Bool :=
 match all[j]? with
 |none=>false
 |some p=>o.apart ops p
def R7(all:List Oper)(ops:Array Oper)(rows:List (Nat×Nat)):List (Nat×Bool)->Nat->Bool
 |[],seen=>Nat.beq (seen+1) (2^all.length)
 |(i,b)::r,seen =>
  match all[i]? with
  |none=>false
  |some o=>!bit seen i&&rK o&&(deps o).all (bit seen)&&Nat.beq (rM rows i) (rowOf rows (deps o)) &&
   r.all (fun q=>bit (rM rows q.1) i||(!b&&FZ all ops o q.1))&&R7 all ops rows r (Nat.lor seen (Nat.shiftLeft 1 i))
def Li(all:List Oper)(g:RG):Bool:=Nat.beq g.pi.length all.length&&R7 all all.toArray g.rows g.pi 0
def RG.iA(g:RG)(e i:Nat):Bool:=bit (rM g.rows i) e
theorem NP(a b i:Nat):bit (Nat.lor a b) i=(bit a i||bit b i):=by
 rw[yY,yY,yY];exact Nat.testBit_or a b i
theorem NQ(d i:Nat):bit (Nat.shiftLeft 1 d) i=true↔d=i:=by
 rw[yY];show(1 <<< d).testBit i=true↔_;rw[Nat.one_shiftLeft,Nat.testBit_two_pow];simp
theorem Ji(i:Nat):bit 0 i=false:=by rw[yY];simp
theorem R8{o:Oper}{d:Nat}:d∈deps o↔∃e∈o.after,Region.binds .any e=true/\e.on=d:=by
 unfold deps WS;simp only[List.mem_map,List.mem_filter,Array.mem_toList_iff,and_assoc]
structure Step(all:List Oper)(rows:List (Nat×Nat))(pre:List Nat)(i:Nat)(b:Bool)(R:List (Nat×Bool)):Prop where
 at_:∃o,all[i]? = some o/\rK o=true/\(∀d∈deps o,d∈pre)/\rM rows i=rowOf rows (deps o)/\∀q∈R,bit (rM rows q.1) i=true\/(b=false/\FZ all all.toArray o q.1=true)
 new:i∉pre
theorem BZ{all:List Oper}{rows:List (Nat×Nat)}:∀(pi:List (Nat×Bool)) (seen:Nat) (pre:List Nat),R7 all all.toArray rows pi seen=true->(∀x,bit seen x=true↔x∈pre) ->
 (∀L i b R,pi=L++(i,b)::R->Step all rows (pre++L.map (·.1)) i b R)/\(∀k,k<all.length->k∈pre++pi.map (·.1))
 |[],seen,pre,h,hs=>by
  refine⟨fun L i b R e=>by simp at e,fun k hk=>?_⟩;simp only[R7]at h;have h1:seen=2^all.length-1:=by have:=Nat.eq_of_beq_eq_true h;omega
  have:bit seen k=true:=by rw[yY,h1,Nat.testBit_two_pow_sub_one];simpa using hk
  simpa using(hs k).1 this
 |(i,b)::r,seen,pre,h,hs=>by
  simp only[R7]at h;cases ho:all[i]? with
  |none=>rw[ho]at h;cases h
  |some o =>
   rw[ho]at h;simp only[Bool.and_eq_true,Bool.not_eq_true',List.all_eq_true,Bool.or_eq_true]at h;obtain⟨⟨⟨⟨⟨h1,h2⟩,h3⟩,h4⟩,h5⟩,h6⟩:=h;have ih:=BZ r (Nat.lor seen (Nat.shiftLeft 1 i)) (pre++[i]) h6 (by
    intro x;rw[NP,Bool.or_eq_true,hs x,NQ];simp only[List.mem_append,List.mem_singleton];exact⟨fun h=>h.imp id Eq.symm,fun h=>h.imp id Eq.symm⟩)
   refine⟨?_,?_⟩
   ·intro L i' b' R e;cases L with
    |nil =>
     simp only[List.nil_append,List.cons.injEq,Prod.mk.injEq]at e;obtain⟨⟨rfl,rfl⟩,rfl⟩:=e;refine⟨⟨o,ho,h2,fun d hd=>by simpa using(hs d).1 (h3 d hd),Nat.eq_of_beq_eq_true h4,?_⟩,?_⟩
     ·intro q hq;rcases h5 q hq with h | ⟨h,h'⟩
      ·exact .inl h
      ·exact .inr ⟨h,h'⟩
     ·intro hm;have:=(hs i).2 (by simpa using hm);rw[this]at h1;cases h1
    |cons p L =>
     simp only[List.cons_append,List.cons.injEq]at e;obtain⟨rfl,rfl⟩:=e;have:=ih.1 L i' b' R rfl;simpa using this
   ·intro k hk;have:=ih.2 k hk;simpa using this
theorem p8{α:Type}{R:α->α->Prop}:∀(xs:List α),(∀a x b y c,xs=a++x::(b++y::c)->R x y)->xs.Pairwise R
 |[],_=>.nil
 |x::xs,h=>by
  refine List.pairwise_cons.2 ⟨fun y hy=>?_,p8 xs fun a x' b y c e=>h (x::a) x' b y c (by rw[e];rfl)⟩;obtain⟨b,c,rfl⟩:=List.append_of_mem hy;exact h [] x b y c rfl
theorem Ez{all:List Oper}{g:RG}(h:Li all g=true):g.pi.length=all.length/\A5 all.toArray g.iA/\fe all.toArray (Array.replicate all.toArray.size false) (g.pi.map (·.1))/\mm all.toArray g.pi:=by
 simp only[Li,Bool.and_eq_true]at h;obtain⟨hlen,h⟩:=h;obtain⟨hsp,hcov⟩:=BZ g.pi 0 [] h (fun x=>by simp[Ji]);simp only[List.nil_append]at hsp hcov;have hdep:∀ {d i:Nat} {o:Oper},all[i]? = some o->(Xq all.toArray d i↔d∈deps o):=by
  intro d i o ho;rw[R8];constructor
  ·rintro⟨o',ho',h⟩;have:o'=o:=by simpa[ho]using ho'.symm
   subst this;exact h
  ·intro h;exact⟨o,by simpa using ho,h⟩
 have hahead:∀ {y x:Nat},yX all.toArray y x->∀L b R,g.pi=L++(x,b)::R->y∈L.map (·.1):=by
  intro y x ha
  induction ha with
  |one d =>
   intro L b R e;obtain⟨⟨o,ho,_,hd,_⟩,_⟩:=hsp L _ b R e;exact hd _ ((hdep ho).1 d)
  | @step j k _ d ih =>
   intro L b R e;obtain⟨⟨o,ho,_,hd,_⟩,_⟩:=hsp L _ b R e;obtain⟨p,hp,hpj⟩:=List.mem_map.1 (hd _ ((hdep ho).1 d));obtain⟨L1,L2,rfl⟩:=List.append_of_mem hp;obtain⟨j',b'⟩:=p;simp only at hpj;subst hpj;have:=ih L1 b' (L2++(k,b)::R) (by rw[e];simp);simp only[List.map_append,List.mem_append];exact .inl this
 have hrow1:∀(rs:List Nat) (e:Nat),bit (rowOf g.rows rs) e=true->∃d∈rs,d=e\/bit (rM g.rows d) e=true:=by
  intro rs e
  induction rs with
  |nil=>intro h;simp only[rowOf,Ji]at h;cases h
  |cons d rs ih =>
   intro h;simp only[rowOf,NP,Bool.or_eq_true,NQ]at h;rcases h with(h|h)|h
   ·exact⟨d,List.mem_cons_self,.inl h⟩
   ·exact⟨d,List.mem_cons_self,.inr h⟩
   ·obtain⟨d',hd',h'⟩:=ih h;exact⟨d',List.mem_cons_of_mem _ hd',h'⟩
 have hrow:∀(n:Nat) (L:List (Nat×Bool)),L.length=n->∀i b R,g.pi=L++(i,b)::R->∀e,bit (rM g.rows i) e=true->yX all.toArray e i:=by
  intro n
  induction n using Nat.strongRecOn with
  |ind n ih =>
   intro L hL i b R e x hx;obtain⟨⟨o,ho,_,hd,hr,_⟩,_⟩:=hsp L _ b R e;rw[hr]at hx;obtain⟨d,hd1,hd2⟩:=hrow1 _ _ hx;have hdp:=(hdep ho).2 hd1;rcases hd2 with rfl|hd2
   ·exact .one hdp
   ·obtain⟨p,hp,hpj⟩:=List.mem_map.1 (hd _ hd1);obtain⟨L1,L2,rfl⟩:=List.append_of_mem hp;obtain⟨j',b'⟩:=p;simp only at hpj;subst hpj;exact .step (ih L1.length (by simp at hL;omega) L1 rfl j' b' (L2++(i,b)::R) (by rw[e];simp) x hd2) hdp
 have hsplit:∀x∈g.pi.map (·.1),∃L b R,g.pi=L++(x,b)::R:=by
  intro x hx;obtain⟨p,hp,rfl⟩:=List.mem_map.1 hx;obtain⟨L,R,e⟩:=List.append_of_mem hp;exact⟨L,p.2,R,e⟩
 have hanc:∀i∈g.pi.map (·.1),∀e,bit (rM g.rows i) e=true->yX all.toArray e i:=by
  intro i hi e he;obtain⟨L,b,R,h⟩:=hsplit i hi;exact hrow _ L rfl i b R h e he
 have hlt:∀x∈g.pi.map (·.1),x<all.length:=by
  intro x hx;obtain⟨L,b,R,e⟩:=hsplit x hx;obtain⟨⟨o,ho,_⟩,_⟩:=hsp L x b R e;exact(List.getElem?_eq_some_iff.1 ho).1
 have hmapsplit:∀(a:List Nat) (x:Nat) (c:List Nat),g.pi.map (·.1)=a++x::c->∃L b R,g.pi=L++(x,b)::R/\L.map (·.1)=a/\R.map (·.1)=c:=by
  intro a x c e;obtain⟨l1,l2,e1,e2,e3⟩:=List.map_eq_append_iff.1 e;obtain⟨p,l3,e4,e5,e6⟩:=List.map_eq_cons_iff.1 e3;subst e4;refine⟨l1,p.2,l3,?_,e2,e6⟩;rw[e1,<- e5]
 have hnodup:(g.pi.map (·.1)).Nodup:=by
  refine p8 _ fun a x b y c e=>?_;rintro rfl;obtain⟨L,b',R,e1,e2,e3⟩:=hmapsplit (a++x::b) x c (by rw[e];simp);have:=(hsp L x b' R e1).new;rw[e2]at this;exact this (by simp)
 refine⟨Nat.eq_of_beq_eq_true hlen,⟨?_,?_,?_,?_⟩,⟨by simp,fun x hx=>by simpa using hlt x hx,?_,hnodup,fun k hk=>.inr (hcov k (by simpa using hk)),?_,?_⟩,?_⟩
 ·
  have one:∀(a:List Nat) (x:Nat) (b:List Nat) (y:Nat) (c:List Nat),g.pi.map (·.1)=a++x::(b++y::c)->∀ox oy,all[x]? = some ox->all[y]? = some oy->yX all.toArray x y\/ox.apart all.toArray oy=true:=by
   intro a x b y c e ox oy hx hy;obtain⟨L,b',R,e1,e2,e3⟩:=hmapsplit a x (b++y::c) e;obtain⟨⟨o,ho,_,_,_,hq⟩,_⟩:=hsp L x b' R e1;have hym:y∈R.map (·.1):=by rw[e3];simp
   obtain⟨q,hqm,rfl⟩:=List.mem_map.1 hym;rcases hq q hqm with h | ⟨_,h⟩
   ·exact .inl (hanc _ (by rw[e];simp) _ h)
   ·refine .inr ?_;rw[hx]at ho;cases ho;simpa[FZ,hy]using h
  intro i j oi oj hi hj hne;have hi':all[i]? = some oi:=by simpa using hi
  have hj':all[j]? = some oj:=by simpa using hj
  have mi:=hcov i (List.getElem?_eq_some_iff.1 hi').1;have mj:=hcov j (List.getElem?_eq_some_iff.1 hj').1;obtain⟨a,c,e⟩:=List.append_of_mem mi;rw[e]at mj;rcases List.mem_append.1 mj with h|h
  ·obtain⟨a1,a2,rfl⟩:=List.append_of_mem h;rcases one a1 j a2 i c (by rw[e];simp) oj oi hj' hi' with h|h
   ·exact .inr (.inl h)
   ·exact .inr (.inr (wE h))
  ·rcases List.mem_cons.1 h with h|h
   ·exact absurd h.symm hne
   ·obtain⟨c1,c2,rfl⟩:=List.append_of_mem h;rcases one a i c1 j c2 e oi oj hi' hj' with h|h
    ·exact .inl h
    ·exact .inr (.inr h)
 ·intro i o ho;have ho':all[i]? = some o:=by simpa using ho
  obtain⟨L,b,R,e⟩:=hsplit i (hcov i (List.getElem?_eq_some_iff.1 ho').1);obtain⟨⟨o',h1,h2,_⟩,_⟩:=hsp L i b R e;rw[ho']at h1;cases h1;exact h2
 ·intro i j hj h;exact hanc j (hcov j (by simpa using hj)) i h
 ·intro i j hd;obtain⟨o,ho,_⟩:=id hd;have ho':all[j]? = some o:=by simpa using ho
  obtain⟨L,b,R,e⟩:=hsplit j (hcov j (List.getElem?_eq_some_iff.1 ho').1);have hs:=hsp L j b R e;have hm:=hahead (.one hd) L b R e;refine⟨?_,?_⟩
  ·rintro rfl;exact hs.new hm
  ·have:i∈g.pi.map (·.1):=by rw[e];simp only[List.map_append,List.mem_append];exact .inl hm
   simpa using hlt i this
 ·intro x hx;have:=hlt x hx;simp[Array.getD,this]
 ·intro i j hd hj;simp[Array.getD]at hj
 ·refine p8 _ fun a x b y c e ha=>?_;obtain⟨L,b',R,e1,e2,e3⟩:=hmapsplit a x (b++y::c) e;have hm:=hahead ha L b' R e1;rw[e2]at hm;rw[e]at hnodup;exact(List.nodup_append.1 hnodup).2.2 y hm y (by simp) rfl
 ·intro L R x e q hq;obtain⟨⟨o,ho,_,_,_,hq'⟩,_⟩:=hsp L x true R e;rcases hq' q hq with h | ⟨h,_⟩
  ·refine hanc q.1 ?_ _ h;rw[e];simp only[List.map_append,List.mem_append,List.map_cons,List.mem_cons];exact .inr (.inr (List.mem_map_of_mem hq))
  ·cases h
def F0:List (Nat×Bool)->Bool
 |[]=>true
 |(_,b)::r=>!b&&F0 r
theorem B0:∀ {l:List (Nat×Bool)},F0 l=true->l=(l.map (·.1)).map fun i=>(i,false)
 |[],_=>rfl
 |(i,b)::r,h=>by
  simp only[F0,Bool.and_eq_true,Bool.not_eq_true']at h;obtain⟨rfl,h⟩:=h;simp only[List.map_cons];rw[<- B0 h]
def RT.Vh:RT->List (List (Nat×Bool))
 |.one pi=>[pi]
 |.two L x tx y ty=>(tx.Vh.map fun p=>L.map (fun i=>(i,false))++(x,false)::p)++ty.Vh.map fun p=>L.map (fun i=>(i,false))++(y,false)::p
def waits(rows:List (Nat×Nat))(n x y:Nat)(z:Nat):Bool:=Nat.blt z n&&(bit (rM rows z) x||bit (rM rows z) y)
def RT.cond(rows:List (Nat×Nat))(n:Nat):RT->Bool
 |.one _=>true
 |.two _ x tx y ty=>tx.cond rows n&&ty.cond rows n&&Nat.beq tx.len ty.len&&tx.vQ.all (fun l=>l.all fun z=>Nat.beq z y||waits rows n x y z)&&ty.vQ.all (fun l=>l.all fun z=>Nat.beq z x||waits rows n x y z)
def Lj(all:List Oper)(rows:List (Nat×Nat))(T:RT):Bool:=T.Vh.all (fun pi=>Li all ⟨pi,rows,0,none⟩)&&T.cond rows all.length
theorem RT.xW:∀T:RT,T.vQ=T.Vh.map fun p=>p.map (·.1)
 |.one pi=>rfl
 |.two L x tx y ty=>by
  have e:(L.map fun i=>(i,false)).map (·.1)=L:=by simp[Function.comp_def]
  simp only[RT.vQ,RT.Vh,RT.xW tx,RT.xW ty,List.map_append,List.map_map];congr 1<;>(apply List.map_congr_left;intro p _;simp[Function.comp_def])
theorem RT.Xs(T:RT):∃p,p∈T.Vh:=by
 obtain⟨l,h⟩:=RT.xV T;rw[RT.xW]at h;obtain⟨p,hp,_⟩:=List.mem_map.1 h;exact⟨p,hp⟩
theorem RT.F5:∀(T:RT) (rows:List (Nat×Nat)) (n:Nat),T.cond rows n=true->∀p∈T.Vh,p.length=T.len
 |.one pi,_,_,_,p,hp=>by simp[RT.Vh]at hp;subst hp;rfl
 |.two L x tx y ty,rows,n,h,p,hp=>by
  simp only[RT.cond,Bool.and_eq_true]at h;obtain⟨⟨⟨⟨h1,h2⟩,h3⟩,_⟩,_⟩:=h;have h3:=Nat.eq_of_beq_eq_true h3;simp only[RT.Vh,List.mem_append,List.mem_map]at hp;rcases hp with⟨q,hq,rfl⟩ | ⟨q,hq,rfl⟩
  ·have:=RT.F5 tx rows n h1 q hq;simp[RT.len,this];omega
  ·have:=RT.F5 ty rows n h2 q hq;simp[RT.len,this];omega
theorem B1{ops:Array Oper}{rows:List (Nat×Nat)}{n:Nat}(hanc:∀i j,j<n->bit (rM rows j) i=true->yX ops i j):∀(T:RT) (pre:List (Nat×Bool)),(∀p∈T.Vh,mm ops (pre++p))->T.cond rows n=true->T.Ok ops
 |.one pi,pre,h,_=>mm.drop (h pi (List.mem_singleton.2 rfl))
 |.two L x tx y ty,pre,h,hc=>by
  simp only[RT.cond,Bool.and_eq_true,List.all_eq_true,Bool.or_eq_true]at hc;obtain⟨⟨⟨⟨h1,h2⟩,h3⟩,h4⟩,h5⟩:=hc;have wt:∀z,waits rows n x y z=true->yX ops x z\/yX ops y z:=by
   intro z hz;simp only[waits,Bool.and_eq_true,Bool.or_eq_true]at hz;have hlt:z<n:=by have:=hz.1;simp[Nat.blt]at this;omega
   exact hz.2.imp (hanc _ _ hlt) (hanc _ _ hlt)
  refine⟨⟨B1 hanc tx (pre++(L.map (fun i=>(i,false))++[(x,false)])) (fun p hp=>?_) h1,B1 hanc ty (pre++(L.map (fun i=>(i,false))++[(y,false)])) (fun p hp=>?_) h2⟩,Nat.eq_of_beq_eq_true h3,fun l hl z hz=>?_,fun l hl z hz=>?_⟩
  ·have:=h _ (List.mem_append_left _ (List.mem_map.2 ⟨p,hp,rfl⟩));simpa using this
  ·have:=h _ (List.mem_append_right _ (List.mem_map.2 ⟨p,hp,rfl⟩));simpa using this
  ·rcases h4 l hl z hz with h|h
   ·exact .inl (Nat.eq_of_beq_eq_true h)
   ·exact .inr (wt z h)
  ·rcases h5 l hl z hz with h|h
   ·exact .inl (Nat.eq_of_beq_eq_true h)
   ·exact .inr (wt z h)
theorem VJ{all:List Oper}{g:RG}{T:RT}(h:Lj all g.rows T=true):T.len=all.length/\A5 all.toArray g.iA/\(∀l∈T.vQ,fe all.toArray (Array.replicate all.toArray.size false) l)/\T.Ok all.toArray:=by
 simp only[Lj,Bool.and_eq_true,List.all_eq_true]at h;obtain⟨h1,h2⟩:=h;obtain⟨p0,hp0⟩:=RT.Xs T;obtain⟨hlen,hf,_,_⟩:=Ez (h1 p0 hp0);have hf:A5 all.toArray g.iA:=hf;refine⟨by rw[<- RT.F5 T _ _ h2 p0 hp0];exact hlen,hf,fun l hl=>?_,B1 (rows:=g.rows) (n:=all.length) (fun i j hj hb=>hf.iA i j (by simpa using hj) hb) T [] (fun p hp=>(Ez (h1 p hp)).2.2.2) h2⟩;rw[RT.xW]at hl;obtain⟨p,hp,rfl⟩:=List.mem_map.1 hl;exact(Ez (h1 p hp)).2.2.1
def R9(all:List Oper)(g:RG):Bool :=
 match g.tr with
 |some T=>Lj all g.rows T
 |none=>match g.two with
  |0=>Li all g
  |k+1=>match g.pi.drop k with
   |(x,true)::(y,true)::R=>F0 (g.pi.take k)&&Li all ⟨g.pi.take k++(x,false)::(y,true)::R,g.rows,0,none⟩&&Li all ⟨g.pi.take k++(y,false)::(x,true)::R,g.rows,0,none⟩
   |_=>false
end
section
def has:List Nat->Nat->Bool
 |[],_=>false
 |j::r,i=>bif Nat.beq j i then true else has r i
theorem NR:∀ {l:List Nat} {i:Nat},has l i=true↔i∈l
 |[],i=>by simp[has]
 |j::r,i=>by
  simp only[has];by_cases h:j=i
  ·subst h;simp
  ·rw[ey h];simp only[cond_false,List.mem_cons];rw[NR];exact⟨.inr,fun h'=>h'.resolve_left fun e=>h e.symm⟩
def aF.freeze(ts:List Nat)(hp:aF):aF:=hp.map fun e=>⟨e.tag,bif has ts e.tag then false else e.wr,e.ch⟩
def Sa(old:aF)(ts:List Nat)(e:A2):Option A2 :=
 match old.find e.tag with
 |some (m,_)=>bif has ts e.tag then some ⟨e.tag,m,e.ch⟩else some e
 |none=>bif e.wr then some e else none
def aF.VK(old:aF)(ts:List Nat)(hp:aF):aF:=hp.filterMap (Sa old ts)
def nX(g:RG)(i:Nat):List (Nat×Option Nat)->Option (List Nat)
 |[]=>some []
 |(e,x)::r=>bif g.iA e i then nX g i r else
  match x,nX g i r with
  |some t,some ts=>some (t::ts)
  |_,_=>none
def NS(g:RG)(i:Nat)(E:List (Nat×Option Nat)):List (Nat×Option Nat):=E.filter fun p=>!g.iA p.1 i
def NT(G:Fx)(ch:gM)(o:Oper)(ts:List Nat)(s:S)(K:KV):Prop :=
 match ts with
 |[]=>Lg G ch o s K
 |_::_=>bif ts.all (fun t=>(s.hp.find t).isSome)then Lg G ch o (s.put (s.hp.freeze ts)) fun v s'=>K v (s'.put (aF.VK s.hp ts s'.hp))else False
def we(G:Fx)(ch:gM)(all:List Oper)(g:RG):List (Nat×Bool)->List (Nat×Option Nat)->S->(S->Prop)->Prop
 |[],_,s,K=>K s
 |(i,loud)::r,E,s,K =>
  match all[i]? with
  |none=>False
  |some o=>BW G.X all o s
   (fun s=>bif loud then
    (match nX g i E with
    |none=>False
    |some ts=>NT G ch o ts s fun v s=>D4 o v s fun s=>we G ch all g r (NS g i E) s K)
    else bif iT o then
     Vg G.X o s fun v s1=>D4 o v s1 fun s2=>we G ch all g r (match DU o s with|some t=>(i,some t)::E|none=>E) s2 K
    else False)
   (fun s=>D4 o (.l8 []) s fun s=>we G ch all g r E s K)
theorem sB{ρ:Env}:∀ {hp:aF},hp.Pairwise (pS ρ)->∀ {x y:A2},x∈hp->y∈hp->x.tag≠y.tag->(x.wr||y.wr)=true->∀b,(ρ.pl x.tag).fp b->¬(ρ.pl y.tag).fp b
 |[],_,_,_,hx,_,_,_=>by cases hx
 |e::r,h,x,y,hx,hy,hne,hw=>by
  obtain⟨h1,h2⟩:=List.pairwise_cons.1 h;rcases List.mem_cons.1 hx with hx|hx
  ·rcases List.mem_cons.1 hy with hy|hy
   ·exact absurd (by rw[hx,hy]) hne
   ·rw[hx]at hw ⊢;exact(h1 y hy).2 hw
  ·rcases List.mem_cons.1 hy with hy|hy
   ·intro b hb hb';rw[hy]at hb' hw;exact(h1 x hx).2 (by rw[Bool.or_comm];exact hw) b hb' hb
   ·exact sB h2 hx hy hne hw
theorem wG{ts:List Nat}{hp:aF}{e:A2}(h:e∈hp.freeze ts):∃e0∈hp,e.tag=e0.tag/\e.ch=e0.ch/\(e.wr=true->e0.wr=true/\e.tag∉ts):=by
 obtain⟨e0,h0,rfl⟩:=List.mem_map.1 h;refine⟨e0,h0,rfl,rfl,?_⟩;show(bif has ts e0.tag then false else e0.wr)=true->_;cases hh:has ts e0.tag with
 |true=>intro h;cases h
 |false=>intro h;exact⟨h,fun hm=>by rw[NR.2 hm]at hh;cases hh⟩
def lE(ρ:Env)(hp:aF):Nat->Prop:=fun b=>∃e∈hp,e.wr=true/\(ρ.pl e.tag).fp b
theorem ai.freeze{w0:World}{M:Nat->Prop}{ρ:Env}{w:World}{hp:aF}(h:ai w0 M ρ hp w)(ts:List Nat):ai w (lE ρ (hp.freeze ts)) ρ (hp.freeze ts) w where
 keeps:=eu.refl _ w
 gH:=fun e he=>by
  obtain⟨e0,h0,h1,h2,_⟩:=wG he;have hs:=h.gH e0 h0;exact⟨h1▸hs.tag,by rw[h1,h2];exact hs.ch,by rw[h1];exact hs.lt,fun hw b hb _=>⟨e,he,hw,hb⟩⟩
 apart:=by
  refine List.pairwise_map.2 (h.apart.imp fun {x y} hxy=>⟨hxy.1,fun hw=>hxy.2 ?_⟩);have hw':((bif has ts x.tag then false else x.wr)||(bif has ts y.tag then false else y.wr))=true:=hw;cases hx:has ts x.tag<;>cases hy:has ts y.tag<;>simp[hx,hy]at hw'<;>simp[hw']
theorem aF.Pf{hp:aF}{t:Nat}(h:(hp.find t).isSome=true):∃m ch,(⟨t,m,ch⟩:A2)∈hp:=by
 cases hf:hp.find t with
 |none=>rw[hf]at h;cases h
 |some p=>exact⟨p.1,p.2,aF.bk hf⟩
theorem B2{old:aF}{ts:List Nat}{e e2:A2}(h:Sa old ts e2=some e):e.tag=e2.tag/\e.ch=e2.ch/\(e=e2/\(e2.wr=true\/∃m ch,(⟨e.tag,m,ch⟩:A2)∈old)\/∃ch,(⟨e.tag,e.wr,ch⟩:A2)∈old):=by
 unfold Sa at h;cases hf:old.find e2.tag with
 |none =>
  rw[hf]at h;simp only at h;cases hw:e2.wr with
  |false=>rw[hw]at h;cases h
  |true =>
   rw[hw]at h;simp only[cond_true,Option.some.injEq]at h;subst h;exact⟨rfl,rfl,.inl ⟨rfl,.inl rfl⟩⟩
 |some p =>
  obtain⟨m,ch⟩:=p;rw[hf]at h;simp only at h;have hm:=aF.bk hf;cases hh:has ts e2.tag with
  |true=>rw[hh]at h;cases h;exact⟨rfl,rfl,.inr ⟨ch,hm⟩⟩
  |false=>rw[hh]at h;cases h;exact⟨rfl,rfl,.inl ⟨rfl,.inr ⟨m,ch,hm⟩⟩⟩
theorem Jj{w0:World}{M:Nat->Prop}{ρ:Env}{w:World}{hp:aF}(h:ai w0 M ρ hp w)(ts:List Nat){b:Nat}(hb:b<w0.heap.size)(hm:lE ρ (hp.freeze ts) b):M b:=by
 obtain⟨e,he,hw,hf⟩:=hm;obtain⟨e0,h0,h1,_,h3⟩:=wG he;exact(h.gH e0 h0).own (h3 hw).1 b (by rw[<- h1];exact hf) hb
theorem ai.VK{w0:World}{M:Nat->Prop}{ρ ρ':Env}{w w':World}{hp cT:aF}{ts:List Nat}(h:ai w0 M ρ hp w)(hle:ρ.le ρ')(h':ai w (lE ρ (hp.freeze ts)) ρ' cT w') :
 ai w0 M ρ' (aF.VK hp ts cT) w' where
 keeps:=⟨h'.keeps.os.trans h.keeps.os,h'.keeps.tape.trans h.keeps.tape,h'.keeps.output.trans h.keeps.output,Nat.le_trans h.keeps.size h'.keeps.size,fun b hb hn =>
  (h'.keeps.block b (Nat.lt_of_lt_of_le hb h.keeps.size) fun hm=>hn (Jj h ts hb hm)).trans (h.keeps.block b hb hn),fun a ha=>(h'.keeps.YC a (Nat.lt_of_lt_of_le ha h.keeps.size)).trans (h.keeps.YC a ha)⟩
 gH:=fun e he=>by
  obtain⟨e2,he2,ht⟩:=List.mem_filterMap.1 he;obtain⟨h1,h2,h3⟩:=B2 ht;have hs:=h'.gH e2 he2;refine⟨h1▸hs.tag,by rw[h1,h2];exact hs.ch,by rw[h1];exact hs.lt,fun hw b hb hlt=>?_⟩;rcases h3 with⟨rfl,_⟩ | ⟨ch,hm⟩
  ·exact Jj h ts hlt (hs.own hw b hb (Nat.lt_of_lt_of_le hlt h.keeps.size))
  ·have hs0:=h.gH _ hm;refine hs0.own hw b ?_ hlt;rw[<- hle.pl _ hs0.tag];exact hb
 apart:=by
  refine List.pairwise_filterMap.2 (List.Pairwise.imp_of_mem (fun {x y} hx hy hxy=>?_) h'.apart);intro e he e' he';obtain⟨h1,_,h3⟩:=B2 he;obtain⟨h1',_,h3'⟩:=B2 he';have hne:e.tag≠e'.tag:=by rw[h1,h1'];exact hxy.1
  refine⟨hne,fun hw=>?_⟩;by_cases hxw:(x.wr||y.wr)=true
  ·rw[h1,h1'];exact hxy.2 hxw
  ·have hx0:x.wr=false:=by cases hh:x.wr<;>simp[hh]at hxw ⊢
   have hy0:y.wr=false:=by cases hh:y.wr<;>simp[hh]at hxw ⊢
   have gx:∃m ch,(⟨e.tag,m,ch⟩:A2)∈hp/\(e.wr=true->m=true):=by
    rcases h3 with⟨rfl,h | ⟨m,ch,h⟩⟩ | ⟨ch,h⟩
    ·rw[hx0]at h;cases h
    ·exact⟨m,ch,h,fun hh=>by rw[hx0]at hh;cases hh⟩
    ·exact⟨_,ch,h,id⟩
   have gy:∃m ch,(⟨e'.tag,m,ch⟩:A2)∈hp/\(e'.wr=true->m=true):=by
    rcases h3' with⟨rfl,h | ⟨m,ch,h⟩⟩ | ⟨ch,h⟩
    ·rw[hy0]at h;cases h
    ·exact⟨m,ch,h,fun hh=>by rw[hy0]at hh;cases hh⟩
    ·exact⟨_,ch,h,id⟩
   obtain⟨m,ch,g1,g2⟩:=gx;obtain⟨m',ch',g1',g2'⟩:=gy;have:=sB h.apart g1 g1' hne (by
    show(m||m')=true;cases he:e.wr with
    |true=>rw[g2 he];rfl
    |false =>
     rw[he]at hw;rw[g2' (by simpa using hw)];simp)
   rw[hle.pl _ (h.gH _ g1).tag,hle.pl _ (h.gH _ g1').tag];exact this
theorem F6{w0:World}{M:Nat->Prop}{ρ ρ':Env}{w w':World}{hp cT:aF}{ts:List Nat}(h:ai w0 M ρ hp w)(h':ai w (lE ρ (hp.freeze ts)) ρ' cT w'){t:Nat}(ht:t∈ts)(hf:(hp.find t).isSome=true){b:Nat}(hb:(ρ.pl t).fp b):w'.heap[b]? = w.heap[b]?:=by
 obtain⟨m,ch,hm⟩:=aF.Pf hf;refine h'.keeps.block b ((h.gH _ hm).lt b hb) ?_;rintro⟨e,he,hw,hfp⟩;obtain⟨e0,h0,h1,_,h3⟩:=wG he;obtain⟨h4,h5⟩:=h3 hw;have hne:e0.tag≠t:=by rintro rfl;rw[h1]at h5;exact h5 ht
 exact sB h.apart h0 hm hne (by rw[h4];rfl) b (by rw[<- h1];exact hfp) hb
theorem EA{G:Fx}(hG:G.Ok){ch:gM}(hch:IM G.X ch){o:Oper}{s:S}{K:KV}(h:Lg G ch o s K){w0:World}{M:Nat->Prop}{ρ:Env}{a:Act}{w:World}(hs:gI w0 M ρ s a w) :
 D5 G.X.P (execOp a.eval o) w fun v w'=>Out w0 M ρ s w' v K:=by
 have plain:∀K,Vg G.X o s K->D5 G.X.P (execOp a.eval o) w fun v w'=>Out w0 M ρ s w' v K:=by
  intro K h;obtain⟨r,w',hr,v,hv,hout⟩:=R4 hG.cx h w0 M ρ a w hs;refine .inl ⟨v,w',?_,hout⟩;rcases hv with rfl | ⟨rfl,rfl⟩
  ·exact .inl hr
  ·exact .inr ⟨hr,rfl⟩
 unfold Lg at h;split at h
 ·rename_i c hc;split at h
  ·rename_i f hf;split at h
   ·rename_i g hg;split at h
    ·rename_i fn hfn;have hok:=hG.fns _ (rJ hfn);have hev:a.eval f = .func (.func g) #[] #[]:=by have:=hs.frame.ev f;rw[hg]at this;exact this
     have hcall:=hch _ _ _ _ h w0 M ρ w (c.args.toList.map a.eval) hs.n hs.heap (p5 hs.frame _);refine .inr ⟨g,c.args.map a.eval,?_,?_⟩
     ·obtain⟨callee,args,ts⟩:=c;simp only at hf;have hb:fn.body≠none:=by have:=hok.body;cases hh:fn.body<;>simp[hh]at this ⊢
      have hne : fn.name ≠ "runtime.NumGoroutine" := by have := hok.name; simpa using this
      simp[execOp,hc,hf,resolve,hev,Deferred.ofValue,invoke,callFunc,hok.at_,hne,hb]
     ·have e:(c.args.toList.map a.eval).toArray=c.args.map a.eval:=by apply Array.toList_inj.1;simp
      rw[e]at hcall;exact hcall
    ·exact h.elim
   ·rename_i g xs hg;split at h
    ·rename_i fn hfn;have hok:=hG.fns _ (rJ hfn);obtain⟨us,hev,hrep⟩:∃us:List Value,a.eval f = .func (.func g) #[] us.toArray/\ct ρ xs us:=by have:=hs.frame.ev f;rw[hg]at this;exact this
     have hcall:=hch _ _ _ _ h w0 M ρ w (c.args.toList.map a.eval++us) hs.n hs.heap (uo hrep (p5 hs.frame _));refine .inr ⟨g,c.args.map a.eval++us.toArray,?_,?_⟩
     ·obtain⟨callee,args,ts⟩:=c;simp only at hf;have hb:fn.body≠none:=by have:=hok.body;cases hh:fn.body<;>simp[hh]at this ⊢
      have hne : fn.name ≠ "runtime.NumGoroutine" := by have := hok.name; simpa using this
      simp[execOp,hc,hf,resolve,hev,Deferred.ofValue,invoke,callFunc,hok.at_,hne,hb]
     ·have e:(c.args.toList.map a.eval++us).toArray=c.args.map a.eval++us.toArray:=by apply Array.toList_inj.1;simp
      rw[e]at hcall;exact hcall
    ·exact h.elim
   ·exact h.elim
  ·exact plain K h
  ·exact h.elim
 ·exact plain K h
theorem D5.mono{P:Program}{m:Sem Next}{w:World}{R R':Value->World->Prop}(h:D5 P m w R)(hh:∀v w',R v w'->R' v w'):D5 P m w R':=by
 rcases h with⟨v,w',h1,h2⟩ | ⟨f,args,h1,h2⟩
 ·exact .inl ⟨v,w',h1,hh _ _ h2⟩
 ·refine .inr ⟨f,args,h1,h2.mono ?_⟩;rintro e w' ⟨v,rfl,h3⟩;exact⟨v,rfl,hh _ _ h3⟩
theorem B3{G:Fx}(hG:G.Ok){ch:gM}(hch:IM G.X ch){o:Oper}{ts:List Nat}{s:S}{K:KV}(h:NT G ch o ts s K){w0:World}{M:Nat->Prop}{ρ:Env}{a:Act}{w:World}(hs:gI w0 M ρ s a w) :
 D5 G.X.P (execOp a.eval o) w fun v w'=>Out w0 M ρ s w' v K/\∀t∈ts,∀b,(ρ.pl t).fp b->w'.heap[b]? = w.heap[b]?:=by
 unfold NT at h;cases ts with
 |nil=>exact(EA hG hch h hs).mono fun v w' ho=>⟨ho,fun t ht=>by cases ht⟩
 |cons t0 ts =>
  simp only at h;cases ha:(t0::ts).all fun t=>(s.hp.find t).isSome with
  |false=>rw[ha]at h;exact h.elim
  |true =>
   rw[ha]at h;simp only[cond_true]at h;have hs':gI w (lE ρ (s.hp.freeze (t0::ts))) ρ (s.put (s.hp.freeze (t0::ts))) a w:=⟨hs.defers,hs.size,hs.n,hs.frame,hs.heap.freeze _⟩
   refine(EA hG hch h hs').mono fun v w' ho=>?_;obtain⟨sv,s',ρ',h1,h2,h3,h4,h5,h6,h7⟩:=ho;refine⟨⟨sv,_,ρ',h1,h2,h3,h4,h5,h6,hs.heap.VK h4 h7⟩,fun t ht b hb=>F6 hs.heap h7 ht ?_ hb⟩;exact List.all_eq_true.1 ha t ht
def Jk(P:Program)(ρ:Env)(w:World)(E:List (Nat×Option Nat))(e:Nat×Sem Next×Value):Prop :=
 (∀w':World,e.2.1.run P w' = .ok (.value e.2.2) w')\/(∃t,(e.1,some t)∈E/\t<ρ.n/\∀w':World,(∀b,(ρ.pl t).fp b->w'.heap[b]? = w.heap[b]?)->e.2.1.run P w' = .ok (.value e.2.2) w')\/(e.1,none)∈E
theorem gz{g:RG}{i:Nat}:∀ {E:List (Nat×Option Nat)} {ts:List Nat},nX g i E=some ts->∀ {e x},(e,x)∈E->g.iA e i=false->∃t∈ts,x=some t
 |[],_,_,_,_,hm,_=>by cases hm
 |(e',x')::E,ts,h,e,x,hm,ha=>by
  simp only[nX]at h;cases hb:g.iA e' i with
  |true =>
   rw[hb]at h;simp only[cond_true]at h;rcases List.mem_cons.1 hm with h'|h'
   ·cases h';rw[hb]at ha;cases ha
   ·exact gz h h' ha
  |false =>
   rw[hb]at h;simp only[cond_false]at h;split at h
   ·rename_i t ts' h1;cases h;rcases List.mem_cons.1 hm with h'|h'
    ·cases h';exact⟨t,List.mem_cons_self,rfl⟩
    ·obtain⟨t',ht,e'⟩:=gz h1 h' ha;exact⟨t',List.mem_cons_of_mem _ ht,e'⟩
   ·cases h
theorem nw{G:Fx}(hG:G.Ok){ch:gM}(hch:IM G.X ch){all:List Oper}{g:RG}{w0:World}{M:Nat->Prop}{Q:Act->World->Prop}{K:S->Prop}:∀(pi:List (Nat×Bool)) (E:List (Nat×Option Nat)) (Es:List (Nat×Sem Next×Value)) (s:S) (ρ:Env) (a:Act) (w:World),
 we G ch all g pi E s K->gI w0 M ρ s a w->(∀e∈Es,Jk G.X.P ρ w E e) ->
 (∀s' ρ' a' w',K s'->ρ.le ρ'->gI w0 M ρ' s' a' w'->Q a' w')->oF G.X.P all.toArray g.iA Q pi Es a w
 |[],E,Es,s,ρ,a,w,h,hs,_,hQ=>hQ s ρ a w h (Env.le.refl ρ) hs
 |(i,loud)::r,E,Es,s,ρ,a,w,h,hs,hE,hQ=>by
  simp only[we]at h;simp only[oF];cases ho:all[i]? with
  |none=>rw[ho]at h;exact h.elim
  |some o =>
   rw[ho]at h;have ho':all.toArray[i]? = some o:=by simpa using ho
   rw[ho'];simp only at h ⊢;obtain⟨s',_,hs',_,hcase⟩:=vw h hs;rcases hcase with⟨hw,h⟩ | ⟨hw,h⟩
   ·rw[if_pos hw];cases loud with
    |true =>
     simp only[cond_true,if_true]at h ⊢;cases hf:nX g i E with
     |none=>rw[hf]at h;exact h.elim
     |some ts =>
      rw[hf]at h;simp only at h;refine(B3 hG hch h hs').mono ?_;rintro v w' ⟨hout,hkeep⟩;refine⟨?_,?_⟩
      ·intro e he hae;rcases hE e he with k | ⟨t,k1,k2,k3⟩|k
       ·exact k w'
       ·obtain⟨t',ht',e'⟩:=gz hf k1 hae;cases e';exact k3 w' (hkeep t ht')
       ·obtain⟨t',ht',e'⟩:=gz hf k hae;cases e'
      ·obtain⟨sv,s2,ρ',hK,hle,hv,hs2⟩:=hout.sat hs';obtain⟨s3,h3,hs3⟩:=pG hK hs2 hv;refine nw hG hch r _ (Es.filter fun e=>!g.iA e.1 i) s3 ρ' _ w' h3 hs3 ?_ fun s4 ρ4 a4 w4 k hl hs4=>hQ s4 ρ4 a4 w4 k (hle.trans hl) hs4;intro e he;obtain⟨he,hna⟩:=List.mem_filter.1 he;have hae:g.iA e.1 i=false:=by simpa using hna
       rcases hE e he with k | ⟨t,k1,k2,k3⟩|k
       ·exact .inl k
       ·have hm:(e.1,some t)∈NS g i E:=List.mem_filter.2 ⟨k1,by simp[hae]⟩;obtain⟨t',ht',e'⟩:=gz hf k1 hae;cases e';refine .inr (.inl ⟨t,hm,Nat.lt_of_lt_of_le k2 hle.n,fun w'' hw''=>k3 w'' fun b hb=>?_⟩);exact(hw'' b (by rw[hle.pl t k2];exact hb)).trans (hkeep t ht' b hb)
       ·exact .inr (.inr (List.mem_filter.2 ⟨k,by simp[hae]⟩))
    |false =>
     simp only[cond_false,Bool.false_eq_true,if_false]at h ⊢;cases hq:iT o with
     |false=>rw[hq]at h;exact h.elim
     |true =>
      rw[hq]at h;simp only[cond_true]at h;obtain⟨v,sv,h1,h2,h3⟩:=yW hG.cx hq h w0 M ρ a w hs';refine⟨v,h3 w fun _ _ _ _=>rfl,?_⟩;obtain⟨s3,h4,hs3⟩:=pG h1 hs' h2;refine nw hG hch r _ _ s3 ρ _ w h4 hs3 ?_ hQ;intro e he;rcases List.mem_cons.1 he with rfl|he
      ·cases hr:DU o s' with
       |none=>exact .inl fun w'=>h3 w' fun t ht=>by rw[hr]at ht;cases ht
       |some t =>
        refine .inr (.inl ⟨t,List.mem_cons_self,?_,fun w' hw'=>h3 w' fun t' ht'=>?_⟩)
        ·have hp:∀x,DT s'.hp (s'.ev x)=some t->t<ρ.n:=by
          intro x hr;have:=hs'.frame.ev x;unfold DT at hr;split at hr
          ·obtain⟨e,he,rfl⟩:=wA hr;exact(hs'.heap.gH e he).tag
          unfold KQ at hr;split at hr
          ·rename_i e;cases hr;rw[e]at this;exact this.1
          ·rename_i e;cases hr;rw[e]at this;exact this.1
          ·cases hr
         unfold DU at hr;split at hr
         ·exact hp _ hr
         ·exact hp _ hr
         ·cases hr
        ·rw[hr]at ht';cases ht';exact hw'
      ·rcases hE e he with k | ⟨t,k1,k2,k3⟩|k
       ·exact .inl k
       ·refine .inr (.inl ⟨t,?_,k2,k3⟩);split
        ·exact List.mem_cons_of_mem _ k1
        ·exact k1
       ·refine .inr (.inr ?_);split
        ·exact List.mem_cons_of_mem _ k
        ·exact k
   ·rw[if_neg (by simp[hw])];obtain⟨s3,h3,hs3⟩:=pG h hs' (v:=undef) ⟨[],rfl,rfl⟩;exact nw hG hch r E Es s3 ρ _ w h3 hs3 hE hQ
theorem gI.draw{w0:World}{M:Nat->Prop}{ρ:Env}{s:S}{a:Act}{w:World}(h:gI w0 M ρ s a w):gI w0 M ρ s a { w with drawn:=w.drawn+1 } :=
 ⟨h.defers,h.size,h.n,h.frame,h.heap.world (M':=fun _=>False) ⟨rfl,rfl,rfl,Nat.le_refl _,fun _ _ _=>rfl,fun _ _=>rfl⟩ (fun _ _ h=>h.elim) fun _ _ _ _=>rfl⟩
theorem Sb{G:Fx}(hG:G.Ok){ch:gM}(hch:IM G.X ch){all:List Oper}{g:RG}(hg:Li all g=true){w0:World}{M:Nat->Prop}{Q:Exit->Act->World->Prop}{K:S->Prop}{id:Nat}{s:S}{ρ:Env}{a:Act}{w:World}
 (h:we G ch all g g.pi [] s K) (hs:gI w0 M ρ s a w) (hQ:∀s' ρ' a' w',K s'->ρ.le ρ'->gI w0 M ρ' s' a' w'->Q .normal a' w'):(Code.region id all.toArray true).wp G.X.P Q a w:=by
 obtain⟨hlen,hf,hst,hlo⟩:=Ez hg;refine wp_region_any hG.cx.mixed ?_;refine sA hf (Q:=fun a' w'=>Q .normal a' w') (fun _ _ h=>h) _ [] g.pi [] _ a _ ?_ hst (fun d hd=>by cases hd) hlo trivial (fun d hd=>by cases hd) ?_
 ·simpa using hlen
 ·exact nw hG hch g.pi [] [] s ρ a _ h hs.draw (fun e he=>by cases he) hQ
def Pg(G:Fx)(ch:gM)(all:List Oper)(g:RG)(i:Nat)(loud:Bool)(E:List (Nat×Option Nat))(s:S)(K:List (Nat×Option Nat)->S->Prop):Prop :=
 match all[i]? with
 |none=>False
 |some o=>BW G.X all o s
  (fun s=>bif loud then
   (match nX g i E with
   |none=>False
   |some ts=>NT G ch o ts s fun v s=>D4 o v s fun s=>K (NS g i E) s)
   else bif iT o then
    Vg G.X o s fun v s1=>D4 o v s1 fun s2=>K (match DU o s with|some t=>(i,some t)::E|none=>E) s2
   else False)
  (fun s=>D4 o (.l8 []) s fun s=>K E s)
def Bk(G:Fx)(ch:gM)(all:List Oper)(g:RG):List Nat->List (Nat×Option Nat)->S->(List (Nat×Option Nat)->S->Prop)->Prop
 |[],E,s,K=>K E s
 |i::r,E,s,K=>Pg G ch all g i false E s fun E s=>Bk G ch all g r E s K
def B4(G:Fx)(ch:gM)(all:List Oper)(g:RG):RT->List (Nat×Option Nat)->S->(S->Prop)->Prop
 |.one pi,E,s,K=>we G ch all g pi E s K
 |.two L x tx y ty,E,s,K=>Bk G ch all g L E s fun E s=>Pg G ch all g x true E s (fun E s=>B4 G ch all g tx E s K)/\Pg G ch all g y true E s (fun E s=>B4 G ch all g ty E s K)
def WT(P:Program)(w0:World)(M:Nat->Prop)(ρ:Env)(Kc:List (Nat×Option Nat)->S->Prop)(Es:List (Nat×Sem Next×Value))(a:Act)(w:World):Prop :=
 ∃E' s' ρ',Kc E' s'/\ρ.le ρ'/\gI w0 M ρ' s' a w/\∀e∈Es,Jk P ρ' w E' e
theorem EB{G:Fx}(hG:G.Ok){ch:gM}(hch:IM G.X ch){all:List Oper}{g:RG}{i:Nat}{E:List (Nat×Option Nat)}{s:S}{Kc:List (Nat×Option Nat)->S->Prop}(h:Pg G ch all g i true E s Kc){w0:World}{M:Nat->Prop}{ρ:Env}{a:Act}{w:World}{Es:List (Nat×Sem Next×Value)}
 (hs:gI w0 M ρ s a w) (hE:∀e∈Es,Jk G.X.P ρ w E e):tF G.X.P all.toArray g.iA i (WT G.X.P w0 M ρ Kc) Es a w:=by
 unfold Pg at h;unfold tF;cases ho:all[i]? with
 |none=>rw[ho]at h;exact h.elim
 |some o =>
  rw[ho]at h;have ho':all.toArray[i]? = some o:=by simpa using ho
  rw[ho'];simp only at h ⊢;obtain⟨s',_,hs',_,hcase⟩:=vw h hs;rcases hcase with⟨hw,h⟩ | ⟨hw,h⟩
  ·rw[if_pos hw];simp only[cond_true]at h;cases hf:nX g i E with
   |none=>rw[hf]at h;exact h.elim
   |some ts =>
    rw[hf]at h;simp only at h;refine(B3 hG hch h hs').mono ?_;rintro v w' ⟨hout,hkeep⟩;refine⟨?_,?_⟩
    ·intro e he hae;rcases hE e he with k | ⟨t,k1,k2,k3⟩|k
     ·exact k w'
     ·obtain⟨t',ht',e'⟩:=gz hf k1 hae;cases e';exact k3 w' (hkeep t ht')
     ·obtain⟨t',ht',e'⟩:=gz hf k hae;cases e'
    ·obtain⟨sv,s2,ρ',hK,hle,hv,hs2⟩:=hout.sat hs';obtain⟨s3,h3,hs3⟩:=pG hK hs2 hv;refine⟨_,s3,ρ',h3,hle,hs3,?_⟩;intro e he;obtain⟨he,hna⟩:=List.mem_filter.1 he;have hae:g.iA e.1 i=false:=by simpa using hna
     rcases hE e he with k | ⟨t,k1,k2,k3⟩|k
     ·exact .inl k
     ·have hm:(e.1,some t)∈NS g i E:=List.mem_filter.2 ⟨k1,by simp[hae]⟩;obtain⟨t',ht',e'⟩:=gz hf k1 hae;cases e';refine .inr (.inl ⟨t,hm,Nat.lt_of_lt_of_le k2 hle.n,fun w'' hw''=>k3 w'' fun b hb=>?_⟩);exact(hw'' b (by rw[hle.pl t k2];exact hb)).trans (hkeep t ht' b hb)
     ·exact .inr (.inr (List.mem_filter.2 ⟨k,by simp[hae]⟩))
  ·rw[if_neg (by simp[hw])];obtain⟨s3,h3,hs3⟩:=pG h hs' (v:=undef) ⟨[],rfl,rfl⟩;exact⟨_,s3,ρ,h3,Env.le.refl ρ,hs3,hE⟩
theorem uq{G:Fx}(hG:G.Ok){ch:gM}{all:List Oper}{g:RG}{Kc:List (Nat×Option Nat)->S->Prop}{w0:World}{M:Nat->Prop}{ρ:Env}{w:World}:∀(L:List Nat) (E:List (Nat×Option Nat)) (s:S) (a:Act) (Es:List (Nat×Sem Next×Value)),Bk G ch all g L E s Kc ->
 gI w0 M ρ s a w->(∀e∈Es,Jk G.X.P ρ w E e)->jY G.X.P all.toArray (WT G.X.P w0 M ρ Kc) L Es a w
 |[],E,s,a,Es,h,hs,hE=>⟨E,s,ρ,h,Env.le.refl ρ,hs,hE⟩
 |i::L,E,s,a,Es,h,hs,hE=>by
  simp only[Bk,Pg]at h;simp only[jY];cases ho:all[i]? with
  |none=>rw[ho]at h;exact h.elim
  |some o =>
   rw[ho]at h;have ho':all.toArray[i]? = some o:=by simpa using ho
   rw[ho'];simp only at h ⊢;obtain⟨s',_,hs',_,hcase⟩:=vw h hs;rcases hcase with⟨hw,h⟩ | ⟨hw,h⟩
   ·rw[if_pos hw];simp only[cond_false]at h;cases hq:iT o with
    |false=>rw[hq]at h;exact h.elim
    |true =>
     rw[hq]at h;simp only[cond_true]at h;obtain⟨v,sv,h1,h2,h3⟩:=yW hG.cx hq h w0 M ρ a w hs';refine⟨v,h3 w fun _ _ _ _=>rfl,?_⟩;obtain⟨s3,h4,hs3⟩:=pG h1 hs' h2;refine uq hG L _ s3 _ _ h4 hs3 ?_;intro e he;rcases List.mem_cons.1 he with rfl|he
     ·cases hr:DU o s' with
      |none=>exact .inl fun w'=>h3 w' fun t ht=>by rw[hr]at ht;cases ht
      |some t =>
       refine .inr (.inl ⟨t,List.mem_cons_self,?_,fun w' hw'=>h3 w' fun t' ht'=>?_⟩)
       ·have hp:∀x,DT s'.hp (s'.ev x)=some t->t<ρ.n:=by
         intro x hr;have:=hs'.frame.ev x;unfold DT at hr;split at hr
         ·obtain⟨e,he,rfl⟩:=wA hr;exact(hs'.heap.gH e he).tag
         unfold KQ at hr;split at hr
         ·rename_i e;cases hr;rw[e]at this;exact this.1
         ·rename_i e;cases hr;rw[e]at this;exact this.1
         ·cases hr
        unfold DU at hr;split at hr
        ·exact hp _ hr
        ·exact hp _ hr
        ·cases hr
       ·rw[hr]at ht';cases ht';exact hw'
     ·rcases hE e he with k | ⟨t,k1,k2,k3⟩|k
      ·exact .inl k
      ·refine .inr (.inl ⟨t,?_,k2,k3⟩);split
       ·exact List.mem_cons_of_mem _ k1
       ·exact k1
      ·refine .inr (.inr ?_);split
       ·exact List.mem_cons_of_mem _ k
       ·exact k
   ·rw[if_neg (by simp[hw])];obtain⟨s3,h3,hs3⟩:=pG h hs' (v:=undef) ⟨[],rfl,rfl⟩;exact uq hG L _ s3 _ _ h3 hs3 hE
theorem B5{P:Program}{ops:Array Oper}{iA:Nat->Nat->Bool}{x:Nat}{K K':List (Nat×Sem Next×Value)->Act->World->Prop}(hk:∀E a w,K E a w->K' E a w){E:List (Nat×Sem Next×Value)}{a:Act}{w:World}(h:tF P ops iA x K E a w):tF P ops iA x K' E a w:=by
 unfold tF at h ⊢;cases ho:ops[x]? with
 |none=>rw[ho]at h;exact h.elim
 |some o =>
  rw[ho]at h;simp only at h ⊢;by_cases hw:Region.wanted o (yielded ops a.tmps)=true
  ·rw[if_pos hw]at h ⊢;exact h.mono fun v w' ⟨h1,h2⟩=>⟨h1,hk _ _ _ h2⟩
  ·rw[if_neg hw]at h ⊢;exact hk _ _ _ h
theorem wH{G:Fx}(hG:G.Ok){ch:gM}(hch:IM G.X ch){all:List Oper}{g:RG}{w0:World}{M:Nat->Prop}{Q:Act->World->Prop}{K:S->Prop}:∀(T:RT) (E:List (Nat×Option Nat)) (Es:List (Nat×Sem Next×Value)) (s:S) (ρ:Env) (a:Act) (w:World),
 B4 G ch all g T E s K->gI w0 M ρ s a w->(∀e∈Es,Jk G.X.P ρ w E e) ->
 (∀s' ρ' a' w',K s'->ρ.le ρ'->gI w0 M ρ' s' a' w'->Q a' w')->v8 G.X.P all.toArray g.iA Q T Es a w
 |.one pi,E,Es,s,ρ,a,w,h,hs,hE,hQ=>nw hG hch pi E Es s ρ a w h hs hE hQ
 |.two L x tx y ty,E,Es,s,ρ,a,w,h,hs,hE,hQ=>by
  simp only[B4]at h;simp only[v8];refine p7 ?_ L Es a w (uq hG L E s a Es h hs hE);rintro Es1 a1 w1 ⟨E1,s1,ρ1,⟨h1,h2⟩,hle,hs1,hE1⟩;refine⟨B5 ?_ (EB hG hch h1 hs1 hE1),B5 ?_ (EB hG hch h2 hs1 hE1)⟩
  ·rintro Es2 a2 w2 ⟨E2,s2,ρ2,h3,hle2,hs2,hE2⟩;exact wH hG hch tx E2 Es2 s2 ρ2 a2 w2 h3 hs2 hE2 fun s' ρ' a' w' k hl hs'=>hQ s' ρ' a' w' k (hle.trans (hle2.trans hl)) hs'
  ·rintro Es2 a2 w2 ⟨E2,s2,ρ2,h3,hle2,hs2,hE2⟩;exact wH hG hch ty E2 Es2 s2 ρ2 a2 w2 h3 hs2 hE2 fun s' ρ' a' w' k hl hs'=>hQ s' ρ' a' w' k (hle.trans (hle2.trans hl)) hs'
def Lk(G:Fx)(ch:gM)(all:List Oper)(g:RG)(s:S)(K:S->Prop):Prop :=
 match g.tr with
 |some T=>B4 G ch all g T [] s K
 |none=>match g.two with
  |0=>we G ch all g g.pi [] s K
  |k+1=>match g.pi.drop k with
   |p::q::R=>we G ch all g (g.pi.take k++p::q::R) [] s K/\we G ch all g (g.pi.take k++q::p::R) [] s K
   |_=>False
theorem Ph{G:Fx}(hG:G.Ok){ch:gM}(hch:IM G.X ch){all:List Oper}{g:RG}(hg:R9 all g=true){w0:World}{M:Nat->Prop}{Q:Exit->Act->World->Prop}{K:S->Prop}{id:Nat}{s:S}{ρ:Env}{a:Act}{w:World}
 (h:Lk G ch all g s K) (hs:gI w0 M ρ s a w) (hQ:∀s' ρ' a' w',K s'->ρ.le ρ'->gI w0 M ρ' s' a' w'->Q .normal a' w'):(Code.region id all.toArray true).wp G.X.P Q a w:=by
 unfold Lk at h;unfold R9 at hg;cases htr:g.tr with
 |some T =>
  rw[htr]at h hg;obtain⟨hlen,hf,hst,hok⟩:=VJ hg;refine wp_region_any hG.cx.mixed ?_;refine Jh hf (Q:=fun a' w'=>Q .normal a' w') (fun _ _ h=>h) _ [] T [] _ a _ ?_ (by simpa using hst) hok (fun d hd=>by cases hd) trivial (fun d hd=>by cases hd) ?_
  ·simpa using hlen
  ·exact wH hG hch T [] [] s ρ a _ h hs.draw (fun e he=>by cases he) hQ
 |none =>
 rw[htr]at h hg;simp only at h hg;cases ht:g.two with
 |zero=>rw[ht]at h hg;exact Sb hG hch hg h hs hQ
 |succ k =>
  rw[ht]at h hg;simp only at h hg;split at hg
  ·rename_i x y R e;rw[e]at h;simp only[Bool.and_eq_true]at hg;obtain⟨⟨hq,h1⟩,h2⟩:=hg;obtain⟨hlen,hf,hst1,hlo1⟩:=Ez h1;obtain⟨_,_,hst2,hlo2⟩:=Ez h2;have hqm:=B0 hq;refine wp_region_any hG.cx.mixed ?_;have r1:=nw (Q:=fun a' w'=>Q .normal a' w') hG hch _ [] [] s ρ a _ h.1 hs.draw (fun e he=>by cases he) hQ;have r2:=nw (Q:=fun a' w'=>Q .normal a' w') hG hch _ [] [] s ρ a _ h.2 hs.draw (fun e he=>by cases he) hQ;rw[hqm]at r1 r2;have rr:=wF _ _ _ _ r1 r2;refine Lh (iA:=g.iA) (x:=x) (y:=y) (R:=R) hf (Q:=fun a' w'=>Q .normal a' w') (fun _ _ h=>h) ?_ ?_ ?_ _ [] ((g.pi.take k).map (·.1)) [] _ a _ ?_ ?_ ?_ (fun d hd=>by cases hd) trivial (fun d hd=>by cases hd) rr
   ·intro L' R' z ez q hq;exact hlo1 (g.pi.take k++(x,false)::(y,true)::L') R' z (by rw[ez];simp) q hq
   ·exact hlo2 (g.pi.take k++[(y,false)]) R x (by simp)
   ·exact hlo1 (g.pi.take k++[(x,false)]) R y (by simp)
   ·have:(g.pi.take k++(x,false)::(y,true)::R).length=all.length:=hlen;simp only[List.length_append,List.length_cons,List.length_map,List.length_nil,Nat.zero_add]at this ⊢;show _=all.toArray.size;simp only[List.size_toArray];omega
   ·simpa using hst1
   ·simpa using hst2
  ·cases hg
end
section
abbrev Sub:=List (Nat×Option Nat)
def jZ:Sub->Nat->Option (Option Nat)
 |[],_=>none
 |(j,v)::r,t=>bif Nat.beq j t then some v else jZ r t
def YI:Option Nat->Option Nat->Bool
 |none,none=>true
 |some a,some b=>Nat.beq a b
 |_,_=>false
theorem Sc{a b:Option Nat}(h:YI a b=true):a=b:=by
 cases a<;>cases b<;>simp[YI]at h<;>simp[h]
def xX(n0 N:Nat)(σ:Sub)(T:Nat)(x:Option Nat)(K:Sub->Prop):Prop :=
 match jZ σ T with
 |some y=>bif YI y x then K σ else False
 |none=>bif Nat.blt T N&&(Nat.ble n0 T||YI x (some T))then K ((T,x)::σ)else False
def xY:Place:=⟨0,0,0,fun _=>False⟩
def placeOf(ρ:Env):Option Nat->Place
 |some t=>ρ.pl t
 |none=>xY
structure Ext(σ σ':Sub):Prop where
 at_:∀T x,jZ σ T=some x->jZ σ' T=some x
theorem Ext.refl(σ:Sub):Ext σ σ:=⟨fun _ _ h=>h⟩
theorem Ext.trans{a b c:Sub}(h:Ext a b)(k:Ext b c):Ext a c:=⟨fun T x e=>k.at_ T x (h.at_ T x e)⟩
structure Wf(n0 N:Nat)(σ:Sub):Prop where
 lt:∀T x,jZ σ T=some x->T<N
 id:∀T x,jZ σ T=some x->T<n0->x=some T
theorem Wf.nil(n0 N:Nat):Wf n0 N []:=⟨fun _ _ h=>(by cases h),fun _ _ h=>(by cases h)⟩
def Fits(ρ ρ':Env)(σ:Sub):Prop:=∀T x,jZ σ T=some x->T<ρ'.n/\ρ'.pl T=placeOf ρ x
theorem Fits.ext{ρ ρ':Env}{σ σ':Sub}(h:Fits ρ ρ' σ')(k:Ext σ σ'):Fits ρ ρ' σ:=fun T x e=>h T x (k.at_ T x e)
theorem p9{n0 N:Nat}{σ:Sub}{T:Nat}{x:Option Nat}{K:Sub->Prop}(h:xX n0 N σ T x K)(hw:Wf n0 N σ):∃σ',K σ'/\Ext σ σ'/\Wf n0 N σ'/\jZ σ' T=some x:=by
 unfold xX at h;split at h
 ·rename_i y hy;cases hb:YI y x
  ·rw[hb]at h;exact h.elim
  ·rw[hb]at h;have:=Sc hb;subst this;exact⟨σ,h,Ext.refl σ,hw,hy⟩
 ·rename_i hn;cases hb:(Nat.blt T N&&(Nat.ble n0 T||YI x (some T)))
  ·rw[hb]at h;exact h.elim
  ·rw[hb]at h;simp only[Bool.and_eq_true,Bool.or_eq_true]at hb;obtain⟨h1,h2⟩:=hb;have hlt:T<N:=by simp[Nat.blt]at h1;omega
   have hself:jZ ((T,x)::σ) T=some x:=by simp[jZ]
   refine⟨_,h,⟨fun T' x' e=>?_⟩,⟨fun T' x' e=>?_,fun T' x' e hl=>?_⟩,hself⟩
   ·simp only[jZ];by_cases he:T=T'
    ·subst he;rw[hn]at e;cases e
    ·rw[ey he];exact e
   ·simp only[jZ]at e;by_cases he:T=T'
    ·subst he;exact hlt
    ·rw[ey he]at e;exact hw.lt _ _ e
   ·simp only[jZ]at e;by_cases he:T=T'
    ·subst he;simp only[dh,cond_true,Option.some.injEq]at e;subst e;rcases h2 with h2|h2
     ·have:=Nat.le_of_ble_eq_true h2;omega
     ·exact Sc h2
    ·rw[ey he]at e;exact hw.id _ _ e hl
def F7(x:A)(k:IntKind)(n:Int)(K:Prop):Prop :=
 match x.i? with
 |some (j,m)=>bif oz j k then m=n/\K else False
 |none=>False
def B6(x:A)(b:Bool)(K:Prop):Prop :=
 match x.b? with
 |some c=>c=b/\K
 |none=>False
def oG(n0 N:Nat)(σ:Sub)(x y:A)(K:Sub->Prop):Prop :=
 match y with
 |.any=>K σ
 |.lit k n=>F7 x k n (K σ)
 |.int k n=>F7 x k n (K σ)
 |.tt=>B6 x true (K σ)
 |.ff=>B6 x false (K σ)
 |.bool b=>B6 x b (K σ)
 |.str t=>match x with
  |.str s=>s=t/\K σ
  |_=>False
 |.nil=>match x with
  |.nil=>K σ
  |_=>False
 |.bU=>match x with
  |.bU=>K σ
  |_=>False
 |.fn g=>match x with
  |.fn f=>bif Nat.beq f g then K σ else False
  |_=>False
 |.val u=>match x with
  |.val v=>v=u/\K σ
  |.bU=>Value.slice none 0 0=u/\K σ
  |.nil=>Value.pointer none=u/\K σ
  |_=>False
 |.ptr T R E C=>match x with
  |.ptr t r e c=>bif Nat.beq e E&&Nat.beq c C then r=R/\xX n0 N σ T (some t) K else False
  |_=>False
 |.slc T R E L C=>match x with
  |.slc t r e l c=>bif Nat.beq e E then(r=R/\l=L/\c=C)/\xX n0 N σ T (some t) K else False
  |.bU=>(0=L/\0=C)/\xX n0 N σ T none K
  |_=>False
 |.sub T R E O L C=>match x with
  |.sub t r e o l c=>bif Nat.beq e E&&Nat.beq o O then(r=R/\l=L/\c=C)/\xX n0 N σ T (some t) K else False
  |_=>False
theorem EC{x:A}{k:IntKind}{n:Int}{K:Prop}(h:F7 x k n K):K/\∀(ρ:Env) v,x.b8 ρ v->v = .int k n/\bL k n:=by
 unfold F7 at h;split at h
 ·rename_i j m hi;cases hk:oz j k
  ·rw[hk]at h;exact h.elim
  ·rw[hk]at h;obtain⟨rfl,h⟩:=h;have:=lF hk;subst this;exact⟨h,fun ρ v r=>A.jC hi r⟩
 ·exact h.elim
theorem yZ{x:A}{b:Bool}{K:Prop}(h:B6 x b K):K/\∀(ρ:Env) v,x.b8 ρ v->v = .bool b:=by
 unfold B6 at h;split at h
 ·rename_i c hc;obtain⟨rfl,h⟩:=h;exact⟨h,fun ρ v r=>A.wB hc r⟩
 ·exact h.elim
theorem y4{n0 N:Nat}{σ:Sub}{x y:A}{K:Sub->Prop}(h:oG n0 N σ x y K)(hw:Wf n0 N σ) :
 ∃σ',K σ'/\Ext σ σ'/\Wf n0 N σ'/\∀ρ ρ' v,Fits ρ ρ' σ'->x.b8 ρ v->y.b8 ρ' v:=by
 cases y with
 |any=>exact⟨σ,h,Ext.refl σ,hw,fun _ _ _ _ _=>trivial⟩
 |lit k n=>obtain⟨h,hr⟩:=EC h;exact⟨σ,h,Ext.refl σ,hw,fun ρ _ v _ r=>hr ρ v r⟩
 |int k n=>obtain⟨h,hr⟩:=EC h;exact⟨σ,h,Ext.refl σ,hw,fun ρ _ v _ r=>hr ρ v r⟩
 |tt=>obtain⟨h,hr⟩:=yZ h;exact⟨σ,h,Ext.refl σ,hw,fun ρ _ v _ r=>hr ρ v r⟩
 |ff=>obtain⟨h,hr⟩:=yZ h;exact⟨σ,h,Ext.refl σ,hw,fun ρ _ v _ r=>hr ρ v r⟩
 |bool b=>obtain⟨h,hr⟩:=yZ h;exact⟨σ,h,Ext.refl σ,hw,fun ρ _ v _ r=>hr ρ v r⟩
 |str t =>
  cases x<;>simp only[oG]at h<;>try exact h.elim
  obtain⟨rfl,h⟩:=h;exact⟨σ,h,Ext.refl σ,hw,fun ρ _ v _ r=>r⟩
 |nil =>
  cases x<;>simp only[oG]at h<;>try exact h.elim
  exact⟨σ,h,Ext.refl σ,hw,fun ρ _ v _ r=>r⟩
 |bU =>
  cases x<;>simp only[oG]at h<;>try exact h.elim
  exact⟨σ,h,Ext.refl σ,hw,fun ρ _ v _ r=>r⟩
 |fn g =>
  cases x<;>simp only[oG]at h<;>try exact h.elim
  rename_i f;cases hb:Nat.beq f g
  ·rw[hb]at h;exact h.elim
  ·rw[hb]at h;have:=Nat.eq_of_beq_eq_true hb;subst this;exact⟨σ,h,Ext.refl σ,hw,fun ρ _ v _ r=>r⟩
 |val u =>
  cases x<;>simp only[oG]at h<;>try exact h.elim
  ·obtain⟨rfl,h⟩:=h;exact⟨σ,h,Ext.refl σ,hw,fun ρ _ v _ r=>⟨r,rfl⟩⟩
  ·obtain⟨rfl,h⟩:=h;exact⟨σ,h,Ext.refl σ,hw,fun ρ _ v _ r=>⟨r,rfl⟩⟩
  ·obtain⟨rfl,h⟩:=h;exact⟨σ,h,Ext.refl σ,hw,fun ρ _ v _ r=>r⟩
 |ptr T R E C =>
  cases x<;>simp only[oG]at h<;>try exact h.elim
  rename_i t r e c;cases hb:(Nat.beq e E&&Nat.beq c C)
  ·rw[hb]at h;exact h.elim
  ·rw[hb]at h;simp only[Bool.and_eq_true]at hb;have h1:=Nat.eq_of_beq_eq_true hb.1;have h2:=Nat.eq_of_beq_eq_true hb.2;subst h1;subst h2;obtain⟨rfl,h⟩:=h;obtain⟨σ',hk,he,hw',hs⟩:=p9 h hw;refine⟨σ',hk,he,hw',fun ρ ρ' v hf r=>?_⟩;obtain⟨h1,h2⟩:=hf _ _ hs;obtain⟨_,rfl⟩:=r;exact⟨h1,by rw[h2];rfl⟩
 |slc T R E L C =>
  cases x<;>simp only[oG]at h<;>try exact h.elim
  ·obtain⟨⟨rfl,rfl⟩,h⟩:=h;obtain⟨σ',hk,he,hw',hs⟩:=p9 h hw;refine⟨σ',hk,he,hw',fun ρ ρ' v hf r=>?_⟩;obtain⟨h1,h2⟩:=hf _ _ hs;exact⟨h1,Nat.le_refl _,by unfold aq;omega,.inl ⟨rfl,rfl,r⟩⟩
  ·rename_i t r e l c;cases hb:Nat.beq e E
   ·rw[hb]at h;exact h.elim
   ·rw[hb]at h;have h1:=Nat.eq_of_beq_eq_true hb;subst h1;obtain⟨⟨rfl,rfl,rfl⟩,h⟩:=h;obtain⟨σ',hk,he,hw',hs⟩:=p9 h hw;refine⟨σ',hk,he,hw',fun ρ ρ' v hf r=>?_⟩;obtain⟨h1,h2⟩:=hf _ _ hs;obtain⟨_,h3,h4,h5⟩:=r;exact⟨h1,h3,h4,by rw[h2];exact h5⟩
 |sub T R E O L C =>
  cases x<;>simp only[oG]at h<;>try exact h.elim
  rename_i t r e o l c;cases hb:(Nat.beq e E&&Nat.beq o O)
  ·rw[hb]at h;exact h.elim
  ·rw[hb]at h;simp only[Bool.and_eq_true]at hb;have h1:=Nat.eq_of_beq_eq_true hb.1;have h2:=Nat.eq_of_beq_eq_true hb.2;subst h1;subst h2;obtain⟨⟨rfl,rfl,rfl⟩,h⟩:=h;obtain⟨σ',hk,he,hw',hs⟩:=p9 h hw;refine⟨σ',hk,he,hw',fun ρ ρ' v hf r=>?_⟩;obtain⟨h1,h2⟩:=hf _ _ hs;obtain⟨_,h3,h4,rfl⟩:=r;exact⟨h1,h3,h4,by rw[h2];rfl⟩
def y5(n0 N:Nat):Sub->List A->List A->(Sub->Prop)->Prop
 |σ,[],[],K=>K σ
 |σ,x::xs,y::ys,K=>oG n0 N σ x y fun σ=>y5 n0 N σ xs ys K
 |_,_,_,_=>False
theorem rO{n0 N:Nat}{K:Sub->Prop}:∀ {σ:Sub} {xs ys:List A},y5 n0 N σ xs ys K->Wf n0 N σ ->
 ∃σ',K σ'/\Ext σ σ'/\Wf n0 N σ'/\∀ρ ρ' vs,Fits ρ ρ' σ'->ct ρ xs vs->ct ρ' ys vs
 |σ,[],[],h,hw=>⟨σ,h,Ext.refl σ,hw,fun _ _ _ _ r=>r⟩
 |σ,x::xs,y::ys,h,hw=>by
  obtain⟨σ1,h1,e1,w1,r1⟩:=y4 h hw;obtain⟨σ2,h2,e2,w2,r2⟩:=rO h1 w1;refine⟨σ2,h2,e1.trans e2,w2,fun ρ ρ' vs hf r=>?_⟩;obtain⟨v,t,e,ra,rb⟩:=r;exact⟨v,t,e,r1 ρ ρ' v (hf.ext e2) ra,r2 ρ ρ' t hf rb⟩
 |_,[],_::_,h,_=>h.elim
 |_,_::_,[],h,_=>h.elim
def F8(n0 N:Nat)(σ:Sub)(x y:CV)(K:Sub->Prop):Prop :=
 match x,y with
 |.a x,.a y=>oG n0 N σ x y K
 |.agg xs,.agg ys=>y5 n0 N σ xs ys K
 |_,_=>False
theorem Ll{n0 N:Nat}{K:Sub->Prop}{σ:Sub}{x y:CV}(h:F8 n0 N σ x y K)(hw:Wf n0 N σ) :
 ∃σ',K σ'/\Ext σ σ'/\Wf n0 N σ'/\∀ρ ρ' v,Fits ρ ρ' σ'->x.b8 ρ v->y.b8 ρ' v:=by
 cases x<;>cases y<;>simp only[F8]at h
 ·exact y4 h hw
 ·obtain⟨σ',h1,h2,h3,h4⟩:=rO h hw;refine⟨σ',h1,h2,h3,fun ρ ρ' v hf r=>?_⟩;obtain⟨vs,e,r⟩:=r;exact⟨vs,e,h4 ρ ρ' vs hf r⟩
def F9(n0 N:Nat):Sub->List CV->List CV->(Sub->Prop)->Prop
 |σ,[],[],K=>K σ
 |σ,x::xs,y::ys,K=>F8 n0 N σ x y fun σ=>F9 n0 N σ xs ys K
 |_,_,_,_=>False
theorem B7{n0 N:Nat}{K:Sub->Prop}:∀ {σ:Sub} {xs ys:List CV},F9 n0 N σ xs ys K->Wf n0 N σ ->
 ∃σ',K σ'/\Ext σ σ'/\Wf n0 N σ'/\∀ρ ρ' vs,Fits ρ ρ' σ'->r4 ρ xs vs->r4 ρ' ys vs
 |σ,[],[],h,hw=>⟨σ,h,Ext.refl σ,hw,fun _ _ _ _ r=>r⟩
 |σ,x::xs,y::ys,h,hw=>by
  obtain⟨σ1,h1,e1,w1,r1⟩:=Ll h hw;obtain⟨σ2,h2,e2,w2,r2⟩:=B7 h1 w1;refine⟨σ2,h2,e1.trans e2,w2,fun ρ ρ' vs hf r=>?_⟩;obtain⟨v,t,e,ra,rb⟩:=r;exact⟨v,t,e,r1 ρ ρ' v (hf.ext e2) ra,r2 ρ ρ' t hf rb⟩
 |_,[],_::_,h,_=>h.elim
 |_,_::_,[],h,_=>h.elim
def isAny:SV->Bool
 |.a .any=>true
 |_=>false
def B8(n0 N:Nat)(σ:Sub)(x y:SV)(K:Sub->Prop):Prop :=
 bif isAny y then K σ else
 match x,y with
 |.a x,.a y=>oG n0 N σ x y K
 |.agg xs,.agg ys=>y5 n0 N σ xs ys K
 |.l8 xs,.l8 ys=>F9 n0 N σ xs ys K
 |.Bd f xs,.Bd g ys=>bif Nat.beq f g then y5 n0 N σ xs ys K else False
 |_,_=>False
theorem vz{n0 N:Nat}{K:Sub->Prop}{σ:Sub}{x y:SV}(h:B8 n0 N σ x y K)(hw:Wf n0 N σ) :
 ∃σ',K σ'/\Ext σ σ'/\Wf n0 N σ'/\∀ρ ρ' v,Fits ρ ρ' σ'->x.b8 ρ v->y.b8 ρ' v:=by
 unfold B8 at h;cases hb:isAny y
 ·rw[hb]at h;simp only[cond_false]at h;split at h
  ·exact y4 h hw
  ·obtain⟨σ',h1,h2,h3,h4⟩:=rO h hw;refine⟨σ',h1,h2,h3,fun ρ ρ' v hf r=>?_⟩;obtain⟨vs,e,r⟩:=r;exact⟨vs,e,h4 ρ ρ' vs hf r⟩
  ·obtain⟨σ',h1,h2,h3,h4⟩:=B7 h hw;refine⟨σ',h1,h2,h3,fun ρ ρ' v hf r=>?_⟩;obtain⟨vs,e,r⟩:=r;exact⟨vs,e,h4 ρ ρ' vs hf r⟩
  ·rename_i f xs g ys;cases hb:Nat.beq f g
   ·rw[hb]at h;exact h.elim
   rw[hb]at h;have:=Nat.eq_of_beq_eq_true hb;subst this;obtain⟨σ',h1,h2,h3,h4⟩:=rO h hw;refine⟨σ',h1,h2,h3,fun ρ ρ' v hf r=>?_⟩;obtain⟨vs,e,r⟩:=r;exact⟨vs,e,h4 ρ ρ' vs hf r⟩
  ·exact h.elim
 ·rw[hb]at h;simp only[cond_true]at h;refine⟨σ,h,Ext.refl σ,hw,fun _ _ _ _ _=>?_⟩;unfold isAny at hb;split at hb
  ·trivial
  ·cases hb
def y6(n0 N:Nat):Sub->List SV->List SV->(Sub->Prop)->Prop
 |σ,[],[],K=>K σ
 |σ,x::xs,y::ys,K=>B8 n0 N σ x y fun σ=>y6 n0 N σ xs ys K
 |_,_,_,_=>False
theorem xZ{n0 N:Nat}{K:Sub->Prop}:∀ {σ:Sub} {xs ys:List SV},y6 n0 N σ xs ys K->Wf n0 N σ ->
 ∃σ',K σ'/\Ext σ σ'/\Wf n0 N σ'/\∀ρ ρ' vs,Fits ρ ρ' σ'->iU ρ xs vs->iU ρ' ys vs
 |σ,[],[],h,hw=>⟨σ,h,Ext.refl σ,hw,fun _ _ _ _ r=>r⟩
 |σ,x::xs,y::ys,h,hw=>by
  obtain⟨σ1,h1,e1,w1,r1⟩:=vz h hw;obtain⟨σ2,h2,e2,w2,r2⟩:=xZ h1 w1;refine⟨σ2,h2,e1.trans e2,w2,fun ρ ρ' vs hf r=>?_⟩;obtain⟨v,t,e,ra,rb⟩:=r;exact⟨v,t,e,r1 ρ ρ' v (hf.ext e2) ra,r2 ρ ρ' t hf rb⟩
 |_,[],_::_,h,_=>h.elim
 |_,_::_,[],h,_=>h.elim
def x6(n0 N:Nat)(fr:List (Nat×SV)):List Nat->Sub->List (Nat×SV)->(Sub->Prop)->Prop
 |_,σ,[],K=>K σ
 |seen,σ,(i,v)::r,K=>bif yL seen i then x6 n0 N fr seen σ r K else B8 n0 N σ (look fr i) v fun σ=>x6 n0 N fr (i::seen) σ r K
theorem wI{n0 N:Nat}{K:Sub->Prop}{fr:List (Nat×SV)}:∀ {seen:List Nat} {σ:Sub} {ys:List (Nat×SV)},x6 n0 N fr seen σ ys K->Wf n0 N σ ->
 ∃σ',K σ'/\Ext σ σ'/\Wf n0 N σ'/\∀(ρ ρ':Env) (tmps:Array Value),Fits ρ ρ' σ'->dy ρ fr tmps->∀j,yL seen j=false->(look ys j).b8 ρ' (tmps.getD j undef)
 |_,σ,[],h,hw=>⟨σ,h,Ext.refl σ,hw,fun _ _ _ _ _ _ _=>trivial⟩
 |seen,σ,(i,y)::ys,h,hw=>by
  simp only[x6]at h;cases hs:yL seen i
  ·rw[hs]at h;simp only[cond_false]at h;obtain⟨σ1,h1,e1,w1,r1⟩:=vz h hw;obtain⟨σ2,h2,e2,w2,r2⟩:=wI h1 w1;refine⟨σ2,h2,e1.trans e2,w2,fun ρ ρ' vs hf r=>?_⟩;intro j hj;simp only[look];by_cases hij:i=j
   ·subst hij;simp only[dh,cond_true];exact r1 ρ ρ' _ (hf.ext e2) (r i)
   ·rw[ey hij];refine r2 ρ ρ' vs hf r j ?_;simp only[yL,ey hij,cond_false];exact hj
  ·rw[hs]at h;simp only[cond_true]at h;obtain⟨σ2,h2,e2,w2,r2⟩:=wI h hw;refine⟨σ2,h2,e2,w2,fun ρ ρ' vs hf r=>?_⟩;intro j hj;simp only[look];by_cases hij:i=j
   ·subst hij;rw[hs]at hj;cases hj
   ·rw[ey hij];exact r2 ρ ρ' vs hf r j hj
structure aj(n m:Nat)(rows rows':Nat->Nat->Value):Prop where
 at_:∀i,i<n->∀j,j<m->rows i j=rows' i j
@[simp] theorem aj.refl(n m:Nat)(rows:Nat->Nat->Value):aj n m rows rows:=⟨fun _ _ _ _=>rfl⟩
def sC(n0 N:Nat)(σ:Sub)(c d:Chunk)(K:Sub->Prop):Prop :=
 match c,d with
 |.obj ty cs,.obj ty' cs'=>bif Nat.beq ty ty' then y5 n0 N σ cs cs' K else False
 |.arr ty ks n rows,.arr ty' ks' n' rows'=>bif Nat.beq ty ty'&&mg ks ks' then(n'<=n/\aj n' ks'.length rows rows')/\K σ else False
 |.abs R,.abs R'=>R=R'/\K σ
 |.cu H,.cu H'=>H=H'/\K σ
 |_,_=>False
theorem qa{n0 N:Nat}{K:Sub->Prop}{σ:Sub}{c d:Chunk}(h:sC n0 N σ c d K)(hw:Wf n0 N σ) :
 ∃σ',K σ'/\Ext σ σ'/\Wf n0 N σ'/\∀ρ ρ' p w,Fits ρ ρ' σ'->c.Sat ρ p w->d.Sat ρ' p w:=by
 unfold sC at h;split at h
 ·rename_i ty cs ty' cs';cases hb:Nat.beq ty ty'
  ·rw[hb]at h;exact h.elim
  ·rw[hb]at h;have:=Nat.eq_of_beq_eq_true hb;subst this;obtain⟨σ',h1,h2,h3,h4⟩:=rO h hw;refine⟨σ',h1,h2,h3,fun ρ ρ' p w hf r=>?_⟩;obtain⟨vs,fr,a,b,⟨us,xs,e,c⟩,d⟩:=r;exact⟨vs,fr,a,b,⟨us,xs,e,h4 ρ ρ' _ hf c⟩,d⟩
 ·rename_i ty ks n rows ty' ks' n' rows';cases hb:(Nat.beq ty ty'&&mg ks ks')
  ·rw[hb]at h;exact h.elim
  ·rw[hb]at h;simp only[Bool.and_eq_true]at hb;have e1:=Nat.eq_of_beq_eq_true hb.1;have e2:=nW hb.2;subst e1;subst e2;obtain⟨⟨hn,hr⟩,h⟩:=h;refine⟨σ,h,Ext.refl σ,hw,fun ρ ρ' p w hf r=>?_⟩;rcases r with⟨a,b,c⟩ | ⟨vs,ty',fr,a,b,c,d,e,f⟩
   ·exact .inl ⟨by omega,b,c⟩
   ·refine .inr ⟨vs,ty',fr,a,b,by omega,d,e,fun i hi j k hk=>?_⟩;rw[<- hr.at_ i hi j (List.getElem?_eq_some_iff.1 hk).1];exact f i (by omega) j k hk
 ·obtain⟨rfl,h⟩:=h;exact⟨σ,h,Ext.refl σ,hw,fun ρ ρ' p w hf r=>r⟩
 ·obtain⟨rfl,h⟩:=h;exact⟨σ,h,Ext.refl σ,hw,fun ρ ρ' p w hf r=>r⟩
 ·exact h.elim
def Ay(T:Nat):aF->Bool
 |[]=>true
 |e::r=>bif Nat.beq e.tag T then false else Ay T r
theorem sD{T:Nat}:∀ {hp:aF},Ay T hp=true->∀e∈hp,T≠e.tag
 |[],_,_,h=>by cases h
 |x::r,h,e,he=>by
  simp only[Ay]at h;by_cases hx:x.tag=T
  ·rw[hx,dh]at h;cases h
  ·rw[ey hx]at h;rcases List.mem_cons.1 he with rfl|he
   ·exact fun hh=>hx hh.symm
   ·exact sD h e he
def VL:Chunk->Prop->Prop
 |.arr _ _ n _,K=>n=0/\K
 |_,_=>False
def x7(wr:Bool):aF->Option Nat
 |[]=>none
 |e::r=>match e.ch with
  |.abs _=>bif (bif wr then e.wr else !e.wr)then some e.tag else x7 wr r
  |_=>x7 wr r
def Sd(n0 T:Nat)(wr:Bool)(c:Chunk)(hp:aF):Option Nat:=match c with
 |.abs _=>bif Nat.blt T n0 then(match hp.find T with
  |some (_,.abs _)=>some T
  |_=>x7 wr hp)else x7 wr hp
 |.cu _=>r6 hp
 |_=>none
def nR(n0 N:Nat):Nat->Nat->Sub->aF->aF->(Sub->aF->Prop)->Prop
 |0,_,_,_,_,_=>False
 |_+1,_,σ,hp,[],K=>K σ hp
 |n+1,d,σ,hp,e::r,K=>bif Ay e.tag r then
  (match jZ σ e.tag with
  |some none=>VL e.ch (nR n0 N n r.length σ hp r K)
  |some (some t)=>match hp.find t with
   |some (wr,ch)=>bif !e.wr||wr then sC n0 N σ ch e.ch fun σ=>nR n0 N n r.length σ (hp.del t) r K else False
   |none=>False
  |none=>match Sd n0 e.tag e.wr e.ch hp with
   |some t=>(match hp.find t with
    |some (wr,ch)=>bif !e.wr||wr then xX n0 N σ e.tag (some t) fun σ=>sC n0 N σ ch e.ch fun σ=>nR n0 N n r.length σ (hp.del t) r K else False
    |none=>False)
   |none=>match d with
    |d+1=>nR n0 N n d σ hp (r++[e]) K
    |0=>match hp.find e.tag with
     |some (wr,ch)=>bif !e.wr||wr then xX n0 N σ e.tag (some e.tag) fun σ=>sC n0 N σ ch e.ch fun σ=>nR n0 N n r.length σ (hp.del e.tag) r K else False
     |none=>False)else False
inductive KO(σ:Sub):aF->aF->aF->Prop where
 |nil (hp:aF):KO σ hp [] hp
 |later {hp r rest:aF} {e:A2}:KO σ hp (r++[e]) rest->KO σ hp (e::r) rest
 |skip {hp r rest:aF} {T:Nat} {wr:Bool} {ty:TypeId} {ks:List CK} {rows:Nat->Nat->Value}:jZ σ T=some none->(∀e∈r,T≠e.tag)->KO σ hp r rest->KO σ hp (⟨T,wr,.arr ty ks 0 rows⟩::r) rest
 |take {hp r rest:aF} {T t:Nat} {wr wr':Bool} {ch ch':Chunk}:jZ σ T=some (some t)->hp.find t=some (wr',ch')->(wr=true->wr'=true) ->
  (∀ρ ρ' p w,Fits ρ ρ' σ->ch'.Sat ρ p w->ch.Sat ρ' p w)->(∀e∈r,T≠e.tag)->KO σ (hp.del t) r rest->KO σ hp (⟨T,wr,ch⟩::r) rest
theorem kf{n0 N:Nat}{K:Sub->aF->Prop}:∀ {n d:Nat} {J:aF} {σ:Sub} {hp:aF},nR n0 N n d σ hp J K->Wf n0 N σ->∃σ' rest,K σ' rest/\Ext σ σ'/\Wf n0 N σ'/\KO σ' hp J rest
 |0,_,_,_,_,h,_=>h.elim
 |_+1,_,[],σ,hp,h,hw=>⟨σ,hp,h,Ext.refl σ,hw,.nil hp⟩
 |n+1,d,⟨T,wr,ch⟩::r,σ,hp,h,hw=>by
  simp only[nR]at h;cases hn:Ay T r
  ·rw[hn]at h;exact h.elim
  rw[hn]at h;simp only[cond_true]at h;have hne:=sD hn;split at h
  ·rename_i hs;cases ch<;>simp only[VL]at h<;>try exact h.elim
   obtain⟨rfl,h⟩:=h;obtain⟨σ',rest,h1,h2,h3,h4⟩:=kf h hw;exact⟨σ',rest,h1,h2,h3,.skip (h2.at_ _ _ hs) hne h4⟩
  ·rename_i t hs;split at h
   ·rename_i wr' ch' hf;cases hb:(!wr||wr')
    ·rw[hb]at h;exact h.elim
    rw[hb]at h;simp only[cond_true]at h;obtain⟨σ1,k1,e1,w1,r1⟩:=qa h hw;obtain⟨σ',rest,h1,h2,h3,h4⟩:=kf k1 w1;refine⟨σ',rest,h1,e1.trans h2,h3,.take ((e1.trans h2).at_ _ _ hs) hf (fun hw=>?_) (fun ρ ρ' p w hf=>r1 ρ ρ' p w (hf.ext h2)) hne h4⟩;subst hw;simpa using hb
   ·exact h.elim
  ·split at h
   ·split at h
    ·rename_i wr' ch' hf;cases hb:(!wr||wr')
     ·rw[hb]at h;exact h.elim
     rw[hb]at h;simp only[cond_true]at h;obtain⟨σ0,k0,e0,w0,s0⟩:=p9 h hw;obtain⟨σ1,k1,e1,w1,r1⟩:=qa k0 w0;obtain⟨σ',rest,h1,h2,h3,h4⟩:=kf k1 w1;refine⟨σ',rest,h1,e0.trans (e1.trans h2),h3,.take ((e1.trans h2).at_ _ _ s0) hf (fun hw=>?_) (fun ρ ρ' p w hf=>r1 ρ ρ' p w (hf.ext h2)) hne h4⟩;subst hw;simpa using hb
    ·exact h.elim
   ·split at h
    ·obtain⟨σ',rest,h1,h2,h3,h4⟩:=kf h hw;exact⟨σ',rest,h1,h2,h3,.later h4⟩
    ·split at h
     ·rename_i wr' ch' hf;cases hb:(!wr||wr')
      ·rw[hb]at h;exact h.elim
      rw[hb]at h;simp only[cond_true]at h;obtain⟨σ0,k0,e0,w0,s0⟩:=p9 h hw;obtain⟨σ1,k1,e1,w1,r1⟩:=qa k0 w0;obtain⟨σ',rest,h1,h2,h3,h4⟩:=kf k1 w1;refine⟨σ',rest,h1,e0.trans (e1.trans h2),h3,.take ((e1.trans h2).at_ _ _ s0) hf (fun hw=>?_) (fun ρ ρ' p w hf=>r1 ρ ρ' p w (hf.ext h2)) hne h4⟩;subst hw;simpa using hb
     ·exact h.elim
theorem KO.rest{σ:Sub}{hp J rest:aF}(h:KO σ hp J rest):rest.Sublist hp:=by
 induction h with
 |nil=>exact List.Sublist.refl _
 |later _ ih=>exact ih
 |skip _ _ _ ih=>exact ih
 |take _ _ _ _ _ _ ih=>exact ih.trans aF.iS
theorem KO.src{σ:Sub}{hp J rest:aF}(h:KO σ hp J rest){ρ ρ':Env}(hf:Fits ρ ρ' σ):∀e∈J,(∀b,¬(ρ'.pl e.tag).fp b)\/∃e'∈hp,ρ'.pl e.tag=ρ.pl e'.tag/\(e.wr=true->e'.wr=true):=by
 induction h with
 |nil=>intro e he;cases he
 |later _ ih=>intro e he;exact ih e (by simp only[List.mem_cons,List.mem_append,List.not_mem_nil,or_false]at he ⊢;exact he.symm)
 |skip hs _ _ ih =>
  intro e he;rcases List.mem_cons.1 he with rfl|he
  ·left;intro b;rw[(hf _ _ hs).2];exact id
  ·exact ih e he
 |take hs hfd hw _ _ _ ih =>
  intro e he;rcases List.mem_cons.1 he with rfl|he
  ·exact .inr ⟨_,aF.bk hfd,(hf _ _ hs).2,hw⟩
  ·rcases ih e he with h | ⟨e',h1,h2⟩
   ·exact .inl h
   ·exact .inr ⟨e',aF.iS.subset h1,h2⟩
theorem pS.symm{ρ:Env}{x y:A2}(h:pS ρ x y):pS ρ y x:=⟨h.1.symm,fun hw b hb hb'=>h.2 (by rw[Bool.or_comm];exact hw) b hb' hb⟩
theorem ai.perm{w0:World}{M:Nat->Prop}{ρ:Env}{w:World}{hp cT:aF}(h:ai w0 M ρ hp w)(hq:hp.Perm cT):ai w0 M ρ cT w :=
 ⟨h.keeps,fun e he=>h.gH e (hq.mem_iff.2 he),hq.pairwise h.apart fun h=>h.symm⟩
theorem KO.sat{σ:Sub}{hp J rest:aF}(h:KO σ hp J rest){ρ ρ':Env}(hf:Fits ρ ρ' σ){w0:World}{M:Nat->Prop}{w:World}(hh:ai w0 M ρ hp w):ai w0 M ρ' J w:=by
 induction h with
 |nil=>exact⟨hh.keeps,fun _ h=>(by cases h),.nil⟩
 |later _ ih=>exact(ih hh).perm (List.perm_append_singleton _ _)
 |skip hs hne _ ih =>
  refine(ih hh).cons ⟨(hf _ _ hs).1,?_,?_,?_⟩ fun x hx=>⟨hne x hx,fun _ b hb=>?_⟩
  ·refine .inl ⟨rfl,?_,fun b hb=>?_⟩
   ·rw[(hf _ _ hs).2];rfl
   ·rw[(hf _ _ hs).2]at hb;exact hb
  ·intro b hb;rw[(hf _ _ hs).2]at hb;exact hb.elim
  ·intro _ b hb;rw[(hf _ _ hs).2]at hb;exact hb.elim
  ·rw[(hf _ _ hs).2]at hb;exact hb.elim
 | @take hp r rest T t wr wr' ch ch' hs hfd hw hc hne hg ih =>
  have hp1:=(hf _ _ hs).2;have he:=hh.gH _ (aF.bk hfd);refine(ih (hh.sub aF.iS)).cons ⟨(hf _ _ hs).1,?_,?_,?_⟩ fun x hx=>⟨hne x hx,fun hwr b hb hb'=>?_⟩
  ·rw[hp1];exact hc ρ ρ' _ w hf he.ch
  ·rw[hp1];exact he.lt
  ·intro h1;rw[hp1];exact he.own (hw h1)
  ·rw[hp1]at hb;rcases hg.src hf x hx with h | ⟨e',h1,h2,h3⟩
   ·exact h b hb'
   ·rw[h2]at hb';refine(hh.uc hfd e' h1).2 ?_ b hb hb';simp only[Bool.or_eq_true]at hwr ⊢;exact hwr.imp hw h3
theorem KO.apart{σ:Sub}{hp J rest:aF}(h:KO σ hp J rest){ρ ρ':Env}(hf:Fits ρ ρ' σ){w0:World}{M:Nat->Prop}{w:World}(hh:ai w0 M ρ hp w) :
 ∀e∈J,∀f∈rest,(e.wr||f.wr)=true->∀b,(ρ'.pl e.tag).fp b->¬(ρ.pl f.tag).fp b:=by
 induction h with
 |nil=>intro e he;cases he
 |later _ ih=>intro e he;exact ih hh e (by simp only[List.mem_cons,List.mem_append,List.not_mem_nil,or_false]at he ⊢;exact he.symm)
 |skip hs _ _ ih =>
  intro e he f hfm;rcases List.mem_cons.1 he with rfl|he
  ·intro _ b hb;rw[(hf _ _ hs).2]at hb;exact hb.elim
  ·exact ih hh e he f hfm
 |take hs hfd hw _ _ hg ih =>
  intro e he f hfm;rcases List.mem_cons.1 he with rfl|he
  ·intro hwr b hb;rw[(hf _ _ hs).2]at hb;refine(hh.uc hfd f (hg.rest.subset hfm)).2 ?_ b hb;simp only[Bool.or_eq_true]at hwr ⊢;exact hwr.imp hw id
  ·exact ih (hh.sub aF.iS) e he f hfm
structure Env.upto(m:Nat)(ρ ρ':Env):Prop where
 n:m<=ρ'.n
 pl:∀t:Nat,t<m->ρ'.pl t=ρ.pl t
theorem Env.le.upto{ρ ρ':Env}(h:ρ.le ρ'){n:Nat}(hn:n<=ρ.n):Env.upto n ρ ρ':=⟨Nat.le_trans hn h.n,fun t ht=>h.pl t (Nat.lt_of_lt_of_le ht hn)⟩
theorem Env.upto.trans{n:Nat}{a b c:Env}(h:Env.upto n a b)(k:Env.upto n b c):Env.upto n a c:=⟨k.n,fun t ht=>(k.pl t ht).trans (h.pl t ht)⟩
def iX(ρ:Env)(σ:Sub)(N:Nat):Env:=⟨N,fun T=>match jZ σ T with|some x=>placeOf ρ x|none=>ρ.pl T⟩
theorem nY{ρ:Env}{σ:Sub}{n0 N:Nat}(h:Wf n0 N σ):Fits ρ (iX ρ σ N) σ:=fun T x e=>⟨h.lt T x e,by simp[iX,e]⟩
theorem Jl{ρ:Env}{σ:Sub}{n0 N:Nat}(h:Wf n0 N σ)(hN:n0<=N):Env.upto n0 ρ (iX ρ σ N):=⟨hN,fun t ht=>by
 show(match jZ σ t with|some x=>placeOf ρ x|none=>ρ.pl t)=ρ.pl t;split
 ·rename_i x e;rw[h.id t x e ht];rfl
 ·rfl⟩
def x8(n0:Nat)(s J:S)(p:Prop):Prop :=
 bif Nat.beq s.nt J.nt&&Nat.ble n0 J.nx then x6 n0 J.nx s.fr [] [] J.fr (fun σ=>nR n0 J.nx 1000 J.hp.length σ s.hp J.hp fun _ _=>p)else False
theorem wJ{n0:Nat}{s J:S}{p:Prop}(h:x8 n0 s J p):p/\∀w0 M ρ a w,gI w0 M ρ s a w->∃ρ',Env.upto n0 ρ ρ'/\gI w0 M ρ' J a w:=by
 unfold x8 at h;cases hb:(Nat.beq s.nt J.nt&&Nat.ble n0 J.nx)
 ·rw[hb]at h;exact h.elim
 rw[hb]at h;simp only[cond_true]at h;simp only[Bool.and_eq_true]at hb;have hnt:=Nat.eq_of_beq_eq_true hb.1;have hnx:=Nat.le_of_ble_eq_true hb.2;obtain⟨σ1,h1,e1,w1,f1⟩:=wI h (Wf.nil _ _);obtain⟨σ2,rest,h2,e2,w2,g⟩:=kf h1 w1;refine⟨h2,fun w0 M ρ a w hs=>⟨iX ρ σ2 J.nx,Jl w2 hnx,⟨hs.defers,hs.size.trans hnt,rfl,?_,g.sat (nY w2) hs.heap⟩⟩⟩;exact fun j=>f1 ρ _ _ ((nY w2).ext e2) hs.frame j rfl
end
section
inductive XE where
 |normal
 |ret
 |exit (i:Nat)
def XE.toE:XE->Exit
 |.normal=>.normal
 |.ret=>.ret
 |.exit i=>.exit i
abbrev KX:=XE->S->Prop
def XQ(K:KX)(n0:Nat)(w0:World)(M:Nat->Prop)(ρ:Env):Exit->Act->World->Prop:=fun e a w=>∃xe s' ρ',e=xe.toE/\K xe s'/\Env.upto n0 ρ ρ'/\gI w0 M ρ' s' a w
theorem XQ.up{K:KX}{n0:Nat}{w0:World}{M:Nat->Prop}{ρ ρ':Env}(h:Env.upto n0 ρ ρ'){e:Exit}{a:Act}{w:World}(q:XQ K n0 w0 M ρ' e a w):XQ K n0 w0 M ρ e a w :=
 let ⟨xe,s',ρ'',h1,h2,h3,h4⟩:=q
 ⟨xe,s',ρ'',h1,h2,h.trans h3,h4⟩
def sE(P:Program)(n0:Nat)(c:Code)(s:S)(K:KX):Prop :=
 ∀w0 M ρ a w,n0<=ρ.n->gI w0 M ρ s a w->c.wp P (XQ K n0 w0 M ρ) a w
def wK(s:S)(K:S->Prop):Prop:=∀w0 M ρ a w,gI w0 M ρ s a w->∃s' ρ',K s'/\ρ.le ρ'/\gI w0 M ρ' s' a w
mutual
inductive LH:Type 1 where
 |mk (fuel:Nat) (loop cut:List An)
inductive An:Type 1 where
 |mk (key:Nat) (α:Type) (J:S->α->S) (p:S->α->Prop) (μ:S->α->Nat) (next:α->LH)
 |view (key:Nat) (V:S->(S->Prop)->Prop) (ok:∀s K,V s K->wK s K) (next:LH)
end
def An.key:An->Nat
 |.mk k _ _ _ _ _=>k
 |.view k _ _ _=>k
def Lm:List An->Nat->Option An
 |[],_=>none
 |a::r,k=>bif Nat.beq a.key k then some a else Lm r k
def LH.at_:LH->Nat->Option An
 |.mk _ l _,k=>Lm l k
def LH.YN:LH->Nat->Option An
 |.mk _ _ c,k=>Lm c k
def LH.fuel:LH->Nat
 |.mk n _ _=>n
def qb:Code->Nat
 |.region id _ _=>id
 |.seq a _=>qb a
 |.block _ b=>qb b
 |.loop b=>qb b
 |_=>0
def Se(F:S->Prop)(K:KX):KX:=fun xe s=>match xe with | .normal=>F s|xe=>K xe s
def Sf(i:Nat)(K:KX):KX:=fun xe s=>match xe with | .exit j=>bif Nat.beq j i then K .normal s else K (.exit j) s|xe=>K xe s
def B9(xb:S->KX->Prop)(K:KX):Nat->S->Prop
 |0,_=>False
 |n+1,s=>xb s (Se (B9 xb K n) K)
def wg:List A->List Nat->List Nat
 |[],acc=>acc
 |.ptr t _ _ _::r,acc=>wg r (t::acc)
 |.slc t _ _ _ _::r,acc=>wg r (t::acc)
 |.sub t _ _ _ _ _::r,acc=>wg r (t::acc)
 |_::r,acc=>wg r acc
def Xt(v:SV)(acc:List Nat):List Nat :=
 match v with
 |.a x=>wg [x] acc
 |.agg xs=>wg xs acc
 |.l8 cs=>cs.foldr (fun c acc=>match c with | .a x=>wg [x] acc | .agg xs=>wg xs acc) acc
 |.Bd _ xs=>wg xs acc
def Ln:List (Nat×SV)->List Nat->List Nat
 |[],acc=>acc
 |(_,v)::r,acc=>Ln r (Xt v acc)
def reach(hp:aF):Nat->List Nat->List Nat->List Nat
 |0,work,seen=>work++seen
 |_+1,[],seen=>seen
 |n+1,t::work,seen=>bif has seen t then reach hp n work seen else
  match hp.find t with
  |some (_,.obj _ cs)=>reach hp n (wg cs work) (t::seen)
  |some _=>reach hp n work (t::seen)
  |none=>reach hp n work seen
def YO:Chunk->Bool
 |.abs _=>true
 |.cu _=>true
 |_=>false
def YP(hp:aF)(seen:List Nat):aF:=hp.filter fun e=>has seen e.tag||YO e.ch
def S.tidy(s:S):S :=
 let fr:=only s.fr s.kp
 ⟨s.nt,fr,YP s.hp (reach s.hp 400 (Ln fr s.rt) []),s.nx,s.kp,s.rt⟩
theorem gI.tidy{w0:World}{M:Nat->Prop}{ρ:Env}{s:S}{a:Act}{w:World}(h:gI w0 M ρ s a w):gI w0 M ρ s.tidy a w :=
 ⟨h.defers,h.size,h.n,h.frame.only s.kp,h.heap.sub List.filter_sublist⟩
def Ga:List (Nat×SV)->(List (Nat×SV)->Prop)->Prop
 |[],K=>K []
 |(i,v)::r,K=>FJ v fun v=>Ga r fun r=>K ((i,v)::r)
theorem ED:∀(l:List (Nat×SV)) (K:List (Nat×SV)->Prop),Ga l K=K l
 |[],_=>rfl
 |(i,v)::r,K=>by simp only[Ga,Ep,ED r]
def Lo(c:Chunk)(K:Chunk->Prop):Prop:=match c with
 |.obj ty cs=>wC cs fun cs=>K (.obj ty cs)
 |.arr ty ks n rows=>K (.arr ty ks n rows)
 |.abs R=>K (.abs R)
 |.cu H=>K (.cu H)
theorem Pj(c:Chunk)(K:Chunk->Prop):Lo c K=K c:=by cases c<;>simp only[Lo,vq]
def Sg(b:Bool)(K:Bool->Prop):Prop:=match b with
 |true=>K true
 |false=>K false
theorem Pm(b:Bool)(K:Bool->Prop):Sg b K=K b:=by cases b<;>rfl
def Gb:aF->(aF->Prop)->Prop
 |[],K=>K []
 |e::r,K=>uf e.tag fun t=>Sg e.wr fun w=>Lo e.ch fun c=>Gb r fun r=>K (⟨t,w,c⟩::r)
theorem EE:∀(l:aF) (K:aF->Prop),Gb l K=K l
 |[],_=>rfl
 |e::r,K=>by simp only[Gb,yQ,Pm,Pj,EE r]
def S.force(s:S)(K:S->Prop):Prop:=Ga s.fr fun fr=>Gb s.hp fun hp=>uf s.nt fun nt=>uf s.nx fun nx=>K ⟨nt,fr,hp,nx,s.kp,s.rt⟩
theorem S.force_eq(s:S)(K:S->Prop):s.force K=K s:=by simp only[S.force,ED,EE,yQ]
def VM:List (Nat×RG)->Nat->Option RG
 |[],_=>none
 |(j,g)::r,i=>bif Nat.beq j i then some g else VM r i
def mo(G:Fx)(ch:gM)(jf:List (Nat×RG))(n0:Nat):Code->LH->S->KX->Prop
 |.skip,_,s,K=>K .normal s
 |.region id ops d,_,s,K=>bif d then
  (match VM jf id with
  |some g=>Lk G ch ops.toList g s fun s=>s.tidy.force (K .normal)
  |none=>False)
  else R6 G ch ops.toList ops.toList s fun s=>s.tidy.force (K .normal)
 |.seq x y,lh,s,K=>match lh.YN (qb y)with
  |none=>mo G ch jf n0 x lh s (Se (fun s=>mo G ch jf n0 y lh s K) K)
  |some (.mk _ α J p _ next)=>mo G ch jf n0 x lh s (Se (fun s'=>∃a:α,x8 n0 s' (J s a) (p s a/\True)) K)/\∀a:α,p s a->(J s a).force fun s=>mo G ch jf n0 y (next a) s K
  |some (.view _ V _ next)=>mo G ch jf n0 x lh s (Se (fun s'=>V s' fun s=>s.force fun s=>mo G ch jf n0 y next s K) K)
 |.cond c x y,lh,s,K =>
  match s.ev c with
  |.a .tt=>mo G ch jf n0 x lh s K
  |.a .ff=>mo G ch jf n0 y lh s K
  |.a (.bool b)=>BC G.X.force b (mo G ch jf n0 x lh s K) (mo G ch jf n0 y lh s K)
  |_=>False
 |.block i b,lh,s,K=>mo G ch jf n0 b lh s (Sf i K)
 |.loop b,lh,s,K=>match lh.at_ (qb b)with
  |none=>B9 (fun s K=>mo G ch jf n0 b lh s K) K lh.fuel s
  |some (.mk _ α J p μ next)=>(∃a:α,x8 n0 s (J s a) (p s a/\True))/\∀a:α,p s a->(J s a).force fun s1=>mo G ch jf n0 b (next a) s1 fun xe s'=>match xe with
   |.normal=>∃a':α,x8 n0 s' (J s a') (p s a'/\μ s a'<μ s a)
   |xe=>K xe s'
  |some (.view ..)=>False
 |.exit i,_,s,K=>K (.exit i) s
 |.ret,_,s,K=>K .ret s
 |_,_,_,_=>False
def tG(jf:List (Nat×RG)):Code->Bool
 |.region id ops d=>bif d then(match VM jf id with|some g=>R9 ops.toList g|none=>true)else true
 |.seq x y=>tG jf x&&tG jf y
 |.cond _ x y=>tG jf x&&tG jf y
 |.block _ b=>tG jf b
 |.loop b=>tG jf b
 |_=>true
theorem sE.mono{P:Program}{n0:Nat}{c:Code}{s:S}{K K':KX}(h:sE P n0 c s K)(hk:∀xe s,K xe s->K' xe s):sE P n0 c s K' :=
 fun w0 M ρ a w hn hs=>wp_mono (h w0 M ρ a w hn hs) fun _ _ _ ⟨xe,s',ρ',h1,h2,h3,h4⟩=>⟨xe,s',ρ',h1,hk _ _ h2,h3,h4⟩
def Pn(P:Program)(b:Code)(Q:Exit->Act->World->Prop):Nat->Act->World->Prop
 |0,_,_=>False
 |n+1,a,w=>b.wp P (Exit.then (Pn P b Q n) Q) a w
theorem least{p:Nat->Prop}:∀n,p n->∃m,p m/\∀k,p k->m<=k:=by
 intro n
 induction n using Nat.strongRecOn with
 |ind n ih =>
  intro h;by_cases hx:∃k,k<n/\p k
  ·obtain⟨k,hk,hp⟩:=hx;exact ih k hk hp
  ·exact⟨n,h,fun k hk=>Nat.le_of_not_lt fun hlt=>hx ⟨k,hlt,hk⟩⟩
theorem Pn.loop{P:Program}{b:Code}{Q:Exit->Act->World->Prop}{a:Act}{w:World}(h:∃n,Pn P b Q n a w):(Code.loop b).wp P Q a w:=by
 classical
 have hl:∀a w,(∃n,Pn P b Q n a w)->∃m,Pn P b Q m a w/\∀k,Pn P b Q k a w->m<=k:=fun a w ⟨n,hn⟩=>least n hn;refine wp_loop (fun a w=>∃n,Pn P b Q n a w) (fun a w=>if h:∃n,Pn P b Q n a w then Classical.choose (hl a w h)else 0) h ?_;intro a w hI;obtain⟨h1,h2⟩:=Classical.choose_spec (hl a w hI);simp only[dif_pos hI];generalize Classical.choose (hl a w hI)=m at h1 h2 ⊢;cases m with
 |zero=>exact h1.elim
 |succ m =>
  refine wp_mono h1 ?_;intro e a' w' hq;cases e with
  |normal =>
   have hI':∃n,Pn P b Q n a' w':=⟨m,hq⟩
   refine⟨hI',?_⟩;simp only[dif_pos hI'];exact Nat.lt_succ_of_le ((Classical.choose_spec (hl a' w' hI')).2 m hq)
  |exit i=>exact hq
  |goto l=>exact hq
  |ret=>exact hq
  |panic c=>exact hq
  |outgrown=>exact hq
def LoopN(P:Program)(n0:Nat)(b:Code)(K:KX):Nat->S->Prop
 |0,_=>False
 |n+1,s=>sE P n0 b s (Se (LoopN P n0 b K n) K)
theorem LoopN.unr{P:Program}{n0:Nat}{b:Code}{K:KX}{w0:World}{M:Nat->Prop}{ρ:Env}:∀(n:Nat) (s:S) (ρ':Env) (a:Act) (w:World),LoopN P n0 b K n s->Env.upto n0 ρ ρ'->gI w0 M ρ' s a w->Pn P b (XQ K n0 w0 M ρ) n a w
 |0,_,_,_,_,h,_,_=>h
 |n+1,s,ρ',a,w,h,hu,hs=>by
  refine wp_mono (h w0 M ρ' a w hu.n hs) ?_;rintro e a' w' ⟨xe,s',ρ'',rfl,hk,hu',hs'⟩;cases xe with
  |normal=>exact LoopN.unr n s' ρ'' a' w' hk (hu.trans hu') hs'
  |ret=>exact⟨.ret,s',ρ'',rfl,hk,hu.trans hu',hs'⟩
  |exit i=>exact⟨.exit i,s',ρ'',rfl,hk,hu.trans hu',hs'⟩
theorem LoopN.ok{P:Program}{n0:Nat}{b:Code}{K:KX}{n:Nat}{s:S}(h:LoopN P n0 b K n s):sE P n0 (.loop b) s K :=
 fun _ _ ρ _ _ hn hs=>Pn.loop ⟨n,LoopN.unr n s ρ _ _ h ((Env.le.refl ρ).upto hn) hs⟩
theorem Po{P:Program}{n0:Nat}{b:Code}{xb:S->KX->Prop}(hb:∀s K,xb s K->sE P n0 b s K){K:KX}{n:Nat}{s:S}(h:B9 xb K n s):sE P n0 (.loop b) s K:=by
 refine LoopN.ok (n:=n) ?_
 induction n generalizing s with
 |zero=>exact h
 |succ n ih =>
  refine sE.mono (hb _ _ h) fun xe s' hk=>?_;cases xe with
  |normal=>exact ih hk
  |ret=>exact hk
  |exit i=>exact hk
theorem Sh{G:Fx}(hG:G.Ok){ch:gM}(hch:IM G.X ch){jf:List (Nat×RG)}{n0:Nat}:∀(c:Code) (lh:LH) (s:S) (K:KX),tG jf c=true->mo G ch jf n0 c lh s K->sE G.X.P n0 c s K:=by
 intro c
 induction c with
 |skip=>exact fun _ s K _ h w0 M ρ a w hn hs=>wp_skip ⟨.normal,s,ρ,rfl,h,(Env.le.refl ρ).upto hn,hs⟩
 |region id ops d =>
  intro lh s K hr h w0 M ρ a w hn hs;simp only[mo]at h;cases d with
  |true =>
   simp only[cond_true]at h;simp only[tG,cond_true]at hr;cases hg:VM jf id with
   |none=>rw[hg]at h;exact h.elim
   |some g =>
    rw[hg]at h hr;simp only at h hr;have:=Ph (id:=id) (Q:=XQ K n0 w0 M ρ) hG hch hr h hs fun s' ρ' a' w' hk hle hs'=>⟨.normal,s'.tidy,ρ',rfl,(S.force_eq s'.tidy (K .normal)).mp hk,hle.upto hn,hs'.tidy⟩
    simpa using this
  |false =>
   simp only[cond_false]at h;refine wp_region_list ?_;have:=FY (Q:=XQ K n0 w0 M ρ) hG hch ops.toList s ρ a w h hs fun s' ρ' a' w' hk hle hs'=>⟨.normal,s'.tidy,ρ',rfl,(S.force_eq s'.tidy (K .normal)).mp hk,hle.upto hn,hs'.tidy⟩
   simpa using this
 |seq x y ihx ihy =>
  intro lh s K hr h w0 M ρ a w hn hs;simp only[tG,Bool.and_eq_true]at hr;simp only[mo]at h;cases hcut:lh.YN (qb y)with
  |none =>
   rw[hcut]at h;refine wp_seq (wp_mono (ihx lh s _ hr.1 h w0 M ρ a w hn hs) ?_);rintro e a' w' ⟨xe,s',ρ',rfl,hk,hu,hs'⟩;cases xe with
   |normal=>exact wp_mono (ihy lh s' K hr.2 hk w0 M ρ' a' w' hu.n hs') fun e a w q=>q.up hu
   |ret=>exact⟨.ret,s',ρ',rfl,hk,hu,hs'⟩
   |exit i=>exact⟨.exit i,s',ρ',rfl,hk,hu,hs'⟩
  |some an =>
   cases an with
   |view key V ok next =>
    rw[hcut]at h;refine wp_seq (wp_mono (ihx lh s _ hr.1 h w0 M ρ a w hn hs) ?_);rintro e a' w' ⟨xe,s',ρ',rfl,hk,hu,hs'⟩;cases xe with
    |normal =>
     obtain⟨s2,ρ2,hk2,hle2,hs2⟩:=ok _ _ hk w0 M ρ' a' w' hs';have hu2:Env.upto n0 ρ' ρ2:=hle2.upto hu.n;exact wp_mono (ihy _ _ K hr.2 ((S.force_eq _ _).mp hk2) w0 M ρ2 a' w' hu2.n hs2) fun e a w q=>q.up (hu.trans hu2)
    |ret=>exact⟨.ret,s',ρ',rfl,hk,hu,hs'⟩
    |exit i=>exact⟨.exit i,s',ρ',rfl,hk,hu,hs'⟩
   |mk key α J p μ next =>
    rw[hcut]at h;obtain⟨h1,h2⟩:=h;refine wp_seq (wp_mono (ihx lh s _ hr.1 h1 w0 M ρ a w hn hs) ?_);rintro e a' w' ⟨xe,s',ρ',rfl,hk,hu,hs'⟩;cases xe with
    |normal =>
     obtain⟨x,hx⟩:=hk;obtain⟨⟨hp,_⟩,hm⟩:=wJ hx;obtain⟨ρ2,hu2,hs2⟩:=hm w0 M ρ' a' w' hs';exact wp_mono (ihy _ _ K hr.2 ((S.force_eq _ _).mp (h2 x hp)) w0 M ρ2 a' w' hu2.n hs2) fun e a w q=>q.up (hu.trans hu2)
    |ret=>exact⟨.ret,s',ρ',rfl,hk,hu,hs'⟩
    |exit i=>exact⟨.exit i,s',ρ',rfl,hk,hu,hs'⟩
 |cond c x y ihx ihy =>
  intro lh s K hr h w0 M ρ a w hn hs;simp only[tG,Bool.and_eq_true]at hr;have hc:=hs.frame.ev c;simp only[mo]at h;split at h
  ·rename_i e;rw[e]at hc;exact wp_cond_true hc (ihx lh s K hr.1 h w0 M ρ a w hn hs)
  ·rename_i e;rw[e]at hc;exact wp_cond_false hc (ihy lh s K hr.2 h w0 M ρ a w hn hs)
  ·rename_i b e;rw[e]at hc;have h:=yN h;exact wp_cond_split hc (fun hb=>ihx lh s K hr.1 (h.1 hb) w0 M ρ a w hn hs) fun hb=>ihy lh s K hr.2 (h.2 hb) w0 M ρ a w hn hs
  ·exact h.elim
 |block i b ih =>
  intro lh s K hr h w0 M ρ a w hn hs;refine wp_block (wp_mono (ih lh s _ hr h w0 M ρ a w hn hs) ?_);rintro e a' w' ⟨xe,s',ρ',rfl,hk,hu,hs'⟩;cases xe with
  |normal=>exact⟨.normal,s',ρ',rfl,hk,hu,hs'⟩
  |ret=>exact⟨.ret,s',ρ',rfl,hk,hu,hs'⟩
  |exit j =>
   simp only[Sf]at hk;simp only[XE.toE,Exit.inBlock];by_cases hj:j=i
   ·subst hj;simp only[dh,cond_true]at hk;rw[if_pos rfl];exact⟨.normal,s',ρ',rfl,hk,hu,hs'⟩
   ·simp only[ey hj,cond_false]at hk;rw[if_neg hj];exact⟨.exit j,s',ρ',rfl,hk,hu,hs'⟩
 |loop b ih =>
  intro lh s K hr h;simp only[mo]at h;cases hat:lh.at_ (qb b)with
  |none =>
   rw[hat]at h;exact Po (fun s K h=>ih lh s K hr h) h
  |some an =>
   cases an with
   |view key V ok next=>rw[hat]at h;exact h.elim
   |mk key α J p μ next =>
    rw[hat]at h;obtain⟨⟨a0,h0⟩,hrd⟩:=h;obtain⟨⟨hp0,_⟩,hs0⟩:=wJ h0;intro w0 M ρ a w hn hs;have key:∀(m:Nat) (x:α),p s x->μ s x<m->∀(ρ':Env) (a:Act) (w:World),Env.upto n0 ρ ρ'->gI w0 M ρ' (J s x) a w->Pn G.X.P b (XQ K n0 w0 M ρ) m a w:=by
     intro m
     induction m with
     |zero=>intro x _ h;omega
     |succ m ihm =>
      intro x hx hm ρ' a w hu hs;refine wp_mono (ih (next x) _ _ hr ((S.force_eq _ _).mp (hrd x hx)) w0 M ρ' a w hu.n hs) ?_;rintro e a' w' ⟨xe,s',ρ'',rfl,hk,hu',hs'⟩;cases xe with
      |normal =>
       obtain⟨x',hx'⟩:=hk;obtain⟨⟨h1,h2⟩,h3⟩:=wJ hx';obtain⟨ρ3,h4,h5⟩:=h3 w0 M ρ'' a' w' hs';exact ihm x' h1 (by omega) ρ3 a' w' ((hu.trans hu').trans h4) h5
      |ret=>exact⟨.ret,s',ρ'',rfl,hk,hu.trans hu',hs'⟩
      |exit i=>exact⟨.exit i,s',ρ'',rfl,hk,hu.trans hu',hs'⟩
    obtain⟨ρ1,h1,h2⟩:=hs0 w0 M ρ a w hs;exact Pn.loop ⟨_,key (μ s a0+1) a0 hp0 (Nat.lt_succ_self _) ρ1 a w h1 h2⟩
 |exit i=>exact fun _ s K _ h w0 M ρ a w hn hs=>wp_exit ⟨.exit i,s,ρ,rfl,h,(Env.le.refl ρ).upto hn,hs⟩
 |ret=>exact fun _ s K _ h w0 M ρ a w hn hs=>wp_ret ⟨.ret,s,ρ,rfl,h,(Env.le.refl ρ).upto hn,hs⟩
 |_=>exact fun _ s K _ h=>h.elim
def SV.cv:SV->Option CV
 |.a x=>some (.a x)
 |.agg xs=>some (.agg xs)
 |.l8 _=>none
 |.Bd _ _=>none
def Si(X:Cx)(s:S)(r:ResultVar)(K:SV->Prop):Prop :=
 match r with
 |.tmp t=>K (look s.fr t)
 |.cell a t=>NG X t (look s.fr a) s fun v _=>K v
def Sj(X:Cx)(s:S):List ResultVar->(List CV->Prop)->Prop
 |[],K=>K []
 |r::rs,K=>Si X s r fun v=>match v.cv with|some c=>Sj X s rs fun cs=>K (c::cs)|none=>False
def x9(X:Cx)(s:S)(fn:Func)(K:SV->Prop):Prop :=
 match fn.results.toList with
 |[r]=>Si X s r K
 |rs=>Sj X s rs fun cs=>K (.l8 cs)
theorem SV.Xu{v:SV}{c:CV}(h:v.cv=some c){ρ:Env}{x:Value}(r:v.b8 ρ x):c.b8 ρ x:=by
 cases v<;>simp[SV.cv]at h<;>subst h<;>exact r
def Pp(tmps:Array Value):ResultVar->Sem Value
 |.tmp t=>pure (tmps.getD t undef)
 |.cell a t=>do loadVar t (<- asAddr (tmps.getD a undef))
theorem Jm{X:Cx}(hX:X.Ok){s:S}{r:ResultVar}{K:SV->Prop}(h:Si X s r K){w0:World}{M:Nat->Prop}{ρ:Env}{a:Act}{w:World}(hs:gI w0 M ρ s a w) :
 ∃u sv,(Pp a.tmps r).run X.P w = .ok u w/\sv.b8 ρ u/\K sv:=by
 cases r with
 |tmp t=>exact⟨_,_,rfl,hs.frame t,h⟩
 |cell ad t =>
  obtain⟨b,o,e,u,sv,h1,h2,h3⟩:=NH hX h (hs.frame ad) hs.heap;refine⟨u,sv,?_,h2,h3⟩;have:=h1 w fun _ _ _ _=>rfl;simp[Pp,e,asAddr,this]
theorem Jn{X:Cx}(hX:X.Ok){s:S}{w0:World}{M:Nat->Prop}{ρ:Env}{a:Act}{w:World}(hs:gI w0 M ρ s a w):∀ {rs:List ResultVar} {K:List CV->Prop},Sj X s rs K ->
 ∃us cs,(rs.mapM (Pp a.tmps)).run X.P w = .ok us w/\us.length=rs.length/\r4 ρ cs us/\K cs
 |[],K,h=>⟨[],[],by simp,rfl,rfl,h⟩
 |r::rs,K,h=>by
  obtain⟨u,sv,h1,h2,h3⟩:=Jm hX h hs;cases hc:sv.cv with
  |none=>rw[hc]at h3;exact h3.elim
  |some c =>
   rw[hc]at h3;obtain⟨us,cs,g1,g2,g3,g4⟩:=Jn hX hs h3;exact⟨u::us,c::cs,by simp[List.mapM_cons,h1,g1],by simp[g2],⟨u,us,rfl,SV.Xu hc h2,g3⟩,g4⟩
theorem Lp(fn:Func)(tmps:Array Value):results fn tmps=(do
 let vs <- fn.results.mapM (Pp tmps)
 pure (if h:vs.size=1 then vs[0]else .tuple vs)):=rfl
theorem Jo{X:Cx}(hX:X.Ok){s:S}{fn:Func}{K:SV->Prop}(h:x9 X s fn K){w0:World}{M:Nat->Prop}{ρ:Env}{a:Act}{w:World}(hs:gI w0 M ρ s a w) :
 ∃u sv,(results fn a.tmps).run X.P w = .ok u w/\sv.b8 ρ u/\K sv:=by
 rw[Lp];unfold x9 at h;have hm:∀us:List Value,(fn.results.toList.mapM (Pp a.tmps)).run X.P w = .ok us w->(fn.results.mapM (Pp a.tmps)).run X.P w = .ok us.toArray w:=by
  intro us hu;rw[Array.mapM_eq_mapM_toList,<- bind_pure_comp];simp[hu]
 split at h
 ·rename_i r hr;obtain⟨u,sv,h1,h2,h3⟩:=Jm hX h hs;refine⟨u,sv,?_,h2,h3⟩;have:=hm [u] (by rw[hr];simp[List.mapM_cons,h1]);simp[this]
 ·rename_i rs hne;obtain⟨us,cs,h1,h2,h3,h4⟩:=Jn hX hs h;have:=hm us h1;refine⟨.tuple us.toArray,.l8 cs,?_,⟨us,rfl,h3⟩,h4⟩;have hl:us.length≠1:=by
   intro e;rw[h2]at e
   match hh:fn.results.toList,e with
   |[r],_=>exact hne r hh
  simp[this,hl]
def EF:Nat->List SV->List (Nat×SV)
 |_,[]=>[]
 |i,v::vs=>(i,v)::EF (i+1) vs
theorem Ca:∀(vs:List SV) (i j:Nat),look (EF i vs) j=if i<=j then(vs[j-i]?).getD (.a .any)else .a .any
 |[],i,j=>by simp[EF,look]
 |v::vs,i,j=>by
  simp only[EF,look];by_cases h:i=j
  ·subst h;simp
  ·rw[ey h,cond_false,Ca vs (i+1) j];by_cases h1:i<=j
   ·have h2:i+1<=j:=by omega
    have h3:j-i=(j-(i+1))+1:=by omega
    simp[h1,h2,h3]
   ·have h2:¬i+1<=j:=by omega
    simp[h1,h2]
theorem iU.get{ρ:Env}:∀ {xs:List SV} {vs:List Value},iU ρ xs vs->vs.length=xs.length/\∀(i:Nat) (x:SV),xs[i]? = some x->∃v,vs[i]? = some v/\x.b8 ρ v
 |[],vs,h=>by simp[iU]at h;subst h;simp
 |x::xs,vs,⟨v,r,e,h1,h2⟩=>by
  subst e;obtain⟨g1,g2⟩:=iU.get h2;refine⟨by simp[g1],fun i y hy=>?_⟩;cases i with
  |zero=>simp at hy;subst hy;exact⟨v,by simp,h1⟩
  |succ i=>simp at hy;obtain⟨u,hu,hr⟩:=g2 i y hy;exact⟨u,by simpa using hu,hr⟩
theorem Pq{ρ:Env}{xs:List SV}{vs:List Value}(h:iU ρ xs vs)(n:Nat):dy ρ (EF 0 xs) (vs.toArray++Array.replicate n undef):=by
 intro j;rw[Ca];obtain⟨h1,h2⟩:=h.get;simp only[Nat.zero_le,if_true,Nat.sub_zero];cases hx:xs[j]? with
 |none=>exact trivial
 |some x =>
  obtain⟨v,hv,hr⟩:=h2 j x hx;have hj:=(List.getElem?_eq_some_iff.1 hv).1;have e:(vs.toArray++Array.replicate n undef).getD j undef=v:=by
   rw[Array.getD_eq_getD_getElem?,Array.getElem?_append_left (by simpa using hj)];simp[hv]
  rw[e];exact hr
structure Gx where
 G:Fx
 R:List (Nat×List (Nat×RG))
def NU:List (Nat×List (Nat×RG))->Nat->List (Nat×RG)
 |[],_=>[]
 |(j,t)::r,f=>bif Nat.beq j f then t else NU r f
structure Gx.Ok(Y:Gx):Prop where
 g:Y.G.Ok
 reg:∀p∈Y.G.F,∀c,p.2.body=some c->tG (NU Y.R p.1) c=true
abbrev Spec:=Nat->Option (List SV->S->KV->Prop)
def Xv(X:Cx)(sp:Spec):Prop:=∀f h,sp f=some h->∀args s K,h args s K->uj X f args s K
def Jp(Y:Gx)(ch:gM)(lh:Nat->LH)(f:Nat)(args:List SV)(s:S)(K:KV):Prop :=
 match Lf Y.G.F f with
 |some fn=>match fn.body with
  |some c=>mark Y.G.X.Rh (100000+f) <| mo Y.G ch (NU Y.R f) s.nx c (lh f) ⟨args.length+(fn.ntmps-args.length),EF 0 args,s.hp,s.nx,(R5 Y.G.I f).getD [],Ln s.fr s.rt⟩ fun xe s' =>
   match xe with
   |.exit _=>False
   |_=>x9 Y.G.X s' fn fun v=>K v ⟨s.nt,s.fr,s'.hp,s'.nx,s.kp,s.rt⟩
  |none=>False
 |none=>False
def Lq:List SV->Bool
 |[]=>false
 |.a (.sub _ _ _ _ _ _)::_=>true
 |_::r=>Lq r
def EG(Y:Gx)(sp:Spec)(lh:Nat->LH):Nat->gM
 |0=>fun _ _ _ _=>False
 |n+1=>fun f args s K =>
  match sp f with
  |some h=>bif Lq args then Jp Y (EG Y sp lh n) lh f args s K else h args s K
  |none=>Jp Y (EG Y sp lh n) lh f args s K
theorem ya{Y:Gx}(hY:Y.Ok){ch:gM}(hch:IM Y.G.X ch){lh:Nat->LH}{f:Nat}{args:List SV}{s:S}{K:KV}(h:Jp Y ch lh f args s K):uj Y.G.X f args s K:=by
 unfold Jp at h;split at h
 ·rename_i fn hfn;split at h
  ·rename_i c hc;have h:=NF h;intro w0 M ρ w vs hn hh hargs;have hm:=rJ hfn;have hok:=hY.g.fns _ hm;refine calls_of_wp hok.at_ hc ?_;have hl:=hargs.get.1;refine wp_mono (Sh hY.g hch c _ _ _ (hY.reg _ hm c hc) h w0 M ρ _ w (by rw[hn];exact Nat.le_refl _) ⟨rfl,?_,hn,?_,hh⟩) ?_
   ·simp[hl]
   ·have:=Pq hargs (fn.ntmps-args.length);simpa[hl]using this
   ·rintro e a' w' ⟨xe,s',ρ',rfl,hk,hu,hs'⟩;have fin:∀(e':Exit),(e' = .normal\/e' = .ret)->(x9 Y.G.X s' fn fun v=>K v ⟨s.nt,s.fr,s'.hp,s'.nx,s.kp,s.rt⟩)->bodyPost Y.G.X.P fn (fun e w'=>∃v,e = .returned v/\Out w0 M ρ s w' v K) e' a' w':=by
     intro e' he' hk;obtain⟨u,sv,h1,h2,h3⟩:=Jo hY.g.cx hk hs';have hout:Out w0 M ρ s w' u K:=⟨sv,_,ρ',h3,rfl,rfl,⟨by rw[hn];exact hu.n,fun t ht=>hu.pl t (by rw[<- hn];exact ht)⟩,hs'.n,h2,hs'.heap⟩
     rcases he' with rfl|rfl
     ·exact⟨hs'.defers,u,h1,u,rfl,hout⟩
     ·exact⟨hs'.defers,u,h1,u,rfl,hout⟩
    cases xe with
    |normal=>exact fin .normal (.inl rfl) hk
    |ret=>exact fin .ret (.inr rfl) hk
    |exit i=>exact hk.elim
  ·exact h.elim
 ·exact h.elim
theorem yb{Y:Gx}(hY:Y.Ok){sp:Spec}(hsp:Xv Y.G.X sp){lh:Nat->LH}:∀n,IM Y.G.X (EG Y sp lh n)
 |0=>fun f args s K h=>h.elim
 |n+1=>fun f args s K h=>by
  simp only[EG]at h;split at h
  ·rename_i g hg;cases hs:Lq args
   ·rw[hs]at h;exact hsp f g hg args s K h
   ·rw[hs]at h;exact ya hY (yb hY hsp n) h
  ·exact ya hY (yb hY hsp n) h
end
section
def Az(P:Program)(ts:List Nat):List (Nat×Func):=ts.filterMap fun t=>(P.funcs[t]?).map fun i=>(t,i)
theorem ur(P:Program):∀ts,(Az P ts).map (fun p=>P.funcs[p.1]?)=(Az P ts).map fun p=>some p.2
 |[]=>rfl
 |t::ts=>by
  unfold Az;simp only[List.filterMap_cons];cases h:P.funcs[t]? with
  |none=>exact ur P ts
  |some i =>
   simp only[Option.map_some,List.map_cons,h];congr 1;exact ur P ts
def Xw(R:List (Nat×List (Nat×RG)))(p:Nat×Func):Bool :=
 p.2.body.isSome && !(p.2.name == "runtime.NumGoroutine") && (match p.2.body with | some c => tG (NU R p.1) c | none => true)
theorem Gc{P:Program}{T:List (Nat×TI)}{F:List (Nat×Func)}{I:List (Nat×List Nat)}{R:List (Nat×List (Nat×RG))}{force Rh dp:Bool}(ht:T.map (fun p=>BB dp P p.1)=T.map fun p=>some p.2)(hm:P.follows .mixedOrders=true)
 (hF:F.map (fun p=>P.funcs[p.1]?)=F.map fun p=>some p.2) (hB:F.all (Xw R)=true):(⟨⟨⟨P,T,force,Rh⟩,F,I⟩,R⟩:Gx).Ok:=by
 have hb:∀p∈F,Xw R p=true:=List.all_eq_true.1 hB;refine⟨⟨⟨⟨dp,ht⟩,hm⟩,fun p hp=>?_⟩,fun p hp c hc=>?_⟩
 ·have h:=hb p hp;simp only[Xw,Bool.and_eq_true,Bool.not_eq_true']at h;refine⟨?_,h.1.1,h.1.2⟩;obtain⟨n,hn,e⟩:=List.getElem_of_mem hp;have:=congrArg (fun l=>l[n]?) hF;simp only[List.getElem?_map]at this;rw[List.getElem?_eq_getElem hn,e]at this;simpa using this
 ·have h:=hb p hp;have hp2:p.2.body=some c:=hc;simp only[Xw,Bool.and_eq_true,hp2]at h;exact h.2
theorem aab{P:Program}{T:List (Nat×TI)}{F:List (Nat×Func)}{I:List (Nat×List Nat)}{R:List (Nat×List (Nat×RG))}{force Rh:Bool}(ht:T.map (fun p=>ZU P p.1)=T.map fun p=>some p.2)(hm:P.follows .mixedOrders=true)
 (hF:F.map (fun p=>P.funcs[p.1]?)=F.map fun p=>some p.2) (hB:F.all (Xw R)=true):(⟨⟨⟨P,T,force,Rh⟩,F,I⟩,R⟩:Gx).Ok:=Gc (dp:=false) ht hm hF hB
end
section
def vA(l:List (Nat×Chunk)):aF:=l.map fun p=>⟨p.1,true,p.2⟩
def D6(l:List (Nat×Chunk)):aF:=l.map fun p=>⟨p.1,false,p.2⟩
structure cD where
 α:Type
 β:Type
 m:Nat
 m':Nat
 pre:α->Prop
 args:α->List SV
 hp:α->List (Nat×Chunk)
 ro:α->List (Nat×Chunk)
 post:α->β->Prop
 res:α->β->SV
 cT:α->β->List (Nat×Chunk)
def ZY(C:cD)(a:C.α):KV:=fun v s'=>∃b,B8 C.m C.m' [] v (C.res a b) fun σ=>nR C.m C.m' 1000 (C.cT a b).length σ s'.hp (vA (C.cT a b)) fun _ _=>C.post a b/\True
def ZZ(C:cD)(a:C.α):S:=⟨0,[],vA (C.hp a)++D6 (C.ro a),C.m,[],List.range C.m⟩
def vC(Y:Gx)(C:cD)(ch:C.α->gM)(lh:C.α->Nat->LH)(f:Nat):Prop:=∀a,C.pre a->Jp Y (ch a) (lh a) f (C.args a) (ZZ C a) (ZY C a)
def sF(n0 N:Nat):Nat->Nat->Sub->aF->aF->(Sub->Prop)->Prop
 |0,_,_,_,_,_=>False
 |_+1,_,σ,_,[],K=>K σ
 |n+1,d,σ,hp,e::r,K=>bif Ay e.tag r then
  (match jZ σ e.tag with
  |some none=>VL e.ch (sF n0 N n r.length σ hp r K)
  |some (some t)=>match hp.find t with
   |some (_,ch)=>sC n0 N σ ch e.ch fun σ=>sF n0 N n r.length σ hp r K
   |none=>False
  |none=>match Sd n0 e.tag false e.ch hp with
   |some t=>(match hp.find t with
    |some (_,ch)=>xX n0 N σ e.tag (some t) fun σ=>sC n0 N σ ch e.ch fun σ=>sF n0 N n r.length σ hp r K
    |none=>False)
   |none=>match d with
    |d+1=>sF n0 N n d σ hp (r++[e]) K
    |0=>False)else False
inductive A6(σ:Sub)(hp:aF):aF->Prop where
 |nil:A6 σ hp []
 |later {r:aF} {e:A2}:A6 σ hp (r++[e])->A6 σ hp (e::r)
 |skip {r:aF} {T:Nat} {wr:Bool} {ty:TypeId} {ks:List CK} {rows:Nat->Nat->Value}:jZ σ T=some none->(∀e∈r,T≠e.tag)->A6 σ hp r->A6 σ hp (⟨T,wr,.arr ty ks 0 rows⟩::r)
 |take {r:aF} {T t:Nat} {wr wr':Bool} {ch ch':Chunk}:jZ σ T=some (some t)->hp.find t=some (wr',ch') ->
  (∀ρ ρ' p w,Fits ρ ρ' σ->ch'.Sat ρ p w->ch.Sat ρ' p w)->(∀e∈r,T≠e.tag)->A6 σ hp r->A6 σ hp (⟨T,wr,ch⟩::r)
theorem qd{n0 N:Nat}{hp:aF}{K:Sub->Prop}:∀ {n d:Nat} {J:aF} {σ:Sub},sF n0 N n d σ hp J K->Wf n0 N σ->∃σ',K σ'/\Ext σ σ'/\Wf n0 N σ'/\A6 σ' hp J
 |0,_,_,_,h,_=>h.elim
 |_+1,_,[],σ,h,hw=>⟨σ,h,Ext.refl σ,hw,.nil⟩
 |n+1,d,⟨T,wr,ch⟩::r,σ,h,hw=>by
  simp only[sF]at h;cases hn:Ay T r
  ·rw[hn]at h;exact h.elim
  rw[hn]at h;simp only[cond_true]at h;have hne:=sD hn;split at h
  ·rename_i hs;cases ch<;>simp only[VL]at h<;>try exact h.elim
   obtain⟨rfl,h⟩:=h;obtain⟨σ',h1,h2,h3,h4⟩:=qd h hw;exact⟨σ',h1,h2,h3,.skip (h2.at_ _ _ hs) hne h4⟩
  ·rename_i t hs;split at h
   ·rename_i wr' ch' hf;obtain⟨σ1,k1,e1,w1,r1⟩:=qa h hw;obtain⟨σ',h1,h2,h3,h4⟩:=qd k1 w1;exact⟨σ',h1,e1.trans h2,h3,.take ((e1.trans h2).at_ _ _ hs) hf (fun ρ ρ' p w hf=>r1 ρ ρ' p w (hf.ext h2)) hne h4⟩
   ·exact h.elim
  ·split at h
   ·split at h
    ·rename_i wr' ch' hf;obtain⟨σ0,k0,e0,w0,s0⟩:=p9 h hw;obtain⟨σ1,k1,e1,w1,r1⟩:=qa k0 w0;obtain⟨σ',h1,h2,h3,h4⟩:=qd k1 w1;exact⟨σ',h1,e0.trans (e1.trans h2),h3,.take ((e1.trans h2).at_ _ _ s0) hf (fun ρ ρ' p w hf=>r1 ρ ρ' p w (hf.ext h2)) hne h4⟩
    ·exact h.elim
   ·split at h
    ·obtain⟨σ',h1,h2,h3,h4⟩:=qd h hw;exact⟨σ',h1,h2,h3,.later h4⟩
    ·exact h.elim
theorem A6.src{σ:Sub}{hp J:aF}(h:A6 σ hp J){ρ ρ':Env}(hf:Fits ρ ρ' σ):∀e∈J,(∀b,¬(ρ'.pl e.tag).fp b)\/∃e'∈hp,ρ'.pl e.tag=ρ.pl e'.tag:=by
 induction h with
 |nil=>intro e he;cases he
 |later _ ih=>intro e he;exact ih e (by simp only[List.mem_cons,List.mem_append,List.not_mem_nil,or_false]at he ⊢;exact he.symm)
 |skip hs _ _ ih =>
  intro e he;rcases List.mem_cons.1 he with rfl|he
  ·left;intro b;rw[(hf _ _ hs).2];exact id
  ·exact ih e he
 |take hs hfd _ _ _ ih =>
  intro e he;rcases List.mem_cons.1 he with rfl|he
  ·exact .inr ⟨_,aF.bk hfd,(hf _ _ hs).2⟩
  ·exact ih e he
theorem A6.sat{σ:Sub}{hp J:aF}(h:A6 σ hp J){ρ ρ':Env}(hf:Fits ρ ρ' σ){w0:World}{M:Nat->Prop}{w:World}(hh:ai w0 M ρ hp w)(hr:∀e∈J,e.wr=false){w1:World}{M1:Nat->Prop}(hk:eu M1 w1 w):ai w1 M1 ρ' J w:=by
 induction h with
 |nil=>exact⟨hk,fun _ h=>(by cases h),.nil⟩
 |later _ ih=>exact(ih fun e he=>hr e (by simp only[List.mem_cons,List.mem_append,List.not_mem_nil,or_false]at he ⊢;exact he.symm)).perm (List.perm_append_singleton _ _)
 |skip hs hne _ ih =>
  refine(ih fun e he=>hr e (List.mem_cons_of_mem _ he)).cons ⟨(hf _ _ hs).1,?_,?_,?_⟩ fun x hx=>⟨hne x hx,fun _ b hb=>?_⟩
  ·refine .inl ⟨rfl,?_,fun b hb=>?_⟩
   ·rw[(hf _ _ hs).2];rfl
   ·rw[(hf _ _ hs).2]at hb;exact hb
  ·intro b hb;rw[(hf _ _ hs).2]at hb;exact hb.elim
  ·intro _ b hb;rw[(hf _ _ hs).2]at hb;exact hb.elim
  ·rw[(hf _ _ hs).2]at hb;exact hb.elim
 |take hs hfd hc hne _ ih =>
  have hp1:=(hf _ _ hs).2;have he:=hh.gH _ (aF.bk hfd);refine(ih fun e he=>hr e (List.mem_cons_of_mem _ he)).cons ⟨(hf _ _ hs).1,?_,?_,?_⟩ fun x hx=>⟨hne x hx,fun hwr=>?_⟩
  ·rw[hp1];exact hc ρ ρ' _ w hf he.ch
  ·rw[hp1];exact he.lt
  ·intro h1;have:=hr _ List.mem_cons_self;simp only at this h1;rw[this]at h1;cases h1
  ·have h1:=hr _ List.mem_cons_self;have h2:=hr x (List.mem_cons_of_mem _ hx);simp only at h1;rw[h1,h2]at hwr;cases hwr
def Cb(σ:Sub)(nx m T:Nat):Nat:=bif Nat.blt T m then(match jZ σ T with|some (some t)=>bif Nat.blt t nx then t else nx+T|_=>nx+T)else nx+T
def Gd(f:Nat->Nat):A->A
 |.ptr T r e c=>.ptr (f T) r e c
 |.slc T r e l c=>.slc (f T) r e l c
 |.sub T r e o l c=>.sub (f T) r e o l c
 |x=>x
def Sk(f:Nat->Nat):CV->CV
 |.a x=>.a (Gd f x)
 |.agg xs=>.agg (xs.map (Gd f))
def YQ(f:Nat->Nat):SV->SV
 |.a x=>.a (Gd f x)
 |.agg xs=>.agg (xs.map (Gd f))
 |.l8 xs=>.l8 (xs.map (Sk f))
 |.Bd g xs=>.Bd g (xs.map (Gd f))
def Sl(f:Nat->Nat):Chunk->Chunk
 |.obj ty cs=>.obj ty (cs.map (Gd f))
 |c=>c
def Cc(f:Nat->Nat)(ρ ρ':Env):Prop:=∀T,T<ρ.n->f T<ρ'.n/\ρ'.pl (f T)=ρ.pl T
theorem Cd{f:Nat->Nat}{ρ ρ':Env}(h:Cc f ρ ρ'){x:A}{v:Value}(r:x.b8 ρ v):(Gd f x).b8 ρ' v:=by
 cases x<;>simp only[Gd,A.b8]at r ⊢<;>try exact r
 ·obtain⟨h1,rfl⟩:=r;obtain⟨h2,h3⟩:=h _ h1;exact⟨h2,by rw[h3]⟩
 ·obtain⟨h1,h4,h5,h6⟩:=r;obtain⟨h2,h3⟩:=h _ h1;exact⟨h2,h4,h5,by rw[h3];exact h6⟩
 ·obtain⟨h1,h4,h5,rfl⟩:=r;obtain⟨h2,h3⟩:=h _ h1;exact⟨h2,h4,h5,by rw[h3]⟩
theorem uu{f:Nat->Nat}{ρ ρ':Env}(h:Cc f ρ ρ'):∀ {xs:List A} {vs:List Value},ct ρ xs vs->ct ρ' (xs.map (Gd f)) vs
 |[],_,r=>r
 |_::_,_,⟨v,t,e,r1,r2⟩=>⟨v,t,e,Cd h r1,uu h r2⟩
theorem Pr{f:Nat->Nat}{ρ ρ':Env}(h:Cc f ρ ρ'):∀ {x:CV} {v:Value},x.b8 ρ v->(Sk f x).b8 ρ' v
 |.a _,_,r=>Cd h r
 |.agg _,_,⟨vs,e,r⟩=>⟨vs,e,uu h r⟩
theorem Jq{f:Nat->Nat}{ρ ρ':Env}(h:Cc f ρ ρ'):∀ {xs:List CV} {vs:List Value},r4 ρ xs vs->r4 ρ' (xs.map (Sk f)) vs
 |[],_,r=>r
 |_::_,_,⟨v,t,e,r1,r2⟩=>⟨v,t,e,Pr h r1,Jq h r2⟩
theorem Sm{f:Nat->Nat}{ρ ρ':Env}(h:Cc f ρ ρ'):∀ {x:SV} {v:Value},x.b8 ρ v->(YQ f x).b8 ρ' v
 |.a _,_,r=>Cd h r
 |.agg _,_,⟨vs,e,r⟩=>⟨vs,e,uu h r⟩
 |.l8 _,_,⟨vs,e,r⟩=>⟨vs,e,Jq h r⟩
 |.Bd _ _,_,⟨vs,e,r⟩=>⟨vs,e,uu h r⟩
theorem Pt{f:Nat->Nat}{ρ ρ':Env}(h:Cc f ρ ρ'){c:Chunk}{p:Place}{w:World}(r:c.Sat ρ p w):(Sl f c).Sat ρ' p w:=by
 cases c with
 |obj ty cs=>obtain⟨vs,fr,a,b,⟨us,xs,e,c⟩,d⟩:=r;exact⟨vs,fr,a,b,⟨us,xs,e,uu h c⟩,d⟩
 |arr ty ks n rows=>exact r
 |abs R=>exact r
 |cu H=>exact r
def NV(f:Nat->Nat)(l:List (Nat×Chunk)):aF:=l.map fun p=>⟨f p.1,true,Sl f p.2⟩
def distinct:aF->Bool
 |[]=>true
 |e::r=>Ay e.tag r&&distinct r
theorem qQ:∀ {hp:aF},distinct hp=true->hp.Pairwise fun x y=>x.tag≠y.tag
 |[],_=>.nil
 |e::r,h=>by
  simp only[distinct,Bool.and_eq_true]at h;exact List.pairwise_cons.2 ⟨fun y hy=>sD h.1 y hy,qQ h.2⟩
def qE(C:cD)(args:List SV)(s:S)(K:KV):Prop :=
 ∃a,y6 0 C.m [] args (C.args a) fun σ=>nR 0 C.m 1000 (C.hp a).length σ s.hp (vA (C.hp a)) fun σ rest=>sF 0 C.m 1000 (C.ro a).length σ rest (D6 (C.ro a)) fun σ =>
  bif distinct (vA (C.hp a)++D6 (C.ro a))then C.pre a /\
  ∀b,C.post a b->bif distinct (NV (Cb σ s.nx C.m) (C.cT a b)++rest)then
   K (YQ (Cb σ s.nx C.m) (C.res a b)) ⟨s.nt,s.fr,NV (Cb σ s.nx C.m) (C.cT a b)++rest,s.nx+C.m',s.kp,s.rt⟩else False else False
theorem ai.local{w0:World}{M:Nat->Prop}{ρ:Env}{hp:aF}{w:World}(h:ai w0 M ρ hp w):ai w (lE ρ hp) ρ hp w where
 keeps:=eu.refl _ w
 gH:=fun e he=>⟨(h.gH e he).tag,(h.gH e he).ch,(h.gH e he).lt,fun hw _ hb _=>⟨e,he,hw,hb⟩⟩
 apart:=h.apart
theorem ai.app{w0:World}{M:Nat->Prop}{ρ:Env}{w:World}:∀ {h1 h2:aF},ai w0 M ρ h1 w->ai w0 M ρ h2 w->(∀x∈h1,∀y∈h2,pS ρ x y)->ai w0 M ρ (h1++h2) w
 |[],_,_,h,_=>h
 |e::r,h2,h,h',ha=>by
  have hr:=ai.app (h.sub (List.sublist_cons_self e r)) h' fun x hx=>ha x (List.mem_cons_of_mem _ hx);refine hr.cons (h.gH e List.mem_cons_self) fun x hx=>?_;rcases List.mem_append.1 hx with hx|hx
  ·exact(List.pairwise_cons.1 h.apart).1 x hx
  ·exact ha e List.mem_cons_self x hx
theorem Sn{l:List (Nat×Chunk)}{e:A2}(h:e∈vA l):e.wr=true:=by
 obtain⟨p,_,rfl⟩:=List.mem_map.1 h;rfl
theorem Ce{l:List (Nat×Chunk)}{e:A2}(h:e∈D6 l):e.wr=false:=by
 obtain⟨p,_,rfl⟩:=List.mem_map.1 h;rfl
def lI(X:Cx)(C:cD)(f:Nat):Prop:=∀a,C.pre a->∀(M:Nat->Prop) (ρ:Env) (w:World) (vs:List Value),ρ.n=C.m->ai w M ρ (vA (C.hp a)++D6 (C.ro a)) w->iU ρ (C.args a) vs ->
 Calls X.P f vs.toArray w fun e w'=>∃v,e = .returned v/\∃o ρ2,C.post a o/\ρ2.n=C.m'/\(∀T,T<C.m->ρ2.pl T=ρ.pl T)/\(C.res a o).b8 ρ2 v/\ai w M ρ2 (vA (C.cT a o)) w'
theorem vD{X:Cx}{C:cD}{f:Nat}(hb:lI X C f){args:List SV}{s:S}{K:KV}(h:qE C args s K):uj X f args s K:=by
 obtain⟨a,h⟩:=h;obtain⟨σ1,h1,e1,w1,r1⟩:=xZ h (Wf.nil _ _);obtain⟨σ2,rest,h2,e2,w2,g⟩:=kf h1 w1;obtain⟨σ,hcont,e3,w3,gr⟩:=qd h2 w2;cases hd0:distinct (vA (C.hp a)++D6 (C.ro a))with
 |false=>rw[hd0]at hcont;exact hcont.elim
 |true =>
 rw[hd0]at hcont;obtain⟨hpre,hpost⟩:=hcont;intro w0 M ρ w vs hn hh hargs;have hf:Fits ρ (iX ρ σ C.m) σ:=nY w3;have hfw:=hf.ext e3;have hW:ai w0 M (iX ρ σ C.m) (vA (C.hp a)) w:=g.sat hfw hh;have hrest:ai w0 M ρ rest w:=hh.sub g.rest;have hWl:=hW.local;have hRo:ai w (lE (iX ρ σ C.m) (vA (C.hp a))) (iX ρ σ C.m) (D6 (C.ro a)) w:=gr.sat hf hrest (fun e he=>Ce he) (eu.refl _ w);have hapW:∀g0∈vA (C.hp a),∀f∈rest,∀b,((iX ρ σ C.m).pl g0.tag).fp b->¬(ρ.pl f.tag).fp b:=fun g0 hg0 f hf0=>g.apart hfw hh g0 hg0 f hf0 (by rw[Sn hg0];rfl);have hM1:∀f∈rest,∀b,(ρ.pl f.tag).fp b->¬lE (iX ρ σ C.m) (vA (C.hp a)) b:=by
  rintro f hf0 b hb ⟨g0,hg0,_,hfp⟩;exact hapW g0 hg0 f hf0 b hfp hb
 have hM:∀b,b<w0.heap.size->lE (iX ρ σ C.m) (vA (C.hp a)) b->M b:=by
  rintro b hb ⟨g0,hg0,hw,hfp⟩;exact(hW.gH g0 hg0).own hw b hfp hb
 have hdist:=List.pairwise_append.1 (qQ hd0);have hJ:ai w (lE (iX ρ σ C.m) (vA (C.hp a))) (iX ρ σ C.m) (vA (C.hp a)++D6 (C.ro a)) w:=by
  refine hWl.app hRo fun x hx y hy=>⟨hdist.2.2 x hx y hy,fun _ b hb hb'=>?_⟩
  rcases gr.src hf y hy with h | ⟨y',h1,h2⟩
  ·exact h b hb'
  ·rw[h2]at hb';exact hapW x hx y' h1 b hb hb'
 have hargs':iU (iX ρ σ C.m) (C.args a) vs:=r1 ρ _ vs (hf.ext (e2.trans e3)) hargs;refine(hb a hpre _ (iX ρ σ C.m) w vs rfl hJ hargs').mono ?_;rintro e w' ⟨v,rfl,o,ρ2,hpo,hn2,hpl2,hres,hnew⟩;refine⟨v,rfl,?_⟩;have hcont:=hpost o hpo;cases hd:distinct (NV (Cb σ s.nx C.m) (C.cT a o)++rest)with
 |false=>rw[hd]at hcont;exact hcont.elim
 |true =>
 rw[hd]at hcont;simp only[cond_true]at hcont;have hds:=List.pairwise_append.1 (qQ hd)
 let ρ3:Env:=⟨s.nx+C.m',fun t=>if t<s.nx then ρ.pl t else ρ2.pl (t-s.nx)⟩
 have hle:ρ.le ρ3:=⟨by show ρ.n<=s.nx+C.m';omega,fun t ht=>by show(if t<s.nx then _ else _)=_;rw[if_pos (by omega)]⟩
 have hmv:Cc (Cb σ s.nx C.m) ρ2 ρ3:=by
  intro T hT;have hT':T<C.m':=by rw[<- hn2];exact hT
  have fresh:s.nx+T<ρ3.n/\ρ3.pl (s.nx+T)=ρ2.pl T:=⟨by show s.nx+T<s.nx+C.m';omega,by show(if s.nx+T<s.nx then _ else _)=_;rw[if_neg (by omega),Nat.add_sub_cancel_left]⟩
  unfold Cb;cases hlt:Nat.blt T C.m with
  |false=>exact fresh
  |true =>
   have hTm:T<C.m:=by simp[Nat.blt]at hlt;omega
   simp only[cond_true];split
   ·rename_i t hst;cases hlt2:Nat.blt t s.nx with
    |false=>exact fresh
    |true =>
     have htn:t<s.nx:=by simp[Nat.blt]at hlt2;omega
     refine⟨by show t<s.nx+C.m';omega,?_⟩;show(if t<s.nx then _ else _)=_;rw[if_pos htn];rw[hpl2 T hTm,(hf T _ hst).2];rfl
   ·exact fresh
 have hkeep:eu (lE (iX ρ σ C.m) (vA (C.hp a))) w w':=hnew.keeps;have hfix:∀f∈rest,∀b,(ρ.pl f.tag).fp b->w'.heap[b]? = w.heap[b]?:=fun f hf0 b hb=>hkeep.block b ((hrest.gH f hf0).lt b hb) (hM1 f hf0 b hb);have hrest3:ai w0 M ρ3 rest w':=(hrest.world hkeep hM hfix).mono hle;have hown:∀g0∈vA (C.cT a o),∀b,(ρ2.pl g0.tag).fp b->b<w.heap.size->lE (iX ρ σ C.m) (vA (C.hp a)) b:=fun g0 hg0 b hb hlt=>(hnew.gH g0 hg0).own (Sn hg0) b hb hlt;refine⟨_,_,ρ3,hcont,rfl,rfl,hle,rfl,Sm hmv hres,?_⟩;have hren:ai w0 M ρ3 (NV (Cb σ s.nx C.m) (C.cT a o)) w':=by
  refine⟨hrest3.keeps,fun e he=>?_,?_⟩
  ·obtain⟨p,hp,rfl⟩:=List.mem_map.1 he;have hg:=hnew.gH ⟨p.1,true,p.2⟩ (List.mem_map.2 ⟨p,hp,rfl⟩);obtain⟨m1,m2⟩:=hmv _ hg.tag;refine⟨m1,?_,?_,fun _ b hb hlt=>?_⟩
   ·show(Sl _ p.2).Sat ρ3 (ρ3.pl _) w';rw[m2];exact Pt hmv hg.ch
   ·show ∀b,(ρ3.pl _).fp b->_;rw[m2];exact hg.lt
   ·have hb':(ρ2.pl p.1).fp b:=by have:(ρ3.pl (Cb σ s.nx C.m p.1)).fp b:=hb;rw[m2]at this;exact this
    exact hM b hlt (hown ⟨p.1,true,p.2⟩ (List.mem_map.2 ⟨p,hp,rfl⟩) b hb' (Nat.lt_of_lt_of_le hlt hh.keeps.size))
  ·have hd1:=List.pairwise_map.1 hds.1;have ha1:=List.pairwise_map.1 hnew.apart;refine List.pairwise_map.2 (List.Pairwise.imp_of_mem (fun {x y} hx hy hxy=>?_) (hd1.and ha1));obtain⟨hne,hap⟩:=hxy;have gx:=hmv _ (hnew.gH ⟨x.1,true,x.2⟩ (List.mem_map.2 ⟨x,hx,rfl⟩)).tag;have gy:=hmv _ (hnew.gH ⟨y.1,true,y.2⟩ (List.mem_map.2 ⟨y,hy,rfl⟩)).tag;refine⟨hne,fun _ b hb hb'=>?_⟩;have hb1:(ρ3.pl (Cb σ s.nx C.m x.1)).fp b:=hb;have hb2:(ρ3.pl (Cb σ s.nx C.m y.1)).fp b:=hb';rw[gx.2]at hb1;rw[gy.2]at hb2;exact hap.2 rfl b hb1 hb2
 refine hren.app hrest3 fun x hx y hy=>⟨hds.2.2 x hx y hy,fun _ b hb hb'=>?_⟩
 obtain⟨p,hp,rfl⟩:=List.mem_map.1 hx;have hmem:(⟨p.1,true,p.2⟩:A2)∈vA (C.cT a o):=List.mem_map.2 ⟨p,hp,rfl⟩;have gx:=hmv _ (hnew.gH _ hmem).tag;have hb1:(ρ3.pl (Cb σ s.nx C.m p.1)).fp b:=hb;rw[gx.2]at hb1;have hb2:(ρ.pl y.tag).fp b:=by rw[<- hle.pl _ (hrest.gH y hy).tag];exact hb'
 have hlt:=(hrest.gH y hy).lt b hb2;exact hM1 y hy b hb2 (hown _ hmem b hb1 hlt)
theorem Bl{Y:Gx}(hY:Y.Ok){C:cD}{ch:C.α->gM}(hch:∀a,IM Y.G.X (ch a)){lh:C.α->Nat->LH}{f:Nat}(hb:vC Y C ch lh f):lI Y.G.X C f:=by
 intro a hpre M ρ w vs hn hJ hargs;refine(ya hY (hch a) (hb a hpre) w M ρ w vs hn hJ hargs).mono ?_;rintro e w' ⟨v,rfl,sv,s',ρ1,hK,_,_,hle1,hn1,hrep1,hh1⟩;refine⟨v,rfl,?_⟩;obtain⟨o,hK⟩:=hK;obtain⟨τ1,k1,f1,v1,q1⟩:=vz hK (Wf.nil _ _);obtain⟨τ,rest',⟨hpo,_⟩,f2,v2,gt⟩:=kf k1 v1;have hft:Fits ρ1 (iX ρ1 τ C.m') τ:=nY v2;refine⟨o,iX ρ1 τ C.m',hpo,rfl,fun T hTm=>?_,q1 ρ1 _ v (hft.ext f2) hrep1,gt.sat hft hh1⟩;rw[<- hle1.pl T (by rw[hn];exact hTm)];show(match jZ τ T with|some x=>placeOf ρ1 x|none=>ρ1.pl T)=_;split
 ·rename_i x hx;rw[v2.id T x hx hTm];rfl
 ·rfl
theorem Sp{Y:Gx}(hY:Y.Ok){C:cD}{ch:C.α->gM}(hch:∀a,IM Y.G.X (ch a)){lh:C.α->Nat->LH}{f:Nat}(hb:vC Y C ch lh f){args:List SV}{s:S}{K:KV}(h:qE C args s K):uj Y.G.X f args s K :=
 vD (Bl hY hch hb) h
def cons(jf:Nat->Option cD):Sx.Spec:=fun f=>(jf f).map qE
theorem NW{X:Cx}{jf:Nat->Option cD}(h:∀f C,jf f=some C->∀args s K,qE C args s K->uj X f args s K):Xv X (cons jf):=by
 intro f g hg args s K hK;unfold cons at hg;cases ht:jf f with
 |none=>rw[ht]at hg;cases hg
 |some C=>rw[ht]at hg;cases hg;exact h f C ht args s K hK
end
section
def gl{α:Type}[Inhabited α](l:List α)(i:Nat):α:=l.getD i default
theorem bR{α:Type}[Inhabited α]{l:List α}{i:Nat}(h:i<l.length):gl l i=l[i]:=by simp[gl,List.getD,h]
theorem bN{α:Type}[Inhabited α]{l m:List α}{i:Nat}(h:i<l.length):gl (l++m) i=gl l i:=by simp[gl,List.getD,List.getElem?_append_left h]
theorem bf{α:Type}[Inhabited α]{l m:List α}{i:Nat}(h:l.length<=i):gl (l++m) i=gl m (i-l.length):=by simp[gl,List.getD,List.getElem?_append_right h]
theorem uv{α:Type}[Inhabited α]{l:List α}{i:Nat}{x:α}(h:i<l.length):gl (l.set i x) i=x:=by simp[gl,List.getD,h]
theorem y7{α:Type}[Inhabited α]{l:List α}{i j:Nat}{x:α}(h:i≠j):gl (l.set i x) j=gl l j:=by simp[gl,List.getD,List.getElem?_set_ne h]
theorem Ge{α β:Type}[Inhabited α][Inhabited β]{l:List α}{f:α->β}{i:Nat}(h:i<l.length):gl (l.map f) i=f (gl l i):=by simp[gl,List.getD,h]
theorem NX{α:Type}[Inhabited α]{l:List α}{i k:Nat}(h:i<k):gl (l.take k) i=gl l i:=by simp[gl,List.getD,h]
theorem gq{α:Type}[Inhabited α]{l:List α}{i:Nat}(h:i<l.length):l.take (i+1)=l.take i++[gl l i]:=by
 rw[List.take_succ_eq_append_getElem h,bR h]
theorem Gf{α:Type}[Inhabited α]{l:List α}{i:Nat}(h:i<l.length):gl l i∈l:=by rw[bR h];exact List.getElem_mem h
def af{α:Type}[Inhabited α](enc:α->List Value)(l:List α):Nat->Nat->Value:=fun i j=>(enc (gl l i)).getD j undef
theorem gN{rows:Nat->Nat->Value}{row c i:Nat}{vs:List Value}(h:i≠row):jV rows row c vs i=rows i:=by
 funext j;simp[jV,h]
theorem iY{rows:Nat->Nat->Value}{row c:Nat}{vs:List Value}:jV rows row c vs row=fun j=>bif Nat.ble c j&&Nat.blt j (c+vs.length)then vs.getD (j-c) undef else rows row j:=by
 funext j;simp[jV]
def cellsOf(m:Nat)(r:Nat->Value):List Value:=(List.range m).map r
theorem aj.dW{n m:Nat}{rows rows':Nat->Nat->Value}(h:∀i,i<n->cellsOf m (rows i)=cellsOf m (rows' i)):aj n m rows rows':=by
 refine⟨fun i hi j hj=>?_⟩;have:=congrArg (fun l=>l[j]?) (h i hi);simpa[cellsOf,hj]using this
theorem aj.zero{m:Nat}{a b:Nat->Nat->Value}:aj 0 m a b:=⟨fun _ h=>absurd h (Nat.not_lt_zero _)⟩
theorem aj.of_eq{n m:Nat}{a b:Nat->Nat->Value}(h:a=b):aj n m a b:=h▸.refl n m a
theorem aj.set{α:Type}[Inhabited α]{enc:α->List Value}{n m:Nat}{l:List α}{x:α}(i0:Nat){rows:Nat->Nat->Value}(h0:i0<l.length)
 (h1:∀i,i≠i0->rows i=af enc l i) (h2:cellsOf m (rows i0)=cellsOf m fun j=>(enc x).getD j undef):aj n m rows (af enc (l.set i0 x)):=by
 refine .dW fun i _=>?_;by_cases hi:i=i0
 ·subst hi;rw[h2];unfold af;rw[uv h0]
 ·rw[h1 i hi];unfold af;rw[y7 fun h=>hi h.symm]
theorem Gg{r0 r1:Nat->Nat->Value}{s l i:Nat}(h:i<l):aZ r0 s l r1 i=r0 (s+i):=by funext j;simp[aZ,h]
theorem D7{r0 r1:Nat->Nat->Value}{s l i:Nat}(h:l<=i):aZ r0 s l r1 i=r1 (i-l):=by funext j;simp[aZ,Nat.not_lt.2 h]
theorem aj.app{α:Type}[Inhabited α]{enc:α->List Value}{n m s:Nat}{l q:List α}{r0 r1:Nat->Nat->Value}{k:Nat}(hk:l.length=k)(h0:aj k m (fun i=>r0 (s+i)) (af enc l))(h1:aj (n-k) m r1 (af enc q)) :
 aj n m (aZ r0 s k r1) (af enc (l++q)):=by
 refine⟨fun i hi j hj=>?_⟩;by_cases h:i<k
 ·rw[Gg h];refine(h0.at_ i h j hj).trans ?_;unfold af;rw[bN (by omega)]
 ·rw[D7 (by omega)];refine(h1.at_ (i-k) (by omega) j hj).trans ?_;unfold af;rw[bf (by omega),hk]
theorem aj.one{α:Type}[Inhabited α]{enc:α->List Value}{n m:Nat}{x:α}{rows:Nat->Nat->Value}(hn:n<=1)(h:cellsOf m (rows 0)=cellsOf m fun j=>(enc x).getD j undef):aj n m rows (af enc [x]):=by
 refine .dW fun i hi=>?_;have:i=0:=by omega
 subst this;rw[h];rfl
theorem aj.push{α:Type}[Inhabited α]{enc:α->List Value}{n m:Nat}{l:List α}{x:α}{r1:Nat->Nat->Value}{k:Nat}(hk:l.length=k)(hn:n<=k+1)(h:cellsOf m (r1 0)=cellsOf m fun j=>(enc x).getD j undef) :
 aj n m (aZ (af enc l) 0 k r1) (af enc (l++[x])) :=
 .app hk (.of_eq (by funext i;simp)) (.one (by omega) h)
def ak(X:Cx)(f:Nat)(C:cD):Prop:=∀args s K,qE C args s K->uj X f args s K
def Cf:List (Nat×cD)->Nat->Option cD
 |[],_=>none
 |(j,c)::r,f=>bif Nat.beq j f then some c else Cf r f
def uy(X:Cx):List (Nat×cD)->Prop
 |[]=>True
 |p::r=>ak X p.1 p.2/\uy X r
theorem uy.at_{X:Cx}:∀ {l:List (Nat×cD)},uy X l->∀f C,Cf l f=some C->ak X f C
 |[],_,_,_,h=>by cases h
 |(j,c)::r,h,f,C,hc=>by
  simp only[Cf]at hc;by_cases hj:j=f
  ·subst hj;simp only[dh,cond_true,Option.some.injEq]at hc;subst hc;exact h.1
  ·rw[ey hj]at hc;exact uy.at_ h.2 f C hc
def Jr(n:Nat):List (Nat×List An×List An)->Nat->LH
 |[],_=>.mk n [] []
 |(j,l,c)::r,f=>bif Nat.beq j f then .mk n l c else Jr n r f
def YR(Y:Gx)(jf:List (Nat×cD))(lh:Nat->LH)(n:Nat):gM:=EG Y (cons (Cf jf)) lh n
theorem yc{Y:Gx}(hY:Y.Ok){jf:List (Nat×cD)}(ht:uy Y.G.X jf){lh:Nat->LH}{n:Nat}:IM Y.G.X (YR Y jf lh n) :=
 yb hY (NW fun f C h=>ht.at_ f C h) n
def NY(Y:Gx)(jf:List (Nat×cD))(f:Nat)(C:cD)(l:C.α->List (Nat×List An×List An)):Prop :=
 vC Y C (fun a=>YR Y jf (Jr 1000 (l a)) 20) (fun a=>Jr 1000 (l a)) f
structure fnBody(Y:Gx)(jf:List (Nat×cD))(f:Nat)(C:cD)(l:C.α->List (Nat×List An×List An)):Prop where
 body:NY Y jf f C l
theorem fnBody.of{Y:Gx}{jf:List (Nat×cD)}{f:Nat}{C:cD}{l:C.α->List (Nat×List An×List An)}{p:Prop}(h:NY Y jf f C l=p)(hp:p):fnBody Y jf f C l:=⟨h.mpr hp⟩
theorem aV{Y:Gx}(hY:Y.Ok){jf:List (Nat×cD)}{f:Nat}{C:cD}{l:C.α->List (Nat×List An×List An)}(hb:fnBody Y jf f C l)(ht:uy Y.G.X jf):ak Y.G.X f C :=
 fun _ _ _ h=>Sp hY (fun _=>yc hY ht) hb.body h
def An.flat(key:Nat)(α:Type)(J:S->α->S)(p:S->α->Prop)(μ:S->α->Nat):An:=.mk key α J p μ fun _=>.mk 60 [] []
def WU:SV->Nat
 |.a (.ptr t _ _ _)=>t
 |.a (.slc t _ _ _ _)=>t
 |_=>0
def S.tg(s:S)(i:Nat):Nat:=WU (look s.fr i)
def S.iv(s:S)(i:Nat):Int:=match look s.fr i with
 |.a (.int _ n)=>n
 |.a (.lit _ n)=>n
 |_=>0
def S.fh(s:S)(t c:Nat):Nat:=match s.hp.find t with
 |some (_,.obj _ cs)=>match cs[c]? with|some x=>WU (.a x)|none=>0
 |_=>0
def S.at_(s:S)(t:Nat)(ch:Chunk):S:=s.put (s.hp.tO t ch)
def S.int(s:S)(i:Nat)(n:Int):S:=s.set i (.a (.int .i64 n))
end
theorem cc{p:Prop}(h:p:=by first|with_reducible rfl|with_reducible trivial|with_reducible assumption):p:=h
theorem cV{p:Prop}(h:p:=by first|with_reducible (first|rfl|trivial|assumption)|omega|with_reducible (first|exact aj.refl _ _ _|exact Nat.le_refl _)|(dsimp only[List.length_cons,List.length_nil]<;>omega)):p:=h
theorem cm{p:Prop}(h:p:=by first|omega|with_reducible exact aj.refl _ _ _|rfl|exact aj.refl _ _ _|exact Nat.le_refl _|(dsimp only;omega)):p:=h
theorem vR{p:Prop}(h:p:=by first|with_reducible rfl|omega|(dsimp only;omega)|exact aj.refl _ _ _|assumption|rfl|trivial|exact Nat.le_refl _):p:=h
theorem kO{p q:Prop}(k:q)(h:p:=by first|omega|(dsimp only;omega)|(simp only[bL];omega)):p/\q:=⟨h,k⟩
end Go.Sx
namespace Go.Proofs.YtfjgoonelcaggaaGreat
open Go.Sx
namespace Tab
def T:List (Nat×TI):=[(2,⟨1,8,false,.int .i64,[.lit .i64 0],[.int .i64]⟩),
 (3,⟨1,8,false,.int .i64,[.lit .i64 0],[.int .i64]⟩),
 (4,⟨1,1,false,.bool,[.ff],[.bool]⟩),
 (5,⟨1,1,false,.int .u8,[.lit .u8 0],[.int .u8]⟩),
 (9,⟨1,16,false,.str,[.str ⟨#[]⟩],[.str]⟩),
 (22,⟨1,8,false,.ptr,[.nil],[.deep]⟩),
 (24,⟨1,8,true,.struct [(0,1)],[.lit .i64 0],[.int .i64]⟩),
 (25,⟨1,8,false,.int .i64,[.lit .i64 0],[.int .i64]⟩),
 (28,⟨1,8,false,.ptr,[.nil],[.deep]⟩),
 (30,⟨1,8,false,.ptr,[.nil],[.deep]⟩),
 (31,⟨1,24,false,.slc 45,[.bU],[.deep]⟩),
 (32,⟨1,24,false,.slc 61,[.bU],[.deep]⟩),
 (34,⟨2,48,true,.struct [(0,1),(1,1)],[.bU,.bU],[.deep,.deep]⟩),
 (40,⟨4,48,true,.struct [(0,1),(1,1),(2,1),(3,1)],[.str ⟨#[]⟩,.str ⟨#[]⟩,.lit .i64 0,.ff],[.str,.str,.int .i64,.bool]⟩),
 (41,⟨1,24,false,.slc 40,[.bU],[.deep]⟩),
 (42,⟨1,24,false,.slc 144,[.bU],[.deep]⟩),
 (43,⟨1,24,false,.slc 3,[.bU],[.deep]⟩),
 (45,⟨21,256,true,.struct [(0,1),(1,1),(2,1),(3,1),(4,1),(5,1),(6,1),(7,1),(8,1),(9,1),(10,1),(11,1),(12,4),(16,1),(17,1),(18,1),(19,1),(20,1)],[.lit .i64 0,.lit .i64 0,.lit .i64 0,.lit .i64 0,.lit .i64 0,.lit .i64 0,.lit .i64 0,.lit .i64 0,.lit .i64 0,.str ⟨#[]⟩,.lit .i64 0,.ff,.str ⟨#[]⟩,.str ⟨#[]⟩,.lit .i64 0,.ff,.bU,.bU,.bU,.lit .i64 0,.bU],[.int .i64,.int .i64,.int .i64,.int .i64,.int .i64,.int .i64,.int .i64,.int .i64,.int .i64,.str,.int .i64,.bool,.str,.str,.int .i64,.bool,.deep,.deep,.deep,.int .i64,.deep]⟩),
 (46,⟨1,24,false,.slc 9,[.bU],[.deep]⟩),
 (48,⟨1,8,false,.ptr,[.nil],[.deep]⟩),
 (50,⟨1,8,false,.func,[.val .nilFunc],[.other]⟩),
 (58,⟨1,24,false,.slc 5,[.bU],[.deep]⟩),
 (59,⟨1,8,false,.func,[.val .nilFunc],[.other]⟩),
 (61,⟨6,64,true,.struct [(0,1),(1,1),(2,1),(3,1),(4,1),(5,1)],[.lit .i64 0,.lit .i64 0,.str ⟨#[]⟩,.lit .i64 0,.str ⟨#[]⟩,.ff],[.int .i64,.int .i64,.str,.int .i64,.str,.bool]⟩),
 (64,⟨1,8,false,.int .u64,[.lit .u64 0],[.int .u64]⟩),
 (72,⟨4,32,true,.struct [(0,1),(1,1),(2,1),(3,1)],[.lit .i64 0,.lit .i64 0,.lit .i64 0,.ff],[.int .i64,.int .i64,.int .i64,.bool]⟩),
 (74,⟨1,8,false,.ptr,[.nil],[.deep]⟩),
 (75,⟨1,8,false,.ptr,[.nil],[.deep]⟩),
 (76,⟨1,8,false,.ptr,[.nil],[.deep]⟩),
 (77,⟨1,24,false,.slc 136,[.bU],[.deep]⟩),
 (78,⟨1,8,false,.other,[.val (.map none)],[.other]⟩),
 (79,⟨1,8,false,.other,[.val (.map none)],[.other]⟩),
 (80,⟨1,24,false,.slc 125,[.bU],[.deep]⟩),
 (81,⟨1,24,false,.slc 134,[.bU],[.deep]⟩),
 (83,⟨14,192,true,.struct [(0,1),(1,1),(2,1),(3,1),(4,1),(5,1),(6,1),(7,1),(8,1),(9,1),(10,1),(11,1),(12,2)],[.nil,.nil,.lit .i64 0,.nil,.nil,.ff,.bU,.val (.map none),.val (.map none),.bU,.bU,.lit .i64 0,.bU,.bU],[.deep,.deep,.int .i64,.deep,.deep,.bool,.deep,.other,.other,.deep,.deep,.int .i64,.deep,.deep]⟩),
 (84,⟨1,8,false,.ptr,[.nil],[.deep]⟩),
 (85,⟨1,8,false,.ptr,[.nil],[.deep]⟩),
 (86,⟨1,8,false,.ptr,[.nil],[.deep]⟩),
 (88,⟨4,32,true,.struct [(0,1),(1,1),(2,1),(3,1)],[.nil,.nil,.nil,.lit .i64 0],[.deep,.deep,.deep,.int .i64]⟩),
 (96,⟨1,24,false,.slc 4,[.bU],[.deep]⟩),
 (108,⟨1,8,false,.int .u64,[.lit .u64 0],[.int .u64]⟩),
 (114,⟨1,24,false,.slc 158,[.bU],[.deep]⟩),
 (116,⟨2,32,true,.struct [(0,1),(1,1)],[.bU,.lit .i64 0],[.deep,.int .i64]⟩),
 (119,⟨4,40,true,.struct [(0,1),(1,1),(2,1),(3,1)],[.lit .i64 0,.lit .i64 0,.lit .i64 0,.str ⟨#[]⟩],[.int .i64,.int .i64,.int .i64,.str]⟩),
 (122,⟨1,8,false,.ptr,[.nil],[.deep]⟩),
 (125,⟨7,64,true,.struct [(0,4),(4,1),(5,1),(6,1)],[.lit .i64 0,.lit .i64 0,.lit .i64 0,.str ⟨#[]⟩,.lit .i64 0,.lit .i64 0,.lit .i64 0],[.int .i64,.int .i64,.int .i64,.str,.int .i64,.int .i64,.int .i64]⟩),
 (127,⟨4,32,true,.struct [(0,1),(1,1),(2,1),(3,1)],[.nil,.lit .i64 0,.lit .i64 0,.lit .i64 0],[.deep,.int .i64,.int .i64,.int .i64]⟩),
 (131,⟨1,8,false,.ptr,[.nil],[.deep]⟩),
 (134,⟨5,48,true,.struct [(0,4),(4,1)],[.lit .i64 0,.lit .i64 0,.lit .i64 0,.str ⟨#[]⟩,.lit .i64 0],[.int .i64,.int .i64,.int .i64,.str,.int .i64]⟩),
 (136,⟨4,32,true,.struct [(0,1),(1,1),(2,1),(3,1)],[.lit .u64 0,.lit .u64 0,.lit .i64 0,.lit .i64 0],[.int .u64,.int .u64,.int .i64,.int .i64]⟩),
 (144,⟨2,24,true,.struct [(0,1),(1,1)],[.lit .i64 0,.str ⟨#[]⟩],[.int .i64,.str]⟩),
 (152,⟨1,24,false,.slc 2,[.bU],[.deep]⟩),
 (153,⟨1,8,false,.ptr,[.nil],[.deep]⟩),
 (155,⟨5,40,true,.struct [(0,1),(1,4)],[.nil,.lit .i64 0,.lit .i64 0,.lit .i64 0,.ff],[.deep,.int .i64,.int .i64,.int .i64,.bool]⟩),
 (156,⟨64,64,true,.arr 64 5,.replicate 64 (.lit .u8 0),.replicate 64 (.int .u8)⟩),
 (158,⟨129,129,true,.struct [(0,64),(64,64),(128,1)],[.lit .u8 0,.lit .u8 0,.lit .u8 0,.lit .u8 0,.lit .u8 0,.lit .u8 0,.lit .u8 0,.lit .u8 0,.lit .u8 0,.lit .u8 0,.lit .u8 0,.lit .u8 0,.lit .u8 0,.lit .u8 0,.lit .u8 0,.lit .u8 0,.lit .u8 0,.lit .u8 0,.lit .u8 0,.lit .u8 0,.lit .u8 0,.lit .u8 0,.lit .u8 0,.lit .u8 0,.lit .u8 0,.lit .u8 0,.lit .u8 0,.lit .u8 0,.lit .u8 0,.lit .u8 0,.lit .u8 0,.lit .u8 0,.lit .u8 0,.lit .u8 0,.lit .u8 0,.lit .u8 0,.lit .u8 0,.lit .u8 0,.lit .u8 0,.lit .u8 0,.lit .u8 0,.lit .u8 0,.lit .u8 0,.lit .u8 0,.lit .u8 0,.lit .u8 0,.lit .u8 0,.lit .u8 0,.lit .u8 0,.lit .u8 0,.lit .u8 0,.lit .u8 0,.lit .u8 0,.lit .u8 0,.lit .u8 0,.lit .u8 0,.lit .u8 0,.lit .u8 0,.lit .u8 0,.lit .u8 0,.lit .u8 0,.lit .u8 0,.lit .u8 0,.lit .u8 0,.lit .u8 0,.lit .u8 0,.lit .u8 0,.lit .u8 0,.lit .u8 0,.lit .u8 0,.lit .u8 0,.lit .u8 0,.lit .u8 0,.lit .u8 0,.lit .u8 0,.lit .u8 0,.lit .u8 0,.lit .u8 0,.lit .u8 0,.lit .u8 0,.lit .u8 0,.lit .u8 0,.lit .u8 0,.lit .u8 0,.lit .u8 0,.lit .u8 0,.lit .u8 0,.lit .u8 0,.lit .u8 0,.lit .u8 0,.lit .u8 0,.lit .u8 0,.lit .u8 0,.lit .u8 0,.lit .u8 0,.lit .u8 0,.lit .u8 0,.lit .u8 0,.lit .u8 0,.lit .u8 0,.lit .u8 0,.lit .u8 0,.lit .u8 0,.lit .u8 0,.lit .u8 0,.lit .u8 0,.lit .u8 0,.lit .u8 0,.lit .u8 0,.lit .u8 0,.lit .u8 0,.lit .u8 0,.lit .u8 0,.lit .u8 0,.lit .u8 0,.lit .u8 0,.lit .u8 0,.lit .u8 0,.lit .u8 0,.lit .u8 0,.lit .u8 0,.lit .u8 0,.lit .u8 0,.lit .u8 0,.lit .u8 0,.lit .u8 0,.lit .u8 0,.lit .u8 0,.ff],[.int .u8,.int .u8,.int .u8,.int .u8,.int .u8,.int .u8,.int .u8,.int .u8,.int .u8,.int .u8,.int .u8,.int .u8,.int .u8,.int .u8,.int .u8,.int .u8,.int .u8,.int .u8,.int .u8,.int .u8,.int .u8,.int .u8,.int .u8,.int .u8,.int .u8,.int .u8,.int .u8,.int .u8,.int .u8,.int .u8,.int .u8,.int .u8,.int .u8,.int .u8,.int .u8,.int .u8,.int .u8,.int .u8,.int .u8,.int .u8,.int .u8,.int .u8,.int .u8,.int .u8,.int .u8,.int .u8,.int .u8,.int .u8,.int .u8,.int .u8,.int .u8,.int .u8,.int .u8,.int .u8,.int .u8,.int .u8,.int .u8,.int .u8,.int .u8,.int .u8,.int .u8,.int .u8,.int .u8,.int .u8,.int .u8,.int .u8,.int .u8,.int .u8,.int .u8,.int .u8,.int .u8,.int .u8,.int .u8,.int .u8,.int .u8,.int .u8,.int .u8,.int .u8,.int .u8,.int .u8,.int .u8,.int .u8,.int .u8,.int .u8,.int .u8,.int .u8,.int .u8,.int .u8,.int .u8,.int .u8,.int .u8,.int .u8,.int .u8,.int .u8,.int .u8,.int .u8,.int .u8,.int .u8,.int .u8,.int .u8,.int .u8,.int .u8,.int .u8,.int .u8,.int .u8,.int .u8,.int .u8,.int .u8,.int .u8,.int .u8,.int .u8,.int .u8,.int .u8,.int .u8,.int .u8,.int .u8,.int .u8,.int .u8,.int .u8,.int .u8,.int .u8,.int .u8,.int .u8,.int .u8,.int .u8,.int .u8,.int .u8,.int .u8,.bool]⟩),
 (159,⟨1,24,false,.slc 208,[.bU],[.deep]⟩),
 (161,⟨3,56,true,.struct [(0,1),(1,1),(2,1)],[.lit .i64 0,.bU,.bU],[.int .i64,.deep,.deep]⟩),
 (192,⟨1,8,false,.func,[.val .nilFunc],[.other]⟩),
 (194,⟨1,8,false,.ptr,[.nil],[.deep]⟩),
 (195,⟨1,8,false,.other,[.val (.map none)],[.other]⟩),
 (197,⟨2,16,true,.struct [(0,1),(1,1)],[.lit .i64 0,.val (.map none)],[.int .i64,.other]⟩),
 (199,⟨2,24,true,.struct [(0,1),(1,1)],[.str ⟨#[]⟩,.ff],[.str,.bool]⟩),
 (202,⟨1,8,false,.ptr,[.nil],[.deep]⟩),
 (203,⟨1,8,false,.ptr,[.nil],[.deep]⟩),
 (205,⟨2,16,true,.struct [(0,1),(1,1)],[.nil,.nil],[.deep,.deep]⟩),
 (208,⟨2,16,true,.struct [(0,1),(1,1)],[.lit .u64 0,.lit .i64 0],[.int .u64,.int .i64]⟩),
 (224,⟨1,24,false,.slc 228,[.bU],[.deep]⟩),
 (226,⟨2,32,true,.struct [(0,1),(1,1)],[.nil,.bU],[.deep,.deep]⟩),
 (228,⟨3,32,true,.struct [(0,2),(2,1)],[.lit .i64 0,.str ⟨#[]⟩,.lit .i64 0],[.int .i64,.str,.int .i64]⟩),
 (245,⟨1,24,false,.slc 251,[.bU],[.deep]⟩),
 (247,⟨3,40,true,.struct [(0,1),(1,1),(2,1)],[.bU,.lit .i64 0,.lit .i64 0],[.deep,.int .i64,.int .i64]⟩),
 (251,⟨4,32,true,.struct [(0,1),(1,1),(2,1),(3,1)],[.str ⟨#[]⟩,.lit .i64 0,.ff,.ff],[.str,.int .i64,.bool,.bool]⟩),
 (252,⟨1,24,false,.slc 289,[.bU],[.deep]⟩),
 (254,⟨7,72,true,.struct [(0,1),(1,1),(2,1),(3,1),(4,1),(5,1),(6,1)],[.nil,.lit .i64 0,.lit .i64 0,.bU,.lit .i64 0,.lit .i64 0,.ff],[.deep,.int .i64,.int .i64,.deep,.int .i64,.int .i64,.bool]⟩),
 (259,⟨1,8,false,.ptr,[.nil],[.deep]⟩),
 (262,⟨5,56,true,.struct [(0,1),(1,1),(2,1),(3,1),(4,1)],[.nil,.lit .i64 0,.lit .i64 0,.bU,.lit .i64 0],[.deep,.int .i64,.int .i64,.deep,.int .i64]⟩),
 (266,⟨1,24,false,.slc 269,[.bU],[.deep]⟩),
 (269,⟨2,32,true,.struct [(0,1),(1,1)],[.lit .i64 0,.bU],[.int .i64,.deep]⟩),
 (276,⟨1,8,false,.func,[.val .nilFunc],[.other]⟩),
 (286,⟨1,8,false,.func,[.val .nilFunc],[.other]⟩),
 (288,⟨5,72,true,.struct [(0,1),(1,1),(2,1),(3,1),(4,1)],[.lit .i64 0,.lit .i64 0,.lit .i64 0,.bU,.bU],[.int .i64,.int .i64,.int .i64,.deep,.deep]⟩),
 (289,⟨1,8,false,.ptr,[.nil],[.deep]⟩),
 (290,⟨8,8,true,.arr 8 5,.replicate 8 (.lit .u8 0),.replicate 8 (.int .u8)⟩),
 (299,⟨1,4,false,.int .u32,[.lit .u32 0],[.int .u32]⟩),
 (301,⟨1,24,false,.slc 259,[.bU],[.deep]⟩),
 (304,⟨1,8,false,.func,[.val .nilFunc],[.other]⟩),
 (306,⟨1,8,false,.func,[.val .nilFunc],[.other]⟩),
 (315,⟨1,8,false,.int .i64,[.lit .i64 0],[.int .i64]⟩),
 (327,⟨1,24,false,.slc 58,[.bU],[.deep]⟩),
 (335,⟨1,8,false,.func,[.val .nilFunc],[.other]⟩),
 (336,⟨1,8,false,.int .u64,[.lit .u64 0],[.int .u64]⟩),
 (340,⟨1,8,false,.ptr,[.nil],[.deep]⟩),
 (354,⟨1,8,false,.ptr,[.nil],[.deep]⟩)]
def ids:List Nat:=[3,4,5,6,7,35,77,12,11,13,14,15,16,17,18,19,20,21,22,23,24,25,26,28,27,29,30,79,125,83,46,47,48,49,50,52,33,51,54,55,56,57,62,63,44,45,66,67,68,69,70,71,72,73,74,76,75,80,170,171,172,145,100,129,130,81,82,84,85,86,87,88,89,90,91,95,96,97,98,99,118,117,119,78,120,122,121,123,124,173,201,202,203,199,177,128,146,175,176,140,178,179,180,126,127,132,131,134,135,136,137,138,103,112,142,143,107,111,144,166,165,162,164,163,167,168,169,174,205,206,207,209,208,210,133,183,182,184,185,151,152,157,104,156,200,195,196,197,198,204,230,231,232,189,233,234,235,236,181,211,212,213,190,191,192,153,228,229,224,225,254,255,256,257,258,259,260,261,237,238,193,194,275,240,241,276,277,227,283]
def I:List (Nat×List Nat):=[(3,[0,1,2,4,6,7]),(4,[0,1,2,3,4,10,11,12,13,15,16,17,18,19,22,40,46,59,69,86,96,109,131,132,138,148]),(5,[0,1,4,5,6,7,9,10,11,12,13,14,15,18,36,39,72,75,101,104,121]),(6,[0,1,2,3,4,5,12,13,14,15,16,17,18,19,20,21,22,23,24,25,26,29,58,74,92,132,139,167,174,212,219]),(7,[0,1,4,5,6,7,9,10,13,21,33,72,74]),(35,[0,1,4,5,6,7,8,9,11,21,22,23,24,31,41]),(77,[0,2,3,4,5,6,10,18]),(12,[0,2]),(11,[0,1,2,6,7,8,9,19]),(13,[0,1,2,3,8,10]),(14,[0,1,2,3,4,5,6,7,8,9,10,35]),(15,[0,2,3,4,6,8,38,53,54,55,56,70]),(16,[0,1,3,4,5,6,22,42,43,48,52,57,61,63,66,69,81,84,88,93]),(17,[0,2,3,5,7,11,12,13,14]),(18,[0,2,4]),(19,[0,1,4,6,38,48]),(20,[0,1,4,8]),(21,[0,2,3,4,5,6,15]),(22,[0,2]),(23,[0,1,2,6,7,8,21]),(24,[0,1,2,3,4,5,106,153,158,167,172,209]),(25,[0,1,2,3,8,9,11,26,47,73,87]),(26,[0,2]),(28,[0,2,3,4,5,9,18]),(27,[0,1,4,5,6,7,8,9,10,11,14,18,22,50,80,87]),(29,[0,1,4,6,8,11,13,14,15,16,29]),(30,[0,2,4]),(79,[0,2,3,6]),(125,[0,1,4,5,6,7,8,9,10,11,19,65]),(83,[0,1,4,5,6,7,8,9,10,21,29,42]),(46,[0,2,3,4,5,6,7,8,12,15,16,17,24,33]),(47,[0,1,2,3,8,9,11]),(48,[0,1,3,4,5,7,18,36,45,110,119]),(49,[0,2,3]),(50,[0,1,4]),(52,[0,2,4]),(33,[0,2,4]),(51,[0,1,5,6,7,8,9]),(54,[0,1,2,3,4,6,10,13,47]),(55,[0,1,2,48,66]),(56,[0,2,3,4,5,6,7,8,30]),(57,[0,1,3,4,28,37]),(62,[0,1,3,4,25]),(63,[0,1,3,4,5,6,7,8,16,39,59]),(44,[0,1,4]),(45,[0,1,4]),(66,[0,2,3,5,6,7,8,9,10,14,15,16]),(67,[0,2]),(68,[0,1,2,3,4]),(69,[0,1,2]),(70,[0,2,3,7,37]),(71,[0,1,2,6,7,16]),(72,[0,1,4,5,6,17]),(73,[0,1,3,4,5,6,7,10,29]),(74,[0,2,4]),(76,[0,2]),(75,[0,1,4]),(80,[0,2,4]),(170,[0,1,4,5,6,7,8,9,10,11,14,23,24,35,63,88]),(171,[0,2,4]),(172,[0,1,4,5,6,8,9,10,11,12,13,14,15,27,30]),(145,[0,1,2,4,11,12,13,14,22]),(100,[0,1,3,4,5,6,9,41]),(129,[0,1,2,6,7,8,9,10,12,13,14,15,16,19,30,36,37,38,39,65]),(130,[0,1,2,6,7,8,9,10,12,13,14,23,30,31,32,33,42,58,71]),(81,[0,1,2,6,7,12,16]),(82,[0,1,4,5,6,7,17]),(84,[0,2,4]),(85,[0]),(86,[0,2]),(87,[0,2,4]),(88,[0,1,3,4]),(89,[0,1,4,5,7,8,9,10,12,13,14,15,16,21,33,42]),(90,[0,1,3,4,5,27]),(91,[0,1,4]),(95,[0,1,4,6,7,8,9,10,19]),(96,[0,1,2,22]),(97,[0,1,2,3,5,7,9,10,11,12,29,34,35,36,37,42]),(98,[0,1,2,6,8,20,25,34,40,84,85,86,87]),(99,[0,1,2,6,7,43,59]),(118,[0,1,2,3]),(117,[0,1,4,5,7,8,9,16]),(119,[0,1,2,6,7,16]),(78,[0,1,4,6,8,12,13,14,15,21]),(120,[0,2]),(122,[0,2,3,5,6,7,8,9,10,15,17]),(121,[0,1,4,5,6,7]),(123,[0,1,2,6,7,8,9,11,22,32,58]),(124,[0,2,4]),(173,[0,1,4]),(201,[0,1,4,5,6,11]),(202,[0,2,3,5,6,7,8,9]),(203,[0,2,3,5,7,8,9,10,11,14,15,16,17,24,25]),(199,[0,2,4]),(177,[0,2,3,4,5,6,7,8,9,10,11,12,21,31,37,43]),(128,[0,1,2,3,5]),(146,[0,1,4,5,8]),(175,[0,1,2,5,6,7,8,9,10,11,12,13,14,17,42,43,44,50,73,105]),(176,[0,2,3,5,7,9,13,14,15,16,22,23,24,25]),(140,[0,2,12]),(178,[0]),(179,[0,2,3,4,5,14,28]),(180,[0,1,4,5,8,16]),(126,[0,1,4,5,8]),(127,[0,1,2,6,7,8,9,10,11,12,15,20,24,25,34,40]),(132,[0,1,3]),(131,[0,1,4,5,7,9,14,16,30]),(134,[0,1,2,4,5,7,9,10,11,12,13,15,16,17,18,19,28,30,31,32,33,53,81,88]),(135,[0,1,4,6,8,10,12,13,14,15,16,21,23,24,25,26,41]),(136,[0,1,2,6,7,8,9,11,26]),(137,[0,1,4,13]),(138,[0,1,4,5,7,8,9,16]),(103,[0,1,4,15]),(112,[0,1,6]),(142,[0,2,4,6,14]),(143,[0,3]),(107,[0,2]),(111,[0]),(144,[0,1,4,12]),(166,[0,1,4,6,7,8,9,10]),(165,[0,1,4,6,7,8,9,10]),(162,[0,1,4,5,6,7,8,9,10,11,12,13,16,49,53,95,96,112,118,147]),(164,[0,2,4,6,10,11,12,13,21]),(163,[0,1,4,5,6,7,9,13,14,15,16,27]),(167,[0,2,4,19,20,21,22,26]),(168,[0,1,4,5,6,7,8,24,25,26,34,45,61]),(169,[0,2,3,5,10,11,12]),(174,[0,1,2,3,8,9,10,11,48,56]),(205,[0,1,4,5,6,7,8,9,12,13,33,59,82]),(206,[0,1,4]),(207,[0,1,4]),(209,[0,1,2,4]),(208,[0,1,4,5,6,7,12,19,29]),(210,[0,2,3,4,5,6,7,8,9,10,11,12,13,14,18,28,40,55,83]),(133,[0,1,4]),(183,[0,1,2,3]),(182,[0,1,4,5,6,7,12,19,29]),(184,[0,1,4,5,6,7,8,9,20,32]),(185,[0,1,2,4]),(151,[0,2,4]),(152,[0,2,3,5,6,9,10,11,12,13,16,17]),(157,[0,1,3]),(104,[0,1,4,6,14,15,16,17,22,30]),(156,[2]),(200,[0,1,4,5,10,14]),(195,[0,1,2,3,4,5,18,38]),(196,[0,1,4,6,7,8]),(197,[0,2]),(198,[0,1,2,6,7]),(204,[0,1,4,6,7,8]),(230,[0,2,3,5,6,7,8,9]),(231,[0,1,2,6,7,8,12,87]),(232,[0,2,3,4,12,51]),(189,[0,2]),(233,[0,1,2,3,4,10,11,12,13,14,15,16,17,18,19,20,25,32,39,56,75,80,97,125]),(234,[0,1,4,5,7,8,9,16]),(235,[0,2,3,4,5,6,7,14,18,25]),(236,[0,1,4]),(181,[0,1,4,5,7,8,9,16]),(211,[0,1,4,5,7,8,9,16]),(212,[0,1,4,5,6,9,17]),(213,[0,1,4,5,7,8,9,11,15,16,17,18,30]),(190,[0,1,4]),(191,[0,1,4]),(192,[0,1,2,3,4,5,9]),(153,[0,2,4]),(228,[0,1,2,4]),(229,[0,1,2,6,7,8,30]),(224,[0,2,4,8]),(225,[0,2,4,8,14]),(254,[0,1,2,3,8,9,14,34]),(255,[0,1,2,3,8,9,10,11,12,21,33]),(256,[0,1,2,8,9,10,11,12,17,35,45]),(257,[0,1,2,3,8,9,10,11,12,13,14,34,36,55,57,60]),(258,[0,1,2,8,9,15]),(259,[0,1,2,3,8,9,10,11,12,16,36,41,45,65,69,84,104,109,124]),(260,[0,1,2,3,4,10,11,12,47,65,70]),(261,[0,1,2,3,4,10,11,12,13,47,66,71,120,139,144]),(237,[0,1,2,6,7,8,9,10,11,17,31]),(238,[0,1,2,4]),(193,[0,1,2,3,4]),(194,[0,2,3,5,7,11,12,13,14,18]),(275,[0,1,2,3,4,10,11,18,40,58]),(240,[0,2]),(241,[0,2]),(276,[0,1,2,3,8]),(277,[0,1,2,3,4,5,12]),(227,[0,2]),(283,[0,1,2,3,4,10,11,22])]
def ia(l:List Nat):Nat->Nat->List (Nat×Bool)
|0,_=>[]
|n+1,i=>(i,l.any (Nat.beq i))::ia l n (i+1)
def ic:Nat->List Nat->List (Nat×Nat)
|_,[]=>[]
|n,v::r=>(n,v)::ic (n-1) r
def R:List (Nat×List (Nat×RG)):=[(3,[]),
 (4,[]),
 (5,[]),
 (6,[]),
 (7,[]),
 (35,[(13,⟨ia [9] 10 0,ic 9 [511,255,96,0,0,0,7,3,1,0],0,none⟩)]),
 (77,[]),
 (12,[]),
 (11,[]),
 (13,[]),
 (14,[]),
 (15,[(3,⟨[(0,false),(1,false),(2,false),(3,false),(4,false),(6,false),(7,false),(8,false),(9,false),(10,false),(11,false),(12,false),(15,false),(16,false),(17,false),(18,false),(19,false),(20,false),(21,false),(5,true),(13,true),(14,false),(22,true),(23,false),(24,false),(25,true),(26,true)],[(26,67108863),(25,33554430),(24,16777214),(23,8372222),(22,4177918),(14,16382),(13,8190),(5,30),(21,2064384),(20,1015808),(19,491520),(18,229376),(17,98304),(16,32768),(15,0),(12,4032),(11,1984),(10,960),(9,448),(8,192),(7,64),(6,0),(4,14),(3,6),(2,2),(1,0),(0,0)],0,none⟩),
  (12,⟨[(0,false),(1,false),(2,false),(3,false),(4,false),(5,false),(6,false),(8,false),(9,false),(7,true),(10,false),(11,false)],[(11,2047),(10,1023),(7,127),(9,256),(8,0),(6,63),(5,31),(4,15),(3,7),(2,3),(1,1),(0,0)],0,none⟩)]),
 (16,[(1,⟨ia [13] 16 0,ic 15 [32767,16383,8191,4095,2047,1023,511,231,103,39,7,15,7,3,1,0],0,none⟩),
  (20,⟨[(0,false),(1,false),(2,false),(3,false),(4,false),(5,false),(6,false),(8,false),(7,true),(9,true),(10,true)],[(10,1023),(9,510),(7,126),(8,0),(6,32),(5,0),(4,14),(3,6),(2,2),(1,0),(0,0)],0,none⟩)]),
 (17,[]),
 (18,[]),
 (19,[(1,⟨[(0,false),(1,false),(2,false),(3,false),(4,false),(5,false),(6,false),(7,false),(9,false),(10,false),(11,false),(12,false),(8,true),(13,false),(14,false),(15,false),(16,false),(17,false),(18,false),(19,false),(20,false),(21,false),(22,false),(23,false),(24,false),(25,false),(26,false),(27,true),(28,false),(29,true),(30,false),(31,false)],[(31,2147483647),(30,1073741823),(29,536870911),(28,267452415),(27,133234687),(26,66125823),(25,32571391),(24,15794175),(23,7405567),(22,3211263),(21,1114111),(20,65535),(19,524287),(18,262143),(17,131071),(16,65535),(15,32767),(14,16383),(13,8191),(8,255),(12,3591),(11,1543),(10,519),(9,7),(7,7),(6,63),(5,31),(4,15),(3,7),(2,3),(1,1),(0,0)],0,none⟩)]),
 (20,[]),
 (21,[]),
 (22,[]),
 (23,[]),
 (24,[(14,⟨ia [11] 30 0,ic 29 [536870911,268435455,134217727,66322431,32767999,15990783,4456447,262143,1310719,262143,524287,262143,131071,65535,32767,16383,8191,4095,2047,1023,511,255,127,63,31,15,7,3,1,0],0,none⟩)]),
 (25,[(7,⟨ia [6] 12 0,ic 11 [2047,511,255,255,127,63,16,0,7,3,1,0],0,none⟩),
  (9,⟨ia [12] 14 0,ic 13 [8191,4095,1920,0,384,128,0,63,31,15,7,3,1,0],0,none⟩)]),
 (26,[]),
 (28,[]),
 (27,[]),
 (29,[]),
 (30,[]),
 (79,[]),
 (125,[(7,⟨ia [13,14] 20 0,ic 19 [524287,131071,65535,65535,32767,16383,8190,3584,1536,512,0,224,96,32,0,14,6,2,0,0],0,none⟩)]),
 (83,[]),
 (46,[]),
 (47,[]),
 (48,[(1,⟨ia [6] 8 0,ic 7 [127,63,16,0,7,3,1,0],0,none⟩),
  (9,⟨[(0,false),(1,false),(2,false),(3,false),(6,false),(7,false),(8,false),(9,false),(4,true),(5,false),(10,false),(11,false)],[(11,2047),(10,1023),(5,31),(4,15),(9,448),(8,192),(7,64),(6,0),(3,7),(2,3),(1,1),(0,0)],0,none⟩),
  (10,⟨ia [15,17,18,21] 22 0,ic 21 [2097151,1048575,524287,262142,131040,65504,32512,16128,7936,3840,1792,768,256,0,0,0,0,14,6,2,0,0],0,none⟩),
  (11,⟨ia [14,17,18] 19 0,ic 18 [262143,131070,65534,32640,16256,8064,3968,1920,896,384,128,0,32,0,8,0,0,0,0],0,none⟩),
  (15,⟨ia [6,7] 8 0,ic 7 [127,48,16,0,7,3,1,0],0,none⟩),
  (16,⟨ia [6,7] 13 0,ic 12 [4095,1023,511,511,255,127,48,16,0,7,3,1,0],0,none⟩)]),
 (49,[]),
 (50,[]),
 (52,[]),
 (33,[]),
 (51,[(4,⟨ia [7,8,12] 13 0,ic 12 [4095,2047,1023,511,254,64,0,30,14,6,2,0,0],0,none⟩)]),
 (54,[(2,⟨ia [16,17,21] 22 0,ic 21 [2097151,1048575,524287,262143,131070,65472,32704,0,0,0,1024,0,256,0,64,0,30,14,6,2,0,0],0,none⟩)]),
 (55,[]),
 (56,[]),
 (57,[(5,⟨ia [8] 9 0,ic 8 [255,64,0,16,0,7,3,1,0],0,none⟩)]),
 (62,[(2,⟨ia [9] 12 0,ic 11 [2047,1020,508,252,124,60,28,12,4,0,1,0],0,none⟩)]),
 (63,[]),
 (44,[]),
 (45,[(1,⟨[(0,false),(1,false),(2,false),(3,false),(4,false),(5,false),(6,false),(7,false),(8,false),(9,false),(10,false),(11,false),(12,false),(13,false),(14,false),(15,false),(16,false),(17,false),(18,false),(20,false),(21,false),(22,false),(23,false),(19,true),(24,false),(25,false),(26,false)],[(26,67108863),(25,33554431),(24,16777215),(19,524287),(23,7372799),(22,3178495),(21,1081343),(20,32767),(18,262143),(17,131071),(16,65535),(15,32767),(14,16383),(13,8191),(12,4095),(11,1919),(10,895),(9,383),(8,127),(7,127),(6,63),(5,31),(4,15),(3,7),(2,3),(1,1),(0,0)],0,none⟩)]),
 (66,[]),
 (67,[]),
 (68,[]),
 (69,[]),
 (70,[(4,⟨ia [] 28 0,ic 27 [134217727,67108863,33554431,15794175,7405567,2162687,65535,65535,524287,262143,65535,65535,32767,16383,8191,4095,2047,1023,511,255,63,63,31,15,7,3,0,0],0,none⟩)]),
 (71,[(5,⟨ia [6] 8 0,ic 7 [127,63,24,0,0,3,0,0],0,none⟩)]),
 (72,[(5,⟨ia [] 10 0,ic 9 [511,15,112,48,16,0,7,3,1,0],0,none⟩)]),
 (73,[(7,⟨ia [7] 8 0,ic 7 [127,0,16,0,7,3,1,0],0,none⟩)]),
 (74,[]),
 (76,[]),
 (75,[]),
 (80,[]),
 (170,[(13,⟨[(0,false),(1,false),(5,false),(6,false),(2,true),(3,true),(4,false),(7,true),(8,false),(9,false),(10,false),(11,false),(12,false),(13,false),(14,false),(15,false),(16,false),(17,false),(18,false),(19,false),(20,false),(21,false),(22,false)],[(22,4194303),(21,2097151),(20,1048575),(19,524287),(18,262143),(17,131071),(16,65535),(15,32767),(14,15359),(13,7167),(12,3071),(11,1023),(10,1023),(9,511),(8,255),(7,111),(4,15),(3,7),(2,3),(6,32),(5,0),(1,1),(0,0)],0,none⟩)]),
 (171,[]),
 (172,[]),
 (145,[]),
 (100,[(3,⟨ia [1] 24 0,ic 23 [8388607,4194303,2097151,999423,475135,212991,81919,16383,32767,16383,8191,4095,2047,975,463,207,79,15,31,15,7,3,1,0],0,none⟩),
  (5,⟨ia [5,6] 8 0,ic 7 [127,63,16,0,7,3,1,0],0,none⟩)]),
 (129,[(14,⟨ia [15,16,19] 20 0,ic 19 [524287,262143,131071,65534,32736,16352,4096,0,2016,960,448,0,64,0,0,14,6,2,0,0],0,none⟩)]),
 (130,[(12,⟨ia [6] 7 0,ic 6 [63,16,0,7,3,1,0],0,none⟩),
  (14,⟨ia [8] 9 0,ic 8 [255,64,0,16,0,7,3,1,0],0,none⟩)]),
 (81,[]),
 (82,[]),
 (84,[]),
 (85,[]),
 (86,[]),
 (87,[]),
 (88,[]),
 (89,[]),
 (90,[(1,⟨ia [16,17,21,22] 24 0,ic 23 [8388607,3145727,0,524287,524287,262143,131071,65024,32256,15872,7680,3584,1536,512,0,128,0,63,31,15,7,3,1,0],0,some (.two [0,1,2,3,4,5,6,7,8,9,10,11,12,13,14,15] 16 (.two [] 17 (.one [(18,false),(19,false),(20,false),(21,true),(22,true),(23,false)]) 21 (.one [(17,true),(18,false),(19,false),(20,false),(22,true),(23,false)])) 21 (.one [(16,true),(17,true),(18,false),(19,false),(20,false),(22,true),(23,false)]))⟩),
  (4,⟨ia [12,14,15,18] 19 0,ic 18 [262143,131071,65535,32766,16352,8160,4032,1024,0,448,192,64,0,0,14,6,2,0,0],0,none⟩)]),
 (91,[]),
 (95,[]),
 (96,[]),
 (97,[]),
 (98,[(8,⟨ia [11] 12 0,ic 11 [2047,896,0,128,0,63,31,15,7,3,1,0],0,none⟩)]),
 (99,[]),
 (118,[]),
 (117,[]),
 (119,[(5,⟨ia [6] 8 0,ic 7 [127,63,24,0,0,3,0,0],0,none⟩)]),
 (78,[]),
 (120,[]),
 (122,[(10,⟨[(0,false),(1,false),(2,false),(3,false),(4,false),(7,false),(8,false),(9,false),(5,true),(6,true),(10,true),(11,true),(12,false)],[(12,4095),(11,2047),(10,896),(6,63),(5,30),(9,0),(8,128),(7,0),(4,8),(3,0),(2,2),(1,0),(0,0)],0,some (.two [0,1,2,3,4,7,8,9] 5 (.two [] 6 (.one [(10,true),(11,true),(12,false)]) 10 (.one [(6,true),(11,true),(12,false)])) 10 (.one [(5,true),(6,true),(11,true),(12,false)]))⟩)]),
 (121,[(2,⟨ia [8,9] 10 0,ic 9 [511,240,112,48,16,0,7,3,1,0],0,none⟩)]),
 (123,[(3,⟨ia [] 11 0,ic 10 [1023,480,224,96,32,0,15,7,3,1,0],0,none⟩)]),
 (124,[]),
 (173,[]),
 (201,[]),
 (202,[]),
 (203,[]),
 (199,[]),
 (177,[]),
 (128,[]),
 (146,[(5,⟨ia [12] 14 0,ic 13 [8191,4095,0,960,448,192,64,0,30,14,6,2,0,0],0,none⟩)]),
 (175,[(3,⟨[(0,false),(1,false),(2,false),(3,false),(4,false),(5,false),(6,false),(7,false),(8,false),(9,false),(10,false),(11,false),(12,false),(14,false),(15,false),(13,true),(16,false),(17,false),(18,false),(19,false)],[(19,524287),(18,262143),(17,131071),(16,63487),(13,6143),(15,18431),(14,2047),(12,2047),(11,2047),(10,1023),(9,511),(8,255),(7,127),(6,63),(5,31),(4,15),(3,7),(2,3),(1,1),(0,0)],0,none⟩)]),
 (176,[(10,⟨ia [5,7,8] 10 0,ic 9 [511,255,126,62,24,8,0,2,0,0],0,none⟩)]),
 (140,[(3,⟨ia [] 15 0,ic 14 [16383,8191,4095,2047,1023,496,240,112,48,16,0,7,3,1,0],0,none⟩)]),
 (178,[]),
 (179,[]),
 (180,[]),
 (126,[]),
 (127,[]),
 (132,[]),
 (131,[]),
 (134,[(13,⟨[(0,false),(1,false),(2,false),(3,false),(4,false),(7,false),(5,true),(6,true),(8,true),(9,true),(10,false),(11,false),(12,false),(13,false),(14,false)],[(14,16383),(13,4095),(12,2047),(11,2047),(10,1023),(9,511),(8,240),(6,48),(5,16),(7,0),(4,0),(3,7),(2,3),(1,1),(0,0)],0,none⟩),
  (16,⟨ia [10,11,14] 15 0,ic 14 [16383,8191,4095,2046,992,480,0,96,0,0,14,6,2,0,0],0,none⟩),
  (18,⟨ia [6,9] 10 0,ic 9 [511,255,127,62,0,14,6,2,0,0],0,none⟩)]),
 (135,[]),
 (136,[]),
 (137,[(4,⟨ia [10,11] 12 0,ic 11 [2047,768,256,0,112,48,16,0,7,3,1,0],0,none⟩)]),
 (138,[]),
 (103,[]),
 (112,[]),
 (142,[]),
 (143,[]),
 (107,[]),
 (111,[]),
 (144,[]),
 (166,[]),
 (165,[]),
 (162,[(10,⟨ia [] 13 0,ic 12 [4095,2047,1023,496,240,112,48,16,0,7,3,1,0],0,none⟩),
  (13,⟨ia [6] 7 0,ic 6 [63,30,14,6,2,0,0],0,none⟩),
  (15,⟨[(0,false),(1,false),(2,false),(3,false),(4,false),(5,false),(7,false),(6,true),(8,true),(9,false),(10,false),(11,true)],[(11,2047),(10,1023),(9,511),(8,254),(6,62),(7,0),(5,0),(4,14),(3,6),(2,2),(1,0),(0,0)],0,none⟩),
  (19,⟨[(0,false),(1,false),(3,false),(2,true),(4,false),(5,false),(6,false),(8,false),(9,false),(10,false),(11,false),(12,false),(7,true),(13,false),(14,false)],[(14,16383),(13,8191),(7,127),(12,3903),(11,1855),(10,831),(9,319),(8,63),(6,63),(5,31),(4,15),(2,3),(3,0),(1,1),(0,0)],0,none⟩),
  (24,⟨ia [10,12,13,16] 17 0,ic 16 [65535,32767,16383,8190,4064,2016,512,0,224,96,32,0,14,6,2,0,0],0,none⟩),
  (28,⟨ia [9] 12 0,ic 11 [2047,1023,480,224,96,32,0,15,7,3,1,0],0,none⟩)]),
 (164,[]),
 (163,[]),
 (167,[]),
 (168,[(2,⟨[(0,false),(3,false),(4,false),(5,false),(6,false),(7,false),(8,false),(1,true),(2,true),(9,false),(10,false),(11,false)],[(11,2047),(10,1023),(9,511),(2,3),(1,1),(8,248),(7,120),(6,56),(5,24),(4,8),(3,0),(0,0)],0,none⟩)]),
 (169,[(6,⟨ia [20,23] 24 0,ic 23 [8388607,4194303,2097151,1048063,523775,261631,130048,64512,31744,0,7168,3072,1024,0,0,224,96,32,0,0,7,3,1,0],0,none⟩)]),
 (174,[(5,⟨ia [4,5,7] 8 0,ic 7 [127,60,28,12,4,0,1,0],0,none⟩),
  (6,⟨ia [11] 13 0,ic 12 [4095,2047,0,496,0,112,48,16,0,7,3,1,0],0,none⟩)]),
 (205,[(6,⟨ia [13] 19 0,ic 18 [262143,65535,32767,32767,16383,8191,4080,0,1008,256,0,112,48,16,0,7,3,1,0],0,none⟩),
  (9,⟨ia [7,13] 14 0,ic 13 [8191,4095,2047,1022,480,224,96,32,0,14,6,2,0,0],0,none⟩),
  (14,⟨ia [] 19 0,ic 18 [262143,131071,63,32767,14399,6207,2111,63,1023,511,255,127,63,31,15,7,3,1,0],0,none⟩)]),
 (206,[]),
 (207,[(1,⟨ia [] 12 0,ic 11 [2047,1023,511,255,112,48,16,0,7,3,1,0],0,none⟩)]),
 (209,[(1,⟨ia [] 12 0,ic 11 [2047,1023,496,0,112,48,16,0,7,3,1,0],0,none⟩)]),
 (208,[]),
 (210,[]),
 (133,[]),
 (183,[(1,⟨ia [6] 9 0,ic 8 [255,127,60,28,12,4,0,1,0],0,none⟩)]),
 (182,[]),
 (184,[]),
 (185,[]),
 (151,[]),
 (152,[]),
 (157,[(1,⟨[(0,false),(1,false),(2,false),(3,false),(4,false),(6,false),(7,false),(8,false),(9,false),(5,true),(10,false),(11,false)],[(11,2047),(10,1023),(5,31),(9,448),(8,192),(7,64),(6,0),(4,0),(3,7),(2,3),(1,1),(0,0)],0,none⟩)]),
 (104,[]),
 (156,[]),
 (200,[]),
 (195,[(4,⟨ia [15] 16 0,ic 15 [32767,16383,8191,4094,2046,1022,510,254,126,32,0,14,6,2,0,0],0,none⟩),
  (8,⟨ia [6,9] 10 0,ic 9 [511,255,127,62,0,14,6,2,0,0],0,none⟩),
  (9,⟨ia [6,7,10] 11 0,ic 10 [1023,511,255,126,32,0,14,6,2,0,0],0,none⟩)]),
 (196,[]),
 (197,[]),
 (198,[(1,⟨ia [] 11 0,ic 10 [1023,511,224,96,32,0,15,7,3,1,0],0,none⟩),
  (2,⟨ia [19,20] 22 0,ic 21 [2097151,1048575,516096,229376,98304,32768,0,0,0,4080,0,1008,256,0,112,48,16,0,7,3,1,0],0,none⟩)]),
 (204,[]),
 (230,[]),
 (231,[(3,⟨[(0,false),(1,false),(2,false),(3,false),(6,false),(7,false),(4,true),(5,false),(8,true),(9,false),(10,false),(11,false),(12,true),(13,false),(14,false),(15,true)],[(15,32767),(14,16383),(13,8191),(12,3581),(11,1533),(10,509),(9,476),(8,220),(5,28),(4,12),(7,64),(6,0),(3,4),(2,0),(1,0),(0,0)],0,none⟩),
  (6,⟨[(0,false),(1,false),(5,false),(6,false),(2,true),(3,true),(4,false),(7,true),(8,false),(9,false),(10,false),(11,false),(14,false),(15,false),(16,false),(17,false),(12,true),(13,false),(18,false),(19,false),(20,false),(21,false),(22,false),(23,false),(24,false),(25,false),(26,false),(27,false),(28,false),(29,false),(30,false),(31,false),(32,false),(33,false),(34,false),(35,false),(36,false),(37,false),(38,false),(39,false),(40,false),(41,false),(42,false),(43,false),(44,false),(45,false),(46,false),(47,false),(48,false),(49,false),(50,false),(51,false),(52,true),(53,false),(54,false)],[(54,18014398509481983),(53,9007199254740991),(52,2322168557862911),(51,70368744177663),(50,1125899906842623),(49,562949953421311),(48,281474976710655),(47,140737488355327),(46,70368744177663),(45,35184372088831),(44,17592186044415),(43,8796093022207),(42,2336462209023),(41,137438953471),(40,1099511627775),(39,549755813887),(38,274877906943),(37,137438953471),(36,68719476735),(35,34359738367),(34,17179869183),(33,536870911),(32,4294967295),(31,2147483647),(30,1073741823),(29,536870911),(28,268435455),(27,134217727),(26,67108863),(25,31457279),(24,14680063),(23,6291455),(22,2097151),(21,2097151),(20,1048575),(19,524287),(18,262143),(13,8191),(12,4095),(17,115711),(16,50175),(15,17407),(14,1023),(11,2047),(10,1023),(9,511),(8,255),(7,111),(4,15),(3,7),(2,3),(6,32),(5,0),(1,1),(0,0)],0,none⟩),
  (9,⟨ia [10,13] 14 0,ic 13 [8191,4095,2047,1022,480,192,64,0,0,14,6,2,0,0],0,none⟩)]),
 (232,[(5,⟨ia [17,19,20,23] 24 0,ic 23 [8388607,4194303,2097151,1048574,524256,262112,131008,65472,28672,0,4096,0,1024,0,448,192,64,0,0,14,6,2,0,0],0,none⟩)]),
 (189,[]),
 (233,[(17,⟨ia [13] 17 0,ic 16 [65535,32767,16383,8191,3591,1543,7,7,247,119,39,7,7,7,3,1,0],0,none⟩)]),
 (234,[]),
 (235,[]),
 (236,[]),
 (181,[]),
 (211,[]),
 (212,[]),
 (213,[]),
 (190,[]),
 (191,[]),
 (192,[]),
 (153,[]),
 (228,[(1,⟨ia [] 15 0,ic 14 [16383,8191,4080,1792,768,256,0,112,48,16,0,7,3,1,0],0,none⟩)]),
 (229,[(2,⟨ia [7] 8 0,ic 7 [127,60,28,12,4,0,1,0],0,none⟩),
  (7,⟨ia [7] 8 0,ic 7 [127,60,28,12,4,0,1,0],0,none⟩),
  (9,⟨[(0,false),(1,false),(2,false),(3,false),(4,false),(5,false),(6,false),(8,false),(9,false),(10,false),(11,false),(12,false),(7,true),(13,false),(14,false),(15,true),(16,false),(17,false),(18,true)],[(18,262143),(17,131071),(16,65534),(15,32766),(14,16380),(13,8128),(7,64),(12,3840),(11,1792),(10,768),(9,256),(8,0),(6,0),(5,28),(4,12),(3,4),(2,0),(1,0),(0,0)],0,none⟩),
  (10,⟨ia [4,5,7] 8 0,ic 7 [127,60,28,12,4,0,1,0],0,none⟩)]),
 (224,[]),
 (225,[]),
 (254,[(4,⟨ia [14] 17 0,ic 16 [65535,32767,16383,7695,3599,1039,15,15,239,111,15,15,15,7,3,0,0],0,none⟩),
  (6,⟨ia [15,17] 18 0,ic 17 [131071,65535,32739,16355,7168,3072,0,0,480,224,64,0,0,8,0,0,0,0],0,none⟩)]),
 (255,[(10,⟨ia [17,19] 20 0,ic 19 [524287,262143,131011,65475,28672,12288,0,0,1984,960,384,0,0,0,24,0,0,0,0,0],0,none⟩)]),
 (256,[(10,⟨ia [17,19] 20 0,ic 19 [524287,262143,131011,65475,28672,12288,0,0,1984,960,384,0,0,0,24,0,0,0,0,0],0,none⟩)]),
 (257,[]),
 (258,[(3,⟨ia [13,15] 16 0,ic 15 [32767,16383,8179,4083,1792,768,0,0,112,48,0,0,0,0,0,0],0,none⟩)]),
 (259,[(5,⟨ia [14] 18 0,ic 17 [131071,65535,32767,16383,7695,3599,1039,15,15,239,111,15,15,15,7,3,0,0],0,none⟩),
  (11,⟨ia [15,17] 18 0,ic 17 [131071,65535,32739,16355,7168,3072,0,0,480,224,64,0,0,8,0,0,0,0],0,none⟩),
  (16,⟨ia [10] 13 0,ic 12 [4095,2047,1023,480,224,64,0,0,14,6,0,0,0],0,none⟩),
  (17,⟨ia [15,17] 18 0,ic 17 [131071,65535,32739,16355,7168,3072,0,0,480,224,64,0,0,8,0,0,0,0],0,none⟩),
  (22,⟨ia [10] 13 0,ic 12 [4095,2047,1023,480,224,64,0,0,14,6,0,0,0],0,none⟩),
  (23,⟨ia [15,17] 18 0,ic 17 [131071,65535,32739,16355,7168,3072,0,0,480,224,64,0,0,8,0,0,0,0],0,none⟩)]),
 (260,[(1,⟨ia [13,15] 16 0,ic 15 [32767,16383,8179,4083,1792,768,0,0,112,48,0,0,0,0,0,0],0,none⟩),
  (3,⟨ia [13] 17 0,ic 16 [65535,32767,16383,8191,3599,1551,15,15,239,111,15,15,15,7,3,0,0],0,none⟩),
  (5,⟨ia [13] 16 0,ic 15 [32767,16383,8191,3599,1551,15,15,239,111,15,15,15,7,3,0,0],0,none⟩),
  (8,⟨ia [13,15] 16 0,ic 15 [32767,16383,8179,4083,1792,768,0,0,112,48,0,0,0,0,0,0],0,none⟩)]),
 (261,[(1,⟨ia [13,15] 16 0,ic 15 [32767,16383,8179,4083,1792,768,0,0,112,48,0,0,0,0,0,0],0,none⟩),
  (3,⟨ia [13] 16 0,ic 15 [32767,16383,8191,3599,1551,15,15,239,111,15,15,15,7,3,0,0],0,none⟩),
  (5,⟨ia [13] 17 0,ic 16 [65535,32767,16383,8191,3599,1551,15,15,239,111,15,15,15,7,3,0,0],0,none⟩),
  (8,⟨ia [13,15] 16 0,ic 15 [32767,16383,8179,4083,1792,768,0,0,112,48,0,0,0,0,0,0],0,none⟩),
  (10,⟨ia [13,15] 16 0,ic 15 [32767,16383,8179,4083,1792,768,0,0,112,48,0,0,0,0,0,0],0,none⟩),
  (13,⟨ia [13] 16 0,ic 15 [32767,16383,8191,3599,1551,15,15,239,111,15,15,15,7,3,0,0],0,none⟩),
  (15,⟨ia [13] 17 0,ic 16 [65535,32767,16383,8191,3599,1551,15,15,239,111,15,15,15,7,3,0,0],0,none⟩),
  (18,⟨ia [13,15] 16 0,ic 15 [32767,16383,8179,4083,1792,768,0,0,112,48,0,0,0,0,0,0],0,none⟩),
  (21,⟨ia [13,15] 16 0,ic 15 [32767,16383,8179,4083,1792,768,0,0,112,48,0,0,0,0,0,0],0,none⟩)]),
 (237,[]),
 (238,[]),
 (193,[]),
 (194,[]),
 (275,[(3,⟨ia [19] 22 0,ic 21 [2097151,1048575,524287,258079,127007,57375,24607,31,31,31,2015,991,415,31,31,31,31,15,7,0,1,0],0,none⟩),
  (5,⟨ia [13] 16 0,ic 15 [32767,16383,8191,3968,1920,768,0,0,0,62,30,12,0,0,0,0],0,none⟩),
  (6,⟨ia [21,23] 24 0,ic 23 [8388607,4194303,2096911,1048335,507904,245760,98304,0,0,0,7936,3840,1536,0,0,0,96,0,0,0,6,0,0,0],0,none⟩)]),
 (240,[]),
 (241,[(1,⟨ia [9] 10 0,ic 9 [511,255,127,56,24,8,0,3,1,0],0,none⟩),
  (2,⟨ia [9] 10 0,ic 9 [511,255,127,56,24,8,0,3,1,0],0,none⟩),
  (3,⟨ia [9] 10 0,ic 9 [511,255,127,56,24,8,0,3,1,0],0,none⟩)]),
 (276,[]),
 (277,[]),
 (227,[]),
 (283,[(1,⟨ia [9] 11 0,ic 10 [1023,511,224,96,0,0,14,6,0,0,0],0,none⟩)])]
end Tab
def Y(P:Program):Gx:=⟨⟨⟨P,Tab.T,false,false⟩,Az P Tab.ids,Tab.I⟩,Tab.R⟩
theorem Z0:Tab.T.map (fun p=>BB true Tryz.prog p.1)=Tab.T.map fun p=>some p.2:=by kernel_rfl
theorem okB:(Az Tryz.prog Tab.ids).all (Xw Tab.R)=true:=by kernel_rfl
theorem mixed:Tryz.prog.follows .mixedOrders=true:=by kernel_rfl
theorem fK:(Y Tryz.prog).Ok:=Gc (dp:=true) Z0 mixed (ur _ _) okB
def Yf(P:Program):Gx:=⟨⟨⟨P,Tab.T,true,false⟩,Az P Tab.ids,Tab.I⟩,Tab.R⟩
theorem YS:(Yf Tryz.prog).Ok:=Gc (dp:=true) Z0 mixed (ur _ _) okB
end Go.Proofs.YtfjgoonelcaggaaGreat
namespace Go.Sx
section
end
end Go.Sx
