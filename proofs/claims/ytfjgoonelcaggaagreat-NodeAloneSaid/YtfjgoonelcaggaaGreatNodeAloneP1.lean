/-
  
-/
import Derived.WalkKit
import Derived.Laws.BytesString
import Derived.MapKept
import Derived.Laws.IdiomRangeMap
set_option maxRecDepth 100000
set_option maxHeartbeats 4000000
set_option linter.unusedVariables false
set_option linter.unusedSimpArgs false
theorem cW:type_of% @Nat.le_refl:=@Nat.le_refl
theorem jB:type_of% @Bool.and_eq_true:=@Bool.and_eq_true
theorem kj:type_of% @List.mem_map:=@List.mem_map
theorem qi:type_of% @of_decide_eq_true:=@of_decide_eq_true
theorem iU:type_of% @cond_true:=@cond_true
theorem mA:type_of% @Nat.zero_add:=@Nat.zero_add
theorem ug:type_of% @of_decide_eq_false:=@of_decide_eq_false
theorem tB:type_of% @decide_eq_true_eq:=@decide_eq_true_eq
theorem xz:type_of% @Nat.mul_le_mul_right:=@Nat.mul_le_mul_right
theorem wM:type_of% @List.length_append:=@List.length_append
theorem Cj:type_of% @List.getElem?_eq_some_iff:=@List.getElem?_eq_some_iff
theorem uh:type_of% @Nat.not_lt_zero:=@Nat.not_lt_zero
theorem uf:type_of% @List.mem_cons:=@List.mem_cons
theorem CP:type_of% @List.mem_cons_of_mem:=@List.mem_cons_of_mem
theorem CQ:type_of% @List.mem_append_left:=@List.mem_append_left
theorem Ay:type_of% @Int.toNat_natCast:=@Int.toNat_natCast
theorem yG:type_of% @List.mem_append:=@List.mem_append
theorem z6:type_of% @List.append_nil:=@List.append_nil
theorem EY:type_of% @Nat.le_of_ble_eq_true:=@Nat.le_of_ble_eq_true
theorem IC:type_of% @List.getElem?_eq_getElem:=@List.getElem?_eq_getElem
theorem LP:type_of% @List.getD_eq_getElem?_getD:=@List.getD_eq_getElem?_getD
theorem G3:type_of% @List.getD_cons_zero:=@List.getD_cons_zero
theorem ID:type_of% @List.length_singleton:=@List.length_singleton
theorem vv:type_of% @cond_false:=@cond_false
theorem LQ:type_of% @List.mem_append_right:=@List.mem_append_right
theorem tJ:type_of% @congrArg:=@congrArg
theorem Az:type_of% @Nat.zero_le:=@Nat.zero_le
theorem LR:type_of% @Nat.lt_of_lt_of_le:=@Nat.lt_of_lt_of_le
theorem IE:type_of% @Bool.or_eq_true:=@Bool.or_eq_true
theorem T1:type_of% @List.length_filter_le:=@List.length_filter_le
theorem YM:type_of% @List.getElem?_append_left:=@List.getElem?_append_left
theorem EZ:type_of% @Nat.add_zero:=@Nat.add_zero
theorem RF:type_of% @Bool.false_eq_true:=@Bool.false_eq_true
theorem Ml:type_of% @decide_eq_false:=@decide_eq_false
theorem zAI:type_of% @Array.getElem?_eq_getElem:=@Array.getElem?_eq_getElem
theorem RM:type_of% @Bool.not_eq_true':=@Bool.not_eq_true'
theorem RN:type_of% @List.pairwise_map:=@List.pairwise_map
theorem LS:type_of% @List.map_cons:=@List.map_cons
theorem T2:type_of% @Option.some.injEq:=@Option.some.injEq
theorem RO:type_of% @List.all_eq_true:=@List.all_eq_true
theorem LL:type_of% @Nat.sub_zero:=@Nat.sub_zero
theorem zAP:type_of% @List.eq_nil_of_length_eq_zero:=@List.eq_nil_of_length_eq_zero
theorem zAQ:type_of% @List.getElem?_append_right:=@List.getElem?_append_right
theorem T3:type_of% @List.map_append:=@List.map_append
theorem RP:type_of% @Bool.and_false:=@Bool.and_false
theorem YN:type_of% @List.append_of_mem:=@List.append_of_mem
theorem zAU:type_of% @List.getElem?_toArray:=@List.getElem?_toArray
theorem T7:type_of% @List.length_map:=@List.length_map
theorem YO:type_of% @List.nodup_append:=@List.nodup_append
theorem zAX:type_of% @Array.getD_eq_getD_getElem?:=@Array.getD_eq_getD_getElem?
theorem zAY:type_of% @List.append_assoc:=@List.append_assoc
theorem zAZ:type_of% @List.mem_singleton:=@List.mem_singleton
theorem T8:type_of% @Nat.add_assoc:=@Nat.add_assoc
theorem T4:type_of% @List.map_map:=@List.map_map
theorem zBc:type_of% @List.mem_filter:=@List.mem_filter
theorem zBd:type_of% @List.take_length:=@List.take_length
theorem zBe:type_of% @List.mem_map_of_mem:=@List.mem_map_of_mem
theorem zBf:type_of% @List.Pairwise.imp_of_mem:=@List.Pairwise.imp_of_mem
theorem zBg:type_of% @decide_eq_true:=@decide_eq_true
theorem T9:type_of% @Nat.mul_one:=@Nat.mul_one
theorem zBi:type_of% @Nat.lt_succ_self:=@Nat.lt_succ_self
theorem zBj:type_of% @List.length_take:=@List.length_take
theorem YP:type_of% @Nat.le_trans:=@Nat.le_trans
theorem zBl:type_of% @Array.getElem?_toList:=@Array.getElem?_toList
theorem zBm:type_of% @Bool.not_eq_false':=@Bool.not_eq_false'
theorem zBn:type_of% @Nat.lt_or_ge:=@Nat.lt_or_ge
theorem zBo:type_of% @List.nodup_nil:=@List.nodup_nil
theorem zBp:type_of% @List.pairwise_append:=@List.pairwise_append
theorem zBq:type_of% @List.getD_cons_succ:=@List.getD_cons_succ
theorem zBr:type_of% @Nat.sub_self:=@Nat.sub_self
theorem zBs:type_of% @Nat.add_mul:=@Nat.add_mul
theorem zBt:type_of% @Nat.zero_mul:=@Nat.zero_mul
theorem zBu:type_of% @List.getElem?_take:=@List.getElem?_take
theorem zBv:type_of% @Array.getElem?_modify:=@Array.getElem?_modify
theorem zBw:type_of% @Int.le_refl:=@Int.le_refl
theorem zBx:type_of% @Nat.div_lt_of_lt_mul:=@Nat.div_lt_of_lt_mul
theorem zBy:type_of% @List.flatMap_cons:=@List.flatMap_cons
theorem zBz:type_of% @Bool.eq_false_iff:=@Bool.eq_false_iff
theorem zBA:type_of% @List.getElem?_map:=@List.getElem?_map
theorem zBB:type_of% @Nat.add_sub_cancel_left:=@Nat.add_sub_cancel_left
theorem zBC:type_of% @List.filter_sublist:=@List.filter_sublist
theorem zBD:type_of% @List.mem_flatMap:=@List.mem_flatMap
theorem zBE:type_of% @List.getElem?_drop:=@List.getElem?_drop
theorem zBF:type_of% @Array.getElem?_eq_some_iff:=@Array.getElem?_eq_some_iff
theorem zBG:type_of% @List.getLast?_eq_getElem?:=@List.getLast?_eq_getElem?
theorem zBH:type_of% @List.flatMap_nil:=@List.flatMap_nil
theorem zBI:type_of% @List.map_nil:=@List.map_nil
theorem zBJ:type_of% @Array.toList_inj:=@Array.toList_inj
theorem zBK:type_of% @Option.isSome_iff_exists:=@Option.isSome_iff_exists
theorem zBL:type_of% @List.flatMap_append:=@List.flatMap_append
theorem zBM:type_of% @Nat.mul_le_mul_left:=@Nat.mul_le_mul_left
theorem zBN:type_of% @Array.length_toList:=@Array.length_toList
theorem zBO:type_of% @List.sublist_cons_self:=@List.sublist_cons_self
theorem zBP:type_of% @List.perm_middle:=@List.perm_middle
theorem zBQ:type_of% @List.getElem_map:=@List.getElem_map
theorem zBR:type_of% @List.ext_getElem:=@List.ext_getElem
theorem zBS:type_of% @List.find?_cons:=@List.find?_cons
theorem zBT:type_of% @List.nodup_cons:=@List.nodup_cons
theorem zBU:type_of% @Option.map_some:=@Option.map_some
theorem zBV:type_of% @Nat.le_of_eq:=@Nat.le_of_eq
namespace Go.Sx
def bZ:IntKind->Int->Prop
 |.i8,n=>-128<=n/\n<=127
 |.i16,n=>-32768<=n/\n<=32767
 |.i32,n=>-2147483648<=n/\n<=2147483647
 |.i64,n=>-9223372036854775808<=n/\n<=9223372036854775807
 |.u8,n=>0<=n/\n<=255
 |.u16,n=>0<=n/\n<=65535
 |.u32,n=>0<=n/\n<=4294967295
 |.u64,n=>0<=n/\n<=18446744073709551615
theorem Xe(k:IntKind)(n:Int):bZ k n↔k.min<=n/\n<=k.max:=by
 cases k<;>simp[bZ,IntKind.min,IntKind.max,IntKind.signed,IntKind.bits]
theorem gH{k:IntKind}{n:Int}(h:bZ k n):k.wrap n=n:=by
 cases k<;>simp[bZ]at h<;>simp[IntKind.wrap,IntKind.signed,IntKind.bits]<;>omega
theorem lJ(k:IntKind)(n:Int):bZ k (k.wrap n):=by
 cases k<;>simp[bZ,IntKind.wrap,IntKind.signed,IntKind.bits]<;>omega
def aB:Nat:=9223372036854775807
structure Place where
 blk:Nat
 off:Nat
 N:Nat
 fp:Nat->Prop
structure Env where
 n:Nat
 pl:Nat->Place
structure Env.le(a b:Env):Prop where
 n:a.n<=b.n
 pl:∀t,t<a.n->b.pl t=a.pl t
theorem Env.le.refl(a:Env):a.le a:=⟨cW _,fun _ _=>rfl⟩
theorem Env.le.trans{a b c:Env}(h:a.le b)(k:b.le c):a.le c :=
 ⟨YP h.n k.n,fun t ht=>(k.pl t (LR ht h.n)).trans (h.pl t ht)⟩
inductive A where
 |any
 |lit (k:IntKind) (n:Int)
 |int (k:IntKind) (n:Int)
 |tt
 |ff
 |bool (b:Bool)
 |str (s:ByteArray)
 |nil
 |ptr (t:Nat) (row esz c:Nat)
 |dJ
 |slc (t:Nat) (row esz len cap:Nat)
 |sub (t:Nat) (row esz c len cap:Nat)
 |fn (f:Nat)
 |val (v:Value)
inductive CV where
 |a (x:A)
 |agg (xs:List A)
inductive SV where
 |a (x:A)
 |agg (xs:List A)
 |nR (xs:List CV)
 |E0 (f:Nat) (xs:List A)
def A.cT(ρ:Env):A->Value->Prop
 |.any,_=>True
 |.lit k n,v=>v = .int k n/\bZ k n
 |.int k n,v=>v = .int k n/\bZ k n
 |.tt,v=>v = .bool true
 |.ff,v=>v = .bool false
 |.bool b,v=>v = .bool b
 |.str s,v=>v = .string s/\s.size<=aB
 |.nil,v=>v = .pointer none
 |.ptr t row esz c,v=>t<ρ.n/\v = .pointer (some ⟨(ρ.pl t).blk,(ρ.pl t).off+row*esz+c,none⟩)
 |.dJ,v=>v = .slice none 0 0
 |.slc t row esz len cap,v=>t<ρ.n/\len<=cap/\cap<=aB /\
  ((len=0/\cap=0/\v = .slice none 0 0) \/
   ∃a:Addr,v = .slice (some a) len cap/\(cap≠0->a=⟨(ρ.pl t).blk,(ρ.pl t).off+row*esz,none⟩/\row+cap<=(ρ.pl t).N))
 |.sub t row esz c len cap,v=>t<ρ.n/\len<=cap/\cap<=aB/\v = .slice (some ⟨(ρ.pl t).blk,(ρ.pl t).off+row*esz+c,none⟩) len cap
 |.fn f,v=>v = .func (.func f) #[] #[]
 |.val x,v=>v=x/\x.oneCell'=true
variable{v:Value}{ρ ρ':Env}
theorem A.cT.mono(h:ρ.le ρ'){x:A}(r:x.cT ρ v):x.cT ρ' v:=by
 cases x<;>simp only[A.cT]at r ⊢<;>try exact r
 case ptr t row esz c =>
  obtain⟨ht,rfl⟩:=r;exact⟨LR ht h.n,by rw[h.pl t ht]⟩
 case slc t row esz len cap =>
  obtain⟨ht,h1,h2,h3⟩:=r;refine⟨LR ht h.n,h1,h2,?_⟩;rw[h.pl t ht];exact h3
 case sub t row esz c len cap =>
  obtain⟨ht,h1,h2,rfl⟩:=r;exact⟨LR ht h.n,h1,h2,by rw[h.pl t ht]⟩
def dw(ρ:Env):List A->List Value->Prop
 |[],vs=>vs=[]
 |x::xs,vs=>∃v r,vs=v::r/\x.cT ρ v/\dw ρ xs r
theorem dw.mono{ρ ρ':Env}(h:ρ.le ρ'):∀ {xs:List A} {vs:List Value},dw ρ xs vs->dw ρ' xs vs
 |[],_,r=>r
 |_::_,_,⟨v,t,e,r1,r2⟩=>⟨v,t,e,r1.mono h,dw.mono h r2⟩
theorem dw.length{ρ:Env}:∀ {xs:List A} {vs:List Value},dw ρ xs vs->vs.length=xs.length
 |[],_,r=>by simp[dw]at r;simp[r]
 |_::_,_,⟨_,_,e,_,r2⟩=>by subst e;simp[dw.length r2]
theorem dw.get{ρ:Env}:∀ {xs:List A} {vs:List Value},dw ρ xs vs->∀ {i:Nat} {x:A},xs[i]? = some x->∃v,vs[i]? = some v/\x.cT ρ v
 |[],_,_,i,x,h=>by simp at h
 |y::ys,_,⟨v,t,e,r1,r2⟩,i,x,h=>by
  subst e;cases i with
  |zero=>grind
  |succ i=>simp at h;obtain⟨u,hu,hr⟩:=dw.get r2 h;grind
theorem dw.set{ρ:Env}:∀ {xs:List A} {vs:List Value},dw ρ xs vs->∀(i:Nat) {x:A} {v:Value},x.cT ρ v->dw ρ (xs.set i x) (vs.set i v)
 |[],_,r,i,x,v,_=>by simp[dw]at r;subst r;simp[dw]
 |y::ys,_,⟨u,t,e,r1,r2⟩,i,x,v,hx=>by
  subst e;cases i with
  |zero=>exact⟨v,t,by simp,hx,r2⟩
  |succ i=>exact⟨u,t.set i v,by simp,r1,dw.set r2 i hx⟩
theorem dw.append{ρ:Env}:∀ {xs ys:List A} {vs us:List Value},dw ρ xs vs->dw ρ ys us->dw ρ (xs++ys) (vs++us)
 |[],_,_,_,r,s=>by simp[dw]at r;grind
 |_::_,_,_,_,⟨u,t,e,r1,r2⟩,s=>by subst e;exact⟨u,t++_,by simp,r1,dw.append r2 s⟩
theorem dw.drop{ρ:Env}:∀(n:Nat) {xs:List A} {vs:List Value},dw ρ xs vs->dw ρ (xs.drop n) (vs.drop n)
 |0,_,_,r=>by simpa using r
 |n+1,[],_,r=>by simp[dw]at r;subst r;simp[dw]
 |n+1,_::_,_,⟨_,_,e,_,r2⟩=>by subst e;simpa using dw.drop n r2
theorem dw.take{ρ:Env}:∀(n:Nat) {xs:List A} {vs:List Value},dw ρ xs vs->dw ρ (xs.take n) (vs.take n)
 |0,_,_,_=>by simp[dw]
 |n+1,[],_,r=>by simp[dw]at r;subst r;simp[dw]
 |n+1,_::_,_,⟨u,t,e,r1,r2⟩=>by subst e;exact⟨u,t.take n,by simp,r1,dw.take n r2⟩
def CV.cT(ρ:Env):CV->Value->Prop
 |.a x,v=>x.cT ρ v
 |.agg xs,v=>∃vs:List Value,v = .agg vs.toArray/\dw ρ xs vs
theorem CV.cT.mono{ρ ρ':Env}(h:ρ.le ρ'):∀ {x:CV} {v:Value},x.cT ρ v->x.cT ρ' v
 |.a _,_,r=>A.cT.mono h r
 |.agg _,_,⟨vs,e,r⟩=>⟨vs,e,r.mono h⟩
def vw(ρ:Env):List CV->List Value->Prop
 |[],vs=>vs=[]
 |x::xs,vs=>∃v r,vs=v::r/\x.cT ρ v/\vw ρ xs r
theorem vw.mono{ρ ρ':Env}(h:ρ.le ρ'):∀ {xs:List CV} {vs:List Value},vw ρ xs vs->vw ρ' xs vs
 |[],_,r=>r
 |_::_,_,⟨v,t,e,r1,r2⟩=>⟨v,t,e,r1.mono h,vw.mono h r2⟩
theorem vw.get{ρ:Env}:∀ {xs:List CV} {vs:List Value},vw ρ xs vs->∀ {i:Nat} {x:CV},xs[i]? = some x->∃v,vs[i]? = some v/\x.cT ρ v
 |[],_,_,i,x,h=>by simp at h
 |y::ys,_,⟨v,t,e,r1,r2⟩,i,x,h=>by
  subst e;cases i with
  |zero=>grind
  |succ i=>simp at h;obtain⟨u,hu,hr⟩:=vw.get r2 h;grind
def CV.sv:CV->SV
 |.a x=>.a x
 |.agg xs=>.agg xs
def SV.cT(ρ:Env):SV->Value->Prop
 |.a x,v=>x.cT ρ v
 |.agg xs,v=>∃vs:List Value,v = .agg vs.toArray/\dw ρ xs vs
 |.nR xs,v=>∃vs:List Value,v = .tuple vs.toArray/\vw ρ xs vs
 |.E0 f xs,v=>∃vs:List Value,v = .func (.func f) #[] vs.toArray/\dw ρ xs vs
theorem SV.cT.mono{ρ ρ':Env}(h:ρ.le ρ'):∀ {x:SV} {v:Value},x.cT ρ v->x.cT ρ' v
 |.a _,_,r=>A.cT.mono h r
 |.agg _,_,⟨vs,e,r⟩=>⟨vs,e,r.mono h⟩
 |.nR _,_,⟨vs,e,r⟩=>⟨vs,e,r.mono h⟩
 |.E0 _ _,_,⟨vs,e,r⟩=>⟨vs,e,r.mono h⟩
theorem CV.cT.sv{ρ:Env}:∀ {x:CV} {v:Value},x.cT ρ v->x.sv.cT ρ v
 |.a _,_,r=>r
 |.agg _,_,r=>r
inductive CK where
 |int (k:IntKind)
 |bool
 |str
 |other
 |deep
 deriving DecidableEq
def CK.ok:CK->Value->Prop
 |.int k,v=>∃n,v = .int k n/\bZ k n
 |.bool,v=>∃b,v = .bool b
 |.str,v=>∃s,v = .string s/\s.size<=aB
 |.other,v=>v.oneCell'=true
 |.deep,v=>v.oneCell'=true
theorem CK.ok.one{k:CK}(h:k.ok v):v.oneCell'=true:=by
 cases k<;>simp only[CK.ok]at h<;>first|exact h|(obtain⟨_,rfl⟩:=h;rfl)|(obtain⟨_,rfl,_⟩:=h;rfl)
inductive Chunk where
 |obj (ty:TypeId) (cs:List A)
 |arr (ty:TypeId) (ks:List CK) (n:Nat) (rows:Nat->Nat->Value)
 |abs (R:Place->World->Prop)
 |Cd (ts tt tc:List Nat) (cs:List A) (R:List Place->World->Prop)
 |dg (H:Nat->Option (Nat×List Value))
structure x7 where
 tag:Nat
 wr:Bool
 ch:Chunk
abbrev aX:=List x7
def vz(lo hi:Nat)(fr:Nat×Nat):Prop:=∀o,lo<=o->o<hi->¬(fr.1<=o/\o<fr.2)
def AB(n:Nat)(fr:Nat×Nat):Prop:=∀o,o<n->¬(fr.1<=o/\o<fr.2)
def kP(ρ:Env)(p:Place)(w:World):List Nat->List Nat->List A->Prop
 |[],[],[]=>True
 |T::tt,c::tc,x::cs=>(T<ρ.n/\p.fp (ρ.pl T).blk/\(ρ.pl T).fp (ρ.pl T).blk/\∃vs ty fr v,w.heap[(ρ.pl T).blk]? = some (.cells vs ty fr)/\vs[(ρ.pl T).off+c]? = some v/\x.cT ρ v)/\kP ρ p w tt tc cs
 |_,_,_=>False
def Chunk.Sat(ρ:Env)(p:Place)(w:World):Chunk->Prop
 |.obj ty cs=>∃vs fr,w.heap[p.blk]? = some (.cells vs ty fr)/\p.off=0/\(∃us xs,vs.toList=us++xs/\dw ρ cs us)/\AB vs.size fr/\(∀b,p.fp b↔b=p.blk)
 |.arr _ ks n rows=>(n=0/\p.N=0/\∀b,¬p.fp b) \/
  ∃vs ty' fr,w.heap[p.blk]? = some (.cells vs ty' fr)/\p.off+p.N*ks.length<=vs.size/\n<=p.N/\vz p.off (p.off+p.N*ks.length) fr/\(∀b,p.fp b↔b=p.blk) /\
   ∀i,i<n->∀j k,ks[j]? = some k->vs[p.off+i*ks.length+j]? = some (rows i j)/\k.ok (rows i j)
 |.abs R=>∀w':World,(∀b,p.fp b->w'.heap[b]? = w.heap[b]?)->R p w'
 |.Cd ts tt tc cs R=>(∀t∈ts,t<ρ.n)/\kP ρ p w tt tc cs/\∀w':World,(∀b,p.fp b->w'.heap[b]? = w.heap[b]?)->R (p::ts.map ρ.pl) w'
 |.dg H=>∀b lo cs,H b=some (lo,cs)->p.fp b/\∃vs ty fr,w.heap[b]? = some (.cells vs ty fr)/\lo+cs.length<=vs.size/\(∀i,i<cs.length->vs[lo+i]? = cs[i]?)/\vz lo (lo+cs.length) fr
structure iy(M:Nat->Prop)(w w':World):Prop where
 os:w'.os=w.os
 tape:w'.tape=w.tape
 output:w'.output=w.output
 size:w.heap.size<=w'.heap.size
 block:∀b,b<w.heap.size->¬M b->w'.heap[b]? = w.heap[b]?
 frz:∀a:Addr,a.block<w.heap.size->w'.frozen? a=w.frozen? a
theorem iy.refl(M:Nat->Prop)(w:World):iy M w w:=⟨rfl,rfl,rfl,cW _,fun _ _ _=>rfl,fun _ _=>rfl⟩
theorem iy.mono{M M':Nat->Prop}{a b:World}(h:iy M a b)(hm:∀x,x<a.heap.size->M x->M' x):iy M' a b :=
 ⟨h.os,h.tape,h.output,h.size,fun x hx hn=>h.block x hx fun hx'=>hn (hm x hx hx'),h.frz⟩
structure x7.Sat(w0:World)(M:Nat->Prop)(ρ:Env)(w:World)(e:x7):Prop where
 tag:e.tag<ρ.n
 ch:e.ch.Sat ρ (ρ.pl e.tag) w
 lt:∀b,(ρ.pl e.tag).fp b->b<w.heap.size
 own:e.wr=true->∀b,(ρ.pl e.tag).fp b->b<w0.heap.size->M b
def pE(ρ:Env)(x y:x7):Prop:=x.tag≠y.tag/\((x.wr||y.wr)=true->∀b,(ρ.pl x.tag).fp b->¬(ρ.pl y.tag).fp b)
structure ak(w0:World)(M:Nat->Prop)(ρ:Env)(hp:aX)(w:World):Prop where
 keeps:iy M w0 w
 jk:∀e∈hp,e.Sat w0 M ρ w
 apart:hp.Pairwise (pE ρ)
def look:List (Nat×SV)->Nat->SV
 |[],_=>.a .any
 |(j,v)::r,i=>bif Nat.beq j i then v else look r i
def rem:List Nat->Nat->List Nat
 |[],_=>[]
 |x::r,j=>bif Nat.beq x j then rem r j else x::rem r j
def fU:List Nat->Nat->Bool
 |[],_=>false
 |x::r,j=>bif Nat.beq x j then true else fU r j
def only:List (Nat×SV)->List Nat->List (Nat×SV)
 |[],_=>[]
 |(j,v)::r,ks=>bif fU ks j then(j,v)::only r (rem ks j)else only r ks
structure S where
 nt:Nat
 fr:List (Nat×SV)
 hp:aX
 nx:Nat
 kp:List Nat
 rt:List Nat
def S.set(s:S)(i:Nat)(v:SV):S:=⟨s.nt,(i,v)::s.fr,s.hp,s.nx,s.kp,s.rt⟩
theorem IF{i j:Nat}:∀ {ks:List Nat},fU ks i=false->fU (rem ks j) i=false
 |[],_=>rfl
 |x::r,h=>by
  simp only[fU]at h;have hx:Nat.beq x i=false:=by cases hb:Nat.beq x i<;>simp[hb]at h ⊢
  rw[hx]at h;simp only[rem];cases Nat.beq x j
  ·simp only[vv,fU,hx];exact IF h
  ·exact IF h
theorem vA{j:Nat}:∀ {l:List (Nat×SV)} {ks:List Nat},fU ks j=false->look (only l ks) j = .a .any
 |[],_,_=>rfl
 |(k,v)::r,ks,h=>by
  simp only[only];cases hk:fU ks k
  ·exact vA h
  ·simp only[iU,look];have hne:Nat.beq k j=false:=by
    rw[zBz];intro hh;have:=Nat.eq_of_beq_eq_true hh;subst this;rw[h]at hk;cases hk
   rw[hne];exact vA (IF h)
theorem YQ(l:List (Nat×SV))(ks:List Nat)(j:Nat):look (only l ks) j=look l j\/look (only l ks) j = .a .any:=by
 induction l generalizing ks with
 |nil=>exact .inl rfl
 |cons p l ih =>
  obtain⟨k,v⟩:=p;simp only[only];cases hk:fU ks k
  ·simp only[vv,look]
   grind [Nat.eq_of_beq_eq_true,vA]
  ·simp only[iU,look]
   grind
def fA(ρ:Env)(fr:List (Nat×SV))(tmps:Array Value):Prop:=∀i,(look fr i).cT ρ (tmps.getD i undef)
theorem fA.mono{ρ ρ':Env}(h:ρ.le ρ'){fr:List (Nat×SV)}{tmps:Array Value}(r:fA ρ fr tmps):fA ρ' fr tmps:=fun i=>(r i).mono h
theorem fA.set{fr:List (Nat×SV)}{tmps:Array Value}(r:fA ρ fr tmps){i:Nat}(hi:i<tmps.size){sv:SV}(h:sv.cT ρ v) :
 fA ρ ((i,sv)::fr) (tmps.setIfInBounds i v):=by
 intro j;simp only[look];by_cases hj:i=j
 ·subst hj;have:Nat.beq i i=true:=by simp
  simp only[this,iU];simpa[Array.getD,hi]using h
 ·have:Nat.beq i j=false:=by
   rw[zBz];intro hh;exact hj (Nat.eq_of_beq_eq_true hh)
  simp only[this,vv];have:=r j;simpa[zAX,Array.getElem?_setIfInBounds_ne hj]using this
theorem fA.only{ρ:Env}{fr:List (Nat×SV)}{tmps:Array Value}(r:fA ρ fr tmps)(ks:List Nat):fA ρ (only fr ks) tmps:=by
 intro i;rcases YQ fr ks i with h|h<;>rw[h]
 ·exact r i
 ·exact trivial
def Env.ext(ρ:Env)(p:Place):Env:=⟨ρ.n+1,fun t=>if t=ρ.n then p else ρ.pl t⟩
theorem Env.gY(ρ:Env)(p:Place):ρ.le (ρ.ext p):=⟨Nat.le_succ _,fun t ht=>by simp[Env.ext,Nat.ne_of_lt ht]⟩
theorem Env.ew(ρ:Env)(p:Place):(ρ.ext p).pl ρ.n=p:=by simp[Env.ext]
variable{M:Nat->Prop}{b t:Nat}{ch ch':Chunk}{eV hp:aX}{m:Bool}{w w0:World}
theorem Env.yI(ρ:Env)(p:Place)(h:t<ρ.n):(ρ.ext p).pl t=ρ.pl t:=by simp[Env.ext,Nat.ne_of_lt h]
theorem kP.mono{ρ ρ':Env}(h:ρ.le ρ'){p:Place}{w:World}:∀ {tt tc:List Nat} {cs:List A},kP ρ p w tt tc cs->kP ρ' p w tt tc cs
 |[],[],[],_=>trivial
 |T::tt,c::tc,x::cs,⟨⟨h1,h2,h3,vs,ty,fr,v,h4,h5,h6⟩,r⟩=>by
  have e:=h.pl T h1;exact⟨⟨LR h1 h.n,by grind,by grind,vs,ty,fr,v,by grind,by grind,h6.mono h⟩,kP.mono h r⟩
theorem kP.world{ρ:Env}{p:Place}{w w':World}(h:∀b,p.fp b->w'.heap[b]? = w.heap[b]?):∀ {tt tc:List Nat} {cs:List A},kP ρ p w tt tc cs->kP ρ p w' tt tc cs
 |[],[],[],_=>trivial
 |T::tt,c::tc,x::cs,⟨⟨h1,h2,h3,vs,ty,fr,v,h4,h5,h6⟩,r⟩=>⟨⟨h1,h2,h3,vs,ty,fr,v,(h _ h2).trans h4,h5,h6⟩,kP.world h r⟩
theorem Chunk.Sat.mono{ρ ρ':Env}(h:ρ.le ρ'){p:Place}{w:World}{ch:Chunk}(r:ch.Sat ρ p w):ch.Sat ρ' p w:=by
 cases ch with
 |obj ty cs=>obtain⟨vs,fr,h1,h2,⟨us,xs,h5,h3⟩,h4⟩:=r;exact⟨vs,fr,h1,h2,⟨us,xs,h5,h3.mono h⟩,h4⟩
 |arr ty ks n rows=>exact r
 |abs R=>exact r
 |Cd ts tt tc cs R =>
  obtain⟨h1,h3,h2⟩:=r;refine⟨fun t ht=>LR (h1 t ht) h.n,h3.mono h,fun w' hw=>?_⟩;rw[show ts.map ρ'.pl=ts.map ρ.pl from List.map_congr_left fun t ht=>h.pl t (h1 t ht)];exact h2 w' hw
 |dg H=>exact r
theorem Chunk.Sat.world{ρ:Env}{p:Place}{w w':World}{ch:Chunk}(h:∀b,p.fp b->w'.heap[b]? = w.heap[b]?)(r:ch.Sat ρ p w):ch.Sat ρ p w':=by
 cases ch with
 |obj ty cs =>
  obtain⟨vs,fr,h1,h2,h3,h4,h5⟩:=r;exact⟨vs,fr,(h _ ((h5 _).2 rfl)).trans h1,h2,h3,h4,h5⟩
 |arr ty ks n rows =>
  rcases r with r | ⟨vs,ty',fr,h1,h2,h3,h4,h5,h6⟩
  ·exact .inl r
  ·exact .inr ⟨vs,ty',fr,(h _ ((h5 _).2 rfl)).trans h1,h2,h3,h4,h5,h6⟩
 |abs R=>exact fun w'' hw=>r w'' fun b hb=>(hw b hb).trans (h b hb)
 |Cd ts tt tc cs R=>exact⟨r.1,r.2.1.world h,fun w'' hw=>r.2.2 w'' fun b hb=>(hw b hb).trans (h b hb)⟩
 |dg H =>
  intro b lo cs hb;obtain⟨h1,vs,ty,fr,h2,h3⟩:=r b lo cs hb
  grind
theorem x7.Sat.mono{w0:World}{M:Nat->Prop}{ρ ρ':Env}(h:ρ.le ρ'){w:World}{e:x7}(r:e.Sat w0 M ρ w):e.Sat w0 M ρ' w where
 tag:=LR r.tag h.n
 ch:=by rw[h.pl _ r.tag];exact r.ch.mono h
 lt:=by rw[h.pl _ r.tag];exact r.lt
 own:=by rw[h.pl _ r.tag];exact r.own
theorem ak.mono{w0:World}{M:Nat->Prop}{ρ ρ':Env}(h:ρ.le ρ'){w:World}{hp:aX}(r:ak w0 M ρ hp w):ak w0 M ρ' hp w where
 keeps:=r.keeps
 jk:=fun e he=>(r.jk e he).mono h
 apart:=zBf (fun {x y} hx hy hxy=>by
  obtain⟨h1,h2⟩:=hxy;refine⟨h1,?_⟩;rw[h.pl _ (r.jk x hx).tag,h.pl _ (r.jk y hy).tag];exact h2) r.apart
theorem ak.world{w0:World}{M M':Nat->Prop}{ρ:Env}{w w':World}{hp:aX}(r:ak w0 M ρ hp w)(hk:iy M' w w')(hM:∀b,b<w0.heap.size->M' b->M b)
 (hs:∀e∈hp,∀b,(ρ.pl e.tag).fp b->w'.heap[b]? = w.heap[b]?):ak w0 M ρ hp w' where
 keeps:=⟨hk.os.trans r.keeps.os,hk.tape.trans r.keeps.tape,hk.output.trans r.keeps.output,YP r.keeps.size hk.size,fun b hb hn =>
  (hk.block b (LR hb r.keeps.size) fun hm=>hn (hM b hb hm)).trans (r.keeps.block b hb hn),fun a ha=>(hk.frz a (LR ha r.keeps.size)).trans (r.keeps.frz a ha)⟩
 jk:=fun e he=>⟨(r.jk e he).tag,(r.jk e he).ch.world (hs e he),fun b hb=>LR ((r.jk e he).lt b hb) hk.size,(r.jk e he).own⟩
 apart:=r.apart
def aX.find:aX->Nat->Option (Bool×Chunk)
 |[],_=>none
 |e::r,t=>bif Nat.beq e.tag t then some (e.wr,e.ch)else aX.find r t
def aX.yJ:aX->Nat->Chunk->aX
 |[],_,_=>[]
 |e::r,t,ch=>bif Nat.beq e.tag t then⟨e.tag,e.wr,ch⟩::r else e::aX.yJ r t ch
def aX.del:aX->Nat->aX
 |[],_=>[]
 |e::r,t=>bif Nat.beq e.tag t then r else e::aX.del r t
theorem gM{a:Nat}(h:a≠b):Nat.beq a b=false:=by
 rw[zBz];grind [Nat.eq_of_beq_eq_true]
theorem fI(a:Nat):Nat.beq a a=true:=by simp
theorem aX.bO(h:hp.find t=some (m,ch)):(⟨t,m,ch⟩:x7)∈hp:=by
 induction hp with
 |nil=>simp[aX.find]at h
 |cons e r ih =>
  simp only[aX.find]at h;by_cases he:e.tag=t
  ·subst he;simp only[fI,iU,T2,Prod.mk.injEq]at h;obtain⟨rfl,rfl⟩:=h
   grind
  ·simp only[gM he,vv]at h
   grind
theorem aX.lK:(hp.del t).Sublist hp:=by
 induction hp with
 |nil=>exact List.Sublist.slnil
 |cons e r ih =>
  simp only[aX.del]
  grind
theorem ak.sub(r:ak w0 M ρ hp w)(h:eV.Sublist hp):ak w0 M ρ eV w :=
 ⟨r.keeps,fun e he=>r.jk e (h.subset he),r.apart.sublist h⟩
theorem ak.yK(r:ak w0 M ρ hp w)(h:hp.find t=some (m,ch)) :
 ∀e∈hp.del t,e.tag≠t/\((m||e.wr)=true->∀b,(ρ.pl t).fp b->¬(ρ.pl e.tag).fp b):=by
 have hap:=r.apart;clear r
 induction hp with
 |nil=>simp[aX.find]at h
 |cons x l ih =>
  simp only[aX.find]at h;rw[List.pairwise_cons]at hap;by_cases he:x.tag=t
  ·subst he;simp only[fI,iU,T2,Prod.mk.injEq]at h;obtain⟨rfl,rfl⟩:=h;intro e hm;simp only[aX.del,fI,iU]at hm;exact⟨(hap.1 e hm).1.symm,(hap.1 e hm).2⟩
  ·simp only[gM he,vv]at h;intro e hm;simp only[aX.del,gM he,vv,uf]at hm;rcases hm with rfl|hm
   ·have hmem:=aX.bO h;have:=hap.1 _ hmem;refine⟨he,fun hw b hb hb'=>this.2 (by grind) b hb' hb⟩
   grind
theorem ak.cons(r:ak w0 M ρ hp w){e:x7}(he:e.Sat w0 M ρ w)(ha:∀x∈hp,pE ρ e x):ak w0 M ρ (e::hp) w :=
 ⟨r.keeps,fun x hx=>by rcases uf.1 hx with rfl|h<;>first|exact he|exact r.jk x h,List.pairwise_cons.2 ⟨ha,r.apart⟩⟩
theorem aX.Xf(h:hp.find t=some (m,ch)):∀e∈hp.yJ t ch',e=⟨t,m,ch'⟩\/e∈hp.del t:=by
 induction hp with
 |nil=>simp[aX.find]at h
 |cons x l ih =>
  simp only[aX.find]at h;by_cases he:x.tag=t
  ·subst he;simp only[fI,iU,T2,Prod.mk.injEq]at h;obtain⟨rfl,rfl⟩:=h;intro e hm;simp only[aX.yJ,fI,iU,uf]at hm;simp only[aX.del,fI,iU];exact hm
  ·simp only[gM he,vv]at h;intro e hm;simp only[aX.yJ,gM he,vv,uf]at hm;simp only[aX.del,gM he,vv,uf]
   grind
theorem pE.same{x y x' y':x7}(h:pE ρ x y)(h1:x'.tag=x.tag)(h2:x'.wr=x.wr)(h3:y'.tag=y.tag)(h4:y'.wr=y.wr):pE ρ x' y':=by
 unfold pE at *;grind
theorem aX.YR(h:hp.Pairwise (pE ρ)):(hp.yJ t ch').Pairwise (pE ρ):=by
 induction hp with
 |nil=>simp[aX.yJ]
 |cons x l ih =>
  rw[List.pairwise_cons]at h;by_cases he:x.tag=t
  ·subst he;simp only[aX.yJ,fI,iU,List.pairwise_cons];exact⟨fun y hy=>(h.1 y hy).same rfl rfl rfl rfl,h.2⟩
  ·simp only[aX.yJ,gM he,vv,List.pairwise_cons];refine⟨?_,ih h.2⟩;have:∀(l:aX),(∀y∈l,pE ρ x y)->∀y∈l.yJ t ch',pE ρ x y:=by
    intro l
    induction l with
    |nil=>grind [aX.yJ]
    |cons z r ihr =>
     intro hl y hy;by_cases hz:z.tag=t
     ·subst hz;simp only[aX.yJ,fI,iU,uf]at hy;rcases hy with rfl|hy
      ·exact(hl z List.mem_cons_self).same rfl rfl rfl rfl
      grind
     ·simp only[aX.yJ,gM hz,vv,uf]at hy
      grind
   grind
theorem ak.yJ{w0:World}{M:Nat->Prop}{ρ:Env}{w w':World}{hp:aX}{t:Nat}{ch ch':Chunk}(r:ak w0 M ρ hp w)(h:hp.find t=some (true,ch))
 (hk:iy (ρ.pl t).fp w w') (hch:ch'.Sat ρ (ρ.pl t) w'):ak w0 M ρ (hp.yJ t ch') w':=by
 have he:=r.jk _ (aX.bO h);have hd:ak w0 M ρ (hp.del t) w':=(r.sub aX.lK).world hk (fun b hb hf=>he.own rfl b hf hb) (fun e hm b hb=>by
  have:=r.yK h e hm;refine hk.block b ((r.jk e (aX.lK.subset hm)).lt b hb) fun hf=>this.2 rfl b hf hb)
 refine⟨hd.keeps,fun e hm=>?_,aX.YR r.apart⟩;rcases aX.Xf h e hm with rfl|hm
 ·exact⟨he.tag,hch,fun b hb=>LR (he.lt b hb) hk.size,he.own⟩
 ·exact hd.jk e hm
theorem BP(w:World)(vs:Array Value)(t:TypeId)(fr:Nat×Nat)(h:fr.2<=fr.1)(a:Addr):(w.alloc (.cells vs t fr)).frozen? a=w.frozen? a:=by
 by_cases hb:a.block=w.heap.size
 ·have e1:(w.alloc (.cells vs t fr)).heap[a.block]? = some (.cells vs t fr):=by rw[hb];show(w.heap.push _)[w.heap.size]? = _;simp
  have e2:w.heap[a.block]? = none:=by rw[hb];simp
  obtain⟨lo,hi⟩:=fr;simp only at h;simp only[World.frozen?,e1,e2];simp;omega
 ·have e:(w.alloc (.cells vs t fr)).heap[a.block]? = w.heap[a.block]?:=by
   show(w.heap.push _)[a.block]? = _;rw[Array.getElem?_push,if_neg hb]
  simp[World.frozen?,e]
theorem ak.alloc{w0:World}{M:Nat->Prop}{ρ:Env}{w:World}{hp:aX}(r:ak w0 M ρ hp w)(o:Obj)(p:Place)(hp0:∀b,p.fp b↔b=w.heap.size)(hfz:∀a,(w.alloc o).frozen? a=w.frozen? a){ch:Chunk}(hch:ch.Sat (ρ.ext p) p (w.alloc o)) :
 ak w0 M (ρ.ext p) (⟨ρ.n,true,ch⟩::hp) (w.alloc o):=by
 have hk:iy (fun _=>False) w (w.alloc o):=⟨rfl,rfl,rfl,by simp,fun b hb _=>by
  show(w.heap.push o)[b]? = _
  grind,fun a _=>hfz a⟩
 have h1:ak w0 M (ρ.ext p) hp (w.alloc o):=(r.world hk (fun _ _ h=>h.elim) fun e he b hb=>hk.block b ((r.jk e he).lt b hb) id).mono (ρ.gY p);refine h1.cons ⟨zBi _,by simpa only[ρ.ew p]using hch,fun b hb=>?_,fun _ b hb hb0=>?_⟩ fun x hx=>?_
 ·simp only[ρ.ew p]at hb;rw[(hp0 b).1 hb];simp
 ·simp only[ρ.ew p]at hb
  grind [r.keeps.size]
 ·have ht:=(r.jk x hx).tag;refine⟨Nat.ne_of_gt ht,fun _ b hb hb'=>?_⟩;simp only[ρ.ew p]at hb;rw[ρ.yI p ht]at hb';have:=(r.jk x hx).lt b hb'
  grind
inductive D where
 |bool
 |int (k:IntKind)
 |str
 |ptr
 |slc (e:TypeId)
 |struct (fs:List (Nat×Nat))
 |arr (n:Nat) (e:TypeId)
 |func
 |other
structure TI where
 sz:Nat
 bytes:Nat
 agg:Bool
 d:D
 zero:List A
 ks:List CK
def HN:Value->A
 |.int k n=>.lit k n
 |.bool true=>.tt
 |.bool false=>.ff
 |.string s=>.str s
 |.pointer none=>.nil
 |.slice none 0 0=>.dJ
 |.func (.func f) ⟨[]⟩ ⟨[]⟩=>.fn f
 |v=>.val v
def aiL(k:IntKind)(n:Int):Bool:=decide (k.min<=n)&&decide (n<=k.max)
theorem abl{k:IntKind}{n:Int}:aiL k n=true↔bZ k n:=by simp[aiL,Xe]
def vOk:Value->Bool
 |.int k n=>aiL k n
 |.string s=>Nat.ble s.size aB
 |.agg _=>false
 |.tuple _=>false
 |_=>true
theorem Xg(h:vOk v=true):v.oneCell'=true:=by
 cases v<;>first|rfl|grind [vOk]
theorem RQ(ρ:Env)(h:vOk v=true):(HN v).cT ρ v:=by
 unfold HN;split
 ·exact⟨rfl,abl.1 h⟩
 ·rfl
 ·rfl
 ·exact⟨rfl,EY h⟩
 ·rfl
 ·rfl
 ·rfl
 ·exact⟨rfl,Xg h⟩
def z7:List Value->Bool
 |[]=>true
 |v::r=>vOk v&&z7 r
theorem nB(ρ:Env):∀ {vs:List Value},z7 vs=true->dw ρ (vs.map HN) vs
 |[],_=>rfl
 |v::r,h=>by
  simp only[z7,jB]at h;exact⟨v,r,rfl,RQ ρ h.1,nB ρ h.2⟩
def abm:Value->SV
 |.agg cs=>bif z7 cs.toList then .agg (cs.toList.map HN)else .a .any
 |v=>bif vOk v then .a (HN v)else .a .any
theorem YS(ρ:Env)(v:Value):(abm v).cT ρ v:=by
 unfold abm;split
 ·rename_i cs;cases h:z7 cs.toList
  ·exact trivial
  ·exact⟨cs.toList,by simp,nB ρ h⟩
 ·cases h:vOk v
  ·exact trivial
  ·exact RQ ρ h
def am7:A->CK
 |.lit k _=>.int k
 |.int k _=>.int k
 |.tt=>.bool
 |.ff=>.bool
 |.str _=>.str
 |_=>.other
def akv(dp:Bool):A->CK
 |.dJ=>bif dp then .deep else .other
 |.nil=>bif dp then .deep else .other
 |x=>am7 x
def descOf(P:Program)(t:TypeId):D :=
 match P.underlying t with
 |some .bool=>.bool
 |some (.int k)=>.int k
 |some .string=>.str
 |some (.pointer _)=>.ptr
 |some (.slice e)=>.slc e
 |some (.struct fs)=>.struct (fs.toList.map fun f=>(f.offset,P.cellsOf f.type))
 |some (.array n e)=>.arr n e
 |some (.func ..)=>.func
 |_=>.other
def D.isAgg:D->Bool
 |.struct _=>true
 |.arr _ _=>true
 |_=>false
def E3:Value->Bool
 |.agg _=>true
 |_=>false
def qM(P:Program)(t:TypeId):Bool :=
 match P.underlying t with
 |some (.struct fs)=>fs.toList.all fun f=>(P.info? f.type).isSome
 |some (.array _ e)=>(P.info? e).isSome
 |some (.slice e)=>(P.info? e).isSome
 |_=>true
def Mm(dp:Bool)(P:Program)(t:TypeId):Option TI :=
 match P.info? t with
 |some i =>
  match i.zero,P.underlying t with
  |some z,some _ =>
   bif z7 z.cells.toList&&(Nat.beq z.cells.size i.size&&((bif (descOf P t).isAgg then E3 z else !E3 z)&&qM P t))
   then some ⟨i.size,i.bytes,(descOf P t).isAgg,descOf P t,z.cells.toList.map HN,z.cells.toList.map fun v=>akv dp (HN v)⟩
   else none
  |_,_=>none
 |none=>none
structure Cx where
 P:Program
 T:List (Nat×TI)
 force:Bool
 dbg:Bool
def need(force:Bool)(p:Prop)[Decidable p](k:Prop):Prop:=bif force then(bif decide p then k else False)else p/\k
variable{e p:Prop}{i:TI}
theorem nS{force:Bool}[Decidable p]{k:Prop}(h:need force p k):p/\k:=by
 cases force with
 |false=>exact h
 |true =>
  by_cases hp:p
  ·simp[need,hp]at h;grind
  ·simp[need,hp]at h
inductive Mark(n:Nat):Prop where
 |mk
def mark(dbg:Bool)(n:Nat)(p:Prop):Prop:=bif dbg then(Mark n->p)else p
theorem Xh{dbg:Bool}{n:Nat}(h:mark dbg n p):p:=by
 cases dbg with
 |true=>exact h .mk
 |false=>exact h
def IG(force b:Bool)(t e:Prop):Prop:=bif force then(bif b then t else e)else(b=true->t)/\(b=false->e)
theorem E4{force b:Bool}{t:Prop}(h:IG force b t e):(b=true->t)/\(b=false->e):=by
 cases force<;>cases b<;>simp[IG]at h<;>simp[h]
def abn:List (Nat×TI)->Nat->Option TI
 |[],_=>none
 |(j,i)::r,t=>bif Nat.beq j t then some i else abn r t
def Cx.ti(X:Cx)(t:Nat):Option TI:=abn X.T t
structure Cx.Ok(X:Cx):Prop where
 mB:∃dp,X.T.map (fun p=>Mm dp X.P p.1)=X.T.map fun p=>some p.2
 mixed:X.P.follows .mixedOrders=true
theorem RR:∀ {l:List (Nat×TI)} {t:Nat} {i:TI},abn l t=some i->(t,i)∈l
 |[],_,_,h=>by simp[abn]at h
 |(j,i')::r,t,i,h=>by
  simp only[abn]at h;by_cases hj:j=t
  ·subst hj;simp only[fI,iU,T2]at h
   grind
  ·simp only[gM hj,vv]at h;exact CP _ (RR h)
theorem Cx.Ok.ti{X:Cx}(h:X.Ok){t:Nat}{i:TI}(ht:X.ti t=some i):∃dp,Mm dp X.P t=some i:=by
 have hm:=RR ht;obtain⟨n,hn,e⟩:=List.getElem_of_mem hm;obtain⟨dp,htab⟩:=h.mB;refine⟨dp,?_⟩;have:=tJ (fun l=>l[n]?) htab
 grind
structure II(P:Program)(t:Nat)(i:TI):Prop where
 size:P.cellsOf t=i.sz
 info:∃j,P.info? t=some j/\j.size=i.sz/\j.bytes=i.bytes/\∃z,j.zero=some z/\z.cells.toList.length=i.sz/\i.zero=z.cells.toList.map HN/\z7 z.cells.toList=true/\i.ks.length=i.sz /\
  (i.agg=true->z = .agg z.cells)/\(i.agg=false->z.oneCell'=true\/∃vs,z = .tuple vs)
 desc:descOf P t=i.d
 under:∃d,P.underlying t=some d
 agg:i.agg=i.d.isAgg
 known:qM P t=true
theorem aga{P:Program}{dp:Bool}(h:Mm dp P t=some i):II P t i:=by
 unfold Mm at h;split at h
 ·rename_i j hj;split at h
  ·rename_i z d hz hd;cases hb:(z7 z.cells.toList&&(Nat.beq z.cells.size j.size&&((bif (descOf P t).isAgg then E3 z else !E3 z)&&qM P t)))
   ·grind
   ·rw[hb]at h;simp only[iU,T2]at h;subst h;simp only[jB]at hb;obtain⟨h1,h2,h3,h4⟩:=hb;have h2':=Nat.eq_of_beq_eq_true h2;refine⟨by simp[Program.cellsOf,hj],⟨j,hj,rfl,rfl,z,hz,by omega,rfl,h1,by grind,?_,?_⟩,rfl,⟨d,hd⟩,rfl,h4⟩
    ·intro hagg;replace hagg:(descOf P t).isAgg=true:=hagg;rw[hagg]at h3;cases z<;>first|rfl|(simp[E3]at h3;done)
    ·intro hagg;replace hagg:(descOf P t).isAgg=false:=hagg;rw[hagg]at h3;cases z<;>first|exact .inl rfl|exact .inr ⟨_,rfl⟩|grind [E3]
  ·simp at h
 ·simp at h
theorem Cx.Ok.ty{X:Cx}(h:X.Ok)(ht:X.ti t=some i):II X.P t i :=
 let ⟨_,h⟩:=h.ti ht
 aga h
abbrev KV:=SV->S->Prop
def S.ev(s:S):Operand->SV
 |.tmp t=>look s.fr t
 |.const v=>abm v
 |.global _=>.a .any
 |.func f=>.a (.fn f)
theorem fA.ev{ρ:Env}{s:S}{a:Act}(h:fA ρ s.fr a.tmps)(x:Operand):(s.ev x).cT ρ (a.eval x):=by
 cases x with
 |tmp t=>exact h t
 |const v=>exact YS ρ v
 |global g=>exact trivial
 |func f=>rfl
structure jV(w0:World)(M:Nat->Prop)(ρ:Env)(s:S)(a:Act)(w:World):Prop where
 defers:a.defers=[]
 size:a.tmps.size=s.nt
 n:ρ.n=s.nx
 frame:fA ρ s.fr a.tmps
 heap:ak w0 M ρ s.hp w
def Out(w0:World)(M:Nat->Prop)(ρ:Env)(s:S)(w:World)(v:Value)(K:KV):Prop :=
 ∃sv s' ρ',K sv s'/\s'.nt=s.nt/\s'.fr=s.fr/\ρ.le ρ'/\ρ'.n=s'.nx/\sv.cT ρ' v/\ak w0 M ρ' s'.hp w
def Good(X:Cx)(o:Oper)(s:S)(K:KV):Prop :=
 ∀w0 M ρ a w,jV w0 M ρ s a w->∃r w',(execOp a.eval o).run X.P w = .ok r w'/\∃v,(r = .value v\/(r = .skip/\v=undef))/\Out w0 M ρ s w' v K
def Ua:SV->Option Nat
 |.a (.ptr t _ _ _)=>some t
 |.a (.slc t _ _ _ _)=>some t
 |_=>none
def yL:aX->Option Nat
 |[]=>none
 |e::r=>match e.ch with
  |.dg _=>some e.tag
  |_=>yL r
theorem CR{t:Nat}:∀ {hp:aX},yL hp=some t->∃e∈hp,e.tag=t
 |[],h=>by cases h
 |e::r,h=>by
  unfold yL at h;split at h
  ·grind
  ·obtain⟨x,hx,h⟩:=CR h;grind
def LU(hp:aX)(v:SV):Option Nat :=
 match v with
 |.a (.val _)=>yL hp
 |v=>Ua v
theorem DV{v:SV}(h:Ua v=some t):LU hp v=some t:=by
 unfold LU
 grind [Ua]
def LV(o:Oper)(s:S):Option Nat :=
 match o.op with
 |.load _ x=>LU s.hp (s.ev x)
 |.convert _ _ x=>LU s.hp (s.ev x)
 |_=>none
def ni(X:Cx)(o:Oper)(s:S)(K:KV):Prop :=
 ∀w0 M ρ a w,jV w0 M ρ s a w->∃v sv,K sv s/\sv.cT ρ v/\∀w':World,(∀t,LV o s=some t->∀b,(ρ.pl t).fp b->w'.heap[b]? = w.heap[b]?)->(execOp a.eval o).run X.P w' = .ok (.value v) w'
theorem ni.good{X:Cx}{o:Oper}{s:S}{K:KV}(h:ni X o s K):Good X o s K:=by
 intro w0 M ρ a w hs;obtain⟨v,sv,h1,h2,h3⟩:=h w0 M ρ a w hs;exact⟨_,w,h3 w (fun _ _ _ _=>rfl),v,.inl rfl,sv,s,ρ,h1,rfl,rfl,Env.le.refl ρ,hs.n,h2,hs.heap⟩
def A.i?: A->Option (IntKind×Int)
 |.lit k n=>some (k,n)
 |.int k n=>some (k,n)
 |_=>none
variable{K:A->Prop}{b:Int}{j k:IntKind}{x:A}
theorem A.nD{n:Int}(h:x.i? = some (k,n))(r:x.cT ρ v):v = .int k n/\bZ k n:=by
 cases x<;>simp[A.i?]at h<;>obtain⟨rfl,rfl⟩:=h<;>exact r
def A.b?: A->Option Bool
 |.tt=>some true
 |.ff=>some false
 |.bool b=>some b
 |_=>none
theorem A.CS{b:Bool}(h:x.b? = some b)(r:x.cT ρ v):v = .bool b:=by
 cases x<;>simp[A.b?]at h<;>subst h<;>exact r
def ofB(b:Bool):A:=bif b then .tt else .ff
theorem wU(b:Bool)(ρ:Env):(ofB b).cT ρ (.bool b):=by cases b<;>rfl
def uw:IntKind->Int->Int
 |.u8,n=>n%256
 |.u16,n=>n%65536
 |.u32,n=>n%4294967296
 |.u64,n=>n%18446744073709551616
 |k,n=>k.wrap n
theorem IJ(k:IntKind)(n:Int):k.wrap n=uw k n:=by
 cases k<;>simp[uw,IntKind.wrap,IntKind.signed,IntKind.bits]
theorem yM(k:IntKind)(n:Int):bZ k (uw k n):=IJ k n▸lJ k n
def eW(op:BinOp)(k:IntKind)(x y:Int):Int :=
 let a:=BitVec.ofInt k.bits x
 let b:=BitVec.ofInt k.bits y
 match op with
 |.and=>k.wrap (a &&& b).toNat
 |.or=>k.wrap (a ||| b).toNat
 |.xor=>k.wrap (a ^^^ b).toNat
 |_=>k.wrap (a &&& ~~~b).toNat
def uj(j k:IntKind):Bool:=match j,k with
 |.i8,.i8=>true | .i16,.i16=>true | .i32,.i32=>true | .i64,.i64=>true
 |.u8,.u8=>true | .u16,.u16=>true | .u32,.u32=>true | .u64,.u64=>true
 |_,_=>false
theorem qj(h:uj j k=true):j=k:=by cases j<;>cases k<;>simp[uj]at h<;>rfl
def arith(k:IntKind)(n:Int)(K:A->Prop):Prop:=bif k.signed then bZ k n/\K (.int k n)else K (.int k (uw k n))
def Ub(op:BinOp)(k:IntKind)(a:Int)(j:IntKind)(b:Int)(K:A->Prop):Prop :=
 match op with
 |.shl=>0<=b/\(bif k.signed then K (.int k (k.wrap (a*2^min b.toNat k.bits)))else K (.int k (uw k (a*2^min b.toNat k.bits))))
 |.shr=>0<=b/\K (.int k (a/2^min b.toNat k.bits))
 |.add=>bif uj k j then arith k (a+b) K else False
 |.sub=>bif uj k j then arith k (a-b) K else False
 |.mul=>bif uj k j then arith k (a*b) K else False
 |.quo=>bif uj k j then b≠0/\(bif k.signed then bZ k (a.tdiv b)/\K (.int k (a.tdiv b))else K (.int k (a/b)))else False
 |.rem=>bif uj k j then b≠0/\(bif k.signed then K (.int k (a.tmod b))else K (.int k (a%b)))else False
 |.eql=>bif uj k j then K (.bool (a == b))else False
 |.neq=>bif uj k j then K (.bool (a != b))else False
 |.lss=>bif uj k j then K (.bool (decide (a<b)))else False
 |.leq=>bif uj k j then K (.bool (decide (a<=b)))else False
 |.gtr=>bif uj k j then K (.bool (decide (b<a)))else False
 |.geq=>bif uj k j then K (.bool (decide (b<=a)))else False
 |op=>bif uj k j then K (.int k (eW op k a b))else False
def E5(op:BinOp)(k:IntKind)(a:Int)(j:IntKind)(b:Int)(K:A->Prop):Prop :=
 match op with
 |.shl=>bif decide (0<=b)then K (.lit k (k.wrap (a*2^min b.toNat k.bits)))else False
 |.shr=>bif decide (0<=b)then K (.lit k (a/2^min b.toNat k.bits))else False
 |.add=>bif uj k j then K (.lit k (k.wrap (a+b)))else False
 |.sub=>bif uj k j then K (.lit k (k.wrap (a-b)))else False
 |.mul=>bif uj k j then K (.lit k (k.wrap (a*b)))else False
 |.quo=>bif uj k j&&b != 0 then K (.lit k (k.wrap (a.tdiv b)))else False
 |.rem=>bif uj k j&&b != 0 then K (.lit k (a.tmod b))else False
 |.eql=>bif uj k j then K (ofB (a == b))else False
 |.neq=>bif uj k j then K (ofB (a != b))else False
 |.lss=>bif uj k j then K (ofB (decide (a<b)))else False
 |.leq=>bif uj k j then K (ofB (decide (a<=b)))else False
 |.gtr=>bif uj k j then K (ofB (decide (b<a)))else False
 |.geq=>bif uj k j then K (ofB (decide (b<=a)))else False
 |op=>bif uj k j then K (.lit k (eW op k a b))else False
theorem IK{a:Int}(h:bZ k a):bZ k (a.tmod b):=by
 have h1:(a.tmod b).natAbs<=a.natAbs:=by rw[Int.natAbs_tmod];exact Nat.mod_le _ _
 have h2:0<=a->0<=a.tmod b:=fun h=>Int.tmod_nonneg _ h;have h3:a<=0->a.tmod b<=0:=fun h=>by
  have:=Int.tmod_nonneg b (show 0<=-a by omega);rw[Int.neg_tmod]at this;omega
 cases k<;>simp only[bZ]at h ⊢<;>omega
theorem IL{a:Int}(h:bZ k a)(hb:0<b):bZ k (a/b):=by
 have h0:0<=a->0<=a/b:=fun h=>Int.ediv_nonneg h (Int.le_of_lt hb);have h1:0<=a->a/b<=a:=fun h=>Int.ediv_le_self _ h;have h2:a<0->a<=a/b:=fun h=>by
  rw[Int.le_ediv_iff_mul_le hb];have:a*b<=a*1:=Int.mul_le_mul_of_nonpos_left (Int.le_of_lt h) hb;omega
 have h3:a<0->a/b<0:=fun h=>Int.ediv_neg_of_neg_of_pos h hb;cases k<;>simp only[bZ]at h ⊢<;>omega
theorem uo{a:Int}(hk:k.signed=false)(h:bZ k a):0<=a:=by
 cases k<;>simp[IntKind.signed]at hk<;>exact h.1
theorem LW{a:Int}(hk:k.signed=false)(ha:bZ k a)(hb:bZ k b):a.tdiv b=a/b/\bZ k (a/b):=by
 have h1:=uo hk ha;have h2:=uo hk hb;refine⟨Int.tdiv_eq_ediv_of_nonneg h1,?_⟩;by_cases h0:b=0
 ·grind
 grind [IL]
theorem YT(P:Program)(op:BinOp)(k j:IntKind)(a b:Int)(t:TypeId)(ha:bZ k a)(hb:bZ j b)(h:Ub op k a j b K) :
 ∃x v,K x/\(∀ρ:Env,x.cT ρ v)/\∀w:World,(binOp op t (.int k a) (.int j b)).run P w = .ok v w:=by
 have hwr:∀n,bZ k (k.wrap n):=lJ k;have ar:∀n,arith k n K->∃x v,K x/\(∀ρ:Env,x.cT ρ v)/\v = .int k (k.wrap n):=by
  intro n hn;unfold arith at hn;cases hs:k.signed
  ·rw[hs]at hn;exact⟨_,_,hn,fun ρ=>⟨by rw[IJ],yM k n⟩,rfl⟩
  ·rw[hs]at hn;exact⟨_,_,hn.2,fun ρ=>⟨by rw[gH hn.1],hn.1⟩,rfl⟩
 cases op
 case shl =>
  obtain⟨h0,h⟩:=h;have hlt:¬b<0:=by omega
  cases hs:k.signed
  ·rw[hs]at h;exact⟨_,_,h,fun ρ=>⟨rfl,yM _ _⟩,fun w=>by simp[binOp,Op.shift,hlt,IJ]⟩
  ·rw[hs]at h;exact⟨_,_,h,fun ρ=>⟨rfl,lJ _ _⟩,fun w=>by simp[binOp,Op.shift,hlt]⟩
 case shr =>
  obtain⟨h0,h⟩:=h;have hlt:¬b<0:=by omega
  have hp:(0:Int)<2^min b.toNat k.bits:=Int.pow_pos (by omega);exact⟨_,_,h,fun ρ=>⟨rfl,IL ha hp⟩,fun w=>by simp[binOp,Op.shift,hlt,Int.fdiv_eq_ediv_of_nonneg _ (Int.le_of_lt hp)]⟩
 all_goals
  simp only[Ub]at h;cases hk:uj k j
  ·rw[hk]at h;exact h.elim
  rw[hk]at h;have:=qj hk;subst this;simp only[iU]at h
 case add=>obtain⟨x,v,h1,h2,rfl⟩:=ar _ h;exact⟨x,_,h1,h2,fun w=>by simp[binOp,Op.intArith]⟩
 case sub=>obtain⟨x,v,h1,h2,rfl⟩:=ar _ h;exact⟨x,_,h1,h2,fun w=>by simp[binOp,Op.intArith]⟩
 case mul=>obtain⟨x,v,h1,h2,rfl⟩:=ar _ h;exact⟨x,_,h1,h2,fun w=>by simp[binOp,Op.intArith]⟩
 case quo =>
  obtain⟨h0,h⟩:=h;cases hs:k.signed
  ·rw[hs]at h;obtain⟨e1,e2⟩:=LW hs ha hb;exact⟨_,_,h,fun ρ=>⟨rfl,e2⟩,fun w=>by simp[binOp,Op.intDiv,h0,e1,gH e2]⟩
  ·rw[hs]at h;exact⟨_,_,h.2,fun ρ=>⟨rfl,h.1⟩,fun w=>by simp[binOp,Op.intDiv,h0,gH h.1]⟩
 case rem =>
  obtain⟨h0,h⟩:=h;cases hs:k.signed
  ·rw[hs]at h;have e:a.tmod b=a%b:=Int.tmod_eq_emod_of_nonneg (uo hs ha);exact⟨_,_,h,fun ρ=>⟨rfl,e▸IK ha⟩,fun w=>by simp[binOp,Op.intDiv,h0,e]⟩
  ·rw[hs]at h;exact⟨_,_,h,fun ρ=>⟨rfl,IK ha⟩,fun w=>by simp[binOp,Op.intDiv,h0]⟩
 case eql=>exact⟨_,_,h,fun ρ=>rfl,fun w=>by simp[binOp,Op.intCmp]⟩
 case neq=>exact⟨_,_,h,fun ρ=>rfl,fun w=>by simp[binOp,Op.intCmp]⟩
 case lss=>exact⟨_,_,h,fun ρ=>rfl,fun w=>by simp[binOp,Op.intCmp]⟩
 case leq=>exact⟨_,_,h,fun ρ=>rfl,fun w=>by simp[binOp,Op.intCmp]⟩
 case gtr=>exact⟨_,_,h,fun ρ=>rfl,fun w=>by simp[binOp,Op.intCmp]⟩
 case geq=>exact⟨_,_,h,fun ρ=>rfl,fun w=>by simp[binOp,Op.intCmp]⟩
 all_goals exact⟨_,_,h,fun ρ=>⟨rfl,lJ _ _⟩,fun w=>by simp[binOp,Op.intBits,eW]⟩
theorem Mn(P:Program)(op:BinOp)(k j:IntKind)(a b:Int)(t:TypeId)(ha:bZ k a)(hb:bZ j b)(h:E5 op k a j b K) :
 ∃x v,K x/\(∀ρ:Env,x.cT ρ v)/\∀w:World,(binOp op t (.int k a) (.int j b)).run P w = .ok v w:=by
 cases op
 case shl =>
  simp only[E5]at h;by_cases h0:0<=b
  ·simp only[h0,decide_true,iU]at h;have hlt:¬b<0:=by omega
   exact⟨_,_,h,fun ρ=>⟨rfl,lJ _ _⟩,fun w=>by simp[binOp,Op.shift,hlt]⟩
  grind
 case shr =>
  simp only[E5]at h;by_cases h0:0<=b
  ·simp only[h0,decide_true,iU]at h;have hlt:¬b<0:=by omega
   have hp:(0:Int)<2^min b.toNat k.bits:=Int.pow_pos (by omega);exact⟨_,_,h,fun ρ=>⟨rfl,IL ha hp⟩,fun w=>by simp[binOp,Op.shift,hlt,Int.fdiv_eq_ediv_of_nonneg _ (Int.le_of_lt hp)]⟩
  grind
 all_goals
  simp only[E5]at h;cases hk:uj k j
  ·simp[hk]at h
  simp only[hk,Bool.true_and,iU]at h;have:=qj hk;subst this
 case add=>exact⟨_,_,h,fun ρ=>⟨rfl,lJ _ _⟩,fun w=>by simp[binOp,Op.intArith]⟩
 case sub=>exact⟨_,_,h,fun ρ=>⟨rfl,lJ _ _⟩,fun w=>by simp[binOp,Op.intArith]⟩
 case mul=>exact⟨_,_,h,fun ρ=>⟨rfl,lJ _ _⟩,fun w=>by simp[binOp,Op.intArith]⟩
 case quo =>
  cases h0:(b != 0)
  ·simp[h0]at h
  ·simp only[h0,iU]at h;have h0':b≠0:=by simpa using h0
   exact⟨_,_,h,fun ρ=>⟨rfl,lJ _ _⟩,fun w=>by simp[binOp,Op.intDiv,h0']⟩
 case rem =>
  cases h0:(b != 0)
  ·simp[h0]at h
  ·simp only[h0,iU]at h;have h0':b≠0:=by simpa using h0
   exact⟨_,_,h,fun ρ=>⟨rfl,IK ha⟩,fun w=>by simp[binOp,Op.intDiv,h0']⟩
 case eql=>exact⟨_,_,h,fun ρ=>wU _ ρ,fun w=>by simp[binOp,Op.intCmp]⟩
 case neq=>exact⟨_,_,h,fun ρ=>wU _ ρ,fun w=>by simp[binOp,Op.intCmp]⟩
 case lss=>exact⟨_,_,h,fun ρ=>wU _ ρ,fun w=>by simp[binOp,Op.intCmp]⟩
 case leq=>exact⟨_,_,h,fun ρ=>wU _ ρ,fun w=>by simp[binOp,Op.intCmp]⟩
 case gtr=>exact⟨_,_,h,fun ρ=>wU _ ρ,fun w=>by simp[binOp,Op.intCmp]⟩
 case geq=>exact⟨_,_,h,fun ρ=>wU _ ρ,fun w=>by simp[binOp,Op.intCmp]⟩
 all_goals exact⟨_,_,h,fun ρ=>⟨rfl,lJ _ _⟩,fun w=>by simp[binOp,Op.intBits,eW]⟩
section
variable {P:Program}
theorem yN(ty:II P t i)(w:World):(isAgg t).run P w = .ok i.agg w:=by
 obtain⟨d,hd⟩:=ty.under;simp only[isAgg,Sem.run_bind,run_underlying hd,Result.andThen_ok];rw[ty.agg,<- ty.desc];unfold descOf;rw[hd];cases d<;>rfl
theorem dm(ty:II P t i)(w:World):(sizeOf t).run P w = .ok i.sz w:=by
 obtain⟨j,hj,h1,_⟩:=ty.info;simp[sizeOf,typeInfo,hj,h1]
theorem kQ(ty:II P t i):∃z,(∀w,(zeroValue t).run P w = .ok z w)/\z.cells.toList.length=i.sz/\i.zero=z.cells.toList.map HN/\z7 z.cells.toList=true/\i.ks.length=i.sz /\
 (i.agg=true->z = .agg z.cells)/\(i.agg=false->z.oneCell'=true\/∃vs,z = .tuple vs):=by
 obtain⟨j,hj,_,_,z,hz,h⟩:=ty.info;exact⟨z,fun w=>by simp[zeroValue,typeInfo,hj,hz],h⟩
theorem Addr.add_plain(b o n:Nat):(⟨b,o,none⟩:Addr).add n=⟨b,o+n,none⟩:=by
 unfold Addr.add;grind
variable{b m o:Nat}{fr:Nat×Nat}{vs:Array Value}
theorem cell_of{ty:TypeId}(h:w.heap[b]? = some (.cells vs ty fr))(o:Nat):w.cell? ⟨b,o,none⟩=vs[o]?:=by
 simp[World.cell?,h]
theorem YU{ty:TypeId}(h:w.heap[b]? = some (.cells vs ty fr))(hu:¬(fr.1<=o/\o<fr.2)):w.frozen? ⟨b,o,none⟩=false:=by
 obtain⟨lo,hi⟩:=fr;have:=hu;simp only[World.frozen?,h]
 grind
theorem AB.size{n:Nat}(h:AB n fr)(e:m=n):AB m fr:=e▸h
theorem gT(g o:Nat)(t:TypeId)(fz:Nat×Nat):∀(vs:List Value) (i:Nat) (cur:Array Value) (w:World),w.heap[g]? = some (.cells cur t fz)->vz (o+i) (o+i+vs.length) fz->o+i+vs.length<=cur.size->(∀v∈vs,v.oneCell'=true) ->
 (storeCells ⟨g,o,none⟩ vs i).run P w = .ok () (w.setRow g (cur.toList.take (o+i)++vs++cur.toList.drop (o+i+vs.length)).toArray)
 |[],i,cur,w,hg,_,_,_=>by
  simp only[storeCells,z6,List.length_nil,EZ,List.take_append_drop,Array.toArray_toList];rw[setRow_self w g cur t fz hg];rfl
 |v::rest,i,cur,w,hg,hfz,hl,h1=>by
  have hi:o+i<cur.size:=by simp at hl;omega
  have hadd:(⟨g,o,none⟩:Addr).add i=⟨g,o+i,none⟩:=Addr.add_plain _ _ _;have hcell:w.cell? ⟨g,o+i,none⟩=some cur[o+i]:=by simp[World.cell?,hg,hi]
  have hfro:w.frozen? ⟨g,o+i,none⟩=false:=YU hg (hfz (o+i) (cW _) (by simp));have hst:(store ((⟨g,o,none⟩:Addr).add i) v).run P w = .ok () (w.setRow g (cur.setIfInBounds (o+i) v)):=by
   rw[hadd,run_store P w _ v _ (h1 v (by simp)),hcell];simp[hfro,setCell_eq_setRow w g (o+i) cur t fz v hg]
  have ih:=gT g o t fz rest (i+1) (cur.setIfInBounds (o+i) v) (w.setRow g (cur.setIfInBounds (o+i) v)) (setRow_heap w g cur _ t _ hg) (fun x h1 h2=>hfz x (by omega) (by grind)) (by grind) (fun x hx=>h1 x (by simp[hx]))
  grind [storeCells,Sem.run_bind,Result.andThen_ok,setRow_setRow,list_seg_step]
theorem iy.setRow(w:World)(g:Nat)(cs:Array Value):iy (fun b=>b=g) w (w.setRow g cs) :=
 ⟨rfl,rfl,rfl,by simp,fun b _ hb=>setRow_other w g b cs hb,fun a _=>by
  by_cases hb:a.block=g
  ·subst hb;cases ho:w.heap[a.block]? with
   |none =>
    grind
   |some o =>
    cases o with
    |cells vs ty fr=>simp only[World.frozen?,ho,setRow_heap w a.block vs cs ty fr ho]
    |_=>simp[World.frozen?,ho,World.setRow,zBv]
  ·simp only[World.frozen?,setRow_other w g a.block cs hb]⟩
def dR:Value->Int | .int _ n=>n|_=>0
def HO:Value->Bool | .bool b=>b|_=>false
def LM:Value->ByteArray | .string s=>s|_=>.empty
def CT:CK->Value->A
 |.int k,v=>.int k (dR v)
 |.bool,v=>.bool (HO v)
 |.str,v=>.str (LM v)
 |.other,v=>match v with
  |.slice none 0 0=>.dJ
  |.pointer none=>.nil
  |v=>.val v
 |.deep,v=>.val v
theorem vC{k:CK}(h:k.ok v)(ρ:Env):(CT k v).cT ρ v:=by
 cases k with
 |int k=>obtain⟨n,rfl,hn⟩:=h;exact⟨rfl,hn⟩
 |bool=>obtain⟨b,rfl⟩:=h;rfl
 |str=>obtain⟨s,rfl,hs⟩:=h;exact⟨rfl,hs⟩
 |other =>
  unfold CT;split
  ·grind
  ·grind
  ·grind
  ·split
   ·rfl
   ·rfl
   ·exact⟨rfl,h⟩
  grind
 |deep=>exact⟨rfl,h⟩
def atoms(row:Nat->Value):List CK->Nat->List A
 |[],_=>[]
 |k::ks,c=>CT k (row c)::atoms row ks (c+1)
def AA(force:Bool)(x:A)(p:Prop):Prop:=match x with
 |.int k n=>bif force then p else bZ k n->p
 |_=>p
theorem H7{force:Bool}(h:AA force x p)(r:x.cT ρ v):p:=by
 cases x<;>simp only[AA]at h<;>first|exact h|(cases force<;>first|exact h r.2|exact h)
def Uc(force:Bool)(ti:TI)(ch:Chunk)(row esz c:Nat)(s:S)(K:KV):Prop :=
 match ch with
 |.obj _ cs =>
  (bif ti.agg then(bif Nat.ble (row*esz+c+ti.sz) cs.length then K (.agg ((cs.drop (row*esz+c)).take ti.sz)) s else False)
   else match cs[row*esz+c]? with|some x=>AA force x (K (.a x) s)|none=>False)
 |.arr _ ks n rows=>bif Nat.beq esz ks.length then
  (bif ti.agg then(bif Nat.ble (c+ti.sz) ks.length then need force (row<n) (K (.agg (atoms (rows row) ((ks.drop c).take ti.sz) c)) s)else False)
   else match ks[c]? with|some k=>need force (row<n) (AA force (CT k (rows row c)) (K (.a (CT k (rows row c))) s))|none=>False)else False
 |.abs _=>False
 |.Cd ..=>False
 |.dg _=>False
def agb:List Nat->List Nat->List A->Nat->Nat->Option A
 |T::tt,c::tc,x::cs,U,d=>bif Nat.beq T U&&Nat.beq c d then some x else agb tt tc cs U d
 |_,_,_,_,_=>none
def Xi(tt tc:List Nat)(cs:List A)(U:Nat):Nat->Nat->Option (List A)
 |_,0=>some []
 |d,n+1=>match agb tt tc cs U d with
  |some x=>match Xi tt tc cs U (d+1) n with
   |some r=>some (x::r)
   |none=>none
  |none=>none
def RS:aX->Nat->Nat->Nat->Option (List A)
 |[],_,_,_=>none
 |e::r,U,d,n=>match e.ch with
  |.Cd _ tt tc cs _=>match Xi tt tc cs U d n with
   |some l=>some l
   |none=>RS r U d n
  |_=>RS r U d n
theorem Xj{ρ:Env}{p:Place}{w:World}{U d:Nat}{x:A}:∀ {tt tc:List Nat} {cs:List A},kP ρ p w tt tc cs->agb tt tc cs U d=some x->U<ρ.n/\(ρ.pl U).fp (ρ.pl U).blk/\∃vs ty fr v,w.heap[(ρ.pl U).blk]? = some (.cells vs ty fr)/\vs[(ρ.pl U).off+d]? = some v/\x.cT ρ v
 |[],[],[],_,h=>by cases h
 |T::tt,c::tc,y::cs,⟨⟨h1,_,h3,h4⟩,r⟩,h=>by
  simp only[agb]at h;cases hb:(Nat.beq T U&&Nat.beq c d)
  ·rw[hb]at h;exact Xj r h
  ·rw[hb]at h;simp only[jB]at hb;have e1:=Nat.eq_of_beq_eq_true hb.1;have e2:=Nat.eq_of_beq_eq_true hb.2
   grind
theorem RU{ρ:Env}{p:Place}{w:World}{U:Nat}{tt tc:List Nat}{cs:List A}(hg:kP ρ p w tt tc cs):∀ {n d:Nat} {l:List A},Xi tt tc cs U d n=some l->n≠0->U<ρ.n/\(ρ.pl U).fp (ρ.pl U).blk/\∃vs ty fr us,w.heap[(ρ.pl U).blk]? = some (.cells vs ty fr)/\dw ρ l us/\us.length=n/\∀j v,us[j]? = some v->vs[(ρ.pl U).off+d+j]? = some v
 |0,_,_,_,h=>absurd rfl h
 |n+1,d,l,h,_=>by
  simp only[Xi]at h;split at h
  ·rename_i x hx;split at h
   ·rename_i r hr;cases h;obtain⟨h1,h2,vs,ty,fr,v,h3,h4,h5⟩:=Xj hg hx;by_cases h0:n=0
    ·subst h0;cases hr;refine⟨h1,h2,vs,ty,fr,[v],h3,⟨v,[],rfl,h5,rfl⟩,rfl,fun j u hj=>?_⟩
     grind
    ·obtain⟨_,_,vs',ty',fr',us,g3,g4,g5,g6⟩:=RU hg hr h0;rw[h3]at g3;cases g3;refine⟨h1,h2,vs,ty,fr,v::us,h3,⟨v,us,rfl,h5,g4⟩,by simp[g5],fun j u hj=>?_⟩
     grind
   ·cases h
  ·cases h
theorem IM{w0:World}{M:Nat->Prop}{ρ:Env}{w:World}{U d n:Nat}{l:List A}(hn:n≠0):∀ {hp:aX},ak w0 M ρ hp w->RS hp U d n=some l->U<ρ.n/\(ρ.pl U).fp (ρ.pl U).blk/\∃vs ty fr us,w.heap[(ρ.pl U).blk]? = some (.cells vs ty fr)/\dw ρ l us/\us.length=n/\∀j v,us[j]? = some v->vs[(ρ.pl U).off+d+j]? = some v
 |[],_,h=>by cases h
 |e::r,hh,h=>by
  simp only[RS]at h;have hr:=hh.sub (zBO e r);split at h
  ·rename_i ts tt tc cs R he;split at h
   ·rename_i l' hl;cases h;have hs:=(hh.jk e List.mem_cons_self).ch;rw[he]at hs;exact RU hs.2.1 hl hn
   ·exact IM hn hr h
  ·exact IM hn hr h
def ain(force:Bool)(ti:TI)(tg c:Nat)(s:S)(K:KV):Prop :=
 bif Nat.beq ti.sz 0 then False else match RS s.hp tg c ti.sz with
 |some l=>bif ti.agg then K (.agg l) s else match l with
  |[x]=>AA force x (K (.a x) s)
  |_=>False
 |none=>False
def Xk(X:Cx)(t:Nat)(x:SV)(s:S)(K:KV):Prop :=
 match x with
 |.a (.ptr tg row esz c) =>
  match X.ti t,s.hp.find tg with
  |some ti,some (_,ch)=>Uc X.force ti ch row esz c s K
  |some ti,none=>ain X.force ti tg (row*esz+c) s K
  |_,_=>False
 |_=>False
theorem wV(ty:II P t i)(w:World)(b o:Nat)(vs:List Value)(ha:i.agg=true)(hl:vs.length=i.sz)(h:∀j v,vs[j]? = some v->w.cell? ⟨b,o+j,none⟩=some v) :
 (loadVar t ⟨b,o,none⟩).run P w = .ok (.agg vs.toArray) w:=by
 have:=run_loadCells_list (P:=P) w ⟨b,o,none⟩ vs (fun j v hj=>by grind [Addr.add_plain]);rw[hl]at this;simp[loadVar,yN ty,ha,dm ty,this]
theorem wW(ty:II P t i)(w:World)(a:Addr)(v:Value)(ha:i.agg=false)(h:w.cell? a=some v):(loadVar t a).run P w = .ok v w:=by
 simp[loadVar,yN ty,ha,h]
theorem E6(ρ:Env)(row:Nat->Value):∀(ks:List CK) (c:Nat),(∀(j:Nat) (k:CK),ks[j]? = some k->k.ok (row (c+j)))->dw ρ (atoms row ks c) ((List.range' c ks.length).map row)
 |[],_,_=>rfl
 |k::ks,c,h=>by
  refine⟨row c,(List.range' (c+1) ks.length).map row,by simp[List.range'_succ],vC (h 0 k rfl) ρ,E6 ρ row ks (c+1) fun j k' hj=>?_⟩;have:=h (j+1) k' (by simpa using hj)
  grind
theorem Xl{X:Cx}(hX:X.Ok){x:SV}{s:S}{K:KV}(h:Xk X t x s K)(hv:x.cT ρ v)(hh:ak w0 M ρ s.hp w) :
 ∃b o,v = .pointer (some ⟨b,o,none⟩)/\∃u sv,(∀w':World,(∀t',Ua x=some t'->∀b,(ρ.pl t').fp b->w'.heap[b]? = w.heap[b]?)->(loadVar t ⟨b,o,none⟩).run X.P w' = .ok u w')/\sv.cT ρ u/\K sv s:=by
 unfold Xk at h;split at h
 ·rename_i tg row esz c;obtain⟨_,rfl⟩:=hv;refine⟨_,_,rfl,?_⟩;split at h
  ·rename_i ti m ch hti hfind;have ty:=hX.ty hti;have he:=(hh.jk _ (aX.bO hfind)).ch;simp only at he;cases ch with
   |abs R=>exact h.elim
   |Cd ts tt tc cs R=>exact h.elim
   |dg H=>exact h.elim
   |obj cty cs =>
    obtain⟨vs,fr,hb,hoff,⟨us,xs,hus,hrep⟩,hu,hfp⟩:=he;have hvs:∀(j:Nat) (v:Value),us[j]? = some v->vs[j]? = some v:=fun j v hj=>by
     rw[<- zBl,hus,YM (Cj.1 hj).1];exact hj
    simp only[Uc]at h;have hadd:(ρ.pl tg).off+row*esz+c=row*esz+c:=by omega
    rw[hadd];clear hadd;generalize row*esz+c=c' at *;cases ha:ti.agg
    ·simp only[ha,vv]at h;split at h
     ·rename_i x hx;obtain⟨u,hu1,hu2⟩:=hrep.get hx;exact⟨u,.a x,fun w' hw=>wW ty w' _ u ha (by rw[cell_of (by rw[hw tg rfl _ ((hfp _).2 rfl)];exact hb)];grind),hu2,H7 h hu2⟩
     grind
    ·simp only[ha,iU]at h;cases hlen:Nat.ble (c'+ti.sz) cs.length
     ·grind
     ·simp only[hlen,iU]at h;have hle:=EY hlen;have hl:=hrep.length;refine⟨_,.agg _,fun w' hw=>wV ty w' _ _ ((us.drop c').take ti.sz) ha (by grind) ?_,⟨_,rfl,(hrep.drop c').take ti.sz⟩,h⟩;intro j v hj;rw[cell_of (by rw[hw tg rfl _ ((hfp _).2 rfl)];exact hb)]
      grind
   |arr cty ks n rows =>
    simp only[Uc]at h;cases h0:Nat.beq esz ks.length
    ·simp[h0]at h
    simp only[h0,iU]at h;have h0':=Nat.eq_of_beq_eq_true h0;subst h0';have key:∀(hr:row<n),∃vs ty' fr,w.heap[(ρ.pl tg).blk]? = some (.cells vs ty' fr)/\(∀b,(ρ.pl tg).fp b↔b=(ρ.pl tg).blk)/\∀j k,ks[j]? = some k->vs[(ρ.pl tg).off+row*ks.length+j]? = some (rows row j)/\k.ok (rows row j):=by
     intro hr;rcases he with⟨hn,_⟩ | ⟨vs,ty',fr,hb,_,_,_,hfp,hrow⟩
     ·omega
     ·grind
    cases ha:ti.agg
    ·simp only[ha,vv]at h;split at h
     ·rename_i k hk;obtain⟨hr,h⟩:=nS h;obtain⟨vs,ty',fr,hb,hfp,hrow⟩:=key hr;obtain⟨e1,e2⟩:=hrow c k hk;exact⟨_,.a _,fun w' hw=>wW ty w' _ _ ha (by rw[cell_of (by rw[hw tg rfl _ ((hfp _).2 rfl)];exact hb)];exact e1),vC e2 ρ,H7 h (vC e2 ρ)⟩
     grind
    ·simp only[ha,iU]at h;cases hlen:Nat.ble (c+ti.sz) ks.length
     ·grind
     ·simp only[hlen,iU]at h;obtain⟨hr,h⟩:=nS h;have hle:=EY hlen;obtain⟨vs,ty',fr,hb,hfp,hrow⟩:=key hr;have hks:((ks.drop c).take ti.sz).length=ti.sz:=by simp;omega
      have hget:∀(j:Nat) (k:CK),((ks.drop c).take ti.sz)[j]? = some k->j<ti.sz/\ks[c+j]? = some k:=by
       intro j k hj;rw[zBu]at hj;split at hj
       ·grind
       ·cases hj
      have hat:=E6 ρ (rows row) ((ks.drop c).take ti.sz) c fun j k hj=>(hrow (c+j) k (hget j k hj).2).2;rw[hks]at hat;refine⟨_,.agg _,fun w' hw=>wV ty w' _ _ ((List.range' c ti.sz).map (rows row)) ha (by simp) ?_,⟨_,rfl,hat⟩,h⟩;intro j v hj;rw[cell_of (by rw[hw tg rfl _ ((hfp _).2 rfl)];exact hb)];have hjl:j<ti.sz:=by
       rcases zBn j ti.sz with h|h
       ·exact h
       ·grind
      have hkj:∃k,ks[c+j]? = some k:=⟨ks[c+j]'(by omega),IC _⟩
      grind
  ·rename_i ti hti hfind;have ty:=hX.ty hti;unfold ain at h;cases hz:Nat.beq ti.sz 0
   ·rw[hz]at h;simp only[vv]at h;have hz0:ti.sz≠0:=fun e=>by rw[e]at hz;cases hz
    split at h
    ·rename_i l hl;obtain⟨_,hfp,vs,vty,fr,us,hb,hrep,hlen,hat⟩:=IM hz0 hh hl;have hadd:(ρ.pl tg).off+row*esz+c=(ρ.pl tg).off+(row*esz+c):=by omega
     rw[hadd];cases ha:ti.agg
     ·simp only[ha,vv]at h;split at h
      ·rename_i x;obtain⟨u,_,rfl,hr,hnil⟩:=hrep;have hnil:=hnil;exact⟨u,.a x,fun w' hw=>wW ty w' _ u ha (by rw[cell_of (by rw[hw tg rfl _ hfp];exact hb)];have:=hat 0 u rfl;omega),hr,H7 h hr⟩
      grind
     ·simp only[ha,iU]at h;refine⟨_,.agg _,fun w' hw=>wV ty w' _ _ us ha hlen ?_,⟨_,rfl,hrep⟩,h⟩;intro j v hj;rw[cell_of (by rw[hw tg rfl _ hfp];exact hb)]
      grind
    grind
   grind
  grind
 grind
end
section
variable {P:Program}
def A.st:A->Bool
 |.any=>false
 |_=>true
theorem A.abo(h:x.st=true)(r:x.cT ρ v):v.oneCell'=true:=by
 cases x<;>simp only[A.st,A.cT]at h r
 case any=>cases h
 case val=>grind
 case slc =>
  obtain⟨_,_,_,⟨_,_,rfl⟩ | ⟨_,rfl,_⟩⟩:=r<;>rfl
 case sub =>
  obtain⟨_,_,_,rfl⟩:=r;rfl
 all_goals first|(rw[r];rfl)|(rw[r.1];rfl)|(rw[r.2];rfl)
def x8:List A->Bool
 |[]=>true
 |x::r=>x.st&&x8 r
theorem Mo{ρ:Env}:∀ {xs:List A} {vs:List Value},x8 xs=true->dw ρ xs vs->∀v∈vs,v.oneCell'=true
 |[],_,_,r,v,hv=>by simp[dw]at r;grind
 |x::xs,_,h,⟨u,t,e,r1,r2⟩,v,hv=>by
  subst e;simp only[x8,jB]at h;rcases uf.1 hv with rfl|hv
  ·exact A.abo h.1 r1
  ·exact Mo h.2 r2 v hv
theorem jI(l:List Value)(o:Nat)(vs:List Value)(h:o+vs.length<=l.length)(p:Nat) :
 (l.take o++vs++l.drop (o+vs.length))[p]? = if o<=p/\p<o+vs.length then vs[p-o]? else l[p]?:=by
 have ht:(l.take o).length=o:=by simp;omega
 grind
variable{p u:Value}{xs:List A}
theorem dw.splice{cs:List A}{vs us:List Value}(h:dw ρ cs vs)(k:dw ρ xs us)(c:Nat):dw ρ (cs.take c++xs++cs.drop (c+xs.length)) (vs.take c++us++vs.drop (c+us.length)):=by
 rw[k.length];exact(((h.take c).append k).append (h.drop _))
def agc:CK->A->Bool
 |.int k,.lit k' _=>uj k k'
 |.int k,.int k' _=>uj k k'
 |.bool,.tt=>true
 |.bool,.ff=>true
 |.bool,.bool _=>true
 |.str,.str _=>true
 |.other,.nil=>true
 |.other,.dJ=>true
 |.other,.fn _=>true
 |.other,.val _=>true
 |.deep,.dJ=>true
 |.deep,.nil=>true
 |.deep,.val _=>true
 |_,_=>false
def A.IN:A->Value
 |.lit k n=>.int k n
 |.int k n=>.int k n
 |.tt=>.bool true
 |.ff=>.bool false
 |.bool b=>.bool b
 |.str s=>.string s
 |.nil=>.pointer none
 |.dJ=>.slice none 0 0
 |.fn f=>.func (.func f) #[] #[]
 |.val v=>v
 |_=>undef
theorem agd{k:CK}(h:agc k x=true)(r:x.cT ρ v):v=x.IN/\k.ok v:=by
 cases k<;>cases x<;>simp only[agc,A.cT]at h r<;>first|(cases h;done)|skip
 case int.lit=>obtain⟨rfl,hr⟩:=r;have:=qj h;subst this;exact⟨rfl,_,rfl,hr⟩
 case int.int=>obtain⟨rfl,hr⟩:=r;have:=qj h;subst this;exact⟨rfl,_,rfl,hr⟩
 case bool.tt=>subst r;exact⟨rfl,_,rfl⟩
 case bool.ff=>subst r;exact⟨rfl,_,rfl⟩
 case bool.bool=>subst r;exact⟨rfl,_,rfl⟩
 case str.str=>obtain⟨rfl,hr⟩:=r;exact⟨rfl,_,rfl,hr⟩
 case other.nil=>subst r;exact⟨rfl,rfl⟩
 case other.dJ=>subst r;exact⟨rfl,rfl⟩
 case other.fn=>subst r;exact⟨rfl,rfl⟩
 case other.val=>obtain⟨rfl,hr⟩:=r;exact⟨rfl,hr⟩
 case deep.dJ=>subst r;exact⟨rfl,rfl⟩
 case deep.nil=>subst r;exact⟨rfl,rfl⟩
 case deep.val=>obtain⟨rfl,hr⟩:=r;exact⟨rfl,hr⟩
def pF:List CK->List A->Bool
 |_,[]=>true
 |[],_::_=>false
 |k::ks,x::xs=>agc k x&&pF ks xs
theorem vD{ρ:Env}:∀ {ks:List CK} {xs:List A} {vs:List Value},pF ks xs=true->dw ρ xs vs->vs=xs.map A.IN/\∀(j:Nat) (v:Value) (k:CK),vs[j]? = some v->ks[j]? = some k->k.ok v
 |_,[],_,_,r=>by simp[dw]at r;grind
 |[],_::_,_,h,_=>by simp[pF]at h
 |k::ks,x::xs,_,h,⟨u,t,e,r1,r2⟩=>by
  subst e;simp only[pF,jB]at h;obtain⟨e1,h1⟩:=agd h.1 r1;obtain⟨e2,h2⟩:=vD h.2 r2
  grind
def mO(rows:Nat->Nat->Value)(row c:Nat)(vs:List Value):Nat->Nat->Value :=
 fun i j=>bif Nat.ble c j&&Nat.blt j (c+vs.length)then(if i=row then vs.getD (j-c) undef else rows i j)else rows i j
def yO:List A->(List Value->Prop)->Prop
 |[],K=>K []
 |x::r,K=>yO r fun r=>K (x.IN::r)
theorem vE:∀(l:List A) (K:List Value->Prop),yO l K=K (l.map A.IN)
 |[],_=>rfl
 |x::r,K=>by simp only[yO,vE r,LS]
def NO(force:Bool)(ch:Chunk)(row esz c:Nat)(xs:List A)(K:Chunk->Prop):Prop :=
 match ch with
 |.obj ty cs=>bif Nat.beq esz 0&&Nat.ble (c+xs.length) cs.length then K (.obj ty (cs.take c++xs++cs.drop (c+xs.length)))else False
 |.arr ty ks n rows=>bif Nat.beq esz ks.length&&(Nat.ble (c+xs.length) ks.length&&pF (ks.drop c) xs)then need force (row<n) (yO xs fun vs=>K (.arr ty ks n (mO rows row c vs)))else False
 |.abs _=>False
 |.Cd ..=>False
 |.dg _=>False
def S.put(s:S)(hp:aX):S:=⟨s.nt,s.fr,hp,s.nx,s.kp,s.rt⟩
def vb:SV->Option (List A)
 |.a x=>some [x]
 |.agg xs=>some xs
 |.nR _=>none
 |.E0 _ _=>none
def Ud(X:Cx)(t:Nat)(x v:SV)(s:S)(K:KV):Prop :=
 match x,vb v with
 |.a (.ptr tg row esz c),some xs =>
  match X.ti t,s.hp.find tg with
  |some ti,some (true,ch)=>bif Nat.beq xs.length ti.sz&&x8 xs then NO X.force ch row esz c xs fun ch'=>K (.a .any) (s.put (s.hp.yJ tg ch'))else False
  |_,_=>False
 |_,_=>False
theorem Mp{off i row esz j c len:Nat}(hj:j<esz)(hc:c+len<=esz):(off+row*esz+c<=off+i*esz+j/\off+i*esz+j<off+row*esz+c+len)↔(i=row/\c<=j/\j<c+len):=by
 constructor
 ·rintro⟨h1,h2⟩;rcases Nat.lt_trichotomy i row with h|h|h
  ·have:=xz esz h
   grind
  ·subst h;omega
  ·have:=xz esz h
   grind
 grind
theorem wX{v:SV}(h:vb v=some xs)(r:v.cT ρ u)(hs:x8 xs=true):dw ρ xs u.cells.toList:=by
 cases v with
 |a x =>
  simp[vb]at h;subst h;simp only[x8,Bool.and_true]at hs;have:=A.abo hs r;cases u<;>first|exact⟨_,_,rfl,r,rfl⟩|grind [Value.oneCell']
 |agg ys=>simp[vb]at h;subst h;obtain⟨vs,rfl,hr⟩:=r;grind [Value.cells]
 |nR ys=>simp[vb]at h
 |E0 f ys=>simp[vb]at h
theorem abp{X:Cx}(hX:X.Ok){x v:SV}{s:S}{K:KV}(h:Ud X t x v s K)(hp:x.cT ρ p)(hv:v.cT ρ u)(hh:ak w0 M ρ s.hp w) :
 ∃b o,p = .pointer (some ⟨b,o,none⟩)/\∃w' eV,(storeVar t ⟨b,o,none⟩ u).run X.P w = .ok () w'/\ak w0 M ρ eV w'/\K (.a .any) (s.put eV):=by
 unfold Ud at h;split at h
 ·rename_i tg row esz c xs hxs;obtain⟨_,rfl⟩:=hp;refine⟨_,_,rfl,?_⟩;split at h
  ·rename_i ti ch hti hfind;have ty:=hX.ty hti;have hent:=hh.jk _ (aX.bO hfind);have he:=hent.ch;simp only at he;cases hb0:(Nat.beq xs.length ti.sz&&x8 xs)
   ·grind
   simp only[hb0,iU]at h;simp only[jB]at hb0;obtain⟨hsz,hst⟩:=hb0;have hsz':=Nat.eq_of_beq_eq_true hsz;have hr:=wX hxs hv hst;have hone:=Mo hst hr;have hlen:=hr.length;have hsize:u.cells.size=ti.sz:=by rw[<- hsz',<- hlen];simp
   have run:∀w',(storeCells ⟨(ρ.pl tg).blk,(ρ.pl tg).off+row*esz+c,none⟩ u.cells.toList).run X.P w = .ok () w'->(storeVar t ⟨(ρ.pl tg).blk,(ρ.pl tg).off+row*esz+c,none⟩ u).run X.P w = .ok () w':=by
    intro w' hw;simp[storeVar,dm ty,hsize,hw]
   cases ch with
   |abs R=>exact h.elim
   |Cd ts tt tc cs R=>exact h.elim
   |dg H=>exact h.elim
   |obj cty cs =>
    obtain⟨vs,fr,hb,hoff,⟨us,ys,hus,hrep⟩,hu,hfp⟩:=he;simp only[NO]at h;cases h0:(Nat.beq esz 0&&Nat.ble (c+xs.length) cs.length)
    ·simp[h0]at h
    simp only[h0,iU]at h;simp only[jB]at h0;have h0':=Nat.eq_of_beq_eq_true h0.1;have hle:=EY h0.2;subst h0';have hadd:(ρ.pl tg).off+row*0+c=c:=by omega
    rw[hadd]at run ⊢;have hl:=hrep.length;have hvl:vs.size=us.length+ys.length:=by rw[<- zBN,hus,wM]
    have hcur0:c+u.cells.toList.length<=us.length:=by simp at hl hlen ⊢;omega
    have hcur:c+0+u.cells.toList.length<=vs.size:=by omega
    have hs:=gT (P:=X.P) (ρ.pl tg).blk c cty fr u.cells.toList 0 vs w hb (fun x _ h2=>hu x (by omega)) hcur hone;refine⟨_,_,run _ hs,hh.yJ hfind ((iy.setRow w _ _).mono fun b _ hb=>(hfp b).2 hb) ?_,h⟩;refine⟨_,fr,setRow_heap w _ _ _ cty fr hb,hoff,⟨_,ys,?_,hrep.splice hr c⟩,hu.size ?_,hfp⟩
    ·grind
    grind
   |arr cty ks n rows =>
    simp only[NO]at h;cases h0:(Nat.beq esz ks.length&&(Nat.ble (c+xs.length) ks.length&&pF (ks.drop c) xs))
    ·simp[h0]at h
    simp only[h0,iU]at h;simp only[jB]at h0;obtain⟨h1,h2,h3⟩:=h0;have h1':=Nat.eq_of_beq_eq_true h1;have hle:=EY h2;subst h1';obtain⟨hrow,h⟩:=nS h;rw[vE]at h;obtain⟨ev,hok⟩:=vD h3 hr;rcases he with⟨hn,_⟩ | ⟨vs,cty,fr,hb,hfit,hnN,hu,hfp,hrows⟩
    ·omega
    have hmul:row*ks.length+ks.length<=(ρ.pl tg).N*ks.length:=by
     have:=xz ks.length (show row+1<=(ρ.pl tg).N by omega);rw[Nat.succ_mul]at this;exact this
    have hcur:(ρ.pl tg).off+row*ks.length+c+0+u.cells.toList.length<=vs.size:=by omega
    have hs:=gT (P:=X.P) (ρ.pl tg).blk ((ρ.pl tg).off+row*ks.length+c) cty fr u.cells.toList 0 vs w hb (fun x h1 h2=>hu x (by omega) (by omega)) hcur hone;refine⟨_,_,run _ hs,hh.yJ hfind ((iy.setRow w _ _).mono fun b _ hb=>(hfp b).2 hb) ?_,h⟩;have hsz2:(vs.toList.take ((ρ.pl tg).off+row*ks.length+c+0)++u.cells.toList++vs.toList.drop ((ρ.pl tg).off+row*ks.length+c+0+u.cells.toList.length)).toArray.size=vs.size:=by simp at hcur ⊢;omega
    refine .inr ⟨_,cty,fr,setRow_heap w _ _ _ cty fr hb,by omega,hnN,hu,hfp,fun i hi j k hk=>?_⟩;have hj:j<ks.length:=(Cj.1 hk).1;obtain⟨e1,e2⟩:=hrows i hi j k hk;rw[zAU,jI _ _ _ (by omega)];have hiff:=Mp (off:=(ρ.pl tg).off) (i:=i) (row:=row) (c:=c) (len:=u.cells.toList.length) hj (by omega);have hxl:(xs.map A.IN).length=u.cells.toList.length:=by rw[<- ev]
    simp only[EZ];by_cases hin:i=row/\c<=j/\j<c+u.cells.toList.length
    ·rw[if_pos (hiff.2 hin)];obtain⟨rfl,hc1,hc2⟩:=hin;have hv2:mO rows i c (xs.map A.IN) i j=u.cells.toList.getD (j-c) undef:=by
      unfold mO;rw[show(Nat.ble c j&&Nat.blt j (c+(xs.map A.IN).length))=true by rw[hxl];simp[Nat.blt];omega];simp[ev]
     rw[hv2];have hidx:(ρ.pl tg).off+i*ks.length+j-((ρ.pl tg).off+i*ks.length+c)=j-c:=by omega
     rw[hidx];have hlt:j-c<u.cells.toList.length:=by omega
     have hge:u.cells.toList[j-c]? = some (u.cells.toList.getD (j-c) undef):=by simp[List.getD,IC hlt]
     exact⟨hge,hok (j-c) _ k hge (by grind)⟩
    ·rw[if_neg fun h=>hin (hiff.1 h)];have hv2:mO rows row c (xs.map A.IN) i j=rows i j:=by
      unfold mO;cases hb:(Nat.ble c j&&Nat.blt j (c+(xs.map A.IN).length))
      ·rfl
      ·rw[hxl]at hb;simp[Nat.blt]at hb
       grind
     grind
  grind
 grind
end
section
def yP(n:Nat)(K:Nat->Prop):Prop:=Nat.rec (motive:=fun _=>Prop) (K 0) (fun m _=>K (m+1)) n
theorem BQ(n:Nat)(K:Nat->Prop):yP n K=K n:=by cases n<;>rfl
def IP(x:A)(K:A->Prop):Prop:=match x with
 |.any=>K .any
 |.lit k n=>K (.lit k n)
 |.int k n=>K (.int k n)
 |.tt=>K .tt
 |.ff=>K .ff
 |.bool b=>K (.bool b)
 |.str s=>K (.str s)
 |.nil=>K .nil
 |.ptr t r e c=>yP t fun t=>yP c fun c=>K (.ptr t r e c)
 |.dJ=>K .dJ
 |.slc t r e l c=>yP t fun t=>K (.slc t r e l c)
 |.sub t r e o l c=>yP t fun t=>K (.sub t r e o l c)
 |.fn f=>K (.fn f)
 |.val v=>K (.val v)
theorem E7(x:A)(K:A->Prop):IP x K=K x:=by cases x<;>simp only[IP,BQ]
def AD:List A->(List A->Prop)->Prop
 |[],K=>K []
 |x::r,K=>IP x fun x=>AD r fun r=>K (x::r)
theorem BR:∀(l:List A) (K:List A->Prop),AD l K=K l
 |[],_=>rfl
 |x::r,K=>by simp only[AD,E7,BR r]
def NP(v:CV)(K:CV->Prop):Prop:=match v with
 |.a x=>IP x fun x=>K (.a x)
 |.agg xs=>AD xs fun xs=>K (.agg xs)
theorem Ue(v:CV)(K:CV->Prop):NP v K=K v:=by cases v<;>simp only[NP,E7,BR]
def H8:List CV->(List CV->Prop)->Prop
 |[],K=>K []
 |x::r,K=>NP x fun x=>H8 r fun r=>K (x::r)
theorem IQ:∀(l:List CV) (K:List CV->Prop),H8 l K=K l
 |[],_=>rfl
 |x::r,K=>by simp only[H8,Ue,IQ r]
def NR(v:SV)(K:SV->Prop):Prop:=match v with
 |.a x=>IP x fun x=>K (.a x)
 |.agg xs=>AD xs fun xs=>K (.agg xs)
 |.nR xs=>H8 xs fun xs=>K (.nR xs)
 |.E0 f xs=>AD xs fun xs=>K (.E0 f xs)
theorem Mq(v:SV)(K:SV->Prop):NR v K=K v:=by cases v<;>simp only[NR,E7,BR,IQ]
variable {P:Program}
def S.new(s:S)(ch:Chunk):S:=⟨s.nt,s.fr,⟨s.nx,true,ch⟩::s.hp,s.nx+1,s.kp,s.rt⟩
theorem G4(w:World)(t:TypeId)(v:Value):(newVar t v).run P w = .ok ⟨w.heap.size,0,none⟩ (w.alloc (.cells v.cells t)):=by
 simp[newVar,newRow]
theorem heap_alloc(w:World)(o:Obj):(w.alloc o).heap[w.heap.size]? = some o:=by
 show(w.heap.push o)[w.heap.size]? = _;simp
variable{K:KV}{cs:List A}{s:S}{vs:Array Value}
theorem ak.newObj(r:ak w0 M ρ hp w)(t:TypeId)(h:dw ρ cs vs.toList) :
 ∃ρ':Env,ρ.le ρ'/\ρ'.n=ρ.n+1/\ρ'.pl ρ.n=⟨w.heap.size,0,0,fun b=>b=w.heap.size⟩/\ak w0 M ρ' (⟨ρ.n,true,.obj t cs⟩::hp) (w.alloc (.cells vs t)):=by
 refine⟨ρ.ext ⟨w.heap.size,0,0,fun b=>b=w.heap.size⟩,ρ.gY _,rfl,ρ.ew _,r.alloc _ _ (fun _=>Iff.rfl) (BP w _ _ _ (cW _)) ?_⟩;exact⟨vs,(0,0),heap_alloc w _,rfl,⟨vs.toList,[],by simp,h.mono (ρ.gY _)⟩,fun o _ ho=>by omega,fun _=>Iff.rfl⟩
theorem ak.age(r:ak w0 M ρ hp w)(t:TypeId)(N:Nat)(h:dw ρ cs vs.toList) :
 ∃ρ':Env,ρ.le ρ'/\ρ'.n=ρ.n+1/\ρ'.pl ρ.n=⟨w.heap.size,0,N,fun b=>b=w.heap.size⟩/\ak w0 M ρ' (⟨ρ.n,true,.obj t cs⟩::hp) (w.alloc (.cells vs t)):=by
 refine⟨ρ.ext ⟨w.heap.size,0,N,fun b=>b=w.heap.size⟩,ρ.gY _,rfl,ρ.ew _,r.alloc _ _ (fun _=>Iff.rfl) (BP w _ _ _ (cW _)) ?_⟩;exact⟨vs,(0,0),heap_alloc w _,rfl,⟨vs.toList,[],by simp,h.mono (ρ.gY _)⟩,fun o _ ho=>by omega,fun _=>Iff.rfl⟩
theorem ak.agf(r:ak w0 M ρ hp w)(t:TypeId)(N:Nat){us xs:List Value}(hvs:vs.toList=us++xs)(h:dw ρ cs us) :
 ∃ρ':Env,ρ.le ρ'/\ρ'.n=ρ.n+1/\ρ'.pl ρ.n=⟨w.heap.size,0,N,fun b=>b=w.heap.size⟩/\ak w0 M ρ' (⟨ρ.n,true,.obj t cs⟩::hp) (w.alloc (.cells vs t)):=by
 refine⟨ρ.ext ⟨w.heap.size,0,N,fun b=>b=w.heap.size⟩,ρ.gY _,rfl,ρ.ew _,r.alloc _ _ (fun _=>Iff.rfl) (BP w _ _ _ (cW _)) ?_⟩;exact⟨vs,(0,0),heap_alloc w _,rfl,⟨us,xs,hvs,h.mono (ρ.gY _)⟩,fun o _ ho=>by omega,fun _=>Iff.rfl⟩
theorem ak.IS(r:ak w0 M ρ hp w)(t:TypeId){ks:List CK}{n N:Nat}{rows:Nat->Nat->Value}(fr:Nat×Nat)(hu:AB vs.size fr)(hfr:fr.2<=fr.1)
 (hN:N*ks.length<=vs.size) (hn:n<=N) (h:∀i,i<n->∀(j:Nat) (k:CK),ks[j]? = some k->vs[i*ks.length+j]? = some (rows i j)/\k.ok (rows i j)) :
 ∃ρ':Env,ρ.le ρ'/\ρ'.n=ρ.n+1/\ρ'.pl ρ.n=⟨w.heap.size,0,N,fun b=>b=w.heap.size⟩/\ak w0 M ρ' (⟨ρ.n,true,.arr t ks n rows⟩::hp) (w.alloc (.cells vs t fr)):=by
 refine⟨ρ.ext ⟨w.heap.size,0,N,fun b=>b=w.heap.size⟩,ρ.gY _,rfl,ρ.ew _,r.alloc _ _ (fun _=>Iff.rfl) (BP w _ _ _ hfr) ?_⟩;refine .inr ⟨vs,t,fr,heap_alloc w _,by simpa using hN,hn,fun x _ h2=>hu x (by grind),fun _=>Iff.rfl,fun i hi j k hk=>?_⟩
 grind
def Uf(X:Cx)(t:Nat)(s:S)(K:KV):Prop :=
 match X.ti t with
 |some ti=>K (.a (.ptr s.nx 0 0 0)) (s.new (.obj t ti.zero))
 |none=>False
theorem abq{X:Cx}(hX:X.Ok)(h:Uf X t s K)(hρ:ρ.n=s.nx)(hh:ak w0 M ρ s.hp w) :
 ∃u w' ρ',(Instr.alloc t true (.tuple #[])).run X.P w = .ok u w'/\ρ.le ρ'/\∃sv s',K sv s'/\s'.nt=s.nt/\s'.fr=s.fr/\ρ'.n=s'.nx/\sv.cT ρ' u/\ak w0 M ρ' s'.hp w':=by
 unfold Uf at h;split at h
 ·rename_i ti hti;have ty:=hX.ty hti;obtain⟨z,hz,_,hzero,hok,_⟩:=kQ ty;obtain⟨ρ',h1,h2,h3,h4⟩:=hh.newObj t (cs:=ti.zero) (vs:=z.cells) (by grind [nB]);refine⟨.pointer (some ⟨w.heap.size,0,none⟩),w.alloc (.cells z.cells t),ρ',by simp[Instr.alloc,hz,G4],h1,_,_,h,rfl,rfl,?_,?_,?_⟩
  ·rw[h2,hρ];rfl
  ·refine⟨by omega,?_⟩
   grind
  ·rw[hρ]at h4;exact h4
 grind
def aiM(t:Nat)(v:SV)(s:S)(K:KV):Prop :=
 match vb v with
 |some xs=>bif x8 xs then K (.a (.ptr s.nx 0 0 0)) (s.new (.obj t xs))else False
 |none=>False
theorem aiN{P:Program}{v:SV}(h:aiM t v s K)(hρ:ρ.n=s.nx)(hh:ak w0 M ρ s.hp w){x:Value}(hv:v.cT ρ x) :
 ∃u w' ρ',(Instr.box t x).run P w = .ok u w'/\ρ.le ρ'/\∃sv s',K sv s'/\s'.nt=s.nt/\s'.fr=s.fr/\ρ'.n=s'.nx/\sv.cT ρ' u/\ak w0 M ρ' s'.hp w':=by
 unfold aiM at h;split at h
 ·rename_i xs hxs;cases hst:x8 xs
  ·grind
  simp only[hst,iU]at h;have hr:=wX hxs hv hst;obtain⟨ρ',h1,h2,h3,h4⟩:=hh.newObj t (vs:=x.cells) hr;refine⟨.pointer (some ⟨w.heap.size,0,none⟩),w.alloc (.cells x.cells t),ρ',by simp[Instr.box,G4],h1,_,_,h,rfl,rfl,?_,?_,?_⟩
  ·rw[h2,hρ];rfl
  ·refine⟨by omega,?_⟩
   grind
  ·rw[hρ]at h4;exact h4
 grind
def lay:List A->List (Nat×Nat×SV)->Option (List A)
 |cs,[]=>some cs
 |cs,(off,sz,v)::r =>
  match vb v with
  |some xs=>bif Nat.beq xs.length sz&&(x8 xs&&Nat.ble (off+sz) cs.length)then lay (cs.take off++xs++cs.drop (off+xs.length)) r else none
  |none=>none
theorem Mr(off:Nat):∀(us:List Value) (k:Nat) (cells:Array Value),off+k+us.length<=cells.size ->
 ((us.zipIdx k).foldl (fun cs (c,j)=>cs.setIfInBounds (off+j) c) cells).toList=cells.toList.take (off+k)++us++cells.toList.drop (off+k+us.length)
 |[],k,cells,_=>by simp
 |u::us,k,cells,h=>by
  simp only[List.zipIdx_cons,List.foldl_cons];rw[Mr off us (k+1) _ (by grind)]
  grind [list_seg_step]
theorem YV(place:Nat->Option (Nat×Nat))(cells:Array Value)(i:Nat)(v:Value)(r:List (Nat×Value))(off size:Nat)(hp:place i=some (off,size))(hs:v.cells.size=size)(hle:off+size<=cells.size) :
 Instr.fill place cells ((i,v)::r)=Instr.fill place (cells.toList.take off++v.cells.toList++cells.toList.drop (off+v.cells.toList.length)).toArray r:=by
 simp only[Instr.fill,hp];rw[if_neg (by grind)];congr 1;have:=Mr off v.cells.toList 0 cells (by simp;omega);apply zBJ.1;simp only[EZ]at this;rw[<- this,<- Array.foldl_toList];simp
theorem DW(place:Nat->Option (Nat×Nat)){ρ:Env}:∀(parts:List (Nat×Nat×SV)) (vals:List (Nat×Value)) (cs:List A) (cells:Array Value) (out:List A),
 dw ρ cs cells.toList->lay cs parts=some out->parts.length=vals.length ->
 (∀(i off sz:Nat) (sv:SV),parts[i]? = some (off,sz,sv)->∃k v,vals[i]? = some (k,v)/\place k=some (off,sz)/\sv.cT ρ v) ->
 ∃res,Instr.fill place cells vals=some res/\dw ρ out res.toList/\res.size=cells.size
 |[],[],cs,cells,out,h,ho,_,_=>by simp[lay]at ho;subst ho;exact⟨cells,rfl,h,rfl⟩
 |[],_::_,_,_,_,_,_,hl,_=>by simp at hl
 |_::_,[],_,_,_,_,_,hl,_=>by simp at hl
 |(off,sz,sv)::parts,(k,v)::vals,cs,cells,out,h,ho,hl,hp=>by
  obtain⟨k',v',e,hpl,hrep⟩:=hp 0 off sz sv rfl;simp at e;obtain⟨rfl,rfl⟩:=e;simp only[lay]at ho;split at ho
  ·rename_i xs hxs;cases hb:(Nat.beq xs.length sz&&(x8 xs&&Nat.ble (off+sz) cs.length))
   ·grind
   simp only[hb,iU]at ho;simp only[jB]at hb;obtain⟨h1,h2,h3⟩:=hb;have h1':=Nat.eq_of_beq_eq_true h1;have h3':=EY h3;have hr:=wX hxs hrep h2;have hlen:=hr.length;have hcl:=h.length;have hsz:v.cells.size=sz:=by rw[<- h1',<- hlen];simp
   have hle:off+sz<=cells.size:=by simpa using(show off+sz<=cells.toList.length by omega)
   have step:=YV place cells k v vals off sz hpl hsz hle;have hs:=h.splice hr off;obtain⟨res,r1,r2,r3⟩:=DW place parts vals _ (cells.toList.take off++v.cells.toList++cells.toList.drop (off+v.cells.toList.length)).toArray out (by simpa using hs) ho (by simpa using hl)
    (fun i off sz sv hi=>by
     obtain⟨k,v,a,b,c⟩:=hp (i+1) off sz sv (by simpa using hi)
     grind)
   grind
  ·cases ho
end
section
variable {P:Program}
def partsOf(pl:Nat->Option (Nat×Nat))(s:S):List (Nat×Operand)->Option (List (Nat×Nat×SV))
 |[]=>some []
 |(i,x)::r =>
  match pl i,partsOf pl s r with
  |some (o,z),some l=>some ((o,z,s.ev x)::l)
  |_,_=>none
theorem yQ(pl:Nat->Option (Nat×Nat))(s:S):∀ {ps:List (Nat×Operand)} {l:List (Nat×Nat×SV)},partsOf pl s ps=some l ->
 l.length=ps.length/\∀(i off sz:Nat) (sv:SV),l[i]? = some (off,sz,sv)->∃k x,ps[i]? = some (k,x)/\pl k=some (off,sz)/\sv=s.ev x
 |[],l,h=>by grind [partsOf]
 |(k,x)::r,l,h=>by
  simp only[partsOf]at h;split at h
  ·rename_i o z l' hpl hr;simp only[T2]at h;subst h;obtain⟨h1,h2⟩:=yQ pl s hr
   grind
  ·cases h
theorem Ck{α β:Type}(f:α->Sem β)(g:α->β)(w:World):∀(l:List α),(∀x∈l,(f x).run P w = .ok (g x) w)->(l.mapM f).run P w = .ok (l.map g) w
 |[],_=>rfl
 |x::l,h=>by
  rw[List.mapM_cons];simp[h x (by simp),Ck f g w l fun y hy=>h y (by simp[hy])]
variable{K:KV}{X:Cx}{e:Nat}{parts:Array (Nat×Operand)}{s:S}{t:TypeId}{α β:Type}
theorem IT(f:α->Sem β)(g:α->β)(w:World)(l:Array α)(h:∀x∈l.toList,(f x).run P w = .ok (g x) w):(l.mapM f).run P w = .ok (l.map g) w:=by
 rw[Array.mapM_eq_mapM_toList];simp only[Sem.run_map,Ck f g w l.toList h,Result.andThen_ok];congr 1
 grind
theorem AE{fs:List (Nat×Nat)}(h:descOf P t = .struct fs):∃gs,P.underlying t=some (.struct gs)/\fs=gs.toList.map fun f=>(f.offset,P.cellsOf f.type):=by
 grind [descOf]
theorem RV{n:Nat}(h:descOf P t = .arr n e):P.underlying t=some (.array n e):=by
 grind [descOf]
theorem dD(h:descOf P t = .slc e):P.underlying t=some (.slice e):=by
 grind [descOf]
theorem tK(h:descOf P t = .str):P.underlying t=some .string:=by
 grind [descOf]
theorem vF(h:descOf P t = .int k):P.underlying t=some (.int k):=by
 grind [descOf]
theorem BS(h:descOf P t = .bool):P.underlying t=some .bool:=by
 grind [descOf]
theorem x9(h:descOf P t = .ptr):∃e,P.underlying t=some (.pointer e):=by
 grind [descOf]
def Ug(X:Cx)(t:Nat)(parts:List (Nat×Operand))(s:S)(K:KV):Prop :=
 match X.ti t with
 |some ti =>
  match ti.d with
  |.struct fs =>
   match partsOf (fun i=>fs[i]?) s parts with
   |some ps=>match lay ti.zero ps with
    |some out=>K (.agg out) s
    |none=>False
   |none=>False
  |.arr _ e =>
   match X.ti e with
   |some te =>
    match partsOf (fun i=>some (i*te.sz,te.sz)) s parts with
    |some ps=>match lay ti.zero ps with
     |some out=>K (.agg out) s
     |none=>False
    |none=>False
   |none=>False
  |_=>False
 |none=>False
theorem abr(hX:X.Ok){t:Nat}(h:Ug X t parts.toList s K){a:Act}(hf:fA ρ s.fr a.tmps) :
 ∃u sv,(∀w:World,(Instr.build t (parts.map fun(i,x)=>(i,a.eval x))).run X.P w = .ok u w)/\sv.cT ρ u/\K sv s:=by
 unfold Ug at h;split at h
 ·rename_i ti hti;have ty:=hX.ty hti;obtain⟨z,hz,_,hzero,hok,_⟩:=kQ ty;have hzr:dw ρ ti.zero z.cells.toList:=by rw[hzero];exact nB ρ hok
  have hmap:∀i:Nat,(parts.map fun((i,x):Nat×Operand)=>(i,a.eval x)).toList[i]? = (parts.toList[i]?).map fun((i,x):Nat×Operand)=>(i,a.eval x):=by intro i;simp
  split at h
  ·rename_i fs hd;split at h
   ·rename_i ps hps;split at h
    ·rename_i out hout;obtain⟨gs,hu,e⟩:=AE (ty.desc.trans hd);have hk:=ty.known;simp only[qM,hu,RO]at hk;have hm:=fun w=>IT (P:=X.P) (fun f:Field=>do pure (f.offset,<- sizeOf f.type)) (fun f=>(f.offset,X.P.cellsOf f.type)) w gs (fun f hfm=>by
      have:=hk f hfm;obtain⟨i,hi⟩:=zBK.1 this;simp[sizeOf,typeInfo,hi,Program.cellsOf])
     obtain⟨hl,hget⟩:=yQ _ s hps;obtain⟨res,r1,r2,_⟩:=DW (fun i=>(gs.map fun f=>(f.offset,X.P.cellsOf f.type))[i]?) ps (parts.map fun((i,x):Nat×Operand)=>(i,a.eval x)).toList ti.zero z.cells out hzr hout (by simp[hl])
      (fun i off sz sv hi=>by
       obtain⟨k,x,h1,h2,rfl⟩:=hget i off sz sv hi;refine⟨k,a.eval x,by grind,?_,hf.ev x⟩
       grind)
     refine⟨.agg res,.agg out,fun w=>?_,⟨res.toList,by simp,r2⟩,h⟩;unfold Instr.build;simp only[Sem.run_bind,hz,Result.andThen_ok,run_underlying hu,hm];rw[show Instr.fill _ _ _=some res from r1];rfl
    grind
   grind
  ·rename_i n e hd;split at h
   ·rename_i te hte;have tye:=hX.ty hte;split at h
    ·rename_i ps hps;split at h
     ·rename_i out hout;have hu:=RV (ty.desc.trans hd);obtain⟨hl,hget⟩:=yQ _ s hps;obtain⟨res,r1,r2,_⟩:=DW (fun i=>some (i*te.sz,te.sz)) ps (parts.map fun((i,x):Nat×Operand)=>(i,a.eval x)).toList ti.zero z.cells out hzr hout (by simp[hl])
       (fun i off sz sv hi=>by
        obtain⟨k,x,h1,h2,rfl⟩:=hget i off sz sv hi;exact⟨k,a.eval x,by grind,h2,hf.ev x⟩)
      refine⟨.agg res,.agg out,fun w=>?_,⟨res.toList,by simp,r2⟩,h⟩;simp[Instr.build,hz,run_underlying hu,dm tye]at r1 ⊢;simp[r1]
     grind
    grind
   grind
  grind
 grind
def rep{α:Type}:Nat->List α->List α
 |0,_=>[]
 |n+1,l=>l++rep n l
theorem vG(n:Nat)(l:List α):(rep n l).length=n*l.length:=by
 induction n with
 |zero=>simp[rep]
 |succ n ih=>simp[rep,ih,Nat.succ_mul,Nat.add_comm]
theorem BT{α:Type}(l:List α):∀(n i:Nat),i<n*l.length->(rep n l)[i]? = l[i%l.length]?
 |0,i,h=>by simp at h
 |n+1,i,h=>by
  rw[rep];by_cases hi:i<l.length
  ·rw[YM hi,Nat.mod_eq_of_lt hi]
  ·rw[zAQ (by omega),BT l n (i-l.length) (by grind)]
   grind [Nat.mod_eq_sub_mod]
theorem dw.rep{ρ:Env}{xs:List A}{vs:List Value}(h:dw ρ xs vs):∀n,dw ρ (Sx.rep n xs) (Sx.rep n vs)
 |0=>rfl
 |n+1=>h.append (dw.rep h n)
theorem vH(z:Array Value)(n sz:Nat)(hs:z.size=sz):((Array.range (n*sz)).map (z[· % z.size]!)).toList=rep n z.toList:=by
 subst hs;apply List.ext_getElem?
 grind [BT,vG]
def aV(esz:Nat)(l:List Value):Nat->Nat->Value:=fun i j=>l.getD (i*esz+j) undef
def AF(X:Cx)(t len:Nat)(parts:List (Nat×Operand))(s:S)(K:KV):Prop :=
 match X.ti t with
 |some ti =>
  match ti.d with
  |.slc e =>
   match X.ti e with
   |some te =>
    match partsOf (fun i=>some (i*te.sz,te.sz)) s parts with
    |some ps=>match lay (rep len te.zero) ps with
     |some out=>bif pF (rep len te.ks) out&&(Nat.ble (len*te.sz) 16777216&&Nat.ble len aB)then
      yO out (fun vs=>K (.a (.slc s.nx 0 te.sz len len)) (s.new (.arr e te.ks len (aV te.sz vs))))
      else bif Nat.ble (len*te.sz) 16777216&&Nat.ble len aB then K (.a (.slc s.nx 0 te.sz len len)) (s.new (.obj e out))else False
     |none=>False
    |none=>False
   |none=>False
  |_=>False
 |none=>False
theorem oW{t:Nat}(ty:II P t i):i.ks.length=i.sz:=by
 grind [ty.info]
theorem aiO(ks:List CK)(n i j:Nat)(k:CK)(hi:i<n)(hj:ks[j]? = some k):(rep n ks)[i*ks.length+j]? = some k:=by
 have hjl:j<ks.length:=(Cj.1 hj).1;have hlt:i*ks.length+j<n*ks.length:=by
  have:=xz ks.length hi;rw[Nat.succ_mul]at this;omega
 grind [BT,Nat.mul_comm,Nat.mul_add_mod,Nat.mod_eq_of_lt]
theorem LX(hX:X.Ok){t len:Nat}(h:AF X t len parts.toList s K)(hρ:ρ.n=s.nx){a:Act}(hf:fA ρ s.fr a.tmps)
 (hh:ak w0 M ρ s.hp w) :
 ∃u w' ρ',(Instr.buildSlice t len (parts.map fun(i,x)=>(i,a.eval x))).run X.P w = .ok u w'/\ρ.le ρ'/\∃sv s',K sv s'/\s'.nt=s.nt/\s'.fr=s.fr/\ρ'.n=s'.nx/\sv.cT ρ' u/\ak w0 M ρ' s'.hp w':=by
 unfold AF at h;split at h
 ·rename_i ti hti;have ty:=hX.ty hti;split at h
  ·rename_i e hd;split at h
   ·rename_i te hte;have tye:=hX.ty hte;split at h
    ·rename_i ps hps;split at h
     ·rename_i out hout;have small:(Nat.ble (len*te.sz) 16777216&&Nat.ble len aB)=true:=by
       cases hs:(Nat.ble (len*te.sz) 16777216&&Nat.ble len aB)
       ·simp[hs]at h
       ·rfl
      simp only[small,Bool.and_true,iU]at h;simp only[jB]at small;obtain⟨hb2,hb3⟩:=small;have hsz:=EY hb2;have hlm:=EY hb3;have hu:=dD (ty.desc.trans hd);obtain⟨z,hz,hzl,hzero,hok,_⟩:=kQ tye;have hzr:dw ρ te.zero z.cells.toList:=by rw[hzero];exact nB ρ hok
      obtain⟨hl,hget⟩:=yQ _ s hps;have hmap:∀i:Nat,(parts.map fun((i,x):Nat×Operand)=>(i,a.eval x)).toList[i]? = (parts.toList[i]?).map fun((i,x):Nat×Operand)=>(i,a.eval x):=by intro i;simp
      have hcells:∃c0:Array Value,(len*te.sz=0->c0 = #[])/\(¬len*te.sz=0->c0=z.cells)/\((Array.range (len*te.sz)).map (c0[· % c0.size]!)).toList=rep len z.cells.toList:=by
       by_cases h0:len*te.sz=0
       ·refine⟨#[],fun _=>rfl,fun h=>absurd h0 h,?_⟩
        grind [vG]
       ·refine⟨z.cells,fun h=>absurd h h0,fun _=>rfl,vH _ _ _ (by omega)⟩
      obtain⟨c0,hc0,hc0',hc1⟩:=hcells;obtain⟨res,r1,r2,_⟩:=DW (fun i=>some (i*te.sz,te.sz)) ps (parts.map fun((i,x):Nat×Operand)=>(i,a.eval x)).toList (rep len te.zero) ((Array.range (len*te.sz)).map (c0[· % c0.size]!)) out (by rw[hc1];exact hzr.rep len) hout (by simp[hl])
       (fun i off sz sv hi=>by
        obtain⟨k,x,h1,h2,rfl⟩:=hget i off sz sv hi;exact⟨k,a.eval x,by grind,h2,hf.ev x⟩)
      have hks:=oW tye;have hrl:res.size=len*te.sz:=by
       have h1:=r2.length;have:res.size=(Array.map (fun x=>c0[x%c0.size]!) (Array.range (len*te.sz))).size:=by
        obtain⟨res',q1,q2,q3⟩:=DW (fun i=>some (i*te.sz,te.sz)) ps (parts.map fun((i,x):Nat×Operand)=>(i,a.eval x)).toList (rep len te.zero) ((Array.range (len*te.sz)).map (c0[· % c0.size]!)) out (by rw[hc1];exact hzr.rep len) hout (by simp[hl])
         (fun i off sz sv hi=>by
          obtain⟨k,x,h1,h2,rfl⟩:=hget i off sz sv hi;exact⟨k,a.eval x,by grind,h2,hf.ev x⟩)
        rw[r1]at q1;cases q1;exact q3
       simpa using this
      have hrun:(Instr.buildSlice t len (parts.map fun(i,x)=>(i,a.eval x))).run X.P w = .ok (.slice (some ⟨w.heap.size,0,none⟩) len len) (w.alloc (.cells res e)):=by
       unfold Instr.buildSlice;simp only[Sem.run_bind,run_underlying hu,Result.andThen_ok,dm tye];rw[if_neg (by omega)];by_cases h0:len*te.sz=0
       ·rw[if_pos h0];have e0:=hc0 h0;simp only[Sem.run_bind,Sem.run_pure,Result.andThen_ok,<- e0];rw[show Instr.fill _ _ _=some res from r1];rfl
       ·rw[if_neg h0];have e0:=hc0' h0;simp only[Sem.run_bind,Sem.run_pure,Result.andThen_ok,hz,<- e0];rw[show Instr.fill _ _ _=some res from r1];rfl
      cases hfit:pF (rep len te.ks) out
      ·simp only[hfit,vv]at h;obtain⟨ρ',p1,p2,p3,p4⟩:=hh.age e len r2;refine⟨.slice (some ⟨w.heap.size,0,none⟩) len len,w.alloc (.cells res e),ρ',hrun,p1,_,_,h,rfl,rfl,?_,?_,?_⟩
       ·rw[p2,hρ];rfl
       ·refine⟨by omega,cW _,hlm,.inr ⟨⟨w.heap.size,0,none⟩,rfl,fun _=>?_⟩⟩
        grind
       ·rw[hρ]at p4;exact p4
      simp only[hfit,iU,vE]at h;obtain⟨ev,hck⟩:=vD hfit r2;obtain⟨ρ',p1,p2,p3,p4⟩:=hh.IS e (ks:=te.ks) (n:=len) (N:=len) (rows:=aV te.sz (out.map A.IN)) (vs:=res) (0,0) (fun o _ ho=>by omega) (cW _) (by grind) (cW _)
       (fun i hi j k hk=>by
        have hjl:j<te.ks.length:=(Cj.1 hk).1;have hlt:i*te.ks.length+j<res.toList.length:=by
         have:=xz te.ks.length hi;rw[Nat.succ_mul]at this;simp only[zBN,hrl];rw[hks]at this hjl ⊢;omega
        have hge:res.toList[i*te.ks.length+j]? = some (aV te.sz (out.map A.IN) i j):=by
         unfold aV;rw[<- hks,<- ev];simp[List.getD,IC hlt]
        grind [aiO])
      refine⟨.slice (some ⟨w.heap.size,0,none⟩) len len,w.alloc (.cells res e),ρ',hrun,p1,_,_,h,rfl,rfl,?_,?_,?_⟩
      ·rw[p2,hρ];rfl
      ·refine⟨by omega,cW _,hlm,.inr ⟨⟨w.heap.size,0,none⟩,rfl,fun _=>?_⟩⟩
       grind
      ·rw[hρ]at p4;exact p4
     grind
    grind
   grind
  grind
 grind
end
section
abbrev PH:=Nat->Option (Nat×List Value)
def pv(b o:Nat):Value:=.pointer (some ⟨b,o,none⟩)
def iK(b o l c:Nat):Value:=.slice (some ⟨b,o,none⟩) l c
def bB(H:PH)(b lo:Nat)(cs:List Value):PH:=fun x=>bif Nat.beq x b then some (lo,cs)else H x
def yR(H:PH)(b:Nat):PH:=fun x=>bif Nat.beq x b then none else H x
@[simp] theorem fJ(H:PH)(b lo:Nat)(cs:List Value):bB H b lo cs b=some (lo,cs):=by simp[bB]
variable{H:PH}{b k lo o x:Nat}{cs:List Value}
theorem dM(h:x≠b):bB H b lo cs x=H x:=by simp[bB,gM h]
@[simp] theorem G5(H:PH)(b:Nat):yR H b b=none:=by simp[yR]
theorem E8(h:x≠b):yR H b x=H x:=by simp[yR,gM h]
def eC:Value->Nat
 |.slice _ l _=>l
 |_=>0
def nj:Value->Nat
 |.slice _ _ c=>c
 |_=>0
def NS(v:Value):Prop:=v = .slice none 0 0\/∃b o l c,v=iK b o l c/\l<=c/\c<=aB
def sk(sz:Nat)(v:Value)(l h m:Nat):Value :=
 match v with
 |.slice (some ⟨b,o,p⟩) _ _=>.slice (some ⟨b,bif Nat.beq m l then o else o+l*sz,p⟩) (h-l) (m-l)
 |_=>.slice none 0 0
def bu(H:PH)(v:Value):PH :=
 match v with
 |.slice (some ⟨b,_,_⟩) _ _=>yR H b
 |_=>H
@[simp] theorem YW(b o l c:Nat):eC (iK b o l c)=l:=rfl
@[simp] theorem akr(b o l c:Nat):nj (iK b o l c)=c:=rfl
@[simp] theorem aio(H:PH)(b o l c:Nat):bu H (iK b o l c)=yR H b:=rfl
@[simp] theorem aks:eC (.slice none 0 0)=0:=rfl
@[simp] theorem akt:nj (.slice none 0 0)=0:=rfl
@[simp] theorem aip(H:PH):bu H (.slice none 0 0)=H:=rfl
@[simp] theorem aku(sz l h m:Nat):sk sz (.slice none 0 0) l h m = .slice none 0 0:=rfl
theorem E9(sz b o L C l h m:Nat):sk sz (iK b o L C) l h m=iK b (if m=l then o else o+l*sz) (h-l) (m-l):=by
 by_cases e:m=l
 ·subst e;simp[sk,iK]
 ·have:Nat.beq m l=false:=by
   rw[zBz];intro hh;exact e (Nat.eq_of_beq_eq_true hh)
  grind [sk,iK]
theorem Uh(sz b o L C h m:Nat):sk sz (iK b o L C) 0 h m=iK b o h m:=by
 rw[E9];simp
def uq(s:S)(K:Nat->Bool->PH->Prop):Prop :=
 match yL s.hp with
 |some tp=>match s.hp.find tp with
  |some (wr,.dg H)=>K tp wr H
  |_=>False
 |none=>False
theorem vm{s:S}{K:Nat->Bool->PH->Prop}(h:uq s K):∃tp wr H,K tp wr H/\s.hp.find tp=some (wr,.dg H):=by
 unfold uq at h
 grind
def NT:List CK->List Value->Nat->Prop
 |[],_,_=>True
 |k::r,cs,o=>(∃v,cs[o]? = some v/\k.ok v)/\NT r cs (o+1)
theorem IU:∀ {ks:List CK} {cs:List Value} {o:Nat},NT ks cs o->∀ {j:Nat} {k:CK},ks[j]? = some k->cs[o+j]? = some (cs.getD (o+j) undef)/\k.ok (cs.getD (o+j) undef)
 |[],_,_,_,j,k,h=>by simp at h
 |k'::r,cs,o,⟨⟨v,h1,h2⟩,h3⟩,j,k,h=>by
  cases j with
  |zero=>grind
  |succ j =>
   have:=IU h3 (j:=j) (k:=k) (by simpa using h)
   grind
structure IV(cs:List Value)(o:Nat)(ks:List CK)(n:Nat)(rows:Nat->Nat->Value):Prop where
 at_:∀i,i<n->∀(j:Nat) (k:CK),ks[j]? = some k->cs[o+i*ks.length+j]? = some (rows i j)/\k.ok (rows i j)
def oo(H:PH)(v:Value)(ks:List CK)(l c:Nat)(rows:Nat->Nat->Value):Prop :=
 (v = .slice none 0 0/\l=0/\c=0)\/∃b lo o cs,v=iK b (lo+o) l c/\(l<=c/\c<=aB)/\H b=some (lo,cs)/\o+c*ks.length<=cs.length/\IV cs o ks l rows
theorem IW{P:Program}{ks:List CK}{p:Place}(hc:(Chunk.dg H).Sat ρ p w)(hH:H b=some (lo,cs)){n:Nat}{rows:Nat->Nat->Value}(hr:IV cs o ks n rows)(hfit:o+n*ks.length<=cs.length)(hk:k<=n) :
 ∃cells:Array Value,(∀w':World,w'.heap=w.heap->(loadCells ⟨b,lo+o,none⟩ (k*ks.length)).run P w' = .ok cells w')/\cells.size=k*ks.length /\
  ∀i,i<k->∀(j:Nat) (c:CK),ks[j]? = some c->cells[i*ks.length+j]? = some (rows i j)/\c.ok (rows i j):=by
 obtain⟨_,vs,ty,fr,hb,hvl,hvs,_⟩:=hc b lo cs hH;have hkm:=xz ks.length hk;have hld:=fun(w':World) (hw:w'.heap=w.heap)=>run_loadCells (P:=P) w' ⟨b,lo+o,none⟩ (k*ks.length) (fun i=>vs.getD (lo+o+i) undef) (fun j hj=>by
  rw[Addr.add_plain,cell_of (by rw[hw];exact hb)];have:lo+o+j<vs.size:=by omega
  simp[Array.getD,this])
 refine⟨_,hld,by simp,fun i hi j c hc=>?_⟩;obtain⟨a,b⟩:=hr.at_ i (by omega) j c hc;refine⟨?_,b⟩;have hjl:j<ks.length:=(Cj.1 hc).1;have hlt:i*ks.length+j<k*ks.length:=by
  have:=xz ks.length hi;rw[Nat.succ_mul]at this;omega
 rw[zAU,zBA,List.getElem?_range hlt];have e3:=hvs (o+(i*ks.length+j)) (by omega);rw[<- T8 o,a]at e3;have e4:lo+(o+i*ks.length+j)=lo+o+(i*ks.length+j):=by omega
 rw[e4]at e3;simp[zAX,e3]
end
section
variable {P:Program}
def agh:CK->CK->Bool
 |.int j,.int k=>uj j k
 |.bool,.bool=>true
 |.str,.str=>true
 |.other,.other=>true
 |.deep,.deep=>true
 |_,_=>false
def qX:List CK->List CK->Bool
 |[],[]=>true
 |a::r,b::t=>agh a b&&qX r t
 |_,_=>false
theorem Xm{a b:CK}(h:agh a b=true):a=b:=by
 cases a<;>cases b<;>simp only[agh]at h<;>first|(cases h;done)|rfl|(rw[qj h])
theorem tL:∀ {a b:List CK},qX a b=true->a=b
 |[],[],_=>rfl
 |a::r,b::t,h=>by
  simp only[qX,jB]at h;rw[Xm h.1,tL h.2]
 |[],_::_,h=>by simp[qX]at h
 |_::_,[],h=>by simp[qX]at h
def sC(b:ByteArray):Nat->Nat->Value:=fun i _=>.int .u8 ((b.data.getD i 0).toNat:Int)
def ya(k:CK):List CK->Bool
 |[]=>true
 |j::r=>agh j k&&ya k r
theorem IX{k:CK}:∀ {l:List CK},ya k l=true->∀ {i:Nat},i<l.length->l[i]? = some k
 |[],_,i,h=>by simp at h
 |j::r,h,i,hi=>by
  simp only[ya,jB]at h;have:=Xm h.1;subst this;cases i with
  |zero=>rfl
  |succ i=>simpa using IX h.2 (i:=i) (by simpa using hi)
def qg(cs:List A)(m:Nat):Nat->Nat->Value:=fun i j=>(cs.getD (i*m+j) .any).IN
def RW(ks:List CK):Nat->List A->Bool
 |0,_=>true
 |n+1,cs=>Nat.ble ks.length cs.length&&(pF ks (cs.take ks.length)&&RW ks n (cs.drop ks.length))
theorem Xn{ks:List CK}{ρ:Env}:∀ {n:Nat} {cs:List A} {us:List Value},RW ks n cs=true->dw ρ cs us->n*ks.length<=cs.length/\∀i,i<n->∀(j:Nat) (k:CK),ks[j]? = some k->us[i*ks.length+j]? = some (qg cs ks.length i j)/\k.ok (qg cs ks.length i j)
 |0,cs,us,_,_=>⟨by omega,fun i hi=>absurd hi (uh i)⟩
 |n+1,cs,us,h,r=>by
  simp only[RW,jB]at h;obtain⟨h0,h1,h2⟩:=h;have hle:=EY h0;obtain⟨g1,g2⟩:=Xn h2 (r.drop ks.length);obtain⟨e1,e2⟩:=vD h1 (r.take ks.length);have hl:=r.length;refine⟨by grind,fun i hi j k hk=>?_⟩;have hjl:j<ks.length:=(Cj.1 hk).1;cases i with
  |zero =>
   have hju:j<us.length:=by omega
   have hjc:j<cs.length:=by omega
   have ev:us[j]? = some ((cs.getD j .any).IN):=by
    have:(us.take ks.length)[j]? = ((cs.take ks.length).map A.IN)[j]?:=by rw[e1]
    rw[zBu,if_pos hjl,zBA,zBu,if_pos hjl,IC hjc]at this;rw[this];simp[List.getD,IC hjc]
   grind [qg]
  |succ i =>
   obtain⟨a,b⟩:=g2 i (by omega) j k hk;have e:(i+1)*ks.length+j=ks.length+(i*ks.length+j):=by rw[Nat.succ_mul];omega
   have er:qg cs ks.length (i+1) j=qg (cs.drop ks.length) ks.length i j:=by
    simp only[qg,e,LP,zBE]
   grind
variable{base:Option Addr}{c l m r r0 rt sCap sLen:Nat}{e xt:TypeId}{ks:List CK}{old:Array Value}{p:Place}{s:S}{te:TI}{u x:Value}{xd:TypeDesc}
theorem Ms{ty:TypeId}{cs:List A}(hc:(Chunk.obj ty cs).Sat ρ p w){q n:Nat}(hf:RW ks n (cs.drop q)=true){k:Nat}(hk:k<=n) :
 ∃cells:Array Value,(∀w':World,w'.heap=w.heap->(loadCells ⟨p.blk,q,none⟩ (k*ks.length)).run P w' = .ok cells w')/\cells.size=k*ks.length /\
  ∀i,i<k->∀(j:Nat) (c:CK),ks[j]? = some c->cells[i*ks.length+j]? = some (qg (cs.drop q) ks.length i j)/\c.ok (qg (cs.drop q) ks.length i j):=by
 obtain⟨vs,fr,hb,hoff,⟨us,xs,hus,hrep⟩,hu,hfp⟩:=hc;obtain⟨g1,g2⟩:=Xn hf (hrep.drop q);have hl:=hrep.length;have hvl:vs.size=us.length+xs.length:=by rw[<- zBN,hus,wM]
 have hkm:=xz ks.length hk;rw[List.length_drop]at g1;have hld:=fun(w':World) (hw:w'.heap=w.heap)=>run_loadCells (P:=P) w' ⟨p.blk,q,none⟩ (k*ks.length) (fun i=>vs.getD (q+i) undef) (fun j hj=>by
  rw[Addr.add_plain,cell_of (by rw[hw];exact hb)];have:q+j<vs.size:=by omega
  simp[Array.getD,this])
 refine⟨_,hld,by simp,fun i hi j c hc=>?_⟩;obtain⟨a,b⟩:=g2 i (by omega) j c hc;refine⟨?_,b⟩;have hjl:j<ks.length:=(Cj.1 hc).1;have hlt:i*ks.length+j<k*ks.length:=by
  have:=xz ks.length hi;rw[Nat.succ_mul]at this;omega
 rw[zAU,zBA,List.getElem?_range hlt];have hin:q+(i*ks.length+j)<us.length:=by omega
 have e3:vs[q+(i*ks.length+j)]? = us[q+(i*ks.length+j)]?:=by rw[<- zBl,hus,YM hin]
 rw[zBE]at a;simp[zAX,e3,a]
def Mt(force:Bool)(s:S)(ks:List CK)(v:SV)(K:Nat->(Nat->Nat->Value)->Prop):Prop :=
 match v with
 |.a .dJ=>K 0 fun _ _=>undef
 |.a (.slc tg r e len _) =>
  match s.hp.find tg with
  |some (_,.arr _ ks' n rows)=>bif Nat.beq e ks'.length&&qX ks' ks then need force (r+len<=n) (K len fun i j=>rows (r+i) j)else False
  |some (_,.obj _ cs)=>bif Nat.beq e ks.length&&RW ks len (cs.drop (r*e))then K len (qg (cs.drop (r*e)) ks.length)else False
  |_=>False
 |.a (.str b)=>bif qX ks [.int .u8]then K b.size (sC b)else False
 |.a (.sub tg r e c len _) =>
  match s.hp.find tg,ks with
  |some (_,.arr _ ks' n rows),[k]=>bif Nat.beq e ks'.length&&(Nat.ble (c+len) ks'.length&&ya k ((ks'.drop c).take len))then need force (r<n) (K len fun i _=>rows r (c+i))else False
  |some (_,.obj _ cs),[k]=>bif RW [k] len (cs.drop (r*e+c))then K len (qg (cs.drop (r*e+c)) 1)else False
  |_,_=>False
 |.a (.val v)=>uq s fun _ _ H=>∃l c rows,oo H v ks l c rows/\K l rows
 |_=>False
structure aiq(P:Program)(ks:List CK)(w:World)(v:Value)(n:Nat)(rows:Nat->Nat->Value)(cells:Array Value):Prop where
 len:(Builtin.lenOf v).run P w = .ok n w
 run:∀w':World,w'.heap=w.heap->(Builtin.firstCells ks.length n v).run P w' = .ok cells w'
 pre:∀k,k<=n->∃cs:Array Value,(∀w':World,w'.heap=w.heap->(Builtin.firstCells ks.length k v).run P w' = .ok cs w')/\cs.size=k*ks.length/\∀i,i<k->∀(j:Nat) (c:CK),ks[j]? = some c->cs[i*ks.length+j]? = some (rows i j)/\c.ok (rows i j)
 size:cells.size=n*ks.length
 row:∀i,i<n->∀(j:Nat) (k:CK),ks[j]? = some k->cells[i*ks.length+j]? = some (rows i j)/\k.ok (rows i j)
 kind:(∃o l c,v = .slice o l c)\/∃s,v = .string s
theorem Fa{ty:TypeId}{n:Nat}{rows:Nat->Nat->Value}(hc:(Chunk.arr ty ks n rows).Sat ρ p w){len:Nat}(hr:r+len<=n)(hl:len≠0) :
 ∃cells:Array Value,(∀w':World,w'.heap=w.heap->(loadCells ⟨p.blk,p.off+r*ks.length,none⟩ (len*ks.length)).run P w' = .ok cells w')/\cells.size=len*ks.length /\
  ∀i,i<len->∀(j:Nat) (k:CK),ks[j]? = some k->cells[i*ks.length+j]? = some (rows (r+i) j)/\k.ok (rows (r+i) j):=by
 rcases hc with⟨hn,_⟩ | ⟨vs,ty',fr,hb,hfit,hnN,hu,hfp,hrows⟩
 ·omega
 have hsz:p.off+(r+len)*ks.length<=vs.size:=by
  have:=xz ks.length (show r+len<=p.N by omega);omega
 rw[zBs]at hsz;have hld:=fun(w':World) (hw:w'.heap=w.heap)=>run_loadCells (P:=P) w' ⟨p.blk,p.off+r*ks.length,none⟩ (len*ks.length) (fun i=>vs.getD (p.off+r*ks.length+i) undef) (fun j hj=>by
  rw[Addr.add_plain,cell_of (by rw[hw];exact hb)];have:p.off+r*ks.length+j<vs.size:=by omega
  simp[Array.getD,this])
 refine⟨_,hld,by simp,fun i hi j k hk=>?_⟩;have hjl:j<ks.length:=(Cj.1 hk).1;obtain⟨e1,e2⟩:=hrows (r+i) (by omega) j k hk;have hlt:i*ks.length+j<len*ks.length:=by
  have:=xz ks.length hi;rw[Nat.succ_mul]at this;omega
 refine⟨?_,e2⟩;rw[zAU,zBA,List.getElem?_range hlt];rw[zBs]at e1;have e3:vs[p.off+r*ks.length+(i*ks.length+j)]? = some (rows (r+i) j):=by rw[<- e1];congr 1;omega
 simp[zAX,e3]
theorem YX{k:CK}{ty:TypeId}{n:Nat}{rows:Nat->Nat->Value}(hc:(Chunk.arr ty ks n rows).Sat ρ p w){len:Nat}(hr:r<n)(hcl:c+len<=ks.length)(hk:ya k ((ks.drop c).take len)=true) :
 ∃cells:Array Value,(∀w':World,w'.heap=w.heap->(loadCells ⟨p.blk,p.off+r*ks.length+c,none⟩ len).run P w' = .ok cells w')/\cells.size=len/\∀i,i<len->cells[i]? = some (rows r (c+i))/\k.ok (rows r (c+i)):=by
 rcases hc with⟨hn,_⟩ | ⟨vs,ty',fr,hb,hfit,hnN,hu,hfp,hrows⟩
 ·omega
 have hat:∀i,i<len->vs[p.off+r*ks.length+c+i]? = some (rows r (c+i))/\k.ok (rows r (c+i)):=by
  intro i hi;have hki:ks[c+i]? = some k:=by
   have:=IX hk (i:=i) (by simp;omega);rw[zBu,if_pos hi,zBE]at this;exact this
  have:=hrows r hr (c+i) k hki;rwa[<- T8]at this
 have hld:=fun(w':World) (hw:w'.heap=w.heap)=>run_loadCells (P:=P) w' ⟨p.blk,p.off+r*ks.length+c,none⟩ len (fun i=>rows r (c+i)) (fun j hj=>by
  grind [Addr.add_plain,cell_of])
 refine⟨_,hld,by simp,fun i hi=>⟨?_,(hat i hi).2⟩⟩
 grind
theorem NU{force:Bool}{v:SV}{K:Nat->(Nat->Nat->Value)->Prop}(h:Mt force s ks v K)(hh:ak w0 M ρ s.hp w)(hu:v.cT ρ u) :
 ∃n rows cells,K n rows/\aiq P ks w u n rows cells:=by
 have fin:∀(n:Nat) (rows:Nat->Nat->Value) (v:Value),K n rows->(Builtin.lenOf v).run P w = .ok n w->((∃o l c,v = .slice o l c)\/∃s,v = .string s) ->
  (∀k,k<=n->∃cs:Array Value,(∀w':World,w'.heap=w.heap->(Builtin.firstCells ks.length k v).run P w' = .ok cs w')/\cs.size=k*ks.length/\∀i,i<k->∀(j:Nat) (c:CK),ks[j]? = some c->cs[i*ks.length+j]? = some (rows i j)/\c.ok (rows i j)) ->
  ∃n rows cells,K n rows/\aiq P ks w v n rows cells:=by
  intro n rows v hK hl hkind hpre;obtain⟨cells,c1,c2,c3⟩:=hpre n (cW _);exact⟨n,rows,cells,hK,hl,c1,hpre,c2,c3,hkind⟩
 unfold Mt at h;split at h
 ·have hu':u = .slice none 0 0:=hu;subst hu';refine fin 0 _ _ h rfl (.inl ⟨_,_,_,rfl⟩) fun k hk=>?_;have:k=0:=by omega
  subst this;exact⟨#[],fun _ _=>rfl,by simp,fun i hi=>absurd hi (uh i)⟩
 ·rename_i tg r e len cap;split at h
  ·rename_i m ty ks' n rows hfind;cases hb:(Nat.beq e ks'.length&&qX ks' ks)
   ·simp[hb]at h
   simp only[hb,iU]at h;simp only[jB]at hb;have he:=Nat.eq_of_beq_eq_true hb.1;have hk:=tL hb.2;subst he;subst hk;obtain⟨hr,h⟩:=nS h;have hc:=(hh.jk _ (aX.bO hfind)).ch;simp only at hc;obtain⟨_,hlc,_,hv⟩:=hu;have hlen:(Builtin.lenOf u).run P w = .ok len w:=by
    rcases hv with⟨rfl,_,rfl⟩ | ⟨o,rfl,_⟩<;>rfl
   have hkind:(∃o l c,u = .slice o l c)\/∃s,u = .string s:=by
    rcases hv with⟨_,_,rfl⟩ | ⟨o,rfl,_⟩<;>exact .inl ⟨_,_,_,rfl⟩
   refine fin len _ _ h hlen hkind fun k hk=>?_;by_cases h0:k=0
   ·subst h0;refine⟨#[],fun _ _=>?_,by simp,fun i hi=>absurd hi (uh i)⟩;rcases hv with⟨_,_,rfl⟩ | ⟨o,rfl,_⟩<;>simp[Builtin.firstCells,loadCells,loadCellsFrom]
   ·rcases hv with⟨h1,_,_⟩ | ⟨o,rfl,ho⟩
    ·omega
    obtain⟨rfl,_⟩:=ho (by omega);obtain⟨cells,c1,c2,c3⟩:=Fa (P:=P) (r:=r) (len:=k) hc (by omega) h0
    grind [Builtin.firstCells]
  ·rename_i m ty cs hfind;cases hb:(Nat.beq e ks.length&&RW ks len (cs.drop (r*e)))
   ·simp[hb]at h
   simp only[hb,iU]at h;simp only[jB]at hb;have he:=Nat.eq_of_beq_eq_true hb.1;have hfn:=hb.2;subst he;have hc:=(hh.jk _ (aX.bO hfind)).ch;simp only at hc;obtain⟨_,hlc,_,hv⟩:=hu;have hlen:(Builtin.lenOf u).run P w = .ok len w:=by
    rcases hv with⟨rfl,_,rfl⟩ | ⟨o,rfl,_⟩<;>rfl
   have hkind:(∃o l c,u = .slice o l c)\/∃s,u = .string s:=by
    rcases hv with⟨_,_,rfl⟩ | ⟨o,rfl,_⟩<;>exact .inl ⟨_,_,_,rfl⟩
   refine fin len _ _ h hlen hkind fun k hk=>?_;by_cases h0:k=0
   ·subst h0;refine⟨#[],fun _ _=>?_,by simp,fun i hi=>absurd hi (uh i)⟩;rcases hv with⟨_,_,rfl⟩ | ⟨o,rfl,_⟩<;>simp[Builtin.firstCells,loadCells,loadCellsFrom]
   ·rcases hv with⟨h1,_,_⟩ | ⟨o,rfl,ho⟩
    ·omega
    obtain⟨rfl,_⟩:=ho (by omega);have hoff:(ρ.pl tg).off=0:=by obtain⟨_,_,_,h0,_⟩:=hc;exact h0
    obtain⟨cells,c1,c2,c3⟩:=Ms (P:=P) hc hfn hk;refine⟨cells,fun w' hw=>?_,c2,c3⟩;have:=c1 w' hw;simp only[hoff,mA]
    grind [Builtin.firstCells]
  grind
 ·rename_i b;cases hb:qX ks [.int .u8]
  ·simp[hb]at h
  simp only[hb,iU]at h;have hk:=tL hb;subst hk;obtain⟨rfl,hs⟩:=hu;refine fin b.size _ _ h rfl (.inr ⟨_,rfl⟩) fun m hm=>?_;have hext:(b.extract 0 m).data=b.data.extract 0 m:=ByteArray.data_extract ..;refine⟨(b.data.extract 0 m).map fun x=>.int .u8 x.toNat,fun _ _=>by simp[Builtin.firstCells,hext],?_,fun i hi j k hj=>?_⟩
  ·show(Array.map _ _).size=m*1;have:b.data.size=b.size:=rfl
   grind
  ·cases j with
   |zero =>
    simp at hj;subst hj;have hi':i<b.data.size:=LR hi hm;have hie:i<(b.data.extract 0 m).size:=by rw[Array.size_extract];omega
    refine⟨?_,_,rfl,?_⟩
    ·show(Array.map _ _)[i*1+0]? = _;rw[T9,EZ,Array.getElem?_map,zAI hie];simp[sC,zAX,zAI hi']
    have:=(b.data.getD i 0).toNat_lt;exact⟨by omega,by omega⟩
   |succ j=>simp at hj
 ·rename_i tg r e c len cap;split at h
  ·rename_i m ty ks' n rows k hfind;cases hb:(Nat.beq e ks'.length&&(Nat.ble (c+len) ks'.length&&ya k ((ks'.drop c).take len)))
   ·simp[hb]at h
   simp only[hb,iU]at h;simp only[jB]at hb;have he:=Nat.eq_of_beq_eq_true hb.1;have hcl:=EY hb.2.1;have hak:=hb.2.2;subst he;obtain⟨hr,h⟩:=nS h;have hc:=(hh.jk _ (aX.bO hfind)).ch;simp only at hc;obtain⟨_,hlc,_,rfl⟩:=hu;refine fin len _ _ h rfl (.inl ⟨_,_,_,rfl⟩) fun m hm=>?_;have hak':ya k ((ks'.drop c).take m)=true:=by
    have key:∀(l:List CK) (a b:Nat),b<=a->ya k (l.take a)=true->ya k (l.take b)=true:=by
     intro l
     induction l with
     |nil=>grind
     |cons x l ih =>
      intro a b hab h;cases b with
      |zero=>simp[ya]
      |succ b =>
       cases a with
       |zero=>omega
       |succ a =>
        simp only[List.take_succ_cons,ya,jB]at h ⊢
        grind
    exact key _ len m hm hak
   obtain⟨cells,c1,c2,c3⟩:=YX (P:=P) (r:=r) (c:=c) (len:=m) hc hr (by omega) hak'
   grind [Builtin.firstCells]
  ·rename_i m ty cs k hfind;cases hfn:RW [k] len (cs.drop (r*e+c))
   ·grind
   simp only[hfn,iU]at h;have hc:=(hh.jk _ (aX.bO hfind)).ch;simp only at hc;obtain⟨_,hlc,_,rfl⟩:=hu;refine fin len _ _ h rfl (.inl ⟨_,_,_,rfl⟩) fun m hm=>?_;have hoff:(ρ.pl tg).off=0:=by obtain⟨_,_,_,h0,_⟩:=hc;exact h0
   obtain⟨cells,c1,c2,c3⟩:=Ms (P:=P) hc hfn hm;refine⟨cells,fun w' hw=>?_,c2,c3⟩;have:=c1 w' hw;simp only[hoff,mA]
   grind [Builtin.firstCells]
  grind
 ·rename_i v;obtain⟨tp,wr,H,h,hf⟩:=vm h;obtain⟨l,c,rows,hat,h9⟩:=h;obtain⟨rfl,_⟩:=hu;have hc:=(hh.jk _ (aX.bO hf)).ch;simp only at hc;rcases hat with⟨rfl,rfl,rfl⟩ | ⟨b,lo,o,cs,rfl,⟨hlc,_⟩,hH,hfit,hr⟩
  ·refine fin 0 _ _ h9 rfl (.inl ⟨_,_,_,rfl⟩) fun k hk=>?_;have:k=0:=by omega
   subst this;exact⟨#[],fun _ _=>rfl,by simp,fun i hi=>absurd hi (uh i)⟩
  ·refine fin l rows _ h9 rfl (.inl ⟨_,_,_,rfl⟩) fun k hk=>?_;have:=xz ks.length hlc;obtain⟨cells,c1,c2,c3⟩:=IW (P:=P) hc hH hr (by omega) hk
   grind [Builtin.firstCells,iK]
 grind
def bq(rows0:Nat->Nat->Value)(r0 l0:Nat)(mo:Nat->Nat->Value):Nat->Nat->Value:=fun i j=>if i<l0 then rows0 (r0+i) j else mo (i-l0) j
def yS(X:Cx)(t:Nat)(x y:SV)(s:S)(K:KV):Prop :=
 match X.ti t with
 |some ti =>
  match ti.d with
  |.slc e =>
   match X.ti e with
   |some te =>
    bif Nat.ble 1 te.bytes then
     match x with
     |.a .dJ=>Mt X.force s te.ks y fun m mo=>need X.force (m*te.bytes<=140737488355328) (∀cap,m<=cap->cap<=aB->K (.a (.slc s.nx 0 te.sz m cap)) (s.new (.arr e te.ks m mo)))
     |.a (.slc t0 r0 e0 l0 c0) =>
      match s.hp.find t0 with
      |some (true,.arr ty ks n rows) =>
       bif Nat.beq ty e&&(Nat.beq e0 te.sz&&qX ks te.ks)then need X.force (r0+l0<=n) (Mt X.force s te.ks y fun m mo=>need X.force ((l0+m)*te.bytes<=140737488355328)
        (∀cap,l0+m<=cap->cap<=aB->(l0+m<=c0->cap=c0)->K (.a (.slc s.nx 0 te.sz (l0+m) cap)) ((s.put (s.hp.del t0)).new (.arr e te.ks (l0+m) (bq rows r0 l0 mo)))))
       else False
      |_=>False
     |_=>False
    else False
   |none=>False
  |_=>False
 |none=>False
theorem sD{t ty:TypeId}(tye:II P e te)(ht:P.underlying t=some (.slice e))(hx:P.underlying xt=some xd)(hxd:xd = .string\/∃e',xd = .slice e')
     {n:Nat} {new:Array Value} (hn:(Builtin.lenOf x).run P w = .ok n w)
 (hnew:(Builtin.firstCells te.sz n x).run P w.drew = .ok new w.drew) (hold:(Builtin.firstCells te.sz sLen (.slice base sLen sCap)).run P w.drew = .ok old w.drew)
 (hgrow:sCap<sLen+n) (hlen:sLen+n<=aB) (hb:(sLen+n)*te.bytes<=140737488355328) (hb1:1<=te.bytes) :
 ∃z:Value,∃cap,sLen+n<=cap/\cap<=aB/\z.cells.toList.length=te.sz/\(Builtin.append_ #[t,xt] ty #[.slice base sLen sCap,x]).run P w =
  .ok (.slice (some ⟨w.heap.size,0,none⟩) (sLen+n) cap) (w.drew.alloc (.cells (old++new++Builtin.zeroCells z.cells (cap-(sLen+n))) e)):=by
 obtain⟨j,hj,hj1,hj2,z,hz,hzl,_⟩:=tye.info;refine⟨z,grownCap w (sLen+n) sCap e,grownCap_ge w _ _ _,grownCap_le_maxLen w _ _ _ hlen,hzl,?_⟩;have h2:¬(Builtin.nextslicecap (sLen+n) sCap*j.bytes > 2^48):=by
  have:=growslice_fits (bytes:=j.bytes) hgrow (by grind);omega
 have h3:¬(sLen+n<=sCap):=by omega
 have hq:(Question.appendCap (sLen+n) sCap e).forced=false:=rfl;have hti:∀w',(typeInfo e).run P w' = .ok j w':=by intro w';simp[typeInfo,hj]
 have hb0:j.bytes≠0:=by omega
 rcases hxd with rfl | ⟨e',rfl⟩
 all_goals
  simp[Builtin.append_,run_underlying ht,run_underlying hx,dm tye,hn,h3,h2,hti,hb0,hq,hold,hnew,zeroValue,hz,newRow,grownCap]
theorem iX{t ty:TypeId}(tye:II P e te)(ht:P.underlying t=some (.slice e))(hx:P.underlying xt=some xd)(hxd:xd = .string\/∃e',xd = .slice e')
 {w':World}    {n:Nat} {new:Array Value} (hn:(Builtin.lenOf x).run P w = .ok n w)
 (hnew:(Builtin.firstCells te.sz n x).run P w = .ok new w) (hroom:sLen+n<=sCap)
 (hst:match base with|some a=>(storeCells (a.add (sLen*te.sz)) new.toList).run P w = .ok () w'|none=>w'=w) :
 (Builtin.append_ #[t,xt] ty #[.slice base sLen sCap,x]).run P w = .ok (.slice base (sLen+n) sCap) w':=by
 rcases hxd with rfl | ⟨e',rfl⟩
 all_goals
  cases base with
  |none =>
   simp only at hst;subst hst;simp[Builtin.append_,run_underlying ht,run_underlying hx,dm tye,hn,hroom,hnew]
  |some a =>
   simp only at hst;simp[Builtin.append_,run_underlying ht,run_underlying hx,dm tye,hn,hroom,hnew,hst]
theorem ak.drew{w0:World}{M:Nat->Prop}{ρ:Env}{hp:aX}{w:World}(h:ak w0 M ρ hp w):ak w0 M ρ hp w.drew :=
 h.world (M':=fun _=>False) ⟨rfl,rfl,rfl,cW _,fun _ _ _=>rfl,fun _ _=>rfl⟩ (fun _ _ h=>h.elim) fun _ _ _ _=>rfl
theorem Xo{new rest:Array Value}{rows0 mo:Nat->Nat->Value}(ho:old.size=l*ks.length)(hn:new.size=m*ks.length)
 (h0:∀i,i<l->∀(j:Nat) (k:CK),ks[j]? = some k->old[i*ks.length+j]? = some (rows0 (r0+i) j)/\k.ok (rows0 (r0+i) j))
 (h1:∀i,i<m->∀(j:Nat) (k:CK),ks[j]? = some k->new[i*ks.length+j]? = some (mo i j)/\k.ok (mo i j)) :
 ∀i,i<l+m->∀(j:Nat) (k:CK),ks[j]? = some k->(old++new++rest)[i*ks.length+j]? = some (bq rows0 r0 l mo i j)/\k.ok (bq rows0 r0 l mo i j):=by
 intro i hi j k hk;have hjl:j<ks.length:=(Cj.1 hk).1;unfold bq;by_cases hil:i<l
 ·grind
 ·rw[if_neg hil];have hge:old.size<=i*ks.length+j:=by
   have:=xz ks.length (Nat.le_of_not_lt hil);omega
  have hsub:(i-l)*ks.length=i*ks.length-l*ks.length:=Nat.sub_mul _ _ _;have hlt2:(i-l)*ks.length+j<new.size:=by
   have:=xz ks.length (show i-l+1<=m by omega);rw[Nat.succ_mul]at this;omega
  rw[Array.append_assoc,Array.getElem?_append_right hge,Array.getElem?_append_left (by omega)];have:=h1 (i-l) (by omega) j k hk;rw[show i*ks.length+j-old.size=(i-l)*ks.length+j by
   have:=xz ks.length (Nat.le_of_not_lt hil);omega]
  exact this
theorem BU{X:Cx}(hX:X.Ok){xt:Nat}(hxt:X.P.underlying xt=some xd)(hxd:xd = .string\/∃e',xd = .slice e'){x y:SV}{K:KV}(h:yS X t x y s K)(hρ:ρ.n=s.nx)
  (hh:ak w0 M ρ s.hp w)  (hu:x.cT ρ u) (hv:y.cT ρ v) :
 ∃r w' ρ',(Builtin.append_ #[t,xt] rt #[u,v]).run X.P w = .ok r w'/\ρ.le ρ'/\∃sv s',K sv s'/\s'.nt=s.nt/\s'.fr=s.fr/\ρ'.n=s'.nx/\sv.cT ρ' r/\ak w0 M ρ' s'.hp w':=by
 unfold yS at h;split at h
 ·rename_i ti hti;have ty:=hX.ty hti;split at h
  ·rename_i e hd;split at h
   ·rename_i te hte;have tye:=hX.ty hte;have hks:=oW tye;have hut:=dD (ty.desc.trans hd);cases hb1:Nat.ble 1 te.bytes
    ·grind
    simp only[hb1,iU]at h;have hby:=EY hb1;have small:∀n,n*te.bytes<=140737488355328->n<=aB:=by
     intro n hn;have:n*1<=n*te.bytes:=zBM n hby;unfold aB;omega
    split at h
    ·
     have hu':u = .slice none 0 0:=hu;subst hu';obtain⟨m,mo,cells,hneed,hsrc⟩:=NU (P:=X.P) h hh hv;obtain⟨hmb,hK⟩:=nS hneed;have hml:=small m hmb;by_cases h0:m=0
     ·subst h0;have hsz:cells.toList=[]:=zAP (by simpa using hsrc.size);refine⟨_,w,ρ.ext ⟨0,0,0,fun _=>False⟩,iX tye hut hxt hxd hsrc.len (by rw[<- hks];exact hsrc.run w rfl) (cW _) rfl,ρ.gY _,_,_,hK 0 (cW _) (Az _),rfl,rfl,?_,?_,?_⟩
      ·show ρ.n+1=s.nx+1;rw[hρ]
      ·exact⟨by show s.nx<ρ.n+1;omega,cW _,Az _,.inl ⟨rfl,rfl,rfl⟩⟩
      ·have h1:=hh.mono (ρ.gY ⟨0,0,0,fun _=>False⟩);refine h1.cons ⟨by show s.nx<ρ.n+1;omega,?_,?_,?_⟩ ?_
       ·rw[<- hρ,ρ.ew];exact .inl ⟨rfl,rfl,fun _ h=>h⟩
       ·grind [ρ.ew]
       ·grind [ρ.ew]
       ·intro z hz;have ht:=(hh.jk z hz).tag;refine⟨by grind,fun _ b hb=>?_⟩
        grind [ρ.ew]
     ·obtain⟨z,cap,hc1,hc2,hz,hrun⟩:=sD (ty:=rt) tye hut hxt hxd (base:=none) (sLen:=0) (sCap:=0) (old:=#[]) hsrc.len (by rw[<- hks];exact hsrc.run w.drew rfl) (by simp[Builtin.firstCells]) (by omega) (by omega) (by grind) hby;simp only[mA]at hrun hc1;obtain⟨ρ',p1,p2,p3,p4⟩:=hh.drew.IS e (ks:=te.ks) (n:=m) (N:=cap) (rows:=bq (fun _ _=>undef) 0 0 mo) (vs:=#[]++cells++Builtin.zeroCells z.cells (cap-m)) (0,0) (fun o _ ho=>by omega) (cW _)
       (by
        have:=hsrc.size;simp only[Array.size_append,size_zeroCells,Array.size_empty];rw[this,show z.cells.size=te.ks.length by grind,mA,<- zBs]
        grind) hc1
       (by simpa using Xo (l:=0) (r0:=0) (rows0:=fun _ _=>undef) (old:=#[]) (rest:=Builtin.zeroCells z.cells (cap-m)) (by simp) hsrc.size (fun i hi=>absurd hi (uh i)) hsrc.row)
      have hrows:bq (fun _ _=>undef) 0 0 mo=mo:=by funext i j;simp[bq]
      rw[hrows]at p4;refine⟨_,_,ρ',hrun,p1,_,_,hK cap hc1 hc2,rfl,rfl,?_,?_,?_⟩
      ·rw[p2,hρ];rfl
      ·refine⟨by omega,hc1,hc2,.inr ⟨_,rfl,fun _=>?_⟩⟩
       ·rw[<- hρ,p3];exact⟨by simp only[zBt,EZ]<;>rfl,by simp⟩
      ·rw[hρ]at p4;exact p4
    ·
     rename_i t0 r0 e0 l0 c0;split at h
     ·rename_i ty0 ks n rows hfind;cases hb:(Nat.beq ty0 e&&(Nat.beq e0 te.sz&&qX ks te.ks))
      ·simp[hb]at h
      simp only[hb,iU]at h;simp only[jB]at hb;have e1:=Nat.eq_of_beq_eq_true hb.1;have e2:=Nat.eq_of_beq_eq_true hb.2.1;have e3:=tL hb.2.2;subst e1;subst e3;obtain⟨hr0,h⟩:=nS h;obtain⟨m,mo,cells,hneed,hsrc⟩:=NU (P:=X.P) h hh hv;obtain⟨hmb,hK⟩:=nS hneed;have hml:=small (l0+m) hmb;have hent:=hh.jk _ (aX.bO hfind);have hc:=hent.ch;have hne:=hh.yK hfind;have hsub:ak w0 M ρ (s.hp.del t0) w:=hh.sub aX.lK;simp only at hc;obtain⟨ht0,hlc,hcm,hval⟩:=hu;have he0:e0=te.ks.length:=by rw[e2,hks]
      subst he0;have place:∀(p:Place) (w':World) (hk:iy (ρ.pl t0).fp w w') (hfp:∀b,p.fp b->(ρ.pl t0).fp b) (ch':Chunk) (hch:ch'.Sat (ρ.ext p) p w'),ak w0 M (ρ.ext p) (⟨s.nx,true,ch'⟩::s.hp.del t0) w':=by
       intro p w' hk hfp ch' hch;have h1:ak w0 M (ρ.ext p) (s.hp.del t0) w':=(hsub.world hk (fun b hb hf=>hent.own rfl b hf hb) (fun z hz b hb=>by
        have:=hne z hz;refine hk.block b ((hh.jk z (aX.lK.subset hz)).lt b hb) fun hf=>this.2 rfl b hf hb)).mono (ρ.gY p)
       refine h1.cons ⟨by show s.nx<ρ.n+1;omega,?_,?_,?_⟩ ?_
       ·grind [ρ.ew]
       ·rw[<- hρ,ρ.ew];exact fun b hb=>LR (hent.lt b (hfp b hb)) hk.size
       ·rw[<- hρ,ρ.ew];exact fun _ b hb hb0=>hent.own rfl b (hfp b hb) hb0
       ·intro z hz;have htz:=(hh.jk z (aX.lK.subset hz)).tag;refine⟨by grind,fun _ b hb hb'=>?_⟩;rw[<- hρ,ρ.ew]at hb;rw[ρ.yI p htz]at hb'
        grind
      by_cases hroom:l0+m<=c0
      ·by_cases hc0:c0=0
       ·
        subst hc0;obtain rfl:l0=0:=by omega
        obtain rfl:m=0:=by omega
        have hsz:cells.toList=[]:=zAP (by simpa using hsrc.size);have hnull:ak w0 M (ρ.ext ⟨(ρ.pl t0).blk,0,0,fun _=>False⟩) (⟨s.nx,true,.arr ty0 te.ks (0+0) (bq rows r0 0 mo)⟩::s.hp.del t0) w :=
         place ⟨(ρ.pl t0).blk,0,0,fun _=>False⟩ w (iy.refl _ _) (fun _ h=>h.elim) (.arr ty0 te.ks (0+0) (bq rows r0 0 mo)) (Or.inl ⟨rfl,rfl,fun _ h=>h⟩)
        have hst:∀(base:Option Addr),(match base with|some a=>(storeCells (a.add (0*te.sz)) cells.toList).run X.P w = .ok () w|none=>w=w):=by
         intro base;cases base with
         |none=>rfl
         |some a=>simp only;rw[hsz];rfl
        have hnew:(Builtin.firstCells te.sz 0 v).run X.P w = .ok cells w:=by rw[<- hks];exact hsrc.run w rfl
        rcases hval with⟨_,_,rfl⟩ | ⟨o,rfl,_⟩
        ·refine⟨_,w,_,iX tye hut hxt hxd hsrc.len hnew (cW _) (hst none),ρ.gY _,_,_,hK 0 (cW _) (Az _) (fun _=>rfl),rfl,rfl,?_,?_,hnull⟩
         ·show ρ.n+1=s.nx+1;rw[hρ]
         ·exact⟨by show s.nx<ρ.n+1;omega,cW _,Az _,.inl ⟨rfl,rfl,rfl⟩⟩
        ·refine⟨_,w,_,iX tye hut hxt hxd hsrc.len hnew (cW _) (hst (some o)),ρ.gY _,_,_,hK 0 (cW _) (Az _) (fun _=>rfl),rfl,rfl,?_,?_,hnull⟩
         ·show ρ.n+1=s.nx+1;rw[hρ]
         ·refine⟨by show s.nx<ρ.n+1;omega,cW _,Az _,.inr ⟨o,rfl,fun h=>absurd rfl h⟩⟩
       ·
        rcases hval with⟨_,h1,_⟩ | ⟨o,rfl,ho⟩
        ·omega
        obtain⟨rfl,hN⟩:=ho hc0;rcases hc with⟨_,hN0,_⟩ | ⟨vs,ty0,fr,hbk,hfit,hnN,hun,hfp,hrows⟩
        ·omega
        have hcap:(ρ.pl t0).off+(r0+c0)*te.ks.length<=vs.size:=by
         have:=xz te.ks.length hN;omega
        have hlm:(l0+m)*te.ks.length<=c0*te.ks.length:=xz _ hroom;rw[zBs]at hcap hlm;have hcl:cells.toList.length=m*te.ks.length:=by simpa using hsrc.size
        have hone:∀z∈cells.toList,z.oneCell'=true:=by
         intro z hz;obtain⟨q,hq,e⟩:=List.getElem_of_mem hz;have hpos:0<te.ks.length:=by
          rcases Nat.eq_zero_or_pos te.ks.length with h|h
          ·grind
          ·exact h
         have hqm:q/te.ks.length<m:=by rw[Nat.div_lt_iff_lt_mul hpos];omega
         have hqr:q%te.ks.length<te.ks.length:=Nat.mod_lt _ hpos;obtain⟨g1,g2⟩:=hsrc.row (q/te.ks.length) hqm (q%te.ks.length) (te.ks[q%te.ks.length]) (IC hqr);rw[show q/te.ks.length*te.ks.length+q%te.ks.length=q from by rw[Nat.mul_comm];exact Nat.div_add_mod q te.ks.length]at g1;have:cells[q]? = some z:=by
          have hq':q<cells.size:=by simpa using hq
          rw[zAI hq'];congr 1
         rw[this]at g1;cases g1;exact g2.one
        have hs:=gT (P:=X.P) (ρ.pl t0).blk ((ρ.pl t0).off+r0*te.ks.length+l0*te.ks.length) ty0 fr cells.toList 0 vs w hbk (fun x h1 h2=>hun x (by omega) (by have:=xz te.ks.length hN;grind)) (by omega) hone;have hadd:(⟨(ρ.pl t0).blk,(ρ.pl t0).off+r0*te.ks.length,none⟩:Addr).add (l0*te.sz)=⟨(ρ.pl t0).blk,(ρ.pl t0).off+r0*te.ks.length+l0*te.ks.length,none⟩:=by rw[<- hks];exact Addr.add_plain _ _ _
        have hsz2:∀(L:List Value),L=vs.toList.take ((ρ.pl t0).off+r0*te.ks.length+l0*te.ks.length+0)++cells.toList++vs.toList.drop ((ρ.pl t0).off+r0*te.ks.length+l0*te.ks.length+0+cells.toList.length)->L.toArray.size=vs.size:=by
         rintro L rfl;simp at hcl ⊢;omega
        refine⟨_,_,ρ.ext ⟨(ρ.pl t0).blk,(ρ.pl t0).off+r0*te.ks.length,(ρ.pl t0).N-r0,(ρ.pl t0).fp⟩,iX tye hut hxt hxd hsrc.len (by rw[<- hks];exact hsrc.run w rfl) hroom (by simp only;rw[hadd];exact hs),ρ.gY _,_,_,hK c0 hroom hcm (fun _=>rfl),rfl,rfl,?_,?_,?_⟩
        ·show ρ.n+1=s.nx+1;rw[hρ]
        ·refine⟨by show s.nx<ρ.n+1;omega,hroom,hcm,.inr ⟨_,rfl,fun _=>⟨?_,?_⟩⟩⟩
         ·grind [ρ.ew]
         grind [ρ.ew]
        ·refine place ⟨(ρ.pl t0).blk,(ρ.pl t0).off+r0*te.ks.length,(ρ.pl t0).N-r0,(ρ.pl t0).fp⟩ _ ((iy.setRow w _ _).mono fun b _ hb=>(hfp b).2 hb) (fun _ h=>h) (.arr _ te.ks (l0+m) (bq rows r0 l0 mo)) (Or.inr ⟨_,ty0,fr,setRow_heap w _ _ _ ty0 fr hbk,?_,?_,fun x h1 h2=>hun x (by grind) (by simp only[Nat.sub_mul]at h1 h2;omega),hfp,fun i hi j k hk=>?_⟩)
         ·rw[hsz2 _ rfl];simp only;rw[Nat.sub_mul];omega
         ·grind
         ·have hjl:j<te.ks.length:=(Cj.1 hk).1;rw[zAU,jI _ _ _ (by grind)];simp only[EZ];unfold bq;by_cases hil:i<l0
          ·have hlt:i*te.ks.length+j<l0*te.ks.length:=by
            have:=xz te.ks.length hil;rw[Nat.succ_mul]at this;omega
           grind
          ·have hsub2:(i-l0)*te.ks.length=i*te.ks.length-l0*te.ks.length:=Nat.sub_mul _ _ _;have hle2:=xz te.ks.length (Nat.le_of_not_lt hil);have hlt2:(i-l0)*te.ks.length+j<m*te.ks.length:=by
            have:=xz te.ks.length (show i-l0+1<=m by omega);rw[Nat.succ_mul]at this;omega
           rw[if_pos (by omega),if_neg hil];obtain⟨g1,g2⟩:=hsrc.row (i-l0) (by omega) j k hk;refine⟨?_,g2⟩;rw[<- g1];simp only[zBl];congr 1;omega
      ·
       have hold:∃old:Array Value,(∀w':World,w'.heap=w.heap->(Builtin.firstCells te.sz l0 u).run X.P w' = .ok old w')/\old.size=l0*te.ks.length /\
        ∀i,i<l0->∀(j:Nat) (k:CK),te.ks[j]? = some k->old[i*te.ks.length+j]? = some (rows (r0+i) j)/\k.ok (rows (r0+i) j):=by
        by_cases hl0:l0=0
        ·subst hl0;refine⟨#[],fun w' _=>?_,by simp,fun i hi=>absurd hi (uh i)⟩;rcases hval with⟨_,_,rfl⟩ | ⟨o,rfl,_⟩<;>simp[Builtin.firstCells,loadCells,loadCellsFrom]
        ·rcases hval with⟨h1,_,_⟩ | ⟨o,rfl,ho⟩
         ·omega
         obtain⟨rfl,_⟩:=ho (by omega);obtain⟨old,c1,c2,c3⟩:=Fa (P:=X.P) hc hr0 hl0
         grind [Builtin.firstCells]
       obtain⟨old,ho1,ho2,ho3⟩:=hold;have hslice:∃base,u = .slice base l0 c0:=by
        rcases hval with⟨rfl,rfl,rfl⟩ | ⟨o,rfl,_⟩<;>exact⟨_,rfl⟩
       obtain⟨base,rfl⟩:=hslice;obtain⟨z,cap,hc1,hc2,hz,hrun⟩:=sD (ty:=rt) tye hut hxt hxd (base:=base) (sLen:=l0) (sCap:=c0) (old:=old) hsrc.len (by rw[<- hks];exact hsrc.run w.drew rfl) (ho1 w.drew rfl) (by omega) hml hmb hby;obtain⟨ρ',p1,p2,p3,p4⟩:=hsub.drew.IS ty0 (ks:=te.ks) (n:=l0+m) (N:=cap) (rows:=bq rows r0 l0 mo) (vs:=old++cells++Builtin.zeroCells z.cells (cap-(l0+m))) (0,0) (fun o _ ho=>by omega) (cW _)
        (by
         simp only[Array.size_append,size_zeroCells];rw[hsrc.size,ho2,show z.cells.size=te.ks.length by grind,<- zBs,<- zBs]
         grind) hc1 (Xo ho2 hsrc.size ho3 hsrc.row)
       refine⟨_,_,ρ',hrun,p1,_,_,hK cap hc1 hc2 (fun h=>absurd h hroom),rfl,rfl,?_,?_,?_⟩
       ·rw[p2,hρ];rfl
       ·refine⟨by omega,hc1,hc2,.inr ⟨_,rfl,fun _=>?_⟩⟩
        ·rw[<- hρ,p3];exact⟨by simp only[zBt,EZ]<;>rfl,by simp⟩
       ·rw[hρ]at p4;exact p4
     grind
    grind
   grind
  grind
 grind
end
section
variable {P:Program}
def abt(X:Cx)(t:Nat)(x y:SV)(s:S)(K:KV):Prop :=
 match X.ti t,x,y with
 |some ti,.a x,.a y =>
  match ti.d,x.i?,y.i? with
  |.slc e,some (k1,l),some (k2,c) =>
   match X.ti e with
   |some te=>bif uj k1 .i64&&(uj k2 .i64&&pF te.ks te.zero)then
    0<=l/\l<=c/\(te.bytes:Int)*c<=281474976710656/\K (.a (.slc s.nx 0 te.sz l.toNat c.toNat)) (s.new (.arr e te.ks c.toNat fun _ j=>(te.zero.map A.IN).getD j undef))else False
   |none=>False
  |_,_,_=>False
 |_,_,_=>False
theorem CU{ρ:Env}{te:TI}(h:pF te.ks te.zero=true){z:Value}(hz:te.zero=z.cells.toList.map HN)(hok:z7 z.cells.toList=true) :
 z.cells.toList=te.zero.map A.IN/\∀(j:Nat) (v:Value) (k:CK),z.cells.toList[j]? = some v->te.ks[j]? = some k->k.ok v :=
 vD (ρ:=ρ) h (by grind [nB])
variable{K:KV}{X:Cx}{hi lo mx:Option Operand}{s:S}{u:Value}{x y:SV}
theorem DX(hX:X.Ok)(h:abt X t x y s K)(hρ:ρ.n=s.nx)(hh:ak w0 M ρ s.hp w)(hu:x.cT ρ u)(hv:y.cT ρ v) :
 ∃r w' ρ',(Instr.makeSlice t u v).run X.P w = .ok r w'/\ρ.le ρ'/\∃sv s',K sv s'/\s'.nt=s.nt/\s'.fr=s.fr/\ρ'.n=s'.nx/\sv.cT ρ' r/\ak w0 M ρ' s'.hp w':=by
 unfold abt at h;split at h
 ·rename_i ti x y hti;have ty:=hX.ty hti;split at h
  ·rename_i e k1 l k2 c hd hx hy;split at h
   ·rename_i te hte;have tye:=hX.ty hte;cases hb:(uj k1 .i64&&(uj k2 .i64&&pF te.ks te.zero))
    ·simp[hb]at h
    simp only[hb,iU]at h;simp only[jB]at hb;obtain⟨hk1,hk2,hfit⟩:=hb;have:=qj hk1;subst this;have:=qj hk2;subst this;obtain⟨h0,h1,h2,hK⟩:=h;obtain⟨rfl,hlr⟩:=A.nD hx hu;obtain⟨rfl,hcr⟩:=A.nD hy hv;have hut:=dD (ty.desc.trans hd);obtain⟨j,hj,hj1,hj2,_⟩:=tye.info;obtain⟨z,hz,hzl,hzero,hok,_⟩:=kQ tye;obtain⟨hzc,hzk⟩:=CU (ρ:=ρ) hfit hzero hok;have hks:=oW tye;have hti:(typeInfo e).run X.P w = .ok j w:=by simp[typeInfo,hj]
    have hwl:IntKind.i64.wrap l=l:=gH hlr;have hwc:IntKind.i64.wrap c=c:=gH hcr;have hcells:∃c0:Array Value,(c.toNat*te.sz=0->c0 = #[])/\(¬c.toNat*te.sz=0->c0=z.cells)/\((Array.range (c.toNat*te.sz)).map (c0[· % c0.size]!)).toList=rep c.toNat z.cells.toList:=by
     by_cases h0:c.toNat*te.sz=0
     ·refine⟨#[],fun _=>rfl,fun h=>absurd h0 h,?_⟩
      grind [vG]
     ·exact⟨z.cells,fun h=>absurd h h0,fun _=>rfl,vH _ _ _ (by omega)⟩
    obtain⟨c0,hc0,hc0',hc1⟩:=hcells;obtain⟨ρ',p1,p2,p3,p4⟩:=hh.IS e (ks:=te.ks) (n:=c.toNat) (N:=c.toNat) (rows:=fun _ j=>(te.zero.map A.IN).getD j undef) (vs:=(Array.range (c.toNat*te.sz)).map (c0[· % c0.size]!)) (0,0) (fun o _ ho=>by omega) (cW _) (by rw[hks];simp) (cW _)
     (fun i hi j k hk=>by
      have hjl:j<te.ks.length:=(Cj.1 hk).1;have hlt:i*te.ks.length+j<c.toNat*z.cells.toList.length:=by
       have:=xz te.ks.length hi;rw[Nat.succ_mul]at this;rw[hzl];rw[hks]at this hjl ⊢;omega
      have e1:(rep c.toNat z.cells.toList)[i*te.ks.length+j]? = z.cells.toList[j]?:=by
       rw[BT _ _ _ hlt,hzl,<- hks,Nat.mul_comm,Nat.mul_add_mod,Nat.mod_eq_of_lt hjl]
      grind)
    refine⟨.slice (some ⟨w.heap.size,0,none⟩) l.toNat c.toNat,w.alloc (.cells ((Array.range (c.toNat*te.sz)).map (c0[· % c0.size]!)) e (0,0)),ρ',?_,p1,_,_,hK,rfl,rfl,?_,?_,?_⟩
    ·have hcond:¬((decide (c<0)||decide ((j.bytes:Int)*c > 2^48)||decide (l<0)||decide (l > c))=true):=by
      rw[hj2];simp;omega
     unfold Instr.makeSlice;simp only[Sem.run_bind,run_underlying hut,Result.andThen_ok,asInt,asIntOf,Sem.run_pure,hti,hwl,hwc];rw[if_neg (by omega)];simp only[Sem.run_bind,run_askRoom,Result.andThen_ok,dm tye];by_cases h0:c.toNat*te.sz=0
     ·rw[if_pos h0];have e0:=hc0 h0;simp only[Sem.run_bind,Sem.run_pure,Result.andThen_ok,<- e0];rfl
     ·rw[if_neg h0];have e0:=hc0' h0;simp only[Sem.run_bind,Sem.run_pure,Result.andThen_ok,hz,<- e0];rfl
    ·rw[p2,hρ];rfl
    ·refine⟨by omega,by omega,?_,.inr ⟨_,rfl,fun _=>?_⟩⟩
     ·have:=hcr.2;unfold aB;omega
     grind
    ·rw[hρ]at p4;exact p4
   grind
  grind
 grind
def pO(s:S)(o:Option Operand)(d top:Nat)(K:Nat->Prop):Prop :=
 match o with
 |none=>K d
 |some x =>
  match s.ev x with
  |.a y=>match y.i? with
   |some (_,n)=>(0<=n/\n<=(top:Int))/\K n.toNat
   |none=>False
  |_=>False
theorem lM{o:Option Operand}{d top:Nat}{K:Nat->Prop}(h:pO s o d top K){a:Act}(hf:fA ρ s.fr a.tmps) :
 ∃n,K n/\(o=none->n=d)/\(∀x,o=some x->n<=top/\∀code (w:World),(Instr.sliceBound (a.eval x) top code).run P w = .ok n w):=by
 unfold pO at h;split at h
 ·grind
 ·rename_i x;split at h
  ·rename_i y hy;split at h
   ·rename_i k n hn;have hr:=hf.ev x;rw[hy]at hr;obtain⟨e,hin⟩:=A.nD hn hr
    grind [run_sliceBound]
   grind
  grind
def Ui(X:Cx)(t:Nat)(x:SV)(lo hi mx:Option Operand)(s:S)(K:KV):Prop :=
 match X.ti t,x with
 |some ti,.a (.str b) =>
  match ti.d,mx with
  |.str,none=>pO s hi b.size b.size fun h=>pO s lo 0 h fun l=>K (.a (.str (b.extract l h))) s
  |_,_=>False
 |some ti,.a (.slc tg r e len cap) =>
  match ti.d with
  |.slc el =>
   match X.ti el with
   |some te=>bif Nat.beq e te.sz&&(mx.isNone||hi.isSome)then
    pO s mx cap cap fun m=>pO s hi len m fun h=>pO s lo 0 h fun l=>K (.a (.slc tg (r+l) e (h-l) (m-l))) s else False
   |none=>False
  |_=>False
 |some ti,.a .dJ =>
  match ti.d with
  |.slc el =>
   match X.ti el with
   |some _=>bif mx.isNone||hi.isSome then pO s mx 0 0 fun m=>pO s hi 0 m fun h=>pO s lo 0 h fun _=>K (.a .dJ) s else False
   |none=>False
  |_=>False
 |some ti,.a (.ptr tg r e c) =>
  match ti.d with
  |.arr n el =>
   match X.ti el with
   |some te=>bif (Nat.beq te.sz 1&&Nat.ble n aB)&&(mx.isNone||hi.isSome)then
    pO s mx n n fun m=>pO s hi n m fun h=>pO s lo 0 h fun l=>l<m/\K (.a (.sub tg r e (c+l) (h-l) (m-l))) s else False
   |none=>False
  |_=>False
 |_,_=>False
theorem sE{isSlice:Bool}{len cap:Nat}{a:Act}{m h l:Nat}(hmx:mx=none\/hi≠none)
 (hm:(mx=none->m=cap)/\∀x,mx=some x->m<=cap/\∀code (w:World),(Instr.sliceBound (a.eval x) cap code).run P w = .ok m w)
 (hh:(hi=none->h=len)/\∀x,hi=some x->h<=m/\∀code (w:World),(Instr.sliceBound (a.eval x) m code).run P w = .ok h w)
 (hl:(lo=none->l=0)/\∀x,lo=some x->l<=h/\∀code (w:World),(Instr.sliceBound (a.eval x) h code).run P w = .ok l w) :
 (Instr.sliceBounds isSlice len cap (lo.map a.eval) (hi.map a.eval) (mx.map a.eval)).run P w = .ok (l,h,m) w:=by
 unfold Instr.sliceBounds;cases mx with
 |none =>
  have:=hm.1 rfl;subst this;cases hi with
  |none =>
   have:=hh.1 rfl;subst this;cases lo with
   |none=>have:=hl.1 rfl;subst this;simp
   |some x=>simp[(hl.2 x rfl).2]
  |some y =>
   cases lo with
   |none=>have:=hl.1 rfl;subst this;simp[(hh.2 y rfl).2]
   |some x=>simp[(hl.2 x rfl).2,(hh.2 y rfl).2]
 |some z =>
  cases hi with
  |none=>grind
  |some y =>
   cases lo with
   |none=>have:=hl.1 rfl;subst this;simp[(hh.2 y rfl).2,(hm.2 z rfl).2]
   |some x=>simp[(hl.2 x rfl).2,(hh.2 y rfl).2,(hm.2 z rfl).2]
theorem abu(hX:X.Ok)(h:Ui X t x lo hi mx s K){a:Act}(hf:fA ρ s.fr a.tmps)(hu:x.cT ρ u) :
 ∃v sv,(∀w:World,(Instr.sliceAt t u (lo.map a.eval) (hi.map a.eval) (mx.map a.eval)).run X.P w = .ok v w)/\sv.cT ρ v/\K sv s:=by
 unfold Ui at h;split at h
 ·
  rename_i ti b hti;have ty:=hX.ty hti;split at h
  ·rename_i hd;have hut:=tK (ty.desc.trans hd);obtain⟨rfl,hs⟩:=hu;obtain⟨hN,h,h1,h2⟩:=lM (P:=X.P) h hf;obtain⟨lN,h,h3,h4⟩:=lM (P:=X.P) h hf;have hb:=fun w=>sE (P:=X.P) (isSlice:=false) (len:=b.size) (cap:=b.size) (lo:=lo) (hi:=hi) (mx:=none) (a:=a) (w:=w) (m:=b.size) (h:=hN) (l:=lN) (.inl rfl) ⟨fun _=>rfl,fun x hx=>by cases hx⟩ ⟨h1,h2⟩ ⟨h3,h4⟩;refine⟨_,.a (.str (b.extract lN hN)),fun w=>?_,⟨rfl,?_⟩,h⟩
   ·have hb:=hb w;simp only[Instr.sliceAt,Sem.run_bind,run_underlying hut,Result.andThen_ok,Instr.slice,Option.map_none,Option.isSome_none,RF,if_false,Sem.run_pure]at hb ⊢;simp[hb]
   grind [ByteArray.size_extract]
  grind
 ·
  rename_i ti tg r e len cap hti;have ty:=hX.ty hti;split at h
  ·rename_i el hd;have hut:=dD (ty.desc.trans hd);split at h
   ·rename_i te hte;have tye:=hX.ty hte;cases hb0:(Nat.beq e te.sz&&(mx.isNone||hi.isSome))
    ·grind
    simp only[hb0,iU]at h;simp only[jB,IE]at hb0;have he:=Nat.eq_of_beq_eq_true hb0.1;have hmx:mx=none\/hi≠none:=by
     rcases hb0.2 with h|h
     ·exact .inl (by simpa using h)
     ·grind
    subst he;obtain⟨mN,h,g1,g2⟩:=lM (P:=X.P) h hf;obtain⟨hN,h,h1,h2⟩:=lM (P:=X.P) h hf;obtain⟨lN,h,h3,h4⟩:=lM (P:=X.P) h hf;have hb:=fun w=>sE (P:=X.P) (isSlice:=true) (len:=len) (cap:=cap) (lo:=lo) (hi:=hi) (mx:=mx) (a:=a) (w:=w) (m:=mN) (h:=hN) (l:=lN) hmx ⟨g1,g2⟩ ⟨h1,h2⟩ ⟨h3,h4⟩;obtain⟨htg,hlc,hcm,hv⟩:=hu;have e1:mN<=cap:=by cases mx with|none=>grind|some y=>grind
    have e2:hN<=mN:=by
     cases hi with
     |none=>grind
     |some y=>grind
    have e3:lN<=hN:=by cases lo with|none=>grind|some y=>grind
    have hrun:∀(base:Option Addr) (w:World),(Instr.sliceAt t (.slice base len cap) (lo.map a.eval) (hi.map a.eval) (mx.map a.eval)).run X.P w = .ok (.slice (if mN=lN then base else base.map (·.add (lN*te.sz))) (hN-lN) (mN-lN)) w:=by
     intro base w;simp only[Instr.sliceAt,Sem.run_bind,run_underlying hut,Result.andThen_ok,Instr.slice,hb,dm tye,Sem.run_pure]
    rcases hv with⟨hl0,hc0,rfl⟩ | ⟨o,rfl,ho⟩
    ·refine⟨_,.a (.slc tg (r+lN) te.sz (hN-lN) (mN-lN)),by have:=hrun none;rw[hl0,hc0]at this;exact this,⟨htg,by omega,by omega,.inl ⟨by omega,by omega,?_⟩⟩,h⟩
     grind
    ·refine⟨_,.a (.slc tg (r+lN) te.sz (hN-lN) (mN-lN)),hrun _,⟨htg,by omega,by omega,?_⟩,h⟩
     grind [Addr.add_plain]
   grind
  grind
 ·
  rename_i ti hti;have ty:=hX.ty hti;split at h
  ·rename_i el hd;have hut:=dD (ty.desc.trans hd);split at h
   ·rename_i te hte;have tye:=hX.ty hte;cases hb0:(mx.isNone||hi.isSome)
    ·grind
    simp only[hb0,iU]at h;simp only[IE]at hb0;have hmx:mx=none\/hi≠none:=by
     rcases hb0 with h|h
     ·exact .inl (by simpa using h)
     ·grind
    obtain⟨mN,h,g1,g2⟩:=lM (P:=X.P) h hf;obtain⟨hN,h,h1,h2⟩:=lM (P:=X.P) h hf;obtain⟨lN,h,h3,h4⟩:=lM (P:=X.P) h hf;have hb:=fun w=>sE (P:=X.P) (isSlice:=true) (len:=0) (cap:=0) (lo:=lo) (hi:=hi) (mx:=mx) (a:=a) (w:=w) (m:=mN) (h:=hN) (l:=lN) hmx ⟨g1,g2⟩ ⟨h1,h2⟩ ⟨h3,h4⟩;have hu':u = .slice none 0 0:=hu;subst hu';have e1:mN<=0:=by cases mx with|none=>grind|some y=>grind
    have e2:hN<=mN:=by
     cases hi with
     |none=>grind
     |some y=>grind
    have e3:lN<=hN:=by cases lo with|none=>grind|some y=>grind
    refine⟨.slice none 0 0,.a .dJ,fun w=>?_,rfl,h⟩;obtain rfl:mN=0:=by omega
    obtain rfl:hN=0:=by omega
    obtain rfl:lN=0:=by omega
    simp only[Instr.sliceAt,Sem.run_bind,run_underlying hut,Result.andThen_ok,Instr.slice,hb,dm tye,Sem.run_pure];simp
   grind
  grind
 ·
  rename_i ti tg r e c hti;have ty:=hX.ty hti;split at h
  ·rename_i n el hd;have hut:=RV (ty.desc.trans hd);split at h
   ·rename_i te hte;have tye:=hX.ty hte;cases hb0:((Nat.beq te.sz 1&&Nat.ble n aB)&&(mx.isNone||hi.isSome))
    ·grind
    simp only[hb0,iU]at h;simp only[jB,IE]at hb0;have hsz:=Nat.eq_of_beq_eq_true hb0.1.1;have hnm:=EY hb0.1.2;have hmx:mx=none\/hi≠none:=by
     rcases hb0.2 with h|h
     ·exact .inl (by simpa using h)
     ·grind
    obtain⟨mN,h,g1,g2⟩:=lM (P:=X.P) h hf;obtain⟨hN,h,h1,h2⟩:=lM (P:=X.P) h hf;obtain⟨lN,h,h3,h4⟩:=lM (P:=X.P) h hf;obtain⟨hlm,h⟩:=h;have hb:=fun w=>sE (P:=X.P) (isSlice:=false) (len:=n) (cap:=n) (lo:=lo) (hi:=hi) (mx:=mx) (a:=a) (w:=w) (m:=mN) (h:=hN) (l:=lN) hmx ⟨g1,g2⟩ ⟨h1,h2⟩ ⟨h3,h4⟩;obtain⟨htg,rfl⟩:=hu;have e1:mN<=n:=by cases mx with|none=>grind|some y=>grind
    have e2:hN<=mN:=by
     cases hi with
     |none =>
      grind
     |some y=>grind
    have hne:mN≠lN:=by omega
    have hadd:(⟨(ρ.pl tg).blk,(ρ.pl tg).off+r*e+c,none⟩:Addr).add (lN*te.sz)=⟨(ρ.pl tg).blk,(ρ.pl tg).off+r*e+(c+lN),none⟩:=by rw[Addr.add_plain,hsz,T9,T8]
    refine⟨.slice (some ⟨(ρ.pl tg).blk,(ρ.pl tg).off+r*e+(c+lN),none⟩) (hN-lN) (mN-lN),.a (.sub tg r e (c+lN) (hN-lN) (mN-lN)),fun w=>?_,⟨htg,by omega,by omega,rfl⟩,h⟩;rw[<- hadd];simp only[Instr.sliceAt,Instr.sureAddr,Sem.run_bind,run_underlying hut,Result.andThen_ok,hb,dm tye,Sem.run_pure,if_neg hne]
   grind
  grind
 grind
def abv(X:Cx)(t:Nat)(x y:SV)(s:S)(K:KV):Prop :=
 match X.ti t,x,y with
 |some ti,.a .dJ,.a y =>
  match ti.d,y.i? with
  |.slc e,some (k,n) =>
   match X.ti e with
   |some te=>bif uj k .i64&&(pF te.ks te.zero&&(Nat.ble 1 te.bytes&&Nat.ble 1 te.sz))then
    (1<=n/\n*(te.bytes:Int)<=140737488355328)/\∀cap,n.toNat<=cap->cap<=aB->K (.a (.slc s.nx 0 te.sz n.toNat cap)) (s.new (.arr e te.ks n.toNat fun _ j=>(te.zero.map A.IN).getD j undef))else False
   |none=>False
  |_,_=>False
 |_,_,_=>False
theorem agi(hX:X.Ok){xt rt:Nat}{ik:IntKind}(hxt:X.P.underlying xt=some (.int ik))(h:abv X t x y s K)(hρ:ρ.n=s.nx)
  (hh:ak w0 M ρ s.hp w)  (hu:x.cT ρ u) (hv:y.cT ρ v) :
 ∃r w' ρ',(Builtin.append_ #[t,xt] rt #[u,v]).run X.P w = .ok r w'/\ρ.le ρ'/\∃sv s',K sv s'/\s'.nt=s.nt/\s'.fr=s.fr/\ρ'.n=s'.nx/\sv.cT ρ' r/\ak w0 M ρ' s'.hp w':=by
 unfold abv at h;split at h
 ·rename_i ti y hti;have ty:=hX.ty hti;split at h
  ·rename_i e k n hd hy;split at h
   ·rename_i te hte;have tye:=hX.ty hte;cases hb:(uj k .i64&&(pF te.ks te.zero&&(Nat.ble 1 te.bytes&&Nat.ble 1 te.sz)))
    ·simp[hb]at h
    simp only[hb,iU]at h;simp only[jB]at hb;obtain⟨hk,hfit,hby,hsz⟩:=hb;have:=qj hk;subst this;have hby:=EY hby;have hsz:=EY hsz;obtain⟨⟨h1,h2⟩,hK⟩:=h;have hu':u = .slice none 0 0:=hu;subst hu';obtain⟨rfl,hnr⟩:=A.nD hy hv;have hut:=dD (ty.desc.trans hd);obtain⟨j,hj,hj1,hj2,z,hz,hzl,hzero,hok,_⟩:=tye.info;obtain⟨hzc,hzk⟩:=CU (ρ:=ρ) hfit hzero hok;have hks:=oW tye;obtain⟨m,rfl⟩:∃m:Nat,n=m:=⟨n.toNat,by omega⟩
    simp only[Ay]at hK;have hmb:m*te.bytes<=140737488355328:=by
     have:((m*te.bytes:Nat):Int)<=140737488355328:=by rw[Int.natCast_mul];exact h2
     omega
    have hm1:1<=m:=by omega
    have hml:m<=aB:=by
     have:m*1<=m*te.bytes:=zBM m hby;unfold aB;omega
    have hrun:(Builtin.append_ #[t,xt] rt #[.slice none 0 0,.int .i64 (m:Int)]).run X.P w =
     .ok (.slice (some ⟨w.heap.size,0,none⟩) m (grownCap w m 0 e)) (w.drew.alloc (.cells (Builtin.zeroCells z.cells m++Builtin.zeroCells z.cells (grownCap w m 0 e-m)) e)):=by
     have g2:¬(281474976710656<Builtin.nextslicecap m 0*j.bytes):=by
      have:=growslice_fits (bytes:=j.bytes) (show 0<m by omega) (by grind);omega
     have g3:¬(m=0):=by omega
     have hq:(Question.appendCap m 0 e).forced=false:=rfl;have hti:∀w',(typeInfo e).run X.P w' = .ok j w':=by intro w';simp[typeInfo,hj]
     have hw:IntKind.i64.wrap (m:Int)=(m:Int):=gH hnr;have g5:¬(281474976710656<(m:Int)*(j.bytes:Int)):=by
      rw[hj2];generalize (m:Int)*(te.bytes:Int)=q at *;omega
     have g4:¬((m:Int)<0):=by omega
     have g6:¬(m*te.sz=0):=by
      have:0<m*te.sz:=Nat.mul_pos (by omega) (by omega);omega
     have g7:¬(9223372036854775807<(m:Int)):=by
      simp only[bZ]at hnr;omega
     simp[Builtin.append_,run_underlying hut,run_underlying hxt,dm tye,asInt,asIntOf,hw,g2,g3,g4,g5,g6,g7,hti,hq,zeroValue,hz,newRow,grownCap,Builtin.firstCells]
    have hzs:z.cells.size=te.ks.length:=by rw[hks];simpa using hzl
    have hcap:=grownCap_ge w m 0 e;have hcap2:=grownCap_le_maxLen w m 0 e hml;obtain⟨ρ',p1,p2,p3,p4⟩:=hh.drew.IS e (ks:=te.ks) (n:=m) (N:=grownCap w m 0 e) (rows:=fun _ j=>(te.zero.map A.IN).getD j undef) (vs:=Builtin.zeroCells z.cells m++Builtin.zeroCells z.cells (grownCap w m 0 e-m)) (0,0) (fun o _ ho=>by omega) (cW _)
     (by
      simp only[Array.size_append,size_zeroCells,hzs,<- zBs]
      grind) hcap
     (fun i hi j k hk=>by
      have hjl:j<te.ks.length:=(Cj.1 hk).1;have hcl:(Builtin.zeroCells z.cells m).toList=rep m z.cells.toList:=by
       have:=vH z.cells m te.ks.length hzs;rw[<- this,Builtin.zeroCells,hzs]
      have hlt:i*te.ks.length+j<m*z.cells.toList.length:=by
       have:=xz te.ks.length hi;rw[Nat.succ_mul]at this;rw[hzl];rw[hks]at this hjl ⊢;omega
      have hlt2:i*te.ks.length+j<(Builtin.zeroCells z.cells m).size:=by
       rw[size_zeroCells];simpa using hlt
      have e1:(rep m z.cells.toList)[i*te.ks.length+j]? = z.cells.toList[j]?:=by
       rw[BT _ _ _ hlt,hzl,<- hks,Nat.mul_comm,Nat.mul_add_mod,Nat.mod_eq_of_lt hjl]
      grind)
    refine⟨_,_,ρ',hrun,p1,_,_,hK _ hcap hcap2,rfl,rfl,?_,?_,?_⟩
    ·rw[p2,hρ];rfl
    ·refine⟨by omega,hcap,hcap2,.inr ⟨_,rfl,fun _=>?_⟩⟩
     ·rw[<- hρ,p3];exact⟨by simp only[zBt,EZ]<;>rfl,by simp⟩
    ·rw[hρ]at p4;exact p4
   grind
  grind
 grind
end
section
variable {P:Program}
def agj(force:Bool)(len:Nat)(K:Bool->Prop)(no:Prop):Prop:=bif force then(bif Nat.beq len 0 then False else no)else ∀b:Bool,(b=true->len=0)->K b
theorem H9{force:Bool}{len:Nat}{K:Bool->Prop}{no:Prop}(h:agj force len K no):(len=0->K true\/(False))/\(K false\/(no/\len≠0)):=by
 cases force with
 |false=>exact⟨fun h0=>.inl (h true fun _=>h0),.inl (h false fun h=>by cases h)⟩
 |true =>
  simp only[agj,iU]at h;cases hb:Nat.beq len 0 with
  |true=>grind
  |false =>
   rw[hb]at h;have h0:len≠0:=fun e=>by subst e;cases hb
   grind
def DY(X:Cx)(op:BinOp)(t:Nat)(x y:A)(K:A->Prop):Prop :=
 match x,y with
 |.str a,.str b =>
  match op with
  |.eql=>K (.bool (decide (a=b)))
  |.neq=>K (.bool (!decide (a=b)))
  |.lss=>K (.bool (Op.bytesLess a.toList b.toList))
  |.gtr=>K (.bool (!(Op.bytesLess a.toList b.toList||decide (a=b))))
  |.leq=>K (.bool (Op.bytesLess a.toList b.toList||decide (a=b)))
  |.geq=>K (.bool (!Op.bytesLess a.toList b.toList))
  |.add=>a.size+b.size<=aB/\K (.str (a++b))
  |_=>False
 |.nil,.nil=>match X.ti t,op with
  |some ti,.eql=>match ti.d with | .ptr=>K .tt|_=>False
  |some ti,.neq=>match ti.d with | .ptr=>K .ff|_=>False
  |_,_=>False
 |.ptr _ _ _ _,.nil=>match X.ti t,op with
  |some ti,.eql=>match ti.d with | .ptr=>K .ff|_=>False
  |some ti,.neq=>match ti.d with | .ptr=>K .tt|_=>False
  |_,_=>False
 |.dJ,.dJ=>match X.ti t,op with
  |some ti,.eql=>match ti.d with | .slc _=>K .tt|_=>False
  |some ti,.neq=>match ti.d with | .slc _=>K .ff|_=>False
  |_,_=>False
 |.slc _ _ _ len _,.dJ=>match X.ti t,op with
  |some ti,.eql=>match ti.d with | .slc _=>agj X.force len (fun b=>K (.bool b)) (K .ff)|_=>False
  |some ti,.neq=>match ti.d with | .slc _=>agj X.force len (fun b=>K (.bool (!b))) (K .tt)|_=>False
  |_,_=>False
 |.sub _ _ _ _ _ _,.dJ=>match X.ti t,op with
  |some ti,.eql=>match ti.d with | .slc _=>K .ff|_=>False
  |some ti,.neq=>match ti.d with | .slc _=>K .tt|_=>False
  |_,_=>False
 |x,y =>
  match x.b?,y.b?,X.ti t,op with
  |some a,some b,some ti,.eql=>match ti.d with | .bool=>K (.bool (a == b))|_=>False
  |some a,some b,some ti,.neq=>match ti.d with | .bool=>K (.bool (!(a == b)))|_=>False
  |_,_,_,_=>False
def RX(X:Cx)(op:BinOp)(t:Nat)(x y:A)(K:A->Prop):Prop :=
 match x,y with
 |.lit k a,.lit j b=>E5 op k a j b K
 |x,y =>
  match x.i?,y.i? with
  |some (k,a),some (j,b)=>bif X.force then E5 op k a j b K else Ub op k a j b K
  |none,none=>DY X op t x y K
  |_,_=>False
theorem toList_inj(a b:ByteArray):(a.toList == b.toList)=decide (a=b):=by
 by_cases h:a=b
 ·subst h;simp
 ·have:a.toList≠b.toList:=by
   intro hh;apply h;have e:a.data.toList=b.data.toList:=by rw[<- ByteArray.toList_eq,<- ByteArray.toList_eq,hh]
   cases a;cases b;simp at e;rw[e]
  simp[h,this]
variable{X:Cx}{b mx:Bool}{dst rt:Nat}{op:BinOp}{s:S}{u:Value}{y:A}
theorem Mu{t:TypeId}{x y:Value}(h:∀d,(Op.equalIn (d+1) t x y).run P w = .ok b w):(Op.equal t x y).run P w = .ok b w:=h 9999
theorem tC{t:TypeId}{x y:Value}(h:∀d,(Op.equalIn (d+1) t x y).run P w = .ok b w):(do Pure.pure (Value.bool (<- Op.equal t x y)):Sem Value).run P w = .ok (.bool b) w:=by
 simp[Mu h]
theorem tD{t:TypeId}{x y:Value}(h:∀d,(Op.equalIn (d+1) t x y).run P w = .ok b w):(do Pure.pure (Value.bool (!(<- Op.equal t x y))):Sem Value).run P w = .ok (.bool (!b)) w:=by
 simp[Mu h]
theorem RY(hX:X.Ok)(h:DY X op t x y K)(hu:x.cT ρ u)(hv:y.cT ρ v) :
 ∃z r,K z/\z.cT ρ r/\∀w:World,(binOp op t u v).run X.P w = .ok r w:=by
 unfold DY at h;split at h
 ·rename_i a b;obtain⟨rfl,ha⟩:=hu;obtain⟨rfl,hb⟩:=hv;split at h
  ·exact⟨_,_,h,rfl,fun w=>by simp[binOp,Op.stringOp,toList_inj]⟩
  ·exact⟨_,_,h,rfl,fun w=>by simp[binOp,Op.stringOp,toList_inj]⟩
  ·exact⟨_,_,h,rfl,fun w=>by simp[binOp,Op.stringOp]⟩
  ·exact⟨_,_,h,rfl,fun w=>by simp[binOp,Op.stringOp,toList_inj]⟩
  ·exact⟨_,_,h,rfl,fun w=>by simp[binOp,Op.stringOp,toList_inj]⟩
  ·exact⟨_,_,h,rfl,fun w=>by simp[binOp,Op.stringOp]⟩
  ·obtain⟨h1,h⟩:=h;refine⟨_,_,h,⟨rfl,by simpa using h1⟩,fun w=>?_⟩;unfold aB at h1;simp[binOp,Op.stringOp];omega
  grind
 ·have hu':u = .pointer none:=hu;have hv':v = .pointer none:=hv;subst hu' hv';split at h
  ·rename_i ti hti;split at h
   ·rename_i hd;obtain⟨e,he⟩:=x9 ((hX.ty hti).desc.trans hd);exact⟨_,.bool true,h,rfl,fun w=>by simp only[binOp];exact tC fun d=>by simp[Op.equalIn,run_underlying he]⟩
   grind
  ·rename_i ti hti;split at h
   ·rename_i hd;obtain⟨e,he⟩:=x9 ((hX.ty hti).desc.trans hd);exact⟨_,.bool (!true),h,rfl,fun w=>by simp only[binOp];exact tD fun d=>by simp[Op.equalIn,run_underlying he]⟩
   grind
  grind
 ·obtain⟨_,rfl⟩:=hu;have hv':v = .pointer none:=hv;subst hv';split at h
  ·rename_i ti hti;split at h
   ·rename_i hd;obtain⟨e,he⟩:=x9 ((hX.ty hti).desc.trans hd);exact⟨_,.bool false,h,rfl,fun w=>by simp only[binOp];exact tC fun d=>by simp[Op.equalIn,run_underlying he]⟩
   grind
  ·rename_i ti hti;split at h
   ·rename_i hd;obtain⟨e,he⟩:=x9 ((hX.ty hti).desc.trans hd);exact⟨_,.bool (!false),h,rfl,fun w=>by simp only[binOp];exact tD fun d=>by simp[Op.equalIn,run_underlying he]⟩
   grind
  grind
 ·have hu':u = .slice none 0 0:=hu;have hv':v = .slice none 0 0:=hv;subst hu' hv';split at h
  ·rename_i ti hti;split at h
   ·rename_i e hd;have he:=dD ((hX.ty hti).desc.trans hd);exact⟨_,.bool true,h,rfl,fun w=>by simp only[binOp];exact tC fun d=>by simp[Op.equalIn,run_underlying he]⟩
   grind
  ·rename_i ti hti;split at h
   ·rename_i e hd;have he:=dD ((hX.ty hti).desc.trans hd);exact⟨_,.bool (!true),h,rfl,fun w=>by simp only[binOp];exact tD fun d=>by simp[Op.equalIn,run_underlying he]⟩
   grind
  grind
 ·have hv':v = .slice none 0 0:=hv;subst hv';obtain⟨_,_,_,hcase⟩:=hu;split at h
  ·rename_i ti hti;split at h
   ·rename_i e hd;have he:=dD ((hX.ty hti).desc.trans hd);rcases hcase with⟨h0,_,rfl⟩ | ⟨o,rfl,_⟩
    ·exact⟨_,.bool true,((H9 h).1 h0).resolve_right id,rfl,fun w=>by simp only[binOp];exact tC fun d=>by simp[Op.equalIn,run_underlying he]⟩
    ·rcases(H9 h).2 with h | ⟨h,_⟩
     ·exact⟨_,.bool false,h,rfl,fun w=>by simp only[binOp];exact tC fun d=>by simp[Op.equalIn,run_underlying he]⟩
     ·exact⟨_,.bool false,h,rfl,fun w=>by simp only[binOp];exact tC fun d=>by simp[Op.equalIn,run_underlying he]⟩
   grind
  ·rename_i ti hti;split at h
   ·rename_i e hd;have he:=dD ((hX.ty hti).desc.trans hd);rcases hcase with⟨h0,_,rfl⟩ | ⟨o,rfl,_⟩
    ·exact⟨_,.bool (!true),((H9 h).1 h0).resolve_right id,rfl,fun w=>by simp only[binOp];exact tD fun d=>by simp[Op.equalIn,run_underlying he]⟩
    ·rcases(H9 h).2 with h | ⟨h,_⟩
     ·exact⟨_,.bool (!false),h,rfl,fun w=>by simp only[binOp];exact tD fun d=>by simp[Op.equalIn,run_underlying he]⟩
     ·exact⟨_,.bool (!false),h,rfl,fun w=>by simp only[binOp];exact tD fun d=>by simp[Op.equalIn,run_underlying he]⟩
   grind
  grind
 ·have hv':v = .slice none 0 0:=hv;subst hv';obtain⟨_,_,_,rfl⟩:=hu;split at h
  ·rename_i ti hti;split at h
   ·rename_i e hd;have he:=dD ((hX.ty hti).desc.trans hd);exact⟨_,.bool false,h,rfl,fun w=>by simp only[binOp];exact tC fun d=>by simp[Op.equalIn,run_underlying he]⟩
   grind
  ·rename_i ti hti;split at h
   ·rename_i e hd;have he:=dD ((hX.ty hti).desc.trans hd);exact⟨_,.bool (!false),h,rfl,fun w=>by simp only[binOp];exact tD fun d=>by simp[Op.equalIn,run_underlying he]⟩
   grind
  grind
 ·split at h
  ·rename_i a b ti ha hb hti;split at h
   ·rename_i hd;have he:=BS ((hX.ty hti).desc.trans hd);have:=A.CS ha hu;subst this;have:=A.CS hb hv;subst this;exact⟨_,.bool (a == b),h,rfl,fun w=>by simp only[binOp];exact tC fun d=>by simp[Op.equalIn,run_underlying he]⟩
   grind
  ·rename_i a b ti ha hb hti;split at h
   ·rename_i hd;have he:=BS ((hX.ty hti).desc.trans hd);have:=A.CS ha hu;subst this;have:=A.CS hb hv;subst this;exact⟨_,.bool (!(a == b)),h,rfl,fun w=>by simp only[binOp];exact tD fun d=>by simp[Op.equalIn,run_underlying he]⟩
   grind
  grind
theorem abw(hX:X.Ok)(h:RX X op t x y K)(hu:x.cT ρ u)(hv:y.cT ρ v) :
 ∃z r,K z/\z.cT ρ r/\∀w:World,(binOp op t u v).run X.P w = .ok r w:=by
 unfold RX at h;split at h
 ·rename_i k a j b;obtain⟨rfl,h1⟩:=hu;obtain⟨rfl,h2⟩:=hv;obtain⟨z,r,a,b,c⟩:=Mn X.P op k j a b t h1 h2 h;exact⟨z,r,a,b ρ,c⟩
 ·split at h
  ·rename_i k a j b h1 h2;obtain⟨rfl,h1⟩:=A.nD h1 hu;obtain⟨rfl,h2⟩:=A.nD h2 hv;cases hf:X.force with
   |true =>
    rw[hf]at h;obtain⟨z,r,a,b,c⟩:=Mn X.P op k j a b t h1 h2 h;exact⟨z,r,a,b ρ,c⟩
   |false =>
    rw[hf]at h;obtain⟨z,r,a,b,c⟩:=YT X.P op k j a b t h1 h2 h;exact⟨z,r,a,b ρ,c⟩
  ·grind [RY]
  grind
def A.plain:A->Bool
 |.any=>false
 |.val _=>false
 |_=>true
theorem RZ(h:RX X op t x y K):x.plain=true:=by
 cases x<;>first|rfl|(exfalso;cases y<;>simp[RX,DY,A.i?,A.b?]at h)
theorem LY(op:BinOp)(t:TypeId)(x y:Operand){a:A}(hu:a.cT ρ u)(ha:a.plain=true)(v:Value)(w:World):(eqGuard op t x y u v).run P w = .ok () w:=by
 have:u≠.nilIface/\(∀cs,u≠.agg cs):=by
  cases a<;>simp only[A.plain]at ha<;>first|(cases ha;done)|skip
  case slc=>obtain⟨_,_,_,⟨_,_,rfl⟩ | ⟨_,rfl,_⟩⟩:=hu<;>exact⟨by simp,by simp⟩
  case sub=>obtain⟨_,_,_,rfl⟩:=hu;grind
  all_goals first|(have hu':u=_:=hu;grind)|(have hu':u=_:=hu.1;grind)|(have hu':u=_:=hu.2;grind)
 unfold eqGuard;cases op<;>first|rfl|skip
 all_goals
  simp only;cases u<;>first|rfl|grind|grind
def aiP(X:Cx)(t:Nat)(x:SV)(K:A->Prop):Prop :=
 match X.ti t,x with
 |some ti,.a (.str s)=>match ti.d with | .str=>K (.int .i64 s.size)|_=>False
 |some ti,.a (.slc _ _ _ len _)=>match ti.d with | .slc _=>K (.int .i64 len)|_=>False
 |some ti,.a .dJ=>match ti.d with | .slc _=>K (.lit .i64 0)|_=>False
 |some ti,.a (.sub _ _ _ _ len _)=>match ti.d with | .slc _=>K (.int .i64 len)|_=>False
 |_,_=>False
theorem aiQ(hX:X.Ok){x:SV}(h:aiP X t x K)(hu:x.cT ρ u) :
 ∃z r,K z/\z.cT ρ r/\∀w:World,(Builtin.len_ #[t] rt #[u]).run X.P w = .ok r w:=by
 unfold aiP at h;split at h
 ·rename_i ti s hti;split at h
  ·rename_i hd;have he:=tK ((hX.ty hti).desc.trans hd);obtain⟨rfl,hs⟩:=hu;refine⟨_,_,h,⟨rfl,by constructor<;>unfold aB at hs<;>omega⟩,fun w=>by simp[Builtin.len_,run_underlying he,goInt]⟩
  grind
 ·rename_i ti tg r e len cap hti;split at h
  ·rename_i el hd;have he:=dD ((hX.ty hti).desc.trans hd);obtain⟨_,h1,h2,hc⟩:=hu;refine⟨_,.int .i64 len,h,⟨rfl,by constructor<;>unfold aB at h2<;>omega⟩,fun w=>?_⟩;rcases hc with⟨rfl,_,rfl⟩ | ⟨o,rfl,_⟩<;>simp[Builtin.len_,run_underlying he,goInt]
  grind
 ·rename_i ti hti;split at h
  ·rename_i el hd;have he:=dD ((hX.ty hti).desc.trans hd);have hu':u = .slice none 0 0:=hu;subst hu';exact⟨_,.int .i64 0,h,⟨rfl,by constructor<;>omega⟩,fun w=>by simp[Builtin.len_,run_underlying he,goInt]⟩
  grind
 ·rename_i ti tg r e o len cap hti;split at h
  ·rename_i el hd;have he:=dD ((hX.ty hti).desc.trans hd);obtain⟨_,h1,h2,rfl⟩:=hu;exact⟨_,.int .i64 len,h,⟨rfl,by constructor<;>unfold aB at h2<;>omega⟩,fun w=>by simp[Builtin.len_,run_underlying he,goInt]⟩
  grind
 grind
def aiR(X:Cx)(t:Nat)(x:SV)(K:A->Prop):Prop :=
 match X.ti t,x with
 |some ti,.a (.slc _ _ _ _ cap)=>match ti.d with | .slc _=>K (.int .i64 cap)|_=>False
 |some ti,.a .dJ=>match ti.d with | .slc _=>K (.lit .i64 0)|_=>False
 |_,_=>False
theorem aiS(hX:X.Ok){x:SV}(h:aiR X t x K)(hu:x.cT ρ u) :
 ∃z r,K z/\z.cT ρ r/\∀w:World,(Builtin.cap_ #[t] rt #[u]).run X.P w = .ok r w:=by
 unfold aiR at h;split at h
 ·rename_i ti tg r e len cap hti;split at h
  ·rename_i el hd;have he:=dD ((hX.ty hti).desc.trans hd);obtain⟨_,h1,h2,hc⟩:=hu;refine⟨_,.int .i64 cap,h,⟨rfl,by constructor<;>unfold aB at h2<;>omega⟩,fun w=>?_⟩;rcases hc with⟨_,rfl,rfl⟩ | ⟨o,rfl,_⟩<;>simp[Builtin.cap_,run_underlying he,goInt]
  grind
 ·rename_i ti hti;split at h
  ·rename_i el hd;have he:=dD ((hX.ty hti).desc.trans hd);have hu':u = .slice none 0 0:=hu;subst hu';exact⟨_,.int .i64 0,h,⟨rfl,by constructor<;>omega⟩,fun w=>by simp[Builtin.cap_,run_underlying he,goInt]⟩
  grind
 grind
def Xp(mx:Bool)(x y:A)(K:A->Prop):Prop :=
 match x,y with
 |.lit k a,.lit j b=>bif uj k j then K (.lit k (if(bif mx then decide (a<b)else decide (b<a))=true then b else a))else False
 |x,y =>
  match x.i?,y.i? with
  |some (k,a),some (j,b)=>bif uj k j then K (.int k (bif mx then max a b else min a b))else False
  |_,_=>False
theorem Xq{P:Program}(h:Xp mx x y K)(hu:x.cT ρ u)(hv:y.cT ρ v) :
 ∃z r,K z/\z.cT ρ r/\∀w:World,((bif mx then Builtin.max_ #[] 0 #[u,v]else Builtin.min_ #[] 0 #[u,v]):Sem Value).run P w = .ok r w:=by
 have key:∀(k:IntKind) (a b:Int) (w:World),((bif mx then Builtin.max_ #[] 0 #[.int k a,.int k b]else Builtin.min_ #[] 0 #[.int k a,.int k b]):Sem Value).run P w = .ok (.int k (if(bif mx then decide (a<b)else decide (b<a))=true then b else a)) w:=by
  intro k a b w;cases mx<;>simp[Builtin.max_,Builtin.min_,Builtin.min2,Builtin.max2]
 unfold Xp at h;split at h
 ·rename_i k a j b;cases hk:uj k j
  ·simp[hk]at h
  simp only[hk,iU]at h;have:=qj hk;subst this;obtain⟨rfl,h1⟩:=hu;obtain⟨rfl,h2⟩:=hv;refine⟨_,_,h,⟨rfl,?_⟩,key k a b⟩
  grind
 ·split at h
  ·rename_i k a j b h1 h2;obtain⟨rfl,h1⟩:=A.nD h1 hu;obtain⟨rfl,h2⟩:=A.nD h2 hv;cases hk:uj k j
   ·simp[hk]at h
   simp only[hk,iU]at h;have:=qj hk;subst this;have e:(bif mx then max a b else min a b)=(if(bif mx then decide (a<b)else decide (b<a))=true then b else a):=by
    cases mx<;>simp<;>omega
   refine⟨_,_,h,⟨?_,?_⟩,key k a b⟩
   ·rw[e]
   grind
  grind
def fits(j k:IntKind):Bool:=match j,k with
 |.u8,.u8=>true | .u8,.u16=>true | .u8,.u32=>true | .u8,.u64=>true | .u8,.i16=>true | .u8,.i32=>true | .u8,.i64=>true
 |.u16,.u16=>true | .u16,.u32=>true | .u16,.u64=>true | .u16,.i32=>true | .u16,.i64=>true
 |.u32,.u32=>true | .u32,.u64=>true | .u32,.i64=>true
 |.u64,.u64=>true
 |.i8,.i8=>true | .i8,.i16=>true | .i8,.i32=>true | .i8,.i64=>true
 |.i16,.i16=>true | .i16,.i32=>true | .i16,.i64=>true
 |.i32,.i32=>true | .i32,.i64=>true
 |.i64,.i64=>true
 |_,_=>false
theorem agk(h:fits j k=true){n:Int}(hn:bZ j n):bZ k n:=by
 cases j<;>cases k<;>simp only[fits]at h<;>first|(cases h;done)|(simp only[bZ]at hn ⊢;omega)
def abx(X:Cx)(src dst:Nat)(x:SV)(s:S)(K:KV):Prop :=
 match X.ti src,X.ti dst,x with
 |some _,some td,.a (.lit _ n)=>match td.d with
  |.int k=>K (.a (.lit k (k.wrap n))) s
  |_=>False
 |some _,some td,.a (.int j n)=>match td.d with
  |.int k=>bif fits j k then K (.a (.int k n)) s else K (.a (.int k (uw k n))) s
  |_=>False
 |_,_,_=>False
theorem agl(hX:X.Ok){src:Nat}{x:SV}{K:KV}(h:abx X src dst x s K)(hu:x.cT ρ u) :
 ∃sv r,K sv s/\sv.cT ρ r/\∀w:World,(convert src dst u).run X.P w = .ok r w:=by
 unfold abx at h;split at h
 ·rename_i ts td k n hs hd;split at h
  ·rename_i k' hdd;have he:=vF ((hX.ty hd).desc.trans hdd);obtain⟨d,hsd⟩:=(hX.ty hs).under;obtain⟨rfl,h1⟩:=hu;refine⟨_,.int k' (k'.wrap n),h,⟨rfl,lJ _ _⟩,fun w=>?_⟩;simp only[convert,Sem.run_bind,run_underlying hsd,run_underlying he,Result.andThen_ok];cases d<;>rfl
  grind
 ·rename_i ts td j n hs hd;split at h
  ·rename_i k' hdd;have he:=vF ((hX.ty hd).desc.trans hdd);obtain⟨d,hsd⟩:=(hX.ty hs).under;obtain⟨rfl,h1⟩:=hu;have hrun:∀w:World,(convert src dst (.int j n)).run X.P w = .ok (.int k' (k'.wrap n)) w:=by
    intro w;simp only[convert,Sem.run_bind,run_underlying hsd,run_underlying he,Result.andThen_ok];cases d<;>rfl
   cases hf:fits j k'
   ·rw[hf]at h;exact⟨_,_,h,⟨rfl,yM _ _⟩,by grind [IJ]⟩
   ·rw[hf]at h;have:=agk hf h1;exact⟨_,_,h,⟨rfl,this⟩,by grind [gH]⟩
  grind
 grind
def lP(rows:Nat->Nat->Value)(r l:Nat):ByteArray:=((List.range l).map fun i=>dR (rows (r+i) 0)).foldl (fun s n=>s.push (UInt8.ofNat n.toNat)) .empty
theorem z8:∀(ns:List Int) (s:ByteArray),(ns.foldl (fun s n=>s.push (UInt8.ofNat n.toNat)) s).size=s.size+ns.length
 |[],_=>rfl
 |n::ns,s=>by
  rw[List.foldl_cons,z8 ns,ByteArray.size_push,List.length_cons];omega
theorem xA(rows:Nat->Nat->Value)(r l:Nat):(lP rows r l).size=l:=by
 unfold lP;rw[z8,T7,List.length_range];show 0+l=l;omega
def Uj(X:Cx)(src dst:Nat)(x:SV)(s:S)(K:KV):Prop :=
 match x with
 |.a (.slc tg r e len _) =>
  match X.ti src,X.ti dst,s.hp.find tg with
  |some ts,some td,some (_,.arr _ ks n rows) =>
   match ts.d,td.d with
   |.slc et,.str=>match X.ti et with
    |some te=>match te.d with
     |.int .u8=>bif Nat.beq e 1&&qX ks [.int .u8]then need X.force (r+len<=n) (K (.a (.str (lP rows r len))) s)else False
     |_=>False
    |none=>False
   |_,_=>False
  |_,_,_=>False
 |x=>abx X src dst x s K
theorem aby(hX:X.Ok){src:Nat}{x:SV}{K:KV}(h:Uj X src dst x s K)(hh:ak w0 M ρ s.hp w)(hu:x.cT ρ u) :
 ∃sv r,K sv s/\sv.cT ρ r/\∀w':World,(∀t',Ua x=some t'->∀b,(ρ.pl t').fp b->w'.heap[b]? = w.heap[b]?)->(convert src dst u).run X.P w' = .ok r w':=by
 unfold Uj at h;split at h
 ·rename_i tg r e len cap;split at h
  ·rename_i ts td m ty ks n rows hs hd hfind;split at h
   ·rename_i et hsd hdd;split at h
    ·rename_i te hte;split at h
     ·rename_i hed;cases hb:(Nat.beq e 1&&qX ks [.int .u8])
      ·simp[hb]at h
      simp only[hb,iU]at h;simp only[jB]at hb;have he:=Nat.eq_of_beq_eq_true hb.1;have hk:=tL hb.2;subst he;subst hk;obtain⟨hr,h⟩:=nS h;have e1:=dD ((hX.ty hs).desc.trans hsd);have e2:=tK ((hX.ty hd).desc.trans hdd);have e3:=vF ((hX.ty hte).desc.trans hed);have hc:=(hh.jk _ (aX.bO hfind)).ch;simp only at hc;obtain⟨_,hlc,hcm,hv⟩:=hu;refine⟨_,.string (lP rows r len),h,⟨rfl,by rw[xA];omega⟩,fun w' hw=>?_⟩;by_cases h0:len=0
      ·subst h0;rcases hv with⟨_,_,rfl⟩ | ⟨o,rfl,_⟩
       ·rw[run_convert_bytes_string w' src dst et none _ _ e1 e3 e2];rfl
       ·rw[run_convert_bytes_string w' src dst et (some _) _ _ e1 e3 e2];rw[run_bytesToString w' _ 0 cap [] (by simp[loadCells,loadCellsFrom])];rfl
      ·rcases hv with⟨h1,_,_⟩ | ⟨o,rfl,ho⟩
       ·omega
       obtain⟨rfl,_⟩:=ho (by omega);have hc':(Chunk.arr ty [.int .u8] n rows).Sat ρ (ρ.pl tg) w':=by
        rcases hc with hc | ⟨vs,ty',fr,hb,h2,h3,h4,h5,h6⟩
        ·exact .inl hc
        ·exact .inr ⟨vs,ty',fr,by rw[hw tg rfl _ ((h5 _).2 rfl)];exact hb,h2,h3,h4,h5,h6⟩
       obtain⟨cells,c1,c2,c3⟩:=Fa (P:=X.P) hc' hr h0;rw[run_convert_bytes_string w' src dst et (some _) _ _ e1 e3 e2];have hcells:cells=(((List.range len).map fun i=>dR (rows (r+i) 0)).map (Value.int .u8)).toArray:=by
        apply Array.ext
        ·simp[c2]
        ·intro i hi1 hi2;have hi:i<len:=by simpa[c2]using hi1
         obtain⟨g1,k,g2,g3⟩:=c3 i hi 0 (.int .u8) rfl;simp only[ID,T9,EZ]at g1
         grind [dR]
       have hl:=c1 w' rfl;simp only[ID,T9]at hl;rw[hcells]at hl;simp only[T9];exact run_bytesToString w' _ len cap _ hl
     grind
    grind
   grind
  grind
 grind [agl]
end
section
variable {P:Program}
def Uk(X:Cx)(t:Nat)(x:SV)(f:Nat)(s:S)(K:KV):Prop :=
 match X.ti t,x with
 |some ti,.a (.ptr tg r e c) =>
  match ti.d with
  |.struct fs=>match fs[f]? with
   |some (off,sz)=>bif Nat.ble 1 sz then K (.a (.ptr tg r e (c+off))) s else False
   |none=>False
  |_=>False
 |_,_=>False
variable{K:KV}{X:Cx}{i x:SV}{s:S}{u:Value}
theorem abz(hX:X.Ok){f:Nat}(h:Uk X t x f s K)(hu:x.cT ρ u) :
 ∃sv r,K sv s/\sv.cT ρ r/\∀w:World,(Instr.fieldAt t u f).run X.P w = .ok r w:=by
 unfold Uk at h;split at h
 ·rename_i ti tg r e c hti;split at h
  ·rename_i fs hd;split at h
   ·rename_i off sz hf;cases hb:Nat.ble 1 sz
    ·simp[hb]at h
    simp only[hb,iU]at h;have hsz:=EY hb;have ty:=hX.ty hti;obtain⟨gs,he,rfl⟩:=AE (ty.desc.trans hd);have hk:=ty.known;simp only[qM,he,RO]at hk;obtain⟨htg,rfl⟩:=hu;simp only[zBA,Option.map_eq_some_iff]at hf;obtain⟨g,hg,e1⟩:=hf;cases e1;have hg':gs[f]? = some g:=by simpa using hg
    obtain⟨j,hj⟩:=zBK.1 (hk g (List.mem_of_getElem? hg));refine⟨_,.pointer (some ⟨(ρ.pl tg).blk,(ρ.pl tg).off+r*e+c+g.offset,none⟩),h,⟨htg,by grind⟩,fun w=>?_⟩;have hne:j.size≠0:=by simp[Program.cellsOf,hj]at hsz;omega
    simp[Instr.fieldAt,run_underlying he,hg',Instr.sureAddr,fieldPlace,sizeOf,typeInfo,hj,hne,Addr.add_plain]
   grind
  grind
 grind
def aiT(X:Cx)(t:Nat)(x i:SV)(s:S)(K:KV):Prop :=
 match X.ti t,x,i with
 |some ti,.a (.slc tg r e len _),.a i =>
  match ti.d,i.i? with
  |.slc el,some (_,n)=>match X.ti el with
   |some te=>bif Nat.beq e te.sz then need X.force (0<=n/\n<(len:Int)) (K (.a (.ptr tg (r+n.toNat) e 0)) s)else False
   |none=>False
  |_,_=>False
 |some ti,.a (.sub tg r e c len _),.a i =>
  match ti.d,i.i? with
  |.slc el,some (_,n)=>match X.ti el with
   |some te=>bif Nat.beq te.sz 1 then need X.force (0<=n/\n<(len:Int)) (K (.a (.ptr tg r e (c+n.toNat))) s)else False
   |none=>False
  |_,_=>False
 |_,_,_=>False
theorem aiU(hX:X.Ok)(h:aiT X t x i s K)(hu:x.cT ρ u)(hv:i.cT ρ v) :
 ∃sv r,K sv s/\sv.cT ρ r/\∀w:World,(Instr.indexAt t u v).run X.P w = .ok r w:=by
 unfold aiT at h;split at h
 ·rename_i ti tg r e len cap i hti;split at h
  ·rename_i el k n hd hi;split at h
   ·rename_i te hte;cases hb:Nat.beq e te.sz
    ·simp[hb]at h
    simp only[hb,iU]at h;have:=Nat.eq_of_beq_eq_true hb;subst this;obtain⟨⟨h0,h1⟩,h⟩:=nS h;have he:=dD ((hX.ty hti).desc.trans hd);obtain⟨rfl,_⟩:=A.nD hi hv;obtain⟨htg,hlc,hcm,hc⟩:=hu;rcases hc with⟨hl,_,_⟩ | ⟨o,rfl,ho⟩
    ·omega
    obtain⟨rfl,_⟩:=ho (by omega);refine⟨_,.pointer (some ⟨(ρ.pl tg).blk,(ρ.pl tg).off+r*te.sz+n.toNat*te.sz,none⟩),h,⟨htg,by grind⟩,fun w=>?_⟩;have hlt:n<(len:Int):=h1;simp[Instr.indexAt,asIntOf,run_underlying he,h0,hlt,dm (hX.ty hte),Addr.add_plain]
   grind
  grind
 ·rename_i ti tg r e c len cap i hti;split at h
  ·rename_i el k n hd hi;split at h
   ·rename_i te hte;cases hb:Nat.beq te.sz 1
    ·simp[hb]at h
    simp only[hb,iU]at h;have hsz:=Nat.eq_of_beq_eq_true hb;obtain⟨⟨h0,h1⟩,h⟩:=nS h;have he:=dD ((hX.ty hti).desc.trans hd);obtain⟨rfl,_⟩:=A.nD hi hv;obtain⟨htg,hlc,hcm,rfl⟩:=hu;refine⟨_,.pointer (some ⟨(ρ.pl tg).blk,(ρ.pl tg).off+r*e+c+n.toNat*te.sz,none⟩),h,⟨htg,by grind⟩,fun w=>?_⟩;have hlt:n<(len:Int):=h1;simp[Instr.indexAt,asIntOf,run_underlying he,h0,hlt,dm (hX.ty hte),Addr.add_plain]
   grind
  grind
 grind
def abA(X:Cx)(t:Nat)(x i:SV)(s:S)(K:KV):Prop :=
 match X.ti t,x,i with
 |some ti,.a (.str b),.a i =>
  match ti.d,i.i? with
  |.str,some (_,n)=>need X.force (0<=n/\n<(b.size:Int)) (K (.a (.int .u8 ((b.data.getD n.toNat 0).toNat:Int))) s)
  |_,_=>False
 |_,_,_=>False
theorem agm(hX:X.Ok)(h:abA X t x i s K)(hu:x.cT ρ u)(hv:i.cT ρ v) :
 ∃sv r,K sv s/\sv.cT ρ r/\∀w:World,(Instr.index t u v).run X.P w = .ok r w:=by
 unfold abA at h;split at h
 ·rename_i ti b i hti;split at h
  ·rename_i k n hd hi;obtain⟨⟨h0,h1⟩,h⟩:=nS h;have he:=tK ((hX.ty hti).desc.trans hd);obtain⟨rfl,_⟩:=A.nD hi hv;obtain⟨rfl,_⟩:=hu;have hlt:n.toNat<b.size:=by omega
   have hlt':n.toNat<b.data.size:=hlt;refine⟨_,_,h,⟨rfl,?_⟩,fun w=>?_⟩
   ·have:=(b.data.getD n.toNat 0).toNat_lt;exact⟨by omega,by omega⟩
   ·have hg:b[n.toNat]? = some (b.data.getD n.toNat 0):=by
     rw[getElem?_pos b n.toNat hlt];simp only[zAX,zAI hlt',Option.getD_some];rfl
    simp[Instr.index,asIntOf,run_underlying he,h0,hg]
  grind
 grind
def Ul(X:Cx)(t:Nat)(x:SV)(s:S)(K:KV):Prop :=
 match X.ti t,x with
 |some ti,.a (.slc tg r e len _) =>
  match ti.d with
  |.slc el=>match X.ti el,s.hp.find tg with
   |some te,some (true,.arr ty ks n rows)=>bif Nat.beq e te.sz&&(qX ks te.ks&&pF te.ks te.zero)then
    K (.a .any) (s.put (s.hp.yJ tg (.arr ty ks n fun i j=>if r<=i/\i<r+len then(te.zero.map A.IN).getD j undef else rows i j)))else False
   |some te,some (true,.obj _ cs)=>bif Nat.beq e te.sz&&Nat.ble ((r+len)*te.sz) cs.length then K (.a .any) (s.put (s.hp.del tg))else False
   |_,_=>False
  |_=>False
 |_,_=>False
theorem ak.forget{w':World}(r:ak w0 M ρ hp w)(h:hp.find t=some (true,ch))
 (hk:iy (ρ.pl t).fp w w'):ak w0 M ρ (hp.del t) w':=by
 have he:=r.jk _ (aX.bO h);exact(r.sub aX.lK).world hk (fun b hb hf=>he.own rfl b hf hb) (fun e hm b hb=>by
  have:=r.yK h e hm;refine hk.block b ((r.jk e (aX.lK.subset hm)).lt b hb) fun hf=>this.2 rfl b hf hb)
theorem abB(hX:X.Ok){rt:Nat}(h:Ul X t x s K)(hh:ak w0 M ρ s.hp w)(hu:x.cT ρ u) :
 ∃w' eV,(Builtin.clear_ #[t] rt #[u]).run X.P w = .ok (.tuple #[]) w'/\ak w0 M ρ eV w'/\K (.a .any) (s.put eV):=by
 unfold Ul at h;split at h
 ·rename_i ti tg r e len cap hti;split at h
  ·rename_i el hd;split at h
   ·rename_i te ty ks n rows hte hfind;cases hb:(Nat.beq e te.sz&&(qX ks te.ks&&pF te.ks te.zero))
    ·simp[hb]at h
    simp only[hb,iU]at h;simp only[jB]at hb;obtain⟨hb1,hb2,hfit⟩:=hb;have:=Nat.eq_of_beq_eq_true hb1;subst this;have:=tL hb2;subst this;have tye:=hX.ty hte;have he:=dD ((hX.ty hti).desc.trans hd);have hks:=oW tye;have hent:=hh.jk _ (aX.bO hfind);have hc:=hent.ch;simp only at hc;obtain⟨htg,hlc,hcm,hv⟩:=hu;by_cases h0:len=0
    ·subst h0;refine⟨w,_,?_,hh.yJ hfind (iy.refl _ _) ?_,h⟩
     ·rcases hv with⟨_,rfl,rfl⟩ | ⟨o,rfl,_⟩<;>simp[Builtin.clear_,run_underlying he]
     ·have:(fun i j=>if r<=i/\i<r+0 then(te.zero.map A.IN).getD j undef else rows i j)=rows:=by
       funext i j;rw[if_neg (by omega)]
      grind
    ·rcases hv with⟨h1,_,_⟩ | ⟨o,rfl,ho⟩
     ·omega
     obtain⟨rfl,hN⟩:=ho (by omega);rcases hc with⟨_,hN0,_⟩ | ⟨vs,ty,fr,hbk,hfitN,hnN,hun,hfp,hrows⟩
     ·omega
     obtain⟨z,hz,hzl,hzero,hok,_⟩:=kQ tye;obtain⟨hzc,hzk⟩:=CU (ρ:=ρ) hfit hzero hok;have hzs:z.cells.size=te.ks.length:=by rw[hks];simpa using hzl
     have hcl:(Builtin.zeroCells z.cells len).toList=rep len z.cells.toList:=by
      have:=vH z.cells len te.ks.length hzs;rw[<- this,Builtin.zeroCells,hzs]
     have hlen:(rep len z.cells.toList).length=len*te.ks.length:=by rw[vG];simp[hzs]
     have hcap:(ρ.pl tg).off+(r+len)*te.ks.length<=vs.size:=by
      have:=xz te.ks.length (show r+len<=(ρ.pl tg).N by omega);omega
     rw[zBs]at hcap;have hone:∀v∈rep len z.cells.toList,v.oneCell'=true:=by
      have h1:∀v∈z.cells.toList,v.oneCell'=true:=by
       intro v hv;obtain⟨q,hq,e⟩:=List.getElem_of_mem hv;have hql:q<te.ks.length:=by rw[hks,<- hzl];exact hq
       exact(hzk q v _ (by grind) (IC hql)).one
      intro v hv;have:∀m,v∈rep m z.cells.toList->v∈z.cells.toList:=by
       intro m
       induction m with
       |zero=>intro h;cases h
       |succ m ih=>intro h;exact(yG.1 h).elim id ih
      exact h1 v (this len hv)
     have hs:=gT (P:=X.P) (ρ.pl tg).blk ((ρ.pl tg).off+r*te.sz) ty fr (rep len z.cells.toList) 0 vs w hbk (fun x h1 h2=>hun x (by omega) (by have:=xz te.ks.length (show r+len<=(ρ.pl tg).N by omega);grind)) (by grind) hone;refine⟨w.setRow (ρ.pl tg).blk (vs.toList.take ((ρ.pl tg).off+r*te.sz+0)++rep len z.cells.toList++vs.toList.drop ((ρ.pl tg).off+r*te.sz+0+(rep len z.cells.toList).length)).toArray,_,?_,hh.yJ hfind ((iy.setRow w _ _).mono fun b _ hb=>(hfp b).2 hb) ?_,h⟩
     ·have hl0:len≠0:=h0;cases len with
      |zero=>omega
      |succ m=>simp[Builtin.clear_,run_underlying he,hz,hcl,hs]
     ·have hsz2:∀(L:List Value),L=vs.toList.take ((ρ.pl tg).off+r*te.sz+0)++rep len z.cells.toList++vs.toList.drop ((ρ.pl tg).off+r*te.sz+0+(rep len z.cells.toList).length)->L.toArray.size=vs.size:=by
       rintro L rfl;rw[<- hks];simp[hlen];omega
      refine .inr ⟨_,ty,fr,setRow_heap w _ _ _ ty fr hbk,by grind,hnN,hun,hfp,fun i hi j k hk=>?_⟩;have hjl:j<te.ks.length:=(Cj.1 hk).1;obtain⟨g1,g2⟩:=hrows i hi j k hk;rw[zAU,jI _ _ _ (by grind)];simp only[EZ];rw[hlen,<- hks];by_cases hin:r<=i/\i<r+len
      ·have hle2:=xz te.ks.length hin.1;have hsub2:(i-r)*te.ks.length=i*te.ks.length-r*te.ks.length:=Nat.sub_mul _ _ _;have hlt2:(i-r)*te.ks.length+j<len*te.ks.length:=by
        have:=xz te.ks.length (show i-r+1<=len by omega);rw[Nat.succ_mul]at this;omega
       rw[if_pos (by omega),if_pos hin];have hidx:(ρ.pl tg).off+i*te.ks.length+j-((ρ.pl tg).off+r*te.ks.length)=(i-r)*te.ks.length+j:=by omega
       rw[hidx,BT _ _ _ (by grind)];have hmod:((i-r)*te.ks.length+j)%z.cells.toList.length=j:=by
        rw[show z.cells.toList.length=te.ks.length by omega,Nat.mul_comm,Nat.mul_add_mod,Nat.mod_eq_of_lt hjl]
       grind
      ·rw[if_neg hin,if_neg]
       ·grind
       ·rintro⟨q1,q2⟩;apply hin;constructor
        ·rcases zBn i r with h|h
         ·have:=xz te.ks.length h
          grind
         ·exact h
        ·rcases zBn i (r+len)with h|h
         ·exact h
         ·have:=xz te.ks.length h
          grind
   ·rename_i te ty cs hte hfind;cases hb:(Nat.beq e te.sz&&Nat.ble ((r+len)*te.sz) cs.length)
    ·simp[hb]at h
    simp only[hb,iU]at h;simp only[jB]at hb;have:=Nat.eq_of_beq_eq_true hb.1;subst this;have hfit:=EY hb.2;have tye:=hX.ty hte;have he:=dD ((hX.ty hti).desc.trans hd);have hc:=(hh.jk _ (aX.bO hfind)).ch;simp only at hc;obtain⟨vs,fr,hbk,hoff,⟨us,xs,hus,hrep⟩,hun,hfp⟩:=hc;obtain⟨htg,hlc,hcm,hv⟩:=hu;by_cases h0:len=0
    ·subst h0;refine⟨w,_,?_,hh.forget hfind (iy.refl _ _),h⟩;rcases hv with⟨_,rfl,rfl⟩ | ⟨o,rfl,_⟩<;>simp[Builtin.clear_,run_underlying he]
    ·rcases hv with⟨h1,_,_⟩ | ⟨o,rfl,ho⟩
     ·omega
     obtain⟨rfl,hN⟩:=ho (by omega);obtain⟨z,hz,hzl,hzero,hok,_⟩:=kQ tye;have hcl:(Builtin.zeroCells z.cells len).toList=rep len z.cells.toList:=by
      have hzs:z.cells.size=te.sz:=by simpa using hzl
      have:=vH z.cells len te.sz hzs;rw[<- this,Builtin.zeroCells,hzs]
     have hlen:(rep len z.cells.toList).length=len*te.sz:=by rw[vG,hzl]
     have hul:=hrep.length;have hvl:vs.size=us.length+xs.length:=by rw[<- zBN,hus,wM]
     rw[zBs]at hfit;have hone:∀v∈rep len z.cells.toList,v.oneCell'=true:=by
      have h1:∀v∈z.cells.toList,v.oneCell'=true:=by
       have:∀(l:List Value),z7 l=true->∀v∈l,v.oneCell'=true:=by
        intro l
        induction l with
        |nil=>grind
        |cons a l ih =>
         intro h v hv;simp only[z7,jB]at h
         grind [Xg]
       exact this _ hok
      intro v hv;have:∀m,v∈rep m z.cells.toList->v∈z.cells.toList:=by
       intro m
       induction m with
       |zero=>intro h;cases h
       |succ m ih=>intro h;exact(yG.1 h).elim id ih
      exact h1 v (this len hv)
     have hs:=gT (P:=X.P) (ρ.pl tg).blk ((ρ.pl tg).off+r*te.sz) ty fr (rep len z.cells.toList) 0 vs w hbk (fun x _ h2=>hun x (by omega)) (by omega) hone;refine⟨w.setRow (ρ.pl tg).blk (vs.toList.take ((ρ.pl tg).off+r*te.sz+0)++rep len z.cells.toList++vs.toList.drop ((ρ.pl tg).off+r*te.sz+0+(rep len z.cells.toList).length)).toArray,_,?_,hh.forget hfind ((iy.setRow w (ρ.pl tg).blk _).mono fun b _ hb=>(hfp b).2 hb),h⟩;cases len with
     |zero=>omega
     |succ m=>simp[Builtin.clear_,run_underlying he,hz,hcl,hs]
   grind
  grind
 grind
end
section
variable {P:Program}
def ur(rows:Nat->Nat->Value)(r n:Nat)(src:Nat->Nat->Value):Nat->Nat->Value:=fun i j=>if r<=i/\i<r+n then src (i-r) j else rows i j
def Ia(rows:Nat->Nat->Value)(row c n:Nat)(src:Nat->Nat->Value):Nat->Nat->Value:=fun i j=>if i=row/\(c<=j/\j<c+n)then src (j-c) 0 else rows i j
def abC(X:Cx)(t:Nat)(x y:SV)(s:S)(K:KV):Prop :=
 match X.ti t with
 |some ti=>match ti.d with
  |.slc e=>match X.ti e with
   |some te=>match x with
    |.a (.slc tg r e0 len _)=>match s.hp.find tg with
     |some (true,.arr ty ks n rows)=>bif Nat.beq e0 te.sz&&qX ks te.ks then need X.force (r+len<=n) (Mt X.force s te.ks y fun m mo =>
      K (.a (.int .i64 (min m len:Nat))) (s.put (s.hp.yJ tg (.arr ty ks n (ur rows r (min m len) mo)))))else False
     |_=>False
    |.a (.sub tg r e0 c len _)=>match s.hp.find tg,te.ks with
     |some (true,.arr ty ks n rows),[k]=>bif Nat.beq e0 ks.length&&(Nat.ble (c+len) ks.length&&(Nat.beq te.sz 1&&ya k ((ks.drop c).take len)))then need X.force (r<n) (Mt X.force s te.ks y fun m mo =>
      K (.a (.int .i64 (min m len:Nat))) (s.put (s.hp.yJ tg (.arr ty ks n (Ia rows r c (min m len) mo)))))else False
     |_,_=>False
    |_=>False
   |none=>False
  |_=>False
 |none=>False
theorem agn{X:Cx}(hX:X.Ok){xt rt:Nat}{x y:SV}{s:S}{K:KV}(h:abC X t x y s K)(hh:ak w0 M ρ s.hp w){u:Value}(hu:x.cT ρ u)(hv:y.cT ρ v) :
 ∃z r w' eV,(Builtin.copy_ #[t,xt] rt #[u,v]).run X.P w = .ok r w'/\ak w0 M ρ eV w'/\z.cT ρ r/\K z (s.put eV):=by
 unfold abC at h;split at h
 ·rename_i ti hti;split at h
  ·rename_i e hd;split at h
   ·rename_i te hte;have tye:=hX.ty hte;have he:=dD ((hX.ty hti).desc.trans hd);have hks:=oW tye;split at h
    ·
     rename_i tg r e0 len cap;split at h
     ·rename_i ty ks n rows hfind;cases hb:(Nat.beq e0 te.sz&&qX ks te.ks)
      ·simp[hb]at h
      simp only[hb,iU]at h;simp only[jB]at hb;have:=Nat.eq_of_beq_eq_true hb.1;subst this;have:=tL hb.2;subst this;obtain⟨hrl,h⟩:=nS h;obtain⟨m,mo,cells0,hK,hsrc⟩:=NU (P:=X.P) h hh hv;have hc:=(hh.jk _ (aX.bO hfind)).ch;simp only at hc;obtain⟨htg,hlc,hcm,hval⟩:=hu;obtain⟨cells,c1,c2,c3⟩:=hsrc.pre (min m len) (Nat.min_le_left _ _);have hml:min m len<=aB:=by omega
      have hrep:(SV.a (.int .i64 (min m len:Nat))).cT ρ (.int .i64 (min m len:Nat)):=⟨rfl,by constructor<;>unfold aB at hml<;>omega⟩
      by_cases h0:min m len=0
      ·refine⟨_,.int .i64 (min m len:Nat),w,_,?_,hh.yJ hfind (iy.refl _ _) ?_,hrep,hK⟩
       ·have hcl:cells.toList=[]:=zAP (by simp[c2,h0]);have hrun:=c1 w rfl;rw[hks]at hrun;rcases hval with⟨_,_,rfl⟩ | ⟨o,rfl,_⟩<;>simp_all [Builtin.copy_,run_underlying he,hsrc.len,dm tye,goInt,storeCells,Nat.min_def]
       ·have:ur rows r (min m len) mo=rows:=by funext i j;unfold ur;rw[if_neg (by omega)]
        grind
      ·rcases hval with⟨h1,_,_⟩ | ⟨o,rfl,ho⟩
       ·omega
       obtain⟨rfl,hN⟩:=ho (by omega);rcases hc with⟨_,hN0,_⟩ | ⟨vs,ty',fr,hbk,hfitN,hnN,hun,hfp,hrows⟩
       ·omega
       have hcap:(ρ.pl tg).off+(r+min m len)*te.ks.length<=vs.size:=by
        have:=xz te.ks.length (show r+min m len<=(ρ.pl tg).N by omega);omega
       rw[zBs]at hcap;have hcl:cells.toList.length=min m len*te.ks.length:=by simpa using c2
       have hone:∀z∈cells.toList,z.oneCell'=true:=by
        intro z hz;obtain⟨q,hq,e⟩:=List.getElem_of_mem hz;have hpos:0<te.ks.length:=by
         rcases Nat.eq_zero_or_pos te.ks.length with h|h
         ·grind
         ·exact h
        have hqm:q/te.ks.length<min m len:=by rw[Nat.div_lt_iff_lt_mul hpos];omega
        have hqr:q%te.ks.length<te.ks.length:=Nat.mod_lt _ hpos;obtain⟨g1,g2⟩:=c3 (q/te.ks.length) hqm (q%te.ks.length) (te.ks[q%te.ks.length]) (IC hqr);rw[show q/te.ks.length*te.ks.length+q%te.ks.length=q from by rw[Nat.mul_comm];exact Nat.div_add_mod q te.ks.length]at g1;have:cells[q]? = some z:=by
         have hq':q<cells.size:=by simpa using hq
         rw[zAI hq'];congr 1
        rw[this]at g1;cases g1;exact g2.one
       have hs:=gT (P:=X.P) (ρ.pl tg).blk ((ρ.pl tg).off+r*te.sz) ty' fr cells.toList 0 vs w hbk (fun x h1 h2=>hun x (by omega) (by have:=xz te.ks.length (show r+min m len<=(ρ.pl tg).N by omega);grind)) (by grind) hone;refine⟨_,.int .i64 (min m len:Nat),w.setRow (ρ.pl tg).blk (vs.toList.take ((ρ.pl tg).off+r*te.sz+0)++cells.toList++vs.toList.drop ((ρ.pl tg).off+r*te.sz+0+cells.toList.length)).toArray,_,?_,hh.yJ hfind ((iy.setRow w _ _).mono fun b _ hb=>(hfp b).2 hb) ?_,hrep,hK⟩
       ·have hrun:=c1 w rfl;rw[hks]at hrun;have hmin:Nat.min m len=min m len:=rfl;simp[Builtin.copy_,run_underlying he,hsrc.len,dm tye,goInt,hmin,hrun,hs]
       ·have hsz2:∀(L:List Value),L=vs.toList.take ((ρ.pl tg).off+r*te.sz+0)++cells.toList++vs.toList.drop ((ρ.pl tg).off+r*te.sz+0+cells.toList.length)->L.toArray.size=vs.size:=by
         rintro L rfl;rw[<- hks];simp at hcl ⊢;omega
        refine .inr ⟨_,ty',fr,setRow_heap w _ _ _ ty' fr hbk,by grind,hnN,hun,hfp,fun i hi j k hk=>?_⟩;have hjl:j<te.ks.length:=(Cj.1 hk).1;obtain⟨g1,g2⟩:=hrows i hi j k hk;rw[zAU,jI _ _ _ (by grind)];simp only[EZ];rw[hcl,<- hks];unfold ur;by_cases hin:r<=i/\i<r+min m len
        ·have hle2:=xz te.ks.length hin.1;have hsub2:(i-r)*te.ks.length=i*te.ks.length-r*te.ks.length:=Nat.sub_mul _ _ _;have hlt2:(i-r)*te.ks.length+j<min m len*te.ks.length:=by
          have:=xz te.ks.length (show i-r+1<=min m len by omega);rw[Nat.succ_mul]at this;omega
         rw[if_pos (by omega),if_pos hin];have hidx:(ρ.pl tg).off+i*te.ks.length+j-((ρ.pl tg).off+r*te.ks.length)=(i-r)*te.ks.length+j:=by omega
         grind
        ·rw[if_neg hin,if_neg]
         ·grind
         ·rintro⟨q1,q2⟩;apply hin;constructor
          ·rcases zBn i r with h|h
           ·have:=xz te.ks.length (show i+1<=r by omega)
            grind
           ·exact h
          ·rcases zBn i (r+min m len)with h|h
           ·exact h
           ·have:=xz te.ks.length h
            grind
     grind
    ·
     rename_i tg r e0 c len cap;split at h
     ·rename_i ty ks n rows k hfind hk1;cases hb:(Nat.beq e0 ks.length&&(Nat.ble (c+len) ks.length&&(Nat.beq te.sz 1&&ya k ((ks.drop c).take len))))
      ·simp[hb]at h
      simp only[hb,iU]at h;simp only[jB]at hb;obtain⟨hb1,hb2,hb3,hb4⟩:=hb;have:=Nat.eq_of_beq_eq_true hb1;subst this;have hcl:=EY hb2;have hsz:=Nat.eq_of_beq_eq_true hb3;obtain⟨hrn,h⟩:=nS h;obtain⟨m,mo,cells0,hK,hsrc⟩:=NU (P:=X.P) h hh hv;have hc:=(hh.jk _ (aX.bO hfind)).ch;simp only at hc;obtain⟨htg,hlc,hcm,rfl⟩:=hu;obtain⟨cells,c1,c2,c3⟩:=hsrc.pre (min m len) (Nat.min_le_left _ _);rw[hk1]at c1 c2 c3;have hml:min m len<=aB:=by omega
      have hrep:(SV.a (.int .i64 (min m len:Nat))).cT ρ (.int .i64 (min m len:Nat)):=⟨rfl,by constructor<;>unfold aB at hml<;>omega⟩
      rcases hc with⟨hn0,_⟩ | ⟨vs,ty',fr,hbk,hfitN,hnN,hun,hfp,hrows⟩
      ·omega
      have hcl2:cells.toList.length=min m len:=by simpa using c2
      have hone:∀z∈cells.toList,z.oneCell'=true:=by
       intro z hz;obtain⟨q,hq,e⟩:=List.getElem_of_mem hz;obtain⟨g1,g2⟩:=c3 q (by omega) 0 k rfl;have:cells[q]? = some z:=by
        have hq':q<cells.size:=by simpa using hq
        rw[zAI hq'];congr 1
       simp only[List.length_cons,List.length_nil,mA,T9,EZ]at g1;rw[this]at g1;cases g1;exact g2.one
      have hbound:(ρ.pl tg).off+r*ks.length+ks.length<=(ρ.pl tg).off+(ρ.pl tg).N*ks.length:=by
       have:=xz ks.length (show r+1<=(ρ.pl tg).N by omega);rw[Nat.succ_mul]at this;omega
      have hs:=gT (P:=X.P) (ρ.pl tg).blk ((ρ.pl tg).off+r*ks.length+c) ty' fr cells.toList 0 vs w hbk (fun x h1 h2=>hun x (by omega) (by omega)) (by omega) hone;refine⟨_,.int .i64 (min m len:Nat),w.setRow (ρ.pl tg).blk (vs.toList.take ((ρ.pl tg).off+r*ks.length+c+0)++cells.toList++vs.toList.drop ((ρ.pl tg).off+r*ks.length+c+0+cells.toList.length)).toArray,_,?_,hh.yJ hfind ((iy.setRow w _ _).mono fun b _ hb=>(hfp b).2 hb) ?_,hrep,hK⟩
      ·have hrun:=c1 w rfl;simp only[List.length_cons,List.length_nil,mA]at hrun;have hmin:Nat.min m len=min m len:=rfl;simp[Builtin.copy_,run_underlying he,hsrc.len,dm tye,hsz,goInt,hmin,hrun,hs]
      ·have hsz2:∀(L:List Value),L=vs.toList.take ((ρ.pl tg).off+r*ks.length+c+0)++cells.toList++vs.toList.drop ((ρ.pl tg).off+r*ks.length+c+0+cells.toList.length)->L.toArray.size=vs.size:=by
        rintro L rfl;simp at hcl2 ⊢;omega
       refine .inr ⟨_,ty',fr,setRow_heap w _ _ _ ty' fr hbk,by grind,hnN,hun,hfp,fun i hi j q hq=>?_⟩;have hjl:j<ks.length:=(Cj.1 hq).1;obtain⟨g1,g2⟩:=hrows i hi j q hq;rw[zAU,jI _ _ _ (by grind)];simp only[EZ];rw[hcl2];unfold Ia;by_cases hin:i=r/\(c<=j/\j<c+min m len)
       ·obtain⟨rfl,h1,h2⟩:=hin;rw[if_pos (by omega),if_pos ⟨rfl,h1,h2⟩];have hidx:(ρ.pl tg).off+i*ks.length+j-((ρ.pl tg).off+i*ks.length+c)=j-c:=by omega
        rw[hidx,zBl];have hqk:q=k:=by
         have:=IX hb4 (i:=j-c) (by simp;omega);rw[zBu,if_pos (by omega),zBE,show c+(j-c)=j by omega,hq]at this;cases this;rfl
        subst hqk;have:=c3 (j-c) (by omega) 0 q rfl;simpa using this
       ·rw[if_neg hin,if_neg]
        ·grind
        ·rintro⟨q1,q2⟩;apply hin;have:=(Mp (off:=(ρ.pl tg).off) (i:=i) (row:=r) (esz:=ks.length) (j:=j) (c:=c) (len:=min m len) hjl (by omega)).1 ⟨q1,q2⟩;exact⟨this.1,this.2⟩
     grind
    grind
   grind
  grind
 grind
end
section
variable {P:Program}
def eq1(P:Program)(t:TypeId)(x y:A):Option Bool :=
 match descOf P t with
 |.bool=>match x.b?,y.b? with
  |some a,some b=>some (a == b)
  |_,_=>none
 |.int _=>match x.i?,y.i? with
  |some (k,a),some (j,b)=>bif uj k j then some (a == b)else none
  |_,_=>none
 |.str=>match x,y with
  |.str a,.str b=>some (decide (a=b))
  |_,_=>none
 |_=>none
def abD(P:Program):List Field->List A->List A->Option Bool
 |[],_,_=>some true
 | f :: r, xs, ys => bif f.name == "_" then none else match xs[f.offset]?, ys[f.offset]? with
  |some x,some y=>match eq1 P f.type x y,abD P r xs ys with
   |some a,some b=>some (a&&b)
   |_,_=>none
  |_,_=>none
def abE(P:Program)(t:TypeId)(xs ys:List A):Option Bool :=
 match P.underlying t with
 |some (.struct fs)=>bif P.stoodInHeld t||P.eqGuardType P.depth t then none else abD P fs.toList xs ys
 |_=>none
def abF(X:Cx)(op:BinOp)(t:Nat)(xs ys:List A)(K:A->Prop):Prop :=
 match op,abE X.P t xs ys with
 |.eql,some b=>K (.bool b)
 |.neq,some b=>K (.bool (!b))
 |_,_=>False
theorem abG(a b:ByteArray):(a == b)=decide (a=b):=by
 cases a with|mk x=>cases b with|mk y =>
  show(x == y)=_
  grind
variable{b:Bool}{t:TypeId}{u:Value}{us vs:List Value}{xs ys:List A}{y:A}
theorem aiV(h:eq1 P t x y=some b)(hu:x.cT ρ u)(hv:y.cT ρ v)(d:Nat)(w:World) :
 (Op.equalIn (d+1) t u v).run P w = .ok b w:=by
 unfold eq1 at h;split at h
 ·rename_i hd;have he:=BS hd;split at h
  ·rename_i a b ha hb;have:=A.CS ha hu;subst this;have:=A.CS hb hv;subst this;cases h;simp[Op.equalIn,run_underlying he]
  ·cases h
 ·rename_i k hd;have he:=vF hd;split at h
  ·rename_i k1 a k2 b hx hy;obtain⟨rfl,_⟩:=A.nD hx hu;obtain⟨rfl,_⟩:=A.nD hy hv;cases hk:uj k1 k2 with
   |false=>grind
   |true =>
    rw[hk]at h;have:=qj hk;subst this;cases h;simp[Op.equalIn,run_underlying he]
  ·cases h
 ·rename_i hd;have he:=tK hd;split at h
  ·rename_i a b;obtain⟨rfl,_⟩:=hu;obtain⟨rfl,_⟩:=hv;cases h;simp[Op.equalIn,run_underlying he,abG]
  ·cases h
 ·cases h
theorem DZ(h:eq1 P t x y=some b){cs:List Value}{o:Nat}(hu:cs[o]? = some u)(w:World):(part t cs.toArray o).run P w = .ok u w:=by
 unfold eq1 at h;split at h
 ·rename_i hd;simp[part,isAgg,run_underlying (BS hd),hu]
 ·rename_i hd;simp[part,isAgg,run_underlying (vF hd),hu]
 ·rename_i hd;simp[part,isAgg,run_underlying (tK hd),hu]
 ·cases h
theorem IY{ρ:Env}:∀ {xs:List A} {vs:List Value} {o:Nat} {x:A},dw ρ xs vs->xs[o]? = some x->∃u,vs[o]? = some u/\x.cT ρ u
 |a::r,vs,o,x,h,hx=>by
  obtain⟨v,l,rfl,h1,h2⟩:=h;cases o with
  |zero=>grind
  |succ o=>exact IY (o:=o) h2 hx
 |[],_,o,x,_,hx=>by grind
theorem Xr{d:Nat}{ρ:Env}{xs ys:List A}{us vs:List Value}(hu:dw ρ xs us)(hv:dw ρ ys vs)(w:World):∀ {fs:List Field} {b:Bool},abD P fs xs ys=some b ->
 (forIn (m:=Sem) fs ((none,()):Option Bool×Unit) fun f _ =>
  if f.name = "_" then pure (.yield (none, ()))
  else do
   let x <- part f.type us.toArray f.offset
   let y <- part f.type vs.toArray f.offset
   let z <- Op.equalIn (d+1) f.type x y
   if z=false then pure (.done (some false,()))else pure (.yield (none,()))).run P w = .ok (bif b then(none,())else(some false,())) w
 |[],b,h=>by cases h;simp
 |f::r,b,h=>by
  unfold abD at h;cases hn : f.name == "_" with
  |true=>grind
  |false =>
   rw[hn]at h;simp only[vv]at h;split at h
   ·rename_i x y hx hy;split at h
    ·rename_i a c ha hc;cases h;obtain ⟨u,hu1,hu2⟩:=IY hu hx;obtain ⟨v,hv1,hv2⟩:=IY hv hy;have rec_:=Xr (d:=d) hu hv w hc;have hne : f.name ≠ "_" := by simpa using hn
     have e1:=aiV ha hu2 hv2 d w;rw[List.forIn_cons];cases a with
     |false=>simp[hne,DZ ha hu1,DZ ha hv1,e1]
     |true=>simpa[hne,DZ ha hu1,DZ ha hv1,e1]using rec_
    ·cases h
   ·cases h
theorem R3(h:abE P t xs ys=some b)(hu:dw ρ xs us)(hv:dw ρ ys vs)(w:World) :
 (Op.equal t (.agg us.toArray) (.agg vs.toArray)).run P w = .ok b w/\P.eqGuardType P.depth t=false:=by
 unfold abE at h;split at h
 ·rename_i fs hf;cases hs:P.stoodInHeld t with
  |true=>grind
  |false =>
   cases hg:P.eqGuardType P.depth t with
   |true=>grind
   |false =>
    rw[hs,hg]at h;have h':abD P fs.toList xs ys=some b:=h;refine⟨?_,rfl⟩;have:=Xr (d:=9998) hu hv w h';show(Op.equalIn 10000 t _ _).run P w=_;unfold Op.equalIn;simp[run_underlying hf,hs];rw[<- Array.forIn_toList,this];cases b<;>simp
 ·cases h
theorem abH{X:Cx}{op:BinOp}{t:Nat}(h:abF X op t xs ys K)(hu:dw ρ xs us)(hv:dw ρ ys vs)(p q:Operand) :
 ∃z r,K z/\z.cT ρ r/\∀w:World,(do eqGuard op t p q (.agg us.toArray) (.agg vs.toArray);binOp op t (.agg us.toArray) (.agg vs.toArray):Sem Value).run X.P w = .ok r w:=by
 unfold abF at h;split at h
 ·rename_i b hb;refine⟨_,.bool b,h,rfl,fun w=>?_⟩;obtain⟨h1,h2⟩:=R3 hb hu hv w;simp[eqGuard,h2,binOp,h1]
 ·rename_i b hb;refine⟨_,.bool (!b),h,rfl,fun w=>?_⟩;obtain⟨h1,h2⟩:=R3 hb hu hv w;simp[eqGuard,h2,binOp,h1]
 grind
end
section
variable {P:Program}
def NV(s:S)(y:SV):Bool :=
 match y with
 |.a (.slc t _ _ _ _)=>match s.hp.find t with
  |some (_,.obj _ _)=>true
  |_=>false
 |_=>false
def Ib(X:Cx)(t:Nat)(x y:SV)(s:S)(K:KV):Prop :=
 match X.ti t with
 |some ti =>
  match ti.d with
  |.slc e =>
   match X.ti e with
   |some te =>
    bif Nat.ble 1 te.bytes then
     match y with
     |.a (.slc tY rY eY m _) =>
      bif Nat.beq m 0 then(match x with
       |.a (.slc tX rX eX lX cX)=>K (.a (.slc tX rX eX lX cX)) s
       |.a .dJ=>K (.a .dJ) s
       |_=>False)
      else(match x,s.hp.find tY with
       |.a .dJ,some (_,.obj ety out)=>bif Nat.beq ety e&&(Nat.beq eY te.sz&&(Nat.beq rY 0&&Nat.ble (m*te.sz) out.length))then
        m*te.bytes<=140737488355328/\∀cap,m<=cap->cap<=aB->K (.a (.slc s.nx 0 te.sz m cap)) (s.new (.obj e (out.take (m*te.sz))))else False
       |_,_=>False)
     |_=>False
    else False
   |none=>False
  |_=>False
 |none=>False
theorem Mv{X:Cx}(hX:X.Ok){xt rt:Nat}{xd:TypeDesc}(hxt:X.P.underlying xt=some xd)(hxd:xd = .string\/∃e',xd = .slice e'){x y:SV}{s:S}{K:KV}(h:Ib X t x y s K)(hρ:ρ.n=s.nx)
  (hh:ak w0 M ρ s.hp w) {u:Value} (hu:x.cT ρ u) (hv:y.cT ρ v) :
 ∃r w' ρ',(Builtin.append_ #[t,xt] rt #[u,v]).run X.P w = .ok r w'/\ρ.le ρ'/\∃sv s',K sv s'/\s'.nt=s.nt/\s'.fr=s.fr/\ρ'.n=s'.nx/\sv.cT ρ' r/\ak w0 M ρ' s'.hp w':=by
 unfold Ib at h;split at h
 ·rename_i ti hti;have ty:=hX.ty hti;split at h
  ·rename_i e hd;split at h
   ·rename_i te hte;have tye:=hX.ty hte;have hut:=dD (ty.desc.trans hd);cases hb1:Nat.ble 1 te.bytes
    ·grind
    simp only[hb1,iU]at h;have hby:=EY hb1;split at h
    ·rename_i tY rY eY m cY;obtain⟨_,hmc,hcm,hval⟩:=hv;cases hm:Nat.beq m 0 with
     |true =>
      simp only[hm,iU]at h;have hm0:=Nat.eq_of_beq_eq_true hm;subst hm0;have hlen:(Builtin.lenOf v).run X.P w = .ok 0 w:=by
       rcases hval with⟨_,_,rfl⟩ | ⟨o,rfl,_⟩<;>rfl
      have hnew:(Builtin.firstCells te.sz 0 v).run X.P w = .ok #[] w:=by
       rcases hval with⟨_,_,rfl⟩ | ⟨o,rfl,_⟩<;>simp[Builtin.firstCells,loadCells,loadCellsFrom]
      split at h
      ·rename_i tX rX eX lX cX;obtain⟨g1,g2,g3,g4⟩:=hu;have hrep:(A.slc tX rX eX lX cX).cT ρ u:=⟨g1,g2,g3,g4⟩
       rcases g4 with⟨rfl,rfl,rfl⟩ | ⟨o,rfl,ho⟩
       ·exact⟨_,w,ρ,iX tye hut hxt hxd hlen hnew (cW _) rfl,Env.le.refl _,_,_,h,rfl,rfl,hρ,hrep,hh⟩
       ·exact⟨_,w,ρ,iX tye hut hxt hxd hlen hnew (by omega) rfl,Env.le.refl _,_,_,h,rfl,rfl,hρ,hrep,hh⟩
      ·have hu':u = .slice none 0 0:=hu;subst hu';exact⟨_,w,ρ,iX tye hut hxt hxd hlen hnew (cW _) rfl,Env.le.refl _,_,_,h,rfl,rfl,hρ,rfl,hh⟩
      grind
     |false =>
      simp only[hm,vv]at h;have hm0:m≠0:=fun e=>by subst e;cases hm
      split at h
      ·rename_i wr ety out hfind;have hu':u = .slice none 0 0:=hu;subst hu';cases hb:(Nat.beq ety e&&(Nat.beq eY te.sz&&(Nat.beq rY 0&&Nat.ble (m*te.sz) out.length)))
       ·simp[hb]at h
       simp only[hb,iU]at h;simp only[jB]at hb;obtain⟨e1,e2,e3,e4⟩:=hb;have:=Nat.eq_of_beq_eq_true e1;subst this;have:=Nat.eq_of_beq_eq_true e2;subst this;have:=Nat.eq_of_beq_eq_true e3;subst this;have hfit:=EY e4;obtain⟨hmb,hK⟩:=h;have he:=(hh.jk _ (aX.bO hfind)).ch;simp only at he;obtain⟨vs,fr,hbk,hoff,⟨us,xs,hus,hrep⟩,_,_⟩:=he;rcases hval with⟨h1,_,_⟩ | ⟨o,rfl,ho⟩
       ·omega
       obtain⟨rfl,_⟩:=ho (by omega);have hul:=hrep.length;have hml:m<=aB:=by
        have:m*1<=m*te.bytes:=zBM m hby;unfold aB;omega
       have hcl:(us.take (m*te.sz)).length=m*te.sz:=by simp;omega
       have hnew:(Builtin.firstCells te.sz m (.slice (some ⟨(ρ.pl tY).blk,(ρ.pl tY).off+0*te.sz,none⟩) m cY)).run X.P w.drew = .ok (us.take (m*te.sz)).toArray w.drew:=by
        have:=run_loadCells_list (P:=X.P) w.drew ⟨(ρ.pl tY).blk,(ρ.pl tY).off+0*te.sz,none⟩ (us.take (m*te.sz)) (fun j v hj=>by
         rw[Addr.add_plain,cell_of (show w.drew.heap[(ρ.pl tY).blk]? = _ from hbk),hoff];have hjl:=(Cj.1 hj).1;rw[zBu,if_pos (by omega)]at hj;have hju:=(Cj.1 hj).1;rw[show 0+0*te.sz+j=j by omega,<- zBl,hus,YM hju];exact hj)
        rw[hcl]at this;simpa[Builtin.firstCells]using this
       obtain⟨z,cap,hc1,hc2,hz,hrun⟩:=sD (ty:=rt) tye hut hxt hxd (base:=none) (sLen:=0) (sCap:=0) (old:=#[]) (w:=w) rfl hnew (by simp[Builtin.firstCells]) (by omega) (by omega) (by grind) hby;simp only[mA]at hrun hc1;obtain⟨ρ',p1,p2,p3,p4⟩:=hh.drew.agf ety cap (cs:=out.take (m*te.sz)) (vs:=#[]++(us.take (m*te.sz)).toArray++Builtin.zeroCells z.cells (cap-m)) (us:=us.take (m*te.sz)) (xs:=(Builtin.zeroCells z.cells (cap-m)).toList) (by simp) (hrep.take _);refine⟨_,_,ρ',hrun,p1,_,_,hK cap hc1 hc2,rfl,rfl,?_,?_,?_⟩
       ·rw[p2,hρ];rfl
       ·refine⟨by omega,hc1,hc2,.inr ⟨_,rfl,fun _=>?_⟩⟩
        ·rw[<- hρ,p3];exact⟨by simp only[zBt,EZ]<;>rfl,by simp⟩
       ·rw[hρ]at p4;exact p4
      grind
    grind
   grind
  grind
 grind
end
section
variable {P:Program}
def Um(X:Cx)(t:Nat)(v:Value)(f:Nat)(s:S)(K:KV):Prop :=
 match X.ti t with
 |some ti =>
  match ti.d with
  |.struct fs=>match fs[f]? with
   |some (off,sz)=>bif Nat.ble 1 sz then ∃b o,v=pv b o/\K (.a (.val (pv b (o+off)))) s else False
   |none=>False
  |_=>False
 |_=>False
variable{K:KV}{X:Cx}{p u x:Value}{s:S}
theorem YY(hX:X.Ok){f:Nat}(h:Um X t v f s K)(hu:(A.val v).cT ρ u) :
 ∃sv r,K sv s/\sv.cT ρ r/\∀w:World,(Instr.fieldAt t u f).run X.P w = .ok r w:=by
 unfold Um at h;split at h
 ·rename_i ti hti;split at h
  ·rename_i fs hd;split at h
   ·rename_i off sz hf;cases hb:Nat.ble 1 sz
    ·simp[hb]at h
    simp only[hb,iU]at h;obtain⟨b,o,rfl,h⟩:=h;have hsz:=EY hb;have ty:=hX.ty hti;obtain⟨gs,he,rfl⟩:=AE (ty.desc.trans hd);have hk:=ty.known;simp only[qM,he,RO]at hk;obtain⟨rfl,_⟩:=hu;simp only[zBA,Option.map_eq_some_iff]at hf;obtain⟨g,hg,e1⟩:=hf;cases e1;have hg':gs[f]? = some g:=by simpa using hg
    obtain⟨j,hj⟩:=zBK.1 (hk g (List.mem_of_getElem? hg));refine⟨_,pv b (o+g.offset),h,⟨rfl,rfl⟩,fun w=>?_⟩;have hne:j.size≠0:=by simp[Program.cellsOf,hj]at hsz;omega
    simp[Instr.fieldAt,run_underlying he,hg',Instr.sureAddr,fieldPlace,sizeOf,typeInfo,hj,hne,Addr.add_plain,pv]
   grind
  grind
 grind
def aiW(X:Cx)(t:Nat)(v:Value)(i:SV)(s:S)(K:KV):Prop :=
 match X.ti t,i with
 |some ti,.a i =>
  match ti.d,i.i? with
  |.slc el,some (_,n)=>match X.ti el with
   |some te=>∃b o l c,v=iK b o l c/\(0<=n/\n<(l:Int))/\K (.a (.val (pv b (o+n.toNat*te.sz)))) s
   |none=>False
  |_,_=>False
 |_,_=>False
theorem ago(hX:X.Ok){i:SV}(h:aiW X t v i s K)(hu:(A.val v).cT ρ u)(hv:i.cT ρ x) :
 ∃sv r,K sv s/\sv.cT ρ r/\∀w:World,(Instr.indexAt t u x).run X.P w = .ok r w:=by
 unfold aiW at h;split at h
 ·rename_i ti i hti;split at h
  ·rename_i el k n hd hi;split at h
   ·rename_i te hte;obtain⟨b,o,l,c,rfl,⟨h0,h1⟩,h⟩:=h;have he:=dD ((hX.ty hti).desc.trans hd);obtain⟨rfl,_⟩:=A.nD hi hv;obtain⟨rfl,_⟩:=hu;refine⟨_,pv b (o+n.toNat*te.sz),h,⟨rfl,rfl⟩,fun w=>?_⟩;have hlt:n<(l:Int):=h1;simp[Instr.indexAt,asIntOf,run_underlying he,h0,hlt,dm (hX.ty hte),Addr.add_plain,iK,pv]
   grind
  grind
 grind
def aiX(X:Cx)(t:Nat)(v:Value)(K:A->Prop):Prop :=
 match X.ti t with
 |some ti=>match ti.d with | .slc _=>(∃a l c,v = .slice a l c/\l<=aB)/\K (.int .i64 (eC v))|_=>False
 |_=>False
theorem agp(hX:X.Ok){rt:Nat}{K:A->Prop}(h:aiX X t v K)(hu:(A.val v).cT ρ u) :
 ∃z r,K z/\z.cT ρ r/\∀w:World,(Builtin.len_ #[t] rt #[u]).run X.P w = .ok r w:=by
 unfold aiX at h;split at h
 ·rename_i ti hti;split at h
  ·rename_i el hd;have he:=dD ((hX.ty hti).desc.trans hd);obtain⟨⟨a,l,c,rfl,hl⟩,h⟩:=h;obtain⟨rfl,_⟩:=hu;exact⟨_,.int .i64 l,h,⟨rfl,by constructor<;>unfold aB at hl<;>simp only[eC]<;>omega⟩,fun w=>by simp[Builtin.len_,run_underlying he,goInt]⟩
  grind
 grind
def R4:Value->Bool
 |.pointer none=>true
 |_=>false
def LZ:Value->Bool
 |.slice none _ _=>true
 |_=>false
def aiY(X:Cx)(op:BinOp)(t:Nat)(v:Value)(y:A)(K:A->Prop):Prop :=
 match X.ti t with
 |some ti=>match ti.d,op,y with
  |.ptr,.eql,.nil=>(∃p,v = .pointer p)/\K (.bool (R4 v))
  |.ptr,.neq,.nil=>(∃p,v = .pointer p)/\K (.bool (!R4 v))
  |.slc _,.eql,.dJ=>(∃a l c,v = .slice a l c)/\K (.bool (LZ v))
  |.slc _,.neq,.dJ=>(∃a l c,v = .slice a l c)/\K (.bool (!LZ v))
  |_,_,_=>False
 |none=>False
theorem agq(hX:X.Ok){op:BinOp}{y:A}{K:A->Prop}(h:aiY X op t x y K)(hu:(A.val x).cT ρ u)(hv:y.cT ρ v)(ox oy:Operand) :
 ∃z r,K z/\z.cT ρ r/\∀w:World,(eqGuard op t ox oy u v).run X.P w = .ok () w/\(binOp op t u v).run X.P w = .ok r w:=by
 unfold aiY at h;obtain⟨rfl,_⟩:=hu;split at h
 ·rename_i ti hti;split at h
  ·rename_i hd;obtain⟨e,he⟩:=x9 ((hX.ty hti).desc.trans hd);obtain⟨⟨p,rfl⟩,h⟩:=h;have hv':v = .pointer none:=hv;subst hv';refine⟨_,.bool (R4 (.pointer p)),h,rfl,fun w=>⟨by simp[eqGuard],?_⟩⟩;simp only[binOp];exact tC fun d=>by cases p<;>simp[Op.equalIn,run_underlying he,R4]
  ·rename_i hd;obtain⟨e,he⟩:=x9 ((hX.ty hti).desc.trans hd);obtain⟨⟨p,rfl⟩,h⟩:=h;have hv':v = .pointer none:=hv;subst hv';refine⟨_,.bool (!R4 (.pointer p)),h,rfl,fun w=>⟨by simp[eqGuard],?_⟩⟩;simp only[binOp];exact tD fun d=>by cases p<;>simp[Op.equalIn,run_underlying he,R4]
  ·rename_i hd;have he:=dD ((hX.ty hti).desc.trans hd);obtain⟨⟨a,l,c,rfl⟩,h⟩:=h;have hv':v = .slice none 0 0:=hv;subst hv';refine⟨_,.bool (LZ (.slice a l c)),h,rfl,fun w=>⟨by simp[eqGuard],?_⟩⟩;simp only[binOp];exact tC fun d=>by cases a<;>simp[Op.equalIn,run_underlying he,LZ]
  ·rename_i hd;have he:=dD ((hX.ty hti).desc.trans hd);obtain⟨⟨a,l,c,rfl⟩,h⟩:=h;have hv':v = .slice none 0 0:=hv;subst hv';refine⟨_,.bool (!LZ (.slice a l c)),h,rfl,fun w=>⟨by simp[eqGuard],?_⟩⟩;simp only[binOp];exact tD fun d=>by cases a<;>simp[Op.equalIn,run_underlying he,LZ]
  grind
 grind
def abI(X:Cx)(t:Nat)(v:Value)(s:S)(K:KV):Prop :=
 match X.ti t with
 |some ti=>uq s fun _ _ H=>∃b lo o cs,v=pv b (lo+o)/\H b=some (lo,cs)/\NT ti.ks cs o /\
  (bif ti.agg then K (.agg (atoms (fun j=>cs.getD j undef) ti.ks o)) s else
   match ti.ks with
   |[k]=>AA X.force (CT k (cs.getD o undef)) (K (.a (CT k (cs.getD o undef))) s)
   |_=>False)
 |none=>False
theorem abJ(hX:X.Ok)(h:abI X t x s K)(hv:(A.val x).cT ρ v)(hh:ak w0 M ρ s.hp w) :
 ∃b o,v = .pointer (some ⟨b,o,none⟩)/\∃u sv,(∀w':World,(∀t',yL s.hp=some t'->∀b,(ρ.pl t').fp b->w'.heap[b]? = w.heap[b]?)->(loadVar t ⟨b,o,none⟩).run X.P w' = .ok u w')/\sv.cT ρ u/\K sv s:=by
 unfold abI at h;split at h
 ·rename_i ti hti;have ty:=hX.ty hti;obtain⟨rfl,_⟩:=hv;unfold uq at h;split at h
  ·rename_i tp htp;split at h
   ·rename_i wr H hf;obtain⟨b,lo,o,cs,rfl,hH,hc,h⟩:=h;refine⟨b,lo+o,rfl,?_⟩;have he:=(hh.jk _ (aX.bO hf)).ch;obtain⟨hfp,vs,vty,fr,hb,hvl,hvs,_⟩:=he b lo cs hH;have hat:∀j k,ti.ks[j]? = some k->vs[lo+o+j]? = some (cs.getD (o+j) undef)/\k.ok (cs.getD (o+j) undef):=by
     intro j k hk;obtain⟨h1,h2⟩:=IU hc hk;exact⟨by grind,h2⟩
    have hks:=oW ty;cases ha:ti.agg
    ·simp only[ha,vv]at h;split at h
     ·rename_i k hk;obtain⟨e1,e2⟩:=hat 0 k (by rw[hk];rfl);simp only[EZ]at e1 e2;exact⟨_,.a _,fun w' hw=>wW ty w' _ _ ha (by grind [cell_of]),vC e2 ρ,H7 h (vC e2 ρ)⟩
     grind
    ·simp only[ha,iU]at h;have hrep:=E6 ρ (fun j=>cs.getD j undef) ti.ks o fun j k hk=>(hat j k hk).2;refine⟨_,.agg _,fun w' hw=>wV ty w' _ _ ((List.range' o ti.ks.length).map fun j=>cs.getD j undef) ha (by simp[hks]) ?_,⟨_,rfl,hrep⟩,h⟩;intro j v hj;rw[cell_of (by rw[hw tp htp _ hfp];exact hb)];have hjl:j<ti.ks.length:=by
      rcases zBn j ti.ks.length with h|h
      ·exact h
      ·grind
     rw[(hat j _ (IC hjl)).1]
     grind
   grind
  grind
 grind
def Un(X:Cx)(t:Nat)(p:Value)(v:SV)(s:S)(K:KV):Prop :=
 match X.ti t,vb v with
 |some ti,some xs=>uq s fun tp wr H=>bif wr&&(Nat.beq xs.length ti.sz&&pF ti.ks xs)then
  ∃b lo o cs,p=pv b (lo+o)/\H b=some (lo,cs)/\o+xs.length<=cs.length/\yO xs fun vs=>K (.a .any) (s.put (s.hp.yJ tp (.dg (bB H b lo (cs.take o++vs++cs.drop (o+vs.length))))))else False
 |_,_=>False
theorem YZ{ks:List CK}{xs:List A}{vs:List Value}(h:pF ks xs=true)(hl:xs.length<=ks.length)(r:dw ρ xs vs):∀v∈vs,v.oneCell'=true:=by
 obtain⟨_,hk⟩:=vD h r;intro v hv;obtain⟨j,hj,rfl⟩:=List.getElem_of_mem hv;have hlen:=r.length;exact(hk j _ (ks[j]'(by omega)) (IC hj) (IC _)).one
theorem R5:∀ {ks:List CK} {xs:List A},pF ks xs=true->x8 xs=true
 |_,[],_=>rfl
 |[],_::_,h=>by simp[pF]at h
 |k::ks,x::xs,h=>by
  simp only[pF,jB]at h;simp only[x8,jB];refine⟨?_,R5 h.2⟩;have h1:=h.1;cases k<;>cases x<;>first|rfl|grind [agc]
theorem Y0(hX:X.Ok){v:SV}(h:Un X t x v s K)(hp:(A.val x).cT ρ p)(hv:v.cT ρ u)(hh:ak w0 M ρ s.hp w) :
 ∃b o,p = .pointer (some ⟨b,o,none⟩)/\∃w' eV,(storeVar t ⟨b,o,none⟩ u).run X.P w = .ok () w'/\ak w0 M ρ eV w'/\K (.a .any) (s.put eV):=by
 unfold Un at h;split at h
 ·rename_i ti xs hti hxs;have ty:=hX.ty hti;replace h:=vm h;obtain⟨tp,wr,H,h,hf⟩:=h;cases hb0:(wr&&(Nat.beq xs.length ti.sz&&pF ti.ks xs))
  ·grind
  simp only[hb0,iU]at h;simp only[jB]at hb0;obtain⟨hwr,hsz,hfit⟩:=hb0;subst hwr;obtain⟨b,lo,o,cs,rfl,hH,hle,h⟩:=h;rw[vE]at h;obtain⟨rfl,_⟩:=hp;refine⟨b,lo+o,rfl,?_⟩;have hsz':=Nat.eq_of_beq_eq_true hsz;have hr:=wX hxs hv (R5 hfit);have hks:=oW ty;have hone:=YZ hfit (by omega) hr;obtain⟨ev,_⟩:=vD hfit hr;have hlen:=hr.length;have hsize:u.cells.size=ti.sz:=by rw[<- hsz',<- hlen];simp
  have hent:=hh.jk _ (aX.bO hf);have he:=hent.ch;obtain⟨hfp,vs,vty,fr,hb,hvl,hvs,hu⟩:=he b lo cs hH;have hcl:u.cells.toList.length=xs.length:=hlen;have hs:=gT (P:=X.P) b (lo+o) vty fr u.cells.toList 0 vs w hb (fun x h1 h2=>hu x (by omega) (by omega)) (by omega) hone;have run:∀w',(storeCells ⟨b,lo+o,none⟩ u.cells.toList).run X.P w = .ok () w'->(storeVar t ⟨b,lo+o,none⟩ u).run X.P w = .ok () w':=by
   intro w' hw;simp[storeVar,dm ty,hsize,hw]
  refine⟨_,_,run _ hs,hh.yJ hf ((iy.setRow w _ _).mono fun x _ hb=>by grind) ?_,h⟩;intro b' lo' cs' hb';by_cases hbb:b'=b
  ·subst hbb;rw[fJ]at hb';cases hb';have hvsz:vs.toList.length=vs.size:=by simp
   rw[<- ev];have hcsl:(cs.take o++u.cells.toList++cs.drop (o+u.cells.toList.length)).length=cs.length:=by simp only[wM,zBj,List.length_drop];omega
   refine⟨hfp,_,vty,fr,setRow_heap w _ _ _ vty fr hb,?_,fun i hi=>?_,by grind⟩
   ·grind
   ·rw[hcsl]at hi;rw[zAU,jI _ _ _ (by omega),jI _ _ _ (by omega)]
    grind
  ·rw[dM hbb]at hb';obtain⟨g1,vs',ty',fr',g2,g3⟩:=he b' lo' cs' hb'
   grind [setRow_other]
 grind
def Uo(X:Cx)(t:Nat)(v:Value)(lo hi mx:Option Operand)(s:S)(K:KV):Prop :=
 match X.ti t with
 |some ti =>
  match ti.d with
  |.slc el =>
   match X.ti el with
   |some te=>bif mx.isNone||hi.isSome then NS v /\
    pO s mx (nj v) (nj v) fun m=>pO s hi (eC v) m fun h=>pO s lo 0 h fun l=>K (.a (.val (sk te.sz v l h m))) s else False
   |none=>False
  |_=>False
 |none=>False
theorem Y3(hX:X.Ok){lo hi mx:Option Operand}(h:Uo X t v lo hi mx s K){a:Act}(hf:fA ρ s.fr a.tmps)(hu:(A.val v).cT ρ u) :
 ∃r sv,(∀w:World,(Instr.sliceAt t u (lo.map a.eval) (hi.map a.eval) (mx.map a.eval)).run X.P w = .ok r w)/\sv.cT ρ r/\K sv s:=by
 unfold Uo at h;split at h
 ·rename_i ti hti;have ty:=hX.ty hti;split at h
  ·rename_i el hd;have hut:=dD (ty.desc.trans hd);split at h
   ·rename_i te hte;have tye:=hX.ty hte;cases hb0:(mx.isNone||hi.isSome)
    ·grind
    simp only[hb0,iU]at h;simp only[IE]at hb0;have hmx:mx=none\/hi≠none:=by
     rcases hb0 with h|h
     ·exact .inl (by simpa using h)
     ·grind
    obtain⟨hok,h⟩:=h;obtain⟨rfl,_⟩:=hu;obtain⟨mN,h,g1,g2⟩:=lM (P:=X.P) h hf;obtain⟨hN,h,h1,h2⟩:=lM (P:=X.P) h hf;obtain⟨lN,h,h3,h4⟩:=lM (P:=X.P) h hf;rcases hok with rfl | ⟨b,o,len,cap,rfl,hlc,hcm⟩
    ·have hb:=fun w=>sE (P:=X.P) (isSlice:=true) (len:=0) (cap:=0) (lo:=lo) (hi:=hi) (mx:=mx) (a:=a) (w:=w) (m:=mN) (h:=hN) (l:=lN) hmx ⟨g1,g2⟩ ⟨h1,h2⟩ ⟨h3,h4⟩;have e1:mN<=0:=by cases mx with|none=>rw[g1 rfl];exact cW _|some y=>exact(g2 y rfl).1
     have e2:hN<=mN:=by
      cases hi with
      |none=>rw[h1 rfl];exact Az _
      |some y=>grind
     have e3:lN<=hN:=by cases lo with|none=>grind|some y=>grind
     obtain rfl:mN=0:=by omega
     obtain rfl:hN=0:=by omega
     obtain rfl:lN=0:=by omega
     refine⟨_,.a (.val (.slice none 0 0)),fun w=>?_,⟨rfl,rfl⟩,h⟩;simp only[Instr.sliceAt,Sem.run_bind,run_underlying hut,Result.andThen_ok,Instr.slice,hb,dm tye,Sem.run_pure];simp
    ·have hb:=fun w=>sE (P:=X.P) (isSlice:=true) (len:=len) (cap:=cap) (lo:=lo) (hi:=hi) (mx:=mx) (a:=a) (w:=w) (m:=mN) (h:=hN) (l:=lN) hmx ⟨g1,g2⟩ ⟨h1,h2⟩ ⟨h3,h4⟩;refine⟨_,.a (.val (sk te.sz (iK b o len cap) lN hN mN)),fun w=>?_,⟨rfl,rfl⟩,h⟩;rw[E9];simp only[iK,Instr.sliceAt,Sem.run_bind,run_underlying hut,Result.andThen_ok,Instr.slice,hb,dm tye,Sem.run_pure]
     grind [Addr.add_plain]
   grind
  grind
 grind
def abK(X:Cx)(src dst:Nat)(v:Value)(s:S)(K:KV):Prop :=
 match X.ti src,X.ti dst with
 |some ts,some td =>
  match ts.d,td.d with
  |.slc et,.str=>match X.ti et with
   |some te=>match te.d with
    |.int .u8=>uq s fun _ _ H=>∃l c rows,oo H v [.int .u8] l c rows/\K (.a (.str (lP rows 0 l))) s
    |_=>False
   |none=>False
  |_,_=>False
 |_,_=>False
theorem abL(hX:X.Ok){src dst:Nat}(h:abK X src dst x s K)(hv:(A.val x).cT ρ v)(hh:ak w0 M ρ s.hp w) :
 ∃sv r,K sv s/\sv.cT ρ r/\∀w':World,(∀t',yL s.hp=some t'->∀b,(ρ.pl t').fp b->w'.heap[b]? = w.heap[b]?)->(convert src dst v).run X.P w' = .ok r w':=by
 unfold abK at h;split at h
 ·rename_i ts td hs hd;split at h
  ·rename_i et hsd hdd;split at h
   ·rename_i te hte;split at h
    ·rename_i hed;have e1:=dD ((hX.ty hs).desc.trans hsd);have e2:=tK ((hX.ty hd).desc.trans hdd);have e3:=vF ((hX.ty hte).desc.trans hed);obtain⟨rfl,_⟩:=hv;unfold uq at h;split at h
     ·rename_i tp htp;split at h
      ·rename_i wr H hf;obtain⟨l,c,rows,hsl,h⟩:=h;have hc:=(hh.jk _ (aX.bO hf)).ch;rcases hsl with⟨rfl,rfl,rfl⟩ | ⟨b,lo,o,cs,rfl,⟨h1,h2⟩,hH,hfit,hrow⟩
       ·refine⟨_,.string (lP rows 0 0),h,⟨rfl,by rw[xA];omega⟩,fun w' _=>?_⟩;rw[run_convert_bytes_string w' src dst et none _ _ e1 e3 e2];rfl
       ·refine⟨_,.string (lP rows 0 l),h,⟨rfl,by rw[xA];omega⟩,fun w' hw=>?_⟩;have hc':(Chunk.dg H).Sat ρ (ρ.pl tp) w':=fun b lo cs hb=>by
         obtain⟨hfp,vs,vty,fr,hb1,hr⟩:=hc b lo cs hb
         grind
        simp only[ID,T9]at hfit;obtain⟨cells,c1,c2,c3⟩:=IW (P:=X.P) hc' hH hrow (by grind) (cW l);rw[iK,run_convert_bytes_string w' src dst et (some _) _ _ e1 e3 e2];have hcells:cells=(((List.range l).map fun i=>dR (rows (0+i) 0)).map (Value.int .u8)).toArray:=by
         apply Array.ext
         ·simp[c2]
         ·intro i hi1 hi2;have hi:i<l:=by simpa[c2]using hi1
          obtain⟨g1,k,g2,g3⟩:=c3 i hi 0 (.int .u8) rfl;simp only[ID,T9,EZ]at g1
          grind [dR]
        have hl:=c1 w' rfl;simp only[ID,T9]at hl;rw[hcells]at hl;exact run_bytesToString w' _ l c _ hl
      grind
     grind
    grind
   grind
  grind
 grind
end
section
variable {P:Program}
theorem aX.abM{u:Nat}(h:t≠u):(hp.del u).find t=hp.find t:=by
 induction hp with
 |nil=>rfl
 |cons e r ih =>
  simp only[aX.del];by_cases he:e.tag=u
  ·subst he;simp only[fI,iU,aX.find,gM (Ne.symm h),vv]
  ·simp only[gM he,vv,aX.find,ih]
variable{K:A->S->Prop}{c e l r rt tp xt:Nat}{c0 c1 c2:Chunk}{s:S}{u:Value}{y:SV}
theorem ak.air(hh:ak w0 M ρ hp w)(hf:hp.find tp=some (true,c1))(ht:hp.find t=some (true,c2))(hne:t≠tp)
 (p:Place) (hp1:∀b,p.fp b->(ρ.pl tp).fp b\/(ρ.pl t).fp b)  (hch:ch.Sat (ρ.ext p) p w) :
 ak w0 M (ρ.ext p) (⟨ρ.n,true,ch⟩::(hp.del tp).del t) w/\∀b,(ρ.pl t).fp b->¬(ρ.pl tp).fp b:=by
 have h1:=hh.yK hf;have hh1:ak w0 M ρ (hp.del tp) w:=hh.sub aX.lK;have ht1:(hp.del tp).find t=some (true,c2):=by rw[aX.abM hne];exact ht
 have h2:=hh1.yK ht1;have hh2:ak w0 M ρ ((hp.del tp).del t) w:=hh1.sub aX.lK;have e1:=hh.jk _ (aX.bO hf);have e2:=hh.jk _ (aX.bO ht);refine⟨(hh2.mono (ρ.gY p)).cons ⟨zBi _,?_,?_,?_⟩ ?_,?_⟩
 ·grind [ρ.ew]
 ·simp only[ρ.ew];intro b hb;rcases hp1 b hb with h|h
  ·exact e1.lt b h
  ·exact e2.lt b h
 ·simp only[ρ.ew];intro _ b hb hb0;rcases hp1 b hb with h|h
  ·exact e1.own rfl b h hb0
  ·exact e2.own rfl b h hb0
 ·intro z hz;have hz1:=aX.lK.subset hz;have htz:=(hh.jk z (aX.lK.subset hz1)).tag;refine⟨Nat.ne_of_gt htz,fun _ b hb hb'=>?_⟩;simp only[ρ.ew]at hb;rw[ρ.yI p htz]at hb'
  grind
 ·intro b hb hb';exact(h1 _ (aX.bO ht1)).2 rfl b hb' hb
def R6(w0:World)(M:Nat->Prop)(ρ:Env)(w:World)(s:S)(u:Value)(K:A->S->Prop):Prop :=
 ∃x s' ρ',K x s'/\s'.nt=s.nt/\s'.fr=s.fr/\ρ'.n=s'.nx/\ρ.le ρ'/\x.cT ρ' u/\ak w0 M ρ' s'.hp w
def Ic(s:S)(t r e l c:Nat)(K:A->S->Prop):Prop :=
 uq s fun tp wr H=>match s.hp.find t with
  |some (true,.arr _ ks n rows)=>bif wr&&(Nat.beq e ks.length&&!Nat.beq t tp)then
   (c≠0/\r+l<=n)/\∀b lo cs,H b=none->cs.length=c*ks.length->IV cs 0 ks l (fun i j=>rows (r+i) j) ->
    K (.val (iK b lo l c)) ⟨s.nt,s.fr,⟨s.nx,true,.dg (bB H b lo cs)⟩::(s.hp.del tp).del t,s.nx+1,s.kp,s.rt⟩else False
  |_=>False
theorem IZ(h:Ic s t r e l c K)(hρ:ρ.n=s.nx)(hh:ak w0 M ρ s.hp w)(hu:(A.slc t r e l c).cT ρ u):R6 w0 M ρ w s u K:=by
 unfold Ic at h;replace h:=vm h;obtain⟨tp,wr,H,h,hf⟩:=h;split at h
 ·rename_i ty ks n rows ht;cases hb:(wr&&(Nat.beq e ks.length&&!Nat.beq t tp))
  ·simp[hb]at h
  simp only[hb,iU]at h;simp only[jB,RM]at hb;obtain⟨hwr,he,hne⟩:=hb;subst hwr;have he:=Nat.eq_of_beq_eq_true he;subst he;have hne:t≠tp:=fun e=>by grind
  obtain⟨⟨hc0,hrl⟩,h⟩:=h;obtain⟨htn,hlc,hcm,hv⟩:=hu;rcases hv with⟨_,h0,_⟩ | ⟨o,rfl,ho⟩
  ·omega
  obtain⟨rfl,hN⟩:=ho hc0;have ea:=hh.jk _ (aX.bO ht);have ep:=hh.jk _ (aX.bO hf);have hca:=ea.ch;have hcp:=ep.ch;simp only at hca hcp;rcases hca with⟨_,hN0,_⟩ | ⟨vs,vty,fr,hbk,hfit,hnN,hun,hfp,hrows⟩
  ·omega
  have hmul:=xz ks.length hN;rw[zBs]at hmul
  let lo:=(ρ.pl t).off+r*ks.length
  let cs:=(vs.toList.drop lo).take (c*ks.length)
  have hvl:vs.toList.length=vs.size:=by simp
  have hcl:cs.length=c*ks.length:=by
   simp only[cs,zBj,List.length_drop,lo];omega
  have hcat:∀i,i<c*ks.length->cs[i]? = vs[lo+i]?:=by
   intro i hi;simp only[cs];rw[zBu,if_pos hi,zBE];simp
  have hfpt:(ρ.pl t).fp (ρ.pl t).blk:=(hfp _).2 rfl;obtain⟨g1,g2⟩:=hh.air hf ht hne ⟨0,0,0,fun b=>(ρ.pl tp).fp b\/(ρ.pl t).fp b⟩ (fun b hb=>hb) (ch:=.dg (bB H (ρ.pl t).blk lo cs)) (by
   intro b lo' cs' hb;by_cases hbb:b=(ρ.pl t).blk
   ·subst hbb;rw[fJ]at hb;cases hb;refine⟨.inr hfpt,vs,vty,fr,hbk,by omega,fun i hi=>(hcat i (by omega)).symm,fun x h1 h2=>hun x (by omega) (by omega)⟩
   ·rw[dM hbb]at hb;obtain⟨a1,a2⟩:=hcp b lo' cs' hb
    grind)
  have hnone:H (ρ.pl t).blk=none:=by
   cases hH:H (ρ.pl t).blk with
   |none=>rfl
   |some q=>exact absurd (hcp _ q.1 q.2 hH).1 (g2 _ hfpt)
  refine⟨_,_,_,h (ρ.pl t).blk lo cs hnone hcl ⟨fun i hi j k hk=>?_⟩,rfl,rfl,by show ρ.n+1=s.nx+1;rw[hρ],ρ.gY _,⟨rfl,rfl⟩,by rw[<- hρ];exact g1⟩;have hjl:j<ks.length:=(Cj.1 hk).1;obtain⟨a,b⟩:=hrows (r+i) (by omega) j k hk;have hlt:i*ks.length+j<c*ks.length:=by
   have:=xz ks.length (show i+1<=c by omega);rw[Nat.succ_mul]at this;omega
  grind
 grind
def A.flat:A->Bool
 |.lit _ _=>true
 |.int _ _=>true
 |.tt=>true
 |.ff=>true
 |.bool _=>true
 |.str _=>true
 |.nil=>true
 |.dJ=>true
 |.fn _=>true
 |.val _=>true
 |_=>false
def yT:List A->Bool
 |[]=>true
 |x::r=>x.flat&&yT r
theorem abN(h:x.flat=true)(r:x.cT ρ v):v=x.IN:=by
 cases x<;>simp only[A.flat,A.cT]at h r<;>first|(cases h;done)|exact r|exact r.1
theorem G6{ρ:Env}:∀ {xs:List A} {vs:List Value},yT xs=true->dw ρ xs vs->vs=xs.map A.IN
 |[],_,_,r=>r
 |x::xs,_,h,⟨u,t,e,r1,r2⟩=>by
  subst e;simp only[yT,jB]at h;rw[abN h.1 r1,G6 h.2 r2];rfl
def Mw:List A->Prop->Prop
 |[],p=>p
 |.int k n::r,p=>bZ k n->Mw r p
 |.str b::r,p=>b.size<=aB->Mw r p
 |_::r,p=>Mw r p
theorem Fb{ρ:Env}{p:Prop}:∀ {xs:List A} {vs:List Value},Mw xs p->dw ρ xs vs->p
 |[],_,h,_=>h
 |x::xs,_,h,⟨u,t,e,r1,r2⟩=>by
  cases x<;>simp only[Mw]at h<;>first|exact Fb (h r1.2) r2|exact Fb h r2
def NW(s:S)(t:Nat)(cs:List A)(K:A->S->Prop):Prop :=
 uq s fun tp wr H=>match s.hp.find t with
  |some (true,.obj _ cs0)=>bif wr&&(Nat.beq cs.length cs0.length&&(yT cs&&!Nat.beq t tp))then
   Mw cs (yO cs fun vs=>∀b,H b=none->K (.val (pv b 0)) ⟨s.nt,s.fr,⟨s.nx,true,.dg (bB H b 0 vs)⟩::(s.hp.del tp).del t,s.nx+1,s.kp,s.rt⟩)else False
  |_=>False
theorem Up{cs:List A}(h:NW s t cs K)(hρ:ρ.n=s.nx)(hh:ak w0 M ρ s.hp w)(hu:(A.ptr t 0 e 0).cT ρ u)
 (hcs:∀vs ty fr,w.heap[(ρ.pl t).blk]? = some (.cells vs ty fr)->∃us xs,vs.toList=us++xs/\dw ρ cs us):R6 w0 M ρ w s u K:=by
 unfold NW at h;replace h:=vm h;obtain⟨tp,wr,H,h,hf⟩:=h;split at h
 ·rename_i ty cs0 ht;cases hb:(wr&&(Nat.beq cs.length cs0.length&&(yT cs&&!Nat.beq t tp)))
  ·simp[hb]at h
  simp only[hb,iU]at h;simp only[jB,RM]at hb;obtain⟨hwr,hlen,hfl,hne⟩:=hb;subst hwr;have hne:t≠tp:=fun e=>by grind
  obtain⟨_,rfl⟩:=hu;have ea:=hh.jk _ (aX.bO ht);have ep:=hh.jk _ (aX.bO hf);have hca:=ea.ch;have hcp:=ep.ch;simp only at hca hcp;obtain⟨vs,fr,hbk,hoff,_,hun,hfp⟩:=hca;obtain⟨us,xs,hus,hrep⟩:=hcs vs ty fr hbk;have h:=Fb h hrep;rw[vE,<- G6 hfl hrep]at h;have hvl:us.length+xs.length=vs.size:=by rw[<- zBN,hus,wM]
  have hfpt:(ρ.pl t).fp (ρ.pl t).blk:=(hfp _).2 rfl;obtain⟨g1,g2⟩:=hh.air hf ht hne ⟨0,0,0,fun b=>(ρ.pl tp).fp b\/(ρ.pl t).fp b⟩ (fun b hb=>hb) (ch:=.dg (bB H (ρ.pl t).blk 0 us)) (by
   intro b lo' cs' hb;by_cases hbb:b=(ρ.pl t).blk
   ·subst hbb;rw[fJ]at hb;cases hb;refine⟨.inr hfpt,vs,ty,fr,hbk,by omega,fun i hi=>?_,fun x h1 h2=>hun x (by omega)⟩;rw[mA,<- zBl,hus,YM hi]
   ·rw[dM hbb]at hb;obtain⟨a1,a2⟩:=hcp b lo' cs' hb
    grind)
  have hnone:H (ρ.pl t).blk=none:=by
   cases hH:H (ρ.pl t).blk with
   |none=>rfl
   |some q=>exact absurd (hcp _ q.1 q.2 hH).1 (g2 _ hfpt)
  refine⟨_,_,_,h (ρ.pl t).blk hnone,rfl,rfl,by show ρ.n+1=s.nx+1;rw[hρ],ρ.gY _,⟨?_,rfl⟩,by rw[<- hρ];exact g1⟩;simp[pv,hoff]
 grind
def agr(f:A->S->(A->S->Prop)->Prop):List A->S->(List A->S->Prop)->Prop
 |[],s,K=>K [] s
 |x::r,s,K=>f x s fun x s=>agr f r s fun r s=>K (x::r) s
def R7:Nat->A->S->(A->S->Prop)->Prop
 |0,_,_,_=>False
 |n+1,x,s,K=>match x with
  |.slc t r e l c=>Ic s t r e l c K
  |.ptr t 0 _ 0=>match s.hp.find t with
   |some (true,.obj _ cs)=>agr (R7 n) cs s fun cs s=>NW s t cs K
   |_=>False
  |.ptr _ _ _ _=>False
  |.sub _ _ _ _ _ _=>False
  |.any=>False
  |x=>K x s
theorem NX{f:A->S->(A->S->Prop)->Prop}(hf:∀x s K,f x s K->∀w0 M ρ w,ρ.n=s.nx->ak w0 M ρ s.hp w->∀u,x.cT ρ u->R6 w0 M ρ w s u K) :
 ∀(l:List A) (s:S) (K:List A->S->Prop),agr f l s K->∀w0 M ρ w,ρ.n=s.nx->ak w0 M ρ s.hp w->∀us,dw ρ l us ->
  ∃xs s' ρ',K xs s'/\s'.nt=s.nt/\s'.fr=s.fr/\ρ'.n=s'.nx/\ρ.le ρ'/\dw ρ' xs us/\ak w0 M ρ' s'.hp w
 |[],s,K,h,w0,M,ρ,w,hρ,hh,us,hu=>⟨[],s,ρ,h,rfl,rfl,hρ,Env.le.refl ρ,hu,hh⟩
 |x::r,s,K,h,w0,M,ρ,w,hρ,hh,us,hu=>by
  obtain⟨u,t,rfl,r1,r2⟩:=hu;obtain⟨y,s1,ρ1,k1,a1,a2,a3,a4,a5,a6⟩:=hf _ _ _ h w0 M ρ w hρ hh u r1;obtain⟨ys,s2,ρ2,k2,b1,b2,b3,b4,b5,b6⟩:=NX hf r s1 _ k1 w0 M ρ1 w a3 a6 t (r2.mono a4);exact⟨y::ys,s2,ρ2,k2,b1.trans a1,b2.trans a2,b3,a4.trans b4,⟨u,t,rfl,a5.mono b4,b5⟩,b6⟩
theorem Ie:∀(n:Nat) (x:A) (s:S) (K:A->S->Prop),R7 n x s K->∀w0 M ρ w,ρ.n=s.nx->ak w0 M ρ s.hp w->∀u,x.cT ρ u->R6 w0 M ρ w s u K
 |0,_,_,_,h,_,_,_,_,_,_,_,_=>h.elim
 |n+1,x,s,K,h,w0,M,ρ,w,hρ,hh,u,hu=>by
  unfold R7 at h;split at h
  ·grind [IZ]
  ·rename_i t e;split at h
   ·rename_i ty cs ht;have he:=(hh.jk _ (aX.bO ht)).ch;have htag:=(hh.jk _ (aX.bO ht)).tag;simp only at he htag;obtain⟨vs,fr,hbk,hoff,⟨us,xs,hus,hrep⟩,_⟩:=he;obtain⟨ys,s1,ρ1,k1,a1,a2,a3,a4,a5,a6⟩:=NX (Ie n) cs s _ h w0 M ρ w hρ hh us hrep;have hpl:=a4.pl t htag;obtain⟨y,s2,ρ2,k2,b1,b2,b3,b4,b5,b6⟩:=Up k1 a3 a6 (hu.mono a4) (fun vs' ty' fr' hb'=>by
     grind)
    exact⟨y,s2,ρ2,k2,b1.trans a1,b2.trans a2,b3,a4.trans b4,b5,b6⟩
   grind
  ·exact h.elim
  ·exact h.elim
  ·exact h.elim
  ·exact⟨x,s,ρ,h,rfl,rfl,hρ,Env.le.refl ρ,hu,hh⟩
theorem ak.NY(hh:ak w0 M ρ hp w)(hf:hp.find tp=some (true,c0))(p1 p2:Place)(h1:∀b,p1.fp b->(ρ.pl tp).fp b)(h2:∀b,p2.fp b->(ρ.pl tp).fp b)
 (h12:∀b,p1.fp b->¬p2.fp b)  (hc1:∀ρ':Env,c1.Sat ρ' p1 w) (hc2:∀ρ':Env,c2.Sat ρ' p2 w):ak w0 M ((ρ.ext p1).ext p2) (⟨ρ.n,true,c1⟩::⟨ρ.n+1,true,c2⟩::hp.del tp) w:=by
 have hd:=hh.yK hf;have hsub:ak w0 M ρ (hp.del tp) w:=hh.sub aX.lK;have e0:=hh.jk _ (aX.bO hf);have hle:=(ρ.gY p1).trans ((ρ.ext p1).gY p2);have q1:((ρ.ext p1).ext p2).pl ρ.n=p1:=by rw[(ρ.ext p1).yI p2 (zBi _)];exact ρ.ew p1
 have q2:((ρ.ext p1).ext p2).pl (ρ.n+1)=p2:=(ρ.ext p1).ew p2;have hn:((ρ.ext p1).ext p2).n=ρ.n+2:=rfl;have old:∀z∈hp.del tp,z.tag<ρ.n/\((ρ.ext p1).ext p2).pl z.tag=ρ.pl z.tag:=fun z hz=>⟨(hsub.jk z hz).tag,hle.pl _ (hsub.jk z hz).tag⟩
 refine((hsub.mono hle).cons (e:=⟨ρ.n+1,true,c2⟩) ⟨by grind,by grind,by simp only[q2];exact fun b hb=>e0.lt b (h2 b hb),by simp only[q2];exact fun _ b hb hb0=>e0.own rfl b (h2 b hb) hb0⟩ ?_).cons
  ⟨by grind,by grind,by simp only[q1];exact fun b hb=>e0.lt b (h1 b hb),by simp only[q1];exact fun _ b hb hb0=>e0.own rfl b (h1 b hb) hb0⟩ ?_
 ·intro z hz;obtain⟨a,b⟩:=old z hz;refine⟨by grind,fun _ x hx hx'=>?_⟩
  grind
 ·intro z hz;rcases uf.1 hz with rfl|hz
  ·exact⟨by grind,fun _ x hx hx'=>by grind⟩
  ·obtain⟨a,b⟩:=old z hz;refine⟨by grind,fun _ x hx hx'=>?_⟩
   grind
def aiZ(K:KV):KV:=fun r s=>match r with
 |.a (.slc t r e l c)=>Ic s t r e l c fun x s=>K (.a x) s
 |_=>False
def NZ(X:Cx)(t:Nat)(v:Value)(y:SV)(s:S)(K:KV):Prop :=
 match X.ti t with
 |some ti =>
  match ti.d with
  |.slc e =>
   match X.ti e with
   |some te=>uq s fun tp wr H=>bif wr then
    ∃l c rows,oo H v te.ks l c rows /\
     yS X t (.a (.slc s.nx 0 te.sz l c)) y ⟨s.nt,s.fr,⟨s.nx,true,.arr e te.ks l rows⟩::⟨s.nx+1,true,.dg (bu H v)⟩::s.hp.del tp,s.nx+2,s.kp,s.rt⟩ (aiZ K)else False
   |none=>False
  |_=>False
 |none=>False
theorem Uq{X:Cx}(hX:X.Ok){xd:TypeDesc}(hxt:X.P.underlying xt=some xd)(hxd:xd = .string\/∃e',xd = .slice e'){x:Value}{K:KV}(h:NZ X t x y s K)(hρ:ρ.n=s.nx)
  (hh:ak w0 M ρ s.hp w)  (hu:(A.val x).cT ρ u) (hv:y.cT ρ v) :
 ∃r w' ρ',(Builtin.append_ #[t,xt] rt #[u,v]).run X.P w = .ok r w'/\ρ.le ρ'/\∃sv s',K sv s'/\s'.nt=s.nt/\s'.fr=s.fr/\ρ'.n=s'.nx/\sv.cT ρ' r/\ak w0 M ρ' s'.hp w':=by
 unfold NZ at h;split at h
 ·rename_i ti hti;split at h
  ·rename_i e hd;split at h
   ·rename_i te hte;have tye:=hX.ty hte;have hks:=oW tye;replace h:=vm h;obtain⟨tp,wr,H,h,hf⟩:=h;cases wr with
    |false=>exact h.elim
    |true =>
    simp only[iU]at h;obtain⟨rfl,_⟩:=hu;have fin:∀(s1:S) (ρ1:Env) (xv:SV),s1.nt=s.nt->s1.fr=s.fr->ρ1.n=s1.nx->ρ.le ρ1->ak w0 M ρ1 s1.hp w->xv.cT ρ1 u->yS X t xv y s1 (aiZ K) ->
     ∃r w' ρ',(Builtin.append_ #[t,xt] rt #[u,v]).run X.P w = .ok r w'/\ρ.le ρ'/\∃sv s',K sv s'/\s'.nt=s.nt/\s'.fr=s.fr/\ρ'.n=s'.nx/\sv.cT ρ' r/\ak w0 M ρ' s'.hp w':=by
     intro s1 ρ1 xv a1 a2 a3 a4 a5 a6 hx;obtain⟨r,w',ρ2,hr,hle,sv,s2,k2,b1,b2,b3,b4,b5⟩:=BU (rt:=rt) hX hxt hxd hx a3 a5 a6 (hv.mono a4);unfold aiZ at k2;split at k2
     ·obtain⟨y,s3,ρ3,k3,c1,c2,c3,c4,c5,c6⟩:=IZ k2 b3 b5 b4;exact⟨r,w',ρ3,hr,a4.trans (hle.trans c4),.a y,s3,k3,c1.trans (b1.trans a1),c2.trans (b2.trans a2),c3,c5,c6⟩
     ·exact k2.elim
    obtain⟨l,c,rows,hat,h⟩:=h;rcases hat with⟨rfl,rfl,rfl⟩ | ⟨b,lo,o,cs,rfl,⟨hlc,hcm⟩,hH,hfit,hrows⟩
    ·have hcp:=(hh.jk _ (aX.bO hf)).ch;simp only at hcp;have hsp:=hh.NY hf ⟨0,0,0,fun _=>False⟩ ⟨0,0,0,fun x=>(ρ.pl tp).fp x⟩ (fun x hx=>hx.elim) (fun x hx=>hx) (fun x hx _=>hx)
      (c1:=.arr e te.ks 0 rows) (c2:=.dg H) (fun ρ'=>.inl ⟨rfl,rfl,fun _ h=>h⟩) (fun ρ' x lo' cs' hx=>hcp x lo' cs' hx)
     rw[hρ]at hsp;exact fin ⟨s.nt,s.fr,⟨s.nx,true,.arr e te.ks 0 rows⟩::⟨s.nx+1,true,.dg H⟩::s.hp.del tp,s.nx+2,s.kp,s.rt⟩ _ (.a (.slc s.nx 0 te.sz 0 0)) rfl rfl (by show ρ.n+1+1=s.nx+2;rw[hρ]) ((ρ.gY _).trans ((ρ.ext _).gY _)) hsp
      ⟨by show s.nx<ρ.n+2;omega,cW _,by omega,.inl ⟨rfl,rfl,rfl⟩⟩ h
    ·have hcp:=(hh.jk _ (aX.bO hf)).ch;simp only at hcp;obtain⟨hfp,vs,vty,fr,hb,hvl,hvs,hun⟩:=hcp b lo cs hH;have hsp:=hh.NY hf ⟨b,lo+o,c,fun x=>x=b⟩ ⟨0,0,0,fun x=>(ρ.pl tp).fp x/\x≠b⟩ (fun x hx=>by grind) (fun x hx=>hx.1) (fun x hx hx'=>hx'.2 hx)
      (c1:=.arr e te.ks l rows) (c2:=.dg (yR H b)) (fun ρ'=>.inr ⟨vs,vty,fr,hb,by grind,hlc,fun x h1 h2=>hun x (by grind) (by grind),fun _=>Iff.rfl,fun i hi j k hk=>by
       obtain⟨g1,g2⟩:=hrows.at_ i hi j k hk
       grind⟩)
      (fun ρ' x lo' cs' hx=>by
       by_cases hxb:x=b
       ·grind [G5]
       ·rw[E8 hxb]at hx;obtain⟨g1,g2⟩:=hcp x lo' cs' hx
        grind)
     rw[hρ]at hsp;refine fin ⟨s.nt,s.fr,⟨s.nx,true,.arr e te.ks l rows⟩::⟨s.nx+1,true,.dg (yR H b)⟩::s.hp.del tp,s.nx+2,s.kp,s.rt⟩ _ (.a (.slc s.nx 0 te.sz l c)) rfl rfl (by show ρ.n+1+1=s.nx+2;rw[hρ]) ((ρ.gY _).trans ((ρ.ext _).gY _)) hsp ?_ h;refine⟨by show s.nx<ρ.n+2;omega,hlc,hcm,.inr ⟨_,rfl,fun _=>?_⟩⟩;have hpl:((ρ.ext ⟨b,lo+o,c,fun x=>x=b⟩).ext ⟨0,0,0,fun x=>(ρ.pl tp).fp x/\x≠b⟩).pl s.nx=⟨b,lo+o,c,fun x=>x=b⟩:=by
      rw[<- hρ,(ρ.ext _).yI _ (zBi _)];exact ρ.ew _
     grind
   grind
  grind
 grind
def N0(s:S)(y:SV)(K:S->Prop):Prop :=
 match y with
 |.a (.slc tY _ _ _ _)=>match s.hp.find tY with
  |some (true,.obj _ out)=>bif yT out then K s else agr (R7 3) out s fun out' s'=>match s'.hp.find tY with
   |some (true,.obj ty0 out0)=>bif Nat.beq out'.length out0.length then K (s'.put (s'.hp.yJ tY (.obj ty0 out')))else False
   |_=>False
  |_=>K s
 |_=>K s
theorem Mx{K:S->Prop}(h:N0 s y K)(hρ:ρ.n=s.nx)(hh:ak w0 M ρ s.hp w) :
 ∃s' ρ',K s'/\s'.nt=s.nt/\s'.fr=s.fr/\ρ'.n=s'.nx/\ρ.le ρ'/\ak w0 M ρ' s'.hp w:=by
 have same:K s->∃s' ρ',K s'/\s'.nt=s.nt/\s'.fr=s.fr/\ρ'.n=s'.nx/\ρ.le ρ'/\ak w0 M ρ' s'.hp w:=fun h=>⟨s,ρ,h,rfl,rfl,hρ,Env.le.refl ρ,hh⟩
 unfold N0 at h;split at h
 ·rename_i tY _ _ _ _;split at h
  ·rename_i ty out ht;cases hfl:yT out
   ·rw[hfl]at h;simp only[vv]at h;have he:=(hh.jk _ (aX.bO ht)).ch;have htag:=(hh.jk _ (aX.bO ht)).tag;simp only at he htag;obtain⟨vs,fr,hbk,hoff,⟨us,xs,hus,hrep⟩,_⟩:=he;obtain⟨ys,s1,ρ1,k1,a1,a2,a3,a4,a5,a6⟩:=NX (Ie 3) out s _ h w0 M ρ w hρ hh us hrep;split at k1
    ·rename_i ty0 out0 hf2;cases hl:Nat.beq ys.length out0.length
     ·grind
     rw[hl]at k1;have he2:=(a6.jk _ (aX.bO hf2)).ch;simp only at he2;obtain⟨vs2,fr2,hb2,hoff2,_,hu2,hfp2⟩:=he2;have hpl:=a4.pl tY htag;have hvv:vs2=vs:=by rw[hpl]at hb2;rw[hbk]at hb2;cases hb2;rfl
     subst hvv;exact⟨_,ρ1,k1,a1,a2,a3,a4,a6.yJ hf2 (iy.refl _ _) ⟨vs2,fr2,hb2,hoff2,⟨us,xs,hus,a5⟩,hu2,hfp2⟩⟩
    grind
   grind
  grind
 grind
end
section
def akw(b:Nat)(o:Obj):Place->World->Prop:=fun p w=>(∀x,p.fp x↔x=b)/\w.heap[b]? = some o
def am8(o:Obj):Place->World->Prop:=fun p w=>(∀x,p.fp x↔x=p.blk)/\p.off=0/\w.heap[p.blk]? = some o
structure jC where
 key:Int
 val:Value
 born:Nat
 deriving Inhabited
def jC.enc(k:IntKind)(e:jC):MapEntry:=⟨.int k e.key,e.val,e.born⟩
def pP(k:IntKind)(l:List jC):Array MapEntry:=(l.map (jC.enc k)).toArray
def qN(b:Nat)(k:IntKind)(l:List jC)(fM:Nat):Place->World->Prop:=akw b (.map (pP k l) fM)
def qY(b:Nat)(seen:List Nat)(fM:Nat):Place->World->Prop:=am8 (.mapIter (some b) fM seen.toArray fM)
def getM(l:List jC)(n:Int):Option Value:=(l.find? fun e=>e.key == n).map (·.val)
def I1(n:Int)(u:Value)(fM:Nat):List jC->List jC
 |[]=>[⟨n,u,fM⟩]
 |e::r=>if e.key=n then { e with val:=u }::r else e::I1 n u fM r
def I2(l:List jC)(n:Int):Bool:=l.any fun e=>e.key == n
def I3(n:Int):List jC->List jC
 |[]=>[]
 |e::r=>if e.key=n then r else e::I3 n r
structure LOk(k:IntKind)(l:List jC)(fM:Nat):Prop where
 val:∀e∈l,e.val.oneCell'=true/\e.born<fM/\bZ k e.key
 nodup:(l.map (·.born)).Nodup
def Aq(n:Int):List jC->Nat->Option (Nat×Value)
 |[],_=>none
 |e::r,i=>if e.key=n then some (i,e.val)else Aq n r (i+1)
theorem wY(kd:IntKind)(n:Int):∀(l:List jC) (i:Nat),Instr.findNow (.int kd) (.int kd n) (l.map (jC.enc kd)) i=some (Aq n l i)
 |[],_=>rfl
 |e::r,i=>by
  simp only[LS,Instr.findNow,jC.enc,Instr.sameNow,if_true,Aq];by_cases h:e.key=n
  ·grind
  ·have:(n == e.key)=false:=by simp;exact fun e2=>h e2.symm
   rw[if_neg h,this];exact wY kd n r (i+1)
theorem R8(n:Int):∀(l:List jC) (i:Nat),(Aq n l i).map Prod.snd=getM l n
 |[],_=>rfl
 |e::r,i=>by
  unfold Aq getM;by_cases h:e.key=n
  ·grind
  ·rw[if_neg h,zBS,show(e.key == n)=false by simp[h]];exact R8 n r (i+1)
theorem R9(n:Int):∀(l:List jC) (i:Nat),(Aq n l i).isSome=I2 l n
 |[],_=>rfl
 |e::r,i=>by
  unfold Aq I2;by_cases h:e.key=n
  ·grind
  ·rw[if_neg h,List.any_cons,show(e.key == n)=false by simp[h],Bool.false_or];exact R9 n r (i+1)
theorem I4(n:Int)(u:Value)(fM:Nat):∀(l:List jC) (i q:Nat) (v:Value),Aq n l i=some (q,v)->∃j,q=i+j/\j<l.length/\I1 n u fM l=l.modify j (fun e=>{ e with val:=u })/\I3 n l=l.eraseIdx j/\∃e,l[j]? = some e/\e.key=n
 |[],_,_,_,h=>by simp[Aq]at h
 |e::r,i,q,v,h=>by
  unfold Aq at h;unfold I1 I3;by_cases hk:e.key=n
  ·rw[if_pos hk]at h;obtain⟨rfl,rfl⟩:=Prod.mk.inj (Option.some.inj h)
   grind
  ·rw[if_neg hk]at h;obtain⟨j,a1,a2,a3,a4,e',a5,a6⟩:=I4 n u fM r (i+1) q v h;exact⟨j+1,by omega,by simp;omega,by grind,by grind,e',by simpa using a5,a6⟩
theorem N1(n:Int)(u:Value)(fM:Nat):∀(l:List jC) (i:Nat),Aq n l i=none->I1 n u fM l=l++[⟨n,u,fM⟩]/\I3 n l=l
 |[],_,_=>⟨rfl,rfl⟩
 |e::r,i,h=>by
  unfold Aq at h;unfold I1 I3;by_cases hk:e.key=n
  ·grind
  ·rw[if_neg hk]at h;obtain⟨a1,a2⟩:=N1 n u fM r (i+1) h
   grind
open Go.MapKept (IsKey run_checkKey run_findKey)
def L0(o:Option Value):Value:=o.getD (.pointer none)
variable {P:Program}
theorem BV(kd:IntKind)(n:Int):IsKey (.int kd) (.int kd n):=by simp[IsKey]
variable{K:KV}{P:Program}{X:Cx}{b e fM no r:Nat}{et kt kt2 rt:TypeId}{i it k m x:SV}{kd:IntKind}{l:List jC}{o o':Obj}{s:S}{seen:List Nat}{u uk um ux:Value}
theorem abO{t:TypeId}{n:Int}(h:P.underlying t=some (.map kt et))(hk:P.underlying kt=some (.int kd))(hb:w.heap[b]? = some (.map (pP kd l) fM))
 (hz:∀w,(zeroValue et).run P w = .ok (.pointer none) w):(Instr.lookup t (.map (some b)) (.int kd n) false).run P w = .ok (L0 (getM l n)) w:=by
 have e:=wY kd n l 0;have e2:=R8 n l 0;have e1:(Instr.findKey kt (.int kd n) (pP kd l).toList).run P w = .ok (Aq n l 0) w:=run_findKey hk e;simp only[Instr.lookup,Sem.run_bind,run_underlying h,Result.andThen,Go.MapKept.run_getObj_map hb,run_checkKey hk (BV kd n),Sem.run_pure];rw[e1,<- e2];cases Aq n l 0 with
 |none=>simp[L0,hz]
 |some q=>simp[L0]
theorem N2{t:TypeId}{n:Int}(h:P.underlying t=some (.map kt et))(hk:P.underlying kt=some (.int kd))
 (hz:∀w,(zeroValue et).run P w = .ok (.pointer none) w):(Instr.lookup t (.map none) (.int kd n) false).run P w = .ok (.pointer none) w:=by
 have e1:(Instr.findKey kt (.int kd n) []).run P w = .ok none w:=run_findKey hk rfl;simp[Instr.lookup,run_underlying h,run_checkKey hk (BV kd n),e1,hz]
theorem Y4(k:IntKind)(l:List jC):(pP k l).size=l.length:=by simp[pP]
theorem Y5{t:TypeId}{n:Int}(h:P.underlying t=some (.map kt et))(hk:P.underlying kt=some (.int kd))(hb:w.heap[b]? = some (.map (pP kd l) fM)) :
 (Instr.mapUpdate t (.map (some b)) (.int kd n) u).run P w = .ok () { w with heap:=w.heap.setIfInBounds b (.map (pP kd (I1 n u fM l)) (if I2 l n then fM else fM+1)) }:=by
 have e:=wY kd n l 0;have e1:(Instr.findKey kt (.int kd n) (pP kd l).toList).run P w = .ok (Aq n l 0) w:=run_findKey hk e;have e2:=R9 n l 0;simp only[Instr.mapUpdate,Sem.run_bind,run_underlying h,Result.andThen,Go.MapKept.run_getObj_map hb,run_checkKey hk (BV kd n)];rw[e1,<- e2];cases hp:Aq n l 0 with
 |none =>
  obtain⟨a1,_⟩:=N1 n u fM l 0 hp;simp only[Option.isSome_none,RF,if_false];rw[Go.MapKept.run_setObj_map _ hb,a1];congr 4;simp[pP,jC.enc]
 |some q =>
  obtain⟨i,v⟩:=q;obtain⟨j,a1,a2,a3,_,e',a5,a6⟩:=I4 n u fM l 0 i v hp;have a1:i=j:=by omega
  subst a1;simp only[Option.isSome_some,if_true];have hkey:(((pP kd l)[i]?).map (·.key)).getD (.int kd n) = .int kd n:=by
   simp[pP,a5,jC.enc,a6]
  rw[hkey];have hst:(Instr.keyThatStays (.int kd n) (.int kd n)).run P w = .ok (.int kd n) w:=by
   have hs:Instr.sameBits 10000 (.int kd n) (.int kd n)=true:=by simp[Instr.sameBits]
   simp[Instr.keyThatStays,hs]
  simp only[Sem.run_bind,hst,Result.andThen];rw[Go.MapKept.run_setObj_map _ hb,a3];congr 4;refine Array.ext_getElem? fun q=>?_;simp only[pP,zBv,zAU,zBA,List.getElem?_modify];by_cases hq:i=q
  ·subst hq;simp only[if_true,a5,zBU,jC.enc,a6];show _=some _;rw[<- a6];rfl
  grind
theorem Cl{α β:Type}(f:α->β):∀(l:List α) (i:Nat),(l.map f).eraseIdx i=(l.eraseIdx i).map f
 |[],_=>rfl
 |_::_,0=>rfl
 |a::r,i+1=>by simp[List.eraseIdx_cons_succ,Cl f r i]
theorem Ur{t:TypeId}{n:Int}(h:P.underlying t=some (.map kt et))(hk:P.underlying kt=some (.int kd))(hb:w.heap[b]? = some (.map (pP kd l) fM)) :
 (Builtin.delete_ #[t,kt2] rt #[.map (some b),.int kd n]).run P w = .ok (.tuple #[]) { w with heap:=w.heap.setIfInBounds b (.map (pP kd (I3 n l)) fM) }:=by
 have e:=wY kd n l 0;have e1:(Instr.findKey kt (.int kd n) (pP kd l).toList).run P w = .ok (Aq n l 0) w:=run_findKey hk e;simp only[Builtin.delete_,Sem.run_bind,run_underlying h,Result.andThen,Go.MapKept.run_getObj_map hb,run_checkKey hk (BV kd n),zAU,List.getElem?_cons_zero,List.getElem?_cons_succ];rw[e1];cases hp:Aq n l 0 with
 |none =>
  obtain⟨_,a1⟩:=N1 n (.pointer none) fM l 0 hp
  grind [Sem.run_bind,Result.andThen,Sem.run_pure,Go.MapKept.run_setObj_map]
 |some q =>
  obtain⟨i,v⟩:=q;obtain⟨j,a1,a2,_,a3,_⟩:=I4 n (.pointer none) fM l 0 i v hp;have a1:i=j:=by omega
  subst a1;have e3:(pP kd l).eraseIdxIfInBounds i=pP kd (l.eraseIdx i):=by
   unfold Array.eraseIdxIfInBounds;rw[dif_pos (by grind [Y4])];apply zBJ.1;simp[pP,Cl]
  grind [Sem.run_bind,Result.andThen,Sem.run_pure,Go.MapKept.run_setObj_map]
theorem run_next_end{ty:TypeId}(hb:w.heap[b]? = some (.map (pP kd l) fM))(hr:w.heap[r]? = some (.mapIter (some b) fM seen.toArray fM))(ho:LOk kd l fM) :
 ((∀e∈l,e.born∈seen)/\(Instr.next (.pointer (some ⟨r,0,none⟩)) false ty).run P w = .ok (.tuple #[.bool false]) w) \/
 ∃e∈l,e.born∉seen/\∃w1:World,(w1.Alike w/\w1.tape=w.tape)/\(Instr.next (.pointer (some ⟨r,0,none⟩)) false ty).run P w = .ok (.tuple #[.bool true,.int kd e.key,e.val]) { w1 with heap:=w1.heap.setIfInBounds r (.mapIter (some b) fM (seen++[e.born]).toArray fM) }:=by
 have hg:(getObj r).run P w = .ok (.mapIter (some b) fM seen.toArray fM) w:=by simp[getObj,Sem.run,hr]
 have hold:∀x∈(pP kd l).toList,x.born<fM:=fun x hx=>by
  simp only[pP,kj]at hx;obtain⟨e,he,rfl⟩:=hx;exact(ho.val e he).2.1
 simp only[Instr.next,Sem.run_bind,hg,Go.MapKept.run_getObj_map hb,Result.andThen,next_test_false seen.toArray (pP kd l) fM fM hold (cW _),RF,if_false];have hL:∀x∈Array.filter (fun e=>!seen.toArray.contains e.born) (pP kd l),∃e∈l,e.born∉seen/\x=e.enc kd:=fun x hx=>by
  rw[Array.mem_filter]at hx;obtain⟨h1,h2⟩:=hx;simp only[pP,List.mem_toArray,kj]at h1;obtain⟨e,he,rfl⟩:=h1;exact⟨e,he,by simpa[jC.enc]using h2,rfl⟩
 have hL0:Array.filter (fun e=>!seen.toArray.contains e.born) (pP kd l) = #[]->∀e∈l,e.born∈seen:=fun h e he=>by
  rw[Array.filter_eq_empty_iff]at h;have:=h (e.enc kd) (by grind [pP]);simpa[jC.enc]using this
 generalize Array.filter (fun e=>!seen.toArray.contains e.born) (pP kd l)=L at hL hL0 ⊢;have hmem:∀x∈L,x.born<fM:=fun x hx=>by
  obtain⟨e,he,_,rfl⟩:=hL x hx;exact(ho.val e he).2.1
 have e1:L.filter (fun x=>decide (x.born<fM))=L:=Array.filter_eq_self.2 (fun x hx=>by grind);have e2:L.filter (fun x=>decide (x.born ≥ fM)) = #[]:=by
  rw[Array.filter_eq_empty_iff];intro x hx;have:=hmem x hx;simp;omega
 simp only[e1,e2,Array.append_empty];by_cases h0:L.size=0
 ·left;have:L = #[]:=Array.eq_empty_of_size_eq_zero h0;refine⟨hL0 this,?_⟩;subst this;simp[choose,Sem.run,Question.forced]
 ·right;have hne:L.isEmpty=false:=by simp[Array.isEmpty,h0]
  simp only[hne,RF,if_false,Array.empty_append,Array.size_map];have hch:∃(j:Nat) (w1:World),j<L.size/\(w1.Alike w/\w1.tape=w.tape)/\(choose (Question.mapNext L.size)).run P w = .ok j w1:=by
   by_cases hf:L.size<=1
   ·exact⟨0,w,by omega,⟨⟨rfl,rfl,rfl⟩,rfl⟩,by simp[choose,Sem.run,Question.forced,hf]⟩
   ·exact⟨_,w.drew,Nat.mod_lt _ (by omega),⟨⟨rfl,rfl,rfl⟩,rfl⟩,by
     simp only[choose,Sem.run,Question.forced,tB,hf,if_false,Question.cut];rfl⟩
  obtain⟨j,w1,hj,hal,hrun⟩:=hch;obtain⟨e,he,hns,hx⟩:=hL L[j] (Array.getElem_mem hj);refine⟨e,he,hns,w1,hal,?_⟩;have hr1:w1.heap[r]? = some (.mapIter (some b) fM seen.toArray fM):=by rw[hal.1.1];exact hr
  have hset:∀o':Obj,(setObj r o').run P w1 = .ok () { w1 with heap:=w1.heap.setIfInBounds r o' }:=fun o'=>by
   simp[setObj,Sem.run,hr1]
  simp only[hrun,Array.getElem?_map,zAI hj,zBU,Sem.run_bind,hset,Result.andThen,Sem.run_pure,hx,jC.enc]
  grind
theorem Y6{e:jC}(hb:w.heap[b]? = some (.map (pP kd l) fM))(hr:w.heap[r]? = some (.mapIter (some b) fM (seen++[e.born]).toArray fM))(ho:LOk kd l fM)(he:e∈l) :
 (Instr.entry (.pointer (some ⟨r,0,none⟩))).run P w = .ok (.tuple #[.int kd e.key,e.val]) w:=by
 have hg:(getObj r).run P w = .ok (.mapIter (some b) fM (seen++[e.born]).toArray fM) w:=by simp[getObj,Sem.run,hr]
 have hf:(pP kd l).find? (·.born == e.born)=some (e.enc kd):=by
  rw[<- Array.find?_toList];refine find_born (e.enc kd) _ ?_ ?_
  ·simp only[pP,T4];exact ho.nodup
  ·grind [pP]
 have hbk:(seen++[e.born]).toArray.back? = some e.born:=by simp
 simp only[Instr.entry,Sem.run_bind,hg,Result.andThen,hbk,Go.MapKept.run_getObj_map hb,bne_self_eq_false,RF,if_false,hf];rfl
def I5(P:Program)(t:Nat):Option (IntKind×Nat):=match P.underlying t with
 |some (.map k e)=>match P.underlying k with
  |some (.int kd)=>some (kd,e)
  |_=>none
 |_=>none
theorem D3(h:I5 P t=some (kd,e)):∃k,P.underlying t=some (.map k e)/\P.underlying k=some (.int kd):=by
 grind [I5]
def I6(no:Nat):aX->Option Nat
 |[]=>none
 |e::r=>match e.ch with
  |.abs _=>bif Nat.beq e.tag no then I6 no r else some e.tag
  |_=>I6 no r
def yU(no:Nat)(hp:aX)(v:Value)(kd:IntKind)(K:Nat->Bool->Nat->List jC->Nat->Prop):Prop :=
 match I6 no hp with
 |some tm=>match hp.find tm with
  |some (wr,.abs R)=>∃(b:Nat) (l:List jC) (fM:Nat),v = .map (some b)/\R=qN b kd l fM/\LOk kd l fM/\K tm wr b l fM
  |_=>False
 |none=>False
theorem vI{K:Nat->Bool->Nat->List jC->Nat->Prop}(h:yU no hp v kd K)(hh:ak w0 M ρ hp w) :
 ∃tm wr b l fM,K tm wr b l fM/\hp.find tm=some (wr,.abs (qN b kd l fM))/\v = .map (some b)/\LOk kd l fM/\(∀x,(ρ.pl tm).fp x↔x=b)/\w.heap[b]? = some (.map (pP kd l) fM):=by
 unfold yU at h;split at h
 ·rename_i tm _;split at h
  ·rename_i wr R hf;obtain⟨b,l,fM,hv,rfl,hl,hK⟩:=h;have hc:=(hh.jk _ (aX.bO hf)).ch w (fun _ _=>rfl);exact⟨tm,wr,b,l,fM,hK,hf,hv,hl,hc.1,hc.2⟩
  grind
 grind
def Made(P:Program)(m:Sem Value)(s:S)(K:KV)(w0:World)(M:Nat->Prop)(ρ:Env)(w:World):Prop :=
 ∃v w' ρ',m.run P w = .ok v w'/\ρ.le ρ'/\∃sv s',K sv s'/\s'.nt=s.nt/\s'.fr=s.fr/\ρ'.n=s'.nx/\sv.cT ρ' v/\ak w0 M ρ' s'.hp w'
theorem abP(h:HN u = .nil):u = .pointer none:=by
 unfold HN at h
 grind
theorem abQ{te:TI}(ty:II P e te)(h:te.zero=[.nil])(ha:te.agg=false):∀w,(zeroValue e).run P w = .ok (.pointer none) w:=by
 obtain⟨z,hz,_,hzero,_,_,_,h1⟩:=kQ ty;rw[h]at hzero;have e1:z.cells.toList=[.pointer none]:=by
  cases hc:z.cells.toList with
  |nil=>grind
  |cons u r =>
   rw[hc]at hzero;cases r with
   |nil =>
    simp only[LS,zBI,List.cons.injEq,and_true]at hzero;rw[abP hzero.symm]
   |cons _ _=>simp at hzero
 have:z = .pointer none:=by
  rcases h1 ha with ho | ⟨vs,rfl⟩
  ·cases z<;>simp[Value.cells,Value.oneCell']at e1 ho<;>first|grind|exact e1
  ·simp[Value.cells]at e1
 grind
def N3:List A->Bool
 |[.nil]=>true
 |_=>false
theorem Y7{l:List A}(h:N3 l=true):l=[.nil]:=by
 grind [N3]
def abR(X:Cx)(t:Nat)(x i:SV)(ok:Bool)(s:S)(K:KV):Prop :=
 match x,i with
 |.a (.val v),.a y=>match y.i?,I5 X.P t with
  |some (k,n),some (kd,e)=>match X.ti e with
   |some te=>bif uj k kd&&(!ok&&(!te.agg&&N3 te.zero))then
    ∃m,v = .map m/\(m=none->K (.a .nil) s)/\(m≠none->yU s.nx s.hp v kd fun _ _ _ l _=>K (.a (.val (L0 (getM l n)))) s)else False
   |none=>False
  |_,_=>False
 |_,_=>False
theorem abS{n:Int}(h:getM l n=some u):∃e∈l,e.val=u:=by
 grind [getM,Option.map_eq_some_iff]
theorem look_ok(hX:X.Ok){ok:Bool}(h:abR X t x i ok s K)(hρ:ρ.n=s.nx)(hh:ak w0 M ρ s.hp w)(hu:x.cT ρ u)(hv:i.cT ρ v) :
 Made X.P (Instr.lookup t u v ok) s K w0 M ρ w:=by
 unfold abR at h;split at h
 ·rename_i v0 y;split at h
  ·rename_i k n kd e hy hm;split at h
   ·rename_i te hte;cases hb:(uj k kd&&(!ok&&(!te.agg&&N3 te.zero)))
    ·simp[hb]at h
    simp only[hb,iU]at h;simp only[jB,RM]at hb;obtain⟨hk,hok,hag,hz⟩:=hb;have hk:=qj hk;subst hk hok;obtain⟨kt,t1,t2⟩:=D3 hm;obtain⟨rfl,hn⟩:=A.nD hy hv;have hz:=abQ (hX.ty hte) (Y7 hz) hag;obtain⟨rfl,_⟩:=hu;obtain⟨m,rfl,h1,h2⟩:=h;cases m with
    |none=>exact⟨_,w,ρ,N2 t1 t2 hz,Env.le.refl ρ,.a .nil,s,h1 rfl,rfl,rfl,hρ,rfl,hh⟩
    |some b =>
     obtain⟨tm,wr,b',l,fM,hK,hf,hb,hl,_,hc⟩:=vI (h2 (by simp)) hh;obtain rfl:b=b':=by simpa using hb
     refine⟨_,w,ρ,abO t1 t2 hc hz,Env.le.refl ρ,_,s,hK,rfl,rfl,hρ,⟨rfl,?_⟩,hh⟩;cases hg:getM l n with
     |none=>rfl
     |some u =>
      obtain⟨e,he,rfl⟩:=abS hg;exact(hl.val e he).1
   grind
  grind
 grind
theorem L3(h:∀vs ty fr,w.heap[b]?≠some (.cells vs ty fr))(ho:∀vs ty fr,o≠.cells vs ty fr)(a:Addr):({ w with heap:=w.heap.setIfInBounds b o }:World).frozen? a=w.frozen? a:=by
 unfold World.frozen?
 grind
theorem ak.raw{w1:World}{c:Chunk}(hh:ak w0 M ρ hp w)(hf:hp.find t=some (true,c))(hfp:∀x,(ρ.pl t).fp x↔x=b)(hb:w.heap[b]? = some o)(ho:∀vs ty fr,o≠.cells vs ty fr)(ho':∀vs ty fr,o'≠.cells vs ty fr)
 (hal:w1.Alike w/\w1.tape=w.tape) {R:Place->World->Prop} (hR:∀w2:World,w2.heap[b]? = some o'->R (ρ.pl t) w2):ak w0 M ρ (hp.yJ t (.abs R)) { w1 with heap:=w1.heap.setIfInBounds b o' }:=by
 have hlt:b<w.heap.size:=by
  rcases zBn b w.heap.size with h|h
  ·exact h
  ·grind
 obtain⟨⟨a1,a2,a3⟩,a4⟩:=hal;refine hh.yJ hf ⟨a2,a4,a3,by simp[a1],fun x hx hn=>?_,fun a _=>?_⟩ fun w2 hw2=>hR w2 ?_
 ·grind
 ·have e1:=L3 (w:=w1) (b:=b) (o:=o') (fun vs ty fr e=>by grind) ho' a;rw[e1];simp only[World.frozen?,a1]
 grind
def Us(X:Cx)(t:Nat)(m k x:SV)(s:S)(K:KV):Prop :=
 match m,k,x with
 |.a (.val v),.a y,.a z=>match y.i?,I5 X.P t with
  |some (kk,n),some (kd,_)=>bif uj kk kd then R7 3 z s fun z s=>match z with
   |.val u=>yU s.nx s.hp v kd fun tm wr b l fM=>wr=true/\K (.a .any) (s.put (s.hp.yJ tm (.abs (qN b kd (I1 n u fM l) (bif I2 l n then fM else fM+1)))))
   |_=>False else False
  |_,_=>False
 |_,_,_=>False
theorem abT(h:Us X t m k x s K)(hρ:ρ.n=s.nx)(hh:ak w0 M ρ s.hp w)(hm:m.cT ρ um)(hk:k.cT ρ uk)(hx:x.cT ρ ux) :
 ∃w' s' ρ',(Instr.mapUpdate t um uk ux).run X.P w = .ok () w'/\K (.a .any) s'/\s'.nt=s.nt/\s'.fr=s.fr/\ρ.le ρ'/\ρ'.n=s'.nx/\ak w0 M ρ' s'.hp w':=by
 unfold Us at h;split at h
 ·rename_i v y z;split at h
  ·rename_i kk n kd e hy hmt;cases hb:uj kk kd
   ·simp[hb]at h
   simp only[hb,iU]at h;have:=qj hb;subst this;obtain⟨kt,t1,t2⟩:=D3 hmt;obtain⟨rfl,_⟩:=A.nD hy hk;obtain⟨rfl,_⟩:=hm;obtain⟨z',s1,ρ1,k1,a1,a2,a3,a4,a5,a6⟩:=Ie 3 z s _ h w0 M ρ w hρ hh ux hx;split at k1
   ·rename_i u;obtain⟨rfl,_⟩:=a5;obtain⟨tm,wr,b,l,fM,⟨hw,hK⟩,hf,hv,hl,hfp,hc⟩:=vI k1 a6;subst hw;subst hv;refine⟨_,_,ρ1,Y5 t1 t2 hc,hK,a1,a2,a4,a3,?_⟩;have e:(if I2 l n then fM else fM+1)=bif I2 l n then fM else fM+1:=by cases I2 l n<;>rfl
    rw[e];exact a6.raw hf hfp hc (fun _ _ _ e=>by cases e) (fun _ _ _ e=>by cases e) ⟨⟨rfl,rfl,rfl⟩,rfl⟩ fun w2 h2=>⟨hfp,h2⟩
   grind
  grind
 grind
def N4(X:Cx)(t:Nat)(m k:SV)(s:S)(K:KV):Prop :=
 match m,k with
 |.a (.val v),.a y=>match y.i?,I5 X.P t with
  |some (kk,n),some (kd,_)=>bif uj kk kd then yU s.nx s.hp v kd fun tm wr b l fM=>wr=true/\K (.a .any) (s.put (s.hp.yJ tm (.abs (qN b kd (I3 n l) fM))))else False
  |_,_=>False
 |_,_=>False
theorem Y8{kt rt:Nat}(h:N4 X t m k s K)(hh:ak w0 M ρ s.hp w)(hm:m.cT ρ um)(hk:k.cT ρ uk) :
 ∃w' eV,(Builtin.delete_ #[t,kt] rt #[um,uk]).run X.P w = .ok (.tuple #[]) w'/\ak w0 M ρ eV w'/\K (.a .any) (s.put eV):=by
 unfold N4 at h;split at h
 ·rename_i v y;split at h
  ·rename_i kk n kd e hy hmt;cases hb:uj kk kd
   ·simp[hb]at h
   simp only[hb,iU]at h;have:=qj hb;subst this;obtain⟨kt',t1,t2⟩:=D3 hmt;obtain⟨rfl,_⟩:=A.nD hy hk;obtain⟨rfl,_⟩:=hm;obtain⟨tm,wr,b,l,fM,⟨hw,hK⟩,hf,hv,hl,hfp,hc⟩:=vI h hh;subst hw;subst hv;exact⟨_,_,Ur t1 t2 hc,hh.raw hf hfp hc (fun _ _ _ e=>by cases e) (fun _ _ _ e=>by cases e) ⟨⟨rfl,rfl,rfl⟩,rfl⟩ fun w2 h2=>⟨hfp,h2⟩,hK⟩
  grind
 grind
theorem Ut(w:World)(o:Obj)(ho:∀vs ty fr,o≠.cells vs ty fr)(a:Addr):(w.alloc o).frozen? a=w.frozen? a:=by
 by_cases hb:a.block=w.heap.size
 ·have e1:(w.alloc o).heap[a.block]? = some o:=by rw[hb];show(w.heap.push _)[w.heap.size]? = _;simp
  have e2:w.heap[a.block]? = none:=by rw[hb];simp
  simp only[World.frozen?,e1,e2]
  grind
 ·have e:(w.alloc o).heap[a.block]? = w.heap[a.block]?:=by
   show(w.heap.push o)[a.block]? = _;rw[Array.getElem?_push,if_neg hb]
  simp[World.frozen?,e]
theorem ak.abU(r:ak w0 M ρ hp w)(o:Obj)(ho:∀vs ty fr,o≠.cells vs ty fr){R:Place->World->Prop}
 (hR:∀w2:World,w2.heap[w.heap.size]? = some o->R ⟨w.heap.size,0,0,fun b=>b=w.heap.size⟩ w2):ak w0 M (ρ.ext ⟨w.heap.size,0,0,fun b=>b=w.heap.size⟩) (⟨ρ.n,true,.abs R⟩::hp) (w.alloc o) :=
 r.alloc o _ (fun _=>Iff.rfl) (Ut w o ho) fun w2 h2=>hR w2 (by
  rw[h2 _ rfl];show(w.heap.push o)[w.heap.size]? = _;simp)
def Uu(X:Cx)(t:Nat)(s:S)(K:KV):Prop :=
 match I5 X.P t with
 |some (kd,_)=>∀b:Nat,K (.a (.val (.map (some b)))) (s.new (.abs (qN b kd [] 0)))
 |none=>False
theorem abV(h:Uu X t s K)(hρ:ρ.n=s.nx)(hh:ak w0 M ρ s.hp w):Made X.P (Instr.makeMap t none) s K w0 M ρ w:=by
 unfold Uu at h;split at h
 ·rename_i kd e hm;have hn:=hh.abU (.map #[] 0) (fun _ _ _ e=>by cases e) (R:=qN w.heap.size kd [] 0) fun w2 h2=>⟨fun _=>Iff.rfl,h2⟩
  refine⟨.map (some w.heap.size),w.alloc (.map #[] 0),ρ.ext ⟨w.heap.size,0,0,fun b=>b=w.heap.size⟩,by simp[Instr.makeMap],ρ.gY _,_,_,h w.heap.size,rfl,rfl,?_,⟨rfl,rfl⟩,?_⟩
  ·show ρ.n+1=s.nx+1;rw[hρ]
  ·rw[hρ]at hn;exact hn
 grind
def Uv(X:Cx)(t:Nat)(x:SV)(s:S)(K:KV):Prop :=
 match x with
 |.a (.val v)=>match I5 X.P t with
  |some (kd,_)=>yU s.nx s.hp v kd fun _ _ b _ fM=>K (.a (.ptr s.nx 0 0 0)) (s.new (.abs (qY b [] fM)))
  |none=>False
 |_=>False
theorem abW(h:Uv X t x s K)(hρ:ρ.n=s.nx)(hh:ak w0 M ρ s.hp w)(hu:x.cT ρ u):Made X.P (Instr.range t u) s K w0 M ρ w:=by
 unfold Uv at h;split at h
 ·rename_i v;split at h
  ·rename_i kd e hm;obtain⟨kt,t1,t2⟩:=D3 hm;obtain⟨rfl,_⟩:=hu;obtain⟨tm,wr,b,l,fM,hK,hf,hv,hl,hfp,hc⟩:=vI h hh;subst hv;have hn:=hh.abU (.mapIter (some b) fM #[] fM) (fun _ _ _ e=>by cases e) (R:=qY b [] fM) fun w2 h2=>⟨fun _=>Iff.rfl,rfl,h2⟩
   refine⟨_,_,ρ.ext ⟨w.heap.size,0,0,fun b=>b=w.heap.size⟩,run_range_map w t kt _ b _ fM t1 hc,ρ.gY _,_,_,hK,rfl,rfl,?_,?_,?_⟩
   ·show ρ.n+1=s.nx+1;rw[hρ]
   ·refine⟨by show s.nx<ρ.n+1;omega,?_⟩
    grind [ρ.ew]
   ·rw[hρ]at hn;exact hn
  grind
 grind
def D4(t:Nat)(hp:aX)(kd:IntKind)(K:Bool->Nat->List jC->Nat->List Nat->Prop):Prop :=
 match hp.find t with
 |some (wr,.abs R)=>∃(b:Nat) (seen:List Nat) (fM:Nat),R=qY b seen fM/\yU t hp (.map (some b)) kd fun _ _ b l clk'=>clk'=fM/\K wr b l fM seen
 |_=>False
theorem G7{K:Bool->Nat->List jC->Nat->List Nat->Prop}(h:D4 t hp kd K)(hh:ak w0 M ρ hp w) :
 ∃wr b l fM seen,K wr b l fM seen/\hp.find t=some (wr,.abs (qY b seen fM))/\LOk kd l fM/\w.heap[b]? = some (.map (pP kd l) fM)/\(∀x,(ρ.pl t).fp x↔x=(ρ.pl t).blk)/\(ρ.pl t).off=0/\w.heap[(ρ.pl t).blk]? = some (.mapIter (some b) fM seen.toArray fM):=by
 unfold D4 at h;split at h
 ·rename_i wr R hf;obtain⟨b,seen,fM,rfl,hm⟩:=h;obtain⟨tm,wr2,b2,l,clk2,⟨rfl,hK⟩,_,hb,hl,_,hc⟩:=vI hm hh;obtain rfl:b=b2:=by simpa using hb
  have hi:=(hh.jk _ (aX.bO hf)).ch w (fun _ _=>rfl);exact⟨wr,b,l,_,seen,hK,hf,hl,hc,hi.1,hi.2.1,hi.2.2⟩
 grind
def abX(it:SV)(s:S)(K:KV):Prop :=
 match it with
 |.a (.ptr t 0 _ 0)=>∃kd,D4 t s.hp kd fun wr b l fM seen=>wr=true/\((∀e∈l,e.born∈seen)->K (.nR [.a .ff]) s) /\
  ∀e∈l,e.born∉seen->K (.nR [.a .tt,.a (.int kd e.key),.a (.val e.val)]) (s.put (s.hp.yJ t (.abs (qY b (seen++[e.born]) fM))))
 |_=>False
theorem ags(h:abX it s K)(hρ:ρ.n=s.nx)(hh:ak w0 M ρ s.hp w){ty:Nat}(hu:it.cT ρ u):Made P (Instr.next u false ty) s K w0 M ρ w:=by
 unfold abX at h;split at h
 ·rename_i t e;obtain⟨kd,h⟩:=h;obtain⟨wr,b,l,fM,seen,⟨hw,h1,h2⟩,hf,hl,hc,hfp,hoff,hi⟩:=G7 h hh;subst hw;obtain⟨_,rfl⟩:=hu;rw[hoff,show 0+0*e+0=0 by omega];rcases run_next_end (ty:=ty) hc hi hl with⟨g1,g2⟩ | ⟨x,hx,hns,w1,hal,g2⟩
  ·exact⟨_,w,ρ,g2,Env.le.refl ρ,_,s,h1 g1,rfl,rfl,hρ,⟨[.bool false],rfl,_,[],rfl,rfl,rfl⟩,hh⟩
  ·refine⟨_,_,ρ,g2,Env.le.refl ρ,_,_,h2 x hx hns,rfl,rfl,hρ,⟨[.bool true,.int kd x.key,x.val],rfl,_,_,rfl,rfl,_,_,rfl,⟨rfl,(hl.val x hx).2.2⟩,_,_,rfl,⟨rfl,(hl.val x hx).1⟩,rfl⟩,?_⟩;exact hh.raw hf hfp hi (fun _ _ _ e=>by cases e) (fun _ _ _ e=>by cases e) hal fun w2 hw2=>⟨hfp,hoff,hw2⟩
 grind
def Uw(it:SV)(s:S)(K:KV):Prop :=
 match it with
 |.a (.ptr t 0 _ 0)=>∃kd,D4 t s.hp kd fun _ _ l _ seen=>∃(sn:List Nat) (e:jC),seen=sn++[e.born]/\e∈l/\K (.nR [.a (.int kd e.key),.a (.val e.val)]) s
 |_=>False
theorem abY(h:Uw it s K)(hρ:ρ.n=s.nx)(hh:ak w0 M ρ s.hp w)(hu:it.cT ρ u):Made P (Instr.entry u) s K w0 M ρ w:=by
 unfold Uw at h;split at h
 ·rename_i t e;obtain⟨kd,h⟩:=h;obtain⟨wr,b,l,fM,seen,⟨sn,x,rfl,hx,hK⟩,hf,hl,hc,hfp,hoff,hi⟩:=G7 h hh;obtain⟨_,rfl⟩:=hu;rw[hoff,show 0+0*e+0=0 by omega];exact⟨_,w,ρ,Y6 hc hi hl hx,Env.le.refl ρ,_,s,hK,rfl,rfl,hρ,⟨[.int kd x.key,x.val],rfl,_,_,rfl,⟨rfl,(hl.val x hx).2.2⟩,_,_,rfl,⟨rfl,(hl.val x hx).1⟩,rfl⟩,hh⟩
 grind
end
end Go.Sx
