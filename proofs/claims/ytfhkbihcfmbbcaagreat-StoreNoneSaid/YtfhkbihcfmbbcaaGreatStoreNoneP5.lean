/-
  
-/
import Derived.Test.YtfhkbihcfmbbcaaGreatStoreNoneP4
namespace Go.Proofs.YtfhkbihcfmbbcaaGreat.Ix
open Go.Sx
set_option maxRecDepth 100000
set_option linter.unusedVariables false
structure PlaceR where
 key:ByteArray
 pos:Int
 has:Bool
 gone:Bool
 deriving Inhabited
def encP (p:PlaceR):List Value:=[.string p.key,.int .i64 p.pos,.bool p.has,.bool p.gone]
def ksP:List CK:=[.str,.int .i64,.bool,.bool]
def hashOf (key:ByteArray):Int:=hashG (fun _=>key) 1
def startOf (L:Nat) (key:ByteArray):Nat:=(hashOf key).toNat % L
def hit (key:ByteArray) (p:PlaceR):Bool:=p.has&&decide (p.key=key)
def bare (p:PlaceR):Bool:=!p.has&&!p.gone
def findFrom (t:List PlaceR) (key:ByteArray):Nat->Nat->Int->Int × Int
 | 0,_,free=>(-1,free)
 | k+1,i,free=>if hit key (gl t i) then ((i:Int),(i:Int)) else
  let f:=if !(gl t i).has&&decide (free<0) then (i:Int) else free
  if bare (gl t i) then (-1,f) else findFrom t key k ((i+1) % t.length) f
def findP (t:List PlaceR) (key:ByteArray):Int × Int:=findFrom t key t.length (startOf t.length key) (-1)
def idxHp (o a:Nat) (t:List PlaceR) (cap n used:Nat):List (Nat × Chunk):=[(o,.obj 128 [.slc a 0 4 t.length cap,.int .i64 n,.int .i64 used]),(a,.arr 132 ksP t.length (encRows encP t))]
theorem wrap_in {k:IntKind} {n:Int} (h:InR k n):k.wrap n=n:=by
 cases k<;>simp only [InR] at h<;>simp [IntKind.wrap,IntKind.bits,IntKind.signed,Int.emod_def]<;>omega
theorem x64_range (a b:Int):0<=x64 a b/\x64 a b<18446744073709551616:=by
 unfold x64 ibits;simp only [uw_eq,uw];omega
theorem hashOf_nonneg (key:ByteArray):0<=hashOf key:=(x64_range _ _).1
theorem startOf_lt {L:Nat} (key:ByteArray) (h:1<=L):startOf L key<L:=Nat.mod_lt _ h
theorem start_eq {L:Nat} (key:ByteArray) (h:1<=L) (h2:L<100000):uw .i64 (hashG (fun _=>key) 1 % uw .u64 (L:Int))=(startOf L key:Int):=by
 have e1:uw .u64 (L:Int)=L:=by simp only [uw];omega
 have h0:=hashOf_nonneg key;have h3:=startOf_lt key h;have e2:hashOf key % (L:Int)=(startOf L key:Int):=by
  unfold startOf;rw [Int.natCast_emod,Int.toNat_of_nonneg h0]
 rw [e1];show uw .i64 (hashOf key % (L:Int))=_;rw [e2];exact wrap_in (by simp only [InR];omega)
theorem next_eq {i L:Nat}:((i:Int)+1).tmod (L:Int)=(((i+1) % L:Nat):Int):=by
 rw [Int.tmod_eq_emod_of_nonneg (by omega),Int.natCast_emod];rfl
theorem find_step {t:List PlaceR} {key:ByteArray} {i at_:Nat} {free:Int} {r:Int × Int} (hi:i<t.length) (h:findFrom t key (t.length - i) at_ free=r) :
 (if hit key (gl t at_) then ((at_:Int),(at_:Int)) else
 if bare (gl t at_) then (-1,if !(gl t at_).has&&decide (free<0) then (at_:Int) else free) else findFrom t key (t.length - (i+1)) ((at_+1) % t.length) (if !(gl t at_).has&&decide (free<0) then (at_:Int) else free))=r:=by
 rw [<- h,show t.length - i=(t.length - (i+1))+1 by omega];rfl
structure FindA where
 t:List PlaceR
 cap:Nat
 n:Nat
 used:Nat
 key:ByteArray
noncomputable def cFind:Con where
 α:=FindA
 β:=Unit
 m:=2
 m':=2
 pre:=fun a=>1<=a.t.length/\a.t.length<100000/\a.key.size<=lenMax
 args:=fun a=>[.a (.ptr 0 0 0 0),.a (.str a.key)]
 hp:=fun _=>[]
 ro:=fun a=>idxHp 0 1 a.t a.cap a.n a.used
 post:=fun _ _=>True
 res:=fun a _=>.tup [.a (.int .i64 (findP a.t a.key).1),.a (.int .i64 (findP a.t a.key).2)]
 hp':=fun _ _=>[]
def iFind (a:FindA):An:=.flat 4 (Nat × Nat × Int) (fun s x=>((s.int 25 x.1).int 7 x.2.1).set 6 (.a (.int .i64 x.2.2)))
 (fun _ x=>x.1<=a.t.length/\x.2.1<a.t.length/\-1<=x.2.2/\x.2.2<a.t.length/\findFrom a.t a.key (a.t.length - x.1) x.2.1 x.2.2=findP a.t a.key) (fun _ x=>a.t.length - x.1)
set_option maxHeartbeats 4000000 in
theorem bodyFind:fnBody (Y Tryz.prog) [(92,cMixOf)] 70 cFind fun a=>[(70,[iFind a],[])]:=fnBody.of (p :=
 ∀ a:Ix.FindA,1<=a.t.length/\a.t.length<100000/\a.key.size<=lenMax->∃ a_2:Ix.OfA,(0=0/\1=a_2.n/\1=a_2.cap)/\(a_2.n<=1/\RowsEq a_2.n 1 (flatRows 1 [Value.string a.key]) fun (i x:Nat)=>Value.string (a_2.g i))/\(a_2.n<100000/\∀ i:Nat,i<a_2.n->(a_2.g i).size<=lenMax)/\∀ b:Unit,True->uw .u64 (↑a.t.length:Int)≠(0:Int)/\(∃ a_4:Nat × Nat × Int,(-1:Int)=a_4.snd.snd/\uw .i64 (Ix.hashG a_2.g a_2.n % uw .u64 (↑a.t.length:Int))=(↑a_4.snd.fst:Int)/\0=(↑a_4.fst:Int)/\(↑a.t.length:Int)=(↑a.t.length:Int)/\(0:Int)=0/\(0:Int)=0/\0=0/\a.key=a.key/\(0=0/\a.t.length=a.t.length/\a.cap=a.cap)/\(↑a.n:Int)=(↑a.n:Int)/\(↑a.used:Int)=(↑a.used:Int)/\(a.t.length<=a.t.length/\RowsEq a.t.length 4 (encRows Ix.encP a.t) (encRows Ix.encP a.t))/\(a_4.fst<=a.t.length/\a_4.snd.fst<a.t.length/\(-1:Int)<=a_4.snd.snd/\a_4.snd.snd<(↑a.t.length:Int)/\Ix.findFrom a.t a.key (a.t.length - a_4.fst) a_4.snd.fst a_4.snd.snd=Ix.findP a.t a.key)/\True)/\∀ a_4:Nat × Nat × Int,a_4.fst<=a.t.length/\a_4.snd.fst<a.t.length/\(-1:Int)<=a_4.snd.snd/\a_4.snd.snd<(↑a.t.length:Int)/\Ix.findFrom a.t a.key (a.t.length - a_4.fst) a_4.snd.fst a_4.snd.snd=Ix.findP a.t a.key->(decide ((↑a_4.fst:Int)<(↑a.t.length:Int))=true->(0<=(↑a_4.snd.fst:Int)/\(↑a_4.snd.fst:Int)<(↑a.t.length:Int))/\0+(↑a_4.snd.fst:Int).toNat<a.t.length/\((gl a.t (0+(↑a_4.snd.fst:Int).toNat)).has=true ->
 (decide ((gl a.t (0+(↑a_4.snd.fst:Int).toNat)).key=a.key)=true->∃ b:Unit,(↑a_4.snd.fst:Int)=(Ix.findP a.t a.key).fst/\(↑a_4.snd.fst:Int)=(Ix.findP a.t a.key).snd/\True/\True)/\(decide ((gl a.t (0+(↑a_4.snd.fst:Int).toNat)).key=a.key)=false->((!(gl a.t (0+(↑a_4.snd.fst:Int).toNat)).has)=true->(decide (a_4.snd.snd<(0:Int))=true->((!(gl a.t (0+(↑a_4.snd.fst:Int).toNat)).has)=true->((!(gl a.t (0+(↑a_4.snd.fst:Int).toNat)).gone)=true->∃ b:Unit,(-1:Int)=(Ix.findP a.t a.key).fst/\(↑a_4.snd.fst:Int)=(Ix.findP a.t a.key).snd/\True/\True)/\((!(gl a.t (0+(↑a_4.snd.fst:Int).toNat)).gone)=false->InR .i64 ((↑a_4.snd.fst:Int)+1)/\(↑a.t.length:Int)≠(0:Int)/\InR .i64 ((↑a_4.fst:Int)+1)/\∃ (a':Nat × Nat × Int),(↑a_4.snd.fst:Int)=a'.snd.snd/\((↑a_4.snd.fst:Int)+1).tmod (↑a.t.length:Int)=(↑a'.snd.fst:Int)/\(↑a_4.fst:Int)+1=(↑a'.fst:Int)/\(↑a.t.length:Int)=(↑a.t.length:Int)/\(0:Int)=0/\(0:Int)=0/\0=0/\a.key=a.key/\(0=0/\a.t.length=a.t.length/\a.cap=a.cap)/\(↑a.n:Int)=(↑a.n:Int)/\(↑a.used:Int)=(↑a.used:Int)/\(a.t.length<=a.t.length/\RowsEq a.t.length 4 (encRows Ix.encP a.t) (encRows Ix.encP a.t))/\(a'.fst<=a.t.length/\a'.snd.fst<a.t.length/\(-1:Int)<=a'.snd.snd/\a'.snd.snd<(↑a.t.length:Int)/\Ix.findFrom a.t a.key (a.t.length - a'.fst) a'.snd.fst a'.snd.snd=Ix.findP a.t a.key)/\a.t.length - a'.fst<a.t.length - a_4.fst)) /\
 ((!(gl a.t (0+(↑a_4.snd.fst:Int).toNat)).has)=false->InR .i64 ((↑a_4.snd.fst:Int)+1)/\(↑a.t.length:Int)≠(0:Int)/\InR .i64 ((↑a_4.fst:Int)+1)/\∃ (a':Nat × Nat × Int),(↑a_4.snd.fst:Int)=a'.snd.snd/\((↑a_4.snd.fst:Int)+1).tmod (↑a.t.length:Int)=(↑a'.snd.fst:Int)/\(↑a_4.fst:Int)+1=(↑a'.fst:Int)/\(↑a.t.length:Int)=(↑a.t.length:Int)/\(0:Int)=0/\(0:Int)=0/\0=0/\a.key=a.key/\(0=0/\a.t.length=a.t.length/\a.cap=a.cap)/\(↑a.n:Int)=(↑a.n:Int)/\(↑a.used:Int)=(↑a.used:Int)/\(a.t.length<=a.t.length/\RowsEq a.t.length 4 (encRows Ix.encP a.t) (encRows Ix.encP a.t))/\(a'.fst<=a.t.length/\a'.snd.fst<a.t.length/\(-1:Int)<=a'.snd.snd/\a'.snd.snd<(↑a.t.length:Int)/\Ix.findFrom a.t a.key (a.t.length - a'.fst) a'.snd.fst a'.snd.snd=Ix.findP a.t a.key)/\a.t.length - a'.fst<a.t.length - a_4.fst))/\(decide (a_4.snd.snd<(0:Int))=false->((!(gl a.t (0+(↑a_4.snd.fst:Int).toNat)).has)=true->((!(gl a.t (0+(↑a_4.snd.fst:Int).toNat)).gone)=true->∃ b:Unit,(-1:Int)=(Ix.findP a.t a.key).fst/\a_4.snd.snd=(Ix.findP a.t a.key).snd/\True/\True)/\((!(gl a.t (0+(↑a_4.snd.fst:Int).toNat)).gone)=false->InR .i64 ((↑a_4.snd.fst:Int)+1)/\(↑a.t.length:Int)≠(0:Int)/\InR .i64 ((↑a_4.fst:Int)+1)/\∃ (a':Nat × Nat × Int),a_4.snd.snd=a'.snd.snd/\((↑a_4.snd.fst:Int)+1).tmod (↑a.t.length:Int)=(↑a'.snd.fst:Int)/\(↑a_4.fst:Int)+1=(↑a'.fst:Int) /\
 (↑a.t.length:Int)=(↑a.t.length:Int)/\(0:Int)=0/\(0:Int)=0/\0=0/\a.key=a.key/\(0=0/\a.t.length=a.t.length/\a.cap=a.cap)/\(↑a.n:Int)=(↑a.n:Int)/\(↑a.used:Int)=(↑a.used:Int)/\(a.t.length<=a.t.length/\RowsEq a.t.length 4 (encRows Ix.encP a.t) (encRows Ix.encP a.t))/\(a'.fst<=a.t.length/\a'.snd.fst<a.t.length/\(-1:Int)<=a'.snd.snd/\a'.snd.snd<(↑a.t.length:Int)/\Ix.findFrom a.t a.key (a.t.length - a'.fst) a'.snd.fst a'.snd.snd=Ix.findP a.t a.key)/\a.t.length - a'.fst<a.t.length - a_4.fst))/\((!(gl a.t (0+(↑a_4.snd.fst:Int).toNat)).has)=false->InR .i64 ((↑a_4.snd.fst:Int)+1)/\(↑a.t.length:Int)≠(0:Int)/\InR .i64 ((↑a_4.fst:Int)+1)/\∃ (a':Nat × Nat × Int),a_4.snd.snd=a'.snd.snd/\((↑a_4.snd.fst:Int)+1).tmod (↑a.t.length:Int)=(↑a'.snd.fst:Int)/\(↑a_4.fst:Int)+1=(↑a'.fst:Int)/\(↑a.t.length:Int)=(↑a.t.length:Int)/\(0:Int)=0/\(0:Int)=0/\0=0/\a.key=a.key/\(0=0/\a.t.length=a.t.length/\a.cap=a.cap)/\(↑a.n:Int)=(↑a.n:Int)/\(↑a.used:Int)=(↑a.used:Int)/\(a.t.length<=a.t.length/\RowsEq a.t.length 4 (encRows Ix.encP a.t) (encRows Ix.encP a.t))/\(a'.fst<=a.t.length/\a'.snd.fst<a.t.length/\(-1:Int)<=a'.snd.snd/\a'.snd.snd<(↑a.t.length:Int)/\Ix.findFrom a.t a.key (a.t.length - a'.fst) a'.snd.fst a'.snd.snd=Ix.findP a.t a.key)/\a.t.length - a'.fst<a.t.length - a_4.fst)))/\((!(gl a.t (0+(↑a_4.snd.fst:Int).toNat)).has)=false ->
 ((!(gl a.t (0+(↑a_4.snd.fst:Int).toNat)).has)=true->((!(gl a.t (0+(↑a_4.snd.fst:Int).toNat)).gone)=true->∃ b:Unit,(-1:Int)=(Ix.findP a.t a.key).fst/\a_4.snd.snd=(Ix.findP a.t a.key).snd/\True/\True)/\((!(gl a.t (0+(↑a_4.snd.fst:Int).toNat)).gone)=false->InR .i64 ((↑a_4.snd.fst:Int)+1)/\(↑a.t.length:Int)≠(0:Int)/\InR .i64 ((↑a_4.fst:Int)+1)/\∃ (a':Nat × Nat × Int),a_4.snd.snd=a'.snd.snd/\((↑a_4.snd.fst:Int)+1).tmod (↑a.t.length:Int)=(↑a'.snd.fst:Int)/\(↑a_4.fst:Int)+1=(↑a'.fst:Int)/\(↑a.t.length:Int)=(↑a.t.length:Int)/\(0:Int)=0/\(0:Int)=0/\0=0/\a.key=a.key/\(0=0/\a.t.length=a.t.length/\a.cap=a.cap)/\(↑a.n:Int)=(↑a.n:Int)/\(↑a.used:Int)=(↑a.used:Int)/\(a.t.length<=a.t.length/\RowsEq a.t.length 4 (encRows Ix.encP a.t) (encRows Ix.encP a.t))/\(a'.fst<=a.t.length/\a'.snd.fst<a.t.length/\(-1:Int)<=a'.snd.snd/\a'.snd.snd<(↑a.t.length:Int)/\Ix.findFrom a.t a.key (a.t.length - a'.fst) a'.snd.fst a'.snd.snd=Ix.findP a.t a.key)/\a.t.length - a'.fst<a.t.length - a_4.fst))/\((!(gl a.t (0+(↑a_4.snd.fst:Int).toNat)).has)=false->InR .i64 ((↑a_4.snd.fst:Int)+1)/\(↑a.t.length:Int)≠(0:Int)/\InR .i64 ((↑a_4.fst:Int)+1)/\∃ (a':Nat × Nat × Int),a_4.snd.snd=a'.snd.snd/\((↑a_4.snd.fst:Int)+1).tmod (↑a.t.length:Int)=(↑a'.snd.fst:Int)/\(↑a_4.fst:Int)+1=(↑a'.fst:Int)/\(↑a.t.length:Int)=(↑a.t.length:Int) /\
 (0:Int)=0/\(0:Int)=0/\0=0/\a.key=a.key/\(0=0/\a.t.length=a.t.length/\a.cap=a.cap)/\(↑a.n:Int)=(↑a.n:Int)/\(↑a.used:Int)=(↑a.used:Int)/\(a.t.length<=a.t.length/\RowsEq a.t.length 4 (encRows Ix.encP a.t) (encRows Ix.encP a.t))/\(a'.fst<=a.t.length/\a'.snd.fst<a.t.length/\(-1:Int)<=a'.snd.snd/\a'.snd.snd<(↑a.t.length:Int)/\Ix.findFrom a.t a.key (a.t.length - a'.fst) a'.snd.fst a'.snd.snd=Ix.findP a.t a.key)/\a.t.length - a'.fst<a.t.length - a_4.fst))))/\((gl a.t (0+(↑a_4.snd.fst:Int).toNat)).has=false->((!(gl a.t (0+(↑a_4.snd.fst:Int).toNat)).has)=true->(decide (a_4.snd.snd<(0:Int))=true->((!(gl a.t (0+(↑a_4.snd.fst:Int).toNat)).has)=true->((!(gl a.t (0+(↑a_4.snd.fst:Int).toNat)).gone)=true->∃ b:Unit,(-1:Int)=(Ix.findP a.t a.key).fst/\(↑a_4.snd.fst:Int)=(Ix.findP a.t a.key).snd/\True/\True)/\((!(gl a.t (0+(↑a_4.snd.fst:Int).toNat)).gone)=false->InR .i64 ((↑a_4.snd.fst:Int)+1)/\(↑a.t.length:Int)≠(0:Int)/\InR .i64 ((↑a_4.fst:Int)+1)/\∃ (a':Nat × Nat × Int),(↑a_4.snd.fst:Int)=a'.snd.snd/\((↑a_4.snd.fst:Int)+1).tmod (↑a.t.length:Int)=(↑a'.snd.fst:Int)/\(↑a_4.fst:Int)+1=(↑a'.fst:Int)/\(↑a.t.length:Int)=(↑a.t.length:Int)/\(0:Int)=0/\(0:Int)=0/\0=0/\a.key=a.key/\(0=0/\a.t.length=a.t.length/\a.cap=a.cap)/\(↑a.n:Int)=(↑a.n:Int)/\(↑a.used:Int)=(↑a.used:Int)/\(a.t.length<=a.t.length /\
 RowsEq a.t.length 4 (encRows Ix.encP a.t) (encRows Ix.encP a.t))/\(a'.fst<=a.t.length/\a'.snd.fst<a.t.length/\(-1:Int)<=a'.snd.snd/\a'.snd.snd<(↑a.t.length:Int)/\Ix.findFrom a.t a.key (a.t.length - a'.fst) a'.snd.fst a'.snd.snd=Ix.findP a.t a.key)/\a.t.length - a'.fst<a.t.length - a_4.fst))/\((!(gl a.t (0+(↑a_4.snd.fst:Int).toNat)).has)=false->InR .i64 ((↑a_4.snd.fst:Int)+1)/\(↑a.t.length:Int)≠(0:Int)/\InR .i64 ((↑a_4.fst:Int)+1)/\∃ (a':Nat × Nat × Int),(↑a_4.snd.fst:Int)=a'.snd.snd/\((↑a_4.snd.fst:Int)+1).tmod (↑a.t.length:Int)=(↑a'.snd.fst:Int)/\(↑a_4.fst:Int)+1=(↑a'.fst:Int)/\(↑a.t.length:Int)=(↑a.t.length:Int)/\(0:Int)=0/\(0:Int)=0/\0=0/\a.key=a.key/\(0=0/\a.t.length=a.t.length/\a.cap=a.cap)/\(↑a.n:Int)=(↑a.n:Int)/\(↑a.used:Int)=(↑a.used:Int)/\(a.t.length<=a.t.length/\RowsEq a.t.length 4 (encRows Ix.encP a.t) (encRows Ix.encP a.t))/\(a'.fst<=a.t.length/\a'.snd.fst<a.t.length/\(-1:Int)<=a'.snd.snd/\a'.snd.snd<(↑a.t.length:Int)/\Ix.findFrom a.t a.key (a.t.length - a'.fst) a'.snd.fst a'.snd.snd=Ix.findP a.t a.key)/\a.t.length - a'.fst<a.t.length - a_4.fst))/\(decide (a_4.snd.snd<(0:Int))=false->((!(gl a.t (0+(↑a_4.snd.fst:Int).toNat)).has)=true->((!(gl a.t (0+(↑a_4.snd.fst:Int).toNat)).gone)=true->∃ b:Unit,(-1:Int)=(Ix.findP a.t a.key).fst/\a_4.snd.snd=(Ix.findP a.t a.key).snd/\True/\True)/\((!(gl a.t (0+(↑a_4.snd.fst:Int).toNat)).gone)=false ->
 InR .i64 ((↑a_4.snd.fst:Int)+1)/\(↑a.t.length:Int)≠(0:Int)/\InR .i64 ((↑a_4.fst:Int)+1)/\∃ (a':Nat × Nat × Int),a_4.snd.snd=a'.snd.snd/\((↑a_4.snd.fst:Int)+1).tmod (↑a.t.length:Int)=(↑a'.snd.fst:Int)/\(↑a_4.fst:Int)+1=(↑a'.fst:Int)/\(↑a.t.length:Int)=(↑a.t.length:Int)/\(0:Int)=0/\(0:Int)=0/\0=0/\a.key=a.key/\(0=0/\a.t.length=a.t.length/\a.cap=a.cap)/\(↑a.n:Int)=(↑a.n:Int)/\(↑a.used:Int)=(↑a.used:Int)/\(a.t.length<=a.t.length/\RowsEq a.t.length 4 (encRows Ix.encP a.t) (encRows Ix.encP a.t))/\(a'.fst<=a.t.length/\a'.snd.fst<a.t.length/\(-1:Int)<=a'.snd.snd/\a'.snd.snd<(↑a.t.length:Int)/\Ix.findFrom a.t a.key (a.t.length - a'.fst) a'.snd.fst a'.snd.snd=Ix.findP a.t a.key)/\a.t.length - a'.fst<a.t.length - a_4.fst))/\((!(gl a.t (0+(↑a_4.snd.fst:Int).toNat)).has)=false->InR .i64 ((↑a_4.snd.fst:Int)+1)/\(↑a.t.length:Int)≠(0:Int)/\InR .i64 ((↑a_4.fst:Int)+1)/\∃ (a':Nat × Nat × Int),a_4.snd.snd=a'.snd.snd/\((↑a_4.snd.fst:Int)+1).tmod (↑a.t.length:Int)=(↑a'.snd.fst:Int)/\(↑a_4.fst:Int)+1=(↑a'.fst:Int)/\(↑a.t.length:Int)=(↑a.t.length:Int)/\(0:Int)=0/\(0:Int)=0/\0=0/\a.key=a.key/\(0=0/\a.t.length=a.t.length/\a.cap=a.cap)/\(↑a.n:Int)=(↑a.n:Int)/\(↑a.used:Int)=(↑a.used:Int)/\(a.t.length<=a.t.length/\RowsEq a.t.length 4 (encRows Ix.encP a.t) (encRows Ix.encP a.t))/\(a'.fst<=a.t.length /\
 a'.snd.fst<a.t.length/\(-1:Int)<=a'.snd.snd/\a'.snd.snd<(↑a.t.length:Int)/\Ix.findFrom a.t a.key (a.t.length - a'.fst) a'.snd.fst a'.snd.snd=Ix.findP a.t a.key)/\a.t.length - a'.fst<a.t.length - a_4.fst)))/\((!(gl a.t (0+(↑a_4.snd.fst:Int).toNat)).has)=false->((!(gl a.t (0+(↑a_4.snd.fst:Int).toNat)).has)=true->((!(gl a.t (0+(↑a_4.snd.fst:Int).toNat)).gone)=true->∃ b:Unit,(-1:Int)=(Ix.findP a.t a.key).fst/\a_4.snd.snd=(Ix.findP a.t a.key).snd/\True/\True)/\((!(gl a.t (0+(↑a_4.snd.fst:Int).toNat)).gone)=false->InR .i64 ((↑a_4.snd.fst:Int)+1)/\(↑a.t.length:Int)≠(0:Int)/\InR .i64 ((↑a_4.fst:Int)+1)/\∃ (a':Nat × Nat × Int),a_4.snd.snd=a'.snd.snd/\((↑a_4.snd.fst:Int)+1).tmod (↑a.t.length:Int)=(↑a'.snd.fst:Int)/\(↑a_4.fst:Int)+1=(↑a'.fst:Int)/\(↑a.t.length:Int)=(↑a.t.length:Int)/\(0:Int)=0/\(0:Int)=0/\0=0/\a.key=a.key/\(0=0/\a.t.length=a.t.length/\a.cap=a.cap)/\(↑a.n:Int)=(↑a.n:Int)/\(↑a.used:Int)=(↑a.used:Int)/\(a.t.length<=a.t.length/\RowsEq a.t.length 4 (encRows Ix.encP a.t) (encRows Ix.encP a.t))/\(a'.fst<=a.t.length/\a'.snd.fst<a.t.length/\(-1:Int)<=a'.snd.snd/\a'.snd.snd<(↑a.t.length:Int)/\Ix.findFrom a.t a.key (a.t.length - a'.fst) a'.snd.fst a'.snd.snd=Ix.findP a.t a.key)/\a.t.length - a'.fst<a.t.length - a_4.fst))/\((!(gl a.t (0+(↑a_4.snd.fst:Int).toNat)).has)=false->InR .i64 ((↑a_4.snd.fst:Int)+1) /\
 (↑a.t.length:Int)≠(0:Int)/\InR .i64 ((↑a_4.fst:Int)+1)/\∃ (a':Nat × Nat × Int),a_4.snd.snd=a'.snd.snd/\((↑a_4.snd.fst:Int)+1).tmod (↑a.t.length:Int)=(↑a'.snd.fst:Int)/\(↑a_4.fst:Int)+1=(↑a'.fst:Int)/\(↑a.t.length:Int)=(↑a.t.length:Int)/\(0:Int)=0/\(0:Int)=0/\0=0/\a.key=a.key/\(0=0/\a.t.length=a.t.length/\a.cap=a.cap)/\(↑a.n:Int)=(↑a.n:Int)/\(↑a.used:Int)=(↑a.used:Int)/\(a.t.length<=a.t.length/\RowsEq a.t.length 4 (encRows Ix.encP a.t) (encRows Ix.encP a.t))/\(a'.fst<=a.t.length/\a'.snd.fst<a.t.length/\(-1:Int)<=a'.snd.snd/\a'.snd.snd<(↑a.t.length:Int)/\Ix.findFrom a.t a.key (a.t.length - a'.fst) a'.snd.fst a'.snd.snd=Ix.findP a.t a.key)/\a.t.length - a'.fst<a.t.length - a_4.fst))))/\(decide ((↑a_4.fst:Int)<(↑a.t.length:Int))=false->∃ b:Unit,(-1:Int)=(Ix.findP a.t a.key).fst/\a_4.snd.snd=(Ix.findP a.t a.key).snd/\True/\True)) (by kernel_rfl) (by
 intro a h;obtain ⟨h1,h2,h3⟩:=h;have hst:=startOf_lt a.key h1;refine ⟨⟨fun _=>a.key,1,1⟩,?_⟩;simp only [Nat.zero_add,Int.toNat_natCast,start_eq a.key h1 h2,next_eq];refine ⟨⟨trivial,trivial,trivial⟩,⟨Nat.le_refl _,.of_cells fun j hj=>?_⟩,⟨by omega,fun _ _=>h3⟩,fun _ _=>⟨by simp only [uw];omega,⟨(0,startOf a.t.length a.key,-1),?_⟩,fun x hx=>?_⟩⟩
 ·have:j=0:=by omega
  subst this;rfl
 ·dsimp only
  (repeat' apply And.intro)<;>(first|exact trivial|rfl|omega|assumption|exact RowsEq.refl _ _ _|(simp only [InR];omega)|(simp;done)|(simp;omega)|grind)
 ·obtain ⟨i,at_,free⟩:=x;obtain ⟨i1,i2,i3,i4,i5⟩:=hx;dsimp only at *;have hmod:(at_+1) % a.t.length<a.t.length:=Nat.mod_lt _ h1;have stop:i=a.t.length->findP a.t a.key=(-1,free):=by
   intro e;rw [<- i5,e,Nat.sub_self];rfl
  have step:=fun hi=>find_step (i:=i) hi i5;simp only [InR]
  repeat' (first|intro _|apply And.intro|apply Exists.intro ()|apply Exists.intro ((i+1,(at_+1) % a.t.length,_):Nat × Nat × Int))
  all_goals (try with_reducible rfl)
  all_goals (try exact RowsEq.refl _ _ _)
  all_goals (try dsimp only)
  all_goals (try simp only [decide_eq_true_eq,decide_eq_false_iff_not] at *)
  all_goals (try omega)
  all_goals (try (have h9:=step (by omega);grind [hit,bare]))
  all_goals (try (have h9:=stop (by omega);rw [h9])))
theorem callFind:CallsBy (Y Tryz.prog).G.X 70 cFind:=fn_ok okY (tab:=[(92,cMixOf)]) ⟨callMixOf,trivial⟩ bodyFind
structure IdxR where
 t:List PlaceR
 n:Nat
 used:Nat
def putRet (x:IdxR) (key:ByteArray):Int:=if 0<=(findP x.t key).1 then (gl x.t (findP x.t key).1.toNat).pos else 0
def putI (x:IdxR) (key:ByteArray) (pos:Int):IdxR :=
 if 0<=(findP x.t key).1 then { x with t:=x.t.set (findP x.t key).1.toNat { gl x.t (findP x.t key).1.toNat with pos:=pos } }
 else ⟨x.t.set (findP x.t key).2.toNat ⟨key,pos,true,false⟩,x.n+1,if (gl x.t (findP x.t key).2.toNat).gone then x.used else x.used+1⟩
theorem putI_length (x:IdxR) (key:ByteArray) (pos:Int):(putI x key pos).t.length=x.t.length:=by unfold putI;split<;>simp
theorem findFrom_lt (t:List PlaceR) (key:ByteArray) (h:1<=t.length):∀ (k i:Nat) (f:Int),i<t.length->f<t.length->(findFrom t key k i f).1<t.length/\(findFrom t key k i f).2<t.length
 | 0,i,f,hi,hf=>by simp only [findFrom];omega
 | k+1,i,f,hi,hf=>by
  have h1:(if !(gl t i).has&&decide (f<0) then (i:Int) else f)<t.length:=by split<;>omega
  unfold findFrom;by_cases hh:hit key (gl t i)=true
  ·rw [if_pos hh];exact ⟨by simp only;omega,by simp only;omega⟩
  ·rw [if_neg hh];dsimp only;by_cases hb:bare (gl t i)=true
   ·rw [if_pos hb];exact ⟨by simp only;omega,h1⟩
   ·rw [if_neg hb];exact findFrom_lt t key h k _ _ (Nat.mod_lt _ h) h1
theorem findP_lt {t:List PlaceR} (key:ByteArray) (h:1<=t.length):(findP t key).1<t.length/\(findP t key).2<t.length :=
 findFrom_lt t key h _ _ _ (startOf_lt key h) (by omega)
structure PutA where
 x:IdxR
 cap:Nat
 key:ByteArray
 pos:Int
noncomputable def cPut0:Con where
 α:=PutA
 β:=Unit
 m:=2
 m':=2
 pre:=fun a=>1<=a.x.t.length/\a.x.t.length<100000/\a.key.size<=lenMax/\2*a.x.used<a.x.t.length/\a.x.n<100000/\((findP a.x.t a.key).1<0->0<=(findP a.x.t a.key).2)
 args:=fun a=>[.a (.ptr 0 0 0 0),.a (.str a.key),.a (.int .i64 a.pos)]
 hp:=fun a=>idxHp 0 1 a.x.t a.cap a.x.n a.x.used
 ro:=fun _=>[]
 post:=fun _ _=>True
 res:=fun a _=>.a (.int .i64 (putRet a.x a.key))
 hp':=fun a _=>idxHp 0 1 (putI a.x a.key a.pos).t a.cap (putI a.x a.key a.pos).n (putI a.x a.key a.pos).used
noncomputable def cNever:Con where
 α:=Unit
 β:=Unit
 m:=1
 m':=1
 pre:=fun _=>False
 args:=fun _=>[.a (.ptr 0 0 0 0)]
 hp:=fun _=>[]
 ro:=fun _=>[]
 post:=fun _ _=>True
 res:=fun _ _=>.a .any
 hp':=fun _ _=>[]
theorem callNever (f:Nat):CallsBy (Y Tryz.prog).G.X f cNever:=fn_ok okY (tab:=[]) trivial (l:=fun _=>[]) ⟨fun a h=>False.elim h⟩
set_option maxHeartbeats 4000000 in
theorem bodyPut0:fnBody (Y Tryz.prog) [(70,cFind),(69,cNever)] 46 cPut0 fun _=>[]:=fnBody.of (p :=
 ∀ a:Ix.PutA,1<=a.x.t.length/\a.x.t.length<100000/\a.key.size<=lenMax/\2*a.x.used<a.x.t.length/\a.x.n<100000/\((Ix.findP a.x.t a.key).fst<(0:Int)->(0:Int)<=(Ix.findP a.x.t a.key).snd)->InR .i64 (↑a.x.used:Int)->InR .i64 ((2:Int)*(↑a.x.used:Int))/\(decide ((↑a.x.t.length:Int)<=2*(↑a.x.used:Int))=true->∃ a_4:Unit,0=0/\False/\∀ b:Unit,True->∃ a_6:Ix.FindA,0=0/\a.key=a_6.key/\(0=0/\a.x.t.length=a_6.t.length/\a.cap=a_6.cap)/\(↑a.x.n:Int)=(↑a_6.n:Int)/\(↑a.x.used:Int)=(↑a_6.used:Int)/\(a_6.t.length<=a.x.t.length/\RowsEq a_6.t.length 4 (encRows Ix.encP a.x.t) (encRows Ix.encP a_6.t))/\(1<=a_6.t.length/\a_6.t.length<100000/\a_6.key.size<=lenMax)/\∀ b:Unit,True->(decide ((0:Int)<=(Ix.findP a_6.t a_6.key).fst)=true->((0:Int)<=(Ix.findP a_6.t a_6.key).fst/\(Ix.findP a_6.t a_6.key).fst<(↑a.x.t.length:Int))/\0+(Ix.findP a_6.t a_6.key).fst.toNat<a.x.t.length/\(InR .i64 (gl a.x.t (0+(Ix.findP a_6.t a_6.key).fst.toNat)).pos->((0:Int)<=(Ix.findP a_6.t a_6.key).fst/\(Ix.findP a_6.t a_6.key).fst<(↑a.x.t.length:Int))/\0+(Ix.findP a_6.t a_6.key).fst.toNat<a.x.t.length/\∃ b:Unit,(gl a.x.t (0+(Ix.findP a_6.t a_6.key).fst.toNat)).pos=Ix.putRet a.x a.key/\(0=0/\a.x.t.length=(Ix.putI a.x a.key a.pos).t.length/\a.cap=a.cap)/\(↑a.x.n:Int)=(↑(Ix.putI a.x a.key a.pos).n:Int)/\(↑a.x.used:Int)=(↑(Ix.putI a.x a.key a.pos).used:Int)/\((Ix.putI a.x a.key a.pos).t.length<=a.x.t.length /\
 RowsEq (Ix.putI a.x a.key a.pos).t.length 4 (updR (encRows Ix.encP a.x.t) (0+(Ix.findP a_6.t a_6.key).fst.toNat) 1 [Value.int IntKind.i64 a.pos]) (encRows Ix.encP (Ix.putI a.x a.key a.pos).t))/\True/\True))/\(decide ((0:Int)<=(Ix.findP a_6.t a_6.key).fst)=false->((0:Int)<=(Ix.findP a_6.t a_6.key).snd/\(Ix.findP a_6.t a_6.key).snd<(↑a.x.t.length:Int))/\0+(Ix.findP a_6.t a_6.key).snd.toNat<a.x.t.length/\((!(gl a.x.t (0+(Ix.findP a_6.t a_6.key).snd.toNat)).gone)=true->InR .i64 (↑a.x.used:Int)->InR .i64 ((↑a.x.used:Int)+1)/\((0:Int)<=(Ix.findP a_6.t a_6.key).snd/\(Ix.findP a_6.t a_6.key).snd<(↑a.x.t.length:Int))/\0+(Ix.findP a_6.t a_6.key).snd.toNat<a.x.t.length/\(InR .i64 (↑a.x.n:Int)->InR .i64 ((↑a.x.n:Int)+1)/\∃ b:Unit,(0:Int)=Ix.putRet a.x a.key/\(0=0/\a.x.t.length=(Ix.putI a.x a.key a.pos).t.length/\a.cap=a.cap)/\(↑a.x.n:Int)+1=(↑(Ix.putI a.x a.key a.pos).n:Int)/\(↑a.x.used:Int)+1=(↑(Ix.putI a.x a.key a.pos).used:Int)/\((Ix.putI a.x a.key a.pos).t.length<=a.x.t.length/\RowsEq (Ix.putI a.x a.key a.pos).t.length 4 (updR (encRows Ix.encP a.x.t) (0+(Ix.findP a_6.t a_6.key).snd.toNat) 0 [Value.string a.key,Value.int IntKind.i64 a.pos,Value.bool true,Value.bool false]) (encRows Ix.encP (Ix.putI a.x a.key a.pos).t))/\True/\True))/\((!(gl a.x.t (0+(Ix.findP a_6.t a_6.key).snd.toNat)).gone)=false->((0:Int)<=(Ix.findP a_6.t a_6.key).snd/\(Ix.findP a_6.t a_6.key).snd<(↑a.x.t.length:Int)) /\
 0+(Ix.findP a_6.t a_6.key).snd.toNat<a.x.t.length/\(InR .i64 (↑a.x.n:Int)->InR .i64 ((↑a.x.n:Int)+1)/\∃ b:Unit,(0:Int)=Ix.putRet a.x a.key/\(0=0/\a.x.t.length=(Ix.putI a.x a.key a.pos).t.length/\a.cap=a.cap)/\(↑a.x.n:Int)+1=(↑(Ix.putI a.x a.key a.pos).n:Int)/\(↑a.x.used:Int)=(↑(Ix.putI a.x a.key a.pos).used:Int)/\((Ix.putI a.x a.key a.pos).t.length<=a.x.t.length/\RowsEq (Ix.putI a.x a.key a.pos).t.length 4 (updR (encRows Ix.encP a.x.t) (0+(Ix.findP a_6.t a_6.key).snd.toNat) 0 [Value.string a.key,Value.int IntKind.i64 a.pos,Value.bool true,Value.bool false]) (encRows Ix.encP (Ix.putI a.x a.key a.pos).t))/\True/\True))))/\(decide ((↑a.x.t.length:Int)<=2*(↑a.x.used:Int))=false->∃ a_4:Ix.FindA,0=0/\a.key=a_4.key/\(0=0/\a.x.t.length=a_4.t.length/\a.cap=a_4.cap)/\(↑a.x.n:Int)=(↑a_4.n:Int)/\(↑a.x.used:Int)=(↑a_4.used:Int)/\(a_4.t.length<=a.x.t.length/\RowsEq a_4.t.length 4 (encRows Ix.encP a.x.t) (encRows Ix.encP a_4.t))/\(1<=a_4.t.length/\a_4.t.length<100000/\a_4.key.size<=lenMax)/\∀ b:Unit,True->(decide ((0:Int)<=(Ix.findP a_4.t a_4.key).fst)=true->((0:Int)<=(Ix.findP a_4.t a_4.key).fst/\(Ix.findP a_4.t a_4.key).fst<(↑a.x.t.length:Int))/\0+(Ix.findP a_4.t a_4.key).fst.toNat<a.x.t.length/\(InR .i64 (gl a.x.t (0+(Ix.findP a_4.t a_4.key).fst.toNat)).pos->((0:Int)<=(Ix.findP a_4.t a_4.key).fst/\(Ix.findP a_4.t a_4.key).fst<(↑a.x.t.length:Int)) /\
 0+(Ix.findP a_4.t a_4.key).fst.toNat<a.x.t.length/\∃ b:Unit,(gl a.x.t (0+(Ix.findP a_4.t a_4.key).fst.toNat)).pos=Ix.putRet a.x a.key/\(0=0/\a.x.t.length=(Ix.putI a.x a.key a.pos).t.length/\a.cap=a.cap)/\(↑a.x.n:Int)=(↑(Ix.putI a.x a.key a.pos).n:Int)/\(↑a.x.used:Int)=(↑(Ix.putI a.x a.key a.pos).used:Int)/\((Ix.putI a.x a.key a.pos).t.length<=a.x.t.length/\RowsEq (Ix.putI a.x a.key a.pos).t.length 4 (updR (encRows Ix.encP a.x.t) (0+(Ix.findP a_4.t a_4.key).fst.toNat) 1 [Value.int IntKind.i64 a.pos]) (encRows Ix.encP (Ix.putI a.x a.key a.pos).t))/\True/\True))/\(decide ((0:Int)<=(Ix.findP a_4.t a_4.key).fst)=false->((0:Int)<=(Ix.findP a_4.t a_4.key).snd/\(Ix.findP a_4.t a_4.key).snd<(↑a.x.t.length:Int))/\0+(Ix.findP a_4.t a_4.key).snd.toNat<a.x.t.length/\((!(gl a.x.t (0+(Ix.findP a_4.t a_4.key).snd.toNat)).gone)=true->InR .i64 (↑a.x.used:Int)->InR .i64 ((↑a.x.used:Int)+1)/\((0:Int)<=(Ix.findP a_4.t a_4.key).snd/\(Ix.findP a_4.t a_4.key).snd<(↑a.x.t.length:Int))/\0+(Ix.findP a_4.t a_4.key).snd.toNat<a.x.t.length/\(InR .i64 (↑a.x.n:Int)->InR .i64 ((↑a.x.n:Int)+1)/\∃ b:Unit,(0:Int)=Ix.putRet a.x a.key/\(0=0/\a.x.t.length=(Ix.putI a.x a.key a.pos).t.length/\a.cap=a.cap)/\(↑a.x.n:Int)+1=(↑(Ix.putI a.x a.key a.pos).n:Int)/\(↑a.x.used:Int)+1=(↑(Ix.putI a.x a.key a.pos).used:Int)/\((Ix.putI a.x a.key a.pos).t.length<=a.x.t.length/\RowsEq (Ix.putI a.x a.key a.pos).t.length 4 (updR (encRows Ix.encP a.x.t) (0+(Ix.findP a_4.t a_4.key).snd.toNat) 0 [Value.string a.key,Value.int IntKind.i64 a.pos,Value.bool true,Value.bool false]) (encRows Ix.encP (Ix.putI a.x a.key a.pos).t)) /\
 True/\True))/\((!(gl a.x.t (0+(Ix.findP a_4.t a_4.key).snd.toNat)).gone)=false->((0:Int)<=(Ix.findP a_4.t a_4.key).snd/\(Ix.findP a_4.t a_4.key).snd<(↑a.x.t.length:Int))/\0+(Ix.findP a_4.t a_4.key).snd.toNat<a.x.t.length/\(InR .i64 (↑a.x.n:Int)->InR .i64 ((↑a.x.n:Int)+1)/\∃ b:Unit,(0:Int)=Ix.putRet a.x a.key/\(0=0/\a.x.t.length=(Ix.putI a.x a.key a.pos).t.length/\a.cap=a.cap)/\(↑a.x.n:Int)+1=(↑(Ix.putI a.x a.key a.pos).n:Int)/\(↑a.x.used:Int)=(↑(Ix.putI a.x a.key a.pos).used:Int)/\((Ix.putI a.x a.key a.pos).t.length<=a.x.t.length/\RowsEq (Ix.putI a.x a.key a.pos).t.length 4 (updR (encRows Ix.encP a.x.t) (0+(Ix.findP a_4.t a_4.key).snd.toNat) 0 [Value.string a.key,Value.int IntKind.i64 a.pos,Value.bool true,Value.bool false]) (encRows Ix.encP (Ix.putI a.x a.key a.pos).t))/\True/\True))))) (by kernel_rfl) (by
 intro a h;obtain ⟨h1,h2,h3,h4,h5,h6⟩:=h;obtain ⟨l1,l2⟩:=findP_lt a.key h1;have hl:=putI_length a.x a.key a.pos;have yes:0<=(findP a.x.t a.key).1->putI a.x a.key a.pos={ a.x with t:=a.x.t.set (findP a.x.t a.key).1.toNat { gl a.x.t (findP a.x.t a.key).1.toNat with pos:=a.pos } }:=fun e=>if_pos e;have no:¬ 0<=(findP a.x.t a.key).1->putI a.x a.key a.pos=⟨a.x.t.set (findP a.x.t a.key).2.toNat ⟨a.key,a.pos,true,false⟩,a.x.n+1,if (gl a.x.t (findP a.x.t a.key).2.toNat).gone then a.x.used else a.x.used+1⟩:=fun e=>if_neg e;simp only [Nat.zero_add,InR];refine fun _=>⟨by omega,fun e=>absurd e (by simp;omega),fun _=>⟨⟨a.x.t,a.cap,a.x.n,a.x.used,a.key⟩,?_⟩⟩
 dsimp only
 repeat' (first|intro _|apply And.intro|apply Exists.intro ())
 all_goals (try with_reducible rfl)
 all_goals (try simp only [decide_eq_true_eq,decide_eq_false_iff_not,Bool.not_eq_true',Bool.not_eq_false'] at *)
 all_goals (try exact trivial)
 all_goals (try omega)
 all_goals (try (grind [putRet]))
 all_goals (try (with_reducible exact RowsEq.refl _ _ _))
 all_goals (first|(rw [yes (by assumption)];refine .set _ (by omega) (fun i hi=>by simp only [updR_other hi]) ?_;simp only [updR_self];rfl)|(rw [no (by assumption)];refine .set _ (by omega) (fun i hi=>by simp only [updR_other hi]) ?_;simp only [updR_self];rfl)))
theorem callPut0:CallsBy (Y Tryz.prog).G.X 46 cPut0:=fn_ok okY (tab:=[(70,cFind),(69,cNever)]) ⟨callFind,callNever _,trivial⟩ bodyPut0
end Go.Proofs.YtfhkbihcfmbbcaaGreat.Ix

namespace Go.Proofs.YtfhkbihcfmbbcaaGreat.Ix
open Go.Sx
set_option maxRecDepth 100000
set_option linter.unusedVariables false
def putAll (t:List PlaceR) (y:IdxR):Nat->IdxR
 | 0=>y
 | i+1=>if (gl t i).has then putI (putAll t y i) (gl t i).key (gl t i).pos else putAll t y i
def emptyI (n:Nat):IdxR:=⟨List.replicate n ⟨.empty,0,false,false⟩,0,0⟩
theorem putAll_length (t:List PlaceR) (y:IdxR):∀ i,(putAll t y i).t.length=y.t.length
 | 0=>rfl
 | i+1=>by
  unfold putAll;split
  ·rw [putI_length,putAll_length t y i]
  ·exact putAll_length t y i
theorem gl_replicate {α:Type} [Inhabited α] {n i:Nat} {x:α} (h:i<n):gl (List.replicate n x) i=x:=by
 rw [gl_eq (by simpa using h)];simp
def growI (x:IdxR):IdxR:=putAll x.t (emptyI (max 16 (4*x.n))) x.t.length
structure GrowA where
 x:IdxR
 cap:Nat
noncomputable def cGrow:Con where
 α:=GrowA
 β:=Nat
 m:=2
 m':=3
 pre:=fun a=>1<=a.x.t.length/\a.x.t.length<100000/\a.x.n<10000/\(∀ i,i<a.x.t.length->(gl a.x.t i).key.size<=lenMax) /\
  ∀ i,i<a.x.t.length->(gl a.x.t i).has=true->2*(putAll a.x.t (emptyI (max 16 (4*a.x.n))) i).used<max 16 (4*a.x.n)/\(putAll a.x.t (emptyI (max 16 (4*a.x.n))) i).n<100000 /\
   ((findP (putAll a.x.t (emptyI (max 16 (4*a.x.n))) i).t (gl a.x.t i).key).1<0->0<=(findP (putAll a.x.t (emptyI (max 16 (4*a.x.n))) i).t (gl a.x.t i).key).2)
 args:=fun a=>[.a (.ptr 0 0 0 0)]
 hp:=fun a=>[(0,.obj 128 [.slc 1 0 4 a.x.t.length a.cap,.int .i64 a.x.n,.int .i64 a.x.used])]
 ro:=fun a=>[(1,.arr 132 ksP a.x.t.length (encRows encP a.x.t))]
 post:=fun _ _=>True
 res:=fun _ _=>.tup []
 hp':=fun a cap=>idxHp 0 2 (growI a.x).t cap (growI a.x).n (growI a.x).used
def iGrow (a:GrowA):An:=.flat 3 (Nat × Nat) (fun s x=>(((s.at_ (s.tg 0) (.obj 128 [.slc (s.in_ (s.tg 0) 0) 0 4 (max 16 (4*a.x.n)) x.2,.int .i64 (putAll a.x.t (emptyI (max 16 (4*a.x.n))) x.1).n,.int .i64 (putAll a.x.t (emptyI (max 16 (4*a.x.n))) x.1).used])).at_ (s.in_ (s.tg 0) 0) (.arr 132 ksP (max 16 (4*a.x.n)) (encRows encP (putAll a.x.t (emptyI (max 16 (4*a.x.n))) x.1).t))).int 21 x.1))
 (fun _ x=>x.1<=a.x.t.length) (fun _ x=>a.x.t.length - x.1)
set_option maxHeartbeats 4000000 in
theorem bodyGrow:fnBody (Y Tryz.prog) [(46,cPut0)] 69 cGrow fun a=>[(69,[iGrow a],[])]:=fnBody.of (p :=
 ∀ a:Ix.GrowA,(1<=a.x.t.length/\a.x.t.length<100000/\a.x.n<10000/\(∀ i:Nat,i<a.x.t.length->(gl a.x.t i).key.size<=lenMax)/\∀ i:Nat,i<a.x.t.length->(gl a.x.t i).has=true->2*(Ix.putAll a.x.t (Ix.emptyI (max 16 (4*a.x.n))) i).used<max 16 (4*a.x.n)/\(Ix.putAll a.x.t (Ix.emptyI (max 16 (4*a.x.n))) i).n<100000/\((Ix.findP (Ix.putAll a.x.t (Ix.emptyI (max 16 (4*a.x.n))) i).t (gl a.x.t i).key).fst<(0:Int)->(0:Int)<=(Ix.findP (Ix.putAll a.x.t (Ix.emptyI (max 16 (4*a.x.n))) i).t (gl a.x.t i).key).snd))->InR .i64 (↑a.x.n:Int)->InR .i64 ((4:Int)*(↑a.x.n:Int))/\((0:Int)<=bif true then max (16:Int) ((4:Int)*(↑a.x.n:Int)) else min (16:Int) ((4:Int)*(↑a.x.n:Int)))/\((bif true then max (16:Int) ((4:Int)*(↑a.x.n:Int)) else min (16:Int) ((4:Int)*(↑a.x.n:Int)))<=bif true then max (16:Int) ((4:Int)*(↑a.x.n:Int)) else min (16:Int) ((4:Int)*(↑a.x.n:Int)))/\((32:Int)*bif true then max (16:Int) ((4:Int)*(↑a.x.n:Int)) else min (16:Int) ((4:Int)*(↑a.x.n:Int)))<=(281474976710656:Int)/\(∃ a_3:Nat × Nat,0=(↑a_3.fst:Int)/\(↑a.x.t.length:Int)=(↑a.x.t.length:Int)/\(0=0/\a.x.t.length=a.x.t.length/\a.cap=a.cap)/\(0=0/\a.x.t.length=a.x.t.length/\a.cap=a.cap)/\0=0/\(0=0/\(bif true then max (16:Int) ((4:Int)*(↑a.x.n:Int)) else min (16:Int) ((4:Int)*(↑a.x.n:Int))).toNat=max 16 (4*a.x.n)/\(bif true then max (16:Int) ((4:Int)*(↑a.x.n:Int)) else min (16:Int) ((4:Int)*(↑a.x.n:Int))).toNat=a_3.snd) /\
 0=(↑(Ix.putAll a.x.t (Ix.emptyI (max 16 (4*a.x.n))) a_3.fst).n:Int)/\0=(↑(Ix.putAll a.x.t (Ix.emptyI (max 16 (4*a.x.n))) a_3.fst).used:Int)/\(a.x.t.length<=a.x.t.length/\RowsEq a.x.t.length 4 (encRows Ix.encP a.x.t) (encRows Ix.encP a.x.t))/\(max 16 (4*a.x.n)<=(bif true then max (16:Int) ((4:Int)*(↑a.x.n:Int)) else min (16:Int) ((4:Int)*(↑a.x.n:Int))).toNat/\RowsEq (max 16 (4*a.x.n)) 4 (fun (x j:Nat)=>[Value.string (ByteArray.mk #[]),Value.int IntKind.i64 (0:Int),Value.bool false,Value.bool false].getD j (Value.tuple #[])) (encRows Ix.encP (Ix.putAll a.x.t (Ix.emptyI (max 16 (4*a.x.n))) a_3.fst).t))/\a_3.fst<=a.x.t.length/\True)/\∀ a_3:Nat × Nat,a_3.fst<=a.x.t.length->(decide ((↑a_3.fst:Int)<(↑a.x.t.length:Int))=true->(0<=(↑a_3.fst:Int)/\(↑a_3.fst:Int)<(↑a.x.t.length:Int))/\0+(↑a_3.fst:Int).toNat<a.x.t.length/\((gl a.x.t (0+(↑a_3.fst:Int).toNat)).has=true->InR .i64 (gl a.x.t (0+(↑a_3.fst:Int).toNat)).pos->∃ a_8:Ix.PutA,0=0/\(gl a.x.t (0+(↑a_3.fst:Int).toNat)).key=a_8.key/\(gl a.x.t (0+(↑a_3.fst:Int).toNat)).pos=a_8.pos/\(0=0/\max 16 (4*a.x.n)=a_8.x.t.length/\a_3.snd=a_8.cap)/\(↑(Ix.putAll a.x.t (Ix.emptyI (max 16 (4*a.x.n))) a_3.fst).n:Int)=(↑a_8.x.n:Int)/\(↑(Ix.putAll a.x.t (Ix.emptyI (max 16 (4*a.x.n))) a_3.fst).used:Int)=(↑a_8.x.used:Int)/\(a_8.x.t.length<=max 16 (4*a.x.n)/\RowsEq a_8.x.t.length 4 (encRows Ix.encP (Ix.putAll a.x.t (Ix.emptyI (max 16 (4*a.x.n))) a_3.fst).t) (encRows Ix.encP a_8.x.t)) /\
 (1<=a_8.x.t.length/\a_8.x.t.length<100000/\a_8.key.size<=lenMax/\2*a_8.x.used<a_8.x.t.length/\a_8.x.n<100000/\((Ix.findP a_8.x.t a_8.key).fst<(0:Int)->(0:Int)<=(Ix.findP a_8.x.t a_8.key).snd))/\∀ b:Unit,True->InR .i64 ((↑a_3.fst:Int)+1)/\∃ (a':Nat × Nat),(↑a_3.fst:Int)+1=(↑a'.fst:Int)/\(↑a.x.t.length:Int)=(↑a.x.t.length:Int)/\(0=0/\a.x.t.length=a.x.t.length/\a.cap=a.cap)/\(0=0/\a.x.t.length=a.x.t.length/\a.cap=a.cap)/\0=0/\(0=0/\(Ix.putI a_8.x a_8.key a_8.pos).t.length=max 16 (4*a.x.n)/\a_8.cap=a'.snd)/\(↑(Ix.putI a_8.x a_8.key a_8.pos).n:Int)=(↑(Ix.putAll a.x.t (Ix.emptyI (max 16 (4*a.x.n))) a'.fst).n:Int)/\(↑(Ix.putI a_8.x a_8.key a_8.pos).used:Int)=(↑(Ix.putAll a.x.t (Ix.emptyI (max 16 (4*a.x.n))) a'.fst).used:Int)/\(a.x.t.length<=a.x.t.length/\RowsEq a.x.t.length 4 (encRows Ix.encP a.x.t) (encRows Ix.encP a.x.t))/\(max 16 (4*a.x.n)<=(Ix.putI a_8.x a_8.key a_8.pos).t.length/\RowsEq (max 16 (4*a.x.n)) 4 (encRows Ix.encP (Ix.putI a_8.x a_8.key a_8.pos).t) (encRows Ix.encP (Ix.putAll a.x.t (Ix.emptyI (max 16 (4*a.x.n))) a'.fst).t))/\a'.fst<=a.x.t.length/\a.x.t.length - a'.fst<a.x.t.length - a_3.fst)/\((gl a.x.t (0+(↑a_3.fst:Int).toNat)).has=false->InR .i64 ((↑a_3.fst:Int)+1)/\∃ (a':Nat × Nat),(↑a_3.fst:Int)+1=(↑a'.fst:Int)/\(↑a.x.t.length:Int)=(↑a.x.t.length:Int)/\(0=0/\a.x.t.length=a.x.t.length/\a.cap=a.cap)/\(0=0/\a.x.t.length=a.x.t.length /\
 a.cap=a.cap)/\0=0/\(0=0/\max 16 (4*a.x.n)=max 16 (4*a.x.n)/\a_3.snd=a'.snd)/\(↑(Ix.putAll a.x.t (Ix.emptyI (max 16 (4*a.x.n))) a_3.fst).n:Int)=(↑(Ix.putAll a.x.t (Ix.emptyI (max 16 (4*a.x.n))) a'.fst).n:Int)/\(↑(Ix.putAll a.x.t (Ix.emptyI (max 16 (4*a.x.n))) a_3.fst).used:Int)=(↑(Ix.putAll a.x.t (Ix.emptyI (max 16 (4*a.x.n))) a'.fst).used:Int)/\(a.x.t.length<=a.x.t.length/\RowsEq a.x.t.length 4 (encRows Ix.encP a.x.t) (encRows Ix.encP a.x.t))/\(max 16 (4*a.x.n)<=max 16 (4*a.x.n)/\RowsEq (max 16 (4*a.x.n)) 4 (encRows Ix.encP (Ix.putAll a.x.t (Ix.emptyI (max 16 (4*a.x.n))) a_3.fst).t) (encRows Ix.encP (Ix.putAll a.x.t (Ix.emptyI (max 16 (4*a.x.n))) a'.fst).t))/\a'.fst<=a.x.t.length/\a.x.t.length - a'.fst<a.x.t.length - a_3.fst))/\(decide ((↑a_3.fst:Int)<(↑a.x.t.length:Int))=false->∃ b:Nat,(0=0/\max 16 (4*a.x.n)=(Ix.growI a.x).t.length/\a_3.snd=b)/\(↑(Ix.putAll a.x.t (Ix.emptyI (max 16 (4*a.x.n))) a_3.fst).n:Int)=(↑(Ix.growI a.x).n:Int)/\(↑(Ix.putAll a.x.t (Ix.emptyI (max 16 (4*a.x.n))) a_3.fst).used:Int)=(↑(Ix.growI a.x).used:Int)/\((Ix.growI a.x).t.length<=max 16 (4*a.x.n)/\RowsEq (Ix.growI a.x).t.length 4 (encRows Ix.encP (Ix.putAll a.x.t (Ix.emptyI (max 16 (4*a.x.n))) a_3.fst).t) (encRows Ix.encP (Ix.growI a.x).t))/\True/\True)) (by kernel_rfl) (by
 intro a h;obtain ⟨h1,h2,h3,h4,h5⟩:=h;obtain ⟨M,hM⟩:∃ M,M=max 16 (4*a.x.n):=⟨_,rfl⟩
 have hMi:(max 16 (4*(a.x.n:Int)):Int)=(M:Int):=by omega
 simp only [cond_true,<- hM] at h5 ⊢;simp only [hMi,Nat.zero_add,Int.toNat_natCast];have hlen:∀ i,(putAll a.x.t (emptyI M) i).t.length=M:=fun i=>by rw [putAll_length];simp [emptyI]
 have hg:growI a.x=putAll a.x.t (emptyI M) a.x.t.length:=by unfold growI;rw [<- hM]
 rw [hg,hlen];refine fun _=>⟨by simp only [InR];omega,by omega,by omega,by omega,⟨(0,M),?_⟩,fun x hx=>?_⟩
 ·dsimp only
  (repeat' apply And.intro)<;>first|exact RowsEq.refl _ _ _|skip
  all_goals first|exact trivial|rfl|omega|skip
  refine .of_cells fun i hi=>?_;unfold encRows;rw [show gl (putAll a.x.t (emptyI M) 0).t i=⟨.empty,0,false,false⟩ from gl_replicate hi];rfl
 ·obtain ⟨i,cap⟩:=x;have hx':i<=a.x.t.length:=hx;have h6:=h5 i;have sy:(gl a.x.t i).has=true->putAll a.x.t (emptyI M) (i+1)=putI (putAll a.x.t (emptyI M) i) (gl a.x.t i).key (gl a.x.t i).pos:=fun e=>if_pos e;have sn:(gl a.x.t i).has=false->putAll a.x.t (emptyI M) (i+1)=putAll a.x.t (emptyI M) i:=fun e=>if_neg (by rw [e];decide);have se:¬ i<a.x.t.length->putAll a.x.t (emptyI M) a.x.t.length=putAll a.x.t (emptyI M) i:=fun e=>by rw [show a.x.t.length=i by omega]
  dsimp only at *
  repeat' (first|intro _|apply And.intro|apply Exists.intro (PutA.mk (putAll a.x.t (emptyI M) i) cap _ _)|apply Exists.intro ((i+1,cap):Nat × Nat)|apply Exists.intro (cap:Nat))
  all_goals (try with_reducible rfl)
  all_goals (try with_reducible exact RowsEq.refl _ _ _)
  all_goals (try dsimp only)
  all_goals (try simp only [decide_eq_true_eq,decide_eq_false_iff_not,Bool.not_eq_true',Bool.not_eq_false',InR] at *)
  all_goals (try simp only [hlen,putI_length])
  all_goals (try exact trivial)
  all_goals (try omega)
  all_goals first
   | exact h4 i (by omega)
   | exact (h6 (by omega) (by assumption)).1
   | exact (h6 (by omega) (by assumption)).2.1
   | exact (h6 (by omega) (by assumption)).2.2 (by assumption)
   | (rw [sy (by assumption)];done)
   | (rw [sy (by assumption)];exact RowsEq.refl _ _ _)
   | (rw [sn (by assumption)];done)
   | (rw [sn (by assumption)];exact RowsEq.refl _ _ _)
   | (rw [se (by omega)];done)
   | (rw [se (by omega)];exact RowsEq.refl _ _ _))
theorem callGrow:CallsBy (Y Tryz.prog).G.X 69 cGrow:=fn_ok okY (tab:=[(46,cPut0)]) ⟨callPut0,trivial⟩ bodyGrow
end Go.Proofs.YtfhkbihcfmbbcaaGreat.Ix

namespace Go.Proofs.YtfhkbihcfmbbcaaGreat.Ix
open Go.Sx
set_option maxRecDepth 100000
set_option linter.unusedVariables false
def entOf (p:PlaceR):ByteArray × Int:=(p.key,p.pos)
def ents (t:List PlaceR):List (ByteArray × Int):=(t.filter (·.has)).map entOf
def busy (p:PlaceR):Bool:=!bare p
structure Inv (x:IdxR):Prop where
 lo:16<=x.t.length
 hi:x.t.length<=40000
 n:x.n=(ents x.t).length
 used:x.used=x.t.countP busy
 half:2*x.used<x.t.length+2
 size:∀ i,i<x.t.length->(gl x.t i).key.size<=lenMax
 dist:∀ i j,i<x.t.length->j<x.t.length->(gl x.t i).has=true->(gl x.t j).has=true->(gl x.t i).key=(gl x.t j).key->i=j
 path:∀ i,i<x.t.length->(gl x.t i).has=true->∃ d,d<x.t.length/\(startOf x.t.length (gl x.t i).key+d) % x.t.length=i/\∀ k,k<d->bare (gl x.t ((startOf x.t.length (gl x.t i).key+k) % x.t.length))=false
theorem mod_step {s d L:Nat}:((s+d) % L+1) % L=(s+(d+1)) % L:=by rw [Nat.mod_add_mod,Nat.add_assoc]
theorem hit_iff {key:ByteArray} {p:PlaceR}:hit key p=true↔p.has=true/\p.key=key:=by simp [hit]
theorem find_there {t:List PlaceR} {key:ByteArray} {i0 d0:Nat} (hL:1<=t.length) (hi:i0<t.length) (hh:hit key (gl t i0)=true) (hd:d0<t.length)
 (hp:(startOf t.length key+d0) % t.length=i0) (hb:∀ k,k<d0->bare (gl t ((startOf t.length key+k) % t.length))=false)
 (hu:∀ j,j<t.length->hit key (gl t j)=true->j=i0):∀ (m d:Nat) (f:Int),d+m=d0->findFrom t key (t.length - d) ((startOf t.length key+d) % t.length) f=((i0:Int),(i0:Int))
 | 0,d,f,hm=>by
  have:d=d0:=by omega
  subst this;rw [hp,show t.length - d=(t.length - d - 1)+1 by omega];simp only [findFrom,hh,if_true]
 | m+1,d,f,hm=>by
  have hlt:(startOf t.length key+d) % t.length<t.length:=Nat.mod_lt _ hL;rw [show t.length - d=(t.length - (d+1))+1 by omega];by_cases h:hit key (gl t ((startOf t.length key+d) % t.length))=true
  ·have:=hu _ hlt h;rw [this] at h ⊢;simp only [findFrom,h,if_true]
  ·simp only [findFrom,h,if_false,hb d (by omega),Bool.false_eq_true];rw [mod_step];exact find_there hL hi hh hd hp hb hu m (d+1) _ (by omega)
theorem find_none {t:List PlaceR} {key:ByteArray} (hL:1<=t.length) (hu:∀ j,j<t.length->hit key (gl t j)=false):∀ (k i:Nat) (f:Int),i<t.length->0<=f->findFrom t key k i f=(-1,f)
 | 0,i,f,hi,hf=>rfl
 | k+1,i,f,hi,hf=>by
  have h1:(!(gl t i).has&&decide (f<0))=false:=by simp;omega
  simp only [findFrom,hu i hi,Bool.false_eq_true,if_false,h1];split
  ·rfl
  ·exact find_none hL hu k _ f (Nat.mod_lt _ hL) hf
theorem find_free {t:List PlaceR} {key:ByteArray} {d0:Nat} (hL:1<=t.length) (hd:d0<t.length) (hu:∀ j,j<t.length->hit key (gl t j)=false)
 (hf:(gl t ((startOf t.length key+d0) % t.length)).has=false) (hb:∀ k,k<d0->(gl t ((startOf t.length key+k) % t.length)).has=true) :
 ∀ (m d:Nat),d+m=d0->findFrom t key (t.length - d) ((startOf t.length key+d) % t.length) (-1)=(-1,(((startOf t.length key+d0) % t.length:Nat):Int))
 | 0,d,hm=>by
  have:d=d0:=by omega
  subst this;have hlt:(startOf t.length key+d) % t.length<t.length:=Nat.mod_lt _ hL;rw [show t.length - d=(t.length - d - 1)+1 by omega];have h1:(!(gl t ((startOf t.length key+d) % t.length)).has&&decide ((-1:Int)<0))=true:=by simp [hf]
  simp only [findFrom,hu _ hlt,Bool.false_eq_true,if_false,h1,if_true];split
  ·rfl
  ·exact find_none hL hu _ _ _ (Nat.mod_lt _ hL) (by omega)
 | m+1,d,hm=>by
  have hlt:(startOf t.length key+d) % t.length<t.length:=Nat.mod_lt _ hL;rw [show t.length - d=(t.length - (d+1))+1 by omega];have h0:=hb d (by omega);have h1:(!(gl t ((startOf t.length key+d) % t.length)).has&&decide ((-1:Int)<0))=false:=by simp [h0]
  have h2:bare (gl t ((startOf t.length key+d) % t.length))=false:=by simp [bare,h0]
  simp only [findFrom,hu _ hlt,Bool.false_eq_true,if_false,h1,h2];rw [mod_step];exact find_free hL hd hu hf hb m (d+1) (by omega)
theorem start_mod {L:Nat} {key:ByteArray} (hL:1<=L):(startOf L key+0) % L=startOf L key:=by
 rw [Nat.add_zero,Nat.mod_eq_of_lt (startOf_lt key hL)]
theorem findP_there {x:IdxR} (h:Inv x) {i:Nat} (hi:i<x.t.length) (hh:(gl x.t i).has=true):findP x.t (gl x.t i).key=((i:Int),(i:Int)):=by
 obtain ⟨d,h1,h2,h3⟩:=h.path i hi hh;have hL:1<=x.t.length:=by have:=h.lo;omega
 have:=find_there (key:=(gl x.t i).key) hL hi (hit_iff.2 ⟨hh,rfl⟩) h1 h2 h3 (fun j hj hj2=>h.dist j i hj hi (hit_iff.1 hj2).1 hh (hit_iff.1 hj2).2) d 0 (-1) (by omega);rwa [start_mod hL,Nat.sub_zero] at this
theorem road {L s i:Nat} (hs:s<L) (hi:i<L):∃ d,d<L/\(s+d) % L=i:=by
 by_cases h:s<=i
 ·exact ⟨i - s,by omega,by rw [show s+(i - s)=i by omega];exact Nat.mod_eq_of_lt hi⟩
 ·refine ⟨L+i - s,by omega,?_⟩;rw [show s+(L+i - s)=i+L by omega,Nat.add_mod_right];exact Nat.mod_eq_of_lt hi
theorem some_free:∀ (t:List PlaceR),t.countP busy<t.length->∃ i,i<t.length/\(gl t i).has=false
 | [],h=>absurd h (Nat.not_lt_zero _)
 | p::r,h=>by
  cases hp:p.has with
  | false=>exact ⟨0,by simp,hp⟩
  | true =>
   have hb:busy p=true:=by simp [busy,bare,hp]
   rw [List.countP_cons_of_pos hb] at h;obtain ⟨i,h1,h2⟩:=some_free r (by simpa using h);exact ⟨i+1,by simp;omega,h2⟩
theorem first {p:Nat->Bool}:∀ d,p d=true->∃ d0,d0<=d/\p d0=true/\∀ k,k<d0->p k=false:=by
 intro d
 induction d using Nat.strongRecOn with
 | ind d ih =>
  intro h;by_cases hx:∃ k,k<d/\p k=true
  ·obtain ⟨k,hk,hp⟩:=hx;obtain ⟨d0,a,b,c⟩:=ih k hk hp;exact ⟨d0,by omega,b,c⟩
  ·refine ⟨d,Nat.le_refl _,h,fun k hk=>?_⟩;cases hp:p k with
   | false=>rfl
   | true=>exact absurd ⟨k,hk,hp⟩ hx
def absent (t:List PlaceR) (key:ByteArray):Prop:=∀ j,j<t.length->hit key (gl t j)=false
theorem findP_free {t:List PlaceR} {key:ByteArray} (hL:1<=t.length) (hu:absent t key) (hr:t.countP busy<t.length) :
 ∃ d i,d<t.length/\(startOf t.length key+d) % t.length=i/\i<t.length/\(gl t i).has=false/\(∀ k,k<d->(gl t ((startOf t.length key+k) % t.length)).has=true)/\findP t key=(-1,(i:Int)):=by
 obtain ⟨i,h1,h2⟩:=some_free t hr;obtain ⟨d,h3,h4⟩:=road (startOf_lt key hL) h1;obtain ⟨d0,g1,g2,g3⟩:=first (p:=fun d=>!(gl t ((startOf t.length key+d) % t.length)).has) d (by simp [h4,h2])
 simp only [Bool.not_eq_true',Bool.not_eq_false'] at g2 g3;have:=find_free hL (show d0<t.length by omega) hu g2 g3 d0 0 (by omega);rw [start_mod hL,Nat.sub_zero] at this;exact ⟨d0,_,by omega,rfl,Nat.mod_lt _ hL,g2,g3,this⟩
theorem split_at {t:List PlaceR} {i:Nat} (h:i<t.length):t=t.take i++gl t i::t.drop (i+1):=by
 rw [gl_eq h,List.getElem_cons_drop,List.take_append_drop]
theorem set_split {t:List PlaceR} {i:Nat} {q:PlaceR} (h:i<t.length):t.set i q=t.take i++q::t.drop (i+1):=by
 rw [List.set_eq_take_append_cons_drop,if_pos h]
theorem ents_app (a b:List PlaceR):ents (a++b)=ents a++ents b:=by simp [ents]
theorem ents_cons (p:PlaceR) (r:List PlaceR):ents (p::r)=(if p.has then [entOf p] else [])++ents r:=by
 unfold ents;rw [List.filter_cons];split<;>simp
theorem ents_at {t:List PlaceR} {i:Nat} (h:i<t.length):ents t=ents (t.take i)++((if (gl t i).has then [entOf (gl t i)] else [])++ents (t.drop (i+1))):=by
 conv=>lhs;rw [split_at h]
 rw [ents_app,ents_cons]
theorem ents_set {t:List PlaceR} {i:Nat} {q:PlaceR} (h:i<t.length):ents (t.set i q)=ents (t.take i)++((if q.has then [entOf q] else [])++ents (t.drop (i+1))):=by
 rw [set_split h,ents_app,ents_cons]
theorem cnt_at {t:List PlaceR} {i:Nat} (h:i<t.length):t.countP busy=(t.take i).countP busy+((t.drop (i+1)).countP busy+if busy (gl t i) then 1 else 0):=by
 conv=>lhs;rw [split_at h]
 rw [List.countP_append,List.countP_cons]
theorem cnt_set {t:List PlaceR} {i:Nat} {q:PlaceR} (h:i<t.length):(t.set i q).countP busy=(t.take i).countP busy+((t.drop (i+1)).countP busy+if busy q then 1 else 0):=by
 rw [set_split h,List.countP_append,List.countP_cons]
theorem mem_ents {t:List PlaceR} {k:ByteArray} {p:Int}:(k,p)∈ents t↔∃ i,i<t.length/\(gl t i).has=true/\(gl t i).key=k/\(gl t i).pos=p:=by
 unfold ents;simp only [List.mem_map,List.mem_filter,entOf,Prod.mk.injEq];constructor
 ·rintro ⟨q,⟨h1,h2⟩,h3,h4⟩;obtain ⟨i,hi,rfl⟩:=List.getElem_of_mem h1;exact ⟨i,hi,by rw [gl_eq hi];exact h2,by rw [gl_eq hi];exact h3,by rw [gl_eq hi];exact h4⟩
 ·rintro ⟨i,h1,h2,h3,h4⟩;exact ⟨_,⟨gl_mem h1,h2⟩,h3,h4⟩
theorem absent_iff {t:List PlaceR} {k:ByteArray}:absent t k↔k∉(ents t).map Prod.fst:=by
 constructor
 ·intro h hm;obtain ⟨⟨k',p⟩,h1,rfl⟩:=List.mem_map.1 hm;obtain ⟨i,h2,h3,h4,_⟩:=mem_ents.1 h1;have:=h i h2;rw [hit_iff.2 ⟨h3,h4⟩] at this;cases this
 ·intro h j hj;cases hh:hit k (gl t j) with
  | false=>rfl
  | true =>
   obtain ⟨h1,h2⟩:=hit_iff.1 hh;exact absurd (List.mem_map.2 ⟨(k,(gl t j).pos),mem_ents.2 ⟨j,hj,h1,h2,rfl⟩,rfl⟩) h
structure Has (x:IdxR) (l:List (ByteArray × Int)):Prop where
 inv:Inv x
 perm:(ents x.t).Perm l
theorem Has.of_perm {x:IdxR} {l m:List (ByteArray × Int)} (h:Has x l) (p:l.Perm m):Has x m:=⟨h.inv,h.perm.trans p⟩
theorem Has.n {x:IdxR} {l:List (ByteArray × Int)} (h:Has x l):x.n=l.length:=by rw [h.inv.n,h.perm.length_eq]
theorem Has.mem {x:IdxR} {l:List (ByteArray × Int)} (h:Has x l) {k:ByteArray} {p:Int} (hm:(k,p)∈l):∃ i:Nat,i<x.t.length/\(gl x.t i).has=true/\(gl x.t i).key=k/\(gl x.t i).pos=p/\findP x.t k=((i:Int),(i:Int)):=by
 obtain ⟨i,h1,h2,h3,h4⟩:=mem_ents.1 (h.perm.mem_iff.2 hm);refine ⟨i,h1,h2,h3,h4,?_⟩;rw [<- h3];exact findP_there h.inv h1 h2
theorem Has.none {x:IdxR} {l:List (ByteArray × Int)} (h:Has x l) {k:ByteArray} (hm:k∉l.map Prod.fst):absent x.t k:=absent_iff.2 fun hk=>hm ((h.perm.map _).mem_iff.1 hk)
theorem Inv.room {x:IdxR} (h:Inv x):x.t.countP busy<x.t.length:=by have:=h.half;have:=h.used;have:=h.lo;omega
theorem Has.none_find {x:IdxR} {l:List (ByteArray × Int)} (h:Has x l) {k:ByteArray} (hm:k∉l.map Prod.fst):(findP x.t k).1 = -1/\0<=(findP x.t k).2:=by
 obtain ⟨d,i,_,_,_,_,_,e⟩:=findP_free (by have:=h.inv.lo;omega) (h.none hm) h.inv.room;rw [e];exact ⟨rfl,by simp⟩
theorem Inv.set {x:IdxR} (h:Inv x) {i:Nat} (hi:i<x.t.length) {q:PlaceR} (hb:bare q=false) (hs:q.key.size<=lenMax)
 (hd:q.has=true->∀ j,j<x.t.length->j≠i->(gl x.t j).has=true->(gl x.t j).key≠q.key)
 (hp:q.has=true->∃ d,d<x.t.length/\(startOf x.t.length q.key+d) % x.t.length=i/\∀ k,k<d->bare (gl x.t ((startOf x.t.length q.key+k) % x.t.length))=false)
 {n' u':Nat} (hn:n'=(ents (x.t.set i q)).length) (hu:u'=(x.t.set i q).countP busy) (hh:2*u'<x.t.length+2):Inv ⟨x.t.set i q,n',u'⟩:=by
 have hl:(x.t.set i q).length=x.t.length:=by simp
 have key:∀ j,gl (x.t.set i q) j=if i=j then q else gl x.t j:=by
  intro j;by_cases e:i=j
  ·subst e;rw [if_pos rfl,gl_set_self hi]
  ·rw [if_neg e,gl_set_ne e]
 have bb:∀ j,bare (gl x.t j)=false->bare (gl (x.t.set i q) j)=false:=by
  intro j hj;rw [key];split
  ·exact hb
  ·exact hj
 refine ⟨by rw [hl];exact h.lo,by rw [hl];exact h.hi,hn,hu,by rw [hl];exact hh,fun j hj=>?_,fun a b ha hb' h1 h2 h3=>?_,fun j hj hj2=>?_⟩
 ·rw [hl] at hj;rw [key];split
  ·exact hs
  ·exact h.size j hj
 ·simp only [hl] at ha hb';simp only [key] at h1 h2 h3;by_cases e1:i=a
  ·by_cases e2:i=b
   ·omega
   ·rw [if_pos e1] at h1 h3;rw [if_neg e2] at h2 h3;exact absurd h3.symm (hd h1 b hb' (fun e=>e2 e.symm) h2)
  ·by_cases e2:i=b
   ·rw [if_neg e1] at h1 h3;rw [if_pos e2] at h2 h3;exact absurd h3 (hd h2 a ha (fun e=>e1 e.symm) h1)
   ·rw [if_neg e1] at h1 h3;rw [if_neg e2] at h2 h3;exact h.dist a b ha hb' h1 h2 h3
 ·simp only [hl] at hj ⊢;simp only [key] at hj2;by_cases e:i=j
  ·rw [if_pos e] at hj2;subst e;obtain ⟨d,h1,h2,h3⟩:=hp hj2;rw [show gl (x.t.set i q) i=q by rw [key,if_pos rfl]];exact ⟨d,h1,h2,fun k hk=>bb _ (h3 k hk)⟩
  ·rw [if_neg e] at hj2;obtain ⟨d,h1,h2,h3⟩:=h.path j hj hj2;rw [show gl (x.t.set i q) j=gl x.t j by rw [key,if_neg e]];exact ⟨d,h1,h2,fun k hk=>bb _ (h3 k hk)⟩
theorem busy_has {p:PlaceR} (h:p.has=true):busy p=true:=by simp [busy,bare,h]
theorem put_there {x:IdxR} {l:List (ByteArray × Int)} {k:ByteArray} {p q:Int} (h:Has x ((k,q)::l)):Has (putI x k p) ((k,p)::l)/\putRet x k=q/\0<=(findP x.t k).1:=by
 obtain ⟨i,h1,h2,h3,h4,h5⟩:=h.mem List.mem_cons_self;have e:putI x k p=⟨x.t.set i { gl x.t i with pos:=p },x.n,x.used⟩:=by
  unfold putI;rw [h5];simp
 have hk:(ents x.t).Perm ((k,q)::(ents (x.t.take i)++ents (x.t.drop (i+1)))):=by
  rw [ents_at h1,h2];have:entOf (gl x.t i)=(k,q):=by simp [entOf,h3,h4]
  rw [if_pos rfl,this];exact List.perm_middle
 have hk':(ents (x.t.set i { gl x.t i with pos:=p })).Perm ((k,p)::(ents (x.t.take i)++ents (x.t.drop (i+1)))):=by
  rw [ents_set h1];simp only [h2,if_true,entOf,h3];exact List.perm_middle
 have hl:(ents (x.t.take i)++ents (x.t.drop (i+1))).Perm l:=(List.perm_cons _).1 (hk.symm.trans h.perm);refine ⟨⟨?_,?_⟩,by unfold putRet;rw [h5];simp [h4],by rw [h5];simp⟩
 ·rw [e];refine h.inv.set (q:={ gl x.t i with pos:=p }) h1 (by simp [bare,h2]) (h.inv.size i h1) (fun _ j hj hne hj2 he=>hne (h.inv.dist j i hj h1 hj2 h2 he)) (fun _=>h.inv.path i h1 h2) ?_ ?_ h.inv.half
  ·rw [h.inv.n,hk.length_eq,hk'.length_eq];rfl
  ·rw [h.inv.used,cnt_at h1,cnt_set h1,busy_has h2,busy_has (p:={ gl x.t i with pos:=p }) h2]
 ·rw [e];exact hk'.trans (hl.cons _)
theorem put_new {x:IdxR} {l:List (ByteArray × Int)} {k:ByteArray} {p:Int} (h:Has x l) (hk:k∉l.map Prod.fst) (hs:k.size<=lenMax) (hr:2*x.used<x.t.length) :
 Has (putI x k p) ((k,p)::l)/\putRet x k=0/\(findP x.t k).1<0/\0<=(findP x.t k).2/\(putI x k p).used<=x.used+1/\(putI x k p).n=x.n+1:=by
 obtain ⟨d,i,h1,h2,h3,h4,h5,h6⟩:=findP_free (by have:=h.inv.lo;omega) (h.none hk) h.inv.room;have e:putI x k p=⟨x.t.set i ⟨k,p,true,false⟩,x.n+1,if (gl x.t i).gone then x.used else x.used+1⟩:=by
  unfold putI;rw [h6];simp
 have hp0:ents x.t=ents (x.t.take i)++ents (x.t.drop (i+1)):=by rw [ents_at h3,h4];simp
 have hp1:(ents (x.t.set i ⟨k,p,true,false⟩)).Perm ((k,p)::ents x.t):=by
  rw [ents_set h3,hp0];simp only [if_true,entOf];exact List.perm_middle
 have hb:busy (gl x.t i)=(gl x.t i).gone:=by simp [busy,bare,h4]
 refine ⟨⟨?_,?_⟩,by unfold putRet;rw [h6];simp,by rw [h6];simp,by rw [h6];simp,by rw [e];simp only;split<;>omega,by rw [e]⟩
 ·rw [e];refine h.inv.set (q:=⟨k,p,true,false⟩) h3 rfl hs (fun _ j hj hne hj2 he=>?_) (fun _=>⟨d,h1,h2,fun k hk=>by simp [bare,h5 k hk]⟩) ?_ ?_ (by split<;>omega)
  ·have:=h.none hk j hj;rw [hit_iff.2 ⟨hj2,he⟩] at this;cases this
  ·rw [hp1.length_eq,List.length_cons,h.inv.n]
  ·rw [cnt_set h3,h.inv.used,cnt_at h3,hb];cases hg:(gl x.t i).gone<;>simp [busy,bare]<;>omega
 ·rw [e];exact hp1.trans (h.perm.cons _)
def goneP:PlaceR:=⟨.empty,0,false,true⟩
def dropI (x:IdxR) (k:ByteArray):IdxR:=if 0<=(findP x.t k).1 then ⟨x.t.set (findP x.t k).1.toNat goneP,x.n - 1,x.used⟩ else x
theorem drop_there {x:IdxR} {l:List (ByteArray × Int)} {k:ByteArray} {q:Int} (h:Has x ((k,q)::l)):Has (dropI x k) l/\0<=(findP x.t k).1:=by
 obtain ⟨i,h1,h2,h3,h4,h5⟩:=h.mem List.mem_cons_self;have e:dropI x k=⟨x.t.set i goneP,x.n - 1,x.used⟩:=by unfold dropI;rw [h5];simp
 have hk:(ents x.t).Perm ((k,q)::(ents (x.t.take i)++ents (x.t.drop (i+1)))):=by
  rw [ents_at h1,h2];have:entOf (gl x.t i)=(k,q):=by simp [entOf,h3,h4]
  rw [if_pos rfl,this];exact List.perm_middle
 have hk':ents (x.t.set i goneP)=ents (x.t.take i)++ents (x.t.drop (i+1)):=by rw [ents_set h1];rfl
 have hl:(ents (x.t.take i)++ents (x.t.drop (i+1))).Perm l:=(List.perm_cons _).1 (hk.symm.trans h.perm);refine ⟨⟨?_,?_⟩,by rw [h5];simp⟩
 ·rw [e];refine h.inv.set (q:=goneP) h1 rfl (by unfold lenMax;decide) (fun hc=>by cases hc) (fun hc=>by cases hc) ?_ ?_ h.inv.half
  ·rw [h.inv.n,hk.length_eq,hk'];rfl
  ·rw [h.inv.used,cnt_at h1,cnt_set h1,busy_has h2];rfl
 ·rw [e,hk'];exact hl
theorem drop_none {x:IdxR} {l:List (ByteArray × Int)} {k:ByteArray} (h:Has x l) (hk:k∉l.map Prod.fst):dropI x k=x:=by
 unfold dropI;rw [(h.none_find hk).1];rfl
def low (p:Int) (q:PlaceR):Bool:=q.has&&decide (q.pos<p)
def belowT (t:List PlaceR) (p:Int):Nat->List PlaceR
 | 0=>t
 | i+1=>if low p (gl t i) then (belowT t p i).set i goneP else belowT t p i
def belowN (t:List PlaceR) (p:Int):Nat->Nat
 | 0=>0
 | i+1=>belowN t p i+if low p (gl t i) then 1 else 0
def belowI (x:IdxR) (p:Int):IdxR:=⟨belowT x.t p x.t.length,x.n - belowN x.t p x.t.length,x.used⟩
theorem belowT_length (t:List PlaceR) (p:Int):∀ i,(belowT t p i).length=t.length
 | 0=>rfl
 | i+1=>by unfold belowT;split<;>simp [belowT_length t p i]
theorem belowT_at (t:List PlaceR) (p:Int):∀ i,i<=t.length->∀ j,gl (belowT t p i) j=if j<i/\low p (gl t j) then goneP else gl t j
 | 0,_,j=>by simp [belowT]
 | i+1,hi,j=>by
  have ih:=belowT_at t p i (by omega) j;unfold belowT;by_cases h:low p (gl t i)=true
  ·rw [if_pos h];by_cases hj:i=j
   ·subst hj;rw [gl_set_self (by rw [belowT_length];omega),if_pos ⟨by omega,h⟩]
   ·rw [gl_set_ne hj,ih]
    grind
  ·rw [if_neg h,ih];by_cases hj:i=j
   ·subst hj;rw [if_neg (by simp),if_neg (fun hc=>h hc.2)]
   ·grind
theorem below_there {x:IdxR} {l:List (ByteArray × Int)} (h:Has x l) (p:Int):∀ i,i<=x.t.length ->
 Has ⟨belowT x.t p i,x.n - belowN x.t p i,x.used⟩ (((x.t.take i).filter fun q=>q.has&&!low p q).map entOf++ents (x.t.drop i))/\belowN x.t p i=((x.t.take i).filter (low p)).length
 | 0,_=>⟨⟨h.inv,by simp [belowT]⟩,rfl⟩
 | i+1,hi=>by
  obtain ⟨⟨i1,i2⟩,i3⟩:=below_there h p i (by omega);have hT:=belowT_at x.t p i (by omega) i;rw [if_neg (by simp)] at hT;have hLen:=belowT_length x.t p i;rw [take_succ_gl (by omega),List.filter_append,List.filter_append,List.map_append,List.length_append,<- i3];have hdrop:ents (x.t.drop i)=(if (gl x.t i).has then [entOf (gl x.t i)] else [])++ents (x.t.drop (i+1)):=by
   rw [<- ents_cons,gl_eq (by omega),List.getElem_cons_drop]
  rw [hdrop] at i2;by_cases hl:low p (gl x.t i)=true
  ·have hh:(gl x.t i).has=true:=by simp [low] at hl;exact hl.1
   have e1:belowT x.t p (i+1)=(belowT x.t p i).set i goneP:=if_pos hl;have e2:belowN x.t p (i+1)=belowN x.t p i+1:=by show belowN x.t p i+(if low p (gl x.t i)=true then 1 else 0)=_;rw [if_pos hl]
   have h0:Has ⟨belowT x.t p i,x.n - belowN x.t p i,x.used⟩ ((entOf (gl x.t i))::(((x.t.take i).filter fun q=>q.has&&!low p q).map entOf++ents (x.t.drop (i+1)))):=by
    refine ⟨i1,i2.trans ?_⟩;rw [if_pos hh];exact List.perm_middle
   have h1:=drop_there (x:=⟨belowT x.t p i,x.n - belowN x.t p i,x.used⟩) h0;have hf:=findP_there i1 (i:=i) (by simp only;omega) (by simp only;rw [hT];exact hh);simp only at hf;rw [hT] at hf;have e3:dropI ⟨belowT x.t p i,x.n - belowN x.t p i,x.used⟩ (gl x.t i).key=⟨(belowT x.t p i).set i goneP,x.n - (belowN x.t p i+1),x.used⟩:=by
    unfold dropI;simp only;rw [hf];simp;omega
   refine ⟨?_,by rw [e2];simp [hl]⟩;rw [e1,e2,<- e3];simp only [List.filter_cons,hl,hh,Bool.not_true,Bool.and_false,List.filter_nil,List.map_nil,List.append_nil,Bool.false_eq_true,if_false];exact h1.1
  ·have e1:belowT x.t p (i+1)=belowT x.t p i:=if_neg hl;have e2:belowN x.t p (i+1)=belowN x.t p i:=by show belowN x.t p i+(if low p (gl x.t i)=true then 1 else 0)=_;rw [if_neg hl];rfl
   refine ⟨⟨?_,?_⟩,by rw [e2];simp [hl]⟩
   ·rw [e1,e2];exact i1
   ·rw [e1];refine i2.trans (.of_eq ?_);cases hh:(gl x.t i).has<;>simp [hl,hh]
theorem two_parts {α:Type} (f:α->Bool):∀ l:List α,l.length=(l.filter f).length+(l.filter fun e=>!f e).length
 | []=>rfl
 | a::r=>by
  have:=two_parts f r;cases h:f a<;>simp [List.filter_cons,h]<;>omega
theorem below_has {x:IdxR} {l:List (ByteArray × Int)} (h:Has x l) (p:Int):Has (belowI x p) (l.filter fun e=>decide (p<=e.2))/\belowN x.t p x.t.length=l.length - (l.filter fun e=>decide (p<=e.2)).length/\belowN x.t p x.t.length<=l.length:=by
 obtain ⟨h1,h2⟩:=below_there h p x.t.length (Nat.le_refl _);rw [List.take_length] at h1 h2;rw [List.drop_length] at h1;have e:((x.t.filter fun q=>q.has&&!low p q).map entOf++ents [])=(ents x.t).filter fun e=>decide (p<=e.2):=by
  unfold ents;rw [List.filter_map,List.filter_filter];simp only [List.filter_nil,List.map_nil,List.append_nil];congr 1;apply List.filter_congr;intro q _;simp only [Function.comp,low,entOf];by_cases hc:q.pos<p
  ·have hd:¬ p<=q.pos:=by omega
   cases hq:q.has<;>simp [hc,hd]
  ·have hd:p<=q.pos:=by omega
   cases hq:q.has<;>simp [hc,hd]
 rw [e] at h1;have hp:=(h.perm.filter fun e=>decide (p<=e.2))
 have e2:(x.t.filter (low p)).length=((ents x.t).filter fun e=>!decide (p<=e.2)).length:=by
  unfold ents;rw [List.filter_map,List.length_map,List.filter_filter];congr 1;apply List.filter_congr;intro q _;simp only [Function.comp,low,entOf];by_cases hc:q.pos<p
  ·have hd:¬ p<=q.pos:=by omega
   cases hq:q.has<;>simp [hc,hd]
  ·have hd:p<=q.pos:=by omega
   cases hq:q.has<;>simp [hc,hd]
 have e3:=two_parts (fun e:ByteArray × Int=>decide (p<=e.2)) (ents x.t);refine ⟨h1.of_perm hp,?_,?_⟩
 ·rw [h2,e2,<- hp.length_eq,<- h.perm.length_eq];omega
 ·rw [h2,e2,<- h.perm.length_eq];omega
theorem empty_has {n:Nat} (h1:16<=n) (h2:n<=40000):Has (emptyI n) []:=by
 have key:∀ i,i<n->gl (List.replicate n (⟨.empty,0,false,false⟩:PlaceR)) i=⟨.empty,0,false,false⟩:=fun i hi=>gl_replicate hi;have he:ents (List.replicate n (⟨.empty,0,false,false⟩:PlaceR))=[]:=by simp [ents]
 refine ⟨⟨by simpa [emptyI] using h1,by simpa [emptyI] using h2,?_,?_,by simp only [emptyI,List.length_replicate];omega,fun i hi=>?_,fun i j hi hj h=>?_,fun i hi h=>?_⟩,by simp only [emptyI];rw [he]⟩
 ·simp only [emptyI];rw [he];rfl
 ·simp [emptyI,List.countP_replicate,busy,bare]
 ·simp only [emptyI,List.length_replicate] at hi ⊢;rw [key i hi];simp only [lenMax];decide
 ·simp only [emptyI,List.length_replicate] at hi h;rw [key i hi] at h;cases h
 ·simp only [emptyI,List.length_replicate] at hi h;rw [key i hi] at h;cases h
theorem keys_nodup {x:IdxR} (h:Inv x) {i:Nat} (hi:i<x.t.length) (hh:(gl x.t i).has=true):(gl x.t i).key∉(ents (x.t.take i)).map Prod.fst:=by
 intro hm;obtain ⟨⟨k,p⟩,h1,h2⟩:=List.mem_map.1 hm;obtain ⟨j,h3,h4,h5,_⟩:=mem_ents.1 h1;rw [List.length_take] at h3;rw [gl_take (by omega)] at h4 h5;have:=h.dist j i (by omega) hi h4 hh (h5.trans h2);omega
theorem grow_step {x:IdxR} (h:Inv x) (hn:x.n<10000):∀ i,i<=x.t.length ->
 Has (putAll x.t (emptyI (max 16 (4*x.n))) i) (ents (x.t.take i))/\(putAll x.t (emptyI (max 16 (4*x.n))) i).used<=(putAll x.t (emptyI (max 16 (4*x.n))) i).n
 | 0,_=>⟨by simpa [putAll,ents] using empty_has (n:=max 16 (4*x.n)) (by omega) (by omega),Nat.le_refl _⟩
 | i+1,hi=>by
  obtain ⟨h1,h2⟩:=grow_step h hn i (by omega);have hT:=take_succ_gl (l:=x.t) (i:=i) (by omega);rw [hT,ents_app];unfold putAll;by_cases hh:(gl x.t i).has=true
  ·rw [if_pos hh];have hcount:(ents (x.t.take i)).length+1<=x.n:=by
    rw [h.n,ents_at (show i<x.t.length by omega),if_pos hh];simp
   have hlen:(putAll x.t (emptyI (max 16 (4*x.n))) i).t.length=max 16 (4*x.n):=by rw [putAll_length];simp [emptyI]
   obtain ⟨g1,g2,g3,g4,g5,g6⟩:=put_new (p:=(gl x.t i).pos) h1 (keys_nodup h (by omega) hh) (h.size i (by omega)) (by rw [hlen];have:=h1.n;omega);refine ⟨g1.of_perm ?_,by omega⟩;rw [ents_cons,if_pos hh];simp only [ents,List.filter_nil,List.map_nil,List.append_nil];exact (List.perm_append_singleton _ _).symm
  ·rw [if_neg hh,ents_cons,if_neg hh];simp only [ents,List.filter_nil,List.map_nil,List.append_nil];exact ⟨h1,h2⟩
theorem grow_pre {x:IdxR} (h:Inv x) (hn:x.n<10000):∀ i,i<x.t.length->(gl x.t i).has=true->2*(putAll x.t (emptyI (max 16 (4*x.n))) i).used<max 16 (4*x.n)/\(putAll x.t (emptyI (max 16 (4*x.n))) i).n<100000 /\
 ((findP (putAll x.t (emptyI (max 16 (4*x.n))) i).t (gl x.t i).key).1<0->0<=(findP (putAll x.t (emptyI (max 16 (4*x.n))) i).t (gl x.t i).key).2):=by
 intro i hi hh;obtain ⟨h1,h2⟩:=grow_step h hn i (by omega);have hcount:(ents (x.t.take i)).length+1<=x.n:=by
  rw [h.n,ents_at hi,if_pos hh];simp
 have:=h1.n;exact ⟨by omega,by omega,fun _=>(h1.none_find (keys_nodup h hi hh)).2⟩
theorem grow_has {x:IdxR} {l:List (ByteArray × Int)} (h:Has x l) (hn:x.n<10000):Has (growI x) l/\2*(growI x).used<(growI x).t.length:=by
 obtain ⟨h1,h2⟩:=grow_step h.inv hn x.t.length (Nat.le_refl _);rw [List.take_length] at h1;refine ⟨h1.of_perm h.perm,?_⟩;have hlen:(growI x).t.length=max 16 (4*x.n):=by unfold growI;rw [putAll_length];simp [emptyI]
 have e1:=h1.n;have e2:=h.inv.n;rw [hlen];unfold growI;omega
def roomy (x:IdxR):IdxR:=if x.t.length<=2*x.used then growI x else x
def putX (x:IdxR) (k:ByteArray) (p:Int):IdxR:=putI (roomy x) k p
theorem roomy_has {x:IdxR} {l:List (ByteArray × Int)} (h:Has x l) (hn:x.n<10000):Has (roomy x) l/\2*(roomy x).used<(roomy x).t.length:=by
 unfold roomy;split
 ·exact grow_has h hn
 ·exact ⟨h,by omega⟩
theorem putX_there {x:IdxR} {l:List (ByteArray × Int)} {k:ByteArray} {p q:Int} (h:Has x ((k,q)::l)) (hn:x.n<10000):Has (putX x k p) ((k,p)::l)/\putRet (roomy x) k=q :=
 let h1:=roomy_has h hn
 let h2:=put_there (p:=p) h1.1
 ⟨h2.1,h2.2.1⟩
theorem putX_new {x:IdxR} {l:List (ByteArray × Int)} {k:ByteArray} {p:Int} (h:Has x l) (hn:x.n<10000) (hk:k∉l.map Prod.fst) (hs:k.size<=lenMax):Has (putX x k p) ((k,p)::l)/\putRet (roomy x) k=0 :=
 let h1:=roomy_has h hn
 let h2:=put_new (p:=p) h1.1 hk hs h1.2
 ⟨h2.1,h2.2.1⟩
theorem Has.free {x:IdxR} {l:List (ByteArray × Int)} (h:Has x l) (k:ByteArray) (hf:(findP x.t k).1<0):0<=(findP x.t k).2:=by
 by_cases hk:k∈l.map Prod.fst
 ·obtain ⟨⟨k',p⟩,h1,rfl⟩:=List.mem_map.1 hk;obtain ⟨i,_,_,_,_,e⟩:=h.mem h1;rw [e] at hf;simp at hf;omega
 ·exact (h.none_find hk).2
def getI (x:IdxR) (k:ByteArray):Int × Bool:=if 0<=(findP x.t k).1 then ((gl x.t (findP x.t k).1.toNat).pos,true) else (0,false)
theorem get_there {x:IdxR} {l:List (ByteArray × Int)} (h:Has x l) {k:ByteArray} {p:Int} (hm:(k,p)∈l):getI x k=(p,true):=by
 obtain ⟨i,_,_,_,h4,e⟩:=h.mem hm;unfold getI;rw [e];simp [h4]
theorem get_none {x:IdxR} {l:List (ByteArray × Int)} (h:Has x l) {k:ByteArray} (hm:k∉l.map Prod.fst):getI x k=(0,false):=by
 unfold getI;rw [(h.none_find hm).1];rfl
end Go.Proofs.YtfhkbihcfmbbcaaGreat.Ix

namespace Go.Proofs.YtfhkbihcfmbbcaaGreat.Ix
open Go.Sx
set_option maxRecDepth 100000
set_option linter.unusedVariables false
noncomputable def cPut:Con where
 α:=PutA
 β:=Nat
 m:=2
 m':=3
 pre:=fun a=>Inv a.x/\a.x.n<9999/\a.key.size<=lenMax
 args:=fun a=>[.a (.ptr 0 0 0 0),.a (.str a.key),.a (.int .i64 a.pos)]
 hp:=fun a=>idxHp 0 1 a.x.t a.cap a.x.n a.x.used
 ro:=fun _=>[]
 post:=fun _ _=>True
 res:=fun a _=>.a (.int .i64 (putRet (roomy a.x) a.key))
 hp':=fun a cap=>idxHp 0 2 (putX a.x a.key a.pos).t cap (putX a.x a.key a.pos).n (putX a.x a.key a.pos).used
set_option maxHeartbeats 4000000 in
theorem bodyPut:fnBody (Y Tryz.prog) [(70,cFind),(69,cGrow)] 46 cPut fun _=>[]:=fnBody.of (p :=
 ∀ a:Ix.PutA,Ix.Inv a.x/\a.x.n<9999/\a.key.size<=lenMax->InR .i64 (↑a.x.used:Int)->InR .i64 ((2:Int)*(↑a.x.used:Int))/\(decide ((↑a.x.t.length:Int)<=2*(↑a.x.used:Int))=true->∃ a_4:Ix.GrowA,0=0/\(0=0/\a.x.t.length=a_4.x.t.length/\a.cap=a_4.cap)/\(↑a.x.n:Int)=(↑a_4.x.n:Int)/\(↑a.x.used:Int)=(↑a_4.x.used:Int)/\(a_4.x.t.length<=a.x.t.length/\RowsEq a_4.x.t.length 4 (encRows Ix.encP a.x.t) (encRows Ix.encP a_4.x.t))/\(1<=a_4.x.t.length/\a_4.x.t.length<100000/\a_4.x.n<10000/\(∀ i:Nat,i<a_4.x.t.length->(gl a_4.x.t i).key.size<=lenMax)/\∀ i:Nat,i<a_4.x.t.length->(gl a_4.x.t i).has=true->2*(Ix.putAll a_4.x.t (Ix.emptyI (max 16 (4*a_4.x.n))) i).used<max 16 (4*a_4.x.n)/\(Ix.putAll a_4.x.t (Ix.emptyI (max 16 (4*a_4.x.n))) i).n<100000/\((Ix.findP (Ix.putAll a_4.x.t (Ix.emptyI (max 16 (4*a_4.x.n))) i).t (gl a_4.x.t i).key).fst<(0:Int)->(0:Int)<=(Ix.findP (Ix.putAll a_4.x.t (Ix.emptyI (max 16 (4*a_4.x.n))) i).t (gl a_4.x.t i).key).snd))/\∀ b:Nat,True->∃ a_6:Ix.FindA,0=0/\a.key=a_6.key/\(0=0/\(Ix.growI a_4.x).t.length=a_6.t.length/\b=a_6.cap)/\(↑(Ix.growI a_4.x).n:Int)=(↑a_6.n:Int)/\(↑(Ix.growI a_4.x).used:Int)=(↑a_6.used:Int)/\(a_6.t.length<=(Ix.growI a_4.x).t.length/\RowsEq a_6.t.length 4 (encRows Ix.encP (Ix.growI a_4.x).t) (encRows Ix.encP a_6.t))/\(1<=a_6.t.length/\a_6.t.length<100000/\a_6.key.size<=lenMax)/\∀ b_1:Unit,True->(decide ((0:Int)<=(Ix.findP a_6.t a_6.key).fst)=true ->
 ((0:Int)<=(Ix.findP a_6.t a_6.key).fst/\(Ix.findP a_6.t a_6.key).fst<(↑(Ix.growI a_4.x).t.length:Int))/\0+(Ix.findP a_6.t a_6.key).fst.toNat<(Ix.growI a_4.x).t.length/\(InR .i64 (gl (Ix.growI a_4.x).t (0+(Ix.findP a_6.t a_6.key).fst.toNat)).pos->((0:Int)<=(Ix.findP a_6.t a_6.key).fst/\(Ix.findP a_6.t a_6.key).fst<(↑(Ix.growI a_4.x).t.length:Int))/\0+(Ix.findP a_6.t a_6.key).fst.toNat<(Ix.growI a_4.x).t.length/\∃ b_2:Nat,(gl (Ix.growI a_4.x).t (0+(Ix.findP a_6.t a_6.key).fst.toNat)).pos=Ix.putRet (Ix.roomy a.x) a.key/\(0=0/\(Ix.growI a_4.x).t.length=(Ix.putX a.x a.key a.pos).t.length/\b=b_2)/\(↑(Ix.growI a_4.x).n:Int)=(↑(Ix.putX a.x a.key a.pos).n:Int)/\(↑(Ix.growI a_4.x).used:Int)=(↑(Ix.putX a.x a.key a.pos).used:Int)/\((Ix.putX a.x a.key a.pos).t.length<=(Ix.growI a_4.x).t.length/\RowsEq (Ix.putX a.x a.key a.pos).t.length 4 (updR (encRows Ix.encP (Ix.growI a_4.x).t) (0+(Ix.findP a_6.t a_6.key).fst.toNat) 1 [Value.int IntKind.i64 a.pos]) (encRows Ix.encP (Ix.putX a.x a.key a.pos).t))/\True/\True))/\(decide ((0:Int)<=(Ix.findP a_6.t a_6.key).fst)=false->((0:Int)<=(Ix.findP a_6.t a_6.key).snd/\(Ix.findP a_6.t a_6.key).snd<(↑(Ix.growI a_4.x).t.length:Int))/\0+(Ix.findP a_6.t a_6.key).snd.toNat<(Ix.growI a_4.x).t.length/\((!(gl (Ix.growI a_4.x).t (0+(Ix.findP a_6.t a_6.key).snd.toNat)).gone)=true->InR .i64 (↑(Ix.growI a_4.x).used:Int)->InR .i64 ((↑(Ix.growI a_4.x).used:Int)+1)/\((0:Int)<=(Ix.findP a_6.t a_6.key).snd /\
 (Ix.findP a_6.t a_6.key).snd<(↑(Ix.growI a_4.x).t.length:Int))/\0+(Ix.findP a_6.t a_6.key).snd.toNat<(Ix.growI a_4.x).t.length/\(InR .i64 (↑(Ix.growI a_4.x).n:Int)->InR .i64 ((↑(Ix.growI a_4.x).n:Int)+1)/\∃ b_2:Nat,(0:Int)=Ix.putRet (Ix.roomy a.x) a.key/\(0=0/\(Ix.growI a_4.x).t.length=(Ix.putX a.x a.key a.pos).t.length/\b=b_2)/\(↑(Ix.growI a_4.x).n:Int)+1=(↑(Ix.putX a.x a.key a.pos).n:Int)/\(↑(Ix.growI a_4.x).used:Int)+1=(↑(Ix.putX a.x a.key a.pos).used:Int)/\((Ix.putX a.x a.key a.pos).t.length<=(Ix.growI a_4.x).t.length/\RowsEq (Ix.putX a.x a.key a.pos).t.length 4 (updR (encRows Ix.encP (Ix.growI a_4.x).t) (0+(Ix.findP a_6.t a_6.key).snd.toNat) 0 [Value.string a.key,Value.int IntKind.i64 a.pos,Value.bool true,Value.bool false]) (encRows Ix.encP (Ix.putX a.x a.key a.pos).t))/\True/\True))/\((!(gl (Ix.growI a_4.x).t (0+(Ix.findP a_6.t a_6.key).snd.toNat)).gone)=false->((0:Int)<=(Ix.findP a_6.t a_6.key).snd/\(Ix.findP a_6.t a_6.key).snd<(↑(Ix.growI a_4.x).t.length:Int))/\0+(Ix.findP a_6.t a_6.key).snd.toNat<(Ix.growI a_4.x).t.length/\(InR .i64 (↑(Ix.growI a_4.x).n:Int)->InR .i64 ((↑(Ix.growI a_4.x).n:Int)+1)/\∃ b_2:Nat,(0:Int)=Ix.putRet (Ix.roomy a.x) a.key/\(0=0/\(Ix.growI a_4.x).t.length=(Ix.putX a.x a.key a.pos).t.length/\b=b_2)/\(↑(Ix.growI a_4.x).n:Int)+1=(↑(Ix.putX a.x a.key a.pos).n:Int)/\(↑(Ix.growI a_4.x).used:Int)=(↑(Ix.putX a.x a.key a.pos).used:Int) /\
 ((Ix.putX a.x a.key a.pos).t.length<=(Ix.growI a_4.x).t.length/\RowsEq (Ix.putX a.x a.key a.pos).t.length 4 (updR (encRows Ix.encP (Ix.growI a_4.x).t) (0+(Ix.findP a_6.t a_6.key).snd.toNat) 0 [Value.string a.key,Value.int IntKind.i64 a.pos,Value.bool true,Value.bool false]) (encRows Ix.encP (Ix.putX a.x a.key a.pos).t))/\True/\True))))/\(decide ((↑a.x.t.length:Int)<=2*(↑a.x.used:Int))=false->∃ a_4:Ix.FindA,0=0/\a.key=a_4.key/\(0=0/\a.x.t.length=a_4.t.length/\a.cap=a_4.cap)/\(↑a.x.n:Int)=(↑a_4.n:Int)/\(↑a.x.used:Int)=(↑a_4.used:Int)/\(a_4.t.length<=a.x.t.length/\RowsEq a_4.t.length 4 (encRows Ix.encP a.x.t) (encRows Ix.encP a_4.t))/\(1<=a_4.t.length/\a_4.t.length<100000/\a_4.key.size<=lenMax)/\∀ b:Unit,True->(decide ((0:Int)<=(Ix.findP a_4.t a_4.key).fst)=true->((0:Int)<=(Ix.findP a_4.t a_4.key).fst/\(Ix.findP a_4.t a_4.key).fst<(↑a.x.t.length:Int))/\0+(Ix.findP a_4.t a_4.key).fst.toNat<a.x.t.length/\(InR .i64 (gl a.x.t (0+(Ix.findP a_4.t a_4.key).fst.toNat)).pos->((0:Int)<=(Ix.findP a_4.t a_4.key).fst/\(Ix.findP a_4.t a_4.key).fst<(↑a.x.t.length:Int))/\0+(Ix.findP a_4.t a_4.key).fst.toNat<a.x.t.length/\∃ b:Nat,(gl a.x.t (0+(Ix.findP a_4.t a_4.key).fst.toNat)).pos=Ix.putRet (Ix.roomy a.x) a.key/\(0=0/\a.x.t.length=(Ix.putX a.x a.key a.pos).t.length/\a.cap=b)/\(↑a.x.n:Int)=(↑(Ix.putX a.x a.key a.pos).n:Int)/\(↑a.x.used:Int)=(↑(Ix.putX a.x a.key a.pos).used:Int) /\
 ((Ix.putX a.x a.key a.pos).t.length<=a.x.t.length/\RowsEq (Ix.putX a.x a.key a.pos).t.length 4 (updR (encRows Ix.encP a.x.t) (0+(Ix.findP a_4.t a_4.key).fst.toNat) 1 [Value.int IntKind.i64 a.pos]) (encRows Ix.encP (Ix.putX a.x a.key a.pos).t))/\True/\True))/\(decide ((0:Int)<=(Ix.findP a_4.t a_4.key).fst)=false->((0:Int)<=(Ix.findP a_4.t a_4.key).snd/\(Ix.findP a_4.t a_4.key).snd<(↑a.x.t.length:Int))/\0+(Ix.findP a_4.t a_4.key).snd.toNat<a.x.t.length/\((!(gl a.x.t (0+(Ix.findP a_4.t a_4.key).snd.toNat)).gone)=true->InR .i64 (↑a.x.used:Int)->InR .i64 ((↑a.x.used:Int)+1)/\((0:Int)<=(Ix.findP a_4.t a_4.key).snd/\(Ix.findP a_4.t a_4.key).snd<(↑a.x.t.length:Int))/\0+(Ix.findP a_4.t a_4.key).snd.toNat<a.x.t.length/\(InR .i64 (↑a.x.n:Int)->InR .i64 ((↑a.x.n:Int)+1)/\∃ b:Nat,(0:Int)=Ix.putRet (Ix.roomy a.x) a.key/\(0=0/\a.x.t.length=(Ix.putX a.x a.key a.pos).t.length/\a.cap=b)/\(↑a.x.n:Int)+1=(↑(Ix.putX a.x a.key a.pos).n:Int)/\(↑a.x.used:Int)+1=(↑(Ix.putX a.x a.key a.pos).used:Int)/\((Ix.putX a.x a.key a.pos).t.length<=a.x.t.length/\RowsEq (Ix.putX a.x a.key a.pos).t.length 4 (updR (encRows Ix.encP a.x.t) (0+(Ix.findP a_4.t a_4.key).snd.toNat) 0 [Value.string a.key,Value.int IntKind.i64 a.pos,Value.bool true,Value.bool false]) (encRows Ix.encP (Ix.putX a.x a.key a.pos).t))/\True/\True))/\((!(gl a.x.t (0+(Ix.findP a_4.t a_4.key).snd.toNat)).gone)=false->((0:Int)<=(Ix.findP a_4.t a_4.key).snd /\
 (Ix.findP a_4.t a_4.key).snd<(↑a.x.t.length:Int))/\0+(Ix.findP a_4.t a_4.key).snd.toNat<a.x.t.length/\(InR .i64 (↑a.x.n:Int)->InR .i64 ((↑a.x.n:Int)+1)/\∃ b:Nat,(0:Int)=Ix.putRet (Ix.roomy a.x) a.key/\(0=0/\a.x.t.length=(Ix.putX a.x a.key a.pos).t.length/\a.cap=b)/\(↑a.x.n:Int)+1=(↑(Ix.putX a.x a.key a.pos).n:Int)/\(↑a.x.used:Int)=(↑(Ix.putX a.x a.key a.pos).used:Int)/\((Ix.putX a.x a.key a.pos).t.length<=a.x.t.length/\RowsEq (Ix.putX a.x a.key a.pos).t.length 4 (updR (encRows Ix.encP a.x.t) (0+(Ix.findP a_4.t a_4.key).snd.toNat) 0 [Value.string a.key,Value.int IntKind.i64 a.pos,Value.bool true,Value.bool false]) (encRows Ix.encP (Ix.putX a.x a.key a.pos).t))/\True/\True))))) (by kernel_rfl) (by
 intro a h;obtain ⟨h1,h2,h3⟩:=h;obtain ⟨g1,g2⟩:=roomy_has (Has.mk h1 (List.Perm.refl _)) (show a.x.n<10000 by omega);have k1:=h1.lo;have k2:=h1.hi;have k3:=h1.half;simp only [Nat.zero_add,InR];refine fun _=>⟨by omega,fun hc=>?_,fun hc=>?_⟩
 ·have hr:roomy a.x=growI a.x:=if_pos (by simp at hc;omega);have hpx:putX a.x a.key a.pos=putI (growI a.x) a.key a.pos:=by unfold putX;rw [hr]
  have hn:(growI a.x).n=a.x.n:=by rw [hr] at g1;rw [g1.n,h1.n]
  have hm:=grow_pre h1 (show a.x.n<10000 by omega);simp only [hr,hpx] at g1 g2 ⊢;refine ⟨⟨a.x,a.cap⟩,?_⟩;dsimp only
  (repeat' apply And.intro)<;>first|exact trivial|rfl|omega|exact RowsEq.refl _ _ _|exact h1.size|exact hm|skip
  refine fun cap _=>⟨⟨(growI a.x).t,cap,(growI a.x).n,(growI a.x).used,a.key⟩,?_⟩
  generalize growI a.x=y at *;have m1:=g1.inv.lo;have m2:=g1.inv.hi;have m3:=g1.inv.half;obtain ⟨l1,l2⟩:=findP_lt (t:=y.t) a.key (by omega);have l3:=g1.free a.key;have hl:=putI_length y a.key a.pos;have yes:0<=(findP y.t a.key).1->putI y a.key a.pos={ y with t:=y.t.set (findP y.t a.key).1.toNat { gl y.t (findP y.t a.key).1.toNat with pos:=a.pos } }:=fun e=>if_pos e;have no:¬ 0<=(findP y.t a.key).1->putI y a.key a.pos=⟨y.t.set (findP y.t a.key).2.toNat ⟨a.key,a.pos,true,false⟩,y.n+1,if (gl y.t (findP y.t a.key).2.toNat).gone then y.used else y.used+1⟩:=fun e=>if_neg e;dsimp only
  repeat' (first|intro _|apply And.intro|apply Exists.intro (cap:Nat))
  all_goals (try with_reducible rfl)
  all_goals (try simp only [decide_eq_true_eq,decide_eq_false_iff_not,Bool.not_eq_true',Bool.not_eq_false'] at *)
  all_goals (try exact trivial)
  all_goals (try omega)
  all_goals (try (grind [putRet]))
  all_goals (try (with_reducible exact RowsEq.refl _ _ _))
  all_goals (first|(rw [yes (by assumption)];refine .set _ (by omega) (fun i hi=>by simp only [updR_other hi]) ?_;simp only [updR_self];rfl)|(rw [no (by assumption)];refine .set _ (by omega) (fun i hi=>by simp only [updR_other hi]) ?_;simp only [updR_self];rfl))
 ·have hr:roomy a.x=a.x:=if_neg (by simp at hc;omega);have hpx:putX a.x a.key a.pos=putI a.x a.key a.pos:=by unfold putX;rw [hr]
  simp only [hr,hpx] at g1 g2 ⊢;refine ⟨⟨a.x.t,a.cap,a.x.n,a.x.used,a.key⟩,?_⟩;have hn:a.x.n=a.x.n:=rfl;obtain ⟨cap,hcap⟩:∃ cap,cap=a.cap:=⟨_,rfl⟩
  rw [<- hcap];generalize hy:a.x=y at *;have m1:=g1.inv.lo;have m2:=g1.inv.hi;have m3:=g1.inv.half;obtain ⟨l1,l2⟩:=findP_lt (t:=y.t) a.key (by omega);have l3:=g1.free a.key;have hl:=putI_length y a.key a.pos;have yes:0<=(findP y.t a.key).1->putI y a.key a.pos={ y with t:=y.t.set (findP y.t a.key).1.toNat { gl y.t (findP y.t a.key).1.toNat with pos:=a.pos } }:=fun e=>if_pos e;have no:¬ 0<=(findP y.t a.key).1->putI y a.key a.pos=⟨y.t.set (findP y.t a.key).2.toNat ⟨a.key,a.pos,true,false⟩,y.n+1,if (gl y.t (findP y.t a.key).2.toNat).gone then y.used else y.used+1⟩:=fun e=>if_neg e;dsimp only
  repeat' (first|intro _|apply And.intro|apply Exists.intro (cap:Nat))
  all_goals (try with_reducible rfl)
  all_goals (try simp only [decide_eq_true_eq,decide_eq_false_iff_not,Bool.not_eq_true',Bool.not_eq_false'] at *)
  all_goals (try exact trivial)
  all_goals (try omega)
  all_goals (try (grind [putRet]))
  all_goals (try (with_reducible exact RowsEq.refl _ _ _))
  all_goals (first|(rw [yes (by assumption)];refine .set _ (by omega) (fun i hi=>by simp only [updR_other hi]) ?_;simp only [updR_self];rfl)|(rw [no (by assumption)];refine .set _ (by omega) (fun i hi=>by simp only [updR_other hi]) ?_;simp only [updR_self];rfl)))
structure KeyA where
 x:IdxR
 cap:Nat
 key:ByteArray
noncomputable def cGet:Con where
 α:=KeyA
 β:=Unit
 m:=2
 m':=2
 pre:=fun a=>Inv a.x/\a.key.size<=lenMax
 args:=fun a=>[.a (.ptr 0 0 0 0),.a (.str a.key)]
 hp:=fun _=>[]
 ro:=fun a=>idxHp 0 1 a.x.t a.cap a.x.n a.x.used
 post:=fun _ _=>True
 res:=fun a _=>.tup [.a (.int .i64 (getI a.x a.key).1),.a (.bool (getI a.x a.key).2)]
 hp':=fun _ _=>[]
set_option maxHeartbeats 4000000 in
theorem bodyGet:fnBody (Y Tryz.prog) [(70,cFind)] 73 cGet fun _=>[]:=fnBody.of (p :=
 ∀ a:Ix.KeyA,Ix.Inv a.x/\a.key.size<=lenMax->∃ a_2:Ix.FindA,0=0/\a.key=a_2.key/\(0=0/\a.x.t.length=a_2.t.length/\a.cap=a_2.cap)/\(↑a.x.n:Int)=(↑a_2.n:Int)/\(↑a.x.used:Int)=(↑a_2.used:Int)/\(a_2.t.length<=a.x.t.length/\RowsEq a_2.t.length 4 (encRows Ix.encP a.x.t) (encRows Ix.encP a_2.t))/\(1<=a_2.t.length/\a_2.t.length<100000/\a_2.key.size<=lenMax)/\∀ b:Unit,True->(decide ((Ix.findP a_2.t a_2.key).fst<(0:Int))=true->∃ b:Unit,(0:Int)=(Ix.getI a.x a.key).fst/\false=(Ix.getI a.x a.key).snd/\True/\True)/\(decide ((Ix.findP a_2.t a_2.key).fst<(0:Int))=false->((0:Int)<=(Ix.findP a_2.t a_2.key).fst/\(Ix.findP a_2.t a_2.key).fst<(↑a.x.t.length:Int))/\0+(Ix.findP a_2.t a_2.key).fst.toNat<a.x.t.length/\(InR .i64 (gl a.x.t (0+(Ix.findP a_2.t a_2.key).fst.toNat)).pos->∃ b:Unit,(gl a.x.t (0+(Ix.findP a_2.t a_2.key).fst.toNat)).pos=(Ix.getI a.x a.key).fst/\true=(Ix.getI a.x a.key).snd/\True/\True))) (by kernel_rfl) (by
 intro a h;obtain ⟨h1,h2⟩:=h;have k1:=h1.lo;have k2:=h1.hi;obtain ⟨l1,l2⟩:=findP_lt (t:=a.x.t) a.key (by omega);refine ⟨⟨a.x.t,a.cap,a.x.n,a.x.used,a.key⟩,?_⟩;simp only [Nat.zero_add,InR]
 repeat' (first|intro _|apply And.intro|apply Exists.intro ())
 all_goals (try with_reducible rfl)
 all_goals (try simp only [decide_eq_true_eq,decide_eq_false_iff_not] at *)
 all_goals (try exact trivial)
 all_goals (try omega)
 all_goals (try (with_reducible exact RowsEq.refl _ _ _))
 all_goals (try (grind [getI])))
noncomputable def cDrop:Con where
 α:=KeyA
 β:=Unit
 m:=2
 m':=2
 pre:=fun a=>Inv a.x/\a.x.n<10000/\a.key.size<=lenMax/\(0<=(findP a.x.t a.key).1->1<=a.x.n)
 args:=fun a=>[.a (.ptr 0 0 0 0),.a (.str a.key)]
 hp:=fun a=>idxHp 0 1 a.x.t a.cap a.x.n a.x.used
 ro:=fun _=>[]
 post:=fun _ _=>True
 res:=fun a _=>.a (.bool (decide (0<=(findP a.x.t a.key).1)))
 hp':=fun a _=>idxHp 0 1 (dropI a.x a.key).t a.cap (dropI a.x a.key).n (dropI a.x a.key).used
set_option maxHeartbeats 4000000 in
theorem bodyDrop:fnBody (Y Tryz.prog) [(70,cFind)] 59 cDrop fun _=>[]:=fnBody.of (p :=
 ∀ a:Ix.KeyA,Ix.Inv a.x/\a.x.n<10000/\a.key.size<=lenMax/\((0:Int)<=(Ix.findP a.x.t a.key).fst->1<=a.x.n)->∃ a_2:Ix.FindA,0=0/\a.key=a_2.key/\(0=0/\a.x.t.length=a_2.t.length/\a.cap=a_2.cap)/\(↑a.x.n:Int)=(↑a_2.n:Int)/\(↑a.x.used:Int)=(↑a_2.used:Int)/\(a_2.t.length<=a.x.t.length/\RowsEq a_2.t.length 4 (encRows Ix.encP a.x.t) (encRows Ix.encP a_2.t))/\(1<=a_2.t.length/\a_2.t.length<100000/\a_2.key.size<=lenMax)/\∀ b:Unit,True->(decide ((Ix.findP a_2.t a_2.key).fst<(0:Int))=true->∃ b:Unit,false=decide ((0:Int)<=(Ix.findP a.x.t a.key).fst)/\(0=0/\a.x.t.length=(Ix.dropI a.x a.key).t.length/\a.cap=a.cap)/\(↑a.x.n:Int)=(↑(Ix.dropI a.x a.key).n:Int)/\(↑a.x.used:Int)=(↑(Ix.dropI a.x a.key).used:Int)/\((Ix.dropI a.x a.key).t.length<=a.x.t.length/\RowsEq (Ix.dropI a.x a.key).t.length 4 (encRows Ix.encP a.x.t) (encRows Ix.encP (Ix.dropI a.x a.key).t))/\True/\True)/\(decide ((Ix.findP a_2.t a_2.key).fst<(0:Int))=false->((0:Int)<=(Ix.findP a_2.t a_2.key).fst/\(Ix.findP a_2.t a_2.key).fst<(↑a.x.t.length:Int))/\0+(Ix.findP a_2.t a_2.key).fst.toNat<a.x.t.length/\(InR .i64 (↑a.x.n:Int)->InR .i64 ((↑a.x.n:Int) - 1)/\∃ b:Unit,true=decide ((0:Int)<=(Ix.findP a.x.t a.key).fst)/\(0=0/\a.x.t.length=(Ix.dropI a.x a.key).t.length/\a.cap=a.cap)/\(↑a.x.n:Int) - 1=(↑(Ix.dropI a.x a.key).n:Int)/\(↑a.x.used:Int)=(↑(Ix.dropI a.x a.key).used:Int)/\((Ix.dropI a.x a.key).t.length<=a.x.t.length /\
 RowsEq (Ix.dropI a.x a.key).t.length 4 (updR (encRows Ix.encP a.x.t) (0+(Ix.findP a_2.t a_2.key).fst.toNat) 0 [Value.string (ByteArray.mk #[]),Value.int IntKind.i64 (0:Int),Value.bool false,Value.bool true]) (encRows Ix.encP (Ix.dropI a.x a.key).t))/\True/\True))) (by kernel_rfl) (by
 intro a h;obtain ⟨h1,h2,h3,h4⟩:=h;have k1:=h1.lo;have k2:=h1.hi;obtain ⟨l1,l2⟩:=findP_lt (t:=a.x.t) a.key (by omega);have yes:0<=(findP a.x.t a.key).1->dropI a.x a.key=⟨a.x.t.set (findP a.x.t a.key).1.toNat goneP,a.x.n - 1,a.x.used⟩:=fun e=>if_pos e;have no:¬ 0<=(findP a.x.t a.key).1->dropI a.x a.key=a.x:=fun e=>if_neg e;refine ⟨⟨a.x.t,a.cap,a.x.n,a.x.used,a.key⟩,?_⟩;simp only [Nat.zero_add,InR]
 repeat' (first|intro _|apply And.intro|apply Exists.intro ())
 all_goals (try with_reducible rfl)
 all_goals (try simp only [decide_eq_true_eq,decide_eq_false_iff_not] at *)
 all_goals (try exact trivial)
 all_goals (try omega)
 all_goals (try (with_reducible exact RowsEq.refl _ _ _))
 all_goals (try (grind))
 all_goals (first|(rw [yes (by omega)];refine .set _ (by omega) (fun i hi=>by simp only [updR_other hi]) ?_;simp only [updR_self];rfl)|(rw [no (by omega)];exact RowsEq.refl _ _ _)|skip))
structure LowA where
 x:IdxR
 cap:Nat
 pos:Int
noncomputable def cBelow:Con where
 α:=LowA
 β:=Unit
 m:=2
 m':=2
 pre:=fun a=>Inv a.x/\a.x.n<10000/\belowN a.x.t a.pos a.x.t.length<=a.x.n
 args:=fun a=>[.a (.ptr 0 0 0 0),.a (.int .i64 a.pos)]
 hp:=fun a=>idxHp 0 1 a.x.t a.cap a.x.n a.x.used
 ro:=fun _=>[]
 post:=fun _ _=>True
 res:=fun a _=>.a (.int .i64 (belowN a.x.t a.pos a.x.t.length))
 hp':=fun a _=>idxHp 0 1 (belowI a.x a.pos).t a.cap (belowI a.x a.pos).n (belowI a.x a.pos).used
def iBelow (a:LowA):An:=.flat 5 Nat (fun s i=>((s.at_ (s.in_ (s.tg 0) 0) (.arr 132 ksP a.x.t.length (encRows encP (belowT a.x.t a.pos i)))).int 15 i).int 5 (belowN a.x.t a.pos i))
 (fun _ i=>i<=a.x.t.length) (fun _ i=>a.x.t.length - i)
set_option maxHeartbeats 4000000 in
theorem bodyBelow:fnBody (Y Tryz.prog) [] 67 cBelow fun a=>[(67,[iBelow a],[])]:=fnBody.of (p :=
 ∀ a:Ix.LowA,Ix.Inv a.x/\a.x.n<10000/\Ix.belowN a.x.t a.pos a.x.t.length<=a.x.n->(∃ a_2:Nat,0=(↑(Ix.belowN a.x.t a.pos a_2):Int)/\0=(↑a_2:Int)/\(↑a.x.t.length:Int)=(↑a.x.t.length:Int)/\(0=0/\a.x.t.length=a.x.t.length/\a.cap=a.cap)/\false=false/\(0:Int)=0/\0=0/\a.pos=a.pos/\(0=0/\a.x.t.length=a.x.t.length/\a.cap=a.cap)/\(↑a.x.n:Int)=(↑a.x.n:Int)/\(↑a.x.used:Int)=(↑a.x.used:Int)/\(a.x.t.length<=a.x.t.length/\RowsEq a.x.t.length 4 (encRows Ix.encP a.x.t) (encRows Ix.encP (Ix.belowT a.x.t a.pos a_2)))/\a_2<=a.x.t.length/\True)/\∀ a_2:Nat,a_2<=a.x.t.length->(decide ((↑a_2:Int)<(↑a.x.t.length:Int))=true->(0<=(↑a_2:Int)/\(↑a_2:Int)<(↑a.x.t.length:Int))/\0+(↑a_2:Int).toNat<a.x.t.length/\((gl (Ix.belowT a.x.t a.pos a_2) (0+(↑a_2:Int).toNat)).has=true->InR .i64 (gl (Ix.belowT a.x.t a.pos a_2) (0+(↑a_2:Int).toNat)).pos->(decide ((gl (Ix.belowT a.x.t a.pos a_2) (0+(↑a_2:Int).toNat)).pos<a.pos)=true->(0<=(↑a_2:Int)/\(↑a_2:Int)<(↑a.x.t.length:Int))/\0+(↑a_2:Int).toNat<a.x.t.length/\InR .i64 ((↑(Ix.belowN a.x.t a.pos a_2):Int)+1)/\InR .i64 ((↑a_2:Int)+1)/\∃ (a':Nat),(↑(Ix.belowN a.x.t a.pos a_2):Int)+1=(↑(Ix.belowN a.x.t a.pos a'):Int)/\(↑a_2:Int)+1=(↑a':Int)/\(↑a.x.t.length:Int)=(↑a.x.t.length:Int)/\(0=0/\a.x.t.length=a.x.t.length/\a.cap=a.cap)/\false=false/\(0:Int)=0/\0=0/\a.pos=a.pos /\
 (0=0/\a.x.t.length=a.x.t.length/\a.cap=a.cap)/\(↑a.x.n:Int)=(↑a.x.n:Int)/\(↑a.x.used:Int)=(↑a.x.used:Int)/\(a.x.t.length<=a.x.t.length/\RowsEq a.x.t.length 4 (updR (encRows Ix.encP (Ix.belowT a.x.t a.pos a_2)) (0+(↑a_2:Int).toNat) 0 [Value.string (ByteArray.mk #[]),Value.int IntKind.i64 (0:Int),Value.bool false,Value.bool true]) (encRows Ix.encP (Ix.belowT a.x.t a.pos a')))/\a'<=a.x.t.length/\a.x.t.length - a'<a.x.t.length - a_2)/\(decide ((gl (Ix.belowT a.x.t a.pos a_2) (0+(↑a_2:Int).toNat)).pos<a.pos)=false->InR .i64 ((↑a_2:Int)+1)/\∃ (a':Nat),(↑(Ix.belowN a.x.t a.pos a_2):Int)=(↑(Ix.belowN a.x.t a.pos a'):Int)/\(↑a_2:Int)+1=(↑a':Int)/\(↑a.x.t.length:Int)=(↑a.x.t.length:Int)/\(0=0/\a.x.t.length=a.x.t.length/\a.cap=a.cap)/\false=false/\(0:Int)=0/\0=0/\a.pos=a.pos/\(0=0/\a.x.t.length=a.x.t.length/\a.cap=a.cap)/\(↑a.x.n:Int)=(↑a.x.n:Int)/\(↑a.x.used:Int)=(↑a.x.used:Int)/\(a.x.t.length<=a.x.t.length/\RowsEq a.x.t.length 4 (encRows Ix.encP (Ix.belowT a.x.t a.pos a_2)) (encRows Ix.encP (Ix.belowT a.x.t a.pos a')))/\a'<=a.x.t.length/\a.x.t.length - a'<a.x.t.length - a_2))/\((gl (Ix.belowT a.x.t a.pos a_2) (0+(↑a_2:Int).toNat)).has=false->InR .i64 ((↑a_2:Int)+1)/\∃ (a':Nat),(↑(Ix.belowN a.x.t a.pos a_2):Int)=(↑(Ix.belowN a.x.t a.pos a'):Int)/\(↑a_2:Int)+1=(↑a':Int)/\(↑a.x.t.length:Int)=(↑a.x.t.length:Int)/\(0=0 /\
 a.x.t.length=a.x.t.length/\a.cap=a.cap)/\false=false/\(0:Int)=0/\0=0/\a.pos=a.pos/\(0=0/\a.x.t.length=a.x.t.length/\a.cap=a.cap)/\(↑a.x.n:Int)=(↑a.x.n:Int)/\(↑a.x.used:Int)=(↑a.x.used:Int)/\(a.x.t.length<=a.x.t.length/\RowsEq a.x.t.length 4 (encRows Ix.encP (Ix.belowT a.x.t a.pos a_2)) (encRows Ix.encP (Ix.belowT a.x.t a.pos a')))/\a'<=a.x.t.length/\a.x.t.length - a'<a.x.t.length - a_2))/\(decide ((↑a_2:Int)<(↑a.x.t.length:Int))=false->InR .i64 (↑a.x.n:Int)->InR .i64 ((↑a.x.n:Int) - (↑(Ix.belowN a.x.t a.pos a_2):Int))/\∃ b:Unit,(↑(Ix.belowN a.x.t a.pos a_2):Int)=(↑(Ix.belowN a.x.t a.pos a.x.t.length):Int)/\(0=0/\a.x.t.length=(Ix.belowI a.x a.pos).t.length/\a.cap=a.cap)/\(↑a.x.n:Int) - (↑(Ix.belowN a.x.t a.pos a_2):Int)=(↑(Ix.belowI a.x a.pos).n:Int)/\(↑a.x.used:Int)=(↑(Ix.belowI a.x a.pos).used:Int)/\((Ix.belowI a.x a.pos).t.length<=a.x.t.length/\RowsEq (Ix.belowI a.x a.pos).t.length 4 (encRows Ix.encP (Ix.belowT a.x.t a.pos a_2)) (encRows Ix.encP (Ix.belowI a.x a.pos).t))/\True/\True)) (by kernel_rfl) (by
 intro a h;obtain ⟨h1,h2,h3⟩:=h;have k1:=h1.lo;have k2:=h1.hi;simp only [Nat.zero_add,InR];have hlen:=belowT_length a.x.t a.pos;refine ⟨⟨0,?_⟩,fun i hi=>?_⟩
 ·(repeat' apply And.intro)<;>(first|exact trivial|rfl|omega|assumption|exact RowsEq.refl _ _ _|(simp only [InR];omega)|(simp;done)|(simp;omega)|grind)
 ·have hat:=belowT_at a.x.t a.pos i hi i;rw [if_neg (by simp)] at hat;have sy:low a.pos (gl a.x.t i)=true->belowT a.x.t a.pos (i+1)=(belowT a.x.t a.pos i).set i goneP:=fun e=>if_pos e;have sn:¬ low a.pos (gl a.x.t i)=true->belowT a.x.t a.pos (i+1)=belowT a.x.t a.pos i:=fun e=>if_neg e;have ny:low a.pos (gl a.x.t i)=true->belowN a.x.t a.pos (i+1)=belowN a.x.t a.pos i+1:=fun e=>by show _+(if _ then 1 else 0)=_;rw [if_pos e]
  have nn:¬ low a.pos (gl a.x.t i)=true->belowN a.x.t a.pos (i+1)=belowN a.x.t a.pos i:=fun e=>by show _+(if _ then 1 else 0)=_;rw [if_neg e];rfl
  have hn:∀ i,belowN a.x.t a.pos i<=i:=by
   intro i
   induction i with
   | zero=>exact Nat.le_refl _
   | succ i ih=>show _+(if _ then 1 else 0)<=_;split<;>omega
  have hn1:=hn i;have hfin:¬ i<a.x.t.length->belowI a.x a.pos=⟨belowT a.x.t a.pos i,a.x.n - belowN a.x.t a.pos i,a.x.used⟩/\belowN a.x.t a.pos a.x.t.length=belowN a.x.t a.pos i:=fun e=>by
   have:i=a.x.t.length:=by omega
   rw [this];exact ⟨rfl,rfl⟩
  have ll:∀ q:PlaceR,low a.pos q=true↔q.has=true/\q.pos<a.pos:=fun q=>by simp [low]
  simp only [Int.toNat_natCast,hat] at *;clear hlen
  repeat' (first|intro _|apply And.intro|apply Exists.intro (i+1:Nat)|apply Exists.intro ())
  all_goals (try with_reducible rfl)
  all_goals (try simp only [decide_eq_true_eq,decide_eq_false_iff_not,belowT_length] at *)
  all_goals (try exact trivial)
  all_goals (try omega)
  all_goals (try (with_reducible exact RowsEq.refl _ _ _))
  all_goals first
   | (rw [ny ((ll _).2 ⟨by assumption,by assumption⟩)];done)
   | (rw [ny ((ll _).2 ⟨by assumption,by assumption⟩)];rfl)
   | rfl
   | (rw [nn (fun e=>by have:=(ll _).1 e;grind)];done)
   | (rw [sy ((ll _).2 ⟨by assumption,by assumption⟩)];refine .set _ (by rw [belowT_length];omega) (fun i hi=>by simp only [updR_other hi]) ?_;simp only [updR_self];rfl)
   | (rw [sn (fun e=>by have:=(ll _).1 e;grind)];exact RowsEq.refl _ _ _)
   | (rw [(hfin (by omega)).2];done)
   | (have hf:=hfin (by omega);rw [hf.1];first|rfl|omega|exact RowsEq.refl _ _ _|(simp only;omega)|(simp only [belowT_length];first|done|exact Nat.le_refl _)))
theorem callPut:CallsBy (Y Tryz.prog).G.X 46 cPut:=fn_ok okY (tab:=[(70,cFind),(69,cGrow)]) ⟨callFind,callGrow,trivial⟩ bodyPut
theorem callGet:CallsBy (Y Tryz.prog).G.X 73 cGet:=fn_ok okY (tab:=[(70,cFind)]) ⟨callFind,trivial⟩ bodyGet
theorem callDrop:CallsBy (Y Tryz.prog).G.X 59 cDrop:=fn_ok okY (tab:=[(70,cFind)]) ⟨callFind,trivial⟩ bodyDrop
theorem callBelow:CallsBy (Y Tryz.prog).G.X 67 cBelow:=fn_ok okY (tab:=[]) trivial bodyBelow
end Go.Proofs.YtfhkbihcfmbbcaaGreat.Ix

namespace Go.Proofs.YtfhkbihcfmbbcaaGreat
open Go.Sx
set_option maxRecDepth 100000
set_option linter.unusedVariables false
set_option linter.unusedSimpArgs false
@[reducible] def idxQ (a b:Ix.IdxR) (v w:Nat) (p:Prop):Prop:=(0=0/\a.t.length=b.t.length/\v=w)/\(↑a.n:Int)=(↑b.n:Int)/\(↑a.used:Int)=(↑b.used:Int)/\(b.t.length<=a.t.length/\RowsEq b.t.length 4 (encRows Ix.encP a.t) (encRows Ix.encP b.t))/\p
def zeroItem:ItemM:=⟨.empty,.empty,0,false⟩
def bodyOf:Option ItemM->List Int
 | none=>[2]
 | some x=>1::itemB x
theorem vi_short (m:Nat) (n:Int) (h:2*n.toNat<128 ^ (m+1)):(vi n).length<=m+1:=vbF_short 9 m _ h
theorem itemB_250 {x:ItemM} (h:mayB x=true):(itemB x).length<=x.key.size+x.val.size+10/\1<=(itemB x).length:=by
 obtain ⟨k1,k2,k3,k4⟩:=may_out h;have a1:=vi_short 0 (x.key.size:Nat) (by simp;omega);have a2:=vi_short 1 (x.val.size:Nat) (by simp;omega);have a3:=vi_short 5 x.e (by simp;omega);have a4:(vi (if x.gone then 1 else 0)).length<=1:=by split<;>exact vi_short 0 _ (by decide)
 have a5:=(vi_len (x.key.size:Nat)).1;simp only [itemB,textsB,putsB,List.flatMap_cons,List.flatMap_nil,List.append_nil,List.length_append,txB_len];omega
theorem bodyOf_len {o:Option ItemM} (h:∀ x,o=some x->mayB x=true):1<=(bodyOf o).length/\(bodyOf o).length<=251:=by
 cases o with
 | none=>simp [bodyOf]
 | some x =>
  have h1:=h x rfl;have:=itemB_250 h1;have:=may_out h1;simp only [bodyOf,List.length_cons];omega
structure FReadA where
 o:Option ItemM
 cap:Nat
noncomputable def cFRead:Con where
 α:=FReadA
 β:=Unit
 m:=1
 m':=1
 pre:=fun a=>(∀ x,a.o=some x->mayB x=true)/\(bodyOf a.o).length<=a.cap
 args:=fun a=>[.a (.slc 0 0 1 (bodyOf a.o).length a.cap)]
 hp:=fun _=>[]
 ro:=fun a=>byteHp 0 (bodyOf a.o)
 post:=fun _ _=>True
 res:=fun a _=>.tup [.agg (itemA (a.o.getD zeroItem)),.a (.bool a.o.isSome)]
 hp':=fun _ _=>[]
set_option maxHeartbeats 4000000 in
theorem bodyFRead:fnBody (Y Tryz.prog) [(96,cDec)] 75 cFRead fun _=>[]:=fnBody.of (p :=
 ∀ a:FReadA,(∀ x:ItemM,a.o=some x->mayB x=true)/\(bodyOf a.o).length<=a.cap->(decide ((↑(bodyOf a.o).length:Int)<1)=true->∃ b:Unit,(ByteArray.mk #[])=(a.o.getD zeroItem).key/\(ByteArray.mk #[])=(a.o.getD zeroItem).val/\(0:Int)=(a.o.getD zeroItem).e/\false=(a.o.getD zeroItem).gone/\false=a.o.isSome/\True/\True)/\(decide ((↑(bodyOf a.o).length:Int)<1)=false->((0:Int)<=0/\0<(↑(bodyOf a.o).length:Int))/\0<(bodyOf a.o).length/\(InR .u8 (gl (bodyOf a.o) 0)->((gl (bodyOf a.o) 0 != (1:Int))=true->∃ b:Unit,(ByteArray.mk #[])=(a.o.getD zeroItem).key/\(ByteArray.mk #[])=(a.o.getD zeroItem).val/\(0:Int)=(a.o.getD zeroItem).e/\false=(a.o.getD zeroItem).gone/\false=a.o.isSome/\True/\True)/\((gl (bodyOf a.o) 0 != (1:Int))=false->((0:Int)<=1/\1<=(↑(bodyOf a.o).length:Int))/\∃ a_5:DecA,(1=a_5.r/\(bodyOf a.o).length - 1=(itemB a_5.x).length/\a.cap - 1=a_5.cap)/\(a_5.l.length<=(bodyOf a.o).length/\RowsEq a_5.l.length 1 (encRows encB (bodyOf a.o)) (encRows encB a_5.l))/\(mayB a_5.x=true/\a_5.r+(itemB a_5.x).length<=a_5.l.length/\(itemB a_5.x).length<=a_5.cap/\∀ i:Nat,i<(itemB a_5.x).length->gl a_5.l (a_5.r+i)=gl (itemB a_5.x) i)/\∀ b:Nat,True->(false=true->∃ b:Unit,(ByteArray.mk #[])=(a.o.getD zeroItem).key/\(ByteArray.mk #[])=(a.o.getD zeroItem).val/\(0:Int)=(a.o.getD zeroItem).e/\false=(a.o.getD zeroItem).gone/\false=a.o.isSome/\True /\
 True)/\(false=false->((0:Int)<=0/\(0:Int)<1)/\0<1/\∃ b:Unit,(gl [a_5.x] 0).key=(a.o.getD zeroItem).key/\(gl [a_5.x] 0).val=(a.o.getD zeroItem).val/\(gl [a_5.x] 0).e=(a.o.getD zeroItem).e/\(gl [a_5.x] 0).gone=(a.o.getD zeroItem).gone/\true=a.o.isSome/\True/\True))))) (by kernel_rfl) (by
 rintro ⟨o,cap⟩ ⟨h1,h2⟩;dsimp only at *;have hl:=bodyOf_len h1;cases o with
 | none =>
  have e0:gl (bodyOf none) 0=2:=rfl;refine ⟨fun c=>by exfalso;have:=of_decide_eq_true c;omega,fun _=>?_⟩
  repeat (first|refine And.intro (by omega) ?_|refine And.intro (by dsimp only;omega) ?_|refine And.intro (by simp only [InR];omega) ?_)
  rw [e0];exact fun _=>⟨fun _=>⟨(),by (repeat' apply And.intro)<;>first|trivial|rfl⟩,fun c=>absurd c (by decide)⟩
 | some x =>
  have e0:gl (bodyOf (some x)) 0=1:=rfl;have e1:(bodyOf (some x)).length=(itemB x).length+1:=by simp [bodyOf]
  have hm:=h1 x rfl;have e2:∀ i,i<(itemB x).length->gl (bodyOf (some x)) (1+i)=gl (itemB x) i:=fun i _=>by
   show gl (([1]:List Int)++itemB x) (([1]:List Int).length+i)=_;rw [gl_append_right]
  refine ⟨fun c=>by exfalso;have:=of_decide_eq_true c;omega,fun _=>?_⟩
  repeat (first|refine And.intro (by omega) ?_|refine And.intro (by dsimp only;omega) ?_|refine And.intro (by simp only [InR];omega) ?_)
  rw [e0];refine fun _=>⟨fun c=>absurd c (by decide),fun _=>?_⟩
  repeat (first|refine And.intro (by omega) ?_|refine And.intro (by dsimp only;omega) ?_|refine And.intro (by simp only [InR];omega) ?_)
  refine ⟨DecA.mk (bodyOf (some x)) 1 (cap - 1) x,?_⟩
  (repeat' (first|apply And.intro|(intro _)|apply Exists.intro ()))<;>first|with_reducible (first|rfl|trivial|assumption)|omega|with_reducible (first|exact RowsEq.refl _ _ _|exact Nat.le_refl _)|(dsimp only [List.length_cons,List.length_nil]<;>omega)|exact hm|exact e2 _ (by assumption)|rfl|(exfalso;simp at *;done)|skip)
theorem callFRead:CallsBy (Y Tryz.prog).G.X 75 cFRead:=fn_ok okY (tab:=[(96,cDec)]) ⟨callDec,trivial⟩ bodyFRead
def slFRead (a:FReadA):Sl1:=⟨5,[.int .u8],(bodyOf a.o).length,a.cap,encRows encB (bodyOf a.o)⟩
noncomputable def cFReadV:Con:=cFRead.val1 slFRead
theorem semFRead:ConSem (Y Tryz.prog).G.X cFRead 75:=con_sem okY (fun _=>CHof_ok okY (tab:=[(96,cDec)]) ⟨callDec,trivial⟩) bodyFRead.body
theorem callFReadV:CallsBy (Y Tryz.prog).G.X 75 cFReadV:=fun _ _ _ h=>con_okS (val1_sem semFRead ⟨rfl,fun _=>rfl,fun _=>rfl,fun _=>rfl,fun _ _=>rfl,fun _ _ p hp=>(by cases hp)⟩) h
structure FlM where
 L:LogM
 d:DevM
 l:List (ByteArray × Int)
structure FlP where
 H:PH
 y:LogL
 x:Ix.IdxR
 cap:Nat
def flHp (c lg dv ds ix it pl:Nat) (m:FlM) (p:FlP):List (Nat × Chunk) :=
 [(c,.obj 96 [.ptr lg 0 0 0,.ptr ix 0 0 0]),(lg,logObj dv m.L p.y.lv)]++devHp dv ds m.d++Ix.idxHp ix it p.x.t p.cap p.x.n p.x.used++[(pl,.pool p.H)]
structure FlAt (m:FlM) (p:FlP):Prop where
 log:LogAt p.H p.y m.L
 idx:Ix.Has p.x m.l
def FlFr (p p':FlP):Prop:=∀ z,p.H z≠none->z∉fpLog p.y->p'.H z=p.H z/\z∉fpLog p'.y
structure FlOk (m:FlM) (n:Nat):Prop where
 log:LogOk m.L m.d
 few:m.l.length<9000
def firstF (L:LogM):Int:=firstTo L.l L.next
def addF (m:FlM) (body:List Int):FlM:=⟨appL m.L body,appD m.L m.d body,m.l.filter fun e=>decide (firstF (appL m.L body)<=e.2)⟩
theorem appL_len {L:LogM} {d:DevM} (ok:LogOk L d) {body:List Int} (h:body.length<=300):(appL L body).l.length<=801:=by
 have:=(appL1_ok (n:=body.length) ok h).few;show ((appL1 L body.length).l.set _ _).length<=801;rw [List.length_set];exact this
theorem has_few {x:Ix.IdxR} {l:List (ByteArray × Int)} (h:Ix.Has x l):x.n=l.length:=h.n
structure AddA where
 m:FlM
 p:FlP
 body:List Int
 cap:Nat
noncomputable def cAdd:Con where
 α:=AddA
 β:=FlP
 m:=8
 m':=9
 pre:=fun a=>FlAt a.m a.p/\FlOk a.m a.body.length/\1<=a.body.length/\a.body.length<=300
 args:=fun a=>[.a (.ptr 0 0 0 0),.a (.slc 7 0 1 a.body.length a.cap)]
 hp:=fun a=>flHp 0 1 2 3 4 5 6 a.m a.p
 ro:=fun a=>byteHp 7 a.body
 post:=fun a b=>FlAt (addF a.m a.body) b/\FlFr a.p b
 res:=fun a _=>.tup [.a (.int .i64 a.m.L.next),.a (.lit .i64 0)]
 hp':=fun a b=>flHp 0 1 2 3 4 5 8 (addF a.m a.body) b
set_option maxHeartbeats 4000000 in
theorem bodyAdd:fnBody (Y Tryz.prog) [(53,cAppend),(57,cFirst),(67,Ix.cBelow)] 44 cAdd fun _=>[]:=fnBody.of (p :=
 ∀ a:AddA,FlAt a.m a.p/\FlOk a.m a.body.length/\1<=a.body.length/\a.body.length<=300->∃ a_2:AppA,0=0/\(0=0/\a.body.length=a_2.body.length/\a.cap=a_2.cap)/\0=0/\logQ a.m.L a_2.L a.p.y.lv a_2.y.lv (devQ a.m.d a_2.d (a.p.H=a_2.H/\(a_2.body.length<=a.body.length/\RowsEq a_2.body.length 1 (encRows encB a.body) (encRows encB a_2.body))/\(LogAt a_2.H a_2.y a_2.L/\LogOk a_2.L a_2.d/\1<=a_2.body.length/\a_2.body.length<=300)/\∀ b:BegB,(LogAt b.H b.y (appL a_2.L a_2.body)/\∀ x:Nat,a_2.H x≠none->¬x∈fpLog a_2.y->b.H x=a_2.H x/\¬x∈fpLog b.y)->∃ a_4:FstA,0=0/\0=0/\logQ (appL a_2.L a_2.body) a_4.L b.y.lv a_4.y.lv (b.H=a_4.H/\(LogAt a_4.H a_4.y a_4.L/\a_4.L.l.length<1000)/\∀ b_1:Unit,True->∃ a_6:Ix.LowA,0=0/\firstTo a_4.L.l a_4.L.next=a_6.pos/\idxQ a.p.x a_6.x a.p.cap a_6.cap ((Ix.Inv a_6.x/\a_6.x.n<10000/\Ix.belowN a_6.x.t a_6.pos a_6.x.t.length<=a_6.x.n)/\∀ b_2:Unit,True->∃ b_3:FlP,a_2.L.next=a.m.L.next/\(0:Int)=0/\b.H=b_3.H/\0=0/\0=0/\0=0/\logQ (appL a_2.L a_2.body) (addF a.m a.body).L b.y.lv b_3.y.lv (devQ (appD a_2.L a_2.d a_2.body) (addF a.m a.body).d (idxQ (Ix.belowI a_6.x a_6.pos) b_3.x a_6.cap b_3.cap ((FlAt (addF a.m a.body) b_3/\FlFr a.p b_3)/\True)))))))) (by kernel_rfl) (by
 rintro ⟨⟨L,d,l⟩,⟨H,y,x,xc⟩,body,cap⟩ ⟨hat,hok,hb1,hb2⟩;obtain ⟨hl,hx⟩:=hat;dsimp only at *;have hlen:(appL L body).l.length<=801:=appL_len hok.log hb2;have hn:=has_few hx;have hfew:=hok.few;dsimp only at hfew;obtain ⟨q1,q3,q2⟩:=Ix.below_has hx (firstF (appL L body));refine ⟨AppA.mk H y L d body cap,?_⟩
 (repeat' apply And.intro)<;>first|with_reducible (first|rfl|trivial|assumption)|omega|with_reducible (first|exact RowsEq.refl _ _ _|exact Nat.le_refl _)|(dsimp only [List.length_cons,List.length_nil]<;>omega)|exact hl|exact hok.log|skip
 rintro ⟨H1,y1⟩ ⟨p1,p2⟩;dsimp only at p1 p2 ⊢;refine ⟨FstA.mk H1 y1 (appL L body),?_⟩
 (repeat' apply And.intro)<;>first|with_reducible (first|rfl|trivial|assumption)|omega|with_reducible (first|exact RowsEq.refl _ _ _|exact Nat.le_refl _)|(dsimp only [List.length_cons,List.length_nil]<;>omega)|exact p1|(dsimp only;omega)|skip
 intro _ _;refine ⟨Ix.LowA.mk x xc (firstF (appL L body)),?_⟩;dsimp only
 (repeat' apply And.intro)<;>first|with_reducible (first|rfl|trivial|assumption)|omega|with_reducible (first|exact RowsEq.refl _ _ _|exact Nat.le_refl _)|(dsimp only [List.length_cons,List.length_nil]<;>omega)|exact hx.inv|rfl|(rw [hn];exact q2)|(rw [hn];omega)|skip
 intro _ _;refine ⟨⟨H1,y1,Ix.belowI x (firstF (appL L body)),xc⟩,?_⟩
 (repeat' apply And.intro)<;>first|with_reducible (first|rfl|trivial|assumption)|omega|with_reducible (first|exact RowsEq.refl _ _ _|exact Nat.le_refl _)|(dsimp only [List.length_cons,List.length_nil]<;>omega)|exact ⟨p1,q1⟩|exact p1|exact q1|exact p2|rfl|exact RowsEq.refl _ _ _|exact Nat.le_refl _|skip)
theorem callAdd:CallsBy (Y Tryz.prog).G.X 44 cAdd:=fn_ok okY (tab:=[(53,cAppend),(57,cFirst),(67,Ix.cBelow)]) ⟨callAppend,callFirst,Ix.callBelow,trivial⟩ bodyAdd
end Go.Proofs.YtfhkbihcfmbbcaaGreat

namespace Go.Proofs.YtfhkbihcfmbbcaaGreat
open Go.Sx
set_option maxRecDepth 100000
set_option linter.unusedVariables false
set_option linter.unusedSimpArgs false
def dropK (l:List (ByteArray × Int)) (k:ByteArray):List (ByteArray × Int):=l.filter fun e=>decide (e.1≠k)
def putK (l:List (ByteArray × Int)) (k:ByteArray) (p:Int):List (ByteArray × Int):=(k,p)::dropK l k
theorem has_nodup {x:Ix.IdxR} {l:List (ByteArray × Int)} (h:Ix.Has x l):(l.map Prod.fst).Nodup:=by
 refine ((h.perm.map Prod.fst).nodup_iff).1 ?_;unfold Ix.ents;rw [List.map_map];show List.Pairwise (·≠·) _;rw [List.pairwise_map,List.pairwise_filter,List.pairwise_iff_getElem];intro i j hi hj hij hp hq e;have:=h.inv.dist i j hi hj (by rw [gl_eq hi];exact hp) (by rw [gl_eq hj];exact hq) (by rw [gl_eq hi,gl_eq hj];exact e);omega
theorem dropK_no {l:List (ByteArray × Int)} {k:ByteArray} (h:k∉l.map Prod.fst):dropK l k=l:=by
 unfold dropK;rw [List.filter_eq_self];intro e he;simp only [decide_eq_true_eq];exact fun e'=>h (List.mem_map.2 ⟨e,he,e'⟩)
theorem perm_putK:∀ {l:List (ByteArray × Int)} {k:ByteArray} {q:Int},(l.map Prod.fst).Nodup->(k,q)∈l->l.Perm ((k,q)::dropK l k)
 | [],_,_,_,h=>by cases h
 | a::l,k,q,hn,h=>by
  rw [List.map_cons,List.nodup_cons] at hn;by_cases e:a.1=k
  ·have hk:k∉l.map Prod.fst:=by rw [<- e];exact hn.1
   have ha:a=(k,q):=by
    rcases List.mem_cons.1 h with h|h
    ·exact h.symm
    ·exact absurd (List.mem_map.2 ⟨_,h,rfl⟩) hk
   have:dropK (a::l) k=l:=by
    unfold dropK;rw [List.filter_cons,if_neg (by simp [e])];exact dropK_no hk
   rw [this,ha]
  ·have hm:(k,q)∈l:=by
    rcases List.mem_cons.1 h with h|h
    ·exact absurd (by rw [<- h]) e
    ·exact h
   have:dropK (a::l) k=a::dropK l k:=by
    unfold dropK;rw [List.filter_cons,if_pos (by simpa using e)]
   rw [this];exact (List.Perm.cons a (perm_putK hn.2 hm)).trans (List.Perm.swap _ _ _)
theorem has_put {x:Ix.IdxR} {l:List (ByteArray × Int)} {k:ByteArray} {p:Int} (h:Ix.Has x l) (hn:l.length<9999) (hk:k.size<=lenMax):Ix.Has (Ix.putX x k p) (putK l k p):=by
 have hx:=h.n;by_cases hm:k∈l.map Prod.fst
 ·obtain ⟨⟨k',q⟩,h1,h2⟩:=List.mem_map.1 hm;dsimp only at h2;subst h2;exact (Ix.putX_there (h.of_perm (perm_putK (has_nodup h) h1)) (by omega)).1
 ·have:=(Ix.putX_new (p:=p) h (by omega) hm hk).1;unfold putK;rw [dropK_no hm];exact this
theorem has_drop {x:Ix.IdxR} {l:List (ByteArray × Int)} {k:ByteArray} (h:Ix.Has x l):Ix.Has (Ix.dropI x k) (dropK l k)/\(0<=(Ix.findP x.t k).1->1<=x.n):=by
 have hx:=h.n;by_cases hm:k∈l.map Prod.fst
 ·obtain ⟨⟨k',q⟩,h1,h2⟩:=List.mem_map.1 hm;dsimp only at h2;subst h2;refine ⟨(Ix.drop_there (h.of_perm (perm_putK (has_nodup h) h1))).1,fun _=>?_⟩;have:=List.length_pos_of_mem h1;omega
 ·rw [dropK_no hm];obtain ⟨e1,e2⟩:=h.none_find hm;exact ⟨by rw [Ix.drop_none h hm];exact h,fun e=>by omega⟩
theorem putK_len (l:List (ByteArray × Int)) (k:ByteArray) (p:Int):(putK l k p).length<=l.length+1:=by
 simp only [putK,dropK,List.length_cons];have:=List.length_filter_le (fun e:ByteArray × Int=>decide (e.1≠k)) l;omega
theorem dropK_len (l:List (ByteArray × Int)) (k:ByteArray):(dropK l k).length<=l.length:=List.length_filter_le _ _
def putOk (x:ItemM):Bool:=mayB x&&!x.gone
def putF (m:FlM) (x:ItemM):FlM:=if putOk x then { addF m (bodyOf (some x)) with l:=putK (addF m (bodyOf (some x))).l x.key m.L.next } else m
structure FPutA where
 m:FlM
 p:FlP
 x:ItemM
noncomputable def cFPut:Con where
 α:=FPutA
 β:=FlP
 m:=7
 m':=9
 pre:=fun a=>FlAt a.m a.p/\(putOk a.x=true->FlOk a.m (bodyOf (some a.x)).length)
 args:=fun a=>[.a (.ptr 0 0 0 0),.agg (itemA a.x)]
 hp:=fun a=>flHp 0 1 2 3 4 5 6 a.m a.p
 ro:=fun _=>[]
 post:=fun a b=>FlAt (putF a.m a.x) b/\FlFr a.p b
 res:=fun a b=>.a (.int .i64 (if putOk a.x then 0 else 1))
 hp':=fun a b=>flHp 0 1 2 3 4 7 8 (putF a.m a.x) b
set_option maxHeartbeats 4000000 in
theorem bodyFPut:fnBody (Y Tryz.prog) [(43,cMay),(45,cEnc),(44,cAdd),(46,Ix.cPut)] 18 cFPut fun _=>[]:=fnBody.of (p :=
 ∀ a:FPutA,FlAt a.m a.p/\(putOk a.x=true->FlOk a.m (bodyOf (some a.x)).length)->∃ a_2:ItemM,a.x.key=a_2.key/\a.x.val=a_2.val/\a.x.e=a_2.e/\a.x.gone=a_2.gone/\True/\∀ b:Unit,True->((!mayB a_2)=true->∃ b:FlP,((1:Int)=if putOk a.x=true then (0:Int) else (1:Int))/\a.p.H=b.H/\0=0/\0=0/\0=0/\logQ a.m.L (putF a.m a.x).L a.p.y.lv b.y.lv (devQ a.m.d (putF a.m a.x).d (idxQ a.p.x b.x a.p.cap b.cap ((FlAt (putF a.m a.x) b/\FlFr a.p b)/\True))))/\((!mayB a_2)=false->(a.x.gone=true->∃ b:FlP,((1:Int)=if putOk a.x=true then (0:Int) else (1:Int))/\a.p.H=b.H/\0=0/\0=0/\0=0/\logQ a.m.L (putF a.m a.x).L a.p.y.lv b.y.lv (devQ a.m.d (putF a.m a.x).d (idxQ a.p.x b.x a.p.cap b.cap ((FlAt (putF a.m a.x) b/\FlFr a.p b)/\True))))/\(a.x.gone=false->∃ a_6:EncA,(0=0/\1=a_6.xs.length/\1=a_6.cap)/\(a_6.xs.length<=1/\RowsEq a_6.xs.length 4 (flatRows 4 [Value.string a.x.key,Value.string a.x.val,Value.int IntKind.i64 a.x.e,Value.bool a.x.gone]) (encRows encItem a_6.xs))/\(1<=a_6.xs.length/\a_6.xs.length<20/\∀ i:Nat,i<a_6.xs.length->mayB (gl a_6.xs i)=true)/\∀ b:Nat,True->1<=1/\0+(itemsB a_6.xs).length<=(itemsB a_6.xs).length/\(1+(itemsB a_6.xs).length)*1<=140737488355328/\∀ cap:Nat,1+(itemsB a_6.xs).length<=cap->cap<=lenMax->(1+(itemsB a_6.xs).length<=1->cap=1)->∃ a_11:AddA,0=0/\(0=0/\1+(itemsB a_6.xs).length=a_11.body.length/\cap=a_11.cap) /\
 0=0/\0=0/\0=0/\logQ a.m.L a_11.m.L a.p.y.lv a_11.p.y.lv (devQ a.m.d a_11.m.d (idxQ a.p.x a_11.p.x a.p.cap a_11.p.cap (a.p.H=a_11.p.H/\(a_11.body.length<=1+(itemsB a_6.xs).length/\RowsEq a_11.body.length 1 (appRows (flatRows 1 [Value.int IntKind.u8 (1:Int)]) 0 1 fun (i j:Nat)=>encRows encB (itemsB a_6.xs) (0+i) j) (encRows encB a_11.body))/\(FlAt a_11.m a_11.p/\FlOk a_11.m a_11.body.length/\1<=a_11.body.length/\a_11.body.length<=300)/\∀ b:FlP,FlAt (addF a_11.m a_11.body) b/\FlFr a_11.p b->∃ a_13:Ix.PutA,0=0/\a.x.key=a_13.key/\a_11.m.L.next=a_13.pos/\idxQ b.x a_13.x b.cap a_13.cap ((Ix.Inv a_13.x/\a_13.x.n<9999/\a_13.key.size<=lenMax)/\∀ b_1:Nat,True->∃ b_2:FlP,((0:Int)=if putOk a.x=true then (0:Int) else (1:Int))/\b.H=b_2.H/\0=0/\0=0/\0=0/\logQ (addF a_11.m a_11.body).L (putF a.m a.x).L b.y.lv b_2.y.lv (devQ (addF a_11.m a_11.body).d (putF a.m a.x).d (idxQ (Ix.putX a_13.x a_13.key a_13.pos) b_2.x b_1 b_2.cap ((FlAt (putF a.m a.x) b_2/\FlFr a.p b_2)/\True)))))))))) (by kernel_rfl) (by
 rintro ⟨⟨L,d,l⟩,⟨H,y,x,xc⟩,it⟩ ⟨hat,hok⟩;dsimp only at *;have same:putOk it=false->putF ⟨L,d,l⟩ it=⟨L,d,l⟩:=fun e=>if_neg (by rw [e];decide);refine ⟨it,rfl,rfl,rfl,rfl,trivial,fun _ _=>⟨fun c1=>⟨⟨H,y,x,xc⟩,?_⟩,fun c1=>⟨fun c2=>⟨⟨H,y,x,xc⟩,?_⟩,fun c2=>?_⟩⟩⟩
 ·have hn:putOk it=false:=by simp only [putOk];rw [show mayB it=false by simpa using c1];rfl
  rw [same hn,hn]
  (repeat' apply And.intro)<;>first|with_reducible (first|rfl|trivial|assumption)|omega|with_reducible (first|exact RowsEq.refl _ _ _|exact Nat.le_refl _)|(dsimp only [List.length_cons,List.length_nil]<;>omega)|rfl|exact RowsEq.refl _ _ _|exact Nat.le_refl _|exact hat|exact hat.log|exact hat.idx|exact fun z _ hn=>⟨rfl,hn⟩
 ·have hn:putOk it=false:=by simp only [putOk];rw [c2];simp
  rw [same hn,hn]
  (repeat' apply And.intro)<;>first|with_reducible (first|rfl|trivial|assumption)|omega|with_reducible (first|exact RowsEq.refl _ _ _|exact Nat.le_refl _)|(dsimp only [List.length_cons,List.length_nil]<;>omega)|rfl|exact RowsEq.refl _ _ _|exact Nat.le_refl _|exact hat|exact hat.log|exact hat.idx|exact fun z _ hn=>⟨rfl,hn⟩
 ·have hm:mayB it=true:=by simpa using c1
  have hy:putOk it=true:=by simp only [putOk];rw [c2,hm];rfl
  have hok:=hok hy;have hF:putF ⟨L,d,l⟩ it={ addF ⟨L,d,l⟩ (bodyOf (some it)) with l:=putK (addF ⟨L,d,l⟩ (bodyOf (some it))).l it.key L.next }:=if_pos hy;rw [hF,hy];obtain ⟨hb1,hb2⟩:=bodyOf_len (o:=some it) (fun x e=>by cases e;exact hm);have hI:itemsB [it]=itemB it:=by simp [itemsB]
  have hB:(bodyOf (some it)).length=1+(itemB it).length:=by simp only [bodyOf,List.length_cons];omega
  have hr1:RowsEq 1 4 (flatRows 4 [Value.string it.key,Value.string it.val,Value.int .i64 it.e,Value.bool it.gone]) (encRows encItem [it]):=.of_cells fun i hi=>by
   have:i=0:=by omega
   subst this;rfl
  have hm1:∀ i,i < [it].length->mayB (gl [it] i)=true:=fun i hi=>by
   have:i=0:=by simp at hi;omega
   subst this;exact hm
  refine ⟨EncA.mk [it] 1,?_⟩
  (repeat' apply And.intro)<;>first|with_reducible (first|rfl|trivial|assumption)|omega|with_reducible (first|exact RowsEq.refl _ _ _|exact Nat.le_refl _)|(dsimp only [List.length_cons,List.length_nil]<;>omega)|exact hr1|exact hm1|exact Nat.le_refl _|decide|skip
  intro c _;rw [hI]
  repeat (first|refine And.intro (by omega) ?_|refine And.intro (by dsimp only;omega) ?_|refine And.intro (by simp only [InR];omega) ?_)
  intro cap q1 q2 q3;refine ⟨AddA.mk ⟨L,d,l⟩ ⟨H,y,x,xc⟩ (bodyOf (some it)) cap,?_⟩;have hr2:RowsEq (bodyOf (some it)).length 1 (appRows (flatRows 1 [Value.int .u8 1]) 0 1 fun (i j:Nat)=>encRows encB (itemB it) (0+i) j) (encRows encB (bodyOf (some it))):=⟨fun i hi j hj=>by
   have hj0:j=0:=by omega
   subst hj0;simp only [appRows,Nat.zero_add];by_cases h0:i<1
   ·have:i=0:=by omega
    subst this;rfl
   ·rw [if_neg h0];obtain ⟨q,rfl⟩:∃ q,i=q+1:=⟨i - 1,by omega⟩
    simp only [encRows,bodyOf,Nat.add_sub_cancel];congr 2⟩
  (repeat' apply And.intro)<;>first|with_reducible (first|rfl|trivial|assumption)|omega|with_reducible (first|exact RowsEq.refl _ _ _|exact Nat.le_refl _)|(dsimp only [List.length_cons,List.length_nil]<;>omega)|rfl|exact RowsEq.refl _ _ _|exact Nat.le_refl _|exact hr2|exact hat|exact hat.log|exact hat.idx|exact hok.log|exact hok.few|(dsimp only;omega)|skip
  rintro ⟨H1,y1,x1,xc1⟩ ⟨⟨g1,g2⟩,hfr⟩;dsimp only at g1 g2 hfr ⊢;refine ⟨Ix.PutA.mk x1 xc1 it.key L.next,?_⟩;have hn:=has_few g2;have hln:(addF ⟨L,d,l⟩ (bodyOf (some it))).l.length<=l.length:=List.length_filter_le _ _;have hfew:=hok.few;dsimp only at hfew;have hks:it.key.size<=lenMax:=by have:=may_out hm;simp only [lenMax];omega
  (repeat' apply And.intro)<;>first|with_reducible (first|rfl|trivial|assumption)|omega|with_reducible (first|exact RowsEq.refl _ _ _|exact Nat.le_refl _)|(dsimp only [List.length_cons,List.length_nil]<;>omega)|rfl|exact RowsEq.refl _ _ _|exact Nat.le_refl _|exact g2.inv|exact hks|(dsimp only;omega)|skip
  intro c2' _;refine ⟨⟨H1,y1,Ix.putX x1 it.key L.next,c2'⟩,?_⟩;have hp:=has_put (p:=L.next) g2 (by omega) hks
  (repeat' apply And.intro)<;>first|with_reducible (first|rfl|trivial|assumption)|omega|with_reducible (first|exact RowsEq.refl _ _ _|exact Nat.le_refl _)|(dsimp only [List.length_cons,List.length_nil]<;>omega)|rfl|exact RowsEq.refl _ _ _|exact Nat.le_refl _|exact g1|exact hp|exact hfr|exact ⟨g1,hp⟩)
theorem callFPut:CallsBy (Y Tryz.prog).G.X 18 cFPut:=fn_ok okY (tab:=[(43,cMay),(45,cEnc),(44,cAdd),(46,Ix.cPut)]) ⟨callMay,callEnc,callAdd,Ix.callPut,trivial⟩ bodyFPut
def EntIs (m:FlM) (key:ByteArray):Option ItemM->Prop
 | some x=>∃ p,(key,p)∈m.l/\readTo m.L.l p=some (bodyOf (some x))/\mayB x=true
 | none=>key∉m.l.map Prod.fst\/∃ p,(key,p)∈m.l/\(readTo m.L.l p=none\/readTo m.L.l p=some (bodyOf none))
structure FlRd (m:FlM):Prop where
 few:m.L.l.length<1000
 seg:∀ i,i<m.L.l.length->SortedR (gl m.L.l i).recs/\(gl m.L.l i).recs.length<=400/\∀ k,k<(gl m.L.l i).recs.length->1<=(gl (gl m.L.l i).recs k).body.length/\(gl (gl m.L.l i).recs k).body.length<=1000
 pos:∀ e∈m.l,0<=e.2/\e.2<1000000000000
structure FEntA where
 m:FlM
 p:FlP
 key:ByteArray
 r:Option ItemM
noncomputable def cFEnt:Con where
 α:=FEntA
 β:=Unit
 m:=7
 m':=7
 pre:=fun a=>FlAt a.m a.p/\FlRd a.m/\EntIs a.m a.key a.r/\a.key.size<=lenMax
 args:=fun a=>[.a (.ptr 0 0 0 0),.a (.str a.key)]
 hp:=fun _=>[]
 ro:=fun a=>flHp 0 1 2 3 4 5 6 a.m a.p
 post:=fun _ _=>True
 res:=fun a _=>.tup [.agg (itemA (a.r.getD zeroItem)),.a (.bool a.r.isSome)]
 hp':=fun _ _=>[]
set_option maxHeartbeats 4000000 in
theorem bodyFEnt:fnBody (Y Tryz.prog) [(73,Ix.cGet),(74,cLRead),(75,cFRead)] 51 cFEnt fun _=>[]:=fnBody.of (p :=
 ∀ a:FEntA,FlAt a.m a.p/\FlRd a.m/\EntIs a.m a.key a.r/\a.key.size<=lenMax->∃ a_2:Ix.KeyA,0=0/\a.key=a_2.key/\idxQ a.p.x a_2.x a.p.cap a_2.cap ((Ix.Inv a_2.x/\a_2.key.size<=lenMax)/\∀ b:Unit,True->((!(Ix.getI a_2.x a_2.key).snd)=true->∃ b:Unit,(ByteArray.mk #[])=(a.r.getD zeroItem).key/\(ByteArray.mk #[])=(a.r.getD zeroItem).val/\(0:Int)=(a.r.getD zeroItem).e/\false=(a.r.getD zeroItem).gone/\false=a.r.isSome/\True/\True)/\((!(Ix.getI a_2.x a_2.key).snd)=false->∃ a_5:LRdA,0=0/\(Ix.getI a_2.x a_2.key).fst=a_5.p/\0=0/\logQ a.m.L a_5.L a.p.y.lv a_5.y.lv (a.p.H=a_5.H/\(LogAt a_5.H a_5.y a_5.L/\a_5.L.l.length<1000/\(0:Int)<=a_5.p/\a_5.p<(1000000000000:Int)/\∀ i:Nat,i<a_5.L.l.length->SortedR (gl a_5.L.l i).recs/\(gl a_5.L.l i).recs.length<=400/\∀ k:Nat,k<(gl a_5.L.l i).recs.length->1<=(gl (gl a_5.L.l i).recs k).body.length/\(gl (gl a_5.L.l i).recs k).body.length<=1000)/\∀ b:Nat,((readTo a_5.L.l a_5.p).getD []).length<=b->((errOf (readTo a_5.L.l a_5.p) != (0:Int))=true->∃ b:Unit,(ByteArray.mk #[])=(a.r.getD zeroItem).key/\(ByteArray.mk #[])=(a.r.getD zeroItem).val/\(0:Int)=(a.r.getD zeroItem).e/\false=(a.r.getD zeroItem).gone/\false=a.r.isSome/\True/\True)/\((errOf (readTo a_5.L.l a_5.p) != (0:Int))=false->∃ a_8:FReadA,(0=0/\((readTo a_5.L.l a_5.p).getD []).length=(bodyOf a_8.o).length/\b=a_8.cap)/\((bodyOf a_8.o).length<=((readTo a_5.L.l a_5.p).getD []).length /\
 RowsEq (bodyOf a_8.o).length 1 (encRows encB ((readTo a_5.L.l a_5.p).getD [])) (encRows encB (bodyOf a_8.o)))/\((∀ x:ItemM,a_8.o=some x->mayB x=true)/\(bodyOf a_8.o).length<=a_8.cap)/\∀ b:Unit,True->∃ b:Unit,(a_8.o.getD zeroItem).key=(a.r.getD zeroItem).key/\(a_8.o.getD zeroItem).val=(a.r.getD zeroItem).val/\(a_8.o.getD zeroItem).e=(a.r.getD zeroItem).e/\(a_8.o.getD zeroItem).gone=(a.r.getD zeroItem).gone/\a_8.o.isSome=a.r.isSome/\True/\True))))) (by kernel_rfl) (by
 rintro ⟨⟨L,d,l⟩,⟨H,y,x,xc⟩,key,r⟩ ⟨⟨hl,hx⟩,hrd,hr,hks⟩;dsimp only at *;refine ⟨Ix.KeyA.mk x xc key,?_⟩
 (repeat' apply And.intro)<;>first|with_reducible (first|rfl|trivial|assumption)|omega|with_reducible (first|exact RowsEq.refl _ _ _|exact Nat.le_refl _)|(dsimp only [List.length_cons,List.length_nil]<;>omega)|rfl|exact RowsEq.refl _ _ _|exact Nat.le_refl _|exact hx.inv|exact hks|skip
 intro _ _;dsimp only;have hcase:(r=none/\Ix.getI x key=(0,false))\/∃ p,(key,p)∈l/\Ix.getI x key=(p,true)/\((r=none/\(readTo L.l p=none\/readTo L.l p=some (bodyOf none)))\/∃ it,r=some it/\readTo L.l p=some (bodyOf (some it))/\mayB it=true):=by
  cases r with
  | none =>
   rcases hr with hr | ⟨p,h1,h2⟩
   ·exact .inl ⟨rfl,Ix.get_none hx hr⟩
   ·exact .inr ⟨p,h1,Ix.get_there hx h1,.inl ⟨rfl,h2⟩⟩
  | some it =>
   obtain ⟨p,h1,h2,h3⟩:=hr;exact .inr ⟨p,h1,Ix.get_there hx h1,.inr ⟨it,rfl,h2,h3⟩⟩
 rcases hcase with ⟨rfl,hg⟩ | ⟨p,hm,hg,hc⟩
 ·rw [hg];refine ⟨fun _=>⟨(),?_⟩,fun c=>absurd c (by decide)⟩
  (repeat' apply And.intro)<;>first|with_reducible (first|rfl|trivial|assumption)|omega|with_reducible (first|exact RowsEq.refl _ _ _|exact Nat.le_refl _)|(dsimp only [List.length_cons,List.length_nil]<;>omega)|rfl|exact RowsEq.refl _ _ _|exact Nat.le_refl _
 ·rw [hg];refine ⟨fun c=>absurd c (show ¬ ((!true)=true) by decide),fun _=>⟨LRdA.mk H y L p,?_⟩⟩;obtain ⟨hp1,hp2⟩:=hrd.pos _ hm
  (repeat' apply And.intro)<;>first|with_reducible (first|rfl|trivial|assumption)|omega|with_reducible (first|exact RowsEq.refl _ _ _|exact Nat.le_refl _)|(dsimp only [List.length_cons,List.length_nil]<;>omega)|rfl|exact RowsEq.refl _ _ _|exact Nat.le_refl _|exact hl|exact hrd.few|exact hp1|exact hp2|exact hrd.seg|skip
  intro c hcap;dsimp only at hcap ⊢;rcases hc with ⟨rfl,hn|hn⟩ | ⟨it,rfl,hn,hmay⟩
  ·rw [hn];refine ⟨fun _=>⟨(),?_⟩,fun c=>absurd c (by decide)⟩
   (repeat' apply And.intro)<;>first|with_reducible (first|rfl|trivial|assumption)|omega|with_reducible (first|exact RowsEq.refl _ _ _|exact Nat.le_refl _)|(dsimp only [List.length_cons,List.length_nil]<;>omega)|rfl|exact RowsEq.refl _ _ _|exact Nat.le_refl _
  ·rw [hn] at hcap ⊢;refine ⟨fun c=>absurd c (by decide),fun _=>⟨FReadA.mk none c,?_⟩⟩;have hcap:(bodyOf none).length<=c:=hcap;have hno:∀ z:ItemM,(none:Option ItemM)=some z->mayB z=true:=fun z e=>by cases e
   (repeat' (first|apply And.intro|(intro _)|apply Exists.intro ()))<;>first|with_reducible (first|rfl|trivial|assumption)|omega|with_reducible (first|exact RowsEq.refl _ _ _|exact Nat.le_refl _)|(dsimp only [List.length_cons,List.length_nil]<;>omega)|rfl|exact RowsEq.refl _ _ _|exact Nat.le_refl _|exact hcap|exact hno _ (by assumption)
  ·rw [hn] at hcap ⊢;refine ⟨fun c=>absurd c (show ¬ ((errOf (some (bodyOf (some it))) != 0)=true) by simp [errOf]),fun _=>⟨FReadA.mk (some it) c,?_⟩⟩;have hcap:(bodyOf (some it)).length<=c:=hcap;have hno:∀ z:ItemM,some it=some z->mayB z=true:=fun z e=>by cases e;exact hmay
   (repeat' (first|apply And.intro|(intro _)|apply Exists.intro ()))<;>first|with_reducible (first|rfl|trivial|assumption)|omega|with_reducible (first|exact RowsEq.refl _ _ _|exact Nat.le_refl _)|(dsimp only [List.length_cons,List.length_nil]<;>omega)|rfl|exact RowsEq.refl _ _ _|exact Nat.le_refl _|exact hcap|exact hno _ (by assumption))
theorem callFEnt:CallsBy (Y Tryz.prog).G.X 51 cFEnt:=fn_ok okY (tab:=[(73,Ix.cGet),(74,cLRead),(75,cFRead)]) ⟨Ix.callGet,callLRead,callFRead,trivial⟩ bodyFEnt
def getR (r:Option ItemM) (now:Int):Option ItemM:=r.bind fun x=>if liveB x now then some x else none
structure FGetA where
 m:FlM
 p:FlP
 key:ByteArray
 now:Int
 r:Option ItemM
noncomputable def cFGet:Con where
 α:=FGetA
 β:=Unit
 m:=7
 m':=7
 pre:=fun a=>FlAt a.m a.p/\FlRd a.m/\EntIs a.m a.key a.r/\a.key.size<=lenMax
 args:=fun a=>[.a (.ptr 0 0 0 0),.a (.str a.key),.a (.int .i64 a.now)]
 hp:=fun _=>[]
 ro:=fun a=>flHp 0 1 2 3 4 5 6 a.m a.p
 post:=fun _ _=>True
 res:=fun a _=>.tup [.agg (itemA ((getR a.r a.now).getD zeroItem)),.a (.bool (getR a.r a.now).isSome)]
 hp':=fun _ _=>[]
set_option maxHeartbeats 4000000 in
theorem bodyFGet:fnBody (Y Tryz.prog) [(51,cFEnt),(52,cLive)] 25 cFGet fun _=>[]:=fnBody.of (p :=
 ∀ a:FGetA,FlAt a.m a.p/\FlRd a.m/\EntIs a.m a.key a.r/\a.key.size<=lenMax->∃ a_2:FEntA,0=0/\a.key=a_2.key/\0=0/\0=0/\0=0/\logQ a.m.L a_2.m.L a.p.y.lv a_2.p.y.lv (devQ a.m.d a_2.m.d (idxQ a.p.x a_2.p.x a.p.cap a_2.p.cap (a.p.H=a_2.p.H/\(FlAt a_2.m a_2.p/\FlRd a_2.m/\EntIs a_2.m a_2.key a_2.r/\a_2.key.size<=lenMax)/\∀ b:Unit,True->((!a_2.r.isSome)=true->∃ b:Unit,(ByteArray.mk #[])=((getR a.r a.now).getD zeroItem).key/\(ByteArray.mk #[])=((getR a.r a.now).getD zeroItem).val/\(0:Int)=((getR a.r a.now).getD zeroItem).e/\false=((getR a.r a.now).getD zeroItem).gone/\false=(getR a.r a.now).isSome/\True/\True)/\((!a_2.r.isSome)=false->∃ a_5:LiveA,(a_2.r.getD zeroItem).key=a_5.x.key/\(a_2.r.getD zeroItem).val=a_5.x.val/\(a_2.r.getD zeroItem).e=a_5.x.e/\(a_2.r.getD zeroItem).gone=a_5.x.gone/\a.now=a_5.now/\True/\∀ b:Unit,True->((!liveB a_5.x a_5.now)=true->∃ b:Unit,(ByteArray.mk #[])=((getR a.r a.now).getD zeroItem).key/\(ByteArray.mk #[])=((getR a.r a.now).getD zeroItem).val/\(0:Int)=((getR a.r a.now).getD zeroItem).e/\false=((getR a.r a.now).getD zeroItem).gone/\false=(getR a.r a.now).isSome/\True/\True)/\((!liveB a_5.x a_5.now)=false->∃ b:Unit,(a_2.r.getD zeroItem).key=((getR a.r a.now).getD zeroItem).key/\(a_2.r.getD zeroItem).val=((getR a.r a.now).getD zeroItem).val/\(a_2.r.getD zeroItem).e=((getR a.r a.now).getD zeroItem).e/\(a_2.r.getD zeroItem).gone=((getR a.r a.now).getD zeroItem).gone /\
 true=(getR a.r a.now).isSome/\True/\True)))))) (by kernel_rfl) (by
 rintro ⟨⟨L,d,l⟩,⟨H,y,x,xc⟩,key,now,r⟩ ⟨hat,hrd,hr,hks⟩;dsimp only at *;refine ⟨FEntA.mk ⟨L,d,l⟩ ⟨H,y,x,xc⟩ key r,?_⟩
 (repeat' apply And.intro)<;>first|with_reducible (first|rfl|trivial|assumption)|omega|with_reducible (first|exact RowsEq.refl _ _ _|exact Nat.le_refl _)|(dsimp only [List.length_cons,List.length_nil]<;>omega)|rfl|exact RowsEq.refl _ _ _|exact Nat.le_refl _|exact hat|exact hrd|exact hr|exact hks|skip
 intro _ _;dsimp only;cases r with
 | none =>
  refine ⟨fun _=>⟨(),?_⟩,fun c=>absurd c (by decide)⟩
  (repeat' apply And.intro)<;>first|with_reducible (first|rfl|trivial|assumption)|omega|with_reducible (first|exact RowsEq.refl _ _ _|exact Nat.le_refl _)|(dsimp only [List.length_cons,List.length_nil]<;>omega)|rfl|exact RowsEq.refl _ _ _|exact Nat.le_refl _
 | some it =>
  refine ⟨fun c=>absurd c (show ¬ ((!true)=true) by decide),fun _=>⟨LiveA.mk it now,rfl,rfl,rfl,rfl,rfl,trivial,fun _ _=>⟨fun c=>⟨(),?_⟩,fun c=>⟨(),?_⟩⟩⟩⟩
  ·have:getR (some it) now=none:=by
    have:liveB it now=false:=by simpa using c
    simp [getR,this]
   rw [this]
   (repeat' apply And.intro)<;>first|with_reducible (first|rfl|trivial|assumption)|omega|with_reducible (first|exact RowsEq.refl _ _ _|exact Nat.le_refl _)|(dsimp only [List.length_cons,List.length_nil]<;>omega)|rfl|exact RowsEq.refl _ _ _|exact Nat.le_refl _
  ·have:getR (some it) now=some it:=by
    have:liveB it now=true:=by simpa using c
    simp [getR,this]
   rw [this]
   (repeat' apply And.intro)<;>first|with_reducible (first|rfl|trivial|assumption)|omega|with_reducible (first|exact RowsEq.refl _ _ _|exact Nat.le_refl _)|(dsimp only [List.length_cons,List.length_nil]<;>omega)|rfl|exact RowsEq.refl _ _ _|exact Nat.le_refl _)
theorem callFGet:CallsBy (Y Tryz.prog).G.X 25 cFGet:=fn_ok okY (tab:=[(51,cFEnt),(52,cLive)]) ⟨callFEnt,callLive,trivial⟩ bodyFGet
end Go.Proofs.YtfhkbihcfmbbcaaGreat

namespace Go.Proofs.YtfhkbihcfmbbcaaGreat
open Go.Sx
set_option maxRecDepth 100000
set_option linter.unusedVariables false
set_option linter.unusedSimpArgs false
def S.fl (s:S) (c:Nat) (m:FlM) (p:FlP):S :=
 (fun (s3:S)=>(s3.put (s3.hp.del (plTag s3))).new (.pool p.H))
 ((fun (s1:S)=>((s1.put (s1.hp.del (s.in_ (s.in_ c 1) 0))).new (.arr 132 Ix.ksP p.x.t.length (encRows Ix.encP p.x.t))).at_ (s.in_ c 1) (.obj 128 [.slc s.nx 0 4 p.x.t.length p.cap,.int .i64 p.x.n,.int .i64 p.x.used]))
  (((s.at_ (s.in_ c 0) (logObj (s.in_ (s.in_ c 0) 0) m.L p.y.lv)).at_ (s.in_ (s.in_ c 0) 0) (.obj 83 [.slc (s.in_ (s.in_ (s.in_ c 0) 0) 0) 0 129 m.d.n m.d.n,.int .i64 m.d.calls])).at_ (s.in_ (s.in_ (s.in_ c 0) 0) 0) (.arr 86 ksSec m.d.n (rowsD m.d))))
def itemD (k:ByteArray):ItemM:=⟨k,.mk #[],0,true⟩
theorem itemD_may {k:ByteArray} (h:keyB k=true):mayB (itemD k)=true:=by
 simp only [mayB,itemD];rw [h];rfl
def dropF (m:FlM) (k:ByteArray):FlM:={ addF m (bodyOf (some (itemD k))) with l:=dropK (addF m (bodyOf (some (itemD k)))).l k }
def dropTo (m:FlM) (ks:List ByteArray):Nat->FlM
 | 0=>m
 | i+1=>dropF (dropTo m ks i) (gl ks i)
def allK (ks:List ByteArray):Bool:=ks.all keyB
def flushF (m:FlM):FlM:={ m with d:=devFl m.d }
def dropsF (m:FlM) (ks:List ByteArray):FlM:=if allK ks then flushF (dropTo m ks ks.length) else m
structure FDropA where
 m:FlM
 p:FlP
 ks:List ByteArray
 cap:Nat
noncomputable def cFDrop:Con where
 α:=FDropA
 β:=FlP
 m:=8
 m':=10
 pre:=fun a=>FlAt a.m a.p/\a.ks.length<1000/\(allK a.ks=true->(∀ i,i<a.ks.length->FlOk (dropTo a.m a.ks i) (bodyOf (some (itemD (gl a.ks i)))).length)/\(dropTo a.m a.ks a.ks.length).d.n<100000/\(dropTo a.m a.ks a.ks.length).d.calls<1000000000000)
 args:=fun a=>[.a (.ptr 0 0 0 0),.a (.slc 7 0 1 a.ks.length a.cap)]
 hp:=fun a=>flHp 0 1 2 3 4 5 6 a.m a.p
 ro:=fun a=>[(7,.arr 9 [.str] a.ks.length (encRows encT a.ks))]
 post:=fun a b=>FlAt (dropsF a.m a.ks) b/\FlFr a.p b
 res:=fun a b=>.a (.int .i64 (if allK a.ks then 0 else 1))
 hp':=fun a b=>flHp 0 1 2 3 4 8 9 (dropsF a.m a.ks) b
structure FDropS where
 i:Nat
 p:FlP
def iFDrop1 (a:FDropA):An:=.flat 4 Nat (fun s i=>s.int 15 i) (fun _ i=>i<=a.ks.length/\∀ j,j<i->keyB (gl a.ks j)=true) (fun _ i=>a.ks.length - i)
def iFDrop2 (a:FDropA):An:=.flat 10 FDropS (fun s x=>(S.fl s (s.tg 0) (dropTo a.m a.ks x.i) x.p).int 25 x.i) (fun _ x=>x.i<=a.ks.length/\allK a.ks=true/\FlAt (dropTo a.m a.ks x.i) x.p/\FlFr a.p x.p) (fun _ x=>a.ks.length - x.i)
def iFDropC (a:FDropA):An:=.mk 9 Unit (fun s _=>s) (fun _ _=>allK a.ks=true) (fun _ _=>0) fun _=>.mk 1000 [iFDrop2 a] []
noncomputable def tabFDrop:List (Nat × Con):=[(34,cKey),(45,cEnc),(44,cAdd),(59,Ix.cDrop),(72,cDevFlush)]
set_option maxHeartbeats 4000000 in
theorem bodyFDrop:fnBody (Y Tryz.prog) tabFDrop 35 cFDrop fun a=>[(35,[iFDrop1 a],[iFDropC a])]:=fnBody.of (p :=
 ∀ a:FDropA,FlAt a.m a.p/\a.ks.length<1000/\(allK a.ks=true->(∀ i:Nat,i<a.ks.length->FlOk (dropTo a.m a.ks i) (bodyOf (some (itemD (gl a.ks i)))).length)/\(dropTo a.m a.ks a.ks.length).d.n<100000/\(dropTo a.m a.ks a.ks.length).d.calls<1000000000000)->((∃ a_2:Nat,0=(↑a_2:Int)/\(↑a.ks.length:Int)=(↑a.ks.length:Int)/\(0=0/\a.ks.length=a.ks.length/\a.cap=a.cap)/\false=false/\(0:Int)=0/\0=0/\(0=0/\a.ks.length=a.ks.length/\a.cap=a.cap)/\0=0/\0=0/\0=0/\logQ a.m.L a.m.L a.p.y.lv a.p.y.lv (devQ a.m.d a.m.d (idxQ a.p.x a.p.x a.p.cap a.p.cap (a.p.H=a.p.H/\(a.ks.length<=a.ks.length/\RowsEq a.ks.length 1 (encRows encT a.ks) (encRows encT a.ks))/\(a_2<=a.ks.length/\∀ j:Nat,j<a_2->keyB (gl a.ks j)=true)/\True))))/\∀ a_2:Nat,(a_2<=a.ks.length/\∀ j:Nat,j<a_2->keyB (gl a.ks j)=true)->(decide ((↑a_2:Int)<(↑a.ks.length:Int))=true->(0<=(↑a_2:Int)/\(↑a_2:Int)<(↑a.ks.length:Int))/\0+(↑a_2:Int).toNat<a.ks.length/\∃ a_5:ByteArray,gl a.ks (0+(↑a_2:Int).toNat)=a_5/\True/\∀ b:Unit,True->((!keyB a_5)=true->∃ b:FlP,((1:Int)=if allK a.ks=true then (0:Int) else (1:Int))/\a.p.H=b.H/\0=0/\0=0/\0=0/\logQ a.m.L (dropsF a.m a.ks).L a.p.y.lv b.y.lv (devQ a.m.d (dropsF a.m a.ks).d (idxQ a.p.x b.x a.p.cap b.cap ((FlAt (dropsF a.m a.ks) b/\FlFr a.p b)/\True))))/\((!keyB a_5)=false->InR .i64 ((↑a_2:Int)+1)/\∃ (a':Nat),(↑a_2:Int)+1=(↑a':Int) /\
 (↑a.ks.length:Int)=(↑a.ks.length:Int)/\(0=0/\a.ks.length=a.ks.length/\a.cap=a.cap)/\false=false/\(0:Int)=0/\0=0/\(0=0/\a.ks.length=a.ks.length/\a.cap=a.cap)/\0=0/\0=0/\0=0/\logQ a.m.L a.m.L a.p.y.lv a.p.y.lv (devQ a.m.d a.m.d (idxQ a.p.x a.p.x a.p.cap a.p.cap (a.p.H=a.p.H/\(a.ks.length<=a.ks.length/\RowsEq a.ks.length 1 (encRows encT a.ks) (encRows encT a.ks))/\(a'<=a.ks.length/\∀ j:Nat,j<a'->keyB (gl a.ks j)=true)/\a.ks.length - a'<a.ks.length - a_2)))))/\(decide ((↑a_2:Int)<(↑a.ks.length:Int))=false->∃ a_5:Unit,false=false/\(0:Int)=0/\0=0/\(0=0/\a.ks.length=a.ks.length/\a.cap=a.cap)/\0=0/\0=0/\0=0/\logQ a.m.L a.m.L a.p.y.lv a.p.y.lv (devQ a.m.d a.m.d (idxQ a.p.x a.p.x a.p.cap a.p.cap (a.p.H=a.p.H/\(a.ks.length<=a.ks.length/\RowsEq a.ks.length 1 (encRows encT a.ks) (encRows encT a.ks))/\allK a.ks=true/\True)))))/\∀ a_2:Unit,allK a.ks=true->(∃ a_4:FDropS,0=(↑a_4.i:Int)/\(↑a.ks.length:Int)=(↑a.ks.length:Int)/\(0=0/\a.ks.length=a.ks.length/\a.cap=a.cap)/\false=false/\(0:Int)=0/\0=0/\(0=0/\a.ks.length=a.ks.length/\a.cap=a.cap)/\a.p.H=a_4.p.H/\0=0/\0=0/\0=0/\logQ a.m.L (dropTo a.m a.ks a_4.i).L a.p.y.lv a_4.p.y.lv (devQ a.m.d (dropTo a.m a.ks a_4.i).d ((0=0/\a.p.x.t.length=a_4.p.x.t.length/\a.p.cap=a_4.p.cap)/\(↑a.p.x.n:Int)=(↑a_4.p.x.n:Int)/\(↑a.p.x.used:Int)=(↑a_4.p.x.used:Int)/\(a.ks.length<=a.ks.length /\
 RowsEq a.ks.length 1 (encRows encT a.ks) (encRows encT a.ks))/\(a_4.p.x.t.length<=a.p.x.t.length/\RowsEq a_4.p.x.t.length 4 (encRows Ix.encP a.p.x.t) (encRows Ix.encP a_4.p.x.t))/\(a_4.i<=a.ks.length/\allK a.ks=true/\FlAt (dropTo a.m a.ks a_4.i) a_4.p/\FlFr a.p a_4.p)/\True)))/\∀ a_4:FDropS,a_4.i<=a.ks.length/\allK a.ks=true/\FlAt (dropTo a.m a.ks a_4.i) a_4.p/\FlFr a.p a_4.p->(decide ((↑a_4.i:Int)<(↑a.ks.length:Int))=true->(0<=(↑a_4.i:Int)/\(↑a_4.i:Int)<(↑a.ks.length:Int))/\0+(↑a_4.i:Int).toNat<a.ks.length/\∃ a_7:EncA,(0=0/\1=a_7.xs.length/\1=a_7.cap)/\(a_7.xs.length<=1/\RowsEq a_7.xs.length 4 (flatRows 4 [Value.string (gl a.ks (0+(↑a_4.i:Int).toNat)),Value.string (ByteArray.mk #[]),Value.int IntKind.i64 (0:Int),Value.bool true]) (encRows encItem a_7.xs))/\(1<=a_7.xs.length/\a_7.xs.length<20/\∀ i:Nat,i<a_7.xs.length->mayB (gl a_7.xs i)=true)/\∀ b:Nat,True->1<=1/\0+(itemsB a_7.xs).length<=(itemsB a_7.xs).length/\(1+(itemsB a_7.xs).length)*1<=140737488355328/\∀ cap:Nat,1+(itemsB a_7.xs).length<=cap->cap<=lenMax->(1+(itemsB a_7.xs).length<=1->cap=1)->∃ a_12:AddA,0=0/\(0=0/\1+(itemsB a_7.xs).length=a_12.body.length/\cap=a_12.cap)/\0=0/\0=0/\0=0/\logQ (dropTo a.m a.ks a_4.i).L a_12.m.L a_4.p.y.lv a_12.p.y.lv (devQ (dropTo a.m a.ks a_4.i).d a_12.m.d (idxQ a_4.p.x a_12.p.x a_4.p.cap a_12.p.cap (a_4.p.H=a_12.p.H/\(a_12.body.length<=1+(itemsB a_7.xs).length /\
 RowsEq a_12.body.length 1 (appRows (flatRows 1 [Value.int IntKind.u8 (1:Int)]) 0 1 fun (i j:Nat)=>encRows encB (itemsB a_7.xs) (0+i) j) (encRows encB a_12.body))/\(FlAt a_12.m a_12.p/\FlOk a_12.m a_12.body.length/\1<=a_12.body.length/\a_12.body.length<=300)/\∀ b:FlP,FlAt (addF a_12.m a_12.body) b/\FlFr a_12.p b->∃ a_14:Ix.KeyA,0=0/\gl a.ks (0+(↑a_4.i:Int).toNat)=a_14.key/\idxQ b.x a_14.x b.cap a_14.cap ((Ix.Inv a_14.x/\a_14.x.n<10000/\a_14.key.size<=lenMax/\((0:Int)<=(Ix.findP a_14.x.t a_14.key).fst->1<=a_14.x.n))/\∀ b_1:Unit,True->InR .i64 ((↑a_4.i:Int)+1)/\∃ (a':FDropS),(↑a_4.i:Int)+1=(↑a'.i:Int)/\(↑a.ks.length:Int)=(↑a.ks.length:Int)/\(0=0/\a.ks.length=a.ks.length/\a.cap=a.cap)/\false=false/\(0:Int)=0/\0=0/\(0=0/\a.ks.length=a.ks.length/\a.cap=a.cap)/\b.H=a'.p.H/\0=0/\0=0/\0=0/\logQ (addF a_12.m a_12.body).L (dropTo a.m a.ks a'.i).L b.y.lv a'.p.y.lv (devQ (addF a_12.m a_12.body).d (dropTo a.m a.ks a'.i).d ((0=0/\(Ix.dropI a_14.x a_14.key).t.length=a'.p.x.t.length/\a_14.cap=a'.p.cap)/\(↑(Ix.dropI a_14.x a_14.key).n:Int)=(↑a'.p.x.n:Int)/\(↑(Ix.dropI a_14.x a_14.key).used:Int)=(↑a'.p.x.used:Int)/\(a.ks.length<=a.ks.length/\RowsEq a.ks.length 1 (encRows encT a.ks) (encRows encT a.ks))/\(a'.p.x.t.length<=(Ix.dropI a_14.x a_14.key).t.length/\RowsEq a'.p.x.t.length 4 (encRows Ix.encP (Ix.dropI a_14.x a_14.key).t) (encRows Ix.encP a'.p.x.t)) /\
 (a'.i<=a.ks.length/\allK a.ks=true/\FlAt (dropTo a.m a.ks a'.i) a'.p/\FlFr a.p a'.p)/\a.ks.length - a'.i<a.ks.length - a_4.i)))))))/\(decide ((↑a_4.i:Int)<(↑a.ks.length:Int))=false->∃ a_7:DevM,0=0/\devQ (dropTo a.m a.ks a_4.i).d a_7 ((a_7.n<100000/\a_7.calls<1000000000000)/\∀ b:Unit,True->∃ b:FlP,((0:Int)=if allK a.ks=true then (0:Int) else (1:Int))/\a_4.p.H=b.H/\0=0/\0=0/\0=0/\logQ (dropTo a.m a.ks a_4.i).L (dropsF a.m a.ks).L a_4.p.y.lv b.y.lv (devQ (devFl a_7) (dropsF a.m a.ks).d (idxQ a_4.p.x b.x a_4.p.cap b.cap ((FlAt (dropsF a.m a.ks) b/\FlFr a.p b)/\True)))))) (by kernel_rfl) (by
 rintro ⟨⟨L,d,l⟩,⟨H,y,x,xc⟩,ks,kc⟩ ⟨hat,hk1,hok⟩;dsimp only at *;obtain ⟨m0,hm0⟩:∃ m0:FlM,m0=⟨L,d,l⟩:=⟨_,rfl⟩
 have hno:allK ks=false->dropsF ⟨L,d,l⟩ ks=⟨L,d,l⟩:=fun e=>if_neg (by rw [e];decide);have hyes:allK ks=true->dropsF m0 ks=flushF (dropTo m0 ks ks.length):=fun e=>if_pos e;refine ⟨⟨⟨0,?_⟩,fun i hi=>?_⟩,fun _ hall=>⟨⟨⟨0,⟨H,y,x,xc⟩⟩,?_⟩,fun z hz=>?_⟩⟩
 ·(repeat' apply And.intro)<;>first|with_reducible (first|rfl|trivial|assumption)|omega|with_reducible (first|exact RowsEq.refl _ _ _|exact Nat.le_refl _)|(dsimp only [List.length_cons,List.length_nil]<;>omega)|rfl|exact RowsEq.refl _ _ _|exact Nat.le_refl _|exact fun j hj=>absurd hj (Nat.not_lt_zero j)
 ·obtain ⟨hi,hkb⟩:=hi;simp only [Nat.zero_add,Int.toNat_natCast];refine ⟨fun c1=>?_,fun c1=>⟨(),?_⟩⟩
  ·have hi':i<ks.length:=by have:=of_decide_eq_true c1;omega
   refine ⟨by omega,by omega,gl ks i,rfl,trivial,fun _ _=>⟨fun c2=>⟨⟨H,y,x,xc⟩,?_⟩,fun c2=>⟨by simp only [InR];omega,i+1,?_⟩⟩⟩
   ·have hn:allK ks=false:=by
     have c2:keyB (gl ks i)=false:=by simpa using c2
     rw [Bool.eq_false_iff];intro h;have:=List.all_eq_true.1 h (gl ks i) (by rw [gl_eq hi'];exact List.getElem_mem _);rw [c2] at this;cases this
    rw [hno hn,hn]
    (repeat' apply And.intro)<;>first|with_reducible (first|rfl|trivial|assumption)|omega|with_reducible (first|exact RowsEq.refl _ _ _|exact Nat.le_refl _)|(dsimp only [List.length_cons,List.length_nil]<;>omega)|rfl|exact RowsEq.refl _ _ _|exact Nat.le_refl _|exact hat|exact fun z _ hn=>⟨rfl,hn⟩
   ·have c2:keyB (gl ks i)=true:=by simpa using c2
    have h1:∀ j,j<i+1->keyB (gl ks j)=true:=fun j hj=>by
     by_cases e:j=i
     ·rw [e];exact c2
     ·exact hkb j (by omega)
    (repeat' apply And.intro)<;>first|with_reducible (first|rfl|trivial|assumption)|omega|with_reducible (first|exact RowsEq.refl _ _ _|exact Nat.le_refl _)|(dsimp only [List.length_cons,List.length_nil]<;>omega)|rfl|exact RowsEq.refl _ _ _|exact Nat.le_refl _|exact h1
  ·have hi':i=ks.length:=by have:=of_decide_eq_false c1;omega
   have ha:allK ks=true:=List.all_eq_true.2 fun k hk=>by
    obtain ⟨j,hj,rfl⟩:=List.getElem_of_mem hk;rw [<- gl_eq hj];exact hkb j (by omega)
   (repeat' apply And.intro)<;>first|with_reducible (first|rfl|trivial|assumption)|omega|with_reducible (first|exact RowsEq.refl _ _ _|exact Nat.le_refl _)|(dsimp only [List.length_cons,List.length_nil]<;>omega)|rfl|exact RowsEq.refl _ _ _|exact Nat.le_refl _|exact ha
 ·(repeat' apply And.intro)<;>first|with_reducible (first|rfl|trivial|assumption)|omega|with_reducible (first|exact RowsEq.refl _ _ _|exact Nat.le_refl _)|(dsimp only [List.length_cons,List.length_nil]<;>omega)|rfl|exact RowsEq.refl _ _ _|exact Nat.le_refl _|exact hat|exact hall|exact fun z _ hn=>⟨rfl,hn⟩
 ·obtain ⟨i,⟨H1,y1,x1,xc1⟩⟩:=z;obtain ⟨hi,_,hat1,hfr1⟩:=hz;dsimp only at hi hat1 hfr1 ⊢;obtain ⟨hok1,hok2,hok3⟩:=hok hall;rw [<- hm0] at hok1 hok2 hok3 hat1 ⊢;have hstep:dropTo m0 ks (i+1)=dropF (dropTo m0 ks i) (gl ks i):=rfl;simp only [Nat.zero_add,Int.toNat_natCast];refine ⟨fun c1=>?_,fun c1=>?_⟩
  ·have hi':i<ks.length:=by have:=of_decide_eq_true c1;omega
   have hok1:=hok1 i hi';have hkey:keyB (gl ks i)=true:=List.all_eq_true.1 hall (gl ks i) (by rw [gl_eq hi'];exact List.getElem_mem _);obtain ⟨it,hit⟩:∃ it,it=itemD (gl ks i):=⟨_,rfl⟩
   have hm:mayB it=true:=by rw [hit];exact itemD_may hkey
   obtain ⟨M,hM⟩:∃ M,M=dropTo m0 ks i:=⟨_,rfl⟩
   rw [<- hM] at hok1 hat1 hstep ⊢;rw [<- hit] at hok1;have hdF:dropF M (gl ks i)={ addF M (bodyOf (some it)) with l:=dropK (addF M (bodyOf (some it))).l (gl ks i) }:=by rw [hit];rfl
   obtain ⟨hb1,hb2⟩:=bodyOf_len (o:=some it) (fun x e=>by cases e;exact hm);have hI:itemsB [it]=itemB it:=by simp [itemsB]
   have hB:(bodyOf (some it)).length=1+(itemB it).length:=by simp only [bodyOf,List.length_cons];omega
   have hr1:RowsEq 1 4 (flatRows 4 [Value.string (gl ks i),Value.string (ByteArray.mk #[]),Value.int .i64 0,Value.bool true]) (encRows encItem [it]):=.of_cells fun i hi=>by
    have:i=0:=by omega
    subst this;rw [hit];rfl
   have hm1:∀ i,i < [it].length->mayB (gl [it] i)=true:=fun i hi=>by
    have:i=0:=by simp at hi;omega
    subst this;exact hm
   refine ⟨by omega,by omega,EncA.mk [it] 1,?_⟩
   (repeat' apply And.intro)<;>first|with_reducible (first|rfl|trivial|assumption)|omega|with_reducible (first|exact RowsEq.refl _ _ _|exact Nat.le_refl _)|(dsimp only [List.length_cons,List.length_nil]<;>omega)|exact hr1|exact hm1|exact Nat.le_refl _|decide|skip
   intro c _;rw [hI]
   repeat (first|refine And.intro (by omega) ?_|refine And.intro (by dsimp only;omega) ?_|refine And.intro (by simp only [InR];omega) ?_)
   intro cap q1 q2 q3;refine ⟨AddA.mk M ⟨H1,y1,x1,xc1⟩ (bodyOf (some it)) cap,?_⟩;have hr2:RowsEq (bodyOf (some it)).length 1 (appRows (flatRows 1 [Value.int .u8 1]) 0 1 fun (i j:Nat)=>encRows encB (itemB it) (0+i) j) (encRows encB (bodyOf (some it))):=⟨fun i hi j hj=>by
    have hj0:j=0:=by omega
    subst hj0;simp only [appRows,Nat.zero_add];by_cases h0:i<1
    ·have:i=0:=by omega
     subst this;rfl
    ·rw [if_neg h0];obtain ⟨q,rfl⟩:∃ q,i=q+1:=⟨i - 1,by omega⟩
     simp only [encRows,bodyOf,Nat.add_sub_cancel];congr 2⟩
   simp only [Nat.zero_add] at hr2
   (repeat' apply And.intro)<;>first|with_reducible (first|rfl|trivial|assumption)|omega|with_reducible (first|exact RowsEq.refl _ _ _|exact Nat.le_refl _)|(dsimp only [List.length_cons,List.length_nil]<;>omega)|rfl|exact RowsEq.refl _ _ _|exact Nat.le_refl _|exact hr2|exact hat1|exact hat1.log|exact hat1.idx|exact hok1|exact hok1.log|exact hok1.few|(dsimp only;omega)|skip
   rintro ⟨H2,y2,x2,xc2⟩ ⟨⟨g1,g2⟩,hfr⟩;dsimp only at g1 g2 hfr ⊢;refine ⟨Ix.KeyA.mk x2 xc2 (gl ks i),?_⟩;have hn:=has_few g2;have hln:(addF M (bodyOf (some it))).l.length<=M.l.length:=List.length_filter_le _ _;have hfew:=hok1.few;have hks:(gl ks i).size<=lenMax:=by
    have h40:(gl ks i).size<=40:=by have:=(may_out hm).1;rw [hit] at this;exact this
    simp only [lenMax];omega
   obtain ⟨hd1,hd2⟩:=has_drop (k:=gl ks i) g2
   (repeat' apply And.intro)<;>first|with_reducible (first|rfl|trivial|assumption)|omega|with_reducible (first|exact RowsEq.refl _ _ _|exact Nat.le_refl _)|(dsimp only [List.length_cons,List.length_nil]<;>omega)|rfl|exact RowsEq.refl _ _ _|exact Nat.le_refl _|exact g2.inv|exact hks|exact hd2|(dsimp only;omega)|skip
   intro _ _;have hat2:FlAt (dropF M (gl ks i)) ⟨H2,y2,Ix.dropI x2 (gl ks i),xc2⟩:=by rw [hdF];exact ⟨g1,hd1⟩
   have hfr2:FlFr ⟨H,y,x,xc⟩ ⟨H2,y2,Ix.dropI x2 (gl ks i),xc2⟩:=fun z hz hn=>by
    obtain ⟨a1,a2⟩:=hfr1 z hz hn;obtain ⟨b1,b2⟩:=hfr z (by rw [a1];exact hz) a2;exact ⟨b1.trans a1,b2⟩
   refine ⟨by simp only [InR];omega,⟨i+1,⟨H2,y2,Ix.dropI x2 (gl ks i),xc2⟩⟩,?_⟩;dsimp only;rw [hstep];rw [hdF] at hat2 ⊢
   (repeat' apply And.intro)<;>first|with_reducible (first|rfl|trivial|assumption)|omega|with_reducible (first|exact RowsEq.refl _ _ _|exact Nat.le_refl _)|(dsimp only [List.length_cons,List.length_nil]<;>omega)|rfl|exact RowsEq.refl _ _ _|exact Nat.le_refl _|exact hat2|exact hfr2|exact hall|skip
  ·have hi':i=ks.length:=by have:=of_decide_eq_false c1;omega
   subst hi';have hat2:FlAt (flushF (dropTo m0 ks ks.length)) ⟨H1,y1,x1,xc1⟩:=⟨hat1.log,hat1.idx⟩
   refine ⟨(dropTo m0 ks ks.length).d,?_⟩;rw [hyes hall,hall]
   (repeat' apply And.intro)<;>first|with_reducible (first|rfl|trivial|assumption)|omega|with_reducible (first|exact RowsEq.refl _ _ _|exact Nat.le_refl _)|(dsimp only [List.length_cons,List.length_nil]<;>omega)|rfl|exact RowsEq.refl _ _ _|exact Nat.le_refl _|exact hok2|exact hok3|skip
   intro _ _;refine ⟨⟨H1,y1,x1,xc1⟩,?_⟩
   (repeat' apply And.intro)<;>first|with_reducible (first|rfl|trivial|assumption)|omega|with_reducible (first|exact RowsEq.refl _ _ _|exact Nat.le_refl _)|(dsimp only [List.length_cons,List.length_nil]<;>omega)|rfl|exact RowsEq.refl _ _ _|exact Nat.le_refl _|exact hat2|exact hfr1)
theorem callFDrop:CallsBy (Y Tryz.prog).G.X 35 cFDrop:=fn_ok okY (tab:=tabFDrop) ⟨callKey,callEnc,callAdd,Ix.callDrop,callDevFlush,trivial⟩ bodyFDrop
theorem newRowsN {n:Nat}:RowsEq n 4 (fun (x j:Nat)=>[Go.Value.string { data:=#[] },Go.Value.int Go.IntKind.i64 0,Go.Value.bool Bool.false,Go.Value.bool Bool.false].getD j (Go.Value.tuple #[])) (encRows Ix.encP (Ix.emptyI n).t):=by
 refine .of_cells fun i hi=>?_;unfold encRows;rw [show gl (Ix.emptyI n).t i=⟨.empty,0,false,false⟩ from Ix.gl_replicate hi];rfl
theorem newRows16:RowsEq 16 4 (fun (x j:Nat)=>[Go.Value.string { data:=#[] },Go.Value.int Go.IntKind.i64 0,Go.Value.bool Bool.false,Go.Value.bool Bool.false].getD j (Go.Value.tuple #[])) (encRows Ix.encP (Ix.emptyI 16).t):=newRowsN
noncomputable def cINew:Con where
 α:=Unit
 β:=Unit
 m:=0
 m':=2
 pre:=fun _=>True
 args:=fun _=>[]
 hp:=fun _=>[]
 ro:=fun _=>[]
 post:=fun _ _=>True
 res:=fun _ _=>.a (.ptr 0 0 0 0)
 hp':=fun _ _=>Ix.idxHp 0 1 (Ix.emptyI 16).t 16 (Ix.emptyI 16).n (Ix.emptyI 16).used
set_option maxHeartbeats 4000000 in
theorem bodyINew:fnBody (Y Tryz.prog) [] 88 cINew fun _=>[]:=fnBody.of (p :=
 ∀ a:Unit,True->(0:Int)<=16/\(16:Int)<=16/\(512:Int)<=281474976710656/\∃ b:Unit,0=0/\(0=0/\16=16/\16=16)/\(0:Int)=0/\(0:Int)=0/\(16<=16/\RowsEq 16 4 (fun (x j:Nat)=>[Value.string (ByteArray.mk #[]),Value.int IntKind.i64 (0:Int),Value.bool false,Value.bool false].getD j (Value.tuple #[])) (encRows Ix.encP (Ix.emptyI 16).t))/\True/\True) (by kernel_rfl) (by
 intro _ _;refine ⟨by omega,by omega,by omega,(),?_⟩
 (repeat' apply And.intro)<;>first|with_reducible (first|rfl|trivial|assumption)|omega|with_reducible (first|exact RowsEq.refl _ _ _|exact Nat.le_refl _)|(dsimp only [List.length_cons,List.length_nil]<;>omega)|rfl|exact RowsEq.refl _ _ _|exact Nat.le_refl _|exact newRows16)
theorem callINew:CallsBy (Y Tryz.prog).G.X 88 cINew:=fn_ok okY (tab:=[]) trivial bodyINew
def idxStep (l:List (ByteArray × Int)) (o:Option ItemM) (pos:Int):List (ByteArray × Int):=match o with
 | none=>[]
 | some x=>if x.gone then dropK l x.key else putK l x.key pos
def idxTo (es:List (Option ItemM)) (rs:List RecM):Nat->List (ByteArray × Int)
 | 0=>[]
 | i+1=>idxStep (idxTo es rs i) (gl es i) (gl rs i).pos
theorem idxTo_len (es:List (Option ItemM)) (rs:List RecM):∀ i,(idxTo es rs i).length<=i
 | 0=>Nat.le_refl _
 | i+1=>by
  have:=idxTo_len es rs i;show (idxStep _ _ _).length<=_;unfold idxStep;split
  ·simp
  ·split
   ·have:=dropK_len (idxTo es rs i) (by assumption:ItemM).key;omega
   ·have:=putK_len (idxTo es rs i) (by assumption:ItemM).key (gl rs i).pos;omega
theorem allR_at {l:List SegM} {i k:Nat} (hi:i<l.length) (hk:k<(gl l i).recs.length):∃ j,j<(allR l).length/\gl (allR l) j=gl (gl l i).recs k:=by
 have hm:gl (gl l i).recs k∈allR l:=List.mem_flatMap.2 ⟨gl l i,by rw [gl_eq hi];exact List.getElem_mem _,by rw [gl_eq hk];exact List.getElem_mem _⟩;obtain ⟨j,hj,e⟩:=List.getElem_of_mem hm;exact ⟨j,hj,by rw [gl_eq hj];exact e⟩
structure FOpenA where
 H:PH
 d:DevM
 from_:Nat
 segs:Nat
 es:List (Option ItemM)
def opnF (a:FOpenA):FlM:=⟨openM a.from_ a.segs a.d,a.d,idxTo a.es (allR (openM a.from_ a.segs a.d).l) a.es.length⟩
structure EsOk (es:List (Option ItemM)) (rs:List RecM):Prop where
 len:es.length=rs.length
 few:es.length<9000
 at_:∀ i,i<es.length->(gl rs i).body=bodyOf (gl es i)/\∀ x,gl es i=some x->mayB x=true
noncomputable def cFOpen:Con where
 α:=FOpenA
 β:=FlP
 m:=3
 m':=8
 pre:=fun a=>OpenOk a.from_ a.segs a.d/\EsOk a.es (allR (openM a.from_ a.segs a.d).l)/\∀ i,i<(openM a.from_ a.segs a.d).l.length->(gl (openM a.from_ a.segs a.d).l i).recs.length<=400
 args:=fun a=>[.a (.ptr 0 0 0 0),.a (.int .i64 a.from_),.a (.int .i64 a.segs)]
 hp:=fun a=>[(2,.pool a.H)]
 ro:=fun a=>devHp 0 1 a.d
 post:=fun a b=>FlAt (opnF a) b/\∀ z,a.H z≠none->b.H z=a.H z/\z∉fpLog b.y
 res:=fun a b=>.tup [.a (.ptr 3 0 0 0),.a (.lit .i64 0)]
 hp':=fun a b=>[(3,.obj 96 [.ptr 4 0 0 0,.ptr 5 0 0 0]),(4,logObj 0 (opnF a).L b.y.lv)]++Ix.idxHp 5 6 b.x.t b.cap b.x.n b.x.used++[(7,.pool b.H)]
structure FOpenS where
 i:Nat
 x:Ix.IdxR
 cap:Nat
def S.ix (s:S) (c:Nat) (x:Ix.IdxR) (cap:Nat):S :=
 (((s.put ((s.hp.del (s.in_ (s.in_ c 1) 0)).del (s.in_ c 1))).new (.arr 132 Ix.ksP x.t.length (encRows Ix.encP x.t))).new (.obj 128 [.slc s.nx 0 4 x.t.length cap,.int .i64 x.n,.int .i64 x.used])).at_ c (.obj 96 [.ptr (s.in_ c 0) 0 0 0,.ptr (s.nx+1) 0 0 0])
def iFOpen (a:FOpenA):An:=.flat 6 FOpenS (fun s z=>(S.ix s (s.tg 10) z.x z.cap).int 32 z.i) (fun _ z=>z.i<=a.es.length/\Ix.Has z.x (idxTo a.es (allR (openM a.from_ a.segs a.d).l) z.i)) (fun _ z=>a.es.length - z.i)
noncomputable def tabFOpen:List (Nat × Con):=[(85,cLOpen),(88,cINew),(86,cLAll),(75,cFReadV),(59,Ix.cDrop),(46,Ix.cPut)]
set_option maxHeartbeats 4000000 in
theorem bodyFOpen:fnBody (Y Tryz.prog) tabFOpen 63 cFOpen fun a=>[(63,[iFOpen a],[])]:=fnBody.of (p :=
 ∀ a:FOpenA,(OpenOk a.from_ a.segs a.d/\EsOk a.es (allR (openM a.from_ a.segs a.d).l)/\∀ i:Nat,i<(openM a.from_ a.segs a.d).l.length->(gl (openM a.from_ a.segs a.d).l i).recs.length<=400)->∃ a_2:OpA,0=0/\(↑a.from_:Int)=(↑a_2.from_:Int)/\(↑a.segs:Int)=(↑a_2.segs:Int)/\a.H=a_2.H/\devQ a.d a_2.d (OpenOk a_2.from_ a_2.segs a_2.d/\∀ b:BegB,(LogAt b.H b.y (openM a_2.from_ a_2.segs a_2.d)/\∀ x:Nat,a_2.H x≠none->b.H x=a_2.H x/\¬x∈fpLog b.y)->∃ a_4:Unit,True/\∀ b_1:Unit,True->∃ a_6:LAllA,0=0/\b.H=a_6.H/\0=0/\logQ (openM a_2.from_ a_2.segs a_2.d) a_6.L b.y.lv a_6.y.lv ((LogAt a_6.H a_6.y a_6.L/\a_6.L.l.length<1000/\∀ i:Nat,i<a_6.L.l.length->(gl a_6.L.l i).recs.length<=400/\∀ k:Nat,k<(gl a_6.L.l i).recs.length->1<=(gl (gl a_6.L.l i).recs k).body.length/\(gl (gl a_6.L.l i).recs k).body.length<=1000)/\∀ b_2:LAllB,(OutAt b_2.H b_2.v b_2.vs (allR a_6.L.l)/\∀ z:Nat,a_6.H z≠none->b_2.H z=a_6.H z/\¬z∈fpV b_2.v/\¬z∈List.flatMap fpV b_2.vs)->(∃ a:Option Go.Addr,∃ l c:Nat,b_2.v=Value.slice a l c/\l<=lenMax)/\(∃ a_8:FOpenS,0=(↑a_8.i:Int)/\(↑(slLen b_2.v):Int)=(↑(slLen b_2.v):Int)/\b_2.v=b_2.v/\0=0/\false=false/\(0:Int)=0/\0=0/\(0:Int)=0/\0=0/\(↑a.from_:Int)=(↑a.from_:Int)/\(↑a.segs:Int)=(↑a.segs:Int)/\b_2.H=b_2.H/\0=0/\0=0/\0=0/\logQ (openM a_2.from_ a_2.segs a_2.d) (openM a_2.from_ a_2.segs a_2.d) b.y.lv b.y.lv (devQ a.d a.d ((0=0 /\
 16=a_8.x.t.length/\16=a_8.cap)/\0=(↑a_8.x.n:Int)/\0=(↑a_8.x.used:Int)/\(a_8.x.t.length<=16/\RowsEq a_8.x.t.length 4 (encRows Ix.encP (Ix.emptyI 16).t) (encRows Ix.encP a_8.x.t))/\(a_8.i<=a.es.length/\Ix.Has a_8.x (idxTo a.es (allR (openM a.from_ a.segs a.d).l) a_8.i))/\True)))/\∀ a_8:FOpenS,a_8.i<=a.es.length/\Ix.Has a_8.x (idxTo a.es (allR (openM a.from_ a.segs a.d).l) a_8.i)->(decide ((↑a_8.i:Int)<(↑(slLen b_2.v):Int))=true->∃ b_3 o:Nat,∃ l c:Nat,b_2.v=slv b_3 o l c/\(0<=(↑a_8.i:Int)/\(↑a_8.i:Int)<(↑l:Int))/\∃ b_4 lo o_1:Nat,∃ cs:List Value,pv b_3 (o+(↑a_8.i:Int).toNat*2)=pv b_4 (lo+o_1)/\b_2.H b_4=some (lo,cs)/\((∃ v:Value,cs[o_1]? = some v/\∃ n:Int,v=Value.int IntKind.i64 n/\InR .i64 n)/\(∃ v:Value,cs[o_1+1]? = some v/\v.oneCell'=true)/\True)/\∃ a_11:V1 cFRead.α,cs.getD (o_1+1) (Value.tuple #[])=a_11.3/\b_2.H=a_11.2/\(((∀ x:ItemM,a_11.1.o=some x->mayB x=true)/\(bodyOf a_11.1.o).length<=a_11.1.cap)/\slAt a_11.2 a_11.3 [CK.int IntKind.u8] (slFRead a_11.1).3 (slFRead a_11.1).4 (slFRead a_11.1).5)/\∀ b_5:cFRead.β,True->(∃ a:Option Go.Addr,∃ l c:Nat,cs.getD (o_1+1) (Value.tuple #[])=Value.slice a l c/\l<=lenMax)/\(((↑(slLen (cs.getD (o_1+1) (Value.tuple #[]))):Int) == 1)=true->∃ b_6 o:Nat,∃ l c:Nat,cs.getD (o_1+1) (Value.tuple #[])=slv b_6 o l c/\((0:Int)<=0/\0<(↑l:Int))/\∃ b_7 lo o_2:Nat,∃ cs_1:List Value,pv b_6 (o+0)=pv b_7 (lo+o_2) /\
 b_2.H b_7=some (lo,cs_1)/\((∃ v:Value,cs_1[o_2]? = some v/\∃ n:Int,v=Value.int IntKind.u8 n/\InR .u8 n)/\True)/\(InR .u8 (toI (cs_1.getD o_2 (Value.tuple #[])))->((toI (cs_1.getD o_2 (Value.tuple #[])) == (2:Int))=true->∃ a_16:Unit,True/\∀ b_8:Unit,True->InR .i64 ((↑a_8.i:Int)+1)/\∃ (a':FOpenS),(↑a_8.i:Int)+1=(↑a'.i:Int)/\(↑(slLen b_2.v):Int)=(↑(slLen b_2.v):Int)/\b_2.v=b_2.v/\0=0/\false=false/\(0:Int)=0/\0=0/\(0:Int)=0/\0=0/\(↑a.from_:Int)=(↑a.from_:Int)/\(↑a.segs:Int)=(↑a.segs:Int)/\b_2.H=b_2.H/\0=0/\0=0/\0=0/\logQ (openM a_2.from_ a_2.segs a_2.d) (openM a_2.from_ a_2.segs a_2.d) b.y.lv b.y.lv (devQ a.d a.d ((0=0/\16=a'.x.t.length/\16=a'.cap)/\0=(↑a'.x.n:Int)/\0=(↑a'.x.used:Int)/\(a'.x.t.length<=16/\RowsEq a'.x.t.length 4 (encRows Ix.encP (Ix.emptyI 16).t) (encRows Ix.encP a'.x.t))/\(a'.i<=a.es.length/\Ix.Has a'.x (idxTo a.es (allR (openM a.from_ a.segs a.d).l) a'.i))/\a.es.length - a'.i<a.es.length - a_8.i)))/\((toI (cs_1.getD o_2 (Value.tuple #[])) == (2:Int))=false->(a_11.1.o.isSome=true->((a_11.1.o.getD zeroItem).gone=true->∃ a_18:Ix.KeyA,0=0/\(a_11.1.o.getD zeroItem).key=a_18.key/\idxQ a_8.x a_18.x a_8.cap a_18.cap ((Ix.Inv a_18.x/\a_18.x.n<10000/\a_18.key.size<=lenMax/\((0:Int)<=(Ix.findP a_18.x.t a_18.key).fst->1<=a_18.x.n))/\∀ b_8:Unit,True->InR .i64 ((↑a_8.i:Int)+1)/\∃ (a':FOpenS),(↑a_8.i:Int)+1=(↑a'.i:Int) /\
 (↑(slLen b_2.v):Int)=(↑(slLen b_2.v):Int)/\b_2.v=b_2.v/\0=0/\false=false/\(0:Int)=0/\0=0/\(0:Int)=0/\0=0/\(↑a.from_:Int)=(↑a.from_:Int)/\(↑a.segs:Int)=(↑a.segs:Int)/\b_2.H=b_2.H/\0=0/\0=0/\0=0/\logQ (openM a_2.from_ a_2.segs a_2.d) (openM a_2.from_ a_2.segs a_2.d) b.y.lv b.y.lv (devQ a.d a.d (idxQ (Ix.dropI a_18.x a_18.key) a'.x a_18.cap a'.cap ((a'.i<=a.es.length/\Ix.Has a'.x (idxTo a.es (allR (openM a.from_ a.segs a.d).l) a'.i))/\a.es.length - a'.i<a.es.length - a_8.i)))))/\((a_11.1.o.getD zeroItem).gone=false->(a_11.1.o.isSome=true->InR .i64 (toI (cs.getD o_1 (Value.tuple #[])))->∃ a_20:Ix.PutA,0=0/\(a_11.1.o.getD zeroItem).key=a_20.key/\toI (cs.getD o_1 (Value.tuple #[]))=a_20.pos/\idxQ a_8.x a_20.x a_8.cap a_20.cap ((Ix.Inv a_20.x/\a_20.x.n<9999/\a_20.key.size<=lenMax)/\∀ b_8:Nat,True->InR .i64 ((↑a_8.i:Int)+1)/\∃ (a':FOpenS),(↑a_8.i:Int)+1=(↑a'.i:Int)/\(↑(slLen b_2.v):Int)=(↑(slLen b_2.v):Int)/\b_2.v=b_2.v/\0=0/\false=false/\(0:Int)=0/\0=0/\(0:Int)=0/\0=0/\(↑a.from_:Int)=(↑a.from_:Int)/\(↑a.segs:Int)=(↑a.segs:Int)/\b_2.H=b_2.H/\0=0/\0=0/\0=0/\logQ (openM a_2.from_ a_2.segs a_2.d) (openM a_2.from_ a_2.segs a_2.d) b.y.lv b.y.lv (devQ a.d a.d (idxQ (Ix.putX a_20.x a_20.key a_20.pos) a'.x b_8 a'.cap ((a'.i<=a.es.length/\Ix.Has a'.x (idxTo a.es (allR (openM a.from_ a.segs a.d).l) a'.i))/\a.es.length - a'.i<a.es.length - a_8.i))))) /\
 (a_11.1.o.isSome=false->InR .i64 ((↑a_8.i:Int)+1)/\∃ (a':FOpenS),(↑a_8.i:Int)+1=(↑a'.i:Int)/\(↑(slLen b_2.v):Int)=(↑(slLen b_2.v):Int)/\b_2.v=b_2.v/\0=0/\false=false/\(0:Int)=0/\0=0/\(0:Int)=0/\0=0/\(↑a.from_:Int)=(↑a.from_:Int)/\(↑a.segs:Int)=(↑a.segs:Int)/\b_2.H=b_2.H/\0=0/\0=0/\0=0/\logQ (openM a_2.from_ a_2.segs a_2.d) (openM a_2.from_ a_2.segs a_2.d) b.y.lv b.y.lv (devQ a.d a.d (idxQ a_8.x a'.x a_8.cap a'.cap ((a'.i<=a.es.length/\Ix.Has a'.x (idxTo a.es (allR (openM a.from_ a.segs a.d).l) a'.i))/\a.es.length - a'.i<a.es.length - a_8.i))))))/\(a_11.1.o.isSome=false->(a_11.1.o.isSome=true->InR .i64 (toI (cs.getD o_1 (Value.tuple #[])))->∃ a_19:Ix.PutA,0=0/\(a_11.1.o.getD zeroItem).key=a_19.key/\toI (cs.getD o_1 (Value.tuple #[]))=a_19.pos/\idxQ a_8.x a_19.x a_8.cap a_19.cap ((Ix.Inv a_19.x/\a_19.x.n<9999/\a_19.key.size<=lenMax)/\∀ b_8:Nat,True->InR .i64 ((↑a_8.i:Int)+1)/\∃ (a':FOpenS),(↑a_8.i:Int)+1=(↑a'.i:Int)/\(↑(slLen b_2.v):Int)=(↑(slLen b_2.v):Int)/\b_2.v=b_2.v/\0=0/\false=false/\(0:Int)=0/\0=0/\(0:Int)=0/\0=0/\(↑a.from_:Int)=(↑a.from_:Int)/\(↑a.segs:Int)=(↑a.segs:Int)/\b_2.H=b_2.H/\0=0/\0=0/\0=0/\logQ (openM a_2.from_ a_2.segs a_2.d) (openM a_2.from_ a_2.segs a_2.d) b.y.lv b.y.lv (devQ a.d a.d (idxQ (Ix.putX a_19.x a_19.key a_19.pos) a'.x b_8 a'.cap ((a'.i<=a.es.length/\Ix.Has a'.x (idxTo a.es (allR (openM a.from_ a.segs a.d).l) a'.i)) /\
 a.es.length - a'.i<a.es.length - a_8.i)))))/\(a_11.1.o.isSome=false->InR .i64 ((↑a_8.i:Int)+1)/\∃ (a':FOpenS),(↑a_8.i:Int)+1=(↑a'.i:Int)/\(↑(slLen b_2.v):Int)=(↑(slLen b_2.v):Int)/\b_2.v=b_2.v/\0=0/\false=false/\(0:Int)=0/\0=0/\(0:Int)=0/\0=0/\(↑a.from_:Int)=(↑a.from_:Int)/\(↑a.segs:Int)=(↑a.segs:Int)/\b_2.H=b_2.H/\0=0/\0=0/\0=0/\logQ (openM a_2.from_ a_2.segs a_2.d) (openM a_2.from_ a_2.segs a_2.d) b.y.lv b.y.lv (devQ a.d a.d (idxQ a_8.x a'.x a_8.cap a'.cap ((a'.i<=a.es.length/\Ix.Has a'.x (idxTo a.es (allR (openM a.from_ a.segs a.d).l) a'.i))/\a.es.length - a'.i<a.es.length - a_8.i))))))))/\(((↑(slLen (cs.getD (o_1+1) (Value.tuple #[]))):Int) == 1)=false->(a_11.1.o.isSome=true->((a_11.1.o.getD zeroItem).gone=true->∃ a_16:Ix.KeyA,0=0/\(a_11.1.o.getD zeroItem).key=a_16.key/\idxQ a_8.x a_16.x a_8.cap a_16.cap ((Ix.Inv a_16.x/\a_16.x.n<10000/\a_16.key.size<=lenMax/\((0:Int)<=(Ix.findP a_16.x.t a_16.key).fst->1<=a_16.x.n))/\∀ b_6:Unit,True->InR .i64 ((↑a_8.i:Int)+1)/\∃ (a':FOpenS),(↑a_8.i:Int)+1=(↑a'.i:Int)/\(↑(slLen b_2.v):Int)=(↑(slLen b_2.v):Int)/\b_2.v=b_2.v/\0=0/\false=false/\(0:Int)=0/\0=0/\(0:Int)=0/\0=0/\(↑a.from_:Int)=(↑a.from_:Int)/\(↑a.segs:Int)=(↑a.segs:Int)/\b_2.H=b_2.H/\0=0/\0=0/\0=0/\logQ (openM a_2.from_ a_2.segs a_2.d) (openM a_2.from_ a_2.segs a_2.d) b.y.lv b.y.lv (devQ a.d a.d (idxQ (Ix.dropI a_16.x a_16.key) a'.x a_16.cap a'.cap ((a'.i<=a.es.length /\
 Ix.Has a'.x (idxTo a.es (allR (openM a.from_ a.segs a.d).l) a'.i))/\a.es.length - a'.i<a.es.length - a_8.i)))))/\((a_11.1.o.getD zeroItem).gone=false->(a_11.1.o.isSome=true->InR .i64 (toI (cs.getD o_1 (Value.tuple #[])))->∃ a_18:Ix.PutA,0=0/\(a_11.1.o.getD zeroItem).key=a_18.key/\toI (cs.getD o_1 (Value.tuple #[]))=a_18.pos/\idxQ a_8.x a_18.x a_8.cap a_18.cap ((Ix.Inv a_18.x/\a_18.x.n<9999/\a_18.key.size<=lenMax)/\∀ b_6:Nat,True->InR .i64 ((↑a_8.i:Int)+1)/\∃ (a':FOpenS),(↑a_8.i:Int)+1=(↑a'.i:Int)/\(↑(slLen b_2.v):Int)=(↑(slLen b_2.v):Int)/\b_2.v=b_2.v/\0=0/\false=false/\(0:Int)=0/\0=0/\(0:Int)=0/\0=0/\(↑a.from_:Int)=(↑a.from_:Int)/\(↑a.segs:Int)=(↑a.segs:Int)/\b_2.H=b_2.H/\0=0/\0=0/\0=0/\logQ (openM a_2.from_ a_2.segs a_2.d) (openM a_2.from_ a_2.segs a_2.d) b.y.lv b.y.lv (devQ a.d a.d (idxQ (Ix.putX a_18.x a_18.key a_18.pos) a'.x b_6 a'.cap ((a'.i<=a.es.length/\Ix.Has a'.x (idxTo a.es (allR (openM a.from_ a.segs a.d).l) a'.i))/\a.es.length - a'.i<a.es.length - a_8.i)))))/\(a_11.1.o.isSome=false->InR .i64 ((↑a_8.i:Int)+1)/\∃ (a':FOpenS),(↑a_8.i:Int)+1=(↑a'.i:Int)/\(↑(slLen b_2.v):Int)=(↑(slLen b_2.v):Int)/\b_2.v=b_2.v/\0=0/\false=false/\(0:Int)=0/\0=0/\(0:Int)=0/\0=0/\(↑a.from_:Int)=(↑a.from_:Int)/\(↑a.segs:Int)=(↑a.segs:Int)/\b_2.H=b_2.H/\0=0/\0=0/\0=0/\logQ (openM a_2.from_ a_2.segs a_2.d) (openM a_2.from_ a_2.segs a_2.d) b.y.lv b.y.lv (devQ a.d a.d (idxQ a_8.x a'.x a_8.cap a'.cap ((a'.i<=a.es.length /\
 Ix.Has a'.x (idxTo a.es (allR (openM a.from_ a.segs a.d).l) a'.i))/\a.es.length - a'.i<a.es.length - a_8.i))))))/\(a_11.1.o.isSome=false->(a_11.1.o.isSome=true->InR .i64 (toI (cs.getD o_1 (Value.tuple #[])))->∃ a_17:Ix.PutA,0=0/\(a_11.1.o.getD zeroItem).key=a_17.key/\toI (cs.getD o_1 (Value.tuple #[]))=a_17.pos/\idxQ a_8.x a_17.x a_8.cap a_17.cap ((Ix.Inv a_17.x/\a_17.x.n<9999/\a_17.key.size<=lenMax)/\∀ b_6:Nat,True->InR .i64 ((↑a_8.i:Int)+1)/\∃ (a':FOpenS),(↑a_8.i:Int)+1=(↑a'.i:Int)/\(↑(slLen b_2.v):Int)=(↑(slLen b_2.v):Int)/\b_2.v=b_2.v/\0=0/\false=false/\(0:Int)=0/\0=0/\(0:Int)=0/\0=0/\(↑a.from_:Int)=(↑a.from_:Int)/\(↑a.segs:Int)=(↑a.segs:Int)/\b_2.H=b_2.H/\0=0/\0=0/\0=0/\logQ (openM a_2.from_ a_2.segs a_2.d) (openM a_2.from_ a_2.segs a_2.d) b.y.lv b.y.lv (devQ a.d a.d (idxQ (Ix.putX a_17.x a_17.key a_17.pos) a'.x b_6 a'.cap ((a'.i<=a.es.length/\Ix.Has a'.x (idxTo a.es (allR (openM a.from_ a.segs a.d).l) a'.i))/\a.es.length - a'.i<a.es.length - a_8.i)))))/\(a_11.1.o.isSome=false->InR .i64 ((↑a_8.i:Int)+1)/\∃ (a':FOpenS),(↑a_8.i:Int)+1=(↑a'.i:Int)/\(↑(slLen b_2.v):Int)=(↑(slLen b_2.v):Int)/\b_2.v=b_2.v/\0=0/\false=false/\(0:Int)=0/\0=0/\(0:Int)=0/\0=0/\(↑a.from_:Int)=(↑a.from_:Int)/\(↑a.segs:Int)=(↑a.segs:Int)/\b_2.H=b_2.H/\0=0/\0=0/\0=0/\logQ (openM a_2.from_ a_2.segs a_2.d) (openM a_2.from_ a_2.segs a_2.d) b.y.lv b.y.lv (devQ a.d a.d (idxQ a_8.x a'.x a_8.cap a'.cap ((a'.i<=a.es.length /\
 Ix.Has a'.x (idxTo a.es (allR (openM a.from_ a.segs a.d).l) a'.i))/\a.es.length - a'.i<a.es.length - a_8.i)))))))/\(decide ((↑a_8.i:Int)<(↑(slLen b_2.v):Int))=false->∃ b_3:FlP,0=0/\(0:Int)=0/\0=0/\0=0/\0=0/\logQ (openM a_2.from_ a_2.segs a_2.d) (opnF a).L b.y.lv b_3.y.lv (idxQ a_8.x b_3.x a_8.cap b_3.cap (b_2.H=b_3.H/\(FlAt (opnF a) b_3/\∀ z:Nat,a.H z≠none->b_3.H z=a.H z/\¬z∈fpLog b_3.y)/\True)))))) (by kernel_rfl) (by
 rintro ⟨H,d,fr,sg,es⟩ ⟨ok,hes,hsl⟩;dsimp only at *;obtain ⟨L,hL⟩:∃ L,L=openM fr sg d:=⟨_,rfl⟩
 have hone:L.l.length<=1:=by rw [hL];exact ok.one
 have hopn:opnF ⟨H,d,fr,sg,es⟩=⟨L,d,idxTo es (allR L.l) es.length⟩:=by rw [hL];rfl
 rw [hopn];rw [<- hL] at hes hsl;refine ⟨OpA.mk H d fr sg,?_⟩;dsimp only;rw [<- hL]
 (repeat' apply And.intro)<;>first|with_reducible (first|rfl|trivial|assumption)|omega|with_reducible (first|exact RowsEq.refl _ _ _|exact Nat.le_refl _)|(dsimp only [List.length_cons,List.length_nil]<;>omega)|rfl|exact RowsEq.refl _ _ _|exact Nat.le_refl _|exact ok|skip
 rintro ⟨H1,y1⟩ ⟨hl1,hf1⟩;dsimp only at hl1 hf1 ⊢;refine ⟨(),trivial,fun _ _=>⟨LAllA.mk H1 y1 L,?_⟩⟩;have hrec:∀ i,i<L.l.length->(gl L.l i).recs.length<=400/\∀ k,k<(gl L.l i).recs.length->1<=(gl (gl L.l i).recs k).body.length/\(gl (gl L.l i).recs k).body.length<=1000:=fun i hi=>⟨hsl i hi,fun k hk=>by
  obtain ⟨j,hj,e⟩:=allR_at hi hk;obtain ⟨e1,e2⟩:=hes.at_ j (by rw [hes.len];exact hj);rw [<- e,e1];have:=bodyOf_len e2;omega⟩
 (repeat' apply And.intro)<;>first|with_reducible (first|rfl|trivial|assumption)|omega|with_reducible (first|exact RowsEq.refl _ _ _|exact Nat.le_refl _)|(dsimp only [List.length_cons,List.length_nil]<;>omega)|rfl|exact RowsEq.refl _ _ _|exact Nat.le_refl _|exact hl1|exact hrec|(dsimp only;omega)|skip
 rintro ⟨H2,v,vs⟩ ⟨hout,hf2⟩;dsimp only at hout hf2 ⊢;obtain ⟨cr,hrows⟩:=hout.rows;obtain ⟨s1,s2,s3,s4,s5,⟨sa,s6⟩,s7⟩:=slAt_len hrows;have hlen:=hes.len;have hfew:=hes.few;have hlog:LogAt H2 y1 L:=hl1.frame fun z hz=>(hf2 z (hl1.dom z hz)).1;have hfin:∀ z,H z≠none->H2 z=H z/\¬ z∈fpLog y1:=fun z hz=>by
  obtain ⟨a1,a2⟩:=hf1 z hz;exact ⟨(hf2 z (by rw [a1];exact hz)).1.trans a1,a2⟩
 refine ⟨⟨sa,_,_,s6,by simp only [lenMax];omega⟩,⟨⟨0,Ix.emptyI 16,16⟩,?_⟩,fun q hq=>?_⟩
 ·have h0:Ix.Has (Ix.emptyI 16) (idxTo es (allR L.l) 0):=Ix.empty_has (by omega) (by omega)
  (repeat' apply And.intro)<;>first|with_reducible (first|rfl|trivial|assumption)|omega|with_reducible (first|exact RowsEq.refl _ _ _|exact Nat.le_refl _)|(dsimp only [List.length_cons,List.length_nil]<;>omega)|rfl|exact RowsEq.refl _ _ _|exact Nat.le_refl _|exact h0
 ·obtain ⟨i,x,xc⟩:=q;obtain ⟨hi,hx⟩:=hq;dsimp only at hi hx ⊢;have hxl:(idxTo es (allR L.l) i).length<=i:=idxTo_len es (allR L.l) i;have hn:=has_few hx;have hstep:idxTo es (allR L.l) (i+1)=idxStep (idxTo es (allR L.l) i) (gl es i) (gl (allR L.l) i).pos:=rfl;rw [s1];refine ⟨fun c1=>?_,fun c1=>⟨⟨H2,y1,x,xc⟩,?_⟩⟩
  ·have hi':i<es.length:=by have:=of_decide_eq_true c1;omega
   obtain ⟨b',lo',o',cs',q1,q2,q3,q4,q5,q6,q7,q8⟩:=rec_at hrows (k:=i) (by omega);obtain ⟨cb,hbody⟩:=hout.body i (by omega);obtain ⟨e1,e2⟩:=hes.at_ i hi';rw [e1] at hbody;obtain ⟨w1,w2,w3,w4,w5,⟨wa,w7⟩,w6⟩:=slAt_len hbody;obtain ⟨hb1,hb2⟩:=bodyOf_len e2;refine ⟨_,_,_,_,q1,by omega,b',lo',o'+i*2,cs',by rw [Int.toNat_natCast];congr 1;omega,q2,⟨⟨_,q3,_,rfl,q6⟩,⟨_,q4,q5⟩,trivial⟩,?_⟩;rw [q7,q8];refine ⟨⟨⟨gl es i,cb⟩,H2,vs.getD i undef⟩,rfl,rfl,⟨⟨e2,w3⟩,hbody⟩,fun _ _=>⟨⟨wa,_,_,w7,by simp only [lenMax];omega⟩,?_⟩⟩;rw [w1];dsimp only [toI];cases ho:gl es i with
   | none =>
    rw [ho] at hbody hstep;refine ⟨fun _=>?_,fun c=>absurd c (by simp [bodyOf])⟩;rcases hbody with ⟨_,h0,_⟩ | ⟨b9,lo9,o9,cs9,h9,h91,h92,h93,h94⟩
    ·cases h0
    obtain ⟨k1,_⟩:=h94.at_ 0 (by simp [bodyOf]) 0 (.int .u8) rfl;have k1:cs9[o9]? = some (.int .u8 2):=k1;have k2:cs9.getD o9 (Value.tuple #[]) = .int .u8 2:=by rw [List.getD_eq_getElem?_getD,k1];rfl
    refine ⟨_,_,_,_,h9,by simp [bodyOf],b9,lo9,o9,cs9,rfl,h92,⟨⟨_,k1,2,rfl,by simp only [InR];omega⟩,trivial⟩,fun _=>?_⟩;rw [k2];dsimp only [toI];refine ⟨fun _=>⟨(),trivial,fun _ _=>⟨by simp only [InR];omega,⟨i+1,Ix.emptyI 16,16⟩,?_⟩⟩,fun c=>absurd c (by decide)⟩;have h0:Ix.Has (Ix.emptyI 16) (idxTo es (allR L.l) (i+1)):=by rw [hstep];exact Ix.empty_has (by omega) (by omega)
    (repeat' apply And.intro)<;>first|with_reducible (first|rfl|trivial|assumption)|omega|with_reducible (first|exact RowsEq.refl _ _ _|exact Nat.le_refl _)|(dsimp only [List.length_cons,List.length_nil]<;>omega)|rfl|exact RowsEq.refl _ _ _|exact Nat.le_refl _|exact h0|(dsimp only;omega)
   | some it =>
    rw [ho] at hbody hstep e2;have hmay:=e2 it rfl;have hks:it.key.size<=lenMax:=by have:=may_out hmay;simp only [lenMax];omega
    have hl2:(bodyOf (some it)).length≠1:=by have:=itemB_250 hmay;simp only [bodyOf,List.length_cons];omega
    have hl3:(((bodyOf (some it)).length:Int) == 1)=false:=by rw [beq_eq_false_iff_ne];omega
    refine ⟨fun c=>by (rw [hl3] at c;cases c),fun _=>⟨fun _=>⟨fun cg=>⟨Ix.KeyA.mk x xc it.key,?_⟩,fun cg=>⟨fun _ _=>⟨Ix.PutA.mk x xc it.key (gl (allR L.l) i).pos,?_⟩,fun c=>absurd c (show ¬ (true=false) by decide)⟩⟩,fun c=>absurd c (show ¬ (true=false) by decide)⟩⟩
    ·have cg:it.gone=true:=cg;obtain ⟨hd1,hd2⟩:=has_drop (k:=it.key) hx;have hd3:Ix.Has (Ix.dropI x it.key) (idxTo es (allR L.l) (i+1)):=by rw [hstep];simp only [idxStep,cg,if_true];exact hd1
     (repeat' apply And.intro)<;>first|with_reducible (first|rfl|trivial|assumption)|omega|with_reducible (first|exact RowsEq.refl _ _ _|exact Nat.le_refl _)|(dsimp only [List.length_cons,List.length_nil]<;>omega)|rfl|exact RowsEq.refl _ _ _|exact Nat.le_refl _|exact hx.inv|exact hks|exact hd2|(dsimp only;omega)|skip
     intro _ _;refine ⟨by simp only [InR];omega,⟨i+1,Ix.dropI x it.key,xc⟩,?_⟩
     (repeat' apply And.intro)<;>first|with_reducible (first|rfl|trivial|assumption)|omega|with_reducible (first|exact RowsEq.refl _ _ _|exact Nat.le_refl _)|(dsimp only [List.length_cons,List.length_nil]<;>omega)|rfl|exact RowsEq.refl _ _ _|exact Nat.le_refl _|exact hd3|(dsimp only;omega)
    ·have cg:it.gone=false:=cg;have hp1:=has_put (p:=(gl (allR L.l) i).pos) hx (by omega) hks;have hp3:Ix.Has (Ix.putX x it.key (gl (allR L.l) i).pos) (idxTo es (allR L.l) (i+1)):=by rw [hstep];simp only [idxStep,cg];exact hp1
     (repeat' apply And.intro)<;>first|with_reducible (first|rfl|trivial|assumption)|omega|with_reducible (first|exact RowsEq.refl _ _ _|exact Nat.le_refl _)|(dsimp only [List.length_cons,List.length_nil]<;>omega)|rfl|exact RowsEq.refl _ _ _|exact Nat.le_refl _|exact hx.inv|exact hks|(dsimp only;omega)|skip
     intro c2 _;refine ⟨by simp only [InR];omega,⟨i+1,Ix.putX x it.key (gl (allR L.l) i).pos,c2⟩,?_⟩
     (repeat' apply And.intro)<;>first|with_reducible (first|rfl|trivial|assumption)|omega|with_reducible (first|exact RowsEq.refl _ _ _|exact Nat.le_refl _)|(dsimp only [List.length_cons,List.length_nil]<;>omega)|rfl|exact RowsEq.refl _ _ _|exact Nat.le_refl _|exact hp3|(dsimp only;omega)
  ·have hi':i=es.length:=by have:=of_decide_eq_false c1;omega
   subst hi'
   (repeat' apply And.intro)<;>first|with_reducible (first|rfl|trivial|assumption)|omega|with_reducible (first|exact RowsEq.refl _ _ _|exact Nat.le_refl _)|(dsimp only [List.length_cons,List.length_nil]<;>omega)|rfl|exact RowsEq.refl _ _ _|exact Nat.le_refl _|exact ⟨hlog,hx⟩|exact hfin)
theorem callFOpen:CallsBy (Y Tryz.prog).G.X 63 cFOpen:=fn_ok okY (tab:=tabFOpen) ⟨callLOpen,callINew,callLAll,callFReadV,Ix.callDrop,Ix.callPut,trivial⟩ bodyFOpen
end Go.Proofs.YtfhkbihcfmbbcaaGreat

namespace Go.Proofs.YtfhkbihcfmbbcaaGreat
open Go.Sx
set_option maxRecDepth 100000
set_option linter.unusedVariables false
set_option linter.unusedSimpArgs false
structure MarkM where
 seq:Int
 key:ByteArray
 pos:Int
 deriving Inhabited
def ksMark:List CK:=[.int .i64,.str,.int .i64]
def encMark (x:MarkM):List Value:=[.int .i64 x.seq,.string x.key,.int .i64 x.pos]
@[reducible] def markQ (a b:List MarkM) (v w:Nat) (p:Prop):Prop:=(0=0/\a.length=b.length/\v=w)/\(b.length<=a.length/\RowsEq b.length 3 (encRows encMark a) (encRows encMark b))/\p
def keepM (f:Int) (ms:List MarkM):List MarkM:=ms.filter fun x=>decide (f<=x.pos)
def jrO (lg ma:Nat) (n cap:Nat):Chunk:=.obj 103 [.ptr lg 0 0 0,.slc ma 0 3 n cap]
structure MDelA where
 ms:List MarkM
 cap:Nat
 H:PH
 y:LogL
 L:LogM
noncomputable def cMIdx:Con where
 α:=MDelA
 β:=Int
 m:=6
 m':=6
 pre:=fun a=>LogAt a.H a.y a.L/\a.L.l.length<1000/\a.ms.length<100000
 args:=fun a=>[.a (.slc 0 0 3 a.ms.length a.cap),.clo 56 [.ptr 1 0 0 0]]
 hp:=fun _=>[]
 ro:=fun a=>[(0,.arr 105 ksMark a.ms.length (encRows encMark a.ms)),(1,.obj 38 [.ptr 2 0 0 0]),(2,jrO 3 0 a.ms.length a.cap),(3,logObj 4 a.L a.y.lv),(5,.pool a.H)]
 post:=fun a r=>(r = -1/\∀ i,i<a.ms.length->firstF a.L<=(gl a.ms i).pos)\/∃ i:Nat,r=i/\i<a.ms.length/\(gl a.ms i).pos<firstF a.L/\∀ j,j<i->firstF a.L<=(gl a.ms j).pos
 res:=fun _ r=>.a (.int .i64 r)
 hp':=fun _ _=>[]
def iMIdx (a:MDelA):An:=.flat 2 Nat (fun s k=>s.int 8 k) (fun _ k=>k<=a.ms.length/\∀ j,j<k->firstF a.L<=(gl a.ms j).pos) (fun _ k=>a.ms.length - k)
set_option maxHeartbeats 4000000 in
theorem bodyMIdx:fnBody (Y Tryz.prog) [(57,cFirst)] 82 cMIdx fun a=>[(82,[iMIdx a],[])]:=fnBody.of (p :=
 ∀ a:MDelA,LogAt a.H a.y a.L/\a.L.l.length<1000/\a.ms.length<100000->(∃ a_2:Nat,0=(↑a_2:Int)/\(↑a.ms.length:Int)=(↑a.ms.length:Int)/\(0:Int)=0/\(0=0/\a.ms.length=a.ms.length/\a.cap=a.cap)/\0=0/\(a.ms.length<=a.ms.length/\RowsEq a.ms.length 3 (encRows encMark a.ms) (encRows encMark a.ms))/\0=0/\0=0/\(0=0/\a.ms.length=a.ms.length/\a.cap=a.cap)/\0=0/\logQ a.L a.L a.y.lv a.y.lv (a.H=a.H/\(a_2<=a.ms.length/\∀ j:Nat,j<a_2->firstF a.L<=(gl a.ms j).pos)/\True))/\∀ a_2:Nat,(a_2<=a.ms.length/\∀ j:Nat,j<a_2->firstF a.L<=(gl a.ms j).pos)->(decide ((↑a_2:Int)<(↑a.ms.length:Int))=true->(0<=(↑a_2:Int)/\(↑a_2:Int)<(↑a.ms.length:Int))/\0+(↑a_2:Int).toNat<a.ms.length/\(InR .i64 (gl a.ms (0+(↑a_2:Int).toNat)).pos->∃ a_6:FstA,0=0/\0=0/\logQ a.L a_6.L a.y.lv a_6.y.lv (a.H=a_6.H/\(LogAt a_6.H a_6.y a_6.L/\a_6.L.l.length<1000)/\∀ b:Unit,True->(decide ((gl a.ms (0+(↑a_2:Int).toNat)).pos<firstTo a_6.L.l a_6.L.next)=true->∃ b:Int,(↑a_2:Int)=b/\((b=(-1:Int)/\∀ i:Nat,i<a.ms.length->firstF a.L<=(gl a.ms i).pos)\/∃ i:Nat,b=(↑i:Int)/\i<a.ms.length/\(gl a.ms i).pos<firstF a.L/\∀ j:Nat,j<i->firstF a.L<=(gl a.ms j).pos)/\True)/\(decide ((gl a.ms (0+(↑a_2:Int).toNat)).pos<firstTo a_6.L.l a_6.L.next)=false->InR .i64 ((↑a_2:Int)+1)/\∃ (a':Nat),(↑a_2:Int)+1=(↑a':Int)/\(↑a.ms.length:Int)=(↑a.ms.length:Int) /\
 (0:Int)=0/\(0=0/\a.ms.length=a.ms.length/\a.cap=a.cap)/\0=0/\(a.ms.length<=a.ms.length/\RowsEq a.ms.length 3 (encRows encMark a.ms) (encRows encMark a.ms))/\0=0/\0=0/\(0=0/\a.ms.length=a.ms.length/\a.cap=a.cap)/\0=0/\logQ a.L a.L a.y.lv a.y.lv (a.H=a.H/\(a'<=a.ms.length/\∀ j:Nat,j<a'->firstF a.L<=(gl a.ms j).pos)/\a.ms.length - a'<a.ms.length - a_2)))))/\(decide ((↑a_2:Int)<(↑a.ms.length:Int))=false->∃ b:Int,(-1:Int)=b/\((b=(-1:Int)/\∀ i:Nat,i<a.ms.length->firstF a.L<=(gl a.ms i).pos)\/∃ i:Nat,b=(↑i:Int)/\i<a.ms.length/\(gl a.ms i).pos<firstF a.L/\∀ j:Nat,j<i->firstF a.L<=(gl a.ms j).pos)/\True)) (by kernel_rfl) (by
 rintro ⟨ms,cap,H,y,L⟩ ⟨hl,hf,hn⟩;dsimp only at *;have h0:∀ j,j<0->firstF L<=(gl ms j).pos:=fun j hj=>absurd hj (Nat.not_lt_zero j);refine ⟨⟨0,?_⟩,fun i hi=>?_⟩
 ·(repeat' apply And.intro)<;>first|with_reducible (first|rfl|trivial|assumption)|exact h0|(intro h_;revert h_)|omega|with_reducible exact RowsEq.refl _ _ _|rfl|exact RowsEq.refl _ _ _|exact Nat.le_refl _|(dsimp only;omega)|skip
 obtain ⟨hi,hall⟩:=hi;rw [show 0+(i:Int).toNat=i by omega];refine ⟨fun c1=>?_,fun c1=>⟨-1,rfl,.inl ⟨rfl,fun j hj=>hall j (by have:=of_decide_eq_false c1;omega)⟩,trivial⟩⟩;have hlt:i<ms.length:=by have:=of_decide_eq_true c1;omega
 refine ⟨⟨by omega,by omega⟩,hlt,fun _=>⟨FstA.mk H y L,?_⟩⟩
 (repeat' apply And.intro)<;>first|with_reducible (first|rfl|trivial|assumption)|exact hl|exact hf|(intro h_;revert h_)|omega|with_reducible exact RowsEq.refl _ _ _|rfl|exact RowsEq.refl _ _ _|exact Nat.le_refl _|(dsimp only;omega)|skip
 intro _ _;refine ⟨fun c2=>⟨i,rfl,.inr ⟨i,rfl,hlt,of_decide_eq_true c2,hall⟩,trivial⟩,fun c2=>⟨by simp only [InR];omega,i+1,?_⟩⟩;have c2:¬ (gl ms i).pos<firstF L:=of_decide_eq_false c2;have h1:∀ j,j<i+1->firstF L<=(gl ms j).pos:=fun j hj=>by
  by_cases e:j=i
  ·subst e;omega
  ·exact hall j (by omega)
 (repeat' apply And.intro)<;>first|with_reducible (first|rfl|trivial|assumption)|exact h1|(intro h_;revert h_)|omega|with_reducible exact RowsEq.refl _ _ _|rfl|exact RowsEq.refl _ _ _|exact Nat.le_refl _|(dsimp only;omega)|skip)
theorem callMIdx:CallsBy (Y Tryz.prog).G.X 82 cMIdx:=fn_ok okY (tab:=[(57,cFirst)]) ⟨callFirst,trivial⟩ bodyMIdx
def delT (f:Int) (ms:List MarkM) (j:Nat):List MarkM:=keepM f (ms.take j)++ms.drop (keepM f (ms.take j)).length
noncomputable def cMDel:Con where
 α:=MDelA
 β:=Unit
 m:=6
 m':=6
 pre:=fun a=>LogAt a.H a.y a.L/\a.L.l.length<1000/\a.ms.length<100000/\a.ms.length<=a.cap
 args:=fun a=>[.a (.slc 0 0 3 a.ms.length a.cap),.clo 56 [.ptr 1 0 0 0]]
 hp:=fun a=>[(0,.arr 105 ksMark a.ms.length (encRows encMark a.ms))]
 ro:=fun a=>[(1,.obj 38 [.ptr 2 0 0 0]),(2,jrO 3 0 a.ms.length a.cap),(3,logObj 4 a.L a.y.lv),(5,.pool a.H)]
 post:=fun _ _=>True
 res:=fun a _=>.a (.slc 0 0 3 (keepM (firstF a.L) a.ms).length a.cap)
 hp':=fun a _=>[(0,.arr 105 ksMark (keepM (firstF a.L) a.ms).length (encRows encMark (keepM (firstF a.L) a.ms)))]
theorem keep_succ {f:Int} {ms:List MarkM} {j:Nat} (hj:j<ms.length):keepM f (ms.take (j+1))=if f<=(gl ms j).pos then keepM f (ms.take j)++[gl ms j] else keepM f (ms.take j):=by
 unfold keepM;rw [take_push hj,List.filter_append];by_cases h:f<=(gl ms j).pos
 ·rw [if_pos h];simp [h]
 ·rw [if_neg h];simp [h]
theorem keep_le (f:Int) (ms:List MarkM) (j:Nat):(keepM f (ms.take j)).length<=j:=Nat.le_trans (List.length_filter_le _ _) (by rw [List.length_take];omega)
theorem keep_all {f:Int} {ms:List MarkM} (h:∀ i,i<ms.length->f<=(gl ms i).pos):keepM f ms=ms:=by
 unfold keepM;rw [List.filter_eq_self];intro x hx;obtain ⟨i,hi,rfl⟩:=List.getElem_of_mem hx;rw [<- gl_eq hi];exact decide_eq_true (h i hi)
theorem keep_all_to {f:Int} {ms:List MarkM}:∀ {k:Nat},k<=ms.length->(∀ i,i<k->f<=(gl ms i).pos)->keepM f (ms.take k)=ms.take k
 | 0,_,_=>rfl
 | k+1,hk,h=>by rw [keep_succ (by omega),if_pos (h k (by omega)),keep_all_to (by omega) fun i hi=>h i (by omega),take_push (by omega)]
theorem delT_at {f:Int} {ms:List MarkM} {j:Nat} (hj:j<ms.length):gl (delT f ms j) j=gl ms j:=by
 have h1:=keep_le f ms j;obtain ⟨q,hq⟩:∃ q,j=(keepM f (ms.take j)).length+q:=⟨j - (keepM f (ms.take j)).length,by omega⟩
 have h2:gl (delT f ms j) ((keepM f (ms.take j)).length+q)=gl (ms.drop (keepM f (ms.take j)).length) q:=gl_append_right;rw [<- hq] at h2;rw [h2,gl_eq (by rw [List.length_drop];omega),gl_eq hj,List.getElem_drop];congr 1;omega
theorem delT_yes {f:Int} {ms:List MarkM} {j:Nat} (hj:j<ms.length) (h:f<=(gl ms j).pos):delT f ms (j+1)=(delT f ms j).set (keepM f (ms.take j)).length (gl ms j):=by
 have h1:=keep_le f ms j;unfold delT;rw [keep_succ hj,if_pos h,List.length_append,List.length_singleton,List.set_append_right _ _ (Nat.le_refl _),Nat.sub_self,List.drop_eq_getElem_cons (show (keepM f (ms.take j)).length<ms.length by omega),List.set_cons_zero,List.append_assoc];rfl
theorem delT_no {f:Int} {ms:List MarkM} {j:Nat} (hj:j<ms.length) (h:¬ f<=(gl ms j).pos):delT f ms (j+1)=delT f ms j:=by
 unfold delT;rw [keep_succ hj,if_neg h]
theorem delT_len (f:Int) (ms:List MarkM) {j:Nat} (hj:j<=ms.length):(delT f ms j).length=ms.length:=by
 have h1:=keep_le f ms j;unfold delT;rw [List.length_append,List.length_drop];omega
def iMDel (a:MDelA):An:=.flat 5 Nat (fun s j=>((s.at_ 0 (.arr 105 ksMark a.ms.length (encRows encMark (delT (firstF a.L) a.ms j)))).int 5 ((keepM (firstF a.L) (a.ms.take j)).length:Nat)).int 6 j) (fun _ j=>j<=a.ms.length) (fun _ j=>a.ms.length - j)
set_option maxHeartbeats 4000000 in
theorem bodyMDel:fnBody (Y Tryz.prog) [(57,cFirst),(82,cMIdx)] 55 cMDel fun a=>[(55,[iMDel a],[])]:=fnBody.of (p :=
 ∀ a:MDelA,LogAt a.H a.y a.L/\a.L.l.length<1000/\a.ms.length<100000/\a.ms.length<=a.cap->∃ a_2:MDelA,(0=0/\a.ms.length=a_2.ms.length/\a.cap=a_2.cap)/\0=0/\(a_2.ms.length<=a.ms.length/\RowsEq a_2.ms.length 3 (encRows encMark a.ms) (encRows encMark a_2.ms))/\0=0/\0=0/\(0=0/\a.ms.length=a_2.ms.length/\a.cap=a_2.cap)/\0=0/\logQ a.L a_2.L a.y.lv a_2.y.lv (a.H=a_2.H/\(LogAt a_2.H a_2.y a_2.L/\a_2.L.l.length<1000/\a_2.ms.length<100000)/\∀ b:Int,((b=(-1:Int)/\∀ i:Nat,i<a_2.ms.length->firstF a_2.L<=(gl a_2.ms i).pos)\/∃ i:Nat,b=(↑i:Int)/\i<a_2.ms.length/\(gl a_2.ms i).pos<firstF a_2.L/\∀ j:Nat,j<i->firstF a_2.L<=(gl a_2.ms j).pos)->((b == (-1:Int))=true->∃ b:Unit,markQ a.ms (keepM (firstF a.L) a.ms) a.cap a.cap (True/\True))/\((b == (-1:Int))=false->InR .i64 (b+(1:Int))/\(∃ a_5:Nat,b+1=(↑a_5:Int)/\b=(↑(keepM (firstF a.L) (List.take a_5 a.ms)).length:Int)/\(b == (-1:Int))=(b == (-1:Int))/\(0=0/\a.ms.length=a.ms.length/\a.cap=a.cap)/\0=0/\(a.ms.length<=a.ms.length/\RowsEq a.ms.length 3 (encRows encMark a.ms) (encRows encMark (delT (firstF a.L) a.ms a_5)))/\0=0/\0=0/\(0=0/\a.ms.length=a.ms.length/\a.cap=a.cap)/\0=0/\logQ a.L a.L a.y.lv a.y.lv (a.H=a.H/\a_5<=a.ms.length/\True))/\∀ a_5:Nat,a_5<=a.ms.length->(decide ((↑a_5:Int)<(↑a.ms.length:Int))=true->(0<=(↑a_5:Int)/\(↑a_5:Int)<(↑a.ms.length:Int)) /\
 0+(↑a_5:Int).toNat<a.ms.length/\(InR .i64 (gl (delT (firstF a.L) a.ms a_5) (0+(↑a_5:Int).toNat)).pos->∃ a_9:FstA,0=0/\0=0/\logQ a.L a_9.L a.y.lv a_9.y.lv (a.H=a_9.H/\(LogAt a_9.H a_9.y a_9.L/\a_9.L.l.length<1000)/\∀ b_1:Unit,True->((!decide ((gl (delT (firstF a.L) a.ms a_5) (0+(↑a_5:Int).toNat)).pos<firstTo a_9.L.l a_9.L.next))=true->(0<=(↑(keepM (firstF a.L) (List.take a_5 a.ms)).length:Int)/\(↑(keepM (firstF a.L) (List.take a_5 a.ms)).length:Int)<(↑a.ms.length:Int))/\0+(↑(keepM (firstF a.L) (List.take a_5 a.ms)).length:Int).toNat<a.ms.length/\InR .i64 ((↑(keepM (firstF a.L) (List.take a_5 a.ms)).length:Int)+1)/\InR .i64 ((↑a_5:Int)+1)/\∃ (a':Nat),(↑a_5:Int)+1=(↑a':Int)/\(↑(keepM (firstF a.L) (List.take a_5 a.ms)).length:Int)+1=(↑(keepM (firstF a.L) (List.take a' a.ms)).length:Int)/\(b == (-1:Int))=(b == (-1:Int))/\(0=0/\a.ms.length=a.ms.length/\a.cap=a.cap)/\0=0/\(a.ms.length<=a.ms.length/\RowsEq a.ms.length 3 (updR (encRows encMark (delT (firstF a.L) a.ms a_5)) (0+(↑(keepM (firstF a.L) (List.take a_5 a.ms)).length:Int).toNat) 0 [Value.int IntKind.i64 (gl (delT (firstF a.L) a.ms a_5) (0+(↑a_5:Int).toNat)).seq,Value.string (gl (delT (firstF a.L) a.ms a_5) (0+(↑a_5:Int).toNat)).key,Value.int IntKind.i64 (gl (delT (firstF a.L) a.ms a_5) (0+(↑a_5:Int).toNat)).pos]) (encRows encMark (delT (firstF a.L) a.ms a')))/\0=0/\0=0/\(0=0/\a.ms.length=a.ms.length /\
 a.cap=a.cap)/\0=0/\logQ a.L a.L a.y.lv a.y.lv (a.H=a.H/\a'<=a.ms.length/\a.ms.length - a'<a.ms.length - a_5))/\((!decide ((gl (delT (firstF a.L) a.ms a_5) (0+(↑a_5:Int).toNat)).pos<firstTo a_9.L.l a_9.L.next))=false->InR .i64 ((↑a_5:Int)+1)/\∃ (a':Nat),(↑a_5:Int)+1=(↑a':Int)/\(↑(keepM (firstF a.L) (List.take a_5 a.ms)).length:Int)=(↑(keepM (firstF a.L) (List.take a' a.ms)).length:Int)/\(b == (-1:Int))=(b == (-1:Int))/\(0=0/\a.ms.length=a.ms.length/\a.cap=a.cap)/\0=0/\(a.ms.length<=a.ms.length/\RowsEq a.ms.length 3 (encRows encMark (delT (firstF a.L) a.ms a_5)) (encRows encMark (delT (firstF a.L) a.ms a')))/\0=0/\0=0/\(0=0/\a.ms.length=a.ms.length/\a.cap=a.cap)/\0=0/\logQ a.L a.L a.y.lv a.y.lv (a.H=a.H/\a'<=a.ms.length/\a.ms.length - a'<a.ms.length - a_5)))))/\(decide ((↑a_5:Int)<(↑a.ms.length:Int))=false->(0<=(↑(keepM (firstF a.L) (List.take a_5 a.ms)).length:Int)/\(↑(keepM (firstF a.L) (List.take a_5 a.ms)).length:Int)<=(↑a.ms.length:Int))/\(0<=(↑(keepM (firstF a.L) (List.take a_5 a.ms)).length:Int)/\(↑(keepM (firstF a.L) (List.take a_5 a.ms)).length:Int)<=(↑a.cap:Int))/\∃ b:Unit,(0=0/\(↑(keepM (firstF a.L) (List.take a_5 a.ms)).length:Int).toNat - 0=(keepM (firstF a.L) a.ms).length/\a.cap - 0=a.cap)/\((keepM (firstF a.L) a.ms).length<=a.ms.length/\RowsEq (keepM (firstF a.L) a.ms).length 3 (fun (i j:Nat)=>if 0+(↑(keepM (firstF a.L) (List.take a_5 a.ms)).length:Int).toNat<=i /\
 i<0+(↑(keepM (firstF a.L) (List.take a_5 a.ms)).length:Int).toNat+(a.ms.length - (↑(keepM (firstF a.L) (List.take a_5 a.ms)).length:Int).toNat) then [Value.int IntKind.i64 (0:Int),Value.string (ByteArray.mk #[]),Value.int IntKind.i64 (0:Int)].getD j (Value.tuple #[]) else encRows encMark (delT (firstF a.L) a.ms a_5) i j) (encRows encMark (keepM (firstF a.L) a.ms)))/\True/\True)))) (by kernel_rfl) (by
 rintro ⟨ms,cap,H,y,L⟩ ⟨hl,hf,hn,hcap⟩;dsimp only at *;refine ⟨MDelA.mk ms cap H y L,?_⟩
 (repeat' apply And.intro)<;>first|with_reducible (first|rfl|trivial|assumption)|exact hl|exact hf|exact hn|(intro h_;revert h_)|omega|with_reducible exact RowsEq.refl _ _ _|rfl|exact RowsEq.refl _ _ _|exact Nat.le_refl _|(dsimp only;omega)|skip
 intro b hb;dsimp only at hb;obtain ⟨f,hff⟩:∃ f,f=firstF L:=⟨_,rfl⟩
 rw [<- hff] at hb;rw [<- hff];refine ⟨fun c=>⟨(),?_⟩,fun c=>?_⟩
 ·have hk:keepM f ms=ms:=by
   rcases hb with ⟨_,h⟩ | ⟨i,hi,_⟩
   ·exact keep_all h
   ·have:=eq_of_beq c;omega
  rw [hk]
  (repeat' apply And.intro)<;>first|with_reducible (first|rfl|trivial|assumption)|(intro h_;revert h_)|omega|with_reducible exact RowsEq.refl _ _ _|rfl|exact RowsEq.refl _ _ _|exact Nat.le_refl _|(dsimp only;omega)|skip
 rcases hb with ⟨h,_⟩ | ⟨i0,rfl,hi0,hlt,hall⟩
 ·rw [h] at c;cases c
 have hk0:keepM f (ms.take i0)=ms.take i0:=keep_all_to (by omega) hall;have hk1:keepM f (ms.take (i0+1))=ms.take i0:=by rw [keep_succ hi0,if_neg (by omega),hk0]
 have hl0:(keepM f (ms.take (i0+1))).length=i0:=by rw [hk1,List.length_take];omega
 have hd0:delT f ms (i0+1)=ms:=by unfold delT;rw [hl0,hk1,List.take_append_drop]
 refine ⟨by simp only [InR];omega,⟨i0+1,?_⟩,fun j hj=>?_⟩
 ·rw [hl0,hd0]
  (repeat' apply And.intro)<;>first|with_reducible (first|rfl|trivial|assumption)|(intro h_;revert h_)|omega|with_reducible exact RowsEq.refl _ _ _|rfl|exact RowsEq.refl _ _ _|exact Nat.le_refl _|(dsimp only;omega)|skip
 have hcj:=keep_le f ms j;obtain ⟨c1,hc1⟩:∃ c1,c1=(keepM f (ms.take j)).length:=⟨_,rfl⟩
 rw [<- hc1] at hcj;rw [<- hc1,show 0+(j:Int).toNat=j by omega,show 0+(c1:Int).toNat=c1 by omega,show (c1:Int).toNat=c1 by omega];refine ⟨fun d1=>?_,fun d1=>?_⟩
 ·have hj2:j<ms.length:=by have:=of_decide_eq_true d1;omega
  rw [delT_at hj2];refine ⟨⟨by omega,by omega⟩,hj2,fun _=>⟨FstA.mk H y L,?_⟩⟩
  (repeat' apply And.intro)<;>first|with_reducible (first|rfl|trivial|assumption)|exact hl|exact hf|(intro h_;revert h_)|omega|with_reducible exact RowsEq.refl _ _ _|rfl|exact RowsEq.refl _ _ _|exact Nat.le_refl _|(dsimp only;omega)|skip
  intro _ _;dsimp only;rw [show firstTo L.l L.next=f from hff.symm];refine ⟨fun d2=>?_,fun d2=>?_⟩
  ·have hp:f<=(gl ms j).pos:=by simp only [Bool.not_eq_true',decide_eq_false_iff_not] at d2;omega
   have hk2:(keepM f (ms.take (j+1))).length=c1+1:=by rw [keep_succ hj2,if_pos hp,List.length_append,<- hc1];rfl
   have hr:RowsEq ms.length 3 (updR (encRows encMark (delT f ms j)) c1 0 [Value.int .i64 (gl ms j).seq,Value.string (gl ms j).key,Value.int .i64 (gl ms j).pos]) (encRows encMark (delT f ms (j+1))):=by
    rw [delT_yes hj2 hp,<- hc1];exact RowsEq.set c1 (by rw [delT_len f ms (by omega)];omega) (fun i hi=>updR_other hi) (by rw [updR_self];rfl)
   refine ⟨⟨by omega,by omega⟩,by omega,by simp only [InR];omega,by simp only [InR];omega,j+1,?_⟩;rw [hk2]
   (repeat' apply And.intro)<;>first|with_reducible (first|rfl|trivial|assumption)|exact hr|(intro h_;revert h_)|omega|with_reducible exact RowsEq.refl _ _ _|rfl|exact RowsEq.refl _ _ _|exact Nat.le_refl _|(dsimp only;omega)|skip
  ·have hp:¬ f<=(gl ms j).pos:=by simp only [Bool.not_eq_false',decide_eq_true_eq] at d2;omega
   have hk2:(keepM f (ms.take (j+1))).length=c1:=by rw [keep_succ hj2,if_neg hp,<- hc1]
   refine ⟨by simp only [InR];omega,j+1,?_⟩;rw [hk2,delT_no hj2 hp]
   (repeat' apply And.intro)<;>first|with_reducible (first|rfl|trivial|assumption)|(intro h_;revert h_)|omega|with_reducible exact RowsEq.refl _ _ _|rfl|exact RowsEq.refl _ _ _|exact Nat.le_refl _|(dsimp only;omega)|skip
 ·have hj2:j=ms.length:=by have:=of_decide_eq_false d1;omega
  subst hj2;have hk:(keepM f ms).length=c1:=by rw [hc1,List.take_length]
  rw [hk];have hr:RowsEq c1 3 (fun (i j:Nat)=>if c1<=i/\i<c1+(ms.length - c1) then [Value.int .i64 0,Value.string (ByteArray.mk #[]),Value.int .i64 0].getD j (Value.tuple #[]) else encRows encMark (delT f ms ms.length) i j) (encRows encMark (keepM f ms)):=⟨fun i hi j hj=>by
   rw [if_neg (by omega)];unfold encRows delT;rw [gl_append_left (by rw [List.take_length,hk];exact hi),List.take_length]⟩
  refine ⟨⟨by omega,by omega⟩,⟨by omega,by omega⟩,(),?_⟩
  (repeat' apply And.intro)<;>first|with_reducible (first|rfl|trivial|assumption)|exact hr|(intro h_;revert h_)|omega|with_reducible exact RowsEq.refl _ _ _|rfl|exact RowsEq.refl _ _ _|exact Nat.le_refl _|(dsimp only;omega)|skip)
theorem callMDel:CallsBy (Y Tryz.prog).G.X 55 cMDel:=fn_ok okY (tab:=[(57,cFirst),(82,cMIdx)]) ⟨callFirst,callMIdx,trivial⟩ bodyMDel
def seqOf (ms:List MarkM):Int:=if ms.length=0 then 0 else (gl ms (ms.length - 1)).seq
structure JSqA where
 ms:List MarkM
 cap:Nat
noncomputable def cJSeq:Con where
 α:=JSqA
 β:=Unit
 m:=3
 m':=3
 pre:=fun a=>a.ms.length<100000
 args:=fun a=>[.a (.ptr 0 0 0 0)]
 hp:=fun _=>[]
 ro:=fun a=>[(0,jrO 2 1 a.ms.length a.cap),(1,.arr 105 ksMark a.ms.length (encRows encMark a.ms))]
 post:=fun _ _=>True
 res:=fun a _=>.a (.int .i64 (seqOf a.ms))
 hp':=fun _ _=>[]
set_option maxHeartbeats 4000000 in
theorem bodyJSeq:fnBody (Y Tryz.prog) [] 24 cJSeq fun _=>[]:=fnBody.of (p :=
 ∀ a:JSqA,a.ms.length<100000->(((↑a.ms.length:Int) == 0)=true->∃ b:Unit,(0:Int)=seqOf a.ms/\True/\True)/\(((↑a.ms.length:Int) == 0)=false->InR .i64 ((↑a.ms.length:Int) - 1)/\(0<=(↑a.ms.length:Int) - 1/\(↑a.ms.length:Int) - 1<(↑a.ms.length:Int))/\0+((↑a.ms.length:Int) - 1).toNat<a.ms.length/\(InR .i64 (gl a.ms (0+((↑a.ms.length:Int) - 1).toNat)).seq->∃ b:Unit,(gl a.ms (0+((↑a.ms.length:Int) - 1).toNat)).seq=seqOf a.ms/\True/\True))) (by kernel_rfl) (by
 rintro ⟨ms,cap⟩ hn;dsimp only at *;refine ⟨fun c=>⟨(),?_,trivial,trivial⟩,fun c=>?_⟩
 ·have:=eq_of_beq c;unfold seqOf;rw [if_pos (by omega)]
 ·have h0:ms.length≠0:=fun e=>by rw [e] at c;cases c
  rw [show 0+((ms.length:Int) - 1).toNat=ms.length - 1 by omega];refine ⟨by simp only [InR];omega,⟨by omega,by omega⟩,by omega,fun _=>⟨(),?_,trivial,trivial⟩⟩;unfold seqOf;rw [if_neg h0])
theorem callJSeq:CallsBy (Y Tryz.prog).G.X 24 cJSeq:=fn_ok okY (tab:=[]) trivial bodyJSeq
structure JrM where
 L:LogM
 d:DevM
 ms:List MarkM
structure JrP where
 H:PH
 y:LogL
 cap:Nat
def jrHp (jr ma lg dv ds pl:Nat) (m:JrM) (p:JrP):List (Nat × Chunk):=[(jr,jrO lg ma m.ms.length p.cap),(ma,.arr 105 ksMark m.ms.length (encRows encMark m.ms)),(lg,logObj dv m.L p.y.lv)]++devHp dv ds m.d++[(pl,.pool p.H)]
def JrFr (p p':JrP):Prop:=∀ z,p.H z≠none->z∉fpLog p.y->p'.H z=p.H z/\z∉fpLog p'.y
def markB (seq:Int) (k:ByteArray):List Int:=vi seq++txB k
def addM (m:JrM) (k:ByteArray):JrM:=⟨appL m.L (markB (seqOf m.ms+1) k),appD m.L m.d (markB (seqOf m.ms+1) k),m.ms++[⟨seqOf m.ms+1,k,m.L.next⟩]⟩
def addTo (m:JrM) (ks:List ByteArray):Nat->JrM
 | 0=>m
 | i+1=>addM (addTo m ks i) (gl ks i)
def cutJ (m:JrM):JrM:={ m with ms:=keepM (firstF m.L) m.ms }
def addsJ (m:JrM) (ks:List ByteArray):JrM:=if allK ks then (if ks.length=0 then cutJ m else { cutJ (addTo m ks ks.length) with d:=devFl (addTo m ks ks.length).d }) else m
theorem keyB_out {k:ByteArray} (h:keyB k=true):1<=k.size/\k.size<=40:=by
 simp only [keyB,Bool.and_eq_true,decide_eq_true_eq,Bool.not_eq_true',decide_eq_false_iff_not] at h;refine ⟨?_,h.2⟩;rcases Nat.eq_zero_or_pos k.size with e|e
 ·exact absurd (by
   obtain ⟨⟨l⟩⟩:=k;have:l=[]:=List.eq_nil_of_length_eq_zero e;subst this;rfl) h.1
 ·exact e
theorem addTo_len (m:JrM) (ks:List ByteArray):∀ i,(addTo m ks i).ms.length=m.ms.length+i
 | 0=>rfl
 | i+1=>by
  show ((addTo m ks i).ms++[_]).length=_;rw [List.length_append,addTo_len m ks i];rfl
theorem rows_mark {ms:List MarkM} {x:MarkM}:RowsEq (ms++[x]).length 3 (appRows (encRows encMark ms) 0 ms.length fun (i j:Nat)=>flatRows 3 [Value.int .i64 x.seq,Value.string x.key,Value.int .i64 x.pos] (0+i) j) (encRows encMark (ms++[x])):=⟨fun i hi j hj=>by
 rw [List.length_append,List.length_singleton] at hi;simp only [appRows,Nat.zero_add];by_cases h:i<ms.length
 ·rw [if_pos h];unfold encRows;rw [gl_append_left h]
 ·rw [if_neg h];obtain rfl:i=ms.length:=by omega
  rw [Nat.sub_self];unfold encRows;have:gl (ms++[x]) ms.length=x:=by
   have:=gl_append_right (l:=ms) (m:=[x]) (i:=0);rw [Nat.add_zero] at this;rw [this];rfl
  rw [this];rcases (by omega:j=0\/j=1\/j=2) with rfl|rfl|rfl<;>rfl⟩
theorem JrFr.refl (p:JrP):JrFr p p:=fun _ _ hn=>⟨rfl,hn⟩
structure JAddA where
 m:JrM
 p:JrP
 ks:List ByteArray
 kc:Nat
noncomputable def cJAdd:Con where
 α:=JAddA
 β:=JrP
 m:=7
 m':=9
 pre:=fun a=>LogAt a.p.H a.p.y a.m.L/\a.m.L.l.length<800/\a.ks.length<1000/\a.m.ms.length<50000/\a.m.ms.length<=a.p.cap/\(allK a.ks=true->(∀ i,i<a.ks.length->LogOk (addTo a.m a.ks i).L (addTo a.m a.ks i).d/\0<=seqOf (addTo a.m a.ks i).ms/\seqOf (addTo a.m a.ks i).ms<1000000000000)/\(addTo a.m a.ks a.ks.length).d.n<100000/\(addTo a.m a.ks a.ks.length).d.calls<1000000000000/\(addTo a.m a.ks a.ks.length).L.l.length<1000)
 args:=fun a=>[.a (.ptr 0 0 0 0),.a (.slc 6 0 1 a.ks.length a.kc)]
 hp:=fun a=>jrHp 0 1 2 3 4 5 a.m a.p
 ro:=fun a=>[(6,.arr 9 [.str] a.ks.length (encRows encT a.ks))]
 post:=fun a b=>LogAt b.H b.y (addsJ a.m a.ks).L/\JrFr a.p b/\(addsJ a.m a.ks).ms.length<=b.cap
 res:=fun a _=>.tup [.a (.int .i64 (if allK a.ks then seqOf (addsJ a.m a.ks).ms else 0)),.a (.int .i64 (if allK a.ks then 0 else 1))]
 hp':=fun a b=>jrHp 0 7 2 3 4 8 (addsJ a.m a.ks) b
structure JAddS where
 i:Nat
 p:JrP
def S.jr (s:S) (c:Nat) (m:JrM) (p:JrP):S :=
 (fun (s1:S)=>((s1.put ((s1.hp.del (plTag s1)).del (s.in_ c 1))).new (.pool p.H)))
 ((fun (s0:S)=>(s0.new (.arr 105 ksMark m.ms.length (encRows encMark m.ms))).at_ c (jrO (s.in_ c 0) s0.nx m.ms.length p.cap))
  (((s.at_ (s.in_ c 0) (logObj (s.in_ (s.in_ c 0) 0) m.L p.y.lv)).at_ (s.in_ (s.in_ c 0) 0) (.obj 83 [.slc (s.in_ (s.in_ (s.in_ c 0) 0) 0) 0 129 m.d.n m.d.n,.int .i64 m.d.calls])).at_ (s.in_ (s.in_ (s.in_ c 0) 0) 0) (.arr 86 ksSec m.d.n (rowsD m.d))))
def iJAdd1 (a:JAddA):An:=.flat 4 Nat (fun s i=>s.int 18 i) (fun _ i=>i<=a.ks.length/\∀ j,j<i->keyB (gl a.ks j)=true) (fun _ i=>a.ks.length - i)
def iJAdd2 (a:JAddA):An:=.flat 10 JAddS (fun s x=>(S.jr s (s.in_ (s.tg 2) 0) (addTo a.m a.ks x.i) x.p).int 32 x.i) (fun _ x=>x.i<=a.ks.length/\allK a.ks=true/\LogAt x.p.H x.p.y (addTo a.m a.ks x.i).L/\JrFr a.p x.p/\(addTo a.m a.ks x.i).ms.length<=x.p.cap) (fun _ x=>a.ks.length - x.i)
def iJAddC (a:JAddA):An:=.mk 9 Unit (fun s _=>s) (fun _ _=>allK a.ks=true) (fun _ _=>0) fun _=>.mk 1000 [iJAdd2 a] []
noncomputable def tabJAdd:List (Nat × Con):=[(24,cJSeq),(54,cNPuts),(53,cAppend),(55,cMDel),(72,cDevFlush)]
set_option maxHeartbeats 4000000 in
theorem bodyJAdd:fnBody (Y Tryz.prog) tabJAdd 28 cJAdd fun a=>[(28,[iJAdd1 a],[iJAddC a])]:=fnBody.of (p :=
 ∀ a:JAddA,LogAt a.p.H a.p.y a.m.L/\a.m.L.l.length<800/\a.ks.length<1000/\a.m.ms.length<50000/\a.m.ms.length<=a.p.cap/\(allK a.ks=true->(∀ i:Nat,i<a.ks.length->LogOk (addTo a.m a.ks i).L (addTo a.m a.ks i).d/\(0:Int)<=seqOf (addTo a.m a.ks i).ms/\seqOf (addTo a.m a.ks i).ms<(1000000000000:Int))/\(addTo a.m a.ks a.ks.length).d.n<100000/\(addTo a.m a.ks a.ks.length).d.calls<1000000000000/\(addTo a.m a.ks a.ks.length).L.l.length<1000)->((∃ a_2:Nat,0=(↑a_2:Int)/\(↑a.ks.length:Int)=(↑a.ks.length:Int)/\(0=0/\a.ks.length=a.ks.length/\a.kc=a.kc)/\false=false/\(0:Int)=0/\(0:Int)=0/\0=0/\0=0/\(0=0/\a.ks.length=a.ks.length/\a.kc=a.kc)/\0=0/\0=0/\markQ a.m.ms a.m.ms a.p.cap a.p.cap (0=0/\logQ a.m.L a.m.L a.p.y.lv a.p.y.lv (devQ a.m.d a.m.d (a.p.H=a.p.H/\(a.ks.length<=a.ks.length/\RowsEq a.ks.length 1 (encRows encT a.ks) (encRows encT a.ks))/\(a_2<=a.ks.length/\∀ j:Nat,j<a_2->keyB (gl a.ks j)=true)/\True))))/\∀ a_2:Nat,(a_2<=a.ks.length/\∀ j:Nat,j<a_2->keyB (gl a.ks j)=true)->(decide ((↑a_2:Int)<(↑a.ks.length:Int))=true->(0<=(↑a_2:Int)/\(↑a_2:Int)<(↑a.ks.length:Int))/\0+(↑a_2:Int).toNat<a.ks.length/\(decide (gl a.ks (0+(↑a_2:Int).toNat)=(ByteArray.mk #[]))=true->∃ b:JrP,((0:Int)=if allK a.ks=true then seqOf (addsJ a.m a.ks).ms else (0:Int))/\((1:Int)=if allK a.ks=true then (0:Int) else (1:Int))/\a.p.H=b.H /\
 0=0/\markQ a.m.ms (addsJ a.m a.ks).ms a.p.cap b.cap (0=0/\logQ a.m.L (addsJ a.m a.ks).L a.p.y.lv b.y.lv (devQ a.m.d (addsJ a.m a.ks).d ((LogAt b.H b.y (addsJ a.m a.ks).L/\JrFr a.p b/\(addsJ a.m a.ks).ms.length<=b.cap)/\True))))/\(decide (gl a.ks (0+(↑a_2:Int).toNat)=(ByteArray.mk #[]))=false->(decide (40<(↑(gl a.ks (0+(↑a_2:Int).toNat)).size:Int))=true->∃ b:JrP,((0:Int)=if allK a.ks=true then seqOf (addsJ a.m a.ks).ms else (0:Int))/\((1:Int)=if allK a.ks=true then (0:Int) else (1:Int))/\a.p.H=b.H/\0=0/\markQ a.m.ms (addsJ a.m a.ks).ms a.p.cap b.cap (0=0/\logQ a.m.L (addsJ a.m a.ks).L a.p.y.lv b.y.lv (devQ a.m.d (addsJ a.m a.ks).d ((LogAt b.H b.y (addsJ a.m a.ks).L/\JrFr a.p b/\(addsJ a.m a.ks).ms.length<=b.cap)/\True))))/\(decide (40<(↑(gl a.ks (0+(↑a_2:Int).toNat)).size:Int))=false->InR .i64 ((↑a_2:Int)+1)/\∃ (a':Nat),(↑a_2:Int)+1=(↑a':Int)/\(↑a.ks.length:Int)=(↑a.ks.length:Int)/\(0=0/\a.ks.length=a.ks.length/\a.kc=a.kc)/\false=false/\(0:Int)=0/\(0:Int)=0/\0=0/\0=0/\(0=0/\a.ks.length=a.ks.length/\a.kc=a.kc)/\0=0/\0=0/\markQ a.m.ms a.m.ms a.p.cap a.p.cap (0=0/\logQ a.m.L a.m.L a.p.y.lv a.p.y.lv (devQ a.m.d a.m.d (a.p.H=a.p.H/\(a.ks.length<=a.ks.length/\RowsEq a.ks.length 1 (encRows encT a.ks) (encRows encT a.ks))/\(a'<=a.ks.length/\∀ j:Nat,j<a'->keyB (gl a.ks j)=true)/\a.ks.length - a'<a.ks.length - a_2)))))) /\
 (decide ((↑a_2:Int)<(↑a.ks.length:Int))=false->∃ a_5:Unit,false=false/\(0:Int)=0/\(0:Int)=0/\0=0/\0=0/\(0=0/\a.ks.length=a.ks.length/\a.kc=a.kc)/\0=0/\0=0/\markQ a.m.ms a.m.ms a.p.cap a.p.cap (0=0/\logQ a.m.L a.m.L a.p.y.lv a.p.y.lv (devQ a.m.d a.m.d (a.p.H=a.p.H/\(a.ks.length<=a.ks.length/\RowsEq a.ks.length 1 (encRows encT a.ks) (encRows encT a.ks))/\allK a.ks=true/\True)))))/\∀ a_2:Unit,allK a.ks=true->(∃ a_4:JAddS,0=(↑a_4.i:Int)/\(↑a.ks.length:Int)=(↑a.ks.length:Int)/\(0=0/\a.ks.length=a.ks.length/\a.kc=a.kc)/\false=false/\(0:Int)=0/\(0:Int)=0/\0=0/\0=0/\(0=0/\a.ks.length=a.ks.length/\a.kc=a.kc)/\a.p.H=a_4.p.H/\0=0/\0=0/\(0=0/\a.m.ms.length=(addTo a.m a.ks a_4.i).ms.length/\a.p.cap=a_4.p.cap)/\0=0/\logQ a.m.L (addTo a.m a.ks a_4.i).L a.p.y.lv a_4.p.y.lv (devQ a.m.d (addTo a.m a.ks a_4.i).d ((a.ks.length<=a.ks.length/\RowsEq a.ks.length 1 (encRows encT a.ks) (encRows encT a.ks))/\((addTo a.m a.ks a_4.i).ms.length<=a.m.ms.length/\RowsEq (addTo a.m a.ks a_4.i).ms.length 3 (encRows encMark a.m.ms) (encRows encMark (addTo a.m a.ks a_4.i).ms))/\(a_4.i<=a.ks.length/\allK a.ks=true/\LogAt a_4.p.H a_4.p.y (addTo a.m a.ks a_4.i).L/\JrFr a.p a_4.p/\(addTo a.m a.ks a_4.i).ms.length<=a_4.p.cap)/\True)))/\∀ a_4:JAddS,a_4.i<=a.ks.length/\allK a.ks=true/\LogAt a_4.p.H a_4.p.y (addTo a.m a.ks a_4.i).L/\JrFr a.p a_4.p/\(addTo a.m a.ks a_4.i).ms.length<=a_4.p.cap ->
 (decide ((↑a_4.i:Int)<(↑a.ks.length:Int))=true->(0<=(↑a_4.i:Int)/\(↑a_4.i:Int)<(↑a.ks.length:Int))/\0+(↑a_4.i:Int).toNat<a.ks.length/\∃ a_7:JSqA,0=0/\0=0/\markQ (addTo a.m a.ks a_4.i).ms a_7.ms a_4.p.cap a_7.cap (a_7.ms.length<100000/\∀ b:Unit,True->InR .i64 (seqOf a_7.ms+(1:Int))/\∃ a_9:NPutsA,(0=a_9.l.length/\0=a_9.cap)/\(0=0/\1=a_9.ns.length/\1=a_9.ncap)/\a_9.l.length=0/\(a_9.ns.length<=1/\RowsEq a_9.ns.length 1 (flatRows 1 [Value.int IntKind.i64 (seqOf a_7.ms+(1:Int))]) (encRows encI a_9.ns))/\(a_9.l.length<10000/\a_9.ns.length<100/\∀ i:Nat,i<a_9.ns.length->(0:Int)<=gl a_9.ns i/\gl a_9.ns i<(4611686018427387904:Int))/\∀ b:Nat,True->0+(a_9.l++putsB a_9.ns).length<=(a_9.l++putsB a_9.ns).length/\((a_9.l++putsB a_9.ns).length+(gl a.ks (0+(↑a_4.i:Int).toNat)).size)*1<=140737488355328/\∀ cap:Nat,(a_9.l++putsB a_9.ns).length+(gl a.ks (0+(↑a_4.i:Int).toNat)).size<=cap->cap<=lenMax->((a_9.l++putsB a_9.ns).length+(gl a.ks (0+(↑a_4.i:Int).toNat)).size<=b->cap=b)->∃ a_14:AppA,0=0/\(0=0/\(a_9.l++putsB a_9.ns).length+(gl a.ks (0+(↑a_4.i:Int).toNat)).size=a_14.body.length/\cap=a_14.cap)/\0=0/\logQ (addTo a.m a.ks a_4.i).L a_14.L a_4.p.y.lv a_14.y.lv (devQ (addTo a.m a.ks a_4.i).d a_14.d (a_4.p.H=a_14.H/\(a_14.body.length<=(a_9.l++putsB a_9.ns).length+(gl a.ks (0+(↑a_4.i:Int).toNat)).size/\RowsEq a_14.body.length 1 (appRows (encRows encB (a_9.l++putsB a_9.ns)) 0 (a_9.l++putsB a_9.ns).length (bytesRows (gl a.ks (0+(↑a_4.i:Int).toNat)))) (encRows encB a_14.body)) /\
 (LogAt a_14.H a_14.y a_14.L/\LogOk a_14.L a_14.d/\1<=a_14.body.length/\a_14.body.length<=300)/\∀ b:BegB,(LogAt b.H b.y (appL a_14.L a_14.body)/\∀ x:Nat,a_14.H x≠none->¬x∈fpLog a_14.y->b.H x=a_14.H x/\¬x∈fpLog b.y)->0+(addTo a.m a.ks a_4.i).ms.length<=(addTo a.m a.ks a_4.i).ms.length/\1<=1/\((addTo a.m a.ks a_4.i).ms.length+1)*32<=140737488355328/\∀ cap:Nat,(addTo a.m a.ks a_4.i).ms.length+1<=cap->cap<=lenMax->((addTo a.m a.ks a_4.i).ms.length+1<=a_4.p.cap->cap=a_4.p.cap)->InR .i64 ((↑a_4.i:Int)+1)/\∃ (a':JAddS),(↑a_4.i:Int)+1=(↑a'.i:Int)/\(↑a.ks.length:Int)=(↑a.ks.length:Int)/\(0=0/\a.ks.length=a.ks.length/\a.kc=a.kc)/\false=false/\(0:Int)=0/\(0:Int)=0/\0=0/\0=0/\(0=0/\a.ks.length=a.ks.length/\a.kc=a.kc)/\b.H=a'.p.H/\0=0/\0=0/\(0=0/\(addTo a.m a.ks a_4.i).ms.length+1=(addTo a.m a.ks a'.i).ms.length/\cap=a'.p.cap)/\0=0/\logQ (appL a_14.L a_14.body) (addTo a.m a.ks a'.i).L b.y.lv a'.p.y.lv (devQ (appD a_14.L a_14.d a_14.body) (addTo a.m a.ks a'.i).d ((a.ks.length<=a.ks.length/\RowsEq a.ks.length 1 (encRows encT a.ks) (encRows encT a.ks))/\((addTo a.m a.ks a'.i).ms.length<=(addTo a.m a.ks a_4.i).ms.length+1/\RowsEq (addTo a.m a.ks a'.i).ms.length 3 (appRows (encRows encMark (addTo a.m a.ks a_4.i).ms) 0 (addTo a.m a.ks a_4.i).ms.length fun (i j:Nat)=>flatRows 3 [Value.int IntKind.i64 (seqOf a_7.ms+(1:Int)),Value.string (gl a.ks (0+(↑a_4.i:Int).toNat)),Value.int IntKind.i64 a_14.L.next] (0+i) j) (encRows encMark (addTo a.m a.ks a'.i).ms)) /\
 (a'.i<=a.ks.length/\allK a.ks=true/\LogAt a'.p.H a'.p.y (addTo a.m a.ks a'.i).L/\JrFr a.p a'.p/\(addTo a.m a.ks a'.i).ms.length<=a'.p.cap)/\a.ks.length - a'.i<a.ks.length - a_4.i))))))/\(decide ((↑a_4.i:Int)<(↑a.ks.length:Int))=false->∃ a_7:MDelA,(0=0/\(addTo a.m a.ks a_4.i).ms.length=a_7.ms.length/\a_4.p.cap=a_7.cap)/\0=0/\(a_7.ms.length<=(addTo a.m a.ks a_4.i).ms.length/\RowsEq a_7.ms.length 3 (encRows encMark (addTo a.m a.ks a_4.i).ms) (encRows encMark a_7.ms))/\0=0/\0=0/\(0=0/\(addTo a.m a.ks a_4.i).ms.length=a_7.ms.length/\a_4.p.cap=a_7.cap)/\0=0/\logQ (addTo a.m a.ks a_4.i).L a_7.L a_4.p.y.lv a_7.y.lv (a_4.p.H=a_7.H/\(LogAt a_7.H a_7.y a_7.L/\a_7.L.l.length<1000/\a_7.ms.length<100000/\a_7.ms.length<=a_7.cap)/\∀ b:Unit,True->(decide (0<(↑a.ks.length:Int))=true->∃ a_10:DevM,0=0/\devQ (addTo a.m a.ks a_4.i).d a_10 ((a_10.n<100000/\a_10.calls<1000000000000)/\∀ b:Unit,True->∃ a_12:JSqA,0=0/\0=0/\markQ (keepM (firstF a_7.L) a_7.ms) a_12.ms a_7.cap a_12.cap (a_12.ms.length<100000/\∀ b:Unit,True->∃ b:JrP,(seqOf a_12.ms=if allK a.ks=true then seqOf (addsJ a.m a.ks).ms else (0:Int))/\((0:Int)=if allK a.ks=true then (0:Int) else (1:Int))/\a_4.p.H=b.H/\0=0/\markQ (keepM (firstF a_7.L) a_7.ms) (addsJ a.m a.ks).ms a_7.cap b.cap (0=0/\logQ (addTo a.m a.ks a_4.i).L (addsJ a.m a.ks).L a_4.p.y.lv b.y.lv (devQ (devFl a_10) (addsJ a.m a.ks).d ((LogAt b.H b.y (addsJ a.m a.ks).L /\
 JrFr a.p b/\(addsJ a.m a.ks).ms.length<=b.cap)/\True))))))/\(decide (0<(↑a.ks.length:Int))=false->∃ a_10:JSqA,0=0/\0=0/\markQ (keepM (firstF a_7.L) a_7.ms) a_10.ms a_7.cap a_10.cap (a_10.ms.length<100000/\∀ b:Unit,True->∃ b:JrP,(seqOf a_10.ms=if allK a.ks=true then seqOf (addsJ a.m a.ks).ms else (0:Int))/\((0:Int)=if allK a.ks=true then (0:Int) else (1:Int))/\a_4.p.H=b.H/\0=0/\markQ (keepM (firstF a_7.L) a_7.ms) (addsJ a.m a.ks).ms a_7.cap b.cap (0=0/\logQ (addTo a.m a.ks a_4.i).L (addsJ a.m a.ks).L a_4.p.y.lv b.y.lv (devQ (addTo a.m a.ks a_4.i).d (addsJ a.m a.ks).d ((LogAt b.H b.y (addsJ a.m a.ks).L/\JrFr a.p b/\(addsJ a.m a.ks).ms.length<=b.cap)/\True)))))))) (by kernel_rfl) (by
 rintro ⟨m,p,ks,kc⟩ ⟨hl,hlf,hkn,hmn,hcap,hok⟩;dsimp only at *;have no:allK ks=false->addsJ m ks=m:=fun e=>if_neg (by rw [e];decide);have bad:∀ i,i<ks.length->keyB (gl ks i)=false->allK ks=false:=fun i hi h=>by
  rw [Bool.eq_false_iff];intro ha;have:=List.all_eq_true.1 ha (gl ks i) (by rw [gl_eq hi];exact List.getElem_mem _);rw [h] at this;cases this
 have h0:∀ j,j<0->keyB (gl ks j)=true:=fun j hj=>absurd hj (Nat.not_lt_zero j);have hfr0:=JrFr.refl p;refine ⟨⟨⟨0,?_⟩,fun i hi=>?_⟩,fun _ hK=>⟨⟨⟨0,p⟩,?_⟩,fun x hx=>?_⟩⟩
 ·(repeat' apply And.intro)<;>first|with_reducible (first|rfl|trivial|assumption)|exact h0|(intro h_;revert h_)|omega|with_reducible exact RowsEq.refl _ _ _|rfl|exact RowsEq.refl _ _ _|exact Nat.le_refl _|(dsimp only;omega)|skip
 ·obtain ⟨hi,hall⟩:=hi;rw [show 0+(i:Int).toNat=i by omega];refine ⟨fun c1=>?_,fun c1=>⟨(),?_⟩⟩
  ·have hlt:i<ks.length:=by have:=of_decide_eq_true c1;omega
   refine ⟨⟨by omega,by omega⟩,hlt,fun c2=>?_,fun c2=>⟨fun c3=>?_,fun c3=>⟨by simp only [InR];omega,i+1,?_⟩⟩⟩
   ·have hn:=bad i hlt (by unfold keyB;rw [c2];rfl);rw [no hn,hn];refine ⟨p,?_⟩
    (repeat' apply And.intro)<;>first|with_reducible (first|rfl|trivial|assumption)|exact hl|exact hfr0|exact hcap|(intro h_;revert h_)|omega|with_reducible exact RowsEq.refl _ _ _|rfl|exact RowsEq.refl _ _ _|exact Nat.le_refl _|(dsimp only;omega)|skip
   ·have hn:=bad i hlt (by
     have c3:=of_decide_eq_true c3;unfold keyB;have:decide ((gl ks i).size<=40)=false:=decide_eq_false (by omega);rw [this,Bool.and_false])
    rw [no hn,hn];refine ⟨p,?_⟩
    (repeat' apply And.intro)<;>first|with_reducible (first|rfl|trivial|assumption)|exact hl|exact hfr0|exact hcap|(intro h_;revert h_)|omega|with_reducible exact RowsEq.refl _ _ _|rfl|exact RowsEq.refl _ _ _|exact Nat.le_refl _|(dsimp only;omega)|skip
   ·have hk:keyB (gl ks i)=true:=by
     have c3:=of_decide_eq_false c3;unfold keyB;rw [c2,show decide ((gl ks i).size<=40)=true from decide_eq_true (by omega)];rfl
    have h1:∀ j,j<i+1->keyB (gl ks j)=true:=fun j hj=>by
     by_cases e:j=i
     ·rw [e];exact hk
     ·exact hall j (by omega)
    (repeat' apply And.intro)<;>first|with_reducible (first|rfl|trivial|assumption)|exact h1|(intro h_;revert h_)|omega|with_reducible exact RowsEq.refl _ _ _|rfl|exact RowsEq.refl _ _ _|exact Nat.le_refl _|(dsimp only;omega)|skip
  ·have hi':i=ks.length:=by have:=of_decide_eq_false c1;omega
   have ha:allK ks=true:=List.all_eq_true.2 fun k hk=>by
    obtain ⟨j,hj,rfl⟩:=List.getElem_of_mem hk;rw [<- gl_eq hj];exact hall j (by omega)
   (repeat' apply And.intro)<;>first|with_reducible (first|rfl|trivial|assumption)|exact ha|(intro h_;revert h_)|omega|with_reducible exact RowsEq.refl _ _ _|rfl|exact RowsEq.refl _ _ _|exact Nat.le_refl _|(dsimp only;omega)|skip
 ·have e0:addTo m ks 0=m:=rfl;dsimp only;rw [e0]
  (repeat' apply And.intro)<;>first|with_reducible (first|rfl|trivial|assumption)|exact hl|exact hfr0|exact hcap|exact hK|(intro h_;revert h_)|omega|with_reducible exact RowsEq.refl _ _ _|rfl|exact RowsEq.refl _ _ _|exact Nat.le_refl _|(dsimp only;omega)|skip
 obtain ⟨i,q⟩:=x;obtain ⟨hi,_,hq,hfr,hqc⟩:=hx;dsimp only at hi hq hfr hqc ⊢;obtain ⟨hok1,hok2,hok3,hok4⟩:=hok hK;have hMn:=addTo_len m ks i;rw [show 0+(i:Int).toNat=i by omega];refine ⟨fun c1=>?_,fun c1=>?_⟩
 ·have hlt:i<ks.length:=by have:=of_decide_eq_true c1;omega
  obtain ⟨ok1,s0,s1⟩:=hok1 i hlt;have hkey:keyB (gl ks i)=true:=List.all_eq_true.1 hK (gl ks i) (by rw [gl_eq hlt];exact List.getElem_mem _);obtain ⟨k1,k2⟩:=keyB_out hkey;have e:addTo m ks (i+1)=addM (addTo m ks i) (gl ks i):=rfl;have hMn1:=addTo_len m ks (i+1);obtain ⟨M,hM⟩:∃ M,M=addTo m ks i:=⟨_,rfl⟩
  rw [<- hM] at hq hqc hMn ok1 s0 s1 e;rw [<- hM];obtain ⟨sq,hsq⟩:∃ sq,sq=seqOf M.ms+1:=⟨_,rfl⟩
  have hMs:M.ms.length<100000:=by omega
  refine ⟨⟨by omega,by omega⟩,hlt,JSqA.mk M.ms q.cap,?_⟩
  (repeat' apply And.intro)<;>first|with_reducible (first|rfl|trivial|assumption)|exact hMs|(intro h_;revert h_)|omega|with_reducible exact RowsEq.refl _ _ _|rfl|exact RowsEq.refl _ _ _|exact Nat.le_refl _|(dsimp only;omega)|skip
  intro _ _;dsimp only;rw [<- hsq];have eB:[]++putsB [sq]=vi sq:=by simp [putsB]
  have hv:=vi_len sq;have hr1:RowsEq [sq].length 1 (flatRows 1 [Value.int .i64 sq]) (encRows encI [sq]):=.of_cells fun i hi=>by
   have:i=0:=by simp at hi;omega
   subst this;rfl
  have hg1:∀ i:Nat,i < [sq].length->0<=gl [sq] i/\gl [sq] i<4611686018427387904:=fun i hi=>by
   have:i=0:=by simp at hi;omega
   subst this;show 0<=sq/\sq<_;omega
  have hg2:[sq].length<100:=by simp
  refine ⟨by simp only [InR];omega,NPutsA.mk [] 0 [sq] 1,?_⟩;dsimp only;rw [eB]
  (repeat' apply And.intro)<;>first|with_reducible (first|rfl|trivial|assumption)|exact hr1|exact hg1|exact hg2|(intro h_;revert h_)|omega|with_reducible exact RowsEq.refl _ _ _|rfl|exact RowsEq.refl _ _ _|exact Nat.le_refl _|(dsimp only;omega)|skip
  intro b _;have hbl:(markB sq (gl ks i)).length=(vi sq).length+(gl ks i).size:=by unfold markB;rw [List.length_append,txB_len]
  have hr2:RowsEq (markB sq (gl ks i)).length 1 (appRows (encRows encB (vi sq)) 0 (vi sq).length (bytesRows (gl ks i))) (encRows encB (markB sq (gl ks i))):=.app rfl (.of_eq (by funext i;rw [Nat.zero_add])) (bytes_rows _ (by omega));refine ⟨by omega,by omega,fun c q1 q2 q3=>⟨AppA.mk q.H q.y M.L M.d (markB sq (gl ks i)) c,?_⟩⟩
  (repeat' apply And.intro)<;>first|with_reducible (first|rfl|trivial|assumption)|exact hq|exact ok1|exact hr2|(intro h_;revert h_)|omega|with_reducible exact RowsEq.refl _ _ _|rfl|exact RowsEq.refl _ _ _|exact Nat.le_refl _|(dsimp only;omega)|skip
  rintro ⟨H1,y1⟩ ⟨hl1,hf1⟩;dsimp only at hl1 hf1 ⊢;have hr3:=rows_mark (ms:=M.ms) (x:=⟨sq,gl ks i,M.L.next⟩);have hfr1:JrFr p ⟨H1,y1,0⟩:=fun z hz hn=>by
   obtain ⟨a1,a2⟩:=hfr z hz hn;obtain ⟨b1,b2⟩:=hf1 z (by rw [a1];exact hz) a2;exact ⟨b1.trans a1,b2⟩
  refine ⟨by omega,by omega,by omega,fun c2 w1 w2 w3=>⟨by simp only [InR];omega,⟨i+1,⟨H1,y1,c2⟩⟩,?_⟩⟩;dsimp only;have e2:addM M (gl ks i)=⟨appL M.L (markB sq (gl ks i)),appD M.L M.d (markB sq (gl ks i)),M.ms++[⟨sq,gl ks i,M.L.next⟩]⟩:=by rw [hsq];rfl
  rw [e,e2] at hMn1;dsimp only at hMn1;rw [e,e2];dsimp only;have hi2:i+1<=ks.length:=hlt;have hfr2:JrFr p ⟨H1,y1,c2⟩:=hfr1;have hlt2:ks.length - (i+1)<ks.length - i:=by omega
  have hcap2:(M.ms++[(⟨sq,gl ks i,M.L.next⟩:MarkM)]).length<=c2:=by omega
  (repeat' apply And.intro)<;>first|with_reducible (first|rfl|trivial|assumption)|exact hl1|exact hfr2|exact hK|exact hr3|exact hcap2|exact hMn1|exact hlt2|(intro h_;revert h_)|omega|with_reducible exact RowsEq.refl _ _ _|rfl|exact RowsEq.refl _ _ _|exact Nat.le_refl _|(dsimp only;omega)|skip
 ·have hi':i=ks.length:=by have:=of_decide_eq_false c1;omega
  subst hi';obtain ⟨M,hM⟩:∃ M,M=addTo m ks ks.length:=⟨_,rfl⟩
  rw [<- hM] at hq hqc hMn hok2 hok3 hok4;rw [<- hM];have hMs:M.ms.length<100000:=by omega
  have hkl:(keepM (firstF M.L) M.ms).length<=M.ms.length:=List.length_filter_le _ _;have hks:(keepM (firstF M.L) M.ms).length<100000:=by omega
  have hkc:(keepM (firstF M.L) M.ms).length<=q.cap:=by omega
  have hfr2:JrFr p ⟨q.H,q.y,q.cap⟩:=hfr;refine ⟨MDelA.mk M.ms q.cap q.H q.y M.L,?_⟩
  (repeat' apply And.intro)<;>first|with_reducible (first|rfl|trivial|assumption)|exact hq|exact hok4|exact hMs|exact hqc|(intro h_;revert h_)|omega|with_reducible exact RowsEq.refl _ _ _|rfl|exact RowsEq.refl _ _ _|exact Nat.le_refl _|(dsimp only;omega)|skip
  intro _ _;dsimp only;rw [hK];refine ⟨fun c2=>?_,fun c2=>?_⟩
  ·have hn:ks.length≠0:=by have:=of_decide_eq_true c2;omega
   have e1:addsJ m ks=⟨M.L,devFl M.d,keepM (firstF M.L) M.ms⟩:=by
    unfold addsJ;rw [if_pos hK,if_neg hn,<- hM];rfl
   rw [e1];refine ⟨M.d,?_⟩
   (repeat' apply And.intro)<;>first|with_reducible (first|rfl|trivial|assumption)|exact hok2|exact hok3|(intro h_;revert h_)|omega|with_reducible exact RowsEq.refl _ _ _|rfl|exact RowsEq.refl _ _ _|exact Nat.le_refl _|(dsimp only;omega)|skip
   intro _ _;refine ⟨JSqA.mk (keepM (firstF M.L) M.ms) q.cap,?_⟩
   (repeat' apply And.intro)<;>first|with_reducible (first|rfl|trivial|assumption)|exact hks|(intro h_;revert h_)|omega|with_reducible exact RowsEq.refl _ _ _|rfl|exact RowsEq.refl _ _ _|exact Nat.le_refl _|(dsimp only;omega)|skip
   intro _ _;refine ⟨⟨q.H,q.y,q.cap⟩,?_⟩
   (repeat' apply And.intro)<;>first|with_reducible (first|rfl|trivial|assumption)|exact hq|exact hfr2|exact hkc|(intro h_;revert h_)|omega|with_reducible exact RowsEq.refl _ _ _|rfl|exact RowsEq.refl _ _ _|exact Nat.le_refl _|(dsimp only;omega)|skip
  ·have hn:ks.length=0:=by have:=of_decide_eq_false c2;omega
   have e1:addsJ m ks=⟨M.L,M.d,keepM (firstF M.L) M.ms⟩:=by
    unfold addsJ;rw [if_pos hK,if_pos hn,hM,hn];rfl
   rw [e1];refine ⟨JSqA.mk (keepM (firstF M.L) M.ms) q.cap,?_⟩
   (repeat' apply And.intro)<;>first|with_reducible (first|rfl|trivial|assumption)|exact hks|(intro h_;revert h_)|omega|with_reducible exact RowsEq.refl _ _ _|rfl|exact RowsEq.refl _ _ _|exact Nat.le_refl _|(dsimp only;omega)|skip
   intro _ _;refine ⟨⟨q.H,q.y,q.cap⟩,?_⟩
   (repeat' apply And.intro)<;>first|with_reducible (first|rfl|trivial|assumption)|exact hq|exact hfr2|exact hkc|(intro h_;revert h_)|omega|with_reducible exact RowsEq.refl _ _ _|rfl|exact RowsEq.refl _ _ _|exact Nat.le_refl _|(dsimp only;omega)|skip)
theorem callJAdd:CallsBy (Y Tryz.prog).G.X 28 cJAdd:=fn_ok okY (tab:=tabJAdd) ⟨callJSeq,callNPuts,callAppend,callMDel,callDevFlush,trivial⟩ bodyJAdd
end Go.Proofs.YtfhkbihcfmbbcaaGreat

namespace Go.Proofs.YtfhkbihcfmbbcaaGreat
open Go.Sx
set_option maxRecDepth 100000
set_option linter.unusedVariables false
set_option linter.unusedSimpArgs false
structure NG0 where
 l:List Int
 cap:Nat
 n:Int
noncomputable def cNGet0:Con where
 α:=NG0
 β:=Unit
 m:=1
 m':=1
 pre:=fun a=>a.l.length<100000/\a.l.length<=a.cap/\0<=a.n/\a.n<4611686018427387904/\(vi a.n).length<=a.l.length/\∀ i,i<(vi a.n).length->gl a.l (0+i)=gl (vi a.n) i
 args:=fun a=>[.a (.slc 0 0 1 a.l.length a.cap)]
 hp:=fun _=>[]
 ro:=fun a=>byteHp 0 a.l
 post:=fun _ _=>True
 res:=fun a _=>.tup [.a (.int .i64 a.n),.a (.int .i64 (vi a.n).length),.a (.lit .i64 0)]
 hp':=fun _ _=>[]
theorem fn_sem {Y:Gx} (hY:Y.Ok) {tab:List (Nat × Con)} (ht:TabOk Y.G.X tab) {f:Nat} {C:Con} {l:C.α->List (Nat × List An × List An)} (hb:fnBody Y tab f C l):ConSem Y.G.X C f:=con_sem hY (fun _=>CHof_ok hY ht) hb.body
theorem semNGet:ConSem (Y Tryz.prog).G.X cNGet 87:=fn_sem okY (tab:=[]) trivial bodyNGet
theorem conSem_of {X:Cx} {C D:Con} {f:Nat} (h:ConSem X C f) (g:D.α->C.α) (h1:∀ a,D.pre a->C.pre (g a)) (hm:D.m=C.m) (hm':D.m'=C.m') (hβ:D.β=C.β) (h2:∀ a,D.hp a=C.hp (g a)) (h3:∀ a,D.ro a=C.ro (g a)) (h4:∀ a,D.args a=C.args (g a))
 (h5:∀ a o,D.post a (cast hβ.symm o)=C.post (g a) o) (h6:∀ a o,D.res a (cast hβ.symm o)=C.res (g a) o) (h7:∀ a o,D.hp' a (cast hβ.symm o)=C.hp' (g a) o):ConSem X D f:=by
 intro a ha M ρ w vs hn hh hr;rw [h2,h3] at hh;rw [h4] at hr;refine Calls.mono (h (g a) (h1 a ha) M ρ w vs (hn.trans hm) hh hr) fun e w' hq=>?_;obtain ⟨v,e1,o,ρ2,q1,q2,q3,q4,q5⟩:=hq;exact ⟨v,e1,cast hβ.symm o,ρ2,by rw [h5];exact q1,q2.trans hm'.symm,fun T hT=>q3 T (by rw [<- hm];exact hT),by rw [h6];exact q4,by rw [h7];exact q5⟩
theorem semNGet0:ConSem (Y Tryz.prog).G.X cNGet0 87:=conSem_of (D:=cNGet0) semNGet (fun a=>(⟨a.l,0,a.l.length,a.cap,a.n⟩:NGetA)) (fun a h=>⟨by show 0+a.l.length<=a.l.length;omega,h.1,h.2.1,h.2.2.1,h.2.2.2.1,h.2.2.2.2.1,h.2.2.2.2.2⟩) rfl rfl rfl (fun _=>rfl) (fun _=>rfl) (fun _=>rfl) (fun _ _=>rfl) (fun _ _=>rfl) (fun _ _=>rfl)
def slNGet (a:NG0):Sl1:=⟨5,[.int .u8],a.l.length,a.cap,encRows encB a.l⟩
noncomputable def cNGetV:Con:=cNGet0.val1 slNGet
theorem callNGetV:CallsBy (Y Tryz.prog).G.X 87 cNGetV:=fun _ _ _ h=>con_okS (val1_sem semNGet0 ⟨rfl,fun _=>rfl,fun _=>rfl,fun _=>rfl,fun _ _=>rfl,fun _ _ p hp=>(by cases hp)⟩) h
structure MsOk (ms:List MarkM) (rs:List RecM):Prop where
 len:ms.length=rs.length
 few:ms.length<9000
 at_:∀ i,i<ms.length->(gl rs i).body=markB (gl ms i).seq (gl ms i).key/\(gl rs i).pos=(gl ms i).pos/\0<=(gl ms i).seq/\(gl ms i).seq<1000000000000/\keyB (gl ms i).key=true
 step:∀ i,i+1<ms.length->(gl ms (i+1)).seq=(gl ms i).seq+1
structure JOpA where
 H:PH
 d:DevM
 from_:Nat
 segs:Nat
 ms:List MarkM
noncomputable def cJOpen:Con where
 α:=JOpA
 β:=JrP
 m:=3
 m':=7
 pre:=fun a=>20<=a.segs/\OpenOk a.from_ a.segs a.d/\MsOk a.ms (allR (openM a.from_ a.segs a.d).l)/\∀ i,i<(openM a.from_ a.segs a.d).l.length->(gl (openM a.from_ a.segs a.d).l i).recs.length<=400
 args:=fun a=>[.a (.ptr 0 0 0 0),.a (.int .i64 a.from_),.a (.int .i64 a.segs)]
 hp:=fun a=>[(2,.pool a.H)]
 ro:=fun a=>devHp 0 1 a.d
 post:=fun a b=>LogAt b.H b.y (openM a.from_ a.segs a.d)/\(∀ z,a.H z≠none->b.H z=a.H z/\z∉fpLog b.y)/\a.ms.length<=b.cap
 res:=fun _ _=>.tup [.a (.ptr 3 0 0 0),.a (.lit .i64 0)]
 hp':=fun a b=>[(3,jrO 5 4 a.ms.length b.cap),(4,.arr 105 ksMark a.ms.length (encRows encMark a.ms)),(5,logObj 0 (openM a.from_ a.segs a.d) b.y.lv),(6,.pool b.H)]
def iJOpen (a:JOpA):An:=.flat 10 (Nat × Nat) (fun s x=>((s.at_ (s.tg 10) (jrO (s.in_ (s.tg 10) 0) s.nx (a.ms.take x.1).length x.2)).new (.arr 105 ksMark (a.ms.take x.1).length (encRows encMark (a.ms.take x.1)))).int 38 x.1) (fun _ x=>x.1<=a.ms.length/\x.1<=x.2) (fun _ x=>a.ms.length - x.1)
theorem seq_take {ms:List MarkM} {rs:List RecM} (h:MsOk ms rs) {i:Nat} (hi:i<ms.length) (h0:i≠0):seqOf (ms.take i)+1=(gl ms i).seq:=by
 have hl:(ms.take i).length=i:=by rw [List.length_take];omega
 have e:gl (ms.take i) (i - 1)=gl ms (i - 1):=by rw [gl_eq (by omega),gl_eq (by omega),List.getElem_take]
 have:=h.step (i - 1) (by omega);rw [Nat.sub_add_cancel (by omega)] at this;unfold seqOf;rw [hl,if_neg h0,e,this]
theorem key_str {seq:Int} {k:ByteArray}:bytesStr (fun i=>encRows encB (markB seq k) ((vi seq).length+i)) 0 ((markB seq k).length - (vi seq).length)=k:=by
 have hn:(markB seq k).length - (vi seq).length=k.size:=by unfold markB;rw [List.length_append,txB_len];omega
 unfold bytesStr;refine fold_tx hn fun i hi=>?_;show gl (markB seq k) ((vi seq).length+(0+i))=_;unfold markB;rw [gl_append_right,Nat.zero_add]
noncomputable def tabJOpen:List (Nat × Con):=[(85,cLOpen),(86,cLAll),(87,cNGetV),(24,cJSeq)]
set_option maxHeartbeats 4000000 in
theorem bodyJOpen:fnBody (Y Tryz.prog) tabJOpen 62 cJOpen fun a=>[(62,[iJOpen a],[])]:=fnBody.of (p :=
 ∀ a:JOpA,(20<=a.segs/\OpenOk a.from_ a.segs a.d/\MsOk a.ms (allR (openM a.from_ a.segs a.d).l)/\∀ i:Nat,i<(openM a.from_ a.segs a.d).l.length->(gl (openM a.from_ a.segs a.d).l i).recs.length<=400)->(decide ((↑a.segs:Int)<20)=true->∃ b:JrP,False)/\(decide ((↑a.segs:Int)<20)=false->∃ a_3:OpA,0=0/\(↑a.from_:Int)=(↑a_3.from_:Int)/\(↑a.segs:Int)=(↑a_3.segs:Int)/\a.H=a_3.H/\devQ a.d a_3.d (OpenOk a_3.from_ a_3.segs a_3.d/\∀ b:BegB,(LogAt b.H b.y (openM a_3.from_ a_3.segs a_3.d)/\∀ x:Nat,a_3.H x≠none->b.H x=a_3.H x/\¬x∈fpLog b.y)->∃ a_5:LAllA,0=0/\b.H=a_5.H/\0=0/\logQ (openM a_3.from_ a_3.segs a_3.d) a_5.L b.y.lv a_5.y.lv ((LogAt a_5.H a_5.y a_5.L/\a_5.L.l.length<1000/\∀ i:Nat,i<a_5.L.l.length->(gl a_5.L.l i).recs.length<=400/\∀ k:Nat,k<(gl a_5.L.l i).recs.length->1<=(gl (gl a_5.L.l i).recs k).body.length/\(gl (gl a_5.L.l i).recs k).body.length<=1000)/\∀ b_1:LAllB,(OutAt b_1.H b_1.v b_1.vs (allR a_5.L.l)/\∀ z:Nat,a_5.H z≠none->b_1.H z=a_5.H z/\¬z∈fpV b_1.v/\¬z∈List.flatMap fpV b_1.vs)->(∃ a:Option Go.Addr,∃ l c:Nat,b_1.v=Value.slice a l c/\l<=lenMax)/\(∃ a_7:Nat × Nat,0=(↑a_7.fst:Int)/\(↑(slLen b_1.v):Int)=(↑(slLen b_1.v):Int)/\b_1.v=b_1.v/\0=0/\false=false/\(0:Int)=0/\0=0/\decide ((↑a.segs:Int)<20)=decide ((↑a.segs:Int)<20)/\false=false/\(0:Int)=0/\0=0/\(↑a.from_:Int)=(↑a.from_:Int)/\(↑a.segs:Int)=(↑a.segs:Int) /\
 b_1.H=b_1.H/\0=0/\(0=(List.take a_7.fst a.ms).length/\0=a_7.snd)/\0=0/\logQ (openM a_3.from_ a_3.segs a_3.d) (openM a_3.from_ a_3.segs a_3.d) b.y.lv b.y.lv (devQ a.d a.d ((List.take a_7.fst a.ms).length=0/\(a_7.fst<=a.ms.length/\a_7.fst<=a_7.snd)/\True)))/\∀ a_7:Nat × Nat,a_7.fst<=a.ms.length/\a_7.fst<=a_7.snd->(decide ((↑a_7.fst:Int)<(↑(slLen b_1.v):Int))=true->∃ b_2 o:Nat,∃ l c:Nat,b_1.v=slv b_2 o l c/\(0<=(↑a_7.fst:Int)/\(↑a_7.fst:Int)<(↑l:Int))/\∃ b_3 lo o_1:Nat,∃ cs:List Value,pv b_2 (o+(↑a_7.fst:Int).toNat*2)=pv b_3 (lo+o_1)/\b_1.H b_3=some (lo,cs)/\((∃ v:Value,cs[o_1]? = some v/\∃ n:Int,v=Value.int IntKind.i64 n/\InR .i64 n)/\(∃ v:Value,cs[o_1+1]? = some v/\v.oneCell'=true)/\True)/\∃ a_10:V1 cNGet0.α,cs.getD (o_1+1) (Value.tuple #[])=a_10.3/\b_1.H=a_10.2/\((a_10.1.l.length<100000/\a_10.1.l.length<=a_10.1.cap/\(0:Int)<=a_10.1.n/\a_10.1.n<(4611686018427387904:Int)/\(vi a_10.1.n).length<=a_10.1.l.length/\∀ i:Nat,i<(vi a_10.1.n).length->gl a_10.1.l (0+i)=gl (vi a_10.1.n) i)/\slAt a_10.2 a_10.3 [CK.int IntKind.u8] (slNGet a_10.1).3 (slNGet a_10.1).4 (slNGet a_10.1).5)/\∀ b_4:cNGet0.β,True->(((↑(List.take a_7.fst a.ms).length:Int) == 0)=true->okSl (cs.getD (o_1+1) (Value.tuple #[]))/\(0<=(↑(vi a_10.1.n).length:Int)/\(↑(vi a_10.1.n).length:Int)<=(↑(slLen (cs.getD (o_1+1) (Value.tuple #[]))):Int))/\∃ l c:Nat,∃ rows:Nat ->
 Nat->Value,slAt b_1.H (slcut 1 (cs.getD (o_1+1) (Value.tuple #[])) (↑(vi a_10.1.n).length:Int).toNat (slLen (cs.getD (o_1+1) (Value.tuple #[]))) (slCap (cs.getD (o_1+1) (Value.tuple #[])))) [CK.int IntKind.u8] l c rows/\(InR .i64 (toI (cs.getD o_1 (Value.tuple #[])))->0+(List.take a_7.fst a.ms).length<=(List.take a_7.fst a.ms).length/\1<=1/\((List.take a_7.fst a.ms).length+1)*32<=140737488355328/\∀ cap:Nat,(List.take a_7.fst a.ms).length+1<=cap->cap<=lenMax->((List.take a_7.fst a.ms).length+1<=a_7.snd->cap=a_7.snd)->InR .i64 ((↑a_7.fst:Int)+1)/\∃ (a':Nat × Nat),(↑a_7.fst:Int)+1=(↑a'.fst:Int)/\(↑(slLen b_1.v):Int)=(↑(slLen b_1.v):Int)/\b_1.v=b_1.v/\0=0/\false=false/\(0:Int)=0/\0=0/\decide ((↑a.segs:Int)<20)=decide ((↑a.segs:Int)<20)/\false=false/\(0:Int)=0/\0=0/\(↑a.from_:Int)=(↑a.from_:Int)/\(↑a.segs:Int)=(↑a.segs:Int)/\b_1.H=b_1.H/\0=0/\(0=0/\(List.take a_7.fst a.ms).length+1=(List.take a'.fst a.ms).length/\cap=a'.snd)/\0=0/\logQ (openM a_3.from_ a_3.segs a_3.d) (openM a_3.from_ a_3.segs a_3.d) b.y.lv b.y.lv (devQ a.d a.d (((List.take a'.fst a.ms).length<=(List.take a_7.fst a.ms).length+1/\RowsEq (List.take a'.fst a.ms).length 3 (appRows (encRows encMark (List.take a_7.fst a.ms)) 0 (List.take a_7.fst a.ms).length fun (i j:Nat)=>flatRows 3 [Value.int IntKind.i64 a_10.1.n,Value.string (bytesStr rows 0 l),Value.int IntKind.i64 (toI (cs.getD o_1 (Value.tuple #[])))] (0+i) j) (encRows encMark (List.take a'.fst a.ms))) /\
 (a'.fst<=a.ms.length/\a'.fst<=a'.snd)/\a.ms.length - a'.fst<a.ms.length - a_7.fst))))/\(((↑(List.take a_7.fst a.ms).length:Int) == 0)=false->∃ a_13:JSqA,0=0/\0=0/\markQ (List.take a_7.fst a.ms) a_13.ms a_7.snd a_13.cap (a_13.ms.length<100000/\∀ b_5:Unit,True->InR .i64 (seqOf a_13.ms+(1:Int))/\((a_10.1.n == seqOf a_13.ms+(1:Int))=true->okSl (cs.getD (o_1+1) (Value.tuple #[]))/\(0<=(↑(vi a_10.1.n).length:Int)/\(↑(vi a_10.1.n).length:Int)<=(↑(slLen (cs.getD (o_1+1) (Value.tuple #[]))):Int))/\∃ l c:Nat,∃ rows:Nat->Nat->Value,slAt b_1.H (slcut 1 (cs.getD (o_1+1) (Value.tuple #[])) (↑(vi a_10.1.n).length:Int).toNat (slLen (cs.getD (o_1+1) (Value.tuple #[]))) (slCap (cs.getD (o_1+1) (Value.tuple #[])))) [CK.int IntKind.u8] l c rows/\(InR .i64 (toI (cs.getD o_1 (Value.tuple #[])))->0+(List.take a_7.fst a.ms).length<=(List.take a_7.fst a.ms).length/\1<=1/\((List.take a_7.fst a.ms).length+1)*32<=140737488355328/\∀ cap:Nat,(List.take a_7.fst a.ms).length+1<=cap->cap<=lenMax->((List.take a_7.fst a.ms).length+1<=a_7.snd->cap=a_7.snd)->InR .i64 ((↑a_7.fst:Int)+1)/\∃ (a':Nat × Nat),(↑a_7.fst:Int)+1=(↑a'.fst:Int)/\(↑(slLen b_1.v):Int)=(↑(slLen b_1.v):Int)/\b_1.v=b_1.v/\0=0/\false=false/\(0:Int)=0/\0=0/\decide ((↑a.segs:Int)<20)=decide ((↑a.segs:Int)<20)/\false=false/\(0:Int)=0/\0=0/\(↑a.from_:Int)=(↑a.from_:Int)/\(↑a.segs:Int)=(↑a.segs:Int) /\
 b_1.H=b_1.H/\0=0/\(0=0/\(List.take a_7.fst a.ms).length+1=(List.take a'.fst a.ms).length/\cap=a'.snd)/\0=0/\logQ (openM a_3.from_ a_3.segs a_3.d) (openM a_3.from_ a_3.segs a_3.d) b.y.lv b.y.lv (devQ a.d a.d (((List.take a'.fst a.ms).length<=(List.take a_7.fst a.ms).length+1/\RowsEq (List.take a'.fst a.ms).length 3 (appRows (encRows encMark (List.take a_7.fst a.ms)) 0 (List.take a_7.fst a.ms).length fun (i j:Nat)=>flatRows 3 [Value.int IntKind.i64 a_10.1.n,Value.string (bytesStr rows 0 l),Value.int IntKind.i64 (toI (cs.getD o_1 (Value.tuple #[])))] (0+i) j) (encRows encMark (List.take a'.fst a.ms)))/\(a'.fst<=a.ms.length/\a'.fst<=a'.snd)/\a.ms.length - a'.fst<a.ms.length - a_7.fst))))/\((a_10.1.n == seqOf a_13.ms+(1:Int))=false->InR .i64 ((↑a_7.fst:Int)+1)/\∃ (a':Nat × Nat),(↑a_7.fst:Int)+1=(↑a'.fst:Int)/\(↑(slLen b_1.v):Int)=(↑(slLen b_1.v):Int)/\b_1.v=b_1.v/\0=0/\false=false/\(0:Int)=0/\0=0/\decide ((↑a.segs:Int)<20)=decide ((↑a.segs:Int)<20)/\false=false/\(0:Int)=0/\0=0/\(↑a.from_:Int)=(↑a.from_:Int)/\(↑a.segs:Int)=(↑a.segs:Int)/\b_1.H=b_1.H/\0=0/\(0=0/\(List.take a_7.fst a.ms).length=(List.take a'.fst a.ms).length/\a_7.snd=a'.snd)/\0=0/\logQ (openM a_3.from_ a_3.segs a_3.d) (openM a_3.from_ a_3.segs a_3.d) b.y.lv b.y.lv (devQ a.d a.d (((List.take a'.fst a.ms).length<=(List.take a_7.fst a.ms).length/\RowsEq (List.take a'.fst a.ms).length 3 (encRows encMark (List.take a_7.fst a.ms)) (encRows encMark (List.take a'.fst a.ms))) /\
 (a'.fst<=a.ms.length/\a'.fst<=a'.snd)/\a.ms.length - a'.fst<a.ms.length - a_7.fst))))))/\(decide ((↑a_7.fst:Int)<(↑(slLen b_1.v):Int))=false->∃ b_2:JrP,0=0/\(0:Int)=0/\0=0/\markQ (List.take a_7.fst a.ms) a.ms a_7.snd b_2.cap (0=0/\logQ (openM a_3.from_ a_3.segs a_3.d) (openM a.from_ a.segs a.d) b.y.lv b_2.y.lv (b_1.H=b_2.H/\(LogAt b_2.H b_2.y (openM a.from_ a.segs a.d)/\(∀ z:Nat,a.H z≠none->b_2.H z=a.H z/\¬z∈fpLog b_2.y)/\a.ms.length<=b_2.cap)/\True))))))) (by kernel_rfl) (by
 rintro ⟨H,d,fr,sg,ms⟩ ⟨hsg,ok,hms,hsl⟩;dsimp only at *;obtain ⟨L,hL⟩:∃ L,L=openM fr sg d:=⟨_,rfl⟩
 have hone:L.l.length<=1:=by rw [hL];exact ok.one
 rw [<- hL] at hms hsl;have hlen:=hms.len;have hfew:=hms.few;refine ⟨fun c=>by (exfalso;have:=of_decide_eq_true c;omega),fun _=>⟨OpA.mk H d fr sg,?_⟩⟩;dsimp only;rw [<- hL]
 (repeat' apply And.intro)<;>first|with_reducible (first|rfl|trivial|assumption)|exact ok|(intro h_;revert h_)|omega|with_reducible exact RowsEq.refl _ _ _|rfl|exact RowsEq.refl _ _ _|exact Nat.le_refl _|(dsimp only;omega)|skip
 rintro ⟨H1,y1⟩ ⟨hl1,hf1⟩;dsimp only at hl1 hf1 ⊢;refine ⟨LAllA.mk H1 y1 L,?_⟩;have hrec:∀ i,i<L.l.length->(gl L.l i).recs.length<=400/\∀ k,k<(gl L.l i).recs.length->1<=(gl (gl L.l i).recs k).body.length/\(gl (gl L.l i).recs k).body.length<=1000:=fun i hi=>⟨hsl i hi,fun k hk=>by
  obtain ⟨j,hj,e⟩:=allR_at hi hk;obtain ⟨e1,_,_,_,e5⟩:=hms.at_ j (by rw [hlen];exact hj);have a1:=vi_len (gl ms j).seq;have a2:=keyB_out e5;rw [<- e,e1];unfold markB;rw [List.length_append,txB_len];omega⟩
 have hL1:L.l.length<1000:=by omega
 (repeat' apply And.intro)<;>first|with_reducible (first|rfl|trivial|assumption)|exact hl1|exact hrec|exact hL1|(intro h_;revert h_)|omega|with_reducible exact RowsEq.refl _ _ _|rfl|exact RowsEq.refl _ _ _|exact Nat.le_refl _|(dsimp only;omega)|skip
 rintro ⟨H2,v,vs⟩ ⟨hout,hf2⟩;dsimp only at hout hf2 ⊢;obtain ⟨cr,hrows⟩:=hout.rows;obtain ⟨s1,s2,s3,s4,s5,⟨sa,s6⟩,s7⟩:=slAt_len hrows;have hlog:LogAt H2 y1 L:=hl1.frame fun z hz=>(hf2 z (hl1.dom z hz)).1;have hfin:∀ z,H z≠none->H2 z=H z/\¬ z∈fpLog y1:=fun z hz=>by
  obtain ⟨a1,a2⟩:=hf1 z hz;exact ⟨(hf2 z (by rw [a1];exact hz)).1.trans a1,a2⟩
 rw [s1];refine ⟨⟨sa,_,_,s6,by simp only [lenMax];omega⟩,⟨(0,0),?_⟩,fun q hq=>?_⟩
 ·dsimp only
  (repeat' apply And.intro)<;>first|with_reducible (first|rfl|trivial|assumption)|(intro h_;revert h_)|omega|with_reducible exact RowsEq.refl _ _ _|rfl|exact RowsEq.refl _ _ _|exact Nat.le_refl _|(dsimp only;omega)|skip
 obtain ⟨i,c⟩:=q;obtain ⟨hi,hic⟩:=hq;dsimp only at hi hic ⊢;have hti:(ms.take i).length=i:=by rw [List.length_take];omega
 rw [hti];refine ⟨fun c1=>?_,fun c1=>?_⟩
 ·have hi':i<ms.length:=by have:=of_decide_eq_true c1;omega
  have hti1:(ms.take (i+1)).length=i+1:=by rw [List.length_take];omega
  have htp:ms.take (i+1)=ms.take i++[gl ms i]:=take_push hi';obtain ⟨b',lo',o',cs',q1,q2,q3,q4,q5,q6,q7,q8⟩:=rec_at hrows (k:=i) (by omega);obtain ⟨cb,hbody⟩:=hout.body i (by omega);obtain ⟨e1,e2,e3,e4,e5⟩:=hms.at_ i hi';have hsq:=fun h0=>seq_take hms hi' h0;obtain ⟨x,hx⟩:∃ x,x=gl ms i:=⟨_,rfl⟩
  rw [<- hx] at e1 e2 e3 e4 e5 hsq htp;rw [e1] at hbody;rw [e2] at q3 q6 q7;obtain ⟨k1,k2⟩:=keyB_out e5;have hv:=vi_len x.seq;have hbl:(markB x.seq x.key).length=(vi x.seq).length+x.key.size:=by unfold markB;rw [List.length_append,txB_len]
  obtain ⟨w1,w2,w3,w4,w5,⟨wa,w7⟩,w6⟩:=slAt_len hbody;have hcut:=slAt_cut (Nat.le_refl _) hbody (sz:=1) (a:=(vi x.seq).length) (e:=(markB x.seq x.key).length) (m:=cb) rfl (by omega) (Nat.le_refl _) w3 (Nat.le_refl _);have hgl:∀ j,j<(vi x.seq).length->gl (markB x.seq x.key) (0+j)=gl (vi x.seq) j:=fun j hj=>by
   rw [Nat.zero_add];unfold markB;rw [gl_append_left hj]
  have hr3:=rows_mark (ms:=ms.take i) (x:=x);rw [hti,<- htp,hti1] at hr3;refine ⟨_,_,_,_,q1,by omega,b',lo',o'+i*2,cs',by rw [Int.toNat_natCast];congr 1;omega,q2,⟨⟨_,q3,_,rfl,q6⟩,⟨_,q4,q5⟩,trivial⟩,?_⟩;rw [q7,q8];have hpre:(markB x.seq x.key).length<100000/\(markB x.seq x.key).length<=cb/\0<=x.seq/\x.seq<4611686018427387904/\(vi x.seq).length<=(markB x.seq x.key).length/\∀ j,j<(vi x.seq).length->gl (markB x.seq x.key) (0+j)=gl (vi x.seq) j:=⟨by omega,w3,e3,by omega,by omega,hgl⟩
  refine ⟨⟨⟨markB x.seq x.key,cb,x.seq⟩,H2,vs.getD i undef⟩,rfl,rfl,⟨hpre,hbody⟩,fun _ _=>?_⟩;rw [w1,w2,show ((vi x.seq).length:Int).toNat=(vi x.seq).length by omega];dsimp only [toI];refine ⟨fun c2=>?_,fun c2=>?_⟩
  ·refine ⟨w5,⟨by omega,by omega⟩,_,_,_,hcut,fun _=>⟨by omega,by omega,by omega,fun c2 v1 v2 v3=>⟨by simp only [InR];omega,(i+1,c2),?_⟩⟩⟩;dsimp only;rw [key_str,hti1]
   (repeat' apply And.intro)<;>first|with_reducible (first|rfl|trivial|assumption)|exact hr3|(intro h_;revert h_)|omega|with_reducible exact RowsEq.refl _ _ _|rfl|exact RowsEq.refl _ _ _|exact Nat.le_refl _|(dsimp only;omega)|skip
  ·have h0:i≠0:=fun e=>by rw [e] at c2;cases c2
   have hsq:=hsq h0;have htl:(ms.take i).length<100000:=by omega
   refine ⟨JSqA.mk (ms.take i) c,?_⟩;dsimp only;rw [hti];have hr0:RowsEq i 3 (encRows encMark (ms.take i)) (encRows encMark (ms.take i)):=RowsEq.refl _ _ _
   (repeat' apply And.intro)<;>first|with_reducible (first|rfl|trivial|assumption)|exact htl|(intro h_;revert h_)|omega|with_reducible exact RowsEq.refl _ _ _|rfl|exact RowsEq.refl _ _ _|exact Nat.le_refl _|(dsimp only;omega)|skip
   intro _ _;rw [hsq];refine ⟨by simp only [InR];omega,fun _=>⟨w5,⟨by omega,by omega⟩,_,_,_,hcut,fun _=>⟨by omega,by omega,by omega,fun c2 v1 v2 v3=>⟨by simp only [InR];omega,(i+1,c2),?_⟩⟩⟩,fun e=>by (exfalso;simp at e)⟩;dsimp only;rw [key_str,hti1]
   (repeat' apply And.intro)<;>first|with_reducible (first|rfl|trivial|assumption)|exact hr3|(intro h_;revert h_)|omega|with_reducible exact RowsEq.refl _ _ _|rfl|exact RowsEq.refl _ _ _|exact Nat.le_refl _|(dsimp only;omega)|skip
 ·have hi':i=ms.length:=by have:=of_decide_eq_false c1;omega
  subst hi';rw [List.take_length];refine ⟨⟨H2,y1,c⟩,?_⟩
  (repeat' apply And.intro)<;>first|with_reducible (first|rfl|trivial|assumption)|exact hlog|exact hfin|(intro h_;revert h_)|omega|with_reducible exact RowsEq.refl _ _ _|rfl|exact RowsEq.refl _ _ _|exact Nat.le_refl _|(dsimp only;omega)|skip)
theorem callJOpen:CallsBy (Y Tryz.prog).G.X 62 cJOpen:=fn_ok okY (tab:=tabJOpen) ⟨callLOpen,callLAll,callNGetV,callJSeq,trivial⟩ bodyJOpen
end Go.Proofs.YtfhkbihcfmbbcaaGreat
