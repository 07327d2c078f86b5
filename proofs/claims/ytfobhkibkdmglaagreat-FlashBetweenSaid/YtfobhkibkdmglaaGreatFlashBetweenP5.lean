/-
  
-/
import Derived.Test.YtfobhkibkdmglaaGreatFlashBetweenP2
import Derived.Test.YtfobhkibkdmglaaGreatFlashBetweenP4
import Derived.Shelf.Sort.Plain
import Derived.Shelf.Slices.In.SortNone
import Derived.Test.YtfobhkibkdmglaaGreatProg
import Derived.Sort.Grow
import Derived.Sort.KeysCollected
namespace Go.Proofs.YtfobhkibkdmglaaGreat.Ix
open Go.Sx
set_option maxRecDepth 100000
set_option linter.unusedVariables false
def x64 (a b:Int):Int:=ibits .xor .u64 a b
def w64 (a:Int):Int:=uw .u64 a
def stir1 (x:Int):Int:=w64 (x64 x (x / 1073741824)*13787848793156543929)
def stir2 (x:Int):Int:=w64 (x64 x (x / 134217728)*10723151780598845931)
def stir3 (x:Int):Int:=x64 x (x / 2147483648)
def stirI (x:Int):Int:=stir3 (stir2 (stir1 x))
noncomputable def cStir:Con where
 α:=Int
 β:=Unit
 m:=0
 m':=0
 pre:=fun _=>True
 args:=fun a=>[.a (.int .u64 a)]
 hp:=fun _=>[]
 ro:=fun _=>[]
 post:=fun _ _=>True
 res:=fun a _=>.a (.int .u64 (stirI a))
 hp':=fun _ _=>[]
set_option maxHeartbeats 4000000 in
theorem bodyStir:fnBody (Y Tryz.prog) [] 66 cStir fun _=>[]:=fnBody.of (p :=
 ∀ a:Int,True->(0:Int)<=30/\(0:Int)<=27/\(0:Int)<=31/\∃ b:Unit,ibits Go.BinOp.xor IntKind.u64 (uw .u64 (ibits Go.BinOp.xor IntKind.u64 (uw .u64 (ibits Go.BinOp.xor IntKind.u64 a (a / (1073741824:Int))*(13787848793156543929:Int))) (uw .u64 (ibits Go.BinOp.xor IntKind.u64 a (a / (1073741824:Int))*(13787848793156543929:Int)) / (134217728:Int))*(10723151780598845931:Int))) (uw .u64 (ibits Go.BinOp.xor IntKind.u64 (uw .u64 (ibits Go.BinOp.xor IntKind.u64 a (a / (1073741824:Int))*(13787848793156543929:Int))) (uw .u64 (ibits Go.BinOp.xor IntKind.u64 a (a / (1073741824:Int))*(13787848793156543929:Int)) / (134217728:Int))*(10723151780598845931:Int)) / (2147483648:Int))=Ix.stirI a/\True/\True) (by kernel_rfl) (by
 intro a _;exact ⟨by decide,by decide,by decide,(),rfl,trivial,trivial⟩)
theorem callStir:CallsBy (Y Tryz.prog).G.X 66 cStir:=fn_ok okY (tab:=[]) trivial bodyStir
def hashTo (h:Int) (b:ByteArray):Nat->Int
 | 0=>h
 | i+1=>w64 (stirI (x64 (hashTo h b i) ((b.data.getD i 0).toNat:Int))+1)
def hash1 (h:Int) (b:ByteArray):Int:=stirI (x64 (hashTo h b b.size) (w64 (256+w64 b.size)))
def hashG (g:Nat->ByteArray):Nat->Int
 | 0=>11400714819323198485
 | i+1=>hash1 (hashG g i) (g i)
structure OfA where
 g:Nat->ByteArray
 n:Nat
 cap:Nat
noncomputable def cMixOf:Con where
 α:=OfA
 β:=Unit
 m:=1
 m':=1
 pre:=fun a=>a.n<100000/\∀ i,i<a.n->(a.g i).size<=lenMax
 args:=fun a=>[.a (.slc 0 0 1 a.n a.cap)]
 hp:=fun _=>[]
 ro:=fun a=>[(0,.arr 9 [.str] a.n (fun i _=>.string (a.g i)))]
 post:=fun _ _=>True
 res:=fun a _=>.a (.int .u64 (hashG a.g a.n))
 hp':=fun _ _=>[]
def iOf2 (a:OfA) (i:Nat):An:=.flat 6 Nat (fun s j=>(s.int 15 j).set 3 (.a (.int .u64 (hashTo (hashG a.g i) (a.g i) j)))) (fun _ j=>j<=(a.g i).size) (fun _ j=>(a.g i).size - j)
def iOf1 (a:OfA):An:=.mk 3 Nat (fun s i=>(s.int 9 i).set 3 (.a (.int .u64 (hashG a.g i)))) (fun _ i=>i<=a.n) (fun _ i=>a.n - i) (fun i=>.mk 60 [iOf2 a i] [])
set_option maxHeartbeats 4000000 in
theorem bodyMixOf:fnBody (Y Tryz.prog) [(66,cStir)] 46 cMixOf fun a=>[(46,[iOf1 a],[])]:=fnBody.of (p :=
 ∀ a:Ix.OfA,(a.n<100000/\∀ i:Nat,i<a.n->(a.g i).size<=lenMax)->(∃ a_2:Nat,(11400714819323198485:Int)=Ix.hashG a.g a_2/\0=(↑a_2:Int)/\(↑a.n:Int)=(↑a.n:Int)/\(0=0/\a.n=a.n/\a.cap=a.cap)/\(0:Int)=0/\(0=0/\a.n=a.n/\a.cap=a.cap)/\(a.n<=a.n/\RowsEq a.n 1 (fun (i x:Nat)=>Value.string (a.g i)) fun (i x:Nat)=>Value.string (a.g i))/\a_2<=a.n/\True)/\∀ a_2:Nat,a_2<=a.n->(decide ((↑a_2:Int)<(↑a.n:Int))=true->(0<=(↑a_2:Int)/\(↑a_2:Int)<(↑a.n:Int))/\0+(↑a_2:Int).toNat<a.n/\(∃ a_5:Nat,Ix.hashG a.g a_2=Ix.hashTo (Ix.hashG a.g a_2) (a.g a_2) a_5/\0=(↑a_5:Int)/\(↑(a.g (0+(↑a_2:Int).toNat)).size:Int)=(↑(a.g (0+(↑a_2:Int).toNat)).size:Int)/\a.g (0+(↑a_2:Int).toNat)=a.g (0+(↑a_2:Int).toNat)/\decide ((↑a_2:Int)<(↑a.n:Int))=decide ((↑a_2:Int)<(↑a.n:Int))/\(↑a_2:Int)=(↑a_2:Int)/\(↑a.n:Int)=(↑a.n:Int)/\(0=0/\a.n=a.n/\a.cap=a.cap)/\(0:Int)=0/\(0=0/\a.n=a.n/\a.cap=a.cap)/\(a.n<=a.n/\RowsEq a.n 1 (fun (i x:Nat)=>Value.string (a.g i)) fun (i x:Nat)=>Value.string (a.g i))/\a_5<=(a.g a_2).size/\True)/\∀ a_5:Nat,a_5<=(a.g a_2).size->(decide ((↑a_5:Int)<(↑(a.g (0+(↑a_2:Int).toNat)).size:Int))=true->(0<=(↑a_5:Int)/\(↑a_5:Int)<(↑(a.g (0+(↑a_2:Int).toNat)).size:Int))/\∃ a_8:Int,ibits Go.BinOp.xor IntKind.u64 (Ix.hashTo (Ix.hashG a.g a_2) (a.g a_2) a_5) (↑((a.g (0+(↑a_2:Int).toNat)).data.getD (↑a_5:Int).toNat (0:UInt8)).toNat:Int)=a_8 /\
 True/\∀ b:Unit,True->InR .i64 ((↑a_5:Int)+1)/\∃ (a':Nat),uw .u64 (Ix.stirI a_8+(1:Int))=Ix.hashTo (Ix.hashG a.g a_2) (a.g a_2) a'/\(↑a_5:Int)+1=(↑a':Int)/\(↑(a.g (0+(↑a_2:Int).toNat)).size:Int)=(↑(a.g (0+(↑a_2:Int).toNat)).size:Int)/\a.g (0+(↑a_2:Int).toNat)=a.g (0+(↑a_2:Int).toNat)/\decide ((↑a_2:Int)<(↑a.n:Int))=decide ((↑a_2:Int)<(↑a.n:Int))/\(↑a_2:Int)=(↑a_2:Int)/\(↑a.n:Int)=(↑a.n:Int)/\(0=0/\a.n=a.n/\a.cap=a.cap)/\(0:Int)=0/\(0=0/\a.n=a.n/\a.cap=a.cap)/\(a.n<=a.n/\RowsEq a.n 1 (fun (i x:Nat)=>Value.string (a.g i)) fun (i x:Nat)=>Value.string (a.g i))/\a'<=(a.g a_2).size/\(a.g a_2).size - a'<(a.g a_2).size - a_5)/\(decide ((↑a_5:Int)<(↑(a.g (0+(↑a_2:Int).toNat)).size:Int))=false->∃ a_8:Int,ibits Go.BinOp.xor IntKind.u64 (Ix.hashTo (Ix.hashG a.g a_2) (a.g a_2) a_5) (uw .u64 ((256:Int)+uw .u64 (↑(a.g (0+(↑a_2:Int).toNat)).size:Int)))=a_8/\True/\∀ b:Unit,True->InR .i64 ((↑a_2:Int)+1)/\∃ (a':Nat),Ix.stirI a_8=Ix.hashG a.g a'/\(↑a_2:Int)+1=(↑a':Int)/\(↑a.n:Int)=(↑a.n:Int)/\(0=0/\a.n=a.n/\a.cap=a.cap)/\(0:Int)=0/\(0=0/\a.n=a.n/\a.cap=a.cap)/\(a.n<=a.n/\RowsEq a.n 1 (fun (i x:Nat)=>Value.string (a.g i)) fun (i x:Nat)=>Value.string (a.g i))/\a'<=a.n/\a.n - a'<a.n - a_2))/\(decide ((↑a_2:Int)<(↑a.n:Int))=false->∃ b:Unit,Ix.hashG a.g a_2=Ix.hashG a.g a.n /\
 True/\True)) (by kernel_rfl) (by
 intro a h;obtain ⟨hn,hs⟩:=h;simp only [Nat.zero_add,Int.toNat_natCast];refine ⟨⟨0,by (repeat' apply And.intro)<;>(first|exact trivial|rfl|omega|assumption|exact RowsEq.refl _ _ _|(simp only [InR];omega)|(simp;done)|(simp;omega)|grind)⟩,fun i hi=>⟨fun h1=>?_,fun h1=>?_⟩⟩
 ·have hi':i<a.n:=by simpa using h1
  have hsz:=hs i hi';refine ⟨by omega,hi',⟨0,by (repeat' apply And.intro)<;>(first|exact trivial|rfl|omega|assumption|exact RowsEq.refl _ _ _|(simp only [InR];omega)|(simp;done)|(simp;omega)|grind)⟩,fun j hj=>⟨fun h2=>?_,fun h2=>?_⟩⟩
  ·have hj':j<(a.g i).size:=by simpa using h2
   refine ⟨by omega,_,rfl,trivial,fun _ _=>⟨by simp only [InR,lenMax] at *;omega,j+1,?_⟩⟩
   (repeat' apply And.intro)<;>(first|exact trivial|rfl|omega|assumption|exact RowsEq.refl _ _ _|(simp only [InR];omega)|(simp;done)|(simp;omega)|grind)
  ·have hj' : j = (a.g i).size := by have : ¬ j < (a.g i).size := by simpa using h2
                                     omega
   subst hj';refine ⟨_,rfl,trivial,fun _ _=>⟨by simp only [InR];omega,i+1,?_⟩⟩
   (repeat' apply And.intro)<;>(first|exact trivial|rfl|omega|assumption|exact RowsEq.refl _ _ _|(simp only [InR];omega)|(simp;done)|(simp;omega)|grind)
 ·have hi' : i = a.n := by have : ¬ i < a.n := by simpa using h1
                           omega
  subst hi';exact ⟨(),rfl,trivial,trivial⟩)
theorem callMixOf:CallsBy (Y Tryz.prog).G.X 46 cMixOf:=fn_ok okY (tab:=[(66,cStir)]) ⟨callStir,trivial⟩ bodyMixOf
end Go.Proofs.YtfobhkibkdmglaaGreat.Ix

namespace Go.Proofs.YtfobhkibkdmglaaGreat.Ix
open Go.Sx
set_option maxRecDepth 100000
set_option linter.unusedVariables false
structure PlaceR where
 key:ByteArray
 pos:Int
 has:Bool
 gone:Bool
 deriving Inhabited
def encP (p:PlaceR):List Value:=[.string p.key,.int .i64 p.pos,.bool p.has,.bool p.gone]
def ksP:List CK:=[.str,.int .i64,.bool,.bool]
def hashOf (key:ByteArray):Int:=hashG (fun _=>key) 1
def startOf (L:Nat) (key:ByteArray):Nat:=(hashOf key).toNat % L
def hit (key:ByteArray) (p:PlaceR):Bool:=p.has&&decide (p.key=key)
def bare (p:PlaceR):Bool:=!p.has&&!p.gone
def findFrom (t:List PlaceR) (key:ByteArray):Nat->Nat->Int->Int × Int
 | 0,_,free=>(-1,free)
 | k+1,i,free=>if hit key (gl t i) then ((i:Int),(i:Int)) else
  let f:=if !(gl t i).has&&decide (free<0) then (i:Int) else free
  if bare (gl t i) then (-1,f) else findFrom t key k ((i+1) % t.length) f
def findP (t:List PlaceR) (key:ByteArray):Int × Int:=findFrom t key t.length (startOf t.length key) (-1)
def idxHp (o a:Nat) (t:List PlaceR) (cap n used:Nat):List (Nat × Chunk):=[(o,.obj 111 [.slc a 0 4 t.length cap,.int .i64 n,.int .i64 used]),(a,.arr 118 ksP t.length (encRows encP t))]
theorem wrap_in {k:IntKind} {n:Int} (h:InR k n):k.wrap n=n:=by
 cases k<;>simp only [InR] at h<;>simp [IntKind.wrap,IntKind.bits,IntKind.signed,Int.emod_def]<;>omega
theorem x64_range (a b:Int):0<=x64 a b/\x64 a b<18446744073709551616:=by
 unfold x64 ibits;simp only [uw_eq,uw];omega
theorem hashOf_nonneg (key:ByteArray):0<=hashOf key:=(x64_range _ _).1
theorem startOf_lt {L:Nat} (key:ByteArray) (h:1<=L):startOf L key<L:=Nat.mod_lt _ h
theorem start_eq {L:Nat} (key:ByteArray) (h:1<=L) (h2:L<100000):uw .i64 (hashG (fun _=>key) 1 % uw .u64 (L:Int))=(startOf L key:Int):=by
 have e1:uw .u64 (L:Int)=L:=by simp only [uw];omega
 have h0:=hashOf_nonneg key;have h3:=startOf_lt key h;have e2:hashOf key % (L:Int)=(startOf L key:Int):=by
  unfold startOf;rw [Int.natCast_emod,Int.toNat_of_nonneg h0]
 rw [e1];show uw .i64 (hashOf key % (L:Int))=_;rw [e2];exact wrap_in (by simp only [InR];omega)
theorem next_eq {i L:Nat}:((i:Int)+1).tmod (L:Int)=(((i+1) % L:Nat):Int):=by
 rw [Int.tmod_eq_emod_of_nonneg (by omega),Int.natCast_emod];rfl
theorem find_step {t:List PlaceR} {key:ByteArray} {i at_:Nat} {free:Int} {r:Int × Int} (hi:i<t.length) (h:findFrom t key (t.length - i) at_ free=r) :
 (if hit key (gl t at_) then ((at_:Int),(at_:Int)) else
 if bare (gl t at_) then (-1,if !(gl t at_).has&&decide (free<0) then (at_:Int) else free) else findFrom t key (t.length - (i+1)) ((at_+1) % t.length) (if !(gl t at_).has&&decide (free<0) then (at_:Int) else free))=r:=by
 rw [<- h,show t.length - i=(t.length - (i+1))+1 by omega];rfl
structure FindA where
 t:List PlaceR
 cap:Nat
 n:Nat
 used:Nat
 key:ByteArray
noncomputable def cFind:Con where
 α:=FindA
 β:=Unit
 m:=2
 m':=2
 pre:=fun a=>1<=a.t.length/\a.t.length<100000/\a.key.size<=lenMax
 args:=fun a=>[.a (.ptr 0 0 0 0),.a (.str a.key)]
 hp:=fun _=>[]
 ro:=fun a=>idxHp 0 1 a.t a.cap a.n a.used
 post:=fun _ _=>True
 res:=fun a _=>.tup [.a (.int .i64 (findP a.t a.key).1),.a (.int .i64 (findP a.t a.key).2)]
 hp':=fun _ _=>[]
def iFind (a:FindA):An:=.flat 4 (Nat × Nat × Int) (fun s x=>((s.int 25 x.1).int 7 x.2.1).set 6 (.a (.int .i64 x.2.2)))
 (fun _ x=>x.1<=a.t.length/\x.2.1<a.t.length/\-1<=x.2.2/\x.2.2<a.t.length/\findFrom a.t a.key (a.t.length - x.1) x.2.1 x.2.2=findP a.t a.key) (fun _ x=>a.t.length - x.1)
set_option maxHeartbeats 4000000 in
theorem bodyFind:fnBody (Y Tryz.prog) [(46,cMixOf)] 57 cFind fun a=>[(57,[iFind a],[])]:=fnBody.of (p :=
 ∀ a:Ix.FindA,1<=a.t.length/\a.t.length<100000/\a.key.size<=lenMax->∃ a_2:Ix.OfA,(0=0/\1=a_2.n/\1=a_2.cap)/\(a_2.n<=1/\RowsEq a_2.n 1 (flatRows 1 [Value.string a.key]) fun (i x:Nat)=>Value.string (a_2.g i))/\(a_2.n<100000/\∀ i:Nat,i<a_2.n->(a_2.g i).size<=lenMax)/\∀ b:Unit,True->uw .u64 (↑a.t.length:Int)≠(0:Int)/\(∃ a_4:Nat × Nat × Int,(-1:Int)=a_4.snd.snd/\uw .i64 (Ix.hashG a_2.g a_2.n % uw .u64 (↑a.t.length:Int))=(↑a_4.snd.fst:Int)/\0=(↑a_4.fst:Int)/\(↑a.t.length:Int)=(↑a.t.length:Int)/\(0:Int)=0/\(0:Int)=0/\0=0/\a.key=a.key/\(0=0/\a.t.length=a.t.length/\a.cap=a.cap)/\(↑a.n:Int)=(↑a.n:Int)/\(↑a.used:Int)=(↑a.used:Int)/\(a.t.length<=a.t.length/\RowsEq a.t.length 4 (encRows Ix.encP a.t) (encRows Ix.encP a.t))/\(a_4.fst<=a.t.length/\a_4.snd.fst<a.t.length/\(-1:Int)<=a_4.snd.snd/\a_4.snd.snd<(↑a.t.length:Int)/\Ix.findFrom a.t a.key (a.t.length - a_4.fst) a_4.snd.fst a_4.snd.snd=Ix.findP a.t a.key)/\True)/\∀ a_4:Nat × Nat × Int,a_4.fst<=a.t.length/\a_4.snd.fst<a.t.length/\(-1:Int)<=a_4.snd.snd/\a_4.snd.snd<(↑a.t.length:Int)/\Ix.findFrom a.t a.key (a.t.length - a_4.fst) a_4.snd.fst a_4.snd.snd=Ix.findP a.t a.key->(decide ((↑a_4.fst:Int)<(↑a.t.length:Int))=true->(0<=(↑a_4.snd.fst:Int)/\(↑a_4.snd.fst:Int)<(↑a.t.length:Int))/\0+(↑a_4.snd.fst:Int).toNat<a.t.length/\((gl a.t (0+(↑a_4.snd.fst:Int).toNat)).has=true ->
 (decide ((gl a.t (0+(↑a_4.snd.fst:Int).toNat)).key=a.key)=true->∃ b:Unit,(↑a_4.snd.fst:Int)=(Ix.findP a.t a.key).fst/\(↑a_4.snd.fst:Int)=(Ix.findP a.t a.key).snd/\True/\True)/\(decide ((gl a.t (0+(↑a_4.snd.fst:Int).toNat)).key=a.key)=false->((!(gl a.t (0+(↑a_4.snd.fst:Int).toNat)).has)=true->(decide (a_4.snd.snd<(0:Int))=true->((!(gl a.t (0+(↑a_4.snd.fst:Int).toNat)).has)=true->((!(gl a.t (0+(↑a_4.snd.fst:Int).toNat)).gone)=true->∃ b:Unit,(-1:Int)=(Ix.findP a.t a.key).fst/\(↑a_4.snd.fst:Int)=(Ix.findP a.t a.key).snd/\True/\True)/\((!(gl a.t (0+(↑a_4.snd.fst:Int).toNat)).gone)=false->InR .i64 ((↑a_4.snd.fst:Int)+1)/\(↑a.t.length:Int)≠(0:Int)/\InR .i64 ((↑a_4.fst:Int)+1)/\∃ (a':Nat × Nat × Int),(↑a_4.snd.fst:Int)=a'.snd.snd/\((↑a_4.snd.fst:Int)+1).tmod (↑a.t.length:Int)=(↑a'.snd.fst:Int)/\(↑a_4.fst:Int)+1=(↑a'.fst:Int)/\(↑a.t.length:Int)=(↑a.t.length:Int)/\(0:Int)=0/\(0:Int)=0/\0=0/\a.key=a.key/\(0=0/\a.t.length=a.t.length/\a.cap=a.cap)/\(↑a.n:Int)=(↑a.n:Int)/\(↑a.used:Int)=(↑a.used:Int)/\(a.t.length<=a.t.length/\RowsEq a.t.length 4 (encRows Ix.encP a.t) (encRows Ix.encP a.t))/\(a'.fst<=a.t.length/\a'.snd.fst<a.t.length/\(-1:Int)<=a'.snd.snd/\a'.snd.snd<(↑a.t.length:Int)/\Ix.findFrom a.t a.key (a.t.length - a'.fst) a'.snd.fst a'.snd.snd=Ix.findP a.t a.key)/\a.t.length - a'.fst<a.t.length - a_4.fst)) /\
 ((!(gl a.t (0+(↑a_4.snd.fst:Int).toNat)).has)=false->InR .i64 ((↑a_4.snd.fst:Int)+1)/\(↑a.t.length:Int)≠(0:Int)/\InR .i64 ((↑a_4.fst:Int)+1)/\∃ (a':Nat × Nat × Int),(↑a_4.snd.fst:Int)=a'.snd.snd/\((↑a_4.snd.fst:Int)+1).tmod (↑a.t.length:Int)=(↑a'.snd.fst:Int)/\(↑a_4.fst:Int)+1=(↑a'.fst:Int)/\(↑a.t.length:Int)=(↑a.t.length:Int)/\(0:Int)=0/\(0:Int)=0/\0=0/\a.key=a.key/\(0=0/\a.t.length=a.t.length/\a.cap=a.cap)/\(↑a.n:Int)=(↑a.n:Int)/\(↑a.used:Int)=(↑a.used:Int)/\(a.t.length<=a.t.length/\RowsEq a.t.length 4 (encRows Ix.encP a.t) (encRows Ix.encP a.t))/\(a'.fst<=a.t.length/\a'.snd.fst<a.t.length/\(-1:Int)<=a'.snd.snd/\a'.snd.snd<(↑a.t.length:Int)/\Ix.findFrom a.t a.key (a.t.length - a'.fst) a'.snd.fst a'.snd.snd=Ix.findP a.t a.key)/\a.t.length - a'.fst<a.t.length - a_4.fst))/\(decide (a_4.snd.snd<(0:Int))=false->((!(gl a.t (0+(↑a_4.snd.fst:Int).toNat)).has)=true->((!(gl a.t (0+(↑a_4.snd.fst:Int).toNat)).gone)=true->∃ b:Unit,(-1:Int)=(Ix.findP a.t a.key).fst/\a_4.snd.snd=(Ix.findP a.t a.key).snd/\True/\True)/\((!(gl a.t (0+(↑a_4.snd.fst:Int).toNat)).gone)=false->InR .i64 ((↑a_4.snd.fst:Int)+1)/\(↑a.t.length:Int)≠(0:Int)/\InR .i64 ((↑a_4.fst:Int)+1)/\∃ (a':Nat × Nat × Int),a_4.snd.snd=a'.snd.snd/\((↑a_4.snd.fst:Int)+1).tmod (↑a.t.length:Int)=(↑a'.snd.fst:Int)/\(↑a_4.fst:Int)+1=(↑a'.fst:Int) /\
 (↑a.t.length:Int)=(↑a.t.length:Int)/\(0:Int)=0/\(0:Int)=0/\0=0/\a.key=a.key/\(0=0/\a.t.length=a.t.length/\a.cap=a.cap)/\(↑a.n:Int)=(↑a.n:Int)/\(↑a.used:Int)=(↑a.used:Int)/\(a.t.length<=a.t.length/\RowsEq a.t.length 4 (encRows Ix.encP a.t) (encRows Ix.encP a.t))/\(a'.fst<=a.t.length/\a'.snd.fst<a.t.length/\(-1:Int)<=a'.snd.snd/\a'.snd.snd<(↑a.t.length:Int)/\Ix.findFrom a.t a.key (a.t.length - a'.fst) a'.snd.fst a'.snd.snd=Ix.findP a.t a.key)/\a.t.length - a'.fst<a.t.length - a_4.fst))/\((!(gl a.t (0+(↑a_4.snd.fst:Int).toNat)).has)=false->InR .i64 ((↑a_4.snd.fst:Int)+1)/\(↑a.t.length:Int)≠(0:Int)/\InR .i64 ((↑a_4.fst:Int)+1)/\∃ (a':Nat × Nat × Int),a_4.snd.snd=a'.snd.snd/\((↑a_4.snd.fst:Int)+1).tmod (↑a.t.length:Int)=(↑a'.snd.fst:Int)/\(↑a_4.fst:Int)+1=(↑a'.fst:Int)/\(↑a.t.length:Int)=(↑a.t.length:Int)/\(0:Int)=0/\(0:Int)=0/\0=0/\a.key=a.key/\(0=0/\a.t.length=a.t.length/\a.cap=a.cap)/\(↑a.n:Int)=(↑a.n:Int)/\(↑a.used:Int)=(↑a.used:Int)/\(a.t.length<=a.t.length/\RowsEq a.t.length 4 (encRows Ix.encP a.t) (encRows Ix.encP a.t))/\(a'.fst<=a.t.length/\a'.snd.fst<a.t.length/\(-1:Int)<=a'.snd.snd/\a'.snd.snd<(↑a.t.length:Int)/\Ix.findFrom a.t a.key (a.t.length - a'.fst) a'.snd.fst a'.snd.snd=Ix.findP a.t a.key)/\a.t.length - a'.fst<a.t.length - a_4.fst)))/\((!(gl a.t (0+(↑a_4.snd.fst:Int).toNat)).has)=false ->
 ((!(gl a.t (0+(↑a_4.snd.fst:Int).toNat)).has)=true->((!(gl a.t (0+(↑a_4.snd.fst:Int).toNat)).gone)=true->∃ b:Unit,(-1:Int)=(Ix.findP a.t a.key).fst/\a_4.snd.snd=(Ix.findP a.t a.key).snd/\True/\True)/\((!(gl a.t (0+(↑a_4.snd.fst:Int).toNat)).gone)=false->InR .i64 ((↑a_4.snd.fst:Int)+1)/\(↑a.t.length:Int)≠(0:Int)/\InR .i64 ((↑a_4.fst:Int)+1)/\∃ (a':Nat × Nat × Int),a_4.snd.snd=a'.snd.snd/\((↑a_4.snd.fst:Int)+1).tmod (↑a.t.length:Int)=(↑a'.snd.fst:Int)/\(↑a_4.fst:Int)+1=(↑a'.fst:Int)/\(↑a.t.length:Int)=(↑a.t.length:Int)/\(0:Int)=0/\(0:Int)=0/\0=0/\a.key=a.key/\(0=0/\a.t.length=a.t.length/\a.cap=a.cap)/\(↑a.n:Int)=(↑a.n:Int)/\(↑a.used:Int)=(↑a.used:Int)/\(a.t.length<=a.t.length/\RowsEq a.t.length 4 (encRows Ix.encP a.t) (encRows Ix.encP a.t))/\(a'.fst<=a.t.length/\a'.snd.fst<a.t.length/\(-1:Int)<=a'.snd.snd/\a'.snd.snd<(↑a.t.length:Int)/\Ix.findFrom a.t a.key (a.t.length - a'.fst) a'.snd.fst a'.snd.snd=Ix.findP a.t a.key)/\a.t.length - a'.fst<a.t.length - a_4.fst))/\((!(gl a.t (0+(↑a_4.snd.fst:Int).toNat)).has)=false->InR .i64 ((↑a_4.snd.fst:Int)+1)/\(↑a.t.length:Int)≠(0:Int)/\InR .i64 ((↑a_4.fst:Int)+1)/\∃ (a':Nat × Nat × Int),a_4.snd.snd=a'.snd.snd/\((↑a_4.snd.fst:Int)+1).tmod (↑a.t.length:Int)=(↑a'.snd.fst:Int)/\(↑a_4.fst:Int)+1=(↑a'.fst:Int)/\(↑a.t.length:Int)=(↑a.t.length:Int) /\
 (0:Int)=0/\(0:Int)=0/\0=0/\a.key=a.key/\(0=0/\a.t.length=a.t.length/\a.cap=a.cap)/\(↑a.n:Int)=(↑a.n:Int)/\(↑a.used:Int)=(↑a.used:Int)/\(a.t.length<=a.t.length/\RowsEq a.t.length 4 (encRows Ix.encP a.t) (encRows Ix.encP a.t))/\(a'.fst<=a.t.length/\a'.snd.fst<a.t.length/\(-1:Int)<=a'.snd.snd/\a'.snd.snd<(↑a.t.length:Int)/\Ix.findFrom a.t a.key (a.t.length - a'.fst) a'.snd.fst a'.snd.snd=Ix.findP a.t a.key)/\a.t.length - a'.fst<a.t.length - a_4.fst))))/\((gl a.t (0+(↑a_4.snd.fst:Int).toNat)).has=false->((!(gl a.t (0+(↑a_4.snd.fst:Int).toNat)).has)=true->(decide (a_4.snd.snd<(0:Int))=true->((!(gl a.t (0+(↑a_4.snd.fst:Int).toNat)).has)=true->((!(gl a.t (0+(↑a_4.snd.fst:Int).toNat)).gone)=true->∃ b:Unit,(-1:Int)=(Ix.findP a.t a.key).fst/\(↑a_4.snd.fst:Int)=(Ix.findP a.t a.key).snd/\True/\True)/\((!(gl a.t (0+(↑a_4.snd.fst:Int).toNat)).gone)=false->InR .i64 ((↑a_4.snd.fst:Int)+1)/\(↑a.t.length:Int)≠(0:Int)/\InR .i64 ((↑a_4.fst:Int)+1)/\∃ (a':Nat × Nat × Int),(↑a_4.snd.fst:Int)=a'.snd.snd/\((↑a_4.snd.fst:Int)+1).tmod (↑a.t.length:Int)=(↑a'.snd.fst:Int)/\(↑a_4.fst:Int)+1=(↑a'.fst:Int)/\(↑a.t.length:Int)=(↑a.t.length:Int)/\(0:Int)=0/\(0:Int)=0/\0=0/\a.key=a.key/\(0=0/\a.t.length=a.t.length/\a.cap=a.cap)/\(↑a.n:Int)=(↑a.n:Int)/\(↑a.used:Int)=(↑a.used:Int)/\(a.t.length<=a.t.length /\
 RowsEq a.t.length 4 (encRows Ix.encP a.t) (encRows Ix.encP a.t))/\(a'.fst<=a.t.length/\a'.snd.fst<a.t.length/\(-1:Int)<=a'.snd.snd/\a'.snd.snd<(↑a.t.length:Int)/\Ix.findFrom a.t a.key (a.t.length - a'.fst) a'.snd.fst a'.snd.snd=Ix.findP a.t a.key)/\a.t.length - a'.fst<a.t.length - a_4.fst))/\((!(gl a.t (0+(↑a_4.snd.fst:Int).toNat)).has)=false->InR .i64 ((↑a_4.snd.fst:Int)+1)/\(↑a.t.length:Int)≠(0:Int)/\InR .i64 ((↑a_4.fst:Int)+1)/\∃ (a':Nat × Nat × Int),(↑a_4.snd.fst:Int)=a'.snd.snd/\((↑a_4.snd.fst:Int)+1).tmod (↑a.t.length:Int)=(↑a'.snd.fst:Int)/\(↑a_4.fst:Int)+1=(↑a'.fst:Int)/\(↑a.t.length:Int)=(↑a.t.length:Int)/\(0:Int)=0/\(0:Int)=0/\0=0/\a.key=a.key/\(0=0/\a.t.length=a.t.length/\a.cap=a.cap)/\(↑a.n:Int)=(↑a.n:Int)/\(↑a.used:Int)=(↑a.used:Int)/\(a.t.length<=a.t.length/\RowsEq a.t.length 4 (encRows Ix.encP a.t) (encRows Ix.encP a.t))/\(a'.fst<=a.t.length/\a'.snd.fst<a.t.length/\(-1:Int)<=a'.snd.snd/\a'.snd.snd<(↑a.t.length:Int)/\Ix.findFrom a.t a.key (a.t.length - a'.fst) a'.snd.fst a'.snd.snd=Ix.findP a.t a.key)/\a.t.length - a'.fst<a.t.length - a_4.fst))/\(decide (a_4.snd.snd<(0:Int))=false->((!(gl a.t (0+(↑a_4.snd.fst:Int).toNat)).has)=true->((!(gl a.t (0+(↑a_4.snd.fst:Int).toNat)).gone)=true->∃ b:Unit,(-1:Int)=(Ix.findP a.t a.key).fst/\a_4.snd.snd=(Ix.findP a.t a.key).snd/\True/\True)/\((!(gl a.t (0+(↑a_4.snd.fst:Int).toNat)).gone)=false ->
 InR .i64 ((↑a_4.snd.fst:Int)+1)/\(↑a.t.length:Int)≠(0:Int)/\InR .i64 ((↑a_4.fst:Int)+1)/\∃ (a':Nat × Nat × Int),a_4.snd.snd=a'.snd.snd/\((↑a_4.snd.fst:Int)+1).tmod (↑a.t.length:Int)=(↑a'.snd.fst:Int)/\(↑a_4.fst:Int)+1=(↑a'.fst:Int)/\(↑a.t.length:Int)=(↑a.t.length:Int)/\(0:Int)=0/\(0:Int)=0/\0=0/\a.key=a.key/\(0=0/\a.t.length=a.t.length/\a.cap=a.cap)/\(↑a.n:Int)=(↑a.n:Int)/\(↑a.used:Int)=(↑a.used:Int)/\(a.t.length<=a.t.length/\RowsEq a.t.length 4 (encRows Ix.encP a.t) (encRows Ix.encP a.t))/\(a'.fst<=a.t.length/\a'.snd.fst<a.t.length/\(-1:Int)<=a'.snd.snd/\a'.snd.snd<(↑a.t.length:Int)/\Ix.findFrom a.t a.key (a.t.length - a'.fst) a'.snd.fst a'.snd.snd=Ix.findP a.t a.key)/\a.t.length - a'.fst<a.t.length - a_4.fst))/\((!(gl a.t (0+(↑a_4.snd.fst:Int).toNat)).has)=false->InR .i64 ((↑a_4.snd.fst:Int)+1)/\(↑a.t.length:Int)≠(0:Int)/\InR .i64 ((↑a_4.fst:Int)+1)/\∃ (a':Nat × Nat × Int),a_4.snd.snd=a'.snd.snd/\((↑a_4.snd.fst:Int)+1).tmod (↑a.t.length:Int)=(↑a'.snd.fst:Int)/\(↑a_4.fst:Int)+1=(↑a'.fst:Int)/\(↑a.t.length:Int)=(↑a.t.length:Int)/\(0:Int)=0/\(0:Int)=0/\0=0/\a.key=a.key/\(0=0/\a.t.length=a.t.length/\a.cap=a.cap)/\(↑a.n:Int)=(↑a.n:Int)/\(↑a.used:Int)=(↑a.used:Int)/\(a.t.length<=a.t.length/\RowsEq a.t.length 4 (encRows Ix.encP a.t) (encRows Ix.encP a.t))/\(a'.fst<=a.t.length /\
 a'.snd.fst<a.t.length/\(-1:Int)<=a'.snd.snd/\a'.snd.snd<(↑a.t.length:Int)/\Ix.findFrom a.t a.key (a.t.length - a'.fst) a'.snd.fst a'.snd.snd=Ix.findP a.t a.key)/\a.t.length - a'.fst<a.t.length - a_4.fst)))/\((!(gl a.t (0+(↑a_4.snd.fst:Int).toNat)).has)=false->((!(gl a.t (0+(↑a_4.snd.fst:Int).toNat)).has)=true->((!(gl a.t (0+(↑a_4.snd.fst:Int).toNat)).gone)=true->∃ b:Unit,(-1:Int)=(Ix.findP a.t a.key).fst/\a_4.snd.snd=(Ix.findP a.t a.key).snd/\True/\True)/\((!(gl a.t (0+(↑a_4.snd.fst:Int).toNat)).gone)=false->InR .i64 ((↑a_4.snd.fst:Int)+1)/\(↑a.t.length:Int)≠(0:Int)/\InR .i64 ((↑a_4.fst:Int)+1)/\∃ (a':Nat × Nat × Int),a_4.snd.snd=a'.snd.snd/\((↑a_4.snd.fst:Int)+1).tmod (↑a.t.length:Int)=(↑a'.snd.fst:Int)/\(↑a_4.fst:Int)+1=(↑a'.fst:Int)/\(↑a.t.length:Int)=(↑a.t.length:Int)/\(0:Int)=0/\(0:Int)=0/\0=0/\a.key=a.key/\(0=0/\a.t.length=a.t.length/\a.cap=a.cap)/\(↑a.n:Int)=(↑a.n:Int)/\(↑a.used:Int)=(↑a.used:Int)/\(a.t.length<=a.t.length/\RowsEq a.t.length 4 (encRows Ix.encP a.t) (encRows Ix.encP a.t))/\(a'.fst<=a.t.length/\a'.snd.fst<a.t.length/\(-1:Int)<=a'.snd.snd/\a'.snd.snd<(↑a.t.length:Int)/\Ix.findFrom a.t a.key (a.t.length - a'.fst) a'.snd.fst a'.snd.snd=Ix.findP a.t a.key)/\a.t.length - a'.fst<a.t.length - a_4.fst))/\((!(gl a.t (0+(↑a_4.snd.fst:Int).toNat)).has)=false->InR .i64 ((↑a_4.snd.fst:Int)+1) /\
 (↑a.t.length:Int)≠(0:Int)/\InR .i64 ((↑a_4.fst:Int)+1)/\∃ (a':Nat × Nat × Int),a_4.snd.snd=a'.snd.snd/\((↑a_4.snd.fst:Int)+1).tmod (↑a.t.length:Int)=(↑a'.snd.fst:Int)/\(↑a_4.fst:Int)+1=(↑a'.fst:Int)/\(↑a.t.length:Int)=(↑a.t.length:Int)/\(0:Int)=0/\(0:Int)=0/\0=0/\a.key=a.key/\(0=0/\a.t.length=a.t.length/\a.cap=a.cap)/\(↑a.n:Int)=(↑a.n:Int)/\(↑a.used:Int)=(↑a.used:Int)/\(a.t.length<=a.t.length/\RowsEq a.t.length 4 (encRows Ix.encP a.t) (encRows Ix.encP a.t))/\(a'.fst<=a.t.length/\a'.snd.fst<a.t.length/\(-1:Int)<=a'.snd.snd/\a'.snd.snd<(↑a.t.length:Int)/\Ix.findFrom a.t a.key (a.t.length - a'.fst) a'.snd.fst a'.snd.snd=Ix.findP a.t a.key)/\a.t.length - a'.fst<a.t.length - a_4.fst))))/\(decide ((↑a_4.fst:Int)<(↑a.t.length:Int))=false->∃ b:Unit,(-1:Int)=(Ix.findP a.t a.key).fst/\a_4.snd.snd=(Ix.findP a.t a.key).snd/\True/\True)) (by kernel_rfl) (by
 intro a h;obtain ⟨h1,h2,h3⟩:=h;have hst:=startOf_lt a.key h1;refine ⟨⟨fun _=>a.key,1,1⟩,?_⟩;simp only [Nat.zero_add,Int.toNat_natCast,start_eq a.key h1 h2,next_eq];refine ⟨⟨trivial,trivial,trivial⟩,⟨Nat.le_refl _,.of_cells fun j hj=>?_⟩,⟨by omega,fun _ _=>h3⟩,fun _ _=>⟨by simp only [uw];omega,⟨(0,startOf a.t.length a.key,-1),?_⟩,fun x hx=>?_⟩⟩
 ·have:j=0:=by omega
  subst this;rfl
 ·dsimp only
  (repeat' apply And.intro)<;>(first|exact trivial|rfl|omega|assumption|exact RowsEq.refl _ _ _|(simp only [InR];omega)|(simp;done)|(simp;omega)|grind)
 ·obtain ⟨i,at_,free⟩:=x;obtain ⟨i1,i2,i3,i4,i5⟩:=hx;dsimp only at *;have hmod:(at_+1) % a.t.length<a.t.length:=Nat.mod_lt _ h1;have stop:i=a.t.length->findP a.t a.key=(-1,free):=by
   intro e;rw [<- i5,e,Nat.sub_self];rfl
  have step:=fun hi=>find_step (i:=i) hi i5;simp only [InR]
  repeat' (first|intro _|apply And.intro|apply Exists.intro ()|apply Exists.intro ((i+1,(at_+1) % a.t.length,_):Nat × Nat × Int))
  all_goals (try with_reducible rfl)
  all_goals (try exact RowsEq.refl _ _ _)
  all_goals (try dsimp only)
  all_goals (try simp only [decide_eq_true_eq,decide_eq_false_iff_not] at *)
  all_goals (try omega)
  all_goals (try (have h9:=step (by omega);grind [hit,bare]))
  all_goals (try (have h9:=stop (by omega);rw [h9])))
theorem callFind:CallsBy (Y Tryz.prog).G.X 57 cFind:=fn_ok okY (tab:=[(46,cMixOf)]) ⟨callMixOf,trivial⟩ bodyFind
structure IdxR where
 t:List PlaceR
 n:Nat
 used:Nat
def putRet (x:IdxR) (key:ByteArray):Int:=if 0<=(findP x.t key).1 then (gl x.t (findP x.t key).1.toNat).pos else 0
def putI (x:IdxR) (key:ByteArray) (pos:Int):IdxR :=
 if 0<=(findP x.t key).1 then { x with t:=x.t.set (findP x.t key).1.toNat { gl x.t (findP x.t key).1.toNat with pos:=pos } }
 else ⟨x.t.set (findP x.t key).2.toNat ⟨key,pos,true,false⟩,x.n+1,if (gl x.t (findP x.t key).2.toNat).gone then x.used else x.used+1⟩
theorem putI_length (x:IdxR) (key:ByteArray) (pos:Int):(putI x key pos).t.length=x.t.length:=by unfold putI;split<;>simp
theorem findFrom_lt (t:List PlaceR) (key:ByteArray) (h:1<=t.length):∀ (k i:Nat) (f:Int),i<t.length->f<t.length->(findFrom t key k i f).1<t.length/\(findFrom t key k i f).2<t.length
 | 0,i,f,hi,hf=>by simp only [findFrom];omega
 | k+1,i,f,hi,hf=>by
  have h1:(if !(gl t i).has&&decide (f<0) then (i:Int) else f)<t.length:=by split<;>omega
  unfold findFrom;by_cases hh:hit key (gl t i)=true
  ·rw [if_pos hh];exact ⟨by simp only;omega,by simp only;omega⟩
  ·rw [if_neg hh];dsimp only;by_cases hb:bare (gl t i)=true
   ·rw [if_pos hb];exact ⟨by simp only;omega,h1⟩
   ·rw [if_neg hb];exact findFrom_lt t key h k _ _ (Nat.mod_lt _ h) h1
theorem findP_lt {t:List PlaceR} (key:ByteArray) (h:1<=t.length):(findP t key).1<t.length/\(findP t key).2<t.length :=
 findFrom_lt t key h _ _ _ (startOf_lt key h) (by omega)
structure PutA where
 x:IdxR
 cap:Nat
 key:ByteArray
 pos:Int
noncomputable def cPut0:Con where
 α:=PutA
 β:=Unit
 m:=2
 m':=2
 pre:=fun a=>1<=a.x.t.length/\a.x.t.length<100000/\a.key.size<=lenMax/\2*a.x.used<a.x.t.length/\a.x.n<100000/\((findP a.x.t a.key).1<0->0<=(findP a.x.t a.key).2)
 args:=fun a=>[.a (.ptr 0 0 0 0),.a (.str a.key),.a (.int .i64 a.pos)]
 hp:=fun a=>idxHp 0 1 a.x.t a.cap a.x.n a.x.used
 ro:=fun _=>[]
 post:=fun _ _=>True
 res:=fun a _=>.a (.int .i64 (putRet a.x a.key))
 hp':=fun a _=>idxHp 0 1 (putI a.x a.key a.pos).t a.cap (putI a.x a.key a.pos).n (putI a.x a.key a.pos).used
noncomputable def cNever:Con where
 α:=Unit
 β:=Unit
 m:=1
 m':=1
 pre:=fun _=>False
 args:=fun _=>[.a (.ptr 0 0 0 0)]
 hp:=fun _=>[]
 ro:=fun _=>[]
 post:=fun _ _=>True
 res:=fun _ _=>.a .any
 hp':=fun _ _=>[]
theorem callNever (f:Nat):CallsBy (Y Tryz.prog).G.X f cNever:=fn_ok okY (tab:=[]) trivial (l:=fun _=>[]) ⟨fun a h=>False.elim h⟩
set_option maxHeartbeats 4000000 in
theorem bodyPut0:fnBody (Y Tryz.prog) [(57,cFind),(58,cNever)] 33 cPut0 fun _=>[]:=fnBody.of (p :=
 ∀ a:Ix.PutA,1<=a.x.t.length/\a.x.t.length<100000/\a.key.size<=lenMax/\2*a.x.used<a.x.t.length/\a.x.n<100000/\((Ix.findP a.x.t a.key).fst<(0:Int)->(0:Int)<=(Ix.findP a.x.t a.key).snd)->InR .i64 (↑a.x.used:Int)->InR .i64 ((2:Int)*(↑a.x.used:Int))/\(decide ((↑a.x.t.length:Int)<=2*(↑a.x.used:Int))=true->∃ a_4:Unit,0=0/\False/\∀ b:Unit,True->∃ a_6:Ix.FindA,0=0/\a.key=a_6.key/\(0=0/\a.x.t.length=a_6.t.length/\a.cap=a_6.cap)/\(↑a.x.n:Int)=(↑a_6.n:Int)/\(↑a.x.used:Int)=(↑a_6.used:Int)/\(a_6.t.length<=a.x.t.length/\RowsEq a_6.t.length 4 (encRows Ix.encP a.x.t) (encRows Ix.encP a_6.t))/\(1<=a_6.t.length/\a_6.t.length<100000/\a_6.key.size<=lenMax)/\∀ b:Unit,True->(decide ((0:Int)<=(Ix.findP a_6.t a_6.key).fst)=true->((0:Int)<=(Ix.findP a_6.t a_6.key).fst/\(Ix.findP a_6.t a_6.key).fst<(↑a.x.t.length:Int))/\0+(Ix.findP a_6.t a_6.key).fst.toNat<a.x.t.length/\(InR .i64 (gl a.x.t (0+(Ix.findP a_6.t a_6.key).fst.toNat)).pos->((0:Int)<=(Ix.findP a_6.t a_6.key).fst/\(Ix.findP a_6.t a_6.key).fst<(↑a.x.t.length:Int))/\0+(Ix.findP a_6.t a_6.key).fst.toNat<a.x.t.length/\∃ b:Unit,(gl a.x.t (0+(Ix.findP a_6.t a_6.key).fst.toNat)).pos=Ix.putRet a.x a.key/\(0=0/\a.x.t.length=(Ix.putI a.x a.key a.pos).t.length/\a.cap=a.cap)/\(↑a.x.n:Int)=(↑(Ix.putI a.x a.key a.pos).n:Int)/\(↑a.x.used:Int)=(↑(Ix.putI a.x a.key a.pos).used:Int)/\((Ix.putI a.x a.key a.pos).t.length<=a.x.t.length /\
 RowsEq (Ix.putI a.x a.key a.pos).t.length 4 (updR (encRows Ix.encP a.x.t) (0+(Ix.findP a_6.t a_6.key).fst.toNat) 1 [Value.int IntKind.i64 a.pos]) (encRows Ix.encP (Ix.putI a.x a.key a.pos).t))/\True/\True))/\(decide ((0:Int)<=(Ix.findP a_6.t a_6.key).fst)=false->((0:Int)<=(Ix.findP a_6.t a_6.key).snd/\(Ix.findP a_6.t a_6.key).snd<(↑a.x.t.length:Int))/\0+(Ix.findP a_6.t a_6.key).snd.toNat<a.x.t.length/\((!(gl a.x.t (0+(Ix.findP a_6.t a_6.key).snd.toNat)).gone)=true->InR .i64 (↑a.x.used:Int)->InR .i64 ((↑a.x.used:Int)+1)/\((0:Int)<=(Ix.findP a_6.t a_6.key).snd/\(Ix.findP a_6.t a_6.key).snd<(↑a.x.t.length:Int))/\0+(Ix.findP a_6.t a_6.key).snd.toNat<a.x.t.length/\(InR .i64 (↑a.x.n:Int)->InR .i64 ((↑a.x.n:Int)+1)/\∃ b:Unit,(0:Int)=Ix.putRet a.x a.key/\(0=0/\a.x.t.length=(Ix.putI a.x a.key a.pos).t.length/\a.cap=a.cap)/\(↑a.x.n:Int)+1=(↑(Ix.putI a.x a.key a.pos).n:Int)/\(↑a.x.used:Int)+1=(↑(Ix.putI a.x a.key a.pos).used:Int)/\((Ix.putI a.x a.key a.pos).t.length<=a.x.t.length/\RowsEq (Ix.putI a.x a.key a.pos).t.length 4 (updR (encRows Ix.encP a.x.t) (0+(Ix.findP a_6.t a_6.key).snd.toNat) 0 [Value.string a.key,Value.int IntKind.i64 a.pos,Value.bool true,Value.bool false]) (encRows Ix.encP (Ix.putI a.x a.key a.pos).t))/\True/\True))/\((!(gl a.x.t (0+(Ix.findP a_6.t a_6.key).snd.toNat)).gone)=false->((0:Int)<=(Ix.findP a_6.t a_6.key).snd/\(Ix.findP a_6.t a_6.key).snd<(↑a.x.t.length:Int)) /\
 0+(Ix.findP a_6.t a_6.key).snd.toNat<a.x.t.length/\(InR .i64 (↑a.x.n:Int)->InR .i64 ((↑a.x.n:Int)+1)/\∃ b:Unit,(0:Int)=Ix.putRet a.x a.key/\(0=0/\a.x.t.length=(Ix.putI a.x a.key a.pos).t.length/\a.cap=a.cap)/\(↑a.x.n:Int)+1=(↑(Ix.putI a.x a.key a.pos).n:Int)/\(↑a.x.used:Int)=(↑(Ix.putI a.x a.key a.pos).used:Int)/\((Ix.putI a.x a.key a.pos).t.length<=a.x.t.length/\RowsEq (Ix.putI a.x a.key a.pos).t.length 4 (updR (encRows Ix.encP a.x.t) (0+(Ix.findP a_6.t a_6.key).snd.toNat) 0 [Value.string a.key,Value.int IntKind.i64 a.pos,Value.bool true,Value.bool false]) (encRows Ix.encP (Ix.putI a.x a.key a.pos).t))/\True/\True))))/\(decide ((↑a.x.t.length:Int)<=2*(↑a.x.used:Int))=false->∃ a_4:Ix.FindA,0=0/\a.key=a_4.key/\(0=0/\a.x.t.length=a_4.t.length/\a.cap=a_4.cap)/\(↑a.x.n:Int)=(↑a_4.n:Int)/\(↑a.x.used:Int)=(↑a_4.used:Int)/\(a_4.t.length<=a.x.t.length/\RowsEq a_4.t.length 4 (encRows Ix.encP a.x.t) (encRows Ix.encP a_4.t))/\(1<=a_4.t.length/\a_4.t.length<100000/\a_4.key.size<=lenMax)/\∀ b:Unit,True->(decide ((0:Int)<=(Ix.findP a_4.t a_4.key).fst)=true->((0:Int)<=(Ix.findP a_4.t a_4.key).fst/\(Ix.findP a_4.t a_4.key).fst<(↑a.x.t.length:Int))/\0+(Ix.findP a_4.t a_4.key).fst.toNat<a.x.t.length/\(InR .i64 (gl a.x.t (0+(Ix.findP a_4.t a_4.key).fst.toNat)).pos->((0:Int)<=(Ix.findP a_4.t a_4.key).fst/\(Ix.findP a_4.t a_4.key).fst<(↑a.x.t.length:Int)) /\
 0+(Ix.findP a_4.t a_4.key).fst.toNat<a.x.t.length/\∃ b:Unit,(gl a.x.t (0+(Ix.findP a_4.t a_4.key).fst.toNat)).pos=Ix.putRet a.x a.key/\(0=0/\a.x.t.length=(Ix.putI a.x a.key a.pos).t.length/\a.cap=a.cap)/\(↑a.x.n:Int)=(↑(Ix.putI a.x a.key a.pos).n:Int)/\(↑a.x.used:Int)=(↑(Ix.putI a.x a.key a.pos).used:Int)/\((Ix.putI a.x a.key a.pos).t.length<=a.x.t.length/\RowsEq (Ix.putI a.x a.key a.pos).t.length 4 (updR (encRows Ix.encP a.x.t) (0+(Ix.findP a_4.t a_4.key).fst.toNat) 1 [Value.int IntKind.i64 a.pos]) (encRows Ix.encP (Ix.putI a.x a.key a.pos).t))/\True/\True))/\(decide ((0:Int)<=(Ix.findP a_4.t a_4.key).fst)=false->((0:Int)<=(Ix.findP a_4.t a_4.key).snd/\(Ix.findP a_4.t a_4.key).snd<(↑a.x.t.length:Int))/\0+(Ix.findP a_4.t a_4.key).snd.toNat<a.x.t.length/\((!(gl a.x.t (0+(Ix.findP a_4.t a_4.key).snd.toNat)).gone)=true->InR .i64 (↑a.x.used:Int)->InR .i64 ((↑a.x.used:Int)+1)/\((0:Int)<=(Ix.findP a_4.t a_4.key).snd/\(Ix.findP a_4.t a_4.key).snd<(↑a.x.t.length:Int))/\0+(Ix.findP a_4.t a_4.key).snd.toNat<a.x.t.length/\(InR .i64 (↑a.x.n:Int)->InR .i64 ((↑a.x.n:Int)+1)/\∃ b:Unit,(0:Int)=Ix.putRet a.x a.key/\(0=0/\a.x.t.length=(Ix.putI a.x a.key a.pos).t.length/\a.cap=a.cap)/\(↑a.x.n:Int)+1=(↑(Ix.putI a.x a.key a.pos).n:Int)/\(↑a.x.used:Int)+1=(↑(Ix.putI a.x a.key a.pos).used:Int)/\((Ix.putI a.x a.key a.pos).t.length<=a.x.t.length/\RowsEq (Ix.putI a.x a.key a.pos).t.length 4 (updR (encRows Ix.encP a.x.t) (0+(Ix.findP a_4.t a_4.key).snd.toNat) 0 [Value.string a.key,Value.int IntKind.i64 a.pos,Value.bool true,Value.bool false]) (encRows Ix.encP (Ix.putI a.x a.key a.pos).t)) /\
 True/\True))/\((!(gl a.x.t (0+(Ix.findP a_4.t a_4.key).snd.toNat)).gone)=false->((0:Int)<=(Ix.findP a_4.t a_4.key).snd/\(Ix.findP a_4.t a_4.key).snd<(↑a.x.t.length:Int))/\0+(Ix.findP a_4.t a_4.key).snd.toNat<a.x.t.length/\(InR .i64 (↑a.x.n:Int)->InR .i64 ((↑a.x.n:Int)+1)/\∃ b:Unit,(0:Int)=Ix.putRet a.x a.key/\(0=0/\a.x.t.length=(Ix.putI a.x a.key a.pos).t.length/\a.cap=a.cap)/\(↑a.x.n:Int)+1=(↑(Ix.putI a.x a.key a.pos).n:Int)/\(↑a.x.used:Int)=(↑(Ix.putI a.x a.key a.pos).used:Int)/\((Ix.putI a.x a.key a.pos).t.length<=a.x.t.length/\RowsEq (Ix.putI a.x a.key a.pos).t.length 4 (updR (encRows Ix.encP a.x.t) (0+(Ix.findP a_4.t a_4.key).snd.toNat) 0 [Value.string a.key,Value.int IntKind.i64 a.pos,Value.bool true,Value.bool false]) (encRows Ix.encP (Ix.putI a.x a.key a.pos).t))/\True/\True))))) (by kernel_rfl) (by
 intro a h;obtain ⟨h1,h2,h3,h4,h5,h6⟩:=h;obtain ⟨l1,l2⟩:=findP_lt a.key h1;have hl:=putI_length a.x a.key a.pos;have yes:0<=(findP a.x.t a.key).1->putI a.x a.key a.pos={ a.x with t:=a.x.t.set (findP a.x.t a.key).1.toNat { gl a.x.t (findP a.x.t a.key).1.toNat with pos:=a.pos } }:=fun e=>if_pos e;have no:¬ 0<=(findP a.x.t a.key).1->putI a.x a.key a.pos=⟨a.x.t.set (findP a.x.t a.key).2.toNat ⟨a.key,a.pos,true,false⟩,a.x.n+1,if (gl a.x.t (findP a.x.t a.key).2.toNat).gone then a.x.used else a.x.used+1⟩:=fun e=>if_neg e;simp only [Nat.zero_add,InR];refine fun _=>⟨by omega,fun e=>absurd e (by simp;omega),fun _=>⟨⟨a.x.t,a.cap,a.x.n,a.x.used,a.key⟩,?_⟩⟩
 dsimp only
 repeat' (first|intro _|apply And.intro|apply Exists.intro ())
 all_goals (try with_reducible rfl)
 all_goals (try simp only [decide_eq_true_eq,decide_eq_false_iff_not,Bool.not_eq_true',Bool.not_eq_false'] at *)
 all_goals (try exact trivial)
 all_goals (try omega)
 all_goals (try (grind [putRet]))
 all_goals (try (with_reducible exact RowsEq.refl _ _ _))
 all_goals (first|(rw [yes (by assumption)];refine .set _ (by omega) (fun i hi=>by simp only [updR_other hi]) ?_;simp only [updR_self];rfl)|(rw [no (by assumption)];refine .set _ (by omega) (fun i hi=>by simp only [updR_other hi]) ?_;simp only [updR_self];rfl)))
theorem callPut0:CallsBy (Y Tryz.prog).G.X 33 cPut0:=fn_ok okY (tab:=[(57,cFind),(58,cNever)]) ⟨callFind,callNever _,trivial⟩ bodyPut0
end Go.Proofs.YtfobhkibkdmglaaGreat.Ix

namespace Go.Proofs.YtfobhkibkdmglaaGreat.Ix
open Go.Sx
set_option maxRecDepth 100000
set_option linter.unusedVariables false
def putAll (t:List PlaceR) (y:IdxR):Nat->IdxR
 | 0=>y
 | i+1=>if (gl t i).has then putI (putAll t y i) (gl t i).key (gl t i).pos else putAll t y i
def emptyI (n:Nat):IdxR:=⟨List.replicate n ⟨.empty,0,false,false⟩,0,0⟩
theorem putAll_length (t:List PlaceR) (y:IdxR):∀ i,(putAll t y i).t.length=y.t.length
 | 0=>rfl
 | i+1=>by
  unfold putAll;split
  ·rw [putI_length,putAll_length t y i]
  ·exact putAll_length t y i
theorem gl_replicate {α:Type} [Inhabited α] {n i:Nat} {x:α} (h:i<n):gl (List.replicate n x) i=x:=by
 rw [gl_eq (by simpa using h)];simp
def growI (x:IdxR):IdxR:=putAll x.t (emptyI (max 16 (4*x.n))) x.t.length
structure GrowA where
 x:IdxR
 cap:Nat
noncomputable def cGrow:Con where
 α:=GrowA
 β:=Nat
 m:=2
 m':=3
 pre:=fun a=>1<=a.x.t.length/\a.x.t.length<100000/\a.x.n<10000/\(∀ i,i<a.x.t.length->(gl a.x.t i).key.size<=lenMax) /\
  ∀ i,i<a.x.t.length->(gl a.x.t i).has=true->2*(putAll a.x.t (emptyI (max 16 (4*a.x.n))) i).used<max 16 (4*a.x.n)/\(putAll a.x.t (emptyI (max 16 (4*a.x.n))) i).n<100000 /\
   ((findP (putAll a.x.t (emptyI (max 16 (4*a.x.n))) i).t (gl a.x.t i).key).1<0->0<=(findP (putAll a.x.t (emptyI (max 16 (4*a.x.n))) i).t (gl a.x.t i).key).2)
 args:=fun a=>[.a (.ptr 0 0 0 0)]
 hp:=fun a=>[(0,.obj 111 [.slc 1 0 4 a.x.t.length a.cap,.int .i64 a.x.n,.int .i64 a.x.used])]
 ro:=fun a=>[(1,.arr 118 ksP a.x.t.length (encRows encP a.x.t))]
 post:=fun _ _=>True
 res:=fun _ _=>.tup []
 hp':=fun a cap=>idxHp 0 2 (growI a.x).t cap (growI a.x).n (growI a.x).used
def iGrow (a:GrowA):An:=.flat 3 (Nat × Nat) (fun s x=>(((s.at_ (s.tg 0) (.obj 111 [.slc (s.in_ (s.tg 0) 0) 0 4 (max 16 (4*a.x.n)) x.2,.int .i64 (putAll a.x.t (emptyI (max 16 (4*a.x.n))) x.1).n,.int .i64 (putAll a.x.t (emptyI (max 16 (4*a.x.n))) x.1).used])).at_ (s.in_ (s.tg 0) 0) (.arr 118 ksP (max 16 (4*a.x.n)) (encRows encP (putAll a.x.t (emptyI (max 16 (4*a.x.n))) x.1).t))).int 21 x.1))
 (fun _ x=>x.1<=a.x.t.length) (fun _ x=>a.x.t.length - x.1)
set_option maxHeartbeats 4000000 in
theorem bodyGrow:fnBody (Y Tryz.prog) [(33,cPut0)] 58 cGrow fun a=>[(58,[iGrow a],[])]:=fnBody.of (p :=
 ∀ a:Ix.GrowA,(1<=a.x.t.length/\a.x.t.length<100000/\a.x.n<10000/\(∀ i:Nat,i<a.x.t.length->(gl a.x.t i).key.size<=lenMax)/\∀ i:Nat,i<a.x.t.length->(gl a.x.t i).has=true->2*(Ix.putAll a.x.t (Ix.emptyI (max 16 (4*a.x.n))) i).used<max 16 (4*a.x.n)/\(Ix.putAll a.x.t (Ix.emptyI (max 16 (4*a.x.n))) i).n<100000/\((Ix.findP (Ix.putAll a.x.t (Ix.emptyI (max 16 (4*a.x.n))) i).t (gl a.x.t i).key).fst<(0:Int)->(0:Int)<=(Ix.findP (Ix.putAll a.x.t (Ix.emptyI (max 16 (4*a.x.n))) i).t (gl a.x.t i).key).snd))->InR .i64 (↑a.x.n:Int)->InR .i64 ((4:Int)*(↑a.x.n:Int))/\((0:Int)<=bif true then max (16:Int) ((4:Int)*(↑a.x.n:Int)) else min (16:Int) ((4:Int)*(↑a.x.n:Int)))/\((bif true then max (16:Int) ((4:Int)*(↑a.x.n:Int)) else min (16:Int) ((4:Int)*(↑a.x.n:Int)))<=bif true then max (16:Int) ((4:Int)*(↑a.x.n:Int)) else min (16:Int) ((4:Int)*(↑a.x.n:Int)))/\((32:Int)*bif true then max (16:Int) ((4:Int)*(↑a.x.n:Int)) else min (16:Int) ((4:Int)*(↑a.x.n:Int)))<=(281474976710656:Int)/\(∃ a_3:Nat × Nat,0=(↑a_3.fst:Int)/\(↑a.x.t.length:Int)=(↑a.x.t.length:Int)/\(0=0/\a.x.t.length=a.x.t.length/\a.cap=a.cap)/\(0=0/\a.x.t.length=a.x.t.length/\a.cap=a.cap)/\0=0/\(0=0/\(bif true then max (16:Int) ((4:Int)*(↑a.x.n:Int)) else min (16:Int) ((4:Int)*(↑a.x.n:Int))).toNat=max 16 (4*a.x.n)/\(bif true then max (16:Int) ((4:Int)*(↑a.x.n:Int)) else min (16:Int) ((4:Int)*(↑a.x.n:Int))).toNat=a_3.snd) /\
 0=(↑(Ix.putAll a.x.t (Ix.emptyI (max 16 (4*a.x.n))) a_3.fst).n:Int)/\0=(↑(Ix.putAll a.x.t (Ix.emptyI (max 16 (4*a.x.n))) a_3.fst).used:Int)/\(a.x.t.length<=a.x.t.length/\RowsEq a.x.t.length 4 (encRows Ix.encP a.x.t) (encRows Ix.encP a.x.t))/\(max 16 (4*a.x.n)<=(bif true then max (16:Int) ((4:Int)*(↑a.x.n:Int)) else min (16:Int) ((4:Int)*(↑a.x.n:Int))).toNat/\RowsEq (max 16 (4*a.x.n)) 4 (fun (x j:Nat)=>[Value.string (ByteArray.mk #[]),Value.int IntKind.i64 (0:Int),Value.bool false,Value.bool false].getD j (Value.tuple #[])) (encRows Ix.encP (Ix.putAll a.x.t (Ix.emptyI (max 16 (4*a.x.n))) a_3.fst).t))/\a_3.fst<=a.x.t.length/\True)/\∀ a_3:Nat × Nat,a_3.fst<=a.x.t.length->(decide ((↑a_3.fst:Int)<(↑a.x.t.length:Int))=true->(0<=(↑a_3.fst:Int)/\(↑a_3.fst:Int)<(↑a.x.t.length:Int))/\0+(↑a_3.fst:Int).toNat<a.x.t.length/\((gl a.x.t (0+(↑a_3.fst:Int).toNat)).has=true->InR .i64 (gl a.x.t (0+(↑a_3.fst:Int).toNat)).pos->∃ a_8:Ix.PutA,0=0/\(gl a.x.t (0+(↑a_3.fst:Int).toNat)).key=a_8.key/\(gl a.x.t (0+(↑a_3.fst:Int).toNat)).pos=a_8.pos/\(0=0/\max 16 (4*a.x.n)=a_8.x.t.length/\a_3.snd=a_8.cap)/\(↑(Ix.putAll a.x.t (Ix.emptyI (max 16 (4*a.x.n))) a_3.fst).n:Int)=(↑a_8.x.n:Int)/\(↑(Ix.putAll a.x.t (Ix.emptyI (max 16 (4*a.x.n))) a_3.fst).used:Int)=(↑a_8.x.used:Int)/\(a_8.x.t.length<=max 16 (4*a.x.n)/\RowsEq a_8.x.t.length 4 (encRows Ix.encP (Ix.putAll a.x.t (Ix.emptyI (max 16 (4*a.x.n))) a_3.fst).t) (encRows Ix.encP a_8.x.t)) /\
 (1<=a_8.x.t.length/\a_8.x.t.length<100000/\a_8.key.size<=lenMax/\2*a_8.x.used<a_8.x.t.length/\a_8.x.n<100000/\((Ix.findP a_8.x.t a_8.key).fst<(0:Int)->(0:Int)<=(Ix.findP a_8.x.t a_8.key).snd))/\∀ b:Unit,True->InR .i64 ((↑a_3.fst:Int)+1)/\∃ (a':Nat × Nat),(↑a_3.fst:Int)+1=(↑a'.fst:Int)/\(↑a.x.t.length:Int)=(↑a.x.t.length:Int)/\(0=0/\a.x.t.length=a.x.t.length/\a.cap=a.cap)/\(0=0/\a.x.t.length=a.x.t.length/\a.cap=a.cap)/\0=0/\(0=0/\(Ix.putI a_8.x a_8.key a_8.pos).t.length=max 16 (4*a.x.n)/\a_8.cap=a'.snd)/\(↑(Ix.putI a_8.x a_8.key a_8.pos).n:Int)=(↑(Ix.putAll a.x.t (Ix.emptyI (max 16 (4*a.x.n))) a'.fst).n:Int)/\(↑(Ix.putI a_8.x a_8.key a_8.pos).used:Int)=(↑(Ix.putAll a.x.t (Ix.emptyI (max 16 (4*a.x.n))) a'.fst).used:Int)/\(a.x.t.length<=a.x.t.length/\RowsEq a.x.t.length 4 (encRows Ix.encP a.x.t) (encRows Ix.encP a.x.t))/\(max 16 (4*a.x.n)<=(Ix.putI a_8.x a_8.key a_8.pos).t.length/\RowsEq (max 16 (4*a.x.n)) 4 (encRows Ix.encP (Ix.putI a_8.x a_8.key a_8.pos).t) (encRows Ix.encP (Ix.putAll a.x.t (Ix.emptyI (max 16 (4*a.x.n))) a'.fst).t))/\a'.fst<=a.x.t.length/\a.x.t.length - a'.fst<a.x.t.length - a_3.fst)/\((gl a.x.t (0+(↑a_3.fst:Int).toNat)).has=false->InR .i64 ((↑a_3.fst:Int)+1)/\∃ (a':Nat × Nat),(↑a_3.fst:Int)+1=(↑a'.fst:Int)/\(↑a.x.t.length:Int)=(↑a.x.t.length:Int)/\(0=0/\a.x.t.length=a.x.t.length/\a.cap=a.cap)/\(0=0/\a.x.t.length=a.x.t.length /\
 a.cap=a.cap)/\0=0/\(0=0/\max 16 (4*a.x.n)=max 16 (4*a.x.n)/\a_3.snd=a'.snd)/\(↑(Ix.putAll a.x.t (Ix.emptyI (max 16 (4*a.x.n))) a_3.fst).n:Int)=(↑(Ix.putAll a.x.t (Ix.emptyI (max 16 (4*a.x.n))) a'.fst).n:Int)/\(↑(Ix.putAll a.x.t (Ix.emptyI (max 16 (4*a.x.n))) a_3.fst).used:Int)=(↑(Ix.putAll a.x.t (Ix.emptyI (max 16 (4*a.x.n))) a'.fst).used:Int)/\(a.x.t.length<=a.x.t.length/\RowsEq a.x.t.length 4 (encRows Ix.encP a.x.t) (encRows Ix.encP a.x.t))/\(max 16 (4*a.x.n)<=max 16 (4*a.x.n)/\RowsEq (max 16 (4*a.x.n)) 4 (encRows Ix.encP (Ix.putAll a.x.t (Ix.emptyI (max 16 (4*a.x.n))) a_3.fst).t) (encRows Ix.encP (Ix.putAll a.x.t (Ix.emptyI (max 16 (4*a.x.n))) a'.fst).t))/\a'.fst<=a.x.t.length/\a.x.t.length - a'.fst<a.x.t.length - a_3.fst))/\(decide ((↑a_3.fst:Int)<(↑a.x.t.length:Int))=false->∃ b:Nat,(0=0/\max 16 (4*a.x.n)=(Ix.growI a.x).t.length/\a_3.snd=b)/\(↑(Ix.putAll a.x.t (Ix.emptyI (max 16 (4*a.x.n))) a_3.fst).n:Int)=(↑(Ix.growI a.x).n:Int)/\(↑(Ix.putAll a.x.t (Ix.emptyI (max 16 (4*a.x.n))) a_3.fst).used:Int)=(↑(Ix.growI a.x).used:Int)/\((Ix.growI a.x).t.length<=max 16 (4*a.x.n)/\RowsEq (Ix.growI a.x).t.length 4 (encRows Ix.encP (Ix.putAll a.x.t (Ix.emptyI (max 16 (4*a.x.n))) a_3.fst).t) (encRows Ix.encP (Ix.growI a.x).t))/\True/\True)) (by kernel_rfl) (by
 intro a h;obtain ⟨h1,h2,h3,h4,h5⟩:=h;obtain ⟨M,hM⟩:∃ M,M=max 16 (4*a.x.n):=⟨_,rfl⟩
 have hMi:(max 16 (4*(a.x.n:Int)):Int)=(M:Int):=by omega
 simp only [cond_true,<- hM] at h5 ⊢;simp only [hMi,Nat.zero_add,Int.toNat_natCast];have hlen:∀ i,(putAll a.x.t (emptyI M) i).t.length=M:=fun i=>by rw [putAll_length];simp [emptyI]
 have hg:growI a.x=putAll a.x.t (emptyI M) a.x.t.length:=by unfold growI;rw [<- hM]
 rw [hg,hlen];refine fun _=>⟨by simp only [InR];omega,by omega,by omega,by omega,⟨(0,M),?_⟩,fun x hx=>?_⟩
 ·dsimp only
  (repeat' apply And.intro)<;>first|exact RowsEq.refl _ _ _|skip
  all_goals first|exact trivial|rfl|omega|skip
  refine .of_cells fun i hi=>?_;unfold encRows;rw [show gl (putAll a.x.t (emptyI M) 0).t i=⟨.empty,0,false,false⟩ from gl_replicate hi];rfl
 ·obtain ⟨i,cap⟩:=x;have hx':i<=a.x.t.length:=hx;have h6:=h5 i;have sy:(gl a.x.t i).has=true->putAll a.x.t (emptyI M) (i+1)=putI (putAll a.x.t (emptyI M) i) (gl a.x.t i).key (gl a.x.t i).pos:=fun e=>if_pos e;have sn:(gl a.x.t i).has=false->putAll a.x.t (emptyI M) (i+1)=putAll a.x.t (emptyI M) i:=fun e=>if_neg (by rw [e];decide);have se:¬ i<a.x.t.length->putAll a.x.t (emptyI M) a.x.t.length=putAll a.x.t (emptyI M) i:=fun e=>by rw [show a.x.t.length=i by omega]
  dsimp only at *
  repeat' (first|intro _|apply And.intro|apply Exists.intro (PutA.mk (putAll a.x.t (emptyI M) i) cap _ _)|apply Exists.intro ((i+1,cap):Nat × Nat)|apply Exists.intro (cap:Nat))
  all_goals (try with_reducible rfl)
  all_goals (try with_reducible exact RowsEq.refl _ _ _)
  all_goals (try dsimp only)
  all_goals (try simp only [decide_eq_true_eq,decide_eq_false_iff_not,Bool.not_eq_true',Bool.not_eq_false',InR] at *)
  all_goals (try simp only [hlen,putI_length])
  all_goals (try exact trivial)
  all_goals (try omega)
  all_goals first
   | exact h4 i (by omega)
   | exact (h6 (by omega) (by assumption)).1
   | exact (h6 (by omega) (by assumption)).2.1
   | exact (h6 (by omega) (by assumption)).2.2 (by assumption)
   | (rw [sy (by assumption)];done)
   | (rw [sy (by assumption)];exact RowsEq.refl _ _ _)
   | (rw [sn (by assumption)];done)
   | (rw [sn (by assumption)];exact RowsEq.refl _ _ _)
   | (rw [se (by omega)];done)
   | (rw [se (by omega)];exact RowsEq.refl _ _ _))
theorem callGrow:CallsBy (Y Tryz.prog).G.X 58 cGrow:=fn_ok okY (tab:=[(33,cPut0)]) ⟨callPut0,trivial⟩ bodyGrow
end Go.Proofs.YtfobhkibkdmglaaGreat.Ix

namespace Go.Proofs.YtfobhkibkdmglaaGreat.Ix
open Go.Sx
set_option maxRecDepth 100000
set_option linter.unusedVariables false
def entOf (p:PlaceR):ByteArray × Int:=(p.key,p.pos)
def ents (t:List PlaceR):List (ByteArray × Int):=(t.filter (·.has)).map entOf
def busy (p:PlaceR):Bool:=!bare p
structure Inv (x:IdxR):Prop where
 lo:16<=x.t.length
 hi:x.t.length<=40000
 n:x.n=(ents x.t).length
 used:x.used=x.t.countP busy
 half:2*x.used<x.t.length+2
 size:∀ i,i<x.t.length->(gl x.t i).key.size<=lenMax
 dist:∀ i j,i<x.t.length->j<x.t.length->(gl x.t i).has=true->(gl x.t j).has=true->(gl x.t i).key=(gl x.t j).key->i=j
 path:∀ i,i<x.t.length->(gl x.t i).has=true->∃ d,d<x.t.length/\(startOf x.t.length (gl x.t i).key+d) % x.t.length=i/\∀ k,k<d->bare (gl x.t ((startOf x.t.length (gl x.t i).key+k) % x.t.length))=false
theorem mod_step {s d L:Nat}:((s+d) % L+1) % L=(s+(d+1)) % L:=by rw [Nat.mod_add_mod,Nat.add_assoc]
theorem hit_iff {key:ByteArray} {p:PlaceR}:hit key p=true↔p.has=true/\p.key=key:=by simp [hit]
theorem find_there {t:List PlaceR} {key:ByteArray} {i0 d0:Nat} (hL:1<=t.length) (hi:i0<t.length) (hh:hit key (gl t i0)=true) (hd:d0<t.length)
 (hp:(startOf t.length key+d0) % t.length=i0) (hb:∀ k,k<d0->bare (gl t ((startOf t.length key+k) % t.length))=false)
 (hu:∀ j,j<t.length->hit key (gl t j)=true->j=i0):∀ (m d:Nat) (f:Int),d+m=d0->findFrom t key (t.length - d) ((startOf t.length key+d) % t.length) f=((i0:Int),(i0:Int))
 | 0,d,f,hm=>by
  have:d=d0:=by omega
  subst this;rw [hp,show t.length - d=(t.length - d - 1)+1 by omega];simp only [findFrom,hh,if_true]
 | m+1,d,f,hm=>by
  have hlt:(startOf t.length key+d) % t.length<t.length:=Nat.mod_lt _ hL;rw [show t.length - d=(t.length - (d+1))+1 by omega];by_cases h:hit key (gl t ((startOf t.length key+d) % t.length))=true
  ·have:=hu _ hlt h;rw [this] at h ⊢;simp only [findFrom,h,if_true]
  ·simp only [findFrom,h,if_false,hb d (by omega),Bool.false_eq_true];rw [mod_step];exact find_there hL hi hh hd hp hb hu m (d+1) _ (by omega)
theorem find_none {t:List PlaceR} {key:ByteArray} (hL:1<=t.length) (hu:∀ j,j<t.length->hit key (gl t j)=false):∀ (k i:Nat) (f:Int),i<t.length->0<=f->findFrom t key k i f=(-1,f)
 | 0,i,f,hi,hf=>rfl
 | k+1,i,f,hi,hf=>by
  have h1:(!(gl t i).has&&decide (f<0))=false:=by simp;omega
  simp only [findFrom,hu i hi,Bool.false_eq_true,if_false,h1];split
  ·rfl
  ·exact find_none hL hu k _ f (Nat.mod_lt _ hL) hf
theorem find_free {t:List PlaceR} {key:ByteArray} {d0:Nat} (hL:1<=t.length) (hd:d0<t.length) (hu:∀ j,j<t.length->hit key (gl t j)=false)
 (hf:(gl t ((startOf t.length key+d0) % t.length)).has=false) (hb:∀ k,k<d0->(gl t ((startOf t.length key+k) % t.length)).has=true) :
 ∀ (m d:Nat),d+m=d0->findFrom t key (t.length - d) ((startOf t.length key+d) % t.length) (-1)=(-1,(((startOf t.length key+d0) % t.length:Nat):Int))
 | 0,d,hm=>by
  have:d=d0:=by omega
  subst this;have hlt:(startOf t.length key+d) % t.length<t.length:=Nat.mod_lt _ hL;rw [show t.length - d=(t.length - d - 1)+1 by omega];have h1:(!(gl t ((startOf t.length key+d) % t.length)).has&&decide ((-1:Int)<0))=true:=by simp [hf]
  simp only [findFrom,hu _ hlt,Bool.false_eq_true,if_false,h1,if_true];split
  ·rfl
  ·exact find_none hL hu _ _ _ (Nat.mod_lt _ hL) (by omega)
 | m+1,d,hm=>by
  have hlt:(startOf t.length key+d) % t.length<t.length:=Nat.mod_lt _ hL;rw [show t.length - d=(t.length - (d+1))+1 by omega];have h0:=hb d (by omega);have h1:(!(gl t ((startOf t.length key+d) % t.length)).has&&decide ((-1:Int)<0))=false:=by simp [h0]
  have h2:bare (gl t ((startOf t.length key+d) % t.length))=false:=by simp [bare,h0]
  simp only [findFrom,hu _ hlt,Bool.false_eq_true,if_false,h1,h2];rw [mod_step];exact find_free hL hd hu hf hb m (d+1) (by omega)
theorem start_mod {L:Nat} {key:ByteArray} (hL:1<=L):(startOf L key+0) % L=startOf L key:=by
 rw [Nat.add_zero,Nat.mod_eq_of_lt (startOf_lt key hL)]
theorem findP_there {x:IdxR} (h:Inv x) {i:Nat} (hi:i<x.t.length) (hh:(gl x.t i).has=true):findP x.t (gl x.t i).key=((i:Int),(i:Int)):=by
 obtain ⟨d,h1,h2,h3⟩:=h.path i hi hh;have hL:1<=x.t.length:=by have:=h.lo;omega
 have:=find_there (key:=(gl x.t i).key) hL hi (hit_iff.2 ⟨hh,rfl⟩) h1 h2 h3 (fun j hj hj2=>h.dist j i hj hi (hit_iff.1 hj2).1 hh (hit_iff.1 hj2).2) d 0 (-1) (by omega);rwa [start_mod hL,Nat.sub_zero] at this
theorem road {L s i:Nat} (hs:s<L) (hi:i<L):∃ d,d<L/\(s+d) % L=i:=by
 by_cases h:s<=i
 ·exact ⟨i - s,by omega,by rw [show s+(i - s)=i by omega];exact Nat.mod_eq_of_lt hi⟩
 ·refine ⟨L+i - s,by omega,?_⟩;rw [show s+(L+i - s)=i+L by omega,Nat.add_mod_right];exact Nat.mod_eq_of_lt hi
theorem some_free:∀ (t:List PlaceR),t.countP busy<t.length->∃ i,i<t.length/\(gl t i).has=false
 | [],h=>absurd h (Nat.not_lt_zero _)
 | p::r,h=>by
  cases hp:p.has with
  | false=>exact ⟨0,by simp,hp⟩
  | true =>
   have hb:busy p=true:=by simp [busy,bare,hp]
   rw [List.countP_cons_of_pos hb] at h;obtain ⟨i,h1,h2⟩:=some_free r (by simpa using h);exact ⟨i+1,by simp;omega,h2⟩
theorem first {p:Nat->Bool}:∀ d,p d=true->∃ d0,d0<=d/\p d0=true/\∀ k,k<d0->p k=false:=by
 intro d
 induction d using Nat.strongRecOn with
 | ind d ih =>
  intro h;by_cases hx:∃ k,k<d/\p k=true
  ·obtain ⟨k,hk,hp⟩:=hx;obtain ⟨d0,a,b,c⟩:=ih k hk hp;exact ⟨d0,by omega,b,c⟩
  ·refine ⟨d,Nat.le_refl _,h,fun k hk=>?_⟩;cases hp:p k with
   | false=>rfl
   | true=>exact absurd ⟨k,hk,hp⟩ hx
def absent (t:List PlaceR) (key:ByteArray):Prop:=∀ j,j<t.length->hit key (gl t j)=false
theorem findP_free {t:List PlaceR} {key:ByteArray} (hL:1<=t.length) (hu:absent t key) (hr:t.countP busy<t.length) :
 ∃ d i,d<t.length/\(startOf t.length key+d) % t.length=i/\i<t.length/\(gl t i).has=false/\(∀ k,k<d->(gl t ((startOf t.length key+k) % t.length)).has=true)/\findP t key=(-1,(i:Int)):=by
 obtain ⟨i,h1,h2⟩:=some_free t hr;obtain ⟨d,h3,h4⟩:=road (startOf_lt key hL) h1;obtain ⟨d0,g1,g2,g3⟩:=first (p:=fun d=>!(gl t ((startOf t.length key+d) % t.length)).has) d (by simp [h4,h2])
 simp only [Bool.not_eq_true',Bool.not_eq_false'] at g2 g3;have:=find_free hL (show d0<t.length by omega) hu g2 g3 d0 0 (by omega);rw [start_mod hL,Nat.sub_zero] at this;exact ⟨d0,_,by omega,rfl,Nat.mod_lt _ hL,g2,g3,this⟩
theorem split_at {t:List PlaceR} {i:Nat} (h:i<t.length):t=t.take i++gl t i::t.drop (i+1):=by
 rw [gl_eq h,List.getElem_cons_drop,List.take_append_drop]
theorem set_split {t:List PlaceR} {i:Nat} {q:PlaceR} (h:i<t.length):t.set i q=t.take i++q::t.drop (i+1):=by
 rw [List.set_eq_take_append_cons_drop,if_pos h]
theorem ents_app (a b:List PlaceR):ents (a++b)=ents a++ents b:=by simp [ents]
theorem ents_cons (p:PlaceR) (r:List PlaceR):ents (p::r)=(if p.has then [entOf p] else [])++ents r:=by
 unfold ents;rw [List.filter_cons];split<;>simp
theorem ents_at {t:List PlaceR} {i:Nat} (h:i<t.length):ents t=ents (t.take i)++((if (gl t i).has then [entOf (gl t i)] else [])++ents (t.drop (i+1))):=by
 conv=>lhs;rw [split_at h]
 rw [ents_app,ents_cons]
theorem ents_set {t:List PlaceR} {i:Nat} {q:PlaceR} (h:i<t.length):ents (t.set i q)=ents (t.take i)++((if q.has then [entOf q] else [])++ents (t.drop (i+1))):=by
 rw [set_split h,ents_app,ents_cons]
theorem cnt_at {t:List PlaceR} {i:Nat} (h:i<t.length):t.countP busy=(t.take i).countP busy+((t.drop (i+1)).countP busy+if busy (gl t i) then 1 else 0):=by
 conv=>lhs;rw [split_at h]
 rw [List.countP_append,List.countP_cons]
theorem cnt_set {t:List PlaceR} {i:Nat} {q:PlaceR} (h:i<t.length):(t.set i q).countP busy=(t.take i).countP busy+((t.drop (i+1)).countP busy+if busy q then 1 else 0):=by
 rw [set_split h,List.countP_append,List.countP_cons]
theorem mem_ents {t:List PlaceR} {k:ByteArray} {p:Int}:(k,p)∈ents t↔∃ i,i<t.length/\(gl t i).has=true/\(gl t i).key=k/\(gl t i).pos=p:=by
 unfold ents;simp only [List.mem_map,List.mem_filter,entOf,Prod.mk.injEq];constructor
 ·rintro ⟨q,⟨h1,h2⟩,h3,h4⟩;obtain ⟨i,hi,rfl⟩:=List.getElem_of_mem h1;exact ⟨i,hi,by rw [gl_eq hi];exact h2,by rw [gl_eq hi];exact h3,by rw [gl_eq hi];exact h4⟩
 ·rintro ⟨i,h1,h2,h3,h4⟩;exact ⟨_,⟨gl_mem h1,h2⟩,h3,h4⟩
theorem absent_iff {t:List PlaceR} {k:ByteArray}:absent t k↔k∉(ents t).map Prod.fst:=by
 constructor
 ·intro h hm;obtain ⟨⟨k',p⟩,h1,rfl⟩:=List.mem_map.1 hm;obtain ⟨i,h2,h3,h4,_⟩:=mem_ents.1 h1;have:=h i h2;rw [hit_iff.2 ⟨h3,h4⟩] at this;cases this
 ·intro h j hj;cases hh:hit k (gl t j) with
  | false=>rfl
  | true =>
   obtain ⟨h1,h2⟩:=hit_iff.1 hh;exact absurd (List.mem_map.2 ⟨(k,(gl t j).pos),mem_ents.2 ⟨j,hj,h1,h2,rfl⟩,rfl⟩) h
structure Has (x:IdxR) (l:List (ByteArray × Int)):Prop where
 inv:Inv x
 perm:(ents x.t).Perm l
theorem Has.of_perm {x:IdxR} {l m:List (ByteArray × Int)} (h:Has x l) (p:l.Perm m):Has x m:=⟨h.inv,h.perm.trans p⟩
theorem Has.n {x:IdxR} {l:List (ByteArray × Int)} (h:Has x l):x.n=l.length:=by rw [h.inv.n,h.perm.length_eq]
theorem Has.mem {x:IdxR} {l:List (ByteArray × Int)} (h:Has x l) {k:ByteArray} {p:Int} (hm:(k,p)∈l):∃ i:Nat,i<x.t.length/\(gl x.t i).has=true/\(gl x.t i).key=k/\(gl x.t i).pos=p/\findP x.t k=((i:Int),(i:Int)):=by
 obtain ⟨i,h1,h2,h3,h4⟩:=mem_ents.1 (h.perm.mem_iff.2 hm);refine ⟨i,h1,h2,h3,h4,?_⟩;rw [<- h3];exact findP_there h.inv h1 h2
theorem Has.none {x:IdxR} {l:List (ByteArray × Int)} (h:Has x l) {k:ByteArray} (hm:k∉l.map Prod.fst):absent x.t k:=absent_iff.2 fun hk=>hm ((h.perm.map _).mem_iff.1 hk)
theorem Inv.room {x:IdxR} (h:Inv x):x.t.countP busy<x.t.length:=by have:=h.half;have:=h.used;have:=h.lo;omega
theorem Has.none_find {x:IdxR} {l:List (ByteArray × Int)} (h:Has x l) {k:ByteArray} (hm:k∉l.map Prod.fst):(findP x.t k).1 = -1/\0<=(findP x.t k).2:=by
 obtain ⟨d,i,_,_,_,_,_,e⟩:=findP_free (by have:=h.inv.lo;omega) (h.none hm) h.inv.room;rw [e];exact ⟨rfl,by simp⟩
theorem Inv.set {x:IdxR} (h:Inv x) {i:Nat} (hi:i<x.t.length) {q:PlaceR} (hb:bare q=false) (hs:q.key.size<=lenMax)
 (hd:q.has=true->∀ j,j<x.t.length->j≠i->(gl x.t j).has=true->(gl x.t j).key≠q.key)
 (hp:q.has=true->∃ d,d<x.t.length/\(startOf x.t.length q.key+d) % x.t.length=i/\∀ k,k<d->bare (gl x.t ((startOf x.t.length q.key+k) % x.t.length))=false)
 {n' u':Nat} (hn:n'=(ents (x.t.set i q)).length) (hu:u'=(x.t.set i q).countP busy) (hh:2*u'<x.t.length+2):Inv ⟨x.t.set i q,n',u'⟩:=by
 have hl:(x.t.set i q).length=x.t.length:=by simp
 have key:∀ j,gl (x.t.set i q) j=if i=j then q else gl x.t j:=by
  intro j;by_cases e:i=j
  ·subst e;rw [if_pos rfl,gl_set_self hi]
  ·rw [if_neg e,gl_set_ne e]
 have bb:∀ j,bare (gl x.t j)=false->bare (gl (x.t.set i q) j)=false:=by
  intro j hj;rw [key];split
  ·exact hb
  ·exact hj
 refine ⟨by rw [hl];exact h.lo,by rw [hl];exact h.hi,hn,hu,by rw [hl];exact hh,fun j hj=>?_,fun a b ha hb' h1 h2 h3=>?_,fun j hj hj2=>?_⟩
 ·rw [hl] at hj;rw [key];split
  ·exact hs
  ·exact h.size j hj
 ·simp only [hl] at ha hb';simp only [key] at h1 h2 h3;by_cases e1:i=a
  ·by_cases e2:i=b
   ·omega
   ·rw [if_pos e1] at h1 h3;rw [if_neg e2] at h2 h3;exact absurd h3.symm (hd h1 b hb' (fun e=>e2 e.symm) h2)
  ·by_cases e2:i=b
   ·rw [if_neg e1] at h1 h3;rw [if_pos e2] at h2 h3;exact absurd h3 (hd h2 a ha (fun e=>e1 e.symm) h1)
   ·rw [if_neg e1] at h1 h3;rw [if_neg e2] at h2 h3;exact h.dist a b ha hb' h1 h2 h3
 ·simp only [hl] at hj ⊢;simp only [key] at hj2;by_cases e:i=j
  ·rw [if_pos e] at hj2;subst e;obtain ⟨d,h1,h2,h3⟩:=hp hj2;rw [show gl (x.t.set i q) i=q by rw [key,if_pos rfl]];exact ⟨d,h1,h2,fun k hk=>bb _ (h3 k hk)⟩
  ·rw [if_neg e] at hj2;obtain ⟨d,h1,h2,h3⟩:=h.path j hj hj2;rw [show gl (x.t.set i q) j=gl x.t j by rw [key,if_neg e]];exact ⟨d,h1,h2,fun k hk=>bb _ (h3 k hk)⟩
theorem busy_has {p:PlaceR} (h:p.has=true):busy p=true:=by simp [busy,bare,h]
theorem put_there {x:IdxR} {l:List (ByteArray × Int)} {k:ByteArray} {p q:Int} (h:Has x ((k,q)::l)):Has (putI x k p) ((k,p)::l)/\putRet x k=q/\0<=(findP x.t k).1:=by
 obtain ⟨i,h1,h2,h3,h4,h5⟩:=h.mem List.mem_cons_self;have e:putI x k p=⟨x.t.set i { gl x.t i with pos:=p },x.n,x.used⟩:=by
  unfold putI;rw [h5];simp
 have hk:(ents x.t).Perm ((k,q)::(ents (x.t.take i)++ents (x.t.drop (i+1)))):=by
  rw [ents_at h1,h2];have:entOf (gl x.t i)=(k,q):=by simp [entOf,h3,h4]
  rw [if_pos rfl,this];exact List.perm_middle
 have hk':(ents (x.t.set i { gl x.t i with pos:=p })).Perm ((k,p)::(ents (x.t.take i)++ents (x.t.drop (i+1)))):=by
  rw [ents_set h1];simp only [h2,if_true,entOf,h3];exact List.perm_middle
 have hl:(ents (x.t.take i)++ents (x.t.drop (i+1))).Perm l:=(List.perm_cons _).1 (hk.symm.trans h.perm);refine ⟨⟨?_,?_⟩,by unfold putRet;rw [h5];simp [h4],by rw [h5];simp⟩
 ·rw [e];refine h.inv.set (q:={ gl x.t i with pos:=p }) h1 (by simp [bare,h2]) (h.inv.size i h1) (fun _ j hj hne hj2 he=>hne (h.inv.dist j i hj h1 hj2 h2 he)) (fun _=>h.inv.path i h1 h2) ?_ ?_ h.inv.half
  ·rw [h.inv.n,hk.length_eq,hk'.length_eq];rfl
  ·rw [h.inv.used,cnt_at h1,cnt_set h1,busy_has h2,busy_has (p:={ gl x.t i with pos:=p }) h2]
 ·rw [e];exact hk'.trans (hl.cons _)
theorem put_new {x:IdxR} {l:List (ByteArray × Int)} {k:ByteArray} {p:Int} (h:Has x l) (hk:k∉l.map Prod.fst) (hs:k.size<=lenMax) (hr:2*x.used<x.t.length) :
 Has (putI x k p) ((k,p)::l)/\putRet x k=0/\(findP x.t k).1<0/\0<=(findP x.t k).2/\(putI x k p).used<=x.used+1/\(putI x k p).n=x.n+1:=by
 obtain ⟨d,i,h1,h2,h3,h4,h5,h6⟩:=findP_free (by have:=h.inv.lo;omega) (h.none hk) h.inv.room;have e:putI x k p=⟨x.t.set i ⟨k,p,true,false⟩,x.n+1,if (gl x.t i).gone then x.used else x.used+1⟩:=by
  unfold putI;rw [h6];simp
 have hp0:ents x.t=ents (x.t.take i)++ents (x.t.drop (i+1)):=by rw [ents_at h3,h4];simp
 have hp1:(ents (x.t.set i ⟨k,p,true,false⟩)).Perm ((k,p)::ents x.t):=by
  rw [ents_set h3,hp0];simp only [if_true,entOf];exact List.perm_middle
 have hb:busy (gl x.t i)=(gl x.t i).gone:=by simp [busy,bare,h4]
 refine ⟨⟨?_,?_⟩,by unfold putRet;rw [h6];simp,by rw [h6];simp,by rw [h6];simp,by rw [e];simp only;split<;>omega,by rw [e]⟩
 ·rw [e];refine h.inv.set (q:=⟨k,p,true,false⟩) h3 rfl hs (fun _ j hj hne hj2 he=>?_) (fun _=>⟨d,h1,h2,fun k hk=>by simp [bare,h5 k hk]⟩) ?_ ?_ (by split<;>omega)
  ·have:=h.none hk j hj;rw [hit_iff.2 ⟨hj2,he⟩] at this;cases this
  ·rw [hp1.length_eq,List.length_cons,h.inv.n]
  ·rw [cnt_set h3,h.inv.used,cnt_at h3,hb];cases hg:(gl x.t i).gone<;>simp [busy,bare]<;>omega
 ·rw [e];exact hp1.trans (h.perm.cons _)
def goneP:PlaceR:=⟨.empty,0,false,true⟩
def dropI (x:IdxR) (k:ByteArray):IdxR:=if 0<=(findP x.t k).1 then ⟨x.t.set (findP x.t k).1.toNat goneP,x.n - 1,x.used⟩ else x
theorem drop_there {x:IdxR} {l:List (ByteArray × Int)} {k:ByteArray} {q:Int} (h:Has x ((k,q)::l)):Has (dropI x k) l/\0<=(findP x.t k).1:=by
 obtain ⟨i,h1,h2,h3,h4,h5⟩:=h.mem List.mem_cons_self;have e:dropI x k=⟨x.t.set i goneP,x.n - 1,x.used⟩:=by unfold dropI;rw [h5];simp
 have hk:(ents x.t).Perm ((k,q)::(ents (x.t.take i)++ents (x.t.drop (i+1)))):=by
  rw [ents_at h1,h2];have:entOf (gl x.t i)=(k,q):=by simp [entOf,h3,h4]
  rw [if_pos rfl,this];exact List.perm_middle
 have hk':ents (x.t.set i goneP)=ents (x.t.take i)++ents (x.t.drop (i+1)):=by rw [ents_set h1];rfl
 have hl:(ents (x.t.take i)++ents (x.t.drop (i+1))).Perm l:=(List.perm_cons _).1 (hk.symm.trans h.perm);refine ⟨⟨?_,?_⟩,by rw [h5];simp⟩
 ·rw [e];refine h.inv.set (q:=goneP) h1 rfl (by unfold lenMax;decide) (fun hc=>by cases hc) (fun hc=>by cases hc) ?_ ?_ h.inv.half
  ·rw [h.inv.n,hk.length_eq,hk'];rfl
  ·rw [h.inv.used,cnt_at h1,cnt_set h1,busy_has h2];rfl
 ·rw [e,hk'];exact hl
theorem drop_none {x:IdxR} {l:List (ByteArray × Int)} {k:ByteArray} (h:Has x l) (hk:k∉l.map Prod.fst):dropI x k=x:=by
 unfold dropI;rw [(h.none_find hk).1];rfl
def low (p:Int) (q:PlaceR):Bool:=q.has&&decide (q.pos<p)
def belowT (t:List PlaceR) (p:Int):Nat->List PlaceR
 | 0=>t
 | i+1=>if low p (gl t i) then (belowT t p i).set i goneP else belowT t p i
def belowN (t:List PlaceR) (p:Int):Nat->Nat
 | 0=>0
 | i+1=>belowN t p i+if low p (gl t i) then 1 else 0
def belowI (x:IdxR) (p:Int):IdxR:=⟨belowT x.t p x.t.length,x.n - belowN x.t p x.t.length,x.used⟩
theorem belowT_length (t:List PlaceR) (p:Int):∀ i,(belowT t p i).length=t.length
 | 0=>rfl
 | i+1=>by unfold belowT;split<;>simp [belowT_length t p i]
theorem belowT_at (t:List PlaceR) (p:Int):∀ i,i<=t.length->∀ j,gl (belowT t p i) j=if j<i/\low p (gl t j) then goneP else gl t j
 | 0,_,j=>by simp [belowT]
 | i+1,hi,j=>by
  have ih:=belowT_at t p i (by omega) j;unfold belowT;by_cases h:low p (gl t i)=true
  ·rw [if_pos h];by_cases hj:i=j
   ·subst hj;rw [gl_set_self (by rw [belowT_length];omega),if_pos ⟨by omega,h⟩]
   ·rw [gl_set_ne hj,ih]
    grind
  ·rw [if_neg h,ih];by_cases hj:i=j
   ·subst hj;rw [if_neg (by simp),if_neg (fun hc=>h hc.2)]
   ·grind
theorem below_there {x:IdxR} {l:List (ByteArray × Int)} (h:Has x l) (p:Int):∀ i,i<=x.t.length ->
 Has ⟨belowT x.t p i,x.n - belowN x.t p i,x.used⟩ (((x.t.take i).filter fun q=>q.has&&!low p q).map entOf++ents (x.t.drop i))/\belowN x.t p i=((x.t.take i).filter (low p)).length
 | 0,_=>⟨⟨h.inv,by simp [belowT]⟩,rfl⟩
 | i+1,hi=>by
  obtain ⟨⟨i1,i2⟩,i3⟩:=below_there h p i (by omega);have hT:=belowT_at x.t p i (by omega) i;rw [if_neg (by simp)] at hT;have hLen:=belowT_length x.t p i;rw [take_succ_gl (by omega),List.filter_append,List.filter_append,List.map_append,List.length_append,<- i3];have hdrop:ents (x.t.drop i)=(if (gl x.t i).has then [entOf (gl x.t i)] else [])++ents (x.t.drop (i+1)):=by
   rw [<- ents_cons,gl_eq (by omega),List.getElem_cons_drop]
  rw [hdrop] at i2;by_cases hl:low p (gl x.t i)=true
  ·have hh:(gl x.t i).has=true:=by simp [low] at hl;exact hl.1
   have e1:belowT x.t p (i+1)=(belowT x.t p i).set i goneP:=if_pos hl;have e2:belowN x.t p (i+1)=belowN x.t p i+1:=by show belowN x.t p i+(if low p (gl x.t i)=true then 1 else 0)=_;rw [if_pos hl]
   have h0:Has ⟨belowT x.t p i,x.n - belowN x.t p i,x.used⟩ ((entOf (gl x.t i))::(((x.t.take i).filter fun q=>q.has&&!low p q).map entOf++ents (x.t.drop (i+1)))):=by
    refine ⟨i1,i2.trans ?_⟩;rw [if_pos hh];exact List.perm_middle
   have h1:=drop_there (x:=⟨belowT x.t p i,x.n - belowN x.t p i,x.used⟩) h0;have hf:=findP_there i1 (i:=i) (by simp only;omega) (by simp only;rw [hT];exact hh);simp only at hf;rw [hT] at hf;have e3:dropI ⟨belowT x.t p i,x.n - belowN x.t p i,x.used⟩ (gl x.t i).key=⟨(belowT x.t p i).set i goneP,x.n - (belowN x.t p i+1),x.used⟩:=by
    unfold dropI;simp only;rw [hf];simp;omega
   refine ⟨?_,by rw [e2];simp [hl]⟩;rw [e1,e2,<- e3];simp only [List.filter_cons,hl,hh,Bool.not_true,Bool.and_false,List.filter_nil,List.map_nil,List.append_nil,Bool.false_eq_true,if_false];exact h1.1
  ·have e1:belowT x.t p (i+1)=belowT x.t p i:=if_neg hl;have e2:belowN x.t p (i+1)=belowN x.t p i:=by show belowN x.t p i+(if low p (gl x.t i)=true then 1 else 0)=_;rw [if_neg hl];rfl
   refine ⟨⟨?_,?_⟩,by rw [e2];simp [hl]⟩
   ·rw [e1,e2];exact i1
   ·rw [e1];refine i2.trans (.of_eq ?_);cases hh:(gl x.t i).has<;>simp [hl,hh]
theorem two_parts {α:Type} (f:α->Bool):∀ l:List α,l.length=(l.filter f).length+(l.filter fun e=>!f e).length
 | []=>rfl
 | a::r=>by
  have:=two_parts f r;cases h:f a<;>simp [List.filter_cons,h]<;>omega
theorem below_has {x:IdxR} {l:List (ByteArray × Int)} (h:Has x l) (p:Int):Has (belowI x p) (l.filter fun e=>decide (p<=e.2))/\belowN x.t p x.t.length=l.length - (l.filter fun e=>decide (p<=e.2)).length/\belowN x.t p x.t.length<=l.length:=by
 obtain ⟨h1,h2⟩:=below_there h p x.t.length (Nat.le_refl _);rw [List.take_length] at h1 h2;rw [List.drop_length] at h1;have e:((x.t.filter fun q=>q.has&&!low p q).map entOf++ents [])=(ents x.t).filter fun e=>decide (p<=e.2):=by
  unfold ents;rw [List.filter_map,List.filter_filter];simp only [List.filter_nil,List.map_nil,List.append_nil];congr 1;apply List.filter_congr;intro q _;simp only [Function.comp,low,entOf];by_cases hc:q.pos<p
  ·have hd:¬ p<=q.pos:=by omega
   cases hq:q.has<;>simp [hc,hd]
  ·have hd:p<=q.pos:=by omega
   cases hq:q.has<;>simp [hc,hd]
 rw [e] at h1;have hp:=(h.perm.filter fun e=>decide (p<=e.2))
 have e2:(x.t.filter (low p)).length=((ents x.t).filter fun e=>!decide (p<=e.2)).length:=by
  unfold ents;rw [List.filter_map,List.length_map,List.filter_filter];congr 1;apply List.filter_congr;intro q _;simp only [Function.comp,low,entOf];by_cases hc:q.pos<p
  ·have hd:¬ p<=q.pos:=by omega
   cases hq:q.has<;>simp [hc,hd]
  ·have hd:p<=q.pos:=by omega
   cases hq:q.has<;>simp [hc,hd]
 have e3:=two_parts (fun e:ByteArray × Int=>decide (p<=e.2)) (ents x.t);refine ⟨h1.of_perm hp,?_,?_⟩
 ·rw [h2,e2,<- hp.length_eq,<- h.perm.length_eq];omega
 ·rw [h2,e2,<- h.perm.length_eq];omega
theorem empty_has {n:Nat} (h1:16<=n) (h2:n<=40000):Has (emptyI n) []:=by
 have key:∀ i,i<n->gl (List.replicate n (⟨.empty,0,false,false⟩:PlaceR)) i=⟨.empty,0,false,false⟩:=fun i hi=>gl_replicate hi;have he:ents (List.replicate n (⟨.empty,0,false,false⟩:PlaceR))=[]:=by simp [ents]
 refine ⟨⟨by simpa [emptyI] using h1,by simpa [emptyI] using h2,?_,?_,by simp only [emptyI,List.length_replicate];omega,fun i hi=>?_,fun i j hi hj h=>?_,fun i hi h=>?_⟩,by simp only [emptyI];rw [he]⟩
 ·simp only [emptyI];rw [he];rfl
 ·simp [emptyI,List.countP_replicate,busy,bare]
 ·simp only [emptyI,List.length_replicate] at hi ⊢;rw [key i hi];simp only [lenMax];decide
 ·simp only [emptyI,List.length_replicate] at hi h;rw [key i hi] at h;cases h
 ·simp only [emptyI,List.length_replicate] at hi h;rw [key i hi] at h;cases h
theorem keys_nodup {x:IdxR} (h:Inv x) {i:Nat} (hi:i<x.t.length) (hh:(gl x.t i).has=true):(gl x.t i).key∉(ents (x.t.take i)).map Prod.fst:=by
 intro hm;obtain ⟨⟨k,p⟩,h1,h2⟩:=List.mem_map.1 hm;obtain ⟨j,h3,h4,h5,_⟩:=mem_ents.1 h1;rw [List.length_take] at h3;rw [gl_take (by omega)] at h4 h5;have:=h.dist j i (by omega) hi h4 hh (h5.trans h2);omega
theorem grow_step {x:IdxR} (h:Inv x) (hn:x.n<10000):∀ i,i<=x.t.length ->
 Has (putAll x.t (emptyI (max 16 (4*x.n))) i) (ents (x.t.take i))/\(putAll x.t (emptyI (max 16 (4*x.n))) i).used<=(putAll x.t (emptyI (max 16 (4*x.n))) i).n
 | 0,_=>⟨by simpa [putAll,ents] using empty_has (n:=max 16 (4*x.n)) (by omega) (by omega),Nat.le_refl _⟩
 | i+1,hi=>by
  obtain ⟨h1,h2⟩:=grow_step h hn i (by omega);have hT:=take_succ_gl (l:=x.t) (i:=i) (by omega);rw [hT,ents_app];unfold putAll;by_cases hh:(gl x.t i).has=true
  ·rw [if_pos hh];have hcount:(ents (x.t.take i)).length+1<=x.n:=by
    rw [h.n,ents_at (show i<x.t.length by omega),if_pos hh];simp
   have hlen:(putAll x.t (emptyI (max 16 (4*x.n))) i).t.length=max 16 (4*x.n):=by rw [putAll_length];simp [emptyI]
   obtain ⟨g1,g2,g3,g4,g5,g6⟩:=put_new (p:=(gl x.t i).pos) h1 (keys_nodup h (by omega) hh) (h.size i (by omega)) (by rw [hlen];have:=h1.n;omega);refine ⟨g1.of_perm ?_,by omega⟩;rw [ents_cons,if_pos hh];simp only [ents,List.filter_nil,List.map_nil,List.append_nil];exact (List.perm_append_singleton _ _).symm
  ·rw [if_neg hh,ents_cons,if_neg hh];simp only [ents,List.filter_nil,List.map_nil,List.append_nil];exact ⟨h1,h2⟩
theorem grow_pre {x:IdxR} (h:Inv x) (hn:x.n<10000):∀ i,i<x.t.length->(gl x.t i).has=true->2*(putAll x.t (emptyI (max 16 (4*x.n))) i).used<max 16 (4*x.n)/\(putAll x.t (emptyI (max 16 (4*x.n))) i).n<100000 /\
 ((findP (putAll x.t (emptyI (max 16 (4*x.n))) i).t (gl x.t i).key).1<0->0<=(findP (putAll x.t (emptyI (max 16 (4*x.n))) i).t (gl x.t i).key).2):=by
 intro i hi hh;obtain ⟨h1,h2⟩:=grow_step h hn i (by omega);have hcount:(ents (x.t.take i)).length+1<=x.n:=by
  rw [h.n,ents_at hi,if_pos hh];simp
 have:=h1.n;exact ⟨by omega,by omega,fun _=>(h1.none_find (keys_nodup h hi hh)).2⟩
theorem grow_has {x:IdxR} {l:List (ByteArray × Int)} (h:Has x l) (hn:x.n<10000):Has (growI x) l/\2*(growI x).used<(growI x).t.length:=by
 obtain ⟨h1,h2⟩:=grow_step h.inv hn x.t.length (Nat.le_refl _);rw [List.take_length] at h1;refine ⟨h1.of_perm h.perm,?_⟩;have hlen:(growI x).t.length=max 16 (4*x.n):=by unfold growI;rw [putAll_length];simp [emptyI]
 have e1:=h1.n;have e2:=h.inv.n;rw [hlen];unfold growI;omega
def roomy (x:IdxR):IdxR:=if x.t.length<=2*x.used then growI x else x
def putX (x:IdxR) (k:ByteArray) (p:Int):IdxR:=putI (roomy x) k p
theorem roomy_has {x:IdxR} {l:List (ByteArray × Int)} (h:Has x l) (hn:x.n<10000):Has (roomy x) l/\2*(roomy x).used<(roomy x).t.length:=by
 unfold roomy;split
 ·exact grow_has h hn
 ·exact ⟨h,by omega⟩
theorem putX_there {x:IdxR} {l:List (ByteArray × Int)} {k:ByteArray} {p q:Int} (h:Has x ((k,q)::l)) (hn:x.n<10000):Has (putX x k p) ((k,p)::l)/\putRet (roomy x) k=q :=
 let h1:=roomy_has h hn
 let h2:=put_there (p:=p) h1.1
 ⟨h2.1,h2.2.1⟩
theorem putX_new {x:IdxR} {l:List (ByteArray × Int)} {k:ByteArray} {p:Int} (h:Has x l) (hn:x.n<10000) (hk:k∉l.map Prod.fst) (hs:k.size<=lenMax):Has (putX x k p) ((k,p)::l)/\putRet (roomy x) k=0 :=
 let h1:=roomy_has h hn
 let h2:=put_new (p:=p) h1.1 hk hs h1.2
 ⟨h2.1,h2.2.1⟩
theorem Has.free {x:IdxR} {l:List (ByteArray × Int)} (h:Has x l) (k:ByteArray) (hf:(findP x.t k).1<0):0<=(findP x.t k).2:=by
 by_cases hk:k∈l.map Prod.fst
 ·obtain ⟨⟨k',p⟩,h1,rfl⟩:=List.mem_map.1 hk;obtain ⟨i,_,_,_,_,e⟩:=h.mem h1;rw [e] at hf;simp at hf;omega
 ·exact (h.none_find hk).2
def getI (x:IdxR) (k:ByteArray):Int × Bool:=if 0<=(findP x.t k).1 then ((gl x.t (findP x.t k).1.toNat).pos,true) else (0,false)
theorem get_there {x:IdxR} {l:List (ByteArray × Int)} (h:Has x l) {k:ByteArray} {p:Int} (hm:(k,p)∈l):getI x k=(p,true):=by
 obtain ⟨i,_,_,_,h4,e⟩:=h.mem hm;unfold getI;rw [e];simp [h4]
theorem get_none {x:IdxR} {l:List (ByteArray × Int)} (h:Has x l) {k:ByteArray} (hm:k∉l.map Prod.fst):getI x k=(0,false):=by
 unfold getI;rw [(h.none_find hm).1];rfl
end Go.Proofs.YtfobhkibkdmglaaGreat.Ix

namespace Go.Proofs.YtfobhkibkdmglaaGreat.Ix
open Go.Sx
set_option maxRecDepth 100000
set_option linter.unusedVariables false
noncomputable def cPut:Con where
 α:=PutA
 β:=Nat
 m:=2
 m':=3
 pre:=fun a=>Inv a.x/\a.x.n<9999/\a.key.size<=lenMax
 args:=fun a=>[.a (.ptr 0 0 0 0),.a (.str a.key),.a (.int .i64 a.pos)]
 hp:=fun a=>idxHp 0 1 a.x.t a.cap a.x.n a.x.used
 ro:=fun _=>[]
 post:=fun _ _=>True
 res:=fun a _=>.a (.int .i64 (putRet (roomy a.x) a.key))
 hp':=fun a cap=>idxHp 0 2 (putX a.x a.key a.pos).t cap (putX a.x a.key a.pos).n (putX a.x a.key a.pos).used
set_option maxHeartbeats 4000000 in
theorem bodyPut:fnBody (Y Tryz.prog) [(57,cFind),(58,cGrow)] 33 cPut fun _=>[]:=fnBody.of (p :=
 ∀ a:Ix.PutA,Ix.Inv a.x/\a.x.n<9999/\a.key.size<=lenMax->InR .i64 (↑a.x.used:Int)->InR .i64 ((2:Int)*(↑a.x.used:Int))/\(decide ((↑a.x.t.length:Int)<=2*(↑a.x.used:Int))=true->∃ a_4:Ix.GrowA,0=0/\(0=0/\a.x.t.length=a_4.x.t.length/\a.cap=a_4.cap)/\(↑a.x.n:Int)=(↑a_4.x.n:Int)/\(↑a.x.used:Int)=(↑a_4.x.used:Int)/\(a_4.x.t.length<=a.x.t.length/\RowsEq a_4.x.t.length 4 (encRows Ix.encP a.x.t) (encRows Ix.encP a_4.x.t))/\(1<=a_4.x.t.length/\a_4.x.t.length<100000/\a_4.x.n<10000/\(∀ i:Nat,i<a_4.x.t.length->(gl a_4.x.t i).key.size<=lenMax)/\∀ i:Nat,i<a_4.x.t.length->(gl a_4.x.t i).has=true->2*(Ix.putAll a_4.x.t (Ix.emptyI (max 16 (4*a_4.x.n))) i).used<max 16 (4*a_4.x.n)/\(Ix.putAll a_4.x.t (Ix.emptyI (max 16 (4*a_4.x.n))) i).n<100000/\((Ix.findP (Ix.putAll a_4.x.t (Ix.emptyI (max 16 (4*a_4.x.n))) i).t (gl a_4.x.t i).key).fst<(0:Int)->(0:Int)<=(Ix.findP (Ix.putAll a_4.x.t (Ix.emptyI (max 16 (4*a_4.x.n))) i).t (gl a_4.x.t i).key).snd))/\∀ b:Nat,True->∃ a_6:Ix.FindA,0=0/\a.key=a_6.key/\(0=0/\(Ix.growI a_4.x).t.length=a_6.t.length/\b=a_6.cap)/\(↑(Ix.growI a_4.x).n:Int)=(↑a_6.n:Int)/\(↑(Ix.growI a_4.x).used:Int)=(↑a_6.used:Int)/\(a_6.t.length<=(Ix.growI a_4.x).t.length/\RowsEq a_6.t.length 4 (encRows Ix.encP (Ix.growI a_4.x).t) (encRows Ix.encP a_6.t))/\(1<=a_6.t.length/\a_6.t.length<100000/\a_6.key.size<=lenMax)/\∀ b_1:Unit,True->(decide ((0:Int)<=(Ix.findP a_6.t a_6.key).fst)=true ->
 ((0:Int)<=(Ix.findP a_6.t a_6.key).fst/\(Ix.findP a_6.t a_6.key).fst<(↑(Ix.growI a_4.x).t.length:Int))/\0+(Ix.findP a_6.t a_6.key).fst.toNat<(Ix.growI a_4.x).t.length/\(InR .i64 (gl (Ix.growI a_4.x).t (0+(Ix.findP a_6.t a_6.key).fst.toNat)).pos->((0:Int)<=(Ix.findP a_6.t a_6.key).fst/\(Ix.findP a_6.t a_6.key).fst<(↑(Ix.growI a_4.x).t.length:Int))/\0+(Ix.findP a_6.t a_6.key).fst.toNat<(Ix.growI a_4.x).t.length/\∃ b_2:Nat,(gl (Ix.growI a_4.x).t (0+(Ix.findP a_6.t a_6.key).fst.toNat)).pos=Ix.putRet (Ix.roomy a.x) a.key/\(0=0/\(Ix.growI a_4.x).t.length=(Ix.putX a.x a.key a.pos).t.length/\b=b_2)/\(↑(Ix.growI a_4.x).n:Int)=(↑(Ix.putX a.x a.key a.pos).n:Int)/\(↑(Ix.growI a_4.x).used:Int)=(↑(Ix.putX a.x a.key a.pos).used:Int)/\((Ix.putX a.x a.key a.pos).t.length<=(Ix.growI a_4.x).t.length/\RowsEq (Ix.putX a.x a.key a.pos).t.length 4 (updR (encRows Ix.encP (Ix.growI a_4.x).t) (0+(Ix.findP a_6.t a_6.key).fst.toNat) 1 [Value.int IntKind.i64 a.pos]) (encRows Ix.encP (Ix.putX a.x a.key a.pos).t))/\True/\True))/\(decide ((0:Int)<=(Ix.findP a_6.t a_6.key).fst)=false->((0:Int)<=(Ix.findP a_6.t a_6.key).snd/\(Ix.findP a_6.t a_6.key).snd<(↑(Ix.growI a_4.x).t.length:Int))/\0+(Ix.findP a_6.t a_6.key).snd.toNat<(Ix.growI a_4.x).t.length/\((!(gl (Ix.growI a_4.x).t (0+(Ix.findP a_6.t a_6.key).snd.toNat)).gone)=true->InR .i64 (↑(Ix.growI a_4.x).used:Int)->InR .i64 ((↑(Ix.growI a_4.x).used:Int)+1)/\((0:Int)<=(Ix.findP a_6.t a_6.key).snd /\
 (Ix.findP a_6.t a_6.key).snd<(↑(Ix.growI a_4.x).t.length:Int))/\0+(Ix.findP a_6.t a_6.key).snd.toNat<(Ix.growI a_4.x).t.length/\(InR .i64 (↑(Ix.growI a_4.x).n:Int)->InR .i64 ((↑(Ix.growI a_4.x).n:Int)+1)/\∃ b_2:Nat,(0:Int)=Ix.putRet (Ix.roomy a.x) a.key/\(0=0/\(Ix.growI a_4.x).t.length=(Ix.putX a.x a.key a.pos).t.length/\b=b_2)/\(↑(Ix.growI a_4.x).n:Int)+1=(↑(Ix.putX a.x a.key a.pos).n:Int)/\(↑(Ix.growI a_4.x).used:Int)+1=(↑(Ix.putX a.x a.key a.pos).used:Int)/\((Ix.putX a.x a.key a.pos).t.length<=(Ix.growI a_4.x).t.length/\RowsEq (Ix.putX a.x a.key a.pos).t.length 4 (updR (encRows Ix.encP (Ix.growI a_4.x).t) (0+(Ix.findP a_6.t a_6.key).snd.toNat) 0 [Value.string a.key,Value.int IntKind.i64 a.pos,Value.bool true,Value.bool false]) (encRows Ix.encP (Ix.putX a.x a.key a.pos).t))/\True/\True))/\((!(gl (Ix.growI a_4.x).t (0+(Ix.findP a_6.t a_6.key).snd.toNat)).gone)=false->((0:Int)<=(Ix.findP a_6.t a_6.key).snd/\(Ix.findP a_6.t a_6.key).snd<(↑(Ix.growI a_4.x).t.length:Int))/\0+(Ix.findP a_6.t a_6.key).snd.toNat<(Ix.growI a_4.x).t.length/\(InR .i64 (↑(Ix.growI a_4.x).n:Int)->InR .i64 ((↑(Ix.growI a_4.x).n:Int)+1)/\∃ b_2:Nat,(0:Int)=Ix.putRet (Ix.roomy a.x) a.key/\(0=0/\(Ix.growI a_4.x).t.length=(Ix.putX a.x a.key a.pos).t.length/\b=b_2)/\(↑(Ix.growI a_4.x).n:Int)+1=(↑(Ix.putX a.x a.key a.pos).n:Int)/\(↑(Ix.growI a_4.x).used:Int)=(↑(Ix.putX a.x a.key a.pos).used:Int) /\
 ((Ix.putX a.x a.key a.pos).t.length<=(Ix.growI a_4.x).t.length/\RowsEq (Ix.putX a.x a.key a.pos).t.length 4 (updR (encRows Ix.encP (Ix.growI a_4.x).t) (0+(Ix.findP a_6.t a_6.key).snd.toNat) 0 [Value.string a.key,Value.int IntKind.i64 a.pos,Value.bool true,Value.bool false]) (encRows Ix.encP (Ix.putX a.x a.key a.pos).t))/\True/\True))))/\(decide ((↑a.x.t.length:Int)<=2*(↑a.x.used:Int))=false->∃ a_4:Ix.FindA,0=0/\a.key=a_4.key/\(0=0/\a.x.t.length=a_4.t.length/\a.cap=a_4.cap)/\(↑a.x.n:Int)=(↑a_4.n:Int)/\(↑a.x.used:Int)=(↑a_4.used:Int)/\(a_4.t.length<=a.x.t.length/\RowsEq a_4.t.length 4 (encRows Ix.encP a.x.t) (encRows Ix.encP a_4.t))/\(1<=a_4.t.length/\a_4.t.length<100000/\a_4.key.size<=lenMax)/\∀ b:Unit,True->(decide ((0:Int)<=(Ix.findP a_4.t a_4.key).fst)=true->((0:Int)<=(Ix.findP a_4.t a_4.key).fst/\(Ix.findP a_4.t a_4.key).fst<(↑a.x.t.length:Int))/\0+(Ix.findP a_4.t a_4.key).fst.toNat<a.x.t.length/\(InR .i64 (gl a.x.t (0+(Ix.findP a_4.t a_4.key).fst.toNat)).pos->((0:Int)<=(Ix.findP a_4.t a_4.key).fst/\(Ix.findP a_4.t a_4.key).fst<(↑a.x.t.length:Int))/\0+(Ix.findP a_4.t a_4.key).fst.toNat<a.x.t.length/\∃ b:Nat,(gl a.x.t (0+(Ix.findP a_4.t a_4.key).fst.toNat)).pos=Ix.putRet (Ix.roomy a.x) a.key/\(0=0/\a.x.t.length=(Ix.putX a.x a.key a.pos).t.length/\a.cap=b)/\(↑a.x.n:Int)=(↑(Ix.putX a.x a.key a.pos).n:Int)/\(↑a.x.used:Int)=(↑(Ix.putX a.x a.key a.pos).used:Int) /\
 ((Ix.putX a.x a.key a.pos).t.length<=a.x.t.length/\RowsEq (Ix.putX a.x a.key a.pos).t.length 4 (updR (encRows Ix.encP a.x.t) (0+(Ix.findP a_4.t a_4.key).fst.toNat) 1 [Value.int IntKind.i64 a.pos]) (encRows Ix.encP (Ix.putX a.x a.key a.pos).t))/\True/\True))/\(decide ((0:Int)<=(Ix.findP a_4.t a_4.key).fst)=false->((0:Int)<=(Ix.findP a_4.t a_4.key).snd/\(Ix.findP a_4.t a_4.key).snd<(↑a.x.t.length:Int))/\0+(Ix.findP a_4.t a_4.key).snd.toNat<a.x.t.length/\((!(gl a.x.t (0+(Ix.findP a_4.t a_4.key).snd.toNat)).gone)=true->InR .i64 (↑a.x.used:Int)->InR .i64 ((↑a.x.used:Int)+1)/\((0:Int)<=(Ix.findP a_4.t a_4.key).snd/\(Ix.findP a_4.t a_4.key).snd<(↑a.x.t.length:Int))/\0+(Ix.findP a_4.t a_4.key).snd.toNat<a.x.t.length/\(InR .i64 (↑a.x.n:Int)->InR .i64 ((↑a.x.n:Int)+1)/\∃ b:Nat,(0:Int)=Ix.putRet (Ix.roomy a.x) a.key/\(0=0/\a.x.t.length=(Ix.putX a.x a.key a.pos).t.length/\a.cap=b)/\(↑a.x.n:Int)+1=(↑(Ix.putX a.x a.key a.pos).n:Int)/\(↑a.x.used:Int)+1=(↑(Ix.putX a.x a.key a.pos).used:Int)/\((Ix.putX a.x a.key a.pos).t.length<=a.x.t.length/\RowsEq (Ix.putX a.x a.key a.pos).t.length 4 (updR (encRows Ix.encP a.x.t) (0+(Ix.findP a_4.t a_4.key).snd.toNat) 0 [Value.string a.key,Value.int IntKind.i64 a.pos,Value.bool true,Value.bool false]) (encRows Ix.encP (Ix.putX a.x a.key a.pos).t))/\True/\True))/\((!(gl a.x.t (0+(Ix.findP a_4.t a_4.key).snd.toNat)).gone)=false->((0:Int)<=(Ix.findP a_4.t a_4.key).snd /\
 (Ix.findP a_4.t a_4.key).snd<(↑a.x.t.length:Int))/\0+(Ix.findP a_4.t a_4.key).snd.toNat<a.x.t.length/\(InR .i64 (↑a.x.n:Int)->InR .i64 ((↑a.x.n:Int)+1)/\∃ b:Nat,(0:Int)=Ix.putRet (Ix.roomy a.x) a.key/\(0=0/\a.x.t.length=(Ix.putX a.x a.key a.pos).t.length/\a.cap=b)/\(↑a.x.n:Int)+1=(↑(Ix.putX a.x a.key a.pos).n:Int)/\(↑a.x.used:Int)=(↑(Ix.putX a.x a.key a.pos).used:Int)/\((Ix.putX a.x a.key a.pos).t.length<=a.x.t.length/\RowsEq (Ix.putX a.x a.key a.pos).t.length 4 (updR (encRows Ix.encP a.x.t) (0+(Ix.findP a_4.t a_4.key).snd.toNat) 0 [Value.string a.key,Value.int IntKind.i64 a.pos,Value.bool true,Value.bool false]) (encRows Ix.encP (Ix.putX a.x a.key a.pos).t))/\True/\True))))) (by kernel_rfl) (by
 intro a h;obtain ⟨h1,h2,h3⟩:=h;obtain ⟨g1,g2⟩:=roomy_has (Has.mk h1 (List.Perm.refl _)) (show a.x.n<10000 by omega);have k1:=h1.lo;have k2:=h1.hi;have k3:=h1.half;simp only [Nat.zero_add,InR];refine fun _=>⟨by omega,fun hc=>?_,fun hc=>?_⟩
 ·have hr:roomy a.x=growI a.x:=if_pos (by simp at hc;omega);have hpx:putX a.x a.key a.pos=putI (growI a.x) a.key a.pos:=by unfold putX;rw [hr]
  have hn:(growI a.x).n=a.x.n:=by rw [hr] at g1;rw [g1.n,h1.n]
  have hm:=grow_pre h1 (show a.x.n<10000 by omega);simp only [hr,hpx] at g1 g2 ⊢;refine ⟨⟨a.x,a.cap⟩,?_⟩;dsimp only
  (repeat' apply And.intro)<;>first|exact trivial|rfl|omega|exact RowsEq.refl _ _ _|exact h1.size|exact hm|skip
  refine fun cap _=>⟨⟨(growI a.x).t,cap,(growI a.x).n,(growI a.x).used,a.key⟩,?_⟩
  generalize growI a.x=y at *;have m1:=g1.inv.lo;have m2:=g1.inv.hi;have m3:=g1.inv.half;obtain ⟨l1,l2⟩:=findP_lt (t:=y.t) a.key (by omega);have l3:=g1.free a.key;have hl:=putI_length y a.key a.pos;have yes:0<=(findP y.t a.key).1->putI y a.key a.pos={ y with t:=y.t.set (findP y.t a.key).1.toNat { gl y.t (findP y.t a.key).1.toNat with pos:=a.pos } }:=fun e=>if_pos e;have no:¬ 0<=(findP y.t a.key).1->putI y a.key a.pos=⟨y.t.set (findP y.t a.key).2.toNat ⟨a.key,a.pos,true,false⟩,y.n+1,if (gl y.t (findP y.t a.key).2.toNat).gone then y.used else y.used+1⟩:=fun e=>if_neg e;dsimp only
  repeat' (first|intro _|apply And.intro|apply Exists.intro (cap:Nat))
  all_goals (try with_reducible rfl)
  all_goals (try simp only [decide_eq_true_eq,decide_eq_false_iff_not,Bool.not_eq_true',Bool.not_eq_false'] at *)
  all_goals (try exact trivial)
  all_goals (try omega)
  all_goals (try (grind [putRet]))
  all_goals (try (with_reducible exact RowsEq.refl _ _ _))
  all_goals (first|(rw [yes (by assumption)];refine .set _ (by omega) (fun i hi=>by simp only [updR_other hi]) ?_;simp only [updR_self];rfl)|(rw [no (by assumption)];refine .set _ (by omega) (fun i hi=>by simp only [updR_other hi]) ?_;simp only [updR_self];rfl))
 ·have hr:roomy a.x=a.x:=if_neg (by simp at hc;omega);have hpx:putX a.x a.key a.pos=putI a.x a.key a.pos:=by unfold putX;rw [hr]
  simp only [hr,hpx] at g1 g2 ⊢;refine ⟨⟨a.x.t,a.cap,a.x.n,a.x.used,a.key⟩,?_⟩;have hn:a.x.n=a.x.n:=rfl;obtain ⟨cap,hcap⟩:∃ cap,cap=a.cap:=⟨_,rfl⟩
  rw [<- hcap];generalize hy:a.x=y at *;have m1:=g1.inv.lo;have m2:=g1.inv.hi;have m3:=g1.inv.half;obtain ⟨l1,l2⟩:=findP_lt (t:=y.t) a.key (by omega);have l3:=g1.free a.key;have hl:=putI_length y a.key a.pos;have yes:0<=(findP y.t a.key).1->putI y a.key a.pos={ y with t:=y.t.set (findP y.t a.key).1.toNat { gl y.t (findP y.t a.key).1.toNat with pos:=a.pos } }:=fun e=>if_pos e;have no:¬ 0<=(findP y.t a.key).1->putI y a.key a.pos=⟨y.t.set (findP y.t a.key).2.toNat ⟨a.key,a.pos,true,false⟩,y.n+1,if (gl y.t (findP y.t a.key).2.toNat).gone then y.used else y.used+1⟩:=fun e=>if_neg e;dsimp only
  repeat' (first|intro _|apply And.intro|apply Exists.intro (cap:Nat))
  all_goals (try with_reducible rfl)
  all_goals (try simp only [decide_eq_true_eq,decide_eq_false_iff_not,Bool.not_eq_true',Bool.not_eq_false'] at *)
  all_goals (try exact trivial)
  all_goals (try omega)
  all_goals (try (grind [putRet]))
  all_goals (try (with_reducible exact RowsEq.refl _ _ _))
  all_goals (first|(rw [yes (by assumption)];refine .set _ (by omega) (fun i hi=>by simp only [updR_other hi]) ?_;simp only [updR_self];rfl)|(rw [no (by assumption)];refine .set _ (by omega) (fun i hi=>by simp only [updR_other hi]) ?_;simp only [updR_self];rfl)))
structure KeyA where
 x:IdxR
 cap:Nat
 key:ByteArray
noncomputable def cGet:Con where
 α:=KeyA
 β:=Unit
 m:=2
 m':=2
 pre:=fun a=>Inv a.x/\a.key.size<=lenMax
 args:=fun a=>[.a (.ptr 0 0 0 0),.a (.str a.key)]
 hp:=fun _=>[]
 ro:=fun a=>idxHp 0 1 a.x.t a.cap a.x.n a.x.used
 post:=fun _ _=>True
 res:=fun a _=>.tup [.a (.int .i64 (getI a.x a.key).1),.a (.bool (getI a.x a.key).2)]
 hp':=fun _ _=>[]
set_option maxHeartbeats 4000000 in
theorem bodyGet:fnBody (Y Tryz.prog) [(57,cFind)] 67 cGet fun _=>[]:=fnBody.of (p :=
 ∀ a:Ix.KeyA,Ix.Inv a.x/\a.key.size<=lenMax->∃ a_2:Ix.FindA,0=0/\a.key=a_2.key/\(0=0/\a.x.t.length=a_2.t.length/\a.cap=a_2.cap)/\(↑a.x.n:Int)=(↑a_2.n:Int)/\(↑a.x.used:Int)=(↑a_2.used:Int)/\(a_2.t.length<=a.x.t.length/\RowsEq a_2.t.length 4 (encRows Ix.encP a.x.t) (encRows Ix.encP a_2.t))/\(1<=a_2.t.length/\a_2.t.length<100000/\a_2.key.size<=lenMax)/\∀ b:Unit,True->(decide ((Ix.findP a_2.t a_2.key).fst<(0:Int))=true->∃ b:Unit,(0:Int)=(Ix.getI a.x a.key).fst/\false=(Ix.getI a.x a.key).snd/\True/\True)/\(decide ((Ix.findP a_2.t a_2.key).fst<(0:Int))=false->((0:Int)<=(Ix.findP a_2.t a_2.key).fst/\(Ix.findP a_2.t a_2.key).fst<(↑a.x.t.length:Int))/\0+(Ix.findP a_2.t a_2.key).fst.toNat<a.x.t.length/\(InR .i64 (gl a.x.t (0+(Ix.findP a_2.t a_2.key).fst.toNat)).pos->∃ b:Unit,(gl a.x.t (0+(Ix.findP a_2.t a_2.key).fst.toNat)).pos=(Ix.getI a.x a.key).fst/\true=(Ix.getI a.x a.key).snd/\True/\True))) (by kernel_rfl) (by
 intro a h;obtain ⟨h1,h2⟩:=h;have k1:=h1.lo;have k2:=h1.hi;obtain ⟨l1,l2⟩:=findP_lt (t:=a.x.t) a.key (by omega);refine ⟨⟨a.x.t,a.cap,a.x.n,a.x.used,a.key⟩,?_⟩;simp only [Nat.zero_add,InR]
 repeat' (first|intro _|apply And.intro|apply Exists.intro ())
 all_goals (try with_reducible rfl)
 all_goals (try simp only [decide_eq_true_eq,decide_eq_false_iff_not] at *)
 all_goals (try exact trivial)
 all_goals (try omega)
 all_goals (try (with_reducible exact RowsEq.refl _ _ _))
 all_goals (try (grind [getI])))
noncomputable def cDrop:Con where
 α:=KeyA
 β:=Unit
 m:=2
 m':=2
 pre:=fun a=>Inv a.x/\a.x.n<10000/\a.key.size<=lenMax/\(0<=(findP a.x.t a.key).1->1<=a.x.n)
 args:=fun a=>[.a (.ptr 0 0 0 0),.a (.str a.key)]
 hp:=fun a=>idxHp 0 1 a.x.t a.cap a.x.n a.x.used
 ro:=fun _=>[]
 post:=fun _ _=>True
 res:=fun a _=>.a (.bool (decide (0<=(findP a.x.t a.key).1)))
 hp':=fun a _=>idxHp 0 1 (dropI a.x a.key).t a.cap (dropI a.x a.key).n (dropI a.x a.key).used
set_option maxHeartbeats 4000000 in
theorem bodyDrop:fnBody (Y Tryz.prog) [(57,cFind)] 32 cDrop fun _=>[]:=fnBody.of (p :=
 ∀ a:Ix.KeyA,Ix.Inv a.x/\a.x.n<10000/\a.key.size<=lenMax/\((0:Int)<=(Ix.findP a.x.t a.key).fst->1<=a.x.n)->∃ a_2:Ix.FindA,0=0/\a.key=a_2.key/\(0=0/\a.x.t.length=a_2.t.length/\a.cap=a_2.cap)/\(↑a.x.n:Int)=(↑a_2.n:Int)/\(↑a.x.used:Int)=(↑a_2.used:Int)/\(a_2.t.length<=a.x.t.length/\RowsEq a_2.t.length 4 (encRows Ix.encP a.x.t) (encRows Ix.encP a_2.t))/\(1<=a_2.t.length/\a_2.t.length<100000/\a_2.key.size<=lenMax)/\∀ b:Unit,True->(decide ((Ix.findP a_2.t a_2.key).fst<(0:Int))=true->∃ b:Unit,false=decide ((0:Int)<=(Ix.findP a.x.t a.key).fst)/\(0=0/\a.x.t.length=(Ix.dropI a.x a.key).t.length/\a.cap=a.cap)/\(↑a.x.n:Int)=(↑(Ix.dropI a.x a.key).n:Int)/\(↑a.x.used:Int)=(↑(Ix.dropI a.x a.key).used:Int)/\((Ix.dropI a.x a.key).t.length<=a.x.t.length/\RowsEq (Ix.dropI a.x a.key).t.length 4 (encRows Ix.encP a.x.t) (encRows Ix.encP (Ix.dropI a.x a.key).t))/\True/\True)/\(decide ((Ix.findP a_2.t a_2.key).fst<(0:Int))=false->((0:Int)<=(Ix.findP a_2.t a_2.key).fst/\(Ix.findP a_2.t a_2.key).fst<(↑a.x.t.length:Int))/\0+(Ix.findP a_2.t a_2.key).fst.toNat<a.x.t.length/\(InR .i64 (↑a.x.n:Int)->InR .i64 ((↑a.x.n:Int) - 1)/\∃ b:Unit,true=decide ((0:Int)<=(Ix.findP a.x.t a.key).fst)/\(0=0/\a.x.t.length=(Ix.dropI a.x a.key).t.length/\a.cap=a.cap)/\(↑a.x.n:Int) - 1=(↑(Ix.dropI a.x a.key).n:Int)/\(↑a.x.used:Int)=(↑(Ix.dropI a.x a.key).used:Int)/\((Ix.dropI a.x a.key).t.length<=a.x.t.length /\
 RowsEq (Ix.dropI a.x a.key).t.length 4 (updR (encRows Ix.encP a.x.t) (0+(Ix.findP a_2.t a_2.key).fst.toNat) 0 [Value.string (ByteArray.mk #[]),Value.int IntKind.i64 (0:Int),Value.bool false,Value.bool true]) (encRows Ix.encP (Ix.dropI a.x a.key).t))/\True/\True))) (by kernel_rfl) (by
 intro a h;obtain ⟨h1,h2,h3,h4⟩:=h;have k1:=h1.lo;have k2:=h1.hi;obtain ⟨l1,l2⟩:=findP_lt (t:=a.x.t) a.key (by omega);have yes:0<=(findP a.x.t a.key).1->dropI a.x a.key=⟨a.x.t.set (findP a.x.t a.key).1.toNat goneP,a.x.n - 1,a.x.used⟩:=fun e=>if_pos e;have no:¬ 0<=(findP a.x.t a.key).1->dropI a.x a.key=a.x:=fun e=>if_neg e;refine ⟨⟨a.x.t,a.cap,a.x.n,a.x.used,a.key⟩,?_⟩;simp only [Nat.zero_add,InR]
 repeat' (first|intro _|apply And.intro|apply Exists.intro ())
 all_goals (try with_reducible rfl)
 all_goals (try simp only [decide_eq_true_eq,decide_eq_false_iff_not] at *)
 all_goals (try exact trivial)
 all_goals (try omega)
 all_goals (try (with_reducible exact RowsEq.refl _ _ _))
 all_goals (try (grind))
 all_goals (first|(rw [yes (by omega)];refine .set _ (by omega) (fun i hi=>by simp only [updR_other hi]) ?_;simp only [updR_self];rfl)|(rw [no (by omega)];exact RowsEq.refl _ _ _)|skip))
structure LowA where
 x:IdxR
 cap:Nat
 pos:Int
noncomputable def cBelow:Con where
 α:=LowA
 β:=Unit
 m:=2
 m':=2
 pre:=fun a=>Inv a.x/\a.x.n<10000/\belowN a.x.t a.pos a.x.t.length<=a.x.n
 args:=fun a=>[.a (.ptr 0 0 0 0),.a (.int .i64 a.pos)]
 hp:=fun a=>idxHp 0 1 a.x.t a.cap a.x.n a.x.used
 ro:=fun _=>[]
 post:=fun _ _=>True
 res:=fun a _=>.a (.int .i64 (belowN a.x.t a.pos a.x.t.length))
 hp':=fun a _=>idxHp 0 1 (belowI a.x a.pos).t a.cap (belowI a.x a.pos).n (belowI a.x a.pos).used
def iBelow (a:LowA):An:=.flat 5 Nat (fun s i=>((s.at_ (s.in_ (s.tg 0) 0) (.arr 118 ksP a.x.t.length (encRows encP (belowT a.x.t a.pos i)))).int 15 i).int 5 (belowN a.x.t a.pos i))
 (fun _ i=>i<=a.x.t.length) (fun _ i=>a.x.t.length - i)
set_option maxHeartbeats 4000000 in
theorem bodyBelow:fnBody (Y Tryz.prog) [] 60 cBelow fun a=>[(60,[iBelow a],[])]:=fnBody.of (p :=
 ∀ a:Ix.LowA,Ix.Inv a.x/\a.x.n<10000/\Ix.belowN a.x.t a.pos a.x.t.length<=a.x.n->(∃ a_2:Nat,0=(↑(Ix.belowN a.x.t a.pos a_2):Int)/\0=(↑a_2:Int)/\(↑a.x.t.length:Int)=(↑a.x.t.length:Int)/\(0=0/\a.x.t.length=a.x.t.length/\a.cap=a.cap)/\false=false/\(0:Int)=0/\0=0/\a.pos=a.pos/\(0=0/\a.x.t.length=a.x.t.length/\a.cap=a.cap)/\(↑a.x.n:Int)=(↑a.x.n:Int)/\(↑a.x.used:Int)=(↑a.x.used:Int)/\(a.x.t.length<=a.x.t.length/\RowsEq a.x.t.length 4 (encRows Ix.encP a.x.t) (encRows Ix.encP (Ix.belowT a.x.t a.pos a_2)))/\a_2<=a.x.t.length/\True)/\∀ a_2:Nat,a_2<=a.x.t.length->(decide ((↑a_2:Int)<(↑a.x.t.length:Int))=true->(0<=(↑a_2:Int)/\(↑a_2:Int)<(↑a.x.t.length:Int))/\0+(↑a_2:Int).toNat<a.x.t.length/\((gl (Ix.belowT a.x.t a.pos a_2) (0+(↑a_2:Int).toNat)).has=true->InR .i64 (gl (Ix.belowT a.x.t a.pos a_2) (0+(↑a_2:Int).toNat)).pos->(decide ((gl (Ix.belowT a.x.t a.pos a_2) (0+(↑a_2:Int).toNat)).pos<a.pos)=true->(0<=(↑a_2:Int)/\(↑a_2:Int)<(↑a.x.t.length:Int))/\0+(↑a_2:Int).toNat<a.x.t.length/\InR .i64 ((↑(Ix.belowN a.x.t a.pos a_2):Int)+1)/\InR .i64 ((↑a_2:Int)+1)/\∃ (a':Nat),(↑(Ix.belowN a.x.t a.pos a_2):Int)+1=(↑(Ix.belowN a.x.t a.pos a'):Int)/\(↑a_2:Int)+1=(↑a':Int)/\(↑a.x.t.length:Int)=(↑a.x.t.length:Int)/\(0=0/\a.x.t.length=a.x.t.length/\a.cap=a.cap)/\false=false/\(0:Int)=0/\0=0/\a.pos=a.pos /\
 (0=0/\a.x.t.length=a.x.t.length/\a.cap=a.cap)/\(↑a.x.n:Int)=(↑a.x.n:Int)/\(↑a.x.used:Int)=(↑a.x.used:Int)/\(a.x.t.length<=a.x.t.length/\RowsEq a.x.t.length 4 (updR (encRows Ix.encP (Ix.belowT a.x.t a.pos a_2)) (0+(↑a_2:Int).toNat) 0 [Value.string (ByteArray.mk #[]),Value.int IntKind.i64 (0:Int),Value.bool false,Value.bool true]) (encRows Ix.encP (Ix.belowT a.x.t a.pos a')))/\a'<=a.x.t.length/\a.x.t.length - a'<a.x.t.length - a_2)/\(decide ((gl (Ix.belowT a.x.t a.pos a_2) (0+(↑a_2:Int).toNat)).pos<a.pos)=false->InR .i64 ((↑a_2:Int)+1)/\∃ (a':Nat),(↑(Ix.belowN a.x.t a.pos a_2):Int)=(↑(Ix.belowN a.x.t a.pos a'):Int)/\(↑a_2:Int)+1=(↑a':Int)/\(↑a.x.t.length:Int)=(↑a.x.t.length:Int)/\(0=0/\a.x.t.length=a.x.t.length/\a.cap=a.cap)/\false=false/\(0:Int)=0/\0=0/\a.pos=a.pos/\(0=0/\a.x.t.length=a.x.t.length/\a.cap=a.cap)/\(↑a.x.n:Int)=(↑a.x.n:Int)/\(↑a.x.used:Int)=(↑a.x.used:Int)/\(a.x.t.length<=a.x.t.length/\RowsEq a.x.t.length 4 (encRows Ix.encP (Ix.belowT a.x.t a.pos a_2)) (encRows Ix.encP (Ix.belowT a.x.t a.pos a')))/\a'<=a.x.t.length/\a.x.t.length - a'<a.x.t.length - a_2))/\((gl (Ix.belowT a.x.t a.pos a_2) (0+(↑a_2:Int).toNat)).has=false->InR .i64 ((↑a_2:Int)+1)/\∃ (a':Nat),(↑(Ix.belowN a.x.t a.pos a_2):Int)=(↑(Ix.belowN a.x.t a.pos a'):Int)/\(↑a_2:Int)+1=(↑a':Int)/\(↑a.x.t.length:Int)=(↑a.x.t.length:Int)/\(0=0 /\
 a.x.t.length=a.x.t.length/\a.cap=a.cap)/\false=false/\(0:Int)=0/\0=0/\a.pos=a.pos/\(0=0/\a.x.t.length=a.x.t.length/\a.cap=a.cap)/\(↑a.x.n:Int)=(↑a.x.n:Int)/\(↑a.x.used:Int)=(↑a.x.used:Int)/\(a.x.t.length<=a.x.t.length/\RowsEq a.x.t.length 4 (encRows Ix.encP (Ix.belowT a.x.t a.pos a_2)) (encRows Ix.encP (Ix.belowT a.x.t a.pos a')))/\a'<=a.x.t.length/\a.x.t.length - a'<a.x.t.length - a_2))/\(decide ((↑a_2:Int)<(↑a.x.t.length:Int))=false->InR .i64 (↑a.x.n:Int)->InR .i64 ((↑a.x.n:Int) - (↑(Ix.belowN a.x.t a.pos a_2):Int))/\∃ b:Unit,(↑(Ix.belowN a.x.t a.pos a_2):Int)=(↑(Ix.belowN a.x.t a.pos a.x.t.length):Int)/\(0=0/\a.x.t.length=(Ix.belowI a.x a.pos).t.length/\a.cap=a.cap)/\(↑a.x.n:Int) - (↑(Ix.belowN a.x.t a.pos a_2):Int)=(↑(Ix.belowI a.x a.pos).n:Int)/\(↑a.x.used:Int)=(↑(Ix.belowI a.x a.pos).used:Int)/\((Ix.belowI a.x a.pos).t.length<=a.x.t.length/\RowsEq (Ix.belowI a.x a.pos).t.length 4 (encRows Ix.encP (Ix.belowT a.x.t a.pos a_2)) (encRows Ix.encP (Ix.belowI a.x a.pos).t))/\True/\True)) (by kernel_rfl) (by
 intro a h;obtain ⟨h1,h2,h3⟩:=h;have k1:=h1.lo;have k2:=h1.hi;simp only [Nat.zero_add,InR];have hlen:=belowT_length a.x.t a.pos;refine ⟨⟨0,?_⟩,fun i hi=>?_⟩
 ·(repeat' apply And.intro)<;>(first|exact trivial|rfl|omega|assumption|exact RowsEq.refl _ _ _|(simp only [InR];omega)|(simp;done)|(simp;omega)|grind)
 ·have hat:=belowT_at a.x.t a.pos i hi i;rw [if_neg (by simp)] at hat;have sy:low a.pos (gl a.x.t i)=true->belowT a.x.t a.pos (i+1)=(belowT a.x.t a.pos i).set i goneP:=fun e=>if_pos e;have sn:¬ low a.pos (gl a.x.t i)=true->belowT a.x.t a.pos (i+1)=belowT a.x.t a.pos i:=fun e=>if_neg e;have ny:low a.pos (gl a.x.t i)=true->belowN a.x.t a.pos (i+1)=belowN a.x.t a.pos i+1:=fun e=>by show _+(if _ then 1 else 0)=_;rw [if_pos e]
  have nn:¬ low a.pos (gl a.x.t i)=true->belowN a.x.t a.pos (i+1)=belowN a.x.t a.pos i:=fun e=>by show _+(if _ then 1 else 0)=_;rw [if_neg e];rfl
  have hn:∀ i,belowN a.x.t a.pos i<=i:=by
   intro i
   induction i with
   | zero=>exact Nat.le_refl _
   | succ i ih=>show _+(if _ then 1 else 0)<=_;split<;>omega
  have hn1:=hn i;have hfin:¬ i<a.x.t.length->belowI a.x a.pos=⟨belowT a.x.t a.pos i,a.x.n - belowN a.x.t a.pos i,a.x.used⟩/\belowN a.x.t a.pos a.x.t.length=belowN a.x.t a.pos i:=fun e=>by
   have:i=a.x.t.length:=by omega
   rw [this];exact ⟨rfl,rfl⟩
  have ll:∀ q:PlaceR,low a.pos q=true↔q.has=true/\q.pos<a.pos:=fun q=>by simp [low]
  simp only [Int.toNat_natCast,hat] at *;clear hlen
  repeat' (first|intro _|apply And.intro|apply Exists.intro (i+1:Nat)|apply Exists.intro ())
  all_goals (try with_reducible rfl)
  all_goals (try simp only [decide_eq_true_eq,decide_eq_false_iff_not,belowT_length] at *)
  all_goals (try exact trivial)
  all_goals (try omega)
  all_goals (try (with_reducible exact RowsEq.refl _ _ _))
  all_goals first
   | (rw [ny ((ll _).2 ⟨by assumption,by assumption⟩)];done)
   | (rw [ny ((ll _).2 ⟨by assumption,by assumption⟩)];rfl)
   | rfl
   | (rw [nn (fun e=>by have:=(ll _).1 e;grind)];done)
   | (rw [sy ((ll _).2 ⟨by assumption,by assumption⟩)];refine .set _ (by rw [belowT_length];omega) (fun i hi=>by simp only [updR_other hi]) ?_;simp only [updR_self];rfl)
   | (rw [sn (fun e=>by have:=(ll _).1 e;grind)];exact RowsEq.refl _ _ _)
   | (rw [(hfin (by omega)).2];done)
   | (have hf:=hfin (by omega);rw [hf.1];first|rfl|omega|exact RowsEq.refl _ _ _|(simp only;omega)|(simp only [belowT_length];first|done|exact Nat.le_refl _)))
theorem callPut:CallsBy (Y Tryz.prog).G.X 33 cPut:=fn_ok okY (tab:=[(57,cFind),(58,cGrow)]) ⟨callFind,callGrow,trivial⟩ bodyPut
theorem callGet:CallsBy (Y Tryz.prog).G.X 67 cGet:=fn_ok okY (tab:=[(57,cFind)]) ⟨callFind,trivial⟩ bodyGet
theorem callDrop:CallsBy (Y Tryz.prog).G.X 32 cDrop:=fn_ok okY (tab:=[(57,cFind)]) ⟨callFind,trivial⟩ bodyDrop
theorem callBelow:CallsBy (Y Tryz.prog).G.X 60 cBelow:=fn_ok okY (tab:=[]) trivial bodyBelow
end Go.Proofs.YtfobhkibkdmglaaGreat.Ix

namespace Go.Proofs.YtfobhkibkdmglaaGreat
open Go.Sx
set_option maxRecDepth 100000
set_option linter.unusedVariables false
set_option linter.unusedSimpArgs false
@[reducible] def idxQ (a b:Ix.IdxR) (v w:Nat) (p:Prop):Prop:=(0=0/\a.t.length=b.t.length/\v=w)/\(↑a.n:Int)=(↑b.n:Int)/\(↑a.used:Int)=(↑b.used:Int)/\(b.t.length<=a.t.length/\RowsEq b.t.length 4 (encRows Ix.encP a.t) (encRows Ix.encP b.t))/\p
def zeroItem:ItemM:=⟨.empty,.empty,0,false⟩
def bodyOf:Option ItemM->List Int
 | none=>[2]
 | some x=>1::itemB x
theorem vi_short (m:Nat) (n:Int) (h:2*n.toNat<128 ^ (m+1)):(vi n).length<=m+1:=vbF_short 9 m _ h
theorem itemB_250 {x:ItemM} (h:mayB x=true):(itemB x).length<=x.key.size+x.val.size+10/\1<=(itemB x).length:=by
 obtain ⟨k1,k2,k3,k4⟩:=may_out h;have a1:=vi_short 0 (x.key.size:Nat) (by simp;omega);have a2:=vi_short 1 (x.val.size:Nat) (by simp;omega);have a3:=vi_short 5 x.e (by simp;omega);have a4:(vi (if x.gone then 1 else 0)).length<=1:=by split<;>exact vi_short 0 _ (by decide)
 have a5:=(vi_len (x.key.size:Nat)).1;simp only [itemB,textsB,putsB,List.flatMap_cons,List.flatMap_nil,List.append_nil,List.length_append,txB_len];omega
theorem bodyOf_len {o:Option ItemM} (h:∀ x,o=some x->mayB x=true):1<=(bodyOf o).length/\(bodyOf o).length<=251:=by
 cases o with
 | none=>simp [bodyOf]
 | some x =>
  have h1:=h x rfl;have:=itemB_250 h1;have:=may_out h1;simp only [bodyOf,List.length_cons];omega
structure FReadA where
 o:Option ItemM
 cap:Nat
noncomputable def cFRead:Con where
 α:=FReadA
 β:=Unit
 m:=1
 m':=1
 pre:=fun a=>(∀ x,a.o=some x->mayB x=true)/\(bodyOf a.o).length<=a.cap
 args:=fun a=>[.a (.slc 0 0 1 (bodyOf a.o).length a.cap)]
 hp:=fun _=>[]
 ro:=fun a=>byteHp 0 (bodyOf a.o)
 post:=fun _ _=>True
 res:=fun a _=>.tup [.agg (itemA (a.o.getD zeroItem)),.a (.bool a.o.isSome)]
 hp':=fun _ _=>[]
set_option maxHeartbeats 4000000 in
theorem bodyFRead:fnBody (Y Tryz.prog) [(56,cDec)] 31 cFRead fun _=>[]:=fnBody.of (p :=
 ∀ a:FReadA,(∀ x:ItemM,a.o=some x->mayB x=true)/\(bodyOf a.o).length<=a.cap->(decide ((↑(bodyOf a.o).length:Int)<1)=true->∃ b:Unit,(ByteArray.mk #[])=(a.o.getD zeroItem).key/\(ByteArray.mk #[])=(a.o.getD zeroItem).val/\(0:Int)=(a.o.getD zeroItem).e/\false=(a.o.getD zeroItem).gone/\false=a.o.isSome/\True/\True)/\(decide ((↑(bodyOf a.o).length:Int)<1)=false->((0:Int)<=0/\0<(↑(bodyOf a.o).length:Int))/\0<(bodyOf a.o).length/\(InR .u8 (gl (bodyOf a.o) 0)->((gl (bodyOf a.o) 0 != (1:Int))=true->∃ b:Unit,(ByteArray.mk #[])=(a.o.getD zeroItem).key/\(ByteArray.mk #[])=(a.o.getD zeroItem).val/\(0:Int)=(a.o.getD zeroItem).e/\false=(a.o.getD zeroItem).gone/\false=a.o.isSome/\True/\True)/\((gl (bodyOf a.o) 0 != (1:Int))=false->((0:Int)<=1/\1<=(↑(bodyOf a.o).length:Int))/\∃ a_5:DecA,(1=a_5.r/\(bodyOf a.o).length - 1=(itemB a_5.x).length/\a.cap - 1=a_5.cap)/\(a_5.l.length<=(bodyOf a.o).length/\RowsEq a_5.l.length 1 (encRows encB (bodyOf a.o)) (encRows encB a_5.l))/\(mayB a_5.x=true/\a_5.r+(itemB a_5.x).length<=a_5.l.length/\(itemB a_5.x).length<=a_5.cap/\∀ i:Nat,i<(itemB a_5.x).length->gl a_5.l (a_5.r+i)=gl (itemB a_5.x) i)/\∀ b:Nat,True->(false=true->∃ b:Unit,(ByteArray.mk #[])=(a.o.getD zeroItem).key/\(ByteArray.mk #[])=(a.o.getD zeroItem).val/\(0:Int)=(a.o.getD zeroItem).e/\false=(a.o.getD zeroItem).gone/\false=a.o.isSome/\True /\
 True)/\(false=false->(false=true->∃ b:Unit,(ByteArray.mk #[])=(a.o.getD zeroItem).key/\(ByteArray.mk #[])=(a.o.getD zeroItem).val/\(0:Int)=(a.o.getD zeroItem).e/\false=(a.o.getD zeroItem).gone/\false=a.o.isSome/\True/\True)/\(false=false->((0:Int)<=0/\(0:Int)<1)/\0<1/\∃ b:Unit,(gl [a_5.x] 0).key=(a.o.getD zeroItem).key/\(gl [a_5.x] 0).val=(a.o.getD zeroItem).val/\(gl [a_5.x] 0).e=(a.o.getD zeroItem).e/\(gl [a_5.x] 0).gone=(a.o.getD zeroItem).gone/\true=a.o.isSome/\True/\True)))))) (by kernel_rfl) (by
 rintro ⟨o,cap⟩ ⟨h1,h2⟩;dsimp only at *;have hl:=bodyOf_len h1;cases o with
 | none =>
  have e0:gl (bodyOf none) 0=2:=rfl;refine ⟨fun c=>by exfalso;have:=of_decide_eq_true c;omega,fun _=>?_⟩
  repeat (first|refine And.intro (by omega) ?_|refine And.intro (by dsimp only;omega) ?_|refine And.intro (by simp only [InR];omega) ?_)
  rw [e0];exact fun _=>⟨fun _=>⟨(),by (repeat' apply And.intro)<;>first|trivial|rfl⟩,fun c=>absurd c (by decide)⟩
 | some x =>
  have e0:gl (bodyOf (some x)) 0=1:=rfl;have e1:(bodyOf (some x)).length=(itemB x).length+1:=by simp [bodyOf]
  have hm:=h1 x rfl;have e2:∀ i,i<(itemB x).length->gl (bodyOf (some x)) (1+i)=gl (itemB x) i:=fun i _=>by
   show gl (([1]:List Int)++itemB x) (([1]:List Int).length+i)=_;rw [gl_append_right]
  refine ⟨fun c=>by exfalso;have:=of_decide_eq_true c;omega,fun _=>?_⟩
  repeat (first|refine And.intro (by omega) ?_|refine And.intro (by dsimp only;omega) ?_|refine And.intro (by simp only [InR];omega) ?_)
  rw [e0];refine fun _=>⟨fun c=>absurd c (by decide),fun _=>?_⟩
  repeat (first|refine And.intro (by omega) ?_|refine And.intro (by dsimp only;omega) ?_|refine And.intro (by simp only [InR];omega) ?_)
  refine ⟨DecA.mk (bodyOf (some x)) 1 (cap - 1) x,?_⟩
  (repeat' (first|apply And.intro|(intro _)|apply Exists.intro ()))<;>first|with_reducible (first|rfl|trivial|assumption)|omega|with_reducible (first|exact RowsEq.refl _ _ _|exact Nat.le_refl _)|(dsimp only [List.length_cons,List.length_nil]<;>omega)|exact hm|exact e2 _ (by assumption)|rfl|(exfalso;simp at *;done)|skip)
theorem callFRead:CallsBy (Y Tryz.prog).G.X 31 cFRead:=fn_ok okY (tab:=[(56,cDec)]) ⟨callDec,trivial⟩ bodyFRead
def slFRead (a:FReadA):Sl1:=⟨5,[.int .u8],(bodyOf a.o).length,a.cap,encRows encB (bodyOf a.o)⟩
noncomputable def cFReadV:Con:=cFRead.val1 slFRead
theorem semFRead:ConSem (Y Tryz.prog).G.X cFRead 31:=con_sem okY (fun _=>CHof_ok okY (tab:=[(56,cDec)]) ⟨callDec,trivial⟩) bodyFRead.body
theorem callFReadV:CallsBy (Y Tryz.prog).G.X 31 cFReadV:=fun _ _ _ h=>con_okS (val1_sem semFRead ⟨rfl,fun _=>rfl,fun _=>rfl,fun _=>rfl,fun _ _=>rfl,fun _ _ p hp=>(by cases hp)⟩) h
structure FlM where
 L:LogM
 d:DevM
 l:List (ByteArray × Int)
structure FlP where
 H:PH
 y:LogL
 x:Ix.IdxR
 cap:Nat
def flHp (c lg dv ds ix it pl:Nat) (m:FlM) (p:FlP):List (Nat × Chunk) :=
 [(c,.obj 71 [.ptr lg 0 0 0,.ptr ix 0 0 0]),(lg,logObj dv m.L p.y.lv)]++devHp dv ds m.d++Ix.idxHp ix it p.x.t p.cap p.x.n p.x.used++[(pl,.pool p.H)]
structure FlAt (m:FlM) (p:FlP):Prop where
 log:LogAt p.H p.y m.L
 idx:Ix.Has p.x m.l
def FlFr (p p':FlP):Prop:=∀ z,p.H z≠none->z∉fpLog p.y->p'.H z=p.H z/\z∉fpLog p'.y
structure FlOk (m:FlM) (n:Nat):Prop where
 log:LogOk m.L m.d
 few:m.l.length<9000
def firstF (L:LogM):Int:=firstTo L.l L.next
def addF (m:FlM) (body:List Int):FlM:=⟨appL m.L body,appD m.L m.d body,m.l.filter fun e=>decide (firstF (appL m.L body)<=e.2)⟩
theorem appL_len {L:LogM} {d:DevM} (ok:LogOk L d) {body:List Int} (h:body.length<=300):(appL L body).l.length<=801:=by
 have:=(appL1_ok (n:=body.length) ok h).few;show ((appL1 L body.length).l.set _ _).length<=801;rw [List.length_set];exact this
theorem has_few {x:Ix.IdxR} {l:List (ByteArray × Int)} (h:Ix.Has x l):x.n=l.length:=h.n
structure AddA where
 m:FlM
 p:FlP
 body:List Int
 cap:Nat
noncomputable def cAdd:Con where
 α:=AddA
 β:=FlP
 m:=8
 m':=9
 pre:=fun a=>FlAt a.m a.p/\FlOk a.m a.body.length/\1<=a.body.length/\a.body.length<=300
 args:=fun a=>[.a (.ptr 0 0 0 0),.a (.slc 7 0 1 a.body.length a.cap)]
 hp:=fun a=>flHp 0 1 2 3 4 5 6 a.m a.p
 ro:=fun a=>byteHp 7 a.body
 post:=fun a b=>FlAt (addF a.m a.body) b/\FlFr a.p b
 res:=fun a _=>.tup [.a (.int .i64 a.m.L.next),.a (.int .i64 0)]
 hp':=fun a b=>flHp 0 1 2 3 4 5 8 (addF a.m a.body) b
set_option maxHeartbeats 4000000 in
theorem bodyAdd:fnBody (Y Tryz.prog) [(59,cAppend),(61,cFirst),(60,Ix.cBelow)] 35 cAdd fun _=>[]:=fnBody.of (p :=
 ∀ a:AddA,FlAt a.m a.p/\FlOk a.m a.body.length/\1<=a.body.length/\a.body.length<=300->∃ a_2:AppA,0=0/\(0=0/\a.body.length=a_2.body.length/\a.cap=a_2.cap)/\0=0/\logQ a.m.L a_2.L a.p.y.lv a_2.y.lv (devQ a.m.d a_2.d (a.p.H=a_2.H/\(a_2.body.length<=a.body.length/\RowsEq a_2.body.length 1 (encRows encB a.body) (encRows encB a_2.body))/\(LogAt a_2.H a_2.y a_2.L/\LogOk a_2.L a_2.d/\1<=a_2.body.length/\a_2.body.length<=300)/\∀ b:BegB,(LogAt b.H b.y (appL a_2.L a_2.body)/\∀ x:Nat,a_2.H x≠none->¬x∈fpLog a_2.y->b.H x=a_2.H x/\¬x∈fpLog b.y)->∃ a_4:FstA,0=0/\0=0/\logQ (appL a_2.L a_2.body) a_4.L b.y.lv a_4.y.lv (b.H=a_4.H/\(LogAt a_4.H a_4.y a_4.L/\a_4.L.l.length<1000)/\∀ b_1:Unit,True->∃ a_6:Ix.LowA,0=0/\firstTo a_4.L.l a_4.L.next=a_6.pos/\idxQ a.p.x a_6.x a.p.cap a_6.cap ((Ix.Inv a_6.x/\a_6.x.n<10000/\Ix.belowN a_6.x.t a_6.pos a_6.x.t.length<=a_6.x.n)/\∀ b_2:Unit,True->∃ b_3:FlP,a_2.L.next=a.m.L.next/\(0:Int)=0/\b.H=b_3.H/\0=0/\0=0/\0=0/\logQ (appL a_2.L a_2.body) (addF a.m a.body).L b.y.lv b_3.y.lv (devQ (appD a_2.L a_2.d a_2.body) (addF a.m a.body).d (idxQ (Ix.belowI a_6.x a_6.pos) b_3.x a_6.cap b_3.cap ((FlAt (addF a.m a.body) b_3/\FlFr a.p b_3)/\True)))))))) (by kernel_rfl) (by
 rintro ⟨⟨L,d,l⟩,⟨H,y,x,xc⟩,body,cap⟩ ⟨hat,hok,hb1,hb2⟩;obtain ⟨hl,hx⟩:=hat;dsimp only at *;have hlen:(appL L body).l.length<=801:=appL_len hok.log hb2;have hn:=has_few hx;have hfew:=hok.few;dsimp only at hfew;obtain ⟨q1,q3,q2⟩:=Ix.below_has hx (firstF (appL L body));refine ⟨AppA.mk H y L d body cap,?_⟩
 (repeat' apply And.intro)<;>first|with_reducible (first|rfl|trivial|assumption)|omega|with_reducible (first|exact RowsEq.refl _ _ _|exact Nat.le_refl _)|(dsimp only [List.length_cons,List.length_nil]<;>omega)|exact hl|exact hok.log|skip
 rintro ⟨H1,y1⟩ ⟨p1,p2⟩;dsimp only at p1 p2 ⊢;refine ⟨FstA.mk H1 y1 (appL L body),?_⟩
 (repeat' apply And.intro)<;>first|with_reducible (first|rfl|trivial|assumption)|omega|with_reducible (first|exact RowsEq.refl _ _ _|exact Nat.le_refl _)|(dsimp only [List.length_cons,List.length_nil]<;>omega)|exact p1|(dsimp only;omega)|skip
 intro _ _;refine ⟨Ix.LowA.mk x xc (firstF (appL L body)),?_⟩;dsimp only
 (repeat' apply And.intro)<;>first|with_reducible (first|rfl|trivial|assumption)|omega|with_reducible (first|exact RowsEq.refl _ _ _|exact Nat.le_refl _)|(dsimp only [List.length_cons,List.length_nil]<;>omega)|exact hx.inv|rfl|(rw [hn];exact q2)|(rw [hn];omega)|skip
 intro _ _;refine ⟨⟨H1,y1,Ix.belowI x (firstF (appL L body)),xc⟩,?_⟩
 (repeat' apply And.intro)<;>first|with_reducible (first|rfl|trivial|assumption)|omega|with_reducible (first|exact RowsEq.refl _ _ _|exact Nat.le_refl _)|(dsimp only [List.length_cons,List.length_nil]<;>omega)|exact ⟨p1,q1⟩|exact p1|exact q1|exact p2|rfl|exact RowsEq.refl _ _ _|exact Nat.le_refl _|skip)
theorem callAdd:CallsBy (Y Tryz.prog).G.X 35 cAdd:=fn_ok okY (tab:=[(59,cAppend),(61,cFirst),(60,Ix.cBelow)]) ⟨callAppend,callFirst,Ix.callBelow,trivial⟩ bodyAdd
end Go.Proofs.YtfobhkibkdmglaaGreat

namespace Go.Proofs.YtfobhkibkdmglaaGreat
open Go.Sx
set_option maxRecDepth 100000
set_option linter.unusedVariables false
set_option linter.unusedSimpArgs false
def dropK (l:List (ByteArray × Int)) (k:ByteArray):List (ByteArray × Int):=l.filter fun e=>decide (e.1≠k)
def putK (l:List (ByteArray × Int)) (k:ByteArray) (p:Int):List (ByteArray × Int):=(k,p)::dropK l k
theorem has_nodup {x:Ix.IdxR} {l:List (ByteArray × Int)} (h:Ix.Has x l):(l.map Prod.fst).Nodup:=by
 refine ((h.perm.map Prod.fst).nodup_iff).1 ?_;unfold Ix.ents;rw [List.map_map];show List.Pairwise (·≠·) _;rw [List.pairwise_map,List.pairwise_filter,List.pairwise_iff_getElem];intro i j hi hj hij hp hq e;have:=h.inv.dist i j hi hj (by rw [gl_eq hi];exact hp) (by rw [gl_eq hj];exact hq) (by rw [gl_eq hi,gl_eq hj];exact e);omega
theorem dropK_no {l:List (ByteArray × Int)} {k:ByteArray} (h:k∉l.map Prod.fst):dropK l k=l:=by
 unfold dropK;rw [List.filter_eq_self];intro e he;simp only [decide_eq_true_eq];exact fun e'=>h (List.mem_map.2 ⟨e,he,e'⟩)
theorem perm_putK:∀ {l:List (ByteArray × Int)} {k:ByteArray} {q:Int},(l.map Prod.fst).Nodup->(k,q)∈l->l.Perm ((k,q)::dropK l k)
 | [],_,_,_,h=>by cases h
 | a::l,k,q,hn,h=>by
  rw [List.map_cons,List.nodup_cons] at hn;by_cases e:a.1=k
  ·have hk:k∉l.map Prod.fst:=by rw [<- e];exact hn.1
   have ha:a=(k,q):=by
    rcases List.mem_cons.1 h with h|h
    ·exact h.symm
    ·exact absurd (List.mem_map.2 ⟨_,h,rfl⟩) hk
   have:dropK (a::l) k=l:=by
    unfold dropK;rw [List.filter_cons,if_neg (by simp [e])];exact dropK_no hk
   rw [this,ha]
  ·have hm:(k,q)∈l:=by
    rcases List.mem_cons.1 h with h|h
    ·exact absurd (by rw [<- h]) e
    ·exact h
   have:dropK (a::l) k=a::dropK l k:=by
    unfold dropK;rw [List.filter_cons,if_pos (by simpa using e)]
   rw [this];exact (List.Perm.cons a (perm_putK hn.2 hm)).trans (List.Perm.swap _ _ _)
theorem has_put {x:Ix.IdxR} {l:List (ByteArray × Int)} {k:ByteArray} {p:Int} (h:Ix.Has x l) (hn:l.length<9999) (hk:k.size<=lenMax):Ix.Has (Ix.putX x k p) (putK l k p):=by
 have hx:=h.n;by_cases hm:k∈l.map Prod.fst
 ·obtain ⟨⟨k',q⟩,h1,h2⟩:=List.mem_map.1 hm;dsimp only at h2;subst h2;exact (Ix.putX_there (h.of_perm (perm_putK (has_nodup h) h1)) (by omega)).1
 ·have:=(Ix.putX_new (p:=p) h (by omega) hm hk).1;unfold putK;rw [dropK_no hm];exact this
theorem has_drop {x:Ix.IdxR} {l:List (ByteArray × Int)} {k:ByteArray} (h:Ix.Has x l):Ix.Has (Ix.dropI x k) (dropK l k)/\(0<=(Ix.findP x.t k).1->1<=x.n):=by
 have hx:=h.n;by_cases hm:k∈l.map Prod.fst
 ·obtain ⟨⟨k',q⟩,h1,h2⟩:=List.mem_map.1 hm;dsimp only at h2;subst h2;refine ⟨(Ix.drop_there (h.of_perm (perm_putK (has_nodup h) h1))).1,fun _=>?_⟩;have:=List.length_pos_of_mem h1;omega
 ·rw [dropK_no hm];obtain ⟨e1,e2⟩:=h.none_find hm;exact ⟨by rw [Ix.drop_none h hm];exact h,fun e=>by omega⟩
theorem putK_len (l:List (ByteArray × Int)) (k:ByteArray) (p:Int):(putK l k p).length<=l.length+1:=by
 simp only [putK,dropK,List.length_cons];have:=List.length_filter_le (fun e:ByteArray × Int=>decide (e.1≠k)) l;omega
theorem dropK_len (l:List (ByteArray × Int)) (k:ByteArray):(dropK l k).length<=l.length:=List.length_filter_le _ _
def putOk (x:ItemM):Bool:=mayB x&&!x.gone
def putF (m:FlM) (x:ItemM):FlM:=if putOk x then { addF m (bodyOf (some x)) with l:=putK (addF m (bodyOf (some x))).l x.key m.L.next } else m
structure FPutA where
 m:FlM
 p:FlP
 x:ItemM
noncomputable def cFPut:Con where
 α:=FPutA
 β:=FlP
 m:=7
 m':=9
 pre:=fun a=>FlAt a.m a.p/\(putOk a.x=true->FlOk a.m (bodyOf (some a.x)).length)
 args:=fun a=>[.a (.ptr 0 0 0 0),.agg (itemA a.x)]
 hp:=fun a=>flHp 0 1 2 3 4 5 6 a.m a.p
 ro:=fun _=>[]
 post:=fun a b=>FlAt (putF a.m a.x) b/\FlFr a.p b
 res:=fun a b=>.a (.int .i64 (if putOk a.x then 0 else 1))
 hp':=fun a b=>flHp 0 1 2 3 4 7 8 (putF a.m a.x) b
set_option maxHeartbeats 4000000 in
theorem bodyFPut:fnBody (Y Tryz.prog) [(34,cMay),(36,cEnc),(35,cAdd),(33,Ix.cPut)] 12 cFPut fun _=>[]:=fnBody.of (p :=
 ∀ a:FPutA,FlAt a.m a.p/\(putOk a.x=true->FlOk a.m (bodyOf (some a.x)).length)->∃ a_2:ItemM,a.x.key=a_2.key/\a.x.val=a_2.val/\a.x.e=a_2.e/\a.x.gone=a_2.gone/\True/\∀ b:Unit,True->((!mayB a_2)=true->∃ b:FlP,((1:Int)=if putOk a.x=true then (0:Int) else (1:Int))/\a.p.H=b.H/\0=0/\0=0/\0=0/\logQ a.m.L (putF a.m a.x).L a.p.y.lv b.y.lv (devQ a.m.d (putF a.m a.x).d (idxQ a.p.x b.x a.p.cap b.cap ((FlAt (putF a.m a.x) b/\FlFr a.p b)/\True))))/\((!mayB a_2)=false->(a.x.gone=true->∃ b:FlP,((1:Int)=if putOk a.x=true then (0:Int) else (1:Int))/\a.p.H=b.H/\0=0/\0=0/\0=0/\logQ a.m.L (putF a.m a.x).L a.p.y.lv b.y.lv (devQ a.m.d (putF a.m a.x).d (idxQ a.p.x b.x a.p.cap b.cap ((FlAt (putF a.m a.x) b/\FlFr a.p b)/\True))))/\(a.x.gone=false->∃ a_6:EncA,(0=0/\1=a_6.xs.length/\1=a_6.cap)/\(a_6.xs.length<=1/\RowsEq a_6.xs.length 4 (flatRows 4 [Value.string a.x.key,Value.string a.x.val,Value.int IntKind.i64 a.x.e,Value.bool a.x.gone]) (encRows encItem a_6.xs))/\(1<=a_6.xs.length/\a_6.xs.length<20/\∀ i:Nat,i<a_6.xs.length->mayB (gl a_6.xs i)=true)/\∀ b:Nat,True->1<=1/\0+(itemsB a_6.xs).length<=(itemsB a_6.xs).length/\(1+(itemsB a_6.xs).length)*1<=140737488355328/\∀ cap:Nat,1+(itemsB a_6.xs).length<=cap->cap<=lenMax->(1+(itemsB a_6.xs).length<=1->cap=1)->∃ a_11:AddA,0=0/\(0=0/\1+(itemsB a_6.xs).length=a_11.body.length/\cap=a_11.cap) /\
 0=0/\0=0/\0=0/\logQ a.m.L a_11.m.L a.p.y.lv a_11.p.y.lv (devQ a.m.d a_11.m.d (idxQ a.p.x a_11.p.x a.p.cap a_11.p.cap (a.p.H=a_11.p.H/\(a_11.body.length<=1+(itemsB a_6.xs).length/\RowsEq a_11.body.length 1 (appRows (flatRows 1 [Value.int IntKind.u8 (1:Int)]) 0 1 fun (i j:Nat)=>encRows encB (itemsB a_6.xs) (0+i) j) (encRows encB a_11.body))/\(FlAt a_11.m a_11.p/\FlOk a_11.m a_11.body.length/\1<=a_11.body.length/\a_11.body.length<=300)/\∀ b:FlP,FlAt (addF a_11.m a_11.body) b/\FlFr a_11.p b->(true=true->∃ a_14:Ix.PutA,0=0/\a.x.key=a_14.key/\a_11.m.L.next=a_14.pos/\idxQ b.x a_14.x b.cap a_14.cap ((Ix.Inv a_14.x/\a_14.x.n<9999/\a_14.key.size<=lenMax)/\∀ b_1:Nat,True->∃ b_2:FlP,((0:Int)=if putOk a.x=true then (0:Int) else (1:Int))/\b.H=b_2.H/\0=0/\0=0/\0=0/\logQ (addF a_11.m a_11.body).L (putF a.m a.x).L b.y.lv b_2.y.lv (devQ (addF a_11.m a_11.body).d (putF a.m a.x).d (idxQ (Ix.putX a_14.x a_14.key a_14.pos) b_2.x b_1 b_2.cap ((FlAt (putF a.m a.x) b_2/\FlFr a.p b_2)/\True)))))/\(true=false->∃ b_1:FlP,((0:Int)=if putOk a.x=true then (0:Int) else (1:Int))/\b.H=b_1.H/\0=0/\0=0/\0=0/\logQ (addF a_11.m a_11.body).L (putF a.m a.x).L b.y.lv b_1.y.lv (devQ (addF a_11.m a_11.body).d (putF a.m a.x).d (idxQ b.x b_1.x b.cap b_1.cap ((FlAt (putF a.m a.x) b_1/\FlFr a.p b_1)/\True)))))))))) (by kernel_rfl) (by
 rintro ⟨⟨L,d,l⟩,⟨H,y,x,xc⟩,it⟩ ⟨hat,hok⟩;dsimp only at *;have same:putOk it=false->putF ⟨L,d,l⟩ it=⟨L,d,l⟩:=fun e=>if_neg (by rw [e];decide);refine ⟨it,rfl,rfl,rfl,rfl,trivial,fun _ _=>⟨fun c1=>⟨⟨H,y,x,xc⟩,?_⟩,fun c1=>⟨fun c2=>⟨⟨H,y,x,xc⟩,?_⟩,fun c2=>?_⟩⟩⟩
 ·have hn:putOk it=false:=by simp only [putOk];rw [show mayB it=false by simpa using c1];rfl
  rw [same hn,hn]
  (repeat' apply And.intro)<;>first|with_reducible (first|rfl|trivial|assumption)|omega|with_reducible (first|exact RowsEq.refl _ _ _|exact Nat.le_refl _)|(dsimp only [List.length_cons,List.length_nil]<;>omega)|rfl|exact RowsEq.refl _ _ _|exact Nat.le_refl _|exact hat|exact hat.log|exact hat.idx|exact fun z _ hn=>⟨rfl,hn⟩
 ·have hn:putOk it=false:=by simp only [putOk];rw [c2];simp
  rw [same hn,hn]
  (repeat' apply And.intro)<;>first|with_reducible (first|rfl|trivial|assumption)|omega|with_reducible (first|exact RowsEq.refl _ _ _|exact Nat.le_refl _)|(dsimp only [List.length_cons,List.length_nil]<;>omega)|rfl|exact RowsEq.refl _ _ _|exact Nat.le_refl _|exact hat|exact hat.log|exact hat.idx|exact fun z _ hn=>⟨rfl,hn⟩
 ·have hm:mayB it=true:=by simpa using c1
  have hy:putOk it=true:=by simp only [putOk];rw [c2,hm];rfl
  have hok:=hok hy;have hF:putF ⟨L,d,l⟩ it={ addF ⟨L,d,l⟩ (bodyOf (some it)) with l:=putK (addF ⟨L,d,l⟩ (bodyOf (some it))).l it.key L.next }:=if_pos hy;rw [hF,hy];obtain ⟨hb1,hb2⟩:=bodyOf_len (o:=some it) (fun x e=>by cases e;exact hm);have hI:itemsB [it]=itemB it:=by simp [itemsB]
  have hB:(bodyOf (some it)).length=1+(itemB it).length:=by simp only [bodyOf,List.length_cons];omega
  have hr1:RowsEq 1 4 (flatRows 4 [Value.string it.key,Value.string it.val,Value.int .i64 it.e,Value.bool it.gone]) (encRows encItem [it]):=.of_cells fun i hi=>by
   have:i=0:=by omega
   subst this;rfl
  have hm1:∀ i,i < [it].length->mayB (gl [it] i)=true:=fun i hi=>by
   have:i=0:=by simp at hi;omega
   subst this;exact hm
  refine ⟨EncA.mk [it] 1,?_⟩
  (repeat' apply And.intro)<;>first|with_reducible (first|rfl|trivial|assumption)|omega|with_reducible (first|exact RowsEq.refl _ _ _|exact Nat.le_refl _)|(dsimp only [List.length_cons,List.length_nil]<;>omega)|exact hr1|exact hm1|exact Nat.le_refl _|decide|skip
  intro c _;rw [hI]
  repeat (first|refine And.intro (by omega) ?_|refine And.intro (by dsimp only;omega) ?_|refine And.intro (by simp only [InR];omega) ?_)
  intro cap q1 q2 q3;refine ⟨AddA.mk ⟨L,d,l⟩ ⟨H,y,x,xc⟩ (bodyOf (some it)) cap,?_⟩;have hr2:RowsEq (bodyOf (some it)).length 1 (appRows (flatRows 1 [Value.int .u8 1]) 0 1 fun (i j:Nat)=>encRows encB (itemB it) (0+i) j) (encRows encB (bodyOf (some it))):=⟨fun i hi j hj=>by
   have hj0:j=0:=by omega
   subst hj0;simp only [appRows,Nat.zero_add];by_cases h0:i<1
   ·have:i=0:=by omega
    subst this;rfl
   ·rw [if_neg h0];obtain ⟨q,rfl⟩:∃ q,i=q+1:=⟨i - 1,by omega⟩
    simp only [encRows,bodyOf,Nat.add_sub_cancel];congr 2⟩
  (repeat' apply And.intro)<;>first|with_reducible (first|rfl|trivial|assumption)|omega|with_reducible (first|exact RowsEq.refl _ _ _|exact Nat.le_refl _)|(dsimp only [List.length_cons,List.length_nil]<;>omega)|rfl|exact RowsEq.refl _ _ _|exact Nat.le_refl _|exact hr2|exact hat|exact hat.log|exact hat.idx|exact hok.log|exact hok.few|(dsimp only;omega)|skip
  rintro ⟨H1,y1,x1,xc1⟩ ⟨⟨g1,g2⟩,hfr⟩;dsimp only at g1 g2 hfr ⊢;refine ⟨fun _=>⟨Ix.PutA.mk x1 xc1 it.key L.next,?_⟩,fun c=>absurd c (by decide)⟩;have hn:=has_few g2;have hln:(addF ⟨L,d,l⟩ (bodyOf (some it))).l.length<=l.length:=List.length_filter_le _ _;have hfew:=hok.few;dsimp only at hfew;have hks:it.key.size<=lenMax:=by have:=may_out hm;simp only [lenMax];omega
  (repeat' apply And.intro)<;>first|with_reducible (first|rfl|trivial|assumption)|omega|with_reducible (first|exact RowsEq.refl _ _ _|exact Nat.le_refl _)|(dsimp only [List.length_cons,List.length_nil]<;>omega)|rfl|exact RowsEq.refl _ _ _|exact Nat.le_refl _|exact g2.inv|exact hks|(dsimp only;omega)|skip
  intro c2' _;refine ⟨⟨H1,y1,Ix.putX x1 it.key L.next,c2'⟩,?_⟩;have hp:=has_put (p:=L.next) g2 (by omega) hks
  (repeat' apply And.intro)<;>first|with_reducible (first|rfl|trivial|assumption)|omega|with_reducible (first|exact RowsEq.refl _ _ _|exact Nat.le_refl _)|(dsimp only [List.length_cons,List.length_nil]<;>omega)|rfl|exact RowsEq.refl _ _ _|exact Nat.le_refl _|exact g1|exact hp|exact hfr|exact ⟨g1,hp⟩)
theorem callFPut:CallsBy (Y Tryz.prog).G.X 12 cFPut:=fn_ok okY (tab:=[(34,cMay),(36,cEnc),(35,cAdd),(33,Ix.cPut)]) ⟨callMay,callEnc,callAdd,Ix.callPut,trivial⟩ bodyFPut
def EntIs (m:FlM) (key:ByteArray):Option ItemM->Prop
 | some x=>∃ p,(key,p)∈m.l/\readTo m.L.l p=some (bodyOf (some x))/\mayB x=true
 | none=>key∉m.l.map Prod.fst\/∃ p,(key,p)∈m.l/\(readTo m.L.l p=none\/readTo m.L.l p=some (bodyOf none))
structure FlRd (m:FlM):Prop where
 few:m.L.l.length<1000
 seg:∀ i,i<m.L.l.length->SortedR (gl m.L.l i).recs/\(gl m.L.l i).recs.length<=400/\∀ k,k<(gl m.L.l i).recs.length->1<=(gl (gl m.L.l i).recs k).body.length/\(gl (gl m.L.l i).recs k).body.length<=1000
 pos:∀ e∈m.l,0<=e.2/\e.2<1000000000000
structure FEntA where
 m:FlM
 p:FlP
 key:ByteArray
 r:Option ItemM
noncomputable def cFEnt:Con where
 α:=FEntA
 β:=Unit
 m:=7
 m':=7
 pre:=fun a=>FlAt a.m a.p/\FlRd a.m/\EntIs a.m a.key a.r/\a.key.size<=lenMax
 args:=fun a=>[.a (.ptr 0 0 0 0),.a (.str a.key)]
 hp:=fun _=>[]
 ro:=fun a=>flHp 0 1 2 3 4 5 6 a.m a.p
 post:=fun _ _=>True
 res:=fun a _=>.tup [.agg (itemA (a.r.getD zeroItem)),.a (.bool a.r.isSome)]
 hp':=fun _ _=>[]
set_option maxHeartbeats 4000000 in
theorem bodyFEnt:fnBody (Y Tryz.prog) [(67,Ix.cGet),(68,cLRead),(31,cFRead)] 47 cFEnt fun _=>[]:=fnBody.of (p :=
 ∀ a:FEntA,FlAt a.m a.p/\FlRd a.m/\EntIs a.m a.key a.r/\a.key.size<=lenMax->∃ a_2:Ix.KeyA,0=0/\a.key=a_2.key/\idxQ a.p.x a_2.x a.p.cap a_2.cap ((Ix.Inv a_2.x/\a_2.key.size<=lenMax)/\∀ b:Unit,True->((!(Ix.getI a_2.x a_2.key).snd)=true->∃ b:Unit,(ByteArray.mk #[])=(a.r.getD zeroItem).key/\(ByteArray.mk #[])=(a.r.getD zeroItem).val/\(0:Int)=(a.r.getD zeroItem).e/\false=(a.r.getD zeroItem).gone/\false=a.r.isSome/\True/\True)/\((!(Ix.getI a_2.x a_2.key).snd)=false->∃ a_5:LRdA,0=0/\(Ix.getI a_2.x a_2.key).fst=a_5.p/\0=0/\logQ a.m.L a_5.L a.p.y.lv a_5.y.lv (a.p.H=a_5.H/\(LogAt a_5.H a_5.y a_5.L/\a_5.L.l.length<1000/\(0:Int)<=a_5.p/\a_5.p<(1000000000000:Int)/\∀ i:Nat,i<a_5.L.l.length->SortedR (gl a_5.L.l i).recs/\(gl a_5.L.l i).recs.length<=400/\∀ k:Nat,k<(gl a_5.L.l i).recs.length->1<=(gl (gl a_5.L.l i).recs k).body.length/\(gl (gl a_5.L.l i).recs k).body.length<=1000)/\∀ b:Nat,((readTo a_5.L.l a_5.p).getD []).length<=b->((errOf (readTo a_5.L.l a_5.p) != (0:Int))=true->∃ b:Unit,(ByteArray.mk #[])=(a.r.getD zeroItem).key/\(ByteArray.mk #[])=(a.r.getD zeroItem).val/\(0:Int)=(a.r.getD zeroItem).e/\false=(a.r.getD zeroItem).gone/\false=a.r.isSome/\True/\True)/\((errOf (readTo a_5.L.l a_5.p) != (0:Int))=false->∃ a_8:FReadA,(0=0/\((readTo a_5.L.l a_5.p).getD []).length=(bodyOf a_8.o).length/\b=a_8.cap)/\((bodyOf a_8.o).length<=((readTo a_5.L.l a_5.p).getD []).length /\
 RowsEq (bodyOf a_8.o).length 1 (encRows encB ((readTo a_5.L.l a_5.p).getD [])) (encRows encB (bodyOf a_8.o)))/\((∀ x:ItemM,a_8.o=some x->mayB x=true)/\(bodyOf a_8.o).length<=a_8.cap)/\∀ b:Unit,True->∃ b:Unit,(a_8.o.getD zeroItem).key=(a.r.getD zeroItem).key/\(a_8.o.getD zeroItem).val=(a.r.getD zeroItem).val/\(a_8.o.getD zeroItem).e=(a.r.getD zeroItem).e/\(a_8.o.getD zeroItem).gone=(a.r.getD zeroItem).gone/\a_8.o.isSome=a.r.isSome/\True/\True))))) (by kernel_rfl) (by
 rintro ⟨⟨L,d,l⟩,⟨H,y,x,xc⟩,key,r⟩ ⟨⟨hl,hx⟩,hrd,hr,hks⟩;dsimp only at *;refine ⟨Ix.KeyA.mk x xc key,?_⟩
 (repeat' apply And.intro)<;>first|with_reducible (first|rfl|trivial|assumption)|omega|with_reducible (first|exact RowsEq.refl _ _ _|exact Nat.le_refl _)|(dsimp only [List.length_cons,List.length_nil]<;>omega)|rfl|exact RowsEq.refl _ _ _|exact Nat.le_refl _|exact hx.inv|exact hks|skip
 intro _ _;dsimp only;have hcase:(r=none/\Ix.getI x key=(0,false))\/∃ p,(key,p)∈l/\Ix.getI x key=(p,true)/\((r=none/\(readTo L.l p=none\/readTo L.l p=some (bodyOf none)))\/∃ it,r=some it/\readTo L.l p=some (bodyOf (some it))/\mayB it=true):=by
  cases r with
  | none =>
   rcases hr with hr | ⟨p,h1,h2⟩
   ·exact .inl ⟨rfl,Ix.get_none hx hr⟩
   ·exact .inr ⟨p,h1,Ix.get_there hx h1,.inl ⟨rfl,h2⟩⟩
  | some it =>
   obtain ⟨p,h1,h2,h3⟩:=hr;exact .inr ⟨p,h1,Ix.get_there hx h1,.inr ⟨it,rfl,h2,h3⟩⟩
 rcases hcase with ⟨rfl,hg⟩ | ⟨p,hm,hg,hc⟩
 ·rw [hg];refine ⟨fun _=>⟨(),?_⟩,fun c=>absurd c (by decide)⟩
  (repeat' apply And.intro)<;>first|with_reducible (first|rfl|trivial|assumption)|omega|with_reducible (first|exact RowsEq.refl _ _ _|exact Nat.le_refl _)|(dsimp only [List.length_cons,List.length_nil]<;>omega)|rfl|exact RowsEq.refl _ _ _|exact Nat.le_refl _
 ·rw [hg];refine ⟨fun c=>absurd c (show ¬ ((!true)=true) by decide),fun _=>⟨LRdA.mk H y L p,?_⟩⟩;obtain ⟨hp1,hp2⟩:=hrd.pos _ hm
  (repeat' apply And.intro)<;>first|with_reducible (first|rfl|trivial|assumption)|omega|with_reducible (first|exact RowsEq.refl _ _ _|exact Nat.le_refl _)|(dsimp only [List.length_cons,List.length_nil]<;>omega)|rfl|exact RowsEq.refl _ _ _|exact Nat.le_refl _|exact hl|exact hrd.few|exact hp1|exact hp2|exact hrd.seg|skip
  intro c hcap;dsimp only at hcap ⊢;rcases hc with ⟨rfl,hn|hn⟩ | ⟨it,rfl,hn,hmay⟩
  ·rw [hn];refine ⟨fun _=>⟨(),?_⟩,fun c=>absurd c (by decide)⟩
   (repeat' apply And.intro)<;>first|with_reducible (first|rfl|trivial|assumption)|omega|with_reducible (first|exact RowsEq.refl _ _ _|exact Nat.le_refl _)|(dsimp only [List.length_cons,List.length_nil]<;>omega)|rfl|exact RowsEq.refl _ _ _|exact Nat.le_refl _
  ·rw [hn] at hcap ⊢;refine ⟨fun c=>absurd c (by decide),fun _=>⟨FReadA.mk none c,?_⟩⟩;have hcap:(bodyOf none).length<=c:=hcap;have hno:∀ z:ItemM,(none:Option ItemM)=some z->mayB z=true:=fun z e=>by cases e
   (repeat' (first|apply And.intro|(intro _)|apply Exists.intro ()))<;>first|with_reducible (first|rfl|trivial|assumption)|omega|with_reducible (first|exact RowsEq.refl _ _ _|exact Nat.le_refl _)|(dsimp only [List.length_cons,List.length_nil]<;>omega)|rfl|exact RowsEq.refl _ _ _|exact Nat.le_refl _|exact hcap|exact hno _ (by assumption)
  ·rw [hn] at hcap ⊢;refine ⟨fun c=>absurd c (show ¬ ((errOf (some (bodyOf (some it))) != 0)=true) by simp [errOf]),fun _=>⟨FReadA.mk (some it) c,?_⟩⟩;have hcap:(bodyOf (some it)).length<=c:=hcap;have hno:∀ z:ItemM,some it=some z->mayB z=true:=fun z e=>by cases e;exact hmay
   (repeat' (first|apply And.intro|(intro _)|apply Exists.intro ()))<;>first|with_reducible (first|rfl|trivial|assumption)|omega|with_reducible (first|exact RowsEq.refl _ _ _|exact Nat.le_refl _)|(dsimp only [List.length_cons,List.length_nil]<;>omega)|rfl|exact RowsEq.refl _ _ _|exact Nat.le_refl _|exact hcap|exact hno _ (by assumption))
theorem callFEnt:CallsBy (Y Tryz.prog).G.X 47 cFEnt:=fn_ok okY (tab:=[(67,Ix.cGet),(68,cLRead),(31,cFRead)]) ⟨Ix.callGet,callLRead,callFRead,trivial⟩ bodyFEnt
def getR (r:Option ItemM) (now:Int):Option ItemM:=r.bind fun x=>if liveB x now then some x else none
structure FGetA where
 m:FlM
 p:FlP
 key:ByteArray
 now:Int
 r:Option ItemM
noncomputable def cFGet:Con where
 α:=FGetA
 β:=Unit
 m:=7
 m':=7
 pre:=fun a=>FlAt a.m a.p/\FlRd a.m/\EntIs a.m a.key a.r/\a.key.size<=lenMax
 args:=fun a=>[.a (.ptr 0 0 0 0),.a (.str a.key),.a (.int .i64 a.now)]
 hp:=fun _=>[]
 ro:=fun a=>flHp 0 1 2 3 4 5 6 a.m a.p
 post:=fun _ _=>True
 res:=fun a _=>.tup [.agg (itemA ((getR a.r a.now).getD zeroItem)),.a (.bool (getR a.r a.now).isSome)]
 hp':=fun _ _=>[]
set_option maxHeartbeats 4000000 in
theorem bodyFGet:fnBody (Y Tryz.prog) [(47,cFEnt),(48,cLive)] 26 cFGet fun _=>[]:=fnBody.of (p :=
 ∀ a:FGetA,FlAt a.m a.p/\FlRd a.m/\EntIs a.m a.key a.r/\a.key.size<=lenMax->∃ a_2:FEntA,0=0/\a.key=a_2.key/\0=0/\0=0/\0=0/\logQ a.m.L a_2.m.L a.p.y.lv a_2.p.y.lv (devQ a.m.d a_2.m.d (idxQ a.p.x a_2.p.x a.p.cap a_2.p.cap (a.p.H=a_2.p.H/\(FlAt a_2.m a_2.p/\FlRd a_2.m/\EntIs a_2.m a_2.key a_2.r/\a_2.key.size<=lenMax)/\∀ b:Unit,True->((!a_2.r.isSome)=true->∃ b:Unit,(ByteArray.mk #[])=((getR a.r a.now).getD zeroItem).key/\(ByteArray.mk #[])=((getR a.r a.now).getD zeroItem).val/\(0:Int)=((getR a.r a.now).getD zeroItem).e/\false=((getR a.r a.now).getD zeroItem).gone/\false=(getR a.r a.now).isSome/\True/\True)/\((!a_2.r.isSome)=false->∃ a_5:LiveA,(a_2.r.getD zeroItem).key=a_5.x.key/\(a_2.r.getD zeroItem).val=a_5.x.val/\(a_2.r.getD zeroItem).e=a_5.x.e/\(a_2.r.getD zeroItem).gone=a_5.x.gone/\a.now=a_5.now/\True/\∀ b:Unit,True->((!liveB a_5.x a_5.now)=true->∃ b:Unit,(ByteArray.mk #[])=((getR a.r a.now).getD zeroItem).key/\(ByteArray.mk #[])=((getR a.r a.now).getD zeroItem).val/\(0:Int)=((getR a.r a.now).getD zeroItem).e/\false=((getR a.r a.now).getD zeroItem).gone/\false=(getR a.r a.now).isSome/\True/\True)/\((!liveB a_5.x a_5.now)=false->∃ b:Unit,(a_2.r.getD zeroItem).key=((getR a.r a.now).getD zeroItem).key/\(a_2.r.getD zeroItem).val=((getR a.r a.now).getD zeroItem).val/\(a_2.r.getD zeroItem).e=((getR a.r a.now).getD zeroItem).e/\(a_2.r.getD zeroItem).gone=((getR a.r a.now).getD zeroItem).gone /\
 true=(getR a.r a.now).isSome/\True/\True)))))) (by kernel_rfl) (by
 rintro ⟨⟨L,d,l⟩,⟨H,y,x,xc⟩,key,now,r⟩ ⟨hat,hrd,hr,hks⟩;dsimp only at *;refine ⟨FEntA.mk ⟨L,d,l⟩ ⟨H,y,x,xc⟩ key r,?_⟩
 (repeat' apply And.intro)<;>first|with_reducible (first|rfl|trivial|assumption)|omega|with_reducible (first|exact RowsEq.refl _ _ _|exact Nat.le_refl _)|(dsimp only [List.length_cons,List.length_nil]<;>omega)|rfl|exact RowsEq.refl _ _ _|exact Nat.le_refl _|exact hat|exact hrd|exact hr|exact hks|skip
 intro _ _;dsimp only;cases r with
 | none =>
  refine ⟨fun _=>⟨(),?_⟩,fun c=>absurd c (by decide)⟩
  (repeat' apply And.intro)<;>first|with_reducible (first|rfl|trivial|assumption)|omega|with_reducible (first|exact RowsEq.refl _ _ _|exact Nat.le_refl _)|(dsimp only [List.length_cons,List.length_nil]<;>omega)|rfl|exact RowsEq.refl _ _ _|exact Nat.le_refl _
 | some it =>
  refine ⟨fun c=>absurd c (show ¬ ((!true)=true) by decide),fun _=>⟨LiveA.mk it now,rfl,rfl,rfl,rfl,rfl,trivial,fun _ _=>⟨fun c=>⟨(),?_⟩,fun c=>⟨(),?_⟩⟩⟩⟩
  ·have:getR (some it) now=none:=by
    have:liveB it now=false:=by simpa using c
    simp [getR,this]
   rw [this]
   (repeat' apply And.intro)<;>first|with_reducible (first|rfl|trivial|assumption)|omega|with_reducible (first|exact RowsEq.refl _ _ _|exact Nat.le_refl _)|(dsimp only [List.length_cons,List.length_nil]<;>omega)|rfl|exact RowsEq.refl _ _ _|exact Nat.le_refl _
  ·have:getR (some it) now=some it:=by
    have:liveB it now=true:=by simpa using c
    simp [getR,this]
   rw [this]
   (repeat' apply And.intro)<;>first|with_reducible (first|rfl|trivial|assumption)|omega|with_reducible (first|exact RowsEq.refl _ _ _|exact Nat.le_refl _)|(dsimp only [List.length_cons,List.length_nil]<;>omega)|rfl|exact RowsEq.refl _ _ _|exact Nat.le_refl _)
theorem callFGet:CallsBy (Y Tryz.prog).G.X 26 cFGet:=fn_ok okY (tab:=[(47,cFEnt),(48,cLive)]) ⟨callFEnt,callLive,trivial⟩ bodyFGet
end Go.Proofs.YtfobhkibkdmglaaGreat

namespace Go.Proofs.YtfobhkibkdmglaaGreat
open Go.Sx
set_option maxRecDepth 100000
set_option linter.unusedVariables false
set_option linter.unusedSimpArgs false
def S.fl (s:S) (c:Nat) (m:FlM) (p:FlP):S :=
 (fun (s3:S)=>(s3.put (s3.hp.del (plTag s3))).new (.pool p.H))
 ((fun (s1:S)=>((s1.put (s1.hp.del (s.in_ (s.in_ c 1) 0))).new (.arr 118 Ix.ksP p.x.t.length (encRows Ix.encP p.x.t))).at_ (s.in_ c 1) (.obj 111 [.slc s.nx 0 4 p.x.t.length p.cap,.int .i64 p.x.n,.int .i64 p.x.used]))
  (((s.at_ (s.in_ c 0) (logObj (s.in_ (s.in_ c 0) 0) m.L p.y.lv)).at_ (s.in_ (s.in_ c 0) 0) (.obj 81 [.slc (s.in_ (s.in_ (s.in_ c 0) 0) 0) 0 129 m.d.n m.d.n,.int .i64 m.d.calls])).at_ (s.in_ (s.in_ (s.in_ c 0) 0) 0) (.arr 93 ksSec m.d.n (rowsD m.d))))
def itemD (k:ByteArray):ItemM:=⟨k,.mk #[],0,true⟩
theorem itemD_may {k:ByteArray} (h:keyB k=true):mayB (itemD k)=true:=by
 simp only [mayB,itemD];rw [h];rfl
def dropF (m:FlM) (k:ByteArray):FlM:={ addF m (bodyOf (some (itemD k))) with l:=dropK (addF m (bodyOf (some (itemD k)))).l k }
def dropTo (m:FlM) (ks:List ByteArray):Nat->FlM
 | 0=>m
 | i+1=>dropF (dropTo m ks i) (gl ks i)
def allK (ks:List ByteArray):Bool:=ks.all keyB
def flushF (m:FlM):FlM:={ m with d:=devFl m.d }
def dropsF (m:FlM) (ks:List ByteArray):FlM:=if allK ks then flushF (dropTo m ks ks.length) else m
structure FDropA where
 m:FlM
 p:FlP
 ks:List ByteArray
 cap:Nat
noncomputable def cFDrop:Con where
 α:=FDropA
 β:=FlP
 m:=8
 m':=10
 pre:=fun a=>FlAt a.m a.p/\a.ks.length<1000/\(allK a.ks=true->(∀ i,i<a.ks.length->FlOk (dropTo a.m a.ks i) (bodyOf (some (itemD (gl a.ks i)))).length)/\(dropTo a.m a.ks a.ks.length).d.n<100000/\(dropTo a.m a.ks a.ks.length).d.calls<1000000000000)
 args:=fun a=>[.a (.ptr 0 0 0 0),.a (.slc 7 0 1 a.ks.length a.cap)]
 hp:=fun a=>flHp 0 1 2 3 4 5 6 a.m a.p
 ro:=fun a=>[(7,.arr 9 [.str] a.ks.length (encRows encT a.ks))]
 post:=fun a b=>FlAt (dropsF a.m a.ks) b/\FlFr a.p b
 res:=fun a b=>.a (.int .i64 (if allK a.ks then 0 else 1))
 hp':=fun a b=>flHp 0 1 2 3 4 8 9 (dropsF a.m a.ks) b
structure FDropS where
 i:Nat
 p:FlP
def iFDrop1 (a:FDropA):An:=.flat 4 Nat (fun s i=>s.int 15 i) (fun _ i=>i<=a.ks.length/\∀ j,j<i->keyB (gl a.ks j)=true) (fun _ i=>a.ks.length - i)
def iFDrop2 (a:FDropA):An:=.flat 10 FDropS (fun s x=>(S.fl s (s.tg 0) (dropTo a.m a.ks x.i) x.p).int 25 x.i) (fun _ x=>x.i<=a.ks.length/\allK a.ks=true/\FlAt (dropTo a.m a.ks x.i) x.p/\FlFr a.p x.p) (fun _ x=>a.ks.length - x.i)
def iFDropC (a:FDropA):An:=.mk 9 Unit (fun s _=>s) (fun _ _=>allK a.ks=true) (fun _ _=>0) fun _=>.mk 1000 [iFDrop2 a] []
noncomputable def tabFDrop:List (Nat × Con):=[(38,cKey),(36,cEnc),(35,cAdd),(32,Ix.cDrop),(64,cDevFlush)]
set_option maxHeartbeats 4000000 in
theorem bodyFDrop:fnBody (Y Tryz.prog) tabFDrop 15 cFDrop fun a=>[(15,[iFDrop1 a],[iFDropC a])]:=fnBody.of (p :=
 ∀ a:FDropA,FlAt a.m a.p/\a.ks.length<1000/\(allK a.ks=true->(∀ i:Nat,i<a.ks.length->FlOk (dropTo a.m a.ks i) (bodyOf (some (itemD (gl a.ks i)))).length)/\(dropTo a.m a.ks a.ks.length).d.n<100000/\(dropTo a.m a.ks a.ks.length).d.calls<1000000000000)->((∃ a_2:Nat,0=(↑a_2:Int)/\(↑a.ks.length:Int)=(↑a.ks.length:Int)/\(0=0/\a.ks.length=a.ks.length/\a.cap=a.cap)/\false=false/\(0:Int)=0/\0=0/\(0=0/\a.ks.length=a.ks.length/\a.cap=a.cap)/\0=0/\0=0/\0=0/\logQ a.m.L a.m.L a.p.y.lv a.p.y.lv (devQ a.m.d a.m.d (idxQ a.p.x a.p.x a.p.cap a.p.cap (a.p.H=a.p.H/\(a.ks.length<=a.ks.length/\RowsEq a.ks.length 1 (encRows encT a.ks) (encRows encT a.ks))/\(a_2<=a.ks.length/\∀ j:Nat,j<a_2->keyB (gl a.ks j)=true)/\True))))/\∀ a_2:Nat,(a_2<=a.ks.length/\∀ j:Nat,j<a_2->keyB (gl a.ks j)=true)->(decide ((↑a_2:Int)<(↑a.ks.length:Int))=true->(0<=(↑a_2:Int)/\(↑a_2:Int)<(↑a.ks.length:Int))/\0+(↑a_2:Int).toNat<a.ks.length/\∃ a_5:ByteArray,gl a.ks (0+(↑a_2:Int).toNat)=a_5/\True/\∀ b:Unit,True->((!keyB a_5)=true->∃ b:FlP,((1:Int)=if allK a.ks=true then (0:Int) else (1:Int))/\a.p.H=b.H/\0=0/\0=0/\0=0/\logQ a.m.L (dropsF a.m a.ks).L a.p.y.lv b.y.lv (devQ a.m.d (dropsF a.m a.ks).d (idxQ a.p.x b.x a.p.cap b.cap ((FlAt (dropsF a.m a.ks) b/\FlFr a.p b)/\True))))/\((!keyB a_5)=false->InR .i64 ((↑a_2:Int)+1)/\∃ (a':Nat),(↑a_2:Int)+1=(↑a':Int) /\
 (↑a.ks.length:Int)=(↑a.ks.length:Int)/\(0=0/\a.ks.length=a.ks.length/\a.cap=a.cap)/\false=false/\(0:Int)=0/\0=0/\(0=0/\a.ks.length=a.ks.length/\a.cap=a.cap)/\0=0/\0=0/\0=0/\logQ a.m.L a.m.L a.p.y.lv a.p.y.lv (devQ a.m.d a.m.d (idxQ a.p.x a.p.x a.p.cap a.p.cap (a.p.H=a.p.H/\(a.ks.length<=a.ks.length/\RowsEq a.ks.length 1 (encRows encT a.ks) (encRows encT a.ks))/\(a'<=a.ks.length/\∀ j:Nat,j<a'->keyB (gl a.ks j)=true)/\a.ks.length - a'<a.ks.length - a_2)))))/\(decide ((↑a_2:Int)<(↑a.ks.length:Int))=false->∃ a_5:Unit,false=false/\(0:Int)=0/\0=0/\(0=0/\a.ks.length=a.ks.length/\a.cap=a.cap)/\0=0/\0=0/\0=0/\logQ a.m.L a.m.L a.p.y.lv a.p.y.lv (devQ a.m.d a.m.d (idxQ a.p.x a.p.x a.p.cap a.p.cap (a.p.H=a.p.H/\(a.ks.length<=a.ks.length/\RowsEq a.ks.length 1 (encRows encT a.ks) (encRows encT a.ks))/\allK a.ks=true/\True)))))/\∀ a_2:Unit,allK a.ks=true->(∃ a_4:FDropS,0=(↑a_4.i:Int)/\(↑a.ks.length:Int)=(↑a.ks.length:Int)/\(0=0/\a.ks.length=a.ks.length/\a.cap=a.cap)/\false=false/\(0:Int)=0/\0=0/\(0=0/\a.ks.length=a.ks.length/\a.cap=a.cap)/\a.p.H=a_4.p.H/\0=0/\0=0/\0=0/\logQ a.m.L (dropTo a.m a.ks a_4.i).L a.p.y.lv a_4.p.y.lv (devQ a.m.d (dropTo a.m a.ks a_4.i).d ((0=0/\a.p.x.t.length=a_4.p.x.t.length/\a.p.cap=a_4.p.cap)/\(↑a.p.x.n:Int)=(↑a_4.p.x.n:Int)/\(↑a.p.x.used:Int)=(↑a_4.p.x.used:Int)/\(a.ks.length<=a.ks.length /\
 RowsEq a.ks.length 1 (encRows encT a.ks) (encRows encT a.ks))/\(a_4.p.x.t.length<=a.p.x.t.length/\RowsEq a_4.p.x.t.length 4 (encRows Ix.encP a.p.x.t) (encRows Ix.encP a_4.p.x.t))/\(a_4.i<=a.ks.length/\allK a.ks=true/\FlAt (dropTo a.m a.ks a_4.i) a_4.p/\FlFr a.p a_4.p)/\True)))/\∀ a_4:FDropS,a_4.i<=a.ks.length/\allK a.ks=true/\FlAt (dropTo a.m a.ks a_4.i) a_4.p/\FlFr a.p a_4.p->(decide ((↑a_4.i:Int)<(↑a.ks.length:Int))=true->(0<=(↑a_4.i:Int)/\(↑a_4.i:Int)<(↑a.ks.length:Int))/\0+(↑a_4.i:Int).toNat<a.ks.length/\∃ a_7:EncA,(0=0/\1=a_7.xs.length/\1=a_7.cap)/\(a_7.xs.length<=1/\RowsEq a_7.xs.length 4 (flatRows 4 [Value.string (gl a.ks (0+(↑a_4.i:Int).toNat)),Value.string (ByteArray.mk #[]),Value.int IntKind.i64 (0:Int),Value.bool true]) (encRows encItem a_7.xs))/\(1<=a_7.xs.length/\a_7.xs.length<20/\∀ i:Nat,i<a_7.xs.length->mayB (gl a_7.xs i)=true)/\∀ b:Nat,True->1<=1/\0+(itemsB a_7.xs).length<=(itemsB a_7.xs).length/\(1+(itemsB a_7.xs).length)*1<=140737488355328/\∀ cap:Nat,1+(itemsB a_7.xs).length<=cap->cap<=lenMax->(1+(itemsB a_7.xs).length<=1->cap=1)->∃ a_12:AddA,0=0/\(0=0/\1+(itemsB a_7.xs).length=a_12.body.length/\cap=a_12.cap)/\0=0/\0=0/\0=0/\logQ (dropTo a.m a.ks a_4.i).L a_12.m.L a_4.p.y.lv a_12.p.y.lv (devQ (dropTo a.m a.ks a_4.i).d a_12.m.d (idxQ a_4.p.x a_12.p.x a_4.p.cap a_12.p.cap (a_4.p.H=a_12.p.H/\(a_12.body.length<=1+(itemsB a_7.xs).length /\
 RowsEq a_12.body.length 1 (appRows (flatRows 1 [Value.int IntKind.u8 (1:Int)]) 0 1 fun (i j:Nat)=>encRows encB (itemsB a_7.xs) (0+i) j) (encRows encB a_12.body))/\(FlAt a_12.m a_12.p/\FlOk a_12.m a_12.body.length/\1<=a_12.body.length/\a_12.body.length<=300)/\∀ b:FlP,FlAt (addF a_12.m a_12.body) b/\FlFr a_12.p b->(false=true->∃ b_1:FlP,((0:Int)=if allK a.ks=true then (0:Int) else (1:Int))/\b.H=b_1.H/\0=0/\0=0/\0=0/\logQ (addF a_12.m a_12.body).L (dropsF a.m a.ks).L b.y.lv b_1.y.lv (devQ (addF a_12.m a_12.body).d (dropsF a.m a.ks).d (idxQ b.x b_1.x b.cap b_1.cap ((FlAt (dropsF a.m a.ks) b_1/\FlFr a.p b_1)/\True))))/\(false=false->∃ a_15:Ix.KeyA,0=0/\gl a.ks (0+(↑a_4.i:Int).toNat)=a_15.key/\idxQ b.x a_15.x b.cap a_15.cap ((Ix.Inv a_15.x/\a_15.x.n<10000/\a_15.key.size<=lenMax/\((0:Int)<=(Ix.findP a_15.x.t a_15.key).fst->1<=a_15.x.n))/\∀ b_1:Unit,True->InR .i64 ((↑a_4.i:Int)+1)/\∃ (a':FDropS),(↑a_4.i:Int)+1=(↑a'.i:Int)/\(↑a.ks.length:Int)=(↑a.ks.length:Int)/\(0=0/\a.ks.length=a.ks.length/\a.cap=a.cap)/\false=false/\(0:Int)=0/\0=0/\(0=0/\a.ks.length=a.ks.length/\a.cap=a.cap)/\b.H=a'.p.H/\0=0/\0=0/\0=0/\logQ (addF a_12.m a_12.body).L (dropTo a.m a.ks a'.i).L b.y.lv a'.p.y.lv (devQ (addF a_12.m a_12.body).d (dropTo a.m a.ks a'.i).d ((0=0/\(Ix.dropI a_15.x a_15.key).t.length=a'.p.x.t.length/\a_15.cap=a'.p.cap)/\(↑(Ix.dropI a_15.x a_15.key).n:Int)=(↑a'.p.x.n:Int) /\
 (↑(Ix.dropI a_15.x a_15.key).used:Int)=(↑a'.p.x.used:Int)/\(a.ks.length<=a.ks.length/\RowsEq a.ks.length 1 (encRows encT a.ks) (encRows encT a.ks))/\(a'.p.x.t.length<=(Ix.dropI a_15.x a_15.key).t.length/\RowsEq a'.p.x.t.length 4 (encRows Ix.encP (Ix.dropI a_15.x a_15.key).t) (encRows Ix.encP a'.p.x.t))/\(a'.i<=a.ks.length/\allK a.ks=true/\FlAt (dropTo a.m a.ks a'.i) a'.p/\FlFr a.p a'.p)/\a.ks.length - a'.i<a.ks.length - a_4.i))))))))/\(decide ((↑a_4.i:Int)<(↑a.ks.length:Int))=false->∃ a_7:DevM,0=0/\devQ (dropTo a.m a.ks a_4.i).d a_7 ((a_7.n<100000/\a_7.calls<1000000000000)/\∀ b:Unit,True->∃ b:FlP,((0:Int)=if allK a.ks=true then (0:Int) else (1:Int))/\a_4.p.H=b.H/\0=0/\0=0/\0=0/\logQ (dropTo a.m a.ks a_4.i).L (dropsF a.m a.ks).L a_4.p.y.lv b.y.lv (devQ (devFl a_7) (dropsF a.m a.ks).d (idxQ a_4.p.x b.x a_4.p.cap b.cap ((FlAt (dropsF a.m a.ks) b/\FlFr a.p b)/\True)))))) (by kernel_rfl) (by
 rintro ⟨⟨L,d,l⟩,⟨H,y,x,xc⟩,ks,kc⟩ ⟨hat,hk1,hok⟩;dsimp only at *;obtain ⟨m0,hm0⟩:∃ m0:FlM,m0=⟨L,d,l⟩:=⟨_,rfl⟩
 have hno:allK ks=false->dropsF ⟨L,d,l⟩ ks=⟨L,d,l⟩:=fun e=>if_neg (by rw [e];decide);have hyes:allK ks=true->dropsF m0 ks=flushF (dropTo m0 ks ks.length):=fun e=>if_pos e;refine ⟨⟨⟨0,?_⟩,fun i hi=>?_⟩,fun _ hall=>⟨⟨⟨0,⟨H,y,x,xc⟩⟩,?_⟩,fun z hz=>?_⟩⟩
 ·(repeat' apply And.intro)<;>first|with_reducible (first|rfl|trivial|assumption)|omega|with_reducible (first|exact RowsEq.refl _ _ _|exact Nat.le_refl _)|(dsimp only [List.length_cons,List.length_nil]<;>omega)|rfl|exact RowsEq.refl _ _ _|exact Nat.le_refl _|exact fun j hj=>absurd hj (Nat.not_lt_zero j)
 ·obtain ⟨hi,hkb⟩:=hi;simp only [Nat.zero_add,Int.toNat_natCast];refine ⟨fun c1=>?_,fun c1=>⟨(),?_⟩⟩
  ·have hi':i<ks.length:=by have:=of_decide_eq_true c1;omega
   refine ⟨by omega,by omega,gl ks i,rfl,trivial,fun _ _=>⟨fun c2=>⟨⟨H,y,x,xc⟩,?_⟩,fun c2=>⟨by simp only [InR];omega,i+1,?_⟩⟩⟩
   ·have hn:allK ks=false:=by
     have c2:keyB (gl ks i)=false:=by simpa using c2
     rw [Bool.eq_false_iff];intro h;have:=List.all_eq_true.1 h (gl ks i) (by rw [gl_eq hi'];exact List.getElem_mem _);rw [c2] at this;cases this
    rw [hno hn,hn]
    (repeat' apply And.intro)<;>first|with_reducible (first|rfl|trivial|assumption)|omega|with_reducible (first|exact RowsEq.refl _ _ _|exact Nat.le_refl _)|(dsimp only [List.length_cons,List.length_nil]<;>omega)|rfl|exact RowsEq.refl _ _ _|exact Nat.le_refl _|exact hat|exact fun z _ hn=>⟨rfl,hn⟩
   ·have c2:keyB (gl ks i)=true:=by simpa using c2
    have h1:∀ j,j<i+1->keyB (gl ks j)=true:=fun j hj=>by
     by_cases e:j=i
     ·rw [e];exact c2
     ·exact hkb j (by omega)
    (repeat' apply And.intro)<;>first|with_reducible (first|rfl|trivial|assumption)|omega|with_reducible (first|exact RowsEq.refl _ _ _|exact Nat.le_refl _)|(dsimp only [List.length_cons,List.length_nil]<;>omega)|rfl|exact RowsEq.refl _ _ _|exact Nat.le_refl _|exact h1
  ·have hi':i=ks.length:=by have:=of_decide_eq_false c1;omega
   have ha:allK ks=true:=List.all_eq_true.2 fun k hk=>by
    obtain ⟨j,hj,rfl⟩:=List.getElem_of_mem hk;rw [<- gl_eq hj];exact hkb j (by omega)
   (repeat' apply And.intro)<;>first|with_reducible (first|rfl|trivial|assumption)|omega|with_reducible (first|exact RowsEq.refl _ _ _|exact Nat.le_refl _)|(dsimp only [List.length_cons,List.length_nil]<;>omega)|rfl|exact RowsEq.refl _ _ _|exact Nat.le_refl _|exact ha
 ·(repeat' apply And.intro)<;>first|with_reducible (first|rfl|trivial|assumption)|omega|with_reducible (first|exact RowsEq.refl _ _ _|exact Nat.le_refl _)|(dsimp only [List.length_cons,List.length_nil]<;>omega)|rfl|exact RowsEq.refl _ _ _|exact Nat.le_refl _|exact hat|exact hall|exact fun z _ hn=>⟨rfl,hn⟩
 ·obtain ⟨i,⟨H1,y1,x1,xc1⟩⟩:=z;obtain ⟨hi,_,hat1,hfr1⟩:=hz;dsimp only at hi hat1 hfr1 ⊢;obtain ⟨hok1,hok2,hok3⟩:=hok hall;rw [<- hm0] at hok1 hok2 hok3 hat1 ⊢;have hstep:dropTo m0 ks (i+1)=dropF (dropTo m0 ks i) (gl ks i):=rfl;simp only [Nat.zero_add,Int.toNat_natCast];refine ⟨fun c1=>?_,fun c1=>?_⟩
  ·have hi':i<ks.length:=by have:=of_decide_eq_true c1;omega
   have hok1:=hok1 i hi';have hkey:keyB (gl ks i)=true:=List.all_eq_true.1 hall (gl ks i) (by rw [gl_eq hi'];exact List.getElem_mem _);obtain ⟨it,hit⟩:∃ it,it=itemD (gl ks i):=⟨_,rfl⟩
   have hm:mayB it=true:=by rw [hit];exact itemD_may hkey
   obtain ⟨M,hM⟩:∃ M,M=dropTo m0 ks i:=⟨_,rfl⟩
   rw [<- hM] at hok1 hat1 hstep ⊢;rw [<- hit] at hok1;have hdF:dropF M (gl ks i)={ addF M (bodyOf (some it)) with l:=dropK (addF M (bodyOf (some it))).l (gl ks i) }:=by rw [hit];rfl
   obtain ⟨hb1,hb2⟩:=bodyOf_len (o:=some it) (fun x e=>by cases e;exact hm);have hI:itemsB [it]=itemB it:=by simp [itemsB]
   have hB:(bodyOf (some it)).length=1+(itemB it).length:=by simp only [bodyOf,List.length_cons];omega
   have hr1:RowsEq 1 4 (flatRows 4 [Value.string (gl ks i),Value.string (ByteArray.mk #[]),Value.int .i64 0,Value.bool true]) (encRows encItem [it]):=.of_cells fun i hi=>by
    have:i=0:=by omega
    subst this;rw [hit];rfl
   have hm1:∀ i,i < [it].length->mayB (gl [it] i)=true:=fun i hi=>by
    have:i=0:=by simp at hi;omega
    subst this;exact hm
   refine ⟨by omega,by omega,EncA.mk [it] 1,?_⟩
   (repeat' apply And.intro)<;>first|with_reducible (first|rfl|trivial|assumption)|omega|with_reducible (first|exact RowsEq.refl _ _ _|exact Nat.le_refl _)|(dsimp only [List.length_cons,List.length_nil]<;>omega)|exact hr1|exact hm1|exact Nat.le_refl _|decide|skip
   intro c _;rw [hI]
   repeat (first|refine And.intro (by omega) ?_|refine And.intro (by dsimp only;omega) ?_|refine And.intro (by simp only [InR];omega) ?_)
   intro cap q1 q2 q3;refine ⟨AddA.mk M ⟨H1,y1,x1,xc1⟩ (bodyOf (some it)) cap,?_⟩;have hr2:RowsEq (bodyOf (some it)).length 1 (appRows (flatRows 1 [Value.int .u8 1]) 0 1 fun (i j:Nat)=>encRows encB (itemB it) (0+i) j) (encRows encB (bodyOf (some it))):=⟨fun i hi j hj=>by
    have hj0:j=0:=by omega
    subst hj0;simp only [appRows,Nat.zero_add];by_cases h0:i<1
    ·have:i=0:=by omega
     subst this;rfl
    ·rw [if_neg h0];obtain ⟨q,rfl⟩:∃ q,i=q+1:=⟨i - 1,by omega⟩
     simp only [encRows,bodyOf,Nat.add_sub_cancel];congr 2⟩
   simp only [Nat.zero_add] at hr2
   (repeat' apply And.intro)<;>first|with_reducible (first|rfl|trivial|assumption)|omega|with_reducible (first|exact RowsEq.refl _ _ _|exact Nat.le_refl _)|(dsimp only [List.length_cons,List.length_nil]<;>omega)|rfl|exact RowsEq.refl _ _ _|exact Nat.le_refl _|exact hr2|exact hat1|exact hat1.log|exact hat1.idx|exact hok1|exact hok1.log|exact hok1.few|(dsimp only;omega)|skip
   rintro ⟨H2,y2,x2,xc2⟩ ⟨⟨g1,g2⟩,hfr⟩;dsimp only at g1 g2 hfr ⊢;refine ⟨fun c=>absurd c (by decide),fun _=>⟨Ix.KeyA.mk x2 xc2 (gl ks i),?_⟩⟩;have hn:=has_few g2;have hln:(addF M (bodyOf (some it))).l.length<=M.l.length:=List.length_filter_le _ _;have hfew:=hok1.few;have hks:(gl ks i).size<=lenMax:=by
    have h40:(gl ks i).size<=40:=by have:=(may_out hm).1;rw [hit] at this;exact this
    simp only [lenMax];omega
   obtain ⟨hd1,hd2⟩:=has_drop (k:=gl ks i) g2
   (repeat' apply And.intro)<;>first|with_reducible (first|rfl|trivial|assumption)|omega|with_reducible (first|exact RowsEq.refl _ _ _|exact Nat.le_refl _)|(dsimp only [List.length_cons,List.length_nil]<;>omega)|rfl|exact RowsEq.refl _ _ _|exact Nat.le_refl _|exact g2.inv|exact hks|exact hd2|(dsimp only;omega)|skip
   intro _ _;have hat2:FlAt (dropF M (gl ks i)) ⟨H2,y2,Ix.dropI x2 (gl ks i),xc2⟩:=by rw [hdF];exact ⟨g1,hd1⟩
   have hfr2:FlFr ⟨H,y,x,xc⟩ ⟨H2,y2,Ix.dropI x2 (gl ks i),xc2⟩:=fun z hz hn=>by
    obtain ⟨a1,a2⟩:=hfr1 z hz hn;obtain ⟨b1,b2⟩:=hfr z (by rw [a1];exact hz) a2;exact ⟨b1.trans a1,b2⟩
   refine ⟨by simp only [InR];omega,⟨i+1,⟨H2,y2,Ix.dropI x2 (gl ks i),xc2⟩⟩,?_⟩;dsimp only;rw [hstep];rw [hdF] at hat2 ⊢
   (repeat' apply And.intro)<;>first|with_reducible (first|rfl|trivial|assumption)|omega|with_reducible (first|exact RowsEq.refl _ _ _|exact Nat.le_refl _)|(dsimp only [List.length_cons,List.length_nil]<;>omega)|rfl|exact RowsEq.refl _ _ _|exact Nat.le_refl _|exact hat2|exact hfr2|exact hall|skip
  ·have hi':i=ks.length:=by have:=of_decide_eq_false c1;omega
   subst hi';have hat2:FlAt (flushF (dropTo m0 ks ks.length)) ⟨H1,y1,x1,xc1⟩:=⟨hat1.log,hat1.idx⟩
   refine ⟨(dropTo m0 ks ks.length).d,?_⟩;rw [hyes hall,hall]
   (repeat' apply And.intro)<;>first|with_reducible (first|rfl|trivial|assumption)|omega|with_reducible (first|exact RowsEq.refl _ _ _|exact Nat.le_refl _)|(dsimp only [List.length_cons,List.length_nil]<;>omega)|rfl|exact RowsEq.refl _ _ _|exact Nat.le_refl _|exact hok2|exact hok3|skip
   intro _ _;refine ⟨⟨H1,y1,x1,xc1⟩,?_⟩
   (repeat' apply And.intro)<;>first|with_reducible (first|rfl|trivial|assumption)|omega|with_reducible (first|exact RowsEq.refl _ _ _|exact Nat.le_refl _)|(dsimp only [List.length_cons,List.length_nil]<;>omega)|rfl|exact RowsEq.refl _ _ _|exact Nat.le_refl _|exact hat2|exact hfr1)
theorem callFDrop:CallsBy (Y Tryz.prog).G.X 15 cFDrop:=fn_ok okY (tab:=tabFDrop) ⟨callKey,callEnc,callAdd,Ix.callDrop,callDevFlush,trivial⟩ bodyFDrop
theorem newRowsN {n:Nat}:RowsEq n 4 (fun (x j:Nat)=>[Go.Value.string { data:=#[] },Go.Value.int Go.IntKind.i64 0,Go.Value.bool Bool.false,Go.Value.bool Bool.false].getD j (Go.Value.tuple #[])) (encRows Ix.encP (Ix.emptyI n).t):=by
 refine .of_cells fun i hi=>?_;unfold encRows;rw [show gl (Ix.emptyI n).t i=⟨.empty,0,false,false⟩ from Ix.gl_replicate hi];rfl
theorem newRows16:RowsEq 16 4 (fun (x j:Nat)=>[Go.Value.string { data:=#[] },Go.Value.int Go.IntKind.i64 0,Go.Value.bool Bool.false,Go.Value.bool Bool.false].getD j (Go.Value.tuple #[])) (encRows Ix.encP (Ix.emptyI 16).t):=newRowsN
noncomputable def cINew:Con where
 α:=Unit
 β:=Unit
 m:=0
 m':=2
 pre:=fun _=>True
 args:=fun _=>[]
 hp:=fun _=>[]
 ro:=fun _=>[]
 post:=fun _ _=>True
 res:=fun _ _=>.a (.ptr 0 0 0 0)
 hp':=fun _ _=>Ix.idxHp 0 1 (Ix.emptyI 16).t 16 (Ix.emptyI 16).n (Ix.emptyI 16).used
set_option maxHeartbeats 4000000 in
theorem bodyINew:fnBody (Y Tryz.prog) [] 29 cINew fun _=>[]:=fnBody.of (p :=
 ∀ a:Unit,True->(0:Int)<=16/\(16:Int)<=16/\(512:Int)<=281474976710656/\∃ b:Unit,0=0/\(0=0/\16=16/\16=16)/\(0:Int)=0/\(0:Int)=0/\(16<=16/\RowsEq 16 4 (fun (x j:Nat)=>[Value.string (ByteArray.mk #[]),Value.int IntKind.i64 (0:Int),Value.bool false,Value.bool false].getD j (Value.tuple #[])) (encRows Ix.encP (Ix.emptyI 16).t))/\True/\True) (by kernel_rfl) (by
 intro _ _;refine ⟨by omega,by omega,by omega,(),?_⟩
 (repeat' apply And.intro)<;>first|with_reducible (first|rfl|trivial|assumption)|omega|with_reducible (first|exact RowsEq.refl _ _ _|exact Nat.le_refl _)|(dsimp only [List.length_cons,List.length_nil]<;>omega)|rfl|exact RowsEq.refl _ _ _|exact Nat.le_refl _|exact newRows16)
theorem callINew:CallsBy (Y Tryz.prog).G.X 29 cINew:=fn_ok okY (tab:=[]) trivial bodyINew
def idxStep (l:List (ByteArray × Int)) (o:Option ItemM) (pos:Int):List (ByteArray × Int):=match o with
 | none=>[]
 | some x=>if x.gone then dropK l x.key else putK l x.key pos
def idxTo (es:List (Option ItemM)) (rs:List RecM):Nat->List (ByteArray × Int)
 | 0=>[]
 | i+1=>idxStep (idxTo es rs i) (gl es i) (gl rs i).pos
theorem idxTo_len (es:List (Option ItemM)) (rs:List RecM):∀ i,(idxTo es rs i).length<=i
 | 0=>Nat.le_refl _
 | i+1=>by
  have:=idxTo_len es rs i;show (idxStep _ _ _).length<=_;unfold idxStep;split
  ·simp
  ·split
   ·have:=dropK_len (idxTo es rs i) (by assumption:ItemM).key;omega
   ·have:=putK_len (idxTo es rs i) (by assumption:ItemM).key (gl rs i).pos;omega
theorem allR_at {l:List SegM} {i k:Nat} (hi:i<l.length) (hk:k<(gl l i).recs.length):∃ j,j<(allR l).length/\gl (allR l) j=gl (gl l i).recs k:=by
 have hm:gl (gl l i).recs k∈allR l:=List.mem_flatMap.2 ⟨gl l i,by rw [gl_eq hi];exact List.getElem_mem _,by rw [gl_eq hk];exact List.getElem_mem _⟩;obtain ⟨j,hj,e⟩:=List.getElem_of_mem hm;exact ⟨j,hj,by rw [gl_eq hj];exact e⟩
structure FOpenA where
 H:PH
 d:DevM
 from_:Nat
 segs:Nat
 es:List (Option ItemM)
def opnF (a:FOpenA):FlM:=⟨openM a.from_ a.segs a.d,a.d,idxTo a.es (allR (openM a.from_ a.segs a.d).l) a.es.length⟩
structure EsOk (es:List (Option ItemM)) (rs:List RecM):Prop where
 len:es.length=rs.length
 few:es.length<9000
 at_:∀ i,i<es.length->(gl rs i).body=bodyOf (gl es i)/\∀ x,gl es i=some x->mayB x=true
noncomputable def cFOpen:Con where
 α:=FOpenA
 β:=FlP
 m:=3
 m':=8
 pre:=fun a=>OpenOk a.from_ a.segs a.d/\EsOk a.es (allR (openM a.from_ a.segs a.d).l)/\∀ i,i<(openM a.from_ a.segs a.d).l.length->(gl (openM a.from_ a.segs a.d).l i).recs.length<=400
 args:=fun a=>[.a (.ptr 0 0 0 0),.a (.int .i64 a.from_),.a (.int .i64 a.segs)]
 hp:=fun a=>[(2,.pool a.H)]
 ro:=fun a=>devHp 0 1 a.d
 post:=fun a b=>FlAt (opnF a) b/\∀ z,a.H z≠none->b.H z=a.H z/\z∉fpLog b.y
 res:=fun a b=>.tup [.a (.ptr 3 0 0 0),.a (.int .i64 0)]
 hp':=fun a b=>[(3,.obj 71 [.ptr 4 0 0 0,.ptr 5 0 0 0]),(4,logObj 0 (opnF a).L b.y.lv)]++Ix.idxHp 5 6 b.x.t b.cap b.x.n b.x.used++[(7,.pool b.H)]
structure FOpenS where
 i:Nat
 x:Ix.IdxR
 cap:Nat
def S.ix (s:S) (c:Nat) (x:Ix.IdxR) (cap:Nat):S :=
 (((s.put ((s.hp.del (s.in_ (s.in_ c 1) 0)).del (s.in_ c 1))).new (.arr 118 Ix.ksP x.t.length (encRows Ix.encP x.t))).new (.obj 111 [.slc s.nx 0 4 x.t.length cap,.int .i64 x.n,.int .i64 x.used])).at_ c (.obj 71 [.ptr (s.in_ c 0) 0 0 0,.ptr (s.nx+1) 0 0 0])
def iFOpen (a:FOpenA):An:=.flat 6 FOpenS (fun s z=>(S.ix s (s.tg 10) z.x z.cap).int 32 z.i) (fun _ z=>z.i<=a.es.length/\Ix.Has z.x (idxTo a.es (allR (openM a.from_ a.segs a.d).l) z.i)) (fun _ z=>a.es.length - z.i)
noncomputable def tabFOpen:List (Nat × Con):=[(28,cLOpen),(29,cINew),(30,cLAll),(31,cFReadV),(32,Ix.cDrop),(33,Ix.cPut)]
set_option maxHeartbeats 4000000 in
theorem bodyFOpen:fnBody (Y Tryz.prog) tabFOpen 8 cFOpen fun a=>[(8,[iFOpen a],[])]:=fnBody.of (p :=
 ∀ a:FOpenA,(OpenOk a.from_ a.segs a.d/\EsOk a.es (allR (openM a.from_ a.segs a.d).l)/\∀ i:Nat,i<(openM a.from_ a.segs a.d).l.length->(gl (openM a.from_ a.segs a.d).l i).recs.length<=400)->∃ a_2:OpA,0=0/\(↑a.from_:Int)=(↑a_2.from_:Int)/\(↑a.segs:Int)=(↑a_2.segs:Int)/\a.H=a_2.H/\devQ a.d a_2.d (OpenOk a_2.from_ a_2.segs a_2.d/\∀ b:BegB,(LogAt b.H b.y (openM a_2.from_ a_2.segs a_2.d)/\∀ x:Nat,a_2.H x≠none->b.H x=a_2.H x/\¬x∈fpLog b.y)->(false=true->∃ b:FlP,False)/\(false=false->∃ a_5:Unit,True/\∀ b_1:Unit,True->∃ a_7:LAllA,0=0/\b.H=a_7.H/\0=0/\logQ (openM a_2.from_ a_2.segs a_2.d) a_7.L b.y.lv a_7.y.lv ((LogAt a_7.H a_7.y a_7.L/\a_7.L.l.length<1000/\∀ i:Nat,i<a_7.L.l.length->(gl a_7.L.l i).recs.length<=400/\∀ k:Nat,k<(gl a_7.L.l i).recs.length->1<=(gl (gl a_7.L.l i).recs k).body.length/\(gl (gl a_7.L.l i).recs k).body.length<=1000)/\∀ b_2:LAllB,(OutAt b_2.H b_2.v b_2.vs (allR a_7.L.l)/\∀ z:Nat,a_7.H z≠none->b_2.H z=a_7.H z/\¬z∈fpV b_2.v/\¬z∈List.flatMap fpV b_2.vs)->(∃ a:Option Go.Addr,∃ l c:Nat,b_2.v=Value.slice a l c/\l<=lenMax)/\(∃ a_9:FOpenS,0=(↑a_9.i:Int)/\(↑(slLen b_2.v):Int)=(↑(slLen b_2.v):Int)/\b_2.v=b_2.v/\0=0/\false=false/\(0:Int)=0/\0=0/\(0:Int)=0/\0=0/\(↑a.from_:Int)=(↑a.from_:Int)/\(↑a.segs:Int)=(↑a.segs:Int)/\b_2.H=b_2.H/\0=0/\0=0/\0=0/\logQ (openM a_2.from_ a_2.segs a_2.d) (openM a_2.from_ a_2.segs a_2.d) b.y.lv b.y.lv (devQ a.d a.d ((0=0 /\
 16=a_9.x.t.length/\16=a_9.cap)/\0=(↑a_9.x.n:Int)/\0=(↑a_9.x.used:Int)/\(a_9.x.t.length<=16/\RowsEq a_9.x.t.length 4 (encRows Ix.encP (Ix.emptyI 16).t) (encRows Ix.encP a_9.x.t))/\(a_9.i<=a.es.length/\Ix.Has a_9.x (idxTo a.es (allR (openM a.from_ a.segs a.d).l) a_9.i))/\True)))/\∀ a_9:FOpenS,a_9.i<=a.es.length/\Ix.Has a_9.x (idxTo a.es (allR (openM a.from_ a.segs a.d).l) a_9.i)->(decide ((↑a_9.i:Int)<(↑(slLen b_2.v):Int))=true->∃ b_3 o:Nat,∃ l c:Nat,b_2.v=slv b_3 o l c/\(0<=(↑a_9.i:Int)/\(↑a_9.i:Int)<(↑l:Int))/\∃ b_4 lo o_1:Nat,∃ cs:List Value,pv b_3 (o+(↑a_9.i:Int).toNat*2)=pv b_4 (lo+o_1)/\b_2.H b_4=some (lo,cs)/\((∃ v:Value,cs[o_1]? = some v/\∃ n:Int,v=Value.int IntKind.i64 n/\InR .i64 n)/\(∃ v:Value,cs[o_1+1]? = some v/\v.oneCell'=true)/\True)/\∃ a_12:V1 cFRead.α,cs.getD (o_1+1) (Value.tuple #[])=a_12.3/\b_2.H=a_12.2/\(((∀ x:ItemM,a_12.1.o=some x->mayB x=true)/\(bodyOf a_12.1.o).length<=a_12.1.cap)/\slAt a_12.2 a_12.3 [CK.int IntKind.u8] (slFRead a_12.1).3 (slFRead a_12.1).4 (slFRead a_12.1).5)/\∀ b_5:cFRead.β,True->(∃ a:Option Go.Addr,∃ l c:Nat,cs.getD (o_1+1) (Value.tuple #[])=Value.slice a l c/\l<=lenMax)/\(((↑(slLen (cs.getD (o_1+1) (Value.tuple #[]))):Int) == 1)=true->∃ b_6 o:Nat,∃ l c:Nat,cs.getD (o_1+1) (Value.tuple #[])=slv b_6 o l c/\((0:Int)<=0/\0<(↑l:Int))/\∃ b_7 lo o_2:Nat,∃ cs_1:List Value,pv b_6 (o+0)=pv b_7 (lo+o_2) /\
 b_2.H b_7=some (lo,cs_1)/\((∃ v:Value,cs_1[o_2]? = some v/\∃ n:Int,v=Value.int IntKind.u8 n/\InR .u8 n)/\True)/\(InR .u8 (toI (cs_1.getD o_2 (Value.tuple #[])))->((toI (cs_1.getD o_2 (Value.tuple #[])) == (2:Int))=true->∃ a_17:Unit,True/\∀ b_8:Unit,True->InR .i64 ((↑a_9.i:Int)+1)/\∃ (a':FOpenS),(↑a_9.i:Int)+1=(↑a'.i:Int)/\(↑(slLen b_2.v):Int)=(↑(slLen b_2.v):Int)/\b_2.v=b_2.v/\0=0/\false=false/\(0:Int)=0/\0=0/\(0:Int)=0/\0=0/\(↑a.from_:Int)=(↑a.from_:Int)/\(↑a.segs:Int)=(↑a.segs:Int)/\b_2.H=b_2.H/\0=0/\0=0/\0=0/\logQ (openM a_2.from_ a_2.segs a_2.d) (openM a_2.from_ a_2.segs a_2.d) b.y.lv b.y.lv (devQ a.d a.d ((0=0/\16=a'.x.t.length/\16=a'.cap)/\0=(↑a'.x.n:Int)/\0=(↑a'.x.used:Int)/\(a'.x.t.length<=16/\RowsEq a'.x.t.length 4 (encRows Ix.encP (Ix.emptyI 16).t) (encRows Ix.encP a'.x.t))/\(a'.i<=a.es.length/\Ix.Has a'.x (idxTo a.es (allR (openM a.from_ a.segs a.d).l) a'.i))/\a.es.length - a'.i<a.es.length - a_9.i)))/\((toI (cs_1.getD o_2 (Value.tuple #[])) == (2:Int))=false->(a_12.1.o.isSome=true->((a_12.1.o.getD zeroItem).gone=true->∃ a_19:Ix.KeyA,0=0/\(a_12.1.o.getD zeroItem).key=a_19.key/\idxQ a_9.x a_19.x a_9.cap a_19.cap ((Ix.Inv a_19.x/\a_19.x.n<10000/\a_19.key.size<=lenMax/\((0:Int)<=(Ix.findP a_19.x.t a_19.key).fst->1<=a_19.x.n))/\∀ b_8:Unit,True->InR .i64 ((↑a_9.i:Int)+1)/\∃ (a':FOpenS),(↑a_9.i:Int)+1=(↑a'.i:Int) /\
 (↑(slLen b_2.v):Int)=(↑(slLen b_2.v):Int)/\b_2.v=b_2.v/\0=0/\false=false/\(0:Int)=0/\0=0/\(0:Int)=0/\0=0/\(↑a.from_:Int)=(↑a.from_:Int)/\(↑a.segs:Int)=(↑a.segs:Int)/\b_2.H=b_2.H/\0=0/\0=0/\0=0/\logQ (openM a_2.from_ a_2.segs a_2.d) (openM a_2.from_ a_2.segs a_2.d) b.y.lv b.y.lv (devQ a.d a.d (idxQ (Ix.dropI a_19.x a_19.key) a'.x a_19.cap a'.cap ((a'.i<=a.es.length/\Ix.Has a'.x (idxTo a.es (allR (openM a.from_ a.segs a.d).l) a'.i))/\a.es.length - a'.i<a.es.length - a_9.i)))))/\((a_12.1.o.getD zeroItem).gone=false->(a_12.1.o.isSome=true->InR .i64 (toI (cs.getD o_1 (Value.tuple #[])))->∃ a_21:Ix.PutA,0=0/\(a_12.1.o.getD zeroItem).key=a_21.key/\toI (cs.getD o_1 (Value.tuple #[]))=a_21.pos/\idxQ a_9.x a_21.x a_9.cap a_21.cap ((Ix.Inv a_21.x/\a_21.x.n<9999/\a_21.key.size<=lenMax)/\∀ b_8:Nat,True->InR .i64 ((↑a_9.i:Int)+1)/\∃ (a':FOpenS),(↑a_9.i:Int)+1=(↑a'.i:Int)/\(↑(slLen b_2.v):Int)=(↑(slLen b_2.v):Int)/\b_2.v=b_2.v/\0=0/\false=false/\(0:Int)=0/\0=0/\(0:Int)=0/\0=0/\(↑a.from_:Int)=(↑a.from_:Int)/\(↑a.segs:Int)=(↑a.segs:Int)/\b_2.H=b_2.H/\0=0/\0=0/\0=0/\logQ (openM a_2.from_ a_2.segs a_2.d) (openM a_2.from_ a_2.segs a_2.d) b.y.lv b.y.lv (devQ a.d a.d (idxQ (Ix.putX a_21.x a_21.key a_21.pos) a'.x b_8 a'.cap ((a'.i<=a.es.length/\Ix.Has a'.x (idxTo a.es (allR (openM a.from_ a.segs a.d).l) a'.i))/\a.es.length - a'.i<a.es.length - a_9.i))))) /\
 (a_12.1.o.isSome=false->InR .i64 ((↑a_9.i:Int)+1)/\∃ (a':FOpenS),(↑a_9.i:Int)+1=(↑a'.i:Int)/\(↑(slLen b_2.v):Int)=(↑(slLen b_2.v):Int)/\b_2.v=b_2.v/\0=0/\false=false/\(0:Int)=0/\0=0/\(0:Int)=0/\0=0/\(↑a.from_:Int)=(↑a.from_:Int)/\(↑a.segs:Int)=(↑a.segs:Int)/\b_2.H=b_2.H/\0=0/\0=0/\0=0/\logQ (openM a_2.from_ a_2.segs a_2.d) (openM a_2.from_ a_2.segs a_2.d) b.y.lv b.y.lv (devQ a.d a.d (idxQ a_9.x a'.x a_9.cap a'.cap ((a'.i<=a.es.length/\Ix.Has a'.x (idxTo a.es (allR (openM a.from_ a.segs a.d).l) a'.i))/\a.es.length - a'.i<a.es.length - a_9.i))))))/\(a_12.1.o.isSome=false->(a_12.1.o.isSome=true->InR .i64 (toI (cs.getD o_1 (Value.tuple #[])))->∃ a_20:Ix.PutA,0=0/\(a_12.1.o.getD zeroItem).key=a_20.key/\toI (cs.getD o_1 (Value.tuple #[]))=a_20.pos/\idxQ a_9.x a_20.x a_9.cap a_20.cap ((Ix.Inv a_20.x/\a_20.x.n<9999/\a_20.key.size<=lenMax)/\∀ b_8:Nat,True->InR .i64 ((↑a_9.i:Int)+1)/\∃ (a':FOpenS),(↑a_9.i:Int)+1=(↑a'.i:Int)/\(↑(slLen b_2.v):Int)=(↑(slLen b_2.v):Int)/\b_2.v=b_2.v/\0=0/\false=false/\(0:Int)=0/\0=0/\(0:Int)=0/\0=0/\(↑a.from_:Int)=(↑a.from_:Int)/\(↑a.segs:Int)=(↑a.segs:Int)/\b_2.H=b_2.H/\0=0/\0=0/\0=0/\logQ (openM a_2.from_ a_2.segs a_2.d) (openM a_2.from_ a_2.segs a_2.d) b.y.lv b.y.lv (devQ a.d a.d (idxQ (Ix.putX a_20.x a_20.key a_20.pos) a'.x b_8 a'.cap ((a'.i<=a.es.length/\Ix.Has a'.x (idxTo a.es (allR (openM a.from_ a.segs a.d).l) a'.i)) /\
 a.es.length - a'.i<a.es.length - a_9.i)))))/\(a_12.1.o.isSome=false->InR .i64 ((↑a_9.i:Int)+1)/\∃ (a':FOpenS),(↑a_9.i:Int)+1=(↑a'.i:Int)/\(↑(slLen b_2.v):Int)=(↑(slLen b_2.v):Int)/\b_2.v=b_2.v/\0=0/\false=false/\(0:Int)=0/\0=0/\(0:Int)=0/\0=0/\(↑a.from_:Int)=(↑a.from_:Int)/\(↑a.segs:Int)=(↑a.segs:Int)/\b_2.H=b_2.H/\0=0/\0=0/\0=0/\logQ (openM a_2.from_ a_2.segs a_2.d) (openM a_2.from_ a_2.segs a_2.d) b.y.lv b.y.lv (devQ a.d a.d (idxQ a_9.x a'.x a_9.cap a'.cap ((a'.i<=a.es.length/\Ix.Has a'.x (idxTo a.es (allR (openM a.from_ a.segs a.d).l) a'.i))/\a.es.length - a'.i<a.es.length - a_9.i))))))))/\(((↑(slLen (cs.getD (o_1+1) (Value.tuple #[]))):Int) == 1)=false->(a_12.1.o.isSome=true->((a_12.1.o.getD zeroItem).gone=true->∃ a_17:Ix.KeyA,0=0/\(a_12.1.o.getD zeroItem).key=a_17.key/\idxQ a_9.x a_17.x a_9.cap a_17.cap ((Ix.Inv a_17.x/\a_17.x.n<10000/\a_17.key.size<=lenMax/\((0:Int)<=(Ix.findP a_17.x.t a_17.key).fst->1<=a_17.x.n))/\∀ b_6:Unit,True->InR .i64 ((↑a_9.i:Int)+1)/\∃ (a':FOpenS),(↑a_9.i:Int)+1=(↑a'.i:Int)/\(↑(slLen b_2.v):Int)=(↑(slLen b_2.v):Int)/\b_2.v=b_2.v/\0=0/\false=false/\(0:Int)=0/\0=0/\(0:Int)=0/\0=0/\(↑a.from_:Int)=(↑a.from_:Int)/\(↑a.segs:Int)=(↑a.segs:Int)/\b_2.H=b_2.H/\0=0/\0=0/\0=0/\logQ (openM a_2.from_ a_2.segs a_2.d) (openM a_2.from_ a_2.segs a_2.d) b.y.lv b.y.lv (devQ a.d a.d (idxQ (Ix.dropI a_17.x a_17.key) a'.x a_17.cap a'.cap ((a'.i<=a.es.length /\
 Ix.Has a'.x (idxTo a.es (allR (openM a.from_ a.segs a.d).l) a'.i))/\a.es.length - a'.i<a.es.length - a_9.i)))))/\((a_12.1.o.getD zeroItem).gone=false->(a_12.1.o.isSome=true->InR .i64 (toI (cs.getD o_1 (Value.tuple #[])))->∃ a_19:Ix.PutA,0=0/\(a_12.1.o.getD zeroItem).key=a_19.key/\toI (cs.getD o_1 (Value.tuple #[]))=a_19.pos/\idxQ a_9.x a_19.x a_9.cap a_19.cap ((Ix.Inv a_19.x/\a_19.x.n<9999/\a_19.key.size<=lenMax)/\∀ b_6:Nat,True->InR .i64 ((↑a_9.i:Int)+1)/\∃ (a':FOpenS),(↑a_9.i:Int)+1=(↑a'.i:Int)/\(↑(slLen b_2.v):Int)=(↑(slLen b_2.v):Int)/\b_2.v=b_2.v/\0=0/\false=false/\(0:Int)=0/\0=0/\(0:Int)=0/\0=0/\(↑a.from_:Int)=(↑a.from_:Int)/\(↑a.segs:Int)=(↑a.segs:Int)/\b_2.H=b_2.H/\0=0/\0=0/\0=0/\logQ (openM a_2.from_ a_2.segs a_2.d) (openM a_2.from_ a_2.segs a_2.d) b.y.lv b.y.lv (devQ a.d a.d (idxQ (Ix.putX a_19.x a_19.key a_19.pos) a'.x b_6 a'.cap ((a'.i<=a.es.length/\Ix.Has a'.x (idxTo a.es (allR (openM a.from_ a.segs a.d).l) a'.i))/\a.es.length - a'.i<a.es.length - a_9.i)))))/\(a_12.1.o.isSome=false->InR .i64 ((↑a_9.i:Int)+1)/\∃ (a':FOpenS),(↑a_9.i:Int)+1=(↑a'.i:Int)/\(↑(slLen b_2.v):Int)=(↑(slLen b_2.v):Int)/\b_2.v=b_2.v/\0=0/\false=false/\(0:Int)=0/\0=0/\(0:Int)=0/\0=0/\(↑a.from_:Int)=(↑a.from_:Int)/\(↑a.segs:Int)=(↑a.segs:Int)/\b_2.H=b_2.H/\0=0/\0=0/\0=0/\logQ (openM a_2.from_ a_2.segs a_2.d) (openM a_2.from_ a_2.segs a_2.d) b.y.lv b.y.lv (devQ a.d a.d (idxQ a_9.x a'.x a_9.cap a'.cap ((a'.i<=a.es.length /\
 Ix.Has a'.x (idxTo a.es (allR (openM a.from_ a.segs a.d).l) a'.i))/\a.es.length - a'.i<a.es.length - a_9.i))))))/\(a_12.1.o.isSome=false->(a_12.1.o.isSome=true->InR .i64 (toI (cs.getD o_1 (Value.tuple #[])))->∃ a_18:Ix.PutA,0=0/\(a_12.1.o.getD zeroItem).key=a_18.key/\toI (cs.getD o_1 (Value.tuple #[]))=a_18.pos/\idxQ a_9.x a_18.x a_9.cap a_18.cap ((Ix.Inv a_18.x/\a_18.x.n<9999/\a_18.key.size<=lenMax)/\∀ b_6:Nat,True->InR .i64 ((↑a_9.i:Int)+1)/\∃ (a':FOpenS),(↑a_9.i:Int)+1=(↑a'.i:Int)/\(↑(slLen b_2.v):Int)=(↑(slLen b_2.v):Int)/\b_2.v=b_2.v/\0=0/\false=false/\(0:Int)=0/\0=0/\(0:Int)=0/\0=0/\(↑a.from_:Int)=(↑a.from_:Int)/\(↑a.segs:Int)=(↑a.segs:Int)/\b_2.H=b_2.H/\0=0/\0=0/\0=0/\logQ (openM a_2.from_ a_2.segs a_2.d) (openM a_2.from_ a_2.segs a_2.d) b.y.lv b.y.lv (devQ a.d a.d (idxQ (Ix.putX a_18.x a_18.key a_18.pos) a'.x b_6 a'.cap ((a'.i<=a.es.length/\Ix.Has a'.x (idxTo a.es (allR (openM a.from_ a.segs a.d).l) a'.i))/\a.es.length - a'.i<a.es.length - a_9.i)))))/\(a_12.1.o.isSome=false->InR .i64 ((↑a_9.i:Int)+1)/\∃ (a':FOpenS),(↑a_9.i:Int)+1=(↑a'.i:Int)/\(↑(slLen b_2.v):Int)=(↑(slLen b_2.v):Int)/\b_2.v=b_2.v/\0=0/\false=false/\(0:Int)=0/\0=0/\(0:Int)=0/\0=0/\(↑a.from_:Int)=(↑a.from_:Int)/\(↑a.segs:Int)=(↑a.segs:Int)/\b_2.H=b_2.H/\0=0/\0=0/\0=0/\logQ (openM a_2.from_ a_2.segs a_2.d) (openM a_2.from_ a_2.segs a_2.d) b.y.lv b.y.lv (devQ a.d a.d (idxQ a_9.x a'.x a_9.cap a'.cap ((a'.i<=a.es.length /\
 Ix.Has a'.x (idxTo a.es (allR (openM a.from_ a.segs a.d).l) a'.i))/\a.es.length - a'.i<a.es.length - a_9.i)))))))/\(decide ((↑a_9.i:Int)<(↑(slLen b_2.v):Int))=false->∃ b_3:FlP,0=0/\(0:Int)=0/\0=0/\0=0/\0=0/\logQ (openM a_2.from_ a_2.segs a_2.d) (opnF a).L b.y.lv b_3.y.lv (idxQ a_9.x b_3.x a_9.cap b_3.cap (b_2.H=b_3.H/\(FlAt (opnF a) b_3/\∀ z:Nat,a.H z≠none->b_3.H z=a.H z/\¬z∈fpLog b_3.y)/\True))))))) (by kernel_rfl) (by
 rintro ⟨H,d,fr,sg,es⟩ ⟨ok,hes,hsl⟩;dsimp only at *;obtain ⟨L,hL⟩:∃ L,L=openM fr sg d:=⟨_,rfl⟩
 have hone:L.l.length<=1:=by rw [hL];exact ok.one
 have hopn:opnF ⟨H,d,fr,sg,es⟩=⟨L,d,idxTo es (allR L.l) es.length⟩:=by rw [hL];rfl
 rw [hopn];rw [<- hL] at hes hsl;refine ⟨OpA.mk H d fr sg,?_⟩;dsimp only;rw [<- hL]
 (repeat' apply And.intro)<;>first|with_reducible (first|rfl|trivial|assumption)|omega|with_reducible (first|exact RowsEq.refl _ _ _|exact Nat.le_refl _)|(dsimp only [List.length_cons,List.length_nil]<;>omega)|rfl|exact RowsEq.refl _ _ _|exact Nat.le_refl _|exact ok|skip
 rintro ⟨H1,y1⟩ ⟨hl1,hf1⟩;dsimp only at hl1 hf1 ⊢;refine ⟨fun c=>absurd c (by decide),fun _=>⟨(),trivial,fun _ _=>⟨LAllA.mk H1 y1 L,?_⟩⟩⟩;have hrec:∀ i,i<L.l.length->(gl L.l i).recs.length<=400/\∀ k,k<(gl L.l i).recs.length->1<=(gl (gl L.l i).recs k).body.length/\(gl (gl L.l i).recs k).body.length<=1000:=fun i hi=>⟨hsl i hi,fun k hk=>by
  obtain ⟨j,hj,e⟩:=allR_at hi hk;obtain ⟨e1,e2⟩:=hes.at_ j (by rw [hes.len];exact hj);rw [<- e,e1];have:=bodyOf_len e2;omega⟩
 (repeat' apply And.intro)<;>first|with_reducible (first|rfl|trivial|assumption)|omega|with_reducible (first|exact RowsEq.refl _ _ _|exact Nat.le_refl _)|(dsimp only [List.length_cons,List.length_nil]<;>omega)|rfl|exact RowsEq.refl _ _ _|exact Nat.le_refl _|exact hl1|exact hrec|(dsimp only;omega)|skip
 rintro ⟨H2,v,vs⟩ ⟨hout,hf2⟩;dsimp only at hout hf2 ⊢;obtain ⟨cr,hrows⟩:=hout.rows;obtain ⟨s1,s2,s3,s4,s5,⟨sa,s6⟩,s7⟩:=slAt_len hrows;have hlen:=hes.len;have hfew:=hes.few;have hlog:LogAt H2 y1 L:=hl1.frame fun z hz=>(hf2 z (hl1.dom z hz)).1;have hfin:∀ z,H z≠none->H2 z=H z/\¬ z∈fpLog y1:=fun z hz=>by
  obtain ⟨a1,a2⟩:=hf1 z hz;exact ⟨(hf2 z (by rw [a1];exact hz)).1.trans a1,a2⟩
 refine ⟨⟨sa,_,_,s6,by simp only [lenMax];omega⟩,⟨⟨0,Ix.emptyI 16,16⟩,?_⟩,fun q hq=>?_⟩
 ·have h0:Ix.Has (Ix.emptyI 16) (idxTo es (allR L.l) 0):=Ix.empty_has (by omega) (by omega)
  (repeat' apply And.intro)<;>first|with_reducible (first|rfl|trivial|assumption)|omega|with_reducible (first|exact RowsEq.refl _ _ _|exact Nat.le_refl _)|(dsimp only [List.length_cons,List.length_nil]<;>omega)|rfl|exact RowsEq.refl _ _ _|exact Nat.le_refl _|exact h0
 ·obtain ⟨i,x,xc⟩:=q;obtain ⟨hi,hx⟩:=hq;dsimp only at hi hx ⊢;have hxl:(idxTo es (allR L.l) i).length<=i:=idxTo_len es (allR L.l) i;have hn:=has_few hx;have hstep:idxTo es (allR L.l) (i+1)=idxStep (idxTo es (allR L.l) i) (gl es i) (gl (allR L.l) i).pos:=rfl;rw [s1];refine ⟨fun c1=>?_,fun c1=>⟨⟨H2,y1,x,xc⟩,?_⟩⟩
  ·have hi':i<es.length:=by have:=of_decide_eq_true c1;omega
   obtain ⟨b',lo',o',cs',q1,q2,q3,q4,q5,q6,q7,q8⟩:=rec_at hrows (k:=i) (by omega);obtain ⟨cb,hbody⟩:=hout.body i (by omega);obtain ⟨e1,e2⟩:=hes.at_ i hi';rw [e1] at hbody;obtain ⟨w1,w2,w3,w4,w5,⟨wa,w7⟩,w6⟩:=slAt_len hbody;obtain ⟨hb1,hb2⟩:=bodyOf_len e2;refine ⟨_,_,_,_,q1,by omega,b',lo',o'+i*2,cs',by rw [Int.toNat_natCast];congr 1;omega,q2,⟨⟨_,q3,_,rfl,q6⟩,⟨_,q4,q5⟩,trivial⟩,?_⟩;rw [q7,q8];refine ⟨⟨⟨gl es i,cb⟩,H2,vs.getD i undef⟩,rfl,rfl,⟨⟨e2,w3⟩,hbody⟩,fun _ _=>⟨⟨wa,_,_,w7,by simp only [lenMax];omega⟩,?_⟩⟩;rw [w1];dsimp only [toI];cases ho:gl es i with
   | none =>
    rw [ho] at hbody hstep;refine ⟨fun _=>?_,fun c=>absurd c (by simp [bodyOf])⟩;rcases hbody with ⟨_,h0,_⟩ | ⟨b9,lo9,o9,cs9,h9,h91,h92,h93,h94⟩
    ·cases h0
    obtain ⟨k1,_⟩:=h94.at_ 0 (by simp [bodyOf]) 0 (.int .u8) rfl;have k1:cs9[o9]? = some (.int .u8 2):=k1;have k2:cs9.getD o9 (Value.tuple #[]) = .int .u8 2:=by rw [List.getD_eq_getElem?_getD,k1];rfl
    refine ⟨_,_,_,_,h9,by simp [bodyOf],b9,lo9,o9,cs9,rfl,h92,⟨⟨_,k1,2,rfl,by simp only [InR];omega⟩,trivial⟩,fun _=>?_⟩;rw [k2];dsimp only [toI];refine ⟨fun _=>⟨(),trivial,fun _ _=>⟨by simp only [InR];omega,⟨i+1,Ix.emptyI 16,16⟩,?_⟩⟩,fun c=>absurd c (by decide)⟩;have h0:Ix.Has (Ix.emptyI 16) (idxTo es (allR L.l) (i+1)):=by rw [hstep];exact Ix.empty_has (by omega) (by omega)
    (repeat' apply And.intro)<;>first|with_reducible (first|rfl|trivial|assumption)|omega|with_reducible (first|exact RowsEq.refl _ _ _|exact Nat.le_refl _)|(dsimp only [List.length_cons,List.length_nil]<;>omega)|rfl|exact RowsEq.refl _ _ _|exact Nat.le_refl _|exact h0|(dsimp only;omega)
   | some it =>
    rw [ho] at hbody hstep e2;have hmay:=e2 it rfl;have hks:it.key.size<=lenMax:=by have:=may_out hmay;simp only [lenMax];omega
    have hl2:(bodyOf (some it)).length≠1:=by have:=itemB_250 hmay;simp only [bodyOf,List.length_cons];omega
    have hl3:(((bodyOf (some it)).length:Int) == 1)=false:=by rw [beq_eq_false_iff_ne];omega
    refine ⟨fun c=>by (rw [hl3] at c;cases c),fun _=>⟨fun _=>⟨fun cg=>⟨Ix.KeyA.mk x xc it.key,?_⟩,fun cg=>⟨fun _ _=>⟨Ix.PutA.mk x xc it.key (gl (allR L.l) i).pos,?_⟩,fun c=>absurd c (show ¬ (true=false) by decide)⟩⟩,fun c=>absurd c (show ¬ (true=false) by decide)⟩⟩
    ·have cg:it.gone=true:=cg;obtain ⟨hd1,hd2⟩:=has_drop (k:=it.key) hx;have hd3:Ix.Has (Ix.dropI x it.key) (idxTo es (allR L.l) (i+1)):=by rw [hstep];simp only [idxStep,cg,if_true];exact hd1
     (repeat' apply And.intro)<;>first|with_reducible (first|rfl|trivial|assumption)|omega|with_reducible (first|exact RowsEq.refl _ _ _|exact Nat.le_refl _)|(dsimp only [List.length_cons,List.length_nil]<;>omega)|rfl|exact RowsEq.refl _ _ _|exact Nat.le_refl _|exact hx.inv|exact hks|exact hd2|(dsimp only;omega)|skip
     intro _ _;refine ⟨by simp only [InR];omega,⟨i+1,Ix.dropI x it.key,xc⟩,?_⟩
     (repeat' apply And.intro)<;>first|with_reducible (first|rfl|trivial|assumption)|omega|with_reducible (first|exact RowsEq.refl _ _ _|exact Nat.le_refl _)|(dsimp only [List.length_cons,List.length_nil]<;>omega)|rfl|exact RowsEq.refl _ _ _|exact Nat.le_refl _|exact hd3|(dsimp only;omega)
    ·have cg:it.gone=false:=cg;have hp1:=has_put (p:=(gl (allR L.l) i).pos) hx (by omega) hks;have hp3:Ix.Has (Ix.putX x it.key (gl (allR L.l) i).pos) (idxTo es (allR L.l) (i+1)):=by rw [hstep];simp only [idxStep,cg];exact hp1
     (repeat' apply And.intro)<;>first|with_reducible (first|rfl|trivial|assumption)|omega|with_reducible (first|exact RowsEq.refl _ _ _|exact Nat.le_refl _)|(dsimp only [List.length_cons,List.length_nil]<;>omega)|rfl|exact RowsEq.refl _ _ _|exact Nat.le_refl _|exact hx.inv|exact hks|(dsimp only;omega)|skip
     intro c2 _;refine ⟨by simp only [InR];omega,⟨i+1,Ix.putX x it.key (gl (allR L.l) i).pos,c2⟩,?_⟩
     (repeat' apply And.intro)<;>first|with_reducible (first|rfl|trivial|assumption)|omega|with_reducible (first|exact RowsEq.refl _ _ _|exact Nat.le_refl _)|(dsimp only [List.length_cons,List.length_nil]<;>omega)|rfl|exact RowsEq.refl _ _ _|exact Nat.le_refl _|exact hp3|(dsimp only;omega)
  ·have hi':i=es.length:=by have:=of_decide_eq_false c1;omega
   subst hi'
   (repeat' apply And.intro)<;>first|with_reducible (first|rfl|trivial|assumption)|omega|with_reducible (first|exact RowsEq.refl _ _ _|exact Nat.le_refl _)|(dsimp only [List.length_cons,List.length_nil]<;>omega)|rfl|exact RowsEq.refl _ _ _|exact Nat.le_refl _|exact ⟨hlog,hx⟩|exact hfin)
theorem callFOpen:CallsBy (Y Tryz.prog).G.X 8 cFOpen:=fn_ok okY (tab:=tabFOpen) ⟨callLOpen,callINew,callLAll,callFReadV,Ix.callDrop,Ix.callPut,trivial⟩ bodyFOpen
end Go.Proofs.YtfobhkibkdmglaaGreat

namespace Go.Proofs.YtfobhkibkdmglaaGreat
open Go.Sx
set_option maxRecDepth 100000
set_option linter.unusedVariables false
set_option linter.unusedSimpArgs false
theorem getTo_congr {f g:Nat->Int}:∀ {n:Nat},(∀ k,k<n->f k=g k)->getTo f n=getTo g n
 | 0,_=>rfl
 | n+1,h=>by
  simp only [getTo];rw [getTo_congr fun k hk=>h k (by omega),h n (by omega)]
theorem or_byte {a b:Nat} (ha:a<2 ^ 56) (hb:b<256):ibits .or .u64 (uw .u64 ((a:Int)*2 ^ 8)) b=((a*256+b:Nat):Int):=by
 have e1:uw .u64 ((a:Int)*2 ^ 8)=((a*256:Nat):Int):=by simp only [uw];omega
 rw [e1,ibits_or _ _ (by omega) (by omega)];have:=Nat.two_pow_add_eq_or_of_lt (i:=8) (b:=b) hb a;rw [Nat.mul_comm a 256];show ((2 ^ 8*a ||| b:Nat):Int)=((2 ^ 8*a+b:Nat):Int)
 rw [this]
theorem getTo_be {v:Nat} {len:Nat} (hl:len<=8) (hv:v<256 ^ len):∀ k,k<=len->getTo (fun k=>beB v len k) k=((v / 256 ^ (len - k):Nat):Int)
 | 0,_=>by simp [getTo,Nat.div_eq_of_lt hv]
 | k+1,hk=>by
  have ih:=getTo_be hl hv k (by omega);simp only [getTo];rw [ih];have eb:beB v len k=((v / 256 ^ (len - (k+1)) % 256:Nat):Int):=by
   have e2:(2:Int) ^ (8*(len - 1 - k))=((256 ^ (len - (k+1)):Nat):Int):=by
    rw [Int.natCast_pow,show len - 1 - k=len - (k+1) by omega,Int.pow_mul];rfl
   simp only [beB,uw];rw [e2];omega
  rw [eb];have e3:256 ^ (len - k)=256 ^ (len - (k+1))*256:=by rw [show len - k=len - (k+1)+1 by omega,Nat.pow_succ]
  have e4:v / 256 ^ (len - k)=v / 256 ^ (len - (k+1)) / 256:=by rw [e3,Nat.div_div_eq_div_mul]
  have hlt:v / 256 ^ (len - k)<2 ^ 56:=by
   have h1:v / 256 ^ (len - k)<256 ^ k:=Nat.div_lt_of_lt_mul (by rw [<- Nat.pow_add,show len - k+k=len by omega];exact hv);have h2:256 ^ k<=256 ^ 7:=Nat.pow_le_pow_right (by decide) (by omega);exact Nat.lt_of_lt_of_le h1 h2
  rw [or_byte hlt (Nat.mod_lt _ (by decide)),e4];congr 1;omega
theorem gB_be {f:Nat->Int} {v r len:Nat} (hl:len<=8) (hv:v<256 ^ len) (hf:∀ k,k<len->f (r+k)=beB v len k):gB f r len=v:=by
 unfold gB;rw [getTo_congr hf,getTo_be hl hv len (Nat.le_refl _)];simp
theorem gB_zero {r len:Nat} {f:Nat->Int} (hl:len<=8) (hf:∀ k,k<len->f (r+k)=0):gB f r len=0 :=
 gB_be (v:=0) hl (Nat.pow_pos (by decide)) fun k hk=>by rw [hf k hk];simp [beB,uw]
theorem crcTo_congr {f g:Nat->Int}:∀ {n:Nat},(∀ k,k<n->f k=g k)->crcTo f n=crcTo g n
 | 0,_=>rfl
 | n+1,h=>by
  simp only [crcTo];rw [crcTo_congr fun k hk=>h k (by omega),h n (by omega)]
theorem sumB_congr {f g:Nat->Int} (h:∀ k,4<=k->k<64->f k=g k):sumB f=sumB g:=by
 unfold sumB;rw [crcTo_congr fun k hk=>h (4+k) (by omega) (by omega)]
theorem sumB_rng (f:Nat->Int):0<=sumB f/\sumB f<4294967296:=by
 unfold sumB ibits;simp only [uw_eq,uw];omega
theorem sumB_zero:sumB (fun _=>0)≠0:=by decide +kernel
end Go.Proofs.YtfobhkibkdmglaaGreat

namespace Go.Proofs.YtfobhkibkdmglaaGreat
open Go.Sx
set_option maxRecDepth 100000
set_option linter.unusedVariables false
set_option linter.unusedSimpArgs false
structure SegNum (g:SegM) (run:Int):Prop where
 gen:0<=g.gen/\g.gen<281474976710656
 base:0<=g.base/\g.base<281474976710656
 run:0<=run/\run<4294967296
 len:g.buf.length<=378
theorem toNat_u64 {x:Int} (h0:0<=x) (h1:x<281474976710656):uw .u64 x=(x.toNat:Int):=by simp only [uw];omega
theorem sum_sec (g:SegM) (i:Nat) (run:Int):gB (secB g i run) 0 4=sumB (sec0 g i run)/\sumB (secB g i run)=sumB (sec0 g i run):=by
 obtain ⟨h1,h2⟩:=sumB_rng (sec0 g i run);refine ⟨?_,sumB_congr fun k hk _=>by simp only [secB];rw [if_neg (by omega)]⟩;obtain ⟨v,hv⟩:∃ v:Nat,sumB (sec0 g i run)=v:=⟨(sumB (sec0 g i run)).toNat,by omega⟩
 rw [hv];refine gB_be (by omega) (show v<256 ^ 4 by omega) fun k hk=>?_;simp only [secB,Nat.zero_add];rw [if_pos hk,hv]
theorem gen_sec {g:SegM} {i:Nat} {run:Int} (h:SegNum g run):gB (secB g i run) 4 6=g.gen:=by
 obtain ⟨h1,h2⟩:=h.gen;have:=gB_be (f:=secB g i run) (v:=g.gen.toNat) (r:=4) (len:=6) (by omega) (show g.gen.toNat<256 ^ 6 by omega) fun k hk=>by
  simp only [secB,sec0];rw [if_neg (by omega),if_neg (by omega),if_pos (by omega),toNat_u64 h1 h2,Nat.add_sub_cancel_left]
 rw [this];omega
theorem run_sec {g:SegM} {i:Nat} {run:Int} (h:SegNum g run):gB (secB g i run) 10 4=run:=by
 obtain ⟨h1,h2⟩:=h.run;have:=gB_be (f:=secB g i run) (v:=run.toNat) (r:=10) (len:=4) (by omega) (show run.toNat<256 ^ 4 by omega) fun k hk=>by
  simp only [secB,sec0];rw [if_neg (by omega),if_neg (by omega),if_neg (by omega),if_pos (by omega),toNat_u64 h1 (by omega),Nat.add_sub_cancel_left]
 rw [this];omega
theorem base_sec {g:SegM} {run:Int} (h:SegNum g run):gB (secB g 0 run) 16 6=g.base:=by
 obtain ⟨h1,h2⟩:=h.base;have:=gB_be (f:=secB g 0 run) (v:=g.base.toNat) (r:=16) (len:=6) (by omega) (show g.base.toNat<256 ^ 6 by omega) fun k hk=>by
  simp only [secB,sec0];rw [if_neg (by omega),if_neg (by omega),if_neg (by omega),if_neg (by omega),if_neg (by omega),if_neg (by omega),if_pos trivial,if_pos (by omega),toNat_u64 h1 (by omega),Nat.add_sub_cancel_left]
 rw [this];omega
theorem at14_sec (g:SegM) (i:Nat) (run:Int):secB g i run 14=i/\secB g i run 15=usedS g.buf.length i:=by
 simp [secB,sec0]
theorem part_sec (g:SegM) (i:Nat) (run:Int) {k:Nat} (hk:k<usedS g.buf.length i):secB g i run (offS i+k)=gl g.buf (startS i+k):=by
 have hr:usedS g.buf.length i<=roomS i:=Nat.min_le_left _ _;by_cases hi:i=0
 ·subst hi;simp only [secB,sec0,offS,startS,roomS,if_true] at *;rw [if_neg (by omega),if_neg (by omega),if_neg (by omega),if_neg (by omega),if_neg (by omega),if_neg (by omega),if_neg (by omega),if_pos (by omega)];congr 1;omega
 ·simp only [secB,sec0,offS,startS,roomS,if_neg hi] at *;rw [if_neg (by omega),if_neg (by omega),if_neg (by omega),if_neg (by omega),if_neg (by omega),if_neg (by omega),if_pos (by omega)];congr 1;omega
theorem uw_i64 {x:Int} (h0:0<=x) (h1:x<281474976710656):uw .i64 x=x:=wrap_of_InR (by simp only [InR];omega)
def tkG (g:SegM) (run:Int) (i:Nat):SegM:=if i=0 then g0 else ⟨g.gen,g.base,run,g.buf.take (startS i),[]⟩
theorem take_ok {g:SegM} {run:Int} (h:SegNum g run) {i:Nat} (hi:i<8) (hs:startS i<g.buf.length):takeB (tkG g run i) i (secB g i run)=true/\takeM (tkG g run i) i (secB g i run)=tkG g run (i+1):=by
 obtain ⟨s1,s2⟩:=sum_sec g i run;have s3:=gen_sec (i:=i) h;have s4:=run_sec (i:=i) h;obtain ⟨s5,s6⟩:=at14_sec g i run;have hr0:=h.run;have hg0:=h.gen;have hb0:=h.base;have e1:uw .i64 g.gen=g.gen:=uw_i64 hg0.1 hg0.2;have e2:uw .i64 run=run:=uw_i64 hr0.1 (by omega);have e3:uw .i64 g.base=g.base:=uw_i64 hb0.1 hb0.2;have hu:usedS g.buf.length i<=roomS i:=Nat.min_le_left _ _;have hlen:(tkG g run i).buf.length=startS i:=by
  unfold tkG;split
  ·rename_i h0;subst h0;rfl
  ·simp;omega
 have htg:takeG (tkG g run i) i (secB g i run)={ tkG g run i with gen:=g.gen,base:=g.base }:=by
  unfold takeG;by_cases h0:i=0
  ·subst h0;rw [if_pos rfl,s3,base_sec h,e1,e3]
  ·rw [if_neg h0];unfold tkG;rw [if_neg h0]
 have hB:takeB (tkG g run i) i (secB g i run)=true:=by
  unfold takeB;rw [htg,s1,s2,s3,s4,s5,s6,e1,e2,hlen];have hrun:¬ run<(tkG g run i).run:=by
   unfold tkG;split
   ·show ¬ run<0;omega
   ·show ¬ run<run;omega
  simp [hrun];omega
 refine ⟨hB,?_⟩;have hbuf:(tkG g run i).buf++(List.range (usedS g.buf.length i)).map (fun k=>secB g i run (offS i+k))=g.buf.take (startS (i+1)):=by
  have hb:(tkG g run i).buf=g.buf.take (startS i):=by
   unfold tkG;split
   ·rename_i h0;subst h0;simp [g0,startS]
   ·rfl
  have hm:(List.range (usedS g.buf.length i)).map (fun k=>secB g i run (offS i+k))=(g.buf.drop (startS i)).take (usedS g.buf.length i):=by
   refine List.ext_getElem (by simp [usedS];omega) fun k h1 h2=>?_;rw [List.getElem_map,List.getElem_range,part_sec g i run (by simpa using h1),gl_eq (by simp [usedS] at h1;omega)];simp
  have hst:startS (i+1)=startS i+roomS i:=by unfold startS roomS;split<;>omega
  rw [hb,hm,hst,List.take_add];congr 1;by_cases hc:g.buf.length - startS i<=roomS i
  ·rw [show usedS g.buf.length i=g.buf.length - startS i by simp only [usedS];omega,List.take_of_length_le (by simp),List.take_of_length_le (by simp;omega)]
  ·rw [show usedS g.buf.length i=roomS i by simp only [usedS];omega]
 unfold takeM;rw [if_pos hB,htg,s4,s6,e2];have:((usedS g.buf.length i:Nat):Int).toNat=usedS g.buf.length i:=by omega
 rw [this,hbuf];have:(tkG g run i).recs=[]:=by unfold tkG;split<;>rfl
 show (⟨g.gen,g.base,run,List.take (startS (i+1)) g.buf,(tkG g run i).recs⟩:SegM)=_;rw [this];simp [tkG]
theorem take_zero {g:SegM} {i:Nat} {f:Nat->Int} (hf:∀ k,k<64->f k=0):takeB g i f=false:=by
 unfold takeB;have h1:sumB f=sumB fun _=>0:=sumB_congr fun k _ hk=>hf k hk;have h2:gB f 0 4=0:=gB_zero (by omega) fun k hk=>hf _ (by omega);have:(sumB f == gB f 0 4)=false:=by
  rw [h1,h2,beq_eq_false_iff_ne];exact sumB_zero
 rw [this];rfl
structure SegOn (L:LogM) (d:DevM) (k:Nat) (g:SegM) (run:Int):Prop where
 num:SegNum g run
 some_:0<g.buf.length
 sec:∀ i,i<8->∀ j,j<64->secF L d k i j=if startS i<g.buf.length then secB g i run j else 0
theorem takeB_congr {g:SegM} {i:Nat} {f f':Nat->Int} (h:∀ j,j<64->f j=f' j):takeB g i f=takeB g i f':=by
 have a1:sumB f=sumB f':=sumB_congr fun k _ hk=>h k hk;have a2:∀ r len,r+len<=64->gB f r len=gB f' r len:=fun r len hl=>getTo_congr fun k hk=>h _ (by omega);unfold takeB takeG;rw [a1,a2 0 4 (by omega),a2 4 6 (by omega),a2 10 4 (by omega),a2 16 6 (by omega),h 14 (by omega),h 15 (by omega)]
theorem takeM_congr {g:SegM} {i:Nat} {f f':Nat->Int} (h:∀ j,j<64->f j=f' j):takeM g i f=takeM g i f':=by
 have a2:∀ r len,r+len<=64->gB f r len=gB f' r len:=fun r len hl=>getTo_congr fun k hk=>h _ (by omega);have hB:=takeB_congr (g:=g) (i:=i) h;have hG:takeG g i f=takeG g i f':=by unfold takeG;rw [a2 4 6 (by omega),a2 16 6 (by omega)]
 unfold takeM;rw [hB,hG,a2 10 4 (by omega),h 15 (by omega)];split
 ·rename_i hb;have ho:=(takeB_out hb).1;have hro:roomS i+offS i<=64:=by unfold roomS offS;split<;>omega
  have:(List.range (f' 15).toNat).map (fun k=>f (offS i+k))=(List.range (f' 15).toNat).map (fun k=>f' (offS i+k)):=List.map_congr_left fun k hk=>h _ (by have:=List.mem_range.1 hk;omega);rw [this]
 ·rfl
theorem rd_on {L:LogM} {d:DevM} {k:Nat} {g:SegM} {run:Int} (h:SegOn L d k g run):∀ i,i<=8->(rdTo L d k i).g=tkG g run i/\(rdTo L d k i).ok=decide (i=0\/startS (i - 1)<g.buf.length)
 | 0,_=>⟨by simp [tkG,rdTo],by simp [rdTo]⟩
 | i+1,hi=>by
  obtain ⟨e1,e2⟩:=rd_on h i (by omega);have hn:=h.some_;obtain ⟨R,hR⟩:∃ R,R=rdTo L d k i:=⟨_,rfl⟩
  have hst:rdTo L d k (i+1)=rdStep R i (secF L d k i):=by rw [hR];rfl
  rw [<- hR] at e1 e2;rw [hst];by_cases hs:startS i<g.buf.length
  ·have hf:∀ j,j<64->secF L d k i j=secB g i run j:=fun j hj=>by rw [h.sec i (by omega) j hj,if_pos hs]
   obtain ⟨t1,t2⟩:=take_ok h.num (by omega) hs;have hok:R.ok=true:=by
    rw [e2];simp only [decide_eq_true_eq];by_cases h0:i=0
    ·exact .inl h0
    ·right;unfold startS at *;omega
   refine ⟨?_,?_⟩
   ·simp only [rdStep,hok,e1,takeB_congr hf,t1,takeM_congr hf,t2];simp
   ·simp only [rdStep,hok,e1,takeB_congr hf,t1];simp [hs]
  ·have hf:∀ j,j<64->secF L d k i j=0:=fun j hj=>by rw [h.sec i (by omega) j hj,if_neg hs]
   have hi0:i≠0:=fun e=>by subst e;exact hs (show startS 0<g.buf.length from hn)
   have hz:=take_zero (g:=R.g) (i:=i) hf;have htk:tkG g run (i+1)=tkG g run i:=by
    unfold tkG;rw [if_neg (by omega),if_neg hi0,List.take_of_length_le (by unfold startS at *;omega),List.take_of_length_le (by omega)]
   refine ⟨?_,?_⟩
   ·simp only [rdStep,hz,Bool.and_false,Bool.not_false,Bool.true_and];rw [if_neg (by simpa using hi0),takeM_no hz];have:takeG R.g i (secF L d k i)=R.g:=if_neg hi0;rw [this,e1,htk];simp
   ·simp only [rdStep,hz,Bool.and_false]
    symm
    rw [decide_eq_false_iff_not];rintro (e|e)
    ·omega
    ·exact hs (by simpa using e)
theorem rd_ok_on {L:LogM} {d:DevM} {k:Nat} {g:SegM} {run:Int} (h:SegOn L d k g run) (hr:run<100000000000):RdOk L d k:=by
 refine ⟨fun i hi=>?_,fun i hi hok hB=>?_⟩
 ·have e:gB (secF L d k i) 10 4=if startS i<g.buf.length then run else 0:=by
   split
   ·rename_i hs;rw [<- run_sec (i:=i) h.num];exact getTo_congr fun j hj=>by rw [h.sec i hi _ (by omega),if_pos hs]
   ·rename_i hs;exact gB_zero (by omega) fun j hj=>by rw [h.sec i hi _ (by omega),if_neg hs]
  rw [e];have:=h.num.run;split
  ·rw [uw_i64 this.1 (by omega)];omega
  ·rw [uw_i64 (by omega) (by omega)];omega
 ·by_cases hs:startS i<g.buf.length
  ·rw [h.sec i hi 15 (by omega),if_pos hs,(at14_sec g i run).2];have:0<usedS g.buf.length i:=by unfold usedS roomS;split<;>omega
   omega
  ·rw [take_zero (fun j hj=>by rw [h.sec i hi j hj,if_neg hs])] at hB;cases hB
theorem seg_on {L:LogM} {d:DevM} {k:Nat} {g:SegM} {run:Int} (h:SegOn L d k g run) (hg:1<=g.gen) (hk:(g.gen - 1).tmod L.segs=k):segOf L d k=some (recsM ⟨g.gen,g.base,run,g.buf,[]⟩):=by
 obtain ⟨e1,_⟩:=rd_on h 8 (Nat.le_refl _);have e2:tkG g run 8=⟨g.gen,g.base,run,g.buf,[]⟩:=by
  unfold tkG;rw [if_neg (by decide),List.take_of_length_le (by have:=h.num.len;simp only [startS];omega)]
 unfold segOf;rw [e1,e2];rw [if_neg (by rintro (e|e)<;>dsimp only at e<;>omega)]
theorem rd_none {L:LogM} {d:DevM} {k:Nat} (h:∀ i,i<8->∀ j,j<64->secF L d k i j=0):RdOk L d k/\segOf L d k=none/\∀ i,i<=8->(rdTo L d k i).run=if i=0 then L.run else max L.run 1:=by
 have hgB:∀ i,i<8->uw .i64 (gB (secF L d k i) 10 4)=0:=fun i hi=>by
  rw [gB_zero (by omega) fun j hj=>h i hi _ (by omega)];rfl
 have key:∀ i,i<=8->(0<i->(rdTo L d k i).ok=false/\(rdTo L d k i).g.gen=0)/\(rdTo L d k i).run=if i=0 then L.run else max L.run 1:=by
  intro i
  induction i with
  | zero=>exact fun _=>⟨fun h=>absurd h (Nat.lt_irrefl 0),rfl⟩
  | succ i ih =>
   intro hi;obtain ⟨h1,h2⟩:=ih (by omega);obtain ⟨R,hR⟩:∃ R,R=rdTo L d k i:=⟨_,rfl⟩
   have hst:rdTo L d k (i+1)=rdStep R i (secF L d k i):=by rw [hR];rfl
   rw [<- hR] at h1 h2;have hz:=take_zero (g:=R.g) (i:=i) (h i (by omega));rw [hst];refine ⟨fun _=>⟨by simp only [rdStep,hz,Bool.and_false],?_⟩,?_⟩
   ·simp only [rdStep,hz,Bool.and_false,Bool.not_false,Bool.true_and];by_cases h0:i=0
    ·rw [if_pos (by simpa using h0)]
    ·rw [if_neg (by simpa using h0),(h1 (by omega)).1];exact (h1 (by omega)).2
   ·simp only [rdStep,hgB i (by omega),h2];rw [if_neg (Nat.succ_ne_zero i)];split<;>omega
 refine ⟨⟨fun i hi=>by rw [hgB i hi];omega,fun i hi _ hB=>?_⟩,?_,fun i hi=>(key i hi).2⟩
 ·rw [take_zero (h i hi)] at hB;cases hB
 ·unfold segOf;rw [((key 8 (Nat.le_refl _)).1 (by omega)).2,if_pos (.inl (by omega))]
end Go.Proofs.YtfobhkibkdmglaaGreat

namespace Go.Proofs.YtfobhkibkdmglaaGreat
open Go.Sx
set_option maxRecDepth 100000
set_option linter.unusedVariables false
set_option linter.unusedSimpArgs false
def recBytes (r:RecM):List Int:=hdrB r.body.length r.pos++r.body
def bufOf (rs:List RecM):List Int:=rs.flatMap recBytes
structure GoodR (r:RecM):Prop where
 len:1<=r.body.length/\r.body.length<=300
 pos:0<=r.pos/\r.pos<140737488355328
theorem hdr_n {n:Nat} {p:Int} (h:n<65536):∀ k,k<2->gl (hdrB n p) k=beB n 2 k:=by
 have e:uw .u64 (n:Int)=n:=by simp only [uw];omega
 intro k hk
 match k,hk with
 | 0,_=>show uw .u8 (uw .u64 (n:Int) / 256)=_;rw [e];simp [beB]
 | 1,_=>show uw .u8 (uw .u64 (n:Int) / 1)=_;rw [e];simp [beB]
theorem hdr_p {n:Nat} {p:Int} (h0:0<=p) (h1:p<140737488355328):∀ k,k<6->gl (hdrB n p) (2+k)=beB p.toNat 6 k:=by
 have e:uw .u64 p=(p.toNat:Int):=toNat_u64 h0 (by omega);intro k hk
 match k,hk with
 | 0,_=>show uw .u8 (uw .u64 p / 1099511627776)=_;rw [e];simp [beB]
 | 1,_=>show uw .u8 (uw .u64 p / 4294967296)=_;rw [e];simp [beB]
 | 2,_=>show uw .u8 (uw .u64 p / 16777216)=_;rw [e];simp [beB]
 | 3,_=>show uw .u8 (uw .u64 p / 65536)=_;rw [e];simp [beB]
 | 4,_=>show uw .u8 (uw .u64 p / 256)=_;rw [e];simp [beB]
 | 5,_=>show uw .u8 (uw .u64 p / 1)=_;rw [e];simp [beB]
theorem hdr_len (n:Nat) (p:Int):(hdrB n p).length=8:=rfl
theorem rec_len (r:RecM):(recBytes r).length=8+r.body.length:=by simp [recBytes,hdr_len]
theorem rec_found {pre rest:List Int} {r:RecM} (h:GoodR r):recOk (pre++(recBytes r++rest)) pre.length=true/\recN (pre++(recBytes r++rest)) pre.length=r.body.length/\recAt (pre++(recBytes r++rest)) pre.length=r:=by
 obtain ⟨l1,l2⟩:=h.len;obtain ⟨p1,p2⟩:=h.pos;obtain ⟨buf,hbuf⟩:∃ b,b=pre++(recBytes r++rest):=⟨_,rfl⟩
 have at_:∀ k,k<8->gl buf (pre.length+k)=gl (hdrB r.body.length r.pos) k:=fun k hk=>by
  rw [hbuf,gl_append_right,gl_append_left (by rw [rec_len];omega),recBytes,gl_append_left (by rw [hdr_len];exact hk)]
 have hN:recN buf pre.length=r.body.length:=by
  unfold recN;have:getTo (fun k=>gl buf (pre.length+k)) 2=(r.body.length:Int):=by
   have:=gB_be (f:=fun k=>gl buf k) (v:=r.body.length) (r:=pre.length) (len:=2) (by omega) (by omega) fun k hk=>by
    show gl buf (pre.length+k)=_;rw [at_ k (by omega),hdr_n (by omega) k hk]
   exact this
  rw [this,uw_i64 (by omega) (by omega)]
 have hP:recP buf pre.length=r.pos:=by
  unfold recP;have:getTo (fun k=>gl buf (pre.length+2+k)) 6=(r.pos.toNat:Int):=by
   have:=gB_be (f:=fun k=>gl buf k) (v:=r.pos.toNat) (r:=pre.length+2) (len:=6) (by omega) (by omega) fun k hk=>by
    show gl buf (pre.length+2+k)=_;rw [Nat.add_assoc,at_ (2+k) (by omega),hdr_p p1 p2 k hk]
   exact this
  rw [this,uw_i64 (by omega) (by omega)];omega
 have hlen:buf.length=pre.length+(8+r.body.length+rest.length):=by rw [hbuf];simp [rec_len]
 rw [<- hbuf];refine ⟨?_,hN,?_⟩
 ·unfold recOk;rw [hN,hlen];simp only [Bool.and_eq_true,decide_eq_true_eq];omega
 ·unfold recAt;rw [hN,hP];have:(buf.drop (pre.length+8)).take ((r.body.length:Nat):Int).toNat=r.body:=by
   have e:buf=(pre++hdrB r.body.length r.pos)++(r.body++rest):=by rw [hbuf,recBytes];simp [List.append_assoc]
   rw [e,List.drop_left' (by simp [hdr_len]),Int.toNat_natCast,List.take_left' rfl]
  rw [this]
theorem parse_all:∀ (rs:List RecM) (pre:List Int) (k:Nat),rs.length<=k->(∀ r∈rs,GoodR r)->parseR (pre++bufOf rs) k pre.length=(rs,(pre++bufOf rs).length)
 | [],pre,k,_,_=>by
  have e:bufOf []=[]:=rfl;rw [e,List.append_nil];cases k with
  | zero=>rfl
  | succ k =>
   have:recOk pre pre.length=false:=by
    unfold recOk;rw [show decide (pre.length+8<=pre.length)=false from decide_eq_false (by omega)];rfl
   simp [parseR,this]
 | r::rs,pre,0,hk,_=>by simp at hk
 | r::rs,pre,k+1,hk,hg=>by
  have e:bufOf (r::rs)=recBytes r++bufOf rs:=rfl;obtain ⟨f1,f2,f3⟩:=rec_found (pre:=pre) (rest:=bufOf rs) (hg r List.mem_cons_self);have ih:=parse_all rs (pre++recBytes r) k (by simpa using hk) fun x hx=>hg x (List.mem_cons_of_mem _ hx);have hpl:(pre++recBytes r).length=pre.length+8+r.body.length:=by simp [rec_len];omega
  rw [List.append_assoc,hpl] at ih;rw [e];unfold parseR;rw [if_pos f1,f2,f3];rw [Int.toNat_natCast,ih]
theorem bufOf_len:∀ (rs:List RecM),(∀ r∈rs,GoodR r)->rs.length*9<=(bufOf rs).length
 | [],_=>Nat.zero_le _
 | r::rs,h=>by
  have ih:=bufOf_len rs fun x hx=>h x (List.mem_cons_of_mem _ hx);have:=(h r List.mem_cons_self).len;show (rs.length+1)*9<=(recBytes r++bufOf rs).length;rw [List.length_append,rec_len];omega
theorem bufOf_push (rs:List RecM) (r:RecM):bufOf (rs++[r])=bufOf rs++recBytes r:=by simp [bufOf]
theorem recs_back {gen base run:Int} {rs:List RecM} (h:∀ r∈rs,GoodR r) (hl:(bufOf rs).length<=378):recsM ⟨gen,base,run,bufOf rs,[]⟩=⟨gen,base,run,bufOf rs,rs⟩:=by
 have h9:=bufOf_len rs h;have hp:=parse_all rs [] 50 (by omega) h;rw [List.nil_append,List.length_nil] at hp;unfold recsM;dsimp only;rw [hp];simp
structure DevIs (fr sg:Nat) (o:Option SegM) (run:Int) (d:DevM):Prop where
 sec:∀ i,i<8->∀ j,j<64->d.now (fr+i) j=match o with|none=>0|some g=>if startS i<g.buf.length then secB g i run j else 0
 rest:∀ r,fr+8<=r->r<fr+sg*8->∀ j,j<64->d.now r j=0
theorem DevIs.far {fr sg k:Nat} {o:Option SegM} {run:Int} {d:DevM} (h:DevIs fr sg o run d) (hk:1<=k) (hk2:k<sg) {L:LogM} (hL:L.from_=fr):∀ i,i<8->∀ j,j<64->secF L d k i j=0:=fun i hi j hj=>by
 unfold secF;rw [hL];exact h.rest _ (by omega) (by omega) j hj
theorem open_none {fr sg:Nat} {run:Int} {d:DevM} (h:DevIs fr sg none run d) (h3:3<=sg/\sg<=200) (hr:fr+sg*8<=d.n) (hn:d.n<100000):OpenOk fr sg d/\openM fr sg d=⟨fr,sg,[],1,1,true⟩:=by
 have hz:∀ k,k<sg->∀ (L:LogM),L.from_=fr->∀ i,i<8->∀ j,j<64->secF L d k i j=0:=fun k hk L hL i hi j hj=>by
  by_cases h0:k=0
  ·subst h0;unfold secF;rw [hL,Nat.zero_mul,Nat.add_zero];exact h.sec i hi j hj
  ·exact h.far (by omega) hk hL i hi j hj
 have key:∀ k,k<=sg->opL fr sg d k=⟨fr,sg,[],1,1,true⟩:=by
  intro k
  induction k with
  | zero=>exact fun _=>rfl
  | succ k ih =>
   intro hk;have ih:=ih (by omega);obtain ⟨_,e2,e3⟩:=rd_none (hz k (by omega) ⟨fr,sg,[],1,1,true⟩ rfl);show { opL fr sg d k with l:=(opL fr sg d k).l++(segOf (opL fr sg d k) d k).toList,run:=(rdTo (opL fr sg d k) d k 8).run }=_;rw [ih,e2,e3 8 (Nat.le_refl _)];rfl
 refine ⟨⟨h3,hr,hn,fun k hk=>?_,?_,?_⟩,?_⟩
 ·rw [key k (by omega)];exact (rd_none (hz k hk ⟨fr,sg,[],1,1,true⟩ rfl)).1
 ·rw [key sg (Nat.le_refl _)];exact Nat.zero_le _
 ·rw [key sg (Nat.le_refl _)];exact fun i hi=>absurd hi (Nat.not_lt_zero i)
 ·unfold openM;rw [key sg (Nat.le_refl _)];rfl
theorem open_one {fr sg:Nat} {base run:Int} {rs:List RecM} {grun:Int} {d:DevM} (h:DevIs fr sg (some ⟨1,base,grun,bufOf rs,rs⟩) run d) (h3:3<=sg/\sg<=200) (hr:fr+sg*8<=d.n) (hn:d.n<100000)
 (hg:∀ r∈rs,GoodR r/\r.pos<100000000000) (hne:rs≠[]) (hl:(bufOf rs).length<=378) (hb:0<=base/\base<100000000000) (hrun:0<=run/\run<4294967296) :
 OpenOk fr sg d/\(openM fr sg d).from_=fr/\(openM fr sg d).segs=sg/\(openM fr sg d).l=[⟨1,base,run,bufOf rs,rs⟩]/\(openM fr sg d).next=(rs.getLast hne).pos+65:=by
 have hg1:∀ r∈rs,GoodR r:=fun r hr=>(hg r hr).1;have h9:=bufOf_len rs hg1;have hpos:0<rs.length:=List.length_pos_iff.2 hne;obtain ⟨g,hgg⟩:∃ g:SegM,g=⟨1,base,grun,bufOf rs,rs⟩:=⟨_,rfl⟩
 have hgb:g.buf=bufOf rs:=by rw [hgg]
 have hgen:g.gen=1:=by rw [hgg]
 have hgba:g.base=base:=by rw [hgg]
 rw [<- hgg] at h;have hon:∀ (L:LogM),L.from_=fr->SegOn L d 0 g run:=fun L hL=>⟨⟨by rw [hgen];omega,by rw [hgba];omega,hrun,by rw [hgb];exact hl⟩,by rw [hgb];omega,fun i hi j hj=>by
  unfold secF;rw [hL,Nat.zero_mul,Nat.add_zero];exact h.sec i hi j hj⟩
 have hfar:∀ k,1<=k->k<sg->∀ (L:LogM),L.from_=fr->∀ i,i<8->∀ j,j<64->secF L d k i j=0:=fun k h1 hk L hL=>h.far h1 hk hL;have hseg:∀ (L:LogM),L.from_=fr->L.segs=sg->segOf L d 0=some ⟨1,base,run,bufOf rs,rs⟩:=fun L hL hS=>by
  rw [seg_on (hon L hL) (by rw [hgen];omega) (by rw [hgen,hS];simp),hgen,hgba,hgb,recs_back hg1 hl]
 have key:∀ k,1<=k->k<=sg->(opL fr sg d k).l=[⟨1,base,run,bufOf rs,rs⟩]:=by
  intro k
  induction k with
  | zero=>exact fun h _=>absurd h (by omega)
  | succ k ih =>
   intro _ hk;obtain ⟨m1,m2,_,_⟩:=opL_same fr sg d k;show (opL fr sg d k).l++(segOf (opL fr sg d k) d k).toList=_;by_cases h0:k=0
   ·subst h0;rw [hseg _ m1 m2];rfl
   ·rw [ih (by omega) (by omega),(rd_none (hfar k (by omega) (by omega) _ m1)).2.1];rfl
 have hk:=key sg (by omega) (Nat.le_refl _);obtain ⟨m1,m2,_,_⟩:=opL_same fr sg d sg;refine ⟨⟨h3,hr,hn,fun k hk=>?_,?_,?_⟩,m1,m2,hk,?_⟩
 ·obtain ⟨m1,m2,_,_⟩:=opL_same fr sg d k;by_cases h0:k=0
  ·subst h0;exact rd_ok_on (hon _ m1) (by omega)
  ·exact (rd_none (hfar k (by omega) hk _ m1)).1
 ·rw [hk];exact Nat.le_refl _
 ·rw [hk];intro i hi;have:i=0:=by simpa using hi
  subst this;refine ⟨by show (1:Int)<=1;omega,hb.1,hb.2,fun j hj=>?_⟩;have hj:j<rs.length:=hj;have:=hg (gl rs j) (by rw [gl_eq hj];exact List.getElem_mem _);exact ⟨this.1.pos.1,this.2⟩
 ·show nextOf (opL fr sg d sg).l=_;rw [hk];simp only [nextOf,List.getLast?_singleton,List.getLast?_eq_some_getLast hne]
end Go.Proofs.YtfobhkibkdmglaaGreat

namespace Go.Proofs.YtfobhkibkdmglaaGreat
open Go.Sx
set_option maxRecDepth 100000
set_option linter.unusedVariables false
set_option linter.unusedSimpArgs false
theorem sec0_same {g g':SegM} {e:List Int} {i:Nat} {run:Int} (h1:g'.gen=g.gen) (h2:g'.base=g.base) (hb:g'.buf=g.buf++e) (hs:startS (i+1)<=g.buf.length):∀ j,j<64->sec0 g i run j=sec0 g' i run j:=fun j hj=>by
 have hst:startS (i+1)=startS i+roomS i:=by unfold startS roomS;split<;>omega
 have u1:usedS g.buf.length i=roomS i:=by simp only [usedS];omega
 have u2:usedS g'.buf.length i=roomS i:=by rw [hb];simp only [usedS,List.length_append];omega
 have hgl:∀ k,k<roomS i->gl g'.buf (startS i+k)=gl g.buf (startS i+k):=fun k hk=>by rw [hb,gl_append_left (by omega)]
 simp only [sec0,h1,h2,u1,u2];by_cases h0:i=0
 ·subst h0;have hr:roomS 0=42:=rfl;have hs0:startS 0=0:=rfl;rw [hr,hs0] at hgl;simp only [hr,if_true]
  (repeat' split)<;>first|rfl|(exfalso;omega)|skip
  have:=hgl (j - 22) (by assumption);rw [Nat.zero_add] at this;exact this.symm
 ·simp only [if_neg h0]
  (repeat' split)<;>first|rfl|(exfalso;omega)|skip
  exact (hgl _ (by assumption)).symm
theorem secB_same {g g':SegM} {e:List Int} {i:Nat} {run:Int} (h1:g'.gen=g.gen) (h2:g'.base=g.base) (hb:g'.buf=g.buf++e) (hs:startS (i+1)<=g.buf.length):∀ j,j<64->secB g i run j=secB g' i run j:=fun j hj=>by
 have h:=sec0_same (run:=run) h1 h2 hb hs;unfold secB;rw [sumB_congr fun k _ hk=>h k hk,h j hj]
theorem writesTo_now {L:LogM} {g:SegM} {was:Nat} {d:DevM} (hg:(g.gen - 1).toNat % L.segs=0):∀ n r j,j<64 ->
 (writesTo L g was d n).now r j=if ∃ i,i<n/\r=L.from_+i/\condS was g.buf.length i=true then secB g (r - L.from_) L.run j else d.now r j
 | 0,r,j,_=>by rw [if_neg (by rintro ⟨i,hi,_⟩;omega)];rfl
 | n+1,r,j,hj=>by
  have ih:=writesTo_now (L:=L) (g:=g) (was:=was) (d:=d) hg n r j hj;have hsn:secNo L g n=L.from_+n:=by unfold secNo;rw [hg,Nat.zero_mul,Nat.add_zero]
  unfold writesTo;by_cases hc:condS was g.buf.length n=true
  ·rw [if_pos hc];show (if r=secNo L g n/\j<64 then _ else _)=_;rw [hsn];by_cases hr:r=L.from_+n
   ·rw [if_pos ⟨hr,hj⟩,if_pos ⟨n,Nat.lt_succ_self n,hr,hc⟩,hr,Nat.add_sub_cancel_left]
   ·rw [if_neg (fun e=>hr e.1),ih];congr 1;rw [eq_iff_iff];constructor
    ·rintro ⟨i,h1,h2,h3⟩;exact ⟨i,by omega,h2,h3⟩
    ·rintro ⟨i,h1,h2,h3⟩;by_cases e:i=n
     ·subst e;exact absurd h2 hr
     ·exact ⟨i,by omega,h2,h3⟩
  ·rw [if_neg hc,ih];congr 1;rw [eq_iff_iff];constructor
   ·rintro ⟨i,h1,h2,h3⟩;exact ⟨i,by omega,h2,h3⟩
   ·rintro ⟨i,h1,h2,h3⟩;by_cases e:i=n
    ·subst e;exact absurd h3 hc
    ·exact ⟨i,by omega,h2,h3⟩
theorem sortedR_push {rs:List RecM} {r:RecM} (h:SortedR rs) (h1:∀ x∈rs,x.pos<r.pos) (h2:0<=r.pos/\r.pos<1000000000000):SortedR (rs++[r]):=by
 have hl:(rs++[r]).length=rs.length+1:=by simp
 refine ⟨fun i j hij hj=>?_,fun i hi=>?_⟩
 ·rw [hl] at hj;rw [gl_app (by omega),gl_app hj,if_pos (by omega)];split
  ·exact h.lt i j hij (by assumption)
  ·exact h1 _ (by rw [gl_eq (by omega)];exact List.getElem_mem _)
 ·rw [hl] at hi;rw [gl_app hi];split
  ·exact h.rng i (by assumption)
  ·exact h2
def oneL (base:Int):List RecM->List SegM
 | []=>[]
 | r::rs=>[⟨1,base,0,bufOf (r::rs),r::rs⟩]
theorem oneL_ne {base:Int} {rs:List RecM} (h:rs≠[]):oneL base rs=[⟨1,base,0,bufOf rs,rs⟩]:=by
 cases rs with
 | nil=>exact absurd rfl h
 | cons r rs=>rfl
theorem allR_one (base:Int) (rs:List RecM):allR (oneL base rs)=rs:=by
 cases rs<;>simp [oneL,allR]
structure OneLog (L:LogM) (d:DevM) (n:Nat) (rs:List RecM):Prop where
 segs:3<=L.segs/\L.segs<=200
 room:L.from_+L.segs*8<=d.n
 size:d.n<100000
 calls:d.calls<=n
 next:1<=L.next/\L.next<10000000000
 run:0<=L.run/\L.run<4294967296
 good:∀ r∈rs,GoodR r/\r.pos<L.next
 sort:SortedR rs
 fits:(bufOf rs).length<=378
 lst:∃ base,0<=base/\base<100000000000/\L.l=oneL base rs
 dev:DevIs L.from_ L.segs L.l.head? L.run d
theorem OneLog.logOk {L:LogM} {d:DevM} {n:Nat} {rs:List RecM} (h:OneLog L d n rs) (hn:n<900000000000):LogOk L d:=by
 obtain ⟨base,b1,b2,hl⟩:=h.lst;have h9:=bufOf_len rs fun r hr=>(h.good r hr).1;have hf:=h.fits;have hc:=h.calls;have hx:=h.next
 have at_:∀ i,i<L.l.length->gl L.l i=⟨1,base,0,bufOf rs,rs⟩:=fun i hi=>by
  rw [hl] at hi ⊢;cases rs with
  | nil=>exact absurd hi (Nat.not_lt_zero i)
  | cons r rs =>
   have:i=0:=by simpa [oneL] using hi
   subst this;rfl
 refine ⟨?_,h.segs,h.room,h.size,by omega,by omega,fun i hi=>?_,fun i hi=>?_,fun i hi=>?_⟩
 ·rw [hl];cases rs<;>simp [oneL]
 ·rw [at_ i hi];show (1:Int)<=1/\(1:Int)<100000000000;omega
 ·rw [at_ i hi];exact hf
 ·rw [at_ i hi];exact h9
theorem OneLog.flush {L:LogM} {d:DevM} {n:Nat} {rs:List RecM} (h:OneLog L d n rs):OneLog L (devFl d) (n+1) rs :=
 ⟨h.segs,h.room,h.size,Nat.succ_le_succ h.calls,h.next,h.run,h.good,h.sort,h.fits,h.lst,⟨h.dev.sec,h.dev.rest⟩⟩
theorem OneLog.need {L:LogM} {d:DevM} {n:Nat} {rs:List RecM} (h:OneLog L d n rs) {k:Nat} (hk:(bufOf rs).length+8+k<=378):needB L k=decide (rs=[]):=by
 obtain ⟨base,b1,b2,hl⟩:=h.lst;unfold needB lastG;rw [hl];cases rs with
 | nil=>simp [oneL]
 | cons r rs =>
  have:¬ 370<(bufOf (r::rs)).length+k:=by omega
  simp [oneL,gl,this]
theorem OneLog.append {L:LogM} {d:DevM} {n:Nat} {rs:List RecM} (h:OneLog L d n rs) {body:List Int} (hb:1<=body.length/\body.length<=300) (hx:L.next<9999999999) (hfit:(bufOf rs).length+8+body.length<=378) :
 OneLog (appL L body) (appD L d body) (n+20) (rs++[⟨L.next,body⟩])/\(appL L body).next=L.next+1/\(appL L body).segs=L.segs/\(appL L body).from_=L.from_:=by
 obtain ⟨base,b1,b2,hl⟩:=h.lst;have hneed:=h.need hfit;have hsegs:=h.segs;have hroom:=h.room;have hnx:=h.next
 obtain ⟨r,hr⟩:∃ r:RecM,r=⟨L.next,body⟩:=⟨_,rfl⟩
 have hrb:recBytes r=hdrB body.length L.next++body:=by rw [hr];rfl
 have hgr:GoodR r:=by rw [hr];exact ⟨hb,by show 0<=L.next;omega,by show L.next<140737488355328;omega⟩
 have hbl:(bufOf (rs++[r])).length=(bufOf rs).length+8+body.length:=by
  rw [bufOf_push,List.length_append,rec_len,hr];show (bufOf rs).length+(8+body.length)=_;omega
 obtain ⟨L1,hL1⟩:∃ L1,L1=appL1 L body.length:=⟨_,rfl⟩
 obtain ⟨d1,hd1⟩:∃ d1,d1=appD1 L d body.length:=⟨_,rfl⟩
 have key:∃ base',0<=base'/\base'<100000000000/\L1.l=[⟨1,base',0,bufOf rs,rs⟩]/\L1.from_=L.from_/\L1.segs=L.segs/\L1.next=L.next/\L1.run=L.run/\L1.fresh=L.fresh/\d1.n=d.n/\d1.calls<=d.calls+2 /\
  (∀ i,i<8->∀ j,j<64->(rs=[]/\i=0)\/d1.now (L.from_+i) j=if startS i<(bufOf rs).length then secB ⟨1,base',0,bufOf rs,rs⟩ i L.run j else 0)/\∀ q,L.from_+8<=q->∀ j,d1.now q j=d.now q j:=by
  by_cases he:rs=[]
  ·subst he;have hn:needB L body.length=true:=by rw [hneed];rfl
   have e1:L1=beginL L:=by rw [hL1];exact if_pos hn
   have e2:d1=beginD L d:=by rw [hd1];exact if_pos hn
   have e3:L.l=[]:=by rw [hl];rfl
   have e4:newSeg L=⟨1,L.next,0,[],[]⟩:=by unfold newSeg;rw [e3];rfl
   have e5:secNo L (newSeg L) 0=L.from_:=by rw [e4];simp [secNo]
   refine ⟨L.next,by omega,by omega,?_,by rw [e1];rfl,by rw [e1];rfl,by rw [e1];rfl,by rw [e1];rfl,by rw [e1];rfl,by rw [e2];rfl,by rw [e2];exact Nat.le_refl _,fun i hi j hj=>?_,fun q hq j=>?_⟩
   ·rw [e1];show keepN L++[newSeg L]=_;rw [show keepN L=[] by unfold keepN;rw [e3];rfl,e4];rfl
   ·by_cases h0:i=0
    ·exact .inl ⟨rfl,h0⟩
    ·right;rw [e2,if_neg (by simp [bufOf])];show (if L.from_+i=secNo L (newSeg L) 0/\j<64 then _ else d.now (L.from_+i) j)=0;rw [e5,if_neg (by omega),h.dev.sec i hi j hj,e3];rfl
   ·rw [e2];show (if q=secNo L (newSeg L) 0/\j<64 then _ else d.now q j)=_;rw [e5,if_neg (by omega)]
  ·have hn:needB L body.length=false:=by rw [hneed];exact decide_eq_false he
   have e1:L1=L:=by rw [hL1];exact if_neg (by rw [hn];decide)
   have e2:d1=d:=by rw [hd1];exact if_neg (by rw [hn];decide)
   rw [oneL_ne he] at hl;refine ⟨base,b1,b2,by rw [e1,hl],by rw [e1],by rw [e1],by rw [e1],by rw [e1],by rw [e1],by rw [e2],by rw [e2];omega,fun i hi j hj=>?_,fun q hq j=>by rw [e2]⟩;right;rw [e2,h.dev.sec i hi j hj,hl];rfl
 obtain ⟨base',c1,c2,k1,k2,k3,k4,k5,k6,k7,k8,k9,k10⟩:=key;have hA:appL L body=appL2 L1 body:=by rw [hL1];rfl
 have hlast:lastG L1=⟨1,base',0,bufOf rs,rs⟩:=by unfold lastG;rw [k1];rfl
 obtain ⟨g',hg'⟩:∃ g':SegM,g'=⟨1,base',0,bufOf (rs++[r]),rs++[r]⟩:=⟨_,rfl⟩
 have hbuf:bufApp ⟨1,base',0,bufOf rs,rs⟩ L.next body=bufOf (rs++[r]):=by
  rw [bufOf_push,hrb];simp [bufApp,List.append_assoc]
 have hl2:(appL L body).l=[g']:=by
  rw [hA];show L1.l.set (L1.l.length - 1) (segApp (lastG L1) L1.next body)=_;rw [hlast,k1,k4];simp only [segApp,hbuf,hg',hr];rfl
 have hnx2:(appL L body).next=L.next+1:=by rw [hA];show L1.next+1=_;rw [k4]
 have hfr2:(appL L body).from_=L.from_:=by rw [hA];exact k2
 have hsg2:(appL L body).segs=L.segs:=by rw [hA];exact k3
 have hrn2:(appL L body).run=L.run:=by rw [hA];exact k5
 obtain ⟨gw,hgw⟩:∃ gw,gw=segW (lastG L1) L1.next body:=⟨_,rfl⟩
 have hgw1:gw=⟨1,base',0,bufOf (rs++[r]),rs⟩:=by rw [hgw,hlast,k4];simp only [segW,hbuf]
 have hsec:∀ i j,secB gw i L.run j=secB g' i L.run j:=fun i j=>by rw [hgw1,hg'];rfl
 have hD2:appD2 L1 d1 body=writesTo L1 gw (bufOf rs).length d1 8:=by unfold appD2;rw [<- hgw,hlast]
 have hmod:(gw.gen - 1).toNat % L1.segs=0:=by rw [hgw1];simp
 obtain ⟨w1,w2⟩:=writesTo_n L1 gw (bufOf rs).length d1 8;have hnow:∀ q j,(appD L d body).now q j=(appD2 L1 d1 body).now q j:=fun q j=>by
  unfold appD;rw [<- hL1,<- hd1];split<;>rfl
 have hdn:(appD L d body).n=d.n/\(appD L d body).calls<=d.calls+11:=by
  unfold appD;rw [<- hL1,<- hd1,hD2];split
  ·simp only [devFl];omega
  ·omega
 have hgl:gw.buf.length=(bufOf rs).length+8+body.length:=by rw [hgw1];exact hbl
 refine ⟨⟨by rw [hsg2];exact hsegs,by rw [hfr2,hsg2,hdn.1];exact hroom,by rw [hdn.1];exact h.size,by have:=h.calls;omega,by rw [hnx2];omega,by rw [hrn2];exact h.run,?_,?_,?_,?_,?_⟩,hnx2,hsg2,hfr2⟩
 ·rw [hnx2,<- hr];intro x hx;rcases List.mem_append.1 hx with hx|hx
  ·have:=h.good x hx;exact ⟨this.1,by omega⟩
  ·have:x=r:=by simpa using hx
   rw [this];refine ⟨hgr,?_⟩;rw [hr];show L.next<L.next+1;omega
 ·rw [<- hr];refine sortedR_push h.sort (fun x hx=>?_) (by rw [hr];show 0<=L.next/\L.next<1000000000000;omega);rw [hr];exact (h.good x hx).2
 ·rw [<- hr,hbl];exact hfit
 ·refine ⟨base',c1,c2,?_⟩;rw [hl2,<- hr,oneL_ne (by simp),hg']
 ·rw [hl2,hfr2,hsg2,hrn2];refine ⟨fun i hi j hj=>?_,fun q hq hq2 j hj=>?_⟩
  ·rw [hnow,hD2,writesTo_now hmod 8 _ j hj,k2,k5,Nat.add_sub_cancel_left,hsec];have hg'l:g'.buf.length=(bufOf rs).length+8+body.length:=by rw [hg'];exact hbl
   show _=if startS i<g'.buf.length then secB g' i L.run j else 0;by_cases hs:startS i<g'.buf.length
   ·rw [if_pos hs];by_cases hc:(bufOf rs).length<startS (i+1)
    ·rw [if_pos ⟨i,hi,rfl,by simp only [condS,Bool.and_eq_true,decide_eq_true_eq];exact ⟨hc,by rw [hgl,<- hg'l];exact hs⟩⟩]
    ·rw [if_neg]
     ·have hlt:startS i<(bufOf rs).length:=by unfold startS at *;omega
      rcases k9 i hi j hj with ⟨e,e0⟩|e
      ·subst e;simp [bufOf] at hlt
      ·rw [e,if_pos hlt];exact secB_same (e:=recBytes r) (by rw [hg']) (by rw [hg']) (by rw [hg'];exact bufOf_push rs r) (show startS (i+1)<=(bufOf rs).length by omega) j hj
     ·rintro ⟨i',_,e,hcc⟩;have:i'=i:=by omega
      subst this;simp only [condS,Bool.and_eq_true,decide_eq_true_eq] at hcc;exact hc hcc.1
   ·rw [if_neg hs,if_neg]
    ·rcases k9 i hi j hj with ⟨e,e0⟩|e
     ·subst e0;exact absurd (show startS 0<g'.buf.length by rw [hg'l];show 0<_;omega) hs
     ·rw [e,if_neg (by omega)]
    ·rintro ⟨i',_,e,hcc⟩;have:i'=i:=by omega
     subst this;simp only [condS,Bool.and_eq_true,decide_eq_true_eq] at hcc;omega
  ·rw [hnow,hD2,writesTo_now hmod 8 _ j hj,k2,if_neg (by rintro ⟨i',_,e,_⟩;omega),k10 q hq];exact h.dev.rest q hq hq2 j hj
end Go.Proofs.YtfobhkibkdmglaaGreat

namespace Go.Proofs.YtfobhkibkdmglaaGreat
open Go.Sx
set_option maxRecDepth 100000
set_option linter.unusedVariables false
set_option linter.unusedSimpArgs false
theorem sortedR_iff {rs:List RecM}:SortedR rs↔rs.Pairwise (fun a b=>a.pos<b.pos)/\∀ r∈rs,0<=r.pos/\r.pos<1000000000000:=by
 constructor
 ·rintro ⟨h1,h2⟩;refine ⟨?_,fun r hr=>?_⟩
  ·rw [List.pairwise_iff_getElem];intro i j hi hj hij;have:=h1 i j hij hj;rwa [gl_eq hi,gl_eq hj] at this
  ·obtain ⟨i,hi,rfl⟩:=List.getElem_of_mem hr;have:=h2 i hi;rwa [gl_eq hi] at this
 ·rintro ⟨h1,h2⟩;refine ⟨fun i j hij hj=>?_,fun i hi=>?_⟩
  ·rw [gl_eq (show i<rs.length by omega),gl_eq hj];exact List.pairwise_iff_getElem.1 h1 i j (by omega) hj hij
  ·rw [gl_eq hi];exact h2 _ (List.getElem_mem _)
theorem find_pos:∀ {rs:List RecM} {r:RecM},rs.Pairwise (fun a b=>a.pos<b.pos)->r∈rs->findR rs r.pos=some r.body
 | [],_,_,h=>by cases h
 | a::rs,r,hp,h=>by
  rw [List.pairwise_cons] at hp;by_cases e:a.pos=r.pos
  ·have:a=r:=by
    rcases List.mem_cons.1 h with h|h
    ·exact h.symm
    ·have:=hp.1 r h;omega
   subst this;simp [findR]
  ·have hm:r∈rs:=by
    rcases List.mem_cons.1 h with h|h
    ·exact absurd (by rw [h]) e
    ·exact h
   have:=find_pos hp.2 hm;unfold findR at this ⊢;rw [List.find?_cons];simp only [e,decide_false];exact this
theorem find_nopos {rs:List RecM} {p:Int} (h:∀ r∈rs,r.pos≠p):findR rs p=none:=by
 unfold findR;rw [Option.map_eq_none_iff,List.find?_eq_none];intro r hr;simpa using h r hr
theorem read_pos:∀ {l:List SegM} {r:RecM},(allR l).Pairwise (fun a b=>a.pos<b.pos)->r∈allR l->readTo l r.pos=some r.body
 | [],_,_,h=>by cases h
 | g::l,r,hp,h=>by
  have e:allR (g::l)=g.recs++allR l:=rfl;rw [e] at hp h;rw [List.pairwise_append] at hp;simp only [readTo,List.findSome?_cons];by_cases hg:r∈g.recs
  ·rw [find_pos hp.1 hg]
  ·have hm:r∈allR l:=(List.mem_append.1 h).resolve_left hg;rw [find_nopos fun x hx=>by have:=hp.2.2 x hx r hm;omega];exact read_pos hp.2.1 hm
theorem first_pos:∀ (l:List SegM) (next:Int),firstTo l next=match allR l with | []=>next|r::_=>r.pos
 | [],_=>rfl
 | g::l,next=>by
  have e:allR (g::l)=g.recs++allR l:=rfl;rw [e];cases hr:g.recs with
  | nil =>
   rw [List.nil_append];have:=first_pos l next
   unfold firstTo at this ⊢;rw [List.find?_cons,hr];exact this
  | cons r rs =>
   unfold firstTo;rw [List.find?_cons,hr];simp [gl,hr]
structure LogRd (L:LogM) (rs:List RecM):Prop where
 all:allR L.l=rs
 few:L.l.length<1000
 sort:SortedR rs
 body:∀ r∈rs,1<=r.body.length/\r.body.length<=300
 seg:∀ i,i<L.l.length->(gl L.l i).recs.length<=400
theorem OneLog.rd {L:LogM} {d:DevM} {n:Nat} {rs:List RecM} (h:OneLog L d n rs):LogRd L rs:=by
 obtain ⟨base,_,_,hl⟩:=h.lst;have h9:=bufOf_len rs fun r hr=>(h.good r hr).1;have hf:=h.fits;refine ⟨by rw [hl,allR_one],?_,h.sort,fun r hr=>(h.good r hr).1.len,fun i hi=>?_⟩
 ·rw [hl];cases rs<;>simp [oneL]
 ·rw [hl] at hi ⊢;cases rs with
  | nil=>exact absurd hi (Nat.not_lt_zero i)
  | cons r rs =>
   have:i=0:=by simpa [oneL] using hi
   subst this;show (r::rs).length<=400;omega
theorem LogRd.first {L:LogM} {rs:List RecM} (h:LogRd L rs) {r:RecM} (hr:r∈rs):firstF L<=r.pos:=by
 unfold firstF;rw [first_pos,h.all];have hp:=(sortedR_iff.1 h.sort).1;cases rs with
 | nil=>cases hr
 | cons a rs =>
  show a.pos<=r.pos;rcases List.mem_cons.1 hr with rfl|hr
  ·exact Int.le_refl _
  ·exact Int.le_of_lt ((List.pairwise_cons.1 hp).1 r hr)
def updK (get:ByteArray->Option ItemM) (k:ByteArray) (r:Option ItemM):ByteArray->Option ItemM:=fun k'=>if k'=k then r else get k'
structure FlGet (m:FlM) (rs:List RecM) (get:ByteArray->Option ItemM):Prop where
 rd:LogRd m.L rs
 pos:∀ e∈m.l,∃ x,get e.1=some x/\x.key=e.1/\mayB x=true/\(⟨e.2,bodyOf (some x)⟩:RecM)∈rs
 all:∀ k,get k≠none->k∈m.l.map Prod.fst
theorem LogRd.segs {L:LogM} {rs:List RecM} (h:LogRd L rs) (i:Nat) (hi:i<L.l.length):SortedR (gl L.l i).recs/\(gl L.l i).recs.length<=400/\∀ k,k<(gl L.l i).recs.length->1<=(gl (gl L.l i).recs k).body.length/\(gl (gl L.l i).recs k).body.length<=1000:=by
 obtain ⟨hs1,hs2⟩:=sortedR_iff.1 h.sort;refine ⟨?_,h.seg i hi,fun k hk=>?_⟩
 ·have hm:gl L.l i∈L.l:=by rw [gl_eq hi];exact List.getElem_mem _
  have hsub:(gl L.l i).recs.Sublist rs:=by rw [<- h.all];exact sub_flatMap (f:=fun g:SegM=>g.recs) hm
  exact sortedR_iff.2 ⟨hs1.sublist hsub,fun r hr=>hs2 r (hsub.subset hr)⟩
 ·obtain ⟨j,hj,e⟩:=allR_at hi hk;rw [h.all] at hj e;have:=h.body (gl rs j) (by rw [gl_eq hj];exact List.getElem_mem _);rw [e] at this;omega
theorem FlGet.flRd {m:FlM} {rs:List RecM} {get:ByteArray->Option ItemM} (h:FlGet m rs get):FlRd m:=⟨h.rd.few,h.rd.segs,fun e he=>by
 obtain ⟨x,_,_,_,hx⟩:=h.pos e he;exact (sortedR_iff.1 h.rd.sort).2 _ hx⟩
theorem FlGet.ent {m:FlM} {rs:List RecM} {get:ByteArray->Option ItemM} (h:FlGet m rs get) (k:ByteArray):EntIs m k (get k):=by
 have hs:=(sortedR_iff.1 h.rd.sort).1;cases hg:get k with
 | none =>
  left;intro hm;obtain ⟨e,he,rfl⟩:=List.mem_map.1 hm;obtain ⟨x,h1,_⟩:=h.pos e he;rw [hg] at h1;cases h1
 | some x =>
  obtain ⟨e,he,rfl⟩:=List.mem_map.1 (h.all k (by rw [hg];simp));obtain ⟨x',h1,_,h3,h4⟩:=h.pos e he;rw [hg] at h1;cases h1;rw [<- h.rd.all] at hs h4;exact ⟨e.2,he,read_pos hs h4,h3⟩
theorem FlGet.keep {m:FlM} {rs:List RecM} {get:ByteArray->Option ItemM} (h:FlGet m rs get) {L':LogM} {rs':List RecM} (hL:LogRd L' rs') (hs:∀ r∈rs,r∈rs'):(m.l.filter fun e=>decide (firstF L'<=e.2))=m.l:=by
 rw [List.filter_eq_self];intro e he;obtain ⟨x,_,_,_,hx⟩:=h.pos e he;simpa using hL.first (hs _ hx)
theorem mem_dropK {l:List (ByteArray × Int)} {k:ByteArray} {e:ByteArray × Int}:e∈dropK l k↔e∈l/\e.1≠k:=by
 unfold dropK;rw [List.mem_filter];simp
theorem FlGet.put {m:FlM} {rs:List RecM} {get:ByteArray->Option ItemM} (h:FlGet m rs get) {L':LogM} {d':DevM} {p:Int} {x:ItemM} (hx:mayB x=true) (hL:LogRd L' (rs++[⟨p,bodyOf (some x)⟩])) :
 FlGet ⟨L',d',putK m.l x.key p⟩ (rs++[⟨p,bodyOf (some x)⟩]) (updK get x.key (some x)):=by
 refine ⟨hL,fun e he=>?_,fun k hk=>?_⟩
 ·rcases List.mem_cons.1 he with rfl|he
  ·exact ⟨x,if_pos rfl,rfl,hx,by simp⟩
  ·obtain ⟨he,hne⟩:=mem_dropK.1 he;obtain ⟨x',h1,h2,h3,h4⟩:=h.pos e he;exact ⟨x',by unfold updK;rw [if_neg hne];exact h1,h2,h3,List.mem_append_left _ h4⟩
 ·by_cases e:k=x.key
  ·subst e;exact List.mem_map.2 ⟨(x.key,p),List.mem_cons_self,rfl⟩
  ·have hk:get k≠none:=by unfold updK at hk;rwa [if_neg e] at hk
   obtain ⟨q,hq,rfl⟩:=List.mem_map.1 (h.all k hk);exact List.mem_map.2 ⟨q,List.mem_cons_of_mem _ (mem_dropK.2 ⟨hq,e⟩),rfl⟩
theorem FlGet.drop {m:FlM} {rs:List RecM} {get:ByteArray->Option ItemM} (h:FlGet m rs get) {L':LogM} {d':DevM} {k0:ByteArray} {r:RecM} (hL:LogRd L' (rs++[r])) :
 FlGet ⟨L',d',dropK m.l k0⟩ (rs++[r]) (updK get k0 none):=by
 refine ⟨hL,fun e he=>?_,fun k hk=>?_⟩
 ·obtain ⟨he,hne⟩:=mem_dropK.1 he;obtain ⟨x',h1,h2,h3,h4⟩:=h.pos e he;exact ⟨x',by unfold updK;rw [if_neg hne];exact h1,h2,h3,List.mem_append_left _ h4⟩
 ·by_cases e:k=k0
  ·subst e;exact absurd (if_pos rfl) hk
  ·have hk:get k≠none:=by unfold updK at hk;rwa [if_neg e] at hk
   obtain ⟨q,hq,rfl⟩:=List.mem_map.1 (h.all k hk);exact List.mem_map.2 ⟨q,mem_dropK.2 ⟨hq,e⟩,rfl⟩
structure FlOne (m:FlM) (n:Nat) (rs:List RecM) (get:ByteArray->Option ItemM):Prop where
 log:OneLog m.L m.d n rs
 has:FlGet m rs get
 few:m.l.length<=rs.length
theorem OneLog.len {L:LogM} {d:DevM} {n:Nat} {rs:List RecM} (h:OneLog L d n rs):rs.length<=42:=by
 have h9:=bufOf_len rs fun r hr=>(h.good r hr).1;have:=h.fits;omega
theorem FlOne.ok {m:FlM} {n k:Nat} {rs:List RecM} {get:ByteArray->Option ItemM} (h:FlOne m n rs get) (hn:n<900000000000) (hk:(bufOf rs).length+8+k<=378):FlOk m k:=by
 exact ⟨h.log.logOk hn,by have:=h.few;have:=h.log.len;omega⟩
theorem FlOne.add {m:FlM} {n:Nat} {rs:List RecM} {get:ByteArray->Option ItemM} (h:FlOne m n rs get) {body:List Int} (hb:1<=body.length/\body.length<=300) (hx:m.L.next<9999999999) (hfit:(bufOf rs).length+8+body.length<=378) :
 OneLog (addF m body).L (addF m body).d (n+20) (rs++[⟨m.L.next,body⟩])/\(addF m body).L.next=m.L.next+1/\(addF m body).l=m.l/\(addF m body).L.segs=m.L.segs/\(addF m body).L.from_=m.L.from_:=by
 obtain ⟨h1,h2,h3,h4⟩:=h.log.append hb hx hfit;exact ⟨h1,h2,h.has.keep h1.rd fun r hr=>List.mem_append_left _ hr,h3,h4⟩
theorem FlOne.put {m:FlM} {n:Nat} {rs:List RecM} {get:ByteArray->Option ItemM} (h:FlOne m n rs get) {x:ItemM} (hx:putOk x=true) (hn:m.L.next<9999999999) (hfit:(bufOf rs).length+8+(bodyOf (some x)).length<=378) :
 FlOne (putF m x) (n+20) (rs++[⟨m.L.next,bodyOf (some x)⟩]) (updK get x.key (some x))/\(putF m x).L.next=m.L.next+1/\(putF m x).L.segs=m.L.segs/\(putF m x).L.from_=m.L.from_:=by
 have hm:mayB x=true:=by unfold putOk at hx;simp only [Bool.and_eq_true] at hx;exact hx.1
 obtain ⟨b1,b2⟩:=bodyOf_len (o:=some x) fun z e=>by cases e;exact hm
 obtain ⟨h1,h2,h3,h4,h5⟩:=h.add ⟨b1,by omega⟩ hn hfit;have hF:putF m x=⟨(addF m (bodyOf (some x))).L,(addF m (bodyOf (some x))).d,putK m.l x.key m.L.next⟩:=by
  unfold putF;rw [if_pos hx,h3]
 rw [hF];refine ⟨⟨h1,h.has.put hm h1.rd,?_⟩,h2,h4,h5⟩;have:=putK_len m.l x.key m.L.next
 have:=h.few;show (putK m.l x.key m.L.next).length<=_;rw [List.length_append,List.length_singleton];omega
theorem FlOne.drop {m:FlM} {n:Nat} {rs:List RecM} {get:ByteArray->Option ItemM} (h:FlOne m n rs get) {k:ByteArray} (hk:keyB k=true) (hn:m.L.next<9999999999) (hfit:(bufOf rs).length+8+(bodyOf (some (itemD k))).length<=378) :
 FlOne (dropF m k) (n+20) (rs++[⟨m.L.next,bodyOf (some (itemD k))⟩]) (updK get k none)/\(dropF m k).L.next=m.L.next+1/\(dropF m k).L.segs=m.L.segs/\(dropF m k).L.from_=m.L.from_:=by
 obtain ⟨b1,b2⟩:=bodyOf_len (o:=some (itemD k)) fun z e=>by cases e;exact itemD_may hk
 obtain ⟨h1,h2,h3,h4,h5⟩:=h.add ⟨b1,by omega⟩ hn hfit;have hF:dropF m k=⟨(addF m (bodyOf (some (itemD k)))).L,(addF m (bodyOf (some (itemD k)))).d,dropK m.l k⟩:=by
  unfold dropF;rw [h3]
 rw [hF];refine ⟨⟨h1,h.has.drop h1.rd,?_⟩,h2,h4,h5⟩;have:=dropK_len m.l k;have:=h.few;show (dropK m.l k).length<=_;rw [List.length_append,List.length_singleton];omega
theorem FlOne.flush {m:FlM} {n:Nat} {rs:List RecM} {get:ByteArray->Option ItemM} (h:FlOne m n rs get):FlOne (flushF m) (n+1) rs get:=⟨h.log.flush,⟨h.has.rd,h.has.pos,h.has.all⟩,h.few⟩
def newF (fr sg:Nat) (d:DevM):FlM:=⟨⟨fr,sg,[],1,1,true⟩,d,[]⟩
theorem FlOne.new {fr sg:Nat} {d:DevM} {n:Nat} {run:Int} (h3:3<=sg/\sg<=200) (hr:fr+sg*8<=d.n) (hn:d.n<100000) (hc:d.calls<=n) (hd:DevIs fr sg none run d):FlOne (newF fr sg d) n [] fun _=>none:=by
 have hl:OneLog (newF fr sg d).L (newF fr sg d).d n []:=⟨h3,hr,hn,hc,by show (1:Int)<=1/\(1:Int)<10000000000;omega,by show (0:Int)<=1/\(1:Int)<4294967296;omega,fun r hr=>by (cases hr),⟨fun i j _ hj=>absurd hj (Nat.not_lt_zero j),fun i hi=>absurd hi (Nat.not_lt_zero i)⟩,Nat.zero_le _,⟨0,by omega,by omega,rfl⟩,⟨hd.sec,hd.rest⟩⟩
 exact ⟨hl,⟨hl.rd,fun e he=>(by cases he),fun k hk=>absurd rfl hk⟩,Nat.le_refl _⟩
theorem crash_now {d:DevM} {klen:Nat} {keep:Nat->Bool} (h:∀ r,d.loose r=false) (r j:Nat):(devCrash d klen keep).now r j=d.lasts r j:=by
 show crashNow d klen keep r j=_;unfold crashNow;rw [h r];rfl
end Go.Proofs.YtfobhkibkdmglaaGreat

namespace Go.Proofs
open Go.Shelf
def Tryz.lays190_ren:Go.Shelf.Ren:=⟨fun|190=>65|125=>74|258=>84|128=>97|129=>98|302=>103|303=>104|304=>105|305=>106|306=>107|307=>108|308=>109|309=>110|310=>111|333=>117|329=>113|330=>114|334=>118|335=>119|336=>120|344=>122|n=>n,fun|31=>46|9=>9|3=>3|46=>133|0=>0|51=>151|53=>56|4=>4|183=>155|182=>154|131=>147|5=>5|218=>174|222=>178|228=>182|229=>115|n=>n,fun|n=>n⟩
theorem Tryz.lays190:Go.Proofs.Lays.n190 Tryz.prog Tryz.lays190_ren:={
 mixed:=by kernel_rfl
 f125:=Tryz.func74.trans (congrArg some (by kernel_rfl))
 f128:=Tryz.func97.trans (congrArg some (by kernel_rfl))
 f129:=Tryz.func98.trans (congrArg some (by kernel_rfl))
 f190:=Tryz.func65.trans (congrArg some (by kernel_rfl))
 f258:=Tryz.func84.trans (congrArg some (by kernel_rfl))
 f302:=Tryz.func103.trans (congrArg some (by kernel_rfl))
 f303:=Tryz.func104.trans (congrArg some (by kernel_rfl))
 f304:=Tryz.func105.trans (congrArg some (by kernel_rfl))
 f305:=Tryz.func106.trans (congrArg some (by kernel_rfl))
 f306:=Tryz.func107.trans (congrArg some (by kernel_rfl))
 f307:=Tryz.func108.trans (congrArg some (by kernel_rfl))
 f308:=Tryz.func109.trans (congrArg some (by kernel_rfl))
 f309:=Tryz.func110.trans (congrArg some (by kernel_rfl))
 f310:=Tryz.func111.trans (congrArg some (by kernel_rfl))
 f329:=Tryz.func113.trans (congrArg some (by kernel_rfl))
 f330:=Tryz.func114.trans (congrArg some (by kernel_rfl))
 f333:=Tryz.func117.trans (congrArg some (by kernel_rfl))
 f334:=Tryz.func118.trans (congrArg some (by kernel_rfl))
 f335:=Tryz.func119.trans (congrArg some (by kernel_rfl))
 f336:=Tryz.func120.trans (congrArg some (by kernel_rfl))
 f344:=Tryz.func122.trans (congrArg some (by kernel_rfl))
 t0:=Tryz.underlying0
 a0:=Tryz.isAgg0
 z0:=Tryz.sizeOf0
 v0:=Tryz.zeroValue0
 t3:=Tryz.underlying3
 a3:=Tryz.isAgg3
 z3:=Tryz.sizeOf3
 v3:=Tryz.zeroValue3
 t4:=Tryz.underlying4
 a4:=Tryz.isAgg4
 z4:=Tryz.sizeOf4
 v4:=Tryz.zeroValue4
 t5:=Tryz.underlying5
 a5:=Tryz.isAgg5
 z5:=Tryz.sizeOf5
 v5:=Tryz.zeroValue5
 t9:=Tryz.underlying9
 a9:=Tryz.isAgg9
 z9:=Tryz.sizeOf9
 v9:=Tryz.zeroValue9
 t31:=Tryz.underlying46
 a31:=Tryz.isAgg46
 z31:=Tryz.sizeOf46
 v31:=Tryz.zeroValue46
 t46:=Tryz.underlying133
 a46:=Tryz.isAgg133
 z46:=Tryz.sizeOf133
 v46:=Tryz.zeroValue133
 t51:=Tryz.underlying151
 a51:=Tryz.isAgg151
 z51:=Tryz.sizeOf151
 v51:=Tryz.zeroValue151
 t53:=Tryz.underlying56
 a53:=Tryz.isAgg56
 z53:=Tryz.sizeOf56
 v53:=Tryz.zeroValue56
 t131:=Tryz.underlying147
 a131:=Tryz.isAgg147
 z131:=Tryz.sizeOf147
 v131:=Tryz.zeroValue147
 t182:=Tryz.underlying154
 a182:=Tryz.isAgg154
 z182:=Tryz.sizeOf154
 v182:=Tryz.zeroValue154
 t183:=Tryz.underlying155
 a183:=Tryz.isAgg155
 z183:=Tryz.sizeOf155
 v183:=Tryz.zeroValue155
 t218:=Tryz.underlying174
 a218:=Tryz.isAgg174
 z218:=Tryz.sizeOf174
 v218:=Tryz.zeroValue174
 t222:=Tryz.underlying178
 a222:=Tryz.isAgg178
 z222:=Tryz.sizeOf178
 v222:=Tryz.zeroValue178
 t228:=Tryz.underlying182
 a228:=Tryz.isAgg182
 z228:=Tryz.sizeOf182
 v228:=Tryz.zeroValue182
 t229:=Tryz.underlying115
 a229:=Tryz.isAgg115
 z229:=Tryz.sizeOf115
 v229:=Tryz.zeroValue115 }
open Go.Sort Go.RowKit in
theorem Tryz.slices_Sort_string (blk off cap:Nat) (ss:List (List UInt8)) (w:World) (hH:Holds encStr w blk off ss.toArray) (hblk:blk<w.heap.size) (hsz:ss.length<4611686018427387904) :
 Calls Tryz.prog 65 #[.slice (some ⟨blk,off,none⟩) ss.length cap] w fun e w' =>
  e = .returned (.tuple #[])/\∃ n os,w'=grow (putRow encStr (Sort.ahead w n) blk off (ss.mergeSort fun x y=>decide (x<=y)).toArray) os:=Any.slices_Sort_string Tryz.lays190 blk off cap ss w hH hblk hsz
open Go.RowKit Go.Sort in
theorem Tryz.slices_Sort_string_none (p:Option Addr) (cap:Nat) (w:World) :
 Calls Tryz.prog 65 #[.slice p 0 cap] w fun e w'=>e = .returned (.tuple #[])/\w'=w:=Any.slices_Sort_string_none Tryz.lays190 p cap w
end Go.Proofs

namespace Go.Sx
section
open Go.Sort
structure SortA (β:Type) where
 l:List β
 cap:Nat
def cellRows {β:Type} [Inhabited β] (enc:β->Value) (l:List β):Nat->Nat->Value:=encRows (fun x=>[enc x]) l
def cSort {β:Type} [Inhabited β] (ty:TypeId) (k:CK) (enc:β->Value) (srt:List β->List β):Con where
 α:=SortA β
 β:=Unit
 m:=1
 m':=1
 pre:=fun a=>a.l.length<100000
 args:=fun a=>[.a (.slc 0 0 1 a.l.length a.cap)]
 hp:=fun a=>[(0,.arr ty [k] a.l.length (cellRows enc a.l))]
 ro:=fun _=>[]
 post:=fun _ _=>True
 res:=fun _ _=>.tup []
 hp':=fun a _=>[(0,.arr ty [k] a.l.length (cellRows enc (srt a.l)))]
theorem cellRows_at {β:Type} [Inhabited β] {enc:β->Value} {l:List β} {i:Nat}:cellRows enc l i 0=enc (gl l i):=rfl
theorem holds_of_sat {β:Type} [Inhabited β] {k:CK} {enc:β->Value} {ty:TypeId} {l:List β} {ρ:Env} {p:Place} {w:World} (h:(Chunk.arr ty [k] l.length (cellRows enc l)).Sat ρ p w) (h0:l≠[]) :
 ∃ vs ty' fr,w.heap[p.blk]? = some (.cells vs ty' fr)/\p.off+p.N<=vs.size/\l.length<=p.N/\UnfrozenIn p.off (p.off+p.N) fr/\(∀ b,p.fp b↔b=p.blk)/\(∀ i,i<l.length->vs[p.off+i]? = some (enc (gl l i))):=by
 rcases h with ⟨hn,_⟩ | ⟨vs,ty',fr,hb,h1,h2,h3,h4,h5⟩
 ·exact absurd (List.eq_nil_of_length_eq_zero hn) h0
 ·simp only [List.length_singleton,Nat.mul_one] at h1 h3 h5;refine ⟨vs,ty',fr,hb,h1,h2,h3,h4,fun i hi=>?_⟩;obtain ⟨g1,_⟩:=h5 i hi 0 k rfl;exact g1
theorem sort_sem {β γ:Type} [Inhabited β] [Inhabited γ] {X:Cx} {f:Nat} {ty:TypeId} {k:CK} {enc:β->Value} {enc2:γ->Value} {to:β->γ} {srt:List β->List β} {srt2:List γ->List γ}
 (hto:∀ x,enc2 (to x)=enc x) (hsrt:∀ l,(srt l).map to=srt2 (l.map to)) (hlen:∀ l,(srt l).length=l.length) (hin:∀ l x,x∈srt l->x∈l)
 (hcall:∀ (blk off cap:Nat) (l:List γ) (w:World),Holds enc2 w blk off l.toArray->blk<w.heap.size->l.length<4611686018427387904 ->
  Calls X.P f #[.slice (some ⟨blk,off,none⟩) l.length cap] w fun e w'=>e = .returned (.tuple #[])/\∃ n os,w'=grow (putRow enc2 (Sort.ahead w n) blk off (srt2 l).toArray) os)
 (hnone:∀ (p:Option Addr) (cap:Nat) (w:World),Calls X.P f #[.slice p 0 cap] w fun e w'=>e = .returned (.tuple #[])/\w'=w) :
 ConSem X (cSort ty k enc srt) f:=by
 intro a hpre M ρ w vs hn hh hargs;obtain ⟨l,cap⟩:=a;obtain ⟨v,vs',rfl,hv,rfl⟩:=hargs;obtain ⟨hT,hlc,hcm,hv⟩:=hv;have he:=hh.ent ⟨0,true,.arr ty [k] l.length (cellRows enc l)⟩ (by simp [wrs,cSort]);have hsat:=he.ch;simp only at hsat hlc hcm hv hT;by_cases h0:l=[]
 ·subst h0;have hs:srt []=[]:=List.eq_nil_of_length_eq_zero (hlen []);have hcalls:Calls X.P f #[v] w fun e w'=>e = .returned (.tuple #[])/\w'=w:=by
   rcases hv with ⟨_,h2,rfl⟩ | ⟨o,rfl,_⟩
   ·exact hnone none 0 w
   ·exact hnone (some _) cap w
  refine hcalls.mono ?_;rintro e w' ⟨rfl,rfl⟩;refine ⟨_,rfl,(),ρ,trivial,hn,fun _ _=>rfl,⟨[],rfl,rfl⟩,?_⟩;show HeapSat w' M ρ (wrs [(0,.arr ty [k] ([]:List β).length (cellRows enc (srt [])))]) w';rw [hs];have:(wrs ((cSort ty k enc srt).hp ⟨[],cap⟩)++ros ((cSort ty k enc srt).ro ⟨[],cap⟩))=wrs [(0,.arr ty [k] ([]:List β).length (cellRows enc []))]:=by simp [cSort,ros,wrs]
  rw [this] at hh;exact hh
 ·obtain ⟨vs0,ty',fr,hb,h1,h2,h3,h4,h5⟩:=holds_of_sat hsat h0;have hpos:l.length≠0:=fun h=>h0 (List.eq_nil_of_length_eq_zero h);have hlt:(ρ.pl 0).blk<w.heap.size:=he.lt _ ((h4 _).2 rfl);rcases hv with ⟨g1,_,_⟩ | ⟨o,rfl,ho⟩
  ·exact absurd g1 hpos
  obtain ⟨rfl,_⟩:=ho (by omega);simp only [Nat.add_zero,Nat.mul_one] at *;have hHolds:Holds enc2 w (ρ.pl 0).blk (ρ.pl 0).off (l.map to).toArray:=by
   intro j hj;simp only [List.size_toArray,List.length_map] at hj;refine ⟨?_,?_⟩
   ·simp only [World.cell?,hb];rw [h5 j hj,getElem!_pos _ j (by simpa using hj)];simp [hto,gl_eq hj]
   ·simp only [World.frozen?,hb];have:=h3 ((ρ.pl 0).off+j) (by omega) (by omega);obtain ⟨lo,hi⟩:=fr;simpa using this
  have hcalls:=hcall (ρ.pl 0).blk (ρ.pl 0).off cap (l.map to) w hHolds hlt (by rw [List.length_map];have:l.length<100000:=hpre;omega);rw [List.length_map] at hcalls;refine hcalls.mono ?_;rintro e w' ⟨rfl,n,os,rfl⟩;refine ⟨_,rfl,(),ρ,trivial,hn,fun _ _=>rfl,⟨[],rfl,rfl⟩,?_⟩;have hsz:(srt2 (l.map to)).length=l.length:=by rw [<- hsrt,List.length_map,hlen]
  have hheap:∀ b,b<w.heap.size->(grow (putRow enc2 (Sort.ahead w n) (ρ.pl 0).blk (ρ.pl 0).off (srt2 (l.map to)).toArray) os).heap[b]? = (w.heap.modify (ρ.pl 0).blk (onCells (putCells enc2 (ρ.pl 0).off (srt2 (l.map to)).toArray)))[b]?:=by
   intro b hb';rw [heap_grow_old _ _ (by simpa using hb')];rfl
  have hblk:(grow (putRow enc2 (Sort.ahead w n) (ρ.pl 0).blk (ρ.pl 0).off (srt2 (l.map to)).toArray) os).heap[(ρ.pl 0).blk]? = some (.cells (putCells enc2 (ρ.pl 0).off (srt2 (l.map to)).toArray vs0) ty' fr):=by
   rw [hheap _ hlt,Array.getElem?_modify,if_pos rfl,hb];rfl
  have hoth:∀ b,b<w.heap.size->b≠(ρ.pl 0).blk->(grow (putRow enc2 (Sort.ahead w n) (ρ.pl 0).blk (ρ.pl 0).off (srt2 (l.map to)).toArray) os).heap[b]? = w.heap[b]?:=by
   intro b hb' hne;rw [hheap b hb',Array.getElem?_modify,if_neg (fun h=>hne h.symm)]
  refine ⟨⟨rfl,rfl,rfl,?_,fun b hb' hm=>?_,fun ad had=>?_⟩,?_,?_⟩
  ·simp
  ·exact hoth b hb' fun e=>hm (he.own rfl b ((h4 b).2 e) hb')
  ·rw [frozen?_grow _ _ _ (by simpa using had),frozen?_putRow,frozen?_ahead]
  ·intro e' he';have:e'=⟨0,true,.arr ty [k] l.length (cellRows enc (srt l))⟩:=by simpa [wrs,cSort] using he'
   subst this;refine ⟨he.tag,?_,fun b hb'=>?_,he.own⟩
   ·refine .inr ⟨_,ty',fr,hblk,?_,h2,?_,h4,fun i hi j k' hj=>?_⟩
    ·simpa [putCells] using h1
    ·simpa using h3
    ·have hj0:j=0:=by
      cases j with
      | zero=>rfl
      | succ j=>simp at hj
     subst hj0;have hk:k'=k:=by simpa using hj.symm
     subst hk;have hi':i<(srt l).length:=by rw [hlen];exact hi
     have hmem:gl (srt l) i∈l:=hin l _ (gl_mem hi');refine ⟨?_,?_⟩
     ·simp only [List.length_singleton,Nat.mul_one,Nat.add_zero,putCells,Array.getElem?_mapIdx,h5 i hi,Option.map_some];rw [if_pos ⟨by omega,by simp;omega⟩,show (ρ.pl 0).off+i - (ρ.pl 0).off=i by omega];rw [getElem!_pos _ i (by simp;omega)];have:(srt2 (l.map to))[i]'(by omega)=to (gl (srt l) i):=by
       simp only [<- hsrt,List.getElem_map,gl_eq hi']
      simp [this,hto,cellRows_at]
     ·obtain ⟨i0,hi0,e0⟩:=List.getElem_of_mem hmem;rcases hsat with ⟨hn0,_⟩ | ⟨vs1,ty1,fr1,hb1,_,_,_,_,h6⟩
      ·omega
      ·obtain ⟨_,g2⟩:=h6 i0 hi0 0 k' rfl;rw [cellRows_at] at g2 ⊢;rw [<- e0,<- gl_eq hi0];exact g2
   ·have:=he.lt b hb';simp;omega
  ·simp [wrs,cSort]
end
end Go.Sx

namespace Go.Proofs.YtfobhkibkdmglaaGreat.Ix
open Go.Sx
set_option maxRecDepth 100000
set_option linter.unusedVariables false
def encT (b:ByteArray):List Value:=[.string b]
def tl (b:ByteArray):List UInt8:=b.data.toList
theorem tl_inj {a b:ByteArray} (h:tl a=tl b):a=b:=by
 cases a;cases b;simp only [tl] at h;rw [Array.toList_inj.1 h]
def sortB (l:List ByteArray):List ByteArray:=((l.map tl).mergeSort fun x y=>decide (x<=y)).map fun x=>⟨x.toArray⟩
theorem sortB_map (l:List ByteArray):(sortB l).map tl=(l.map tl).mergeSort fun x y=>decide (x<=y):=by
 unfold sortB;rw [List.map_map];exact (List.map_congr_left fun x _=>by simp [tl]).trans (List.map_id _)
theorem sortB_length (l:List ByteArray):(sortB l).length=l.length:=by simp [sortB]
theorem map_tl_back (l:List ByteArray):(l.map tl).map (fun x=>(⟨x.toArray⟩:ByteArray))=l:=by
 rw [List.map_map];refine (List.map_congr_left fun x _=>?_).trans (List.map_id _);cases x;simp [tl]
theorem sortB_perm (l:List ByteArray):(sortB l).Perm l:=by
 have:=(List.mergeSort_perm (l.map tl) fun x y=>decide (x<=y)).map fun x=>(⟨x.toArray⟩:ByteArray)
 rwa [map_tl_back] at this
def ltB (a b:ByteArray):Bool:=Op.bytesLess a.toList b.toList
theorem ltB_iff {a b:ByteArray}:ltB a b=true↔tl a<tl b:=by
 unfold ltB tl;rw [bytesLess_eq,Lib.toList_data,Lib.toList_data];simp
theorem ltB_false {a b:ByteArray}:ltB a b=false↔tl b<=tl a:=by
 rw [<- List.not_lt,<- ltB_iff];simp
theorem sortB_sorted (l:List ByteArray):((sortB l).map tl).Pairwise fun a b=>decide (a<=b)=true:=by
 rw [sortB_map];refine List.pairwise_mergeSort (fun a b c h1 h2=>?_) (fun a b=>?_) _
 ·simp only [decide_eq_true_eq] at *;exact List.le_trans h1 h2
 ·simp only [Bool.or_eq_true,decide_eq_true_eq];exact List.le_total a b
theorem callSort:CallsBy (Y Tryz.prog).G.X 65 (cSort 9 .str Value.string sortB):=fun _ _ _ h =>
 con_okS (sort_sem (enc2:=encStr) (to:=tl) (srt2:=fun l=>l.mergeSort fun x y=>decide (x<=y)) (fun x=>by cases x;simp [tl,encStr]) sortB_map sortB_length (fun l x hx=>(sortB_perm l).mem_iff.1 hx)
  (fun blk off cap l w h1 h2 h3=>Tryz.slices_Sort_string blk off cap l w h1 h2 h3) (fun p cap w=>Tryz.slices_Sort_string_none p cap w)) h
def keysOf (t:List PlaceR):List ByteArray:=(ents t).map Prod.fst
noncomputable def cKeys:Con where
 α:=KeyA
 β:=Nat
 m:=2
 m':=3
 pre:=fun a=>a.x.t.length<100000
 args:=fun _=>[.a (.ptr 0 0 0 0)]
 hp:=fun _=>[]
 ro:=fun a=>idxHp 0 1 a.x.t a.cap a.x.n a.x.used
 post:=fun _ _=>True
 res:=fun a cap=>.a (.slc 2 0 1 (keysOf a.x.t).length cap)
 hp':=fun a _=>[(2,.arr 9 [.str] (keysOf a.x.t).length (encRows encT (sortB (keysOf a.x.t))))]
def iKeys (a:KeyA):An:=.flat 5 (Nat × Nat) (fun s x=>((s.new (.arr 9 [.str] (keysOf (a.x.t.take x.1)).length (encRows encT (keysOf (a.x.t.take x.1))))).set 3 (.a (.slc s.nx 0 1 (keysOf (a.x.t.take x.1)).length x.2))).int 13 x.1) (fun _ x=>x.1<=a.x.t.length) (fun _ x=>a.x.t.length - x.1)
theorem keysOf_step {t:List PlaceR} {i:Nat} (h:i<t.length):keysOf (t.take (i+1))=keysOf (t.take i)++if (gl t i).has then [(gl t i).key] else []:=by
 unfold keysOf;rw [take_succ_gl h,ents_app,List.map_append,ents_cons];cases (gl t i).has<;>simp [ents,entOf]
theorem keysOf_le (t:List PlaceR):(keysOf t).length<=t.length:=by
 unfold keysOf ents;simp only [List.length_map];exact List.length_filter_le _ _
set_option maxHeartbeats 4000000 in
theorem bodyKeys:fnBody (Y Tryz.prog) [(65,cSort 9 .str Value.string sortB)] 40 cKeys fun a=>[(40,[iKeys a],[])]:=fnBody.of (p :=
 ∀ a:Ix.KeyA,a.x.t.length<100000->(∃ a_2:Nat × Nat,0=(↑a_2.fst:Int)/\(0=(Ix.keysOf (List.take a_2.fst a.x.t)).length/\0=a_2.snd)/\(↑a.x.t.length:Int)=(↑a.x.t.length:Int)/\(0=0/\a.x.t.length=a.x.t.length/\a.cap=a.cap)/\false=false/\0=0/\(Ix.keysOf (List.take a_2.fst a.x.t)).length=0/\(0=0/\a.x.t.length=a.x.t.length/\a.cap=a.cap)/\(↑a.x.n:Int)=(↑a.x.n:Int)/\(↑a.x.used:Int)=(↑a.x.used:Int)/\(a.x.t.length<=a.x.t.length/\RowsEq a.x.t.length 4 (encRows Ix.encP a.x.t) (encRows Ix.encP a.x.t))/\a_2.fst<=a.x.t.length/\True)/\∀ a_2:Nat × Nat,a_2.fst<=a.x.t.length->(decide ((↑a_2.fst:Int)<(↑a.x.t.length:Int))=true->(0<=(↑a_2.fst:Int)/\(↑a_2.fst:Int)<(↑a.x.t.length:Int))/\0+(↑a_2.fst:Int).toNat<a.x.t.length/\((gl a.x.t (0+(↑a_2.fst:Int).toNat)).has=true->0+(Ix.keysOf (List.take a_2.fst a.x.t)).length<=(Ix.keysOf (List.take a_2.fst a.x.t)).length/\1<=1/\((Ix.keysOf (List.take a_2.fst a.x.t)).length+1)*16<=140737488355328/\∀ cap:Nat,(Ix.keysOf (List.take a_2.fst a.x.t)).length+1<=cap->cap<=lenMax->((Ix.keysOf (List.take a_2.fst a.x.t)).length+1<=a_2.snd->cap=a_2.snd)->InR .i64 ((↑a_2.fst:Int)+1)/\∃ (a':Nat × Nat),(↑a_2.fst:Int)+1=(↑a'.fst:Int)/\(0=0/\(Ix.keysOf (List.take a_2.fst a.x.t)).length+1=(Ix.keysOf (List.take a'.fst a.x.t)).length/\cap=a'.snd)/\(↑a.x.t.length:Int)=(↑a.x.t.length:Int)/\(0=0/\a.x.t.length=a.x.t.length /\
 a.cap=a.cap)/\false=false/\0=0/\((Ix.keysOf (List.take a'.fst a.x.t)).length<=(Ix.keysOf (List.take a_2.fst a.x.t)).length+1/\RowsEq (Ix.keysOf (List.take a'.fst a.x.t)).length 1 (appRows (encRows Ix.encT (Ix.keysOf (List.take a_2.fst a.x.t))) 0 (Ix.keysOf (List.take a_2.fst a.x.t)).length fun (i j:Nat)=>flatRows 1 [Value.string (gl a.x.t (0+(↑a_2.fst:Int).toNat)).key] (0+i) j) (encRows Ix.encT (Ix.keysOf (List.take a'.fst a.x.t))))/\(0=0/\a.x.t.length=a.x.t.length/\a.cap=a.cap)/\(↑a.x.n:Int)=(↑a.x.n:Int)/\(↑a.x.used:Int)=(↑a.x.used:Int)/\(a.x.t.length<=a.x.t.length/\RowsEq a.x.t.length 4 (encRows Ix.encP a.x.t) (encRows Ix.encP a.x.t))/\a'.fst<=a.x.t.length/\a.x.t.length - a'.fst<a.x.t.length - a_2.fst)/\((gl a.x.t (0+(↑a_2.fst:Int).toNat)).has=false->InR .i64 ((↑a_2.fst:Int)+1)/\∃ (a':Nat × Nat),(↑a_2.fst:Int)+1=(↑a'.fst:Int)/\(0=0/\(Ix.keysOf (List.take a_2.fst a.x.t)).length=(Ix.keysOf (List.take a'.fst a.x.t)).length/\a_2.snd=a'.snd)/\(↑a.x.t.length:Int)=(↑a.x.t.length:Int)/\(0=0/\a.x.t.length=a.x.t.length/\a.cap=a.cap)/\false=false/\0=0/\((Ix.keysOf (List.take a'.fst a.x.t)).length<=(Ix.keysOf (List.take a_2.fst a.x.t)).length/\RowsEq (Ix.keysOf (List.take a'.fst a.x.t)).length 1 (encRows Ix.encT (Ix.keysOf (List.take a_2.fst a.x.t))) (encRows Ix.encT (Ix.keysOf (List.take a'.fst a.x.t))))/\(0=0/\a.x.t.length=a.x.t.length/\a.cap=a.cap)/\(↑a.x.n:Int)=(↑a.x.n:Int) /\
 (↑a.x.used:Int)=(↑a.x.used:Int)/\(a.x.t.length<=a.x.t.length/\RowsEq a.x.t.length 4 (encRows Ix.encP a.x.t) (encRows Ix.encP a.x.t))/\a'.fst<=a.x.t.length/\a.x.t.length - a'.fst<a.x.t.length - a_2.fst))/\(decide ((↑a_2.fst:Int)<(↑a.x.t.length:Int))=false->∃ a_5:SortA ByteArray,(0=0/\(Ix.keysOf (List.take a_2.fst a.x.t)).length=a_5.1.length/\a_2.snd=a_5.2)/\(a_5.1.length<=(Ix.keysOf (List.take a_2.fst a.x.t)).length/\RowsEq a_5.1.length 1 (encRows Ix.encT (Ix.keysOf (List.take a_2.fst a.x.t))) (encRows (fun (x:ByteArray)=>[Value.string x]) a_5.1))/\a_5.1.length<100000/\∀ b:Unit,True->∃ b:Nat,(0=0/\(Ix.keysOf (List.take a_2.fst a.x.t)).length=(Ix.keysOf a.x.t).length/\a_2.snd=b)/\((Ix.keysOf a.x.t).length<=a_5.1.length/\RowsEq (Ix.keysOf a.x.t).length 1 (encRows (fun (x:ByteArray)=>[Value.string x]) (Ix.sortB a_5.1)) (encRows Ix.encT (Ix.sortB (Ix.keysOf a.x.t))))/\True/\True)) (by kernel_rfl) (by
 intro a h;refine ⟨⟨(0,0),?_⟩,fun x hx=>⟨fun c1=>?_,fun c1=>?_⟩⟩
 ·dsimp only;have e:keysOf (a.x.t.take 0)=[]:=rfl;rw [e]
  (repeat' apply And.intro)<;>first|rfl|trivial|exact Nat.le_refl _|omega|(dsimp only;omega)|exact RowsEq.refl _ _ _
 ·obtain ⟨i,cap0⟩:=x;simp only [decide_eq_true_eq] at c1;have hi:i<a.x.t.length:=by omega
  have hle:=keysOf_le (a.x.t.take i);rw [List.length_take] at hle;have hst:=keysOf_step hi;simp only [Nat.zero_add,Int.toNat_natCast,InR];refine ⟨by omega,by omega,fun hh=>⟨by omega,by omega,by omega,fun cap _ _ _=>⟨by omega,⟨(i+1,cap),?_⟩⟩⟩,fun hh=>⟨by omega,⟨(i+1,cap0),?_⟩⟩⟩
  ·rw [hh] at hst;dsimp only;rw [hst]
   (repeat' apply And.intro)<;>first|rfl|trivial|exact Nat.le_refl _|omega|(dsimp only;omega)|exact RowsEq.refl _ _ _|(simp;done)|exact .push rfl (by simp) rfl
  ·rw [hh] at hst;simp only [Bool.false_eq_true,if_false,List.append_nil] at hst;dsimp only;rw [hst]
   (repeat' apply And.intro)<;>first|rfl|trivial|exact Nat.le_refl _|omega|(dsimp only;omega)|exact RowsEq.refl _ _ _
 ·obtain ⟨i,cap0⟩:=x;simp only [decide_eq_false_iff_not] at c1
  have hi : i = a.x.t.length := by have : i ≤ a.x.t.length := hx
                                   omega
  subst hi;have hle:=keysOf_le a.x.t;rw [List.take_length];refine ⟨⟨keysOf a.x.t,cap0⟩,?_⟩
  (repeat' apply And.intro)<;>first|rfl|trivial|exact Nat.le_refl _|omega|(dsimp only;omega)|exact RowsEq.refl _ _ _|skip
  refine fun _ _=>⟨cap0,?_⟩
  (repeat' apply And.intro)<;>first|rfl|trivial|exact Nat.le_refl _|omega|(dsimp only;omega)|exact RowsEq.refl _ _ _)
theorem callKeys:CallsBy (Y Tryz.prog).G.X 40 cKeys:=fn_ok okY (tab:=[(65,cSort 9 .str Value.string sortB)]) ⟨callSort,trivial⟩ bodyKeys
end Go.Proofs.YtfobhkibkdmglaaGreat.Ix
