/-
  
-/
import Derived.Test.YtfhkbihcfmbbcaaGreatStoreNoneP2
namespace Go.Proofs.YtfhkbihcfmbbcaaGreat
open Go.Sx
set_option maxRecDepth 100000
set_option linter.unusedVariables false
def u8 (r:Nat->Nat->Value) (i:Nat):Int:=toI (r i 0)
def bit1 (x:Int):Int:=ibits .xor .u32 (x / 2) (ibits .and .u32 3988292384 (uw .u32 (0 - ibits .and .u32 x 1)))
def bitN:Nat->Int->Int
 | 0,x=>x
 | k+1,x=>bit1 (bitN k x)
def crcTo (r:Nat->Int):Nat->Int
 | 0=>4294967295
 | k+1=>bitN 8 (ibits .xor .u32 (crcTo r k) (r k))
structure CrcA where
 c:Nat
 r:Nat
 len:Nat
 cap:Nat
 n:Nat
 rows:Nat->Nat->Value
noncomputable def cCrc:Con where
 α:=CrcA
 β:=Unit
 m:=2
 m':=2
 pre:=fun a=>a.r+a.len<=a.n/\a.len<100000
 args:=fun a=>[.a (.slc 0 0 1 1 a.c)]
 hp:=fun _=>[]
 ro:=fun a=>[(0,.obj 60 [.slc 1 a.r 1 a.len a.cap]),(1,.arr 5 [.int .u8] a.n a.rows)]
 post:=fun _ _=>True
 res:=fun a _=>.a (.int .u32 (ibits .xor .u32 4294967295 (crcTo (fun i=>u8 a.rows (a.r+i)) a.len)))
 hp':=fun _ _=>[]
def iCrc8:An:=.flat 10 Nat (fun s j=>(s.set 3 (.a (.int .u32 (bitN j (S.iv s 3))))).int 24 j) (fun _ j=>j<=8) (fun _ j=>8 - j)
def iCrc (a:CrcA):An:=.mk 6 Nat (fun s i=>(s.set 3 (.a (.int .u32 (crcTo (fun i=>u8 a.rows (a.r+i)) i)))).int 16 i) (fun _ i=>i<=a.len) (fun _ i=>a.len - i) fun _=>.mk 60 [iCrc8] []
set_option maxHeartbeats 4000000 in
theorem bodyCrc:fnBody (Y Tryz.prog) [] 91 cCrc fun a=>[(91,[iCrc a],[])]:=fnBody.of (p :=
 ∀ a:CrcA,a.r+a.len<=a.n/\a.len<100000->((0:Int)<=0/\(0:Int)<1)/\(∃ a_2:Nat,0=(↑a_2:Int)/\(4294967295:Int)=crcTo (fun (i:Nat)=>u8 a.rows (a.r+i)) a_2/\(↑a.len:Int)=(↑a.len:Int)/\(a.r=a.r/\a.len=a.len/\a.cap=a.cap)/\(a.r=a.r/\a.len=a.len/\a.cap=a.cap)/\true=true/\(0:Int)=0/\(1:Int)=1/\(0=0/\1=1/\a.c=a.c)/\(0:Int)=0/\(0=0/\1=1/\a.c=a.c)/\(a.r=a.r/\a.len=a.len/\a.cap=a.cap)/\(a.n<=a.n/\RowsEq a.n 1 a.rows a.rows)/\a_2<=a.len/\True)/\∀ a_2:Nat,a_2<=a.len->(decide ((↑a_2:Int)<(↑a.len:Int))=true->(0<=(↑a_2:Int)/\(↑a_2:Int)<(↑a.len:Int))/\a.r+(↑a_2:Int).toNat<a.n/\(InR .u8 (toI (a.rows (a.r+(↑a_2:Int).toNat) 0))->(∃ a_6:Nat,0=(↑a_6:Int)/\ibits Go.BinOp.xor IntKind.u32 (crcTo (fun (i:Nat)=>u8 a.rows (a.r+i)) a_2) (toI (a.rows (a.r+(↑a_2:Int).toNat) 0))=bitN a_6 (ibits Go.BinOp.xor IntKind.u32 (crcTo (fun (i:Nat)=>u8 a.rows (a.r+i)) a_2) (toI (a.rows (a.r+(↑a_2:Int).toNat) 0)))/\toI (a.rows (a.r+(↑a_2:Int).toNat) 0)=toI (a.rows (a.r+(↑a_2:Int).toNat) 0)/\decide ((↑a_2:Int)<(↑a.len:Int))=decide ((↑a_2:Int)<(↑a.len:Int))/\(↑a_2:Int)=(↑a_2:Int)/\(↑a.len:Int)=(↑a.len:Int)/\(a.r=a.r/\a.len=a.len/\a.cap=a.cap)/\(a.r=a.r/\a.len=a.len/\a.cap=a.cap)/\true=true/\(0:Int)=0/\(1:Int)=1/\(0=0/\1=1/\a.c=a.c)/\(0:Int)=0/\(0=0/\1=1/\a.c=a.c) /\
 (a.r=a.r/\a.len=a.len/\a.cap=a.cap)/\(a.n<=a.n/\RowsEq a.n 1 a.rows a.rows)/\a_6<=8/\True)/\∀ a_6:Nat,a_6<=8->(decide ((↑a_6:Int)<8)=true->(0:Int)<=1/\InR .i64 ((↑a_6:Int)+1)/\∃ (a':Nat),(↑a_6:Int)+1=(↑a':Int)/\ibits Go.BinOp.xor IntKind.u32 (bitN a_6 (ibits Go.BinOp.xor IntKind.u32 (crcTo (fun (i:Nat)=>u8 a.rows (a.r+i)) a_2) (toI (a.rows (a.r+(↑a_2:Int).toNat) 0))) / (2:Int)) (ibits Go.BinOp.and IntKind.u32 (3988292384:Int) (uw .u32 ((0:Int) - ibits Go.BinOp.and IntKind.u32 (bitN a_6 (ibits Go.BinOp.xor IntKind.u32 (crcTo (fun (i:Nat)=>u8 a.rows (a.r+i)) a_2) (toI (a.rows (a.r+(↑a_2:Int).toNat) 0)))) (1:Int))))=bitN a' (ibits Go.BinOp.xor IntKind.u32 (crcTo (fun (i:Nat)=>u8 a.rows (a.r+i)) a_2) (toI (a.rows (a.r+(↑a_2:Int).toNat) 0)))/\toI (a.rows (a.r+(↑a_2:Int).toNat) 0)=toI (a.rows (a.r+(↑a_2:Int).toNat) 0)/\decide ((↑a_2:Int)<(↑a.len:Int))=decide ((↑a_2:Int)<(↑a.len:Int))/\(↑a_2:Int)=(↑a_2:Int)/\(↑a.len:Int)=(↑a.len:Int)/\(a.r=a.r/\a.len=a.len/\a.cap=a.cap)/\(a.r=a.r/\a.len=a.len/\a.cap=a.cap)/\true=true/\(0:Int)=0/\(1:Int)=1/\(0=0/\1=1/\a.c=a.c)/\(0:Int)=0/\(0=0/\1=1/\a.c=a.c)/\(a.r=a.r/\a.len=a.len/\a.cap=a.cap)/\(a.n<=a.n/\RowsEq a.n 1 a.rows a.rows)/\a'<=8/\8 - a'<8 - a_6)/\(decide ((↑a_6:Int)<8)=false->InR .i64 ((↑a_2:Int)+1)/\∃ (a':Nat),(↑a_2:Int)+1=(↑a':Int) /\
 bitN a_6 (ibits Go.BinOp.xor IntKind.u32 (crcTo (fun (i:Nat)=>u8 a.rows (a.r+i)) a_2) (toI (a.rows (a.r+(↑a_2:Int).toNat) 0)))=crcTo (fun (i:Nat)=>u8 a.rows (a.r+i)) a'/\(↑a.len:Int)=(↑a.len:Int)/\(a.r=a.r/\a.len=a.len/\a.cap=a.cap)/\(a.r=a.r/\a.len=a.len/\a.cap=a.cap)/\true=true/\(0:Int)=0/\(1:Int)=1/\(0=0/\1=1/\a.c=a.c)/\(0:Int)=0/\(0=0/\1=1/\a.c=a.c)/\(a.r=a.r/\a.len=a.len/\a.cap=a.cap)/\(a.n<=a.n/\RowsEq a.n 1 a.rows a.rows)/\a'<=a.len/\a.len - a'<a.len - a_2)))/\(decide ((↑a_2:Int)<(↑a.len:Int))=false->∃ b:Unit,ibits Go.BinOp.xor IntKind.u32 (4294967295:Int) (crcTo (fun (i:Nat)=>u8 a.rows (a.r+i)) a_2)=ibits Go.BinOp.xor IntKind.u32 (4294967295:Int) (crcTo (fun (i:Nat)=>u8 a.rows (a.r+i)) a.len)/\True/\True)) (by kernel_rfl) (by
 rintro ⟨c,r,len,cap,n,rows⟩ ⟨h1,h2⟩;dsimp only at h1 h2 ⊢;simp only [Int.toNat_natCast,InR,decide_eq_true_eq,decide_eq_false_iff_not];refine ⟨by decide,⟨0,?_⟩,fun i hi=>⟨fun c1=>?_,fun c1=>⟨(),?_⟩⟩⟩
 ·((repeat' apply And.intro)<;>first|with_reducible rfl|omega|(dsimp only;omega)|exact RowsEq.refl _ _ _|assumption|rfl|trivial|exact Nat.le_refl _|skip)
 ·have hi:i<len:=by omega
  refine ⟨by omega,by omega,fun _=>⟨⟨0,?_⟩,fun j hj=>⟨fun c2=>⟨by decide,by omega,j+1,?_⟩,fun c2=>⟨by omega,i+1,?_⟩⟩⟩⟩
  ·((repeat' apply And.intro)<;>first|with_reducible rfl|omega|(dsimp only;omega)|exact RowsEq.refl _ _ _|assumption|rfl|trivial|exact Nat.le_refl _|skip)
  ·((repeat' apply And.intro)<;>first|with_reducible rfl|omega|(dsimp only;omega)|exact RowsEq.refl _ _ _|assumption|rfl|trivial|exact Nat.le_refl _|skip)
  ·have:j=8:=by omega
   subst this
   ((repeat' apply And.intro)<;>first|with_reducible rfl|omega|(dsimp only;omega)|exact RowsEq.refl _ _ _|assumption|rfl|trivial|exact Nat.le_refl _|skip)
 ·have:i=len:=by omega
  subst this
  ((repeat' apply And.intro)<;>first|with_reducible rfl|omega|(dsimp only;omega)|exact RowsEq.refl _ _ _|assumption|rfl|trivial|exact Nat.le_refl _|skip))
theorem callCrc:CallsBy (Y Tryz.prog).G.X 91 cCrc:=fn_ok okY (tab:=[]) trivial bodyCrc
def putR (rows:Nat->Nat->Value) (r len:Nat) (v:Int) (k:Nat):Nat->Nat->Value:=fun i j=>if r+len<=i+k/\i<r+len then .int .u8 (uw .u8 (v / 2 ^ min (8*(r+len - 1 - i)) 64)) else rows i j
structure PutA where
 r:Nat
 len:Nat
 cap:Nat
 v:Int
 n:Nat
 rows:Nat->Nat->Value
noncomputable def cPut:Con where
 α:=PutA
 β:=Unit
 m:=1
 m':=1
 pre:=fun a=>a.r+a.len<=a.n/\a.len<=8
 args:=fun a=>[.a (.slc 0 a.r 1 a.len a.cap),.a (.int .u64 a.v)]
 hp:=fun a=>[(0,.arr 5 [.int .u8] a.n a.rows)]
 ro:=fun _=>[]
 post:=fun _ _=>True
 res:=fun _ _=>.tup []
 hp':=fun a _=>[(0,.arr 5 [.int .u8] a.n (putR a.rows a.r a.len a.v a.len))]
def iPut (a:PutA):An:=.flat 1 Nat (fun s k=>(s.at_ 0 (.arr 5 [.int .u8] a.n (putR a.rows a.r a.len a.v k))).int 7 k) (fun _ k=>k<=a.len) (fun _ k=>a.len - k)
set_option maxHeartbeats 4000000 in
theorem bodyPut:fnBody (Y Tryz.prog) [] 77 cPut fun a=>[(77,[iPut a],[])]:=fnBody.of (p :=
 ∀ a:PutA,a.r+a.len<=a.n/\a.len<=8->(∃ a_2:Nat,0=(↑a_2:Int)/\(↑a.len:Int)=(↑a.len:Int)/\(a.r=a.r/\a.len=a.len/\a.cap=a.cap)/\a.v=a.v/\(a.n<=a.n/\RowsEq a.n 1 a.rows (putR a.rows a.r a.len a.v a_2))/\a_2<=a.len/\True)/\∀ a_2:Nat,a_2<=a.len->(decide ((↑a_2:Int)<(↑a.len:Int))=true->InR .i64 ((↑a.len:Int) - 1)/\InR .i64 ((↑a.len:Int) - 1 - (↑a_2:Int))/\InR .i64 ((8:Int)*(↑a_2:Int))/\(0:Int)<=8*(↑a_2:Int)/\(0<=(↑a.len:Int) - 1 - (↑a_2:Int)/\(↑a.len:Int) - 1 - (↑a_2:Int)<(↑a.len:Int))/\a.r+((↑a.len:Int) - 1 - (↑a_2:Int)).toNat<a.n/\InR .i64 ((↑a_2:Int)+1)/\∃ (a':Nat),(↑a_2:Int)+1=(↑a':Int)/\(↑a.len:Int)=(↑a.len:Int)/\(a.r=a.r/\a.len=a.len/\a.cap=a.cap)/\a.v=a.v/\(a.n<=a.n/\RowsEq a.n 1 (updR (putR a.rows a.r a.len a.v a_2) (a.r+((↑a.len:Int) - 1 - (↑a_2:Int)).toNat) 0 [Value.int IntKind.u8 (uw .u8 (a.v / (2:Int) ^ min ((8:Int)*(↑a_2:Int)).toNat 64))]) (putR a.rows a.r a.len a.v a'))/\a'<=a.len/\a.len - a'<a.len - a_2)/\(decide ((↑a_2:Int)<(↑a.len:Int))=false->∃ b:Unit,(a.n<=a.n/\RowsEq a.n 1 (putR a.rows a.r a.len a.v a_2) (putR a.rows a.r a.len a.v a.len))/\True/\True)) (by kernel_rfl) (by
 rintro ⟨r,len,cap,v,n,rows⟩ ⟨h1,h2⟩;dsimp only at h1 h2 ⊢;simp only [Int.toNat_natCast,InR,decide_eq_true_eq,decide_eq_false_iff_not];refine ⟨⟨0,?_⟩,fun k hk=>⟨fun c1=>?_,fun c1=>⟨(),?_⟩⟩⟩
 ·((repeat' apply And.intro)<;>first|with_reducible rfl|omega|(dsimp only;omega)|exact RowsEq.refl _ _ _|assumption|rfl|trivial|exact Nat.le_refl _|skip)
  refine ⟨fun i hi j hj=>?_⟩;unfold putR;rw [if_neg (by omega)]
 ·have hk:k<len:=by omega
  have e:((len:Int) - 1 - k).toNat=len - 1 - k:=by omega
  rw [e];refine ⟨by omega,by omega,by omega,by omega,by omega,by omega,by omega,k+1,?_⟩
  ((repeat' apply And.intro)<;>first|with_reducible rfl|omega|(dsimp only;omega)|exact RowsEq.refl _ _ _|assumption|rfl|trivial|exact Nat.le_refl _|skip)
  refine ⟨fun i hi j hj=>?_⟩;have hj:j=0:=by omega
  subst hj;by_cases hik:i=r+(len - 1 - k)
  ·subst hik;have e3:(8*(k:Int)).toNat=8*(r+len - 1 - (r+(len - 1 - k))):=by omega
   rw [updR_self,e3];show Value.int .u8 _=_;simp only [putR];rw [if_pos (by omega)]
  ·rw [updR_other hik];simp only [putR];by_cases hq:r+len<=i+k/\i<r+len
   ·rw [if_pos hq,if_pos (by omega)]
   ·rw [if_neg hq,if_neg (by omega)]
 ·have:k=len:=by omega
  subst this
  ((repeat' apply And.intro)<;>first|with_reducible rfl|omega|(dsimp only;omega)|exact RowsEq.refl _ _ _|assumption|rfl|trivial|exact Nat.le_refl _|skip))
theorem callPut:CallsBy (Y Tryz.prog).G.X 77 cPut:=fn_ok okY (tab:=[]) trivial bodyPut
def getTo (r:Nat->Int):Nat->Int
 | 0=>0
 | k+1=>ibits .or .u64 (uw .u64 (getTo r k*2 ^ 8)) (r k)
structure GetA where
 r:Nat
 len:Nat
 cap:Nat
 n:Nat
 rows:Nat->Nat->Value
noncomputable def cGet:Con where
 α:=GetA
 β:=Unit
 m:=1
 m':=1
 pre:=fun a=>a.r+a.len<=a.n/\a.len<=8
 args:=fun a=>[.a (.slc 0 a.r 1 a.len a.cap)]
 hp:=fun _=>[]
 ro:=fun a=>[(0,.arr 5 [.int .u8] a.n a.rows)]
 post:=fun _ _=>True
 res:=fun a _=>.a (.int .u64 (getTo (fun i=>u8 a.rows (a.r+i)) a.len))
 hp':=fun _ _=>[]
def iGet (a:GetA):An:=.flat 3 Nat (fun s k=>(s.set 3 (.a (.int .u64 (getTo (fun i=>u8 a.rows (a.r+i)) k)))).int 8 k) (fun _ k=>k<=a.len) (fun _ k=>a.len - k)
set_option maxHeartbeats 4000000 in
theorem bodyGet:fnBody (Y Tryz.prog) [] 121 cGet fun a=>[(121,[iGet a],[])]:=fnBody.of (p :=
 ∀ a:GetA,a.r+a.len<=a.n/\a.len<=8->(∃ a_2:Nat,0=(↑a_2:Int)/\(0:Int)=getTo (fun (i:Nat)=>u8 a.rows (a.r+i)) a_2/\(↑a.len:Int)=(↑a.len:Int)/\(a.r=a.r/\a.len=a.len/\a.cap=a.cap)/\(0:Int)=0/\(a.r=a.r/\a.len=a.len/\a.cap=a.cap)/\(a.n<=a.n/\RowsEq a.n 1 a.rows a.rows)/\a_2<=a.len/\True)/\∀ a_2:Nat,a_2<=a.len->(decide ((↑a_2:Int)<(↑a.len:Int))=true->(0<=(↑a_2:Int)/\(↑a_2:Int)<(↑a.len:Int))/\a.r+(↑a_2:Int).toNat<a.n/\(InR .u8 (toI (a.rows (a.r+(↑a_2:Int).toNat) 0))->(0:Int)<=8/\InR .i64 ((↑a_2:Int)+1)/\∃ (a':Nat),(↑a_2:Int)+1=(↑a':Int)/\ibits Go.BinOp.or IntKind.u64 (uw .u64 (getTo (fun (i:Nat)=>u8 a.rows (a.r+i)) a_2*(256:Int))) (toI (a.rows (a.r+(↑a_2:Int).toNat) 0))=getTo (fun (i:Nat)=>u8 a.rows (a.r+i)) a'/\(↑a.len:Int)=(↑a.len:Int)/\(a.r=a.r/\a.len=a.len/\a.cap=a.cap)/\(0:Int)=0/\(a.r=a.r/\a.len=a.len/\a.cap=a.cap)/\(a.n<=a.n/\RowsEq a.n 1 a.rows a.rows)/\a'<=a.len/\a.len - a'<a.len - a_2))/\(decide ((↑a_2:Int)<(↑a.len:Int))=false->∃ b:Unit,getTo (fun (i:Nat)=>u8 a.rows (a.r+i)) a_2=getTo (fun (i:Nat)=>u8 a.rows (a.r+i)) a.len/\True/\True)) (by kernel_rfl) (by
 rintro ⟨r,len,cap,n,rows⟩ ⟨h1,h2⟩;dsimp only at h1 h2 ⊢;simp only [Int.toNat_natCast,InR,decide_eq_true_eq,decide_eq_false_iff_not];refine ⟨⟨0,?_⟩,fun k hk=>⟨fun c1=>?_,fun c1=>⟨(),?_⟩⟩⟩
 ·((repeat' apply And.intro)<;>first|with_reducible rfl|omega|(dsimp only;omega)|exact RowsEq.refl _ _ _|assumption|rfl|trivial|exact Nat.le_refl _|skip)
 ·have hk:k<len:=by omega
  refine ⟨by omega,by omega,fun _=>⟨by omega,by omega,k+1,?_⟩⟩
  ((repeat' apply And.intro)<;>first|with_reducible rfl|omega|(dsimp only;omega)|exact RowsEq.refl _ _ _|assumption|rfl|trivial|exact Nat.le_refl _|skip)
 ·have:k=len:=by omega
  subst this
  ((repeat' apply And.intro)<;>first|with_reducible rfl|omega|(dsimp only;omega)|exact RowsEq.refl _ _ _|assumption|rfl|trivial|exact Nat.le_refl _|skip))
theorem callGet:CallsBy (Y Tryz.prog).G.X 121 cGet:=fn_ok okY (tab:=[]) trivial bodyGet
end Go.Proofs.YtfhkbihcfmbbcaaGreat

namespace Go.Proofs.YtfhkbihcfmbbcaaGreat
open Go.Sx
set_option maxRecDepth 100000
set_option linter.unusedVariables false
structure DevM where
 n:Nat
 now:Nat->Nat->Int
 lasts:Nat->Nat->Int
 loose:Nat->Bool
 calls:Nat
def ksSec:List CK:=List.replicate 128 (.int .u8)++[.bool]
def rowsD (d:DevM):Nat->Nat->Value:=fun i j=>if j<64 then .int .u8 (d.now i j) else if j<128 then .int .u8 (d.lasts i (j - 64)) else .bool (d.loose i)
@[reducible] def devQ (a b:DevM) (p:Prop):Prop:=(0=0/\a.n=b.n/\a.n=b.n)/\(↑a.calls:Int)=(↑b.calls:Int)/\(b.n<=a.n/\RowsEq b.n 129 (rowsD a) (rowsD b))/\p
def devHp (o a:Nat) (d:DevM):List (Nat × Chunk):=[(o,.obj 83 [.slc a 0 129 d.n d.n,.int .i64 d.calls]),(a,.arr 86 ksSec d.n (rowsD d))]
def devNew (n:Int):DevM:=⟨(min (max n 1) 2048).toNat,fun _ _=>0,fun _ _=>0,fun _=>false,0⟩
noncomputable def cDevNew:Con where
 α:=Int
 β:=Unit
 m:=0
 m':=2
 pre:=fun _=>True
 args:=fun n=>[.a (.int .i64 n)]
 hp:=fun _=>[]
 ro:=fun _=>[]
 post:=fun _ _=>True
 res:=fun _ _=>.a (.ptr 0 0 0 0)
 hp':=fun n _=>devHp 0 1 (devNew n)
set_option maxHeartbeats 4000000 in
theorem bodyDevNew:fnBody (Y Tryz.prog) [] 11 cDevNew fun _=>[]:=fnBody.of (p :=
 ∀ a:Int,True->((0:Int)<=bif false then max (bif true then max a (1:Int) else min a (1:Int)) (2048:Int) else min (bif true then max a (1:Int) else min a (1:Int)) (2048:Int))/\((bif false then max (bif true then max a (1:Int) else min a (1:Int)) (2048:Int) else min (bif true then max a (1:Int) else min a (1:Int)) (2048:Int))<=bif false then max (bif true then max a (1:Int) else min a (1:Int)) (2048:Int) else min (bif true then max a (1:Int) else min a (1:Int)) (2048:Int))/\((129:Int)*bif false then max (bif true then max a (1:Int) else min a (1:Int)) (2048:Int) else min (bif true then max a (1:Int) else min a (1:Int)) (2048:Int))<=(281474976710656:Int)/\∃ b:Unit,0=0/\(0=0/\(bif false then max (bif true then max a (1:Int) else min a (1:Int)) (2048:Int) else min (bif true then max a (1:Int) else min a (1:Int)) (2048:Int)).toNat=(devNew a).n/\(bif false then max (bif true then max a (1:Int) else min a (1:Int)) (2048:Int) else min (bif true then max a (1:Int) else min a (1:Int)) (2048:Int)).toNat=(devNew a).n)/\0=(↑(devNew a).calls:Int)/\((devNew a).n<=(bif false then max (bif true then max a (1:Int) else min a (1:Int)) (2048:Int) else min (bif true then max a (1:Int) else min a (1:Int)) (2048:Int)).toNat/\RowsEq (devNew a).n 129 (fun (x j:Nat)=>[Value.int IntKind.u8 (0:Int),Value.int IntKind.u8 (0:Int),Value.int IntKind.u8 (0:Int),Value.int IntKind.u8 (0:Int),Value.int IntKind.u8 (0:Int),Value.int IntKind.u8 (0:Int),Value.int IntKind.u8 (0:Int),Value.int IntKind.u8 (0:Int),Value.int IntKind.u8 (0:Int),Value.int IntKind.u8 (0:Int),Value.int IntKind.u8 (0:Int),Value.int IntKind.u8 (0:Int),Value.int IntKind.u8 (0:Int),Value.int IntKind.u8 (0:Int),Value.int IntKind.u8 (0:Int),Value.int IntKind.u8 (0:Int),Value.int IntKind.u8 (0:Int),Value.int IntKind.u8 (0:Int),Value.int IntKind.u8 (0:Int),Value.int IntKind.u8 (0:Int),Value.int IntKind.u8 (0:Int),Value.int IntKind.u8 (0:Int),Value.int IntKind.u8 (0:Int),Value.int IntKind.u8 (0:Int),Value.int IntKind.u8 (0:Int),Value.int IntKind.u8 (0:Int),Value.int IntKind.u8 (0:Int),Value.int IntKind.u8 (0:Int),Value.int IntKind.u8 (0:Int),Value.int IntKind.u8 (0:Int),Value.int IntKind.u8 (0:Int),Value.int IntKind.u8 (0:Int),Value.int IntKind.u8 (0:Int),Value.int IntKind.u8 (0:Int),Value.int IntKind.u8 (0:Int),Value.int IntKind.u8 (0:Int),Value.int IntKind.u8 (0:Int),Value.int IntKind.u8 (0:Int),Value.int IntKind.u8 (0:Int),Value.int IntKind.u8 (0:Int),Value.int IntKind.u8 (0:Int),Value.int IntKind.u8 (0:Int),Value.int IntKind.u8 (0:Int),Value.int IntKind.u8 (0:Int),Value.int IntKind.u8 (0:Int),Value.int IntKind.u8 (0:Int),Value.int IntKind.u8 (0:Int),Value.int IntKind.u8 (0:Int),Value.int IntKind.u8 (0:Int),Value.int IntKind.u8 (0:Int),Value.int IntKind.u8 (0:Int),Value.int IntKind.u8 (0:Int),Value.int IntKind.u8 (0:Int),Value.int IntKind.u8 (0:Int),Value.int IntKind.u8 (0:Int),Value.int IntKind.u8 (0:Int),Value.int IntKind.u8 (0:Int),Value.int IntKind.u8 (0:Int),Value.int IntKind.u8 (0:Int),Value.int IntKind.u8 (0:Int),Value.int IntKind.u8 (0:Int),Value.int IntKind.u8 (0:Int),Value.int IntKind.u8 (0:Int),Value.int IntKind.u8 (0:Int),Value.int IntKind.u8 (0:Int),Value.int IntKind.u8 (0:Int),Value.int IntKind.u8 (0:Int),Value.int IntKind.u8 (0:Int),Value.int IntKind.u8 (0:Int),Value.int IntKind.u8 (0:Int),Value.int IntKind.u8 (0:Int),Value.int IntKind.u8 (0:Int),Value.int IntKind.u8 (0:Int),Value.int IntKind.u8 (0:Int),Value.int IntKind.u8 (0:Int),Value.int IntKind.u8 (0:Int),Value.int IntKind.u8 (0:Int),Value.int IntKind.u8 (0:Int),Value.int IntKind.u8 (0:Int),Value.int IntKind.u8 (0:Int),Value.int IntKind.u8 (0:Int),Value.int IntKind.u8 (0:Int),Value.int IntKind.u8 (0:Int),Value.int IntKind.u8 (0:Int),Value.int IntKind.u8 (0:Int),Value.int IntKind.u8 (0:Int),Value.int IntKind.u8 (0:Int),Value.int IntKind.u8 (0:Int),Value.int IntKind.u8 (0:Int),Value.int IntKind.u8 (0:Int),Value.int IntKind.u8 (0:Int),Value.int IntKind.u8 (0:Int),Value.int IntKind.u8 (0:Int),Value.int IntKind.u8 (0:Int),Value.int IntKind.u8 (0:Int),Value.int IntKind.u8 (0:Int),Value.int IntKind.u8 (0:Int),Value.int IntKind.u8 (0:Int),Value.int IntKind.u8 (0:Int),Value.int IntKind.u8 (0:Int),Value.int IntKind.u8 (0:Int),Value.int IntKind.u8 (0:Int),Value.int IntKind.u8 (0:Int),Value.int IntKind.u8 (0:Int),Value.int IntKind.u8 (0:Int),Value.int IntKind.u8 (0:Int),Value.int IntKind.u8 (0:Int),Value.int IntKind.u8 (0:Int),Value.int IntKind.u8 (0:Int),Value.int IntKind.u8 (0:Int),Value.int IntKind.u8 (0:Int),Value.int IntKind.u8 (0:Int),Value.int IntKind.u8 (0:Int),Value.int IntKind.u8 (0:Int),Value.int IntKind.u8 (0:Int),Value.int IntKind.u8 (0:Int),Value.int IntKind.u8 (0:Int),Value.int IntKind.u8 (0:Int),Value.int IntKind.u8 (0:Int),Value.int IntKind.u8 (0:Int),Value.int IntKind.u8 (0:Int),Value.int IntKind.u8 (0:Int),Value.int IntKind.u8 (0:Int),Value.int IntKind.u8 (0:Int),Value.int IntKind.u8 (0:Int),Value.int IntKind.u8 (0:Int),Value.int IntKind.u8 (0:Int),Value.int IntKind.u8 (0:Int),Value.bool false].getD j (Value.tuple #[])) (rowsD (devNew a))) /\
 True/\True) (by kernel_rfl) (by
 intro n _;simp only [cond_true,cond_false,Nat.zero_add];have e:min (max n 1) 2048=((min (max n 1) 2048).toNat:Int):=by omega
 refine ⟨by omega,by omega,by omega,(),(by trivial),⟨(by trivial),(by trivial),(by trivial)⟩,(by trivial),⟨Nat.le_refl _,⟨fun i hi j hj=>?_⟩⟩,trivial,trivial⟩;show (List.replicate 128 (Value.int .u8 0)++[Value.bool false]).getD j undef=_;unfold rowsD devNew;dsimp only;simp only [List.getD_eq_getElem?_getD,List.getElem?_append,List.length_replicate,List.getElem?_replicate];by_cases h1:j<64
 ·rw [if_pos (by omega),if_pos (by omega),if_pos h1];rfl
 ·by_cases h2:j<128
  ·rw [if_pos h2,if_pos h2,if_neg h1,if_pos h2];rfl
  ·rw [if_neg h2,if_neg h1,if_neg h2,show j=128 by omega];rfl)
theorem updR_at {rows:Nat->Nat->Value} {row c i j:Nat} {vs:List Value}:updR rows row c vs i j=if (c<=j/\j<c+vs.length)/\i=row then vs.getD (j - c) undef else rows i j:=by
 have e1:∀ a b:Nat,Nat.ble a b=decide (a<=b):=fun a b=>by rw [Bool.eq_iff_iff];simp
 have e2:∀ a b:Nat,Nat.blt a b=decide (a<b):=fun a b=>e1 _ _;unfold updR;rw [e1,e2];by_cases h1:c<=j<;>by_cases h2:j<c+vs.length<;>by_cases h3:i=row<;>simp [h1,h2,h3]
theorem range_at {f:Nat->Value} {n j:Nat} (h:j<n):((List.range n).map f).getD j undef=f j:=by
 simp [List.getD_eq_getElem?_getD,List.getElem?_range h]
def devWr (d:DevM) (i len:Nat) (src:Nat->Int):DevM:=⟨d.n,fun r j=>if r=i/\j<len then src j else d.now r j,d.lasts,fun r=>if r=i then true else d.loose r,d.calls+1⟩
def rowsB (f:Nat->Int):Nat->Nat->Value:=fun i _=>.int .u8 (f i)
structure WrA where
 d:DevM
 i:Nat
 r:Nat
 len:Nat
 cap:Nat
 n:Nat
 src:Nat->Int
noncomputable def cDevWrite:Con where
 α:=WrA
 β:=Unit
 m:=3
 m':=3
 pre:=fun a=>a.i<a.d.n/\a.d.n<100000/\a.len<=64/\a.r+a.len<=a.n/\a.d.calls<1000000000000
 args:=fun a=>[.a (.ptr 0 0 0 0),.a (.int .i64 a.i),.a (.slc 2 a.r 1 a.len a.cap)]
 hp:=fun a=>devHp 0 1 a.d
 ro:=fun a=>[(2,.arr 5 [.int .u8] a.n (rowsB a.src))]
 post:=fun _ _=>True
 res:=fun _ _=>.a (.lit .i64 0)
 hp':=fun a _=>devHp 0 1 (devWr a.d a.i a.len fun j=>a.src (a.r+j))
set_option maxHeartbeats 4000000 in
theorem bodyDevWrite:fnBody (Y Tryz.prog) [] 38 cDevWrite fun _=>[]:=fnBody.of (p :=
 ∀ a:WrA,a.i<a.d.n/\a.d.n<100000/\a.len<=64/\a.r+a.len<=a.n/\a.d.calls<1000000000000->(decide ((↑a.i:Int)<0)=true->∃ b:Unit,(4:Int)=0/\devQ a.d (devWr a.d a.i a.len fun (j:Nat)=>a.src (a.r+j)) (True/\True))/\(decide ((↑a.i:Int)<0)=false->(decide ((↑a.d.n:Int)<=(↑a.i:Int))=true->∃ b:Unit,(4:Int)=0/\devQ a.d (devWr a.d a.i a.len fun (j:Nat)=>a.src (a.r+j)) (True/\True))/\(decide ((↑a.d.n:Int)<=(↑a.i:Int))=false->(decide (64<(↑a.len:Int))=true->∃ b:Unit,(1:Int)=0/\devQ a.d (devWr a.d a.i a.len fun (j:Nat)=>a.src (a.r+j)) (True/\True))/\(decide (64<(↑a.len:Int))=false->(0<=(↑a.i:Int)/\(↑a.i:Int)<(↑a.d.n:Int))/\0<64/\0+(↑a.i:Int).toNat<a.d.n/\a.r+a.len<=a.n/\(0<=(↑a.i:Int)/\(↑a.i:Int)<(↑a.d.n:Int))/\0+(↑a.i:Int).toNat<a.d.n/\(InR .i64 (↑a.d.calls:Int)->InR .i64 ((↑a.d.calls:Int)+1)/\∃ b:Unit,(0:Int)=0/\(0=0/\a.d.n=(devWr a.d a.i a.len fun (j:Nat)=>a.src (a.r+j)).n/\a.d.n=(devWr a.d a.i a.len fun (j:Nat)=>a.src (a.r+j)).n)/\(↑a.d.calls:Int)+1=(↑(devWr a.d a.i a.len fun (j:Nat)=>a.src (a.r+j)).calls:Int)/\((devWr a.d a.i a.len fun (j:Nat)=>a.src (a.r+j)).n<=a.d.n/\RowsEq (devWr a.d a.i a.len fun (j:Nat)=>a.src (a.r+j)).n 129 (updR (cpCells (rowsD a.d) (0+(↑a.i:Int).toNat) 0 (min a.len 64) fun (i j:Nat)=>Value.int IntKind.u8 (a.src (a.r+i))) (0+(↑a.i:Int).toNat) 128 [Value.bool true]) (rowsD (devWr a.d a.i a.len fun (j:Nat)=>a.src (a.r+j)))) /\
 True/\True))))) (by kernel_rfl) (by
 intro a h;obtain ⟨h1,h2,h3,h4,h5⟩:=h;have e1:decide ((a.i:Int)<0)=false:=by simp
 have e2:decide ((a.d.n:Int)<=a.i)=false:=by simp;omega
 have e3:decide ((64:Int)<a.len)=false:=by simp;omega
 simp only [e1,e2,e3,Nat.zero_add,Int.toNat_natCast,InR];refine ⟨fun e=>(by cases e),fun _=>⟨fun e=>(by cases e),fun _=>⟨fun e=>(by cases e),fun _=>⟨by omega,by omega,by omega,by omega,by omega,by omega,fun _=>⟨by omega,(),(by trivial),⟨(by trivial),(by trivial),(by trivial)⟩,(by trivial),⟨Nat.le_refl _,⟨fun i hi j hj=>?_⟩⟩,trivial,trivial⟩⟩⟩⟩⟩;rw [updR_at,show min a.len 64=a.len by omega];simp only [rowsD,devWr,cpCells,rowsB,List.length_singleton];by_cases h6:i=a.i
 ·subst h6;by_cases g1:j<64
  ·by_cases g2:j<a.len
   ·simp [g1,g2,show ¬ (128<=j) by omega]
   ·simp [g1,g2,show ¬ (128<=j) by omega]
  ·by_cases g3:j<128
   ·simp [g1,g3,show ¬ (128<=j) by omega,show ¬ (j<a.len) by omega]
   ·simp [g1,g3,show j=128 by omega]
 ·simp [h6])
def devFl (d:DevM):DevM:=⟨d.n,d.now,d.now,fun _=>false,d.calls+1⟩
def devFlTo (d:DevM) (i:Nat):DevM:=⟨d.n,d.now,fun r j=>if r<i then d.now r j else d.lasts r j,fun r=>if r<i then false else d.loose r,d.calls⟩
noncomputable def cDevFlush:Con where
 α:=DevM
 β:=Unit
 m:=2
 m':=2
 pre:=fun d=>d.n<100000/\d.calls<1000000000000
 args:=fun a=>[.a (.ptr 0 0 0 0)]
 hp:=fun d=>devHp 0 1 d
 ro:=fun _=>[]
 post:=fun _ _=>True
 res:=fun _ _=>.a (.lit .i64 0)
 hp':=fun d _=>devHp 0 1 (devFl d)
def iDevFl (d:DevM):An:=.flat 4 Nat (fun s i=>(s.at_ (s.in_ (s.tg 0) 0) (.arr 86 ksSec d.n (rowsD (devFlTo d i)))).int 11 i) (fun _ i=>i<=d.n) (fun _ i=>d.n - i)
set_option maxHeartbeats 4000000 in
theorem bodyDevFlush:fnBody (Y Tryz.prog) [] 72 cDevFlush fun d=>[(72,[iDevFl d],[])]:=fnBody.of (p :=
 ∀ a:DevM,a.n<100000/\a.calls<1000000000000->(∃ a_2:Nat,0=(↑a_2:Int)/\(↑a.n:Int)=(↑a.n:Int)/\false=false/\(0:Int)=0/\0=0/\(0=0/\a.n=a.n/\a.n=a.n)/\(↑a.calls:Int)=(↑a.calls:Int)/\(a.n<=a.n/\RowsEq a.n 129 (rowsD a) (rowsD (devFlTo a a_2)))/\a_2<=a.n/\True)/\∀ a_2:Nat,a_2<=a.n->(decide ((↑a_2:Int)<(↑a.n:Int))=true->(0<=(↑a_2:Int)/\(↑a_2:Int)<(↑a.n:Int))/\0+(↑a_2:Int).toNat<a.n/\(0<=(↑a_2:Int)/\(↑a_2:Int)<(↑a.n:Int))/\0+(↑a_2:Int).toNat<a.n/\(0<=(↑a_2:Int)/\(↑a_2:Int)<(↑a.n:Int))/\0+(↑a_2:Int).toNat<a.n/\InR .i64 ((↑a_2:Int)+1)/\∃ (a':Nat),(↑a_2:Int)+1=(↑a':Int)/\(↑a.n:Int)=(↑a.n:Int)/\false=false/\(0:Int)=0/\0=0/\(0=0/\a.n=a.n/\a.n=a.n)/\(↑a.calls:Int)=(↑a.calls:Int)/\(a.n<=a.n/\RowsEq a.n 129 (updR (updR (rowsD (devFlTo a a_2)) (0+(↑a_2:Int).toNat) 64 ((List.range 64).map (fun k_=>Value.int IntKind.u8 ((devFlTo a a_2).now (0+(↑a_2:Int).toNat) k_)))) (0+(↑a_2:Int).toNat) 128 [Value.bool false]) (rowsD (devFlTo a a')))/\a'<=a.n/\a.n - a'<a.n - a_2)/\(decide ((↑a_2:Int)<(↑a.n:Int))=false->InR .i64 (↑a.calls:Int)->InR .i64 ((↑a.calls:Int)+1)/\∃ b:Unit,(0:Int)=0/\(0=0/\a.n=(devFl a).n/\a.n=(devFl a).n)/\(↑a.calls:Int)+1=(↑(devFl a).calls:Int)/\((devFl a).n<=a.n/\RowsEq (devFl a).n 129 (rowsD (devFlTo a a_2)) (rowsD (devFl a)))/\True/\True)) (by kernel_rfl) (by
 intro d h;obtain ⟨h1,h2⟩:=h;simp only [Nat.zero_add,Int.toNat_natCast,InR];refine ⟨⟨0,(by trivial),(by trivial),(by trivial),(by trivial),(by trivial),⟨(by trivial),(by trivial),(by trivial)⟩,(by trivial),⟨Nat.le_refl _,⟨fun i hi j hj=>?_⟩⟩,by omega,trivial⟩,fun k hk=>⟨fun c1=>?_,fun c1 _=>?_⟩⟩
 ·simp only [rowsD,devFlTo,Nat.not_lt_zero,if_false]
 ·have hk:k<d.n:=by simpa using c1
  refine ⟨by omega,by omega,by omega,by omega,by omega,by omega,by omega,k+1,by omega,(by trivial),(by trivial),(by trivial),(by trivial),⟨(by trivial),(by trivial),(by trivial)⟩,(by trivial),⟨Nat.le_refl _,⟨fun i hi j hj=>?_⟩⟩,by omega,by omega⟩;refine Eq.trans (b:=updR (updR (rowsD (devFlTo d k)) k 64 ((List.range 64).map fun j=>.int .u8 ((devFlTo d k).now k j))) k 128 [.bool false] i j) rfl ?_;rw [updR_at,updR_at];simp only [List.length_singleton,List.length_map,List.length_range];by_cases h6:i=k
  ·subst h6;by_cases g1:j<64
   ·simp [rowsD,devFlTo,g1,show ¬ (128<=j) by omega,show ¬ (64<=j) by omega]
   ·by_cases g3:j<128
    ·rw [if_neg (by omega),if_pos (by omega),range_at (by omega)];simp [rowsD,devFlTo,g1,g3]
    ·simp [rowsD,devFlTo,g1,g3,show j=128 by omega]
  ·rw [if_neg (by omega),if_neg (by omega)];simp only [rowsD,devFlTo,show (i<k+1)=(i<k) by simp;omega]
 ·have hk:k=d.n:=by simp at c1;omega
  subst hk;refine ⟨by omega,(),(by trivial),⟨(by trivial),(by trivial),(by trivial)⟩,(by trivial),⟨Nat.le_refl _,⟨fun i hi j hj=>?_⟩⟩,trivial,trivial⟩;have hi:i<d.n:=hi;simp only [rowsD,devFlTo,devFl,hi,if_true])
structure RdA where
 d:DevM
 i:Nat
noncomputable def cDevRead:Con where
 α:=RdA
 β:=Nat
 m:=2
 m':=3
 pre:=fun a=>a.i<a.d.n/\a.d.n<100000
 args:=fun a=>[.a (.ptr 0 0 0 0),.a (.int .i64 a.i)]
 hp:=fun _=>[]
 ro:=fun a=>devHp 0 1 a.d
 post:=fun _ c=>64<=c
 res:=fun _ c=>.tup [.a (.slc 2 0 1 64 c),.a (.lit .i64 0)]
 hp':=fun a c=>[(2,.arr 5 [.int .u8] 64 (rowsB (a.d.now a.i)))]
set_option maxHeartbeats 4000000 in
theorem bodyDevRead:fnBody (Y Tryz.prog) [] 89 cDevRead fun _=>[]:=fnBody.of (p :=
 ∀ a:RdA,a.i<a.d.n/\a.d.n<100000->(decide ((↑a.i:Int)<0)=true->∃ b:Nat,(0=64/\0=b)/\(4:Int)=0/\64=0/\64<=b/\True)/\(decide ((↑a.i:Int)<0)=false->(decide ((↑a.d.n:Int)<=(↑a.i:Int))=true->∃ b:Nat,(0=64/\0=b)/\(4:Int)=0/\64=0/\64<=b/\True)/\(decide ((↑a.d.n:Int)<=(↑a.i:Int))=false->(0<=(↑a.i:Int)/\(↑a.i:Int)<(↑a.d.n:Int))/\0<64/\0<=0/\0+(↑a.i:Int).toNat<a.d.n/\64<=140737488355328/\∀ cap:Nat,64<=cap->cap<=lenMax->(64<=0->cap=0)->∃ b:Nat,(0=0/\64=64/\cap=b)/\(0:Int)=0/\(64<=64/\RowsEq 64 1 (appRows (flatRows 1 []) 0 0 fun (i x:Nat)=>rowsD a.d (0+(↑a.i:Int).toNat) (0+i)) (rowsB (a.d.now a.i)))/\64<=b/\True))) (by kernel_rfl) (by
 intro a h;obtain ⟨h1,h2⟩:=h;have e1:decide ((a.i:Int)<0)=false:=by simp
 have e2:decide ((a.d.n:Int)<=a.i)=false:=by simp;omega
 simp only [e1,e2,Nat.zero_add,Int.toNat_natCast];refine ⟨fun e=>(by cases e),fun _=>⟨fun e=>(by cases e),fun _=>⟨by omega,by omega,by omega,by omega,by omega,fun cap hc1 hc2 hc3=>⟨cap,⟨(by trivial),(by trivial),(by trivial)⟩,(by trivial),⟨Nat.le_refl _,⟨fun i hi j hj=>?_⟩⟩,hc1,trivial⟩⟩⟩⟩;simp only [appRows,rowsB,Nat.not_lt_zero,if_false,Nat.sub_zero,rowsD,if_pos hi])
def cntL (d:DevM):Nat->Nat
 | 0=>0
 | i+1=>if d.loose i then cntL d i+1 else cntL d i
def crashNow (d:DevM) (klen:Nat) (keep:Nat->Bool) (r j:Nat):Int:=if d.loose r&&decide (cntL d r<klen)&&keep (cntL d r) then d.now r j else d.lasts r j
def devCrash (d:DevM) (klen:Nat) (keep:Nat->Bool):DevM:=⟨d.n,crashNow d klen keep,crashNow d klen keep,fun _=>false,0⟩
def crashTo (d:DevM) (klen:Nat) (keep:Nat->Bool) (i:Nat):DevM:=⟨d.n,fun r j=>if r<i then crashNow d klen keep r j else 0,fun r j=>if r<i then crashNow d klen keep r j else 0,fun _=>false,0⟩
theorem crash_step {d:DevM} {klen k:Nat} {keep:Nat->Bool} (src:Nat->Int) (h:∀ j,crashNow d klen keep k j=src j):RowsEq d.n 129 (updR (rowsD (crashTo d klen keep k)) k 0
 ((List.range 64).map (fun j=>.int .u8 (src j))++(List.range 64).map (fun j=>.int .u8 (src j))++[.bool false])) (rowsD (crashTo d klen keep (k+1))):=by
 refine ⟨fun i hi j hj=>?_⟩;rw [updR_at];simp only [List.length_append,List.length_singleton,List.length_map,List.length_range,Nat.zero_le,Nat.zero_add,true_and,Nat.sub_zero,List.getD_eq_getElem?_getD,List.getElem?_append];by_cases h6:i=k
 ·subst h6;rw [if_pos (by omega)];by_cases g1:j<64
  ·rw [if_pos (by omega),if_pos (by omega),List.getElem?_map,List.getElem?_range g1];simp [rowsD,crashTo,g1,h]
  ·by_cases g3:j<128
   ·rw [if_pos (by omega),if_neg (by omega),List.getElem?_map,List.getElem?_range (by omega)];simp [rowsD,crashTo,g1,g3,h]
   ·rw [if_neg (by omega),show j - (64+64)=0 by omega];simp [rowsD,crashTo,g1,g3]
 ·rw [if_neg (by omega)];simp only [rowsD,crashTo,show (i<k+1)=(i<k) by simp;omega]
structure CrashA where
 d:DevM
 kr:Nat
 klen:Nat
 kcap:Nat
 kn:Nat
 keep:Nat->Bool
noncomputable def cDevCrash:Con where
 α:=CrashA
 β:=Unit
 m:=3
 m':=5
 pre:=fun a=>1<=a.d.n/\a.d.n<=2048/\a.kr+a.klen<=a.kn/\a.klen<100000
 args:=fun a=>[.a (.ptr 0 0 0 0),.a (.slc 2 a.kr 1 a.klen a.kcap)]
 hp:=fun _=>[]
 ro:=fun a=>devHp 0 1 a.d++[(2,.arr 4 [.bool] a.kn fun i _=>.bool (a.keep i))]
 post:=fun _ _=>True
 res:=fun _ _=>.a (.ptr 3 0 0 0)
 hp':=fun a _=>devHp 3 4 (devCrash a.d a.klen fun i=>a.keep (a.kr+i))
def iDevCrash (a:CrashA):An:=.flat 6 Nat (fun s i=>((s.at_ (s.in_ (s.tg 5) 0) (.arr 86 ksSec a.d.n (rowsD (crashTo a.d a.klen (fun i=>a.keep (a.kr+i)) i)))).int 23 i).int 6 (cntL a.d i)) (fun _ i=>i<=a.d.n) (fun _ i=>a.d.n - i)
set_option maxHeartbeats 4000000 in
theorem bodyDevCrash:fnBody (Y Tryz.prog) [(11,cDevNew)] 15 cDevCrash fun a=>[(15,[iDevCrash a],[])]:=fnBody.of (p :=
 ∀ a:CrashA,1<=a.d.n/\a.d.n<=2048/\a.kr+a.klen<=a.kn/\a.klen<100000->∃ a_2:Int,(↑a.d.n:Int)=a_2/\True/\∀ b:Unit,True->(∃ a_4:Nat,0=(↑(cntL a.d a_4):Int)/\0=(↑a_4:Int)/\(↑a.d.n:Int)=(↑a.d.n:Int)/\(0=0/\a.d.n=a.d.n/\a.d.n=a.d.n)/\0=0/\false=false/\0=0/\(a.kr=a.kr/\a.klen=a.klen/\a.kcap=a.kcap)/\(0=0/\(devNew a_2).n=(devNew a_2).n/\(devNew a_2).n=(devNew a_2).n)/\(↑(devNew a_2).calls:Int)=(↑(devNew a_2).calls:Int)/\(a.d.n<=(devNew a_2).n/\RowsEq a.d.n 129 (rowsD (devNew a_2)) (rowsD (crashTo a.d a.klen (fun (i:Nat)=>a.keep (a.kr+i)) a_4)))/\devQ a.d a.d ((a.kn<=a.kn/\RowsEq a.kn 1 (fun (i x:Nat)=>Value.bool (a.keep i)) fun (i x:Nat)=>Value.bool (a.keep i))/\a_4<=a.d.n/\True))/\∀ a_4:Nat,a_4<=a.d.n->(decide ((↑a_4:Int)<(↑a.d.n:Int))=true->(0<=(↑a_4:Int)/\(↑a_4:Int)<(↑a.d.n:Int))/\0+(↑a_4:Int).toNat<a.d.n/\(a.d.loose (0+(↑a_4:Int).toNat)=true->(decide ((↑(cntL a.d a_4):Int)<(↑a.klen:Int))=true->(0<=(↑(cntL a.d a_4):Int)/\(↑(cntL a.d a_4):Int)<(↑a.klen:Int))/\a.kr+(↑(cntL a.d a_4):Int).toNat<a.kn/\(a.keep (a.kr+(↑(cntL a.d a_4):Int).toNat)=true->InR .i64 ((↑(cntL a.d a_4):Int)+1)/\(0<=(↑a_4:Int)/\(↑a_4:Int)<(↑(devNew a_2).n:Int))/\0+(↑a_4:Int).toNat<a.d.n/\InR .i64 ((↑a_4:Int)+1)/\∃ (a':Nat),(↑(cntL a.d a_4):Int)+1=(↑(cntL a.d a'):Int)/\(↑a_4:Int)+1=(↑a':Int) /\
 (↑a.d.n:Int)=(↑a.d.n:Int)/\(0=0/\a.d.n=a.d.n/\a.d.n=a.d.n)/\0=0/\false=false/\0=0/\(a.kr=a.kr/\a.klen=a.klen/\a.kcap=a.kcap)/\(0=0/\(devNew a_2).n=(devNew a_2).n/\(devNew a_2).n=(devNew a_2).n)/\(↑(devNew a_2).calls:Int)=(↑(devNew a_2).calls:Int)/\(a.d.n<=a.d.n/\RowsEq a.d.n 129 (updR (rowsD (crashTo a.d a.klen (fun (i:Nat)=>a.keep (a.kr+i)) a_4)) (0+(↑a_4:Int).toNat) 0 ((List.range 64).map (fun k_=>Value.int IntKind.u8 (a.d.now (0+(↑a_4:Int).toNat) k_))++(List.range 64).map (fun k_=>Value.int IntKind.u8 (a.d.now (0+(↑a_4:Int).toNat) k_))++[Value.bool false])) (rowsD (crashTo a.d a.klen (fun (i:Nat)=>a.keep (a.kr+i)) a')))/\devQ a.d a.d ((a.kn<=a.kn/\RowsEq a.kn 1 (fun (i x:Nat)=>Value.bool (a.keep i)) fun (i x:Nat)=>Value.bool (a.keep i))/\a'<=a.d.n/\a.d.n - a'<a.d.n - a_4))/\(a.keep (a.kr+(↑(cntL a.d a_4):Int).toNat)=false->InR .i64 ((↑(cntL a.d a_4):Int)+1)/\(0<=(↑a_4:Int)/\(↑a_4:Int)<(↑(devNew a_2).n:Int))/\0+(↑a_4:Int).toNat<a.d.n/\InR .i64 ((↑a_4:Int)+1)/\∃ (a':Nat),(↑(cntL a.d a_4):Int)+1=(↑(cntL a.d a'):Int)/\(↑a_4:Int)+1=(↑a':Int)/\(↑a.d.n:Int)=(↑a.d.n:Int)/\(0=0/\a.d.n=a.d.n/\a.d.n=a.d.n)/\0=0/\false=false/\0=0/\(a.kr=a.kr/\a.klen=a.klen/\a.kcap=a.kcap)/\(0=0/\(devNew a_2).n=(devNew a_2).n/\(devNew a_2).n=(devNew a_2).n)/\(↑(devNew a_2).calls:Int)=(↑(devNew a_2).calls:Int) /\
 (a.d.n<=a.d.n/\RowsEq a.d.n 129 (updR (rowsD (crashTo a.d a.klen (fun (i:Nat)=>a.keep (a.kr+i)) a_4)) (0+(↑a_4:Int).toNat) 0 ((List.range 64).map (fun k_=>Value.int IntKind.u8 (a.d.lasts (0+(↑a_4:Int).toNat) k_))++(List.range 64).map (fun k_=>Value.int IntKind.u8 (a.d.lasts (0+(↑a_4:Int).toNat) k_))++[Value.bool false])) (rowsD (crashTo a.d a.klen (fun (i:Nat)=>a.keep (a.kr+i)) a')))/\devQ a.d a.d ((a.kn<=a.kn/\RowsEq a.kn 1 (fun (i x:Nat)=>Value.bool (a.keep i)) fun (i x:Nat)=>Value.bool (a.keep i))/\a'<=a.d.n/\a.d.n - a'<a.d.n - a_4)))/\(decide ((↑(cntL a.d a_4):Int)<(↑a.klen:Int))=false->InR .i64 ((↑(cntL a.d a_4):Int)+1)/\(0<=(↑a_4:Int)/\(↑a_4:Int)<(↑(devNew a_2).n:Int))/\0+(↑a_4:Int).toNat<a.d.n/\InR .i64 ((↑a_4:Int)+1)/\∃ (a':Nat),(↑(cntL a.d a_4):Int)+1=(↑(cntL a.d a'):Int)/\(↑a_4:Int)+1=(↑a':Int)/\(↑a.d.n:Int)=(↑a.d.n:Int)/\(0=0/\a.d.n=a.d.n/\a.d.n=a.d.n)/\0=0/\false=false/\0=0/\(a.kr=a.kr/\a.klen=a.klen/\a.kcap=a.kcap)/\(0=0/\(devNew a_2).n=(devNew a_2).n/\(devNew a_2).n=(devNew a_2).n)/\(↑(devNew a_2).calls:Int)=(↑(devNew a_2).calls:Int)/\(a.d.n<=a.d.n/\RowsEq a.d.n 129 (updR (rowsD (crashTo a.d a.klen (fun (i:Nat)=>a.keep (a.kr+i)) a_4)) (0+(↑a_4:Int).toNat) 0 ((List.range 64).map (fun k_=>Value.int IntKind.u8 (a.d.lasts (0+(↑a_4:Int).toNat) k_))++(List.range 64).map (fun k_=>Value.int IntKind.u8 (a.d.lasts (0+(↑a_4:Int).toNat) k_))++[Value.bool false])) (rowsD (crashTo a.d a.klen (fun (i:Nat)=>a.keep (a.kr+i)) a'))) /\
 devQ a.d a.d ((a.kn<=a.kn/\RowsEq a.kn 1 (fun (i x:Nat)=>Value.bool (a.keep i)) fun (i x:Nat)=>Value.bool (a.keep i))/\a'<=a.d.n/\a.d.n - a'<a.d.n - a_4)))/\(a.d.loose (0+(↑a_4:Int).toNat)=false->(0<=(↑a_4:Int)/\(↑a_4:Int)<(↑(devNew a_2).n:Int))/\0+(↑a_4:Int).toNat<a.d.n/\InR .i64 ((↑a_4:Int)+1)/\∃ (a':Nat),(↑(cntL a.d a_4):Int)=(↑(cntL a.d a'):Int)/\(↑a_4:Int)+1=(↑a':Int)/\(↑a.d.n:Int)=(↑a.d.n:Int)/\(0=0/\a.d.n=a.d.n/\a.d.n=a.d.n)/\0=0/\false=false/\0=0/\(a.kr=a.kr/\a.klen=a.klen/\a.kcap=a.kcap)/\(0=0/\(devNew a_2).n=(devNew a_2).n/\(devNew a_2).n=(devNew a_2).n)/\(↑(devNew a_2).calls:Int)=(↑(devNew a_2).calls:Int)/\(a.d.n<=a.d.n/\RowsEq a.d.n 129 (updR (rowsD (crashTo a.d a.klen (fun (i:Nat)=>a.keep (a.kr+i)) a_4)) (0+(↑a_4:Int).toNat) 0 ((List.range 64).map (fun k_=>Value.int IntKind.u8 (a.d.lasts (0+(↑a_4:Int).toNat) k_))++(List.range 64).map (fun k_=>Value.int IntKind.u8 (a.d.lasts (0+(↑a_4:Int).toNat) k_))++[Value.bool false])) (rowsD (crashTo a.d a.klen (fun (i:Nat)=>a.keep (a.kr+i)) a')))/\devQ a.d a.d ((a.kn<=a.kn/\RowsEq a.kn 1 (fun (i x:Nat)=>Value.bool (a.keep i)) fun (i x:Nat)=>Value.bool (a.keep i))/\a'<=a.d.n/\a.d.n - a'<a.d.n - a_4)))/\(decide ((↑a_4:Int)<(↑a.d.n:Int))=false->∃ b:Unit,0=0/\(0=0/\(devNew a_2).n=(devCrash a.d a.klen fun (i:Nat)=>a.keep (a.kr+i)).n/\(devNew a_2).n=(devCrash a.d a.klen fun (i:Nat)=>a.keep (a.kr+i)).n) /\
 (↑(devNew a_2).calls:Int)=(↑(devCrash a.d a.klen fun (i:Nat)=>a.keep (a.kr+i)).calls:Int)/\((devCrash a.d a.klen fun (i:Nat)=>a.keep (a.kr+i)).n<=a.d.n/\RowsEq (devCrash a.d a.klen fun (i:Nat)=>a.keep (a.kr+i)).n 129 (rowsD (crashTo a.d a.klen (fun (i:Nat)=>a.keep (a.kr+i)) a_4)) (rowsD (devCrash a.d a.klen fun (i:Nat)=>a.keep (a.kr+i))))/\True/\True)) (by kernel_rfl) (by
 intro a h;obtain ⟨h1,h2,h3,h4⟩:=h;have ed:(devNew (a.d.n:Int)).n=a.d.n:=by simp only [devNew];omega
 refine ⟨(a.d.n:Int),rfl,trivial,fun _ _=>⟨⟨0,?_⟩,fun k hk=>⟨fun c1=>?_,fun c1=>?_⟩⟩⟩
 ·simp only [ed,Nat.zero_add];refine ⟨rfl,rfl,?_⟩;have e0:RowsEq a.d.n 129 (rowsD (devNew a.d.n)) (rowsD (crashTo a.d a.klen (fun i=>a.keep (a.kr+i)) 0)):=⟨fun i hi j hj=>by simp only [rowsD,devNew,crashTo,Nat.not_lt_zero,if_false]⟩
  (repeat' apply And.intro)<;>first|exact trivial|exact e0|exact RowsEq.refl _ _ _|exact Nat.le_refl _|omega
 ·have hk:k<a.d.n:=by simpa using c1
  have hc:cntL a.d k<=k:=by
   clear c1 hk
   induction k with
   | zero=>exact Nat.le_refl _
   | succ k ih=>have:=ih (by omega);simp only [cntL];split<;>omega
  simp only [ed,Nat.zero_add,Int.toNat_natCast,InR];refine ⟨by omega,by omega,fun c2=>⟨fun c3=>⟨by simp at c3;omega,by simp at c3;omega,fun c4=>?_,fun c4=>?_⟩,fun c3=>?_⟩,fun c2=>?_⟩
  ·refine ⟨by omega,by omega,by omega,by omega,k+1,by simp only [cntL,c2,if_true];omega,by omega,?_⟩;have e1:=crash_step (d:=a.d) (klen:=a.klen) (k:=k) (keep:=fun i=>a.keep (a.kr+i)) (fun j=>a.d.now k j) (fun j=>by simp at c3;simp [crashNow,c2,c3,c4])
   (repeat' apply And.intro)<;>first|exact trivial|exact e1|exact RowsEq.refl _ _ _|exact Nat.le_refl _|omega
  ·refine ⟨by omega,by omega,by omega,by omega,k+1,by simp only [cntL,c2,if_true];omega,by omega,?_⟩;have e1:=crash_step (d:=a.d) (klen:=a.klen) (k:=k) (keep:=fun i=>a.keep (a.kr+i)) (fun j=>a.d.lasts k j) (fun j=>by simp at c3;simp [crashNow,c4])
   (repeat' apply And.intro)<;>first|exact trivial|exact e1|exact RowsEq.refl _ _ _|exact Nat.le_refl _|omega
  ·refine ⟨by omega,by omega,by omega,by omega,k+1,by simp only [cntL,c2,if_true];omega,by omega,?_⟩;have e1:=crash_step (d:=a.d) (klen:=a.klen) (k:=k) (keep:=fun i=>a.keep (a.kr+i)) (fun j=>a.d.lasts k j) (fun j=>by simp at c3;simp [crashNow,show ¬ (cntL a.d k<a.klen) by omega])
   (repeat' apply And.intro)<;>first|exact trivial|exact e1|exact RowsEq.refl _ _ _|exact Nat.le_refl _|omega
  ·refine ⟨by omega,by omega,by omega,k+1,by simp only [cntL,c2];simp,by omega,?_⟩;have e1:=crash_step (d:=a.d) (klen:=a.klen) (k:=k) (keep:=fun i=>a.keep (a.kr+i)) (fun j=>a.d.lasts k j) (fun j=>by simp [crashNow,c2])
   (repeat' apply And.intro)<;>first|exact trivial|exact e1|exact RowsEq.refl _ _ _|exact Nat.le_refl _|omega
 ·have hk:k=a.d.n:=by simp at c1;omega
  subst hk;simp only [ed];refine ⟨(),(by trivial),⟨(by trivial),(by trivial),(by trivial)⟩,(by trivial),⟨Nat.le_refl _,⟨fun i hi j hj=>?_⟩⟩,trivial,trivial⟩;have hi:i<a.d.n:=hi;simp only [rowsD,crashTo,devCrash,hi,if_true])
theorem callDevNew:CallsBy (Y Tryz.prog).G.X 11 cDevNew:=fn_ok okY (tab:=[]) trivial bodyDevNew
theorem callDevWrite:CallsBy (Y Tryz.prog).G.X 38 cDevWrite:=fn_ok okY (tab:=[]) trivial bodyDevWrite
theorem callDevFlush:CallsBy (Y Tryz.prog).G.X 72 cDevFlush:=fn_ok okY (tab:=[]) trivial bodyDevFlush
theorem callDevRead:CallsBy (Y Tryz.prog).G.X 89 cDevRead:=fn_ok okY (tab:=[]) trivial bodyDevRead
theorem callDevCrash:CallsBy (Y Tryz.prog).G.X 15 cDevCrash:=fn_ok okY (tab:=[(11,cDevNew)]) ⟨callDevNew,trivial⟩ bodyDevCrash
end Go.Proofs.YtfhkbihcfmbbcaaGreat

namespace Go.Proofs.YtfhkbihcfmbbcaaGreat
open Go.Sx
set_option maxRecDepth 100000
set_option linter.unusedVariables false
set_option linter.unusedSimpArgs false
def encB (x:Int):List Value:=[.int .u8 x]
def vbF:Nat->Nat->List Int
 | 0,u=>[(u:Int)]
 | k+1,u=>if u<128 then [(u:Int)] else ((u % 128+128:Nat):Int)::vbF k (u / 128)
theorem vbF_len:∀ (k u:Nat),1<=(vbF k u).length/\(vbF k u).length<=k+1
 | 0,u=>by simp [vbF]
 | k+1,u=>by
  unfold vbF;split
  ·simp
  ·have:=vbF_len k (u / 128);simp only [List.length_cons];omega
theorem or128 (x:Nat):ibits .or .u8 (uw .u8 x) 128=((x % 128+128:Nat):Int):=by
 have h:∀ y:Fin 256,ibits .or .u8 (y.1:Int) 128=((y.1 % 128+128:Nat):Int):=by decide +kernel
 have e:uw .u8 (x:Int)=((x % 256:Nat):Int):=by simp only [uw];omega
 have:=h ⟨x % 256,by omega⟩;rw [e,this];simp only;omega
def vi (n:Int):List Int:=vbF 9 (2*n.toNat)
def byteHp (t:Nat) (l:List Int):List (Nat × Chunk):=[(t,.arr 5 [.int .u8] l.length (encRows encB l))]
def S.bytes (s:S) (slot:Nat) (l:List Int) (cap:Nat):S:=((s.put (s.hp.del (s.tg slot))).new (.arr 5 [.int .u8] l.length (encRows encB l))).set slot (.a (.slc s.nx 0 1 l.length cap))
structure NPutA where
 l:List Int
 cap:Nat
 n:Int
noncomputable def cNPut:Con where
 α:=NPutA
 β:=Nat
 m:=1
 m':=2
 pre:=fun a=>a.l.length<100000/\0<=a.n/\a.n<4611686018427387904
 args:=fun a=>[.a (.slc 0 0 1 a.l.length a.cap),.a (.int .i64 a.n)]
 hp:=fun a=>byteHp 0 a.l
 ro:=fun _=>[]
 post:=fun _ _=>True
 res:=fun a c=>.a (.slc 1 0 1 (a.l++vi a.n).length c)
 hp':=fun a c=>byteHp 1 (a.l++vi a.n)
structure NPutS where
 l:List Int
 u:Nat
 k:Nat
 cap:Nat
def iNPut (a:NPutA):An:=.flat 4 NPutS (fun s x=>(S.bytes s 0 x.l x.cap).set 5 (.a (.int .u64 x.u))) (fun _ x=>x.l++vbF x.k x.u=a.l++vi a.n/\x.u<128 ^ (x.k+1)/\x.k<=9) (fun _ x=>x.u)
set_option maxHeartbeats 4000000 in
theorem bodyNPut:fnBody (Y Tryz.prog) [] 81 cNPut fun a=>[(81,[iNPut a],[])]:=fnBody.of (p :=
 ∀ a:NPutA,a.l.length<100000/\(0:Int)<=a.n/\a.n<(4611686018427387904:Int)->(0:Int)<=1/\(decide (a.n<(0:Int))=true->(∃ a_3:NPutS,ibits Go.BinOp.xor IntKind.u64 (18446744073709551615:Int) (uw .u64 (uw .u64 a.n*(2:Int)))=(↑a_3.u:Int)/\(0=0/\a.l.length=a_3.l.length/\a.cap=a_3.cap)/\decide (a.n<(0:Int))=decide (a.n<(0:Int))/\a.n=a.n/\(a_3.l.length<=a.l.length/\RowsEq a_3.l.length 1 (encRows encB a.l) (encRows encB a_3.l))/\(a_3.l++vbF a_3.k a_3.u=a.l++vi a.n/\a_3.u<128 ^ (a_3.k+1)/\a_3.k<=9)/\True)/\∀ a_3:NPutS,a_3.l++vbF a_3.k a_3.u=a.l++vi a.n/\a_3.u<128 ^ (a_3.k+1)/\a_3.k<=9->(decide (127<(↑a_3.u:Int))=true->0+a_3.l.length<=a_3.l.length/\1<=1/\(a_3.l.length+1)*1<=140737488355328/\∀ cap:Nat,a_3.l.length+1<=cap->cap<=lenMax->(a_3.l.length+1<=a_3.cap->cap=a_3.cap)->(0:Int)<=7/\∃ (a':NPutS),(↑a_3.u:Int) / 128=(↑a'.u:Int)/\(0=0/\a_3.l.length+1=a'.l.length/\cap=a'.cap)/\decide (a.n<(0:Int))=decide (a.n<(0:Int))/\a.n=a.n/\(a'.l.length<=a_3.l.length+1/\RowsEq a'.l.length 1 (appRows (encRows encB a_3.l) 0 a_3.l.length fun (i j:Nat)=>flatRows 1 [Value.int IntKind.u8 (ibits Go.BinOp.or IntKind.u8 (uw .u8 (↑a_3.u:Int)) (128:Int))] (0+i) j) (encRows encB a'.l))/\(a'.l++vbF a'.k a'.u=a.l++vi a.n/\a'.u<128 ^ (a'.k+1)/\a'.k<=9)/\a'.u<a_3.u)/\(decide (127<(↑a_3.u:Int))=false->0+a_3.l.length<=a_3.l.length /\
 1<=1/\(a_3.l.length+1)*1<=140737488355328/\∀ cap:Nat,a_3.l.length+1<=cap->cap<=lenMax->(a_3.l.length+1<=a_3.cap->cap=a_3.cap)->∃ b:Nat,(0=0/\a_3.l.length+1=(a.l++vi a.n).length/\cap=b)/\((a.l++vi a.n).length<=a_3.l.length+1/\RowsEq (a.l++vi a.n).length 1 (appRows (encRows encB a_3.l) 0 a_3.l.length fun (i j:Nat)=>flatRows 1 [Value.int IntKind.u8 (uw .u8 (↑a_3.u:Int))] (0+i) j) (encRows encB (a.l++vi a.n)))/\True/\True))/\(decide (a.n<(0:Int))=false->(∃ a_3:NPutS,uw .u64 (uw .u64 a.n*(2:Int))=(↑a_3.u:Int)/\(0=0/\a.l.length=a_3.l.length/\a.cap=a_3.cap)/\decide (a.n<(0:Int))=decide (a.n<(0:Int))/\a.n=a.n/\(a_3.l.length<=a.l.length/\RowsEq a_3.l.length 1 (encRows encB a.l) (encRows encB a_3.l))/\(a_3.l++vbF a_3.k a_3.u=a.l++vi a.n/\a_3.u<128 ^ (a_3.k+1)/\a_3.k<=9)/\True)/\∀ a_3:NPutS,a_3.l++vbF a_3.k a_3.u=a.l++vi a.n/\a_3.u<128 ^ (a_3.k+1)/\a_3.k<=9->(decide (127<(↑a_3.u:Int))=true->0+a_3.l.length<=a_3.l.length/\1<=1/\(a_3.l.length+1)*1<=140737488355328/\∀ cap:Nat,a_3.l.length+1<=cap->cap<=lenMax->(a_3.l.length+1<=a_3.cap->cap=a_3.cap)->(0:Int)<=7/\∃ (a':NPutS),(↑a_3.u:Int) / 128=(↑a'.u:Int)/\(0=0/\a_3.l.length+1=a'.l.length/\cap=a'.cap)/\decide (a.n<(0:Int))=decide (a.n<(0:Int))/\a.n=a.n/\(a'.l.length<=a_3.l.length+1/\RowsEq a'.l.length 1 (appRows (encRows encB a_3.l) 0 a_3.l.length fun (i j:Nat)=>flatRows 1 [Value.int IntKind.u8 (ibits Go.BinOp.or IntKind.u8 (uw .u8 (↑a_3.u:Int)) (128:Int))] (0+i) j) (encRows encB a'.l)) /\
 (a'.l++vbF a'.k a'.u=a.l++vi a.n/\a'.u<128 ^ (a'.k+1)/\a'.k<=9)/\a'.u<a_3.u)/\(decide (127<(↑a_3.u:Int))=false->0+a_3.l.length<=a_3.l.length/\1<=1/\(a_3.l.length+1)*1<=140737488355328/\∀ cap:Nat,a_3.l.length+1<=cap->cap<=lenMax->(a_3.l.length+1<=a_3.cap->cap=a_3.cap)->∃ b:Nat,(0=0/\a_3.l.length+1=(a.l++vi a.n).length/\cap=b)/\((a.l++vi a.n).length<=a_3.l.length+1/\RowsEq (a.l++vi a.n).length 1 (appRows (encRows encB a_3.l) 0 a_3.l.length fun (i j:Nat)=>flatRows 1 [Value.int IntKind.u8 (uw .u8 (↑a_3.u:Int))] (0+i) j) (encRows encB (a.l++vi a.n)))/\True/\True))) (by kernel_rfl) (by
 rintro ⟨l,cap,n⟩ ⟨h1,h2,h3⟩;dsimp only at h1 h2 h3 ⊢;have e0:decide (n<0)=false:=by simp;omega
 have e1:uw .u64 (uw .u64 n*2)=((2*n.toNat:Nat):Int):=by simp only [uw];omega
 have hv:=vbF_len 9 (2*n.toNat);rw [e0,e1];refine ⟨by omega,fun e=>(by cases e),fun _=>⟨⟨⟨l,2*n.toNat,9,cap⟩,?_⟩,fun x hx=>?_⟩⟩
 ·dsimp only
  (repeat' apply And.intro)<;>first|trivial|exact RowsEq.refl _ _ _|exact Nat.le_refl _|(simp only [vi])|omega|skip
 ·obtain ⟨l',u,k,cap'⟩:=x;obtain ⟨g1,g2,g3⟩:=hx;dsimp only at g1 g2 g3 ⊢;have hl:=congrArg List.length g1;have hv2:=vbF_len k u;simp only [List.length_append,vi] at hl;refine ⟨fun c1=>⟨by omega,by omega,by omega,fun c hc1 hc2 hc3=>⟨by omega,⟨l'++[((u % 128+128:Nat):Int)],u / 128,k - 1,c⟩,?_⟩⟩,fun c1=>⟨by omega,by omega,by omega,fun c hc1 hc2 hc3=>⟨c,?_⟩⟩⟩
  ·have c1:127<u:=by simp at c1;omega
   obtain ⟨k',rfl⟩:∃ k',k=k'+1:=⟨k - 1,by
    by_cases hk:k=0
    ·subst hk;simp at g2;omega
    ·omega⟩
   have g1':(l'++[((u % 128+128:Nat):Int)])++vbF k' (u / 128)=l++vi n:=by
    rw [<- g1,List.append_assoc];congr 1;rw [show vbF (k'+1) u=((u % 128+128:Nat):Int)::vbF k' (u / 128) from if_neg (by omega)];rfl
   have g4:u / 128<128 ^ (k'+1):=by
    rw [Nat.pow_succ] at g2;exact Nat.div_lt_of_lt_mul (by rw [Nat.mul_comm];exact g2)
   simp only [Nat.add_sub_cancel]
   (repeat' apply And.intro)<;>first|trivial|with_reducible rfl|exact g1'|exact g4|omega|(simp;done)|skip
   refine .push rfl (by simp) ?_;show [_]=[_]
   simp only [flatRows,encB,Nat.add_zero,Nat.zero_mul,List.getD_cons_zero,or128]
  ·have c1:u<128:=by simp at c1;omega
   have e5:vbF k u=[(u:Int)]:=by
    cases k with
    | zero=>rfl
    | succ k=>exact if_pos (by simp at c1;omega)
   rw [e5] at g1;rw [<- g1]
   (repeat' apply And.intro)<;>first|trivial|with_reducible rfl|omega|(simp;done)|skip
   refine .push rfl (by simp) ?_;show [_]=[_]
   simp only [flatRows,encB,Nat.add_zero,Nat.zero_mul,List.getD_cons_zero,uw];rw [Int.emod_eq_of_lt (by omega) (by omega)])
theorem vi_len (n:Int):1<=(vi n).length/\(vi n).length<=10:=vbF_len 9 _
theorem callNPut:CallsBy (Y Tryz.prog).G.X 81 cNPut:=fn_ok okY (tab:=[]) trivial bodyNPut
structure ItemM where
 key:ByteArray
 val:ByteArray
 e:Int
 gone:Bool
 deriving Inhabited
def ksItem:List CK:=[.str,.str,.int .i64,.bool]
def encItem (x:ItemM):List Value:=[.string x.key,.string x.val,.int .i64 x.e,.bool x.gone]
def itemA (x:ItemM):List A:=[.str x.key,.str x.val,.int .i64 x.e,.bool x.gone]
def keyB (k:ByteArray):Bool:=!decide (k=ByteArray.mk #[])&&decide (k.size<=40)
def mayB (x:ItemM):Bool:=keyB x.key&&decide (x.val.size<=200)&&decide (0<=x.e)&&decide (x.e<=1099511627776)&&(!x.gone||decide (x.val=ByteArray.mk #[])&&decide (x.e=0))
def liveB (x:ItemM) (now:Int):Bool:=mayB x&&!x.gone&&(decide (x.e=0)||decide (now<x.e))
noncomputable def cKey:Con where
 α:=ByteArray
 β:=Unit
 m:=0
 m':=0
 pre:=fun _=>True
 args:=fun k=>[.a (.str k)]
 hp:=fun _=>[]
 ro:=fun _=>[]
 post:=fun _ _=>True
 res:=fun k _=>.a (.bool (keyB k))
 hp':=fun _ _=>[]
set_option maxHeartbeats 4000000 in
theorem bodyKey:fnBody (Y Tryz.prog) [] 34 cKey fun _=>[]:=fnBody.of (p :=
 ∀ a:ByteArray,True->((!decide (a=(ByteArray.mk #[])))=true->∃ b:Unit,decide ((↑a.size:Int)<=40)=keyB a/\True/\True)/\((!decide (a=(ByteArray.mk #[])))=false->∃ b:Unit,false=keyB a/\True/\True)) (by kernel_rfl) (by
 intro k _;refine ⟨fun h=>⟨(),?_,trivial,trivial⟩,fun h=>⟨(),?_,trivial,trivial⟩⟩
 ·simp only [keyB,h,Bool.true_and];exact decide_eq_decide.2 (by omega)
 ·simp only [keyB,h];rfl)
noncomputable def cMay:Con where
 α:=ItemM
 β:=Unit
 m:=0
 m':=0
 pre:=fun _=>True
 args:=fun x=>[.agg (itemA x)]
 hp:=fun _=>[]
 ro:=fun _=>[]
 post:=fun _ _=>True
 res:=fun x _=>.a (.bool (mayB x))
 hp':=fun _ _=>[]
set_option maxHeartbeats 4000000 in
theorem bodyMay:fnBody (Y Tryz.prog) [(34,cKey)] 43 cMay fun _=>[]:=fnBody.of (p :=
 ∀ a:ItemM,True->∃ a_2:ByteArray,a.key=a_2/\True/\∀ b:Unit,True->((!keyB a_2)=true->∃ b:Unit,false=mayB a/\True/\True)/\((!keyB a_2)=false->(decide (200<(↑a.val.size:Int))=true->∃ b:Unit,false=mayB a/\True/\True)/\(decide (200<(↑a.val.size:Int))=false->InR .i64 a.e->(decide (a.e<(0:Int))=true->∃ b:Unit,false=mayB a/\True/\True)/\(decide (a.e<(0:Int))=false->InR .i64 a.e->(decide ((1099511627776:Int)<a.e)=true->∃ b:Unit,false=mayB a/\True/\True)/\(decide ((1099511627776:Int)<a.e)=false->((!a.gone)=true->∃ b:Unit,true=mayB a/\True/\True)/\((!a.gone)=false->(decide (a.val=(ByteArray.mk #[]))=true->InR .i64 a.e->∃ b:Unit,(a.e == (0:Int))=mayB a/\True/\True)/\(decide (a.val=(ByteArray.mk #[]))=false->∃ b:Unit,false=mayB a/\True/\True))))))) (by kernel_rfl) (by
 intro x _;have hv:x.val=ByteArray.mk #[]->x.val.size=0:=fun e=>by rw [e];rfl
 refine ⟨x.key,rfl,trivial,fun _ _=>?_⟩
 repeat' (first|intro _|apply And.intro|apply Exists.intro ())
 all_goals (try exact trivial)
 all_goals (try simp only [Bool.not_eq_true',Bool.not_eq_false',decide_eq_true_eq,decide_eq_false_iff_not] at *)
 all_goals (simp only [mayB];rw [Bool.eq_iff_iff];simp only [Bool.and_eq_true,Bool.or_eq_true,Bool.not_eq_true',decide_eq_true_eq,beq_iff_eq];grind))
structure LiveA where
 x:ItemM
 now:Int
noncomputable def cLive:Con where
 α:=LiveA
 β:=Unit
 m:=0
 m':=0
 pre:=fun _=>True
 args:=fun a=>[.agg (itemA a.x),.a (.int .i64 a.now)]
 hp:=fun _=>[]
 ro:=fun _=>[]
 post:=fun _ _=>True
 res:=fun a _=>.a (.bool (liveB a.x a.now))
 hp':=fun _ _=>[]
set_option maxHeartbeats 4000000 in
theorem bodyLive:fnBody (Y Tryz.prog) [(43,cMay)] 52 cLive fun _=>[]:=fnBody.of (p :=
 ∀ a:LiveA,True->∃ a_2:ItemM,a.x.key=a_2.key/\a.x.val=a_2.val/\a.x.e=a_2.e/\a.x.gone=a_2.gone/\True/\∀ b:Unit,True->(mayB a_2=true->((!a.x.gone)=true->InR .i64 a.x.e->((a.x.e == (0:Int))=true->∃ b:Unit,true=liveB a.x a.now/\True/\True)/\((a.x.e == (0:Int))=false->InR .i64 a.x.e->∃ b:Unit,decide (a.now<a.x.e)=liveB a.x a.now/\True/\True))/\((!a.x.gone)=false->∃ b:Unit,false=liveB a.x a.now/\True/\True))/\(mayB a_2=false->∃ b:Unit,false=liveB a.x a.now/\True/\True)) (by kernel_rfl) (by
 rintro ⟨x,now⟩ _;refine ⟨x,rfl,rfl,rfl,rfl,trivial,fun _ _=>?_⟩;dsimp only
 repeat' (first|intro _|apply And.intro|apply Exists.intro ())
 all_goals (try exact trivial)
 all_goals (try simp only [Bool.not_eq_true',Bool.not_eq_false',decide_eq_true_eq,decide_eq_false_iff_not] at *)
 all_goals (simp only [liveB];rw [Bool.eq_iff_iff];simp only [Bool.and_eq_true,Bool.or_eq_true,Bool.not_eq_true',decide_eq_true_eq,beq_iff_eq];(try simp only [Bool.not_eq_true'] at *);grind))
theorem take_push {α:Type} [Inhabited α] {l:List α} {i:Nat} (h:i<l.length):l.take (i+1)=l.take i++[gl l i]:=by
 rw [gl_eq h,List.take_add_one,List.getElem?_eq_getElem h];rfl
theorem flatMap_push {α β:Type} [Inhabited α] {l:List α} {f:α->List β} {i:Nat} (h:i<l.length):(l.take (i+1)).flatMap f=(l.take i).flatMap f++f (gl l i):=by
 rw [take_push h,List.flatMap_append];simp
theorem flatMap_all {α β:Type} {l:List α} {f:α->List β} {i:Nat} (h:¬ i<l.length):(l.take i).flatMap f=l.flatMap f:=by
 rw [List.take_of_length_le (by omega)]
theorem flatMap_len {α β:Type} [Inhabited α] {l:List α} {f:α->List β} {m:Nat} (h:∀ i,i<l.length->(f (gl l i)).length<=m):(l.flatMap f).length<=l.length*m:=by
 induction l with
 | nil=>simp
 | cons x r ih =>
  have h0:=h 0 (by simp);have:=ih fun i hi=>h (i+1) (by simp;omega);simp only [List.flatMap_cons,List.length_append,List.length_cons,Nat.succ_mul] at *;simp only [gl,List.getD_cons_zero] at h0;omega
theorem flatMap_take_len {α β:Type} [Inhabited α] {l:List α} {f:α->List β} {m:Nat} (h:∀ i,i<l.length->(f (gl l i)).length<=m) (k:Nat) (hk:k<=l.length):((l.take k).flatMap f).length<=k*m:=by
 have:=flatMap_len (l:=l.take k) (f:=f) (m:=m) fun i hi=>by
  simp at hi;have e:gl (l.take k) i=gl l i:=by unfold gl;rw [List.getD_eq_getElem?_getD,List.getElem?_take_of_lt (by omega),List.getD_eq_getElem?_getD]
  rw [e];exact h i (by omega)
 simpa [Nat.min_eq_left hk] using this
def txB (t:ByteArray):List Int:=t.data.toList.map fun b=>(b.toNat:Int)
def encI (x:Int):List Value:=[.int .i64 x]
def encT (x:ByteArray):List Value:=[.string x]
def putsB (ns:List Int):List Int:=ns.flatMap vi
def textsB (ts:List ByteArray):List Int:=ts.flatMap fun t=>vi t.size++txB t
theorem txB_len (t:ByteArray):(txB t).length=t.size:=by rw [txB,List.length_map];rfl
theorem bytes_rows (t:ByteArray) {m:Nat} (h:m<=t.size):RowsEq m 1 (bytesRows t) (encRows encB (txB t)):=by
 refine ⟨fun i hi j hj=>?_⟩;have hj:j=0:=by omega
 have hs:t.size=t.data.size:=rfl;have hi':i<t.data.size:=by omega
 subst hj;simp only [bytesRows,encRows,encB,List.getD_cons_zero,txB,gl];congr 1;simp [List.getD_eq_getElem?_getD,Array.getD_eq_getD_getElem?,Array.getElem?_eq_getElem hi']
structure NPutsA where
 l:List Int
 cap:Nat
 ns:List Int
 ncap:Nat
noncomputable def cNPuts:Con where
 α:=NPutsA
 β:=Nat
 m:=2
 m':=3
 pre:=fun a=>a.l.length<10000/\a.ns.length<100/\∀ i,i<a.ns.length->0<=gl a.ns i/\gl a.ns i<4611686018427387904
 args:=fun a=>[.a (.slc 0 0 1 a.l.length a.cap),.a (.slc 1 0 1 a.ns.length a.ncap)]
 hp:=fun a=>byteHp 0 a.l
 ro:=fun a=>[(1,.arr 2 [.int .i64] a.ns.length (encRows encI a.ns))]
 post:=fun _ _=>True
 res:=fun a c=>.a (.slc 2 0 1 (a.l++putsB a.ns).length c)
 hp':=fun a c=>byteHp 2 (a.l++putsB a.ns)
def iNPuts (a:NPutsA):An:=.flat 2 (Nat × Nat) (fun s x=>(S.bytes s 0 (a.l++putsB (a.ns.take x.1)) x.2).int 9 x.1) (fun _ x=>x.1<=a.ns.length) (fun _ x=>a.ns.length - x.1)
set_option maxHeartbeats 4000000 in
theorem bodyNPuts:fnBody (Y Tryz.prog) [(81,cNPut)] 54 cNPuts fun a=>[(54,[iNPuts a],[])]:=fnBody.of (p :=
 ∀ a:NPutsA,(a.l.length<10000/\a.ns.length<100/\∀ i:Nat,i<a.ns.length->(0:Int)<=gl a.ns i/\gl a.ns i<(4611686018427387904:Int))->(∃ a_2:Nat × Nat,0=(↑a_2.fst:Int)/\(0=0/\a.l.length=(a.l++putsB (List.take a_2.fst a.ns)).length/\a.cap=a_2.snd)/\(↑a.ns.length:Int)=(↑a.ns.length:Int)/\(0=0/\a.ns.length=a.ns.length/\a.ncap=a.ncap)/\(0=0/\a.ns.length=a.ns.length/\a.ncap=a.ncap)/\((a.l++putsB (List.take a_2.fst a.ns)).length<=a.l.length/\RowsEq (a.l++putsB (List.take a_2.fst a.ns)).length 1 (encRows encB a.l) (encRows encB (a.l++putsB (List.take a_2.fst a.ns))))/\(a.ns.length<=a.ns.length/\RowsEq a.ns.length 1 (encRows encI a.ns) (encRows encI a.ns))/\a_2.fst<=a.ns.length/\True)/\∀ a_2:Nat × Nat,a_2.fst<=a.ns.length->(decide ((↑a_2.fst:Int)<(↑a.ns.length:Int))=true->(0<=(↑a_2.fst:Int)/\(↑a_2.fst:Int)<(↑a.ns.length:Int))/\0+(↑a_2.fst:Int).toNat<a.ns.length/\(InR .i64 (gl a.ns (0+(↑a_2.fst:Int).toNat))->∃ a_6:NPutA,(0=0/\(a.l++putsB (List.take a_2.fst a.ns)).length=a_6.l.length/\a_2.snd=a_6.cap)/\gl a.ns (0+(↑a_2.fst:Int).toNat)=a_6.n/\(a_6.l.length<=(a.l++putsB (List.take a_2.fst a.ns)).length/\RowsEq a_6.l.length 1 (encRows encB (a.l++putsB (List.take a_2.fst a.ns))) (encRows encB a_6.l))/\(a_6.l.length<100000/\(0:Int)<=a_6.n/\a_6.n<(4611686018427387904:Int))/\∀ b:Nat,True->InR .i64 ((↑a_2.fst:Int)+1)/\∃ (a':Nat × Nat),(↑a_2.fst:Int)+1=(↑a'.fst:Int) /\
 (0=0/\(a_6.l++vi a_6.n).length=(a.l++putsB (List.take a'.fst a.ns)).length/\b=a'.snd)/\(↑a.ns.length:Int)=(↑a.ns.length:Int)/\(0=0/\a.ns.length=a.ns.length/\a.ncap=a.ncap)/\(0=0/\a.ns.length=a.ns.length/\a.ncap=a.ncap)/\((a.l++putsB (List.take a'.fst a.ns)).length<=(a_6.l++vi a_6.n).length/\RowsEq (a.l++putsB (List.take a'.fst a.ns)).length 1 (encRows encB (a_6.l++vi a_6.n)) (encRows encB (a.l++putsB (List.take a'.fst a.ns))))/\(a.ns.length<=a.ns.length/\RowsEq a.ns.length 1 (encRows encI a.ns) (encRows encI a.ns))/\a'.fst<=a.ns.length/\a.ns.length - a'.fst<a.ns.length - a_2.fst))/\(decide ((↑a_2.fst:Int)<(↑a.ns.length:Int))=false->∃ b:Nat,(0=0/\(a.l++putsB (List.take a_2.fst a.ns)).length=(a.l++putsB a.ns).length/\a_2.snd=b)/\((a.l++putsB a.ns).length<=(a.l++putsB (List.take a_2.fst a.ns)).length/\RowsEq (a.l++putsB a.ns).length 1 (encRows encB (a.l++putsB (List.take a_2.fst a.ns))) (encRows encB (a.l++putsB a.ns)))/\True/\True)) (by kernel_rfl) (by
 rintro ⟨l,cap,ns,ncap⟩ ⟨h1,h2,h3⟩;dsimp only at h1 h2 h3 ⊢;have e0:putsB (ns.take 0)=[]:=rfl;refine ⟨⟨(0,cap),?_⟩,fun x hx=>?_⟩
 ·dsimp only;rw [e0,List.append_nil]
  (repeat' apply And.intro)<;>first|trivial|with_reducible rfl|exact RowsEq.refl _ _ _|exact Nat.le_refl _|omega
 ·obtain ⟨i,c⟩:=x;have hx:i<=ns.length:=hx;have ln:(putsB (ns.take i)).length<=i*10:=flatMap_take_len (fun j _=>(vi_len _).2) i hx;dsimp only;simp only [Nat.zero_add,Int.toNat_natCast,InR];refine ⟨fun c1=>?_,fun c1=>?_⟩
  ·have hi:i<ns.length:=by simpa using c1
   have hs:putsB (ns.take (i+1))=putsB (ns.take i)++vi (gl ns i):=flatMap_push hi;have h3:=h3 i hi;refine ⟨by omega,by omega,fun _=>⟨⟨l++putsB (ns.take i),c,gl ns i⟩,?_⟩⟩;dsimp only;rw [List.append_assoc,<- hs]
   (repeat' (first|apply And.intro|(intro _)))<;>first|trivial|with_reducible rfl|exact RowsEq.refl _ _ _|exact Nat.le_refl _|omega|(simp;omega)|skip
   apply Exists.intro ((i+1,_):Nat × Nat)
   (repeat' (first|apply And.intro|(intro _)))<;>first|trivial|with_reducible rfl|exact RowsEq.refl _ _ _|exact Nat.le_refl _|omega
  ·have hi:¬ i<ns.length:=by simpa using c1
   rw [show putsB (ns.take i)=putsB ns from flatMap_all hi];refine ⟨c,?_⟩
   (repeat' (first|apply And.intro|(intro _)))<;>first|trivial|with_reducible rfl|exact RowsEq.refl _ _ _|exact Nat.le_refl _|omega)
structure NTextsA where
 l:List Int
 cap:Nat
 ts:List ByteArray
 tcap:Nat
noncomputable def cNTexts:Con where
 α:=NTextsA
 β:=Nat
 m:=2
 m':=3
 pre:=fun a=>a.l.length<10000/\a.ts.length<20/\∀ i,i<a.ts.length->(gl a.ts i).size<=1000
 args:=fun a=>[.a (.slc 0 0 1 a.l.length a.cap),.a (.slc 1 0 1 a.ts.length a.tcap)]
 hp:=fun a=>byteHp 0 a.l
 ro:=fun a=>[(1,.arr 9 [.str] a.ts.length (encRows encT a.ts))]
 post:=fun _ _=>True
 res:=fun a c=>.a (.slc 2 0 1 (a.l++textsB a.ts).length c)
 hp':=fun a c=>byteHp 2 (a.l++textsB a.ts)
def iNTexts (a:NTextsA):An:=.flat 2 (Nat × Nat) (fun s x=>(S.bytes s 0 (a.l++textsB (a.ts.take x.1)) x.2).int 9 x.1) (fun _ x=>x.1<=a.ts.length) (fun _ x=>a.ts.length - x.1)
set_option maxHeartbeats 4000000 in
theorem bodyNTexts:fnBody (Y Tryz.prog) [(81,cNPut)] 68 cNTexts fun a=>[(68,[iNTexts a],[])]:=fnBody.of (p :=
 ∀ a:NTextsA,(a.l.length<10000/\a.ts.length<20/\∀ i:Nat,i<a.ts.length->(gl a.ts i).size<=1000)->(∃ a_2:Nat × Nat,0=(↑a_2.fst:Int)/\(0=0/\a.l.length=(a.l++textsB (List.take a_2.fst a.ts)).length/\a.cap=a_2.snd)/\(↑a.ts.length:Int)=(↑a.ts.length:Int)/\(0=0/\a.ts.length=a.ts.length/\a.tcap=a.tcap)/\(0=0/\a.ts.length=a.ts.length/\a.tcap=a.tcap)/\((a.l++textsB (List.take a_2.fst a.ts)).length<=a.l.length/\RowsEq (a.l++textsB (List.take a_2.fst a.ts)).length 1 (encRows encB a.l) (encRows encB (a.l++textsB (List.take a_2.fst a.ts))))/\(a.ts.length<=a.ts.length/\RowsEq a.ts.length 1 (encRows encT a.ts) (encRows encT a.ts))/\a_2.fst<=a.ts.length/\True)/\∀ a_2:Nat × Nat,a_2.fst<=a.ts.length->(decide ((↑a_2.fst:Int)<(↑a.ts.length:Int))=true->(0<=(↑a_2.fst:Int)/\(↑a_2.fst:Int)<(↑a.ts.length:Int))/\0+(↑a_2.fst:Int).toNat<a.ts.length/\∃ a_5:NPutA,(0=0/\(a.l++textsB (List.take a_2.fst a.ts)).length=a_5.l.length/\a_2.snd=a_5.cap)/\(↑(gl a.ts (0+(↑a_2.fst:Int).toNat)).size:Int)=a_5.n/\(a_5.l.length<=(a.l++textsB (List.take a_2.fst a.ts)).length/\RowsEq a_5.l.length 1 (encRows encB (a.l++textsB (List.take a_2.fst a.ts))) (encRows encB a_5.l))/\(a_5.l.length<100000/\(0:Int)<=a_5.n/\a_5.n<(4611686018427387904:Int))/\∀ b:Nat,True->0+(a_5.l++vi a_5.n).length<=(a_5.l++vi a_5.n).length/\((a_5.l++vi a_5.n).length+(gl a.ts (0+(↑a_2.fst:Int).toNat)).size)*1<=140737488355328 /\
 ∀ cap:Nat,(a_5.l++vi a_5.n).length+(gl a.ts (0+(↑a_2.fst:Int).toNat)).size<=cap->cap<=lenMax->((a_5.l++vi a_5.n).length+(gl a.ts (0+(↑a_2.fst:Int).toNat)).size<=b->cap=b)->InR .i64 ((↑a_2.fst:Int)+1)/\∃ (a':Nat × Nat),(↑a_2.fst:Int)+1=(↑a'.fst:Int)/\(0=0/\(a_5.l++vi a_5.n).length+(gl a.ts (0+(↑a_2.fst:Int).toNat)).size=(a.l++textsB (List.take a'.fst a.ts)).length/\cap=a'.snd)/\(↑a.ts.length:Int)=(↑a.ts.length:Int)/\(0=0/\a.ts.length=a.ts.length/\a.tcap=a.tcap)/\(0=0/\a.ts.length=a.ts.length/\a.tcap=a.tcap)/\((a.l++textsB (List.take a'.fst a.ts)).length<=(a_5.l++vi a_5.n).length+(gl a.ts (0+(↑a_2.fst:Int).toNat)).size/\RowsEq (a.l++textsB (List.take a'.fst a.ts)).length 1 (appRows (encRows encB (a_5.l++vi a_5.n)) 0 (a_5.l++vi a_5.n).length (bytesRows (gl a.ts (0+(↑a_2.fst:Int).toNat)))) (encRows encB (a.l++textsB (List.take a'.fst a.ts))))/\(a.ts.length<=a.ts.length/\RowsEq a.ts.length 1 (encRows encT a.ts) (encRows encT a.ts))/\a'.fst<=a.ts.length/\a.ts.length - a'.fst<a.ts.length - a_2.fst)/\(decide ((↑a_2.fst:Int)<(↑a.ts.length:Int))=false->∃ b:Nat,(0=0/\(a.l++textsB (List.take a_2.fst a.ts)).length=(a.l++textsB a.ts).length/\a_2.snd=b)/\((a.l++textsB a.ts).length<=(a.l++textsB (List.take a_2.fst a.ts)).length/\RowsEq (a.l++textsB a.ts).length 1 (encRows encB (a.l++textsB (List.take a_2.fst a.ts))) (encRows encB (a.l++textsB a.ts))) /\
 True/\True)) (by kernel_rfl) (by
 rintro ⟨l,cap,ts,tcap⟩ ⟨h1,h2,h3⟩;dsimp only at h1 h2 h3 ⊢;have e0:textsB (ts.take 0)=[]:=rfl;refine ⟨⟨(0,cap),?_⟩,fun x hx=>?_⟩
 ·dsimp only;rw [e0,List.append_nil]
  (repeat' apply And.intro)<;>first|trivial|with_reducible rfl|exact RowsEq.refl _ _ _|exact Nat.le_refl _|omega
 ·obtain ⟨i,c⟩:=x;have hx:i<=ts.length:=hx;have ln:(textsB (ts.take i)).length<=i*1010:=flatMap_take_len (fun j hj=>by
   have:=h3 j hj;have:=(vi_len ((gl ts j).size:Nat)).2;rw [List.length_append,txB_len];omega) i hx
  dsimp only;simp only [Nat.zero_add,Int.toNat_natCast,InR];refine ⟨fun c1=>?_,fun c1=>?_⟩
  ·have hi:i<ts.length:=by simpa using c1
   have hs:textsB (ts.take (i+1))=textsB (ts.take i)++(vi (gl ts i).size++txB (gl ts i)):=flatMap_push hi;have h3:=h3 i hi;have hv:=vi_len ((gl ts i).size:Nat);refine ⟨by omega,by omega,⟨⟨l++textsB (ts.take i),c,(gl ts i).size⟩,?_⟩⟩;dsimp only;have hl2:(l++textsB (ts.take i)++vi (gl ts i).size).length+(gl ts i).size=(l++textsB (ts.take (i+1))).length:=by
    rw [hs];simp only [List.length_append,txB_len];omega
   have hr2:RowsEq (l++textsB (ts.take (i+1))).length 1 (appRows (encRows encB (l++textsB (ts.take i)++vi (gl ts i).size)) 0 (l++textsB (ts.take i)++vi (gl ts i).size).length (bytesRows (gl ts i))) (encRows encB (l++textsB (ts.take (i+1)))):=by
    rw [hs,<- List.append_assoc,<- List.append_assoc];refine .app rfl (.of_eq (by funext i;simp)) (bytes_rows _ (by simp only [List.length_append,txB_len];omega))
   (repeat' (first|apply And.intro|(intro _)|apply Exists.intro ((i+1,_):Nat × Nat)))<;>first|trivial|with_reducible rfl|exact RowsEq.refl _ _ _|exact Nat.le_refl _|exact hr2|exact hl2|exact Nat.le_of_eq hl2.symm|omega|(dsimp only;omega)|(simp only [List.length_append];omega)
  ·have hi:¬ i<ts.length:=by simpa using c1
   rw [show textsB (ts.take i)=textsB ts from flatMap_all hi];refine ⟨c,?_⟩
   (repeat' (first|apply And.intro|(intro _)))<;>first|trivial|with_reducible rfl|exact RowsEq.refl _ _ _|exact Nat.le_refl _|omega)
def itemB (x:ItemM):List Int:=textsB [x.key,x.val]++putsB [x.e,if x.gone then 1 else 0]
def itemsB (xs:List ItemM):List Int:=xs.flatMap itemB
theorem may_out {x:ItemM} (h:mayB x=true):x.key.size<=40/\x.val.size<=200/\0<=x.e/\x.e<=1099511627776:=by
 simp only [mayB,keyB,Bool.and_eq_true,decide_eq_true_eq] at h;exact ⟨h.1.1.1.1.2,h.1.1.1.2,h.1.1.2,h.1.2⟩
theorem itemB_len {x:ItemM} (h:mayB x=true):(itemB x).length<=300:=by
 obtain ⟨k1,k2,k3,k4⟩:=may_out h;have a1:=(vi_len (x.key.size:Nat)).2;have a2:=(vi_len (x.val.size:Nat)).2;have a3:=(vi_len x.e).2;have a4:=(vi_len (if x.gone then 1 else 0)).2;simp only [itemB,textsB,putsB,List.flatMap_cons,List.flatMap_nil,List.length_append,txB_len,List.length_nil];omega
structure EncA where
 xs:List ItemM
 cap:Nat
noncomputable def cEnc:Con where
 α:=EncA
 β:=Nat
 m:=1
 m':=2
 pre:=fun a=>1<=a.xs.length/\a.xs.length<20/\∀ i,i<a.xs.length->mayB (gl a.xs i)=true
 args:=fun a=>[.a (.slc 0 0 4 a.xs.length a.cap)]
 hp:=fun _=>[]
 ro:=fun a=>[(0,.arr 46 ksItem a.xs.length (encRows encItem a.xs))]
 post:=fun _ _=>True
 res:=fun a c=>.a (.slc 1 0 1 (itemsB a.xs).length c)
 hp':=fun a c=>byteHp 1 (itemsB a.xs)
def iEnc (a:EncA):An:=.flat 3 (Nat × Nat) (fun s x=>((s.new (.arr 5 [.int .u8] (itemsB (a.xs.take x.1)).length (encRows encB (itemsB (a.xs.take x.1))))).set 3 (.a (.slc s.nx 0 1 (itemsB (a.xs.take x.1)).length x.2))).int 9 x.1) (fun _ x=>x.1<=a.xs.length) (fun _ x=>a.xs.length - x.1)
set_option maxHeartbeats 4000000 in
theorem bodyEnc:fnBody (Y Tryz.prog) [(43,cMay),(54,cNPuts),(68,cNTexts)] 45 cEnc fun a=>[(45,[iEnc a],[])]:=fnBody.of (p :=
 ∀ a:EncA,(1<=a.xs.length/\a.xs.length<20/\∀ i:Nat,i<a.xs.length->mayB (gl a.xs i)=true)->(∃ a_2:Nat × Nat,0=(↑a_2.fst:Int)/\(0=(itemsB (List.take a_2.fst a.xs)).length/\0=a_2.snd)/\(↑a.xs.length:Int)=(↑a.xs.length:Int)/\(0=0/\a.xs.length=a.xs.length/\a.cap=a.cap)/\(0=0/\a.xs.length=a.xs.length/\a.cap=a.cap)/\(itemsB (List.take a_2.fst a.xs)).length=0/\(a.xs.length<=a.xs.length/\RowsEq a.xs.length 4 (encRows encItem a.xs) (encRows encItem a.xs))/\a_2.fst<=a.xs.length/\True)/\∀ a_2:Nat × Nat,a_2.fst<=a.xs.length->(decide ((↑a_2.fst:Int)<(↑a.xs.length:Int))=true->(0<=(↑a_2.fst:Int)/\(↑a_2.fst:Int)<(↑a.xs.length:Int))/\0+(↑a_2.fst:Int).toNat<a.xs.length/\∃ a_5:ItemM,(gl a.xs (0+(↑a_2.fst:Int).toNat)).key=a_5.key/\(gl a.xs (0+(↑a_2.fst:Int).toNat)).val=a_5.val/\(gl a.xs (0+(↑a_2.fst:Int).toNat)).e=a_5.e/\(gl a.xs (0+(↑a_2.fst:Int).toNat)).gone=a_5.gone/\True/\∀ b:Unit,True->((!mayB a_5)=true->∃ b:Nat,(0=(itemsB a.xs).length/\0=b)/\(itemsB a.xs).length=0/\True/\True)/\((!mayB a_5)=false->((gl a.xs (0+(↑a_2.fst:Int).toNat)).gone=true->InR .i64 (gl a.xs (0+(↑a_2.fst:Int).toNat)).e->((∃ a_10:NTextsA,(0=0/\(itemsB (List.take a_2.fst a.xs)).length=a_10.l.length/\a_2.snd=a_10.cap)/\(0=0/\2=a_10.ts.length/\2=a_10.tcap)/\(a_10.l.length<=(itemsB (List.take a_2.fst a.xs)).length/\RowsEq a_10.l.length 1 (encRows encB (itemsB (List.take a_2.fst a.xs))) (encRows encB a_10.l)) /\
 (a_10.ts.length<=2/\RowsEq a_10.ts.length 1 (flatRows 1 [Value.string (gl a.xs (0+(↑a_2.fst:Int).toNat)).key,Value.string (gl a.xs (0+(↑a_2.fst:Int).toNat)).val]) (encRows encT a_10.ts))/\(a_10.l.length<10000/\a_10.ts.length<20/\∀ i:Nat,i<a_10.ts.length->(gl a_10.ts i).size<=1000)/\∀ b:Nat,True->∃ a_12:NPutsA,(0=0/\(a_10.l++textsB a_10.ts).length=a_12.l.length/\b=a_12.cap)/\(0=0/\2=a_12.ns.length/\2=a_12.ncap)/\(a_12.l.length<=(a_10.l++textsB a_10.ts).length/\RowsEq a_12.l.length 1 (encRows encB (a_10.l++textsB a_10.ts)) (encRows encB a_12.l))/\(a_12.ns.length<=2/\RowsEq a_12.ns.length 1 (flatRows 1 [Value.int IntKind.i64 (gl a.xs (0+(↑a_2.fst:Int).toNat)).e,Value.int IntKind.i64 (1:Int)]) (encRows encI a_12.ns))/\(a_12.l.length<10000/\a_12.ns.length<100/\∀ i:Nat,i<a_12.ns.length->(0:Int)<=gl a_12.ns i/\gl a_12.ns i<(4611686018427387904:Int))/\∀ b:Nat,True->InR .i64 ((↑a_2.fst:Int)+1)/\∃ (a':Nat × Nat),(↑a_2.fst:Int)+1=(↑a'.fst:Int)/\(0=0/\(a_12.l++putsB a_12.ns).length=(itemsB (List.take a'.fst a.xs)).length/\b=a'.snd)/\(↑a.xs.length:Int)=(↑a.xs.length:Int)/\(0=0/\a.xs.length=a.xs.length/\a.cap=a.cap)/\(0=0/\a.xs.length=a.xs.length/\a.cap=a.cap)/\((itemsB (List.take a'.fst a.xs)).length<=(a_12.l++putsB a_12.ns).length/\RowsEq (itemsB (List.take a'.fst a.xs)).length 1 (encRows encB (a_12.l++putsB a_12.ns)) (encRows encB (itemsB (List.take a'.fst a.xs)))) /\
 (a.xs.length<=a.xs.length/\RowsEq a.xs.length 4 (encRows encItem a.xs) (encRows encItem a.xs))/\a'.fst<=a.xs.length/\a.xs.length - a'.fst<a.xs.length - a_2.fst)/\∃ a_10:NTextsA,(0=0/\(itemsB (List.take a_2.fst a.xs)).length=a_10.l.length/\a_2.snd=a_10.cap)/\(0=0/\2=a_10.ts.length/\2=a_10.tcap)/\(a_10.l.length<=(itemsB (List.take a_2.fst a.xs)).length/\RowsEq a_10.l.length 1 (encRows encB (itemsB (List.take a_2.fst a.xs))) (encRows encB a_10.l))/\(a_10.ts.length<=2/\RowsEq a_10.ts.length 1 (flatRows 1 [Value.string (gl a.xs (0+(↑a_2.fst:Int).toNat)).key,Value.string (gl a.xs (0+(↑a_2.fst:Int).toNat)).val]) (encRows encT a_10.ts))/\(a_10.l.length<10000/\a_10.ts.length<20/\∀ i:Nat,i<a_10.ts.length->(gl a_10.ts i).size<=1000)/\∀ b:Nat,True->∃ a_12:NPutsA,(0=0/\(a_10.l++textsB a_10.ts).length=a_12.l.length/\b=a_12.cap)/\(0=0/\2=a_12.ns.length/\2=a_12.ncap)/\(a_12.l.length<=(a_10.l++textsB a_10.ts).length/\RowsEq a_12.l.length 1 (encRows encB (a_10.l++textsB a_10.ts)) (encRows encB a_12.l))/\(a_12.ns.length<=2/\RowsEq a_12.ns.length 1 (flatRows 1 [Value.int IntKind.i64 (gl a.xs (0+(↑a_2.fst:Int).toNat)).e,Value.int IntKind.i64 (1:Int)]) (encRows encI a_12.ns))/\(a_12.l.length<10000/\a_12.ns.length<100/\∀ i:Nat,i<a_12.ns.length->(0:Int)<=gl a_12.ns i/\gl a_12.ns i<(4611686018427387904:Int))/\∀ b:Nat,True->InR .i64 ((↑a_2.fst:Int)+1)/\∃ (a':Nat × Nat),(↑a_2.fst:Int)+1=(↑a'.fst:Int) /\
 (0=0/\(a_12.l++putsB a_12.ns).length=(itemsB (List.take a'.fst a.xs)).length/\b=a'.snd)/\(↑a.xs.length:Int)=(↑a.xs.length:Int)/\(0=0/\a.xs.length=a.xs.length/\a.cap=a.cap)/\(0=0/\a.xs.length=a.xs.length/\a.cap=a.cap)/\((itemsB (List.take a'.fst a.xs)).length<=(a_12.l++putsB a_12.ns).length/\RowsEq (itemsB (List.take a'.fst a.xs)).length 1 (encRows encB (a_12.l++putsB a_12.ns)) (encRows encB (itemsB (List.take a'.fst a.xs))))/\(a.xs.length<=a.xs.length/\RowsEq a.xs.length 4 (encRows encItem a.xs) (encRows encItem a.xs))/\a'.fst<=a.xs.length/\a.xs.length - a'.fst<a.xs.length - a_2.fst)/\∃ a_10:NTextsA,(0=0/\(itemsB (List.take a_2.fst a.xs)).length=a_10.l.length/\a_2.snd=a_10.cap)/\(0=0/\2=a_10.ts.length/\2=a_10.tcap)/\(a_10.l.length<=(itemsB (List.take a_2.fst a.xs)).length/\RowsEq a_10.l.length 1 (encRows encB (itemsB (List.take a_2.fst a.xs))) (encRows encB a_10.l))/\(a_10.ts.length<=2/\RowsEq a_10.ts.length 1 (flatRows 1 [Value.string (gl a.xs (0+(↑a_2.fst:Int).toNat)).key,Value.string (gl a.xs (0+(↑a_2.fst:Int).toNat)).val]) (encRows encT a_10.ts))/\(a_10.l.length<10000/\a_10.ts.length<20/\∀ i:Nat,i<a_10.ts.length->(gl a_10.ts i).size<=1000)/\∀ b:Nat,True->∃ a_12:NPutsA,(0=0/\(a_10.l++textsB a_10.ts).length=a_12.l.length/\b=a_12.cap)/\(0=0/\2=a_12.ns.length/\2=a_12.ncap)/\(a_12.l.length<=(a_10.l++textsB a_10.ts).length/\RowsEq a_12.l.length 1 (encRows encB (a_10.l++textsB a_10.ts)) (encRows encB a_12.l)) /\
 (a_12.ns.length<=2/\RowsEq a_12.ns.length 1 (flatRows 1 [Value.int IntKind.i64 (gl a.xs (0+(↑a_2.fst:Int).toNat)).e,Value.int IntKind.i64 (1:Int)]) (encRows encI a_12.ns))/\(a_12.l.length<10000/\a_12.ns.length<100/\∀ i:Nat,i<a_12.ns.length->(0:Int)<=gl a_12.ns i/\gl a_12.ns i<(4611686018427387904:Int))/\∀ b:Nat,True->InR .i64 ((↑a_2.fst:Int)+1)/\∃ (a':Nat × Nat),(↑a_2.fst:Int)+1=(↑a'.fst:Int)/\(0=0/\(a_12.l++putsB a_12.ns).length=(itemsB (List.take a'.fst a.xs)).length/\b=a'.snd)/\(↑a.xs.length:Int)=(↑a.xs.length:Int)/\(0=0/\a.xs.length=a.xs.length/\a.cap=a.cap)/\(0=0/\a.xs.length=a.xs.length/\a.cap=a.cap)/\((itemsB (List.take a'.fst a.xs)).length<=(a_12.l++putsB a_12.ns).length/\RowsEq (itemsB (List.take a'.fst a.xs)).length 1 (encRows encB (a_12.l++putsB a_12.ns)) (encRows encB (itemsB (List.take a'.fst a.xs))))/\(a.xs.length<=a.xs.length/\RowsEq a.xs.length 4 (encRows encItem a.xs) (encRows encItem a.xs))/\a'.fst<=a.xs.length/\a.xs.length - a'.fst<a.xs.length - a_2.fst)/\((gl a.xs (0+(↑a_2.fst:Int).toNat)).gone=false->InR .i64 (gl a.xs (0+(↑a_2.fst:Int).toNat)).e->((∃ a_10:NTextsA,(0=0/\(itemsB (List.take a_2.fst a.xs)).length=a_10.l.length/\a_2.snd=a_10.cap)/\(0=0/\2=a_10.ts.length/\2=a_10.tcap)/\(a_10.l.length<=(itemsB (List.take a_2.fst a.xs)).length/\RowsEq a_10.l.length 1 (encRows encB (itemsB (List.take a_2.fst a.xs))) (encRows encB a_10.l)) /\
 (a_10.ts.length<=2/\RowsEq a_10.ts.length 1 (flatRows 1 [Value.string (gl a.xs (0+(↑a_2.fst:Int).toNat)).key,Value.string (gl a.xs (0+(↑a_2.fst:Int).toNat)).val]) (encRows encT a_10.ts))/\(a_10.l.length<10000/\a_10.ts.length<20/\∀ i:Nat,i<a_10.ts.length->(gl a_10.ts i).size<=1000)/\∀ b:Nat,True->∃ a_12:NPutsA,(0=0/\(a_10.l++textsB a_10.ts).length=a_12.l.length/\b=a_12.cap)/\(0=0/\2=a_12.ns.length/\2=a_12.ncap)/\(a_12.l.length<=(a_10.l++textsB a_10.ts).length/\RowsEq a_12.l.length 1 (encRows encB (a_10.l++textsB a_10.ts)) (encRows encB a_12.l))/\(a_12.ns.length<=2/\RowsEq a_12.ns.length 1 (flatRows 1 [Value.int IntKind.i64 (gl a.xs (0+(↑a_2.fst:Int).toNat)).e,Value.int IntKind.i64 (0:Int)]) (encRows encI a_12.ns))/\(a_12.l.length<10000/\a_12.ns.length<100/\∀ i:Nat,i<a_12.ns.length->(0:Int)<=gl a_12.ns i/\gl a_12.ns i<(4611686018427387904:Int))/\∀ b:Nat,True->InR .i64 ((↑a_2.fst:Int)+1)/\∃ (a':Nat × Nat),(↑a_2.fst:Int)+1=(↑a'.fst:Int)/\(0=0/\(a_12.l++putsB a_12.ns).length=(itemsB (List.take a'.fst a.xs)).length/\b=a'.snd)/\(↑a.xs.length:Int)=(↑a.xs.length:Int)/\(0=0/\a.xs.length=a.xs.length/\a.cap=a.cap)/\(0=0/\a.xs.length=a.xs.length/\a.cap=a.cap)/\((itemsB (List.take a'.fst a.xs)).length<=(a_12.l++putsB a_12.ns).length/\RowsEq (itemsB (List.take a'.fst a.xs)).length 1 (encRows encB (a_12.l++putsB a_12.ns)) (encRows encB (itemsB (List.take a'.fst a.xs)))) /\
 (a.xs.length<=a.xs.length/\RowsEq a.xs.length 4 (encRows encItem a.xs) (encRows encItem a.xs))/\a'.fst<=a.xs.length/\a.xs.length - a'.fst<a.xs.length - a_2.fst)/\∃ a_10:NTextsA,(0=0/\(itemsB (List.take a_2.fst a.xs)).length=a_10.l.length/\a_2.snd=a_10.cap)/\(0=0/\2=a_10.ts.length/\2=a_10.tcap)/\(a_10.l.length<=(itemsB (List.take a_2.fst a.xs)).length/\RowsEq a_10.l.length 1 (encRows encB (itemsB (List.take a_2.fst a.xs))) (encRows encB a_10.l))/\(a_10.ts.length<=2/\RowsEq a_10.ts.length 1 (flatRows 1 [Value.string (gl a.xs (0+(↑a_2.fst:Int).toNat)).key,Value.string (gl a.xs (0+(↑a_2.fst:Int).toNat)).val]) (encRows encT a_10.ts))/\(a_10.l.length<10000/\a_10.ts.length<20/\∀ i:Nat,i<a_10.ts.length->(gl a_10.ts i).size<=1000)/\∀ b:Nat,True->∃ a_12:NPutsA,(0=0/\(a_10.l++textsB a_10.ts).length=a_12.l.length/\b=a_12.cap)/\(0=0/\2=a_12.ns.length/\2=a_12.ncap)/\(a_12.l.length<=(a_10.l++textsB a_10.ts).length/\RowsEq a_12.l.length 1 (encRows encB (a_10.l++textsB a_10.ts)) (encRows encB a_12.l))/\(a_12.ns.length<=2/\RowsEq a_12.ns.length 1 (flatRows 1 [Value.int IntKind.i64 (gl a.xs (0+(↑a_2.fst:Int).toNat)).e,Value.int IntKind.i64 (0:Int)]) (encRows encI a_12.ns))/\(a_12.l.length<10000/\a_12.ns.length<100/\∀ i:Nat,i<a_12.ns.length->(0:Int)<=gl a_12.ns i/\gl a_12.ns i<(4611686018427387904:Int))/\∀ b:Nat,True->InR .i64 ((↑a_2.fst:Int)+1)/\∃ (a':Nat × Nat),(↑a_2.fst:Int)+1=(↑a'.fst:Int) /\
 (0=0/\(a_12.l++putsB a_12.ns).length=(itemsB (List.take a'.fst a.xs)).length/\b=a'.snd)/\(↑a.xs.length:Int)=(↑a.xs.length:Int)/\(0=0/\a.xs.length=a.xs.length/\a.cap=a.cap)/\(0=0/\a.xs.length=a.xs.length/\a.cap=a.cap)/\((itemsB (List.take a'.fst a.xs)).length<=(a_12.l++putsB a_12.ns).length/\RowsEq (itemsB (List.take a'.fst a.xs)).length 1 (encRows encB (a_12.l++putsB a_12.ns)) (encRows encB (itemsB (List.take a'.fst a.xs))))/\(a.xs.length<=a.xs.length/\RowsEq a.xs.length 4 (encRows encItem a.xs) (encRows encItem a.xs))/\a'.fst<=a.xs.length/\a.xs.length - a'.fst<a.xs.length - a_2.fst)/\∃ a_10:NTextsA,(0=0/\(itemsB (List.take a_2.fst a.xs)).length=a_10.l.length/\a_2.snd=a_10.cap)/\(0=0/\2=a_10.ts.length/\2=a_10.tcap)/\(a_10.l.length<=(itemsB (List.take a_2.fst a.xs)).length/\RowsEq a_10.l.length 1 (encRows encB (itemsB (List.take a_2.fst a.xs))) (encRows encB a_10.l))/\(a_10.ts.length<=2/\RowsEq a_10.ts.length 1 (flatRows 1 [Value.string (gl a.xs (0+(↑a_2.fst:Int).toNat)).key,Value.string (gl a.xs (0+(↑a_2.fst:Int).toNat)).val]) (encRows encT a_10.ts))/\(a_10.l.length<10000/\a_10.ts.length<20/\∀ i:Nat,i<a_10.ts.length->(gl a_10.ts i).size<=1000)/\∀ b:Nat,True->∃ a_12:NPutsA,(0=0/\(a_10.l++textsB a_10.ts).length=a_12.l.length/\b=a_12.cap)/\(0=0/\2=a_12.ns.length/\2=a_12.ncap)/\(a_12.l.length<=(a_10.l++textsB a_10.ts).length/\RowsEq a_12.l.length 1 (encRows encB (a_10.l++textsB a_10.ts)) (encRows encB a_12.l)) /\
 (a_12.ns.length<=2/\RowsEq a_12.ns.length 1 (flatRows 1 [Value.int IntKind.i64 (gl a.xs (0+(↑a_2.fst:Int).toNat)).e,Value.int IntKind.i64 (0:Int)]) (encRows encI a_12.ns))/\(a_12.l.length<10000/\a_12.ns.length<100/\∀ i:Nat,i<a_12.ns.length->(0:Int)<=gl a_12.ns i/\gl a_12.ns i<(4611686018427387904:Int))/\∀ b:Nat,True->InR .i64 ((↑a_2.fst:Int)+1)/\∃ (a':Nat × Nat),(↑a_2.fst:Int)+1=(↑a'.fst:Int)/\(0=0/\(a_12.l++putsB a_12.ns).length=(itemsB (List.take a'.fst a.xs)).length/\b=a'.snd)/\(↑a.xs.length:Int)=(↑a.xs.length:Int)/\(0=0/\a.xs.length=a.xs.length/\a.cap=a.cap)/\(0=0/\a.xs.length=a.xs.length/\a.cap=a.cap)/\((itemsB (List.take a'.fst a.xs)).length<=(a_12.l++putsB a_12.ns).length/\RowsEq (itemsB (List.take a'.fst a.xs)).length 1 (encRows encB (a_12.l++putsB a_12.ns)) (encRows encB (itemsB (List.take a'.fst a.xs))))/\(a.xs.length<=a.xs.length/\RowsEq a.xs.length 4 (encRows encItem a.xs) (encRows encItem a.xs))/\a'.fst<=a.xs.length/\a.xs.length - a'.fst<a.xs.length - a_2.fst)))/\(decide ((↑a_2.fst:Int)<(↑a.xs.length:Int))=false->∃ b:Nat,(0=0/\(itemsB (List.take a_2.fst a.xs)).length=(itemsB a.xs).length/\a_2.snd=b)/\((itemsB a.xs).length<=(itemsB (List.take a_2.fst a.xs)).length/\RowsEq (itemsB a.xs).length 1 (encRows encB (itemsB (List.take a_2.fst a.xs))) (encRows encB (itemsB a.xs)))/\True/\True)) (by kernel_rfl) (by
 rintro ⟨xs,cap⟩ ⟨h1,h2,h3⟩;dsimp only at h1 h2 h3 ⊢;have ei:∀ k:Nat,List.flatMap itemB (xs.take k)=itemsB (xs.take k):=fun _=>rfl;have ea:List.flatMap itemB xs=itemsB xs:=rfl;simp only [ei,ea];have e0:itemsB (xs.take 0)=[]:=rfl;refine ⟨⟨(0,0),?_⟩,fun x hx=>?_⟩
 ·dsimp only;rw [e0]
  (repeat' apply And.intro)<;>first|trivial|with_reducible rfl|exact RowsEq.refl _ _ _|exact Nat.le_refl _|omega
 ·obtain ⟨i,c⟩:=x;have hx:i<=xs.length:=hx;have ln:(itemsB (xs.take i)).length<=i*300:=flatMap_take_len (fun j hj=>itemB_len (h3 j hj)) i hx;dsimp only;simp only [Nat.zero_add,Int.toNat_natCast,InR];refine ⟨fun c1=>?_,fun c1=>?_⟩
  ·have hi:i<xs.length:=by simpa using c1
   have hs:itemsB (xs.take (i+1))=itemsB (xs.take i)++itemB (gl xs i):=flatMap_push hi;have h3:=h3 i hi;obtain ⟨k1,k2,k3,k4⟩:=may_out h3;refine ⟨by omega,by omega,⟨gl xs i,rfl,rfl,rfl,rfl,trivial,fun _ _=>?_⟩⟩;rw [h3];have eg:∀ g:Bool,(gl xs i).gone=g->itemsB (xs.take i)++textsB [(gl xs i).key,(gl xs i).val]++putsB [(gl xs i).e,if g then 1 else 0]=itemsB (xs.take (i+1)):=fun g e=>by
    rw [hs,List.append_assoc];unfold itemB;rw [e]
   have tl:(textsB [(gl xs i).key,(gl xs i).val]).length<=300:=by
    have a1:=(vi_len ((gl xs i).key.size:Nat)).2;have a2:=(vi_len ((gl xs i).val.size:Nat)).2;simp only [textsB,List.flatMap_cons,List.flatMap_nil,List.length_append,txB_len,List.length_nil];omega
   have t2:∀ k,k < [(gl xs i).key,(gl xs i).val].length->(gl [(gl xs i).key,(gl xs i).val] k).size<=1000:=fun k hk=>by
    match k,hk with
    | 0,_=>show (gl xs i).key.size<=1000;omega
    | 1,_=>show (gl xs i).val.size<=1000;omega
   have n2:∀ g:Int,0<=g->g<=1->∀ k,k < [(gl xs i).e,g].length->0<=gl [(gl xs i).e,g] k/\gl [(gl xs i).e,g] k<4611686018427387904:=fun g g0 g1 k hk=>by
    match k,hk with
    | 0,_=>show 0<=(gl xs i).e/\(gl xs i).e<4611686018427387904;exact ⟨k3,by omega⟩
    | 1,_=>show 0<=g/\g<4611686018427387904;omega
   have r1:RowsEq 2 1 (flatRows 1 [Value.string (gl xs i).key,Value.string (gl xs i).val]) (encRows encT [(gl xs i).key,(gl xs i).val]):=.of_cells fun k hk=>by
    match k,hk with
    | 0,_=>rfl
    | 1,_=>rfl
   have r2:∀ g:Int,RowsEq 2 1 (flatRows 1 [Value.int .i64 (gl xs i).e,Value.int .i64 g]) (encRows encI [(gl xs i).e,g]):=fun g=>.of_cells fun k hk=>by
    match k,hk with
    | 0,_=>rfl
    | 1,_=>rfl
   refine ⟨fun e=>(by cases e),fun _=>⟨fun eg1=>?_,fun eg1=>?_⟩⟩
   ·have eg:=eg _ eg1;rw [if_pos rfl] at eg;intro _;have main:∀ (P:NTextsA->Nat->Prop),True:=fun _=>trivial
    repeat' (first
     | apply And.intro
     | (intro _)
     | apply Exists.intro (NTextsA.mk (itemsB (xs.take i)) _ [(gl xs i).key,(gl xs i).val] 2)
     | apply Exists.intro (NPutsA.mk (itemsB (xs.take i)++textsB [(gl xs i).key,(gl xs i).val]) _ [(gl xs i).e,1] 2)
     | apply Exists.intro ((i+1,_):Nat × Nat))
    all_goals first|with_reducible (first|rfl|trivial|assumption)|omega|with_reducible (first|exact RowsEq.refl _ _ _|exact Nat.le_refl _)|(dsimp only [List.length_cons,List.length_nil]<;>omega)|exact r1|exact r2 _|exact t2 _ (by assumption)|exact (n2 1 (by omega) (by omega) _ (by assumption)).1|exact (n2 1 (by omega) (by omega) _ (by assumption)).2|omega|(simp only [List.length_append];omega)|(dsimp only;rw [eg];done)|(dsimp only;rw [eg];exact RowsEq.refl _ _ _)|(dsimp only;rw [eg];exact Nat.le_refl _)|skip
   ·have eg:=eg _ eg1;rw [if_neg (by decide)] at eg;intro _
    repeat' (first
     | apply And.intro
     | (intro _)
     | apply Exists.intro (NTextsA.mk (itemsB (xs.take i)) _ [(gl xs i).key,(gl xs i).val] 2)
     | apply Exists.intro (NPutsA.mk (itemsB (xs.take i)++textsB [(gl xs i).key,(gl xs i).val]) _ [(gl xs i).e,0] 2)
     | apply Exists.intro ((i+1,_):Nat × Nat))
    all_goals first|with_reducible (first|rfl|trivial|assumption)|omega|with_reducible (first|exact RowsEq.refl _ _ _|exact Nat.le_refl _)|(dsimp only [List.length_cons,List.length_nil]<;>omega)|exact r1|exact r2 _|exact t2 _ (by assumption)|exact (n2 0 (by omega) (by omega) _ (by assumption)).1|exact (n2 0 (by omega) (by omega) _ (by assumption)).2|omega|(simp only [List.length_append];omega)|(dsimp only;rw [eg];done)|(dsimp only;rw [eg];exact RowsEq.refl _ _ _)|(dsimp only;rw [eg];exact Nat.le_refl _)|skip
  ·have hi:¬ i<xs.length:=by simpa using c1
   rw [show itemsB (xs.take i)=itemsB xs from flatMap_all hi];refine ⟨c,?_⟩
   (repeat' (first|apply And.intro|(intro _)))<;>first|trivial|with_reducible rfl|exact RowsEq.refl _ _ _|exact Nat.le_refl _|omega)
theorem callKey:CallsBy (Y Tryz.prog).G.X 34 cKey:=fn_ok okY (tab:=[]) trivial bodyKey
theorem callMay:CallsBy (Y Tryz.prog).G.X 43 cMay:=fn_ok okY (tab:=[(34,cKey)]) ⟨callKey,trivial⟩ bodyMay
theorem callLive:CallsBy (Y Tryz.prog).G.X 52 cLive:=fn_ok okY (tab:=[(43,cMay)]) ⟨callMay,trivial⟩ bodyLive
theorem callNPuts:CallsBy (Y Tryz.prog).G.X 54 cNPuts:=fn_ok okY (tab:=[(81,cNPut)]) ⟨callNPut,trivial⟩ bodyNPuts
theorem callNTexts:CallsBy (Y Tryz.prog).G.X 68 cNTexts:=fn_ok okY (tab:=[(81,cNPut)]) ⟨callNPut,trivial⟩ bodyNTexts
theorem callEnc:CallsBy (Y Tryz.prog).G.X 45 cEnc:=fn_ok okY (tab:=[(43,cMay),(54,cNPuts),(68,cNTexts)]) ⟨callMay,callNPuts,callNTexts,trivial⟩ bodyEnc
end Go.Proofs.YtfhkbihcfmbbcaaGreat

namespace Go.Proofs.YtfhkbihcfmbbcaaGreat
open Go.Sx
set_option maxRecDepth 100000
set_option linter.unusedVariables false
set_option linter.unusedSimpArgs false
theorem ibits_or (a b:Nat) (ha:a<2 ^ 64) (hb:b<2 ^ 64):ibits .or .u64 a b=((a ||| b:Nat):Int):=by
 have h:=Nat.or_lt_two_pow ha hb;have e:(BitVec.ofInt 64 (a:Int) ||| BitVec.ofInt 64 (b:Int)).toNat=a ||| b:=by
  rw [BitVec.toNat_or,BitVec.ofInt_natCast,BitVec.ofInt_natCast,BitVec.toNat_ofNat,BitVec.toNat_ofNat,Nat.mod_eq_of_lt ha,Nat.mod_eq_of_lt hb]
 show IntKind.u64.wrap ((BitVec.ofInt 64 (a:Int) ||| BitVec.ofInt 64 (b:Int)).toNat:Int)=_;rw [e];exact wrap_of_InR (by simp only [InR];omega)
theorem ibits_and1 (a:Nat) (ha:a<2 ^ 64):ibits .and .u64 a 1=((a % 2:Nat):Int):=by
 have e:(BitVec.ofInt 64 (a:Int) &&& BitVec.ofInt 64 ((1:Nat):Int)).toNat=a % 2:=by
  rw [BitVec.toNat_and,BitVec.ofInt_natCast,BitVec.ofInt_natCast,BitVec.toNat_ofNat,BitVec.toNat_ofNat,Nat.mod_eq_of_lt ha,Nat.mod_eq_of_lt (by decide),Nat.and_one_is_mod]
 show IntKind.u64.wrap ((BitVec.ofInt 64 (a:Int) &&& BitVec.ofInt 64 ((1:Nat):Int)).toNat:Int)=_;rw [e];exact wrap_of_InR (by simp only [InR];omega)
theorem and127 (c:Nat) (h:c<256):ibits .and .u8 c 127=((c % 128:Nat):Int):=by
 have h':∀ y:Fin 256,ibits .and .u8 (y.1:Int) 127=((y.1 % 128:Nat):Int):=by decide +kernel
 exact h' ⟨c,h⟩
theorem vbF_short:∀ (k m u:Nat),u<128 ^ (m+1)->(vbF k u).length<=m+1
 | 0,_,_,_=>by simp [vbF]
 | k+1,m,u,h=>by
  unfold vbF;split
  ·simp
  ·cases m with
   | zero=>simp at h;omega
   | succ m =>
    have:=vbF_short k m (u / 128) (Nat.div_lt_of_lt_mul (by rw [Nat.mul_comm,<- Nat.pow_succ];exact h));simp only [List.length_cons];omega
theorem vbF_at:∀ (k u i:Nat),u<128 ^ (k+1)->i<(vbF k u).length ->
 (i+1<(vbF k u).length->128<=u / 128 ^ i/\gl (vbF k u) i=((u / 128 ^ i % 128+128:Nat):Int))/\(i+1=(vbF k u).length->u / 128 ^ i<128/\gl (vbF k u) i=((u / 128 ^ i:Nat):Int)/\(0<i->0<u / 128 ^ i))
 | 0,u,i,h,hi=>by
  simp [vbF] at hi;subst hi;simp [vbF,gl] at h ⊢;omega
 | k+1,u,i,h,hi=>by
  unfold vbF at hi ⊢;by_cases hu:u<128
  ·rw [if_pos hu] at hi ⊢;simp at hi;subst hi;simp [gl];omega
  ·rw [if_neg hu] at hi ⊢;cases i with
   | zero =>
    have:=(vbF_len k (u / 128)).1;rw [Nat.pow_zero,Nat.div_one];refine ⟨fun _=>⟨by omega,rfl⟩,fun hh=>?_⟩;simp only [List.length_cons] at hh;omega
   | succ i =>
    have e:u / 128 ^ (i+1)=u / 128 / 128 ^ i:=by rw [Nat.pow_succ,Nat.mul_comm,Nat.div_div_eq_div_mul]
    have hi':i<(vbF k (u / 128)).length:=by simpa using hi
    obtain ⟨h1,h2⟩:=vbF_at k (u / 128) i (Nat.div_lt_of_lt_mul (by rw [Nat.mul_comm,<- Nat.pow_succ];exact h)) hi';have eg:∀ x:Int,gl (x::vbF k (u / 128)) (i+1)=gl (vbF k (u / 128)) i:=fun x=>by simp [gl]
    rw [e,eg];simp only [List.length_cons,Nat.add_lt_add_iff_right,Nat.add_right_cancel_iff];refine ⟨h1,fun hh=>⟨(h2 hh).1,(h2 hh).2.1,fun _=>?_⟩⟩;by_cases h0:0<i
    ·exact (h2 hh).2.2 h0
    ·have:i=0:=by omega
     subst this;simp;omega
theorem or_step {U i c:Nat} (hU:U<2 ^ 63) (hi:i<=8) (hc:c<256) (hx:c % 128=U / 128 ^ i % 128) :
 ibits .or .u64 ((U % 128 ^ i:Nat):Int) (uw .u64 (ibits .and .u8 (c:Int) 127*2 ^ min (7*(i:Int)).toNat 64))=((U % 128 ^ (i+1):Nat):Int):=by
 have e1:(7*(i:Int)).toNat=7*i:=by omega
 have e2:min (7*i) 64=7*i:=by omega
 have e3:(128:Nat) ^ i=2 ^ (7*i):=by rw [Nat.pow_mul]
 rw [and127 c hc,e1,e2,hx,Nat.pow_succ,Nat.mod_mul,e3];have hlt:U % 2 ^ (7*i)<2 ^ (7*i):=Nat.mod_lt _ (Nat.pow_pos (by decide));have hp:(2:Nat) ^ (7*i)<=2 ^ 56:=Nat.pow_le_pow_right (by decide) (by omega);obtain ⟨x,hx2⟩:∃ x,x=U / 2 ^ (7*i) % 128:=⟨_,rfl⟩
 have hxl:x<128:=by rw [hx2];exact Nat.mod_lt _ (by decide)
 rw [<- hx2];have hb:2 ^ (7*i)*x<2 ^ 64:=by
  have:=Nat.mul_le_mul hp (Nat.le_of_lt_succ (show x<127+1 by omega));omega
 have e5:uw .u64 ((x:Int)*2 ^ (7*i))=((2 ^ (7*i)*x:Nat):Int):=by
  have:(x:Int)*2 ^ (7*i)=((2 ^ (7*i)*x:Nat):Int):=by push_cast;rw [Int.mul_comm]
  rw [this];simp only [uw];omega
 rw [e5,ibits_or _ _ (by omega) hb,Nat.or_comm,<- Nat.two_pow_add_eq_or_of_lt hlt,Nat.add_comm]
structure NGetA where
 l:List Int
 r:Nat
 len:Nat
 cap:Nat
 n:Int
noncomputable def cNGet:Con where
 α:=NGetA
 β:=Unit
 m:=1
 m':=1
 pre:=fun a=>a.r+a.len<=a.l.length/\a.len<100000/\a.len<=a.cap/\0<=a.n/\a.n<4611686018427387904/\(vi a.n).length<=a.len/\∀ i,i<(vi a.n).length->gl a.l (a.r+i)=gl (vi a.n) i
 args:=fun a=>[.a (.slc 0 a.r 1 a.len a.cap)]
 hp:=fun _=>[]
 ro:=fun a=>byteHp 0 a.l
 post:=fun _ _=>True
 res:=fun a _=>.tup [.a (.int .i64 a.n),.a (.int .i64 (vi a.n).length),.a (.lit .i64 0)]
 hp':=fun _ _=>[]
def iNGet (a:NGetA):An:=.flat 3 Nat (fun s i=>(s.set 5 (.a (.int .u64 ((2*a.n.toNat % 128 ^ i:Nat):Int)))).int 11 i) (fun _ i=>i<(vi a.n).length) (fun _ i=>(vi a.n).length - i)
set_option maxHeartbeats 4000000 in
theorem bodyNGet:fnBody (Y Tryz.prog) [] 87 cNGet fun a=>[(87,[iNGet a],[])]:=fnBody.of (p :=
 ∀ a:NGetA,(a.r+a.len<=a.l.length/\a.len<100000/\a.len<=a.cap/\(0:Int)<=a.n/\a.n<(4611686018427387904:Int)/\(vi a.n).length<=a.len/\∀ i:Nat,i<(vi a.n).length->gl a.l (a.r+i)=gl (vi a.n) i)->(∃ a_2:Nat,0=(↑a_2:Int)/\0=(↑(2*a.n.toNat % 128 ^ a_2):Int)/\(↑a.len:Int)=(↑a.len:Int)/\(a.r=a.r/\a.len=a.len/\a.cap=a.cap)/\(0:Int)=0/\(0:Int)=0/\(0:Int)=0/\(a.r=a.r/\a.len=a.len/\a.cap=a.cap)/\(a.l.length<=a.l.length/\RowsEq a.l.length 1 (encRows encB a.l) (encRows encB a.l))/\a_2<(vi a.n).length/\True)/\∀ a_2:Nat,a_2<(vi a.n).length->(decide ((↑a_2:Int)<(↑a.len:Int))=true->(0<=(↑a_2:Int)/\(↑a_2:Int)<(↑a.len:Int))/\a.r+(↑a_2:Int).toNat<a.l.length/\(InR .u8 (gl a.l (a.r+(↑a_2:Int).toNat))->(((↑a_2:Int) == 9)=true->(decide ((1:Int)<gl a.l (a.r+(↑a_2:Int).toNat))=true->∃ b:Unit,(0:Int)=a.n/\0=(↑(vi a.n).length:Int)/\(1:Int)=0/\True/\True)/\(decide ((1:Int)<gl a.l (a.r+(↑a_2:Int).toNat))=false->InR .i64 ((7:Int)*(↑a_2:Int))/\(0:Int)<=7*(↑a_2:Int)/\(decide ((127:Int)<gl a.l (a.r+(↑a_2:Int).toNat))=true->InR .i64 ((↑a_2:Int)+1)/\∃ (a':Nat),(↑a_2:Int)+1=(↑a':Int)/\ibits Go.BinOp.or IntKind.u64 (↑(2*a.n.toNat % 128 ^ a_2):Int) (uw .u64 (ibits Go.BinOp.and IntKind.u8 (gl a.l (a.r+(↑a_2:Int).toNat)) (127:Int)*2 ^ min ((7:Int)*(↑a_2:Int)).toNat 64))=(↑(2*a.n.toNat % 128 ^ a'):Int) /\
 (↑a.len:Int)=(↑a.len:Int)/\(a.r=a.r/\a.len=a.len/\a.cap=a.cap)/\(0:Int)=0/\(0:Int)=0/\(0:Int)=0/\(a.r=a.r/\a.len=a.len/\a.cap=a.cap)/\(a.l.length<=a.l.length/\RowsEq a.l.length 1 (encRows encB a.l) (encRows encB a.l))/\a'<(vi a.n).length/\(vi a.n).length - a'<(vi a.n).length - a_2)/\(decide ((127:Int)<gl a.l (a.r+(↑a_2:Int).toNat))=false->(decide (0<(↑a_2:Int))=true->((gl a.l (a.r+(↑a_2:Int).toNat) == (0:Int))=true->∃ b:Unit,(0:Int)=a.n/\0=(↑(vi a.n).length:Int)/\(1:Int)=0/\True/\True)/\((gl a.l (a.r+(↑a_2:Int).toNat) == (0:Int))=false->(0:Int)<=1/\((ibits Go.BinOp.and IntKind.u64 (ibits Go.BinOp.or IntKind.u64 (↑(2*a.n.toNat % 128 ^ a_2):Int) (uw .u64 (ibits Go.BinOp.and IntKind.u8 (gl a.l (a.r+(↑a_2:Int).toNat)) (127:Int)*2 ^ min ((7:Int)*(↑a_2:Int)).toNat 64))) (1:Int) == 1)=true->InR .i64 ((↑a_2:Int)+1)/\∃ b:Unit,ibits Go.BinOp.xor IntKind.i64 (-1:Int) (uw .i64 (ibits Go.BinOp.or IntKind.u64 (↑(2*a.n.toNat % 128 ^ a_2):Int) (uw .u64 (ibits Go.BinOp.and IntKind.u8 (gl a.l (a.r+(↑a_2:Int).toNat)) (127:Int)*2 ^ min ((7:Int)*(↑a_2:Int)).toNat 64)) / (2:Int)))=a.n/\(↑a_2:Int)+1=(↑(vi a.n).length:Int)/\(0:Int)=0/\True/\True)/\((ibits Go.BinOp.and IntKind.u64 (ibits Go.BinOp.or IntKind.u64 (↑(2*a.n.toNat % 128 ^ a_2):Int) (uw .u64 (ibits Go.BinOp.and IntKind.u8 (gl a.l (a.r+(↑a_2:Int).toNat)) (127:Int)*2 ^ min ((7:Int)*(↑a_2:Int)).toNat 64))) (1:Int) == 1)=false ->
 InR .i64 ((↑a_2:Int)+1)/\∃ b:Unit,uw .i64 (ibits Go.BinOp.or IntKind.u64 (↑(2*a.n.toNat % 128 ^ a_2):Int) (uw .u64 (ibits Go.BinOp.and IntKind.u8 (gl a.l (a.r+(↑a_2:Int).toNat)) (127:Int)*2 ^ min ((7:Int)*(↑a_2:Int)).toNat 64)) / (2:Int))=a.n/\(↑a_2:Int)+1=(↑(vi a.n).length:Int)/\(0:Int)=0/\True/\True)))/\(decide (0<(↑a_2:Int))=false->(0:Int)<=1/\((ibits Go.BinOp.and IntKind.u64 (ibits Go.BinOp.or IntKind.u64 (↑(2*a.n.toNat % 128 ^ a_2):Int) (uw .u64 (ibits Go.BinOp.and IntKind.u8 (gl a.l (a.r+(↑a_2:Int).toNat)) (127:Int)*2 ^ min ((7:Int)*(↑a_2:Int)).toNat 64))) (1:Int) == 1)=true->InR .i64 ((↑a_2:Int)+1)/\∃ b:Unit,ibits Go.BinOp.xor IntKind.i64 (-1:Int) (uw .i64 (ibits Go.BinOp.or IntKind.u64 (↑(2*a.n.toNat % 128 ^ a_2):Int) (uw .u64 (ibits Go.BinOp.and IntKind.u8 (gl a.l (a.r+(↑a_2:Int).toNat)) (127:Int)*2 ^ min ((7:Int)*(↑a_2:Int)).toNat 64)) / (2:Int)))=a.n/\(↑a_2:Int)+1=(↑(vi a.n).length:Int)/\(0:Int)=0/\True/\True)/\((ibits Go.BinOp.and IntKind.u64 (ibits Go.BinOp.or IntKind.u64 (↑(2*a.n.toNat % 128 ^ a_2):Int) (uw .u64 (ibits Go.BinOp.and IntKind.u8 (gl a.l (a.r+(↑a_2:Int).toNat)) (127:Int)*2 ^ min ((7:Int)*(↑a_2:Int)).toNat 64))) (1:Int) == 1)=false->InR .i64 ((↑a_2:Int)+1)/\∃ b:Unit,uw .i64 (ibits Go.BinOp.or IntKind.u64 (↑(2*a.n.toNat % 128 ^ a_2):Int) (uw .u64 (ibits Go.BinOp.and IntKind.u8 (gl a.l (a.r+(↑a_2:Int).toNat)) (127:Int)*2 ^ min ((7:Int)*(↑a_2:Int)).toNat 64)) / (2:Int))=a.n /\
 (↑a_2:Int)+1=(↑(vi a.n).length:Int)/\(0:Int)=0/\True/\True)))))/\(((↑a_2:Int) == 9)=false->InR .i64 ((7:Int)*(↑a_2:Int))/\(0:Int)<=7*(↑a_2:Int)/\(decide ((127:Int)<gl a.l (a.r+(↑a_2:Int).toNat))=true->InR .i64 ((↑a_2:Int)+1)/\∃ (a':Nat),(↑a_2:Int)+1=(↑a':Int)/\ibits Go.BinOp.or IntKind.u64 (↑(2*a.n.toNat % 128 ^ a_2):Int) (uw .u64 (ibits Go.BinOp.and IntKind.u8 (gl a.l (a.r+(↑a_2:Int).toNat)) (127:Int)*2 ^ min ((7:Int)*(↑a_2:Int)).toNat 64))=(↑(2*a.n.toNat % 128 ^ a'):Int)/\(↑a.len:Int)=(↑a.len:Int)/\(a.r=a.r/\a.len=a.len/\a.cap=a.cap)/\(0:Int)=0/\(0:Int)=0/\(0:Int)=0/\(a.r=a.r/\a.len=a.len/\a.cap=a.cap)/\(a.l.length<=a.l.length/\RowsEq a.l.length 1 (encRows encB a.l) (encRows encB a.l))/\a'<(vi a.n).length/\(vi a.n).length - a'<(vi a.n).length - a_2)/\(decide ((127:Int)<gl a.l (a.r+(↑a_2:Int).toNat))=false->(decide (0<(↑a_2:Int))=true->((gl a.l (a.r+(↑a_2:Int).toNat) == (0:Int))=true->∃ b:Unit,(0:Int)=a.n/\0=(↑(vi a.n).length:Int)/\(1:Int)=0/\True/\True)/\((gl a.l (a.r+(↑a_2:Int).toNat) == (0:Int))=false->(0:Int)<=1/\((ibits Go.BinOp.and IntKind.u64 (ibits Go.BinOp.or IntKind.u64 (↑(2*a.n.toNat % 128 ^ a_2):Int) (uw .u64 (ibits Go.BinOp.and IntKind.u8 (gl a.l (a.r+(↑a_2:Int).toNat)) (127:Int)*2 ^ min ((7:Int)*(↑a_2:Int)).toNat 64))) (1:Int) == 1)=true->InR .i64 ((↑a_2:Int)+1) /\
 ∃ b:Unit,ibits Go.BinOp.xor IntKind.i64 (-1:Int) (uw .i64 (ibits Go.BinOp.or IntKind.u64 (↑(2*a.n.toNat % 128 ^ a_2):Int) (uw .u64 (ibits Go.BinOp.and IntKind.u8 (gl a.l (a.r+(↑a_2:Int).toNat)) (127:Int)*2 ^ min ((7:Int)*(↑a_2:Int)).toNat 64)) / (2:Int)))=a.n/\(↑a_2:Int)+1=(↑(vi a.n).length:Int)/\(0:Int)=0/\True/\True)/\((ibits Go.BinOp.and IntKind.u64 (ibits Go.BinOp.or IntKind.u64 (↑(2*a.n.toNat % 128 ^ a_2):Int) (uw .u64 (ibits Go.BinOp.and IntKind.u8 (gl a.l (a.r+(↑a_2:Int).toNat)) (127:Int)*2 ^ min ((7:Int)*(↑a_2:Int)).toNat 64))) (1:Int) == 1)=false->InR .i64 ((↑a_2:Int)+1)/\∃ b:Unit,uw .i64 (ibits Go.BinOp.or IntKind.u64 (↑(2*a.n.toNat % 128 ^ a_2):Int) (uw .u64 (ibits Go.BinOp.and IntKind.u8 (gl a.l (a.r+(↑a_2:Int).toNat)) (127:Int)*2 ^ min ((7:Int)*(↑a_2:Int)).toNat 64)) / (2:Int))=a.n/\(↑a_2:Int)+1=(↑(vi a.n).length:Int)/\(0:Int)=0/\True/\True)))/\(decide (0<(↑a_2:Int))=false->(0:Int)<=1/\((ibits Go.BinOp.and IntKind.u64 (ibits Go.BinOp.or IntKind.u64 (↑(2*a.n.toNat % 128 ^ a_2):Int) (uw .u64 (ibits Go.BinOp.and IntKind.u8 (gl a.l (a.r+(↑a_2:Int).toNat)) (127:Int)*2 ^ min ((7:Int)*(↑a_2:Int)).toNat 64))) (1:Int) == 1)=true->InR .i64 ((↑a_2:Int)+1)/\∃ b:Unit,ibits Go.BinOp.xor IntKind.i64 (-1:Int) (uw .i64 (ibits Go.BinOp.or IntKind.u64 (↑(2*a.n.toNat % 128 ^ a_2):Int) (uw .u64 (ibits Go.BinOp.and IntKind.u8 (gl a.l (a.r+(↑a_2:Int).toNat)) (127:Int)*2 ^ min ((7:Int)*(↑a_2:Int)).toNat 64)) / (2:Int)))=a.n /\
 (↑a_2:Int)+1=(↑(vi a.n).length:Int)/\(0:Int)=0/\True/\True)/\((ibits Go.BinOp.and IntKind.u64 (ibits Go.BinOp.or IntKind.u64 (↑(2*a.n.toNat % 128 ^ a_2):Int) (uw .u64 (ibits Go.BinOp.and IntKind.u8 (gl a.l (a.r+(↑a_2:Int).toNat)) (127:Int)*2 ^ min ((7:Int)*(↑a_2:Int)).toNat 64))) (1:Int) == 1)=false->InR .i64 ((↑a_2:Int)+1)/\∃ b:Unit,uw .i64 (ibits Go.BinOp.or IntKind.u64 (↑(2*a.n.toNat % 128 ^ a_2):Int) (uw .u64 (ibits Go.BinOp.and IntKind.u8 (gl a.l (a.r+(↑a_2:Int).toNat)) (127:Int)*2 ^ min ((7:Int)*(↑a_2:Int)).toNat 64)) / (2:Int))=a.n/\(↑a_2:Int)+1=(↑(vi a.n).length:Int)/\(0:Int)=0/\True/\True))))))/\(decide ((↑a_2:Int)<(↑a.len:Int))=false->∃ b:Unit,(0:Int)=a.n/\0=(↑(vi a.n).length:Int)/\(2:Int)=0/\True/\True)) (by kernel_rfl) (by
 rintro ⟨l,r,len,cap,n⟩ ⟨h1,h2,h3,h4,h5,h6,h7⟩;dsimp only at *;obtain ⟨U,hU⟩:∃ U,U=2*n.toNat:=⟨_,rfl⟩
 have hUlt:U<2 ^ 63:=by omega
 have hv:vi n=vbF 9 U:=by rw [hU];rfl
 have hv0:=vbF_len 9 U
 have hvs := vbF_short 9 8 U (by have : (2 : Nat) ^ 63 = 128 ^ 9 := by decide
                                 omega)
 rw [<- hU];rw [hv] at h6 h7 ⊢;refine ⟨⟨0,?_⟩,fun i hi=>?_⟩
 ·(repeat' apply And.intro)<;>first|with_reducible (first|rfl|trivial|assumption)|omega|with_reducible (first|exact RowsEq.refl _ _ _|exact Nat.le_refl _)|(dsimp only [List.length_cons,List.length_nil]<;>omega)|simp [Nat.mod_one]
 ·obtain ⟨b1, b2⟩ := vbF_at 9 U i (by have : (2 : Nat) ^ 63 ≤ 128 ^ (9 + 1) := by decide
                                      omega) hi
  have hgi:=h7 i hi;simp only [Int.toNat_natCast,InR,hgi];obtain ⟨c,hc,hc1⟩:∃ c:Nat,gl (vbF 9 U) i=(c:Int)/\c<256:=by
   by_cases hl:i+1<(vbF 9 U).length
   ·exact ⟨_,(b1 hl).2,by omega⟩
   ·exact ⟨_,(b2 (by omega)).2.1,by have:=(b2 (by omega)).1;omega⟩
  have hx:c % 128=U / 128 ^ i % 128:=by
   by_cases hl:i+1<(vbF 9 U).length
   ·have:=(b1 hl).2;rw [hc] at this;omega
   ·have:=(b2 (by omega)).2.1;rw [hc] at this;omega
  have hor:=or_step (c:=c) hUlt (by omega:i<=8) hc1 hx;rw [hc] at b1 b2;simp only [hc,hor];have last:¬ (127<(c:Int))->i+1=(vbF 9 U).length/\U % 128 ^ (i+1)=U/\(0<i->0<c):=fun h=>by
   have hl:¬ (i+1<(vbF 9 U).length):=fun hl=>by have:=(b1 hl).2;omega
   obtain ⟨g1,g2,g3⟩:=b2 (by omega);refine ⟨by omega,Nat.mod_eq_of_lt ?_,fun h0=>by have:=g3 h0;omega⟩;have:=(Nat.div_lt_iff_lt_mul (Nat.pow_pos (n:=i) (show 0<128 by decide))).1 g1;rw [Nat.pow_succ,Nat.mul_comm];exact this
  have more:127<(c:Int)->i+1<(vbF 9 U).length:=fun h=>by
   rcases Nat.lt_or_ge (i+1) (vbF 9 U).length with hl|hl
   ·exact hl
   ·have:=b2 (by omega);omega
  have fin:∀ w,w=U->(ibits .and .u64 (w:Int) 1 == 1)=true->False:=fun w hw h=>by
   rw [hw,ibits_and1 U (by omega)] at h;simp at h;omega
  have fin2:∀ w:Nat,w=U->uw .i64 ((w:Int) / 2)=n:=fun w hw=>by
   subst hw;show IntKind.i64.wrap ((w:Int) / 2)=n;rw [wrap_of_InR (by simp only [InR];omega)];omega
  have h9:((i:Int) == 9)=false:=by simp;omega
  rw [h9];refine ⟨fun c1=>⟨by omega,by omega,fun _=>⟨fun e=>(by cases e),fun _=>⟨by omega,by omega,fun c2=>?_,fun c2=>⟨fun c3=>?_,fun c3=>?_⟩⟩⟩⟩,fun c1=>?_⟩
  ·have hm:=more (by simpa using c2);refine ⟨by omega,i+1,?_⟩
   (repeat' apply And.intro)<;>first|with_reducible (first|rfl|trivial|assumption)|omega|with_reducible (first|exact RowsEq.refl _ _ _|exact Nat.le_refl _)|(dsimp only [List.length_cons,List.length_nil]<;>omega)
  ·obtain ⟨l1,l2,l3⟩:=last (by simpa using c2);have l3:=l3 (by simpa using c3);refine ⟨fun e=>?_,fun _=>⟨by omega,fun e=>(fin _ l2 e).elim,fun e=>⟨by omega,(),?_⟩⟩⟩
   ·simp at e;omega
   ·(repeat' apply And.intro)<;>first|with_reducible (first|rfl|trivial|assumption)|omega|with_reducible (first|exact RowsEq.refl _ _ _|exact Nat.le_refl _)|(dsimp only [List.length_cons,List.length_nil]<;>omega)|exact fin2 _ l2
  ·obtain ⟨l1,l2,l3⟩:=last (by simpa using c2);refine ⟨by omega,fun e=>(fin _ l2 e).elim,fun e=>⟨by omega,(),?_⟩⟩
   (repeat' apply And.intro)<;>first|with_reducible (first|rfl|trivial|assumption)|omega|with_reducible (first|exact RowsEq.refl _ _ _|exact Nat.le_refl _)|(dsimp only [List.length_cons,List.length_nil]<;>omega)|exact fin2 _ l2
  ·simp at c1;omega)
theorem foldl_push:∀ (l:List UInt8) (b:ByteArray),List.foldl (fun (s:ByteArray) (n:Int)=>s.push (UInt8.ofNat n.toNat)) b (l.map fun x=>(x.toNat:Int))=⟨b.data++l.toArray⟩
 | [],b=>by simp
 | x::l,b=>by
  rw [List.map_cons,List.foldl_cons,foldl_push l];congr 1;simp [ByteArray.push]
theorem fold_tx {t:ByteArray} {n:Nat} {f:Nat->Int} (hn:n=t.size) (h:∀ i,i<t.size->f i=gl (txB t) i):List.foldl (fun (s:ByteArray) (n:Int)=>s.push (UInt8.ofNat n.toNat)) ByteArray.empty (List.map f (List.range n))=t:=by
 have e:List.map f (List.range n)=txB t:=by
  refine List.ext_getElem (by rw [List.length_map,List.length_range,txB_len,hn]) fun i h1 h2=>?_;rw [List.getElem_map,List.getElem_range,h i (by rw [txB_len] at h2;exact h2),gl_eq h2]
 rw [e,txB,foldl_push];cases t with
 | mk d=>show ByteArray.mk (#[]++d.toList.toArray)=ByteArray.mk d;simp
theorem gl_append_right {α:Type} [Inhabited α] {l m:List α} {i:Nat}:gl (l++m) (l.length+i)=gl m i:=by
 simp [gl,List.getD_eq_getElem?_getD,List.getElem?_append_right]
structure NTextA where
 l:List Int
 r:Nat
 len:Nat
 cap:Nat
 t:ByteArray
noncomputable def cNText:Con where
 α:=NTextA
 β:=Unit
 m:=1
 m':=1
 pre:=fun a=>a.r+a.len<=a.l.length/\a.len<100000/\a.len<=a.cap/\a.t.size<=1000/\(vi a.t.size++txB a.t).length<=a.len/\∀ i,i<(vi a.t.size++txB a.t).length->gl a.l (a.r+i)=gl (vi a.t.size++txB a.t) i
 args:=fun a=>[.a (.slc 0 a.r 1 a.len a.cap)]
 hp:=fun _=>[]
 ro:=fun a=>byteHp 0 a.l
 post:=fun _ _=>True
 res:=fun a _=>.tup [.a (.str a.t),.a (.int .i64 (vi a.t.size++txB a.t).length),.a (.lit .i64 0)]
 hp':=fun _ _=>[]
set_option maxHeartbeats 4000000 in
theorem bodyNText:fnBody (Y Tryz.prog) [(87,cNGet)] 107 cNText fun _=>[]:=fnBody.of (p :=
 ∀ a:NTextA,(a.r+a.len<=a.l.length/\a.len<100000/\a.len<=a.cap/\a.t.size<=1000/\(vi (↑a.t.size:Int)++txB a.t).length<=a.len/\∀ i:Nat,i<(vi (↑a.t.size:Int)++txB a.t).length->gl a.l (a.r+i)=gl (vi (↑a.t.size:Int)++txB a.t) i)->∃ a_2:NGetA,(a.r=a_2.r/\a.len=a_2.len/\a.cap=a_2.cap)/\(a_2.l.length<=a.l.length/\RowsEq a_2.l.length 1 (encRows encB a.l) (encRows encB a_2.l))/\(a_2.r+a_2.len<=a_2.l.length/\a_2.len<100000/\a_2.len<=a_2.cap/\(0:Int)<=a_2.n/\a_2.n<(4611686018427387904:Int)/\(vi a_2.n).length<=a_2.len/\∀ i:Nat,i<(vi a_2.n).length->gl a_2.l (a_2.r+i)=gl (vi a_2.n) i)/\∀ b:Unit,True->(decide (a_2.n<(0:Int))=true->∃ b:Unit,(ByteArray.mk #[])=a.t/\0=(↑(vi (↑a.t.size:Int)++txB a.t).length:Int)/\(1:Int)=0/\True/\True)/\(decide (a_2.n<(0:Int))=false->(decide ((65536:Int)<a_2.n)=true->∃ b:Unit,(ByteArray.mk #[])=a.t/\0=(↑(vi (↑a.t.size:Int)++txB a.t).length:Int)/\(1:Int)=0/\True/\True)/\(decide ((65536:Int)<a_2.n)=false->InR .i64 ((↑a.len:Int) - (↑(vi a_2.n).length:Int))/\(decide ((↑a.len:Int) - (↑(vi a_2.n).length:Int)<a_2.n)=true->∃ b:Unit,(ByteArray.mk #[])=a.t/\0=(↑(vi (↑a.t.size:Int)++txB a.t).length:Int)/\(2:Int)=0/\True/\True)/\(decide ((↑a.len:Int) - (↑(vi a_2.n).length:Int)<a_2.n)=false->InR .i64 ((↑(vi a_2.n).length:Int)+a_2.n)/\(0<=(↑(vi a_2.n).length:Int)+a_2.n /\
 (↑(vi a_2.n).length:Int)+a_2.n<=(↑a.cap:Int))/\(0<=(↑(vi a_2.n).length:Int)/\(↑(vi a_2.n).length:Int)<=(↑((↑(vi a_2.n).length:Int)+a_2.n).toNat:Int))/\a.r+(↑(vi a_2.n).length:Int).toNat+(((↑(vi a_2.n).length:Int)+a_2.n).toNat - (↑(vi a_2.n).length:Int).toNat)<=a.l.length/\InR .i64 ((↑(vi a_2.n).length:Int)+a_2.n)/\∃ b:Unit,List.foldl (fun (s:ByteArray) (n:Int)=>s.push (UInt8.ofNat n.toNat)) ByteArray.empty (List.map (fun (i:Nat)=>gl a.l (a.r+(↑(vi a_2.n).length:Int).toNat+i)) (List.range (((↑(vi a_2.n).length:Int)+a_2.n).toNat - (↑(vi a_2.n).length:Int).toNat)))=a.t/\(↑(vi a_2.n).length:Int)+a_2.n=(↑(vi (↑a.t.size:Int)++txB a.t).length:Int)/\(0:Int)=0/\True/\True)))) (by kernel_rfl) (by
 rintro ⟨l,r,len,cap,t⟩ ⟨h1,h2,h3,h4,h5,h6⟩;dsimp only at *;have hv:=vi_len (t.size:Nat);rw [List.length_append,txB_len] at h5 h6 ⊢;have g1:∀ i,i<(vi (t.size:Nat)).length->gl l (r+i)=gl (vi (t.size:Nat)) i:=fun i hi=>by rw [h6 i (by omega),gl_append_left hi]
 refine ⟨⟨l,r,len,cap,t.size⟩,?_⟩
 (repeat' (first|apply And.intro|(intro _)|apply Exists.intro ()))<;>first|with_reducible (first|rfl|trivial|assumption)|omega|with_reducible (first|exact RowsEq.refl _ _ _|exact Nat.le_refl _)|(dsimp only [List.length_cons,List.length_nil]<;>omega)|(exact g1 _ (by assumption))|(exfalso;(try dsimp only at *);(try simp only [decide_eq_true_eq,decide_eq_false_iff_not,Bool.false_eq_true] at *);omega)|skip
 refine fold_tx (by dsimp only;omega) fun i hi=>?_;dsimp only;rw [show r+(((vi (t.size:Nat)).length:Int)).toNat+i=r+((vi (t.size:Nat)).length+i) by omega,h6 _ (by omega),gl_append_right])
theorem callNGet:CallsBy (Y Tryz.prog).G.X 87 cNGet:=fn_ok okY (tab:=[]) trivial bodyNGet
theorem callNText:CallsBy (Y Tryz.prog).G.X 107 cNText:=fn_ok okY (tab:=[(87,cNGet)]) ⟨callNGet,trivial⟩ bodyNText
structure DecA where
 l:List Int
 r:Nat
 cap:Nat
 x:ItemM
noncomputable def cDec:Con where
 α:=DecA
 β:=Nat
 m:=1
 m':=2
 pre:=fun a=>mayB a.x=true/\a.r+(itemB a.x).length<=a.l.length/\(itemB a.x).length<=a.cap/\∀ i,i<(itemB a.x).length->gl a.l (a.r+i)=gl (itemB a.x) i
 args:=fun a=>[.a (.slc 0 a.r 1 (itemB a.x).length a.cap)]
 hp:=fun _=>[]
 ro:=fun a=>byteHp 0 a.l
 post:=fun _ _=>True
 res:=fun a c=>.tup [.a (.slc 1 0 4 1 c),.a (.lit .i64 0)]
 hp':=fun a _=>[(1,.arr 46 ksItem 1 (encRows encItem [a.x]))]
def iDec (a:DecA):An:=.flat 3 (Nat × Nat) (fun s k=>((s.new (.arr 46 ksItem k.1 (encRows encItem ([a.x].take k.1)))).set 4 (.a (.slc s.nx 0 4 k.1 k.2))).int 5 ((k.1*(itemB a.x).length:Nat):Int)) (fun _ k=>k.1<=1) (fun _ k=>1 - k.1)
set_option maxHeartbeats 4000000 in
theorem bodyDec:fnBody (Y Tryz.prog) [(87,cNGet),(107,cNText),(45,cEnc)] 96 cDec fun a=>[(96,[iDec a],[])]:=fnBody.of (p :=
 ∀ a:DecA,(mayB a.x=true/\a.r+(itemB a.x).length<=a.l.length/\(itemB a.x).length<=a.cap/\∀ i:Nat,i<(itemB a.x).length->gl a.l (a.r+i)=gl (itemB a.x) i)->(∃ a_2:Nat × Nat,0=(↑(a_2.fst*(itemB a.x).length):Int)/\(0=a_2.fst/\0=a_2.snd)/\(0:Int)=0/\(a.r=a.r/\(itemB a.x).length=(itemB a.x).length/\a.cap=a.cap)/\a_2.fst=0/\(a.l.length<=a.l.length/\RowsEq a.l.length 1 (encRows encB a.l) (encRows encB a.l))/\a_2.fst<=1/\True)/\∀ a_2:Nat × Nat,a_2.fst<=1->(decide ((↑(a_2.fst*(itemB a.x).length):Int)<(↑(itemB a.x).length:Int))=true->(0<=(↑(a_2.fst*(itemB a.x).length):Int)/\(↑(a_2.fst*(itemB a.x).length):Int)<=(↑(itemB a.x).length:Int))/\∃ a_5:NTextA,(a.r+(↑(a_2.fst*(itemB a.x).length):Int).toNat=a_5.r/\(itemB a.x).length - (↑(a_2.fst*(itemB a.x).length):Int).toNat=a_5.len/\a.cap - (↑(a_2.fst*(itemB a.x).length):Int).toNat=a_5.cap)/\(a_5.l.length<=a.l.length/\RowsEq a_5.l.length 1 (encRows encB a.l) (encRows encB a_5.l))/\(a_5.r+a_5.len<=a_5.l.length/\a_5.len<100000/\a_5.len<=a_5.cap/\a_5.t.size<=1000/\(vi (↑a_5.t.size:Int)++txB a_5.t).length<=a_5.len/\∀ i:Nat,i<(vi (↑a_5.t.size:Int)++txB a_5.t).length->gl a_5.l (a_5.r+i)=gl (vi (↑a_5.t.size:Int)++txB a_5.t) i)/\∀ b:Unit,True->InR .i64 ((↑(a_2.fst*(itemB a.x).length):Int)+(↑(vi (↑a_5.t.size:Int)++txB a_5.t).length:Int))/\(0<=(↑(a_2.fst*(itemB a.x).length):Int)+(↑(vi (↑a_5.t.size:Int)++txB a_5.t).length:Int) /\
 (↑(a_2.fst*(itemB a.x).length):Int)+(↑(vi (↑a_5.t.size:Int)++txB a_5.t).length:Int)<=(↑(itemB a.x).length:Int))/\∃ a_7:NTextA,(a.r+((↑(a_2.fst*(itemB a.x).length):Int)+(↑(vi (↑a_5.t.size:Int)++txB a_5.t).length:Int)).toNat=a_7.r/\(itemB a.x).length - ((↑(a_2.fst*(itemB a.x).length):Int)+(↑(vi (↑a_5.t.size:Int)++txB a_5.t).length:Int)).toNat=a_7.len/\a.cap - ((↑(a_2.fst*(itemB a.x).length):Int)+(↑(vi (↑a_5.t.size:Int)++txB a_5.t).length:Int)).toNat=a_7.cap)/\(a_7.l.length<=a.l.length/\RowsEq a_7.l.length 1 (encRows encB a.l) (encRows encB a_7.l))/\(a_7.r+a_7.len<=a_7.l.length/\a_7.len<100000/\a_7.len<=a_7.cap/\a_7.t.size<=1000/\(vi (↑a_7.t.size:Int)++txB a_7.t).length<=a_7.len/\∀ i:Nat,i<(vi (↑a_7.t.size:Int)++txB a_7.t).length->gl a_7.l (a_7.r+i)=gl (vi (↑a_7.t.size:Int)++txB a_7.t) i)/\∀ b:Unit,True->InR .i64 ((↑(a_2.fst*(itemB a.x).length):Int)+(↑(vi (↑a_5.t.size:Int)++txB a_5.t).length:Int))/\InR .i64 ((↑(a_2.fst*(itemB a.x).length):Int)+(↑(vi (↑a_5.t.size:Int)++txB a_5.t).length:Int)+(↑(vi (↑a_7.t.size:Int)++txB a_7.t).length:Int))/\(0<=(↑(a_2.fst*(itemB a.x).length):Int)+(↑(vi (↑a_5.t.size:Int)++txB a_5.t).length:Int)+(↑(vi (↑a_7.t.size:Int)++txB a_7.t).length:Int)/\(↑(a_2.fst*(itemB a.x).length):Int)+(↑(vi (↑a_5.t.size:Int)++txB a_5.t).length:Int)+(↑(vi (↑a_7.t.size:Int)++txB a_7.t).length:Int)<=(↑(itemB a.x).length:Int)) /\
 ((0:Int)<=0/\(0:Int)<2)/\((0:Int)<=0/\0<=(↑((itemB a.x).length - ((↑(a_2.fst*(itemB a.x).length):Int)+(↑(vi (↑a_5.t.size:Int)++txB a_5.t).length:Int)+(↑(vi (↑a_7.t.size:Int)++txB a_7.t).length:Int)).toNat):Int))/\∃ a_9:NGetA,(a.r+((↑(a_2.fst*(itemB a.x).length):Int)+(↑(vi (↑a_5.t.size:Int)++txB a_5.t).length:Int)+(↑(vi (↑a_7.t.size:Int)++txB a_7.t).length:Int)).toNat+0=a_9.r/\(itemB a.x).length - ((↑(a_2.fst*(itemB a.x).length):Int)+(↑(vi (↑a_5.t.size:Int)++txB a_5.t).length:Int)+(↑(vi (↑a_7.t.size:Int)++txB a_7.t).length:Int)).toNat - 0=a_9.len/\a.cap - ((↑(a_2.fst*(itemB a.x).length):Int)+(↑(vi (↑a_5.t.size:Int)++txB a_5.t).length:Int)+(↑(vi (↑a_7.t.size:Int)++txB a_7.t).length:Int)).toNat - 0=a_9.cap)/\(a_9.l.length<=a.l.length/\RowsEq a_9.l.length 1 (encRows encB a.l) (encRows encB a_9.l))/\(a_9.r+a_9.len<=a_9.l.length/\a_9.len<100000/\a_9.len<=a_9.cap/\(0:Int)<=a_9.n/\a_9.n<(4611686018427387904:Int)/\(vi a_9.n).length<=a_9.len/\∀ i:Nat,i<(vi a_9.n).length->gl a_9.l (a_9.r+i)=gl (vi a_9.n) i)/\∀ b:Unit,True->InR .i64 ((0:Int)+(↑(vi a_9.n).length:Int))/\((0:Int)<=1/\(1:Int)<2)/\((0:Int)<=0+(↑(vi a_9.n).length:Int)/\(0:Int)+(↑(vi a_9.n).length:Int)<=(↑((itemB a.x).length - ((↑(a_2.fst*(itemB a.x).length):Int)+(↑(vi (↑a_5.t.size:Int)++txB a_5.t).length:Int)+(↑(vi (↑a_7.t.size:Int)++txB a_7.t).length:Int)).toNat):Int)) /\
 ∃ a_11:NGetA,(a.r+((↑(a_2.fst*(itemB a.x).length):Int)+(↑(vi (↑a_5.t.size:Int)++txB a_5.t).length:Int)+(↑(vi (↑a_7.t.size:Int)++txB a_7.t).length:Int)).toNat+((0:Int)+(↑(vi a_9.n).length:Int)).toNat=a_11.r/\(itemB a.x).length - ((↑(a_2.fst*(itemB a.x).length):Int)+(↑(vi (↑a_5.t.size:Int)++txB a_5.t).length:Int)+(↑(vi (↑a_7.t.size:Int)++txB a_7.t).length:Int)).toNat - ((0:Int)+(↑(vi a_9.n).length:Int)).toNat=a_11.len/\a.cap - ((↑(a_2.fst*(itemB a.x).length):Int)+(↑(vi (↑a_5.t.size:Int)++txB a_5.t).length:Int)+(↑(vi (↑a_7.t.size:Int)++txB a_7.t).length:Int)).toNat - ((0:Int)+(↑(vi a_9.n).length:Int)).toNat=a_11.cap)/\(a_11.l.length<=a.l.length/\RowsEq a_11.l.length 1 (encRows encB a.l) (encRows encB a_11.l))/\(a_11.r+a_11.len<=a_11.l.length/\a_11.len<100000/\a_11.len<=a_11.cap/\(0:Int)<=a_11.n/\a_11.n<(4611686018427387904:Int)/\(vi a_11.n).length<=a_11.len/\∀ i:Nat,i<(vi a_11.n).length->gl a_11.l (a_11.r+i)=gl (vi a_11.n) i)/\∀ b:Unit,True->InR .i64 ((0:Int)+(↑(vi a_9.n).length:Int)+(↑(vi a_11.n).length:Int))/\(InR .i64 a_11.n->0+a_2.fst<=a_2.fst/\1<=1/\(a_2.fst+1)*48<=140737488355328/\∀ cap:Nat,a_2.fst+1<=cap->cap<=lenMax->(a_2.fst+1<=a_2.snd->cap=a_2.snd)->InR .i64 ((↑(vi (↑a_5.t.size:Int)++txB a_5.t).length:Int)+(↑(vi (↑a_7.t.size:Int)++txB a_7.t).length:Int))/\InR .i64 ((↑(vi (↑a_5.t.size:Int)++txB a_5.t).length:Int)+(↑(vi (↑a_7.t.size:Int)++txB a_7.t).length:Int)+((0:Int)+(↑(vi a_9.n).length:Int)+(↑(vi a_11.n).length:Int))) /\
 InR .i64 ((↑(a_2.fst*(itemB a.x).length):Int)+((↑(vi (↑a_5.t.size:Int)++txB a_5.t).length:Int)+(↑(vi (↑a_7.t.size:Int)++txB a_7.t).length:Int)+((0:Int)+(↑(vi a_9.n).length:Int)+(↑(vi a_11.n).length:Int))))/\∃ (a':Nat × Nat),(↑(a_2.fst*(itemB a.x).length):Int)+((↑(vi (↑a_5.t.size:Int)++txB a_5.t).length:Int)+(↑(vi (↑a_7.t.size:Int)++txB a_7.t).length:Int)+((0:Int)+(↑(vi a_9.n).length:Int)+(↑(vi a_11.n).length:Int)))=(↑(a'.fst*(itemB a.x).length):Int)/\(0=0/\a_2.fst+1=a'.fst/\cap=a'.snd)/\(0:Int)=0/\(a.r=a.r/\(itemB a.x).length=(itemB a.x).length/\a.cap=a.cap)/\(a'.fst<=a_2.fst+1/\RowsEq a'.fst 4 (appRows (encRows encItem (List.take a_2.fst [a.x])) 0 a_2.fst fun (i j:Nat)=>flatRows 4 [Value.string a_5.t,Value.string a_7.t,Value.int IntKind.i64 a_9.n,Value.bool (a_11.n == (1:Int))] (0+i) j) (encRows encItem (List.take a'.fst [a.x])))/\(a.l.length<=a.l.length/\RowsEq a.l.length 1 (encRows encB a.l) (encRows encB a.l))/\a'.fst<=1/\1 - a'.fst<1 - a_2.fst))/\(decide ((↑(a_2.fst*(itemB a.x).length):Int)<(↑(itemB a.x).length:Int))=false->∃ a_5:EncA,(0=0/\a_2.fst=a_5.xs.length/\a_2.snd=a_5.cap)/\(a_5.xs.length<=a_2.fst/\RowsEq a_5.xs.length 4 (encRows encItem (List.take a_2.fst [a.x])) (encRows encItem a_5.xs))/\(1<=a_5.xs.length/\a_5.xs.length<20/\∀ i:Nat,i<a_5.xs.length->mayB (gl a_5.xs i)=true)/\∀ b:Nat,True->∀ b:Bool,(b=true ->
 (itemsB a_5.xs).length=0)->(b=true->∃ b:Nat,(0=1/\0=b)/\(1:Int)=0/\1=0/\True/\True)/\(b=false->0+(itemsB a_5.xs).length<=(itemsB a_5.xs).length/\a.r+(itemB a.x).length<=a.l.length/\((!decide (List.foldl (fun (s:ByteArray) (n:Int)=>s.push (UInt8.ofNat n.toNat)) ByteArray.empty (List.map (fun (i:Nat)=>gl (itemsB a_5.xs) (0+i)) (List.range (itemsB a_5.xs).length))=List.foldl (fun (s:ByteArray) (n:Int)=>s.push (UInt8.ofNat n.toNat)) ByteArray.empty (List.map (fun (i:Nat)=>gl a.l (a.r+i)) (List.range (itemB a.x).length))))=true->∃ b:Nat,(0=1/\0=b)/\(1:Int)=0/\1=0/\True/\True)/\((!decide (List.foldl (fun (s:ByteArray) (n:Int)=>s.push (UInt8.ofNat n.toNat)) ByteArray.empty (List.map (fun (i:Nat)=>gl (itemsB a_5.xs) (0+i)) (List.range (itemsB a_5.xs).length))=List.foldl (fun (s:ByteArray) (n:Int)=>s.push (UInt8.ofNat n.toNat)) ByteArray.empty (List.map (fun (i:Nat)=>gl a.l (a.r+i)) (List.range (itemB a.x).length))))=false->∃ b:Nat,(0=0/\a_2.fst=1/\a_2.snd=b)/\(0:Int)=0/\(1<=a_2.fst/\RowsEq 1 4 (encRows encItem (List.take a_2.fst [a.x])) (encRows encItem [a.x]))/\True/\True)))) (by kernel_rfl) (by
 rintro ⟨l,r,cap,x⟩ ⟨h1,h2,h3,h4⟩;dsimp only at *;obtain ⟨k1,k2,k3,k4⟩:=may_out h1;obtain ⟨P,hP⟩:∃ P,P=vi (x.key.size:Nat)++txB x.key:=⟨_,rfl⟩
 obtain ⟨Q,hQ⟩:∃ Q,Q=vi (x.val.size:Nat)++txB x.val:=⟨_,rfl⟩
 obtain ⟨E,hE⟩:∃ E,E=vi x.e:=⟨_,rfl⟩
 obtain ⟨g,hg⟩:∃ g:Int,g=if x.gone then 1 else 0:=⟨_,rfl⟩
 obtain ⟨G,hG⟩:∃ G,G=vi g:=⟨_,rfl⟩
 have hg0:0<=g/\g<=1:=by rw [hg];split<;>omega
 have hI:itemB x=P++(Q++(E++G)):=by
  simp only [itemB,textsB,putsB,List.flatMap_cons,List.flatMap_nil,List.append_nil,hP,hQ,hE,hG,hg,List.append_assoc]
 have hPl:1<=P.length:=by have:=vi_len (x.key.size:Nat);rw [hP,List.length_append];omega
 have hlen:=itemB_len h1;have hL:(itemB x).length=P.length+(Q.length+(E.length+G.length)):=by rw [hI];simp only [List.length_append]
 have fP:∀ i,i<P.length->gl l (r+i)=gl P i:=fun i hi=>by rw [h4 i (by omega),hI,gl_append_left hi]
 have fQ:∀ i,i<Q.length->gl l (r+P.length+i)=gl Q i:=fun i hi=>by
  rw [Nat.add_assoc,h4 _ (by omega),hI,gl_append_right,gl_append_left hi]
 have fE:∀ i,i<E.length->gl l (r+(P.length+Q.length)+i)=gl E i:=fun i hi=>by
  rw [Nat.add_assoc,h4 _ (by omega),hI,Nat.add_assoc,gl_append_right,gl_append_right,gl_append_left hi]
 have fG:∀ i,i<G.length->gl l (r+(P.length+Q.length)+E.length+i)=gl G i:=fun i hi=>by
  rw [Nat.add_assoc,Nat.add_assoc,h4 _ (by omega),hI,Nat.add_assoc,gl_append_right,gl_append_right,gl_append_right]
 have hall:List.map (fun (i:Nat)=>gl l (r+i)) (List.range (itemB x).length)=List.map (fun (i:Nat)=>gl (itemB x) (0+i)) (List.range (itemB x).length):=by
  refine List.map_congr_left fun i hi=>?_;rw [h4 i (List.mem_range.1 hi),Nat.zero_add]
 obtain ⟨L,hLL⟩:∃ L,(itemB x).length=L:=⟨_,rfl⟩
 rw [hLL] at h2 h3 h4 hlen hL hall ⊢;refine ⟨⟨(0,0),?_⟩,fun k hk=>?_⟩
 ·dsimp only
  (repeat' apply And.intro)<;>first|with_reducible (first|rfl|trivial|assumption)|omega|with_reducible (first|exact RowsEq.refl _ _ _|exact Nat.le_refl _)|(dsimp only [List.length_cons,List.length_nil]<;>omega)|simp
 ·obtain ⟨k,c⟩:=k;have hk:k<=1:=hk;dsimp only;refine ⟨fun c1=>?_,fun c1=>?_⟩
  ·have hk0:k=0:=by
    rcases Nat.lt_or_ge k 1 with h|h
    ·omega
    ·have:k=1:=by omega
     subst this;simp at c1
   subst hk0;simp only [Nat.zero_mul,Int.natCast_zero,Int.zero_add,Int.toNat_zero,Nat.add_zero,Nat.sub_zero];refine ⟨by omega,⟨NTextA.mk l r L cap x.key,?_⟩⟩;simp only [<- hP]
   (repeat' apply And.intro)<;>first|with_reducible (first|rfl|trivial|assumption)|omega|with_reducible (first|exact RowsEq.refl _ _ _|exact Nat.le_refl _)|(dsimp only [List.length_cons,List.length_nil]<;>omega)|exact fP|skip
   intro _ _;refine ⟨by simp only [InR];omega,by omega,⟨NTextA.mk l (r+P.length) (L - P.length) (cap - P.length) x.val,?_⟩⟩;simp only [<- hQ]
   (repeat' apply And.intro)<;>first|with_reducible (first|rfl|trivial|assumption)|omega|with_reducible (first|exact RowsEq.refl _ _ _|exact Nat.le_refl _)|(dsimp only [List.length_cons,List.length_nil]<;>omega)|exact fQ|skip
   intro _ _
   (repeat' apply And.intro)<;>first|with_reducible (first|rfl|trivial|assumption)|omega|with_reducible (first|exact RowsEq.refl _ _ _|exact Nat.le_refl _)|(dsimp only [List.length_cons,List.length_nil]<;>omega)|(simp only [InR];omega)|skip
   refine ⟨NGetA.mk l (r+(P.length+Q.length)) (L - (P.length+Q.length)) (cap - (P.length+Q.length)) x.e,?_⟩;simp only [<- hE]
   (repeat' apply And.intro)<;>first|with_reducible (first|rfl|trivial|assumption)|omega|with_reducible (first|exact RowsEq.refl _ _ _|exact Nat.le_refl _)|(dsimp only [List.length_cons,List.length_nil]<;>omega)|exact fE|skip
   intro _ _
   (repeat' apply And.intro)<;>first|with_reducible (first|rfl|trivial|assumption)|omega|with_reducible (first|exact RowsEq.refl _ _ _|exact Nat.le_refl _)|(dsimp only [List.length_cons,List.length_nil]<;>omega)|(simp only [InR];omega)|skip
   refine ⟨NGetA.mk l (r+(P.length+Q.length)+E.length) (L - (P.length+Q.length) - E.length) (cap - (P.length+Q.length) - E.length) g,?_⟩;simp only [<- hG]
   (repeat' apply And.intro)<;>first|with_reducible (first|rfl|trivial|assumption)|omega|with_reducible (first|exact RowsEq.refl _ _ _|exact Nat.le_refl _)|(dsimp only [List.length_cons,List.length_nil]<;>omega)|exact fG|skip
   intro _ _
   (repeat' (first|apply And.intro|(intro _)))<;>first|with_reducible (first|rfl|trivial|assumption)|omega|with_reducible (first|exact RowsEq.refl _ _ _|exact Nat.le_refl _)|(dsimp only [List.length_cons,List.length_nil]<;>omega)|(simp only [InR];omega)|skip
   apply Exists.intro ((1,_):Nat × Nat);have hgo:(g == 1)=x.gone:=by
    rw [hg];cases x.gone<;>rfl
   have hr:RowsEq 1 4 (appRows (encRows encItem (List.take 0 [x])) 0 0 fun (i j:Nat)=>flatRows 4 [Value.string x.key,Value.string x.val,Value.int .i64 x.e,Value.bool (g == 1)] (0+i) j) (encRows encItem (List.take 1 [x])):=.of_cells fun i hi=>by
    have:i=0:=by omega
    subst this;rw [hgo];rfl
   (repeat' apply And.intro)<;>first|with_reducible (first|rfl|trivial|assumption)|omega|with_reducible (first|exact RowsEq.refl _ _ _|exact Nat.le_refl _)|(dsimp only [List.length_cons,List.length_nil]<;>omega)|exact hr|skip
  ·have hk1:k=1:=by
    rcases Nat.lt_or_ge k 1 with h|h
    ·have:k=0:=by omega
     subst this;simp at c1;omega
    ·omega
   subst hk1;have hx1:List.take 1 [x]=[x]:=rfl;have hI1:itemsB [x]=itemB x:=by simp [itemsB]
   rw [hx1];refine ⟨⟨[x],c⟩,?_⟩;simp only [hI1,hLL,hall];have hm:∀ i,i < [x].length->mayB (gl [x] i)=true:=fun i hi=>by
    have:i=0:=by simp at hi;omega
    subst this;exact h1
   (repeat' (first|apply And.intro|(intro _)|apply Exists.intro (c:Nat)))<;>first|with_reducible (first|rfl|trivial|assumption)|omega|with_reducible (first|exact RowsEq.refl _ _ _|exact Nat.le_refl _)|(dsimp only [List.length_cons,List.length_nil]<;>omega)|(exact hm _ (by assumption))|(exfalso;simp at *;done)|(exfalso;clear h4 hall fP fQ fE fG;grind)|skip)
theorem callDec:CallsBy (Y Tryz.prog).G.X 96 cDec:=fn_ok okY (tab:=[(87,cNGet),(107,cNText),(45,cEnc)]) ⟨callNGet,callNText,callEnc,trivial⟩ bodyDec
end Go.Proofs.YtfhkbihcfmbbcaaGreat

namespace Go.Sx
section
def AtOk (f:A->S->(A->S->Prop)->Prop):Prop:=∀ x s K,f x s K->∀ w0 M ρ w,ρ.n=s.nx->HeapSat w0 M ρ s.hp w->∀ u,x.Rep ρ u->HView w0 M ρ w s u K
theorem absA_at (n:Nat):AtOk (absA n):=absA_ok n
def openA (ty:Nat) (ks:List CK) (x:A) (s:S) (K:A->S->Prop):Prop :=
 match x with
 | .val v=>poolOf s fun tp wr H=>bif wr then ∃ l c rows,slAt H v ks l c rows /\
  K (.slc s.nx 0 ks.length l c) ⟨s.nt,s.fr,⟨s.nx,true,.arr ty ks l rows⟩::⟨s.nx+1,true,.pool (pminusV H v)⟩::s.hp.del tp,s.nx+2,s.kp,s.rt⟩ else False
 | _=>False
theorem openA_at (ty:Nat) (ks:List CK):AtOk (openA ty ks):=by
 intro x s K h w0 M ρ w hρ hh u hu;unfold openA at h;split at h<;>try exact h.elim
 rename_i v;replace h:=poolOf_ok h;obtain ⟨tp,wr,H,h,hf⟩:=h;cases wr with
 | false=>exact h.elim
 | true =>
  simp only [cond_true] at h;obtain ⟨l,c,rows,hat,hK⟩:=h;obtain ⟨rfl,_⟩:=hu;have hcp:=(hh.ent _ (Heap.find_mem hf)).ch;simp only at hcp;rcases hat with ⟨rfl,rfl,rfl⟩ | ⟨b,lo,o,cs,rfl,⟨hlc,hcm⟩,hH,hfit,hrows⟩
  ·have hsp:=hh.split2 hf ⟨0,0,0,fun _=>False⟩ ⟨0,0,0,fun x=>(ρ.pl tp).fp x⟩ (fun x hx=>hx.elim) (fun x hx=>hx) (fun x hx _=>hx)
    (c1:=.arr ty ks 0 rows) (c2:=.pool H) (fun ρ'=>.inl ⟨rfl,rfl,fun _ h=>h⟩) (fun ρ' x lo' cs' hx=>hcp x lo' cs' hx)
   rw [hρ] at hsp;exact ⟨_,_,_,hK,rfl,rfl,by show ρ.n+1+1=s.nx+2;rw [hρ],(ρ.le_ext _).trans ((ρ.ext _).le_ext _),⟨by show s.nx<ρ.n+2;omega,Nat.le_refl _,by unfold lenMax;omega,.inl ⟨rfl,rfl,rfl⟩⟩,hsp⟩
  ·obtain ⟨hfp,vs,vty,fr,hb,hvl,hvs,hun⟩:=hcp b lo cs hH;have hsp:=hh.split2 hf ⟨b,lo+o,c,fun x=>x=b⟩ ⟨0,0,0,fun x=>(ρ.pl tp).fp x/\x≠b⟩ (fun x hx=>by simp only at hx;subst hx;exact hfp) (fun x hx=>hx.1) (fun x hx hx'=>hx'.2 hx)
    (c1:=.arr ty ks l rows) (c2:=.pool (pminus H b)) (fun ρ'=>.inr ⟨vs,vty,fr,hb,by simp only;omega,hlc,fun x h1 h2=>hun x (by simp only at h1;omega) (by simp only at h2;omega),fun _=>Iff.rfl,fun i hi j k hk=>by
     obtain ⟨g1,g2⟩:=hrows.at_ i hi j k hk;refine ⟨?_,g2⟩;have hlt:o+i*ks.length+j<cs.length:=(List.getElem?_eq_some_iff.1 g1).1;rw [<- g1,<- hvs _ hlt];congr 1;simp only;omega⟩)
    (fun ρ' x lo' cs' hx=>by
     by_cases hxb:x=b
     ·subst hxb;rw [pminus_self] at hx;cases hx
     ·rw [pminus_ne hxb] at hx;obtain ⟨g1,g2⟩:=hcp x lo' cs' hx;exact ⟨⟨g1,hxb⟩,g2⟩)
   rw [hρ] at hsp;refine ⟨_,_,_,hK,rfl,rfl,by show ρ.n+1+1=s.nx+2;rw [hρ],(ρ.le_ext _).trans ((ρ.ext _).le_ext _),⟨by show s.nx<ρ.n+2;omega,hlc,hcm,.inr ⟨_,rfl,fun _=>?_⟩⟩,hsp⟩;have hpl:((ρ.ext ⟨b,lo+o,c,fun x=>x=b⟩).ext ⟨0,0,0,fun x=>(ρ.pl tp).fp x/\x≠b⟩).pl s.nx=⟨b,lo+o,c,fun x=>x=b⟩:=by
    rw [<- hρ,(ρ.ext _).ext_old _ (Nat.lt_succ_self _)];exact ρ.ext_new _
   rw [hpl];simp
def onSlot (f:A->S->(A->S->Prop)->Prop) (slot:Nat) (s:S) (K:S->Prop):Prop :=
 match look s.fr slot with
 | .a x=>f x s fun y s'=>K (s'.set slot (.a y))
 | _=>False
theorem onSlot_ok {f:A->S->(A->S->Prop)->Prop} (hf:AtOk f) (slot:Nat):∀ s K,onSlot f slot s K->ViewOk s K:=by
 intro s K h w0 M ρ a w hs;unfold onSlot at h;split at h<;>try exact h.elim
 rename_i x hx;have hr:=hs.frame slot;rw [hx] at hr;obtain ⟨y,s',ρ',hK,h1,h2,h3,h4,h5,h6⟩:=hf x s _ h w0 M ρ w hs.n hs.heap _ hr;refine ⟨_,ρ',hK,h4,⟨hs.defers,by rw [hs.size];exact h1.symm,h3,?_,h6⟩⟩;intro j;show (look ((slot,.a y)::s'.fr) j).Rep ρ' _;simp only [look];by_cases hj:slot=j
 ·subst hj;simp only [beq_self',cond_true];exact h5
 ·simp only [beq_ne hj,cond_false];rw [h2];exact (hs.frame j).mono h4
def onCell (f:A->S->(A->S->Prop)->Prop) (slot cell:Nat) (s:S) (K:S->Prop):Prop :=
 match look s.fr slot with
 | .a (.ptr t _ _ _)=>match s.hp.find t with
  | some (_,.obj _ cs)=>match cs[cell]? with
   | some x=>f x s fun y s'=>match s'.hp.find t with
    | some (true,.obj ty cs')=>bif Nat.blt cell cs'.length then K (s'.put (s'.hp.upd t (.obj ty (cs'.set cell y)))) else False
    | _=>False
   | none=>False
  | _=>False
 | _=>False
theorem onCell_ok {f:A->S->(A->S->Prop)->Prop} (hf:AtOk f) (slot cell:Nat):∀ s K,onCell f slot cell s K->ViewOk s K:=by
 intro s K h w0 M ρ a w hs;unfold onCell at h;split at h<;>try exact h.elim
 rename_i t r e c hsl;split at h<;>try exact h.elim
 rename_i m0 ty0 cs hfd;split at h<;>try exact h.elim
 rename_i x hx;have he:=hs.heap.ent _ (Heap.find_mem hfd);obtain ⟨vs,fr,a1,a2,⟨us,xs,a3,a4⟩,a5⟩:=he.ch;obtain ⟨u,hu,hru⟩:=a4.get hx;obtain ⟨y,s',ρ',hK,h1,h2,h3,h4,h5,h6⟩:=hf x s _ h w0 M ρ w hs.n hs.heap u hru;split at hK<;>try exact hK.elim
 rename_i ty1 cs' hf';cases hl:Nat.blt cell cs'.length with
 | false=>rw [hl] at hK;exact hK.elim
 | true =>
  rw [hl] at hK;simp only [cond_true] at hK;have hl:=Nat.le_of_ble_eq_true hl;have htn:t<ρ.n:=he.tag;have hpl:ρ'.pl t=ρ.pl t:=h4.pl t htn;have h7:=h6.upd hf' (Keeps.refl _ w) (ch':=.obj ty1 (cs'.set cell y)) (by
   obtain ⟨vs',fr',b1,b2,⟨us',xs',b3,b4⟩,b5⟩:=(h6.ent _ (Heap.find_mem hf')).ch;refine ⟨vs',fr',b1,b2,⟨us',xs',b3,?_⟩,b5⟩;simp only [hpl] at b1;rw [a1] at b1;have hvv:vs=vs':=by injection b1 with b1;injection b1
   subst hvv;have hlu:=b4.length;have e1:us'[cell]? = some u:=by
    have g1:vs.toList[cell]? = us'[cell]?:=by rw [b3,List.getElem?_append_left (by omega)]
    have g2:vs.toList[cell]? = us[cell]?:=by
     obtain ⟨hlt,_⟩:=List.getElem?_eq_some_iff.1 hu;rw [a3,List.getElem?_append_left hlt]
    rw [<- g1,g2,hu]
   have:=b4.set cell (v:=u) (x:=y) h5;have e:us'.set cell u=us':=by
    obtain ⟨hlt,he⟩:=List.getElem?_eq_some_iff.1 e1;subst he;exact List.set_getElem_self hlt
   rwa [e] at this)
  exact ⟨_,ρ',hK,h4,⟨hs.defers,by rw [hs.size];exact h1.symm,h3,by show FrameSat ρ' s'.fr _;rw [h2];exact hs.frame.mono h4,h7⟩⟩
def An.absSlot (key slot:Nat) (next:LH):An:=.view key (onSlot (absA 3) slot) (onSlot_ok (absA_at 3) slot) next
def An.absCell (key slot cell:Nat) (next:LH):An:=.view key (onCell (absA 3) slot cell) (onCell_ok (absA_at 3) slot cell) next
def An.openSlot (key slot:Nat) (ty:Nat) (ks:List CK) (next:LH):An:=.view key (onSlot (openA ty ks) slot) (onSlot_ok (openA_at ty ks) slot) next
end
end Go.Sx

namespace Go.Proofs.YtfhkbihcfmbbcaaGreat
open Go.Sx
set_option maxRecDepth 100000
set_option linter.unusedVariables false
set_option linter.unusedSimpArgs false
structure RecM where
 pos:Int
 body:List Int
 deriving Inhabited
structure SegM where
 gen:Int
 base:Int
 run:Int
 buf:List Int
 recs:List RecM
 deriving Inhabited
structure SegL where
 b:Nat
 bv:Value
 rv:Value
 vs:List Value
def ksRec:List CK:=[.int .i64,.deep]
def recR (rs:List RecM) (vs:List Value):Nat->Nat->Value:=fun i j=>if j=0 then .int .i64 (gl rs i).pos else vs.getD i undef
def segC (g:SegM) (bv rv:Value):List Value:=[.int .i64 g.gen,.int .i64 g.base,.int .i64 g.run,bv,rv]
def BytesAt (H:PH) (v:Value) (l:List Int):Prop:=∃ c,slAt H v [.int .u8] l.length c (encRows encB l)
structure SegAt (H:PH) (y:SegL) (g:SegM):Prop where
 cell:H y.b=some (0,segC g y.bv y.rv)
 rng:InR .i64 g.gen/\InR .i64 g.base/\InR .i64 g.run
 buf:BytesAt H y.bv g.buf
 recs:∃ c,slAt H y.rv ksRec g.recs.length c (recR g.recs y.vs)
 len:y.vs.length=g.recs.length
 body:∀ i,i<g.recs.length->BytesAt H (y.vs.getD i undef) (gl g.recs i).body
def fpV:Value->List Nat
 | .slice (some ⟨b,_,_⟩) _ _=>[b]
 | _=>[]
def fpSeg (y:SegL):List Nat:=y.b::(fpV y.bv++(fpV y.rv++y.vs.flatMap fpV))
theorem slAt_frame {H H':PH} {v:Value} {ks:List CK} {l c:Nat} {rows:Nat->Nat->Value} (h:slAt H v ks l c rows) (e:∀ x∈fpV v,H' x=H x):slAt H' v ks l c rows:=by
 rcases h with h | ⟨b,lo,o,cs,rfl,h1,h2,h3,h4⟩
 ·exact .inl h
 ·exact .inr ⟨b,lo,o,cs,rfl,h1,by rw [e b (by simp [fpV,slv]),h2],h3,h4⟩
theorem BytesAt.frame {H H':PH} {v:Value} {l:List Int} (h:BytesAt H v l) (e:∀ x∈fpV v,H' x=H x):BytesAt H' v l:=by
 obtain ⟨c,h⟩:=h;exact ⟨c,slAt_frame h e⟩
theorem SegAt.frame {H H':PH} {y:SegL} {g:SegM} (h:SegAt H y g) (e:∀ x∈fpSeg y,H' x=H x):SegAt H' y g:=by
 have e1:∀ x∈fpV y.bv,H' x=H x:=fun x hx=>e x (by simp [fpSeg,hx]);have e2:∀ x∈fpV y.rv,H' x=H x:=fun x hx=>e x (by simp [fpSeg,hx]);obtain ⟨c,hr⟩:=h.recs;refine ⟨by rw [e y.b (by simp [fpSeg]),h.cell],h.rng,h.buf.frame e1,⟨c,slAt_frame hr e2⟩,h.len,fun i hi=>(h.body i hi).frame fun x hx=>e x ?_⟩;simp only [fpSeg,List.mem_cons,List.mem_append,List.mem_flatMap];refine .inr (.inr (.inr ⟨_,?_,hx⟩));have:=h.len;rw [List.getD_eq_getElem?_getD,List.getElem?_eq_getElem (by omega)];exact List.getElem_mem _
theorem slAt_dom {H:PH} {v:Value} {ks:List CK} {l c:Nat} {rows:Nat->Nat->Value} (h:slAt H v ks l c rows):∀ x∈fpV v,H x≠none:=by
 rcases h with ⟨rfl,_⟩ | ⟨b,lo,o,cs,rfl,h1,h2,h3,h4⟩
 ·intro x hx;cases hx
 ·intro x hx;simp only [fpV,slv,List.mem_singleton] at hx;rw [hx,h2];simp
theorem SegAt.dom {H:PH} {y:SegL} {g:SegM} (h:SegAt H y g):∀ x∈fpSeg y,H x≠none:=by
 intro x hx;simp only [fpSeg,List.mem_cons,List.mem_append,List.mem_flatMap] at hx;rcases hx with rfl|hx|hx | ⟨v,hv,hx⟩
 ·rw [h.cell];simp
 ·obtain ⟨c,hb⟩:=h.buf;exact slAt_dom hb x hx
 ·obtain ⟨c,hr⟩:=h.recs;exact slAt_dom hr x hx
 ·obtain ⟨i,hi,rfl⟩:=List.getElem_of_mem hv;have hl:=h.len;obtain ⟨c,hb⟩:=h.body i (by omega);rw [List.getD_eq_getElem?_getD,List.getElem?_eq_getElem hi] at hb;exact slAt_dom hb x hx
theorem slAt_len {H:PH} {v:Value} {ks:List CK} {l c:Nat} {rows:Nat->Nat->Value} (h:slAt H v ks l c rows):slLen v=l/\slCap v=c/\l<=c/\c<=lenMax/\okSl v/\(∃ a,v = .slice a l c)/\v.oneCell'=true:=by
 rcases h with ⟨rfl,rfl,rfl⟩ | ⟨b,lo,o,cs,rfl,⟨h1,h1'⟩,h2,h3,h4⟩
 ·exact ⟨rfl,rfl,Nat.le_refl _,Nat.zero_le _,.inl rfl,⟨_,rfl⟩,rfl⟩
 ·exact ⟨rfl,rfl,h1,h1',.inr ⟨_,_,_,_,rfl,h1,h1'⟩,⟨_,rfl⟩,rfl⟩
theorem slAt_cut {H:PH} {v:Value} {ks:List CK} {l c:Nat} {rows:Nat->Nat->Value} (hk:1<=ks.length) (h:slAt H v ks l c rows) {sz a e m:Nat} (hs:sz=ks.length) (h1:a<=e) (h2:e<=l) (h2':e<=m) (h3:m<=c):slAt H (slcut sz v a e m) ks (e - a) (m - a) (fun i=>rows (a+i)):=by
 subst hs;rcases h with ⟨rfl,rfl,rfl⟩ | ⟨b,lo,o,cs,rfl,⟨g1,g1'⟩,g2,g3,g4⟩
 ·exact .inl ⟨rfl,by omega,by omega⟩
 ·rw [slcut_slv];by_cases hm:m=a
  ·subst hm
   refine .inr ⟨b, lo, o, cs, by rw [if_pos rfl], ⟨by omega, by omega⟩, g2, by have : (m - m) * ks.length = 0 := by rw [Nat.sub_self, Nat.zero_mul]
                                                                               have:=Nat.le_add_right o (c*ks.length);omega,⟨fun i hi=>by omega⟩⟩
  ·rw [if_neg hm];have e1:(m - a)*ks.length+a*ks.length=m*ks.length:=by rw [<- Nat.add_mul,Nat.sub_add_cancel (by omega)]
   have e2:=Nat.mul_le_mul_right ks.length h3;refine .inr ⟨b,lo,o+a*ks.length,cs,by rw [Nat.add_assoc],⟨by omega,by omega⟩,g2,by omega,⟨fun i hi j k hj=>?_⟩⟩;have:=g4.at_ (a+i) (by omega) j k hj;rw [Nat.add_mul] at this;rwa [show o+a*ks.length+i*ks.length+j=o+(a*ks.length+i*ks.length)+j by omega]
theorem BytesAt.len {H:PH} {v:Value} {l:List Int} (h:BytesAt H v l):slLen v=l.length/\okSl v/\l.length<=lenMax/\l.length<=slCap v/\(∃ a c,v = .slice a l.length c)/\v.oneCell'=true:=by
 obtain ⟨c,h⟩:=h;obtain ⟨h1,h2,h3,h4,h5,⟨a,h6⟩,h7⟩:=slAt_len h;exact ⟨h1,h5,by omega,by omega,⟨a,c,h6⟩,h7⟩
theorem BytesAt.cut {H:PH} {v:Value} {l:List Int} (h:BytesAt H v l) {a e:Nat} (h1:a<=e) (h2:e<=l.length):slAt H (slcut 1 v a e (slCap v)) [.int .u8] (e - a) (slCap v - a) (fun i=>encRows encB l (a+i)):=by
 obtain ⟨c,h⟩:=h;obtain ⟨_,g2,g3,_⟩:=slAt_len h;rw [g2];exact slAt_cut (Nat.le_refl _) h rfl h1 h2 (by omega) (Nat.le_refl _)
theorem rowsB_eq {n:Nat} {f:Nat->Int} {rows:Nat->Nat->Value} (h:∀ i,i<n->rows i 0 = .int .u8 (f i)):RowsEq n 1 rows (rowsB f):=⟨fun i hi j hj=>by
 have:j=0:=by omega
 subst this;exact h i hi⟩
theorem upd1_at {rows:Nat->Nat->Value} {k i:Nat} {v:Value}:updR rows k 0 [v] i 0=if i=k then v else rows i 0:=by
 rw [updR_at];simp
def beB (v:Int) (len k:Nat):Int:=uw .u8 (v / 2 ^ (8*(len - 1 - k)))
def startS (i:Nat):Nat:=48*i - 6
def roomS (i:Nat):Nat:=if i=0 then 42 else 48
def usedS (n i:Nat):Nat:=min (roomS i) (n - min (startS i) n)
def sec0 (g:SegM) (i:Nat) (run:Int) (j:Nat):Int :=
 if j<4 then 0 else if j<10 then beB (uw .u64 g.gen) 6 (j - 4) else if j<14 then beB (uw .u64 run) 4 (j - 10) else if j<15 then (i:Int) else if j<16 then (usedS g.buf.length i:Int)
 else if i=0 then (if j<22 then beB (uw .u64 g.base) 6 (j - 16) else if j - 22<usedS g.buf.length i then gl g.buf (j - 22) else 0)
 else if j - 16<usedS g.buf.length i then gl g.buf (startS i+(j - 16)) else 0
def sumB (f:Nat->Int):Int:=ibits .xor .u32 4294967295 (crcTo (fun k=>f (4+k)) 60)
def secB (g:SegM) (i:Nat) (run:Int) (j:Nat):Int:=if j<4 then beB (sumB (sec0 g i run)) 4 j else sec0 g i run j
theorem putR_B {f:Nat->Int} {r len:Nat} {v:Int} (h:len<=8):putR (rowsB f) r len v len=rowsB fun i=>if r<=i/\i<r+len then beB v len (i - r) else f i:=by
 funext i j;simp only [putR,rowsB];by_cases hi:r<=i/\i<r+len
 ·rw [if_pos (by omega),if_pos hi];simp only [beB];rw [show min (8*(r+len - 1 - i)) 64=8*(len - 1 - (i - r)) by omega]
 ·rw [if_neg (by omega),if_neg hi]
structure SecA where
 H:PH
 y:SegL
 g:SegM
 i:Nat
 run:Int
noncomputable def cSector:Con where
 α:=SecA
 β:=Unit
 m:=1
 m':=2
 pre:=fun a=>SegAt a.H a.y a.g/\a.i<8/\a.g.buf.length<=378
 args:=fun a=>[.a (.val (pv a.y.b 0)),.a (.int .i64 a.i),.a (.int .i64 a.run)]
 hp:=fun _=>[]
 ro:=fun a=>[(0,.pool a.H)]
 post:=fun _ _=>True
 res:=fun _ _=>.a (.slc 1 0 1 64 64)
 hp':=fun a _=>[(1,.arr 5 [.int .u8] 64 (rowsB (secB a.g a.i a.run)))]
set_option maxHeartbeats 4000000 in
theorem bodySector:fnBody (Y Tryz.prog) [(77,cPut),(91,cCrc)] 99 cSector fun _=>[]:=fnBody.of (p :=
 ∀ a:SecA,SegAt a.H a.y a.g/\a.i<8/\a.g.buf.length<=378->(0:Int)<=64/\(64:Int)<=64/\(64:Int)<=281474976710656/\((0:Int)<=10/\(10:Int)<=64)/\((0:Int)<=4/\(4:Int)<=10)/\∃ b o:Nat,pv a.y.b 0=pv b o/\∃ b_1 o_1:Nat,pv b o=pv b_1 o_1/\∃ b lo o:Nat,∃ cs:List Value,pv b_1 (o_1+0)=pv b (lo+o)/\a.H b=some (lo,cs)/\((∃ v:Value,cs[o]? = some v/\∃ n:Int,v=Value.int IntKind.i64 n/\InR .i64 n)/\True)/\(InR .i64 (toI (cs.getD o (Value.tuple #[])))->∃ a_3:PutA,(4=a_3.r/\6=a_3.len/\60=a_3.cap)/\uw .u64 (toI (cs.getD o (Value.tuple #[])))=a_3.v/\(a_3.n<=64/\RowsEq a_3.n 1 (fun (x j:Nat)=>[Value.int IntKind.u8 (0:Int)].getD j (Value.tuple #[])) a_3.rows)/\(a_3.r+a_3.len<=a_3.n/\a_3.len<=8)/\∀ b:Unit,True->((0:Int)<=14/\(14:Int)<=64)/\((0:Int)<=10/\(10:Int)<=14)/\∃ a_5:PutA,(10=a_5.r/\4=a_5.len/\54=a_5.cap)/\uw .u64 a.run=a_5.v/\(a_5.n<=a_3.n/\RowsEq a_5.n 1 (putR a_3.rows a_3.r a_3.len a_3.v a_3.len) a_5.rows)/\(a_5.r+a_5.len<=a_5.n/\a_5.len<=8)/\∀ b:Unit,True->((0:Int)<=14/\(14:Int)<64)/\14<a_5.n/\((0:Int)<=16/\(16:Int)<=64)/\(((↑a.i:Int) == 0)=true->((0:Int)<=6/\(6:Int)<=48)/\∃ b o:Nat,pv a.y.b 0=pv b o/\∃ b_2 o_2:Nat,pv b o=pv b_2 o_2/\∃ b lo o:Nat,∃ cs:List Value,pv b_2 (o_2+1)=pv b (lo+o)/\a.H b=some (lo,cs)/\((∃ v:Value,cs[o]? = some v/\∃ n:Int,v=Value.int IntKind.i64 n /\
 InR .i64 n)/\True)/\(InR .i64 (toI (cs.getD o (Value.tuple #[])))->∃ a_9:PutA,(16=a_9.r/\6=a_9.len/\48=a_9.cap)/\uw .u64 (toI (cs.getD o (Value.tuple #[])))=a_9.v/\(a_9.n<=a_5.n/\RowsEq a_9.n 1 (updR (putR a_5.rows a_5.r a_5.len a_5.v a_5.len) 14 0 [Value.int IntKind.u8 (uw .u8 (↑a.i:Int))]) a_9.rows)/\(a_9.r+a_9.len<=a_9.n/\a_9.len<=8)/\∀ b:Unit,True->((0:Int)<=6/\(6:Int)<=48)/\∃ b o:Nat,pv a.y.b 0=pv b o/\∃ b_3 o_3:Nat,pv b o=pv b_3 o_3/\∃ b lo o:Nat,∃ cs:List Value,pv b_3 (o_3+3)=pv b (lo+o)/\a.H b=some (lo,cs)/\((∃ v:Value,cs[o]? = some v/\v.oneCell'=true)/\True)/\∃ b o_4:Nat,pv a.y.b 0=pv b o_4/\∃ b_4 o_5:Nat,pv b o_4=pv b_4 o_5/\∃ b lo o_6:Nat,∃ cs_1:List Value,pv b_4 (o_5+3)=pv b (lo+o_6)/\a.H b=some (lo,cs_1)/\((∃ v:Value,cs_1[o_6]? = some v/\v.oneCell'=true)/\True)/\(∃ a:Option Go.Addr,∃ l c:Nat,cs_1.getD o_6 (Value.tuple #[])=Value.slice a l c/\l<=lenMax)/\InR .i64 ((↑a.i:Int)*48)/\InR .i64 ((↑a.i:Int)*48 - (6:Int))/\okSl (cs.getD o (Value.tuple #[]))/\(((0:Int)<=bif false then max (bif true then max (0:Int) ((↑a.i:Int)*48 - (6:Int)) else min (0:Int) ((↑a.i:Int)*48 - (6:Int))) (↑(slLen (cs_1.getD o_6 (Value.tuple #[]))):Int) else min (bif true then max (0:Int) ((↑a.i:Int)*48 - (6:Int)) else min (0:Int) ((↑a.i:Int)*48 - (6:Int))) (↑(slLen (cs_1.getD o_6 (Value.tuple #[]))):Int))/\(bif false then max (bif true then max (0:Int) ((↑a.i:Int)*48 - (6:Int)) else min (0:Int) ((↑a.i:Int)*48 - (6:Int))) (↑(slLen (cs_1.getD o_6 (Value.tuple #[]))):Int) else min (bif true then max (0:Int) ((↑a.i:Int)*48 - (6:Int)) else min (0:Int) ((↑a.i:Int)*48 - (6:Int))) (↑(slLen (cs_1.getD o_6 (Value.tuple #[]))):Int))<=(↑(slLen (cs.getD o (Value.tuple #[]))):Int)) /\
 64<=a_9.n/\∃ l c:Nat,∃ rows:Nat->Nat->Value,slAt a.H (slcut 1 (cs.getD o (Value.tuple #[])) (bif false then max (bif true then max (0:Int) ((↑a.i:Int)*48 - (6:Int)) else min (0:Int) ((↑a.i:Int)*48 - (6:Int))) (↑(slLen (cs_1.getD o_6 (Value.tuple #[]))):Int) else min (bif true then max (0:Int) ((↑a.i:Int)*48 - (6:Int)) else min (0:Int) ((↑a.i:Int)*48 - (6:Int))) (↑(slLen (cs_1.getD o_6 (Value.tuple #[]))):Int)).toNat (slLen (cs.getD o (Value.tuple #[]))) (slCap (cs.getD o (Value.tuple #[])))) [CK.int IntKind.u8] l c rows/\((0:Int)<=15/\(15:Int)<64)/\15<a_9.n/\((0:Int)<=4/\(4:Int)<=64)/\((0:Int)<=4/\(4:Int)<=64)/\∃ a_11:CrcA,(0=0/\1=1/\1=a_11.c)/\(4=a_11.r/\60=a_11.len/\60=a_11.cap)/\(a_11.n<=a_9.n/\RowsEq a_11.n 1 (updR (cpRows (putR a_9.rows a_9.r a_9.len a_9.v a_9.len) 22 (min l 42) rows) 15 0 [Value.int IntKind.u8 (uw .u8 (↑(min l 42):Int))]) a_11.rows)/\(a_11.r+a_11.len<=a_11.n/\a_11.len<100000)/\∀ b:Unit,True->∃ a_13:PutA,(0=a_13.r/\4=a_13.len/\64=a_13.cap)/\ibits Go.BinOp.xor IntKind.u32 (4294967295:Int) (crcTo (fun (i:Nat)=>u8 a_11.rows (a_11.r+i)) a_11.len)=a_13.v/\(a_13.n<=a_9.n/\RowsEq a_13.n 1 (updR (cpRows (putR a_9.rows a_9.r a_9.len a_9.v a_9.len) 22 (min l 42) rows) 15 0 [Value.int IntKind.u8 (uw .u8 (↑(min l 42):Int))]) a_13.rows)/\(a_13.r+a_13.len<=a_13.n/\a_13.len<=8)/\∀ b:Unit,True->∃ b:Unit,(0=0/\64=64 /\
 64=64)/\(64<=a_13.n/\RowsEq 64 1 (putR a_13.rows a_13.r a_13.len a_13.v a_13.len) (rowsB (secB a.g a.i a.run)))/\True/\True))/\(((↑a.i:Int) == 0)=false->∃ b o:Nat,pv a.y.b 0=pv b o/\∃ b_2 o_2:Nat,pv b o=pv b_2 o_2/\∃ b lo o:Nat,∃ cs:List Value,pv b_2 (o_2+3)=pv b (lo+o)/\a.H b=some (lo,cs)/\((∃ v:Value,cs[o]? = some v/\v.oneCell'=true)/\True)/\∃ b o_3:Nat,pv a.y.b 0=pv b o_3/\∃ b_3 o_4:Nat,pv b o_3=pv b_3 o_4/\∃ b lo o_5:Nat,∃ cs_1:List Value,pv b_3 (o_4+3)=pv b (lo+o_5)/\a.H b=some (lo,cs_1)/\((∃ v:Value,cs_1[o_5]? = some v/\v.oneCell'=true)/\True)/\(∃ a:Option Go.Addr,∃ l c:Nat,cs_1.getD o_5 (Value.tuple #[])=Value.slice a l c/\l<=lenMax)/\InR .i64 ((↑a.i:Int)*48)/\InR .i64 ((↑a.i:Int)*48 - (6:Int))/\okSl (cs.getD o (Value.tuple #[]))/\(((0:Int)<=bif false then max (bif true then max (0:Int) ((↑a.i:Int)*48 - (6:Int)) else min (0:Int) ((↑a.i:Int)*48 - (6:Int))) (↑(slLen (cs_1.getD o_5 (Value.tuple #[]))):Int) else min (bif true then max (0:Int) ((↑a.i:Int)*48 - (6:Int)) else min (0:Int) ((↑a.i:Int)*48 - (6:Int))) (↑(slLen (cs_1.getD o_5 (Value.tuple #[]))):Int))/\(bif false then max (bif true then max (0:Int) ((↑a.i:Int)*48 - (6:Int)) else min (0:Int) ((↑a.i:Int)*48 - (6:Int))) (↑(slLen (cs_1.getD o_5 (Value.tuple #[]))):Int) else min (bif true then max (0:Int) ((↑a.i:Int)*48 - (6:Int)) else min (0:Int) ((↑a.i:Int)*48 - (6:Int))) (↑(slLen (cs_1.getD o_5 (Value.tuple #[]))):Int))<=(↑(slLen (cs.getD o (Value.tuple #[]))):Int)) /\
 64<=a_5.n/\∃ l c:Nat,∃ rows:Nat->Nat->Value,slAt a.H (slcut 1 (cs.getD o (Value.tuple #[])) (bif false then max (bif true then max (0:Int) ((↑a.i:Int)*48 - (6:Int)) else min (0:Int) ((↑a.i:Int)*48 - (6:Int))) (↑(slLen (cs_1.getD o_5 (Value.tuple #[]))):Int) else min (bif true then max (0:Int) ((↑a.i:Int)*48 - (6:Int)) else min (0:Int) ((↑a.i:Int)*48 - (6:Int))) (↑(slLen (cs_1.getD o_5 (Value.tuple #[]))):Int)).toNat (slLen (cs.getD o (Value.tuple #[]))) (slCap (cs.getD o (Value.tuple #[])))) [CK.int IntKind.u8] l c rows/\((0:Int)<=15/\(15:Int)<64)/\15<a_5.n/\((0:Int)<=4/\(4:Int)<=64)/\((0:Int)<=4/\(4:Int)<=64)/\∃ a_8:CrcA,(0=0/\1=1/\1=a_8.c)/\(4=a_8.r/\60=a_8.len/\60=a_8.cap)/\(a_8.n<=a_5.n/\RowsEq a_8.n 1 (updR (cpRows (updR (putR a_5.rows a_5.r a_5.len a_5.v a_5.len) 14 0 [Value.int IntKind.u8 (uw .u8 (↑a.i:Int))]) 16 (min l 48) rows) 15 0 [Value.int IntKind.u8 (uw .u8 (↑(min l 48):Int))]) a_8.rows)/\(a_8.r+a_8.len<=a_8.n/\a_8.len<100000)/\∀ b:Unit,True->∃ a_10:PutA,(0=a_10.r/\4=a_10.len/\64=a_10.cap)/\ibits Go.BinOp.xor IntKind.u32 (4294967295:Int) (crcTo (fun (i:Nat)=>u8 a_8.rows (a_8.r+i)) a_8.len)=a_10.v/\(a_10.n<=a_5.n/\RowsEq a_10.n 1 (updR (cpRows (updR (putR a_5.rows a_5.r a_5.len a_5.v a_5.len) 14 0 [Value.int IntKind.u8 (uw .u8 (↑a.i:Int))]) 16 (min l 48) rows) 15 0 [Value.int IntKind.u8 (uw .u8 (↑(min l 48):Int))]) a_10.rows) /\
 (a_10.r+a_10.len<=a_10.n/\a_10.len<=8)/\∀ b:Unit,True->∃ b:Unit,(0=0/\64=64/\64=64)/\(64<=a_10.n/\RowsEq 64 1 (putR a_10.rows a_10.r a_10.len a_10.v a_10.len) (rowsB (secB a.g a.i a.run)))/\True/\True))) (by kernel_rfl) (by
 rintro ⟨H,y,g,i,run⟩ ⟨hs,hi,hlen⟩;dsimp only at hs hi hlen ⊢;have hc:=hs.cell;obtain ⟨r1,r2,r3⟩:=hs.rng;obtain ⟨b1,b2,b3,b4,⟨ba,bc,b5⟩,b6⟩:=hs.buf.len;obtain ⟨S,hS⟩:∃ S,S=min (startS i) g.buf.length:=⟨_,rfl⟩
 have hmm:(bif false then max (bif true then max 0 ((i:Int)*48 - 6) else min 0 ((i:Int)*48 - 6)) (g.buf.length:Int) else min (bif true then max 0 ((i:Int)*48 - 6) else min 0 ((i:Int)*48 - 6)) (g.buf.length:Int))=(S:Int):=by
  simp only [cond_true,cond_false,startS] at *;omega
 have hcut:=hs.buf.cut (a:=S) (e:=g.buf.length) (by omega) (Nat.le_refl _)
 repeat (first|refine And.intro (by omega) ?_|refine And.intro (by dsimp only;omega) ?_|refine And.intro (by simp only [InR];omega) ?_)
 refine ⟨_,_,rfl,?_⟩;refine ⟨_,_,rfl,?_⟩;refine ⟨_,0,_,_,rfl,hc,?_⟩;refine ⟨⟨⟨_,rfl,_,rfl,r1⟩,trivial⟩,fun _=>⟨⟨4,6,60,uw .u64 g.gen,64,rowsB fun _=>0⟩,?_⟩⟩
 (repeat' apply And.intro)<;>first|with_reducible (first|rfl|trivial|assumption)|omega|with_reducible (first|exact RowsEq.refl _ _ _|exact Nat.le_refl _)|(dsimp only [List.length_cons,List.length_nil]<;>omega)|rfl|exact rowsB_eq fun _ _=>rfl|skip
 intro _ _;obtain ⟨F1,hF1⟩:∃ F:Nat->Int,F=fun k=>if 4<=k/\k<4+6 then beB (uw .u64 g.gen) 6 (k - 4) else 0:=⟨_,rfl⟩
 obtain ⟨F2,hF2⟩:∃ F:Nat->Int,F=fun k=>if 10<=k/\k<10+4 then beB (uw .u64 run) 4 (k - 10) else F1 k:=⟨_,rfl⟩
 rw [show putR (rowsB fun _=>0) 4 6 (uw .u64 g.gen) 6=rowsB F1 by rw [putR_B (by omega),hF1]]
 repeat (first|refine And.intro (by omega) ?_|refine And.intro (by dsimp only;omega) ?_|refine And.intro (by simp only [InR];omega) ?_)
 refine ⟨⟨10,4,54,uw .u64 run,64,rowsB F1⟩,?_⟩
 (repeat' apply And.intro)<;>first|with_reducible (first|rfl|trivial|assumption)|omega|with_reducible (first|exact RowsEq.refl _ _ _|exact Nat.le_refl _)|(dsimp only [List.length_cons,List.length_nil]<;>omega)|rfl|skip
 intro _ _;rw [show putR (rowsB F1) 10 4 (uw .u64 run) 4=rowsB F2 by rw [putR_B (by omega),hF2]];have hi8:uw .u8 (i:Int)=i:=by simp only [uw];omega
 have hsec:∀ (F:Nat->Int),(∀ k,k<64->F k=sec0 g i run k)->∀ k,k<64->(if 0<=k/\k<0+4 then beB (ibits .xor .u32 4294967295 (crcTo (fun i_1=>u8 (rowsB (sec0 g i run)) (4+i_1)) 60)) 4 (k - 0) else sec0 g i run k)=secB g i run k:=by
  intro F hF k hk;simp only [secB,sumB,Nat.zero_add,Nat.sub_zero,Nat.zero_le,true_and];rfl
 repeat (first|refine And.intro (by omega) ?_|refine And.intro (by dsimp only;omega) ?_|refine And.intro (by simp only [InR];omega) ?_)
 rw [hi8];refine ⟨fun c1=>?_,fun c1=>?_⟩
 ·have hi0:i=0:=by simpa using c1
  subst hi0;obtain ⟨F3,hF3⟩:∃ F:Nat->Int,F=fun k=>if k=14 then 0 else F2 k:=⟨_,rfl⟩
  obtain ⟨F4,hF4⟩:∃ F:Nat->Int,F=fun k=>if 16<=k/\k<16+6 then beB (uw .u64 g.base) 6 (k - 16) else F3 k:=⟨_,rfl⟩
  repeat (first|refine And.intro (by omega) ?_|refine And.intro (by dsimp only;omega) ?_|refine And.intro (by simp only [InR];omega) ?_)
  refine ⟨_,_,rfl,?_⟩;refine ⟨_,_,rfl,?_⟩;refine ⟨_,0,_,_,rfl,hc,?_⟩;refine ⟨⟨⟨_,rfl,_,rfl,r2⟩,trivial⟩,fun _=>⟨⟨16,6,48,uw .u64 g.base,64,rowsB F3⟩,?_⟩⟩
  (repeat' apply And.intro)<;>first|with_reducible (first|rfl|trivial|assumption)|omega|with_reducible (first|exact RowsEq.refl _ _ _|exact Nat.le_refl _)|(dsimp only [List.length_cons,List.length_nil]<;>omega)|rfl|exact rowsB_eq (fun k hk=>by rw [upd1_at,hF3];simp only [rowsB];split<;>rfl)|skip
  intro _ _;rw [show putR (rowsB F3) 16 6 (uw .u64 g.base) 6=rowsB F4 by rw [putR_B (by omega),hF4]]
  repeat (first|refine And.intro (by omega) ?_|refine And.intro (by dsimp only;omega) ?_|refine And.intro (by simp only [InR];omega) ?_)
  refine ⟨_,_,rfl,?_⟩;refine ⟨_,_,rfl,?_⟩;refine ⟨_,0,_,_,rfl,hc,?_⟩;refine ⟨⟨⟨_,rfl,b6⟩,trivial⟩,?_⟩;refine ⟨_,_,rfl,?_⟩;refine ⟨_,_,rfl,?_⟩;refine ⟨_,0,_,_,rfl,hc,?_⟩;refine ⟨⟨⟨_,rfl,b6⟩,trivial⟩,⟨ba,_,bc,b5,b3⟩,?_⟩;simp only [segC,List.getD_cons_succ,List.getD_cons_zero,b1,hmm,Int.toNat_natCast]
  repeat (first|refine And.intro (by omega) ?_|refine And.intro (by dsimp only;omega) ?_|refine And.intro (by simp only [InR];omega) ?_)
  refine ⟨_,_,_,hcut,?_⟩
  repeat (first|refine And.intro (by omega) ?_|refine And.intro (by dsimp only;omega) ?_|refine And.intro (by simp only [InR];omega) ?_)
  obtain ⟨U,hU⟩:∃ U,U=usedS g.buf.length 0:=⟨_,rfl⟩
  have hU2:min (g.buf.length - S) 42=U:=by rw [hU,hS];simp only [usedS,roomS,startS,if_true];omega
  have hUs:(uw .u8 ((min (g.buf.length - S) 42:Nat):Int))=(U:Int):=by rw [hU2];simp only [uw];omega
  have hS0:S=0:=by rw [hS];simp [startS]
  have hfin:RowsEq 64 1 (updR (cpRows (rowsB F4) 22 (min (g.buf.length - S) 42) fun i=>encRows encB g.buf (S+i)) 15 0 [Value.int .u8 (uw .u8 ((min (g.buf.length - S) 42:Nat):Int))]) (rowsB (sec0 g 0 run)):=by
   rw [hUs,hU2,hS0];refine rowsB_eq fun k hk=>?_;rw [upd1_at];simp only [cpRows,rowsB,encRows,encB,List.getD_cons_zero,Nat.zero_add,hF4,hF3,hF2,hF1,sec0,<- hU,if_true]
   (repeat' split)<;>first|rfl|(exfalso;omega)|skip
  refine ⟨CrcA.mk 1 4 60 60 64 (rowsB (sec0 g 0 run)),?_⟩
  (repeat' apply And.intro)<;>first|with_reducible (first|rfl|trivial|assumption)|omega|with_reducible (first|exact RowsEq.refl _ _ _|exact Nat.le_refl _)|(dsimp only [List.length_cons,List.length_nil]<;>omega)|exact hfin|skip
  intro _ _;refine ⟨PutA.mk 0 4 64 (ibits .xor .u32 4294967295 (crcTo (fun i_1=>u8 (rowsB (sec0 g 0 run)) (4+i_1)) 60)) 64 (rowsB (sec0 g 0 run)),?_⟩
  (repeat' apply And.intro)<;>first|with_reducible (first|rfl|trivial|assumption)|omega|with_reducible (first|exact RowsEq.refl _ _ _|exact Nat.le_refl _)|(dsimp only [List.length_cons,List.length_nil]<;>omega)|exact hfin|skip
  intro _ _;refine ⟨(),?_⟩;have hlast:RowsEq 64 1 (putR (rowsB (sec0 g 0 run)) 0 4 (ibits .xor .u32 4294967295 (crcTo (fun i_1=>u8 (rowsB (sec0 g 0 run)) (4+i_1)) 60)) 4) (rowsB (secB g 0 run)):=by
   rw [putR_B (by omega)];exact rowsB_eq fun k hk=>by simp only [rowsB];rw [hsec _ (fun _ _=>rfl) k hk]
  (repeat' apply And.intro)<;>first|with_reducible (first|rfl|trivial|assumption)|omega|with_reducible (first|exact RowsEq.refl _ _ _|exact Nat.le_refl _)|(dsimp only [List.length_cons,List.length_nil]<;>omega)|exact hlast|skip
 ·have hi0:i≠0:=by simpa using c1
  repeat (first|refine And.intro (by omega) ?_|refine And.intro (by dsimp only;omega) ?_|refine And.intro (by simp only [InR];omega) ?_)
  refine ⟨_,_,rfl,?_⟩;refine ⟨_,_,rfl,?_⟩;refine ⟨_,0,_,_,rfl,hc,?_⟩;refine ⟨⟨⟨_,rfl,b6⟩,trivial⟩,?_⟩;refine ⟨_,_,rfl,?_⟩;refine ⟨_,_,rfl,?_⟩;refine ⟨_,0,_,_,rfl,hc,?_⟩;refine ⟨⟨⟨_,rfl,b6⟩,trivial⟩,⟨ba,_,bc,b5,b3⟩,?_⟩;simp only [segC,List.getD_cons_succ,List.getD_cons_zero,b1,hmm,Int.toNat_natCast]
  repeat (first|refine And.intro (by omega) ?_|refine And.intro (by dsimp only;omega) ?_|refine And.intro (by simp only [InR];omega) ?_)
  refine ⟨_,_,_,hcut,?_⟩
  repeat (first|refine And.intro (by omega) ?_|refine And.intro (by dsimp only;omega) ?_|refine And.intro (by simp only [InR];omega) ?_)
  obtain ⟨U,hU⟩:∃ U,U=usedS g.buf.length i:=⟨_,rfl⟩
  have hU2:min (g.buf.length - S) 48=U:=by rw [hU,hS];simp only [usedS,roomS,if_neg hi0];omega
  have hUs:(uw .u8 ((min (g.buf.length - S) 48:Nat):Int))=(U:Int):=by rw [hU2];simp only [uw];omega
  have hfin:RowsEq 64 1 (updR (cpRows (updR (rowsB F2) 14 0 [Value.int .u8 (i:Int)]) 16 (min (g.buf.length - S) 48) fun i=>encRows encB g.buf (S+i)) 15 0 [Value.int .u8 (uw .u8 ((min (g.buf.length - S) 48:Nat):Int))]) (rowsB (sec0 g i run)):=by
   have hSU:0<U->S=startS i:=by rw [hU,hS];simp only [usedS];omega
   rw [hUs,hU2];refine rowsB_eq fun k hk=>?_;rw [upd1_at];simp only [cpRows,rowsB,encRows,encB,List.getD_cons_zero,upd1_at,hF2,hF1,sec0,<- hU,if_neg hi0]
   (repeat' split)<;>first|rfl|(exfalso;omega)|(rw [hSU (by omega)];done)|skip
  refine ⟨CrcA.mk 1 4 60 60 64 (rowsB (sec0 g i run)),?_⟩
  (repeat' apply And.intro)<;>first|with_reducible (first|rfl|trivial|assumption)|omega|with_reducible (first|exact RowsEq.refl _ _ _|exact Nat.le_refl _)|(dsimp only [List.length_cons,List.length_nil]<;>omega)|exact hfin|skip
  intro _ _;refine ⟨PutA.mk 0 4 64 (ibits .xor .u32 4294967295 (crcTo (fun i_1=>u8 (rowsB (sec0 g i run)) (4+i_1)) 60)) 64 (rowsB (sec0 g i run)),?_⟩
  (repeat' apply And.intro)<;>first|with_reducible (first|rfl|trivial|assumption)|omega|with_reducible (first|exact RowsEq.refl _ _ _|exact Nat.le_refl _)|(dsimp only [List.length_cons,List.length_nil]<;>omega)|exact hfin|skip
  intro _ _;refine ⟨(),?_⟩;have hlast:RowsEq 64 1 (putR (rowsB (sec0 g i run)) 0 4 (ibits .xor .u32 4294967295 (crcTo (fun i_1=>u8 (rowsB (sec0 g i run)) (4+i_1)) 60)) 4) (rowsB (secB g i run)):=by
   rw [putR_B (by omega)];exact rowsB_eq fun k hk=>by simp only [rowsB];rw [hsec _ (fun _ _=>rfl) k hk]
  (repeat' apply And.intro)<;>first|with_reducible (first|rfl|trivial|assumption)|omega|with_reducible (first|exact RowsEq.refl _ _ _|exact Nat.le_refl _)|(dsimp only [List.length_cons,List.length_nil]<;>omega)|exact hlast|skip)
end Go.Proofs.YtfhkbihcfmbbcaaGreat

namespace Go.Proofs.YtfhkbihcfmbbcaaGreat
open Go.Sx
set_option maxRecDepth 100000
set_option linter.unusedVariables false
set_option linter.unusedSimpArgs false
theorem callSector:CallsBy (Y Tryz.prog).G.X 99 cSector:=fn_ok okY (tab:=[(77,cPut),(91,cCrc)]) ⟨callPut,callCrc,trivial⟩ bodySector
structure LogM where
 from_:Nat
 segs:Nat
 l:List SegM
 next:Int
 run:Int
 fresh:Bool
 deriving Inhabited
structure LogL where
 lv:Value
 ys:List SegL
def logA (t:Nat) (L:LogM) (lv:Value):List A:=[.ptr t 0 0 0,.int .i64 L.from_,.int .i64 L.segs,.val lv,.int .i64 L.next,.int .i64 L.run,.bool L.fresh]
@[reducible] def logQ (a b:LogM) (v w:Value) (p:Prop):Prop:=(↑a.from_:Int)=(↑b.from_:Int)/\(↑a.segs:Int)=(↑b.segs:Int)/\v=w/\a.next=b.next/\a.run=b.run/\a.fresh=b.fresh/\p
def logObj (t:Nat) (L:LogM) (lv:Value):Chunk:=.obj 139 (logA t L lv)
def secNo (L:LogM) (g:SegM) (i:Nat):Nat:=L.from_+(g.gen - 1).toNat % L.segs*8+i
structure WriteA where
 H:PH
 y:SegL
 g:SegM
 i:Nat
 L:LogM
 lv:Value
 d:DevM
noncomputable def cWrite:Con where
 α:=WriteA
 β:=Unit
 m:=4
 m':=4
 pre:=fun a=>SegAt a.H a.y a.g/\a.i<8/\a.g.buf.length<=378/\1<=a.g.gen/\3<=a.L.segs/\a.L.segs<=200/\a.L.from_+a.L.segs*8<=a.d.n/\a.d.n<100000/\a.d.calls<1000000000000
 args:=fun a=>[.a (.ptr 0 0 0 0),.a (.val (pv a.y.b 0)),.a (.int .i64 a.i)]
 hp:=fun a=>devHp 1 2 a.d
 ro:=fun a=>[(0,logObj 1 a.L a.lv),(3,.pool a.H)]
 post:=fun _ _=>True
 res:=fun _ _=>.a (.lit .i64 0)
 hp':=fun a _=>devHp 1 2 (devWr a.d (secNo a.L a.g a.i) 64 (secB a.g a.i a.L.run))
set_option maxHeartbeats 4000000 in
theorem bodyWrite:fnBody (Y Tryz.prog) [(99,cSector),(38,cDevWrite)] 79 cWrite fun _=>[]:=fnBody.of (p :=
 ∀ a:WriteA,SegAt a.H a.y a.g/\a.i<8/\a.g.buf.length<=378/\(1:Int)<=a.g.gen/\3<=a.L.segs/\a.L.segs<=200/\a.L.from_+a.L.segs*8<=a.d.n/\a.d.n<100000/\a.d.calls<1000000000000->∃ b o:Nat,pv a.y.b 0=pv b o/\∃ b_1 o_1:Nat,pv b o=pv b_1 o_1/\∃ b lo o:Nat,∃ cs:List Value,pv b_1 (o_1+0)=pv b (lo+o)/\a.H b=some (lo,cs)/\((∃ v:Value,cs[o]? = some v/\∃ n:Int,v=Value.int IntKind.i64 n/\InR .i64 n)/\True)/\(InR .i64 (toI (cs.getD o (Value.tuple #[])))->InR .i64 (toI (cs.getD o (Value.tuple #[])) - (1:Int))/\(InR .i64 (↑a.L.segs:Int)->(↑a.L.segs:Int)≠(0:Int)/\(InR .i64 (↑a.L.from_:Int)->InR .i64 ((toI (cs.getD o (Value.tuple #[])) - (1:Int)).tmod (↑a.L.segs:Int)*8)/\InR .i64 ((↑a.L.from_:Int)+(toI (cs.getD o (Value.tuple #[])) - (1:Int)).tmod (↑a.L.segs:Int)*8)/\InR .i64 ((↑a.L.from_:Int)+(toI (cs.getD o (Value.tuple #[])) - (1:Int)).tmod (↑a.L.segs:Int)*8+(↑a.i:Int))/\(InR .i64 a.L.run->∃ a_6:SecA,pv a.y.b 0=pv a_6.y.b 0/\(↑a.i:Int)=(↑a_6.i:Int)/\a.L.run=a_6.run/\a.H=a_6.H/\(SegAt a_6.H a_6.y a_6.g/\a_6.i<8/\a_6.g.buf.length<=378)/\∀ b:Unit,True->∃ a_8:WrA,0=0/\(↑a.L.from_:Int)+(toI (cs.getD o (Value.tuple #[])) - (1:Int)).tmod (↑a.L.segs:Int)*8+(↑a.i:Int)=(↑a_8.i:Int)/\(0=a_8.r/\64=a_8.len/\64=a_8.cap)/\devQ a.d a_8.d ((a_8.n<=64/\RowsEq a_8.n 1 (rowsB (secB a_6.g a_6.i a_6.run)) (rowsB a_8.src))/\(a_8.i<a_8.d.n /\
 a_8.d.n<100000/\a_8.len<=64/\a_8.r+a_8.len<=a_8.n/\a_8.d.calls<1000000000000)/\∀ b:Unit,True->∃ b:Unit,(0:Int)=0/\devQ (devWr a_8.d a_8.i a_8.len fun (j:Nat)=>a_8.src (a_8.r+j)) (devWr a.d (secNo a.L a.g a.i) 64 (secB a.g a.i a.L.run)) (True/\True))))))) (by kernel_rfl) (by
 rintro ⟨H,y,g,i,L,lv,d⟩ ⟨hs,hi,hlen,hg,s1,s2,h3,h4,h5⟩;dsimp only at *;have hc:=hs.cell;obtain ⟨r1,r2,r3⟩:=hs.rng;have hm:(g.gen - 1).tmod (L.segs:Int)=(((g.gen - 1).toNat % L.segs:Nat):Int):=by
  rw [Int.tmod_eq_emod_of_nonneg (by omega),Int.natCast_emod];congr 1;omega
 have hml:(g.gen - 1).toNat % L.segs<L.segs:=Nat.mod_lt _ (by omega);have hsn:((L.from_:Int)+(((g.gen - 1).toNat % L.segs:Nat):Int)*8+i)=(secNo L g i:Nat):=by simp only [secNo];omega
 have hlt:secNo L g i<d.n:=by simp only [secNo];omega
 refine ⟨_,_,rfl,?_⟩;refine ⟨_,_,rfl,?_⟩;refine ⟨_,0,_,_,rfl,hc,?_⟩;refine ⟨⟨⟨_,rfl,_,rfl,r1⟩,trivial⟩,fun _=>?_⟩;simp only [segC,List.getD_cons_zero,toI,hm];refine ⟨by simp only [InR] at *;omega,fun _=>⟨by omega,fun _=>⟨by simp only [InR];omega,by simp only [InR];omega,by simp only [InR];omega,fun _=>?_⟩⟩⟩;rw [hsn];refine ⟨SecA.mk H y g i L.run,?_⟩
 (repeat' apply And.intro)<;>first|with_reducible (first|rfl|trivial|assumption)|omega|with_reducible (first|exact RowsEq.refl _ _ _|exact Nat.le_refl _)|(dsimp only [List.length_cons,List.length_nil]<;>omega)|skip
 intro _ _;refine ⟨WrA.mk d (secNo L g i) 0 64 64 64 (secB g i L.run),?_⟩;simp only [Nat.zero_add]
 (repeat' (first|apply And.intro|(intro _)|apply Exists.intro ()))<;>first|with_reducible (first|rfl|trivial|assumption)|omega|with_reducible (first|exact RowsEq.refl _ _ _|exact Nat.le_refl _)|(dsimp only [List.length_cons,List.length_nil]<;>omega)|skip)
theorem callWrite:CallsBy (Y Tryz.prog).G.X 79 cWrite:=fn_ok okY (tab:=[(99,cSector),(38,cDevWrite)]) ⟨callSector,callDevWrite,trivial⟩ bodyWrite
instance:Inhabited SegL:=⟨⟨0,undef,undef,[]⟩⟩
def ptrR (ys:List SegL):Nat->Nat->Value:=fun i _=>pv (gl ys i).b 0
structure LogAt (H:PH) (y:LogL) (L:LogM):Prop where
 lst:∃ c,slAt H y.lv [.deep] L.l.length c (ptrR y.ys)
 len:y.ys.length=L.l.length
 seg:∀ i,i<L.l.length->SegAt H (gl y.ys i) (gl L.l i)
 nd:(fpV y.lv++y.ys.flatMap fpSeg).Nodup
def fpLog (y:LogL):List Nat:=fpV y.lv++y.ys.flatMap fpSeg
theorem LogAt.at_ {H:PH} {y:LogL} {L:LogM} (h:LogAt H y L) {i:Nat} (hi:i<L.l.length):∃ b lo o c cs,y.lv=slv b (lo+o) L.l.length c/\H b=some (lo,cs)/\cs[o+i*1]? = some (pv (gl y.ys i).b 0)/\cs.getD (o+i*1) (Value.tuple #[])=pv (gl y.ys i).b 0:=by
 obtain ⟨c,h⟩:=h.lst;rcases h with ⟨_,h0,_⟩ | ⟨b,lo,o,cs,h1,h2,h3,h4,h5⟩
 ·omega
 ·have:=(h5.at_ i hi 0 .deep rfl).1;exact ⟨b,lo,o,c,cs,h1,h3,this,by rw [List.getD_eq_getElem?_getD,show cs[o+i*1]? = some (pv (gl y.ys i).b 0) from this];rfl⟩
theorem LogAt.lv_len {H:PH} {y:LogL} {L:LogM} (h:LogAt H y L):slLen y.lv=L.l.length/\okSl y.lv/\(∃ a c,y.lv = .slice a L.l.length c)/\L.l.length<=lenMax/\y.lv.oneCell'=true:=by
 obtain ⟨c,h⟩:=h.lst;obtain ⟨h1,h2,h3,h4,h5,⟨a,h6⟩,h7⟩:=slAt_len h;exact ⟨h1,h5,⟨a,c,h6⟩,by omega,h7⟩
def newSeg (L:LogM):SegM:=⟨(match L.l.getLast? with|some g=>g.gen+1|none=>1),L.next,0,[],[]⟩
theorem pminusV_ne {H:PH} {v:Value} {x:Nat} (h:x∉fpV v):pminusV H v x=H x:=by
 unfold pminusV;split
 ·rename_i b o p l c;exact pminus_ne (fun e=>h (by simp [fpV,e]))
 ·rfl
theorem fpSeg_mem {ys:List SegL} {i x:Nat} (hi:i<ys.length) (hx:x∈fpSeg (gl ys i)):x∈ys.flatMap fpSeg:=by
 rw [gl_eq hi] at hx;exact List.mem_flatMap.2 ⟨_,List.getElem_mem _,hx⟩
theorem fpSeg_ex {ys:List SegL} {x:Nat} (hx:x∈ys.flatMap fpSeg):∃ i,i<ys.length/\x∈fpSeg (gl ys i):=by
 obtain ⟨y,hy,hx⟩:=List.mem_flatMap.1 hx;obtain ⟨i,hi,rfl⟩:=List.getElem_of_mem hy;exact ⟨i,hi,by rw [gl_eq hi];exact hx⟩
theorem LogAt.dom {H:PH} {y:LogL} {L:LogM} (h:LogAt H y L):∀ x∈fpLog y,H x≠none:=by
 intro x hx;rcases List.mem_append.1 hx with hx|hx
 ·obtain ⟨c,hl⟩:=h.lst;exact slAt_dom hl x hx
 ·obtain ⟨i,hi,hx⟩:=fpSeg_ex hx;exact (h.seg i (by rw [<- h.len];exact hi)).dom x hx
theorem LogAt.frame {H H':PH} {y:LogL} {L:LogM} (h:LogAt H y L) (e:∀ x∈fpLog y,H' x=H x):LogAt H' y L:=by
 obtain ⟨c,hl⟩:=h.lst;refine ⟨⟨c,slAt_frame hl fun x hx=>e x (List.mem_append_left _ hx)⟩,h.len,fun i hi=>(h.seg i hi).frame fun x hx=>e x (List.mem_append_right _ (fpSeg_mem (by rw [h.len];exact hi) hx)),h.nd⟩
theorem gl_app {α:Type} [Inhabited α] {l:List α} {x:α} {i:Nat} (h:i<l.length+1):gl (l++[x]) i=if i<l.length then gl l i else x:=by
 by_cases hi:i<l.length
 ·rw [if_pos hi,gl_append_left hi]
 ·rw [if_neg hi,show i=l.length+0 by omega,gl_append_right];rfl
def newL (b:Nat):SegL:=⟨b,.slice none 0 0,.slice none 0 0,[]⟩
theorem newSeg_at {H:PH} {b:Nat} {L:LogM} (h1:InR .i64 L.next) (h2:InR .i64 (newSeg L).gen):SegAt (pupd H b 0 (segC (newSeg L) (.slice none 0 0) (.slice none 0 0))) (newL b) (newSeg L) :=
 ⟨pupd_self ..,⟨h2,h1,by show InR .i64 0;simp only [InR];omega⟩,⟨0,.inl ⟨rfl,rfl,rfl⟩⟩,⟨0,.inl ⟨rfl,rfl,rfl⟩⟩,rfl,fun i hi=>absurd hi (Nat.not_lt_zero i)⟩
end Go.Proofs.YtfhkbihcfmbbcaaGreat

namespace Go.Proofs.YtfhkbihcfmbbcaaGreat
open Go.Sx
set_option maxRecDepth 100000
set_option linter.unusedVariables false
set_option linter.unusedSimpArgs false
structure SegNd (H:PH) (y:SegL) (g:SegM):Prop where
 at_:SegAt H y g
 nd:(fpSeg y).Nodup
theorem push_at {H:PH} {y:LogL} {L:LogM} {sl:SegL} {g:SegM} {b' lo cap:Nat} {cs:List Value} {R:Nat->Nat->Value} (hl:LogAt H y L) (hs:SegNd H sl g) (hd:∀ x∈fpLog y,x∉fpSeg sl)
 (hb':pminusV H y.lv b'=none) (hcs:cs.length=cap*1) (hc:L.l.length+1<=cap) (hc2:cap<=lenMax) (hp:PRows cs 0 [.deep] (L.l.length+1) R)
 (hR:∀ i,i<L.l.length+1->R i 0=ptrR (y.ys++[sl]) i 0) {L':LogM} (hL':L'.l=L.l++[g]) :
 LogAt (pupd (pminusV H y.lv) b' lo cs) ⟨slv b' lo (L.l.length+1) cap,y.ys++[sl]⟩ L' /\
 ∀ x,H x≠none->x∉fpLog y->x∉fpSeg sl->pupd (pminusV H y.lv) b' lo cs x=H x/\x∉fpLog ⟨slv b' lo (L.l.length+1) cap,y.ys++[sl]⟩:=by
 have hdm:=hl.dom;have hds:=hs.at_.dom;have hnd:=hl.nd;rw [List.nodup_append] at hnd;obtain ⟨n1,n2,n3⟩:=hnd;have hFl:∀ x∈y.ys.flatMap fpSeg,x∉fpV y.lv:=fun x hx e=>n3 x e x hx rfl;have hSl:∀ x∈fpSeg sl,x∉fpV y.lv:=fun x hx e=>hd x (List.mem_append_left _ e) hx;have hSF:∀ x∈fpSeg sl,x∉y.ys.flatMap fpSeg:=fun x hx e=>hd x (List.mem_append_right _ e) hx;have hm:∀ x,x∉fpV y.lv->pminusV H y.lv x=H x:=fun x hx=>pminusV_ne hx;have hbF:b'∉y.ys.flatMap fpSeg:=fun e=>by
  have:=hdm b' (List.mem_append_right _ e);rw [hm b' (hFl b' e)] at hb';exact this hb'
 have hbS:b'∉fpSeg sl:=fun e=>by
  have:=hds b' e;rw [hm b' (hSl b' e)] at hb';exact this hb'
 have hfp:fpLog ⟨slv b' lo (L.l.length+1) cap,y.ys++[sl]⟩=b'::(y.ys.flatMap fpSeg++fpSeg sl):=by
  simp [fpLog,fpV,slv]
 have hlen:L'.l.length=L.l.length+1:=by rw [hL'];simp
 refine ⟨⟨⟨cap,.inr ⟨b',lo,0,cs,?_,⟨?_,hc2⟩,pupd_self ..,by simp [hcs],?_⟩⟩,?_,?_,?_⟩,?_⟩
 ·rw [hlen];simp only [Nat.add_zero]
 ·rw [hlen];exact hc
 ·rw [hlen];refine ⟨fun i hi j k hj=>?_⟩;have:=hp.at_ i hi j k hj;have hj0:j=0:=by have:=(List.getElem?_eq_some_iff.1 hj).1;simpa using this
  subst hj0;rw [hR i hi] at this;exact this
 ·rw [hlen];simp [hl.len]
 ·intro i hi;rw [hlen] at hi;rw [hL',gl_app hi];show SegAt _ (gl (y.ys++[sl]) i) _;rw [gl_app (by rw [hl.len];exact hi),hl.len];by_cases hin:i<L.l.length
  ·rw [if_pos hin,if_pos hin];refine (hl.seg i hin).frame fun x hx=>?_;have hxF:=fpSeg_mem (by rw [hl.len];exact hin) hx;rw [pupd_ne (fun e=>hbF (by rw [<- e];exact hxF)),hm x (hFl x hxF)]
  ·rw [if_neg hin,if_neg hin];refine hs.at_.frame fun x hx=>?_;rw [pupd_ne (fun e=>hbS (by rw [<- e];exact hx)),hm x (hSl x hx)]
 ·show (fpLog ⟨slv b' lo (L.l.length+1) cap,y.ys++[sl]⟩).Nodup;rw [hfp,List.nodup_cons,List.nodup_append];refine ⟨?_,n2,hs.nd,?_⟩
  ·simp only [List.mem_append,not_or];exact ⟨hbF,hbS⟩
  ·intro x hx z hz e;subst e;exact hSF x hz hx
 ·intro x hx hxn hxs;have hxl:x∉fpV y.lv:=fun e=>hxn (List.mem_append_left _ e);have hxF:x∉y.ys.flatMap fpSeg:=fun e=>hxn (List.mem_append_right _ e);have hxb':x≠b':=fun e=>by
   rw [<- e,hm x hxl] at hb';exact hx hb'
  refine ⟨by rw [pupd_ne hxb',hm x hxl],?_⟩;rw [hfp];simp only [List.mem_cons,List.mem_append,not_or];exact ⟨hxb',hxF,hxs⟩
theorem LogAt.congr {H:PH} {y:LogL} {L L':LogM} (h:LogAt H y L) (e:L'.l=L.l):LogAt H y L':=⟨by rw [e];exact h.lst,by rw [e];exact h.len,by rw [e];exact h.seg,h.nd⟩
structure BegB where
 H:PH
 y:LogL
def keepG (t s:Int) (g:SegM):Bool:=decide (t - s<g.gen)
structure DelA where
 H:PH
 y:LogL
 L:LogM
 gb:Nat
 t:Int
structure DelPre (a:DelA):Prop where
 log:LogAt a.H a.y a.L
 few:a.L.l.length<1000
 segs:a.L.segs<=200
 t:InR .i64 a.t/\0<=a.t
 cell:∃ r,a.H a.gb=some (0,.int .i64 a.t::r)
 far:a.gb∉fpLog a.y
noncomputable def cIdxV:Con where
 α:=DelA
 β:=Int
 m:=5
 m':=5
 pre:=fun a=>DelPre a
 args:=fun a=>[.a (.val a.y.lv),.clo 98 [.ptr 0 0 0 0,.ptr 1 0 0 0]]
 hp:=fun _=>[]
 ro:=fun a=>[(0,.obj 148 [.val (pv a.gb 0)]),(1,.obj 93 [.ptr 2 0 0 0]),(2,logObj 4 a.L a.y.lv),(3,.pool a.H)]
 post:=fun a r=>(r = -1/\∀ i,i<a.L.l.length->keepG a.t a.L.segs (gl a.L.l i)=true)\/∃ i:Nat,r=i/\i<a.L.l.length/\keepG a.t a.L.segs (gl a.L.l i)=false/\∀ j,j<i->keepG a.t a.L.segs (gl a.L.l j)=true
 res:=fun _ r=>.a (.int .i64 r)
 hp':=fun _ _=>[]
def iIdxV (a:DelA):An:=.flat 2 Nat (fun s k=>s.int 8 k) (fun _ k=>k<=a.L.l.length/\∀ j,j<k->keepG a.t a.L.segs (gl a.L.l j)=true) (fun _ k=>a.L.l.length - k)
set_option maxHeartbeats 4000000 in
theorem bodyIdxV:fnBody (Y Tryz.prog) [] 109 cIdxV fun a=>[(109,[iIdxV a],[])]:=fnBody.of (p :=
 ∀ a:DelA,DelPre a->(∃ a_2:Option Go.Addr,∃ l c:Nat,a.y.lv=Value.slice a_2 l c/\l<=lenMax)/\(∃ a_2:Nat,0=(↑a_2:Int)/\(↑(slLen a.y.lv):Int)=(↑(slLen a.y.lv):Int)/\(0:Int)=0/\a.y.lv=a.y.lv/\0=0/\0=0/\pv a.gb 0=pv a.gb 0/\0=0/\0=0/\logQ a.L a.L a.y.lv a.y.lv (a.H=a.H/\(a_2<=a.L.l.length/\∀ j:Nat,j<a_2->keepG a.t (↑a.L.segs:Int) (gl a.L.l j)=true)/\True))/\∀ a_2:Nat,(a_2<=a.L.l.length/\∀ j:Nat,j<a_2->keepG a.t (↑a.L.segs:Int) (gl a.L.l j)=true)->(decide ((↑a_2:Int)<(↑(slLen a.y.lv):Int))=true->∃ b o:Nat,∃ l c:Nat,a.y.lv=slv b o l c/\(0<=(↑a_2:Int)/\(↑a_2:Int)<(↑l:Int))/\∃ b_1 lo o_1:Nat,∃ cs:List Value,pv b (o+(↑a_2:Int).toNat*1)=pv b_1 (lo+o_1)/\a.H b_1=some (lo,cs)/\((∃ v:Value,cs[o_1]? = some v/\v.oneCell'=true)/\True)/\∃ b o:Nat,cs.getD o_1 (Value.tuple #[])=pv b o/\∃ b_2 o_2:Nat,pv b o=pv b_2 o_2/\∃ b lo o:Nat,∃ cs:List Value,pv b_2 (o_2+0)=pv b (lo+o)/\a.H b=some (lo,cs)/\((∃ v:Value,cs[o]? = some v/\∃ n:Int,v=Value.int IntKind.i64 n/\InR .i64 n)/\True)/\(InR .i64 (toI (cs.getD o (Value.tuple #[])))->∃ b o_3:Nat,pv a.gb 0=pv b o_3/\∃ b_3 o_4:Nat,pv b o_3=pv b_3 o_4/\∃ b lo o_5:Nat,∃ cs_1:List Value,pv b_3 (o_4+0)=pv b (lo+o_5)/\a.H b=some (lo,cs_1)/\((∃ v:Value,cs_1[o_5]? = some v/\∃ n:Int,v=Value.int IntKind.i64 n/\InR .i64 n)/\True)/\(InR .i64 (toI (cs_1.getD o_5 (Value.tuple #[]))) ->
 InR .i64 (↑a.L.segs:Int)->InR .i64 (toI (cs_1.getD o_5 (Value.tuple #[])) - (↑a.L.segs:Int))/\(decide (toI (cs.getD o (Value.tuple #[]))<=toI (cs_1.getD o_5 (Value.tuple #[])) - (↑a.L.segs:Int))=true->∃ b:Int,(↑a_2:Int)=b/\((b=(-1:Int)/\∀ i:Nat,i<a.L.l.length->keepG a.t (↑a.L.segs:Int) (gl a.L.l i)=true)\/∃ i:Nat,b=(↑i:Int)/\i<a.L.l.length/\keepG a.t (↑a.L.segs:Int) (gl a.L.l i)=false/\∀ j:Nat,j<i->keepG a.t (↑a.L.segs:Int) (gl a.L.l j)=true)/\True)/\(decide (toI (cs.getD o (Value.tuple #[]))<=toI (cs_1.getD o_5 (Value.tuple #[])) - (↑a.L.segs:Int))=false->InR .i64 ((↑a_2:Int)+1)/\∃ (a':Nat),(↑a_2:Int)+1=(↑a':Int)/\(↑(slLen a.y.lv):Int)=(↑(slLen a.y.lv):Int)/\(0:Int)=0/\a.y.lv=a.y.lv/\0=0/\0=0/\pv a.gb 0=pv a.gb 0/\0=0/\0=0/\logQ a.L a.L a.y.lv a.y.lv (a.H=a.H/\(a'<=a.L.l.length/\∀ j:Nat,j<a'->keepG a.t (↑a.L.segs:Int) (gl a.L.l j)=true)/\a.L.l.length - a'<a.L.l.length - a_2)))))/\(decide ((↑a_2:Int)<(↑(slLen a.y.lv):Int))=false->∃ b:Int,(-1:Int)=b/\((b=(-1:Int)/\∀ i:Nat,i<a.L.l.length->keepG a.t (↑a.L.segs:Int) (gl a.L.l i)=true)\/∃ i:Nat,b=(↑i:Int)/\i<a.L.l.length/\keepG a.t (↑a.L.segs:Int) (gl a.L.l i)=false/\∀ j:Nat,j<i->keepG a.t (↑a.L.segs:Int) (gl a.L.l j)=true)/\True)) (by kernel_rfl) (by
 rintro ⟨H,y,L,gb,T⟩ ⟨hl,h1,h2,⟨h3,h4⟩,⟨gr,hgb⟩,h5⟩;dsimp only at *;obtain ⟨e1,_,⟨ea,ec,e2⟩,e3,_⟩:=hl.lv_len;refine ⟨⟨ea,_,ec,e2,e3⟩,⟨0,?_⟩,fun k hk=>⟨fun c1=>?_,fun c1=>⟨-1,?_⟩⟩⟩
 ·(repeat' (first|apply And.intro|(intro _)))<;>first|with_reducible (first|rfl|trivial|assumption)|omega|with_reducible (first|exact RowsEq.refl _ _ _|exact Nat.le_refl _)|(dsimp only [List.length_cons,List.length_nil]<;>omega)|(exfalso;omega)
 ·obtain ⟨hk0,hkk⟩:=hk;rw [e1] at c1;have hk:k<L.l.length:=by simpa using c1
  obtain ⟨b,lo,o,c,cs,g1,g2,g3,g4⟩:=hl.at_ hk;have hs:=hl.seg k hk;obtain ⟨r1,_,_⟩:=hs.rng;refine ⟨_,_,_,_,g1,by omega,b,lo,o+k*1,cs,by rw [Int.toNat_natCast,Nat.add_assoc],g2,⟨⟨_,g3,rfl⟩,trivial⟩,?_⟩;refine ⟨_,_,g4,?_⟩;refine ⟨_,_,rfl,?_⟩;refine ⟨_,0,_,_,rfl,hs.cell,?_⟩;refine ⟨⟨⟨_,rfl,_,rfl,r1⟩,trivial⟩,fun _=>?_⟩;refine ⟨_,_,rfl,?_⟩;refine ⟨_,_,rfl,?_⟩;refine ⟨_,0,_,_,rfl,hgb,?_⟩;refine ⟨⟨⟨_,rfl,_,rfl,h3⟩,trivial⟩,fun _ _=>?_⟩;simp only [segC,List.getD_cons_zero,toI,InR] at h3 ⊢;refine ⟨by omega,fun c2=>⟨k,?_⟩,fun c2=>⟨by omega,k+1,?_⟩⟩
  ·have c2:=of_decide_eq_true c2;refine ⟨rfl,.inr ⟨k,rfl,hk,?_,hkk⟩,trivial⟩;simp only [keepG,decide_eq_false_iff_not];omega
  ·have c2:=of_decide_eq_false c2;have hn:∀ j,j<k+1->keepG T L.segs (gl L.l j)=true:=fun j hj=>by
    by_cases e:j=k
    ·subst e;simp only [keepG,decide_eq_true_eq];omega
    ·exact hkk j (by omega)
   (repeat' apply And.intro)<;>first|with_reducible (first|rfl|trivial|assumption)|omega|with_reducible (first|exact RowsEq.refl _ _ _|exact Nat.le_refl _)|(dsimp only [List.length_cons,List.length_nil]<;>omega)|exact hn
 ·obtain ⟨hk0,hkk⟩:=hk;have hk:k=L.l.length:=by rw [e1] at c1;have:=of_decide_eq_false c1;omega
  subst hk;exact ⟨rfl,.inl ⟨rfl,hkk⟩,trivial⟩)
theorem callIdxV:CallsBy (Y Tryz.prog).G.X 109 cIdxV:=fn_ok okY (tab:=[]) trivial bodyIdxV
def stay (t s:Int) (l:List SegM) (j:Nat):List Nat:=(List.range j).filter fun i=>keepG t s (gl l i)
theorem gl_map {α β:Type} [Inhabited α] [Inhabited β] {l:List α} {f:α->β} {i:Nat} (h:i<l.length):gl (l.map f) i=f (gl l i):=by
 rw [gl_eq (by simpa using h),gl_eq h,List.getElem_map]
theorem map_gl {α:Type} [Inhabited α] (l:List α):(List.range l.length).map (gl l)=l:=by
 refine List.ext_getElem (by simp) fun i h1 h2=>?_;rw [List.getElem_map,List.getElem_range,gl_eq h2]
theorem stay_map (t s:Int) (l:List SegM):(stay t s l l.length).map (gl l)=l.filter (keepG t s):=by
 have:l.filter (keepG t s)=((List.range l.length).map (gl l)).filter (keepG t s):=by rw [map_gl]
 rw [this,List.filter_map];rfl
theorem stay_succ (t s:Int) (l:List SegM) (j:Nat):stay t s l (j+1)=stay t s l j++if keepG t s (gl l j) then [j] else []:=by
 unfold stay;rw [List.range_succ,List.filter_append];congr 1;cases h:keepG t s (gl l j)<;>simp [h]
theorem stay_lt {t s:Int} {l:List SegM} {j i:Nat} (h:i<(stay t s l j).length):gl (stay t s l j) i<j:=by
 have:gl (stay t s l j) i∈stay t s l j:=by rw [gl_eq h];exact List.getElem_mem _
 exact List.mem_range.1 (List.mem_filter.1 this).1
theorem sublist_flatMap {α β:Type} {f:α->List β} {l m:List α} (h:l.Sublist m):(l.flatMap f).Sublist (m.flatMap f):=by
 induction h with
 | slnil=>exact List.Sublist.refl _
 | cons a _ ih=>exact ih.trans (by rw [List.flatMap_cons];exact List.sublist_append_right _ _)
 | cons_cons a _ ih=>rw [List.flatMap_cons,List.flatMap_cons];exact (List.Sublist.refl _).append ih
def delL (t:Int) (L:LogM):LogM:={ L with l:=L.l.filter (keepG t L.segs) }
structure DelS where
 j:Nat
 rows:Nat->Nat->Value
noncomputable def cDelF:Con where
 α:=DelA
 β:=BegB
 m:=5
 m':=6
 pre:=fun a=>DelPre a
 args:=fun a=>[.a (.val a.y.lv),.clo 98 [.ptr 0 0 0 0,.ptr 1 0 0 0]]
 hp:=fun a=>[(3,.pool a.H)]
 ro:=fun a=>[(0,.obj 148 [.val (pv a.gb 0)]),(1,.obj 93 [.ptr 2 0 0 0]),(2,logObj 4 a.L a.y.lv)]
 post:=fun a b=>LogAt b.H b.y (delL a.t a.L)/\∀ x,a.H x≠none->x∉fpLog a.y->b.H x=a.H x/\x∉fpLog b.y
 res:=fun _ b=>.a (.val b.y.lv)
 hp':=fun _ b=>[(5,.pool b.H)]
structure DelI (a:DelA) (x:DelS):Prop where
 le:x.j<=a.L.l.length
 lt:(stay a.t a.L.segs a.L.l x.j).length<x.j
 one:∀ i,i<a.L.l.length->(x.rows i 0).oneCell'=true
 low:∀ i,i<(stay a.t a.L.segs a.L.l x.j).length->x.rows i 0=pv (gl a.y.ys (gl (stay a.t a.L.segs a.L.l x.j) i)).b 0
 high:∀ i,x.j<=i->i<a.L.l.length->x.rows i 0=ptrR a.y.ys i 0
def iDelF (a:DelA):An:=.flat 5 DelS (fun s x=>((s.at_ (s.tg 0) (.arr 148 [.deep] a.L.l.length x.rows)).int 5 (stay a.t a.L.segs a.L.l x.j).length).int 6 x.j) (fun _ x=>DelI a x) (fun _ x=>a.L.l.length - x.j)
def vDelF (a:DelA):An:=.openSlot 4 0 148 [.deep] (.mk 1000 [iDelF a] [An.absSlot 0 4 (.mk 1000 [] [])])
set_option maxHeartbeats 4000000 in
theorem bodyDelF:fnBody (Y Tryz.prog) [(109,cIdxV)] 97 cDelF fun a=>[(97,[],[vDelF a])]:=fnBody.of (p :=
 ∀ a:DelA,DelPre a->∃ a_2:DelA,a.y.lv=a_2.y.lv/\0=0/\0=0/\pv a.gb 0=pv a_2.gb 0/\0=0/\0=0/\logQ a.L a_2.L a.y.lv a_2.y.lv (a.H=a_2.H/\DelPre a_2/\∀ b:Int,((b=(-1:Int)/\∀ i:Nat,i<a_2.L.l.length->keepG a_2.t (↑a_2.L.segs:Int) (gl a_2.L.l i)=true)\/∃ i:Nat,b=(↑i:Int)/\i<a_2.L.l.length/\keepG a_2.t (↑a_2.L.segs:Int) (gl a_2.L.l i)=false/\∀ j:Nat,j<i->keepG a_2.t (↑a_2.L.segs:Int) (gl a_2.L.l j)=true)->((b == (-1:Int))=true->∃ b:BegB,a.y.lv=b.y.lv/\a.H=b.H/\(LogAt b.H b.y (delL a.t a.L)/\∀ x:Nat,a.H x≠none->¬x∈fpLog a.y->b.H x=a.H x/\¬x∈fpLog b.y)/\True)/\((b == (-1:Int))=false->∃ l c:Nat,∃ rows:Nat->Nat->Value,slAt a.H a.y.lv [CK.deep] l c rows/\InR .i64 (b+(1:Int))/\(∃ a_5:DelS,b+1=(↑a_5.j:Int)/\b=(↑(stay a.t (↑a.L.segs:Int) a.L.l a_5.j).length:Int)/\(0=0/\l=l/\c=c)/\(b == (-1:Int))=(b == (-1:Int))/\0=0/\0=0/\(a.L.l.length<=l/\RowsEq a.L.l.length 1 rows a_5.rows)/\pminusV a.H a.y.lv=pminusV a.H a.y.lv/\pv a.gb 0=pv a.gb 0/\0=0/\0=0/\logQ a.L a.L a.y.lv a.y.lv (DelI a a_5/\True))/\∀ a_5:DelS,DelI a a_5->(decide ((↑a_5.j:Int)<(↑l:Int))=true->(0<=(↑a_5.j:Int)/\(↑a_5.j:Int)<(↑l:Int))/\0+(↑a_5.j:Int).toNat<a.L.l.length/\∃ b_1 o:Nat,a_5.rows (0+(↑a_5.j:Int).toNat) 0=pv b_1 o/\∃ b_2 o_1:Nat,pv b_1 o=pv b_2 o_1/\∃ b_3 lo o:Nat,∃ cs:List Value,pv b_2 (o_1+0)=pv b_3 (lo+o) /\
 pminusV a.H a.y.lv b_3=some (lo,cs)/\((∃ v:Value,cs[o]? = some v/\∃ n:Int,v=Value.int IntKind.i64 n/\InR .i64 n)/\True)/\(InR .i64 (toI (cs.getD o (Value.tuple #[])))->∃ b_4 o_2:Nat,pv a.gb 0=pv b_4 o_2/\∃ b_5 o_3:Nat,pv b_4 o_2=pv b_5 o_3/\∃ b_6 lo o_4:Nat,∃ cs_1:List Value,pv b_5 (o_3+0)=pv b_6 (lo+o_4)/\pminusV a.H a.y.lv b_6=some (lo,cs_1)/\((∃ v:Value,cs_1[o_4]? = some v/\∃ n:Int,v=Value.int IntKind.i64 n/\InR .i64 n)/\True)/\(InR .i64 (toI (cs_1.getD o_4 (Value.tuple #[])))->InR .i64 (↑a.L.segs:Int)->InR .i64 (toI (cs_1.getD o_4 (Value.tuple #[])) - (↑a.L.segs:Int))/\((!decide (toI (cs.getD o (Value.tuple #[]))<=toI (cs_1.getD o_4 (Value.tuple #[])) - (↑a.L.segs:Int)))=true->(0<=(↑(stay a.t (↑a.L.segs:Int) a.L.l a_5.j).length:Int)/\(↑(stay a.t (↑a.L.segs:Int) a.L.l a_5.j).length:Int)<(↑l:Int))/\0+(↑(stay a.t (↑a.L.segs:Int) a.L.l a_5.j).length:Int).toNat<a.L.l.length/\InR .i64 ((↑(stay a.t (↑a.L.segs:Int) a.L.l a_5.j).length:Int)+1)/\InR .i64 ((↑a_5.j:Int)+1)/\∃ (a':DelS),(↑a_5.j:Int)+1=(↑a'.j:Int)/\(↑(stay a.t (↑a.L.segs:Int) a.L.l a_5.j).length:Int)+1=(↑(stay a.t (↑a.L.segs:Int) a.L.l a'.j).length:Int)/\(0=0/\l=l/\c=c)/\(b == (-1:Int))=(b == (-1:Int))/\0=0/\0=0/\(a.L.l.length<=a.L.l.length/\RowsEq a.L.l.length 1 (updR a_5.rows (0+(↑(stay a.t (↑a.L.segs:Int) a.L.l a_5.j).length:Int).toNat) 0 [a_5.rows (0+(↑a_5.j:Int).toNat) 0]) a'.rows) /\
 pminusV a.H a.y.lv=pminusV a.H a.y.lv/\pv a.gb 0=pv a.gb 0/\0=0/\0=0/\logQ a.L a.L a.y.lv a.y.lv (DelI a a'/\a.L.l.length - a'.j<a.L.l.length - a_5.j))/\((!decide (toI (cs.getD o (Value.tuple #[]))<=toI (cs_1.getD o_4 (Value.tuple #[])) - (↑a.L.segs:Int)))=false->InR .i64 ((↑a_5.j:Int)+1)/\∃ (a':DelS),(↑a_5.j:Int)+1=(↑a'.j:Int)/\(↑(stay a.t (↑a.L.segs:Int) a.L.l a_5.j).length:Int)=(↑(stay a.t (↑a.L.segs:Int) a.L.l a'.j).length:Int)/\(0=0/\l=l/\c=c)/\(b == (-1:Int))=(b == (-1:Int))/\0=0/\0=0/\(a.L.l.length<=a.L.l.length/\RowsEq a.L.l.length 1 a_5.rows a'.rows)/\pminusV a.H a.y.lv=pminusV a.H a.y.lv/\pv a.gb 0=pv a.gb 0/\0=0/\0=0/\logQ a.L a.L a.y.lv a.y.lv (DelI a a'/\a.L.l.length - a'.j<a.L.l.length - a_5.j)))))/\(decide ((↑a_5.j:Int)<(↑l:Int))=false->(0<=(↑(stay a.t (↑a.L.segs:Int) a.L.l a_5.j).length:Int)/\(↑(stay a.t (↑a.L.segs:Int) a.L.l a_5.j).length:Int)<=(↑l:Int))/\(0<=(↑(stay a.t (↑a.L.segs:Int) a.L.l a_5.j).length:Int)/\(↑(stay a.t (↑a.L.segs:Int) a.L.l a_5.j).length:Int)<=(↑c:Int))/\(c - 0≠0/\0+((↑(stay a.t (↑a.L.segs:Int) a.L.l a_5.j).length:Int).toNat - 0)<=a.L.l.length)/\∀ (b lo:Nat) (cs:List Value),pminusV a.H a.y.lv b=none->cs.length=(c - 0)*1->(PRows cs 0 [CK.deep] ((↑(stay a.t (↑a.L.segs:Int) a.L.l a_5.j).length:Int).toNat - 0) fun (i j:Nat)=>if 0+(↑(stay a.t (↑a.L.segs:Int) a.L.l a_5.j).length:Int).toNat<=0+i /\
 0+i<0+(↑(stay a.t (↑a.L.segs:Int) a.L.l a_5.j).length:Int).toNat+(l - (↑(stay a.t (↑a.L.segs:Int) a.L.l a_5.j).length:Int).toNat) then [Value.pointer none].getD j (Value.tuple #[]) else a_5.rows (0+i) j)->∃ b_1:BegB,slv b lo ((↑(stay a.t (↑a.L.segs:Int) a.L.l a_5.j).length:Int).toNat - 0) (c - 0)=b_1.y.lv/\pupd (pminusV a.H a.y.lv) b lo cs=b_1.H/\(LogAt b_1.H b_1.y (delL a.t a.L)/\∀ x:Nat,a.H x≠none->¬x∈fpLog a.y->b_1.H x=a.H x/\¬x∈fpLog b_1.y)/\True)))) (by kernel_rfl) (by
 rintro ⟨H,y,L,gb,T⟩ hp;obtain ⟨hl,h1,h2,⟨h3,h4⟩,⟨gr,hgb⟩,h5⟩:=hp;dsimp only at *;have hp:DelPre ⟨H,y,L,gb,T⟩:=⟨hl,h1,h2,⟨h3,h4⟩,⟨gr,hgb⟩,h5⟩
 obtain ⟨e1,_,⟨ea,ec,e2⟩,e3,_⟩:=hl.lv_len;have hmap:=stay_map T L.segs L.l;refine ⟨⟨H,y,L,gb,T⟩,rfl,rfl,rfl,rfl,rfl,rfl,rfl,rfl,rfl,rfl,rfl,rfl,rfl,hp,fun r hr=>?_⟩;dsimp only at hr ⊢;refine ⟨fun c=>⟨⟨H,y⟩,rfl,rfl,⟨hl.congr ?_,fun x _ hn=>⟨rfl,hn⟩⟩,trivial⟩,fun c=>?_⟩
 ·rcases hr with ⟨_,hr⟩ | ⟨i,rfl,_⟩
  ·show L.l.filter (keepG T L.segs)=L.l;rw [List.filter_eq_self];intro g hg;obtain ⟨i,hi,rfl⟩:=List.getElem_of_mem hg;rw [<- gl_eq hi];exact hr i hi
  ·exfalso;simp at c
 ·obtain ⟨r0,rfl,hr1,hr2,hr3⟩:∃ i:Nat,r=i/\i<L.l.length/\keepG T L.segs (gl L.l i)=false/\∀ j,j<i->keepG T L.segs (gl L.l j)=true:=by
   rcases hr with ⟨rfl,_⟩|h
   ·cases c
   ·exact h
  obtain ⟨cl,hlst⟩:=hl.lst;obtain ⟨u1,u2,u3,u4,_⟩:=slAt_len hlst;have hst0:stay T L.segs L.l (r0+1)=List.range r0:=by
   rw [stay_succ,hr2];simp only [Bool.false_eq_true,if_false,List.append_nil];unfold stay;rw [List.filter_eq_self];exact fun i hi=>hr3 i (List.mem_range.1 hi)
  have hnd:=hl.nd;rw [List.nodup_append] at hnd;obtain ⟨n1,n2,n3⟩:=hnd;have hFl:∀ x∈y.ys.flatMap fpSeg,x∉fpV y.lv:=fun x hx e=>n3 x e x hx rfl;have hm:∀ x,x∉fpV y.lv->pminusV H y.lv x=H x:=fun x hx=>pminusV_ne hx;have hgb2:pminusV H y.lv gb=some (0,.int .i64 T::gr):=by rw [hm gb (fun e=>h5 (List.mem_append_left _ e))];exact hgb
  have hseg:∀ i,i<L.l.length->SegAt (pminusV H y.lv) (gl y.ys i) (gl L.l i):=fun i hi=>(hl.seg i hi).frame fun x hx=>hm x (hFl x (fpSeg_mem (by rw [hl.len];exact hi) hx));refine ⟨L.l.length,cl,ptrR y.ys,hlst,by simp only [InR];omega,⟨⟨r0+1,ptrR y.ys⟩,?_⟩,fun x hx=>?_⟩
  ·have h0:DelI ⟨H,y,L,gb,T⟩ ⟨r0+1,ptrR y.ys⟩:=⟨hr1,by rw [hst0];simp,fun i _=>rfl,fun i hi=>by
    dsimp only at hi ⊢;rw [hst0] at hi ⊢;have hi':i<r0:=by simpa using hi
    rw [show gl (List.range r0) i=i by rw [gl_eq hi];simp];rfl,fun i _ _=>rfl⟩
   rw [hst0]
   (repeat' apply And.intro)<;>first|with_reducible (first|rfl|trivial|assumption)|omega|with_reducible (first|exact RowsEq.refl _ _ _|exact Nat.le_refl _)|(dsimp only [List.length_cons,List.length_nil]<;>omega)|exact h0|(simp;done)|skip
  ·obtain ⟨j,rows⟩:=x;have hx':DelI ⟨H,y,L,gb,T⟩ ⟨j,rows⟩:=hx;obtain ⟨x1,x2,x3,x4,x5⟩:=hx;dsimp only at x1 x2 x3 x4 x5 ⊢;obtain ⟨k,hk⟩:∃ k,k=(stay T L.segs L.l j).length:=⟨_,rfl⟩
   rw [<- hk] at x2 x4 ⊢;simp only [Nat.zero_add,Int.toNat_natCast];refine ⟨fun c1=>?_,fun c1=>?_⟩
   ·have hj:j<L.l.length:=by have:=of_decide_eq_true c1;omega
    have hs:=hseg j hj;obtain ⟨r1,_,_⟩:=hs.rng;have hrow:rows j 0=pv (gl y.ys j).b 0:=x5 j (Nat.le_refl _) hj;have hsu:=stay_succ T L.segs L.l j;refine ⟨⟨by omega,by omega⟩,by omega,_,_,hrow,?_⟩;refine ⟨_,_,rfl,?_⟩;refine ⟨_,0,_,_,rfl,hs.cell,?_⟩;refine ⟨⟨⟨_,rfl,_,rfl,r1⟩,trivial⟩,fun _=>?_⟩;refine ⟨_,_,rfl,?_⟩;refine ⟨_,_,rfl,?_⟩;refine ⟨_,0,_,_,rfl,hgb2,?_⟩;refine ⟨⟨⟨_,rfl,_,rfl,h3⟩,trivial⟩,fun _ _=>?_⟩;simp only [segC,List.getD_cons_zero,toI,InR] at h3 ⊢;refine ⟨by omega,fun c2=>?_,fun c2=>?_⟩
    ·have hkeep:keepG T L.segs (gl L.l j)=true:=by
      have:¬ (gl L.l j).gen<=T - L.segs:=by simpa using c2
      simp only [keepG,decide_eq_true_eq];omega
     rw [hkeep,if_pos rfl] at hsu;have hlen:(stay T L.segs L.l (j+1)).length=k+1:=by rw [hsu,hk];simp
     have hN:DelI ⟨H,y,L,gb,T⟩ ⟨j+1,updR rows k 0 [rows j 0]⟩:=⟨hj,by dsimp only;rw [hlen];omega,fun i hi=>by
      dsimp only;rw [upd1_at];split
      ·exact x3 j hj
      ·exact x3 i hi,fun i hi=>by
      dsimp only at hi ⊢;rw [hlen] at hi;rw [upd1_at,hsu];by_cases e:i=k
      ·rw [if_pos e,hrow,e,hk,show (stay T L.segs L.l j).length=(stay T L.segs L.l j).length+0 from rfl,gl_append_right];rfl
      ·rw [if_neg e,gl_append_left (by omega)];exact x4 i (by omega),fun i hi hi2=>by
      dsimp only at hi ⊢;rw [upd1_at,if_neg (by omega)];exact x5 i (by omega) hi2⟩
     refine ⟨⟨by omega,by omega⟩,by omega,by omega,by omega,⟨j+1,updR rows k 0 [rows j 0]⟩,?_⟩;dsimp only;rw [hlen]
     (repeat' apply And.intro)<;>first|with_reducible (first|rfl|trivial|assumption)|omega|with_reducible (first|exact RowsEq.refl _ _ _|exact Nat.le_refl _)|(dsimp only [List.length_cons,List.length_nil]<;>omega)|exact hN|exact RowsEq.refl _ _ _|skip
    ·have hkeep:keepG T L.segs (gl L.l j)=false:=by
      have:(gl L.l j).gen<=T - L.segs:=by simpa using c2
      simp only [keepG,decide_eq_false_iff_not];omega
     rw [hkeep] at hsu;simp only [Bool.false_eq_true,if_false,List.append_nil] at hsu;have hN:DelI ⟨H,y,L,gb,T⟩ ⟨j+1,rows⟩:=⟨hj,by dsimp only;rw [hsu,<- hk];omega,x3,by dsimp only;rw [hsu,<- hk];exact x4,fun i hi hi2=>x5 i (by dsimp only at hi;omega) hi2⟩
     refine ⟨by omega,⟨j+1,rows⟩,?_⟩;dsimp only;rw [hsu,<- hk]
     (repeat' apply And.intro)<;>first|with_reducible (first|rfl|trivial|assumption)|omega|with_reducible (first|exact RowsEq.refl _ _ _|exact Nat.le_refl _)|(dsimp only [List.length_cons,List.length_nil]<;>omega)|exact hN|exact RowsEq.refl _ _ _|skip
   ·have hj:j=L.l.length:=by have:=of_decide_eq_false c1;omega
    subst hj;have hkn:k<=L.l.length:=by omega
    refine ⟨⟨by omega,by omega⟩,by omega,by omega,?_⟩;simp only [Nat.sub_zero];intro b lo cs hb hcs hpr;have hlen:((stay T L.segs L.l L.l.length).map (gl y.ys)).length=k:=by rw [List.length_map,hk]
    have hL:(delL T L).l=(stay T L.segs L.l L.l.length).map (gl L.l):=hmap.symm;have hll:(delL T L).l.length=k:=by rw [hL,List.length_map,hk]
    have hsubl:((stay T L.segs L.l L.l.length).map (gl y.ys)).Sublist y.ys:=by
     have e:((List.range L.l.length).map (gl y.ys))=y.ys:=by rw [<- hl.len,map_gl]
     have h:=List.Sublist.map (gl y.ys) (show (stay T L.segs L.l L.l.length).Sublist (List.range L.l.length) from List.filter_sublist);rw [e] at h;exact h
    have hsub:=sublist_flatMap (f:=fpSeg) hsubl;have hbF:b∉y.ys.flatMap fpSeg:=fun e=>by
     have:=hl.dom b (List.mem_append_right _ e);rw [hm b (hFl b e)] at hb;exact this hb
    have hat:LogAt (pupd (pminusV H y.lv) b lo cs) ⟨slv b lo k cl,(stay T L.segs L.l L.l.length).map (gl y.ys)⟩ (delL T L):=by
     refine ⟨⟨cl,.inr ⟨b,lo,0,cs,by rw [hll,Nat.add_zero],⟨by rw [hll];omega,u4⟩,pupd_self ..,by rw [hcs];simp,⟨fun i hi q ck hq=>?_⟩⟩⟩,by rw [hll];exact hlen,fun i hi=>?_,?_⟩
     ·rw [hll] at hi;have hq0:q=0:=by have:=(List.getElem?_eq_some_iff.1 hq).1;simpa using this
      subst hq0;have:=hpr.at_ i hi 0 ck hq;rw [if_neg (by omega)] at this;have e:rows i 0=ptrR ((stay T L.segs L.l L.l.length).map (gl y.ys)) i 0:=by
       rw [x4 i hi];show _=pv (gl ((stay T L.segs L.l L.l.length).map (gl y.ys)) i).b 0;rw [gl_map (by rw [<- hk];exact hi)]
      rw [<- e];exact this
     ·rw [hll] at hi;rw [hL];show SegAt _ (gl ((stay T L.segs L.l L.l.length).map (gl y.ys)) i) _;rw [gl_map (by rw [<- hk];exact hi),gl_map (by rw [<- hk];exact hi)];have hi2:=stay_lt (t:=T) (s:=L.segs) (l:=L.l) (j:=L.l.length) (i:=i) (by rw [<- hk];exact hi);exact (hseg _ hi2).frame fun x hx=>pupd_ne fun e=>hbF (by rw [<- e];exact fpSeg_mem (by rw [hl.len];exact hi2) hx)
     ·show (fpV (slv b lo k cl)++((stay T L.segs L.l L.l.length).map (gl y.ys)).flatMap fpSeg).Nodup;simp only [fpV,slv,List.cons_append,List.nil_append,List.nodup_cons];exact ⟨fun e=>hbF (hsub.subset e),n2.sublist hsub⟩
    refine ⟨⟨pupd (pminusV H y.lv) b lo cs,⟨slv b lo k cl,(stay T L.segs L.l L.l.length).map (gl y.ys)⟩⟩,rfl,rfl,⟨hat,fun x hx hn=>?_⟩,trivial⟩;have hxl:x∉fpV y.lv:=fun e=>hn (List.mem_append_left _ e);have hxF:x∉y.ys.flatMap fpSeg:=fun e=>hn (List.mem_append_right _ e);have hxb:x≠b:=fun e=>by rw [<- e,hm x hxl] at hb;exact hx hb
    refine ⟨(pupd_ne hxb).trans (hm x hxl),?_⟩;simp only [fpLog,fpV,slv,List.cons_append,List.nil_append,List.mem_cons,not_or];exact ⟨hxb,fun e=>hxF (hsub.subset e)⟩)
theorem callDelF:CallsBy (Y Tryz.prog).G.X 97 cDelF:=fn_ok okY (tab:=[(109,cIdxV)]) ⟨callIdxV,trivial⟩ bodyDelF
def keepN (L:LogM):List SegM:=L.l.filter (keepG (newSeg L).gen L.segs)
def beginL (L:LogM):LogM:={ L with l:=keepN L++[newSeg L] }
def beginD (L:LogM) (d:DevM):DevM:=devFl (devWr d (secNo L (newSeg L) 0) 64 (secB (newSeg L) 0 L.run))
structure BegA where
 H:PH
 y:LogL
 L:LogM
 d:DevM
noncomputable def cBegin:Con where
 α:=BegA
 β:=BegB
 m:=4
 m':=5
 pre:=fun a=>LogAt a.H a.y a.L/\a.L.l.length<900/\3<=a.L.segs/\a.L.segs<=200/\a.L.from_+a.L.segs*8<=a.d.n/\a.d.n<100000/\a.d.calls<999999999999/\InR .i64 a.L.next /\
  (newSeg a.L).gen<1000000000000/\1<=(newSeg a.L).gen
 args:=fun _=>[.a (.ptr 0 0 0 0)]
 hp:=fun a=>[(0,logObj 1 a.L a.y.lv)]++devHp 1 2 a.d++[(3,.pool a.H)]
 ro:=fun _=>[]
 post:=fun a b=>LogAt b.H b.y (beginL a.L)/\∀ x,a.H x≠none->x∉fpLog a.y->b.H x=a.H x/\x∉fpLog b.y
 res:=fun _ _=>.a (.lit .i64 0)
 hp':=fun a b=>[(0,logObj 1 (beginL a.L) b.y.lv)]++devHp 1 2 (beginD a.L a.d)++[(4,.pool b.H)]
def vBegin:An:=.absCell 5 3 0 (.mk 1000 [] [])
set_option maxHeartbeats 4000000 in
theorem bodyBegin:fnBody (Y Tryz.prog) [(79,cWrite),(97,cDelF),(72,cDevFlush)] 76 cBegin fun _=>[(76,[],[vBegin])]:=fnBody.of (p :=
 ∀ a:BegA,LogAt a.H a.y a.L/\a.L.l.length<900/\3<=a.L.segs/\a.L.segs<=200/\a.L.from_+a.L.segs*8<=a.d.n/\a.d.n<100000/\a.d.calls<999999999999/\InR .i64 a.L.next/\(newSeg a.L).gen<(1000000000000:Int)/\(1:Int)<=(newSeg a.L).gen->InR .i64 a.L.next->(∃ a_3:Option Go.Addr,∃ l c:Nat,a.y.lv=Value.slice a_3 l c/\l<=lenMax)/\(decide (0<(↑(slLen a.y.lv):Int))=true->InR .i64 ((↑(slLen a.y.lv):Int) - 1)/\∃ b o:Nat,∃ l c:Nat,a.y.lv=slv b o l c/\(0<=(↑(slLen a.y.lv):Int) - 1/\(↑(slLen a.y.lv):Int) - 1<(↑l:Int))/\∃ b_1 lo o_1:Nat,∃ cs:List Value,pv b (o+((↑(slLen a.y.lv):Int) - 1).toNat*1)=pv b_1 (lo+o_1)/\a.H b_1=some (lo,cs)/\((∃ v:Value,cs[o_1]? = some v/\v.oneCell'=true)/\True)/\∃ b o:Nat,cs.getD o_1 (Value.tuple #[])=pv b o/\∃ b_2 o_2:Nat,pv b o=pv b_2 o_2/\∃ b lo o:Nat,∃ cs:List Value,pv b_2 (o_2+0)=pv b (lo+o)/\a.H b=some (lo,cs)/\((∃ v:Value,cs[o]? = some v/\∃ n:Int,v=Value.int IntKind.i64 n/\InR .i64 n)/\True)/\(InR .i64 (toI (cs.getD o (Value.tuple #[])))->InR .i64 (toI (cs.getD o (Value.tuple #[]))+(1:Int))/\(InR .i64 (toI (cs.getD o (Value.tuple #[]))+(1:Int))->InR .i64 a.L.next->∀ b:Nat,a.H b=none->∃ a_8:WriteA,0=0/\pv b 0=pv a_8.y.b 0/\0=(↑a_8.i:Int)/\devQ a.d a_8.d (0=0/\logQ a.L a_8.L a.y.lv a_8.lv (pupd a.H b 0 [Value.int IntKind.i64 (toI (cs.getD o (Value.tuple #[]))+(1:Int)),Value.int IntKind.i64 a.L.next,Value.int IntKind.i64 (0:Int),Value.slice none 0 0,Value.slice none 0 0]=a_8.H /\
 (SegAt a_8.H a_8.y a_8.g/\a_8.i<8/\a_8.g.buf.length<=378/\(1:Int)<=a_8.g.gen/\3<=a_8.L.segs/\a_8.L.segs<=200/\a_8.L.from_+a_8.L.segs*8<=a_8.d.n/\a_8.d.n<100000/\a_8.d.calls<1000000000000)/\∀ b_3:Unit,True->∃ a_10:DelA,a.y.lv=a_10.y.lv/\0=0/\0=0/\pupd a.H b 0 [Value.int IntKind.i64 (toI (cs.getD o (Value.tuple #[]))+(1:Int)),Value.int IntKind.i64 a.L.next,Value.int IntKind.i64 (0:Int),Value.slice none 0 0,Value.slice none 0 0]=a_10.H/\pv b 0=pv a_10.gb 0/\0=0/\0=0/\logQ a.L a_10.L a.y.lv a_10.y.lv (DelPre a_10/\∀ b_4:BegB,(LogAt b_4.H b_4.y (delL a_10.t a_10.L)/\∀ x:Nat,a_10.H x≠none->¬x∈fpLog a_10.y->b_4.H x=a_10.H x/\¬x∈fpLog b_4.y)->∃ l c:Nat,∃ rows:Nat->Nat->Value,slAt b_4.H b_4.y.lv [CK.deep] l c rows/\0+l<=l/\1<=1/\(l+1)*8<=140737488355328/\∀ cap:Nat,l+1<=cap->cap<=lenMax->(l+1<=c->cap=c)->(cap≠0/\0+(l+1)<=l+1)/\∀ (b_5 lo:Nat) (cs:List Value),pminusV b_4.H b_4.y.lv b_5=none->cs.length=cap*1->(PRows cs 0 [CK.deep] (l+1) fun (i j:Nat)=>appRows rows 0 l (fun (i j:Nat)=>flatRows 1 [Value.pointer (some { block:=b,off:=0 })] (0+i) j) (0+i) j)->∃ a_18:DevM,0=0/\devQ (devWr a_8.d (secNo a_8.L a_8.g a_8.i) 64 (secB a_8.g a_8.i a_8.L.run)) a_18 ((a_18.n<100000/\a_18.calls<1000000000000)/\∀ b:Unit,True->∃ b:BegB,(0:Int)=0/\pupd (pminusV b_4.H b_4.y.lv) b_5 lo cs=b.H/\0=0/\logQ a.L (beginL a.L) (slv b_5 lo (l+1) cap) b.y.lv (devQ (devFl a_18) (beginD a.L a.d) ((LogAt b.H b.y (beginL a.L) /\
 ∀ x:Nat,a.H x≠none->¬x∈fpLog a.y->b.H x=a.H x/\¬x∈fpLog b.y)/\True)))))))))/\(decide (0<(↑(slLen a.y.lv):Int))=false->InR .i64 a.L.next->∀ b:Nat,a.H b=none->∃ a_6:WriteA,0=0/\pv b 0=pv a_6.y.b 0/\0=(↑a_6.i:Int)/\devQ a.d a_6.d (0=0/\logQ a.L a_6.L a.y.lv a_6.lv (pupd a.H b 0 [Value.int IntKind.i64 (1:Int),Value.int IntKind.i64 a.L.next,Value.int IntKind.i64 (0:Int),Value.slice none 0 0,Value.slice none 0 0]=a_6.H/\(SegAt a_6.H a_6.y a_6.g/\a_6.i<8/\a_6.g.buf.length<=378/\(1:Int)<=a_6.g.gen/\3<=a_6.L.segs/\a_6.L.segs<=200/\a_6.L.from_+a_6.L.segs*8<=a_6.d.n/\a_6.d.n<100000/\a_6.d.calls<1000000000000)/\∀ b_1:Unit,True->∃ a_8:DelA,a.y.lv=a_8.y.lv/\0=0/\0=0/\pupd a.H b 0 [Value.int IntKind.i64 (1:Int),Value.int IntKind.i64 a.L.next,Value.int IntKind.i64 (0:Int),Value.slice none 0 0,Value.slice none 0 0]=a_8.H/\pv b 0=pv a_8.gb 0/\0=0/\0=0/\logQ a.L a_8.L a.y.lv a_8.y.lv (DelPre a_8/\∀ b_2:BegB,(LogAt b_2.H b_2.y (delL a_8.t a_8.L)/\∀ x:Nat,a_8.H x≠none->¬x∈fpLog a_8.y->b_2.H x=a_8.H x/\¬x∈fpLog b_2.y)->∃ l c:Nat,∃ rows:Nat->Nat->Value,slAt b_2.H b_2.y.lv [CK.deep] l c rows/\0+l<=l/\1<=1/\(l+1)*8<=140737488355328/\∀ cap:Nat,l+1<=cap->cap<=lenMax->(l+1<=c->cap=c)->(cap≠0/\0+(l+1)<=l+1)/\∀ (b_3 lo:Nat) (cs:List Value),pminusV b_2.H b_2.y.lv b_3=none->cs.length=cap*1->(PRows cs 0 [CK.deep] (l+1) fun (i j:Nat)=>appRows rows 0 l (fun (i j:Nat)=>flatRows 1 [Value.pointer (some { block:=b,off:=0 })] (0+i) j) (0+i) j) ->
 ∃ a_16:DevM,0=0/\devQ (devWr a_6.d (secNo a_6.L a_6.g a_6.i) 64 (secB a_6.g a_6.i a_6.L.run)) a_16 ((a_16.n<100000/\a_16.calls<1000000000000)/\∀ b:Unit,True->∃ b:BegB,(0:Int)=0/\pupd (pminusV b_2.H b_2.y.lv) b_3 lo cs=b.H/\0=0/\logQ a.L (beginL a.L) (slv b_3 lo (l+1) cap) b.y.lv (devQ (devFl a_16) (beginD a.L a.d) ((LogAt b.H b.y (beginL a.L)/\∀ x:Nat,a.H x≠none->¬x∈fpLog a.y->b.H x=a.H x/\¬x∈fpLog b.y)/\True)))))))) (by kernel_rfl) (by
 rintro ⟨H,y,L,d⟩ ⟨hl,h1,h2,h3,h4,h5,h6,h8,h9,h10⟩;dsimp only at *;obtain ⟨e1,_,⟨ea,ec,e2⟩,e3,_⟩:=hl.lv_len;have hgR:InR .i64 (newSeg L).gen:=by simp only [InR];omega
 refine fun _=>⟨⟨ea,_,ec,e2,e3⟩,fun c1=>?_,fun c1=>?_⟩
 ·rw [e1] at c1;have hn:0<L.l.length:=by simpa using c1
  have hk:L.l.length - 1<L.l.length:=by omega
  obtain ⟨b,lo,o,c,cs,g1,g2,g3,g4⟩:=hl.at_ hk;have hs:=hl.seg _ hk;obtain ⟨r1,_,_⟩:=hs.rng;have hng:(newSeg L).gen=(gl L.l (L.l.length - 1)).gen+1:=by
   have:L.l.getLast? = some (gl L.l (L.l.length - 1)):=by rw [gl_eq hk,List.getLast?_eq_getElem?,List.getElem?_eq_getElem hk]
   simp only [newSeg,this]
  simp only [e1];have e5:((L.l.length:Int) - 1).toNat=L.l.length - 1:=by omega
  refine ⟨by simp only [InR];omega,_,_,_,_,g1,by omega,b,lo,o+(L.l.length - 1)*1,cs,by rw [e5,Nat.add_assoc],g2,⟨⟨_,g3,rfl⟩,trivial⟩,?_⟩;refine ⟨_,_,g4,?_⟩;refine ⟨_,_,rfl,?_⟩;refine ⟨_,0,_,_,rfl,hs.cell,?_⟩;refine ⟨⟨⟨_,rfl,_,rfl,r1⟩,trivial⟩,fun _=>?_⟩;simp only [segC,List.getD_cons_zero,toI,<- hng];refine ⟨hgR,fun _ _=>?_⟩;show ∀ b,_;intro b hb;have hsg:=newSeg_at (H:=H) (b:=b) h8 hgR;have hl1:LogAt (pupd H b 0 (segC (newSeg L) (.slice none 0 0) (.slice none 0 0))) y L:=hl.frame fun x hx=>pupd_ne fun e=>hl.dom x hx (by rw [e];exact hb);refine ⟨WriteA.mk (pupd H b 0 (segC (newSeg L) (.slice none 0 0) (.slice none 0 0))) (newL b) (newSeg L) 0 L y.lv d,?_⟩
  (repeat' apply And.intro)<;>first|with_reducible (first|rfl|trivial|assumption)|omega|with_reducible (first|exact RowsEq.refl _ _ _|exact Nat.le_refl _)|(dsimp only [List.length_cons,List.length_nil]<;>omega)|exact hsg|(simp only [newSeg,List.length_nil];omega)|rfl|skip
  intro _ _;have hbm:∀ x,H x≠none->x≠b:=fun x hx e=>hx (by rw [e];exact hb);have hbl:b∉fpLog y:=fun e=>hl.dom b e hb;have hdp:DelPre ⟨pupd H b 0 (segC (newSeg L) (.slice none 0 0) (.slice none 0 0)),y,L,b,(newSeg L).gen⟩:=⟨hl1,by show L.l.length<1000;omega,h3,⟨hgR,by show 0<=(newSeg L).gen;omega⟩,⟨_,pupd_self ..⟩,hbl⟩
  refine ⟨DelA.mk (pupd H b 0 (segC (newSeg L) (.slice none 0 0) (.slice none 0 0))) y L b (newSeg L).gen,?_⟩
  (repeat' apply And.intro)<;>first|with_reducible (first|rfl|trivial|assumption)|omega|with_reducible (first|exact RowsEq.refl _ _ _|exact Nat.le_refl _)|(dsimp only [List.length_cons,List.length_nil]<;>omega)|exact hdp|rfl|skip
  rintro ⟨H2,y2⟩ ⟨d1,d2⟩;dsimp only at d1 d2 ⊢;obtain ⟨q1,q2⟩:=d2 b (by rw [pupd_self];simp) hbl
  have hs2 : SegNd H2 (newL b) (newSeg L) := ⟨hsg.frame fun x hx => (by have : x = b := by simpa [newL, fpSeg, fpV] using hx
                                                                        subst this;exact q1),by simp [newL,fpSeg,fpV]⟩
  have hd2:∀ x∈fpLog y2,x∉fpSeg (newL b):=fun x hx e=>by
   have:x=b:=by simpa [newL,fpSeg,fpV] using e
   subst this;exact q2 hx
  have hkl:(delL (newSeg L).gen L).l.length<=L.l.length:=List.length_filter_le _ _;obtain ⟨c0,hsl⟩:=d1.lst;refine ⟨_,c0,_,hsl,?_⟩
  repeat (first|refine And.intro (by omega) ?_|refine And.intro (by dsimp only;omega) ?_|refine And.intro (by simp only [InR];omega) ?_)
  intro cap hc1 hc2 hc3
  repeat (first|refine And.intro (by omega) ?_|refine And.intro (by dsimp only;omega) ?_|refine And.intro (by simp only [InR];omega) ?_)
  intro b' lo cs' hb' hcs hp;have hba:=push_at (lo:=lo) (L':=beginL L) d1 hs2 hd2 hb' hcs hc1 hc2 hp (by
   intro i hi;simp only [Nat.zero_add,appRows,ptrR];rw [gl_app (by rw [d1.len];exact hi),d1.len];by_cases hin:i<(delL (newSeg L).gen L).l.length
   ·rw [if_pos hin,if_pos hin]
   ·rw [if_neg hin,if_neg hin,show i - (delL (newSeg L).gen L).l.length=0 by omega];rfl) rfl
  have hfr:∀ x,H x≠none->x∉fpLog y->pupd (pminusV H2 y2.lv) b' lo cs' x=H x/\x∉fpLog ⟨slv b' lo ((delL (newSeg L).gen L).l.length+1) cap,y2.ys++[newL b]⟩:=fun x hx hn=>by
   have hxb:=hbm x hx;have e0:pupd H b 0 (segC (newSeg L) (.slice none 0 0) (.slice none 0 0)) x=H x:=pupd_ne hxb;obtain ⟨w1,w2⟩:=d2 x (by rw [e0];exact hx) hn;obtain ⟨w3,w4⟩:=hba.2 x (by rw [w1,e0];exact hx) w2 (by simpa [newL,fpSeg,fpV] using hxb);exact ⟨w3.trans (w1.trans e0),w4⟩
  refine ⟨devWr d (secNo L (newSeg L) 0) 64 (secB (newSeg L) 0 L.run),?_⟩
  (repeat' apply And.intro)<;>first|with_reducible (first|rfl|trivial|assumption)|omega|with_reducible (first|exact RowsEq.refl _ _ _|exact Nat.le_refl _)|(dsimp only [List.length_cons,List.length_nil]<;>omega)|(simp only [devWr];omega)|skip
  intro _ _;refine ⟨⟨pupd (pminusV H2 y2.lv) b' lo cs',⟨slv b' lo ((delL (newSeg L).gen L).l.length+1) cap,y2.ys++[newL b]⟩⟩,?_⟩
  (repeat' apply And.intro)<;>first|with_reducible (first|rfl|trivial|assumption)|omega|with_reducible (first|exact RowsEq.refl _ _ _|exact Nat.le_refl _)|(dsimp only [List.length_cons,List.length_nil]<;>omega)|exact hba.1|exact hfr|exact Nat.le_refl _|exact RowsEq.refl _ _ _|rfl
 ·rw [e1] at c1;have hn:L.l.length=0:=by have:=of_decide_eq_false c1;omega
  have hng:(newSeg L).gen=1:=by
   have:L.l=[]:=List.eq_nil_of_length_eq_zero hn;simp only [newSeg,this];rfl
  rw [<- hng];intro _;intro b hb;have hsg:=newSeg_at (H:=H) (b:=b) h8 hgR;have hl1:LogAt (pupd H b 0 (segC (newSeg L) (.slice none 0 0) (.slice none 0 0))) y L:=hl.frame fun x hx=>pupd_ne fun e=>hl.dom x hx (by rw [e];exact hb);refine ⟨WriteA.mk (pupd H b 0 (segC (newSeg L) (.slice none 0 0) (.slice none 0 0))) (newL b) (newSeg L) 0 L y.lv d,?_⟩
  (repeat' apply And.intro)<;>first|with_reducible (first|rfl|trivial|assumption)|omega|with_reducible (first|exact RowsEq.refl _ _ _|exact Nat.le_refl _)|(dsimp only [List.length_cons,List.length_nil]<;>omega)|exact hsg|(simp only [newSeg,List.length_nil];omega)|rfl|skip
  intro _ _;have hbm:∀ x,H x≠none->x≠b:=fun x hx e=>hx (by rw [e];exact hb);have hbl:b∉fpLog y:=fun e=>hl.dom b e hb;have hdp:DelPre ⟨pupd H b 0 (segC (newSeg L) (.slice none 0 0) (.slice none 0 0)),y,L,b,(newSeg L).gen⟩:=⟨hl1,by show L.l.length<1000;omega,h3,⟨hgR,by show 0<=(newSeg L).gen;omega⟩,⟨_,pupd_self ..⟩,hbl⟩
  refine ⟨DelA.mk (pupd H b 0 (segC (newSeg L) (.slice none 0 0) (.slice none 0 0))) y L b (newSeg L).gen,?_⟩
  (repeat' apply And.intro)<;>first|with_reducible (first|rfl|trivial|assumption)|omega|with_reducible (first|exact RowsEq.refl _ _ _|exact Nat.le_refl _)|(dsimp only [List.length_cons,List.length_nil]<;>omega)|exact hdp|rfl|skip
  rintro ⟨H2,y2⟩ ⟨d1,d2⟩;dsimp only at d1 d2 ⊢;obtain ⟨q1,q2⟩:=d2 b (by rw [pupd_self];simp) hbl
  have hs2 : SegNd H2 (newL b) (newSeg L) := ⟨hsg.frame fun x hx => (by have : x = b := by simpa [newL, fpSeg, fpV] using hx
                                                                        subst this;exact q1),by simp [newL,fpSeg,fpV]⟩
  have hd2:∀ x∈fpLog y2,x∉fpSeg (newL b):=fun x hx e=>by
   have:x=b:=by simpa [newL,fpSeg,fpV] using e
   subst this;exact q2 hx
  have hkl:(delL (newSeg L).gen L).l.length<=L.l.length:=List.length_filter_le _ _;obtain ⟨c0,hsl⟩:=d1.lst;refine ⟨_,c0,_,hsl,?_⟩
  repeat (first|refine And.intro (by omega) ?_|refine And.intro (by dsimp only;omega) ?_|refine And.intro (by simp only [InR];omega) ?_)
  intro cap hc1 hc2 hc3
  repeat (first|refine And.intro (by omega) ?_|refine And.intro (by dsimp only;omega) ?_|refine And.intro (by simp only [InR];omega) ?_)
  intro b' lo cs' hb' hcs hp;have hba:=push_at (lo:=lo) (L':=beginL L) d1 hs2 hd2 hb' hcs hc1 hc2 hp (by
   intro i hi;simp only [Nat.zero_add,appRows,ptrR];rw [gl_app (by rw [d1.len];exact hi),d1.len];by_cases hin:i<(delL (newSeg L).gen L).l.length
   ·rw [if_pos hin,if_pos hin]
   ·rw [if_neg hin,if_neg hin,show i - (delL (newSeg L).gen L).l.length=0 by omega];rfl) rfl
  have hfr:∀ x,H x≠none->x∉fpLog y->pupd (pminusV H2 y2.lv) b' lo cs' x=H x/\x∉fpLog ⟨slv b' lo ((delL (newSeg L).gen L).l.length+1) cap,y2.ys++[newL b]⟩:=fun x hx hn=>by
   have hxb:=hbm x hx;have e0:pupd H b 0 (segC (newSeg L) (.slice none 0 0) (.slice none 0 0)) x=H x:=pupd_ne hxb;obtain ⟨w1,w2⟩:=d2 x (by rw [e0];exact hx) hn;obtain ⟨w3,w4⟩:=hba.2 x (by rw [w1,e0];exact hx) w2 (by simpa [newL,fpSeg,fpV] using hxb);exact ⟨w3.trans (w1.trans e0),w4⟩
  refine ⟨devWr d (secNo L (newSeg L) 0) 64 (secB (newSeg L) 0 L.run),?_⟩
  (repeat' apply And.intro)<;>first|with_reducible (first|rfl|trivial|assumption)|omega|with_reducible (first|exact RowsEq.refl _ _ _|exact Nat.le_refl _)|(dsimp only [List.length_cons,List.length_nil]<;>omega)|(simp only [devWr];omega)|skip
  intro _ _;refine ⟨⟨pupd (pminusV H2 y2.lv) b' lo cs',⟨slv b' lo ((delL (newSeg L).gen L).l.length+1) cap,y2.ys++[newL b]⟩⟩,?_⟩
  (repeat' apply And.intro)<;>first|with_reducible (first|rfl|trivial|assumption)|omega|with_reducible (first|exact RowsEq.refl _ _ _|exact Nat.le_refl _)|(dsimp only [List.length_cons,List.length_nil]<;>omega)|exact hba.1|exact hfr|exact Nat.le_refl _|exact RowsEq.refl _ _ _|rfl)
theorem callBegin:CallsBy (Y Tryz.prog).G.X 76 cBegin:=fn_ok okY (tab:=[(79,cWrite),(97,cDelF),(72,cDevFlush)]) ⟨callWrite,callDelF,callDevFlush,trivial⟩ bodyBegin
end Go.Proofs.YtfhkbihcfmbbcaaGreat
