/-
  
-/
import Derived.Test.YtfhkbihcfmbbcaaGreatStoreNoneP4
import Derived.Test.YtfhkbihcfmbbcaaGreatStoreNoneP5
import Derived.Shelf.Sort.Plain
import Derived.Shelf.Slices.In.SortNone
import Derived.Test.YtfhkbihcfmbbcaaGreatProg
import Derived.Test.YtfhkbihcfmbbcaaGreatStoreNoneP2
import Derived.Sort.Grow
import Derived.Sort.KeysCollected
import Derived.Below
import Derived.ChangeSame
namespace Go.Proofs.YtfhkbihcfmbbcaaGreat
open Go.Sx
set_option maxRecDepth 100000
set_option linter.unusedVariables false
set_option linter.unusedSimpArgs false
set_option maxHeartbeats 4000000 in
theorem bodyPutU:fnBody (Y Tryz.prog) [] 93 cPut fun a=>[(93,[iPut a],[])]:=fnBody.of (p :=
 ∀ a:PutA,a.r+a.len<=a.n/\a.len<=8->(∃ a_2:Nat,0=(↑a_2:Int)/\(↑a.len:Int)=(↑a.len:Int)/\(a.r=a.r/\a.len=a.len/\a.cap=a.cap)/\a.v=a.v/\(a.n<=a.n/\RowsEq a.n 1 a.rows (putR a.rows a.r a.len a.v a_2))/\a_2<=a.len/\True)/\∀ a_2:Nat,a_2<=a.len->(decide ((↑a_2:Int)<(↑a.len:Int))=true->InR .i64 ((↑a.len:Int) - 1)/\InR .i64 ((↑a.len:Int) - 1 - (↑a_2:Int))/\InR .i64 ((8:Int)*(↑a_2:Int))/\(0:Int)<=8*(↑a_2:Int)/\(0<=(↑a.len:Int) - 1 - (↑a_2:Int)/\(↑a.len:Int) - 1 - (↑a_2:Int)<(↑a.len:Int))/\a.r+((↑a.len:Int) - 1 - (↑a_2:Int)).toNat<a.n/\InR .i64 ((↑a_2:Int)+1)/\∃ (a':Nat),(↑a_2:Int)+1=(↑a':Int)/\(↑a.len:Int)=(↑a.len:Int)/\(a.r=a.r/\a.len=a.len/\a.cap=a.cap)/\a.v=a.v/\(a.n<=a.n/\RowsEq a.n 1 (updR (putR a.rows a.r a.len a.v a_2) (a.r+((↑a.len:Int) - 1 - (↑a_2:Int)).toNat) 0 [Value.int IntKind.u8 (uw .u8 (a.v / (2:Int) ^ min ((8:Int)*(↑a_2:Int)).toNat 64))]) (putR a.rows a.r a.len a.v a'))/\a'<=a.len/\a.len - a'<a.len - a_2)/\(decide ((↑a_2:Int)<(↑a.len:Int))=false->∃ b:Unit,(a.n<=a.n/\RowsEq a.n 1 (putR a.rows a.r a.len a.v a_2) (putR a.rows a.r a.len a.v a.len))/\True/\True)) (by kernel_rfl) (by
 rintro ⟨r,len,cap,v,n,rows⟩ ⟨h1,h2⟩;dsimp only at h1 h2 ⊢;simp only [Int.toNat_natCast,InR,decide_eq_true_eq,decide_eq_false_iff_not];refine ⟨⟨0,?_⟩,fun k hk=>⟨fun c1=>?_,fun c1=>⟨(),?_⟩⟩⟩
 ·((repeat' apply And.intro)<;>first|with_reducible rfl|omega|(dsimp only;omega)|exact RowsEq.refl _ _ _|assumption|rfl|trivial|exact Nat.le_refl _|skip)
  refine ⟨fun i hi j hj=>?_⟩;unfold putR;rw [if_neg (by omega)]
 ·have hk:k<len:=by omega
  have e:((len:Int) - 1 - k).toNat=len - 1 - k:=by omega
  rw [e];refine ⟨by omega,by omega,by omega,by omega,by omega,by omega,by omega,k+1,?_⟩
  ((repeat' apply And.intro)<;>first|with_reducible rfl|omega|(dsimp only;omega)|exact RowsEq.refl _ _ _|assumption|rfl|trivial|exact Nat.le_refl _|skip)
  refine ⟨fun i hi j hj=>?_⟩;have hj:j=0:=by omega
  subst hj;by_cases hik:i=r+(len - 1 - k)
  ·subst hik;have e3:(8*(k:Int)).toNat=8*(r+len - 1 - (r+(len - 1 - k))):=by omega
   rw [updR_self,e3];show Value.int .u8 _=_;simp only [putR];rw [if_pos (by omega)]
  ·rw [updR_other hik];simp only [putR];by_cases hq:r+len<=i+k/\i<r+len
   ·rw [if_pos hq,if_pos (by omega)]
   ·rw [if_neg hq,if_neg (by omega)]
 ·have:k=len:=by omega
  subst this
  ((repeat' apply And.intro)<;>first|with_reducible rfl|omega|(dsimp only;omega)|exact RowsEq.refl _ _ _|assumption|rfl|trivial|exact Nat.le_refl _|skip))
theorem callPutU:CallsBy (Y Tryz.prog).G.X 93 cPut:=fn_ok okY (tab:=[]) trivial bodyPutU
set_option maxHeartbeats 4000000 in
theorem bodyGetU:fnBody (Y Tryz.prog) [] 90 cGet fun a=>[(90,[iGet a],[])]:=fnBody.of (p :=
 ∀ a:GetA,a.r+a.len<=a.n/\a.len<=8->(∃ a_2:Nat,0=(↑a_2:Int)/\(0:Int)=getTo (fun (i:Nat)=>u8 a.rows (a.r+i)) a_2/\(↑a.len:Int)=(↑a.len:Int)/\(a.r=a.r/\a.len=a.len/\a.cap=a.cap)/\(0:Int)=0/\(a.r=a.r/\a.len=a.len/\a.cap=a.cap)/\(a.n<=a.n/\RowsEq a.n 1 a.rows a.rows)/\a_2<=a.len/\True)/\∀ a_2:Nat,a_2<=a.len->(decide ((↑a_2:Int)<(↑a.len:Int))=true->(0<=(↑a_2:Int)/\(↑a_2:Int)<(↑a.len:Int))/\a.r+(↑a_2:Int).toNat<a.n/\(InR .u8 (toI (a.rows (a.r+(↑a_2:Int).toNat) 0))->(0:Int)<=8/\InR .i64 ((↑a_2:Int)+1)/\∃ (a':Nat),(↑a_2:Int)+1=(↑a':Int)/\ibits Go.BinOp.or IntKind.u64 (uw .u64 (getTo (fun (i:Nat)=>u8 a.rows (a.r+i)) a_2*(256:Int))) (toI (a.rows (a.r+(↑a_2:Int).toNat) 0))=getTo (fun (i:Nat)=>u8 a.rows (a.r+i)) a'/\(↑a.len:Int)=(↑a.len:Int)/\(a.r=a.r/\a.len=a.len/\a.cap=a.cap)/\(0:Int)=0/\(a.r=a.r/\a.len=a.len/\a.cap=a.cap)/\(a.n<=a.n/\RowsEq a.n 1 a.rows a.rows)/\a'<=a.len/\a.len - a'<a.len - a_2))/\(decide ((↑a_2:Int)<(↑a.len:Int))=false->∃ b:Unit,getTo (fun (i:Nat)=>u8 a.rows (a.r+i)) a_2=getTo (fun (i:Nat)=>u8 a.rows (a.r+i)) a.len/\True/\True)) (by kernel_rfl) (by
 rintro ⟨r,len,cap,n,rows⟩ ⟨h1,h2⟩;dsimp only at h1 h2 ⊢;simp only [Int.toNat_natCast,InR,decide_eq_true_eq,decide_eq_false_iff_not];refine ⟨⟨0,?_⟩,fun k hk=>⟨fun c1=>?_,fun c1=>⟨(),?_⟩⟩⟩
 ·((repeat' apply And.intro)<;>first|with_reducible rfl|omega|(dsimp only;omega)|exact RowsEq.refl _ _ _|assumption|rfl|trivial|exact Nat.le_refl _|skip)
 ·have hk:k<len:=by omega
  refine ⟨by omega,by omega,fun _=>⟨by omega,by omega,k+1,?_⟩⟩
  ((repeat' apply And.intro)<;>first|with_reducible rfl|omega|(dsimp only;omega)|exact RowsEq.refl _ _ _|assumption|rfl|trivial|exact Nat.le_refl _|skip)
 ·have:k=len:=by omega
  subst this
  ((repeat' apply And.intro)<;>first|with_reducible rfl|omega|(dsimp only;omega)|exact RowsEq.refl _ _ _|assumption|rfl|trivial|exact Nat.le_refl _|skip))
theorem callGetU:CallsBy (Y Tryz.prog).G.X 90 cGet:=fn_ok okY (tab:=[]) trivial bodyGetU
def sup0 (n:Int) (b:List Int) (j:Nat):Int:=if j<4 then 0 else if j<12 then beB (uw .u64 n) 8 (j - 4) else if j=12 then (b.length:Int) else if j - 13<b.length then gl b (j - 13) else 0
def supB (n:Int) (b:List Int) (j:Nat):Int:=if j<4 then beB (sumB (sup0 n b)) 4 j else sup0 n b j
structure SupM where
 at_:Nat
 turn:Int
 text:List Int
 slot:Nat
def supA (dv tx:Nat) (S:SupM) (cap:Nat):List A:=[.ptr dv 0 0 0,.int .i64 S.at_,.int .i64 S.turn,.slc tx 0 1 S.text.length cap,.int .i64 S.slot]
def supHp (su tx dv:Nat) (S:SupM) (cap:Nat):List (Nat × Chunk):=[(su,.obj 136 (supA dv tx S cap)),(tx,.arr 5 [.int .u8] S.text.length (encRows encB S.text))]
def supW (S:SupM) (slot:Nat) (n:Int) (b:List Int):SupM:=⟨S.at_,n,b,slot⟩
def supD (S:SupM) (d:DevM) (slot:Nat) (n:Int) (b:List Int):DevM:=devFl (devWr d (S.at_+slot) 64 (supB n b))
structure SWrA where
 S:SupM
 cap:Nat
 d:DevM
 slot:Nat
 n:Int
 b:List Int
 bc:Nat
noncomputable def cSWrite:Con where
 α:=SWrA
 β:=Nat
 m:=5
 m':=6
 pre:=fun a=>a.S.at_+1<a.d.n/\a.slot<=1/\a.d.n<100000/\a.d.calls<900000000000/\1<=a.b.length/\a.b.length<=40
 args:=fun a=>[.a (.ptr 0 0 0 0),.a (.int .i64 a.slot),.a (.int .i64 a.n),.a (.slc 4 0 1 a.b.length a.bc)]
 hp:=fun a=>supHp 0 1 2 a.S a.cap++devHp 2 3 a.d
 ro:=fun a=>byteHp 4 a.b
 post:=fun _ _=>True
 res:=fun _ _=>.a (.lit .i64 0)
 hp':=fun a c=>supHp 0 5 2 (supW a.S a.slot a.n a.b) c++devHp 2 3 (supD a.S a.d a.slot a.n a.b)
set_option maxHeartbeats 4000000 in
theorem bodySWrite:fnBody (Y Tryz.prog) [(93,cPut),(91,cCrc),(38,cDevWrite),(72,cDevFlush)] 71 cSWrite fun _=>[]:=fnBody.of (p :=
 ∀ a:SWrA,a.S.at_+1<a.d.n/\a.slot<=1/\a.d.n<100000/\a.d.calls<900000000000/\1<=a.b.length/\a.b.length<=40->(0:Int)<=64/\(64:Int)<=64/\(64:Int)<=281474976710656/\((0:Int)<=12/\(12:Int)<=64)/\((0:Int)<=4/\(4:Int)<=12)/\∃ a_2:PutA,(4=a_2.r/\8=a_2.len/\60=a_2.cap)/\uw .u64 a.n=a_2.v/\(a_2.n<=64/\RowsEq a_2.n 1 (fun (x j:Nat)=>[Value.int IntKind.u8 (0:Int)].getD j (Value.tuple #[])) a_2.rows)/\(a_2.r+a_2.len<=a_2.n/\a_2.len<=8)/\∀ b:Unit,True->((0:Int)<=12/\(12:Int)<64)/\12<a_2.n/\((0:Int)<=13/\(13:Int)<=64)/\64<=a_2.n/\0+a.b.length<=a.b.length/\((0:Int)<=4/\(4:Int)<=64)/\((0:Int)<=4/\(4:Int)<=64)/\∃ a_4:CrcA,(0=0/\1=1/\1=a_4.c)/\(4=a_4.r/\60=a_4.len/\60=a_4.cap)/\(a_4.n<=a_2.n/\RowsEq a_4.n 1 (cpRows (updR (putR a_2.rows a_2.r a_2.len a_2.v a_2.len) 12 0 [Value.int IntKind.u8 (uw .u8 (↑a.b.length:Int))]) 13 (min a.b.length 51) fun (i j:Nat)=>encRows encB a.b (0+i) j) a_4.rows)/\(a_4.r+a_4.len<=a_4.n/\a_4.len<100000)/\∀ b:Unit,True->∃ a_6:PutA,(0=a_6.r/\4=a_6.len/\64=a_6.cap)/\ibits Go.BinOp.xor IntKind.u32 (4294967295:Int) (crcTo (fun (i:Nat)=>u8 a_4.rows (a_4.r+i)) a_4.len)=a_6.v/\(a_6.n<=a_2.n/\RowsEq a_6.n 1 (cpRows (updR (putR a_2.rows a_2.r a_2.len a_2.v a_2.len) 12 0 [Value.int IntKind.u8 (uw .u8 (↑a.b.length:Int))]) 13 (min a.b.length 51) fun (i j:Nat)=>encRows encB a.b (0+i) j) a_6.rows) /\
 (a_6.r+a_6.len<=a_6.n/\a_6.len<=8)/\∀ b:Unit,True->InR .i64 (↑a.S.at_:Int)->InR .i64 ((↑a.S.at_:Int)+(↑a.slot:Int))/\∃ a_9:WrA,0=0/\(↑a.S.at_:Int)+(↑a.slot:Int)=(↑a_9.i:Int)/\(0=a_9.r/\64=a_9.len/\64=a_9.cap)/\devQ a.d a_9.d ((a_9.n<=a_6.n/\RowsEq a_9.n 1 (putR a_6.rows a_6.r a_6.len a_6.v a_6.len) (rowsB a_9.src))/\(a_9.i<a_9.d.n/\a_9.d.n<100000/\a_9.len<=64/\a_9.r+a_9.len<=a_9.n/\a_9.d.calls<1000000000000)/\∀ b:Unit,True->∃ a_11:DevM,0=0/\devQ (devWr a_9.d a_9.i a_9.len fun (j:Nat)=>a_9.src (a_9.r+j)) a_11 ((a_11.n<100000/\a_11.calls<1000000000000)/\∀ b:Unit,True->∀ b:Bool,(b=true->a.b.length=0)->(b=true->∃ b:Nat,(0:Int)=0/\0=0/\(↑a.S.at_:Int)=(↑(supW a.S a.slot a.n a.b).at_:Int)/\a.n=(supW a.S a.slot a.n a.b).turn/\(0=(supW a.S a.slot a.n a.b).text.length/\0=b)/\(↑a.slot:Int)=(↑(supW a.S a.slot a.n a.b).slot:Int)/\(supW a.S a.slot a.n a.b).text.length=0/\devQ (devFl a_11) (supD a.S a.d a.slot a.n a.b) (True/\True))/\(b=false->0<=0/\0+a.b.length<=a.b.length/\(0+a.b.length)*1<=140737488355328/\∀ cap:Nat,0+a.b.length<=cap->cap<=lenMax->(0+a.b.length<=0->cap=0)->∃ b:Nat,(0:Int)=0/\0=0/\(↑a.S.at_:Int)=(↑(supW a.S a.slot a.n a.b).at_:Int)/\a.n=(supW a.S a.slot a.n a.b).turn/\(0=0/\0+a.b.length=(supW a.S a.slot a.n a.b).text.length/\cap=b)/\(↑a.slot:Int)=(↑(supW a.S a.slot a.n a.b).slot:Int) /\
 ((supW a.S a.slot a.n a.b).text.length<=0+a.b.length/\RowsEq (supW a.S a.slot a.n a.b).text.length 1 (appRows (flatRows 1 []) 0 0 fun (i j:Nat)=>encRows encB a.b (0+i) j) (encRows encB (supW a.S a.slot a.n a.b).text))/\devQ (devFl a_11) (supD a.S a.d a.slot a.n a.b) (True/\True))))) (by kernel_rfl) (by
 rintro ⟨u,cap,d,slot,n,b,bc⟩ ⟨h1,h2,h3,h4,h5,h6⟩;dsimp only at *;obtain ⟨F1,hF1⟩:∃ F:Nat->Int,F=fun k=>if 4<=k/\k<4+8 then beB (uw .u64 n) 8 (k - 4) else 0:=⟨_,rfl⟩
 have hb8:uw .u8 (b.length:Int)=b.length:=by simp only [uw];omega
 have h0:RowsEq 64 1 (fun (x j:Nat)=>[Value.int IntKind.u8 (0:Int)].getD j (Value.tuple #[])) (rowsB fun _=>0):=rowsB_eq fun _ _=>rfl
 repeat (first|refine And.intro (by omega) ?_|refine And.intro (by dsimp only;omega) ?_|refine And.intro (by simp only [InR];omega) ?_)
 refine ⟨PutA.mk 4 8 60 (uw .u64 n) 64 (rowsB fun _=>0),?_⟩
 (repeat' apply And.intro)<;>first|with_reducible (first|rfl|trivial|assumption)|exact h0|(intro h_;revert h_)|omega|with_reducible exact RowsEq.refl _ _ _|rfl|exact RowsEq.refl _ _ _|exact Nat.le_refl _|(dsimp only;omega)|skip
 intro _ _;rw [show putR (rowsB fun _=>0) 4 8 (uw .u64 n) 8=rowsB F1 by rw [putR_B (by omega),hF1]];have hfin:RowsEq 64 1 (cpRows (updR (rowsB F1) 12 0 [Value.int .u8 (uw .u8 (b.length:Int))]) 13 (min b.length 51) fun (i j:Nat)=>encRows encB b (0+i) j) (rowsB (sup0 n b)):=by
  rw [hb8,show min b.length 51=b.length by omega];refine rowsB_eq fun k hk=>?_;simp only [cpRows,rowsB,encRows,encB,List.getD_cons_zero,Nat.zero_add,hF1,sup0,upd1_at]
  (repeat' split)<;>first|rfl|(exfalso;omega)|skip
 have hlast:RowsEq 64 1 (putR (rowsB (sup0 n b)) 0 4 (sumB (sup0 n b)) 4) (rowsB (supB n b)):=by
  rw [putR_B (by omega)];refine rowsB_eq fun k hk=>?_;simp only [rowsB,supB,Nat.zero_le,true_and,Nat.zero_add,Nat.sub_zero]
 repeat (first|refine And.intro (by omega) ?_|refine And.intro (by dsimp only;omega) ?_|refine And.intro (by simp only [InR];omega) ?_)
 refine ⟨CrcA.mk 1 4 60 60 64 (rowsB (sup0 n b)),?_⟩
 (repeat' apply And.intro)<;>first|with_reducible (first|rfl|trivial|assumption)|exact hfin|(intro h_;revert h_)|omega|with_reducible exact RowsEq.refl _ _ _|rfl|exact RowsEq.refl _ _ _|exact Nat.le_refl _|(dsimp only;omega)|skip
 intro _ _;refine ⟨PutA.mk 0 4 64 (sumB (sup0 n b)) 64 (rowsB (sup0 n b)),?_⟩
 (repeat' apply And.intro)<;>first|with_reducible (first|rfl|trivial|assumption)|exact hfin|(intro h_;revert h_)|omega|with_reducible exact RowsEq.refl _ _ _|rfl|exact RowsEq.refl _ _ _|exact Nat.le_refl _|(dsimp only;omega)|skip
 intro _ _ _;refine ⟨by simp only [InR];omega,WrA.mk d (u.at_+slot) 0 64 64 64 (supB n b),?_⟩;dsimp only
 (repeat' apply And.intro)<;>first|with_reducible (first|rfl|trivial|assumption)|exact hlast|(intro h_;revert h_)|omega|with_reducible exact RowsEq.refl _ _ _|rfl|exact RowsEq.refl _ _ _|exact Nat.le_refl _|(dsimp only;omega)|skip
 intro _ _;refine ⟨devWr d (u.at_+slot) 64 fun j=>supB n b (0+j),?_⟩;have e0:(fun j=>supB n b (0+j))=supB n b:=by funext j;rw [Nat.zero_add]
 have hn:(devWr d (u.at_+slot) 64 (supB n b)).n<100000:=h3;have hc:(devWr d (u.at_+slot) 64 (supB n b)).calls<1000000000000:=by show d.calls+1<_;omega
 rw [e0]
 (repeat' apply And.intro)<;>first|with_reducible (first|rfl|trivial|assumption)|exact hn|exact hc|(intro h_;revert h_)|omega|with_reducible exact RowsEq.refl _ _ _|rfl|exact RowsEq.refl _ _ _|exact Nat.le_refl _|(dsimp only;omega)|skip
 intro _ _ q hq;refine ⟨fun e=>by (have:=hq e;exfalso;omega),fun _=>?_⟩;have hr:RowsEq b.length 1 (appRows (flatRows 1 []) 0 0 fun (i j:Nat)=>encRows encB b (0+i) j) (encRows encB b):=⟨fun i hi j hj=>by
  simp only [appRows,Nat.not_lt_zero,if_false,Nat.sub_zero,Nat.zero_add]⟩
 refine ⟨by omega,by omega,by omega,fun c q1 q2 q3=>⟨c,?_⟩⟩;dsimp only [supW,supD]
 (repeat' apply And.intro)<;>first|with_reducible (first|rfl|trivial|assumption)|exact hr|(intro h_;revert h_)|omega|with_reducible exact RowsEq.refl _ _ _|rfl|exact RowsEq.refl _ _ _|exact Nat.le_refl _|(dsimp only;omega)|skip)
theorem callSWrite:CallsBy (Y Tryz.prog).G.X 71 cSWrite:=fn_ok okY (tab:=[(93,cPut),(91,cCrc),(38,cDevWrite),(72,cDevFlush)]) ⟨callPutU,callCrc,callDevWrite,callDevFlush,trivial⟩ bodySWrite
structure SMkA where
 at_:Nat
 d:DevM
 b:List Int
 bc:Nat
def supMkD (d:DevM) (at_:Nat) (b:List Int):DevM:=supD ⟨at_,0,[],0⟩ (devFl (devWr (devWr d at_ 64 fun _=>0) (at_+1) 64 fun _=>0)) 0 1 b
noncomputable def cSMake:Con where
 α:=SMkA
 β:=Nat
 m:=3
 m':=5
 pre:=fun a=>a.at_+1<a.d.n/\a.d.n<100000/\a.d.calls<800000000000/\1<=a.b.length/\a.b.length<=40
 args:=fun a=>[.a (.ptr 0 0 0 0),.a (.int .i64 a.at_),.a (.slc 2 0 1 a.b.length a.bc)]
 hp:=fun a=>devHp 0 1 a.d
 ro:=fun a=>byteHp 2 a.b
 post:=fun _ _=>True
 res:=fun _ _=>.tup [.a (.ptr 3 0 0 0),.a (.lit .i64 0)]
 hp':=fun a c=>supHp 3 4 0 ⟨a.at_,1,a.b,0⟩ c++devHp 0 1 (supMkD a.d a.at_ a.b)
set_option maxHeartbeats 4000000 in
theorem bodySMake:fnBody (Y Tryz.prog) [(71,cSWrite),(38,cDevWrite),(72,cDevFlush)] 61 cSMake fun _=>[]:=fnBody.of (p :=
 ∀ a:SMkA,a.at_+1<a.d.n/\a.d.n<100000/\a.d.calls<800000000000/\1<=a.b.length/\a.b.length<=40->(decide (0<=(↑a.at_:Int))=true->InR .i64 ((↑a.d.n:Int) - 1)/\((!decide ((↑a.at_:Int)<(↑a.d.n:Int) - 1))=true->∃ b:Nat,False)/\((!decide ((↑a.at_:Int)<(↑a.d.n:Int) - 1))=false->(decide (40<(↑a.b.length:Int))=true->∃ b:Nat,False)/\(decide (40<(↑a.b.length:Int))=false->InR .i64 ((↑a.at_:Int)+0)/\(0:Int)<=64/\(64:Int)<=64/\(64:Int)<=281474976710656/\∃ a_5:WrA,0=0/\(↑a.at_:Int)+0=(↑a_5.i:Int)/\(0=a_5.r/\64=a_5.len/\64=a_5.cap)/\devQ a.d a_5.d ((a_5.n<=64/\RowsEq a_5.n 1 (fun (x j:Nat)=>[Value.int IntKind.u8 (0:Int)].getD j (Value.tuple #[])) (rowsB a_5.src))/\(a_5.i<a_5.d.n/\a_5.d.n<100000/\a_5.len<=64/\a_5.r+a_5.len<=a_5.n/\a_5.d.calls<1000000000000)/\∀ b:Unit,True->InR .i64 ((↑a.at_:Int)+1)/\(0:Int)<=64/\(64:Int)<=64/\(64:Int)<=281474976710656/\∃ a_7:WrA,0=0/\(↑a.at_:Int)+1=(↑a_7.i:Int)/\(0=a_7.r/\64=a_7.len/\64=a_7.cap)/\devQ (devWr a_5.d a_5.i a_5.len fun (j:Nat)=>a_5.src (a_5.r+j)) a_7.d ((a_7.n<=64/\RowsEq a_7.n 1 (fun (x j:Nat)=>[Value.int IntKind.u8 (0:Int)].getD j (Value.tuple #[])) (rowsB a_7.src))/\(a_7.i<a_7.d.n/\a_7.d.n<100000/\a_7.len<=64/\a_7.r+a_7.len<=a_7.n/\a_7.d.calls<1000000000000)/\∀ b:Unit,True->∃ a_9:DevM,0=0/\devQ (devWr a_7.d a_7.i a_7.len fun (j:Nat)=>a_7.src (a_7.r+j)) a_9 ((a_9.n<100000 /\
 a_9.calls<1000000000000)/\∀ b:Unit,True->∃ a_11:SWrA,0=0/\0=(↑a_11.slot:Int)/\(1:Int)=a_11.n/\(0=0/\a.b.length=a_11.b.length/\a.bc=a_11.bc)/\0=0/\(↑a.at_:Int)=(↑a_11.S.at_:Int)/\(0:Int)=a_11.S.turn/\(0=a_11.S.text.length/\0=a_11.cap)/\0=(↑a_11.S.slot:Int)/\a_11.S.text.length=0/\devQ (devFl a_9) a_11.d ((a_11.b.length<=a.b.length/\RowsEq a_11.b.length 1 (encRows encB a.b) (encRows encB a_11.b))/\(a_11.S.at_+1<a_11.d.n/\a_11.slot<=1/\a_11.d.n<100000/\a_11.d.calls<900000000000/\1<=a_11.b.length/\a_11.b.length<=40)/\∀ b:Nat,True->∃ b_1:Nat,0=0/\(0:Int)=0/\0=0/\(↑(supW a_11.S a_11.slot a_11.n a_11.b).at_:Int)=(↑a.at_:Int)/\(supW a_11.S a_11.slot a_11.n a_11.b).turn=(1:Int)/\(0=0/\(supW a_11.S a_11.slot a_11.n a_11.b).text.length=a.b.length/\b=b_1)/\(↑(supW a_11.S a_11.slot a_11.n a_11.b).slot:Int)=(↑(0:Nat):Int)/\(a.b.length<=(supW a_11.S a_11.slot a_11.n a_11.b).text.length/\RowsEq a.b.length 1 (encRows encB (supW a_11.S a_11.slot a_11.n a_11.b).text) (encRows encB a.b))/\devQ (supD a_11.S a_11.d a_11.slot a_11.n a_11.b) (supMkD a.d a.at_ a.b) (True/\True))))))))/\(decide (0<=(↑a.at_:Int))=false->∃ b:Nat,False)) (by kernel_rfl) (by
 rintro ⟨at_,d,b,bc⟩ ⟨h1,h2,h3,h4,h5⟩;dsimp only at *;have h0:RowsEq 64 1 (fun (x j:Nat)=>[Value.int IntKind.u8 (0:Int)].getD j (Value.tuple #[])) (rowsB fun _=>0):=rowsB_eq fun _ _=>rfl;refine ⟨fun _=>⟨by simp only [InR];omega,fun c=>by (exfalso;simp at c;omega),fun _=>⟨fun c=>by (exfalso;simp at c;omega),fun _=>?_⟩⟩,fun c=>by (exfalso;simp at c)⟩;refine ⟨by simp only [InR];omega,by omega,by omega,by omega,WrA.mk d at_ 0 64 64 64 fun _=>0,?_⟩;dsimp only
 (repeat' apply And.intro)<;>first|with_reducible (first|rfl|trivial|assumption)|exact h0|(intro h_;revert h_)|omega|with_reducible exact RowsEq.refl _ _ _|rfl|exact RowsEq.refl _ _ _|exact Nat.le_refl _|(dsimp only;omega)|skip
 intro _ _;refine ⟨by simp only [InR];omega,by omega,by omega,by omega,WrA.mk (devWr d at_ 64 fun _=>0) (at_+1) 0 64 64 64 fun _=>0,?_⟩;have hn1:at_+1<(devWr d at_ 64 fun _=>0).n:=h1;have hn2:(devWr d at_ 64 fun _=>0).n<100000:=h2;have hc2:(devWr d at_ 64 fun _=>0).calls<1000000000000:=by show d.calls+1<_;omega
 dsimp only
 (repeat' apply And.intro)<;>first|with_reducible (first|rfl|trivial|assumption)|exact h0|exact hn1|exact hn2|exact hc2|(intro h_;revert h_)|omega|with_reducible exact RowsEq.refl _ _ _|rfl|exact RowsEq.refl _ _ _|exact Nat.le_refl _|(dsimp only;omega)|skip
 intro _ _;obtain ⟨D,hD⟩:∃ D,D=devWr (devWr d at_ 64 fun _=>0) (at_+1) 64 fun _=>0:=⟨_,rfl⟩
 rw [<- hD];have hn3:D.n=d.n:=by rw [hD];rfl
 have hc3:D.calls=d.calls+2:=by rw [hD];rfl
 refine ⟨D,?_⟩
 (repeat' apply And.intro)<;>first|with_reducible (first|rfl|trivial|assumption)|(intro h_;revert h_)|omega|with_reducible exact RowsEq.refl _ _ _|rfl|exact RowsEq.refl _ _ _|exact Nat.le_refl _|(dsimp only;omega)|skip
 intro _ _;have hn4:at_+1<(devFl D).n:=by show at_+1<D.n;omega
 have hn5:(devFl D).n<100000:=by show D.n<_;omega
 have hc4:(devFl D).calls<900000000000:=by show D.calls+1<_;omega
 refine ⟨SWrA.mk ⟨at_,0,[],0⟩ 0 (devFl D) 0 1 b bc,?_⟩;dsimp only
 (repeat' apply And.intro)<;>first|with_reducible (first|rfl|trivial|assumption)|exact hn4|exact hn5|exact hc4|(intro h_;revert h_)|omega|with_reducible exact RowsEq.refl _ _ _|rfl|exact RowsEq.refl _ _ _|exact Nat.le_refl _|(dsimp only;omega)|skip
 intro c _;refine ⟨c,?_⟩;dsimp only [supW,supMkD];rw [<- hD]
 (repeat' apply And.intro)<;>first|with_reducible (first|rfl|trivial|assumption)|(intro h_;revert h_)|omega|with_reducible exact RowsEq.refl _ _ _|rfl|exact RowsEq.refl _ _ _|exact Nat.le_refl _|(dsimp only;omega)|skip)
theorem callSMake:CallsBy (Y Tryz.prog).G.X 61 cSMake:=fn_ok okY (tab:=[(71,cSWrite),(38,cDevWrite),(72,cDevFlush)]) ⟨callSWrite,callDevWrite,callDevFlush,trivial⟩ bodySMake
def supT (f:Nat->Int):Int:=uw .i64 (gB f 4 8)
def supG (S:SupM) (f:Nat->Int):Bool:=(sumB f == gB f 0 4)&&(decide (S.turn<supT f)&&decide (f 12<=40))
def supStep (S:SupM) (k:Nat) (f:Nat->Int):SupM:=if supG S f then ⟨S.at_,supT f,(List.range (f 12).toNat).map fun i=>f (13+i),k⟩ else S
def supTo (at_:Nat) (d:DevM):Nat->SupM
 | 0=>⟨at_,0,[],0⟩
 | k+1=>supStep (supTo at_ d k) k (d.now (at_+k))
structure SOpA where
 at_:Nat
 d:DevM
noncomputable def cSOpen:Con where
 α:=SOpA
 β:=Nat
 m:=2
 m':=4
 pre:=fun a=>a.at_+1<a.d.n/\a.d.n<100000/\(supTo a.at_ a.d 2).turn≠0/\(∀ k,k<2->supG (supTo a.at_ a.d k) (a.d.now (a.at_+k))=true->1<=a.d.now (a.at_+k) 12)
 args:=fun a=>[.a (.ptr 0 0 0 0),.a (.int .i64 a.at_)]
 hp:=fun a=>[]
 ro:=fun a=>devHp 0 1 a.d
 post:=fun _ _=>True
 res:=fun _ _=>.tup [.a (.ptr 2 0 0 0),.a (.lit .i64 0)]
 hp':=fun a c=>supHp 2 3 0 (supTo a.at_ a.d 2) c
def S.sup (s:S) (su dv:Nat) (u:SupM) (cap:Nat):S:=(s.at_ su (.obj 136 (supA dv s.nx u cap))).new (.arr 5 [.int .u8] u.text.length (encRows encB u.text))
def iSOpen (a:SOpA):An:=.flat 7 (Nat × Nat) (fun s x=>(S.sup s (s.tg 6) 0 (supTo a.at_ a.d x.1) x.2).int 23 x.1) (fun _ x=>x.1<=2) (fun _ x=>2 - x.1)
set_option maxHeartbeats 4000000 in
theorem bodySOpen:fnBody (Y Tryz.prog) [(90,cGet),(91,cCrc),(89,cDevRead)] 64 cSOpen fun a=>[(64,[iSOpen a],[])]:=fnBody.of (p :=
 ∀ a:SOpA,(a.at_+1<a.d.n/\a.d.n<100000/\(supTo a.at_ a.d 2).turn≠(0:Int)/\∀ k:Nat,k<2->supG (supTo a.at_ a.d k) (a.d.now (a.at_+k))=true->(1:Int)<=a.d.now (a.at_+k) 12)->(decide (0<=(↑a.at_:Int))=true->InR .i64 ((↑a.d.n:Int) - 1)/\((!decide ((↑a.at_:Int)<(↑a.d.n:Int) - 1))=true->∃ b:Nat,False)/\((!decide ((↑a.at_:Int)<(↑a.d.n:Int) - 1))=false->(∃ a_4:Nat × Nat,0=(↑a_4.fst:Int)/\0=0/\(!decide ((↑a.at_:Int)<(↑a.d.n:Int) - 1)) = !decide ((↑a.at_:Int)<(↑a.d.n:Int) - 1)/\false=false/\(0:Int)=0/\0=0/\(↑a.at_:Int)=(↑a.at_:Int)/\0=0/\(↑a.at_:Int)=(↑(supTo a.at_ a.d a_4.fst).at_:Int)/\(0:Int)=(supTo a.at_ a.d a_4.fst).turn/\(0=(supTo a.at_ a.d a_4.fst).text.length/\0=a_4.snd)/\0=(↑(supTo a.at_ a.d a_4.fst).slot:Int)/\devQ a.d a.d ((supTo a.at_ a.d a_4.fst).text.length=0/\a_4.fst<=2/\True))/\∀ a_4:Nat × Nat,a_4.fst<=2->(decide ((↑a_4.fst:Int)<2)=true->InR .i64 ((↑a.at_:Int)+(↑a_4.fst:Int))/\∃ a_7:RdA,0=0/\(↑a.at_:Int)+(↑a_4.fst:Int)=(↑a_7.i:Int)/\devQ a.d a_7.d ((a_7.i<a_7.d.n/\a_7.d.n<100000)/\∀ b:Nat,64<=b->((0:Int)<=12/\12<=(↑b:Int))/\((0:Int)<=4/\(4:Int)<=12)/\∃ a_9:GetA,(4=a_9.r/\8=a_9.len/\b - 4=a_9.cap)/\(a_9.n<=64/\RowsEq a_9.n 1 (rowsB (a_7.d.now a_7.i)) a_9.rows)/\(a_9.r+a_9.len<=a_9.n/\a_9.len<=8)/\∀ b_1:Unit,True->((0:Int)<=4/\(4:Int)<=64)/\((0:Int)<=4 /\
 4<=(↑b:Int))/\∃ a_11:CrcA,(0=0/\1=1/\1=a_11.c)/\(4=a_11.r/\60=a_11.len/\b - 4=a_11.cap)/\(a_11.n<=64/\RowsEq a_11.n 1 (rowsB (a_7.d.now a_7.i)) a_11.rows)/\(a_11.r+a_11.len<=a_11.n/\a_11.len<100000)/\∀ b_2:Unit,True->∃ a_13:GetA,(0=a_13.r/\4=a_13.len/\b - 0=a_13.cap)/\(a_13.n<=64/\RowsEq a_13.n 1 (rowsB (a_7.d.now a_7.i)) a_13.rows)/\(a_13.r+a_13.len<=a_13.n/\a_13.len<=8)/\∀ b_3:Unit,True->((ibits Go.BinOp.xor IntKind.u32 (4294967295:Int) (crcTo (fun (i:Nat)=>u8 a_11.rows (a_11.r+i)) a_11.len) == getTo (fun (i:Nat)=>u8 a_13.rows (a_13.r+i)) a_13.len)=true->InR .i64 (supTo a.at_ a.d a_4.fst).turn->(decide ((supTo a.at_ a.d a_4.fst).turn<uw .i64 (getTo (fun (i:Nat)=>u8 a_9.rows (a_9.r+i)) a_9.len))=true->((0:Int)<=12/\(12:Int)<64)/\12<64/\(InR .u8 (a_7.d.now a_7.i 12)->(decide (a_7.d.now a_7.i 12<=(40:Int))=true->((0:Int)<=12/\(12:Int)<64)/\12<64/\(InR .u8 (a_7.d.now a_7.i 12)->InR .i64 ((13:Int)+a_7.d.now a_7.i 12)/\((0:Int)<=13+a_7.d.now a_7.i 12/\(13:Int)+a_7.d.now a_7.i 12<=(↑b:Int))/\((0:Int)<=13/\13<=(↑((13:Int)+a_7.d.now a_7.i 12).toNat:Int))/\∀ b:Bool,(b=true->((13:Int)+a_7.d.now a_7.i 12).toNat - 13=0)->(b=true->InR .i64 ((↑a_4.fst:Int)+1)/\∃ (a':Nat × Nat),(↑a_4.fst:Int)+1=(↑a'.fst:Int)/\0=0/\(!decide ((↑a.at_:Int)<(↑a.d.n:Int) - 1)) = !decide ((↑a.at_:Int)<(↑a.d.n:Int) - 1) /\
 false=false/\(0:Int)=0/\0=0/\(↑a.at_:Int)=(↑a.at_:Int)/\0=0/\(↑(supTo a.at_ a.d a_4.fst).at_:Int)=(↑(supTo a.at_ a.d a'.fst).at_:Int)/\uw .i64 (getTo (fun (i:Nat)=>u8 a_9.rows (a_9.r+i)) a_9.len)=(supTo a.at_ a.d a'.fst).turn/\(0=(supTo a.at_ a.d a'.fst).text.length/\0=a'.snd)/\(↑a_4.fst:Int)=(↑(supTo a.at_ a.d a'.fst).slot:Int)/\devQ a.d a.d ((supTo a.at_ a.d a'.fst).text.length=0/\a'.fst<=2/\2 - a'.fst<2 - a_4.fst))/\(b=false->0<=0/\13+(((13:Int)+a_7.d.now a_7.i 12).toNat - 13)<=64/\(0+(((13:Int)+a_7.d.now a_7.i 12).toNat - 13))*1<=140737488355328/\∀ cap:Nat,0+(((13:Int)+a_7.d.now a_7.i 12).toNat - 13)<=cap->cap<=lenMax->(0+(((13:Int)+a_7.d.now a_7.i 12).toNat - 13)<=0->cap=0)->InR .i64 ((↑a_4.fst:Int)+1)/\∃ (a':Nat × Nat),(↑a_4.fst:Int)+1=(↑a'.fst:Int)/\0=0/\(!decide ((↑a.at_:Int)<(↑a.d.n:Int) - 1)) = !decide ((↑a.at_:Int)<(↑a.d.n:Int) - 1)/\false=false/\(0:Int)=0/\0=0/\(↑a.at_:Int)=(↑a.at_:Int)/\0=0/\(↑(supTo a.at_ a.d a_4.fst).at_:Int)=(↑(supTo a.at_ a.d a'.fst).at_:Int)/\uw .i64 (getTo (fun (i:Nat)=>u8 a_9.rows (a_9.r+i)) a_9.len)=(supTo a.at_ a.d a'.fst).turn/\(0=0/\0+(((13:Int)+a_7.d.now a_7.i 12).toNat - 13)=(supTo a.at_ a.d a'.fst).text.length/\cap=a'.snd)/\(↑a_4.fst:Int)=(↑(supTo a.at_ a.d a'.fst).slot:Int)/\devQ a.d a.d (((supTo a.at_ a.d a'.fst).text.length<=0+(((13:Int)+a_7.d.now a_7.i 12).toNat - 13) /\
 RowsEq (supTo a.at_ a.d a'.fst).text.length 1 (appRows (flatRows 1 []) 0 0 fun (i j:Nat)=>Value.int IntKind.u8 (a_7.d.now a_7.i (13+i))) (encRows encB (supTo a.at_ a.d a'.fst).text))/\a'.fst<=2/\2 - a'.fst<2 - a_4.fst))))/\(decide (a_7.d.now a_7.i 12<=(40:Int))=false->InR .i64 ((↑a_4.fst:Int)+1)/\∃ (a':Nat × Nat),(↑a_4.fst:Int)+1=(↑a'.fst:Int)/\0=0/\(!decide ((↑a.at_:Int)<(↑a.d.n:Int) - 1)) = !decide ((↑a.at_:Int)<(↑a.d.n:Int) - 1)/\false=false/\(0:Int)=0/\0=0/\(↑a.at_:Int)=(↑a.at_:Int)/\0=0/\(↑(supTo a.at_ a.d a_4.fst).at_:Int)=(↑(supTo a.at_ a.d a'.fst).at_:Int)/\(supTo a.at_ a.d a_4.fst).turn=(supTo a.at_ a.d a'.fst).turn/\(0=0/\(supTo a.at_ a.d a_4.fst).text.length=(supTo a.at_ a.d a'.fst).text.length/\a_4.snd=a'.snd)/\(↑(supTo a.at_ a.d a_4.fst).slot:Int)=(↑(supTo a.at_ a.d a'.fst).slot:Int)/\devQ a.d a.d (((supTo a.at_ a.d a'.fst).text.length<=(supTo a.at_ a.d a_4.fst).text.length/\RowsEq (supTo a.at_ a.d a'.fst).text.length 1 (encRows encB (supTo a.at_ a.d a_4.fst).text) (encRows encB (supTo a.at_ a.d a'.fst).text))/\a'.fst<=2/\2 - a'.fst<2 - a_4.fst))))/\(decide ((supTo a.at_ a.d a_4.fst).turn<uw .i64 (getTo (fun (i:Nat)=>u8 a_9.rows (a_9.r+i)) a_9.len))=false->InR .i64 ((↑a_4.fst:Int)+1)/\∃ (a':Nat × Nat),(↑a_4.fst:Int)+1=(↑a'.fst:Int)/\0=0/\(!decide ((↑a.at_:Int)<(↑a.d.n:Int) - 1)) = !decide ((↑a.at_:Int)<(↑a.d.n:Int) - 1) /\
 false=false/\(0:Int)=0/\0=0/\(↑a.at_:Int)=(↑a.at_:Int)/\0=0/\(↑(supTo a.at_ a.d a_4.fst).at_:Int)=(↑(supTo a.at_ a.d a'.fst).at_:Int)/\(supTo a.at_ a.d a_4.fst).turn=(supTo a.at_ a.d a'.fst).turn/\(0=0/\(supTo a.at_ a.d a_4.fst).text.length=(supTo a.at_ a.d a'.fst).text.length/\a_4.snd=a'.snd)/\(↑(supTo a.at_ a.d a_4.fst).slot:Int)=(↑(supTo a.at_ a.d a'.fst).slot:Int)/\devQ a.d a.d (((supTo a.at_ a.d a'.fst).text.length<=(supTo a.at_ a.d a_4.fst).text.length/\RowsEq (supTo a.at_ a.d a'.fst).text.length 1 (encRows encB (supTo a.at_ a.d a_4.fst).text) (encRows encB (supTo a.at_ a.d a'.fst).text))/\a'.fst<=2/\2 - a'.fst<2 - a_4.fst)))/\((ibits Go.BinOp.xor IntKind.u32 (4294967295:Int) (crcTo (fun (i:Nat)=>u8 a_11.rows (a_11.r+i)) a_11.len) == getTo (fun (i:Nat)=>u8 a_13.rows (a_13.r+i)) a_13.len)=false->InR .i64 ((↑a_4.fst:Int)+1)/\∃ (a':Nat × Nat),(↑a_4.fst:Int)+1=(↑a'.fst:Int)/\0=0/\(!decide ((↑a.at_:Int)<(↑a.d.n:Int) - 1)) = !decide ((↑a.at_:Int)<(↑a.d.n:Int) - 1)/\false=false/\(0:Int)=0/\0=0/\(↑a.at_:Int)=(↑a.at_:Int)/\0=0/\(↑(supTo a.at_ a.d a_4.fst).at_:Int)=(↑(supTo a.at_ a.d a'.fst).at_:Int)/\(supTo a.at_ a.d a_4.fst).turn=(supTo a.at_ a.d a'.fst).turn/\(0=0/\(supTo a.at_ a.d a_4.fst).text.length=(supTo a.at_ a.d a'.fst).text.length/\a_4.snd=a'.snd)/\(↑(supTo a.at_ a.d a_4.fst).slot:Int)=(↑(supTo a.at_ a.d a'.fst).slot:Int) /\
 devQ a.d a.d (((supTo a.at_ a.d a'.fst).text.length<=(supTo a.at_ a.d a_4.fst).text.length/\RowsEq (supTo a.at_ a.d a'.fst).text.length 1 (encRows encB (supTo a.at_ a.d a_4.fst).text) (encRows encB (supTo a.at_ a.d a'.fst).text))/\a'.fst<=2/\2 - a'.fst<2 - a_4.fst))))/\(decide ((↑a_4.fst:Int)<2)=false->InR .i64 (supTo a.at_ a.d a_4.fst).turn->(((supTo a.at_ a.d a_4.fst).turn == (0:Int))=true->∃ b:Nat,False)/\(((supTo a.at_ a.d a_4.fst).turn == (0:Int))=false->∃ b:Nat,0=0/\(0:Int)=0/\0=0/\(↑(supTo a.at_ a.d a_4.fst).at_:Int)=(↑(supTo a.at_ a.d 2).at_:Int)/\(supTo a.at_ a.d a_4.fst).turn=(supTo a.at_ a.d 2).turn/\(0=0/\(supTo a.at_ a.d a_4.fst).text.length=(supTo a.at_ a.d 2).text.length/\a_4.snd=b)/\(↑(supTo a.at_ a.d a_4.fst).slot:Int)=(↑(supTo a.at_ a.d 2).slot:Int)/\((supTo a.at_ a.d 2).text.length<=(supTo a.at_ a.d a_4.fst).text.length/\RowsEq (supTo a.at_ a.d 2).text.length 1 (encRows encB (supTo a.at_ a.d a_4.fst).text) (encRows encB (supTo a.at_ a.d 2).text))/\True/\True))))/\(decide (0<=(↑a.at_:Int))=false->∃ b:Nat,False)) (by kernel_rfl) (by
 rintro ⟨at_,d⟩ ⟨h1,h2,h3,h4⟩;dsimp only at *;refine ⟨fun _=>⟨by simp only [InR];omega,fun c=>by (exfalso;simp at c;omega),fun _=>⟨⟨(0,0),?_⟩,fun x hx=>?_⟩⟩,fun c=>by (exfalso;simp at c)⟩
 ·dsimp only [supTo]
  (repeat' apply And.intro)<;>first|with_reducible (first|rfl|trivial|assumption)|(intro h_;revert h_)|omega|with_reducible exact RowsEq.refl _ _ _|rfl|exact RowsEq.refl _ _ _|exact Nat.le_refl _|(dsimp only;omega)|skip
 obtain ⟨k,cap⟩:=x;have hk:k<=2:=hx;dsimp only;refine ⟨fun c1=>?_,fun c1 hr=>?_⟩
 ·have hk2:k<2:=by have:=of_decide_eq_true c1;omega
  have hd4:=h4 k hk2;have hst:supTo at_ d (k+1)=supStep (supTo at_ d k) k (d.now (at_+k)):=rfl;obtain ⟨u,hu⟩:∃ u,u=supTo at_ d k:=⟨_,rfl⟩
  obtain ⟨F,hF⟩:∃ F,F=d.now (at_+k):=⟨_,rfl⟩
  rw [<- hu,<- hF] at hst hd4;rw [<- hu];have hin:at_+k<d.n:=by omega
  refine ⟨by simp only [InR];omega,RdA.mk d (at_+k),?_⟩;dsimp only;rw [<- hF]
  (repeat' apply And.intro)<;>first|with_reducible (first|rfl|trivial|assumption)|(intro h_;revert h_)|omega|with_reducible exact RowsEq.refl _ _ _|rfl|exact RowsEq.refl _ _ _|exact Nat.le_refl _|(dsimp only;omega)|skip
  intro b hb
  repeat (first|refine And.intro (by omega) ?_|refine And.intro (by dsimp only;omega) ?_|refine And.intro (by simp only [InR];omega) ?_)
  have eG:∀ r len,getTo (fun i=>u8 (rowsB F) (r+i)) len=gB F r len:=fun _ _=>rfl;have eS:ibits .xor .u32 4294967295 (crcTo (fun i=>u8 (rowsB F) (4+i)) 60)=sumB F:=rfl;refine ⟨GetA.mk 4 8 (b - 4) 64 (rowsB F),?_⟩
  (repeat' apply And.intro)<;>first|with_reducible (first|rfl|trivial|assumption)|(intro h_;revert h_)|omega|with_reducible exact RowsEq.refl _ _ _|rfl|exact RowsEq.refl _ _ _|exact Nat.le_refl _|(dsimp only;omega)|skip
  intro _ _
  repeat (first|refine And.intro (by omega) ?_|refine And.intro (by dsimp only;omega) ?_|refine And.intro (by simp only [InR];omega) ?_)
  refine ⟨CrcA.mk 1 4 60 (b - 4) 64 (rowsB F),?_⟩
  (repeat' apply And.intro)<;>first|with_reducible (first|rfl|trivial|assumption)|(intro h_;revert h_)|omega|with_reducible exact RowsEq.refl _ _ _|rfl|exact RowsEq.refl _ _ _|exact Nat.le_refl _|(dsimp only;omega)|skip
  intro _ _;refine ⟨GetA.mk 0 4 (b - 0) 64 (rowsB F),?_⟩
  (repeat' apply And.intro)<;>first|with_reducible (first|rfl|trivial|assumption)|(intro h_;revert h_)|omega|with_reducible exact RowsEq.refl _ _ _|rfl|exact RowsEq.refl _ _ _|exact Nat.le_refl _|(dsimp only;omega)|skip
  intro _ _;dsimp only;rw [eG,eG,eS,show uw .i64 (gB F 4 8)=supT F from rfl];refine ⟨fun c2 r1=>⟨fun c3=>⟨⟨by omega,by omega⟩,by omega,fun r2=>⟨fun c4=>⟨⟨by omega,by omega⟩,by omega,fun _=>?_⟩,fun c4=>?_⟩⟩,fun c3=>?_⟩,fun c2=>?_⟩
  ·have hG:supG u F=true:=by unfold supG;rw [c2,c3,c4];rfl
   have c4:=of_decide_eq_true c4;have h12:=hd4 hG;obtain ⟨m,hm⟩:∃ m:Nat,F 12=m:=⟨(F 12).toNat,by omega⟩
   have hs:supTo at_ d (k+1)=⟨u.at_,supT F,(List.range m).map fun i=>F (13+i),k⟩:=by
    rw [hst];unfold supStep;rw [hG,hm];rfl
   rw [hm,show ((13:Int)+(m:Int)).toNat - 13=m by omega];refine ⟨by simp only [InR];omega,⟨by omega,by omega⟩,⟨by omega,by omega⟩,fun q hq=>⟨fun e=>by (have:=hq e;exfalso;omega),fun _=>⟨by omega,by omega,by omega,fun c q1 q2 q3=>⟨by simp only [InR];omega,(k+1,c),?_⟩⟩⟩⟩;have hr:RowsEq m 1 (appRows (flatRows 1 []) 0 0 fun (i j:Nat)=>Value.int IntKind.u8 (F (13+i))) (encRows encB ((List.range m).map fun i=>F (13+i))):=⟨fun i hi j hj=>by
    obtain rfl:j=0:=by omega
    simp only [appRows,Nat.not_lt_zero,if_false,Nat.sub_zero,encRows,encB,List.getD_cons_zero];rw [gl_eq (by simpa using hi)];simp⟩
   have hl:0+m=((List.range m).map fun i=>F (13+i)).length:=by simp
   have hl2:((List.range m).map fun i=>F (13+i)).length=m:=by simp
   dsimp only;rw [hs];dsimp only;rw [hl2]
   (repeat' apply And.intro)<;>first|with_reducible (first|rfl|trivial|assumption)|exact hr|(intro h_;revert h_)|omega|with_reducible exact RowsEq.refl _ _ _|rfl|exact RowsEq.refl _ _ _|exact Nat.le_refl _|(dsimp only;omega)|skip
  ·have hG:supG u F=false:=by unfold supG;rw [c2,c3,c4];rfl
   have hs:supTo at_ d (k+1)=u:=by rw [hst];unfold supStep;rw [hG];rfl
   refine ⟨by simp only [InR];omega,(k+1,cap),?_⟩;dsimp only;rw [hs]
   (repeat' apply And.intro)<;>first|with_reducible (first|rfl|trivial|assumption)|(intro h_;revert h_)|omega|with_reducible exact RowsEq.refl _ _ _|rfl|exact RowsEq.refl _ _ _|exact Nat.le_refl _|(dsimp only;omega)|skip
  ·have hG:supG u F=false:=by unfold supG;rw [c2,c3];rfl
   have hs:supTo at_ d (k+1)=u:=by rw [hst];unfold supStep;rw [hG];rfl
   refine ⟨by simp only [InR];omega,(k+1,cap),?_⟩;dsimp only;rw [hs]
   (repeat' apply And.intro)<;>first|with_reducible (first|rfl|trivial|assumption)|(intro h_;revert h_)|omega|with_reducible exact RowsEq.refl _ _ _|rfl|exact RowsEq.refl _ _ _|exact Nat.le_refl _|(dsimp only;omega)|skip
  ·have hG:supG u F=false:=by unfold supG;rw [c2];rfl
   have hs:supTo at_ d (k+1)=u:=by rw [hst];unfold supStep;rw [hG];rfl
   refine ⟨by simp only [InR];omega,(k+1,cap),?_⟩;dsimp only;rw [hs]
   (repeat' apply And.intro)<;>first|with_reducible (first|rfl|trivial|assumption)|(intro h_;revert h_)|omega|with_reducible exact RowsEq.refl _ _ _|rfl|exact RowsEq.refl _ _ _|exact Nat.le_refl _|(dsimp only;omega)|skip
 ·have:k=2:=by have:=of_decide_eq_false c1;omega
  subst this;refine ⟨fun c=>absurd (eq_of_beq c) h3,fun _=>⟨cap,?_⟩⟩
  (repeat' apply And.intro)<;>first|with_reducible (first|rfl|trivial|assumption)|(intro h_;revert h_)|omega|with_reducible exact RowsEq.refl _ _ _|rfl|exact RowsEq.refl _ _ _|exact Nat.le_refl _|(dsimp only;omega)|skip)
theorem callSOpen:CallsBy (Y Tryz.prog).G.X 64 cSOpen:=fn_ok okY (tab:=[(90,cGet),(91,cCrc),(89,cDevRead)]) ⟨callGetU,callCrc,callDevRead,trivial⟩ bodySOpen
structure SSvA where
 S:SupM
 cap:Nat
 d:DevM
 b:List Int
 bc:Nat
noncomputable def cSSave:Con where
 α:=SSvA
 β:=Nat
 m:=5
 m':=6
 pre:=fun a=>a.S.at_+1<a.d.n/\a.S.slot<=1/\a.d.n<100000/\a.d.calls<900000000000/\1<=a.b.length/\a.b.length<=40/\0<=a.S.turn/\a.S.turn<1000000000000
 args:=fun a=>[.a (.ptr 0 0 0 0),.a (.slc 4 0 1 a.b.length a.bc)]
 hp:=fun a=>supHp 0 1 2 a.S a.cap++devHp 2 3 a.d
 ro:=fun a=>byteHp 4 a.b
 post:=fun _ _=>True
 res:=fun _ _=>.a (.lit .i64 0)
 hp':=fun a c=>supHp 0 5 2 (supW a.S (1 - a.S.slot) (a.S.turn+1) a.b) c++devHp 2 3 (supD a.S a.d (1 - a.S.slot) (a.S.turn+1) a.b)
set_option maxHeartbeats 4000000 in
theorem bodySSave:fnBody (Y Tryz.prog) [(71,cSWrite)] 48 cSSave fun _=>[]:=fnBody.of (p :=
 ∀ a:SSvA,a.S.at_+1<a.d.n/\a.S.slot<=1/\a.d.n<100000/\a.d.calls<900000000000/\1<=a.b.length/\a.b.length<=40/\(0:Int)<=a.S.turn/\a.S.turn<(1000000000000:Int)->(decide (40<(↑a.b.length:Int))=true->∃ b:Nat,(1:Int)=0/\0=0/\(↑a.S.at_:Int)=(↑(supW a.S (1 - a.S.slot) (a.S.turn+(1:Int)) a.b).at_:Int)/\a.S.turn=(supW a.S (1 - a.S.slot) (a.S.turn+(1:Int)) a.b).turn/\(0=0/\a.S.text.length=(supW a.S (1 - a.S.slot) (a.S.turn+(1:Int)) a.b).text.length/\a.cap=b)/\(↑a.S.slot:Int)=(↑(supW a.S (1 - a.S.slot) (a.S.turn+(1:Int)) a.b).slot:Int)/\((supW a.S (1 - a.S.slot) (a.S.turn+(1:Int)) a.b).text.length<=a.S.text.length/\RowsEq (supW a.S (1 - a.S.slot) (a.S.turn+(1:Int)) a.b).text.length 1 (encRows encB a.S.text) (encRows encB (supW a.S (1 - a.S.slot) (a.S.turn+(1:Int)) a.b).text))/\devQ a.d (supD a.S a.d (1 - a.S.slot) (a.S.turn+(1:Int)) a.b) (True/\True))/\(decide (40<(↑a.b.length:Int))=false->InR .i64 (↑a.S.slot:Int)->InR .i64 ((1:Int) - (↑a.S.slot:Int))/\(InR .i64 a.S.turn->InR .i64 (a.S.turn+(1:Int))/\∃ a_5:SWrA,0=0/\(1:Int) - (↑a.S.slot:Int)=(↑a_5.slot:Int)/\a.S.turn+(1:Int)=a_5.n/\(0=0/\a.b.length=a_5.b.length/\a.bc=a_5.bc)/\0=0/\(↑a.S.at_:Int)=(↑a_5.S.at_:Int)/\a.S.turn=a_5.S.turn/\(0=0/\a.S.text.length=a_5.S.text.length/\a.cap=a_5.cap)/\(↑a.S.slot:Int)=(↑a_5.S.slot:Int)/\(a_5.S.text.length<=a.S.text.length /\
 RowsEq a_5.S.text.length 1 (encRows encB a.S.text) (encRows encB a_5.S.text))/\devQ a.d a_5.d ((a_5.b.length<=a.b.length/\RowsEq a_5.b.length 1 (encRows encB a.b) (encRows encB a_5.b))/\(a_5.S.at_+1<a_5.d.n/\a_5.slot<=1/\a_5.d.n<100000/\a_5.d.calls<900000000000/\1<=a_5.b.length/\a_5.b.length<=40)/\∀ b:Nat,True->∃ b_1:Nat,(0:Int)=0/\0=0/\(↑(supW a_5.S a_5.slot a_5.n a_5.b).at_:Int)=(↑(supW a.S (1 - a.S.slot) (a.S.turn+(1:Int)) a.b).at_:Int)/\(supW a_5.S a_5.slot a_5.n a_5.b).turn=(supW a.S (1 - a.S.slot) (a.S.turn+(1:Int)) a.b).turn/\(0=0/\(supW a_5.S a_5.slot a_5.n a_5.b).text.length=(supW a.S (1 - a.S.slot) (a.S.turn+(1:Int)) a.b).text.length/\b=b_1)/\(↑(supW a_5.S a_5.slot a_5.n a_5.b).slot:Int)=(↑(supW a.S (1 - a.S.slot) (a.S.turn+(1:Int)) a.b).slot:Int)/\((supW a.S (1 - a.S.slot) (a.S.turn+(1:Int)) a.b).text.length<=(supW a_5.S a_5.slot a_5.n a_5.b).text.length/\RowsEq (supW a.S (1 - a.S.slot) (a.S.turn+(1:Int)) a.b).text.length 1 (encRows encB (supW a_5.S a_5.slot a_5.n a_5.b).text) (encRows encB (supW a.S (1 - a.S.slot) (a.S.turn+(1:Int)) a.b).text))/\devQ (supD a_5.S a_5.d a_5.slot a_5.n a_5.b) (supD a.S a.d (1 - a.S.slot) (a.S.turn+(1:Int)) a.b) (True/\True))))) (by kernel_rfl) (by
 rintro ⟨u,cap,d,b,bc⟩ ⟨h1,h2,h3,h4,h5,h6,h8,h9⟩;dsimp only at *;have e:(1:Int) - u.slot=((1 - u.slot:Nat):Int):=by omega
 have h2':1 - u.slot<=1:=by omega
 refine ⟨fun c=>by (exfalso;have:=of_decide_eq_true c;omega),fun _ _=>⟨by simp only [InR];omega,fun _=>⟨by simp only [InR];omega,SWrA.mk u cap d (1 - u.slot) (u.turn+1) b bc,?_⟩⟩⟩;dsimp only
 (repeat' apply And.intro)<;>first|with_reducible (first|rfl|trivial|assumption)|exact e|exact h2'|(intro h_;revert h_)|omega|with_reducible exact RowsEq.refl _ _ _|rfl|exact RowsEq.refl _ _ _|exact Nat.le_refl _|(dsimp only;omega)|skip
 intro c _;refine ⟨c,?_⟩
 (repeat' apply And.intro)<;>first|with_reducible (first|rfl|trivial|assumption)|(intro h_;revert h_)|omega|with_reducible exact RowsEq.refl _ _ _|rfl|exact RowsEq.refl _ _ _|exact Nat.le_refl _|(dsimp only;omega)|skip)
theorem callSSave:CallsBy (Y Tryz.prog).G.X 48 cSSave:=fn_ok okY (tab:=[(71,cSWrite)]) ⟨callSWrite,trivial⟩ bodySSave
structure STxA where
 S:SupM
 cap:Nat
noncomputable def cSText:Con where
 α:=STxA
 β:=Nat
 m:=3
 m':=4
 pre:=fun a=>1<=a.S.text.length/\a.S.text.length<=40
 args:=fun a=>[.a (.ptr 0 0 0 0)]
 hp:=fun _=>[]
 ro:=fun a=>supHp 0 1 2 a.S a.cap
 post:=fun a c=>a.S.text.length<=c
 res:=fun a c=>.a (.slc 3 0 1 a.S.text.length c)
 hp':=fun a _=>byteHp 3 a.S.text
set_option maxHeartbeats 4000000 in
theorem bodySText:fnBody (Y Tryz.prog) [] 65 cSText fun _=>[]:=fnBody.of (p :=
 ∀ a:STxA,1<=a.S.text.length/\a.S.text.length<=40->∀ b:Bool,(b=true->a.S.text.length=0)->(b=true->∃ b:Nat,(0=a.S.text.length/\0=b)/\a.S.text.length=0/\a.S.text.length<=b/\True)/\(b=false->0<=0/\0+a.S.text.length<=a.S.text.length/\(0+a.S.text.length)*1<=140737488355328/\∀ cap:Nat,0+a.S.text.length<=cap->cap<=lenMax->(0+a.S.text.length<=0->cap=0)->∃ b:Nat,(0=0/\0+a.S.text.length=a.S.text.length/\cap=b)/\(a.S.text.length<=0+a.S.text.length/\RowsEq a.S.text.length 1 (appRows (flatRows 1 []) 0 0 fun (i j:Nat)=>encRows encB a.S.text (0+i) j) (encRows encB a.S.text))/\a.S.text.length<=b/\True)) (by kernel_rfl) (by
 rintro ⟨u,cap⟩ ⟨h1,h2⟩;dsimp only at *;intro q hq;refine ⟨fun e=>by (have:=hq e;exfalso;omega),fun _=>⟨by omega,by omega,by omega,fun c q1 q2 q3=>⟨c,?_⟩⟩⟩;have hr:RowsEq u.text.length 1 (appRows (flatRows 1 []) 0 0 fun (i j:Nat)=>encRows encB u.text (0+i) j) (encRows encB u.text):=⟨fun i hi j hj=>by
  simp only [appRows,Nat.not_lt_zero,if_false,Nat.sub_zero,Nat.zero_add]⟩
 (repeat' apply And.intro)<;>first|with_reducible (first|rfl|trivial|assumption)|exact hr|(intro h_;revert h_)|omega|with_reducible exact RowsEq.refl _ _ _|rfl|exact RowsEq.refl _ _ _|exact Nat.le_refl _|(dsimp only;omega)|skip)
theorem callSText:CallsBy (Y Tryz.prog).G.X 65 cSText:=fn_ok okY (tab:=[]) trivial bodySText
end Go.Proofs.YtfhkbihcfmbbcaaGreat

namespace Go.Proofs.YtfhkbihcfmbbcaaGreat
open Go.Sx
set_option maxRecDepth 100000
set_option linter.unusedVariables false
set_option linter.unusedSimpArgs false
structure MetaM where
 boot:Int
 epoch:Int
 ready:Int
 frozen:Bool
def metaA (m:MetaM):List A:=[.int .i64 m.boot,.int .i64 m.epoch,.int .i64 m.ready,.bool m.frozen]
def m00:MetaM:=⟨0,0,0,false⟩
def inN (n:Int):Bool:=decide (0<=n)&&decide (n<=1099511627776)
def mayM (m:MetaM):Bool:=inN m.boot&&(inN m.epoch&&(inN m.ready&&((m.ready == 0||decide (m.epoch<m.ready))&&(!m.frozen||decide (0<m.ready)))))
def textM (m:MetaM):List Int:=putsB [m.boot,m.epoch,m.ready,if m.frozen then 1 else 0]
theorem may_out2 {m:MetaM} (h:mayM m=true):(0<=m.boot/\m.boot<=1099511627776)/\(0<=m.epoch/\m.epoch<=1099511627776)/\0<=m.ready/\m.ready<=1099511627776:=by
 simp only [mayM,inN,Bool.and_eq_true,decide_eq_true_eq] at h;omega
def nsM (m:MetaM):List Int:=[m.boot,m.epoch,m.ready]
theorem may_no {m:MetaM} {i:Nat} (hi:i<3) (h:inN (gl (nsM m) i)=false):mayM m=false:=by
 rcases (by omega:i=0\/i=1\/i=2) with rfl|rfl|rfl
 ·have h:inN m.boot=false:=h;simp [mayM,h]
 ·have h:inN m.epoch=false:=h;simp [mayM,h]
 ·have h:inN m.ready=false:=h;simp [mayM,h]
theorem may_yes {m:MetaM} (h:∀ i,i<3->inN (gl (nsM m) i)=true):mayM m=((m.ready == 0||decide (m.epoch<m.ready))&&(!m.frozen||decide (0<m.ready))):=by
 have h0:inN m.boot=true:=h 0 (by omega);have h1:inN m.epoch=true:=h 1 (by omega);have h2:inN m.ready=true:=h 2 (by omega);simp [mayM,h0,h1,h2]
noncomputable def cMMay:Con where
 α:=MetaM
 β:=Unit
 m:=0
 m':=0
 pre:=fun _=>True
 args:=fun m=>[.agg (metaA m)]
 hp:=fun _=>[]
 ro:=fun _=>[]
 post:=fun _ _=>True
 res:=fun m _=>.a (.bool (mayM m))
 hp':=fun _ _=>[]
def iMMay (m:MetaM):An:=.flat 2 Nat (fun s i=>s.int 13 i) (fun _ i=>i<=3/\∀ j,j<i->inN (gl (nsM m) j)=true) (fun _ i=>3 - i)
set_option maxHeartbeats 4000000 in
theorem bodyMMay:fnBody (Y Tryz.prog) [] 47 cMMay fun m=>[(47,[iMMay m],[])]:=fnBody.of (p :=
 ∀ a:MetaM,True->InR .i64 a.boot->InR .i64 a.epoch->InR .i64 a.ready->(∃ a_5:Nat,0=(↑a_5:Int)/\(3:Int)=3/\(0=0/\3=3/\3=3)/\false=false/\0=0/\a.boot=a.boot/\a.epoch=a.epoch/\a.ready=a.ready/\a.frozen=a.frozen/\(3<=3/\RowsEq 3 1 (flatRows 1 [Value.int IntKind.i64 a.boot,Value.int IntKind.i64 a.epoch,Value.int IntKind.i64 a.ready]) (flatRows 1 [Value.int IntKind.i64 a.boot,Value.int IntKind.i64 a.epoch,Value.int IntKind.i64 a.ready]))/\a.boot=a.boot/\a.epoch=a.epoch/\a.ready=a.ready/\a.frozen=a.frozen/\(a_5<=3/\∀ j:Nat,j<a_5->inN (gl (nsM a) j)=true)/\True)/\∀ a_5:Nat,(a_5<=3/\∀ j:Nat,j<a_5->inN (gl (nsM a) j)=true)->(decide ((↑a_5:Int)<3)=true->(0<=(↑a_5:Int)/\(↑a_5:Int)<3)/\0+(↑a_5:Int).toNat<3/\(InR .i64 (toI (flatRows 1 [Value.int IntKind.i64 a.boot,Value.int IntKind.i64 a.epoch,Value.int IntKind.i64 a.ready] (0+(↑a_5:Int).toNat) 0))->(decide (toI (flatRows 1 [Value.int IntKind.i64 a.boot,Value.int IntKind.i64 a.epoch,Value.int IntKind.i64 a.ready] (0+(↑a_5:Int).toNat) 0)<(0:Int))=true->∃ b:Unit,false=mayM a/\True/\True)/\(decide (toI (flatRows 1 [Value.int IntKind.i64 a.boot,Value.int IntKind.i64 a.epoch,Value.int IntKind.i64 a.ready] (0+(↑a_5:Int).toNat) 0)<(0:Int))=false->(decide ((1099511627776:Int)<toI (flatRows 1 [Value.int IntKind.i64 a.boot,Value.int IntKind.i64 a.epoch,Value.int IntKind.i64 a.ready] (0+(↑a_5:Int).toNat) 0))=true ->
 ∃ b:Unit,false=mayM a/\True/\True)/\(decide ((1099511627776:Int)<toI (flatRows 1 [Value.int IntKind.i64 a.boot,Value.int IntKind.i64 a.epoch,Value.int IntKind.i64 a.ready] (0+(↑a_5:Int).toNat) 0))=false->InR .i64 ((↑a_5:Int)+1)/\∃ (a':Nat),(↑a_5:Int)+1=(↑a':Int)/\(3:Int)=3/\(0=0/\3=3/\3=3)/\false=false/\0=0/\a.boot=a.boot/\a.epoch=a.epoch/\a.ready=a.ready/\a.frozen=a.frozen/\(3<=3/\RowsEq 3 1 (flatRows 1 [Value.int IntKind.i64 a.boot,Value.int IntKind.i64 a.epoch,Value.int IntKind.i64 a.ready]) (flatRows 1 [Value.int IntKind.i64 a.boot,Value.int IntKind.i64 a.epoch,Value.int IntKind.i64 a.ready]))/\a.boot=a.boot/\a.epoch=a.epoch/\a.ready=a.ready/\a.frozen=a.frozen/\(a'<=3/\∀ j:Nat,j<a'->inN (gl (nsM a) j)=true)/\3 - a'<3 - a_5))))/\(decide ((↑a_5:Int)<3)=false->InR .i64 a.ready->((a.ready == (0:Int))=true->((!a.frozen)=true->∃ b:Unit,true=mayM a/\True/\True)/\((!a.frozen)=false->InR .i64 a.ready->∃ b:Unit,decide ((0:Int)<a.ready)=mayM a/\True/\True))/\((a.ready == (0:Int))=false->InR .i64 a.ready->InR .i64 a.epoch->(decide (a.epoch<a.ready)=true->((!a.frozen)=true->∃ b:Unit,true=mayM a/\True/\True)/\((!a.frozen)=false->InR .i64 a.ready->∃ b:Unit,decide ((0:Int)<a.ready)=mayM a/\True/\True))/\(decide (a.epoch<a.ready)=false->∃ b:Unit,false=mayM a/\True/\True)))) (by kernel_rfl) (by
 intro m _ _ _ _;have hg:∀ i:Nat,i<3->toI (flatRows 1 [Value.int .i64 m.boot,Value.int .i64 m.epoch,Value.int .i64 m.ready] (0+(i:Int).toNat) 0)=gl (nsM m) i:=fun i hi=>by
  rcases (by omega:i=0\/i=1\/i=2) with rfl|rfl|rfl<;>rfl
 have h0:∀ j:Nat,j<0->inN (gl (nsM m) j)=true:=fun j hj=>absurd hj (Nat.not_lt_zero j);refine ⟨⟨0,?_⟩,fun i hi=>?_⟩
 ·(repeat' apply And.intro)<;>first|with_reducible (first|rfl|trivial|assumption)|exact h0|(intro h_;revert h_)|omega|with_reducible exact RowsEq.refl _ _ _|rfl|exact RowsEq.refl _ _ _|exact Nat.le_refl _|(dsimp only;omega)|skip
 obtain ⟨hi,hall⟩:=hi;refine ⟨fun c1=>?_,fun c1 _=>?_⟩
 ·have hi3:i<3:=by have:=of_decide_eq_true c1;omega
  rw [hg i hi3];refine ⟨⟨by omega,by omega⟩,by omega,fun _=>⟨fun c2=>⟨(),?_,trivial,trivial⟩,fun c2=>⟨fun c3=>⟨(),?_,trivial,trivial⟩,fun c3=>⟨by simp only [InR];omega,i+1,?_⟩⟩⟩⟩
  ·exact (may_no hi3 (by have:=of_decide_eq_true c2;simp only [inN,Bool.and_eq_false_iff,decide_eq_false_iff_not];omega)).symm
  ·exact (may_no hi3 (by have:=of_decide_eq_true c3;simp only [inN,Bool.and_eq_false_iff,decide_eq_false_iff_not];omega)).symm
  ·have h1:∀ j,j<i+1->inN (gl (nsM m) j)=true:=fun j hj=>by
    by_cases e:j=i
    ·subst e;have:=of_decide_eq_false c2;have:=of_decide_eq_false c3;simp only [inN,Bool.and_eq_true,decide_eq_true_eq];omega
    ·exact hall j (by omega)
   (repeat' apply And.intro)<;>first|with_reducible (first|rfl|trivial|assumption)|exact h1|(intro h_;revert h_)|omega|with_reducible exact RowsEq.refl _ _ _|rfl|exact RowsEq.refl _ _ _|exact Nat.le_refl _|(dsimp only;omega)|skip
 ·have hi3:i=3:=by have:=of_decide_eq_false c1;omega
  subst hi3;rw [may_yes hall];refine ⟨fun d1=>⟨fun d2=>⟨(),?_⟩,fun d2 _=>⟨(),?_⟩⟩,fun d1 _ _=>⟨fun d2=>⟨fun d3=>⟨(),?_⟩,fun d3 _=>⟨(),?_⟩⟩,fun d2=>⟨(),?_⟩⟩⟩<;>simp [*])
theorem callMMay:CallsBy (Y Tryz.prog).G.X 47 cMMay:=fn_ok okY (tab:=[]) trivial bodyMMay
noncomputable def cMText:Con where
 α:=MetaM
 β:=Nat
 m:=0
 m':=1
 pre:=fun m=>mayM m=true
 args:=fun m=>[.agg (metaA m)]
 hp:=fun _=>[]
 ro:=fun _=>[]
 post:=fun _ _=>True
 res:=fun m c=>.a (.slc 0 0 1 (textM m).length c)
 hp':=fun m _=>byteHp 0 (textM m)
set_option maxHeartbeats 4000000 in
theorem bodyMText:fnBody (Y Tryz.prog) [(54,cNPuts)] 49 cMText fun _=>[]:=fnBody.of (p :=
 ∀ a:MetaM,mayM a=true->(a.frozen=true->InR .i64 a.boot->InR .i64 a.epoch->InR .i64 a.ready->∃ a_6:NPutsA,(0=a_6.l.length/\0=a_6.cap)/\(0=0/\4=a_6.ns.length/\4=a_6.ncap)/\a_6.l.length=0/\(a_6.ns.length<=4/\RowsEq a_6.ns.length 1 (flatRows 1 [Value.int IntKind.i64 a.boot,Value.int IntKind.i64 a.epoch,Value.int IntKind.i64 a.ready,Value.int IntKind.i64 (1:Int)]) (encRows encI a_6.ns))/\(a_6.l.length<10000/\a_6.ns.length<100/\∀ i:Nat,i<a_6.ns.length->(0:Int)<=gl a_6.ns i/\gl a_6.ns i<(4611686018427387904:Int))/\∀ b:Nat,True->∃ b_1:Nat,(0=0/\(a_6.l++putsB a_6.ns).length=(textM a).length/\b=b_1)/\((textM a).length<=(a_6.l++putsB a_6.ns).length/\RowsEq (textM a).length 1 (encRows encB (a_6.l++putsB a_6.ns)) (encRows encB (textM a)))/\True/\True)/\(a.frozen=false->InR .i64 a.boot->InR .i64 a.epoch->InR .i64 a.ready->∃ a_6:NPutsA,(0=a_6.l.length/\0=a_6.cap)/\(0=0/\4=a_6.ns.length/\4=a_6.ncap)/\a_6.l.length=0/\(a_6.ns.length<=4/\RowsEq a_6.ns.length 1 (flatRows 1 [Value.int IntKind.i64 a.boot,Value.int IntKind.i64 a.epoch,Value.int IntKind.i64 a.ready,Value.int IntKind.i64 (0:Int)]) (encRows encI a_6.ns))/\(a_6.l.length<10000/\a_6.ns.length<100/\∀ i:Nat,i<a_6.ns.length->(0:Int)<=gl a_6.ns i/\gl a_6.ns i<(4611686018427387904:Int))/\∀ b:Nat,True->∃ b_1:Nat,(0=0/\(a_6.l++putsB a_6.ns).length=(textM a).length/\b=b_1)/\((textM a).length<=(a_6.l++putsB a_6.ns).length /\
 RowsEq (textM a).length 1 (encRows encB (a_6.l++putsB a_6.ns)) (encRows encB (textM a)))/\True/\True)) (by kernel_rfl) (by
 intro m hm;have hr:=may_out2 hm;have key:∀ f:Int,0<=f->f<=1->textM m=putsB [m.boot,m.epoch,m.ready,f]->∃ a:NPutsA,a=⟨[],0,[m.boot,m.epoch,m.ready,f],4⟩/\([]++putsB [m.boot,m.epoch,m.ready,f])=textM m/\RowsEq 4 1 (flatRows 1 [Value.int .i64 m.boot,Value.int .i64 m.epoch,Value.int .i64 m.ready,Value.int .i64 f]) (encRows encI [m.boot,m.epoch,m.ready,f])/\∀ i:Nat,i<4->0<=gl [m.boot,m.epoch,m.ready,f] i/\gl [m.boot,m.epoch,m.ready,f] i<4611686018427387904:=fun f f0 f1 e=>by
  refine ⟨_,rfl,by rw [e];rfl,⟨fun i hi j hj=>?_⟩,fun i hi=>?_⟩
  ·obtain rfl:j=0:=by omega
   rcases (by omega:i=0\/i=1\/i=2\/i=3) with rfl|rfl|rfl|rfl<;>rfl
  ·rcases (by omega:i=0\/i=1\/i=2\/i=3) with rfl|rfl|rfl|rfl
   ·show 0<=m.boot/\m.boot<_;omega
   ·show 0<=m.epoch/\m.epoch<_;omega
   ·show 0<=m.ready/\m.ready<_;omega
   ·show 0<=f/\f<_;omega
 have l100:∀ f:Int,[m.boot,m.epoch,m.ready,f].length<100:=fun _=>by simp
 refine ⟨fun c _ _ _=>?_,fun c _ _ _=>?_⟩
 ·obtain ⟨a,rfl,e1,e2,e3⟩:=key 1 (by omega) (by omega) (by unfold textM;rw [c];rfl);refine ⟨NPutsA.mk [] 0 [m.boot,m.epoch,m.ready,1] 4,?_⟩;dsimp only;rw [e1]
  (repeat' apply And.intro)<;>first|with_reducible (first|rfl|trivial|assumption)|exact e2|exact e3|exact l100 _|(intro h_;revert h_)|omega|with_reducible exact RowsEq.refl _ _ _|rfl|exact RowsEq.refl _ _ _|exact Nat.le_refl _|(dsimp only;omega)|skip
  intro c _;refine ⟨c,?_⟩
  (repeat' apply And.intro)<;>first|with_reducible (first|rfl|trivial|assumption)|(intro h_;revert h_)|omega|with_reducible exact RowsEq.refl _ _ _|rfl|exact RowsEq.refl _ _ _|exact Nat.le_refl _|(dsimp only;omega)|skip
 ·obtain ⟨a,rfl,e1,e2,e3⟩:=key 0 (by omega) (by omega) (by unfold textM;rw [c];rfl);refine ⟨NPutsA.mk [] 0 [m.boot,m.epoch,m.ready,0] 4,?_⟩;dsimp only;rw [e1]
  (repeat' apply And.intro)<;>first|with_reducible (first|rfl|trivial|assumption)|exact e2|exact e3|exact l100 _|(intro h_;revert h_)|omega|with_reducible exact RowsEq.refl _ _ _|rfl|exact RowsEq.refl _ _ _|exact Nat.le_refl _|(dsimp only;omega)|skip
  intro c _;refine ⟨c,?_⟩
  (repeat' apply And.intro)<;>first|with_reducible (first|rfl|trivial|assumption)|(intro h_;revert h_)|omega|with_reducible exact RowsEq.refl _ _ _|rfl|exact RowsEq.refl _ _ _|exact Nat.le_refl _|(dsimp only;omega)|skip)
theorem callMText:CallsBy (Y Tryz.prog).G.X 49 cMText:=fn_ok okY (tab:=[(54,cNPuts)]) ⟨callNPuts,trivial⟩ bodyMText
structure KeepM where
 s:SupM
 m:MetaM
def keepHp (ke su tx dv:Nat) (k:KeepM) (cap:Nat):List (Nat × Chunk):=(ke,.obj 89 (.ptr su 0 0 0::metaA k.m))::supHp su tx dv k.s cap
def keep0 (at_:Nat):KeepM:=⟨⟨at_,1,textM m00,0⟩,m00⟩
theorem text_len {m:MetaM} (h:mayM m=true):1<=(textM m).length/\(textM m).length<=40:=by
 have:=may_out2 h;have a1:=vi_len m.boot;have a2:=vi_len m.epoch;have a3:=vi_len m.ready;have a4:=vi_len (if m.frozen then 1 else 0);simp only [textM,putsB,List.flatMap_cons,List.flatMap_nil,List.append_nil,List.length_append];omega
@[reducible] def keepQ (a b:KeepM) (v w:Nat) (p:Prop):Prop:=a.m.boot=b.m.boot/\a.m.epoch=b.m.epoch/\a.m.ready=b.m.ready/\a.m.frozen=b.m.frozen/\0=0/\(↑a.s.at_:Int)=(↑b.s.at_:Int)/\a.s.turn=b.s.turn/\(0=0/\a.s.text.length=b.s.text.length/\v=w)/\(↑a.s.slot:Int)=(↑b.s.slot:Int)/\(b.s.text.length<=a.s.text.length/\RowsEq b.s.text.length 1 (encRows encB a.s.text) (encRows encB b.s.text))/\p
structure MMkA where
 at_:Nat
 d:DevM
noncomputable def cMMake:Con where
 α:=MMkA
 β:=Nat
 m:=2
 m':=5
 pre:=fun a=>a.at_+1<a.d.n/\a.d.n<100000/\a.d.calls<800000000000
 args:=fun a=>[.a (.ptr 0 0 0 0),.a (.int .i64 a.at_)]
 hp:=fun a=>devHp 0 1 a.d
 ro:=fun _=>[]
 post:=fun _ _=>True
 res:=fun _ _=>.tup [.a (.ptr 2 0 0 0),.a (.lit .i64 0)]
 hp':=fun a c=>keepHp 2 3 4 0 (keep0 a.at_) c++devHp 0 1 (supMkD a.d a.at_ (textM m00))
set_option maxHeartbeats 4000000 in
theorem bodyMMake:fnBody (Y Tryz.prog) [(49,cMText),(61,cSMake)] 39 cMMake fun _=>[]:=fnBody.of (p :=
 ∀ a:MMkA,a.at_+1<a.d.n/\a.d.n<100000/\a.d.calls<800000000000->∃ a_2:MetaM,(0:Int)=a_2.boot/\(0:Int)=a_2.epoch/\(0:Int)=a_2.ready/\false=a_2.frozen/\mayM a_2=true/\∀ b:Nat,True->∃ a_4:SMkA,0=0/\(↑a.at_:Int)=(↑a_4.at_:Int)/\(0=0/\(textM a_2).length=a_4.b.length/\b=a_4.bc)/\devQ a.d a_4.d ((a_4.b.length<=(textM a_2).length/\RowsEq a_4.b.length 1 (encRows encB (textM a_2)) (encRows encB a_4.b))/\(a_4.at_+1<a_4.d.n/\a_4.d.n<100000/\a_4.d.calls<800000000000/\1<=a_4.b.length/\a_4.b.length<=40)/\∀ b:Nat,True->∃ b_1:Nat,0=0/\(0:Int)=0/\0=0/\(0:Int)=(keep0 a.at_).m.boot/\(0:Int)=(keep0 a.at_).m.epoch/\(0:Int)=(keep0 a.at_).m.ready/\false=(keep0 a.at_).m.frozen/\0=0/\(↑a_4.at_:Int)=(↑(keep0 a.at_).s.at_:Int)/\(1:Int)=(keep0 a.at_).s.turn/\(0=0/\a_4.b.length=(keep0 a.at_).s.text.length/\b=b_1)/\(↑(0:Nat):Int)=(↑(keep0 a.at_).s.slot:Int)/\((keep0 a.at_).s.text.length<=a_4.b.length/\RowsEq (keep0 a.at_).s.text.length 1 (encRows encB a_4.b) (encRows encB (keep0 a.at_).s.text))/\devQ (supMkD a_4.d a_4.at_ a_4.b) (supMkD a.d a.at_ (textM m00)) (True/\True))) (by kernel_rfl) (by
 rintro ⟨at_,d⟩ ⟨h1,h2,h3⟩;dsimp only at *;obtain ⟨l1,l2⟩:=text_len (show mayM m00=true from rfl);refine ⟨m00,rfl,rfl,rfl,rfl,rfl,fun b _=>⟨SMkA.mk at_ d (textM m00) b,?_⟩⟩;dsimp only
 (repeat' apply And.intro)<;>first|with_reducible (first|rfl|trivial|assumption)|exact l1|exact l2|(intro h_;revert h_)|omega|with_reducible exact RowsEq.refl _ _ _|rfl|exact RowsEq.refl _ _ _|exact Nat.le_refl _|(dsimp only;omega)|skip
 intro c _;refine ⟨c,?_⟩;dsimp only [keep0]
 (repeat' apply And.intro)<;>first|with_reducible (first|rfl|trivial|assumption)|(intro h_;revert h_)|omega|with_reducible exact RowsEq.refl _ _ _|rfl|exact RowsEq.refl _ _ _|exact Nat.le_refl _|(dsimp only;omega)|skip)
theorem callMMake:CallsBy (Y Tryz.prog).G.X 39 cMMake:=fn_ok okY (tab:=[(49,cMText),(61,cSMake)]) ⟨callMText,callSMake,trivial⟩ bodyMMake
structure MOpA where
 at_:Nat
 d:DevM
 m:MetaM
noncomputable def cMOpen:Con where
 α:=MOpA
 β:=Nat
 m:=2
 m':=5
 pre:=fun a=>cSOpen.pre ⟨a.at_,a.d⟩/\(supTo a.at_ a.d 2).text=textM a.m/\mayM a.m=true
 args:=fun a=>[.a (.ptr 0 0 0 0),.a (.int .i64 a.at_)]
 hp:=fun _=>[]
 ro:=fun a=>devHp 0 1 a.d
 post:=fun _ _=>True
 res:=fun _ _=>.tup [.a (.ptr 2 0 0 0),.a (.lit .i64 0)]
 hp':=fun a c=>keepHp 2 3 4 0 ⟨supTo a.at_ a.d 2,a.m⟩ c
set_option maxHeartbeats 4000000 in
theorem bodyMOpen:fnBody (Y Tryz.prog) [(64,cSOpen),(65,cSText),(87,cNGet),(47,cMMay)] 41 cMOpen fun _=>[]:=fnBody.of (p :=
 ∀ a:MOpA,(a.at_+1<a.d.n/\a.d.n<100000/\(supTo a.at_ a.d 2).turn≠(0:Int)/\∀ k:Nat,k<2->supG (supTo a.at_ a.d k) (a.d.now (a.at_+k))=true->(1:Int)<=a.d.now (a.at_+k) 12)/\(supTo a.at_ a.d 2).text=textM a.m/\mayM a.m=true->∃ a_2:SOpA,0=0/\(↑a.at_:Int)=(↑a_2.at_:Int)/\devQ a.d a_2.d ((a_2.at_+1<a_2.d.n/\a_2.d.n<100000/\(supTo a_2.at_ a_2.d 2).turn≠(0:Int)/\∀ k:Nat,k<2->supG (supTo a_2.at_ a_2.d k) (a_2.d.now (a_2.at_+k))=true->(1:Int)<=a_2.d.now (a_2.at_+k) 12)/\∀ b:Nat,True->∃ a_4:STxA,0=0/\0=0/\(↑(supTo a_2.at_ a_2.d 2).at_:Int)=(↑a_4.S.at_:Int)/\(supTo a_2.at_ a_2.d 2).turn=a_4.S.turn/\(0=0/\(supTo a_2.at_ a_2.d 2).text.length=a_4.S.text.length/\b=a_4.cap)/\(↑(supTo a_2.at_ a_2.d 2).slot:Int)=(↑a_4.S.slot:Int)/\(a_4.S.text.length<=(supTo a_2.at_ a_2.d 2).text.length/\RowsEq a_4.S.text.length 1 (encRows encB (supTo a_2.at_ a_2.d 2).text) (encRows encB a_4.S.text))/\(1<=a_4.S.text.length/\a_4.S.text.length<=40)/\∀ b_1:Nat,a_4.S.text.length<=b_1->((0:Int)<=0/\(0:Int)<4)/\((0:Int)<=0/\0<=(↑a_4.S.text.length:Int))/\∃ a_6:NGetA,(0=a_6.r/\a_4.S.text.length - 0=a_6.len/\b_1 - 0=a_6.cap)/\(a_6.l.length<=a_4.S.text.length/\RowsEq a_6.l.length 1 (encRows encB a_4.S.text) (encRows encB a_6.l))/\(a_6.r+a_6.len<=a_6.l.length/\a_6.len<100000/\a_6.len<=a_6.cap/\(0:Int)<=a_6.n/\a_6.n<(4611686018427387904:Int)/\(vi a_6.n).length<=a_6.len /\
 ∀ i:Nat,i<(vi a_6.n).length->gl a_6.l (a_6.r+i)=gl (vi a_6.n) i)/\∀ b_2:Unit,True->InR .i64 ((0:Int)+(↑(vi a_6.n).length:Int))/\((0:Int)<=1/\(1:Int)<4)/\((0:Int)<=0+(↑(vi a_6.n).length:Int)/\(0:Int)+(↑(vi a_6.n).length:Int)<=(↑a_4.S.text.length:Int))/\∃ a_8:NGetA,(0+((0:Int)+(↑(vi a_6.n).length:Int)).toNat=a_8.r/\a_4.S.text.length - ((0:Int)+(↑(vi a_6.n).length:Int)).toNat=a_8.len/\b_1 - ((0:Int)+(↑(vi a_6.n).length:Int)).toNat=a_8.cap)/\(a_8.l.length<=a_4.S.text.length/\RowsEq a_8.l.length 1 (encRows encB a_4.S.text) (encRows encB a_8.l))/\(a_8.r+a_8.len<=a_8.l.length/\a_8.len<100000/\a_8.len<=a_8.cap/\(0:Int)<=a_8.n/\a_8.n<(4611686018427387904:Int)/\(vi a_8.n).length<=a_8.len/\∀ i:Nat,i<(vi a_8.n).length->gl a_8.l (a_8.r+i)=gl (vi a_8.n) i)/\∀ b_3:Unit,True->InR .i64 ((0:Int)+(↑(vi a_6.n).length:Int)+(↑(vi a_8.n).length:Int))/\((0:Int)<=2/\(2:Int)<4)/\((0:Int)<=0+(↑(vi a_6.n).length:Int)+(↑(vi a_8.n).length:Int)/\(0:Int)+(↑(vi a_6.n).length:Int)+(↑(vi a_8.n).length:Int)<=(↑a_4.S.text.length:Int))/\∃ a_10:NGetA,(0+((0:Int)+(↑(vi a_6.n).length:Int)+(↑(vi a_8.n).length:Int)).toNat=a_10.r/\a_4.S.text.length - ((0:Int)+(↑(vi a_6.n).length:Int)+(↑(vi a_8.n).length:Int)).toNat=a_10.len/\b_1 - ((0:Int)+(↑(vi a_6.n).length:Int)+(↑(vi a_8.n).length:Int)).toNat=a_10.cap)/\(a_10.l.length<=a_4.S.text.length /\
 RowsEq a_10.l.length 1 (encRows encB a_4.S.text) (encRows encB a_10.l))/\(a_10.r+a_10.len<=a_10.l.length/\a_10.len<100000/\a_10.len<=a_10.cap/\(0:Int)<=a_10.n/\a_10.n<(4611686018427387904:Int)/\(vi a_10.n).length<=a_10.len/\∀ i:Nat,i<(vi a_10.n).length->gl a_10.l (a_10.r+i)=gl (vi a_10.n) i)/\∀ b_4:Unit,True->InR .i64 ((0:Int)+(↑(vi a_6.n).length:Int)+(↑(vi a_8.n).length:Int)+(↑(vi a_10.n).length:Int))/\((0:Int)<=3/\(3:Int)<4)/\((0:Int)<=0+(↑(vi a_6.n).length:Int)+(↑(vi a_8.n).length:Int)+(↑(vi a_10.n).length:Int)/\(0:Int)+(↑(vi a_6.n).length:Int)+(↑(vi a_8.n).length:Int)+(↑(vi a_10.n).length:Int)<=(↑a_4.S.text.length:Int))/\∃ a_12:NGetA,(0+((0:Int)+(↑(vi a_6.n).length:Int)+(↑(vi a_8.n).length:Int)+(↑(vi a_10.n).length:Int)).toNat=a_12.r/\a_4.S.text.length - ((0:Int)+(↑(vi a_6.n).length:Int)+(↑(vi a_8.n).length:Int)+(↑(vi a_10.n).length:Int)).toNat=a_12.len/\b_1 - ((0:Int)+(↑(vi a_6.n).length:Int)+(↑(vi a_8.n).length:Int)+(↑(vi a_10.n).length:Int)).toNat=a_12.cap)/\(a_12.l.length<=a_4.S.text.length/\RowsEq a_12.l.length 1 (encRows encB a_4.S.text) (encRows encB a_12.l))/\(a_12.r+a_12.len<=a_12.l.length/\a_12.len<100000/\a_12.len<=a_12.cap/\(0:Int)<=a_12.n/\a_12.n<(4611686018427387904:Int)/\(vi a_12.n).length<=a_12.len/\∀ i:Nat,i<(vi a_12.n).length->gl a_12.l (a_12.r+i)=gl (vi a_12.n) i)/\∀ b_5:Unit,True ->
 InR .i64 ((0:Int)+(↑(vi a_6.n).length:Int)+(↑(vi a_8.n).length:Int)+(↑(vi a_10.n).length:Int)+(↑(vi a_12.n).length:Int))/\(InR .i64 a_12.n->(((0:Int)+(↑(vi a_6.n).length:Int)+(↑(vi a_8.n).length:Int)+(↑(vi a_10.n).length:Int)+(↑(vi a_12.n).length:Int) != (↑a_4.S.text.length:Int))=true->∃ b:Nat,False)/\(((0:Int)+(↑(vi a_6.n).length:Int)+(↑(vi a_8.n).length:Int)+(↑(vi a_10.n).length:Int)+(↑(vi a_12.n).length:Int) != (↑a_4.S.text.length:Int))=false->∃ a_16:MetaM,a_6.n=a_16.boot/\a_8.n=a_16.epoch/\a_10.n=a_16.ready/\(a_12.n == (1:Int))=a_16.frozen/\True/\∀ b_6:Unit,True->((!mayM a_16)=true->∃ b:Nat,False)/\((!mayM a_16)=false->∃ b_7:Nat,0=0/\(0:Int)=0/\0=0/\a_6.n=a.m.boot/\a_8.n=a.m.epoch/\a_10.n=a.m.ready/\(a_12.n == (1:Int))=a.m.frozen/\0=0/\(↑(supTo a_2.at_ a_2.d 2).at_:Int)=(↑(supTo a.at_ a.d 2).at_:Int)/\(supTo a_2.at_ a_2.d 2).turn=(supTo a.at_ a.d 2).turn/\(0=0/\(supTo a_2.at_ a_2.d 2).text.length=(supTo a.at_ a.d 2).text.length/\b=b_7)/\(↑(supTo a_2.at_ a_2.d 2).slot:Int)=(↑(supTo a.at_ a.d 2).slot:Int)/\((supTo a.at_ a.d 2).text.length<=(supTo a_2.at_ a_2.d 2).text.length/\RowsEq (supTo a.at_ a.d 2).text.length 1 (encRows encB (supTo a_2.at_ a_2.d 2).text) (encRows encB (supTo a.at_ a.d 2).text))/\True/\True))))) (by kernel_rfl) (by
 rintro ⟨at_,d,m⟩ ⟨hp,htx,hm⟩;dsimp only at *;obtain ⟨l1,l2⟩:=text_len hm;obtain ⟨g1,g2,g3,g4⟩:=may_out2 hm;obtain ⟨u,hu⟩:∃ u,u=supTo at_ d 2:=⟨_,rfl⟩
 obtain ⟨f,hf⟩:∃ f:Int,f=if m.frozen then 1 else 0:=⟨_,rfl⟩
 have hf0:0<=f/\f<=1:=by rw [hf];split<;>omega
 obtain ⟨P,hP⟩:∃ P,P=vi m.boot:=⟨_,rfl⟩
 obtain ⟨Q,hQ⟩:∃ Q,Q=vi m.epoch:=⟨_,rfl⟩
 obtain ⟨R,hR⟩:∃ R,R=vi m.ready:=⟨_,rfl⟩
 obtain ⟨G,hG⟩:∃ G,G=vi f:=⟨_,rfl⟩
 obtain ⟨T,hT⟩:∃ T,T=textM m:=⟨_,rfl⟩
 have hI:T=P++(Q++(R++G)):=by
  rw [hT];simp only [textM,putsB,List.flatMap_cons,List.flatMap_nil,List.append_nil,hP,hQ,hR,hG,hf]
 have hL:T.length=P.length+(Q.length+(R.length+G.length)):=by rw [hI];simp only [List.length_append]
 have fP:∀ i,i<P.length->gl T (0+i)=gl P i:=fun i hi=>by rw [Nat.zero_add,hI,gl_append_left hi]
 have fQ:∀ i,i<Q.length->gl T (P.length+i)=gl Q i:=fun i hi=>by
  rw [hI,gl_append_right,gl_append_left hi]
 have fR:∀ i,i<R.length->gl T (P.length+Q.length+i)=gl R i:=fun i hi=>by
  rw [hI,Nat.add_assoc,gl_append_right,gl_append_right,gl_append_left hi]
 have fG:∀ i,i<G.length->gl T (P.length+Q.length+R.length+i)=gl G i:=fun i hi=>by
  rw [hI,Nat.add_assoc,Nat.add_assoc,gl_append_right,gl_append_right,gl_append_right]
 rw [<- hT] at htx l1 l2;rw [<- hu] at htx;refine ⟨SOpA.mk at_ d,?_⟩;dsimp only;rw [<- hu]
 (repeat' apply And.intro)<;>first|with_reducible (first|rfl|trivial|assumption)|exact hp.1|exact hp.2.1|exact hp.2.2.1|exact hp.2.2.2|exact hp|(intro h_;revert h_)|omega|with_reducible exact RowsEq.refl _ _ _|rfl|exact RowsEq.refl _ _ _|exact Nat.le_refl _|(dsimp only;omega)|skip
 all_goals first|(rw [hu];exact hp.2.2.1)|skip
 intro b _;refine ⟨STxA.mk u b,?_⟩;dsimp only;rw [htx]
 (repeat' apply And.intro)<;>first|with_reducible (first|rfl|trivial|assumption)|(intro h_;revert h_)|omega|with_reducible exact RowsEq.refl _ _ _|rfl|exact RowsEq.refl _ _ _|exact Nat.le_refl _|(dsimp only;omega)|skip
 intro c hc
 repeat (first|refine And.intro (by omega) ?_|refine And.intro (by dsimp only;omega) ?_|refine And.intro (by simp only [InR];omega) ?_)
 refine ⟨NGetA.mk T 0 T.length c m.boot,?_⟩;simp only [<- hP]
 (repeat' apply And.intro)<;>first|with_reducible (first|rfl|trivial|assumption)|exact fP|(intro h_;revert h_)|omega|with_reducible exact RowsEq.refl _ _ _|rfl|exact RowsEq.refl _ _ _|exact Nat.le_refl _|(dsimp only;omega)|skip
 intro _ _;refine ⟨by simp only [InR];omega,⟨by omega,by omega⟩,⟨by omega,by omega⟩,NGetA.mk T P.length (T.length - P.length) (c - P.length) m.epoch,?_⟩;simp only [<- hQ]
 (repeat' apply And.intro)<;>first|with_reducible (first|rfl|trivial|assumption)|exact fQ|(intro h_;revert h_)|omega|with_reducible exact RowsEq.refl _ _ _|rfl|exact RowsEq.refl _ _ _|exact Nat.le_refl _|(dsimp only;omega)|skip
 intro _ _;refine ⟨by simp only [InR];omega,⟨by omega,by omega⟩,⟨by omega,by omega⟩,NGetA.mk T (P.length+Q.length) (T.length - (P.length+Q.length)) (c - (P.length+Q.length)) m.ready,?_⟩;simp only [<- hR]
 (repeat' apply And.intro)<;>first|with_reducible (first|rfl|trivial|assumption)|exact fR|(intro h_;revert h_)|omega|with_reducible exact RowsEq.refl _ _ _|rfl|exact RowsEq.refl _ _ _|exact Nat.le_refl _|(dsimp only;omega)|skip
 intro _ _;refine ⟨by simp only [InR];omega,⟨by omega,by omega⟩,⟨by omega,by omega⟩,NGetA.mk T (P.length+Q.length+R.length) (T.length - (P.length+Q.length+R.length)) (c - (P.length+Q.length+R.length)) f,?_⟩;simp only [<- hG]
 (repeat' apply And.intro)<;>first|with_reducible (first|rfl|trivial|assumption)|exact fG|(intro h_;revert h_)|omega|with_reducible exact RowsEq.refl _ _ _|rfl|exact RowsEq.refl _ _ _|exact Nat.le_refl _|(dsimp only;omega)|skip
 intro _ _;have hfz:(f == 1)=m.frozen:=by rw [hf];cases m.frozen<;>rfl
 refine ⟨by simp only [InR];omega,fun _=>⟨fun e=>by (exfalso;simp at e;omega),fun _=>⟨m,rfl,rfl,rfl,hfz,trivial,fun _ _=>⟨fun e=>by (exfalso;rw [hm] at e;cases e),fun _=>⟨b,?_⟩⟩⟩⟩⟩;rw [hfz]
 (repeat' apply And.intro)<;>first|with_reducible (first|rfl|trivial|assumption)|(intro h_;revert h_)|omega|with_reducible exact RowsEq.refl _ _ _|rfl|exact RowsEq.refl _ _ _|exact Nat.le_refl _|(dsimp only;omega)|skip)
theorem callMOpen:CallsBy (Y Tryz.prog).G.X 41 cMOpen:=fn_ok okY (tab:=[(64,cSOpen),(65,cSText),(87,cNGet),(47,cMMay)]) ⟨callSOpen,callSText,callNGet,callMMay,trivial⟩ bodyMOpen
def okSave (k:KeepM) (m:MetaM):Bool:=mayM m&&(!decide (m.boot<k.m.boot)&&!decide (m.epoch<k.m.epoch))
def saveK (k:KeepM) (m:MetaM):KeepM:=if okSave k m then ⟨supW k.s (1 - k.s.slot) (k.s.turn+1) (textM m),m⟩ else k
def saveD (k:KeepM) (d:DevM) (m:MetaM):DevM:=if okSave k m then supD k.s d (1 - k.s.slot) (k.s.turn+1) (textM m) else d
structure MSvA where
 k:KeepM
 cap:Nat
 d:DevM
 m:MetaM
noncomputable def cMSave:Con where
 α:=MSvA
 β:=Nat
 m:=5
 m':=6
 pre:=fun a=>a.k.s.at_+1<a.d.n/\a.k.s.slot<=1/\a.d.n<100000/\a.d.calls<900000000000/\0<=a.k.s.turn/\a.k.s.turn<1000000000000
 args:=fun a=>[.a (.ptr 0 0 0 0),.agg (metaA a.m)]
 hp:=fun a=>keepHp 0 1 2 3 a.k a.cap++devHp 3 4 a.d
 ro:=fun _=>[]
 post:=fun _ _=>True
 res:=fun a _=>.a (.int .i64 (if okSave a.k a.m then 0 else 1))
 hp':=fun a c=>keepHp 0 1 5 3 (saveK a.k a.m) c++devHp 3 4 (saveD a.k a.d a.m)
set_option maxHeartbeats 4000000 in
theorem bodyMSave:fnBody (Y Tryz.prog) [(47,cMMay),(49,cMText),(48,cSSave)] 22 cMSave fun _=>[]:=fnBody.of (p :=
 ∀ a:MSvA,a.k.s.at_+1<a.d.n/\a.k.s.slot<=1/\a.d.n<100000/\a.d.calls<900000000000/\(0:Int)<=a.k.s.turn/\a.k.s.turn<(1000000000000:Int)->∃ a_2:MetaM,a.m.boot=a_2.boot/\a.m.epoch=a_2.epoch/\a.m.ready=a_2.ready/\a.m.frozen=a_2.frozen/\True/\∀ b:Unit,True->((!mayM a_2)=true->∃ b:Nat,((1:Int)=if okSave a.k a.m=true then (0:Int) else (1:Int))/\0=0/\keepQ a.k (saveK a.k a.m) a.cap b (devQ a.d (saveD a.k a.d a.m) (True/\True)))/\((!mayM a_2)=false->InR .i64 a.m.boot->InR .i64 a.k.m.boot->(decide (a.m.boot<a.k.m.boot)=true->∃ b:Nat,((1:Int)=if okSave a.k a.m=true then (0:Int) else (1:Int))/\0=0/\keepQ a.k (saveK a.k a.m) a.cap b (devQ a.d (saveD a.k a.d a.m) (True/\True)))/\(decide (a.m.boot<a.k.m.boot)=false->InR .i64 a.m.epoch->InR .i64 a.k.m.epoch->(decide (a.m.epoch<a.k.m.epoch)=true->∃ b:Nat,((1:Int)=if okSave a.k a.m=true then (0:Int) else (1:Int))/\0=0/\keepQ a.k (saveK a.k a.m) a.cap b (devQ a.d (saveD a.k a.d a.m) (True/\True)))/\(decide (a.m.epoch<a.k.m.epoch)=false->∃ a_11:MetaM,a.m.boot=a_11.boot/\a.m.epoch=a_11.epoch/\a.m.ready=a_11.ready/\a.m.frozen=a_11.frozen/\mayM a_11=true/\∀ b:Nat,True->∃ a_13:SSvA,0=0/\(0=0/\(textM a_11).length=a_13.b.length/\b=a_13.bc)/\0=0/\(↑a.k.s.at_:Int)=(↑a_13.S.at_:Int)/\a.k.s.turn=a_13.S.turn/\(0=0/\a.k.s.text.length=a_13.S.text.length/\a.cap=a_13.cap)/\(↑a.k.s.slot:Int)=(↑a_13.S.slot:Int) /\
 (a_13.S.text.length<=a.k.s.text.length/\RowsEq a_13.S.text.length 1 (encRows encB a.k.s.text) (encRows encB a_13.S.text))/\devQ a.d a_13.d ((a_13.b.length<=(textM a_11).length/\RowsEq a_13.b.length 1 (encRows encB (textM a_11)) (encRows encB a_13.b))/\(a_13.S.at_+1<a_13.d.n/\a_13.S.slot<=1/\a_13.d.n<100000/\a_13.d.calls<900000000000/\1<=a_13.b.length/\a_13.b.length<=40/\(0:Int)<=a_13.S.turn/\a_13.S.turn<(1000000000000:Int))/\∀ b:Nat,True->∃ b_1:Nat,((0:Int)=if okSave a.k a.m=true then (0:Int) else (1:Int))/\0=0/\a.m.boot=(saveK a.k a.m).m.boot/\a.m.epoch=(saveK a.k a.m).m.epoch/\a.m.ready=(saveK a.k a.m).m.ready/\a.m.frozen=(saveK a.k a.m).m.frozen/\0=0/\(↑(supW a_13.S (1 - a_13.S.slot) (a_13.S.turn+(1:Int)) a_13.b).at_:Int)=(↑(saveK a.k a.m).s.at_:Int)/\(supW a_13.S (1 - a_13.S.slot) (a_13.S.turn+(1:Int)) a_13.b).turn=(saveK a.k a.m).s.turn/\(0=0/\(supW a_13.S (1 - a_13.S.slot) (a_13.S.turn+(1:Int)) a_13.b).text.length=(saveK a.k a.m).s.text.length/\b=b_1)/\(↑(supW a_13.S (1 - a_13.S.slot) (a_13.S.turn+(1:Int)) a_13.b).slot:Int)=(↑(saveK a.k a.m).s.slot:Int)/\((saveK a.k a.m).s.text.length<=(supW a_13.S (1 - a_13.S.slot) (a_13.S.turn+(1:Int)) a_13.b).text.length/\RowsEq (saveK a.k a.m).s.text.length 1 (encRows encB (supW a_13.S (1 - a_13.S.slot) (a_13.S.turn+(1:Int)) a_13.b).text) (encRows encB (saveK a.k a.m).s.text))/\devQ (supD a_13.S a_13.d (1 - a_13.S.slot) (a_13.S.turn+(1:Int)) a_13.b) (saveD a.k a.d a.m) (True /\
 True)))))) (by kernel_rfl) (by
 rintro ⟨k,cap,d,m⟩ ⟨h1,h2,h3,h4,h5,h6⟩;dsimp only at *;have no:okSave k m=false->saveK k m=k/\saveD k d m=d:=fun h=>⟨if_neg (by rw [h];decide),if_neg (by rw [h];decide)⟩
 refine ⟨m,rfl,rfl,rfl,rfl,trivial,fun _ _=>⟨fun c=>?_,fun c _ _=>⟨fun c2=>?_,fun c2 _ _=>⟨fun c3=>?_,fun c3=>?_⟩⟩⟩⟩
 ·have hk:okSave k m=false:=by unfold okSave;simp only [Bool.not_eq_true'] at c;rw [c];rfl
  obtain ⟨e1,e2⟩:=no hk;rw [e1,e2,hk];refine ⟨cap,?_⟩
  (repeat' apply And.intro)<;>first|with_reducible (first|rfl|trivial|assumption)|(intro h_;revert h_)|omega|with_reducible exact RowsEq.refl _ _ _|rfl|exact RowsEq.refl _ _ _|exact Nat.le_refl _|(dsimp only;omega)|skip
 ·have hk:okSave k m=false:=by unfold okSave;rw [c2];simp
  obtain ⟨e1,e2⟩:=no hk;rw [e1,e2,hk];refine ⟨cap,?_⟩
  (repeat' apply And.intro)<;>first|with_reducible (first|rfl|trivial|assumption)|(intro h_;revert h_)|omega|with_reducible exact RowsEq.refl _ _ _|rfl|exact RowsEq.refl _ _ _|exact Nat.le_refl _|(dsimp only;omega)|skip
 ·have hk:okSave k m=false:=by unfold okSave;rw [c3];simp
  obtain ⟨e1,e2⟩:=no hk;rw [e1,e2,hk];refine ⟨cap,?_⟩
  (repeat' apply And.intro)<;>first|with_reducible (first|rfl|trivial|assumption)|(intro h_;revert h_)|omega|with_reducible exact RowsEq.refl _ _ _|rfl|exact RowsEq.refl _ _ _|exact Nat.le_refl _|(dsimp only;omega)|skip
 ·have hm:mayM m=true:=by simpa using c
  have hk:okSave k m=true:=by unfold okSave;rw [hm,c2,c3];rfl
  obtain ⟨l1,l2⟩:=text_len hm;have e1:saveK k m=⟨supW k.s (1 - k.s.slot) (k.s.turn+1) (textM m),m⟩:=if_pos hk;have e2:saveD k d m=supD k.s d (1 - k.s.slot) (k.s.turn+1) (textM m):=if_pos hk;rw [e1,e2,hk];refine ⟨m,rfl,rfl,rfl,rfl,hm,fun bc _=>⟨SSvA.mk k.s cap d (textM m) bc,?_⟩⟩;dsimp only
  (repeat' apply And.intro)<;>first|with_reducible (first|rfl|trivial|assumption)|exact l1|exact l2|(intro h_;revert h_)|omega|with_reducible exact RowsEq.refl _ _ _|rfl|exact RowsEq.refl _ _ _|exact Nat.le_refl _|(dsimp only;omega)|skip
  intro c' _;refine ⟨c',?_⟩
  (repeat' apply And.intro)<;>first|with_reducible (first|rfl|trivial|assumption)|(intro h_;revert h_)|omega|with_reducible exact RowsEq.refl _ _ _|rfl|exact RowsEq.refl _ _ _|exact Nat.le_refl _|(dsimp only;omega)|skip)
theorem callMSave:CallsBy (Y Tryz.prog).G.X 22 cMSave:=fn_ok okY (tab:=[(47,cMMay),(49,cMText),(48,cSSave)]) ⟨callMMay,callMText,callSSave,trivial⟩ bodyMSave
end Go.Proofs.YtfhkbihcfmbbcaaGreat

namespace Go.Proofs.YtfhkbihcfmbbcaaGreat
open Go.Sx
set_option maxRecDepth 100000
set_option linter.unusedVariables false
set_option linter.unusedSimpArgs false
structure StM where
 d:DevM
 cL:LogM
 cl:List (ByteArray × Int)
 jL:LogM
 ms:List MarkM
 k:KeepM
 boot:Int
structure StP where
 H:PH
 cy:LogL
 x:Ix.IdxR
 xc:Nat
 jy:LogL
 jc:Nat
 kc:Nat
def StM.fl (s:StM):FlM:=⟨s.cL,s.d,s.cl⟩
def StP.fl (p:StP):FlP:=⟨p.H,p.cy,p.x,p.xc⟩
def StM.jr (s:StM):JrM:=⟨s.jL,s.d,s.ms⟩
def StP.jr (p:StP):JrP:=⟨p.H,p.jy,p.jc⟩
def stO (ca jr ke:Nat) (boot:Int):Chunk:=.obj 41 [.ptr ca 0 0 0,.ptr jr 0 0 0,.ptr ke 0 0 0,.int .i64 boot]
def storeHp (st ca cl dv ds ix it jr ma jl ke su tx pl:Nat) (s:StM) (p:StP):List (Nat × Chunk) :=
 [(st,stO ca jr ke s.boot),(ca,.obj 96 [.ptr cl 0 0 0,.ptr ix 0 0 0]),(cl,logObj dv s.cL p.cy.lv)]++devHp dv ds s.d++Ix.idxHp ix it p.x.t p.xc p.x.n p.x.used ++
 [(jr,jrO jl ma s.ms.length p.jc),(ma,.arr 105 ksMark s.ms.length (encRows encMark s.ms)),(jl,logObj dv s.jL p.jy.lv)]++keepHp ke su tx dv s.k p.kc++[(pl,.pool p.H)]
structure StAt (s:StM) (p:StP):Prop where
 fl:FlAt s.fl p.fl
 jl:LogAt p.H p.jy s.jL
 sep:∀ z,z∈fpLog p.jy->z∉fpLog p.cy
 cap:s.ms.length<=p.jc
@[reducible] def storeQ (a b:StM) (p q:StP) (r:Prop):Prop:=a.boot=b.boot/\0=0/\0=0/\0=0/\logQ a.cL b.cL p.cy.lv q.cy.lv (devQ a.d b.d (idxQ p.x q.x p.xc q.xc (0=0/\markQ a.ms b.ms p.jc q.jc (0=0/\logQ a.jL b.jL p.jy.lv q.jy.lv (0=0/\keepQ a.k b.k p.kc q.kc r)))))
def StFr (H:PH) (c j:List Nat) (p:StP):Prop:=∀ z,H z≠none->z∉c->z∉j->p.H z=H z/\z∉fpLog p.cy/\z∉fpLog p.jy
def bootM (m:MetaM):MetaM:={ m with boot:=m.boot+1 }
def segsS (n:Nat):Nat:=min 200 ((n - 162) / 8)
structure PartA where
 k:KeepM
 kc:Nat
 d:DevM
 H:PH
 ms:List MarkM
 es:List (Option ItemM)
def partD (a:PartA):DevM:=saveD a.k a.d (bootM a.k.m)
def partM (a:PartA):StM:=⟨partD a,openM 162 (segsS a.d.n) (partD a),idxTo a.es (allR (openM 162 (segsS a.d.n) (partD a)).l) a.es.length,openM 2 20 (partD a),a.ms,saveK a.k (bootM a.k.m),a.k.m.boot+1⟩
structure PartOk (a:PartA):Prop where
 n:192<=a.d.n/\a.d.n<100000
 calls:a.d.calls<900000000000
 save:okSave a.k (bootM a.k.m)=true
 k:a.k.s.at_=0/\a.k.s.slot<=1/\0<=a.k.s.turn/\a.k.s.turn<1000000000000
 jr:∀ H,cJOpen.pre ⟨H,partD a,2,20,a.ms⟩
 fl:∀ H,cFOpen.pre ⟨H,partD a,162,segsS a.d.n,a.es⟩
noncomputable def cParts:Con where
 α:=PartA
 β:=StP
 m:=6
 m':=16
 pre:=fun a=>PartOk a
 args:=fun a=>[.a (.ptr 0 0 0 0),.a (.ptr 2 0 0 0)]
 hp:=fun a=>keepHp 2 3 4 0 a.k a.kc++devHp 0 1 a.d++[(5,.pool a.H)]
 ro:=fun _=>[]
 post:=fun a b=>StAt (partM a) b/\StFr a.H [] [] b
 res:=fun _ _=>.tup [.a (.ptr 6 0 0 0),.a (.lit .i64 0)]
 hp':=fun a b=>storeHp 6 7 8 0 1 9 10 11 12 13 2 3 14 15 (partM a) b
noncomputable def tabParts:List (Nat × Con):=[(22,cMSave),(62,cJOpen),(63,cFOpen)]
set_option maxHeartbeats 4000000 in
theorem bodyParts:fnBody (Y Tryz.prog) tabParts 40 cParts fun _=>[]:=fnBody.of (p :=
 ∀ a:PartA,PartOk a->InR .i64 a.k.m.boot->InR .i64 (a.k.m.boot+(1:Int))/\∃ a_3:MSvA,0=0/\a.k.m.boot+(1:Int)=a_3.m.boot/\a.k.m.epoch=a_3.m.epoch/\a.k.m.ready=a_3.m.ready/\a.k.m.frozen=a_3.m.frozen/\0=0/\keepQ a.k a_3.k a.kc a_3.cap (devQ a.d a_3.d ((a_3.k.s.at_+1<a_3.d.n/\a_3.k.s.slot<=1/\a_3.d.n<100000/\a_3.d.calls<900000000000/\(0:Int)<=a_3.k.s.turn/\a_3.k.s.turn<(1000000000000:Int))/\∀ b:Nat,True->(((if okSave a_3.k a_3.m=true then (0:Int) else (1:Int)) != (0:Int))=true->∃ b:StP,False)/\(((if okSave a_3.k a_3.m=true then (0:Int) else (1:Int)) != (0:Int))=false->∃ a_6:JOpA,0=0/\2=(↑a_6.from_:Int)/\20=(↑a_6.segs:Int)/\a.H=a_6.H/\devQ (saveD a_3.k a_3.d a_3.m) a_6.d ((20<=a_6.segs/\OpenOk a_6.from_ a_6.segs a_6.d/\MsOk a_6.ms (allR (openM a_6.from_ a_6.segs a_6.d).l)/\∀ i:Nat,i<(openM a_6.from_ a_6.segs a_6.d).l.length->(gl (openM a_6.from_ a_6.segs a_6.d).l i).recs.length<=400)/\∀ b_1:JrP,LogAt b_1.H b_1.y (openM a_6.from_ a_6.segs a_6.d)/\(∀ z:Nat,a_6.H z≠none->b_1.H z=a_6.H z/\¬z∈fpLog b_1.y)/\a_6.ms.length<=b_1.cap->InR .i64 ((↑(saveD a_3.k a_3.d a_3.m).n:Int) - 162)/\(8:Int)≠(0:Int)/\InR .i64 (((↑(saveD a_3.k a_3.d a_3.m).n:Int) - 162).tdiv (8:Int))/\∃ a_8:FOpenA,0=0/\162=(↑a_8.from_:Int)/\(bif false then max (200:Int) (((↑(saveD a_3.k a_3.d a_3.m).n:Int) - 162).tdiv (8:Int)) else min (200:Int) (((↑(saveD a_3.k a_3.d a_3.m).n:Int) - 162).tdiv (8:Int)))=(↑a_8.segs:Int) /\
 b_1.H=a_8.H/\devQ (saveD a_3.k a_3.d a_3.m) a_8.d ((OpenOk a_8.from_ a_8.segs a_8.d/\EsOk a_8.es (allR (openM a_8.from_ a_8.segs a_8.d).l)/\∀ i:Nat,i<(openM a_8.from_ a_8.segs a_8.d).l.length->(gl (openM a_8.from_ a_8.segs a_8.d).l i).recs.length<=400)/\∀ b_2:FlP,(FlAt (opnF a_8) b_2/\∀ z:Nat,a_8.H z≠none->b_2.H z=a_8.H z/\¬z∈fpLog b_2.y)->InR .i64 (a.k.m.boot+(1:Int))->∃ b_3:StP,0=0/\(0:Int)=0/\0=0/\0=0/\0=0/\a.k.m.boot+(1:Int)=(partM a).boot/\0=0/\0=0/\0=0/\logQ (opnF a_8).L (partM a).cL b_2.y.lv b_3.cy.lv (devQ (saveD a_3.k a_3.d a_3.m) (partM a).d (idxQ b_2.x b_3.x b_2.cap b_3.xc (0=0/\markQ a_6.ms (partM a).ms b_1.cap b_3.jc (0=0/\logQ (openM a_6.from_ a_6.segs a_6.d) (partM a).jL b_1.y.lv b_3.jy.lv (0=0/\keepQ (saveK a_3.k a_3.m) (partM a).k b b_3.kc (b_2.H=b_3.H/\(StAt (partM a) b_3/\StFr a.H [] [] b_3)/\True)))))))))))) (by kernel_rfl) (by
 rintro ⟨k,kc,d,H,ms,es⟩ ok hb;obtain ⟨⟨n1,n2⟩,hcl,hsv,⟨k1,k2,k3,k4⟩,hjr,hfl⟩:=ok;dsimp only at *;have hm:mayM (bootM k.m)=true:=by
  have:=hsv;unfold okSave at this;simp only [Bool.and_eq_true] at this;exact this.1
 obtain ⟨g1,g2,g3,g4⟩:=may_out2 hm;have g1:0<=k.m.boot+1/\k.m.boot+1<=1099511627776:=g1;obtain ⟨D,hD⟩:∃ D,D=saveD k d (bootM k.m):=⟨_,rfl⟩
 have hDn:D.n=d.n:=by rw [hD];unfold saveD;split<;>rfl
 have hk0:k.s.at_+1<d.n:=by omega
 have hjr:cJOpen.pre ⟨H,D,2,20,ms⟩:=by rw [hD];exact hjr H
 obtain ⟨j1,j2,j3,j4⟩:=hjr;have e:partM ⟨k,kc,d,H,ms,es⟩=⟨D,openM 162 (segsS d.n) D,idxTo es (allR (openM 162 (segsS d.n) D).l) es.length,openM 2 20 D,ms,saveK k (bootM k.m),k.m.boot+1⟩:=by rw [hD];rfl
 rw [e];refine ⟨by simp only [InR];omega,MSvA.mk k kc d (bootM k.m),?_⟩;dsimp only;rw [hsv,<- hD]
 (repeat' apply And.intro)<;>first|with_reducible (first|rfl|trivial|assumption)|(intro h_;revert h_)|omega|with_reducible exact RowsEq.refl _ _ _|rfl|exact RowsEq.refl _ _ _|exact Nat.le_refl _|(dsimp only;omega)|skip
 intro b _;refine ⟨fun c=>absurd c (by decide),fun _=>⟨JOpA.mk H D 2 20 ms,?_⟩⟩;dsimp only
 (repeat' apply And.intro)<;>first|with_reducible (first|rfl|trivial|assumption)|exact j2|exact j3|exact j4|(intro h_;revert h_)|omega|with_reducible exact RowsEq.refl _ _ _|rfl|exact RowsEq.refl _ _ _|exact Nat.le_refl _|(dsimp only;omega)|skip
 rintro ⟨H1,y1,jc⟩ ⟨hl1,hf1,hc1⟩;dsimp only at hl1 hf1 hc1 ⊢;have hfl:cFOpen.pre ⟨H1,D,162,segsS d.n,es⟩:=by rw [hD];exact hfl H1
 obtain ⟨f1,f2,f3⟩:=hfl;have hdv:((D.n:Int) - 162).tdiv 8=(((d.n - 162) / 8:Nat):Int):=by
  rw [hDn,Int.tdiv_eq_ediv_of_nonneg (by omega)];omega
 rw [hdv];have hsg:(bif false then max (200:Int) (((d.n - 162) / 8:Nat):Int) else min 200 (((d.n - 162) / 8:Nat):Int))=(segsS d.n:Nat):=by
  simp only [cond_false,segsS];omega
 refine ⟨by simp only [InR];omega,by decide,by simp only [InR];omega,FOpenA.mk H1 D 162 (segsS d.n) es,?_⟩;dsimp only
 (repeat' apply And.intro)<;>first|with_reducible (first|rfl|trivial|assumption)|exact hsg|exact f1|exact f2|exact f3|(intro h_;revert h_)|omega|with_reducible exact RowsEq.refl _ _ _|rfl|exact RowsEq.refl _ _ _|exact Nat.le_refl _|(dsimp only;omega)|skip
 rintro ⟨H2,y2,x2,xc2⟩ ⟨hat2,hf2⟩ _;dsimp only at hf2 ⊢;refine ⟨⟨H2,y2,x2,xc2,y1,jc,b⟩,?_⟩;have hat:StAt ⟨D,openM 162 (segsS d.n) D,idxTo es (allR (openM 162 (segsS d.n) D).l) es.length,openM 2 20 D,ms,saveK k (bootM k.m),k.m.boot+1⟩ ⟨H2,y2,x2,xc2,y1,jc,b⟩ :=
  ⟨hat2,hl1.frame fun z hz=>(hf2 z (hl1.dom z hz)).1,fun z hz=>(hf2 z (hl1.dom z hz)).2,hc1⟩
 have hfr:StFr H [] [] ⟨H2,y2,x2,xc2,y1,jc,b⟩:=fun z hz _ _=>by
  obtain ⟨a1,a2⟩:=hf1 z hz;obtain ⟨b1,b2⟩:=hf2 z (by rw [a1];exact hz);exact ⟨b1.trans a1,b2,a2⟩
 dsimp only [opnF]
 (repeat' apply And.intro)<;>first|with_reducible (first|rfl|trivial|assumption)|exact hat|exact hfr|(intro h_;revert h_)|omega|with_reducible exact RowsEq.refl _ _ _|rfl|exact RowsEq.refl _ _ _|exact Nat.le_refl _|(dsimp only;omega)|skip)
theorem callParts:CallsBy (Y Tryz.prog).G.X 40 cParts:=fn_ok okY (tab:=tabParts) ⟨callMSave,callJOpen,callFOpen,trivial⟩ bodyParts
def zeroTo (d:DevM) (i:Nat):DevM:=⟨d.n,fun r j=>if r<i/\j<64 then 0 else d.now r j,d.lasts,fun r=>if r<i then true else d.loose r,d.calls+i⟩
structure SMakA where
 d:DevM
 H:PH
def makA (a:SMakA):PartA:=⟨keep0 0,0,supMkD (zeroTo a.d a.d.n) 0 (textM m00),a.H,[],[]⟩
noncomputable def cStMake:Con where
 α:=SMakA
 β:=StP
 m:=3
 m':=17
 pre:=fun a=>192<=a.d.n/\a.d.n<100000/\a.d.calls<100000000000/\PartOk (makA a)
 args:=fun a=>[.a (.ptr 0 0 0 0)]
 hp:=fun a=>devHp 0 1 a.d++[(2,.pool a.H)]
 ro:=fun _=>[]
 post:=fun a b=>StAt (partM (makA a)) b/\StFr a.H [] [] b
 res:=fun _ _=>.tup [.a (.ptr 3 0 0 0),.a (.lit .i64 0)]
 hp':=fun a b=>storeHp 3 4 5 0 1 6 7 8 9 10 11 12 13 14 (partM (makA a)) b
def iStMake (a:SMakA):An:=.flat 5 Nat (fun s i=>((s.at_ 0 (.obj 83 [.slc 1 0 129 a.d.n a.d.n,.int .i64 (zeroTo a.d i).calls])).at_ 1 (.arr 86 ksSec a.d.n (rowsD (zeroTo a.d i)))).int 16 i) (fun _ i=>i<=a.d.n) (fun _ i=>a.d.n - i)
noncomputable def tabMake:List (Nat × Con):=[(38,cDevWrite),(39,cMMake),(40,cParts)]
set_option maxHeartbeats 4000000 in
theorem bodyStMake:fnBody (Y Tryz.prog) tabMake 10 cStMake fun a=>[(10,[iStMake a],[])]:=fnBody.of (p :=
 ∀ a:SMakA,192<=a.d.n/\a.d.n<100000/\a.d.calls<100000000000/\PartOk (makA a)->(decide ((↑a.d.n:Int)<192)=true->∃ b:StP,False)/\(decide ((↑a.d.n:Int)<192)=false->(∃ a_3:Nat,0=(↑a_3:Int)/\(↑a.d.n:Int)=(↑a.d.n:Int)/\false=false/\(0:Int)=0/\(0:Int)=0/\0=0/\(0=0/\a.d.n=a.d.n/\a.d.n=a.d.n)/\(↑a.d.calls:Int)=(↑(zeroTo a.d a_3).calls:Int)/\(a.d.n<=a.d.n/\RowsEq a.d.n 129 (rowsD a.d) (rowsD (zeroTo a.d a_3)))/\a.H=a.H/\a_3<=a.d.n/\True)/\∀ a_3:Nat,a_3<=a.d.n->(decide ((↑a_3:Int)<(↑a.d.n:Int))=true->(0:Int)<=64/\(64:Int)<=64/\(64:Int)<=281474976710656/\∃ a_6:WrA,0=0/\(↑a_3:Int)=(↑a_6.i:Int)/\(0=a_6.r/\64=a_6.len/\64=a_6.cap)/\(0=0/\a.d.n=a_6.d.n/\a.d.n=a_6.d.n)/\(↑(zeroTo a.d a_3).calls:Int)=(↑a_6.d.calls:Int)/\(a_6.d.n<=a.d.n/\RowsEq a_6.d.n 129 (rowsD (zeroTo a.d a_3)) (rowsD a_6.d))/\(a_6.n<=64/\RowsEq a_6.n 1 (fun (x j:Nat)=>[Value.int IntKind.u8 (0:Int)].getD j (Value.tuple #[])) (rowsB a_6.src))/\(a_6.i<a_6.d.n/\a_6.d.n<100000/\a_6.len<=64/\a_6.r+a_6.len<=a_6.n/\a_6.d.calls<1000000000000)/\∀ b:Unit,True->InR .i64 ((↑a_3:Int)+1)/\∃ (a':Nat),(↑a_3:Int)+1=(↑a':Int)/\(↑a.d.n:Int)=(↑a.d.n:Int)/\false=false/\(0:Int)=0/\(0:Int)=0/\0=0/\(0=0/\(devWr a_6.d a_6.i a_6.len fun (j:Nat)=>a_6.src (a_6.r+j)).n=a.d.n/\(devWr a_6.d a_6.i a_6.len fun (j:Nat)=>a_6.src (a_6.r+j)).n=a.d.n) /\
 (↑(devWr a_6.d a_6.i a_6.len fun (j:Nat)=>a_6.src (a_6.r+j)).calls:Int)=(↑(zeroTo a.d a').calls:Int)/\(a.d.n<=(devWr a_6.d a_6.i a_6.len fun (j:Nat)=>a_6.src (a_6.r+j)).n/\RowsEq a.d.n 129 (rowsD (devWr a_6.d a_6.i a_6.len fun (j:Nat)=>a_6.src (a_6.r+j))) (rowsD (zeroTo a.d a')))/\a.H=a.H/\a'<=a.d.n/\a.d.n - a'<a.d.n - a_3)/\(decide ((↑a_3:Int)<(↑a.d.n:Int))=false->∃ a_6:MMkA,0=0/\0=(↑a_6.at_:Int)/\(0=0/\a.d.n=a_6.d.n/\a.d.n=a_6.d.n)/\(↑(zeroTo a.d a_3).calls:Int)=(↑a_6.d.calls:Int)/\(a_6.d.n<=a.d.n/\RowsEq a_6.d.n 129 (rowsD (zeroTo a.d a_3)) (rowsD a_6.d))/\(a_6.at_+1<a_6.d.n/\a_6.d.n<100000/\a_6.d.calls<800000000000)/\∀ b:Nat,True->∃ a_8:PartA,0=0/\0=0/\0=0/\keepQ (keep0 a_6.at_) a_8.k b a_8.kc (devQ (supMkD a_6.d a_6.at_ (textM m00)) a_8.d (a.H=a_8.H/\PartOk a_8/\∀ b:StP,StAt (partM a_8) b/\StFr a_8.H [] [] b->∃ b_1:StP,0=0/\(0:Int)=0/\0=0/\0=0/\0=0/\storeQ (partM a_8) (partM (makA a)) b b_1 (b.H=b_1.H/\(StAt (partM (makA a)) b_1/\StFr a.H [] [] b_1)/\True)))))) (by kernel_rfl) (by
 rintro ⟨d,H⟩ ⟨h1,h2,h3,hok⟩;dsimp only at *;have h0:RowsEq 64 1 (fun (x j:Nat)=>[Value.int IntKind.u8 (0:Int)].getD j (Value.tuple #[])) (rowsB fun _=>0):=rowsB_eq fun _ _=>rfl;refine ⟨fun c=>by (exfalso;have:=of_decide_eq_true c;omega),fun _=>⟨⟨0,?_⟩,fun i hi=>⟨fun c=>?_,fun c=>?_⟩⟩⟩
 ·have hr:RowsEq d.n 129 (rowsD d) (rowsD (zeroTo d 0)):=⟨fun i hi j hj=>by simp [rowsD,zeroTo]⟩
  have hc:(d.calls:Int)=(zeroTo d 0).calls:=rfl
  (repeat' apply And.intro)<;>first|with_reducible (first|rfl|trivial|assumption)|exact hr|exact hc|(intro h_;revert h_)|omega|with_reducible exact RowsEq.refl _ _ _|rfl|exact RowsEq.refl _ _ _|exact Nat.le_refl _|(dsimp only;omega)|skip
 ·have hi2:i<d.n:=by have:=of_decide_eq_true c;omega
  have hn:(zeroTo d i).n=d.n:=rfl;have hc:(zeroTo d i).calls<1000000000000:=by show d.calls+i<_;omega
  refine ⟨by omega,by omega,by omega,WrA.mk (zeroTo d i) i 0 64 64 64 fun _=>0,?_⟩;dsimp only;rw [hn]
  (repeat' apply And.intro)<;>first|with_reducible (first|rfl|trivial|assumption)|exact h0|exact hc|(intro h_;revert h_)|omega|with_reducible exact RowsEq.refl _ _ _|rfl|exact RowsEq.refl _ _ _|exact Nat.le_refl _|(dsimp only;omega)|skip
  intro _ _;have hr:RowsEq d.n 129 (rowsD (devWr (zeroTo d i) i 64 fun _=>0)) (rowsD (zeroTo d (i+1))):=⟨fun r hr j hj=>by
   simp only [rowsD,devWr,zeroTo];by_cases e:r=i
   ·subst e;by_cases h64:j<64
    ·simp [h64,show r<r+1 by omega]
    ·simp [h64]
   ·by_cases h64:j<64
    ·rw [if_pos h64,if_pos h64,if_neg (by omega)];by_cases hl:r<i
     ·rw [if_pos ⟨hl,h64⟩,if_pos ⟨by omega,h64⟩]
     ·rw [if_neg (by omega),if_neg (by omega)]
    ·rw [if_neg h64,if_neg h64];by_cases h128:j<128
     ·rw [if_pos h128,if_pos h128]
     ·rw [if_neg h128,if_neg h128,if_neg e];by_cases hl:r<i
      ·rw [if_pos hl,if_pos (by omega)]
      ·rw [if_neg hl,if_neg (by omega)]⟩
  have hcl:((devWr (zeroTo d i) i 64 fun _=>0).calls:Int)=(zeroTo d (i+1)).calls:=by show ((d.calls+i+1:Nat):Int)=(d.calls+(i+1):Nat);omega
  have hn2:(devWr (zeroTo d i) i 64 fun _=>0).n=d.n:=rfl;have hn3:d.n<=(devWr (zeroTo d i) i 64 fun _=>0).n:=Nat.le_refl _;refine ⟨by simp only [InR];omega,i+1,?_⟩
  (repeat' apply And.intro)<;>first|with_reducible (first|rfl|trivial|assumption)|exact hr|exact hcl|exact hn2|exact hn3|(intro h_;revert h_)|omega|with_reducible exact RowsEq.refl _ _ _|rfl|exact RowsEq.refl _ _ _|exact Nat.le_refl _|(dsimp only;omega)|skip
 ·have:i=d.n:=by have:=of_decide_eq_false c;omega
  subst this;have hn:(zeroTo d d.n).n=d.n:=rfl;have hc:(zeroTo d d.n).calls<800000000000:=by show d.calls+d.n<_;omega
  refine ⟨MMkA.mk 0 (zeroTo d d.n),?_⟩;dsimp only;rw [hn]
  (repeat' apply And.intro)<;>first|with_reducible (first|rfl|trivial|assumption)|exact hc|(intro h_;revert h_)|omega|with_reducible exact RowsEq.refl _ _ _|rfl|exact RowsEq.refl _ _ _|exact Nat.le_refl _|(dsimp only;omega)|skip
  intro b _;have hok2:PartOk ⟨keep0 0,b,supMkD (zeroTo d d.n) 0 (textM m00),H,[],[]⟩:=⟨hok.n,hok.calls,hok.save,hok.k,hok.jr,hok.fl⟩
  refine ⟨⟨keep0 0,b,supMkD (zeroTo d d.n) 0 (textM m00),H,[],[]⟩,?_⟩;dsimp only
  (repeat' apply And.intro)<;>first|with_reducible (first|rfl|trivial|assumption)|exact hok2|(intro h_;revert h_)|omega|with_reducible exact RowsEq.refl _ _ _|rfl|exact RowsEq.refl _ _ _|exact Nat.le_refl _|(dsimp only;omega)|skip
  rintro q ⟨q1,q2⟩;refine ⟨q,?_⟩;have e:partM (makA ⟨d,H⟩)=partM ⟨keep0 0,b,supMkD (zeroTo d d.n) 0 (textM m00),H,[],[]⟩:=rfl;rw [e]
  (repeat' apply And.intro)<;>first|with_reducible (first|rfl|trivial|assumption)|exact q1|exact q2|(intro h_;revert h_)|omega|with_reducible exact RowsEq.refl _ _ _|rfl|exact RowsEq.refl _ _ _|exact Nat.le_refl _|(dsimp only;omega)|skip)
theorem callStMake:CallsBy (Y Tryz.prog).G.X 10 cStMake:=fn_ok okY (tab:=tabMake) ⟨callDevWrite,callMMake,callParts,trivial⟩ bodyStMake
structure SOpnA where
 d:DevM
 H:PH
 m:MetaM
 ms:List MarkM
 es:List (Option ItemM)
def opnA (a:SOpnA):PartA:=⟨⟨supTo 0 a.d 2,a.m⟩,0,a.d,a.H,a.ms,a.es⟩
noncomputable def cStOpen:Con where
 α:=SOpnA
 β:=StP
 m:=3
 m':=17
 pre:=fun a=>cMOpen.pre ⟨0,a.d,a.m⟩/\PartOk (opnA a)
 args:=fun a=>[.a (.ptr 0 0 0 0)]
 hp:=fun a=>devHp 0 1 a.d++[(2,.pool a.H)]
 ro:=fun _=>[]
 post:=fun a b=>StAt (partM (opnA a)) b/\StFr a.H [] [] b
 res:=fun _ _=>.tup [.a (.ptr 3 0 0 0),.a (.lit .i64 0)]
 hp':=fun a b=>storeHp 3 4 5 0 1 6 7 8 9 10 11 12 13 14 (partM (opnA a)) b
noncomputable def tabOpen:List (Nat × Con):=[(41,cMOpen),(40,cParts)]
set_option maxHeartbeats 4000000 in
theorem bodyStOpen:fnBody (Y Tryz.prog) tabOpen 12 cStOpen fun _=>[]:=fnBody.of (p :=
 ∀ a:SOpnA,((0+1<a.d.n/\a.d.n<100000/\(supTo 0 a.d 2).turn≠(0:Int)/\∀ k:Nat,k<2->supG (supTo 0 a.d k) (a.d.now (0+k))=true->(1:Int)<=a.d.now (0+k) 12)/\(supTo 0 a.d 2).text=textM a.m/\mayM a.m=true)/\PartOk (opnA a)->(decide ((↑a.d.n:Int)<192)=true->∃ b:StP,False)/\(decide ((↑a.d.n:Int)<192)=false->∃ a_3:MOpA,0=0/\0=(↑a_3.at_:Int)/\devQ a.d a_3.d (((a_3.at_+1<a_3.d.n/\a_3.d.n<100000/\(supTo a_3.at_ a_3.d 2).turn≠(0:Int)/\∀ k:Nat,k<2->supG (supTo a_3.at_ a_3.d k) (a_3.d.now (a_3.at_+k))=true->(1:Int)<=a_3.d.now (a_3.at_+k) 12)/\(supTo a_3.at_ a_3.d 2).text=textM a_3.m/\mayM a_3.m=true)/\∀ b:Nat,True->∃ a_5:PartA,0=0/\0=0/\0=0/\a_3.m.boot=a_5.k.m.boot/\a_3.m.epoch=a_5.k.m.epoch/\a_3.m.ready=a_5.k.m.ready/\a_3.m.frozen=a_5.k.m.frozen/\0=0/\(↑(supTo a_3.at_ a_3.d 2).at_:Int)=(↑a_5.k.s.at_:Int)/\(supTo a_3.at_ a_3.d 2).turn=a_5.k.s.turn/\(0=0/\(supTo a_3.at_ a_3.d 2).text.length=a_5.k.s.text.length/\b=a_5.kc)/\(↑(supTo a_3.at_ a_3.d 2).slot:Int)=(↑a_5.k.s.slot:Int)/\(a_5.k.s.text.length<=(supTo a_3.at_ a_3.d 2).text.length/\RowsEq a_5.k.s.text.length 1 (encRows encB (supTo a_3.at_ a_3.d 2).text) (encRows encB a_5.k.s.text))/\devQ a.d a_5.d (a.H=a_5.H/\PartOk a_5/\∀ b:StP,StAt (partM a_5) b/\StFr a_5.H [] [] b->∃ b_1:StP,0=0/\(0:Int)=0/\0=0/\0=0/\0=0/\storeQ (partM a_5) (partM (opnA a)) b b_1 (b.H=b_1.H /\
 (StAt (partM (opnA a)) b_1/\StFr a.H [] [] b_1)/\True))))) (by kernel_rfl) (by
 rintro ⟨d,H,m,ms,es⟩ ⟨⟨h1,h2,h3⟩,hok⟩;dsimp only at *;obtain ⟨n1,n2⟩:=hok.n;have n1:192<=d.n:=n1;refine ⟨fun c=>by (exfalso;have:=of_decide_eq_true c;omega),fun _=>⟨MOpA.mk 0 d m,?_⟩⟩;dsimp only
 (repeat' apply And.intro)<;>first|with_reducible (first|rfl|trivial|assumption)|exact h1.1|exact h1.2.1|exact h1.2.2.1|exact h1.2.2.2|exact h2|exact h3|(intro h_;revert h_)|omega|with_reducible exact RowsEq.refl _ _ _|rfl|exact RowsEq.refl _ _ _|exact Nat.le_refl _|(dsimp only;omega)|skip
 intro b _;have hok2:PartOk ⟨⟨supTo 0 d 2,m⟩,b,d,H,ms,es⟩:=⟨hok.n,hok.calls,hok.save,hok.k,hok.jr,hok.fl⟩
 refine ⟨⟨⟨supTo 0 d 2,m⟩,b,d,H,ms,es⟩,?_⟩;dsimp only
 (repeat' apply And.intro)<;>first|with_reducible (first|rfl|trivial|assumption)|exact hok2|(intro h_;revert h_)|omega|with_reducible exact RowsEq.refl _ _ _|rfl|exact RowsEq.refl _ _ _|exact Nat.le_refl _|(dsimp only;omega)|skip
 rintro q ⟨q1,q2⟩;refine ⟨q,?_⟩;have e:partM (opnA ⟨d,H,m,ms,es⟩)=partM ⟨⟨supTo 0 d 2,m⟩,b,d,H,ms,es⟩:=rfl;rw [e]
 (repeat' apply And.intro)<;>first|with_reducible (first|rfl|trivial|assumption)|exact q1|exact q2|(intro h_;revert h_)|omega|with_reducible exact RowsEq.refl _ _ _|rfl|exact RowsEq.refl _ _ _|exact Nat.le_refl _|(dsimp only;omega)|skip)
theorem callStOpen:CallsBy (Y Tryz.prog).G.X 12 cStOpen:=fn_ok okY (tab:=tabOpen) ⟨callMOpen,callParts,trivial⟩ bodyStOpen
def killJ (s:StM) (ks:List ByteArray):StM:={ s with d:=(addsJ s.jr ks).d,jL:=(addsJ s.jr ks).L,ms:=(addsJ s.jr ks).ms }
def dropS (s:StM) (ks:List ByteArray):StM:={ s with d:=(dropsF s.fl ks).d,cL:=(dropsF s.fl ks).L,cl:=(dropsF s.fl ks).l }
def killS (s:StM) (ks:List ByteArray):StM:=if allK ks then dropS (killJ s ks) ks else s
structure SKilA where
 s:StM
 p:StP
 ks:List ByteArray
 kc:Nat
structure KillOk (a:SKilA):Prop where
 n:a.ks.length<1000
 jr:allK a.ks=true->∀ p,LogAt p.H p.y a.s.jL->a.s.ms.length<=p.cap->cJAdd.pre ⟨a.s.jr,p,a.ks,a.kc⟩
 fl:allK a.ks=true->∀ p,FlAt (killJ a.s a.ks).fl p->cFDrop.pre ⟨(killJ a.s a.ks).fl,p,a.ks,a.kc⟩
noncomputable def cKill:Con where
 α:=SKilA
 β:=StP
 m:=15
 m':=18
 pre:=fun a=>StAt a.s a.p/\KillOk a
 args:=fun a=>[.a (.ptr 0 0 0 0),.a (.slc 14 0 1 a.ks.length a.kc)]
 hp:=fun a=>storeHp 0 1 2 3 4 5 6 7 8 9 10 11 12 13 a.s a.p
 ro:=fun a=>[(14,.arr 9 [.str] a.ks.length (encRows encT a.ks))]
 post:=fun a b=>StAt (killS a.s a.ks) b/\StFr a.p.H (fpLog a.p.cy) (fpLog a.p.jy) b
 res:=fun a _=>.tup [.a (.int .i64 (if allK a.ks then seqOf (addsJ a.s.jr a.ks).ms else 0)),.a (.int .i64 (if allK a.ks then 0 else 1))]
 hp':=fun a b=>storeHp 0 1 2 3 4 5 15 7 16 9 10 11 12 17 (killS a.s a.ks) b
def iKill (a:SKilA):An:=.flat 4 Nat (fun s i=>s.int 15 i) (fun _ i=>i<=a.ks.length/\∀ j,j<i->keyB (gl a.ks j)=true) (fun _ i=>a.ks.length - i)
def iKillC (a:SKilA):An:=.mk 9 Unit (fun s _=>s) (fun _ _=>allK a.ks=true) (fun _ _=>0) fun _=>.mk 1000 [] []
noncomputable def tabKill:List (Nat × Con):=[(34,cKey),(28,cJAdd),(35,cFDrop)]
set_option maxHeartbeats 4000000 in
theorem bodyKill:fnBody (Y Tryz.prog) tabKill 9 cKill fun a=>[(9,[iKill a],[iKillC a])]:=fnBody.of (p :=
 ∀ a:SKilA,StAt a.s a.p/\KillOk a->((∃ a_2:Nat,0=(↑a_2:Int)/\(↑a.ks.length:Int)=(↑a.ks.length:Int)/\(0=0/\a.ks.length=a.ks.length/\a.kc=a.kc)/\false=false/\(0:Int)=0/\(0:Int)=0/\0=0/\(0=0/\a.ks.length=a.ks.length/\a.kc=a.kc)/\0=0/\0=0/\0=0/\storeQ a.s a.s a.p a.p (a.p.H=a.p.H/\(a.ks.length<=a.ks.length/\RowsEq a.ks.length 1 (encRows encT a.ks) (encRows encT a.ks))/\(a_2<=a.ks.length/\∀ j:Nat,j<a_2->keyB (gl a.ks j)=true)/\True))/\∀ a_2:Nat,(a_2<=a.ks.length/\∀ j:Nat,j<a_2->keyB (gl a.ks j)=true)->(decide ((↑a_2:Int)<(↑a.ks.length:Int))=true->(0<=(↑a_2:Int)/\(↑a_2:Int)<(↑a.ks.length:Int))/\0+(↑a_2:Int).toNat<a.ks.length/\∃ a_5:ByteArray,gl a.ks (0+(↑a_2:Int).toNat)=a_5/\True/\∀ b:Unit,True->((!keyB a_5)=true->∃ b:StP,((0:Int)=if allK a.ks=true then seqOf (addsJ a.s.jr a.ks).ms else (0:Int))/\((1:Int)=if allK a.ks=true then (0:Int) else (1:Int))/\a.p.H=b.H/\0=0/\0=0/\0=0/\storeQ a.s (killS a.s a.ks) a.p b ((StAt (killS a.s a.ks) b/\StFr a.p.H (fpLog a.p.cy) (fpLog a.p.jy) b)/\True))/\((!keyB a_5)=false->InR .i64 ((↑a_2:Int)+1)/\∃ (a':Nat),(↑a_2:Int)+1=(↑a':Int)/\(↑a.ks.length:Int)=(↑a.ks.length:Int)/\(0=0/\a.ks.length=a.ks.length/\a.kc=a.kc)/\false=false/\(0:Int)=0/\(0:Int)=0/\0=0/\(0=0/\a.ks.length=a.ks.length/\a.kc=a.kc)/\0=0/\0=0/\0=0 /\
 storeQ a.s a.s a.p a.p (a.p.H=a.p.H/\(a.ks.length<=a.ks.length/\RowsEq a.ks.length 1 (encRows encT a.ks) (encRows encT a.ks))/\(a'<=a.ks.length/\∀ j:Nat,j<a'->keyB (gl a.ks j)=true)/\a.ks.length - a'<a.ks.length - a_2)))/\(decide ((↑a_2:Int)<(↑a.ks.length:Int))=false->∃ a_5:Unit,false=false/\(0:Int)=0/\(0:Int)=0/\0=0/\(0=0/\a.ks.length=a.ks.length/\a.kc=a.kc)/\0=0/\0=0/\0=0/\storeQ a.s a.s a.p a.p (a.p.H=a.p.H/\(a.ks.length<=a.ks.length/\RowsEq a.ks.length 1 (encRows encT a.ks) (encRows encT a.ks))/\allK a.ks=true/\True)))/\∀ a_2:Unit,allK a.ks=true->∃ a_4:JAddA,0=0/\(0=0/\a.ks.length=a_4.ks.length/\a.kc=a_4.kc)/\0=0/\markQ a.s.ms a_4.m.ms a.p.jc a_4.p.cap (0=0/\logQ a.s.jL a_4.m.L a.p.jy.lv a_4.p.y.lv (devQ a.s.d a_4.m.d (a.p.H=a_4.p.H/\(a_4.ks.length<=a.ks.length/\RowsEq a_4.ks.length 1 (encRows encT a.ks) (encRows encT a_4.ks))/\(LogAt a_4.p.H a_4.p.y a_4.m.L/\a_4.m.L.l.length<800/\a_4.ks.length<1000/\a_4.m.ms.length<50000/\a_4.m.ms.length<=a_4.p.cap/\(allK a_4.ks=true->(∀ i:Nat,i<a_4.ks.length->LogOk (addTo a_4.m a_4.ks i).L (addTo a_4.m a_4.ks i).d/\(0:Int)<=seqOf (addTo a_4.m a_4.ks i).ms/\seqOf (addTo a_4.m a_4.ks i).ms<(1000000000000:Int))/\(addTo a_4.m a_4.ks a_4.ks.length).d.n<100000/\(addTo a_4.m a_4.ks a_4.ks.length).d.calls<1000000000000/\(addTo a_4.m a_4.ks a_4.ks.length).L.l.length<1000))/\∀ b:JrP,LogAt b.H b.y (addsJ a_4.m a_4.ks).L /\
 JrFr a_4.p b/\(addsJ a_4.m a_4.ks).ms.length<=b.cap->(((if allK a_4.ks=true then (0:Int) else (1:Int)) != (0:Int))=true->∃ b_1:StP,((0:Int)=if allK a.ks=true then seqOf (addsJ a.s.jr a.ks).ms else (0:Int))/\((if allK a_4.ks=true then (0:Int) else (1:Int))=if allK a.ks=true then (0:Int) else (1:Int))/\b.H=b_1.H/\0=0/\0=0/\0=0/\a.s.boot=(killS a.s a.ks).boot/\0=0/\0=0/\0=0/\logQ a.s.cL (killS a.s a.ks).cL a.p.cy.lv b_1.cy.lv (devQ (addsJ a_4.m a_4.ks).d (killS a.s a.ks).d (idxQ a.p.x b_1.x a.p.xc b_1.xc (0=0/\markQ (addsJ a_4.m a_4.ks).ms (killS a.s a.ks).ms b.cap b_1.jc (0=0/\logQ (addsJ a_4.m a_4.ks).L (killS a.s a.ks).jL b.y.lv b_1.jy.lv (0=0/\keepQ a.s.k (killS a.s a.ks).k a.p.kc b_1.kc ((StAt (killS a.s a.ks) b_1/\StFr a.p.H (fpLog a.p.cy) (fpLog a.p.jy) b_1)/\True)))))))/\(((if allK a_4.ks=true then (0:Int) else (1:Int)) != (0:Int))=false->∃ a_7:FDropA,0=0/\(0=0/\a.ks.length=a_7.ks.length/\a.kc=a_7.cap)/\0=0/\0=0/\0=0/\logQ a.s.cL a_7.m.L a.p.cy.lv a_7.p.y.lv (devQ (addsJ a_4.m a_4.ks).d a_7.m.d (idxQ a.p.x a_7.p.x a.p.xc a_7.p.cap (b.H=a_7.p.H/\(a_7.ks.length<=a.ks.length/\RowsEq a_7.ks.length 1 (encRows encT a.ks) (encRows encT a_7.ks))/\(FlAt a_7.m a_7.p/\a_7.ks.length<1000/\(allK a_7.ks=true->(∀ i:Nat,i<a_7.ks.length->FlOk (dropTo a_7.m a_7.ks i) (bodyOf (some (itemD (gl a_7.ks i)))).length)/\(dropTo a_7.m a_7.ks a_7.ks.length).d.n<100000 /\
 (dropTo a_7.m a_7.ks a_7.ks.length).d.calls<1000000000000))/\∀ b_1:FlP,FlAt (dropsF a_7.m a_7.ks) b_1/\FlFr a_7.p b_1->(((if allK a_7.ks=true then (0:Int) else (1:Int)) != (0:Int))=true->∃ b_2:StP,((0:Int)=if allK a.ks=true then seqOf (addsJ a.s.jr a.ks).ms else (0:Int))/\((if allK a_7.ks=true then (0:Int) else (1:Int))=if allK a.ks=true then (0:Int) else (1:Int))/\b_1.H=b_2.H/\0=0/\0=0/\0=0/\a.s.boot=(killS a.s a.ks).boot/\0=0/\0=0/\0=0/\logQ (dropsF a_7.m a_7.ks).L (killS a.s a.ks).cL b_1.y.lv b_2.cy.lv (devQ (dropsF a_7.m a_7.ks).d (killS a.s a.ks).d (idxQ b_1.x b_2.x b_1.cap b_2.xc (0=0/\markQ (addsJ a_4.m a_4.ks).ms (killS a.s a.ks).ms b.cap b_2.jc (0=0/\logQ (addsJ a_4.m a_4.ks).L (killS a.s a.ks).jL b.y.lv b_2.jy.lv (0=0/\keepQ a.s.k (killS a.s a.ks).k a.p.kc b_2.kc ((StAt (killS a.s a.ks) b_2/\StFr a.p.H (fpLog a.p.cy) (fpLog a.p.jy) b_2)/\True)))))))/\(((if allK a_7.ks=true then (0:Int) else (1:Int)) != (0:Int))=false->∃ b_2:StP,((if allK a_4.ks=true then seqOf (addsJ a_4.m a_4.ks).ms else (0:Int))=if allK a.ks=true then seqOf (addsJ a.s.jr a.ks).ms else (0:Int))/\((0:Int)=if allK a.ks=true then (0:Int) else (1:Int))/\b_1.H=b_2.H/\0=0/\0=0/\0=0/\a.s.boot=(killS a.s a.ks).boot/\0=0/\0=0/\0=0/\logQ (dropsF a_7.m a_7.ks).L (killS a.s a.ks).cL b_1.y.lv b_2.cy.lv (devQ (dropsF a_7.m a_7.ks).d (killS a.s a.ks).d (idxQ b_1.x b_2.x b_1.cap b_2.xc (0=0 /\
 markQ (addsJ a_4.m a_4.ks).ms (killS a.s a.ks).ms b.cap b_2.jc (0=0/\logQ (addsJ a_4.m a_4.ks).L (killS a.s a.ks).jL b.y.lv b_2.jy.lv (0=0/\keepQ a.s.k (killS a.s a.ks).k a.p.kc b_2.kc ((StAt (killS a.s a.ks) b_2/\StFr a.p.H (fpLog a.p.cy) (fpLog a.p.jy) b_2)/\True))))))))))))))) (by kernel_rfl) (by
 rintro ⟨s,p,ks,kc⟩ ⟨hat,hok⟩;dsimp only at *;have hkn:=hok.n;dsimp only at hkn;have no:allK ks=false->killS s ks=s:=fun e=>if_neg (by rw [e];decide);have bad:∀ i,i<ks.length->keyB (gl ks i)=false->allK ks=false:=fun i hi h=>by
  rw [Bool.eq_false_iff];intro ha;have:=List.all_eq_true.1 ha (gl ks i) (by rw [gl_eq hi];exact List.getElem_mem _);rw [h] at this;cases this
 have h0:∀ j,j<0->keyB (gl ks j)=true:=fun j hj=>absurd hj (Nat.not_lt_zero j);have hfr0:StFr p.H (fpLog p.cy) (fpLog p.jy) p:=fun z _ h1 h2=>⟨rfl,h1,h2⟩
 refine ⟨⟨⟨0,?_⟩,fun i hi=>?_⟩,fun _ hK=>?_⟩
 ·(repeat' apply And.intro)<;>first|with_reducible (first|rfl|trivial|assumption)|exact h0|(intro h_;revert h_)|omega|with_reducible exact RowsEq.refl _ _ _|rfl|exact RowsEq.refl _ _ _|exact Nat.le_refl _|(dsimp only;omega)|skip
 ·obtain ⟨hi,hall⟩:=hi;rw [show 0+(i:Int).toNat=i by omega];refine ⟨fun c1=>?_,fun c1=>⟨(),?_⟩⟩
  ·have hlt:i<ks.length:=by have:=of_decide_eq_true c1;omega
   refine ⟨⟨by omega,by omega⟩,hlt,gl ks i,rfl,trivial,fun _ _=>⟨fun c2=>?_,fun c2=>⟨by simp only [InR];omega,i+1,?_⟩⟩⟩
   ·have hn:=bad i hlt (by simpa using c2);rw [no hn,hn];refine ⟨p,?_⟩
    (repeat' apply And.intro)<;>first|with_reducible (first|rfl|trivial|assumption)|exact hat|exact hfr0|(intro h_;revert h_)|omega|with_reducible exact RowsEq.refl _ _ _|rfl|exact RowsEq.refl _ _ _|exact Nat.le_refl _|(dsimp only;omega)|skip
   ·have hk:keyB (gl ks i)=true:=by simpa using c2
    have h1:∀ j,j<i+1->keyB (gl ks j)=true:=fun j hj=>by
     by_cases e:j=i
     ·rw [e];exact hk
     ·exact hall j (by omega)
    (repeat' apply And.intro)<;>first|with_reducible (first|rfl|trivial|assumption)|exact h1|(intro h_;revert h_)|omega|with_reducible exact RowsEq.refl _ _ _|rfl|exact RowsEq.refl _ _ _|exact Nat.le_refl _|(dsimp only;omega)|skip
  ·have hi':i=ks.length:=by have:=of_decide_eq_false c1;omega
   have ha:allK ks=true:=List.all_eq_true.2 fun k hk=>by
    obtain ⟨j,hj,rfl⟩:=List.getElem_of_mem hk;rw [<- gl_eq hj];exact hall j (by omega)
   (repeat' apply And.intro)<;>first|with_reducible (first|rfl|trivial|assumption)|exact ha|(intro h_;revert h_)|omega|with_reducible exact RowsEq.refl _ _ _|rfl|exact RowsEq.refl _ _ _|exact Nat.le_refl _|(dsimp only;omega)|skip
 have hks:killS s ks=dropS (killJ s ks) ks:=if_pos hK;obtain ⟨hf,hl,hsep,hcap⟩:=hat;obtain ⟨q1,q2,q3,q4,q5,q6⟩:=hok.jr hK p.jr hl hcap;have q6:=q6 hK;have sep2:∀ z,z∈fpLog p.cy->z∉fpLog p.jy:=fun z h1 h2=>hsep z h2 h1;refine ⟨JAddA.mk s.jr p.jr ks kc,?_⟩;dsimp only [StM.jr,StP.jr] at q1 q2 q3 q4 q5 q6 ⊢
 (repeat' apply And.intro)<;>first|with_reducible (first|rfl|trivial|assumption)|exact q1|exact q2|exact q3|exact q4|exact q5|exact fun _=>q6|(intro h_;revert h_)|omega|with_reducible exact RowsEq.refl _ _ _|rfl|exact RowsEq.refl _ _ _|exact Nat.le_refl _|(dsimp only;omega)|skip
 rintro ⟨H1,y1,c1⟩ ⟨hl1,hf1,hcp⟩;dsimp only at hl1 hf1 hcp ⊢;have hfc:FlAt (killJ s ks).fl ⟨H1,p.cy,p.x,p.xc⟩:=⟨hf.log.frame fun z hz=>(hf1 z (hf.log.dom z hz) (sep2 z hz)).1,hf.idx⟩
 obtain ⟨r1,r2,r3⟩:=hok.fl hK ⟨H1,p.cy,p.x,p.xc⟩ hfc;have r3:=r3 hK;rw [hK];refine ⟨fun c=>absurd c (by decide),fun _=>⟨FDropA.mk (killJ s ks).fl ⟨H1,p.cy,p.x,p.xc⟩ ks kc,?_⟩⟩;dsimp only [StM.fl] at r1 r2 r3 ⊢
 (repeat' apply And.intro)<;>first|with_reducible (first|rfl|trivial|assumption)|exact r1|exact r2|exact fun _=>r3|(intro h_;revert h_)|omega|with_reducible exact RowsEq.refl _ _ _|rfl|exact RowsEq.refl _ _ _|exact Nat.le_refl _|(dsimp only;omega)|skip
 rintro ⟨H2,y2,x2,xc2⟩ ⟨hat2,hf2⟩;dsimp only at hat2 hf2 ⊢;rw [hK,hks];refine ⟨fun c=>absurd c (by decide),fun _=>⟨⟨H2,y2,x2,xc2,y1,c1,p.kc⟩,?_⟩⟩;have sep3:∀ z,z∈fpLog y1->z∉fpLog p.cy:=fun z h1 h2=>(hf1 z (hf.log.dom z h2) (sep2 z h2)).2 h1;have hat3:StAt (dropS (killJ s ks) ks) ⟨H2,y2,x2,xc2,y1,c1,p.kc⟩:=⟨hat2,hl1.frame fun z hz=>(hf2 z (hl1.dom z hz) (sep3 z hz)).1,fun z hz=>(hf2 z (hl1.dom z hz) (sep3 z hz)).2,hcp⟩
 have hfr:StFr p.H (fpLog p.cy) (fpLog p.jy) ⟨H2,y2,x2,xc2,y1,c1,p.kc⟩:=fun z hz n1 n2=>by
  obtain ⟨a1,a2⟩:=hf1 z hz n2;have a1:H1 z=p.H z:=a1;obtain ⟨b1,b2⟩:=hf2 z (by show H1 z≠none;rw [a1];exact hz) n1;exact ⟨b1.trans a1,b2,a2⟩
 (repeat' apply And.intro)<;>first|with_reducible (first|rfl|trivial|assumption)|exact hat3|exact hfr|(intro h_;revert h_)|omega|with_reducible exact RowsEq.refl _ _ _|rfl|exact RowsEq.refl _ _ _|exact Nat.le_refl _|(dsimp only;omega)|skip)
theorem callKill:CallsBy (Y Tryz.prog).G.X 9 cKill:=fn_ok okY (tab:=tabKill) ⟨callKey,callJAdd,callFDrop,trivial⟩ bodyKill
end Go.Proofs.YtfhkbihcfmbbcaaGreat

namespace Go.Proofs.YtfhkbihcfmbbcaaGreat
open Go.Sx
set_option maxRecDepth 100000
set_option linter.unusedVariables false
set_option linter.unusedSimpArgs false
theorem getTo_congr {f g:Nat->Int}:∀ {n:Nat},(∀ k,k<n->f k=g k)->getTo f n=getTo g n
 | 0,_=>rfl
 | n+1,h=>by
  simp only [getTo];rw [getTo_congr fun k hk=>h k (by omega),h n (by omega)]
theorem or_byte {a b:Nat} (ha:a<2 ^ 56) (hb:b<256):ibits .or .u64 (uw .u64 ((a:Int)*2 ^ 8)) b=((a*256+b:Nat):Int):=by
 have e1:uw .u64 ((a:Int)*2 ^ 8)=((a*256:Nat):Int):=by simp only [uw];omega
 rw [e1,ibits_or _ _ (by omega) (by omega)];have:=Nat.two_pow_add_eq_or_of_lt (i:=8) (b:=b) hb a;rw [Nat.mul_comm a 256];show ((2 ^ 8*a ||| b:Nat):Int)=((2 ^ 8*a+b:Nat):Int)
 rw [this]
theorem getTo_be {v:Nat} {len:Nat} (hl:len<=8) (hv:v<256 ^ len):∀ k,k<=len->getTo (fun k=>beB v len k) k=((v / 256 ^ (len - k):Nat):Int)
 | 0,_=>by simp [getTo,Nat.div_eq_of_lt hv]
 | k+1,hk=>by
  have ih:=getTo_be hl hv k (by omega);simp only [getTo];rw [ih];have eb:beB v len k=((v / 256 ^ (len - (k+1)) % 256:Nat):Int):=by
   have e2:(2:Int) ^ (8*(len - 1 - k))=((256 ^ (len - (k+1)):Nat):Int):=by
    rw [Int.natCast_pow,show len - 1 - k=len - (k+1) by omega,Int.pow_mul];rfl
   simp only [beB,uw];rw [e2];omega
  rw [eb];have e3:256 ^ (len - k)=256 ^ (len - (k+1))*256:=by rw [show len - k=len - (k+1)+1 by omega,Nat.pow_succ]
  have e4:v / 256 ^ (len - k)=v / 256 ^ (len - (k+1)) / 256:=by rw [e3,Nat.div_div_eq_div_mul]
  have hlt:v / 256 ^ (len - k)<2 ^ 56:=by
   have h1:v / 256 ^ (len - k)<256 ^ k:=Nat.div_lt_of_lt_mul (by rw [<- Nat.pow_add,show len - k+k=len by omega];exact hv);have h2:256 ^ k<=256 ^ 7:=Nat.pow_le_pow_right (by decide) (by omega);exact Nat.lt_of_lt_of_le h1 h2
  rw [or_byte hlt (Nat.mod_lt _ (by decide)),e4];congr 1;omega
theorem gB_be {f:Nat->Int} {v r len:Nat} (hl:len<=8) (hv:v<256 ^ len) (hf:∀ k,k<len->f (r+k)=beB v len k):gB f r len=v:=by
 unfold gB;rw [getTo_congr hf,getTo_be hl hv len (Nat.le_refl _)];simp
theorem gB_zero {r len:Nat} {f:Nat->Int} (hl:len<=8) (hf:∀ k,k<len->f (r+k)=0):gB f r len=0 :=
 gB_be (v:=0) hl (Nat.pow_pos (by decide)) fun k hk=>by rw [hf k hk];simp [beB,uw]
theorem crcTo_congr {f g:Nat->Int}:∀ {n:Nat},(∀ k,k<n->f k=g k)->crcTo f n=crcTo g n
 | 0,_=>rfl
 | n+1,h=>by
  simp only [crcTo];rw [crcTo_congr fun k hk=>h k (by omega),h n (by omega)]
theorem sumB_congr {f g:Nat->Int} (h:∀ k,4<=k->k<64->f k=g k):sumB f=sumB g:=by
 unfold sumB;rw [crcTo_congr fun k hk=>h (4+k) (by omega) (by omega)]
theorem sumB_rng (f:Nat->Int):0<=sumB f/\sumB f<4294967296:=by
 unfold sumB ibits;simp only [uw_eq,uw];omega
theorem sumB_zero:sumB (fun _=>0)≠0:=by decide +kernel
end Go.Proofs.YtfhkbihcfmbbcaaGreat

namespace Go.Proofs.YtfhkbihcfmbbcaaGreat
open Go.Sx
set_option maxRecDepth 100000
set_option linter.unusedVariables false
set_option linter.unusedSimpArgs false
structure SegNum (g:SegM) (run:Int):Prop where
 gen:0<=g.gen/\g.gen<281474976710656
 base:0<=g.base/\g.base<281474976710656
 run:0<=run/\run<4294967296
 len:g.buf.length<=378
theorem toNat_u64 {x:Int} (h0:0<=x) (h1:x<281474976710656):uw .u64 x=(x.toNat:Int):=by simp only [uw];omega
theorem sum_sec (g:SegM) (i:Nat) (run:Int):gB (secB g i run) 0 4=sumB (sec0 g i run)/\sumB (secB g i run)=sumB (sec0 g i run):=by
 obtain ⟨h1,h2⟩:=sumB_rng (sec0 g i run);refine ⟨?_,sumB_congr fun k hk _=>by simp only [secB];rw [if_neg (by omega)]⟩;obtain ⟨v,hv⟩:∃ v:Nat,sumB (sec0 g i run)=v:=⟨(sumB (sec0 g i run)).toNat,by omega⟩
 rw [hv];refine gB_be (by omega) (show v<256 ^ 4 by omega) fun k hk=>?_;simp only [secB,Nat.zero_add];rw [if_pos hk,hv]
theorem gen_sec {g:SegM} {i:Nat} {run:Int} (h:SegNum g run):gB (secB g i run) 4 6=g.gen:=by
 obtain ⟨h1,h2⟩:=h.gen;have:=gB_be (f:=secB g i run) (v:=g.gen.toNat) (r:=4) (len:=6) (by omega) (show g.gen.toNat<256 ^ 6 by omega) fun k hk=>by
  simp only [secB,sec0];rw [if_neg (by omega),if_neg (by omega),if_pos (by omega),toNat_u64 h1 h2,Nat.add_sub_cancel_left]
 rw [this];omega
theorem run_sec {g:SegM} {i:Nat} {run:Int} (h:SegNum g run):gB (secB g i run) 10 4=run:=by
 obtain ⟨h1,h2⟩:=h.run;have:=gB_be (f:=secB g i run) (v:=run.toNat) (r:=10) (len:=4) (by omega) (show run.toNat<256 ^ 4 by omega) fun k hk=>by
  simp only [secB,sec0];rw [if_neg (by omega),if_neg (by omega),if_neg (by omega),if_pos (by omega),toNat_u64 h1 (by omega),Nat.add_sub_cancel_left]
 rw [this];omega
theorem base_sec {g:SegM} {run:Int} (h:SegNum g run):gB (secB g 0 run) 16 6=g.base:=by
 obtain ⟨h1,h2⟩:=h.base;have:=gB_be (f:=secB g 0 run) (v:=g.base.toNat) (r:=16) (len:=6) (by omega) (show g.base.toNat<256 ^ 6 by omega) fun k hk=>by
  simp only [secB,sec0];rw [if_neg (by omega),if_neg (by omega),if_neg (by omega),if_neg (by omega),if_neg (by omega),if_neg (by omega),if_pos trivial,if_pos (by omega),toNat_u64 h1 (by omega),Nat.add_sub_cancel_left]
 rw [this];omega
theorem at14_sec (g:SegM) (i:Nat) (run:Int):secB g i run 14=i/\secB g i run 15=usedS g.buf.length i:=by
 simp [secB,sec0]
theorem part_sec (g:SegM) (i:Nat) (run:Int) {k:Nat} (hk:k<usedS g.buf.length i):secB g i run (offS i+k)=gl g.buf (startS i+k):=by
 have hr:usedS g.buf.length i<=roomS i:=Nat.min_le_left _ _;by_cases hi:i=0
 ·subst hi;simp only [secB,sec0,offS,startS,roomS,if_true] at *;rw [if_neg (by omega),if_neg (by omega),if_neg (by omega),if_neg (by omega),if_neg (by omega),if_neg (by omega),if_neg (by omega),if_pos (by omega)];congr 1;omega
 ·simp only [secB,sec0,offS,startS,roomS,if_neg hi] at *;rw [if_neg (by omega),if_neg (by omega),if_neg (by omega),if_neg (by omega),if_neg (by omega),if_neg (by omega),if_pos (by omega)];congr 1;omega
theorem uw_i64 {x:Int} (h0:0<=x) (h1:x<281474976710656):uw .i64 x=x:=wrap_of_InR (by simp only [InR];omega)
def tkG (g:SegM) (run:Int) (i:Nat):SegM:=if i=0 then g0 else ⟨g.gen,g.base,run,g.buf.take (startS i),[]⟩
theorem take_ok {g:SegM} {run:Int} (h:SegNum g run) {i:Nat} (hi:i<8) (hs:startS i<g.buf.length):takeB (tkG g run i) i (secB g i run)=true/\takeM (tkG g run i) i (secB g i run)=tkG g run (i+1):=by
 obtain ⟨s1,s2⟩:=sum_sec g i run;have s3:=gen_sec (i:=i) h;have s4:=run_sec (i:=i) h;obtain ⟨s5,s6⟩:=at14_sec g i run;have hr0:=h.run;have hg0:=h.gen;have hb0:=h.base;have e1:uw .i64 g.gen=g.gen:=uw_i64 hg0.1 hg0.2;have e2:uw .i64 run=run:=uw_i64 hr0.1 (by omega);have e3:uw .i64 g.base=g.base:=uw_i64 hb0.1 hb0.2;have hu:usedS g.buf.length i<=roomS i:=Nat.min_le_left _ _;have hlen:(tkG g run i).buf.length=startS i:=by
  unfold tkG;split
  ·rename_i h0;subst h0;rfl
  ·simp;omega
 have htg:takeG (tkG g run i) i (secB g i run)={ tkG g run i with gen:=g.gen,base:=g.base }:=by
  unfold takeG;by_cases h0:i=0
  ·subst h0;rw [if_pos rfl,s3,base_sec h,e1,e3]
  ·rw [if_neg h0];unfold tkG;rw [if_neg h0]
 have hB:takeB (tkG g run i) i (secB g i run)=true:=by
  unfold takeB;rw [htg,s1,s2,s3,s4,s5,s6,e1,e2,hlen];have hrun:¬ run<(tkG g run i).run:=by
   unfold tkG;split
   ·show ¬ run<0;omega
   ·show ¬ run<run;omega
  simp [hrun];omega
 refine ⟨hB,?_⟩;have hbuf:(tkG g run i).buf++(List.range (usedS g.buf.length i)).map (fun k=>secB g i run (offS i+k))=g.buf.take (startS (i+1)):=by
  have hb:(tkG g run i).buf=g.buf.take (startS i):=by
   unfold tkG;split
   ·rename_i h0;subst h0;simp [g0,startS]
   ·rfl
  have hm:(List.range (usedS g.buf.length i)).map (fun k=>secB g i run (offS i+k))=(g.buf.drop (startS i)).take (usedS g.buf.length i):=by
   refine List.ext_getElem (by simp [usedS];omega) fun k h1 h2=>?_;rw [List.getElem_map,List.getElem_range,part_sec g i run (by simpa using h1),gl_eq (by simp [usedS] at h1;omega)];simp
  have hst:startS (i+1)=startS i+roomS i:=by unfold startS roomS;split<;>omega
  rw [hb,hm,hst,List.take_add];congr 1;by_cases hc:g.buf.length - startS i<=roomS i
  ·rw [show usedS g.buf.length i=g.buf.length - startS i by simp only [usedS];omega,List.take_of_length_le (by simp),List.take_of_length_le (by simp;omega)]
  ·rw [show usedS g.buf.length i=roomS i by simp only [usedS];omega]
 unfold takeM;rw [if_pos hB,htg,s4,s6,e2];have:((usedS g.buf.length i:Nat):Int).toNat=usedS g.buf.length i:=by omega
 rw [this,hbuf];have:(tkG g run i).recs=[]:=by unfold tkG;split<;>rfl
 show (⟨g.gen,g.base,run,List.take (startS (i+1)) g.buf,(tkG g run i).recs⟩:SegM)=_;rw [this];simp [tkG]
theorem take_zero {g:SegM} {i:Nat} {f:Nat->Int} (hf:∀ k,k<64->f k=0):takeB g i f=false:=by
 unfold takeB;have h1:sumB f=sumB fun _=>0:=sumB_congr fun k _ hk=>hf k hk;have h2:gB f 0 4=0:=gB_zero (by omega) fun k hk=>hf _ (by omega);have:(sumB f == gB f 0 4)=false:=by
  rw [h1,h2,beq_eq_false_iff_ne];exact sumB_zero
 rw [this];rfl
structure SegOn (L:LogM) (d:DevM) (k:Nat) (g:SegM) (run:Int):Prop where
 num:SegNum g run
 some_:0<g.buf.length
 sec:∀ i,i<8->∀ j,j<64->secF L d k i j=if startS i<g.buf.length then secB g i run j else 0
theorem takeB_congr {g:SegM} {i:Nat} {f f':Nat->Int} (h:∀ j,j<64->f j=f' j):takeB g i f=takeB g i f':=by
 have a1:sumB f=sumB f':=sumB_congr fun k _ hk=>h k hk;have a2:∀ r len,r+len<=64->gB f r len=gB f' r len:=fun r len hl=>getTo_congr fun k hk=>h _ (by omega);unfold takeB takeG;rw [a1,a2 0 4 (by omega),a2 4 6 (by omega),a2 10 4 (by omega),a2 16 6 (by omega),h 14 (by omega),h 15 (by omega)]
theorem takeM_congr {g:SegM} {i:Nat} {f f':Nat->Int} (h:∀ j,j<64->f j=f' j):takeM g i f=takeM g i f':=by
 have a2:∀ r len,r+len<=64->gB f r len=gB f' r len:=fun r len hl=>getTo_congr fun k hk=>h _ (by omega);have hB:=takeB_congr (g:=g) (i:=i) h;have hG:takeG g i f=takeG g i f':=by unfold takeG;rw [a2 4 6 (by omega),a2 16 6 (by omega)]
 unfold takeM;rw [hB,hG,a2 10 4 (by omega),h 15 (by omega)];split
 ·rename_i hb;have ho:=(takeB_out hb).1;have hro:roomS i+offS i<=64:=by unfold roomS offS;split<;>omega
  have:(List.range (f' 15).toNat).map (fun k=>f (offS i+k))=(List.range (f' 15).toNat).map (fun k=>f' (offS i+k)):=List.map_congr_left fun k hk=>h _ (by have:=List.mem_range.1 hk;omega);rw [this]
 ·rfl
theorem rd_on {L:LogM} {d:DevM} {k:Nat} {g:SegM} {run:Int} (h:SegOn L d k g run):∀ i,i<=8->(rdTo L d k i).g=tkG g run i/\(rdTo L d k i).ok=decide (i=0\/startS (i - 1)<g.buf.length)
 | 0,_=>⟨by simp [tkG,rdTo],by simp [rdTo]⟩
 | i+1,hi=>by
  obtain ⟨e1,e2⟩:=rd_on h i (by omega);have hn:=h.some_;obtain ⟨R,hR⟩:∃ R,R=rdTo L d k i:=⟨_,rfl⟩
  have hst:rdTo L d k (i+1)=rdStep R i (secF L d k i):=by rw [hR];rfl
  rw [<- hR] at e1 e2;rw [hst];by_cases hs:startS i<g.buf.length
  ·have hf:∀ j,j<64->secF L d k i j=secB g i run j:=fun j hj=>by rw [h.sec i (by omega) j hj,if_pos hs]
   obtain ⟨t1,t2⟩:=take_ok h.num (by omega) hs;have hok:R.ok=true:=by
    rw [e2];simp only [decide_eq_true_eq];by_cases h0:i=0
    ·exact .inl h0
    ·right;unfold startS at *;omega
   refine ⟨?_,?_⟩
   ·simp only [rdStep,hok,e1,takeB_congr hf,t1,takeM_congr hf,t2];simp
   ·simp only [rdStep,hok,e1,takeB_congr hf,t1];simp [hs]
  ·have hf:∀ j,j<64->secF L d k i j=0:=fun j hj=>by rw [h.sec i (by omega) j hj,if_neg hs]
   have hi0:i≠0:=fun e=>by subst e;exact hs (show startS 0<g.buf.length from hn)
   have hz:=take_zero (g:=R.g) (i:=i) hf;have htk:tkG g run (i+1)=tkG g run i:=by
    unfold tkG;rw [if_neg (by omega),if_neg hi0,List.take_of_length_le (by unfold startS at *;omega),List.take_of_length_le (by omega)]
   refine ⟨?_,?_⟩
   ·simp only [rdStep,hz,Bool.and_false,Bool.not_false,Bool.true_and];rw [if_neg (by simpa using hi0),takeM_no hz];have:takeG R.g i (secF L d k i)=R.g:=if_neg hi0;rw [this,e1,htk];simp
   ·simp only [rdStep,hz,Bool.and_false]
    symm
    rw [decide_eq_false_iff_not];rintro (e|e)
    ·omega
    ·exact hs (by simpa using e)
theorem rd_ok_on {L:LogM} {d:DevM} {k:Nat} {g:SegM} {run:Int} (h:SegOn L d k g run) (hr:run<100000000000):RdOk L d k:=by
 refine ⟨fun i hi=>?_,fun i hi hok hB=>?_⟩
 ·have e:gB (secF L d k i) 10 4=if startS i<g.buf.length then run else 0:=by
   split
   ·rename_i hs;rw [<- run_sec (i:=i) h.num];exact getTo_congr fun j hj=>by rw [h.sec i hi _ (by omega),if_pos hs]
   ·rename_i hs;exact gB_zero (by omega) fun j hj=>by rw [h.sec i hi _ (by omega),if_neg hs]
  rw [e];have:=h.num.run;split
  ·rw [uw_i64 this.1 (by omega)];omega
  ·rw [uw_i64 (by omega) (by omega)];omega
 ·by_cases hs:startS i<g.buf.length
  ·rw [h.sec i hi 15 (by omega),if_pos hs,(at14_sec g i run).2];have:0<usedS g.buf.length i:=by unfold usedS roomS;split<;>omega
   omega
  ·rw [take_zero (fun j hj=>by rw [h.sec i hi j hj,if_neg hs])] at hB;cases hB
theorem seg_on {L:LogM} {d:DevM} {k:Nat} {g:SegM} {run:Int} (h:SegOn L d k g run) (hg:1<=g.gen) (hk:(g.gen - 1).tmod L.segs=k):segOf L d k=some (recsM ⟨g.gen,g.base,run,g.buf,[]⟩):=by
 obtain ⟨e1,_⟩:=rd_on h 8 (Nat.le_refl _);have e2:tkG g run 8=⟨g.gen,g.base,run,g.buf,[]⟩:=by
  unfold tkG;rw [if_neg (by decide),List.take_of_length_le (by have:=h.num.len;simp only [startS];omega)]
 unfold segOf;rw [e1,e2];rw [if_neg (by rintro (e|e)<;>dsimp only at e<;>omega)]
theorem rd_none {L:LogM} {d:DevM} {k:Nat} (h:∀ i,i<8->∀ j,j<64->secF L d k i j=0):RdOk L d k/\segOf L d k=none/\∀ i,i<=8->(rdTo L d k i).run=if i=0 then L.run else max L.run 1:=by
 have hgB:∀ i,i<8->uw .i64 (gB (secF L d k i) 10 4)=0:=fun i hi=>by
  rw [gB_zero (by omega) fun j hj=>h i hi _ (by omega)];rfl
 have key:∀ i,i<=8->(0<i->(rdTo L d k i).ok=false/\(rdTo L d k i).g.gen=0)/\(rdTo L d k i).run=if i=0 then L.run else max L.run 1:=by
  intro i
  induction i with
  | zero=>exact fun _=>⟨fun h=>absurd h (Nat.lt_irrefl 0),rfl⟩
  | succ i ih =>
   intro hi;obtain ⟨h1,h2⟩:=ih (by omega);obtain ⟨R,hR⟩:∃ R,R=rdTo L d k i:=⟨_,rfl⟩
   have hst:rdTo L d k (i+1)=rdStep R i (secF L d k i):=by rw [hR];rfl
   rw [<- hR] at h1 h2;have hz:=take_zero (g:=R.g) (i:=i) (h i (by omega));rw [hst];refine ⟨fun _=>⟨by simp only [rdStep,hz,Bool.and_false],?_⟩,?_⟩
   ·simp only [rdStep,hz,Bool.and_false,Bool.not_false,Bool.true_and];by_cases h0:i=0
    ·rw [if_pos (by simpa using h0)]
    ·rw [if_neg (by simpa using h0),(h1 (by omega)).1];exact (h1 (by omega)).2
   ·simp only [rdStep,hgB i (by omega),h2];rw [if_neg (Nat.succ_ne_zero i)];split<;>omega
 refine ⟨⟨fun i hi=>by rw [hgB i hi];omega,fun i hi _ hB=>?_⟩,?_,fun i hi=>(key i hi).2⟩
 ·rw [take_zero (h i hi)] at hB;cases hB
 ·unfold segOf;rw [((key 8 (Nat.le_refl _)).1 (by omega)).2,if_pos (.inl (by omega))]
end Go.Proofs.YtfhkbihcfmbbcaaGreat

namespace Go.Proofs.YtfhkbihcfmbbcaaGreat
open Go.Sx
set_option maxRecDepth 100000
set_option linter.unusedVariables false
set_option linter.unusedSimpArgs false
def recBytes (r:RecM):List Int:=hdrB r.body.length r.pos++r.body
def bufOf (rs:List RecM):List Int:=rs.flatMap recBytes
structure GoodR (r:RecM):Prop where
 len:1<=r.body.length/\r.body.length<=300
 pos:0<=r.pos/\r.pos<140737488355328
theorem hdr_n {n:Nat} {p:Int} (h:n<65536):∀ k,k<2->gl (hdrB n p) k=beB n 2 k:=by
 have e:uw .u64 (n:Int)=n:=by simp only [uw];omega
 intro k hk
 match k,hk with
 | 0,_=>show uw .u8 (uw .u64 (n:Int) / 256)=_;rw [e];simp [beB]
 | 1,_=>show uw .u8 (uw .u64 (n:Int) / 1)=_;rw [e];simp [beB]
theorem hdr_p {n:Nat} {p:Int} (h0:0<=p) (h1:p<140737488355328):∀ k,k<6->gl (hdrB n p) (2+k)=beB p.toNat 6 k:=by
 have e:uw .u64 p=(p.toNat:Int):=toNat_u64 h0 (by omega);intro k hk
 match k,hk with
 | 0,_=>show uw .u8 (uw .u64 p / 1099511627776)=_;rw [e];simp [beB]
 | 1,_=>show uw .u8 (uw .u64 p / 4294967296)=_;rw [e];simp [beB]
 | 2,_=>show uw .u8 (uw .u64 p / 16777216)=_;rw [e];simp [beB]
 | 3,_=>show uw .u8 (uw .u64 p / 65536)=_;rw [e];simp [beB]
 | 4,_=>show uw .u8 (uw .u64 p / 256)=_;rw [e];simp [beB]
 | 5,_=>show uw .u8 (uw .u64 p / 1)=_;rw [e];simp [beB]
theorem hdr_len (n:Nat) (p:Int):(hdrB n p).length=8:=rfl
theorem rec_len (r:RecM):(recBytes r).length=8+r.body.length:=by simp [recBytes,hdr_len]
theorem rec_found {pre rest:List Int} {r:RecM} (h:GoodR r):recOk (pre++(recBytes r++rest)) pre.length=true/\recN (pre++(recBytes r++rest)) pre.length=r.body.length/\recAt (pre++(recBytes r++rest)) pre.length=r:=by
 obtain ⟨l1,l2⟩:=h.len;obtain ⟨p1,p2⟩:=h.pos;obtain ⟨buf,hbuf⟩:∃ b,b=pre++(recBytes r++rest):=⟨_,rfl⟩
 have at_:∀ k,k<8->gl buf (pre.length+k)=gl (hdrB r.body.length r.pos) k:=fun k hk=>by
  rw [hbuf,gl_append_right,gl_append_left (by rw [rec_len];omega),recBytes,gl_append_left (by rw [hdr_len];exact hk)]
 have hN:recN buf pre.length=r.body.length:=by
  unfold recN;have:getTo (fun k=>gl buf (pre.length+k)) 2=(r.body.length:Int):=by
   have:=gB_be (f:=fun k=>gl buf k) (v:=r.body.length) (r:=pre.length) (len:=2) (by omega) (by omega) fun k hk=>by
    show gl buf (pre.length+k)=_;rw [at_ k (by omega),hdr_n (by omega) k hk]
   exact this
  rw [this,uw_i64 (by omega) (by omega)]
 have hP:recP buf pre.length=r.pos:=by
  unfold recP;have:getTo (fun k=>gl buf (pre.length+2+k)) 6=(r.pos.toNat:Int):=by
   have:=gB_be (f:=fun k=>gl buf k) (v:=r.pos.toNat) (r:=pre.length+2) (len:=6) (by omega) (by omega) fun k hk=>by
    show gl buf (pre.length+2+k)=_;rw [Nat.add_assoc,at_ (2+k) (by omega),hdr_p p1 p2 k hk]
   exact this
  rw [this,uw_i64 (by omega) (by omega)];omega
 have hlen:buf.length=pre.length+(8+r.body.length+rest.length):=by rw [hbuf];simp [rec_len]
 rw [<- hbuf];refine ⟨?_,hN,?_⟩
 ·unfold recOk;rw [hN,hlen];simp only [Bool.and_eq_true,decide_eq_true_eq];omega
 ·unfold recAt;rw [hN,hP];have:(buf.drop (pre.length+8)).take ((r.body.length:Nat):Int).toNat=r.body:=by
   have e:buf=(pre++hdrB r.body.length r.pos)++(r.body++rest):=by rw [hbuf,recBytes];simp [List.append_assoc]
   rw [e,List.drop_left' (by simp [hdr_len]),Int.toNat_natCast,List.take_left' rfl]
  rw [this]
theorem parse_all:∀ (rs:List RecM) (pre:List Int) (k:Nat),rs.length<=k->(∀ r∈rs,GoodR r)->parseR (pre++bufOf rs) k pre.length=(rs,(pre++bufOf rs).length)
 | [],pre,k,_,_=>by
  have e:bufOf []=[]:=rfl;rw [e,List.append_nil];cases k with
  | zero=>rfl
  | succ k =>
   have:recOk pre pre.length=false:=by
    unfold recOk;rw [show decide (pre.length+8<=pre.length)=false from decide_eq_false (by omega)];rfl
   simp [parseR,this]
 | r::rs,pre,0,hk,_=>by simp at hk
 | r::rs,pre,k+1,hk,hg=>by
  have e:bufOf (r::rs)=recBytes r++bufOf rs:=rfl;obtain ⟨f1,f2,f3⟩:=rec_found (pre:=pre) (rest:=bufOf rs) (hg r List.mem_cons_self);have ih:=parse_all rs (pre++recBytes r) k (by simpa using hk) fun x hx=>hg x (List.mem_cons_of_mem _ hx);have hpl:(pre++recBytes r).length=pre.length+8+r.body.length:=by simp [rec_len];omega
  rw [List.append_assoc,hpl] at ih;rw [e];unfold parseR;rw [if_pos f1,f2,f3];rw [Int.toNat_natCast,ih]
theorem bufOf_len:∀ (rs:List RecM),(∀ r∈rs,GoodR r)->rs.length*9<=(bufOf rs).length
 | [],_=>Nat.zero_le _
 | r::rs,h=>by
  have ih:=bufOf_len rs fun x hx=>h x (List.mem_cons_of_mem _ hx);have:=(h r List.mem_cons_self).len;show (rs.length+1)*9<=(recBytes r++bufOf rs).length;rw [List.length_append,rec_len];omega
theorem bufOf_push (rs:List RecM) (r:RecM):bufOf (rs++[r])=bufOf rs++recBytes r:=by simp [bufOf]
theorem recs_back {gen base run:Int} {rs:List RecM} (h:∀ r∈rs,GoodR r) (hl:(bufOf rs).length<=378):recsM ⟨gen,base,run,bufOf rs,[]⟩=⟨gen,base,run,bufOf rs,rs⟩:=by
 have h9:=bufOf_len rs h;have hp:=parse_all rs [] 50 (by omega) h;rw [List.nil_append,List.length_nil] at hp;unfold recsM;dsimp only;rw [hp];simp
structure DevIs (fr sg:Nat) (o:Option SegM) (run:Int) (d:DevM):Prop where
 sec:∀ i,i<8->∀ j,j<64->d.now (fr+i) j=match o with|none=>0|some g=>if startS i<g.buf.length then secB g i run j else 0
 rest:∀ r,fr+8<=r->r<fr+sg*8->∀ j,j<64->d.now r j=0
theorem DevIs.far {fr sg k:Nat} {o:Option SegM} {run:Int} {d:DevM} (h:DevIs fr sg o run d) (hk:1<=k) (hk2:k<sg) {L:LogM} (hL:L.from_=fr):∀ i,i<8->∀ j,j<64->secF L d k i j=0:=fun i hi j hj=>by
 unfold secF;rw [hL];exact h.rest _ (by omega) (by omega) j hj
theorem open_none {fr sg:Nat} {run:Int} {d:DevM} (h:DevIs fr sg none run d) (h3:3<=sg/\sg<=200) (hr:fr+sg*8<=d.n) (hn:d.n<100000):OpenOk fr sg d/\openM fr sg d=⟨fr,sg,[],1,1,true⟩:=by
 have hz:∀ k,k<sg->∀ (L:LogM),L.from_=fr->∀ i,i<8->∀ j,j<64->secF L d k i j=0:=fun k hk L hL i hi j hj=>by
  by_cases h0:k=0
  ·subst h0;unfold secF;rw [hL,Nat.zero_mul,Nat.add_zero];exact h.sec i hi j hj
  ·exact h.far (by omega) hk hL i hi j hj
 have key:∀ k,k<=sg->opL fr sg d k=⟨fr,sg,[],1,1,true⟩:=by
  intro k
  induction k with
  | zero=>exact fun _=>rfl
  | succ k ih =>
   intro hk;have ih:=ih (by omega);obtain ⟨_,e2,e3⟩:=rd_none (hz k (by omega) ⟨fr,sg,[],1,1,true⟩ rfl);show { opL fr sg d k with l:=(opL fr sg d k).l++(segOf (opL fr sg d k) d k).toList,run:=(rdTo (opL fr sg d k) d k 8).run }=_;rw [ih,e2,e3 8 (Nat.le_refl _)];rfl
 refine ⟨⟨h3,hr,hn,fun k hk=>?_,?_,?_⟩,?_⟩
 ·rw [key k (by omega)];exact (rd_none (hz k hk ⟨fr,sg,[],1,1,true⟩ rfl)).1
 ·rw [key sg (Nat.le_refl _)];exact Nat.zero_le _
 ·rw [key sg (Nat.le_refl _)];exact fun i hi=>absurd hi (Nat.not_lt_zero i)
 ·unfold openM;rw [key sg (Nat.le_refl _)];rfl
theorem open_one {fr sg:Nat} {base run:Int} {rs:List RecM} {grun:Int} {d:DevM} (h:DevIs fr sg (some ⟨1,base,grun,bufOf rs,rs⟩) run d) (h3:3<=sg/\sg<=200) (hr:fr+sg*8<=d.n) (hn:d.n<100000)
 (hg:∀ r∈rs,GoodR r/\r.pos<100000000000) (hne:rs≠[]) (hl:(bufOf rs).length<=378) (hb:0<=base/\base<100000000000) (hrun:0<=run/\run<4294967296) :
 OpenOk fr sg d/\(openM fr sg d).from_=fr/\(openM fr sg d).segs=sg/\(openM fr sg d).l=[⟨1,base,run,bufOf rs,rs⟩]/\(openM fr sg d).next=(rs.getLast hne).pos+65:=by
 have hg1:∀ r∈rs,GoodR r:=fun r hr=>(hg r hr).1;have h9:=bufOf_len rs hg1;have hpos:0<rs.length:=List.length_pos_iff.2 hne;obtain ⟨g,hgg⟩:∃ g:SegM,g=⟨1,base,grun,bufOf rs,rs⟩:=⟨_,rfl⟩
 have hgb:g.buf=bufOf rs:=by rw [hgg]
 have hgen:g.gen=1:=by rw [hgg]
 have hgba:g.base=base:=by rw [hgg]
 rw [<- hgg] at h;have hon:∀ (L:LogM),L.from_=fr->SegOn L d 0 g run:=fun L hL=>⟨⟨by rw [hgen];omega,by rw [hgba];omega,hrun,by rw [hgb];exact hl⟩,by rw [hgb];omega,fun i hi j hj=>by
  unfold secF;rw [hL,Nat.zero_mul,Nat.add_zero];exact h.sec i hi j hj⟩
 have hfar:∀ k,1<=k->k<sg->∀ (L:LogM),L.from_=fr->∀ i,i<8->∀ j,j<64->secF L d k i j=0:=fun k h1 hk L hL=>h.far h1 hk hL;have hseg:∀ (L:LogM),L.from_=fr->L.segs=sg->segOf L d 0=some ⟨1,base,run,bufOf rs,rs⟩:=fun L hL hS=>by
  rw [seg_on (hon L hL) (by rw [hgen];omega) (by rw [hgen,hS];simp),hgen,hgba,hgb,recs_back hg1 hl]
 have key:∀ k,1<=k->k<=sg->(opL fr sg d k).l=[⟨1,base,run,bufOf rs,rs⟩]:=by
  intro k
  induction k with
  | zero=>exact fun h _=>absurd h (by omega)
  | succ k ih =>
   intro _ hk;obtain ⟨m1,m2,_,_⟩:=opL_same fr sg d k;show (opL fr sg d k).l++(segOf (opL fr sg d k) d k).toList=_;by_cases h0:k=0
   ·subst h0;rw [hseg _ m1 m2];rfl
   ·rw [ih (by omega) (by omega),(rd_none (hfar k (by omega) (by omega) _ m1)).2.1];rfl
 have hk:=key sg (by omega) (Nat.le_refl _);obtain ⟨m1,m2,_,_⟩:=opL_same fr sg d sg;refine ⟨⟨h3,hr,hn,fun k hk=>?_,?_,?_⟩,m1,m2,hk,?_⟩
 ·obtain ⟨m1,m2,_,_⟩:=opL_same fr sg d k;by_cases h0:k=0
  ·subst h0;exact rd_ok_on (hon _ m1) (by omega)
  ·exact (rd_none (hfar k (by omega) hk _ m1)).1
 ·rw [hk];exact Nat.le_refl _
 ·rw [hk];intro i hi;have:i=0:=by simpa using hi
  subst this;refine ⟨by show (1:Int)<=1;omega,hb.1,hb.2,fun j hj=>?_⟩;have hj:j<rs.length:=hj;have:=hg (gl rs j) (by rw [gl_eq hj];exact List.getElem_mem _);exact ⟨this.1.pos.1,this.2⟩
 ·show nextOf (opL fr sg d sg).l=_;rw [hk];simp only [nextOf,List.getLast?_singleton,List.getLast?_eq_some_getLast hne]
end Go.Proofs.YtfhkbihcfmbbcaaGreat

namespace Go.Proofs.YtfhkbihcfmbbcaaGreat
open Go.Sx
set_option maxRecDepth 100000
set_option linter.unusedVariables false
set_option linter.unusedSimpArgs false
theorem sec0_same {g g':SegM} {e:List Int} {i:Nat} {run:Int} (h1:g'.gen=g.gen) (h2:g'.base=g.base) (hb:g'.buf=g.buf++e) (hs:startS (i+1)<=g.buf.length):∀ j,j<64->sec0 g i run j=sec0 g' i run j:=fun j hj=>by
 have hst:startS (i+1)=startS i+roomS i:=by unfold startS roomS;split<;>omega
 have u1:usedS g.buf.length i=roomS i:=by simp only [usedS];omega
 have u2:usedS g'.buf.length i=roomS i:=by rw [hb];simp only [usedS,List.length_append];omega
 have hgl:∀ k,k<roomS i->gl g'.buf (startS i+k)=gl g.buf (startS i+k):=fun k hk=>by rw [hb,gl_append_left (by omega)]
 simp only [sec0,h1,h2,u1,u2];by_cases h0:i=0
 ·subst h0;have hr:roomS 0=42:=rfl;have hs0:startS 0=0:=rfl;rw [hr,hs0] at hgl;simp only [hr,if_true]
  (repeat' split)<;>first|rfl|(exfalso;omega)|skip
  have:=hgl (j - 22) (by assumption);rw [Nat.zero_add] at this;exact this.symm
 ·simp only [if_neg h0]
  (repeat' split)<;>first|rfl|(exfalso;omega)|skip
  exact (hgl _ (by assumption)).symm
theorem secB_same {g g':SegM} {e:List Int} {i:Nat} {run:Int} (h1:g'.gen=g.gen) (h2:g'.base=g.base) (hb:g'.buf=g.buf++e) (hs:startS (i+1)<=g.buf.length):∀ j,j<64->secB g i run j=secB g' i run j:=fun j hj=>by
 have h:=sec0_same (run:=run) h1 h2 hb hs;unfold secB;rw [sumB_congr fun k _ hk=>h k hk,h j hj]
theorem writesTo_now {L:LogM} {g:SegM} {was:Nat} {d:DevM} (hg:(g.gen - 1).toNat % L.segs=0):∀ n r j,j<64 ->
 (writesTo L g was d n).now r j=if ∃ i,i<n/\r=L.from_+i/\condS was g.buf.length i=true then secB g (r - L.from_) L.run j else d.now r j
 | 0,r,j,_=>by rw [if_neg (by rintro ⟨i,hi,_⟩;omega)];rfl
 | n+1,r,j,hj=>by
  have ih:=writesTo_now (L:=L) (g:=g) (was:=was) (d:=d) hg n r j hj;have hsn:secNo L g n=L.from_+n:=by unfold secNo;rw [hg,Nat.zero_mul,Nat.add_zero]
  unfold writesTo;by_cases hc:condS was g.buf.length n=true
  ·rw [if_pos hc];show (if r=secNo L g n/\j<64 then _ else _)=_;rw [hsn];by_cases hr:r=L.from_+n
   ·rw [if_pos ⟨hr,hj⟩,if_pos ⟨n,Nat.lt_succ_self n,hr,hc⟩,hr,Nat.add_sub_cancel_left]
   ·rw [if_neg (fun e=>hr e.1),ih];congr 1;rw [eq_iff_iff];constructor
    ·rintro ⟨i,h1,h2,h3⟩;exact ⟨i,by omega,h2,h3⟩
    ·rintro ⟨i,h1,h2,h3⟩;by_cases e:i=n
     ·subst e;exact absurd h2 hr
     ·exact ⟨i,by omega,h2,h3⟩
  ·rw [if_neg hc,ih];congr 1;rw [eq_iff_iff];constructor
   ·rintro ⟨i,h1,h2,h3⟩;exact ⟨i,by omega,h2,h3⟩
   ·rintro ⟨i,h1,h2,h3⟩;by_cases e:i=n
    ·subst e;exact absurd h3 hc
    ·exact ⟨i,by omega,h2,h3⟩
theorem sortedR_push {rs:List RecM} {r:RecM} (h:SortedR rs) (h1:∀ x∈rs,x.pos<r.pos) (h2:0<=r.pos/\r.pos<1000000000000):SortedR (rs++[r]):=by
 have hl:(rs++[r]).length=rs.length+1:=by simp
 refine ⟨fun i j hij hj=>?_,fun i hi=>?_⟩
 ·rw [hl] at hj;rw [gl_app (by omega),gl_app hj,if_pos (by omega)];split
  ·exact h.lt i j hij (by assumption)
  ·exact h1 _ (by rw [gl_eq (by omega)];exact List.getElem_mem _)
 ·rw [hl] at hi;rw [gl_app hi];split
  ·exact h.rng i (by assumption)
  ·exact h2
def oneL (base:Int):List RecM->List SegM
 | []=>[]
 | r::rs=>[⟨1,base,0,bufOf (r::rs),r::rs⟩]
theorem oneL_ne {base:Int} {rs:List RecM} (h:rs≠[]):oneL base rs=[⟨1,base,0,bufOf rs,rs⟩]:=by
 cases rs with
 | nil=>exact absurd rfl h
 | cons r rs=>rfl
theorem allR_one (base:Int) (rs:List RecM):allR (oneL base rs)=rs:=by
 cases rs<;>simp [oneL,allR]
structure OneLog (L:LogM) (d:DevM) (n:Nat) (rs:List RecM):Prop where
 segs:3<=L.segs/\L.segs<=200
 room:L.from_+L.segs*8<=d.n
 size:d.n<100000
 calls:d.calls<=n
 next:1<=L.next/\L.next<10000000000
 run:0<=L.run/\L.run<4294967296
 good:∀ r∈rs,GoodR r/\r.pos<L.next
 sort:SortedR rs
 fits:(bufOf rs).length<=378
 lst:∃ base,0<=base/\base<100000000000/\L.l=oneL base rs
 dev:DevIs L.from_ L.segs L.l.head? L.run d
theorem OneLog.logOk {L:LogM} {d:DevM} {n:Nat} {rs:List RecM} (h:OneLog L d n rs) (hn:n<900000000000):LogOk L d:=by
 obtain ⟨base,b1,b2,hl⟩:=h.lst;have h9:=bufOf_len rs fun r hr=>(h.good r hr).1;have hf:=h.fits;have hc:=h.calls;have hx:=h.next
 have at_:∀ i,i<L.l.length->gl L.l i=⟨1,base,0,bufOf rs,rs⟩:=fun i hi=>by
  rw [hl] at hi ⊢;cases rs with
  | nil=>exact absurd hi (Nat.not_lt_zero i)
  | cons r rs =>
   have:i=0:=by simpa [oneL] using hi
   subst this;rfl
 refine ⟨?_,h.segs,h.room,h.size,by omega,by omega,fun i hi=>?_,fun i hi=>?_,fun i hi=>?_⟩
 ·rw [hl];cases rs<;>simp [oneL]
 ·rw [at_ i hi];show (1:Int)<=1/\(1:Int)<100000000000;omega
 ·rw [at_ i hi];exact hf
 ·rw [at_ i hi];exact h9
theorem OneLog.need {L:LogM} {d:DevM} {n:Nat} {rs:List RecM} (h:OneLog L d n rs) {k:Nat} (hk:(bufOf rs).length+8+k<=378):needB L k=decide (rs=[]):=by
 obtain ⟨base,b1,b2,hl⟩:=h.lst;unfold needB lastG;rw [hl];cases rs with
 | nil=>simp [oneL]
 | cons r rs =>
  have:¬ 370<(bufOf (r::rs)).length+k:=by omega
  simp [oneL,gl,this]
theorem OneLog.append {L:LogM} {d:DevM} {n:Nat} {rs:List RecM} (h:OneLog L d n rs) {body:List Int} (hb:1<=body.length/\body.length<=300) (hx:L.next<9999999999) (hfit:(bufOf rs).length+8+body.length<=378) :
 OneLog (appL L body) (appD L d body) (n+20) (rs++[⟨L.next,body⟩])/\(appL L body).next=L.next+1/\(appL L body).segs=L.segs/\(appL L body).from_=L.from_:=by
 obtain ⟨base,b1,b2,hl⟩:=h.lst;have hneed:=h.need hfit;have hsegs:=h.segs;have hroom:=h.room;have hnx:=h.next
 obtain ⟨r,hr⟩:∃ r:RecM,r=⟨L.next,body⟩:=⟨_,rfl⟩
 have hrb:recBytes r=hdrB body.length L.next++body:=by rw [hr];rfl
 have hgr:GoodR r:=by rw [hr];exact ⟨hb,by show 0<=L.next;omega,by show L.next<140737488355328;omega⟩
 have hbl:(bufOf (rs++[r])).length=(bufOf rs).length+8+body.length:=by
  rw [bufOf_push,List.length_append,rec_len,hr];show (bufOf rs).length+(8+body.length)=_;omega
 obtain ⟨L1,hL1⟩:∃ L1,L1=appL1 L body.length:=⟨_,rfl⟩
 obtain ⟨d1,hd1⟩:∃ d1,d1=appD1 L d body.length:=⟨_,rfl⟩
 have key:∃ base',0<=base'/\base'<100000000000/\L1.l=[⟨1,base',0,bufOf rs,rs⟩]/\L1.from_=L.from_/\L1.segs=L.segs/\L1.next=L.next/\L1.run=L.run/\L1.fresh=L.fresh/\d1.n=d.n/\d1.calls<=d.calls+2 /\
  (∀ i,i<8->∀ j,j<64->(rs=[]/\i=0)\/d1.now (L.from_+i) j=if startS i<(bufOf rs).length then secB ⟨1,base',0,bufOf rs,rs⟩ i L.run j else 0)/\∀ q,L.from_+8<=q->∀ j,d1.now q j=d.now q j:=by
  by_cases he:rs=[]
  ·subst he;have hn:needB L body.length=true:=by rw [hneed];rfl
   have e1:L1=beginL L:=by rw [hL1];exact if_pos hn
   have e2:d1=beginD L d:=by rw [hd1];exact if_pos hn
   have e3:L.l=[]:=by rw [hl];rfl
   have e4:newSeg L=⟨1,L.next,0,[],[]⟩:=by unfold newSeg;rw [e3];rfl
   have e5:secNo L (newSeg L) 0=L.from_:=by rw [e4];simp [secNo]
   refine ⟨L.next,by omega,by omega,?_,by rw [e1];rfl,by rw [e1];rfl,by rw [e1];rfl,by rw [e1];rfl,by rw [e1];rfl,by rw [e2];rfl,by rw [e2];exact Nat.le_refl _,fun i hi j hj=>?_,fun q hq j=>?_⟩
   ·rw [e1];show keepN L++[newSeg L]=_;rw [show keepN L=[] by unfold keepN;rw [e3];rfl,e4];rfl
   ·by_cases h0:i=0
    ·exact .inl ⟨rfl,h0⟩
    ·right;rw [e2,if_neg (by simp [bufOf])];show (if L.from_+i=secNo L (newSeg L) 0/\j<64 then _ else d.now (L.from_+i) j)=0;rw [e5,if_neg (by omega),h.dev.sec i hi j hj,e3];rfl
   ·rw [e2];show (if q=secNo L (newSeg L) 0/\j<64 then _ else d.now q j)=_;rw [e5,if_neg (by omega)]
  ·have hn:needB L body.length=false:=by rw [hneed];exact decide_eq_false he
   have e1:L1=L:=by rw [hL1];exact if_neg (by rw [hn];decide)
   have e2:d1=d:=by rw [hd1];exact if_neg (by rw [hn];decide)
   rw [oneL_ne he] at hl;refine ⟨base,b1,b2,by rw [e1,hl],by rw [e1],by rw [e1],by rw [e1],by rw [e1],by rw [e1],by rw [e2],by rw [e2];omega,fun i hi j hj=>?_,fun q hq j=>by rw [e2]⟩;right;rw [e2,h.dev.sec i hi j hj,hl];rfl
 obtain ⟨base',c1,c2,k1,k2,k3,k4,k5,k6,k7,k8,k9,k10⟩:=key;have hA:appL L body=appL2 L1 body:=by rw [hL1];rfl
 have hlast:lastG L1=⟨1,base',0,bufOf rs,rs⟩:=by unfold lastG;rw [k1];rfl
 obtain ⟨g',hg'⟩:∃ g':SegM,g'=⟨1,base',0,bufOf (rs++[r]),rs++[r]⟩:=⟨_,rfl⟩
 have hbuf:bufApp ⟨1,base',0,bufOf rs,rs⟩ L.next body=bufOf (rs++[r]):=by
  rw [bufOf_push,hrb];simp [bufApp,List.append_assoc]
 have hl2:(appL L body).l=[g']:=by
  rw [hA];show L1.l.set (L1.l.length - 1) (segApp (lastG L1) L1.next body)=_;rw [hlast,k1,k4];simp only [segApp,hbuf,hg',hr];rfl
 have hnx2:(appL L body).next=L.next+1:=by rw [hA];show L1.next+1=_;rw [k4]
 have hfr2:(appL L body).from_=L.from_:=by rw [hA];exact k2
 have hsg2:(appL L body).segs=L.segs:=by rw [hA];exact k3
 have hrn2:(appL L body).run=L.run:=by rw [hA];exact k5
 obtain ⟨gw,hgw⟩:∃ gw,gw=segW (lastG L1) L1.next body:=⟨_,rfl⟩
 have hgw1:gw=⟨1,base',0,bufOf (rs++[r]),rs⟩:=by rw [hgw,hlast,k4];simp only [segW,hbuf]
 have hsec:∀ i j,secB gw i L.run j=secB g' i L.run j:=fun i j=>by rw [hgw1,hg'];rfl
 have hD2:appD2 L1 d1 body=writesTo L1 gw (bufOf rs).length d1 8:=by unfold appD2;rw [<- hgw,hlast]
 have hmod:(gw.gen - 1).toNat % L1.segs=0:=by rw [hgw1];simp
 obtain ⟨w1,w2⟩:=writesTo_n L1 gw (bufOf rs).length d1 8;have hnow:∀ q j,(appD L d body).now q j=(appD2 L1 d1 body).now q j:=fun q j=>by
  unfold appD;rw [<- hL1,<- hd1];split<;>rfl
 have hdn:(appD L d body).n=d.n/\(appD L d body).calls<=d.calls+11:=by
  unfold appD;rw [<- hL1,<- hd1,hD2];split
  ·simp only [devFl];omega
  ·omega
 have hgl:gw.buf.length=(bufOf rs).length+8+body.length:=by rw [hgw1];exact hbl
 refine ⟨⟨by rw [hsg2];exact hsegs,by rw [hfr2,hsg2,hdn.1];exact hroom,by rw [hdn.1];exact h.size,by have:=h.calls;omega,by rw [hnx2];omega,by rw [hrn2];exact h.run,?_,?_,?_,?_,?_⟩,hnx2,hsg2,hfr2⟩
 ·rw [hnx2,<- hr];intro x hx;rcases List.mem_append.1 hx with hx|hx
  ·have:=h.good x hx;exact ⟨this.1,by omega⟩
  ·have:x=r:=by simpa using hx
   rw [this];refine ⟨hgr,?_⟩;rw [hr];show L.next<L.next+1;omega
 ·rw [<- hr];refine sortedR_push h.sort (fun x hx=>?_) (by rw [hr];show 0<=L.next/\L.next<1000000000000;omega);rw [hr];exact (h.good x hx).2
 ·rw [<- hr,hbl];exact hfit
 ·refine ⟨base',c1,c2,?_⟩;rw [hl2,<- hr,oneL_ne (by simp),hg']
 ·rw [hl2,hfr2,hsg2,hrn2];refine ⟨fun i hi j hj=>?_,fun q hq hq2 j hj=>?_⟩
  ·rw [hnow,hD2,writesTo_now hmod 8 _ j hj,k2,k5,Nat.add_sub_cancel_left,hsec];have hg'l:g'.buf.length=(bufOf rs).length+8+body.length:=by rw [hg'];exact hbl
   show _=if startS i<g'.buf.length then secB g' i L.run j else 0;by_cases hs:startS i<g'.buf.length
   ·rw [if_pos hs];by_cases hc:(bufOf rs).length<startS (i+1)
    ·rw [if_pos ⟨i,hi,rfl,by simp only [condS,Bool.and_eq_true,decide_eq_true_eq];exact ⟨hc,by rw [hgl,<- hg'l];exact hs⟩⟩]
    ·rw [if_neg]
     ·have hlt:startS i<(bufOf rs).length:=by unfold startS at *;omega
      rcases k9 i hi j hj with ⟨e,e0⟩|e
      ·subst e;simp [bufOf] at hlt
      ·rw [e,if_pos hlt];exact secB_same (e:=recBytes r) (by rw [hg']) (by rw [hg']) (by rw [hg'];exact bufOf_push rs r) (show startS (i+1)<=(bufOf rs).length by omega) j hj
     ·rintro ⟨i',_,e,hcc⟩;have:i'=i:=by omega
      subst this;simp only [condS,Bool.and_eq_true,decide_eq_true_eq] at hcc;exact hc hcc.1
   ·rw [if_neg hs,if_neg]
    ·rcases k9 i hi j hj with ⟨e,e0⟩|e
     ·subst e0;exact absurd (show startS 0<g'.buf.length by rw [hg'l];show 0<_;omega) hs
     ·rw [e,if_neg (by omega)]
    ·rintro ⟨i',_,e,hcc⟩;have:i'=i:=by omega
     subst this;simp only [condS,Bool.and_eq_true,decide_eq_true_eq] at hcc;omega
  ·rw [hnow,hD2,writesTo_now hmod 8 _ j hj,k2,if_neg (by rintro ⟨i',_,e,_⟩;omega),k10 q hq];exact h.dev.rest q hq hq2 j hj
end Go.Proofs.YtfhkbihcfmbbcaaGreat

namespace Go.Proofs.YtfhkbihcfmbbcaaGreat
open Go.Sx
set_option maxRecDepth 100000
set_option linter.unusedVariables false
set_option linter.unusedSimpArgs false
theorem sortedR_iff {rs:List RecM}:SortedR rs↔rs.Pairwise (fun a b=>a.pos<b.pos)/\∀ r∈rs,0<=r.pos/\r.pos<1000000000000:=by
 constructor
 ·rintro ⟨h1,h2⟩;refine ⟨?_,fun r hr=>?_⟩
  ·rw [List.pairwise_iff_getElem];intro i j hi hj hij;have:=h1 i j hij hj;rwa [gl_eq hi,gl_eq hj] at this
  ·obtain ⟨i,hi,rfl⟩:=List.getElem_of_mem hr;have:=h2 i hi;rwa [gl_eq hi] at this
 ·rintro ⟨h1,h2⟩;refine ⟨fun i j hij hj=>?_,fun i hi=>?_⟩
  ·rw [gl_eq (show i<rs.length by omega),gl_eq hj];exact List.pairwise_iff_getElem.1 h1 i j (by omega) hj hij
  ·rw [gl_eq hi];exact h2 _ (List.getElem_mem _)
theorem find_pos:∀ {rs:List RecM} {r:RecM},rs.Pairwise (fun a b=>a.pos<b.pos)->r∈rs->findR rs r.pos=some r.body
 | [],_,_,h=>by cases h
 | a::rs,r,hp,h=>by
  rw [List.pairwise_cons] at hp;by_cases e:a.pos=r.pos
  ·have:a=r:=by
    rcases List.mem_cons.1 h with h|h
    ·exact h.symm
    ·have:=hp.1 r h;omega
   subst this;simp [findR]
  ·have hm:r∈rs:=by
    rcases List.mem_cons.1 h with h|h
    ·exact absurd (by rw [h]) e
    ·exact h
   have:=find_pos hp.2 hm;unfold findR at this ⊢;rw [List.find?_cons];simp only [e,decide_false];exact this
theorem find_nopos {rs:List RecM} {p:Int} (h:∀ r∈rs,r.pos≠p):findR rs p=none:=by
 unfold findR;rw [Option.map_eq_none_iff,List.find?_eq_none];intro r hr;simpa using h r hr
theorem read_pos:∀ {l:List SegM} {r:RecM},(allR l).Pairwise (fun a b=>a.pos<b.pos)->r∈allR l->readTo l r.pos=some r.body
 | [],_,_,h=>by cases h
 | g::l,r,hp,h=>by
  have e:allR (g::l)=g.recs++allR l:=rfl;rw [e] at hp h;rw [List.pairwise_append] at hp;simp only [readTo,List.findSome?_cons];by_cases hg:r∈g.recs
  ·rw [find_pos hp.1 hg]
  ·have hm:r∈allR l:=(List.mem_append.1 h).resolve_left hg;rw [find_nopos fun x hx=>by have:=hp.2.2 x hx r hm;omega];exact read_pos hp.2.1 hm
theorem first_pos:∀ (l:List SegM) (next:Int),firstTo l next=match allR l with | []=>next|r::_=>r.pos
 | [],_=>rfl
 | g::l,next=>by
  have e:allR (g::l)=g.recs++allR l:=rfl;rw [e];cases hr:g.recs with
  | nil =>
   rw [List.nil_append];have:=first_pos l next
   unfold firstTo at this ⊢;rw [List.find?_cons,hr];exact this
  | cons r rs =>
   unfold firstTo;rw [List.find?_cons,hr];simp [gl,hr]
structure LogRd (L:LogM) (rs:List RecM):Prop where
 all:allR L.l=rs
 few:L.l.length<1000
 sort:SortedR rs
 body:∀ r∈rs,1<=r.body.length/\r.body.length<=300
 seg:∀ i,i<L.l.length->(gl L.l i).recs.length<=400
theorem OneLog.rd {L:LogM} {d:DevM} {n:Nat} {rs:List RecM} (h:OneLog L d n rs):LogRd L rs:=by
 obtain ⟨base,_,_,hl⟩:=h.lst;have h9:=bufOf_len rs fun r hr=>(h.good r hr).1;have hf:=h.fits;refine ⟨by rw [hl,allR_one],?_,h.sort,fun r hr=>(h.good r hr).1.len,fun i hi=>?_⟩
 ·rw [hl];cases rs<;>simp [oneL]
 ·rw [hl] at hi ⊢;cases rs with
  | nil=>exact absurd hi (Nat.not_lt_zero i)
  | cons r rs =>
   have:i=0:=by simpa [oneL] using hi
   subst this;show (r::rs).length<=400;omega
theorem LogRd.first {L:LogM} {rs:List RecM} (h:LogRd L rs) {r:RecM} (hr:r∈rs):firstF L<=r.pos:=by
 unfold firstF;rw [first_pos,h.all];have hp:=(sortedR_iff.1 h.sort).1;cases rs with
 | nil=>cases hr
 | cons a rs =>
  show a.pos<=r.pos;rcases List.mem_cons.1 hr with rfl|hr
  ·exact Int.le_refl _
  ·exact Int.le_of_lt ((List.pairwise_cons.1 hp).1 r hr)
def updK (get:ByteArray->Option ItemM) (k:ByteArray) (r:Option ItemM):ByteArray->Option ItemM:=fun k'=>if k'=k then r else get k'
structure FlGet (m:FlM) (rs:List RecM) (get:ByteArray->Option ItemM):Prop where
 rd:LogRd m.L rs
 pos:∀ e∈m.l,∃ x,get e.1=some x/\x.key=e.1/\mayB x=true/\(⟨e.2,bodyOf (some x)⟩:RecM)∈rs
 all:∀ k,get k≠none->k∈m.l.map Prod.fst
theorem LogRd.segs {L:LogM} {rs:List RecM} (h:LogRd L rs) (i:Nat) (hi:i<L.l.length):SortedR (gl L.l i).recs/\(gl L.l i).recs.length<=400/\∀ k,k<(gl L.l i).recs.length->1<=(gl (gl L.l i).recs k).body.length/\(gl (gl L.l i).recs k).body.length<=1000:=by
 obtain ⟨hs1,hs2⟩:=sortedR_iff.1 h.sort;refine ⟨?_,h.seg i hi,fun k hk=>?_⟩
 ·have hm:gl L.l i∈L.l:=by rw [gl_eq hi];exact List.getElem_mem _
  have hsub:(gl L.l i).recs.Sublist rs:=by rw [<- h.all];exact sub_flatMap (f:=fun g:SegM=>g.recs) hm
  exact sortedR_iff.2 ⟨hs1.sublist hsub,fun r hr=>hs2 r (hsub.subset hr)⟩
 ·obtain ⟨j,hj,e⟩:=allR_at hi hk;rw [h.all] at hj e;have:=h.body (gl rs j) (by rw [gl_eq hj];exact List.getElem_mem _);rw [e] at this;omega
theorem FlGet.flRd {m:FlM} {rs:List RecM} {get:ByteArray->Option ItemM} (h:FlGet m rs get):FlRd m:=⟨h.rd.few,h.rd.segs,fun e he=>by
 obtain ⟨x,_,_,_,hx⟩:=h.pos e he;exact (sortedR_iff.1 h.rd.sort).2 _ hx⟩
theorem FlGet.ent {m:FlM} {rs:List RecM} {get:ByteArray->Option ItemM} (h:FlGet m rs get) (k:ByteArray):EntIs m k (get k):=by
 have hs:=(sortedR_iff.1 h.rd.sort).1;cases hg:get k with
 | none =>
  left;intro hm;obtain ⟨e,he,rfl⟩:=List.mem_map.1 hm;obtain ⟨x,h1,_⟩:=h.pos e he;rw [hg] at h1;cases h1
 | some x =>
  obtain ⟨e,he,rfl⟩:=List.mem_map.1 (h.all k (by rw [hg];simp));obtain ⟨x',h1,_,h3,h4⟩:=h.pos e he;rw [hg] at h1;cases h1;rw [<- h.rd.all] at hs h4;exact ⟨e.2,he,read_pos hs h4,h3⟩
theorem FlGet.keep {m:FlM} {rs:List RecM} {get:ByteArray->Option ItemM} (h:FlGet m rs get) {L':LogM} {rs':List RecM} (hL:LogRd L' rs') (hs:∀ r∈rs,r∈rs'):(m.l.filter fun e=>decide (firstF L'<=e.2))=m.l:=by
 rw [List.filter_eq_self];intro e he;obtain ⟨x,_,_,_,hx⟩:=h.pos e he;simpa using hL.first (hs _ hx)
theorem mem_dropK {l:List (ByteArray × Int)} {k:ByteArray} {e:ByteArray × Int}:e∈dropK l k↔e∈l/\e.1≠k:=by
 unfold dropK;rw [List.mem_filter];simp
theorem FlGet.put {m:FlM} {rs:List RecM} {get:ByteArray->Option ItemM} (h:FlGet m rs get) {L':LogM} {d':DevM} {p:Int} {x:ItemM} (hx:mayB x=true) (hL:LogRd L' (rs++[⟨p,bodyOf (some x)⟩])) :
 FlGet ⟨L',d',putK m.l x.key p⟩ (rs++[⟨p,bodyOf (some x)⟩]) (updK get x.key (some x)):=by
 refine ⟨hL,fun e he=>?_,fun k hk=>?_⟩
 ·rcases List.mem_cons.1 he with rfl|he
  ·exact ⟨x,if_pos rfl,rfl,hx,by simp⟩
  ·obtain ⟨he,hne⟩:=mem_dropK.1 he;obtain ⟨x',h1,h2,h3,h4⟩:=h.pos e he;exact ⟨x',by unfold updK;rw [if_neg hne];exact h1,h2,h3,List.mem_append_left _ h4⟩
 ·by_cases e:k=x.key
  ·subst e;exact List.mem_map.2 ⟨(x.key,p),List.mem_cons_self,rfl⟩
  ·have hk:get k≠none:=by unfold updK at hk;rwa [if_neg e] at hk
   obtain ⟨q,hq,rfl⟩:=List.mem_map.1 (h.all k hk);exact List.mem_map.2 ⟨q,List.mem_cons_of_mem _ (mem_dropK.2 ⟨hq,e⟩),rfl⟩
theorem FlGet.drop {m:FlM} {rs:List RecM} {get:ByteArray->Option ItemM} (h:FlGet m rs get) {L':LogM} {d':DevM} {k0:ByteArray} {r:RecM} (hL:LogRd L' (rs++[r])) :
 FlGet ⟨L',d',dropK m.l k0⟩ (rs++[r]) (updK get k0 none):=by
 refine ⟨hL,fun e he=>?_,fun k hk=>?_⟩
 ·obtain ⟨he,hne⟩:=mem_dropK.1 he;obtain ⟨x',h1,h2,h3,h4⟩:=h.pos e he;exact ⟨x',by unfold updK;rw [if_neg hne];exact h1,h2,h3,List.mem_append_left _ h4⟩
 ·by_cases e:k=k0
  ·subst e;exact absurd (if_pos rfl) hk
  ·have hk:get k≠none:=by unfold updK at hk;rwa [if_neg e] at hk
   obtain ⟨q,hq,rfl⟩:=List.mem_map.1 (h.all k hk);exact List.mem_map.2 ⟨q,mem_dropK.2 ⟨hq,e⟩,rfl⟩
structure FlOne (m:FlM) (n:Nat) (rs:List RecM) (get:ByteArray->Option ItemM):Prop where
 log:OneLog m.L m.d n rs
 has:FlGet m rs get
 few:m.l.length<=rs.length
theorem OneLog.len {L:LogM} {d:DevM} {n:Nat} {rs:List RecM} (h:OneLog L d n rs):rs.length<=42:=by
 have h9:=bufOf_len rs fun r hr=>(h.good r hr).1;have:=h.fits;omega
theorem FlOne.ok {m:FlM} {n k:Nat} {rs:List RecM} {get:ByteArray->Option ItemM} (h:FlOne m n rs get) (hn:n<900000000000) (hk:(bufOf rs).length+8+k<=378):FlOk m k:=by
 exact ⟨h.log.logOk hn,by have:=h.few;have:=h.log.len;omega⟩
theorem FlOne.add {m:FlM} {n:Nat} {rs:List RecM} {get:ByteArray->Option ItemM} (h:FlOne m n rs get) {body:List Int} (hb:1<=body.length/\body.length<=300) (hx:m.L.next<9999999999) (hfit:(bufOf rs).length+8+body.length<=378) :
 OneLog (addF m body).L (addF m body).d (n+20) (rs++[⟨m.L.next,body⟩])/\(addF m body).L.next=m.L.next+1/\(addF m body).l=m.l/\(addF m body).L.segs=m.L.segs/\(addF m body).L.from_=m.L.from_:=by
 obtain ⟨h1,h2,h3,h4⟩:=h.log.append hb hx hfit;exact ⟨h1,h2,h.has.keep h1.rd fun r hr=>List.mem_append_left _ hr,h3,h4⟩
theorem FlOne.put {m:FlM} {n:Nat} {rs:List RecM} {get:ByteArray->Option ItemM} (h:FlOne m n rs get) {x:ItemM} (hx:putOk x=true) (hn:m.L.next<9999999999) (hfit:(bufOf rs).length+8+(bodyOf (some x)).length<=378) :
 FlOne (putF m x) (n+20) (rs++[⟨m.L.next,bodyOf (some x)⟩]) (updK get x.key (some x))/\(putF m x).L.next=m.L.next+1/\(putF m x).L.segs=m.L.segs/\(putF m x).L.from_=m.L.from_:=by
 have hm:mayB x=true:=by unfold putOk at hx;simp only [Bool.and_eq_true] at hx;exact hx.1
 obtain ⟨b1,b2⟩:=bodyOf_len (o:=some x) fun z e=>by cases e;exact hm
 obtain ⟨h1,h2,h3,h4,h5⟩:=h.add ⟨b1,by omega⟩ hn hfit;have hF:putF m x=⟨(addF m (bodyOf (some x))).L,(addF m (bodyOf (some x))).d,putK m.l x.key m.L.next⟩:=by
  unfold putF;rw [if_pos hx,h3]
 rw [hF];refine ⟨⟨h1,h.has.put hm h1.rd,?_⟩,h2,h4,h5⟩;have:=putK_len m.l x.key m.L.next
 have:=h.few;show (putK m.l x.key m.L.next).length<=_;rw [List.length_append,List.length_singleton];omega
theorem FlOne.drop {m:FlM} {n:Nat} {rs:List RecM} {get:ByteArray->Option ItemM} (h:FlOne m n rs get) {k:ByteArray} (hk:keyB k=true) (hn:m.L.next<9999999999) (hfit:(bufOf rs).length+8+(bodyOf (some (itemD k))).length<=378) :
 FlOne (dropF m k) (n+20) (rs++[⟨m.L.next,bodyOf (some (itemD k))⟩]) (updK get k none)/\(dropF m k).L.next=m.L.next+1/\(dropF m k).L.segs=m.L.segs/\(dropF m k).L.from_=m.L.from_:=by
 obtain ⟨b1,b2⟩:=bodyOf_len (o:=some (itemD k)) fun z e=>by cases e;exact itemD_may hk
 obtain ⟨h1,h2,h3,h4,h5⟩:=h.add ⟨b1,by omega⟩ hn hfit;have hF:dropF m k=⟨(addF m (bodyOf (some (itemD k)))).L,(addF m (bodyOf (some (itemD k)))).d,dropK m.l k⟩:=by
  unfold dropF;rw [h3]
 rw [hF];refine ⟨⟨h1,h.has.drop h1.rd,?_⟩,h2,h4,h5⟩;have:=dropK_len m.l k;have:=h.few;show (dropK m.l k).length<=_;rw [List.length_append,List.length_singleton];omega
def newF (fr sg:Nat) (d:DevM):FlM:=⟨⟨fr,sg,[],1,1,true⟩,d,[]⟩
theorem FlOne.new {fr sg:Nat} {d:DevM} {n:Nat} {run:Int} (h3:3<=sg/\sg<=200) (hr:fr+sg*8<=d.n) (hn:d.n<100000) (hc:d.calls<=n) (hd:DevIs fr sg none run d):FlOne (newF fr sg d) n [] fun _=>none:=by
 have hl:OneLog (newF fr sg d).L (newF fr sg d).d n []:=⟨h3,hr,hn,hc,by show (1:Int)<=1/\(1:Int)<10000000000;omega,by show (0:Int)<=1/\(1:Int)<4294967296;omega,fun r hr=>by (cases hr),⟨fun i j _ hj=>absurd hj (Nat.not_lt_zero j),fun i hi=>absurd hi (Nat.not_lt_zero i)⟩,Nat.zero_le _,⟨0,by omega,by omega,rfl⟩,⟨hd.sec,hd.rest⟩⟩
 exact ⟨hl,⟨hl.rd,fun e he=>(by cases he),fun k hk=>absurd rfl hk⟩,Nat.le_refl _⟩
theorem crash_now {d:DevM} {klen:Nat} {keep:Nat->Bool} (h:∀ r,d.loose r=false) (r j:Nat):(devCrash d klen keep).now r j=d.lasts r j:=by
 show crashNow d klen keep r j=_;unfold crashNow;rw [h r];rfl
end Go.Proofs.YtfhkbihcfmbbcaaGreat

namespace Go.Proofs
open Go.Shelf
def Tryz.lays190_ren:Go.Shelf.Ren:=⟨fun|190=>83|125=>101|258=>100|128=>119|129=>120|302=>110|303=>111|304=>112|305=>113|306=>114|307=>115|308=>116|309=>117|310=>118|333=>125|329=>126|330=>127|334=>128|335=>129|336=>130|344=>139|n=>n,fun|31=>44|9=>9|3=>3|46=>181|0=>0|51=>169|53=>151|4=>4|183=>195|182=>194|131=>173|5=>5|218=>205|222=>209|228=>216|229=>129|n=>n,fun|n=>n⟩
theorem Tryz.lays190:Go.Proofs.Lays.n190 Tryz.prog Tryz.lays190_ren:={
 mixed:=by kernel_rfl
 f125:=Tryz.func101.trans (congrArg some (by kernel_rfl))
 f128:=Tryz.func119.trans (congrArg some (by kernel_rfl))
 f129:=Tryz.func120.trans (congrArg some (by kernel_rfl))
 f190:=Tryz.func83.trans (congrArg some (by kernel_rfl))
 f258:=Tryz.func100.trans (congrArg some (by kernel_rfl))
 f302:=Tryz.func110.trans (congrArg some (by kernel_rfl))
 f303:=Tryz.func111.trans (congrArg some (by kernel_rfl))
 f304:=Tryz.func112.trans (congrArg some (by kernel_rfl))
 f305:=Tryz.func113.trans (congrArg some (by kernel_rfl))
 f306:=Tryz.func114.trans (congrArg some (by kernel_rfl))
 f307:=Tryz.func115.trans (congrArg some (by kernel_rfl))
 f308:=Tryz.func116.trans (congrArg some (by kernel_rfl))
 f309:=Tryz.func117.trans (congrArg some (by kernel_rfl))
 f310:=Tryz.func118.trans (congrArg some (by kernel_rfl))
 f329:=Tryz.func126.trans (congrArg some (by kernel_rfl))
 f330:=Tryz.func127.trans (congrArg some (by kernel_rfl))
 f333:=Tryz.func125.trans (congrArg some (by kernel_rfl))
 f334:=Tryz.func128.trans (congrArg some (by kernel_rfl))
 f335:=Tryz.func129.trans (congrArg some (by kernel_rfl))
 f336:=Tryz.func130.trans (congrArg some (by kernel_rfl))
 f344:=Tryz.func139.trans (congrArg some (by kernel_rfl))
 t0:=Tryz.underlying0
 a0:=Tryz.isAgg0
 z0:=Tryz.sizeOf0
 v0:=Tryz.zeroValue0
 t3:=Tryz.underlying3
 a3:=Tryz.isAgg3
 z3:=Tryz.sizeOf3
 v3:=Tryz.zeroValue3
 t4:=Tryz.underlying4
 a4:=Tryz.isAgg4
 z4:=Tryz.sizeOf4
 v4:=Tryz.zeroValue4
 t5:=Tryz.underlying5
 a5:=Tryz.isAgg5
 z5:=Tryz.sizeOf5
 v5:=Tryz.zeroValue5
 t9:=Tryz.underlying9
 a9:=Tryz.isAgg9
 z9:=Tryz.sizeOf9
 v9:=Tryz.zeroValue9
 t31:=Tryz.underlying44
 a31:=Tryz.isAgg44
 z31:=Tryz.sizeOf44
 v31:=Tryz.zeroValue44
 t46:=Tryz.underlying181
 a46:=Tryz.isAgg181
 z46:=Tryz.sizeOf181
 v46:=Tryz.zeroValue181
 t51:=Tryz.underlying169
 a51:=Tryz.isAgg169
 z51:=Tryz.sizeOf169
 v51:=Tryz.zeroValue169
 t53:=Tryz.underlying151
 a53:=Tryz.isAgg151
 z53:=Tryz.sizeOf151
 v53:=Tryz.zeroValue151
 t131:=Tryz.underlying173
 a131:=Tryz.isAgg173
 z131:=Tryz.sizeOf173
 v131:=Tryz.zeroValue173
 t182:=Tryz.underlying194
 a182:=Tryz.isAgg194
 z182:=Tryz.sizeOf194
 v182:=Tryz.zeroValue194
 t183:=Tryz.underlying195
 a183:=Tryz.isAgg195
 z183:=Tryz.sizeOf195
 v183:=Tryz.zeroValue195
 t218:=Tryz.underlying205
 a218:=Tryz.isAgg205
 z218:=Tryz.sizeOf205
 v218:=Tryz.zeroValue205
 t222:=Tryz.underlying209
 a222:=Tryz.isAgg209
 z222:=Tryz.sizeOf209
 v222:=Tryz.zeroValue209
 t228:=Tryz.underlying216
 a228:=Tryz.isAgg216
 z228:=Tryz.sizeOf216
 v228:=Tryz.zeroValue216
 t229:=Tryz.underlying129
 a229:=Tryz.isAgg129
 z229:=Tryz.sizeOf129
 v229:=Tryz.zeroValue129 }
open Go.Sort Go.RowKit in
theorem Tryz.slices_Sort_string (blk off cap:Nat) (ss:List (List UInt8)) (w:World) (hH:Holds encStr w blk off ss.toArray) (hblk:blk<w.heap.size) (hsz:ss.length<4611686018427387904) :
 Calls Tryz.prog 83 #[.slice (some ⟨blk,off,none⟩) ss.length cap] w fun e w' =>
  e = .returned (.tuple #[])/\∃ n os,w'=grow (putRow encStr (Sort.ahead w n) blk off (ss.mergeSort fun x y=>decide (x<=y)).toArray) os:=Any.slices_Sort_string Tryz.lays190 blk off cap ss w hH hblk hsz
open Go.RowKit Go.Sort in
theorem Tryz.slices_Sort_string_none (p:Option Addr) (cap:Nat) (w:World) :
 Calls Tryz.prog 83 #[.slice p 0 cap] w fun e w'=>e = .returned (.tuple #[])/\w'=w:=Any.slices_Sort_string_none Tryz.lays190 p cap w
end Go.Proofs

namespace Go.Sx
section
open Go.Sort
structure SortA (β:Type) where
 l:List β
 cap:Nat
def cellRows {β:Type} [Inhabited β] (enc:β->Value) (l:List β):Nat->Nat->Value:=encRows (fun x=>[enc x]) l
def cSort {β:Type} [Inhabited β] (ty:TypeId) (k:CK) (enc:β->Value) (srt:List β->List β):Con where
 α:=SortA β
 β:=Unit
 m:=1
 m':=1
 pre:=fun a=>a.l.length<100000
 args:=fun a=>[.a (.slc 0 0 1 a.l.length a.cap)]
 hp:=fun a=>[(0,.arr ty [k] a.l.length (cellRows enc a.l))]
 ro:=fun _=>[]
 post:=fun _ _=>True
 res:=fun _ _=>.tup []
 hp':=fun a _=>[(0,.arr ty [k] a.l.length (cellRows enc (srt a.l)))]
theorem cellRows_at {β:Type} [Inhabited β] {enc:β->Value} {l:List β} {i:Nat}:cellRows enc l i 0=enc (gl l i):=rfl
theorem holds_of_sat {β:Type} [Inhabited β] {k:CK} {enc:β->Value} {ty:TypeId} {l:List β} {ρ:Env} {p:Place} {w:World} (h:(Chunk.arr ty [k] l.length (cellRows enc l)).Sat ρ p w) (h0:l≠[]) :
 ∃ vs ty' fr,w.heap[p.blk]? = some (.cells vs ty' fr)/\p.off+p.N<=vs.size/\l.length<=p.N/\UnfrozenIn p.off (p.off+p.N) fr/\(∀ b,p.fp b↔b=p.blk)/\(∀ i,i<l.length->vs[p.off+i]? = some (enc (gl l i))):=by
 rcases h with ⟨hn,_⟩ | ⟨vs,ty',fr,hb,h1,h2,h3,h4,h5⟩
 ·exact absurd (List.eq_nil_of_length_eq_zero hn) h0
 ·simp only [List.length_singleton,Nat.mul_one] at h1 h3 h5;refine ⟨vs,ty',fr,hb,h1,h2,h3,h4,fun i hi=>?_⟩;obtain ⟨g1,_⟩:=h5 i hi 0 k rfl;exact g1
theorem sort_sem {β γ:Type} [Inhabited β] [Inhabited γ] {X:Cx} {f:Nat} {ty:TypeId} {k:CK} {enc:β->Value} {enc2:γ->Value} {to:β->γ} {srt:List β->List β} {srt2:List γ->List γ}
 (hto:∀ x,enc2 (to x)=enc x) (hsrt:∀ l,(srt l).map to=srt2 (l.map to)) (hlen:∀ l,(srt l).length=l.length) (hin:∀ l x,x∈srt l->x∈l)
 (hcall:∀ (blk off cap:Nat) (l:List γ) (w:World),Holds enc2 w blk off l.toArray->blk<w.heap.size->l.length<4611686018427387904 ->
  Calls X.P f #[.slice (some ⟨blk,off,none⟩) l.length cap] w fun e w'=>e = .returned (.tuple #[])/\∃ n os,w'=grow (putRow enc2 (Sort.ahead w n) blk off (srt2 l).toArray) os)
 (hnone:∀ (p:Option Addr) (cap:Nat) (w:World),Calls X.P f #[.slice p 0 cap] w fun e w'=>e = .returned (.tuple #[])/\w'=w) :
 ConSem X (cSort ty k enc srt) f:=by
 intro a hpre M ρ w vs hn hh hargs;obtain ⟨l,cap⟩:=a;obtain ⟨v,vs',rfl,hv,rfl⟩:=hargs;obtain ⟨hT,hlc,hcm,hv⟩:=hv;have he:=hh.ent ⟨0,true,.arr ty [k] l.length (cellRows enc l)⟩ (by simp [wrs,cSort]);have hsat:=he.ch;simp only at hsat hlc hcm hv hT;by_cases h0:l=[]
 ·subst h0;have hs:srt []=[]:=List.eq_nil_of_length_eq_zero (hlen []);have hcalls:Calls X.P f #[v] w fun e w'=>e = .returned (.tuple #[])/\w'=w:=by
   rcases hv with ⟨_,h2,rfl⟩ | ⟨o,rfl,_⟩
   ·exact hnone none 0 w
   ·exact hnone (some _) cap w
  refine hcalls.mono ?_;rintro e w' ⟨rfl,rfl⟩;refine ⟨_,rfl,(),ρ,trivial,hn,fun _ _=>rfl,⟨[],rfl,rfl⟩,?_⟩;show HeapSat w' M ρ (wrs [(0,.arr ty [k] ([]:List β).length (cellRows enc (srt [])))]) w';rw [hs];have:(wrs ((cSort ty k enc srt).hp ⟨[],cap⟩)++ros ((cSort ty k enc srt).ro ⟨[],cap⟩))=wrs [(0,.arr ty [k] ([]:List β).length (cellRows enc []))]:=by simp [cSort,ros,wrs]
  rw [this] at hh;exact hh
 ·obtain ⟨vs0,ty',fr,hb,h1,h2,h3,h4,h5⟩:=holds_of_sat hsat h0;have hpos:l.length≠0:=fun h=>h0 (List.eq_nil_of_length_eq_zero h);have hlt:(ρ.pl 0).blk<w.heap.size:=he.lt _ ((h4 _).2 rfl);rcases hv with ⟨g1,_,_⟩ | ⟨o,rfl,ho⟩
  ·exact absurd g1 hpos
  obtain ⟨rfl,_⟩:=ho (by omega);simp only [Nat.add_zero,Nat.mul_one] at *;have hHolds:Holds enc2 w (ρ.pl 0).blk (ρ.pl 0).off (l.map to).toArray:=by
   intro j hj;simp only [List.size_toArray,List.length_map] at hj;refine ⟨?_,?_⟩
   ·simp only [World.cell?,hb];rw [h5 j hj,getElem!_pos _ j (by simpa using hj)];simp [hto,gl_eq hj]
   ·simp only [World.frozen?,hb];have:=h3 ((ρ.pl 0).off+j) (by omega) (by omega);obtain ⟨lo,hi⟩:=fr;simpa using this
  have hcalls:=hcall (ρ.pl 0).blk (ρ.pl 0).off cap (l.map to) w hHolds hlt (by rw [List.length_map];have:l.length<100000:=hpre;omega);rw [List.length_map] at hcalls;refine hcalls.mono ?_;rintro e w' ⟨rfl,n,os,rfl⟩;refine ⟨_,rfl,(),ρ,trivial,hn,fun _ _=>rfl,⟨[],rfl,rfl⟩,?_⟩;have hsz:(srt2 (l.map to)).length=l.length:=by rw [<- hsrt,List.length_map,hlen]
  have hheap:∀ b,b<w.heap.size->(grow (putRow enc2 (Sort.ahead w n) (ρ.pl 0).blk (ρ.pl 0).off (srt2 (l.map to)).toArray) os).heap[b]? = (w.heap.modify (ρ.pl 0).blk (onCells (putCells enc2 (ρ.pl 0).off (srt2 (l.map to)).toArray)))[b]?:=by
   intro b hb';rw [heap_grow_old _ _ (by simpa using hb')];rfl
  have hblk:(grow (putRow enc2 (Sort.ahead w n) (ρ.pl 0).blk (ρ.pl 0).off (srt2 (l.map to)).toArray) os).heap[(ρ.pl 0).blk]? = some (.cells (putCells enc2 (ρ.pl 0).off (srt2 (l.map to)).toArray vs0) ty' fr):=by
   rw [hheap _ hlt,Array.getElem?_modify,if_pos rfl,hb];rfl
  have hoth:∀ b,b<w.heap.size->b≠(ρ.pl 0).blk->(grow (putRow enc2 (Sort.ahead w n) (ρ.pl 0).blk (ρ.pl 0).off (srt2 (l.map to)).toArray) os).heap[b]? = w.heap[b]?:=by
   intro b hb' hne;rw [hheap b hb',Array.getElem?_modify,if_neg (fun h=>hne h.symm)]
  refine ⟨⟨rfl,rfl,rfl,?_,fun b hb' hm=>?_,fun ad had=>?_⟩,?_,?_⟩
  ·simp
  ·exact hoth b hb' fun e=>hm (he.own rfl b ((h4 b).2 e) hb')
  ·rw [frozen?_grow _ _ _ (by simpa using had),frozen?_putRow,frozen?_ahead]
  ·intro e' he';have:e'=⟨0,true,.arr ty [k] l.length (cellRows enc (srt l))⟩:=by simpa [wrs,cSort] using he'
   subst this;refine ⟨he.tag,?_,fun b hb'=>?_,he.own⟩
   ·refine .inr ⟨_,ty',fr,hblk,?_,h2,?_,h4,fun i hi j k' hj=>?_⟩
    ·simpa [putCells] using h1
    ·simpa using h3
    ·have hj0:j=0:=by
      cases j with
      | zero=>rfl
      | succ j=>simp at hj
     subst hj0;have hk:k'=k:=by simpa using hj.symm
     subst hk;have hi':i<(srt l).length:=by rw [hlen];exact hi
     have hmem:gl (srt l) i∈l:=hin l _ (gl_mem hi');refine ⟨?_,?_⟩
     ·simp only [List.length_singleton,Nat.mul_one,Nat.add_zero,putCells,Array.getElem?_mapIdx,h5 i hi,Option.map_some];rw [if_pos ⟨by omega,by simp;omega⟩,show (ρ.pl 0).off+i - (ρ.pl 0).off=i by omega];rw [getElem!_pos _ i (by simp;omega)];have:(srt2 (l.map to))[i]'(by omega)=to (gl (srt l) i):=by
       simp only [<- hsrt,List.getElem_map,gl_eq hi']
      simp [this,hto,cellRows_at]
     ·obtain ⟨i0,hi0,e0⟩:=List.getElem_of_mem hmem;rcases hsat with ⟨hn0,_⟩ | ⟨vs1,ty1,fr1,hb1,_,_,_,_,h6⟩
      ·omega
      ·obtain ⟨_,g2⟩:=h6 i0 hi0 0 k' rfl;rw [cellRows_at] at g2 ⊢;rw [<- e0,<- gl_eq hi0];exact g2
   ·have:=he.lt b hb';simp;omega
  ·simp [wrs,cSort]
end
end Go.Sx

namespace Go.Proofs.YtfhkbihcfmbbcaaGreat.Ix
open Go.Sx
set_option maxRecDepth 100000
set_option linter.unusedVariables false
def encT (b:ByteArray):List Value:=[.string b]
def tl (b:ByteArray):List UInt8:=b.data.toList
def sortB (l:List ByteArray):List ByteArray:=((l.map tl).mergeSort fun x y=>decide (x<=y)).map fun x=>⟨x.toArray⟩
theorem sortB_map (l:List ByteArray):(sortB l).map tl=(l.map tl).mergeSort fun x y=>decide (x<=y):=by
 unfold sortB;rw [List.map_map];exact (List.map_congr_left fun x _=>by simp [tl]).trans (List.map_id _)
theorem sortB_length (l:List ByteArray):(sortB l).length=l.length:=by simp [sortB]
theorem map_tl_back (l:List ByteArray):(l.map tl).map (fun x=>(⟨x.toArray⟩:ByteArray))=l:=by
 rw [List.map_map];refine (List.map_congr_left fun x _=>?_).trans (List.map_id _);cases x;simp [tl]
theorem sortB_perm (l:List ByteArray):(sortB l).Perm l:=by
 have:=(List.mergeSort_perm (l.map tl) fun x y=>decide (x<=y)).map fun x=>(⟨x.toArray⟩:ByteArray)
 rwa [map_tl_back] at this
theorem callSort:CallsBy (Y Tryz.prog).G.X 83 (cSort 9 .str Value.string sortB):=fun _ _ _ h =>
 con_okS (sort_sem (enc2:=encStr) (to:=tl) (srt2:=fun l=>l.mergeSort fun x y=>decide (x<=y)) (fun x=>by cases x;simp [tl,encStr]) sortB_map sortB_length (fun l x hx=>(sortB_perm l).mem_iff.1 hx)
  (fun blk off cap l w h1 h2 h3=>Tryz.slices_Sort_string blk off cap l w h1 h2 h3) (fun p cap w=>Tryz.slices_Sort_string_none p cap w)) h
def keysOf (t:List PlaceR):List ByteArray:=(ents t).map Prod.fst
noncomputable def cKeys:Con where
 α:=KeyA
 β:=Nat
 m:=2
 m':=3
 pre:=fun a=>a.x.t.length<100000
 args:=fun _=>[.a (.ptr 0 0 0 0)]
 hp:=fun _=>[]
 ro:=fun a=>idxHp 0 1 a.x.t a.cap a.x.n a.x.used
 post:=fun _ _=>True
 res:=fun a cap=>.a (.slc 2 0 1 (keysOf a.x.t).length cap)
 hp':=fun a _=>[(2,.arr 9 [.str] (keysOf a.x.t).length (encRows encT (sortB (keysOf a.x.t))))]
def iKeys (a:KeyA):An:=.flat 5 (Nat × Nat) (fun s x=>((s.new (.arr 9 [.str] (keysOf (a.x.t.take x.1)).length (encRows encT (keysOf (a.x.t.take x.1))))).set 3 (.a (.slc s.nx 0 1 (keysOf (a.x.t.take x.1)).length x.2))).int 13 x.1) (fun _ x=>x.1<=a.x.t.length) (fun _ x=>a.x.t.length - x.1)
theorem keysOf_step {t:List PlaceR} {i:Nat} (h:i<t.length):keysOf (t.take (i+1))=keysOf (t.take i)++if (gl t i).has then [(gl t i).key] else []:=by
 unfold keysOf;rw [take_succ_gl h,ents_app,List.map_append,ents_cons];cases (gl t i).has<;>simp [ents,entOf]
theorem keysOf_le (t:List PlaceR):(keysOf t).length<=t.length:=by
 unfold keysOf ents;simp only [List.length_map];exact List.length_filter_le _ _
set_option maxHeartbeats 4000000 in
theorem bodyKeys:fnBody (Y Tryz.prog) [(83,cSort 9 .str Value.string sortB)] 58 cKeys fun a=>[(58,[iKeys a],[])]:=fnBody.of (p :=
 ∀ a:Ix.KeyA,a.x.t.length<100000->(∃ a_2:Nat × Nat,0=(↑a_2.fst:Int)/\(0=(Ix.keysOf (List.take a_2.fst a.x.t)).length/\0=a_2.snd)/\(↑a.x.t.length:Int)=(↑a.x.t.length:Int)/\(0=0/\a.x.t.length=a.x.t.length/\a.cap=a.cap)/\false=false/\0=0/\(Ix.keysOf (List.take a_2.fst a.x.t)).length=0/\(0=0/\a.x.t.length=a.x.t.length/\a.cap=a.cap)/\(↑a.x.n:Int)=(↑a.x.n:Int)/\(↑a.x.used:Int)=(↑a.x.used:Int)/\(a.x.t.length<=a.x.t.length/\RowsEq a.x.t.length 4 (encRows Ix.encP a.x.t) (encRows Ix.encP a.x.t))/\a_2.fst<=a.x.t.length/\True)/\∀ a_2:Nat × Nat,a_2.fst<=a.x.t.length->(decide ((↑a_2.fst:Int)<(↑a.x.t.length:Int))=true->(0<=(↑a_2.fst:Int)/\(↑a_2.fst:Int)<(↑a.x.t.length:Int))/\0+(↑a_2.fst:Int).toNat<a.x.t.length/\((gl a.x.t (0+(↑a_2.fst:Int).toNat)).has=true->0+(Ix.keysOf (List.take a_2.fst a.x.t)).length<=(Ix.keysOf (List.take a_2.fst a.x.t)).length/\1<=1/\((Ix.keysOf (List.take a_2.fst a.x.t)).length+1)*16<=140737488355328/\∀ cap:Nat,(Ix.keysOf (List.take a_2.fst a.x.t)).length+1<=cap->cap<=lenMax->((Ix.keysOf (List.take a_2.fst a.x.t)).length+1<=a_2.snd->cap=a_2.snd)->InR .i64 ((↑a_2.fst:Int)+1)/\∃ (a':Nat × Nat),(↑a_2.fst:Int)+1=(↑a'.fst:Int)/\(0=0/\(Ix.keysOf (List.take a_2.fst a.x.t)).length+1=(Ix.keysOf (List.take a'.fst a.x.t)).length/\cap=a'.snd)/\(↑a.x.t.length:Int)=(↑a.x.t.length:Int)/\(0=0/\a.x.t.length=a.x.t.length /\
 a.cap=a.cap)/\false=false/\0=0/\((Ix.keysOf (List.take a'.fst a.x.t)).length<=(Ix.keysOf (List.take a_2.fst a.x.t)).length+1/\RowsEq (Ix.keysOf (List.take a'.fst a.x.t)).length 1 (appRows (encRows Ix.encT (Ix.keysOf (List.take a_2.fst a.x.t))) 0 (Ix.keysOf (List.take a_2.fst a.x.t)).length fun (i j:Nat)=>flatRows 1 [Value.string (gl a.x.t (0+(↑a_2.fst:Int).toNat)).key] (0+i) j) (encRows Ix.encT (Ix.keysOf (List.take a'.fst a.x.t))))/\(0=0/\a.x.t.length=a.x.t.length/\a.cap=a.cap)/\(↑a.x.n:Int)=(↑a.x.n:Int)/\(↑a.x.used:Int)=(↑a.x.used:Int)/\(a.x.t.length<=a.x.t.length/\RowsEq a.x.t.length 4 (encRows Ix.encP a.x.t) (encRows Ix.encP a.x.t))/\a'.fst<=a.x.t.length/\a.x.t.length - a'.fst<a.x.t.length - a_2.fst)/\((gl a.x.t (0+(↑a_2.fst:Int).toNat)).has=false->InR .i64 ((↑a_2.fst:Int)+1)/\∃ (a':Nat × Nat),(↑a_2.fst:Int)+1=(↑a'.fst:Int)/\(0=0/\(Ix.keysOf (List.take a_2.fst a.x.t)).length=(Ix.keysOf (List.take a'.fst a.x.t)).length/\a_2.snd=a'.snd)/\(↑a.x.t.length:Int)=(↑a.x.t.length:Int)/\(0=0/\a.x.t.length=a.x.t.length/\a.cap=a.cap)/\false=false/\0=0/\((Ix.keysOf (List.take a'.fst a.x.t)).length<=(Ix.keysOf (List.take a_2.fst a.x.t)).length/\RowsEq (Ix.keysOf (List.take a'.fst a.x.t)).length 1 (encRows Ix.encT (Ix.keysOf (List.take a_2.fst a.x.t))) (encRows Ix.encT (Ix.keysOf (List.take a'.fst a.x.t))))/\(0=0/\a.x.t.length=a.x.t.length/\a.cap=a.cap)/\(↑a.x.n:Int)=(↑a.x.n:Int) /\
 (↑a.x.used:Int)=(↑a.x.used:Int)/\(a.x.t.length<=a.x.t.length/\RowsEq a.x.t.length 4 (encRows Ix.encP a.x.t) (encRows Ix.encP a.x.t))/\a'.fst<=a.x.t.length/\a.x.t.length - a'.fst<a.x.t.length - a_2.fst))/\(decide ((↑a_2.fst:Int)<(↑a.x.t.length:Int))=false->∃ a_5:SortA ByteArray,(0=0/\(Ix.keysOf (List.take a_2.fst a.x.t)).length=a_5.1.length/\a_2.snd=a_5.2)/\(a_5.1.length<=(Ix.keysOf (List.take a_2.fst a.x.t)).length/\RowsEq a_5.1.length 1 (encRows Ix.encT (Ix.keysOf (List.take a_2.fst a.x.t))) (encRows (fun (x:ByteArray)=>[Value.string x]) a_5.1))/\a_5.1.length<100000/\∀ b:Unit,True->∃ b:Nat,(0=0/\(Ix.keysOf (List.take a_2.fst a.x.t)).length=(Ix.keysOf a.x.t).length/\a_2.snd=b)/\((Ix.keysOf a.x.t).length<=a_5.1.length/\RowsEq (Ix.keysOf a.x.t).length 1 (encRows (fun (x:ByteArray)=>[Value.string x]) (Ix.sortB a_5.1)) (encRows Ix.encT (Ix.sortB (Ix.keysOf a.x.t))))/\True/\True)) (by kernel_rfl) (by
 intro a h;refine ⟨⟨(0,0),?_⟩,fun x hx=>⟨fun c1=>?_,fun c1=>?_⟩⟩
 ·dsimp only;have e:keysOf (a.x.t.take 0)=[]:=rfl;rw [e]
  (repeat' apply And.intro)<;>first|rfl|trivial|exact Nat.le_refl _|omega|(dsimp only;omega)|exact RowsEq.refl _ _ _
 ·obtain ⟨i,cap0⟩:=x;simp only [decide_eq_true_eq] at c1;have hi:i<a.x.t.length:=by omega
  have hle:=keysOf_le (a.x.t.take i);rw [List.length_take] at hle;have hst:=keysOf_step hi;simp only [Nat.zero_add,Int.toNat_natCast,InR];refine ⟨by omega,by omega,fun hh=>⟨by omega,by omega,by omega,fun cap _ _ _=>⟨by omega,⟨(i+1,cap),?_⟩⟩⟩,fun hh=>⟨by omega,⟨(i+1,cap0),?_⟩⟩⟩
  ·rw [hh] at hst;dsimp only;rw [hst]
   (repeat' apply And.intro)<;>first|rfl|trivial|exact Nat.le_refl _|omega|(dsimp only;omega)|exact RowsEq.refl _ _ _|(simp;done)|exact .push rfl (by simp) rfl
  ·rw [hh] at hst;simp only [Bool.false_eq_true,if_false,List.append_nil] at hst;dsimp only;rw [hst]
   (repeat' apply And.intro)<;>first|rfl|trivial|exact Nat.le_refl _|omega|(dsimp only;omega)|exact RowsEq.refl _ _ _
 ·obtain ⟨i,cap0⟩:=x;simp only [decide_eq_false_iff_not] at c1
  have hi : i = a.x.t.length := by have : i ≤ a.x.t.length := hx
                                   omega
  subst hi;have hle:=keysOf_le a.x.t;rw [List.take_length];refine ⟨⟨keysOf a.x.t,cap0⟩,?_⟩
  (repeat' apply And.intro)<;>first|rfl|trivial|exact Nat.le_refl _|omega|(dsimp only;omega)|exact RowsEq.refl _ _ _|skip
  refine fun _ _=>⟨cap0,?_⟩
  (repeat' apply And.intro)<;>first|rfl|trivial|exact Nat.le_refl _|omega|(dsimp only;omega)|exact RowsEq.refl _ _ _)
theorem callKeys:CallsBy (Y Tryz.prog).G.X 58 cKeys:=fn_ok okY (tab:=[(83,cSort 9 .str Value.string sortB)]) ⟨callSort,trivial⟩ bodyKeys
end Go.Proofs.YtfhkbihcfmbbcaaGreat.Ix

namespace Go.Proofs.YtfhkbihcfmbbcaaGreat
open Go.Sx
set_option maxRecDepth 100000
set_option linter.unusedVariables false
set_option linter.unusedSimpArgs false
def stepE (get:ByteArray->Option ItemM) (o:Option ItemM):ByteArray->Option ItemM:=match o with
 | none=>fun _=>none
 | some x=>updK get x.key (if x.gone then none else some x)
def gE (es:List (Option ItemM)):ByteArray->Option ItemM:=es.foldl stepE fun _=>none
theorem gE_push (es:List (Option ItemM)) (o:Option ItemM):gE (es++[o])=stepE (gE es) o:=by simp [gE]
structure FlNow (m:FlM) (n:Nat) (rs:List RecM) (es:List (Option ItemM)):Prop where
 one:FlOne m n rs (gE es)
 len:es.length=rs.length
 body:∀ i,i<es.length->(gl rs i).body=bodyOf (gl es i)/\∀ x,gl es i=some x->mayB x=true
theorem body_push {rs:List RecM} {es:List (Option ItemM)} {p:Int} {x:ItemM} (hl:es.length=rs.length) (h:∀ i,i<es.length->(gl rs i).body=bodyOf (gl es i)/\∀ x,gl es i=some x->mayB x=true) (hx:mayB x=true) :
 (es++[some x]).length=(rs++[(⟨p,bodyOf (some x)⟩:RecM)]).length/\∀ i,i<(es++[some x]).length->(gl (rs++[(⟨p,bodyOf (some x)⟩:RecM)]) i).body=bodyOf (gl (es++[some x]) i)/\∀ z,gl (es++[some x]) i=some z->mayB z=true:=by
 refine ⟨by simp [hl],fun i hi=>?_⟩;rw [List.length_append,List.length_singleton] at hi;rw [gl_app hi,gl_app (by rw [<- hl];exact hi),hl];by_cases hin:i<rs.length
 ·rw [if_pos hin,if_pos hin];exact h i (by omega)
 ·rw [if_neg hin,if_neg hin];exact ⟨rfl,fun z e=>by cases e;exact hx⟩
theorem FlNow.put {m:FlM} {n:Nat} {rs:List RecM} {es:List (Option ItemM)} (h:FlNow m n rs es) {x:ItemM} (hx:putOk x=true) (hn:m.L.next<9999999999) (hfit:(bufOf rs).length+8+(bodyOf (some x)).length<=378) :
 FlNow (putF m x) (n+20) (rs++[⟨m.L.next,bodyOf (some x)⟩]) (es++[some x])/\(putF m x).L.next=m.L.next+1/\(putF m x).L.segs=m.L.segs/\(putF m x).L.from_=m.L.from_:=by
 have hx2:mayB x=true/\x.gone=false:=by unfold putOk at hx;simpa using hx
 obtain ⟨h1,h2⟩:=h.one.put hx hn hfit;obtain ⟨b1,b2⟩:=body_push (p:=m.L.next) h.len h.body hx2.1;refine ⟨⟨?_,b1,b2⟩,h2⟩;rw [gE_push];simp only [stepE,hx2.2];exact h1
theorem FlNow.drop {m:FlM} {n:Nat} {rs:List RecM} {es:List (Option ItemM)} (h:FlNow m n rs es) {k:ByteArray} (hk:keyB k=true) (hn:m.L.next<9999999999) (hfit:(bufOf rs).length+8+(bodyOf (some (itemD k))).length<=378) :
 FlNow (dropF m k) (n+20) (rs++[⟨m.L.next,bodyOf (some (itemD k))⟩]) (es++[some (itemD k)])/\(dropF m k).L.next=m.L.next+1/\(dropF m k).L.segs=m.L.segs/\(dropF m k).L.from_=m.L.from_:=by
 obtain ⟨h1,h2⟩:=h.one.drop hk hn hfit;obtain ⟨b1,b2⟩:=body_push (p:=m.L.next) h.len h.body (itemD_may hk);refine ⟨⟨?_,b1,b2⟩,h2⟩;rw [gE_push];exact h1
theorem FlNow.new {fr sg:Nat} {d:DevM} {n:Nat} {run:Int} (h3:3<=sg/\sg<=200) (hr:fr+sg*8<=d.n) (hn:d.n<100000) (hc:d.calls<=n) (hd:DevIs fr sg none run d):FlNow (newF fr sg d) n [] []:=⟨FlOne.new h3 hr hn hc hd,rfl,fun i hi=>absurd hi (Nat.not_lt_zero i)⟩
theorem idx_get {rs:List RecM} {es:List (Option ItemM)} (hl:es.length=rs.length) (h:∀ i,i<es.length->(gl rs i).body=bodyOf (gl es i)/\∀ x,gl es i=some x->mayB x=true):∀ i,i<=es.length ->
 (∀ e∈idxTo es rs i,∃ x,gE (es.take i) e.1=some x/\x.key=e.1/\mayB x=true/\(⟨e.2,bodyOf (some x)⟩:RecM)∈rs)/\∀ k,gE (es.take i) k≠none->k∈(idxTo es rs i).map Prod.fst
 | 0,_=>⟨fun e he=>(by cases he),fun k hk=>absurd rfl hk⟩
 | i+1,hi=>by
  obtain ⟨h1,h2⟩:=idx_get hl h i (by omega);obtain ⟨hb,hm⟩:=h i (by omega);have hst:idxTo es rs (i+1)=idxStep (idxTo es rs i) (gl es i) (gl rs i).pos:=rfl;rw [hst,take_push (show i<es.length by omega),gE_push];cases ho:gl es i with
  | none=>exact ⟨fun e he=>(by cases he),fun k hk=>absurd rfl hk⟩
  | some x =>
   rw [ho] at hb hm;have hx:=hm x rfl;have hmem:(⟨(gl rs i).pos,bodyOf (some x)⟩:RecM)∈rs:=by
    rw [<- hb,gl_eq (show i<rs.length by omega)];exact List.getElem_mem _
   simp only [idxStep,stepE];cases hg:x.gone with
   | true =>
    simp only [if_true];refine ⟨fun e he=>?_,fun k hk=>?_⟩
    ·obtain ⟨he,hne⟩:=mem_dropK.1 he;obtain ⟨x',g1,g2⟩:=h1 e he;exact ⟨x',by unfold updK;rw [if_neg hne];exact g1,g2⟩
    ·by_cases e:k=x.key
     ·subst e;exact absurd (if_pos rfl) hk
     ·have hk:gE (es.take i) k≠none:=by unfold updK at hk;rwa [if_neg e] at hk
      obtain ⟨q,hq,rfl⟩:=List.mem_map.1 (h2 k hk);exact List.mem_map.2 ⟨q,mem_dropK.2 ⟨hq,e⟩,rfl⟩
   | false =>
    refine ⟨fun e he=>?_,fun k hk=>?_⟩
    ·rcases List.mem_cons.1 he with rfl|he
     ·exact ⟨x,if_pos rfl,rfl,hx,hmem⟩
     ·obtain ⟨he,hne⟩:=mem_dropK.1 he;obtain ⟨x',g1,g2⟩:=h1 e he;exact ⟨x',by unfold updK;rw [if_neg hne];exact g1,g2⟩
    ·by_cases e:k=x.key
     ·subst e;exact List.mem_map.2 ⟨(x.key,(gl rs i).pos),List.mem_cons_self,rfl⟩
     ·have hk:gE (es.take i) k≠none:=by unfold updK at hk;rwa [if_neg e] at hk
      obtain ⟨q,hq,rfl⟩:=List.mem_map.1 (h2 k hk);exact List.mem_map.2 ⟨q,List.mem_cons_of_mem _ (mem_dropK.2 ⟨hq,e⟩),rfl⟩
theorem reopen {m:FlM} {n:Nat} {rs:List RecM} {es:List (Option ItemM)} (h:FlNow m n rs es) {d':DevM} (hd:∀ r j,d'.now r j=m.d.now r j) (hn:d'.n=m.d.n) (H:PH) :
 cFOpen.pre ⟨H,d',m.L.from_,m.L.segs,es⟩/\FlGet (opnF ⟨H,d',m.L.from_,m.L.segs,es⟩) rs (gE es)/\(opnF ⟨H,d',m.L.from_,m.L.segs,es⟩).l.length<=es.length:=by
 have hl:=h.one.log;obtain ⟨base,b1,b2,hlst⟩:=hl.lst;have hlen:=hl.len;have hdev:DevIs m.L.from_ m.L.segs m.L.l.head? m.L.run d':=⟨fun i hi j hj=>by rw [hd];exact hl.dev.sec i hi j hj,fun r h1 h2 j hj=>by rw [hd];exact hl.dev.rest r h1 h2 j hj⟩
 have key:OpenOk m.L.from_ m.L.segs d'/\LogRd (openM m.L.from_ m.L.segs d') rs:=by
  by_cases he:rs=[]
  ·subst he;rw [hlst] at hdev;obtain ⟨k1,k2⟩:=open_none (run:=m.L.run) hdev hl.segs (by rw [hn];exact hl.room) (by rw [hn];exact hl.size);rw [k2];exact ⟨k1,rfl,by show (0:Nat)<1000;omega,hl.sort,fun r hr=>(by cases hr),fun i hi=>absurd hi (Nat.not_lt_zero i)⟩
  ·rw [hlst,oneL_ne he] at hdev;obtain ⟨k1,_,_,k4,_⟩:=open_one (hdev:DevIs _ _ (some _) _ _) hl.segs (by rw [hn];exact hl.room) (by rw [hn];exact hl.size) (fun r hr=>⟨(hl.good r hr).1,by have:=(hl.good r hr).2;have:=hl.next;omega⟩) he hl.fits ⟨b1,b2⟩ hl.run;refine ⟨k1,by rw [k4];simp [allR],by rw [k4];show (1:Nat)<1000;omega,hl.sort,fun r hr=>(hl.good r hr).1.len,fun i hi=>?_⟩;rw [k4] at hi ⊢;have:i=0:=by simpa using hi
   subst this;show rs.length<=400;omega
 obtain ⟨k1,k2⟩:=key;have hall:=k2.all;obtain ⟨g1,g2⟩:=idx_get h.len h.body es.length (Nat.le_refl _);rw [List.take_length] at g1 g2;refine ⟨⟨k1,⟨by rw [hall];exact h.len,by show es.length<9000;have:=h.len;omega,by rw [hall];exact h.body⟩,k2.seg⟩,⟨k2,?_,?_⟩,?_⟩
 ·show ∀ e∈idxTo es (allR (openM m.L.from_ m.L.segs d').l) es.length,_;rw [hall];exact g1
 ·show ∀ k,gE es k≠none->k∈(idxTo es (allR (openM m.L.from_ m.L.segs d').l) es.length).map Prod.fst;rw [hall];exact g2
 ·exact idxTo_len _ _ _
theorem appD_n (L:LogM) (d:DevM) (body:List Int):(appD L d body).n=d.n:=by
 have h1:(appD1 L d body.length).n=d.n:=by unfold appD1;split<;>rfl
 have h2:=(writesTo_n (appL1 L body.length) (segW (lastG (appL1 L body.length)) (appL1 L body.length).next body) (lastG (appL1 L body.length)).buf.length (appD1 L d body.length) 8).1;unfold appD appD2;split
 ·exact h2.trans h1
 ·exact h2.trans h1
end Go.Proofs.YtfhkbihcfmbbcaaGreat

namespace Go.Proofs.YtfhkbihcfmbbcaaGreat
open Go.Sx
set_option maxRecDepth 100000
set_option linter.unusedVariables false
set_option linter.unusedSimpArgs false
theorem addF_n (m:FlM) (b:List Int):(addF m b).d.n=m.d.n:=appD_n _ _ _
theorem putF_n (m:FlM) (x:ItemM):(putF m x).d.n=m.d.n:=by
 unfold putF;split
 ·exact addF_n _ _
 ·rfl
end Go.Proofs.YtfhkbihcfmbbcaaGreat

namespace Go.Proofs.YtfhkbihcfmbbcaaGreat
open Go.Sx
set_option maxRecDepth 100000
set_option linter.unusedVariables false
set_option linter.unusedSimpArgs false
theorem secNo_rng {L:LogM} {g:SegM} {i:Nat} (hi:i<8) (h3:1<=L.segs):L.from_<=secNo L g i/\secNo L g i<L.from_+L.segs*8:=by
 have:=Nat.mod_lt (g.gen - 1).toNat (show 0<L.segs by omega);unfold secNo;omega
theorem writesTo_out {L:LogM} {g:SegM} {was:Nat} {d:DevM} (h3:1<=L.segs) {r j:Nat} (hr:r<L.from_\/L.from_+L.segs*8<=r):∀ n,n<=8->(writesTo L g was d n).now r j=d.now r j
 | 0,_=>rfl
 | n+1,hn=>by
  have ih:=writesTo_out (g:=g) (was:=was) (d:=d) h3 (j:=j) hr n (by omega);have hs:=secNo_rng (L:=L) (g:=g) (i:=n) (by omega) h3;unfold writesTo;split
  ·show (if r=secNo L g n/\j<64 then _ else (writesTo L g was d n).now r j)=_;rw [if_neg (by omega)];exact ih
  ·exact ih
theorem appD_out {L:LogM} {d:DevM} {body:List Int} (h3:1<=L.segs) {r j:Nat} (hr:r<L.from_\/L.from_+L.segs*8<=r):(appD L d body).now r j=d.now r j:=by
 have e1:(appL1 L body.length).from_=L.from_/\(appL1 L body.length).segs=L.segs:=by unfold appL1;split<;>exact ⟨rfl,rfl⟩
 have e2:(appD1 L d body.length).now r j=d.now r j:=by
  unfold appD1;split
  ·have hs:=secNo_rng (L:=L) (g:=newSeg L) (i:=0) (by omega) h3;show (if r=secNo L (newSeg L) 0/\j<64 then _ else d.now r j)=_;rw [if_neg (by omega)]
  ·rfl
 have e3:(appD2 (appL1 L body.length) (appD1 L d body.length) body).now r j=d.now r j:=by
  unfold appD2;rw [writesTo_out (by rw [e1.2];exact h3) (by rw [e1.1,e1.2];exact hr) 8 (Nat.le_refl _)];exact e2
 unfold appD;split
 ·exact e3
 ·exact e3
theorem OneLog.dev' {L:LogM} {d d':DevM} {n n':Nat} {rs:List RecM} (h:OneLog L d n rs) (hd:∀ r,L.from_<=r->r<L.from_+L.segs*8->∀ j,j<64->d'.now r j=d.now r j) (hn:d'.n=d.n) (hc:d'.calls<=n'):OneLog L d' n' rs :=
 ⟨h.segs,by rw [hn];exact h.room,by rw [hn];exact h.size,hc,h.next,h.run,h.good,h.sort,h.fits,h.lst,⟨fun i hi j hj=>by rw [hd _ (by omega) (by have:=h.segs;omega) j hj];exact h.dev.sec i hi j hj,fun r h1 h2 j hj=>by rw [hd r (by omega) h2 j hj];exact h.dev.rest r h1 h2 j hj⟩⟩
theorem FlNow.dev' {L:LogM} {d d':DevM} {l:List (ByteArray × Int)} {n n':Nat} {rs:List RecM} {es:List (Option ItemM)} (h:FlNow ⟨L,d,l⟩ n rs es) (hd:∀ r,L.from_<=r->r<L.from_+L.segs*8->∀ j,j<64->d'.now r j=d.now r j) (hn:d'.n=d.n) (hc:d'.calls<=n'):FlNow ⟨L,d',l⟩ n' rs es :=
 ⟨⟨h.one.log.dev' hd hn hc,⟨h.one.has.rd,h.one.has.pos,h.one.has.all⟩,h.one.few⟩,h.len,h.body⟩
theorem sup_good {n:Int} {b:List Int} {F:Nat->Int} (hF:∀ j,j<64->F j=supB n b j) (hn:0<=n/\n<4611686018427387904) (hb:b.length<=40) :
 (sumB F == gB F 0 4)=true/\supT F=n/\F 12=b.length/\(List.range (F 12).toNat).map (fun i=>F (13+i))=b:=by
 have hu:uw .u64 n=(n.toNat:Int):=by simp only [uw];omega
 have h12:F 12=b.length:=by rw [hF 12 (by omega)];rfl
 have hs:sumB F=sumB (sup0 n b):=sumB_congr fun k h1 h2=>by rw [hF k h2];unfold supB;rw [if_neg (by omega)]
 refine ⟨?_,?_,h12,?_⟩
 ·obtain ⟨r1,r2⟩:=sumB_rng (sup0 n b);obtain ⟨v,hv⟩:∃ v:Nat,sumB (sup0 n b)=v:=⟨(sumB (sup0 n b)).toNat,by omega⟩
  have:gB F 0 4=v:=gB_be (by omega) (show v<256 ^ 4 by omega) fun k hk=>by
   rw [Nat.zero_add,hF k (by omega)];unfold supB;rw [if_pos hk,hv]
  rw [hs,this,hv];simp
 ·have:gB F 4 8=n.toNat:=gB_be (by omega) (show n.toNat<256 ^ 8 by omega) fun k hk=>by
   rw [hF (4+k) (by omega)];unfold supB sup0;rw [if_neg (by omega),if_neg (by omega),if_pos (by omega),hu,Nat.add_sub_cancel_left]
  unfold supT;rw [this,show uw .i64 ((n.toNat:Nat):Int)=(n.toNat:Int) from wrap_of_InR (by simp only [InR];omega)];omega
 ·rw [h12];refine List.ext_getElem (by simp) fun i h1 h2=>?_;rw [List.getElem_map,List.getElem_range,hF (13+i) (by omega)];unfold supB sup0;rw [if_neg (by omega),if_neg (by omega),if_neg (by omega),if_neg (by omega),if_pos (by omega),gl_eq (by omega)];congr 1;omega
theorem sup_zero {F:Nat->Int} (hF:∀ j,j<64->F j=0):(sumB F == gB F 0 4)=false:=by
 have h1:sumB F=sumB fun _=>0:=sumB_congr fun k _ hk=>hF k hk;have h2:gB F 0 4=0:=gB_zero (by omega) fun k hk=>hF _ (by omega);rw [h1,h2,beq_eq_false_iff_ne];exact sumB_zero
structure KeepOn (k:KeepM) (d:DevM):Prop where
 at_:k.s.at_=0
 slot:k.s.slot<=1
 turn:1<=k.s.turn/\k.s.turn<1000000000
 text:k.s.text=textM k.m
 may:mayM k.m=true
 this:∀ j,j<64->d.now k.s.slot j=supB k.s.turn k.s.text j
 other:(∀ j,j<64->d.now (1 - k.s.slot) j=0)\/∃ n m,0<=n/\n<k.s.turn/\mayM m=true/\∀ j,j<64->d.now (1 - k.s.slot) j=supB n (textM m) j
theorem KeepOn.dev' {k:KeepM} {d d':DevM} (h:KeepOn k d) (hd:∀ r,r<2->∀ j,j<64->d'.now r j=d.now r j):KeepOn k d' :=
 ⟨h.at_,h.slot,h.turn,h.text,h.may,fun j hj=>by rw [hd _ (by have:=h.slot;omega) j hj];exact h.this j hj,by
  rcases h.other with h1 | ⟨n,m,h1,h2,h3,h4⟩
  ·exact .inl fun j hj=>by rw [hd _ (by omega) j hj];exact h1 j hj
  ·exact .inr ⟨n,m,h1,h2,h3,fun j hj=>by rw [hd _ (by omega) j hj];exact h4 j hj⟩⟩
theorem KeepOn.open_ {k:KeepM} {d:DevM} (h:KeepOn k d) (hn:1<d.n/\d.n<100000):supTo 0 d 2=k.s/\cMOpen.pre ⟨0,d,k.m⟩:=by
 obtain ⟨⟨at_,turn,text,slot⟩,m⟩:=k;obtain ⟨h1,h2,h3,h4,h5,h6,h7⟩:=h;dsimp only at h1 h2 h3 h4 h5 h6 h7;subst h1 h4;obtain ⟨l1,l2⟩:=text_len h5;obtain ⟨a1,a2,a3,a4⟩:=sup_good h6 (by omega) l2;have hoth:(sumB (d.now (1 - slot)) == gB (d.now (1 - slot)) 0 4)=false\/∃ n m',0<=n/\n<turn/\supT (d.now (1 - slot))=n/\(1:Int)<=d.now (1 - slot) 12/\mayM m'=true:=by
  rcases h7 with h7 | ⟨n,m',g1,g2,g3,g4⟩
  ·exact .inl (sup_zero h7)
  ·obtain ⟨q1,q2⟩:=text_len g3;obtain ⟨b1,b2,b3,b4⟩:=sup_good g4 (by omega) q2;exact .inr ⟨n,m',g1,g2,b2,by rw [b3];omega,g3⟩
 have hgood:∀ S:SupM,S.turn<turn->supG S (d.now slot)=true:=fun S hS=>by
  unfold supG;rw [a1,a2,a3];simp [hS];omega
 have hstep:∀ S:SupM,S.turn<turn->supStep S slot (d.now slot)=⟨S.at_,turn,textM m,slot⟩:=fun S hS=>by
  unfold supStep;rw [if_pos (hgood S hS),a2,a4]
 have e1:(1:Int)<=d.now slot 12:=by rw [a3];omega
 have key:supTo 0 d 2=⟨0,turn,textM m,slot⟩/\∀ k,k<2->supG (supTo 0 d k) (d.now (0+k))=true->(1:Int)<=d.now (0+k) 12:=by
  rcases (by omega:slot=0\/slot=1) with rfl|rfl
  ·have s1:supTo 0 d 1=⟨0,turn,textM m,0⟩:=hstep ⟨0,0,[],0⟩ (by show (0:Int)<turn;omega);have hno:supG ⟨0,turn,textM m,0⟩ (d.now 1)=false:=by
    unfold supG;rcases hoth with h | ⟨n,m',g1,g2,g3,g4,g5⟩
    ·rw [show (1 - 0:Nat)=1 from rfl] at h;rw [h];rfl
    ·rw [show (1 - 0:Nat)=1 from rfl] at g3;rw [g3,show decide (turn<n)=false from decide_eq_false (by omega)];simp
   have s2:supTo 0 d 2=supStep (supTo 0 d 1) 1 (d.now (0+1)):=rfl;refine ⟨by rw [s2,s1];unfold supStep;rw [show (0+1:Nat)=1 from rfl,hno];rfl,fun k hk hg=>?_⟩;rcases (by omega:k=0\/k=1) with rfl|rfl
   ·exact e1
   ·rw [s1,show (0+1:Nat)=1 from rfl,hno] at hg;cases hg
  ·have s0:(supTo 0 d 1).turn<turn/\(supTo 0 d 1).at_=0:=by
    show (supStep ⟨0,0,[],0⟩ 0 (d.now (0+0))).turn<turn/\(supStep ⟨0,0,[],0⟩ 0 (d.now (0+0))).at_=0;unfold supStep;split
    ·rename_i hg;rcases hoth with h | ⟨n,m',g1,g2,g3,g4,g5⟩
     ·exfalso;unfold supG at hg;rw [show (1 - 1:Nat)=0+0 from rfl] at h;rw [h] at hg;cases hg
     ·rw [show (1 - 1:Nat)=0+0 from rfl] at g3;exact ⟨by show supT _<turn;rw [g3];exact g2,rfl⟩
    ·exact ⟨by show (0:Int)<turn;omega,rfl⟩
   have s2:supTo 0 d 2=supStep (supTo 0 d 1) 1 (d.now (0+1)):=rfl;refine ⟨by rw [s2,show (0+1:Nat)=1 from rfl,hstep _ s0.1,s0.2],fun k hk hg=>?_⟩;rcases (by omega:k=0\/k=1) with rfl|rfl
   ·rcases hoth with h | ⟨n,m',g1,g2,g3,g4,g5⟩
    ·exfalso;unfold supG at hg;rw [show (1 - 1:Nat)=0+0 from rfl] at h;rw [h] at hg;cases hg
    ·exact g4
   ·exact e1
 obtain ⟨k1,k2⟩:=key;exact ⟨k1,⟨by show 0+1<d.n;omega,hn.2,by show (supTo 0 d 2).turn≠0;rw [k1];show turn≠0;omega,k2⟩,by show (supTo 0 d 2).text=_;rw [k1],h5⟩
theorem KeepOn.save {k:KeepM} {d:DevM} {m:MetaM} (h:KeepOn k d) (hs:okSave k m=true) (ht:k.s.turn<900000000):KeepOn (saveK k m) (saveD k d m)/\(saveK k m).m=m/\(saveK k m).s.turn=k.s.turn+1/\(saveD k d m).n=d.n/\(saveD k d m).calls=d.calls+2/\∀ r,2<=r->∀ j,(saveD k d m).now r j=d.now r j:=by
 have e1:saveK k m=⟨supW k.s (1 - k.s.slot) (k.s.turn+1) (textM m),m⟩:=if_pos hs;have e2:saveD k d m=supD k.s d (1 - k.s.slot) (k.s.turn+1) (textM m):=if_pos hs;have hm:mayM m=true:=by unfold okSave at hs;simp only [Bool.and_eq_true] at hs;exact hs.1
 have h2:=h.slot;have h0:=h.at_;have hnow:∀ r j,(supD k.s d (1 - k.s.slot) (k.s.turn+1) (textM m)).now r j=if r=1 - k.s.slot/\j<64 then supB (k.s.turn+1) (textM m) j else d.now r j:=fun r j=>by
  show (if r=k.s.at_+(1 - k.s.slot)/\j<64 then _ else _)=_;rw [h0,Nat.zero_add]
 rw [e1,e2];refine ⟨⟨h0,by show 1 - k.s.slot<=1;omega,by have:=h.turn;show 1<=k.s.turn+1/\k.s.turn+1<_;omega,rfl,hm,fun j hj=>?_,.inr ⟨k.s.turn,k.m,by have:=h.turn;omega,by show k.s.turn<k.s.turn+1;omega,h.may,fun j hj=>?_⟩⟩,rfl,rfl,rfl,rfl,fun r hr j=>?_⟩
 ·show (supD k.s d (1 - k.s.slot) (k.s.turn+1) (textM m)).now (1 - k.s.slot) j=_;rw [hnow,if_pos ⟨rfl,hj⟩];rfl
 ·show (supD k.s d (1 - k.s.slot) (k.s.turn+1) (textM m)).now (1 - (1 - k.s.slot)) j=_;rw [hnow,if_neg (by omega),show 1 - (1 - k.s.slot)=k.s.slot by omega,h.this j hj,h.text]
 ·rw [hnow,if_neg (by omega)]
def recOf (x:MarkM):RecM:=⟨x.pos,markB x.seq x.key⟩
structure StOne (s:StM) (n:Nat) (es:List (Option ItemM)) (cb jb:Nat):Prop where
 fl:∃ cr,FlNow s.fl n cr es/\(bufOf cr).length<=cb
 jl:OneLog s.jL s.d n (s.ms.map recOf)
 jb:(bufOf (s.ms.map recOf)).length<=jb
 ms:∀ i,i<s.ms.length->(gl s.ms i).seq=(i:Int)+1/\keyB (gl s.ms i).key=true
 nx:s.cL.next<=n/\s.jL.next<=n/\s.k.s.turn<=n
 geo:s.cL.from_=162/\s.cL.segs=segsS s.d.n/\s.jL.from_=2/\s.jL.segs=20
 dn:192<=s.d.n/\s.d.n<3000
 keep:KeepOn s.k s.d
 boot:s.boot=s.k.m.boot
theorem segs_ok {n:Nat} (h:192<=n):3<=segsS n/\segsS n<=200/\162+segsS n*8<=n:=by unfold segsS;omega
def putS (s:StM) (x:ItemM):StM:={ s with d:=(putF s.fl x).d,cL:=(putF s.fl x).L,cl:=(putF s.fl x).l }
def dropS1 (s:StM) (k:ByteArray):StM:={ s with d:=(dropF s.fl k).d,cL:=(dropF s.fl k).L,cl:=(dropF s.fl k).l }
def addS1 (s:StM) (k:ByteArray):StM:={ s with d:=(addM s.jr k).d,jL:=(addM s.jr k).L,ms:=(addM s.jr k).ms }
def flS (s:StM):StM:={ s with d:=devFl s.d }
theorem StOne.cache {s:StM} {n:Nat} {es:List (Option ItemM)} {cb jb:Nat} (h:StOne s n es cb jb) {m:FlM} {body:List Int} {o:Option ItemM} {cr:List RecM} {w:Nat} (hn:n<900000000)
 (h1:FlNow m (n+20) cr (es++[o])) (hb:(bufOf cr).length<=cb+w) (hd:m.d=appD s.cL s.d body) (hx:m.L.next=s.cL.next+1) (hs:m.L.segs=s.cL.segs/\m.L.from_=s.cL.from_) :
 StOne { s with d:=m.d,cL:=m.L,cl:=m.l } (n+20) (es++[o]) (cb+w) jb:=by
 obtain ⟨g1,g2,g3,g4⟩:=h.geo;obtain ⟨s1,s2,s3⟩:=segs_ok h.dn.1;have hdn:m.d.n=s.d.n:=by rw [hd];exact appD_n _ _ _
 have hcl:m.d.calls<=n+20:=h1.one.log.calls;have hout:∀ r,r<162->∀ j,m.d.now r j=s.d.now r j:=fun r hr j=>by rw [hd];exact appD_out (by omega) (.inl (by omega))
 have hnx:=h.nx;exact ⟨⟨cr,h1,hb⟩,h.jl.dev' (fun r _ h2 j _=>hout r (by omega) j) hdn hcl,h.jb,h.ms,by dsimp only;rw [hx];push_cast;omega,⟨by rw [hs.2];exact g1,by dsimp only;rw [hs.1,hdn];exact g2,g3,g4⟩,by dsimp only;rw [hdn];exact h.dn,h.keep.dev' fun r hr j _=>hout r (by omega) j,h.boot⟩
theorem StOne.put {s:StM} {n:Nat} {es:List (Option ItemM)} {cb jb:Nat} (h:StOne s n es cb jb) {x:ItemM} (hx:putOk x=true) {w:Nat} (hw:8+(bodyOf (some x)).length<=w) (hn:n<900000000) (hfit:cb+w<=378) :
 StOne (putS s x) (n+20) (es++[some x]) (cb+w) jb/\FlOk s.fl (bodyOf (some x)).length:=by
 obtain ⟨cr,hf,hb⟩:=h.fl;have hnx:s.fl.L.next<=n:=h.nx.1
 obtain ⟨f1,f2,f3,f4⟩:=hf.put hx (by omega) (by omega);have hd:(putF s.fl x).d=appD s.cL s.d (bodyOf (some x)):=by unfold putF;rw [if_pos hx];rfl
 exact ⟨h.cache hn f1 (by rw [bufOf_push,List.length_append,rec_len];dsimp only;omega) hd f2 ⟨f3,f4⟩,hf.one.ok (by omega) (by omega)⟩
theorem StOne.drop1 {s:StM} {n:Nat} {es:List (Option ItemM)} {cb jb:Nat} (h:StOne s n es cb jb) {k:ByteArray} (hk:keyB k=true) {w:Nat} (hw:8+(bodyOf (some (itemD k))).length<=w) (hn:n<900000000) (hfit:cb+w<=378) :
 StOne (dropS1 s k) (n+20) (es++[some (itemD k)]) (cb+w) jb/\FlOk s.fl (bodyOf (some (itemD k))).length:=by
 obtain ⟨cr,hf,hb⟩:=h.fl;have hnx:s.fl.L.next<=n:=h.nx.1
 obtain ⟨f1,f2,f3,f4⟩:=hf.drop hk (by omega) (by omega);exact ⟨h.cache hn f1 (by rw [bufOf_push,List.length_append,rec_len];dsimp only;omega) rfl f2 ⟨f3,f4⟩,hf.one.ok (by omega) (by omega)⟩
theorem StOne.flush {s:StM} {n:Nat} {es:List (Option ItemM)} {cb jb:Nat} (h:StOne s n es cb jb):StOne (flS s) (n+1) es cb jb:=by
 obtain ⟨cr,hf,hb⟩:=h.fl;have hc:=hf.one.log.calls;have hc:(devFl s.d).calls<=n+1:=by show s.d.calls+1<=_;have:s.d.calls<=n:=hc;omega
 have hnx:=h.nx;exact ⟨⟨cr,hf.dev' (fun _ _ _ _ _=>rfl) rfl hc,hb⟩,h.jl.dev' (fun _ _ _ _ _=>rfl) rfl hc,h.jb,h.ms,by dsimp only [flS];push_cast;omega,h.geo,h.dn,h.keep.dev' fun _ _ _ _=>rfl,h.boot⟩
theorem StOne.seq {s:StM} {n:Nat} {es:List (Option ItemM)} {cb jb:Nat} (h:StOne s n es cb jb):seqOf s.ms=s.ms.length:=by
 unfold seqOf;split
 ·rename_i h0;rw [h0];rfl
 ·rename_i h0;rw [(h.ms _ (by omega)).1];omega
theorem StOne.len {s:StM} {n:Nat} {es:List (Option ItemM)} {cb jb:Nat} (h:StOne s n es cb jb):s.ms.length<=42:=by
 have:=h.jl.len;rwa [List.length_map] at this
theorem StOne.add1 {s:StM} {n:Nat} {es:List (Option ItemM)} {cb jb:Nat} (h:StOne s n es cb jb) {k:ByteArray} (hk:keyB k=true) {w:Nat} (hw:8+(markB (s.ms.length+1) k).length<=w) (hn:n<900000000) (hfit:jb+w<=378) :
 StOne (addS1 s k) (n+20) es cb (jb+w)/\LogOk s.jL s.d/\(addS1 s k).ms=s.ms++[⟨s.ms.length+1,k,s.jL.next⟩]:=by
 obtain ⟨g1,g2,g3,g4⟩:=h.geo;obtain ⟨s1,s2,s3⟩:=segs_ok h.dn.1;have hsq:=h.seq;have hkl:=keyB_out hk;have hv:=vi_len ((s.ms.length:Int)+1);have hbl:1<=(markB (s.ms.length+1) k).length/\(markB (s.ms.length+1) k).length<=300:=by unfold markB;rw [List.length_append,txB_len];omega
 have hnx:=h.nx;have hjb:=h.jb;obtain ⟨l1,l2,l3,l4⟩:=h.jl.append (body:=markB (s.ms.length+1) k) hbl (by omega) (by omega);have e:addS1 s k={ s with d:=appD s.jL s.d (markB (s.ms.length+1) k),jL:=appL s.jL (markB (s.ms.length+1) k),ms:=s.ms++[⟨s.ms.length+1,k,s.jL.next⟩] }:=by
  have:addM s.jr k=⟨appL s.jL (markB (s.ms.length+1) k),appD s.jL s.d (markB (s.ms.length+1) k),s.ms++[⟨s.ms.length+1,k,s.jL.next⟩]⟩:=by
   unfold addM;rw [show seqOf s.jr.ms=s.ms.length from hsq];rfl
  show ({ s with d:=_,jL:=_,ms:=_ }:StM)=_;rw [this]
 have hout:∀ r,(r<2\/162<=r)->∀ j,(appD s.jL s.d (markB (s.ms.length+1) k)).now r j=s.d.now r j:=fun r hr j=>appD_out (by omega) (by omega);have hdn:(appD s.jL s.d (markB (s.ms.length+1) k)).n=s.d.n:=appD_n _ _ _;have hm:(s.ms++[(⟨s.ms.length+1,k,s.jL.next⟩:MarkM)]).map recOf=s.ms.map recOf++[⟨s.jL.next,markB (s.ms.length+1) k⟩]:=by simp [recOf]
 obtain ⟨cr,hf,hb⟩:=h.fl;refine ⟨?_,h.jl.logOk (by omega),by rw [e]⟩;rw [e];refine ⟨⟨cr,hf.dev' (fun r h1 _ j _=>hout r (.inr (by have:s.fl.L.from_=162:=g1;omega)) j) hdn l1.calls,hb⟩,by dsimp only;rw [hm];exact l1,by dsimp only;rw [hm,bufOf_push,List.length_append,rec_len];dsimp only;omega,fun i hi=>?_,by dsimp only;rw [l2];push_cast;omega,⟨g1,by dsimp only;rw [hdn];exact g2,by dsimp only;rw [l4];exact g3,by dsimp only;rw [l3];exact g4⟩,by dsimp only;rw [hdn];exact h.dn,h.keep.dev' fun r hr j _=>hout r (.inl hr) j,h.boot⟩;have hi:i<s.ms.length+1:=by simpa using hi
 dsimp only;rw [gl_app hi];by_cases hl:i<s.ms.length
 ·rw [if_pos hl];exact h.ms i hl
 ·rw [if_neg hl];have:i=s.ms.length:=by omega
  subst this;exact ⟨rfl,hk⟩
end Go.Proofs.YtfhkbihcfmbbcaaGreat

namespace Go.Proofs.YtfhkbihcfmbbcaaGreat
open Go.Sx
set_option maxRecDepth 100000
set_option linter.unusedVariables false
set_option linter.unusedSimpArgs false
theorem one_len {L:LogM} {d:DevM} {n:Nat} {rs:List RecM} (h:OneLog L d n rs):L.l.length<=1:=by
 obtain ⟨base,_,_,hl⟩:=h.lst;rw [hl];cases rs with
 | nil=>exact Nat.zero_le _
 | cons r rs=>exact Nat.le_refl _
theorem one_open {L:LogM} {d:DevM} {n:Nat} {rs:List RecM} (h:OneLog L d n rs) :
 OpenOk L.from_ L.segs d/\allR (openM L.from_ L.segs d).l=rs/\(∀ i,i<(openM L.from_ L.segs d).l.length->(gl (openM L.from_ L.segs d).l i).recs.length<=400)/\(rs=[]->openM L.from_ L.segs d=⟨L.from_,L.segs,[],1,1,true⟩/\DevIs L.from_ L.segs none L.run d):=by
 obtain ⟨base,b1,b2,hlst⟩:=h.lst;have hdev:=h.dev;have hlen:=h.len;by_cases he:rs=[]
 ·subst he;rw [hlst] at hdev;obtain ⟨k1,k2⟩:=open_none (run:=L.run) hdev h.segs h.room h.size;exact ⟨k1,by rw [k2];rfl,by rw [k2];exact fun i hi=>absurd hi (Nat.not_lt_zero i),fun _=>⟨k2,hdev⟩⟩
 ·rw [hlst,oneL_ne he] at hdev;obtain ⟨k1,_,_,k4,_⟩:=open_one (hdev:DevIs _ _ (some _) _ _) h.segs h.room h.size (fun r hr=>⟨(h.good r hr).1,by have:=(h.good r hr).2;have:=h.next;omega⟩) he h.fits ⟨b1,b2⟩ h.run;refine ⟨k1,by rw [k4];simp [allR],fun i hi=>?_,fun e=>absurd e he⟩;rw [k4] at hi ⊢;have:i=0:=by simpa using hi
  subst this;show rs.length<=400;omega
theorem new_one {fr sg:Nat} {d:DevM} {n:Nat} {run:Int} (h3:3<=sg/\sg<=200) (hr:fr+sg*8<=d.n) (hn:d.n<100000) (hc:d.calls<=n) (hd:DevIs fr sg none run d):FlNow ⟨⟨fr,sg,[],1,1,true⟩,d,[]⟩ n [] []/\OneLog ⟨fr,sg,[],1,1,true⟩ d n []:=⟨FlNow.new h3 hr hn hc hd,(FlNow.new h3 hr hn hc hd).one.log⟩
theorem make_ok {d:DevM} {c:Nat} (hn:192<=d.n/\d.n<3000) (hc:d.calls<=c) (hc2:c<900000000) (H:PH) :
 cStMake.pre ⟨d,H⟩/\StOne (partM (makA ⟨d,H⟩)) (c+d.n+100) [] 0 0/\(partM (makA ⟨d,H⟩)).k.m=⟨1,0,0,false⟩/\(partM (makA ⟨d,H⟩)).ms=[]/\(∀ r,(partM (makA ⟨d,H⟩)).d.loose r=false)/\(∀ r j,(partM (makA ⟨d,H⟩)).d.lasts r j=(partM (makA ⟨d,H⟩)).d.now r j)/\(partM (makA ⟨d,H⟩)).d.n=d.n:=by
 obtain ⟨D0,hD0⟩:∃ D,D=supMkD (zeroTo d d.n) 0 (textM m00):=⟨_,rfl⟩
 have hnow:∀ r j,j<64->r<d.n->D0.now r j=if r=0 then supB 1 (textM m00) j else 0:=fun r j hj hr=>by
  rw [hD0];show (if r=0+0/\j<64 then supB 1 (textM m00) j else if r=0+1/\j<64 then 0 else if r=0/\j<64 then 0 else if r<d.n/\j<64 then 0 else d.now r j)=_;by_cases h0:r=0
  ·rw [if_pos (by omega),if_pos h0]
  ·rw [if_neg (by omega),if_neg h0];by_cases h1:r=1
   ·rw [if_pos (by omega)]
   ·rw [if_neg (by omega),if_neg (by omega),if_pos (by omega)]
 have hDn:D0.n=d.n:=by rw [hD0];rfl
 have hDc:D0.calls<=c+d.n+5:=by rw [hD0];show d.calls+d.n+1+1+1+1+1<=_;omega
 have hK:KeepOn (keep0 0) D0:=⟨rfl,by decide,by decide,rfl,rfl,fun j hj=>by
  rw [show (keep0 0).s.slot=0 from rfl,hnow 0 j hj (by omega),if_pos rfl];rfl,.inl fun j hj=>by
  rw [show 1 - (keep0 0).s.slot=1 from rfl,hnow 1 j hj (by omega),if_neg (by omega)]⟩
 have hs:okSave (keep0 0) (bootM m00)=true:=by decide
 obtain ⟨k1,k2,k3,k4,k5,k6⟩:=hK.save hs (by decide);obtain ⟨D,hD⟩:∃ D,D=saveD (keep0 0) D0 (bootM m00):=⟨_,rfl⟩
 have hDD:D=devFl (devWr D0 (0+1) 64 (supB 2 (textM (bootM m00)))):=by rw [hD];unfold saveD;rw [if_pos hs];rfl
 rw [<- hD] at k1 k4 k5 k6;obtain ⟨s1,s2,s3⟩:=segs_ok hn.1;have hz:∀ r,2<=r->r<d.n->∀ j,j<64->D.now r j=0:=fun r h1 h2 j hj=>by rw [k6 r h1 j,hnow r j hj h2,if_neg (by omega)]
 have hd1:DevIs 2 20 none 1 D:=⟨fun i hi j hj=>hz _ (by omega) (by omega) j hj,fun r h1 h2 j hj=>hz r (by omega) (by omega) j hj⟩
 have hd2:DevIs 162 (segsS d.n) none 1 D:=⟨fun i hi j hj=>hz _ (by omega) (by omega) j hj,fun r h1 h2 j hj=>hz r (by omega) (by omega) j hj⟩
 obtain ⟨a1,a2⟩:=open_none hd1 (by omega) (by omega) (by omega);obtain ⟨b1,b2⟩:=open_none hd2 (by omega) (by omega) (by omega);have e0:makA ⟨d,H⟩=⟨keep0 0,0,D0,H,[],[]⟩:=by rw [hD0];rfl
 have e1:partM (makA ⟨d,H⟩)=⟨D,⟨162,segsS d.n,[],1,1,true⟩,[],⟨2,20,[],1,1,true⟩,[],saveK (keep0 0) (bootM m00),1⟩:=by
  rw [e0];show (⟨saveD (keep0 0) D0 (bootM m00),openM 162 (segsS D0.n) (saveD (keep0 0) D0 (bootM m00)),_,openM 2 20 (saveD (keep0 0) D0 (bootM m00)),_,_,_⟩:StM)=_;rw [<- hD,hDn,a2,b2];rfl
 obtain ⟨n1,_⟩:=new_one (n:=c+d.n+100) (d:=D) ⟨s1,s2⟩ (by omega) (by omega) (by omega) hd2;obtain ⟨_,n2⟩:=new_one (n:=c+d.n+100) (d:=D) (show 3<=20/\20<=200 by omega) (by omega) (by omega) (by omega) hd1;refine ⟨⟨hn.1,by show d.n<100000;omega,by show d.calls<_;omega,?_⟩,?_,?_,?_,?_,?_,?_⟩
 ·rw [e0];refine ⟨by dsimp only;omega,by dsimp only;omega,hs,⟨rfl,by show (0:Nat)<=1;omega,by show (0:Int)<=1;omega,by show (1:Int)<1000000000000;omega⟩,fun H=>?_,fun H=>?_⟩
  ·show cJOpen.pre ⟨H,saveD (keep0 0) D0 (bootM m00),2,20,[]⟩;rw [<- hD];refine ⟨Nat.le_refl _,a1,?_,?_⟩
   ·rw [show openM (JOpA.mk H D 2 20 []).from_ (JOpA.mk H D 2 20 []).segs (JOpA.mk H D 2 20 []).d=_ from a2];exact ⟨rfl,by show (0:Nat)<9000;omega,fun i hi=>absurd hi (Nat.not_lt_zero i),fun i hi=>absurd hi (Nat.not_lt_zero _)⟩
   ·rw [show openM (JOpA.mk H D 2 20 []).from_ (JOpA.mk H D 2 20 []).segs (JOpA.mk H D 2 20 []).d=_ from a2];exact fun i hi=>absurd hi (Nat.not_lt_zero i)
  ·show cFOpen.pre ⟨H,saveD (keep0 0) D0 (bootM m00),162,segsS D0.n,[]⟩;rw [<- hD,hDn];refine ⟨b1,?_,?_⟩
   ·rw [show openM (FOpenA.mk H D 162 (segsS d.n) []).from_ (FOpenA.mk H D 162 (segsS d.n) []).segs (FOpenA.mk H D 162 (segsS d.n) []).d=_ from b2];exact ⟨rfl,by show (0:Nat)<9000;omega,fun i hi=>absurd hi (Nat.not_lt_zero i)⟩
   ·rw [show openM (FOpenA.mk H D 162 (segsS d.n) []).from_ (FOpenA.mk H D 162 (segsS d.n) []).segs (FOpenA.mk H D 162 (segsS d.n) []).d=_ from b2];exact fun i hi=>absurd hi (Nat.not_lt_zero i)
 all_goals rw [e1]
 ·exact ⟨⟨[],n1,Nat.le_refl _⟩,n2,Nat.le_refl _,fun i hi=>absurd hi (Nat.not_lt_zero i),by dsimp only;rw [k3];show _/\_/\(1:Int)+1<=_;omega,⟨rfl,by dsimp only;rw [k4,hDn],rfl,rfl⟩,by dsimp only;rw [k4,hDn];exact hn,k1,by dsimp only;rw [k2];rfl⟩
 ·exact k2
 ·rw [hDD];exact fun _=>rfl
 ·rw [hDD];exact fun _ _=>rfl
 ·exact k4.trans hDn
theorem StOne.reopen {s:StM} {n:Nat} {es:List (Option ItemM)} {cb jb:Nat} (h:StOne s n es cb jb) {d':DevM} {c:Nat} (hd:∀ r j,d'.now r j=s.d.now r j) (hn:d'.n=s.d.n) (hc:d'.calls<=c) (hc2:c<900000000) (hb:s.k.m.boot<1000000) (hn2:n<900000000) (H:PH) :
 cStOpen.pre ⟨d',H,s.k.m,s.ms,es⟩/\(partM (opnA ⟨d',H,s.k.m,s.ms,es⟩)).k.m=bootM s.k.m/\(partM (opnA ⟨d',H,s.k.m,s.ms,es⟩)).boot=s.k.m.boot+1/\(partM (opnA ⟨d',H,s.k.m,s.ms,es⟩)).ms=s.ms /\
 (es=[]->s.ms=[]->StOne (partM (opnA ⟨d',H,s.k.m,s.ms,es⟩)) (c+10+n) [] 0 0)/\(∀ r,(partM (opnA ⟨d',H,s.k.m,s.ms,es⟩)).d.loose r=false)/\(∀ r j,(partM (opnA ⟨d',H,s.k.m,s.ms,es⟩)).d.lasts r j=(partM (opnA ⟨d',H,s.k.m,s.ms,es⟩)).d.now r j)/\(partM (opnA ⟨d',H,s.k.m,s.ms,es⟩)).d.n=s.d.n:=by
 have hdn:=h.dn;have hkt:=h.keep.turn;have hnx:=h.nx;have hK:KeepOn s.k d':=h.keep.dev' fun r _ j _=>hd r j;obtain ⟨o1,o2⟩:=hK.open_ (by omega);have hmo:=may_out2 h.keep.may;have hs:okSave s.k (bootM s.k.m)=true:=by
  have hm:=h.keep.may;unfold okSave;have:mayM (bootM s.k.m)=true:=by
   unfold mayM at hm ⊢;simp only [bootM,Bool.and_eq_true] at hm ⊢;exact ⟨by simp only [inN,Bool.and_eq_true,decide_eq_true_eq];omega,hm.2⟩
  rw [this,show decide ((bootM s.k.m).boot<s.k.m.boot)=false from decide_eq_false (by show ¬ (s.k.m.boot+1<s.k.m.boot);omega),show decide ((bootM s.k.m).epoch<s.k.m.epoch)=false from decide_eq_false (by show ¬ (s.k.m.epoch<s.k.m.epoch);omega)];rfl
 obtain ⟨k1,k2,k3,k4,k5,k6⟩:=hK.save hs (by omega);obtain ⟨D,hD⟩:∃ D,D=saveD s.k d' (bootM s.k.m):=⟨_,rfl⟩
 have hDD:D=devFl (devWr d' (s.k.s.at_+(1 - s.k.s.slot)) 64 (supB (s.k.s.turn+1) (textM (bootM s.k.m)))):=by rw [hD];unfold saveD;rw [if_pos hs];rfl
 rw [<- hD] at k1 k4 k5 k6;obtain ⟨g1,g2,g3,g4⟩:=h.geo;obtain ⟨s1,s2,s3⟩:=segs_ok hdn.1;have hsame:∀ r,2<=r->∀ j,D.now r j=s.d.now r j:=fun r hr j=>(k6 r hr j).trans (hd r j);have hDn:D.n=s.d.n:=k4.trans hn;obtain ⟨cr,hf,hcb⟩:=h.fl;have hf2:FlNow ⟨s.cL,D,s.cl⟩ (c+10+n) cr es:=hf.dev' (fun r h1 _ j _=>hsame r (by have:s.fl.L.from_=162:=g1;omega) j) hDn (by omega);have hj2:OneLog s.jL D (c+10+n) (s.ms.map recOf):=h.jl.dev' (fun r h1 _ j _=>hsame r (by omega) j) hDn (by omega);obtain ⟨a1,a2,a3,a4⟩:=one_open hj2;rw [g3,g4] at a1 a2 a3 a4;have e0:opnA ⟨d',H,s.k.m,s.ms,es⟩=⟨s.k,0,d',H,s.ms,es⟩:=by
  show (⟨⟨supTo 0 d' 2,s.k.m⟩,0,d',H,s.ms,es⟩:PartA)=_;rw [o1]
 have hfo:∀ H,cFOpen.pre ⟨H,D,162,segsS s.d.n,es⟩:=fun H=>by
  have:=(Go.Proofs.YtfhkbihcfmbbcaaGreat.reopen hf2 (d':=D) (fun _ _=>rfl) rfl H).1;dsimp only at this;rw [g1,g2] at this;exact this
 refine ⟨⟨o2,?_⟩,?_,?_,?_,fun he hm0=>?_,?_,?_,?_⟩
 ·rw [e0];refine ⟨by dsimp only;omega,by dsimp only;omega,hs,⟨h.keep.at_,h.keep.slot,by dsimp only;omega,by dsimp only;omega⟩,fun H=>?_,fun H=>?_⟩
  ·show cJOpen.pre ⟨H,saveD s.k d' (bootM s.k.m),2,20,s.ms⟩;rw [<- hD];refine ⟨Nat.le_refl _,a1,?_,a3⟩;rw [show allR (openM (JOpA.mk H D 2 20 s.ms).from_ (JOpA.mk H D 2 20 s.ms).segs (JOpA.mk H D 2 20 s.ms).d).l=_ from a2];have hl:=h.len;refine ⟨by simp,by dsimp only;omega,fun i hi=>?_,fun i hi=>?_⟩
   ·obtain ⟨q1,q2⟩:=h.ms i hi;have:gl (s.ms.map recOf) i=recOf (gl s.ms i):=by
     rw [gl_eq (by rw [List.length_map];exact hi),gl_eq hi,List.getElem_map]
    dsimp only;rw [this];exact ⟨rfl,rfl,by rw [q1];omega,by rw [q1];dsimp only at hi;omega,q2⟩
   ·dsimp only at hi ⊢;rw [(h.ms _ hi).1,(h.ms i (by omega)).1];push_cast;omega
  ·show cFOpen.pre ⟨H,saveD s.k d' (bootM s.k.m),162,segsS d'.n,es⟩;rw [<- hD,hn];exact hfo H
 ·rw [e0];exact k2
 ·rw [e0];rfl
 ·rw [e0];rfl
 ·obtain ⟨b1,b2,b3,b4⟩:=one_open hf2.one.log;dsimp only at b1 b2 b3 b4;rw [g1,g2] at b1 b2 b3 b4;have hcr:cr=[]:=by
   have:=hf2.len;rw [he] at this;exact List.eq_nil_of_length_eq_zero this.symm
  obtain ⟨c1,c2⟩:=b4 hcr;obtain ⟨d1,d2⟩:=a4 (by rw [hm0];rfl);have e1:partM (opnA ⟨d',H,s.k.m,s.ms,es⟩)=⟨D,⟨162,segsS s.d.n,[],1,1,true⟩,[],⟨2,20,[],1,1,true⟩,[],saveK s.k (bootM s.k.m),s.k.m.boot+1⟩:=by
   rw [e0];show (⟨saveD s.k d' (bootM s.k.m),openM 162 (segsS d'.n) (saveD s.k d' (bootM s.k.m)),_,openM 2 20 (saveD s.k d' (bootM s.k.m)),s.ms,_,_⟩:StM)=_;rw [<- hD,hn,d1,c1,he,hm0];rfl
  rw [e1];obtain ⟨n1,_⟩:=new_one (n:=c+10+n) (d:=D) ⟨s1,s2⟩ (by omega) (by omega) (by omega) c2;obtain ⟨_,n2⟩:=new_one (n:=c+10+n) (d:=D) (show 3<=20/\20<=200 by omega) (by omega) (by omega) (by omega) d2;exact ⟨⟨[],n1,Nat.le_refl _⟩,n2,Nat.le_refl _,fun i hi=>absurd hi (Nat.not_lt_zero i),by dsimp only;rw [k3];push_cast;omega,⟨rfl,by dsimp only;rw [hDn],rfl,rfl⟩,by dsimp only;rw [hDn];exact hdn,k1,by dsimp only;rw [k2];rfl⟩
 ·rw [e0];show ∀ r,(saveD s.k d' (bootM s.k.m)).loose r=false;rw [<- hD,hDD];exact fun _=>rfl
 ·rw [e0];show ∀ r j,(saveD s.k d' (bootM s.k.m)).lasts r j=(saveD s.k d' (bootM s.k.m)).now r j;rw [<- hD,hDD];exact fun _ _=>rfl
 ·rw [e0];show (saveD s.k d' (bootM s.k.m)).n=_;rw [<- hD];exact hDn
end Go.Proofs.YtfhkbihcfmbbcaaGreat

namespace Go.Proofs.YtfhkbihcfmbbcaaGreat
open Go.Sx
set_option maxRecDepth 100000
set_option linter.unusedVariables false
set_option linter.unusedSimpArgs false
def addsS (s:StM) (ks:List ByteArray) (i:Nat):StM:={ s with d:=(addTo s.jr ks i).d,jL:=(addTo s.jr ks i).L,ms:=(addTo s.jr ks i).ms }
def dropsS (s:StM) (ks:List ByteArray) (i:Nat):StM:={ s with d:=(dropTo s.fl ks i).d,cL:=(dropTo s.fl ks i).L,cl:=(dropTo s.fl ks i).l }
structure AddsOk (s:StM) (n:Nat) (es:List (Option ItemM)) (cb jb:Nat) (ks:List ByteArray) (i:Nat):Prop where
 one:StOne (addsS s ks i) n es cb jb
 len:(addsS s ks i).ms.length=s.ms.length+i
 ok:∀ j,j<i->LogOk (addTo s.jr ks j).L (addTo s.jr ks j).d/\0<=seqOf (addTo s.jr ks j).ms/\seqOf (addTo s.jr ks j).ms<1000000000000
 key:∀ j,j<i->(gl (addsS s ks i).ms (s.ms.length+j)).key=gl ks j
 dn:(addsS s ks i).d.n=s.d.n
theorem StOne.adds {s:StM} {n:Nat} {es:List (Option ItemM)} {cb jb:Nat} (h:StOne s n es cb jb) {ks:List ByteArray} (hK:∀ i,i<ks.length->keyB (gl ks i)=true) {w:Nat} (hw:∀ i,i<ks.length->8+(markB (s.ms.length+i+1) (gl ks i)).length<=w) (hn:n+20*ks.length<900000000) (hfit:jb+w*ks.length<=378) :
 ∀ i,i<=ks.length->AddsOk s (n+20*i) es cb (jb+w*i) ks i
 | 0,_=>⟨h,rfl,fun j hj=>absurd hj (Nat.not_lt_zero j),fun j hj=>absurd hj (Nat.not_lt_zero j),rfl⟩
 | i+1,hi=>by
  have ih:=StOne.adds h hK hw hn hfit i (by omega);have hl:=ih.len;have hfit2:jb+w*i+w<=378:=by
   have:w*(i+1)<=w*ks.length:=Nat.mul_le_mul_left w hi;rw [Nat.mul_add,Nat.mul_one] at this;omega
  have hw2:8+(markB ((addsS s ks i).ms.length+1) (gl ks i)).length<=w:=by
   have:=hw i (by omega);rw [hl];push_cast;exact this
  obtain ⟨a1,a2,a3⟩:=ih.one.add1 (hK i (by omega)) hw2 (by omega) hfit2;have e:addsS s ks (i+1)=addS1 (addsS s ks i) (gl ks i):=rfl;have hsq:=ih.one.seq;have hlen:=ih.one.len;refine ⟨by rw [e,show n+20*(i+1)=n+20*i+20 by omega,show jb+w*(i+1)=jb+w*i+w by rw [Nat.mul_add];omega];exact a1,by rw [e,a3,List.length_append,hl];rfl,fun j hj=>?_,fun j hj=>?_,?_⟩
  ·by_cases ej:j=i
   ·subst ej;refine ⟨a2,?_⟩;show 0<=seqOf (addsS s ks j).ms/\seqOf (addsS s ks j).ms<_;rw [hsq];omega
   ·exact ih.ok j (by omega)
  ·rw [e,a3,gl_app (by omega)];by_cases ej:j=i
   ·subst ej;rw [if_neg (by omega)]
   ·rw [if_pos (by omega)];exact ih.key j (by omega)
  ·rw [e,<- ih.dn];exact appD_n _ _ _
structure DropsOk (s:StM) (n:Nat) (es:List (Option ItemM)) (cb jb:Nat) (ks:List ByteArray) (i:Nat):Prop where
 one:StOne (dropsS s ks i) n es cb jb
 ok:∀ j,j<i->FlOk (dropTo s.fl ks j) (bodyOf (some (itemD (gl ks j)))).length
 dn:(dropsS s ks i).d.n=s.d.n
theorem StOne.drops {s:StM} {n:Nat} {es:List (Option ItemM)} {cb jb:Nat} (h:StOne s n es cb jb) {ks:List ByteArray} (hK:∀ i,i<ks.length->keyB (gl ks i)=true) {w:Nat} (hw:∀ i,i<ks.length->8+(bodyOf (some (itemD (gl ks i)))).length<=w) (hn:n+20*ks.length<900000000) (hfit:cb+w*ks.length<=378) :
 ∀ i,i<=ks.length->DropsOk s (n+20*i) (es++(ks.take i).map fun q=>some (itemD q)) (cb+w*i) jb ks i
 | 0,_=>⟨by rw [List.take_zero,List.map_nil,List.append_nil];exact h,fun j hj=>absurd hj (Nat.not_lt_zero j),rfl⟩
 | i+1,hi=>by
  have ih:=StOne.drops h hK hw hn hfit i (by omega);have hfit2:cb+w*i+w<=378:=by
   have:w*(i+1)<=w*ks.length:=Nat.mul_le_mul_left w hi;rw [Nat.mul_add,Nat.mul_one] at this;omega
  obtain ⟨a1,a2⟩:=ih.one.drop1 (hK i (by omega)) (hw i (by omega)) (by omega) hfit2;have e:dropsS s ks (i+1)=dropS1 (dropsS s ks i) (gl ks i):=rfl;have es':es++(ks.take (i+1)).map (fun q=>some (itemD q))=es++(ks.take i).map (fun q=>some (itemD q))++[some (itemD (gl ks i))]:=by
   rw [take_push (by omega)];simp
  refine ⟨by rw [e,es',show n+20*(i+1)=n+20*i+20 by omega,show cb+w*(i+1)=cb+w*i+w by rw [Nat.mul_add];omega];exact a1,fun j hj=>?_,?_⟩
  ·by_cases ej:j=i
   ·subst ej;exact a2
   ·exact ih.ok j (by omega)
  ·rw [e,<- ih.dn];exact appD_n _ _ _
theorem StOne.all_kept {s:StM} {n:Nat} {es:List (Option ItemM)} {cb jb:Nat} (h:StOne s n es cb jb):keepM (firstF s.jL) s.ms=s.ms:=keep_all fun i hi=>by
 have hm:recOf (gl s.ms i)∈s.ms.map recOf:=List.mem_map.2 ⟨_,by rw [gl_eq hi];exact List.getElem_mem _,rfl⟩;exact h.jl.rd.first hm
structure Killed (s:StM) (n:Nat) (es:List (Option ItemM)) (cb jb:Nat) (ks:List ByteArray):Prop where
 one:StOne (killS s ks) n es cb jb
 len:(killS s ks).ms.length=s.ms.length+ks.length
 seq:seqOf (addsJ s.jr ks).ms=s.ms.length+ks.length
 key:∀ j,j<ks.length->(gl (killS s ks).ms (s.ms.length+j)).key=gl ks j
 dn:(killS s ks).d.n=s.d.n
 k:(killS s ks).k=s.k/\(killS s ks).boot=s.boot
 still:(∀ r,(killS s ks).d.loose r=false)/\∀ r j,(killS s ks).d.lasts r j=(killS s ks).d.now r j
theorem killJ_one {s:StM} {n:Nat} {es:List (Option ItemM)} {cb jb:Nat} (h:StOne s n es cb jb) {ks:List ByteArray} (hA:allK ks=true) {w:Nat} (hw:∀ i,i<ks.length->8+(markB (s.ms.length+i+1) (gl ks i)).length<=w) (hn:n+20*ks.length<900000000) (hfit:jb+w*ks.length<=378) (hl:ks.length<=20) :
 StOne (killJ s ks) (n+20*ks.length+1) es cb (jb+w*ks.length)/\(killJ s ks).ms=(addsS s ks ks.length).ms/\(killJ s ks).d.n=s.d.n/\(killJ s ks).k=s.k/\(killJ s ks).boot=s.boot/\(∀ p kc,LogAt p.H p.y s.jL->s.ms.length<=p.cap->cJAdd.pre ⟨s.jr,p,ks,kc⟩):=by
 have hK:∀ i,i<ks.length->keyB (gl ks i)=true:=fun i hi=>List.all_eq_true.1 hA (gl ks i) (by rw [gl_eq hi];exact List.getElem_mem _);have ha:=h.adds hK hw hn hfit ks.length (Nat.le_refl _);have hpre:∀ p kc,LogAt p.H p.y s.jL->s.ms.length<=p.cap->cJAdd.pre ⟨s.jr,p,ks,kc⟩:=fun p kc h1 h2=>by
  have l1:=one_len h.jl;have l2:=one_len ha.one.jl;have l3:=h.len;have hd:=h.dn;obtain ⟨cr,hf,_⟩:=ha.one.fl;have hc:=hf.one.log.calls;refine ⟨h1,by show s.jL.l.length<800;omega,by show ks.length<1000;omega,by show s.ms.length<50000;omega,h2,fun _=>⟨ha.ok,?_,?_,?_⟩⟩
  ·show (addsS s ks ks.length).d.n<_;rw [ha.dn];omega
  ·show (addsS s ks ks.length).d.calls<_;have:(addsS s ks ks.length).d.calls<=n+20*ks.length:=hc;omega
  ·show (addsS s ks ks.length).jL.l.length<_;omega
 by_cases h0:ks.length=0
 ·have e:killJ s ks=s:=by
   have:addsJ s.jr ks=⟨s.jL,s.d,s.ms⟩:=by
    unfold addsJ;rw [if_pos hA,if_pos h0];show (⟨s.jL,s.d,keepM (firstF s.jL) s.ms⟩:JrM)=_;rw [h.all_kept]
   unfold killJ;rw [this]
  rw [e,h0];obtain ⟨cr,hf,hcb⟩:=h.fl;have hc:=hf.one.log.calls;have hc:s.d.calls<=n:=hc;have hnx:=h.nx;refine ⟨⟨⟨cr,hf.dev' (fun _ _ _ _ _=>rfl) rfl (by show s.d.calls<=_;omega),hcb⟩,h.jl.dev' (fun _ _ _ _ _=>rfl) rfl (by omega),h.jb,h.ms,by push_cast;omega,h.geo,h.dn,h.keep,h.boot⟩,rfl,rfl,rfl,rfl,hpre⟩
 ·have e:killJ s ks=flS (addsS s ks ks.length):=by
   have:addsJ s.jr ks=⟨(addTo s.jr ks ks.length).L,devFl (addTo s.jr ks ks.length).d,(addTo s.jr ks ks.length).ms⟩:=by
    unfold addsJ;rw [if_pos hA,if_neg h0];show (⟨(addTo s.jr ks ks.length).L,devFl (addTo s.jr ks ks.length).d,keepM (firstF (addTo s.jr ks ks.length).L) (addTo s.jr ks ks.length).ms⟩:JrM)=_;rw [show keepM (firstF (addTo s.jr ks ks.length).L) (addTo s.jr ks ks.length).ms=(addTo s.jr ks ks.length).ms from ha.one.all_kept]
   unfold killJ;rw [this];rfl
  rw [e];exact ⟨ha.one.flush,rfl,ha.dn,rfl,rfl,hpre⟩
theorem StOne.kill {s:StM} {n:Nat} {es:List (Option ItemM)} {cb jb:Nat} (h:StOne s n es cb jb) {ks:List ByteArray} (hA:allK ks=true) {wj wc:Nat} (hwj:∀ i,i<ks.length->8+(markB (s.ms.length+i+1) (gl ks i)).length<=wj) (hwc:∀ i,i<ks.length->8+(bodyOf (some (itemD (gl ks i)))).length<=wc) (hn:n<800000000) (hfj:jb+wj*ks.length<=378) (hfc:cb+wc*ks.length<=378) (hl:ks.length<=20) :
 (∀ p kc,KillOk ⟨s,p,ks,kc⟩)/\Killed s (n+40*ks.length+2) (es++ks.map fun q=>some (itemD q)) (cb+wc*ks.length) (jb+wj*ks.length) ks:=by
 have hK:∀ i,i<ks.length->keyB (gl ks i)=true:=fun i hi=>List.all_eq_true.1 hA (gl ks i) (by rw [gl_eq hi];exact List.getElem_mem _);have ha:=h.adds hK hwj (by omega) hfj ks.length (Nat.le_refl _);obtain ⟨j1,j2,j3,j4,j5,j6⟩:=killJ_one h hA hwj (by omega) hfj hl;have hd:=j1.drops hK hwc (by omega) hfc ks.length (Nat.le_refl _);have ek:killS s ks=flS (dropsS (killJ s ks) ks ks.length):=by
  unfold killS;rw [if_pos hA];unfold dropS dropsF;rw [if_pos hA];rfl
 have hms:(killS s ks).ms=(addsS s ks ks.length).ms:=by rw [ek];exact j2
 refine ⟨fun p kc=>⟨by show ks.length<1000;omega,fun _ q h1 h2=>j6 q kc h1 h2,fun _ q h1=>⟨h1,by show ks.length<1000;omega,fun _=>⟨hd.ok,?_,?_⟩⟩⟩,?_⟩
 ·show (dropsS (killJ s ks) ks ks.length).d.n<_;rw [hd.dn,j3];have:=h.dn;omega
 ·show (dropsS (killJ s ks) ks ks.length).d.calls<_;obtain ⟨cr,hf,_⟩:=hd.one.fl;have hc:=hf.one.log.calls;have:(dropsS (killJ s ks) ks ks.length).d.calls<=n+20*ks.length+1+20*ks.length:=hc;omega
 ·have h1:=hd.one.flush;rw [List.take_length,show n+20*ks.length+1+20*ks.length+1=n+40*ks.length+2 by omega,<- ek] at h1;refine ⟨h1,by rw [hms];exact ha.len,?_,fun j hj=>by rw [hms];exact ha.key j hj,by rw [ek];show (dropsS (killJ s ks) ks ks.length).d.n=_;rw [hd.dn,j3],by rw [ek];exact ⟨j4,j5⟩,by rw [ek];exact ⟨fun _=>rfl,fun _ _=>rfl⟩⟩;have h2:=h1.seq;rw [hms,ha.len] at h2;have:(addsJ s.jr ks).ms=(addsS s ks ks.length).ms:=j2;rw [this,h2];push_cast;rfl
theorem StOne.get {s:StM} {n:Nat} {es:List (Option ItemM)} {cb jb:Nat} (h:StOne s n es cb jb) (k:ByteArray):FlRd s.fl/\EntIs s.fl k (gE es k):=by
 obtain ⟨cr,hf,_⟩:=h.fl;exact ⟨hf.one.has.flRd,hf.one.has.ent k⟩
end Go.Proofs.YtfhkbihcfmbbcaaGreat

namespace Go.Sx
theorem Keeps.below {w w':World} (h:Keeps (fun _=>False) w w'):Go.RowKit.Below w.heap.size w w':=⟨h.os,h.tape,h.output,h.size,fun k hk=>h.block k hk id⟩
open Go.WideShapes Go.ChangeShapes in
theorem post_of_kept {H:Type} {enc:TypeId × Value->H} {P:Program} {f:Func} {s:ChangeSpec} {apart fresh handsOn again:Bool} {W W':World} {args:Array Value} {v:Value} {ds gs:List (DataW H)} {pa:List MemPlace}
 (hW:DataW.Whole enc P f.params.toList s.vars apart W args.toList ds gs (pa++[]))
 (hres:∀ (b:Nat) (sp:Nat->Bool) (hd:Bool),DataW.TrodAll enc P W' b sp hd f.resultTypes.toList (v.resultList f.resultTypes.size) (s.fn H (ds++gs)).results [])
 (hargs:∀ sp:Nat->Bool,(∀ p∈pa++[],sp p.block=true)->DataW.TrodAll enc P W' 0 sp true f.params.toList args.toList (s.fn H (ds++gs)).args pa)
 (hvars:∀ sp:Nat->Bool,(∀ p∈pa++[],sp p.block=true)->DataW.TrodVars enc P W' sp s.vars (s.fn H (ds++gs)).vars [])
 (hk:Keeps (fun _=>False) W W')
 (hok:∀ (j:Nat) (t:TypeId) (r:Value),f.resultTypes[j]? = some t->(v.resultList f.resultTypes.size)[j]? = some r->Value.okWide P W' .any 0 t r) :
 s.post enc P f apart fresh handsOn again W args v W':=by
 have hl:=hW.lt;have hall:∀ p∈pa++[],(fun _=>true:Nat->Bool) p.block=true:=fun _ _=>rfl;have hold:∀ p∈pa++[],(fun b=>decide (b<W.heap.size)) p.block=true:=fun p hp=>decide_eq_true (hl p hp);have hmem:∀ p,p∈([]++pa)++[]->p∈pa++[]:=fun p hp=>by simpa using hp
 refine ⟨ds,gs,pa++[],[],pa,[],hW,hres _ _ _,hargs _ hold,hvars _ hold,World.keptBut_mono (may:=(·∈pa++[])) (fun p hp=>⟨hp,.inr (by simpa using hp)⟩) (hk.below.frame _),fun _=>?_⟩;obtain ⟨_,_,_,_,_,hz,hn⟩:=hW;refine ⟨hok,_,_,([]++pa)++[],⟨[]++pa,[],trodAll_append (hargs _ hall) (hres _ _ _),hvars _ hall,rfl,fun b off hp=>?_,fun ha=>by simpa using hn ha⟩,fun p hp _=>by simpa using hp⟩;rw [hk.frz _ (hl _ (hmem _ hp))];exact hz b off (hmem _ hp)
end Go.Sx
