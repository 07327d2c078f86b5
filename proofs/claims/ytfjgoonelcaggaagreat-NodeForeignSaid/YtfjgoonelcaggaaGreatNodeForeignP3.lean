/-
  
-/
import Derived.Test.YtfjgoonelcaggaaGreatNodeForeignP2
set_option maxRecDepth 100000
set_option maxHeartbeats 4000000
set_option linter.unusedVariables false
set_option linter.unusedSimpArgs false
namespace Go.Proofs.YtfjgoonelcaggaaGreat
open Go.Sx
def u8(r:Nat->Nat->Value)(i:Nat):Int:=jP (r i 0)
def aa7(x:Int):Int:=dI .xor .u32 (x/2) (dI .and .u32 3988292384 (uw .u32 (0-dI .and .u32 x 1)))
def JO:Nat->Int->Int
 |0,x=>x
 |k+1,x=>aa7 (JO k x)
def qQ(r:Nat->Int):Nat->Int
 |0=>4294967295
 |k+1=>JO 8 (dI .xor .u32 (qQ r k) (r k))
structure zo where
 c:Nat
 r:Nat
 len:Nat
 cap:Nat
 n:Nat
 rows:Nat->Nat->Value
noncomputable def SP:cE where
 α:=zo
 β:=Unit
 m:=2
 m':=2
 pre:=fun a=>a.r+a.len<=a.n/\a.len<100000
 args:=fun a=>[.a (.slc 0 0 1 1 a.c)]
 hp:=fun _=>[]
 ro:=fun a=>[(0,.obj 58 [.slc 1 a.r 1 a.len a.cap]),(1,.arr 5 [.int .u8] a.n a.rows)]
 post:=fun _ _=>True
 res:=fun a _=>.a (.int .u32 (dI .xor .u32 4294967295 (qQ (fun i=>u8 a.rows (a.r+i)) a.len)))
 cZ:=fun _ _=>[]
def Zk:An:=.flat 10 Nat (fun s j=>(s.set 3 (.a (.int .u32 (JO j (S.iv s 3))))).int 24 j) (fun _ j=>j<=8) (fun _ j=>8-j)
def aa8(a:zo):An:=.mk 6 Nat (fun s i=>(s.set 3 (.a (.int .u32 (qQ (fun i=>u8 a.rows (a.r+i)) i)))).int 16 i) (fun _ i=>i<=a.len) (fun _ i=>a.len-i) fun _=>.mk 60 [Zk] []
def aC(x:Bool):=x=true
def aW(x:Bool):=x=false
def az(x:Bool)(y z:Prop):=(aC x->y)/\(aW x->z)
def bZ(x y:Int)(z u:Prop):=x=x/\y=y/\z/\u
def aK(x y z:Nat)(u v:Nat->Nat->Value):=x<=y/\ak x z u v
def ah(x:Int):=bR .i64 x
def ag(x:Prop):=0=0/\x
def b8(x:Nat)(y:Prop):=ag (x=x/\y)
def af(x:Nat):Int:=(x:Int)
def aX(x:Int):Nat:=x.toNat
def aA(x:Nat):Nat:=aX (af x)
def aD(x:Int):=x=x
def bE(x:Bool)(y:Prop):=x=x/\y
def bq(x y:Int):=(0:Int)<=x/\x<y
def cF(x:Int)(y:Nat):=bq x (af y)
def aH(x y:Int):Bool:=decide (x<y)
def uJ(y x z:Prop):=y/\x/\x/\z
def kD(x y z:Nat):=x=x/\y=y/\z=z
def dU(x z:Nat)(y:Nat->Nat->Value):=aK x x z y y
def ay(x:Prop):Unit->Prop:=fun(y:Unit)=>x
def bl(x:Prop):=x/\True/\True
def bI(x:Prop):Unit->Prop:=ay (bl x)
def bG(y x:Nat):=b8 y (x=x)
def aS(x:Nat):=ah (af x+(1:Int))
def br(x y:Nat):=af x+(1:Int)=af y
def dz(x:Nat)(z:Nat->Prop):=aS x/\∃y:Nat,br x y/\z y
def bU(y x z:Nat):=y<=x/\x-y<x-z
def uK(x:zo)(y:Nat):Int:=qQ (fun z=>u8 x.rows (x.r+z)) y
def xg(x:zo)(y:Nat):Int:=dI Go.BinOp.xor .u32 (uK x y) (jP (x.rows (x.r+aA y) 0))
def aV(x:Prop):=aD 0/\x
def o4(x y:Nat)(z u:Prop):=bE (aH (af x) (af y)) (bZ (af x) (af y) z u)
def aF(x:Nat)(y:Prop):=(0:Int)=af x/\y
def aY(x:Int)(y:Nat)(z u:Prop):=az (aH x (af y)) z u
def CD(x:zo)(y:Prop):=bE true (bZ 0 1 (bG 1 x.c) (aV (bG 1 x.c/\kD x.r x.len x.cap/\dU x.n 1 x.rows/\y)))
def uL(x:zo)(y:Nat):Int:=dI Go.BinOp.xor .u32 (4294967295:Int) (uK x y)
def bu(x:Nat):=aD (af x)
def mO(x:Int)(y:Nat)(z u:Prop):=aY x y (cF x y/\z) u
def jQ(x:Int):=bR .u8 x
theorem Wb:fnBody (Y Tryz.prog) [] 203 SP fun a=>[(203,[aa8 a],[])]:=fnBody.of (p :=
 ∀x:zo,x.r+x.len<=x.n/\x.len<100000->bq 0 1/\(∃y:Nat,aF y ((4294967295:Int)=uK x y/\uJ (bu x.len) (kD x.r x.len x.cap) (CD x (y<=x.len/\True))))/\∀y:Nat,y<=x.len->mO (af y) x.len (x.r+aA y<x.n/\(jQ (jP (x.rows (x.r+aA y) 0))->(∃z:Nat,aF z (xg x y=JO z (xg x y)/\aD (jP (x.rows (x.r+aA y) 0))/\o4 y x.len (kD x.r x.len x.cap) (kD x.r x.len x.cap/\CD x (z<=8/\True))))/\∀z:Nat,z<=8->az (aH (af z) 8) ((0:Int)<=1/\dz z fun u=>dI .xor .u32 (JO z (xg x y)/(2:Int)) (dI .and .u32 (3988292384:Int) (uw .u32 ((0:Int)-dI .and .u32 (JO z (xg x y)) (1:Int))))=JO u (xg x y)/\aD (jP (x.rows (x.r+aA y) 0))/\o4 y x.len (kD x.r x.len x.cap) (kD x.r x.len x.cap/\CD x (bU u 8 z))) (dz y fun u=>JO z (xg x y)=uK x u/\uJ (bu x.len) (kD x.r x.len x.cap) (CD x (bU u x.len y))))) (Exists (bI (uL x y=uL x x.len)))) (by kernel_rfl) (by
 delta az bZ aK ah b8 aA aD bE cF aH af aC aX bq uJ kD aW dU bI bG dz bU xg aV ay aS o4 aF ag aY CD uL br bl bu mO jQ uK
 try dsimp -iota -proj only
 rintro⟨c,r,len,cap,n,rows⟩ ⟨h1,h2⟩;dsimp only at h1 h2 ⊢;simp only[Int.toNat_natCast,bR,decide_eq_true_eq,decide_eq_false_iff_not];refine⟨by decide,⟨0,?_⟩,fun i hi=>⟨fun c1=>?_,fun c1=>⟨(),?_⟩⟩⟩
 ·(and_intros<;>first|exact wm|skip)
 ·have hi:i<len:=by omega
  refine⟨by omega,by omega,fun _=>⟨⟨0,?_⟩,fun j hj=>⟨fun c2=>⟨by decide,by omega,j+1,?_⟩,fun c2=>⟨by omega,i+1,?_⟩⟩⟩⟩
  ·(and_intros<;>first|exact wm|skip)
  ·(and_intros<;>first|exact wm|skip)
  ·have:j=8:=by omega
   subst this
   (and_intros<;>first|exact wm|skip)
 ·have:i=len:=by omega
  subst this
  (and_intros<;>first|exact wm|skip))
theorem GG:au (Y Tryz.prog).G.X 203 SP:=aU fL Wb trivial
def ue(rows:Nat->Nat->Value)(r len:Nat)(v:Int)(k:Nat):Nat->Nat->Value:=fun i j=>if r+len<=i+k/\i<r+len then .int .u8 (uw .u8 (v/2^min (8*(r+len-1-i)) 64))else rows i j
structure mH where
 r:Nat
 len:Nat
 cap:Nat
 v:Int
 n:Nat
 rows:Nat->Nat->Value
noncomputable def CE:cE where
 α:=mH
 β:=Unit
 m:=1
 m':=1
 pre:=fun a=>a.r+a.len<=a.n/\a.len<=8
 args:=fun a=>[.a (.slc 0 a.r 1 a.len a.cap),.a (.int .u64 a.v)]
 hp:=fun a=>[(0,.arr 5 [.int .u8] a.n a.rows)]
 ro:=fun _=>[]
 post:=fun _ _=>True
 res:=fun _ _=>.mG []
 cZ:=fun a _=>[(0,.arr 5 [.int .u8] a.n (ue a.rows a.r a.len a.v a.len))]
def Zl(a:mH):An:=.flat 1 Nat (fun s k=>(s.at_ 0 (.arr 5 [.int .u8] a.n (ue a.rows a.r a.len a.v k))).int 7 k) (fun _ k=>k<=a.len) (fun _ k=>a.len-k)
def bV(x:Value)(y:List Value):List Value:=x::y
def bD(x:Value):List Value:=bV x []
def fM(x:Int):Value:=Value.int .u8 x
def lG(x:mH)(y:Nat):Nat->Nat->Value:=ue x.rows x.r x.len x.v y
def o5(x y:Int)(z:Prop):=ah x/\ah (x-y)/\z
def mP(x:Int):Int:=uw .u8 x
def eu(x:Nat):Int:=af x-(1:Int)
def GH:=∀x:mH,x.r+x.len<=x.n/\x.len<=8->(∃y:Nat,aF y (bu x.len/\kD x.r x.len x.cap/\aD x.v/\aK x.n x.n 1 x.rows (lG x y)/\y<=x.len/\True))/\∀y:Nat,y<=x.len->aY (af y) x.len (o5 (eu x.len) (af y) (ah ((8:Int)*af y)/\(0:Int)<=8*af y/\cF (eu x.len-af y) x.len/\x.r+aX (eu x.len-af y)<x.n/\dz y fun z=>bu x.len/\kD x.r x.len x.cap/\aD x.v/\aK x.n x.n 1 (kq (lG x y) (x.r+aX (eu x.len-af y)) 0 (bD (fM (mP (x.v/(2:Int)^min (aX ((8:Int)*af y)) 64))))) (lG x z)/\bU z x.len y)) (Exists (bI (aK x.n x.n 1 (lG x y) (lG x x.len))))
theorem GI:fnBody (Y Tryz.prog) [] 196 CE fun a=>[(196,[Zl a],[])]:=fnBody.of (p :=
 GH) (by kernel_rfl) (by
 delta az aK ah aD cF aH af bD fM aC aX bq kD bV aW bI dz bU GH ay aS aF aY lG br bl o5 bu mP eu
 try dsimp -iota -proj only
 rintro⟨r,len,cap,v,n,rows⟩ ⟨h1,h2⟩;dsimp only at h1 h2 ⊢;simp only[Int.toNat_natCast,bR,decide_eq_true_eq,decide_eq_false_iff_not];refine⟨⟨0,?_⟩,fun k hk=>⟨fun c1=>?_,fun c1=>⟨(),?_⟩⟩⟩
 ·(and_intros<;>first|exact wm|skip)
  refine⟨fun i hi j hj=>?_⟩;unfold ue;rw[if_neg (by omega)]
 ·have hk:k<len:=by omega
  have e:((len:Int)-1-k).toNat=len-1-k:=by omega
  rw[e];refine⟨by omega,by omega,by omega,by omega,by omega,by omega,by omega,k+1,?_⟩
  (and_intros<;>first|exact wm|skip)
  refine⟨fun i hi j hj=>?_⟩;have hj:j=0:=by omega
  subst hj;by_cases hik:i=r+(len-1-k)
  ·subst hik;have e3:(8*(k:Int)).toNat=8*(r+len-1-(r+(len-1-k))):=by omega
   rw[jh,e3];show Value.int .u8 _=_;simp only[ue];rw[if_pos (by omega)]
  ·rw[gU hik];simp only[ue];by_cases hq:r+len<=i+k/\i<r+len
   ·rw[if_pos hq,if_pos (by omega)]
   ·rw[if_neg hq,if_neg (by omega)]
 ·have:k=len:=by omega
  subst this
  (and_intros<;>first|exact wm|skip))
theorem BJ:au (Y Tryz.prog).G.X 196 CE:=aU fL GI trivial
def jW(r:Nat->Int):Nat->Int
 |0=>0
 |k+1=>dI .or .u64 (uw .u64 (jW r k*2^8)) (r k)
structure xh where
 r:Nat
 len:Nat
 cap:Nat
 n:Nat
 rows:Nat->Nat->Value
noncomputable def JP:cE where
 α:=xh
 β:=Unit
 m:=1
 m':=1
 pre:=fun a=>a.r+a.len<=a.n/\a.len<=8
 args:=fun a=>[.a (.slc 0 a.r 1 a.len a.cap)]
 hp:=fun _=>[]
 ro:=fun a=>[(0,.arr 5 [.int .u8] a.n a.rows)]
 post:=fun _ _=>True
 res:=fun a _=>.a (.int .u64 (jW (fun i=>u8 a.rows (a.r+i)) a.len))
 cZ:=fun _ _=>[]
def aa9(a:xh):An:=.flat 3 Nat (fun s k=>(s.set 3 (.a (.int .u64 (jW (fun i=>u8 a.rows (a.r+i)) k)))).int 8 k) (fun _ k=>k<=a.len) (fun _ k=>a.len-k)
def cM(x:Int):Int:=uw .u64 x
def ry(x:xh)(y:Nat):Int:=jW (fun z=>u8 x.rows (x.r+z)) y
theorem GJ:fnBody (Y Tryz.prog) [] 230 JP fun a=>[(230,[aa9 a],[])]:=fnBody.of (p :=
 ∀x:xh,x.r+x.len<=x.n/\x.len<=8->(∃y:Nat,aF y ((0:Int)=ry x y/\bu x.len/\kD x.r x.len x.cap/\aV (kD x.r x.len x.cap/\dU x.n 1 x.rows/\y<=x.len/\True)))/\∀y:Nat,y<=x.len->mO (af y) x.len (x.r+aA y<x.n/\(jQ (jP (x.rows (x.r+aA y) 0))->(0:Int)<=8/\dz y fun z=>dI .or .u64 (cM (ry x y*(256:Int))) (jP (x.rows (x.r+aA y) 0))=ry x z/\bu x.len/\kD x.r x.len x.cap/\aV (kD x.r x.len x.cap/\dU x.n 1 x.rows/\bU z x.len y))) (Exists (bI (ry x y=ry x x.len)))) (by kernel_rfl) (by
 delta az aK ah aA aD cF aH af aC aX bq kD aW dU bI dz bU cM aV ay aS aF aY br ry bl bu mO jQ
 try dsimp -iota -proj only
 rintro⟨r,len,cap,n,rows⟩ ⟨h1,h2⟩;dsimp only at h1 h2 ⊢;simp only[Int.toNat_natCast,bR,decide_eq_true_eq,decide_eq_false_iff_not];refine⟨⟨0,?_⟩,fun k hk=>⟨fun c1=>?_,fun c1=>⟨(),?_⟩⟩⟩
 ·(and_intros<;>first|exact wm|skip)
 ·have hk:k<len:=by omega
  refine⟨by omega,by omega,fun _=>⟨by omega,by omega,k+1,?_⟩⟩
  (and_intros<;>first|exact wm|skip)
 ·have:k=len:=by omega
  subst this
  (and_intros<;>first|exact wm|skip))
theorem BK:au (Y Tryz.prog).G.X 230 JP:=aU fL GJ trivial
structure bA where
 n:Nat
 now:Nat->Nat->Int
 E8:Nat->Nat->Int
 loose:Nat->Bool
 calls:Nat
def AX:List CK:=List.replicate 128 (.int .u8)++[.bool]
def fe(d:bA):Nat->Nat->Value:=fun i j=>if j<64 then .int .u8 (d.now i j)else if j<128 then .int .u8 (d.E8 i (j-64))else .bool (d.loose i)
@[reducible] def iY(a b:bA)(p:Prop):Prop:=(0=0/\a.n=b.n/\a.n=b.n)/\(↑a.calls:Int)=(↑b.calls:Int)/\(b.n<=a.n/\ak b.n 129 (fe a) (fe b))/\p
def gJ(o a:Nat)(d:bA):List (Nat×Chunk):=[(o,.obj 116 [.slc a 0 129 d.n d.n,.int .i64 d.calls]),(a,.arr 158 AX d.n (fe d))]
def lH(n:Int):bA:=⟨(min (max n 1) 2048).toNat,fun _ _=>0,fun _ _=>0,fun _=>false,0⟩
noncomputable def BL:cE where
 α:=Int
 β:=Unit
 m:=0
 m':=2
 pre:=fun _=>True
 args:=fun n=>[.a (.int .i64 n)]
 hp:=fun _=>[]
 ro:=fun _=>[]
 post:=fun _ _=>True
 res:=fun _ _=>.a (.ptr 0 0 0 0)
 cZ:=fun n _=>gJ 0 1 (lH n)
def lC(x y:Value)(z:List Value):List Value:=bV x (bV y z)
def Ez(x:IntKind)(y z u:Int)(v:Value)(w s t:Int)(f:List Value):List Value:=lC (Value.int x y) (Value.int x z) (lC (Value.int x u) v (lC (Value.int x w) (Value.int x s) (bV (Value.int x t) f)))
def uM(x:List Value):List Value:=Ez .u8 0 0 0 (fM 0) 0 0 0 x
def CF(x:List Value):List Value:=lC (fM 0) (fM 0) x
def Wc(x:Value)(y:List Value):List Value:=uM (uM (CF (bV x y)))
def X7(x:Value)(y:List Value):List Value:=Wc (fM 0) (uM (uM (lC (fM 0) x y)))
def Zm(x:Value)(y:List Value):List Value:=X7 (fM 0) (Wc (fM 0) (uM (uM (bV x y))))
def aT(x:List Value)(y:Nat):Value:=x.getD y (Value.tuple #[])
def pL(z:Bool)(x y:Int):Int:=bif z then max x y else min x y
def dL(x y z u:Nat)(v:Prop)(w:Nat)(s t:Nat->Nat->Value)(f:Prop):=ag (x=y/\z=u)/\v/\aK y x w s t/\f
def l9(x y:Int)(z:Prop):=(0:Int)<=x/\x<=x/\y<=(281474976710656:Int)/\z
def dR(x:Bool):Value:=Value.bool x
def gm:Value:=dR false
def sX(x:Nat)(y:bA)(u:Int)(z:bA)(v:Nat->Nat->Value)(w s:Prop):=dL x y.n x y.n (u=af z.calls) 129 v (fe z) (w/\s)
def rz(x y z:Int):Int:=pL false (pL true x y) z
theorem LQ:fnBody (Y Tryz.prog) [] 12 BL fun _=>[]:=fnBody.of (p :=
 ∀x:Int,True->l9 (rz x 1 2048) ((129:Int)*rz x 1 2048) (Exists (ay (ag (sX (aX (rz x 1 2048)) (lH x) 0 (lH x) (fun z y=>aT (Zm (fM 0) (X7 (fM 0) (Wc (fM 0) (uM (CF (CF (CF (bD gm)))))))) y) True True))))) (by kernel_rfl) (by
 delta Zm X7 Wc aT Ez aK pL af bD fM aX lC bV dL l9 ay uM gm ag sX rz dR CF
 try dsimp -iota -proj only
 intro n _;simp only[cond_true,cond_false,Nat.zero_add];have e:min (max n 1) 2048=((min (max n 1) 2048).toNat:Int):=by omega
 refine⟨by omega,by omega,by omega,(),(by trivial),⟨(by trivial),(by trivial),(by trivial)⟩,(by trivial),⟨Nat.le_refl _,⟨fun i hi j hj=>?_⟩⟩,trivial,trivial⟩;show(List.replicate 128 (Value.int .u8 0)++[Value.bool false]).getD j undef=_;unfold fe lH;dsimp only;simp only[List.getD_eq_getElem?_getD,List.getElem?_append,List.length_replicate,List.getElem?_replicate];by_cases h1:j<64
 ·rw[if_pos (by omega),if_pos (by omega),if_pos h1];rfl
 ·by_cases h2:j<128
  ·rw[if_pos h2,if_pos h2,if_neg h1,if_pos h2];rfl
  ·rw[if_neg h2,if_neg h1,if_neg h2,show j=128 by omega];rfl)
theorem BM{rows:Nat->Nat->Value}{row c i j:Nat}{vs:List Value}:kq rows row c vs i j=if(c<=j/\j<c+vs.length)/\i=row then vs.getD (j-c) undef else rows i j:=by
 have e1:∀a b:Nat,Nat.ble a b=decide (a<=b):=fun a b=>by rw[Bool.eq_iff_iff];simp
 have e2:∀a b:Nat,Nat.blt a b=decide (a<b):=fun a b=>e1 _ _;unfold kq;rw[e1,e2];by_cases h1:c<=j<;>by_cases h2:j<c+vs.length<;>by_cases h3:i=row<;>simp[h1,h2,h3]
theorem SQ{f:Nat->Value}{n j:Nat}(h:j<n):((List.range n).map f).getD j undef=f j:=by
 simp[List.getD_eq_getElem?_getD,List.getElem?_range h]
def gu(d:bA)(i len:Nat)(src:Nat->Int):bA:=⟨d.n,fun r j=>if r=i/\j<len then src j else d.now r j,d.E8,fun r=>if r=i then true else d.loose r,d.calls+1⟩
def bP(f:Nat->Int):Nat->Nat->Value:=fun i _=>.int .u8 (f i)
structure LR where
 d:bA
 i:Nat
 r:Nat
 len:Nat
 cap:Nat
 n:Nat
 src:Nat->Int
noncomputable def p5:cE where
 α:=LR
 β:=Unit
 m:=3
 m':=3
 pre:=fun a=>a.i<a.d.n/\a.d.n<100000/\a.len<=64/\a.r+a.len<=a.n/\a.d.calls<1000000000000
 args:=fun a=>[.a (.ptr 0 0 0 0),.a (.int .i64 a.i),.a (.slc 2 a.r 1 a.len a.cap)]
 hp:=fun a=>gJ 0 1 a.d
 ro:=fun a=>[(2,.arr 5 [.int .u8] a.n (bP a.src))]
 post:=fun _ _=>True
 res:=fun _ _=>.a (.lit .i64 0)
 cZ:=fun a _=>gJ 0 1 (gu a.d a.i a.len fun j=>a.src (a.r+j))
def iM(y:Bool)(x:Prop)(z:Bool)(u:Prop):=az y x (az z x u)
def me(x:LR):bA:=gu x.d x.i x.len fun y=>x.src (x.r+y)
def cC(x y:Int):Bool:=decide (x<=y)
def cV(y:Int)(x z:Nat)(u:Prop):=cF y x/\z<x/\u
def uN(x:LR):=x.i<x.d.n/\x.d.n<100000/\x.len<=64/\x.r+x.len<=x.n/\x.d.calls<1000000000000
def dX(x y:Nat)(z:Prop):=cV (af x) y (0+aA x) z
def GK(x y:bA)(z:Nat->Nat->Value):=ah (af x.calls)->aS x.calls/\Exists (ay (aV (sX x.n y (af x.calls+(1:Int)) y z True True)))
theorem GL:fnBody (Y Tryz.prog) [] 81 p5 fun _=>[]:=fnBody.of (p :=
 ∀x:LR,uN x->iM (aH (af x.i) 0) (Exists (ay ((4:Int)=0/\iY x.d (me x) (True/\True)))) (cC (af x.d.n) (af x.i)) (aY 64 x.len (Exists (ay ((1:Int)=0/\iY x.d (me x) (True/\True)))) (cF (af x.i) x.d.n/\0<64/\0+aA x.i<x.d.n/\x.r+x.len<=x.n/\dX x.i x.d.n (GK x.d (me x) (kq (BC (fe x.d) (0+aA x.i) 0 (min x.len 64) fun y z=>fM (x.src (x.r+y))) (0+aA x.i) 128 (bD (dR true))))))) (by kernel_rfl) (by
 delta az aK ah aA aD cF aH af bD fM aC aX bq bV aW iM dL me aV ay aS cC ag aY cV sX uN dX dR GK
 try dsimp -iota -proj only
 intro a h;obtain⟨h1,h2,h3,h4,h5⟩:=h;have e1:decide ((a.i:Int)<0)=false:=by simp
 have e2:decide ((a.d.n:Int)<=a.i)=false:=by simp;omega
 have e3:decide ((64:Int)<a.len)=false:=by simp;omega
 simp only[e1,e2,e3,Nat.zero_add,Int.toNat_natCast,bR];refine⟨fun e=>(by cases e),fun _=>⟨fun e=>(by cases e),fun _=>⟨fun e=>(by cases e),fun _=>⟨by omega,by omega,by omega,by omega,by omega,by omega,fun _=>⟨by omega,(),(by trivial),⟨(by trivial),(by trivial),(by trivial)⟩,(by trivial),⟨Nat.le_refl _,⟨fun i hi j hj=>?_⟩⟩,trivial,trivial⟩⟩⟩⟩⟩;rw[BM,show min a.len 64=a.len by omega];simp only[fe,gu,BC,bP,List.length_singleton];by_cases h6:i=a.i
 ·subst h6;by_cases g1:j<64
  ·by_cases g2:j<a.len
   ·simp[g1,g2,show ¬(128<=j)by omega]
   ·simp[g1,g2,show ¬(128<=j)by omega]
  ·by_cases g3:j<128
   ·simp[g1,g3,show ¬(128<=j)by omega,show ¬(j<a.len)by omega]
   ·simp[g1,g3,show j=128 by omega]
 ·simp[h6])
def gv(d:bA):bA:=⟨d.n,d.now,d.now,fun _=>false,d.calls+1⟩
def jX(d:bA)(i:Nat):bA:=⟨d.n,d.now,fun r j=>if r<i then d.now r j else d.E8 r j,fun r=>if r<i then false else d.loose r,d.calls⟩
noncomputable def jN:cE where
 α:=bA
 β:=Unit
 m:=2
 m':=2
 pre:=fun d=>d.n<100000/\d.calls<1000000000000
 args:=fun a=>[.a (.ptr 0 0 0 0)]
 hp:=fun d=>gJ 0 1 d
 ro:=fun _=>[]
 post:=fun _ _=>True
 res:=fun _ _=>.a (.lit .i64 0)
 cZ:=fun d _=>gJ 0 1 (gv d)
def X8(d:bA):An:=.flat 4 Nat (fun s i=>(s.at_ (s.fu (s.tg 0) 0) (.arr 158 AX d.n (fe (jX d i)))).int 11 i) (fun _ i=>i<=d.n) (fun _ i=>d.n-i)
def gz(x y:Nat)(z u:Prop):=aY (af x) y (dX x y z) u
def bN(x:Prop):=bE false x
def kE(x:bA):=x.n<100000/\x.calls<1000000000000
def ga(x y:Nat)(z u:Prop):=x<=y->gz x y z u
def mQ(x:Prop):=bN (aV (ag x))
theorem GM:fnBody (Y Tryz.prog) [] 169 jN fun d=>[(169,[X8 d],[])]:=fnBody.of (p :=
 ∀x:bA,kE x->(∃y:Nat,aF y (bu x.n/\mQ (bG x.n x.n/\bu x.calls/\aK x.n x.n 129 (fe x) (fe (jX x y))/\y<=x.n/\True)))/\∀y:Nat,ga y x.n (dX y x.n (dX y x.n (dz y fun z=>bu x.n/\mQ (bG x.n x.n/\bu x.calls/\aK x.n x.n 129 (kq (kq (fe (jX x y)) (0+aA y) 64 (List.map (fun(u:Nat)=>fM ((jX x y).now (0+aA y) u)) (List.range 64))) (0+aA y) 128 (bD gm)) (fe (jX x z))/\bU z x.n y)))) (GK x (gv x) (fe (jX x y)))) (by kernel_rfl) (by
 delta az aK ah b8 aA aD bE cF aH af bD fM aC aX bq bV aW gz bN bG dz dL bU kE aV ay aS gm aF ag aY cV sX br ga bu dX dR mQ GK
 try dsimp -iota -proj only
 intro d h;obtain⟨h1,h2⟩:=h;simp only[Nat.zero_add,Int.toNat_natCast,bR];refine⟨⟨0,(by trivial),(by trivial),(by trivial),(by trivial),(by trivial),⟨(by trivial),(by trivial),(by trivial)⟩,(by trivial),⟨Nat.le_refl _,⟨fun i hi j hj=>?_⟩⟩,by omega,trivial⟩,fun k hk=>⟨fun c1=>?_,fun c1 _=>?_⟩⟩
 ·simp only[fe,jX,Nat.not_lt_zero,if_false]
 ·have hk:k<d.n:=by simpa using c1
  refine⟨by omega,by omega,by omega,by omega,by omega,by omega,by omega,k+1,by omega,(by trivial),(by trivial),(by trivial),(by trivial),⟨(by trivial),(by trivial),(by trivial)⟩,(by trivial),⟨Nat.le_refl _,⟨fun i hi j hj=>?_⟩⟩,by omega,by omega⟩;refine Eq.trans (b:=kq (kq (fe (jX d k)) k 64 ((List.range 64).map fun j=>.int .u8 ((jX d k).now k j))) k 128 [.bool false] i j) rfl ?_;rw[BM,BM];simp only[List.length_singleton,List.length_map,List.length_range];by_cases h6:i=k
  ·subst h6;by_cases g1:j<64
   ·simp[fe,jX,g1,show ¬(128<=j)by omega,show ¬(64<=j)by omega]
   ·by_cases g3:j<128
    ·rw[if_neg (by omega),if_pos (by omega),SQ (by omega)];simp[fe,jX,g1,g3]
    ·simp[fe,jX,g1,g3,show j=128 by omega]
  ·rw[if_neg (by omega),if_neg (by omega)];simp only[fe,jX,show(i<k+1)=(i<k)by simp;omega]
 ·have hk:k=d.n:=by simp at c1;omega
  subst hk;refine⟨by omega,(),(by trivial),⟨(by trivial),(by trivial),(by trivial)⟩,(by trivial),⟨Nat.le_refl _,⟨fun i hi j hj=>?_⟩⟩,trivial,trivial⟩;have hi:i<d.n:=hi;simp only[fe,jX,gv,hi,if_true])
structure RdA where
 d:bA
 i:Nat
noncomputable def CG:cE where
 α:=RdA
 β:=Nat
 m:=2
 m':=3
 pre:=fun a=>a.i<a.d.n/\a.d.n<100000
 args:=fun a=>[.a (.ptr 0 0 0 0),.a (.int .i64 a.i)]
 hp:=fun _=>[]
 ro:=fun a=>gJ 0 1 a.d
 post:=fun _ c=>64<=c
 res:=fun _ c=>.mG [.a (.slc 2 0 1 64 c),.a (.lit .i64 0)]
 cZ:=fun a c=>[(2,.arr 5 [.int .u8] 64 (bP (a.d.now a.i)))]
def CH(x:Nat)(z u:Int):=∃y:Nat,(0=x/\0=y)/\z=u/\x=0/\x<=y/\True
def uO(x:Nat->Nat->Value):Nat->Nat->Value:=aZ (aO 1 []) 0 0 x
theorem JQ:fnBody (Y Tryz.prog) [] 201 CG fun _=>[]:=fnBody.of (p :=
 ∀x:RdA,x.i<x.d.n/\x.d.n<100000->iM (aH (af x.i) 0) (CH 64 4 0) (cC (af x.d.n) (af x.i)) (cF (af x.i) x.d.n/\0<64/\0<=0/\0+aA x.i<x.d.n/\64<=140737488355328/\∀y:Nat,64<=y->y<=aq->(64<=0->y=0)->∃z:Nat,b8 64 (y=z)/\aV (aK 64 64 1 (uO fun u v=>fe x.d (0+aA x.i) (0+u)) (bP (x.d.now x.i))/\64<=z/\True))) (by kernel_rfl) (by
 delta az aK b8 aA aD cF aH af aC aX bq aW iM aV cC ag CH uO
 try dsimp -iota -proj only
 intro a h;obtain⟨h1,h2⟩:=h;have e1:decide ((a.i:Int)<0)=false:=by simp
 have e2:decide ((a.d.n:Int)<=a.i)=false:=by simp;omega
 simp only[e1,e2,Nat.zero_add,Int.toNat_natCast];refine⟨fun e=>(by cases e),fun _=>⟨fun e=>(by cases e),fun _=>⟨by omega,by omega,by omega,by omega,by omega,fun cap hc1 hc2 hc3=>⟨cap,⟨(by trivial),(by trivial),(by trivial)⟩,(by trivial),⟨Nat.le_refl _,⟨fun i hi j hj=>?_⟩⟩,hc1,trivial⟩⟩⟩⟩;simp only[aZ,bP,Nat.not_lt_zero,if_false,Nat.sub_zero,fe,if_pos hi])
theorem CI:au (Y Tryz.prog).G.X 12 BL:=aU fL LQ trivial
theorem pT:au (Y Tryz.prog).G.X 81 p5:=aU fL GL trivial
theorem iN:au (Y Tryz.prog).G.X 169 jN:=aU fL GM trivial
theorem JR:au (Y Tryz.prog).G.X 201 CG:=aU fL JQ trivial
def cH(x:Int):List Value:=[.int .u8 x]
def vS:Nat->Nat->List Int
 |0,u=>[(u:Int)]
 |k+1,u=>if u<128 then[(u:Int)]else((u%128+128:Nat):Int)::vS k (u/128)
theorem vT:∀(k u:Nat),1<=(vS k u).length/\(vS k u).length<=k+1
 |0,u=>by simp[vS]
 |k+1,u=>by
  unfold vS;split
  ·simp
  ·have:=vT k (u/128);simp only[List.length_cons];omega
theorem Zn(x:Nat):dI .or .u8 (uw .u8 x) 128=((x%128+128:Nat):Int):=by
 have h:∀y:Fin 256,dI .or .u8 (y.1:Int) 128=((y.1%128+128:Nat):Int):=by decide +kernel
 have e:uw .u8 (x:Int)=((x%256:Nat):Int):=by simp only[uw];omega
 have:=h ⟨x%256,by omega⟩;rw[e,this];simp only;omega
def vi(n:Int):List Int:=vS 9 (2*n.toNat)
def jv(t:Nat)(l:List Int):List (Nat×Chunk):=[(t,.arr 5 [.int .u8] l.length (aa cH l))]
def S.bytes(s:S)(slot:Nat)(l:List Int)(cap:Nat):S:=((s.put (s.hp.del (s.tg slot))).new (.arr 5 [.int .u8] l.length (aa cH l))).set slot (.a (.slc s.nx 0 1 l.length cap))
structure AY where
 l:List Int
 cap:Nat
 n:Int
noncomputable def On:cE where
 α:=AY
 β:=Nat
 m:=1
 m':=2
 pre:=fun a=>a.l.length<100000/\0<=a.n/\a.n<4611686018427387904
 args:=fun a=>[.a (.slc 0 0 1 a.l.length a.cap),.a (.int .i64 a.n)]
 hp:=fun a=>jv 0 a.l
 ro:=fun _=>[]
 post:=fun _ _=>True
 res:=fun a c=>.a (.slc 1 0 1 (a.l++vi a.n).length c)
 cZ:=fun a c=>jv 1 (a.l++vi a.n)
structure JS where
 l:List Int
 u:Nat
 k:Nat
 cap:Nat
def Zo(a:AY):An:=.flat 4 JS (fun s x=>(S.bytes s 0 x.l x.cap).set 5 (.a (.int .u64 x.u))) (fun _ x=>x.l++vS x.k x.u=a.l++vi a.n/\x.u<128^(x.k+1)/\x.k<=9) (fun _ x=>x.u)
def ai(x:List Int):Nat:=x.length
def gK(y z v u:Nat)(w:Nat->Prop):=(y+z)*v<=140737488355328/\∀x:Nat,y+z<=x->x<=aq->(y+z<=u->x=u)->w x
def ct(x y:List Int)(z:Int->List Value):=aK (ai x) (ai y) 1 (aa z y) (aa z x)
def jR(x:Nat)(y:List Value):Nat->Nat->Value:=fun(z u:Nat)=>aO x y (0+z) u
def lU(z x y:Nat)(u:Nat->Nat->Value)(v:List Value)(w:Nat->Nat->Value):=aK z (x+1) y (aZ u 0 x (jR y v)) w
def gG(x y z:Nat)(u:Nat->Prop):=0+x<=x/\1<=1/\gK x 1 y z fun v=>u v
def cT(x y:List Int)(z u:Nat):=ag (ai x=ai y/\z=u)
def GN(x:JS)(y:AY):=x.l++vS x.k x.u=y.l++vi y.n/\x.u<128^(x.k+1)/\x.k<=9
def uP(x:Nat):List Value:=bD (fM (mP (af x)))
def LS(w:Int)(y:AY):=(∃x:JS,w=af x.u/\cT y.l x.l y.cap x.cap/\bE (aH y.n 0) (aD y.n/\ct x.l y.l cH/\GN x y/\True))/\∀x:JS,GN x y->aY 127 x.u (gG (ai x.l) 1 x.cap fun v=>(0:Int)<=7/\∃z:JS,af x.u/(128:Int)=af z.u/\ag (ai x.l+1=ai z.l/\v=z.cap)/\bE (aH y.n 0) (aD y.n/\lU (ai z.l) (ai x.l) 1 (aa cH x.l) (bD (fM (dI Go.BinOp.or .u8 (mP (af x.u)) (128:Int)))) (aa cH z.l)/\GN z y/\z.u<x.u)) (gG (ai x.l) 1 x.cap fun v=>∃z:Nat,ag (ai x.l+1=ai (y.l++vi y.n)/\v=z)/\bl (lU (ai (y.l++vi y.n)) (ai x.l) 1 (aa cH x.l) (uP x.u) (aa cH (y.l++vi y.n))))
def mR(x y:Int):Int:=dI Go.BinOp.xor .u64 x y
def zq(x:AY):=ai x.l<100000/\bq x.n 4611686018427387904
theorem SR:fnBody (Y Tryz.prog) [] 200 On fun a=>[(200,[Zo a],[])]:=fnBody.of (p :=
 ∀x:AY,zq x->(0:Int)<=1/\az (aH x.n 0) (LS (mR 18446744073709551615 (cM (cM x.n*(2:Int)))) x) (LS (cM (cM x.n*(2:Int))) x)) (by kernel_rfl) (by
 delta az ai aK aD bE gK aH af bD fM aC bq bV aW ct lU gG LS cM ag aY mR cT bl mP GN zq jR uP
 try dsimp -iota -proj only
 rintro⟨l,cap,n⟩ ⟨h1,h2,h3⟩;dsimp only at h1 h2 h3 ⊢;have e0:decide (n<0)=false:=by simp;omega
 have e1:uw .u64 (uw .u64 n*2)=((2*n.toNat:Nat):Int):=by simp only[uw];omega
 have hv:=vT 9 (2*n.toNat);rw[e0,e1];refine⟨by omega,fun e=>(by cases e),fun _=>⟨⟨⟨l,2*n.toNat,9,cap⟩,?_⟩,fun x hx=>?_⟩⟩
 ·dsimp only
  and_intros<;>first|trivial|exact ak.refl _ _ _|exact Nat.le_refl _|(simp only[vi])|omega|skip
 ·obtain⟨l',u,k,cap'⟩:=x;obtain⟨g1,g2,g3⟩:=hx;dsimp only at g1 g2 g3 ⊢;have hl:=congrArg List.length g1;have hv2:=vT k u;simp only[List.length_append,vi]at hl;refine⟨fun c1=>⟨by omega,by omega,by omega,fun c hc1 hc2 hc3=>⟨by omega,⟨l'++[((u%128+128:Nat):Int)],u/128,k-1,c⟩,?_⟩⟩,fun c1=>⟨by omega,by omega,by omega,fun c hc1 hc2 hc3=>⟨c,?_⟩⟩⟩
  ·have c1:127<u:=by simp at c1;omega
   obtain⟨k',rfl⟩:∃k',k=k'+1:=⟨k-1,by
    by_cases hk:k=0
    ·subst hk;simp at g2;omega
    ·omega⟩
   have g1':(l'++[((u%128+128:Nat):Int)])++vS k' (u/128)=l++vi n:=by
    rw[<- g1,List.append_assoc];congr 1;rw[show vS (k'+1) u=((u%128+128:Nat):Int)::vS k' (u/128)from if_neg (by omega)];rfl
   have g4:u/128<128^(k'+1):=by
    rw[Nat.pow_succ]at g2;exact Nat.div_lt_of_lt_mul (by rw[Nat.mul_comm];exact g2)
   simp only[Nat.add_sub_cancel]
   and_intros<;>first|trivial|with_reducible rfl|exact g1'|exact g4|omega|(simp;done)|skip
   refine .push rfl (by simp) ?_;show[_]=[_]
   simp only[aO,cH,Nat.add_zero,Nat.zero_mul,List.getD_cons_zero,Zn]
  ·have c1:u<128:=by simp at c1;omega
   have e5:vS k u=[(u:Int)]:=by
    cases k with
    |zero=>rfl
    |succ k=>exact if_pos (by simp at c1;omega)
   rw[e5]at g1;rw[<- g1]
   and_intros<;>first|trivial|with_reducible rfl|omega|(simp;done)|skip
   refine .push rfl (by simp) ?_;show[_]=[_]
   simp only[aO,cH,Nat.add_zero,Nat.zero_mul,List.getD_cons_zero,uw];rw[Int.emod_eq_of_lt (by omega) (by omega)])
theorem iR(n:Int):1<=(vi n).length/\(vi n).length<=10:=vT 9 _
theorem JT:au (Y Tryz.prog).G.X 200 On:=aU fL SR trivial
structure aB where
 key:ByteArray
 val:ByteArray
 e:Int
 gone:Bool
 deriving Inhabited
def LU:List CK:=[.str,.str,.int .i64,.bool]
def kY(x:aB):List Value:=[.string x.key,.string x.val,.int .i64 x.e,.bool x.gone]
def CJ(x:aB):List A:=[.str x.key,.str x.val,.int .i64 x.e,.bool x.gone]
def cN(k:ByteArray):Bool:=!decide (k=ByteArray.mk #[])&&decide (k.size<=40)
def gf(x:aB):Bool:=cN x.key&&decide (x.val.size<=200)&&decide (0<=x.e)&&decide (x.e<=1099511627776)&&(!x.gone||decide (x.val=ByteArray.mk #[])&&decide (x.e=0))
def uQ(x:aB)(now:Int):Bool:=gf x&&!x.gone&&(decide (x.e=0)||decide (now<x.e))
noncomputable def LV:cE where
 α:=ByteArray
 β:=Unit
 m:=0
 m':=0
 pre:=fun _=>True
 args:=fun k=>[.a (.str k)]
 hp:=fun _=>[]
 ro:=fun _=>[]
 post:=fun _ _=>True
 res:=fun k _=>.a (.bool (cN k))
 cZ:=fun _ _=>[]
def cO:ByteArray:=(ByteArray.mk #[])
def bh(x:ByteArray):Nat:=x.size
def fC(x:Bool)(y z:Prop):=false=x/\y/\z
def fD(x:Bool):Unit->Prop:=ay (fC x True True)
def bg(x:Bool):Bool:=!x
def iA(x y:ByteArray):Bool:=decide (x=y)
theorem Wd:fnBody (Y Tryz.prog) [] 86 LV fun _=>[]:=fnBody.of (p :=
 ∀x:ByteArray,True->az (bg (iA x cO)) (Exists (bI (cC (af (bh x)) 40=cN x))) (Exists (fD (cN x)))) (by kernel_rfl) (by
 delta az cO af bh aC fC aW bI ay cC fD bg bl iA
 intro k _;refine⟨fun h=>⟨(),?_,trivial,trivial⟩,fun h=>⟨(),?_,trivial,trivial⟩⟩
 ·simp only[cN,h,Bool.true_and];exact decide_eq_decide.2 (by omega)
 ·simp only[cN,h];rfl)
noncomputable def Bt:cE where
 α:=aB
 β:=Unit
 m:=0
 m':=0
 pre:=fun _=>True
 args:=fun x=>[.agg (CJ x)]
 hp:=fun _=>[]
 ro:=fun _=>[]
 post:=fun _ _=>True
 res:=fun x _=>.a (.bool (gf x))
 cZ:=fun _ _=>[]
def aI(x:Prop):=∀y:Unit,True->x
def cQ(x:Prop):=True/\aI x
def rA(x y:Int)(z u:Prop):=ah x->az (aH x y) z (ah x->u)
def mg(x:Bool):=Exists (bI (true=x))
theorem GO:fnBody (Y Tryz.prog) [(86,LV)] 96 Bt fun _=>[]:=fnBody.of (p :=
 ∀x:aB,True->∃y:ByteArray,x.key=y/\cQ (iM (bg (cN y)) (Exists (fD (gf x))) (aH 200 (af (bh x.val))) (rA x.e 0 (Exists (fD (gf x))) (az (aH 1099511627776 x.e) (Exists (fD (gf x))) (az (bg x.gone) (mg (gf x)) (az (iA x.val cO) (ah x.e->Exists (bI ((x.e == (0:Int))=gf x))) (Exists (fD (gf x))))))))) (by kernel_rfl) (by
 delta az ah cO aH af bh aC fC aW iM aI bI ay fD bg bl iA cQ rA mg
 intro x _;have hv:x.val=ByteArray.mk #[]->x.val.size=0:=fun e=>by rw[e];rfl
 refine⟨x.key,rfl,trivial,fun _ _=>?_⟩
 repeat' (first|intro _|apply And.intro|apply Exists.intro ())
 all_goals(try exact trivial)
 all_goals(try simp only[Bool.not_eq_true',Bool.not_eq_false',decide_eq_true_eq,decide_eq_false_iff_not]at *)
 all_goals(simp only[gf];rw[Bool.eq_iff_iff];simp only[Bool.and_eq_true,Bool.or_eq_true,Bool.not_eq_true',decide_eq_true_eq,beq_iff_eq];grind))
structure Oo where
 x:aB
 now:Int
noncomputable def SS:cE where
 α:=Oo
 β:=Unit
 m:=0
 m':=0
 pre:=fun _=>True
 args:=fun a=>[.agg (CJ a.x),.a (.int .i64 a.now)]
 hp:=fun _=>[]
 ro:=fun _=>[]
 post:=fun _ _=>True
 res:=fun a _=>.a (.bool (uQ a.x a.now))
 cZ:=fun _ _=>[]
def o6(y z:Bool)(u x:Prop):=az y (az z u x) x
def qs(x y:aB)(z:Prop):=x.key=y.key/\x.val=y.val/\x.e=y.e/\x.gone=y.gone/\z
theorem SU:fnBody (Y Tryz.prog) [(96,Bt)] 185 SS fun _=>[]:=fnBody.of (p :=
 ∀y:Oo,True->∃z:aB,qs y.x z (cQ (o6 (gf z) (bg y.x.gone) (ah y.x.e->az (y.x.e == (0:Int)) (mg (uQ y.x y.now)) (ah y.x.e->Exists (bI (aH y.now y.x.e=uQ y.x y.now)))) (Exists (fD (uQ y.x y.now)))))) (by kernel_rfl) (by
 delta o6 az ah aH aC fC aW aI bI qs ay fD bg bl cQ mg
 rintro⟨x,now⟩ _;refine⟨x,rfl,rfl,rfl,rfl,trivial,fun _ _=>?_⟩;dsimp only
 repeat' (first|intro _|apply And.intro|apply Exists.intro ())
 all_goals(try exact trivial)
 all_goals(try simp only[Bool.not_eq_true',Bool.not_eq_false',decide_eq_true_eq,decide_eq_false_iff_not]at *)
 all_goals(simp only[uQ];rw[Bool.eq_iff_iff];simp only[Bool.and_eq_true,Bool.or_eq_true,Bool.not_eq_true',decide_eq_true_eq,beq_iff_eq];(try simp only[Bool.not_eq_true']at *);grind))
theorem p6{α:Type}[Inhabited α]{l:List α}{i:Nat}(h:i<l.length):l.take (i+1)=l.take i++[gl l i]:=by
 rw[bT h,List.take_add_one,List.getElem?_eq_getElem h];rfl
theorem flatMap_push{α β:Type}[Inhabited α]{l:List α}{f:α->List β}{i:Nat}(h:i<l.length):(l.take (i+1)).flatMap f=(l.take i).flatMap f++f (gl l i):=by
 rw[p6 h,List.flatMap_append];simp
theorem uR{α β:Type}{l:List α}{f:α->List β}{i:Nat}(h:¬i<l.length):(l.take i).flatMap f=l.flatMap f:=by
 rw[List.take_of_length_le (by omega)]
theorem JU{α β:Type}[Inhabited α]{l:List α}{f:α->List β}{m:Nat}(h:∀i,i<l.length->(f (gl l i)).length<=m):(l.flatMap f).length<=l.length*m:=by
 induction l with
 |nil=>simp
 |cons x r ih =>
  have h0:=h 0 (by simp);have:=ih fun i hi=>h (i+1) (by simp;omega);simp only[List.flatMap_cons,List.length_append,List.length_cons,Nat.succ_mul]at *;simp only[gl,List.getD_cons_zero]at h0;omega
theorem kZ{α β:Type}[Inhabited α]{l:List α}{f:α->List β}{m:Nat}(h:∀i,i<l.length->(f (gl l i)).length<=m)(k:Nat)(hk:k<=l.length):((l.take k).flatMap f).length<=k*m:=by
 have:=JU (l:=l.take k) (f:=f) (m:=m) fun i hi=>by
  simp at hi;have e:gl (l.take k) i=gl l i:=by unfold gl;rw[List.getD_eq_getElem?_getD,List.getElem?_take_of_lt (by omega),List.getD_eq_getElem?_getD]
  rw[e];exact h i (by omega)
 simpa[Nat.min_eq_left hk]using this
def Jg(t:ByteArray):List Int:=t.data.toList.map fun b=>(b.toNat:Int)
def encI(x:Int):List Value:=[.int .i64 x]
def kF(x:ByteArray):List Value:=[.string x]
def iw(ns:List Int):List Int:=ns.flatMap vi
def eV(ts:List ByteArray):List Int:=ts.flatMap fun t=>vi t.size++Jg t
theorem je(t:ByteArray):(Jg t).length=t.size:=by rw[Jg,List.length_map];rfl
theorem CL(t:ByteArray){m:Nat}(h:m<=t.size):ak m 1 (nO t) (aa cH (Jg t)):=by
 refine⟨fun i hi j hj=>?_⟩;have hj:j=0:=by omega
 have hs:t.size=t.data.size:=rfl;have hi':i<t.data.size:=by omega
 subst hj;simp only[nO,aa,cH,List.getD_cons_zero,Jg,gl];congr 1;simp[List.getD_eq_getElem?_getD,Array.getD_eq_getD_getElem?,Array.getElem?_eq_getElem hi']
structure mh where
 l:List Int
 cap:Nat
 ns:List Int
 SX:Nat
noncomputable def CM:cE where
 α:=mh
 β:=Nat
 m:=2
 m':=3
 pre:=fun a=>a.l.length<10000/\a.ns.length<100/\∀i,i<a.ns.length->0<=gl a.ns i/\gl a.ns i<4611686018427387904
 args:=fun a=>[.a (.slc 0 0 1 a.l.length a.cap),.a (.slc 1 0 1 a.ns.length a.SX)]
 hp:=fun a=>jv 0 a.l
 ro:=fun a=>[(1,.arr 2 [.int .i64] a.ns.length (aa encI a.ns))]
 post:=fun _ _=>True
 res:=fun a c=>.a (.slc 2 0 1 (a.l++iw a.ns).length c)
 cZ:=fun a c=>jv 2 (a.l++iw a.ns)
def X9(a:mh):An:=.flat 2 (Nat×Nat) (fun s x=>(S.bytes s 0 (a.l++iw (a.ns.take x.1)) x.2).int 9 x.1) (fun _ x=>x.1<=a.ns.length) (fun _ x=>a.ns.length-x.1)
def iB(x:Nat×Nat)(z:Nat×Nat->Prop):=aS x.fst/\∃y:Nat×Nat,br x.fst y.fst/\z y
def mS(x y:List Int)(z u:Nat)(v:Int->List Value)(w s:Prop):=cT x y z u/\ct y x v/\w/\s
def sY(x y:Nat)(z:Prop):=uJ (bu x) (bG x y) z
def xk(x y:List Int)(z:Nat)(u:Nat×Nat)(v w:Nat)(s t:Prop):=cT x y z u.snd/\sY v w (ct y x cH/\s/\t)
def zu(x:mh):=ai x.l<10000/\ai x.ns<100/\∀y:Nat,y<ai x.ns->bq (gl x.ns y) 4611686018427387904
def zv(x:mh)(y:Nat×Nat):List Int:=x.l++iw (List.take y.fst x.ns)
theorem PX:fnBody (Y Tryz.prog) [(200,On)] 165 CM fun a=>[(165,[X9 a],[])]:=fnBody.of (p :=
 ∀x:mh,zu x->(∃y:Nat×Nat,aF y.fst (xk x.l (zv x y) x.cap y (ai x.ns) x.SX (ct x.ns x.ns encI) (y.fst<=ai x.ns/\True)))/\∀y:Nat×Nat,ga y.fst (ai x.ns) (ah (gl x.ns (0+aA y.fst))->∃z:AY,cT (zv x y) z.l y.snd z.cap/\gl x.ns (0+aA y.fst)=z.n/\ct z.l (zv x y) cH/\zq z/\∀v:Nat,True->iB y fun u=>xk (z.l++vi z.n) (zv x u) v u (ai x.ns) x.SX (ct x.ns x.ns encI) (bU u.fst (ai x.ns) y.fst)) (∃w:Nat,mS (zv x y) (x.l++iw x.ns) y.snd w cH True True)) (by kernel_rfl) (by
 delta az ai aK ah b8 aA aD cF aH af aC aX bq uJ aW ct gz bG bU iB mS aS xk aF ag aY cV br cT ga bu dX zu zv zq sY
 try dsimp -iota -proj only
 rintro⟨l,cap,ns,SX⟩ ⟨h1,h2,h3⟩;dsimp only at h1 h2 h3 ⊢;have e0:iw (ns.take 0)=[]:=rfl;refine⟨⟨(0,cap),?_⟩,fun x hx=>?_⟩
 ·dsimp only;rw[e0,List.append_nil]
  and_intros<;>first|trivial|with_reducible rfl|exact ak.refl _ _ _|exact Nat.le_refl _|omega
 ·obtain⟨i,c⟩:=x;have hx:i<=ns.length:=hx;have ln:(iw (ns.take i)).length<=i*10:=kZ (fun j _=>(iR _).2) i hx;dsimp only;simp only[Nat.zero_add,Int.toNat_natCast,bR];refine⟨fun c1=>?_,fun c1=>?_⟩
  ·have hi:i<ns.length:=by simpa using c1
   have hs:iw (ns.take (i+1))=iw (ns.take i)++vi (gl ns i):=flatMap_push hi;have h3:=h3 i hi;refine⟨by omega,by omega,fun _=>⟨⟨l++iw (ns.take i),c,gl ns i⟩,?_⟩⟩;dsimp only;rw[List.append_assoc,<- hs]
   (repeat' (first|apply And.intro|(intro _)))<;>first|trivial|with_reducible rfl|exact ak.refl _ _ _|exact Nat.le_refl _|omega|(simp;omega)|skip
   apply Exists.intro ((i+1,_):Nat×Nat)
   (repeat' (first|apply And.intro|(intro _)))<;>first|trivial|with_reducible rfl|exact ak.refl _ _ _|exact Nat.le_refl _|omega
  ·have hi:¬i<ns.length:=by simpa using c1
   rw[show iw (ns.take i)=iw ns from uR hi];refine⟨c,?_⟩
   (repeat' (first|apply And.intro|(intro _)))<;>first|trivial|with_reducible rfl|exact ak.refl _ _ _|exact Nat.le_refl _|omega)
structure pU where
 l:List Int
 cap:Nat
 ts:List ByteArray
 SY:Nat
noncomputable def GP:cE where
 α:=pU
 β:=Nat
 m:=2
 m':=3
 pre:=fun a=>a.l.length<10000/\a.ts.length<20/\∀i,i<a.ts.length->(gl a.ts i).size<=1000
 args:=fun a=>[.a (.slc 0 0 1 a.l.length a.cap),.a (.slc 1 0 1 a.ts.length a.SY)]
 hp:=fun a=>jv 0 a.l
 ro:=fun a=>[(1,.arr 9 [.str] a.ts.length (aa kF a.ts))]
 post:=fun _ _=>True
 res:=fun a c=>.a (.slc 2 0 1 (a.l++eV a.ts).length c)
 cZ:=fun a c=>jv 2 (a.l++eV a.ts)
def We(a:pU):An:=.flat 2 (Nat×Nat) (fun s x=>(S.bytes s 0 (a.l++eV (a.ts.take x.1)) x.2).int 9 x.1) (fun _ x=>x.1<=a.ts.length) (fun _ x=>a.ts.length-x.1)
def aR(x:List ByteArray):Nat:=x.length
def lI(x:List ByteArray):=dU (aR x) 1 (aa kF x)
def sZ(x:List ByteArray)(y:Nat):Nat:=bh (gl x (0+aA y))
def GQ(z x y:List Int)(u:List ByteArray)(v:Nat):=aK (ai z) (ai (x++y)+sZ u v) 1 (aZ (aa cH (x++y)) 0 (ai (x++y)) (nO (gl u (0+aA v)))) (aa cH z)
def mT(x:List Int):=0+ai x<=ai x
def xl(x:pU)(y:Nat×Nat):List Int:=x.l++eV (List.take y.fst x.ts)
def GR(x:pU):=ai x.l<10000/\aR x.ts<20/\∀y:Nat,y<aR x.ts->bh (gl x.ts y)<=1000
theorem LW:fnBody (Y Tryz.prog) [(200,On)] 166 GP fun a=>[(166,[We a],[])]:=fnBody.of (p :=
 ∀x:pU,GR x->(∃y:Nat×Nat,aF y.fst (xk x.l (xl x y) x.cap y (aR x.ts) x.SY (lI x.ts) (y.fst<=aR x.ts/\True)))/\∀y:Nat×Nat,ga y.fst (aR x.ts) (∃z:AY,cT (xl x y) z.l y.snd z.cap/\af (sZ x.ts y.fst)=z.n/\ct z.l (xl x y) cH/\zq z/\∀v:Nat,True->mT (z.l++vi z.n)/\gK (ai (z.l++vi z.n)) (sZ x.ts y.fst) 1 v fun w=>iB y fun u=>ag (ai (z.l++vi z.n)+sZ x.ts y.fst=ai (xl x u)/\w=u.snd)/\sY (aR x.ts) x.SY (GQ (xl x u) z.l (vi z.n) x.ts y.fst/\lI x.ts/\bU u.fst (aR x.ts) y.fst)) (∃z:Nat,mS (xl x y) (x.l++eV x.ts) y.snd z cH True True)) (by kernel_rfl) (by
 delta az ai aK ah b8 aA aD gK cF aH af aR bh aC aX bq uJ aW ct dU gz bG bU iB mS aS xk lI aF ag aY cV br GQ cT ga bu mT xl dX zq GR sY sZ
 try dsimp -iota -proj only
 rintro⟨l,cap,ts,SY⟩ ⟨h1,h2,h3⟩;dsimp only at h1 h2 h3 ⊢;have e0:eV (ts.take 0)=[]:=rfl;refine⟨⟨(0,cap),?_⟩,fun x hx=>?_⟩
 ·dsimp only;rw[e0,List.append_nil]
  and_intros<;>first|trivial|with_reducible rfl|exact ak.refl _ _ _|exact Nat.le_refl _|omega
 ·obtain⟨i,c⟩:=x;have hx:i<=ts.length:=hx;have ln:(eV (ts.take i)).length<=i*1010:=kZ (fun j hj=>by
   have:=h3 j hj;have:=(iR ((gl ts j).size:Nat)).2;rw[List.length_append,je];omega) i hx
  dsimp only;simp only[Nat.zero_add,Int.toNat_natCast,bR];refine⟨fun c1=>?_,fun c1=>?_⟩
  ·have hi:i<ts.length:=by simpa using c1
   have hs:eV (ts.take (i+1))=eV (ts.take i)++(vi (gl ts i).size++Jg (gl ts i)):=flatMap_push hi;have h3:=h3 i hi;have hv:=iR ((gl ts i).size:Nat);refine⟨by omega,by omega,⟨⟨l++eV (ts.take i),c,(gl ts i).size⟩,?_⟩⟩;dsimp only;have hl2:(l++eV (ts.take i)++vi (gl ts i).size).length+(gl ts i).size=(l++eV (ts.take (i+1))).length:=by
    rw[hs];simp only[List.length_append,je];omega
   have hr2:ak (l++eV (ts.take (i+1))).length 1 (aZ (aa cH (l++eV (ts.take i)++vi (gl ts i).size)) 0 (l++eV (ts.take i)++vi (gl ts i).size).length (nO (gl ts i))) (aa cH (l++eV (ts.take (i+1)))):=by
    rw[hs,<- List.append_assoc,<- List.append_assoc];refine .app rfl (.of_eq (by funext i;simp)) (CL _ (by simp only[List.length_append,je];omega))
   (repeat' (first|apply And.intro|(intro _)|apply Exists.intro ((i+1,_):Nat×Nat)))<;>first|trivial|with_reducible rfl|exact ak.refl _ _ _|exact Nat.le_refl _|exact hr2|exact hl2|exact Nat.le_of_eq hl2.symm|omega|(dsimp only;omega)|(simp only[List.length_append];omega)
  ·have hi:¬i<ts.length:=by simpa using c1
   rw[show eV (ts.take i)=eV ts from uR hi];refine⟨c,?_⟩
   (repeat' (first|apply And.intro|(intro _)))<;>first|trivial|with_reducible rfl|exact ak.refl _ _ _|exact Nat.le_refl _|omega)
def dm(x:aB):List Int:=eV [x.key,x.val]++iw [x.e,if x.gone then 1 else 0]
def dM(xs:List aB):List Int:=xs.flatMap dm
theorem qR{x:aB}(h:gf x=true):x.key.size<=40/\x.val.size<=200/\0<=x.e/\x.e<=1099511627776:=by
 simp only[gf,cN,Bool.and_eq_true,decide_eq_true_eq]at h;exact⟨h.1.1.1.1.2,h.1.1.1.2,h.1.1.2,h.1.2⟩
theorem E9{x:aB}(h:gf x=true):(dm x).length<=300:=by
 obtain⟨k1,k2,k3,k4⟩:=qR h;have a1:=(iR (x.key.size:Nat)).2;have a2:=(iR (x.val.size:Nat)).2;have a3:=(iR x.e).2;have a4:=(iR (if x.gone then 1 else 0)).2;simp only[dm,eV,iw,List.flatMap_cons,List.flatMap_nil,List.length_append,je,List.length_nil];omega
structure EA where
 xs:List aB
 cap:Nat
noncomputable def SZ:cE where
 α:=EA
 β:=Nat
 m:=1
 m':=2
 pre:=fun a=>1<=a.xs.length/\a.xs.length<20/\∀i,i<a.xs.length->gf (gl a.xs i)=true
 args:=fun a=>[.a (.slc 0 0 4 a.xs.length a.cap)]
 hp:=fun _=>[]
 ro:=fun a=>[(0,.arr 40 LU a.xs.length (aa kY a.xs))]
 post:=fun _ _=>True
 res:=fun a c=>.a (.slc 1 0 1 (dM a.xs).length c)
 cZ:=fun a c=>jv 1 (dM a.xs)
def aaa(a:EA):An:=.flat 3 (Nat×Nat) (fun s x=>((s.new (.arr 5 [.int .u8] (dM (a.xs.take x.1)).length (aa cH (dM (a.xs.take x.1))))).set 3 (.a (.slc s.nx 0 1 (dM (a.xs.take x.1)).length x.2))).int 9 x.1) (fun _ x=>x.1<=a.xs.length) (fun _ x=>a.xs.length-x.1)
def dV(x:Int):Value:=Value.int .i64 x
def bx(x:Int)(y:List Value):List Value:=bV (dV x) y
def bL(x:ByteArray):Value:=Value.string x
def zw(y:Nat)(x:mh)(z:Prop)(u:Int)(v:List Value)(w:Nat->Prop):=dL y (ai x.ns) y x.SX z 1 (aO 1 (bx u v)) (aa encI x.ns) (zu x/\∀s:Nat,True->w s)
def xm(x:Nat×Nat)(y:EA):List Int:=dM (List.take x.fst y.xs)
def CN(z:Nat×Nat)(x:EA)(w:Int):=∃y:pU,cT (xm z x) y.l z.snd y.cap/\dL 2 (aR y.ts) 2 y.SY (ct y.l (xm z x) cH) 1 (aO 1 (bV (bL (gl x.xs (0+aA z.fst)).key) (bD (bL (gl x.xs (0+aA z.fst)).val)))) (aa kF y.ts) (GR y/\∀s:Nat,True->∃u:mh,cT (y.l++eV y.ts) u.l s u.cap/\zw 2 u (ct u.l (y.l++eV y.ts) cH) (gl x.xs (0+aA z.fst)).e (bx w []) fun t=>iB z fun v=>xk (u.l++iw u.ns) (xm v x) t v x.xs.length x.cap (dU x.xs.length 4 (aa kY x.xs)) (bU v.fst x.xs.length z.fst))
def xo(x:EA):=1<=x.xs.length/\x.xs.length<20/\∀y:Nat,y<x.xs.length->aC (gf (gl x.xs y))
def zx(x:Nat):Nat->Prop:=fun(y:Nat)=>(0=x/\0=y)/\bl (x=0)
theorem Wg:fnBody (Y Tryz.prog) [(96,Bt),(165,CM),(166,GP)] 122 SZ fun a=>[(122,[aaa a],[])]:=fnBody.of (p :=
 ∀x:EA,xo x->(∃y:Nat×Nat,aF y.fst ((0=ai (xm y x)/\0=y.snd)/\sY x.xs.length x.cap (ai (xm y x)=0/\dU x.xs.length 4 (aa kY x.xs)/\y.fst<=x.xs.length/\True)))/\∀y:Nat×Nat,ga y.fst x.xs.length (∃z:aB,qs (gl x.xs (0+aA y.fst)) z (cQ (az (bg (gf z)) (Exists (zx (ai (dM x.xs)))) (az (gl x.xs (0+aA y.fst)).gone (ah (gl x.xs (0+aA y.fst)).e->(CN y x 1/\CN y x 1)/\CN y x 1) (ah (gl x.xs (0+aA y.fst)).e->(CN y x 0/\CN y x 0)/\CN y x 0))))) (∃z:Nat,mS (xm y x) (dM x.xs) y.snd z cH True True)) (by kernel_rfl) (by
 delta az ai aK ah bx b8 aA aD cF aH af aR bh bD aC dV aX bq uJ bV aW CN ct dU gz aI bG qs dL bL bU iB mS zw aS xk aF ag aY cV xo br cT bg ga bl bu dX cQ zu zx xm GR sY
 try dsimp -iota -proj only
 rintro⟨xs,cap⟩ ⟨h1,h2,h3⟩;dsimp only at h1 h2 h3 ⊢;have ei:∀k:Nat,List.flatMap dm (xs.take k)=dM (xs.take k):=fun _=>rfl;have ea:List.flatMap dm xs=dM xs:=rfl;simp only[ei,ea];have e0:dM (xs.take 0)=[]:=rfl;refine⟨⟨(0,0),?_⟩,fun x hx=>?_⟩
 ·dsimp only;rw[e0]
  and_intros<;>first|trivial|with_reducible rfl|exact ak.refl _ _ _|exact Nat.le_refl _|omega
 ·obtain⟨i,c⟩:=x;have hx:i<=xs.length:=hx;have ln:(dM (xs.take i)).length<=i*300:=kZ (fun j hj=>E9 (h3 j hj)) i hx;dsimp only;simp only[Nat.zero_add,Int.toNat_natCast,bR];refine⟨fun c1=>?_,fun c1=>?_⟩
  ·have hi:i<xs.length:=by simpa using c1
   have hs:dM (xs.take (i+1))=dM (xs.take i)++dm (gl xs i):=flatMap_push hi;have h3:=h3 i hi;obtain⟨k1,k2,k3,k4⟩:=qR h3;refine⟨by omega,by omega,⟨gl xs i,rfl,rfl,rfl,rfl,trivial,fun _ _=>?_⟩⟩;rw[h3];have eg:∀g:Bool,(gl xs i).gone=g->dM (xs.take i)++eV [(gl xs i).key,(gl xs i).val]++iw [(gl xs i).e,if g then 1 else 0]=dM (xs.take (i+1)):=fun g e=>by
    rw[hs,List.append_assoc];unfold dm;rw[e]
   have tl:(eV [(gl xs i).key,(gl xs i).val]).length<=300:=by
    have a1:=(iR ((gl xs i).key.size:Nat)).2;have a2:=(iR ((gl xs i).val.size:Nat)).2;simp only[eV,List.flatMap_cons,List.flatMap_nil,List.length_append,je,List.length_nil];omega
   have t2:∀k,k < [(gl xs i).key,(gl xs i).val].length->(gl [(gl xs i).key,(gl xs i).val] k).size<=1000:=fun k hk=>by
    match k,hk with
    |0,_=>show(gl xs i).key.size<=1000;omega
    |1,_=>show(gl xs i).val.size<=1000;omega
   have n2:∀g:Int,0<=g->g<=1->∀k,k < [(gl xs i).e,g].length->0<=gl [(gl xs i).e,g] k/\gl [(gl xs i).e,g] k<4611686018427387904:=fun g g0 g1 k hk=>by
    match k,hk with
    |0,_=>show 0<=(gl xs i).e/\(gl xs i).e<4611686018427387904;exact⟨k3,by omega⟩
    |1,_=>show 0<=g/\g<4611686018427387904;omega
   have r1:ak 2 1 (aO 1 [Value.string (gl xs i).key,Value.string (gl xs i).val]) (aa kF [(gl xs i).key,(gl xs i).val]):=.eo fun k hk=>by
    match k,hk with
    |0,_=>rfl
    |1,_=>rfl
   have r2:∀g:Int,ak 2 1 (aO 1 [Value.int .i64 (gl xs i).e,Value.int .i64 g]) (aa encI [(gl xs i).e,g]):=fun g=>.eo fun k hk=>by
    match k,hk with
    |0,_=>rfl
    |1,_=>rfl
   refine⟨fun e=>(by cases e),fun _=>⟨fun eg1=>?_,fun eg1=>?_⟩⟩
   ·have eg:=eg _ eg1;rw[if_pos rfl]at eg;intro _;have main:∀(P:pU->Nat->Prop),True:=fun _=>trivial
    repeat' (first
     |apply And.intro
     |(intro _)
     |apply Exists.intro (pU.mk (dM (xs.take i)) _ [(gl xs i).key,(gl xs i).val] 2)
     |apply Exists.intro (mh.mk (dM (xs.take i)++eV [(gl xs i).key,(gl xs i).val]) _ [(gl xs i).e,1] 2)
     |apply Exists.intro ((i+1,_):Nat×Nat))
    all_goals first|exact dg|exact r1|exact r2 _|exact t2 _ (by assumption)|exact(n2 1 (by omega) (by omega) _ (by assumption)).1|exact(n2 1 (by omega) (by omega) _ (by assumption)).2|omega|(simp only[List.length_append];omega)|(dsimp only;rw[eg];done)|(dsimp only;rw[eg];exact ak.refl _ _ _)|(dsimp only;rw[eg];exact Nat.le_refl _)|skip
   ·have eg:=eg _ eg1;rw[if_neg (by decide)]at eg;intro _
    repeat' (first
     |apply And.intro
     |(intro _)
     |apply Exists.intro (pU.mk (dM (xs.take i)) _ [(gl xs i).key,(gl xs i).val] 2)
     |apply Exists.intro (mh.mk (dM (xs.take i)++eV [(gl xs i).key,(gl xs i).val]) _ [(gl xs i).e,0] 2)
     |apply Exists.intro ((i+1,_):Nat×Nat))
    all_goals first|exact dg|exact r1|exact r2 _|exact t2 _ (by assumption)|exact(n2 0 (by omega) (by omega) _ (by assumption)).1|exact(n2 0 (by omega) (by omega) _ (by assumption)).2|omega|(simp only[List.length_append];omega)|(dsimp only;rw[eg];done)|(dsimp only;rw[eg];exact ak.refl _ _ _)|(dsimp only;rw[eg];exact Nat.le_refl _)|skip
  ·have hi:¬i<xs.length:=by simpa using c1
   rw[show dM (xs.take i)=dM xs from uR hi];refine⟨c,?_⟩
   (repeat' (first|apply And.intro|(intro _)))<;>first|trivial|with_reducible rfl|exact ak.refl _ _ _|exact Nat.le_refl _|omega)
theorem yu:au (Y Tryz.prog).G.X 86 LV:=aU fL Wd trivial
theorem qS:au (Y Tryz.prog).G.X 96 Bt:=aU fL GO ⟨yu,trivial⟩
theorem S0:au (Y Tryz.prog).G.X 185 SS:=aU fL SU ⟨qS,trivial⟩
theorem zy:au (Y Tryz.prog).G.X 165 CM:=aU fL PX ⟨JT,trivial⟩
theorem LX:au (Y Tryz.prog).G.X 166 GP:=aU fL LW ⟨JT,trivial⟩
theorem GS:au (Y Tryz.prog).G.X 122 SZ:=aU fL Wg ⟨qS,zy,LX,trivial⟩
theorem JV(a b:Nat)(ha:a<2^64)(hb:b<2^64):dI .or .u64 a b=((a ||| b:Nat):Int):=by
 have h:=Nat.or_lt_two_pow ha hb;have e:(BitVec.ofInt 64 (a:Int) ||| BitVec.ofInt 64 (b:Int)).toNat=a ||| b:=by
  rw[BitVec.toNat_or,BitVec.ofInt_natCast,BitVec.ofInt_natCast,BitVec.toNat_ofNat,BitVec.toNat_ofNat,Nat.mod_eq_of_lt ha,Nat.mod_eq_of_lt hb]
 show IntKind.u64.wrap ((BitVec.ofInt 64 (a:Int) ||| BitVec.ofInt 64 (b:Int)).toNat:Int)=_;rw[e];exact fA (by simp only[bR];omega)
theorem LY(a:Nat)(ha:a<2^64):dI .and .u64 a 1=((a%2:Nat):Int):=by
 have e:(BitVec.ofInt 64 (a:Int) &&& BitVec.ofInt 64 ((1:Nat):Int)).toNat=a%2:=by
  rw[BitVec.toNat_and,BitVec.ofInt_natCast,BitVec.ofInt_natCast,BitVec.toNat_ofNat,BitVec.toNat_ofNat,Nat.mod_eq_of_lt ha,Nat.mod_eq_of_lt (by decide),Nat.and_one_is_mod]
 show IntKind.u64.wrap ((BitVec.ofInt 64 (a:Int) &&& BitVec.ofInt 64 ((1:Nat):Int)).toNat:Int)=_;rw[e];exact fA (by simp only[bR];omega)
theorem Ya(c:Nat)(h:c<256):dI .and .u8 c 127=((c%128:Nat):Int):=by
 have h':∀y:Fin 256,dI .and .u8 (y.1:Int) 127=((y.1%128:Nat):Int):=by decide +kernel
 exact h' ⟨c,h⟩
theorem zz:∀(k m u:Nat),u<128^(m+1)->(vS k u).length<=m+1
 |0,_,_,_=>by simp[vS]
 |k+1,m,u,h=>by
  unfold vS;split
  ·simp
  ·cases m with
   |zero=>simp at h;omega
   |succ m =>
    have:=zz k m (u/128) (Nat.div_lt_of_lt_mul (by rw[Nat.mul_comm,<- Nat.pow_succ];exact h));simp only[List.length_cons];omega
theorem S1:∀(k u i:Nat),u<128^(k+1)->i<(vS k u).length ->
 (i+1<(vS k u).length->128<=u/128^i/\gl (vS k u) i=((u/128^i%128+128:Nat):Int))/\(i+1=(vS k u).length->u/128^i<128/\gl (vS k u) i=((u/128^i:Nat):Int)/\(0<i->0<u/128^i))
 |0,u,i,h,hi=>by
  simp[vS]at hi;subst hi;simp[vS,gl]at h ⊢;omega
 |k+1,u,i,h,hi=>by
  unfold vS at hi ⊢;by_cases hu:u<128
  ·rw[if_pos hu]at hi ⊢;simp at hi;subst hi;simp[gl];omega
  ·rw[if_neg hu]at hi ⊢;cases i with
   |zero =>
    have:=(vT k (u/128)).1;rw[Nat.pow_zero,Nat.div_one];refine⟨fun _=>⟨by omega,rfl⟩,fun hh=>?_⟩;simp only[List.length_cons]at hh;omega
   |succ i =>
    have e:u/128^(i+1)=u/128/128^i:=by rw[Nat.pow_succ,Nat.mul_comm,Nat.div_div_eq_div_mul]
    have hi':i<(vS k (u/128)).length:=by simpa using hi
    obtain⟨h1,h2⟩:=S1 k (u/128) i (Nat.div_lt_of_lt_mul (by rw[Nat.mul_comm,<- Nat.pow_succ];exact h)) hi';have eg:∀x:Int,gl (x::vS k (u/128)) (i+1)=gl (vS k (u/128)) i:=fun x=>by simp[gl]
    rw[e,eg];simp only[List.length_cons,Nat.add_lt_add_iff_right,Nat.add_right_cancel_iff];refine⟨h1,fun hh=>⟨(h2 hh).1,(h2 hh).2.1,fun _=>?_⟩⟩;by_cases h0:0<i
    ·exact(h2 hh).2.2 h0
    ·have:i=0:=by omega
     subst this;simp;omega
theorem Wh{U i c:Nat}(hU:U<2^63)(hi:i<=8)(hc:c<256)(hx:c%128=U/128^i%128) :
 dI .or .u64 ((U%128^i:Nat):Int) (uw .u64 (dI .and .u8 (c:Int) 127*2^min (7*(i:Int)).toNat 64))=((U%128^(i+1):Nat):Int):=by
 have e1:(7*(i:Int)).toNat=7*i:=by omega
 have e2:min (7*i) 64=7*i:=by omega
 have e3:(128:Nat)^i=2^(7*i):=by rw[Nat.pow_mul]
 rw[Ya c hc,e1,e2,hx,Nat.pow_succ,Nat.mod_mul,e3];have hlt:U%2^(7*i)<2^(7*i):=Nat.mod_lt _ (Nat.pow_pos (by decide));have hp:(2:Nat)^(7*i)<=2^56:=Nat.pow_le_pow_right (by decide) (by omega);obtain⟨x,hx2⟩:∃x,x=U/2^(7*i)%128:=⟨_,rfl⟩
 have hxl:x<128:=by rw[hx2];exact Nat.mod_lt _ (by decide)
 rw[<- hx2];have hb:2^(7*i)*x<2^64:=by
  have:=Nat.mul_le_mul hp (Nat.le_of_lt_succ (show x<127+1 by omega));omega
 have e5:uw .u64 ((x:Int)*2^(7*i))=((2^(7*i)*x:Nat):Int):=by
  have:(x:Int)*2^(7*i)=((2^(7*i)*x:Nat):Int):=by push_cast;rw[Int.mul_comm]
  rw[this];simp only[uw];omega
 rw[e5,JV _ _ (by omega) hb,Nat.or_comm,<- Nat.two_pow_add_eq_or_of_lt hlt,Nat.add_comm]
structure qt where
 l:List Int
 r:Nat
 len:Nat
 cap:Nat
 n:Int
noncomputable def JW:cE where
 α:=qt
 β:=Unit
 m:=1
 m':=1
 pre:=fun a=>a.r+a.len<=a.l.length/\a.len<100000/\a.len<=a.cap/\0<=a.n/\a.n<4611686018427387904/\(vi a.n).length<=a.len/\∀i,i<(vi a.n).length->gl a.l (a.r+i)=gl (vi a.n) i
 args:=fun a=>[.a (.slc 0 a.r 1 a.len a.cap)]
 hp:=fun _=>[]
 ro:=fun a=>jv 0 a.l
 post:=fun _ _=>True
 res:=fun a _=>.mG [.a (.int .i64 a.n),.a (.int .i64 (vi a.n).length),.a (.lit .i64 0)]
 cZ:=fun _ _=>[]
def Zp(a:qt):An:=.flat 3 Nat (fun s i=>(s.set 5 (.a (.int .u64 ((2*a.n.toNat%128^i:Nat):Int)))).int 11 i) (fun _ i=>i<(vi a.n).length) (fun _ i=>(vi a.n).length-i)
def uS(x:List Int)(z:Nat)(u:List Int)(v:Nat):=ai x<=z/\∀y:Nat,y<ai x->gl u (v+y)=gl x y
def CO(x:qt)(y:Nat):Int:=dI Go.BinOp.or .u64 (af (2*aX x.n%128^y)) (cM (dI Go.BinOp.and .u8 (gl x.l (x.r+aA y)) (127:Int)*2^min (aX ((7:Int)*af y)) 64))
def zA(x z:Nat)(y:Int)(u:List Int)(v:Nat):=x<100000/\x<=z/\(0:Int)<=y/\y<(4611686018427387904:Int)/\uS (vi y) x u v
def zB(x:qt):=x.r+x.len<=ai x.l/\zA x.len x.cap x.n x.l x.r
def s8(x:Prop):=bZ 0 0 (aD 0) x
def GU(x:qt)(y:Int):=Exists (ay ((0:Int)=x.n/\aF (ai (vi x.n)) (bl (y=(0:Int)))))
def o7(x:Int):Int:=uw .i64 x
def LZ(x:qt)(y:Nat)(z:Prop):=bu x.len/\kD x.r x.len x.cap/\s8 (kD x.r x.len x.cap/\ct x.l x.l cH/\y<ai (vi x.n)/\z)
theorem JX:fnBody (Y Tryz.prog) [] 177 JW fun a=>[(177,[Zp a],[])]:=fnBody.of (p :=
 ∀x:qt,zB x->(∃y:Nat,aF y (aF (2*aX x.n%128^y) (LZ x y True)))/\∀y:Nat,y<ai (vi x.n)->mO (af y) x.len (x.r+aA y<ai x.l/\(jQ (gl x.l (x.r+aA y))->o6 (af y == (9:Int)) (aH 1 (gl x.l (x.r+aA y))) (GU x 1) (ah ((7:Int)*af y)/\(0:Int)<=7*af y/\az (aH 127 (gl x.l (x.r+aA y))) (dz y fun z=>CO x y=af (2*aX x.n%128^z)/\LZ x z (ai (vi x.n)-z<ai (vi x.n)-y)) (o6 (aH 0 (af y)) (gl x.l (x.r+aA y) == (0:Int)) (GU x 1) ((0:Int)<=1/\az (dI .and .u64 (CO x y) (1:Int) == 1) (aS y/\Exists (ay (dI .xor .i64 (-1:Int) (o7 (CO x y/(2:Int)))=x.n/\br y (ai (vi x.n))/\aV (True/\True)))) (aS y/\Exists (ay (o7 (CO x y/(2:Int))=x.n/\br y (ai (vi x.n))/\aV (True/\True))))))))) (GU x 2)) (by kernel_rfl) (by
 delta o6 az ai bZ aK ah aA aD cF aH af aC aX bq kD aW ct dz uS cM CO aV ay aS aF aY zB br bl bu mO jQ s8 GU zA o7 LZ
 try dsimp -iota -proj only
 rintro⟨l,r,len,cap,n⟩ ⟨h1,h2,h3,h4,h5,h6,h7⟩;dsimp only at *;obtain⟨U,hU⟩:∃U,U=2*n.toNat:=⟨_,rfl⟩
 have hUlt:U<2^63:=by omega
 have hv:vi n=vS 9 U:=by rw[hU];rfl
 have hv0:=vT 9 U
 have hvs := zz 9 8 U (by have : (2 : Nat) ^ 63 = 128 ^ 9 := by decide
                          omega)
 rw[<- hU];rw[hv]at h6 h7 ⊢;refine⟨⟨0,?_⟩,fun i hi=>?_⟩
 ·and_intros<;>first|exact dg|simp[Nat.mod_one]
 ·obtain ⟨b1, b2⟩ := S1 9 U i (by have : (2 : Nat) ^ 63 ≤ 128 ^ (9 + 1) := by decide
                                  omega) hi
  have hgi:=h7 i hi;simp only[Int.toNat_natCast,bR,hgi];obtain⟨c,hc,hc1⟩:∃c:Nat,gl (vS 9 U) i=(c:Int)/\c<256:=by
   by_cases hl:i+1<(vS 9 U).length
   ·exact⟨_,(b1 hl).2,by omega⟩
   ·exact⟨_,(b2 (by omega)).2.1,by have:=(b2 (by omega)).1;omega⟩
  have hx:c%128=U/128^i%128:=by
   by_cases hl:i+1<(vS 9 U).length
   ·have:=(b1 hl).2;rw[hc]at this;omega
   ·have:=(b2 (by omega)).2.1;rw[hc]at this;omega
  have hor:=Wh (c:=c) hUlt (by omega:i<=8) hc1 hx;rw[hc]at b1 b2;simp only[hc,hor];have last:¬(127<(c:Int))->i+1=(vS 9 U).length/\U%128^(i+1)=U/\(0<i->0<c):=fun h=>by
   have hl:¬(i+1<(vS 9 U).length):=fun hl=>by have:=(b1 hl).2;omega
   obtain⟨g1,g2,g3⟩:=b2 (by omega);refine⟨by omega,Nat.mod_eq_of_lt ?_,fun h0=>by have:=g3 h0;omega⟩;have:=(Nat.div_lt_iff_lt_mul (Nat.pow_pos (n:=i) (show 0<128 by decide))).1 g1;rw[Nat.pow_succ,Nat.mul_comm];exact this
  have more:127<(c:Int)->i+1<(vS 9 U).length:=fun h=>by
   rcases Nat.lt_or_ge (i+1) (vS 9 U).length with hl|hl
   ·exact hl
   ·have:=b2 (by omega);omega
  have fin:∀w,w=U->(dI .and .u64 (w:Int) 1 == 1)=true->False:=fun w hw h=>by
   rw[hw,LY U (by omega)]at h;simp at h;omega
  have fin2:∀w:Nat,w=U->uw .i64 ((w:Int)/2)=n:=fun w hw=>by
   subst hw;show IntKind.i64.wrap ((w:Int)/2)=n;rw[fA (by simp only[bR];omega)];omega
  have h9:((i:Int) == 9)=false:=by simp;omega
  rw[h9];refine⟨fun c1=>⟨by omega,by omega,fun _=>⟨fun e=>(by cases e),fun _=>⟨by omega,by omega,fun c2=>?_,fun c2=>⟨fun c3=>?_,fun c3=>?_⟩⟩⟩⟩,fun c1=>?_⟩
  ·have hm:=more (by simpa using c2);refine⟨by omega,i+1,?_⟩
   and_intros<;>first|exact dg
  ·obtain⟨l1,l2,l3⟩:=last (by simpa using c2);have l3:=l3 (by simpa using c3);refine⟨fun e=>?_,fun _=>⟨by omega,fun e=>(fin _ l2 e).elim,fun e=>⟨by omega,(),?_⟩⟩⟩
   ·simp at e;omega
   ·and_intros<;>first|exact dg|exact fin2 _ l2
  ·obtain⟨l1,l2,l3⟩:=last (by simpa using c2);refine⟨by omega,fun e=>(fin _ l2 e).elim,fun e=>⟨by omega,(),?_⟩⟩
   and_intros<;>first|exact dg|exact fin2 _ l2
  ·simp at c1;omega)
theorem GV(l:List Int)(r n:Nat):iK (aa cH l) r n=List.foldl (fun(s:ByteArray) (n:Int)=>s.push (UInt8.ofNat n.toNat)) ByteArray.empty (List.map (fun(i:Nat)=>gl l (r+i)) (List.range n)):=rfl
theorem foldl_push:∀(l:List UInt8) (b:ByteArray),List.foldl (fun(s:ByteArray) (n:Int)=>s.push (UInt8.ofNat n.toNat)) b (l.map fun x=>(x.toNat:Int))=⟨b.data++l.toArray⟩
 |[],b=>by simp
 |x::l,b=>by
  rw[List.map_cons,List.foldl_cons,foldl_push l];congr 1;simp[ByteArray.push]
theorem Oq{t:ByteArray}{n:Nat}{f:Nat->Int}(hn:n=t.size)(h:∀i,i<t.size->f i=gl (Jg t) i):List.foldl (fun(s:ByteArray) (n:Int)=>s.push (UInt8.ofNat n.toNat)) ByteArray.empty (List.map f (List.range n))=t:=by
 have e:List.map f (List.range n)=Jg t:=by
  refine List.ext_getElem (by rw[List.length_map,List.length_range,je,hn]) fun i h1 h2=>?_;rw[List.getElem_map,List.getElem_range,h i (by rw[je]at h2;exact h2),bT h2]
 rw[e,Jg,foldl_push];cases t with
 |mk d=>show ByteArray.mk (#[]++d.toList.toArray)=ByteArray.mk d;simp
theorem bf{α:Type}[Inhabited α]{l m:List α}{i:Nat}:gl (l++m) (l.length+i)=gl m i:=by
 simp[gl,List.getD_eq_getElem?_getD,List.getElem?_append_right]
structure qu where
 l:List Int
 r:Nat
 len:Nat
 cap:Nat
 t:ByteArray
noncomputable def L0:cE where
 α:=qu
 β:=Unit
 m:=1
 m':=1
 pre:=fun a=>a.r+a.len<=a.l.length/\a.len<100000/\a.len<=a.cap/\a.t.size<=1000/\(vi a.t.size++Jg a.t).length<=a.len/\∀i,i<(vi a.t.size++Jg a.t).length->gl a.l (a.r+i)=gl (vi a.t.size++Jg a.t) i
 args:=fun a=>[.a (.slc 0 a.r 1 a.len a.cap)]
 hp:=fun _=>[]
 ro:=fun a=>jv 0 a.l
 post:=fun _ _=>True
 res:=fun a _=>.mG [.a (.str a.t),.a (.int .i64 (vi a.t.size++Jg a.t).length),.a (.lit .i64 0)]
 cZ:=fun _ _=>[]
def dS(x y:Int):=(0:Int)<=x/\x<=y
def jo(x:qu):Int:=af (ai (vi (af (bh x.t))++Jg x.t))
def dc(x:Int)(y:Nat):=dS x (af y)
def zC(x y:Int)(z:Nat)(u:Prop):=dc (x+y) z/\dc x (aX (x+y))/\u
def GW(x:qu):=x.r+x.len<=ai x.l/\x.len<100000/\x.len<=x.cap/\bh x.t<=1000/\uS (vi (af (bh x.t))++Jg x.t) x.len x.l x.r
def kG(x y:Int)(z:Prop)(u:Int)(v:Prop):=iM (aH x y) z (aH u x) v
def zD(x:qt):Int:=af (ai (vi x.n))+x.n
theorem PY:fnBody (Y Tryz.prog) [(177,JW)] 235 L0 fun _=>[]:=fnBody.of (p :=
 ∀y:qu,GW y->∃x:qt,(y.r=x.r/\y.len=x.len/\y.cap=x.cap)/\ct x.l y.l cH/\zB x/\aI (kG x.n 0 (Exists (ay (cO=y.t/\(0:Int)=jo y/\bl ((1:Int)=0)))) 65536 (ah (af y.len-af (ai (vi x.n)))/\az (aH (af y.len-af (ai (vi x.n))) x.n) (Exists (ay (cO=y.t/\(0:Int)=jo y/\bl ((2:Int)=0)))) (ah (zD x)/\zC (af (ai (vi x.n))) x.n y.cap (y.r+aA (ai (vi x.n))+(aX (zD x)-aA (ai (vi x.n)))<=ai y.l/\ah (zD x)/\Exists (ay (iK (aa cH y.l) (y.r+aA (ai (vi x.n))) (aX (zD x)-aA (ai (vi x.n)))=y.t/\zD x=jo y/\aV (True/\True)))))))) (by kernel_rfl) (by
 delta az ai aK ah aA aD cO aH af bh aC aX aW ct iM dS aI jo uS aV ay zB bl zC GW dc kG zD zA
 try dsimp -iota -proj only
 rintro⟨l,r,len,cap,t⟩ ⟨h1,h2,h3,h4,h5,h6⟩;dsimp only at *;have hv:=iR (t.size:Nat);rw[List.length_append,je]at h5 h6 ⊢;have g1:∀i,i<(vi (t.size:Nat)).length->gl l (r+i)=gl (vi (t.size:Nat)) i:=fun i hi=>by rw[h6 i (by omega),bO hi]
 refine⟨⟨l,r,len,cap,t.size⟩,?_⟩
 (repeat' (first|apply And.intro|(intro _)|apply Exists.intro ()))<;>first|exact dg|(exact g1 _ (by assumption))|(exfalso;(try dsimp only at *);(try simp only[decide_eq_true_eq,decide_eq_false_iff_not,Bool.false_eq_true]at *);omega)|skip
 refine Oq (by dsimp only;omega) fun i hi=>?_;dsimp only;show gl l (r+(((vi (t.size:Nat)).length:Int)).toNat+i)=_;rw[show r+(((vi (t.size:Nat)).length:Int)).toNat+i=r+((vi (t.size:Nat)).length+i)by omega,h6 _ (by omega),bf])
theorem JY:au (Y Tryz.prog).G.X 177 JW:=aU fL JX trivial
theorem PZ:au (Y Tryz.prog).G.X 235 L0:=aU fL PY ⟨JY,trivial⟩
structure EB where
 l:List Int
 r:Nat
 cap:Nat
 x:aB
noncomputable def Wi:cE where
 α:=EB
 β:=Nat
 m:=1
 m':=2
 pre:=fun a=>gf a.x=true/\a.r+(dm a.x).length<=a.l.length/\(dm a.x).length<=a.cap/\∀i,i<(dm a.x).length->gl a.l (a.r+i)=gl (dm a.x) i
 args:=fun a=>[.a (.slc 0 a.r 1 (dm a.x).length a.cap)]
 hp:=fun _=>[]
 ro:=fun a=>jv 0 a.l
 post:=fun _ _=>True
 res:=fun a c=>.mG [.a (.slc 1 0 4 1 c),.a (.lit .i64 0)]
 cZ:=fun a _=>[(1,.arr 40 LU 1 (aa kY [a.x]))]
def aab(a:EB):An:=.flat 3 (Nat×Nat) (fun s k=>((s.new (.arr 40 LU k.1 (aa kY ([a.x].take k.1)))).set 4 (.a (.slc s.nx 0 4 k.1 k.2))).int 5 ((k.1*(dm a.x).length:Nat):Int)) (fun _ k=>k.1<=1) (fun _ k=>1-k.1)
def mm(y:Nat×Nat)(z:EB):Int:=af (y.fst*ai (dm z.x))
def rB(x:Int)(y:qt):Int:=x+af (ai (vi y.n))
def L3(f t:Int)(y:EB)(u:Nat×Nat)(v w:qu)(s:Nat)(g:qt->Prop):=bq f 2/\dc t (ai (dm y.x)-aX (mm u y+jo v+jo w))/\∃z:qt,(y.r+aX (mm u y+jo v+jo w)+s=z.r/\ai (dm y.x)-aX (mm u y+jo v+jo w)-s=z.len/\y.cap-aX (mm u y+jo v+jo w)-s=z.cap)/\ct z.l y.l cH/\zB z/\aI (ah (rB t z)/\g z)
def iC(x y z u v:Nat)(w s:Nat->Nat->Value)(t f:Prop):=ag (x=y/\z=u)/\aK y x v w s/\t/\f
def L4(y:EB)(u:Nat)(z:qu)(v:Nat×Nat)(w:qu)(s t:Prop):=(y.r+u=z.r/\ai (dm y.x)-u=z.len/\y.cap-u=z.cap)/\ct z.l y.l cH/\GW z/\aI (ah (mm v y+jo w)/\s/\t)
def nS(x y:Int)(z:Prop):=ah x/\ah (x+y)/\z
def CP(y:Nat×Nat)(z:EB):Nat->Nat->Value:=aa kY (List.take y.fst [z.x])
def GX(y:EB):=aC (gf y.x)/\y.r+ai (dm y.x)<=ai y.l/\uS (dm y.x) y.cap y.l y.r
theorem Wj:fnBody (Y Tryz.prog) [(177,JW),(235,L0),(122,SZ)] 210 Wi fun a=>[(210,[aab a],[])]:=fnBody.of (p :=
 ∀y:EB,GX y->(∃z:Nat×Nat,aF (z.fst*ai (dm y.x)) ((0=z.fst/\0=z.snd)/\aV (kD y.r (ai (dm y.x)) y.cap/\z.fst=0/\ct y.l y.l cH/\z.fst<=1/\True)))/\∀z:Nat×Nat,z.fst<=1->aY (mm z y) (ai (dm y.x)) (dc (mm z y) (ai (dm y.x))/\∃u:qu,L4 y (aA (z.fst*ai (dm y.x))) u z u (dc (mm z y+jo u) (ai (dm y.x))) (∃v:qu,L4 y (aX (mm z y+jo u)) v z u (ah (mm z y+jo u+jo v)) (dc (mm z y+jo u+jo v) (ai (dm y.x))/\L3 0 0 y z u v 0 fun f=>L3 1 (rB 0 f) y z u v (aX (rB 0 f)) fun w=>ah w.n->gG z.fst 48 z.snd fun s=>nS (jo u+jo v) (rB (rB 0 f) w) (ah (mm z y+(jo u+jo v+rB (rB 0 f) w))/\∃g:Nat×Nat,mm z y+(jo u+jo v+rB (rB 0 f) w)=mm g y/\ag (z.fst+1=g.fst/\s=g.snd)/\aV (kD y.r (ai (dm y.x)) y.cap/\lU g.fst z.fst 4 (CP z y) (lC (bL u.t) (bL v.t) (bx f.n (bD (dR (w.n == (1:Int)))))) (CP g y)/\ct y.l y.l cH/\bU g.fst 1 z.fst))))) (∃u:EA,iC z.fst u.xs.length z.snd u.cap 4 (CP z y) (aa kY u.xs) (xo u) (∀v:Nat,True->∀w:Bool,(aC w->ai (dM u.xs)=0)->az w (∃s:Nat,(0=1/\0=s)/\(1:Int)=0/\bl (1=0)) (mT (dM u.xs)/\y.r+ai (dm y.x)<=ai y.l /\
 az (bg (iA (iK (aa cH (dM u.xs)) 0 (ai (dM u.xs))) (iK (aa cH y.l) y.r (ai (dm y.x))))) (∃s:Nat,(0=1/\0=s)/\(1:Int)=0/\bl (1=0)) (∃s:Nat,dL z.fst 1 z.snd s (aD 0) 4 (CP z y) (aa kY [y.x]) (True/\True)))))) (by kernel_rfl) (by
 delta az ai aK ah bx aA aD gK aH af bh bD aC dV aX bq lC kD bV aW ct dS aI jo lU gG dL bL bU uS L3 aV iC aF L4 ag aY zB mm xo nS bg bl CP mT GW iA dR dc rB jR zA GX
 try dsimp -iota -proj only
 rintro⟨l,r,cap,x⟩ ⟨h1,h2,h3,h4⟩;dsimp only at *;obtain⟨k1,k2,k3,k4⟩:=qR h1;obtain⟨P,hP⟩:∃P,P=vi (x.key.size:Nat)++Jg x.key:=⟨_,rfl⟩
 obtain⟨Q,hQ⟩:∃Q,Q=vi (x.val.size:Nat)++Jg x.val:=⟨_,rfl⟩
 obtain⟨E,hE⟩:∃E,E=vi x.e:=⟨_,rfl⟩
 obtain⟨g,hg⟩:∃g:Int,g=if x.gone then 1 else 0:=⟨_,rfl⟩
 obtain⟨G,hG⟩:∃G,G=vi g:=⟨_,rfl⟩
 have hg0:0<=g/\g<=1:=by rw[hg];split<;>omega
 have hI:dm x=P++(Q++(E++G)):=by
  simp only[dm,eV,iw,List.flatMap_cons,List.flatMap_nil,List.append_nil,hP,hQ,hE,hG,hg,List.append_assoc]
 have hPl:1<=P.length:=by have:=iR (x.key.size:Nat);rw[hP,List.length_append];omega
 have hlen:=E9 h1;have hL:(dm x).length=P.length+(Q.length+(E.length+G.length)):=by rw[hI];simp only[List.length_append]
 have fP:∀i,i<P.length->gl l (r+i)=gl P i:=fun i hi=>by rw[h4 i (by omega),hI,bO hi]
 have fQ:∀i,i<Q.length->gl l (r+P.length+i)=gl Q i:=fun i hi=>by
  rw[Nat.add_assoc,h4 _ (by omega),hI,bf,bO hi]
 have fE:∀i,i<E.length->gl l (r+(P.length+Q.length)+i)=gl E i:=fun i hi=>by
  rw[Nat.add_assoc,h4 _ (by omega),hI,Nat.add_assoc,bf,bf,bO hi]
 have fG:∀i,i<G.length->gl l (r+(P.length+Q.length)+E.length+i)=gl G i:=fun i hi=>by
  rw[Nat.add_assoc,Nat.add_assoc,h4 _ (by omega),hI,Nat.add_assoc,bf,bf,bf]
 have hall:List.map (fun(i:Nat)=>gl l (r+i)) (List.range (dm x).length)=List.map (fun(i:Nat)=>gl (dm x) (0+i)) (List.range (dm x).length):=by
  refine List.map_congr_left fun i hi=>?_;rw[h4 i (List.mem_range.1 hi),Nat.zero_add]
 obtain⟨L,hLL⟩:∃L,(dm x).length=L:=⟨_,rfl⟩
 rw[hLL]at h2 h3 h4 hlen hL hall ⊢;refine⟨⟨(0,0),?_⟩,fun k hk=>?_⟩
 ·dsimp only
  and_intros<;>first|exact dg|simp
 ·obtain⟨k,c⟩:=k;have hk:k<=1:=hk;dsimp only;refine⟨fun c1=>?_,fun c1=>?_⟩
  ·have hk0:k=0:=by
    rcases Nat.lt_or_ge k 1 with h|h
    ·omega
    ·have:k=1:=by omega
     subst this;simp at c1
   subst hk0;simp only[Nat.zero_mul,Int.natCast_zero,Int.zero_add,Int.toNat_zero,Nat.add_zero,Nat.sub_zero];refine⟨by omega,⟨qu.mk l r L cap x.key,?_⟩⟩;simp only[<- hP]
   and_intros<;>first|exact dg|exact fP|skip
   intro _ _;refine⟨by simp only[bR];omega,by omega,⟨qu.mk l (r+P.length) (L-P.length) (cap-P.length) x.val,?_⟩⟩;simp only[<- hQ]
   and_intros<;>first|exact dg|exact fQ|skip
   intro _ _
   and_intros<;>first|exact dg|(simp only[bR];omega)|skip
   refine⟨qt.mk l (r+(P.length+Q.length)) (L-(P.length+Q.length)) (cap-(P.length+Q.length)) x.e,?_⟩;simp only[<- hE]
   and_intros<;>first|exact dg|exact fE|skip
   intro _ _
   and_intros<;>first|exact dg|(simp only[bR];omega)|skip
   refine⟨qt.mk l (r+(P.length+Q.length)+E.length) (L-(P.length+Q.length)-E.length) (cap-(P.length+Q.length)-E.length) g,?_⟩;simp only[<- hG]
   and_intros<;>first|exact dg|exact fG|skip
   intro _ _
   (repeat' (first|apply And.intro|(intro _)))<;>first|exact dg|(simp only[bR];omega)|skip
   apply Exists.intro ((1,_):Nat×Nat);have hgo:(g == 1)=x.gone:=by
    rw[hg];cases x.gone<;>rfl
   have hr:ak 1 4 (aZ (aa kY (List.take 0 [x])) 0 0 fun(i j:Nat)=>aO 4 [Value.string x.key,Value.string x.val,Value.int .i64 x.e,Value.bool (g == 1)] (0+i) j) (aa kY (List.take 1 [x])):=.eo fun i hi=>by
    have:i=0:=by omega
    subst this;rw[hgo];rfl
   and_intros<;>first|exact dg|exact hr|skip
  ·have hk1:k=1:=by
    rcases Nat.lt_or_ge k 1 with h|h
    ·have:k=0:=by omega
     subst this;simp at c1;omega
    ·omega
   subst hk1;have hx1:List.take 1 [x]=[x]:=rfl;have hI1:dM [x]=dm x:=by simp[dM]
   rw[hx1];refine⟨⟨[x],c⟩,?_⟩;simp only[GV,hI1,hLL,hall];have hm:∀i,i < [x].length->gf (gl [x] i)=true:=fun i hi=>by
    have:i=0:=by simp at hi;omega
    subst this;exact h1
   (repeat' (first|apply And.intro|(intro _)|apply Exists.intro (c:Nat)))<;>first|exact dg|(exact hm _ (by assumption))|(exfalso;simp at *;done)|(exfalso;clear h4 hall fP fQ fE fG;grind)|skip)
theorem Ot:au (Y Tryz.prog).G.X 210 Wi:=aU fL Wj ⟨JY,PZ,GS,trivial⟩
end Go.Proofs.YtfjgoonelcaggaaGreat
namespace Go.Sx
section
def Wk(f:A->S->(A->S->Prop)->Prop):Prop:=∀x s K,f x s K->∀w0 M ρ w,ρ.n=s.nx->aj w0 M ρ s.hp w->∀u,x.cq ρ u->Jw w0 M ρ w s u K
theorem Ou(n:Nat):Wk (Jx n):=BF n
def S2(ty:Nat)(ks:List CK)(x:A)(s:S)(K:A->S->Prop):Prop :=
 match x with
 |.val v=>oT s fun tp wr H=>bif wr then ∃l c rows,kr H v ks l c rows /\
  K (.slc s.nx 0 ks.length l c) ⟨s.nt,s.fr,⟨s.nx,true,.arr ty ks l rows⟩::⟨s.nx+1,true,.cA (aL H v)⟩::s.hp.del tp,s.nx+2,s.kp,s.rt⟩else False
 |_=>False
theorem S3(ty:Nat)(ks:List CK):Wk (S2 ty ks):=by
 intro x s K h w0 M ρ w hρ hh u hu;unfold S2 at h;split at h<;>try exact h.elim
 rename_i v;replace h:=pY h;obtain⟨tp,wr,H,h,hf⟩:=h;cases wr with
 |false=>exact h.elim
 |true =>
  simp only[cond_true]at h;obtain⟨l,c,rows,hat,hK⟩:=h;obtain⟨rfl,_⟩:=hu;have hcp:=(hh.gO _ (aG.bk hf)).ch;simp only at hcp;rcases hat with⟨rfl,rfl,rfl⟩ | ⟨b,lo,o,cs,rfl,⟨hlc,hcm⟩,hH,hfit,hrows⟩
  ·have hsp:=hh.Gh hf ⟨0,0,0,fun _=>False⟩ ⟨0,0,0,fun x=>(ρ.pl tp).fp x⟩ (fun x hx=>hx.elim) (fun x hx=>hx) (fun x hx _=>hx)
    (c1:=.arr ty ks 0 rows) (c2:=.cA H) (fun ρ'=>.inl ⟨rfl,rfl,fun _ h=>h⟩) (fun ρ' x lo' cs' hx=>hcp x lo' cs' hx)
   rw[hρ]at hsp;exact⟨_,_,_,hK,rfl,rfl,by show ρ.n+1+1=s.nx+2;rw[hρ],(ρ.en _).trans ((ρ.ext _).en _),⟨by show s.nx<ρ.n+2;omega,Nat.le_refl _,by unfold aq;omega,.inl ⟨rfl,rfl,rfl⟩⟩,hsp⟩
  ·obtain⟨hfp,vs,vty,fr,hb,hvl,hvs,hun⟩:=hcp b lo cs hH;have hsp:=hh.Gh hf ⟨b,lo+o,c,fun x=>x=b⟩ ⟨0,0,0,fun x=>(ρ.pl tp).fp x/\x≠b⟩ (fun x hx=>by simp only at hx;subst hx;exact hfp) (fun x hx=>hx.1) (fun x hx hx'=>hx'.2 hx)
    (c1:=.arr ty ks l rows) (c2:=.cA (sM H b)) (fun ρ'=>.inr ⟨vs,vty,fr,hb,by simp only;omega,hlc,fun x h1 h2=>hun x (by simp only at h1;omega) (by simp only at h2;omega),fun _=>Iff.rfl,fun i hi j k hk=>by
     obtain⟨g1,g2⟩:=hrows.at_ i hi j k hk;refine⟨?_,g2⟩;have hlt:o+i*ks.length+j<cs.length:=(List.getElem?_eq_some_iff.1 g1).1;rw[<- g1,<- hvs _ hlt];congr 1;simp only;omega⟩)
    (fun ρ' x lo' cs' hx=>by
     by_cases hxb:x=b
     ·subst hxb;rw[AQ]at hx;cases hx
     ·rw[zb hxb]at hx;obtain⟨g1,g2⟩:=hcp x lo' cs' hx;exact⟨⟨g1,hxb⟩,g2⟩)
   rw[hρ]at hsp;refine⟨_,_,_,hK,rfl,rfl,by show ρ.n+1+1=s.nx+2;rw[hρ],(ρ.en _).trans ((ρ.ext _).en _),⟨by show s.nx<ρ.n+2;omega,hlc,hcm,.inr ⟨_,rfl,fun _=>?_⟩⟩,hsp⟩;have hpl:((ρ.ext ⟨b,lo+o,c,fun x=>x=b⟩).ext ⟨0,0,0,fun x=>(ρ.pl tp).fp x/\x≠b⟩).pl s.nx=⟨b,lo+o,c,fun x=>x=b⟩:=by
    rw[<- hρ,(ρ.ext _).vF _ (Nat.lt_succ_self _)];exact ρ.dD _
   rw[hpl];simp
def GY(f:A->S->(A->S->Prop)->Prop)(slot:Nat)(s:S)(K:S->Prop):Prop :=
 match look s.fr slot with
 |.a x=>f x s fun y s'=>K (s'.set slot (.a y))
 |_=>False
theorem Fa{f:A->S->(A->S->Prop)->Prop}(hf:Wk f)(slot:Nat):∀s K,GY f slot s K->w9 s K:=by
 intro s K h w0 M ρ a w hs;unfold GY at h;split at h<;>try exact h.elim
 rename_i x hx;have hr:=hs.frame slot;rw[hx]at hr;obtain⟨y,s',ρ',hK,h1,h2,h3,h4,h5,h6⟩:=hf x s _ h w0 M ρ w hs.n hs.heap _ hr;refine⟨_,ρ',hK,h4,⟨hs.defers,by rw[hs.size];exact h1.symm,h3,?_,h6⟩⟩;intro j;show(look ((slot,.a y)::s'.fr) j).cq ρ' _;simp only[look];by_cases hj:slot=j
 ·subst hj;simp only[dy,cond_true];exact h5
 ·simp only[eU hj,cond_false];rw[h2];exact(hs.frame j).mono h4
def L5(f:A->S->(A->S->Prop)->Prop)(slot cell:Nat)(s:S)(K:S->Prop):Prop :=
 match look s.fr slot with
 |.a (.ptr t _ _ _)=>match s.hp.find t with
  |some (_,.obj _ cs)=>match cs[cell]? with
   |some x=>f x s fun y s'=>match s'.hp.find t with
    |some (true,.obj ty cs')=>bif Nat.blt cell cs'.length then K (s'.put (s'.hp.uc t (.obj ty (cs'.set cell y))))else False
    |_=>False
   |none=>False
  |_=>False
 |_=>False
theorem P0{f:A->S->(A->S->Prop)->Prop}(hf:Wk f)(slot cell:Nat):∀s K,L5 f slot cell s K->w9 s K:=by
 intro s K h w0 M ρ a w hs;unfold L5 at h;split at h<;>try exact h.elim
 rename_i t r e c hsl;split at h<;>try exact h.elim
 rename_i m0 ty0 cs hfd;split at h<;>try exact h.elim
 rename_i x hx;have he:=hs.heap.gO _ (aG.bk hfd);obtain⟨vs,fr,a1,a2,⟨us,xs,a3,a4⟩,a5⟩:=he.ch;obtain⟨u,hu,hru⟩:=a4.get hx;obtain⟨y,s',ρ',hK,h1,h2,h3,h4,h5,h6⟩:=hf x s _ h w0 M ρ w hs.n hs.heap u hru;split at hK<;>try exact hK.elim
 rename_i ty1 cs' hf';cases hl:Nat.blt cell cs'.length with
 |false=>rw[hl]at hK;exact hK.elim
 |true =>
  rw[hl]at hK;simp only[cond_true]at hK;have hl:=Nat.le_of_ble_eq_true hl;have htn:t<ρ.n:=he.tag;have hpl:ρ'.pl t=ρ.pl t:=h4.pl t htn;have h7:=h6.uc hf' (eR.refl _ w) (ch':=.obj ty1 (cs'.set cell y)) (by
   obtain⟨vs',fr',b1,b2,⟨us',xs',b3,b4⟩,b5⟩:=(h6.gO _ (aG.bk hf')).ch;refine⟨vs',fr',b1,b2,⟨us',xs',b3,?_⟩,b5⟩;simp only[hpl]at b1;rw[a1]at b1;have hvv:vs=vs':=by injection b1 with b1;injection b1
   subst hvv;have hlu:=b4.length;have e1:us'[cell]? = some u:=by
    have g1:vs.toList[cell]? = us'[cell]?:=by rw[b3,List.getElem?_append_left (by omega)]
    have g2:vs.toList[cell]? = us[cell]?:=by
     obtain⟨hlt,_⟩:=List.getElem?_eq_some_iff.1 hu;rw[a3,List.getElem?_append_left hlt]
    rw[<- g1,g2,hu]
   have:=b4.set cell (v:=u) (x:=y) h5;have e:us'.set cell u=us':=by
    obtain⟨hlt,he⟩:=List.getElem?_eq_some_iff.1 e1;subst he;exact List.set_getElem_self hlt
   rwa[e]at this)
  exact⟨_,ρ',hK,h4,⟨hs.defers,by rw[hs.size];exact h1.symm,h3,by show dH ρ' s'.fr _;rw[h2];exact hs.frame.mono h4,h7⟩⟩
def An.Ov(key slot:Nat)(next:LH):An:=.view key (GY (Jx 3) slot) (Fa (Ou 3) slot) next
def An.Wl(key slot cell:Nat)(next:LH):An:=.view key (L5 (Jx 3) slot cell) (P0 (Ou 3) slot cell) next
def An.S4(key slot:Nat)(ty:Nat)(ks:List CK)(next:LH):An:=.view key (GY (S2 ty ks) slot) (Fa (S3 ty ks) slot) next
end
end Go.Sx
namespace Go.Proofs.YtfjgoonelcaggaaGreat
open Go.Sx
structure RecM where
 pos:Int
 body:List Int
 deriving Inhabited
structure dG where
 gen:Int
 base:Int
 run:Int
 buf:List Int
 aP:List RecM
 deriving Inhabited
structure mU where
 b:Nat
 bv:Value
 rv:Value
 vs:List Value
def si:List CK:=[.int .i64,.deep]
def uT(rs:List RecM)(vs:List Value):Nat->Nat->Value:=fun i j=>if j=0 then .int .i64 (gl rs i).pos else vs.getD i undef
def de(g:dG)(bv rv:Value):List Value:=[.int .i64 g.gen,.int .i64 g.base,.int .i64 g.run,bv,rv]
def fJ(H:PH)(v:Value)(l:List Int):Prop:=∃c,kr H v [.int .u8] l.length c (aa cH l)
structure oE(H:PH)(y:mU)(g:dG):Prop where
 cell:H y.b=some (0,de g y.bv y.rv)
 Bq:bR .i64 g.gen/\bR .i64 g.base/\bR .i64 g.run
 buf:fJ H y.bv g.buf
 aP:∃c,kr H y.rv si g.aP.length c (uT g.aP y.vs)
 len:y.vs.length=g.aP.length
 body:∀i,i<g.aP.length->fJ H (y.vs.getD i undef) (gl g.aP i).body
def fN:Value->List Nat
 |.slice (some ⟨b,_,_⟩) _ _=>[b]
 |_=>[]
def bw(y:mU):List Nat:=y.b::(fN y.bv++(fN y.rv++y.vs.flatMap fN))
theorem iS{H H':PH}{v:Value}{ks:List CK}{l c:Nat}{rows:Nat->Nat->Value}(h:kr H v ks l c rows)(e:∀x∈fN v,H' x=H x):kr H' v ks l c rows:=by
 rcases h with h | ⟨b,lo,o,cs,rfl,h1,h2,h3,h4⟩
 ·exact .inl h
 ·exact .inr ⟨b,lo,o,cs,rfl,h1,by rw[e b (by simp[fN,fc]),h2],h3,h4⟩
theorem fJ.frame{H H':PH}{v:Value}{l:List Int}(h:fJ H v l)(e:∀x∈fN v,H' x=H x):fJ H' v l:=by
 obtain⟨c,h⟩:=h;exact⟨c,iS h e⟩
theorem oE.frame{H H':PH}{y:mU}{g:dG}(h:oE H y g)(e:∀x∈bw y,H' x=H x):oE H' y g:=by
 have e1:∀x∈fN y.bv,H' x=H x:=fun x hx=>e x (by simp[bw,hx]);have e2:∀x∈fN y.rv,H' x=H x:=fun x hx=>e x (by simp[bw,hx]);obtain⟨c,hr⟩:=h.aP;refine⟨by rw[e y.b (by simp[bw]),h.cell],h.Bq,h.buf.frame e1,⟨c,iS hr e2⟩,h.len,fun i hi=>(h.body i hi).frame fun x hx=>e x ?_⟩;simp only[bw,List.mem_cons,List.mem_append,List.mem_flatMap];refine .inr (.inr (.inr ⟨_,?_,hx⟩));have:=h.len;rw[List.getD_eq_getElem?_getD,List.getElem?_eq_getElem (by omega)];exact List.getElem_mem _
theorem mV{H:PH}{v:Value}{ks:List CK}{l c:Nat}{rows:Nat->Nat->Value}(h:kr H v ks l c rows):∀x∈fN v,H x≠none:=by
 rcases h with⟨rfl,_⟩ | ⟨b,lo,o,cs,rfl,h1,h2,h3,h4⟩
 ·intro x hx;cases hx
 ·intro x hx;simp only[fN,fc,List.mem_singleton]at hx;rw[hx,h2];simp
theorem oE.dom{H:PH}{y:mU}{g:dG}(h:oE H y g):∀x∈bw y,H x≠none:=by
 intro x hx;simp only[bw,List.mem_cons,List.mem_append,List.mem_flatMap]at hx;rcases hx with rfl|hx|hx | ⟨v,hv,hx⟩
 ·rw[h.cell];simp
 ·obtain⟨c,hb⟩:=h.buf;exact mV hb x hx
 ·obtain⟨c,hr⟩:=h.aP;exact mV hr x hx
 ·obtain⟨i,hi,rfl⟩:=List.getElem_of_mem hv;have hl:=h.len;obtain⟨c,hb⟩:=h.body i (by omega);rw[List.getD_eq_getElem?_getD,List.getElem?_eq_getElem hi]at hb;exact mV hb x hx
theorem fh{H:PH}{v:Value}{ks:List CK}{l c:Nat}{rows:Nat->Nat->Value}(h:kr H v ks l c rows):di v=l/\jF v=c/\l<=c/\c<=aq/\Gb v/\(∃a,v = .slice a l c)/\v.oneCell'=true:=by
 rcases h with⟨rfl,rfl,rfl⟩ | ⟨b,lo,o,cs,rfl,⟨h1,h1'⟩,h2,h3,h4⟩
 ·exact⟨rfl,rfl,Nat.le_refl _,Nat.zero_le _,.inl rfl,⟨_,rfl⟩,rfl⟩
 ·exact⟨rfl,rfl,h1,h1',.inr ⟨_,_,_,_,rfl,h1,h1'⟩,⟨_,rfl⟩,rfl⟩
theorem JZ{H:PH}{v:Value}{ks:List CK}{l c:Nat}{rows:Nat->Nat->Value}(hk:1<=ks.length)(h:kr H v ks l c rows){sz a e m:Nat}(hs:sz=ks.length)(h1:a<=e)(h2:e<=l)(h2':e<=m)(h3:m<=c):kr H (nF sz v a e m) ks (e-a) (m-a) (fun i=>rows (a+i)):=by
 subst hs;rcases h with⟨rfl,rfl,rfl⟩ | ⟨b,lo,o,cs,rfl,⟨g1,g1'⟩,g2,g3,g4⟩
 ·exact .inl ⟨rfl,by omega,by omega⟩
 ·rw[zc];by_cases hm:m=a
  ·subst hm
   refine .inr ⟨b, lo, o, cs, by rw [if_pos rfl], ⟨by omega, by omega⟩, g2, by have : (m - m) * ks.length = 0 := by rw [Nat.sub_self, Nat.zero_mul]
                                                                               have:=Nat.le_add_right o (c*ks.length);omega,⟨fun i hi=>by omega⟩⟩
  ·rw[if_neg hm];have e1:(m-a)*ks.length+a*ks.length=m*ks.length:=by rw[<- Nat.add_mul,Nat.sub_add_cancel (by omega)]
   have e2:=Nat.mul_le_mul_right ks.length h3;refine .inr ⟨b,lo,o+a*ks.length,cs,by rw[Nat.add_assoc],⟨by omega,by omega⟩,g2,by omega,⟨fun i hi j k hj=>?_⟩⟩;have:=g4.at_ (a+i) (by omega) j k hj;rw[Nat.add_mul]at this;rwa[show o+a*ks.length+i*ks.length+j=o+(a*ks.length+i*ks.length)+j by omega]
theorem fJ.len{H:PH}{v:Value}{l:List Int}(h:fJ H v l):di v=l.length/\Gb v/\l.length<=aq/\l.length<=jF v/\(∃a c,v = .slice a l.length c)/\v.oneCell'=true:=by
 obtain⟨c,h⟩:=h;obtain⟨h1,h2,h3,h4,h5,⟨a,h6⟩,h7⟩:=fh h;exact⟨h1,h5,by omega,by omega,⟨a,c,h6⟩,h7⟩
theorem fJ.cut{H:PH}{v:Value}{l:List Int}(h:fJ H v l){a e:Nat}(h1:a<=e)(h2:e<=l.length):kr H (nF 1 v a e (jF v)) [.int .u8] (e-a) (jF v-a) (fun i=>aa cH l (a+i)):=by
 obtain⟨c,h⟩:=h;obtain⟨_,g2,g3,_⟩:=fh h;rw[g2];exact JZ (Nat.le_refl _) h rfl h1 h2 (by omega) (Nat.le_refl _)
theorem kH{n:Nat}{f:Nat->Int}{rows:Nat->Nat->Value}(h:∀i,i<n->rows i 0 = .int .u8 (f i)):ak n 1 rows (bP f):=⟨fun i hi j hj=>by
 have:j=0:=by omega
 subst this;exact h i hi⟩
theorem qT{rows:Nat->Nat->Value}{k i:Nat}{v:Value}:kq rows k 0 [v] i 0=if i=k then v else rows i 0:=by
 rw[BM];simp
def Jh(v:Int)(len k:Nat):Int:=uw .u8 (v/2^(8*(len-1-k)))
def cn(i:Nat):Nat:=48*i-6
def kI(i:Nat):Nat:=if i=0 then 42 else 48
def tS(n i:Nat):Nat:=min (kI i) (n-min (cn i) n)
def qJ(g:dG)(i:Nat)(run:Int)(j:Nat):Int :=
 if j<4 then 0 else if j<10 then Jh (uw .u64 g.gen) 6 (j-4)else if j<14 then Jh (uw .u64 run) 4 (j-10)else if j<15 then(i:Int)else if j<16 then(tS g.buf.length i:Int)
 else if i=0 then(if j<22 then Jh (uw .u64 g.base) 6 (j-16)else if j-22<tS g.buf.length i then gl g.buf (j-22)else 0)
 else if j-16<tS g.buf.length i then gl g.buf (cn i+(j-16))else 0
def wo(f:Nat->Int):Int:=dI .xor .u32 4294967295 (qQ (fun k=>f (4+k)) 60)
def pV(g:dG)(i:Nat)(run:Int)(j:Nat):Int:=if j<4 then Jh (wo (qJ g i run)) 4 j else qJ g i run j
theorem xq{f:Nat->Int}{r len:Nat}{v:Int}(h:len<=8):ue (bP f) r len v len=bP fun i=>if r<=i/\i<r+len then Jh v len (i-r)else f i:=by
 funext i j;simp only[ue,bP];by_cases hi:r<=i/\i<r+len
 ·rw[if_pos (by omega),if_pos hi];simp only[Jh];rw[show min (8*(r+len-1-i)) 64=8*(len-1-(i-r))by omega]
 ·rw[if_neg (by omega),if_neg hi]
structure S5 where
 H:PH
 y:mU
 g:dG
 i:Nat
 run:Int
noncomputable def GZ:cE where
 α:=S5
 β:=Unit
 m:=1
 m':=2
 pre:=fun a=>oE a.H a.y a.g/\a.i<8/\a.g.buf.length<=378
 args:=fun a=>[.a (.val (pv a.y.b 0)),.a (.int .i64 a.i),.a (.int .i64 a.run)]
 hp:=fun _=>[]
 ro:=fun a=>[(0,.cA a.H)]
 post:=fun _ _=>True
 res:=fun _ _=>.a (.slc 1 0 1 64 64)
 cZ:=fun a _=>[(1,.arr 5 [.int .u8] 64 (bP (pV a.g a.i a.run)))]
def kJ(f:Value)(g:Nat)(h:Nat->Option (Nat×List Value))(i:Nat->List Value->Prop)(j:Nat->Nat->Nat->List Value->Prop):Nat->Prop:=fun(v:Nat)=>∃w:Nat,f=pv v w/\∃s t:Nat,pv v w=pv s t/\∃x y z:Nat,∃u:List Value,pv s (t+g)=pv x (y+z)/\h x=some (y,u)/\i z u/\j x y z u
def gL(u:Value)(v:Nat)(w:Nat->Option (Nat×List Value))(s:Value->Prop)(t:Nat->List Value->Prop):Nat->Prop:=kJ u v (fun x=>w x) (fun x z=>(∃y:Value,z[x]? = some y/\s y)/\True) fun x z y f=>t y f
def gA(y:Value):=∃z:Option Go.Addr,∃x u:Nat,y=Value.slice z x u/\x<=aq
def ew(x:Value):=aC x.oneCell'
def jw(y:Value):Int->Prop:=fun(x:Int)=>y=dV x/\ah x
def iD(z:Value)(u:Nat)(v:Nat->Option (Nat×List Value))(w:Nat->List Value->Prop):=Exists (gL z u (fun x=>v x) (fun x=>Exists (jw x)) fun x y=>ah (jP (aT y x))->w x y)
def xu(y z u:Nat)(w:Int)(s:Nat)(t:Nat->Nat->Value)(f:mH->Prop):=∃x:mH,(y=x.r/\z=x.len/\u=x.cap)/\w=x.v/\aK x.n s 1 t x.rows/\(x.r+x.len<=x.n/\x.len<=8)/\aI (f x)
def G2(u:Prop)(y:mH)(z:Nat->Nat->Value)(v:mH->Prop):=uJ u (dS 4 64) (∃x:zo,b8 1 (1=x.c)/\(4=x.r/\60=x.len/\60=x.cap)/\aK x.n y.n 1 z x.rows/\(x.r+x.len<=x.n/\x.len<100000)/\aI (xu 0 4 64 (uL x x.len) y.n z fun w=>v w))
def jS(u:PH)(v:Value)(w:CK)(s:List CK)(t:Nat->Nat->(Nat->Nat->Value)->Prop):Nat->Prop:=fun(x:Nat)=>∃y:Nat,∃z:Nat->Nat->Value,kr u v (w::s) x y z/\t x y z
def mW(z:Value)(u:Nat)(v:Nat->Option (Nat×List Value))(w:Nat->List Value->Prop):=Exists (gL z u (fun x=>v x) (fun x=>ew x) fun x y=>gA (aT y x)/\w x y)
def s9(x:List Value)(y z u:Nat):Value:=nF 1 (aT x y) z u (jF (aT x y))
def L6(x:S5)(w:mH)(j:Nat->Nat->Value)(k t:Nat):Nat->Prop:=gL (pv x.y.b 0) 3 (fun z=>x.H z) (fun z=>ew z) fun z u=>mW (pv x.y.b 0) 3 (fun v=>x.H v) fun v f=>o5 (af x.i*(48:Int)) 6 (Gb (aT u z)/\dc (rz 0 (af x.i*(48:Int)-6) (af (di (aT f v)))) (di (aT u z))/\64<=w.n/\Exists (jS x.H (s9 u z (aX (rz 0 (af x.i*(48:Int)-6) (af (di (aT f v))))) (di (aT u z))) (CK.int .u8) [] fun h m l=>bq 15 64/\G2 (15<w.n) w (kq (oU j k (min h t) l) 15 0 (uP (min h t))) fun s=>Exists (ay (bG 64 64/\bl (aK 64 s.n 1 (lG s s.len) (bP (pV x.g x.i x.run)))))))
def ta:Nat->Nat->Value:=fun(y x:Nat)=>aT (bD (fM 0)) x
theorem L7:fnBody (Y Tryz.prog) [(196,CE),(203,SP)] 229 GZ fun _=>[]:=fnBody.of (p :=
 ∀x:S5,oE x.H x.y x.g/\x.i<8/\ai x.g.buf<=378->l9 64 64 (dS 10 64/\dS 4 10/\iD (pv x.y.b 0) 0 (fun u=>x.H u) fun u t=>xu 4 6 60 (cM (jP (aT t u))) 64 ta fun v=>dS 14 64/\dS 10 14/\xu 10 4 54 (cM x.run) v.n (lG v v.len) fun z=>bq 14 64/\14<z.n/\dS 16 64/\az (af x.i == (0:Int)) (dS 6 48/\iD (pv x.y.b 0) 1 (fun w=>x.H w) fun w f=>xu 16 6 48 (cM (jP (aT f w))) z.n (kq (lG z z.len) 14 0 (uP x.i)) fun s=>dS 6 48/\Exists (L6 x s (lG s s.len) 22 42)) (Exists (L6 x z (kq (lG z z.len) 14 0 (uP x.i)) 16 48)))) (by kernel_rfl) (by
 delta az aT ai gL aK ah b8 pL af kJ bD fM aC dV aX bq uJ bV aW dS gA aI bG ew iD L6 G2 cM jS l9 ay ag xu uL lG ta bl o5 rz mW mP dc jw uK uP s9
 try dsimp -iota -proj only
 rintro⟨H,y,g,i,run⟩ ⟨hs,hi,hlen⟩;dsimp only at hs hi hlen ⊢;have hc:=hs.cell;obtain⟨r1,r2,r3⟩:=hs.Bq;obtain⟨b1,b2,b3,b4,⟨ba,bc,b5⟩,b6⟩:=hs.buf.len;obtain⟨S,hS⟩:∃S,S=min (cn i) g.buf.length:=⟨_,rfl⟩
 have hmm:(bif false then max (bif true then max 0 ((i:Int)*48-6)else min 0 ((i:Int)*48-6)) (g.buf.length:Int)else min (bif true then max 0 ((i:Int)*48-6)else min 0 ((i:Int)*48-6)) (g.buf.length:Int))=(S:Int):=by
  simp only[cond_true,cond_false,cn]at *;omega
 have hcut:=hs.buf.cut (a:=S) (e:=g.buf.length) (by omega) (Nat.le_refl _)
 repeat refine lB ?_
 refine⟨_,_,rfl,?_⟩;refine⟨_,_,rfl,?_⟩;refine⟨_,0,_,_,rfl,hc,?_⟩;refine⟨⟨⟨_,rfl,_,rfl,r1⟩,trivial⟩,fun _=>⟨⟨4,6,60,uw .u64 g.gen,64,bP fun _=>0⟩,?_⟩⟩
 and_intros<;>first|exact dg|rfl|exact kH fun _ _=>rfl|skip
 intro _ _;obtain⟨F1,hF1⟩:∃F:Nat->Int,F=fun k=>if 4<=k/\k<4+6 then Jh (uw .u64 g.gen) 6 (k-4)else 0:=⟨_,rfl⟩
 obtain⟨F2,hF2⟩:∃F:Nat->Int,F=fun k=>if 10<=k/\k<10+4 then Jh (uw .u64 run) 4 (k-10)else F1 k:=⟨_,rfl⟩
 rw[show ue (bP fun _=>0) 4 6 (uw .u64 g.gen) 6=bP F1 by rw[xq (by omega),hF1]]
 repeat refine lB ?_
 refine⟨⟨10,4,54,uw .u64 run,64,bP F1⟩,?_⟩
 and_intros<;>first|exact dg|rfl|skip
 intro _ _;rw[show ue (bP F1) 10 4 (uw .u64 run) 4=bP F2 by rw[xq (by omega),hF2]];have hi8:uw .u8 (i:Int)=i:=by simp only[uw];omega
 have hsec:∀(F:Nat->Int),(∀k,k<64->F k=qJ g i run k)->∀k,k<64->(if 0<=k/\k<0+4 then Jh (dI .xor .u32 4294967295 (qQ (fun i_1=>u8 (bP (qJ g i run)) (4+i_1)) 60)) 4 (k-0)else qJ g i run k)=pV g i run k:=by
  intro F hF k hk;simp only[pV,wo,Nat.zero_add,Nat.sub_zero,Nat.zero_le,true_and];rfl
 repeat refine lB ?_
 rw[hi8];refine⟨fun c1=>?_,fun c1=>?_⟩
 ·have hi0:i=0:=by simpa using c1
  subst hi0;obtain⟨F3,hF3⟩:∃F:Nat->Int,F=fun k=>if k=14 then 0 else F2 k:=⟨_,rfl⟩
  obtain⟨F4,hF4⟩:∃F:Nat->Int,F=fun k=>if 16<=k/\k<16+6 then Jh (uw .u64 g.base) 6 (k-16)else F3 k:=⟨_,rfl⟩
  repeat refine lB ?_
  refine⟨_,_,rfl,?_⟩;refine⟨_,_,rfl,?_⟩;refine⟨_,0,_,_,rfl,hc,?_⟩;refine⟨⟨⟨_,rfl,_,rfl,r2⟩,trivial⟩,fun _=>⟨⟨16,6,48,uw .u64 g.base,64,bP F3⟩,?_⟩⟩
  and_intros<;>first|exact dg|rfl|exact kH (fun k hk=>by rw[qT,hF3];simp only[bP];split<;>rfl)|skip
  intro _ _;rw[show ue (bP F3) 16 6 (uw .u64 g.base) 6=bP F4 by rw[xq (by omega),hF4]]
  repeat refine lB ?_
  refine⟨_,_,rfl,?_⟩;refine⟨_,_,rfl,?_⟩;refine⟨_,0,_,_,rfl,hc,?_⟩;refine⟨⟨⟨_,rfl,b6⟩,trivial⟩,?_⟩;refine⟨_,_,rfl,?_⟩;refine⟨_,_,rfl,?_⟩;refine⟨_,0,_,_,rfl,hc,?_⟩;refine⟨⟨⟨_,rfl,b6⟩,trivial⟩,⟨ba,_,bc,b5,b3⟩,?_⟩;simp only[de,List.getD_cons_succ,List.getD_cons_zero,b1,hmm,Int.toNat_natCast]
  repeat refine lB ?_
  refine⟨_,_,_,hcut,?_⟩
  repeat refine lB ?_
  obtain⟨U,hU⟩:∃U,U=tS g.buf.length 0:=⟨_,rfl⟩
  have hU2:min (g.buf.length-S) 42=U:=by rw[hU,hS];simp only[tS,kI,cn,if_true];omega
  have hUs:(uw .u8 ((min (g.buf.length-S) 42:Nat):Int))=(U:Int):=by rw[hU2];simp only[uw];omega
  have hS0:S=0:=by rw[hS];simp[cn]
  have hfin:ak 64 1 (kq (oU (bP F4) 22 (min (g.buf.length-S) 42) fun i=>aa cH g.buf (S+i)) 15 0 [Value.int .u8 (uw .u8 ((min (g.buf.length-S) 42:Nat):Int))]) (bP (qJ g 0 run)):=by
   rw[hUs,hU2,hS0];refine kH fun k hk=>?_;rw[qT];simp only[oU,bP,aa,cH,List.getD_cons_zero,Nat.zero_add,hF4,hF3,hF2,hF1,qJ,<- hU,if_true]
   (repeat' split)<;>first|rfl|(exfalso;omega)|skip
  refine⟨zo.mk 1 4 60 60 64 (bP (qJ g 0 run)),?_⟩
  and_intros<;>first|exact dg|exact hfin|skip
  intro _ _;refine⟨mH.mk 0 4 64 (dI .xor .u32 4294967295 (qQ (fun i_1=>u8 (bP (qJ g 0 run)) (4+i_1)) 60)) 64 (bP (qJ g 0 run)),?_⟩
  and_intros<;>first|exact dg|exact hfin|skip
  intro _ _;refine⟨(),?_⟩;have hlast:ak 64 1 (ue (bP (qJ g 0 run)) 0 4 (dI .xor .u32 4294967295 (qQ (fun i_1=>u8 (bP (qJ g 0 run)) (4+i_1)) 60)) 4) (bP (pV g 0 run)):=by
   rw[xq (by omega)];exact kH fun k hk=>by simp only[bP];rw[hsec _ (fun _ _=>rfl) k hk]
  and_intros<;>first|exact dg|exact hlast|skip
 ·have hi0:i≠0:=by simpa using c1
  repeat refine lB ?_
  refine⟨_,_,rfl,?_⟩;refine⟨_,_,rfl,?_⟩;refine⟨_,0,_,_,rfl,hc,?_⟩;refine⟨⟨⟨_,rfl,b6⟩,trivial⟩,?_⟩;refine⟨_,_,rfl,?_⟩;refine⟨_,_,rfl,?_⟩;refine⟨_,0,_,_,rfl,hc,?_⟩;refine⟨⟨⟨_,rfl,b6⟩,trivial⟩,⟨ba,_,bc,b5,b3⟩,?_⟩;simp only[de,List.getD_cons_succ,List.getD_cons_zero,b1,hmm,Int.toNat_natCast]
  repeat refine lB ?_
  refine⟨_,_,_,hcut,?_⟩
  repeat refine lB ?_
  obtain⟨U,hU⟩:∃U,U=tS g.buf.length i:=⟨_,rfl⟩
  have hU2:min (g.buf.length-S) 48=U:=by rw[hU,hS];simp only[tS,kI,if_neg hi0];omega
  have hUs:(uw .u8 ((min (g.buf.length-S) 48:Nat):Int))=(U:Int):=by rw[hU2];simp only[uw];omega
  have hfin:ak 64 1 (kq (oU (kq (bP F2) 14 0 [Value.int .u8 (i:Int)]) 16 (min (g.buf.length-S) 48) fun i=>aa cH g.buf (S+i)) 15 0 [Value.int .u8 (uw .u8 ((min (g.buf.length-S) 48:Nat):Int))]) (bP (qJ g i run)):=by
   have hSU:0<U->S=cn i:=by rw[hU,hS];simp only[tS];omega
   rw[hUs,hU2];refine kH fun k hk=>?_;rw[qT];simp only[oU,bP,aa,cH,List.getD_cons_zero,qT,hF2,hF1,qJ,<- hU,if_neg hi0]
   (repeat' split)<;>first|rfl|(exfalso;omega)|(rw[hSU (by omega)];done)|skip
  refine⟨zo.mk 1 4 60 60 64 (bP (qJ g i run)),?_⟩
  and_intros<;>first|exact dg|exact hfin|skip
  intro _ _;refine⟨mH.mk 0 4 64 (dI .xor .u32 4294967295 (qQ (fun i_1=>u8 (bP (qJ g i run)) (4+i_1)) 60)) 64 (bP (qJ g i run)),?_⟩
  and_intros<;>first|exact dg|exact hfin|skip
  intro _ _;refine⟨(),?_⟩;have hlast:ak 64 1 (ue (bP (qJ g i run)) 0 4 (dI .xor .u32 4294967295 (qQ (fun i_1=>u8 (bP (qJ g i run)) (4+i_1)) 60)) 4) (bP (pV g i run)):=by
   rw[xq (by omega)];exact kH fun k hk=>by simp only[bP];rw[hsec _ (fun _ _=>rfl) k hk]
  and_intros<;>first|exact dg|exact hlast|skip)
theorem L8:au (Y Tryz.prog).G.X 229 GZ:=aU fL L7 ⟨BJ,GG,trivial⟩
structure bQ where
 from_:Nat
 av:Nat
 l:List dG
 next:Int
 run:Int
 fresh:Bool
 deriving Inhabited
structure iu where
 lv:Value
 ys:List mU
def aac(t:Nat)(L:bQ)(lv:Value):List A:=[.ptr t 0 0 0,.int .i64 L.from_,.int .i64 L.av,.val lv,.int .i64 L.next,.int .i64 L.run,.bool L.fresh]
@[reducible] def rC(a b:bQ)(v w:Value)(p:Prop):Prop:=(↑a.from_:Int)=(↑b.from_:Int)/\(↑a.av:Int)=(↑b.av:Int)/\v=w/\a.next=b.next/\a.run=b.run/\a.fresh=b.fresh/\p
def fF(t:Nat)(L:bQ)(lv:Value):Chunk:=.obj 254 (aac t L lv)
def jY(L:bQ)(g:dG)(i:Nat):Nat:=L.from_+(g.gen-1).toNat%L.av*8+i
structure tc where
 H:PH
 y:mU
 g:dG
 i:Nat
 L:bQ
 lv:Value
 d:bA
noncomputable def G3:cE where
 α:=tc
 β:=Unit
 m:=4
 m':=4
 pre:=fun a=>oE a.H a.y a.g/\a.i<8/\a.g.buf.length<=378/\1<=a.g.gen/\3<=a.L.av/\a.L.av<=200/\a.L.from_+a.L.av*8<=a.d.n/\a.d.n<100000/\a.d.calls<1000000000000
 args:=fun a=>[.a (.ptr 0 0 0 0),.a (.val (pv a.y.b 0)),.a (.int .i64 a.i)]
 hp:=fun a=>gJ 1 2 a.d
 ro:=fun a=>[(0,fF 1 a.L a.lv),(3,.cA a.H)]
 post:=fun _ _=>True
 res:=fun _ _=>.a (.lit .i64 0)
 cZ:=fun a _=>gJ 1 2 (gu a.d (jY a.L a.g a.i) 64 (pV a.g a.i a.L.run))
def xw(x:LR)(y:bA)(z:Nat)(u:Nat->Nat->Value)(v:Prop):=(0=x.r/\64=x.len/\64=x.cap)/\iY y x.d (aK x.n z 1 u (bP x.src)/\uN x/\aI v)
def zF(x:tc):=oE x.H x.y x.g/\x.i<8/\ai x.g.buf<=378/\(1:Int)<=x.g.gen/\3<=x.L.av/\x.L.av<=200/\x.L.from_+x.L.av*8<=x.d.n/\kE x.d
def bz(x y:Nat):=af x=af y
def zG(x:tc):bA:=gu x.d (jY x.L x.g x.i) 64 (pV x.g x.i x.L.run)
def kK(x y:Nat):=pv x 0=pv y 0
def G4(x:bQ)(y:Int)(z:Nat)(u:Prop):=ah (af x.from_)->ah (y*(8:Int))/\nS (af x.from_+y*(8:Int)) (af z) u
theorem P3:fnBody (Y Tryz.prog) [(229,GZ),(81,p5)] 198 G3 fun _=>[]:=fnBody.of (p :=
 ∀x:tc,zF x->iD (pv x.y.b 0) 0 (fun u=>x.H u) fun u v=>ah (jP (aT v u)-(1:Int))/\(ah (af x.L.av)->af x.L.av≠(0:Int)/\G4 x.L ((jP (aT v u)-(1:Int)).tmod (af x.L.av)) x.i (ah x.L.run->∃z:S5,kK x.y.b z.y.b/\bz x.i z.i/\x.L.run=z.run/\x.H=z.H/\(oE z.H z.y z.g/\z.i<8/\ai z.g.buf<=378)/\aI (∃w:LR,ag (af x.L.from_+(jP (aT v u)-(1:Int)).tmod (af x.L.av)*(8:Int)+af x.i=af w.i/\xw w x.d 64 (bP (pV z.g z.i z.run)) (Exists (ay (aV (iY (me w) (zG x) (True/\True)))))))))) (by kernel_rfl) (by
 delta aT ai gL aK ah aD af kJ dV aI iD kE me xw aV ay ag zF nS uN bz zG kK G4 jw
 try dsimp -iota -proj only
 rintro⟨H,y,g,i,L,lv,d⟩ ⟨hs,hi,hlen,hg,s1,s2,h3,h4,h5⟩;dsimp only at *;have hc:=hs.cell;obtain⟨r1,r2,r3⟩:=hs.Bq;have hm:(g.gen-1).tmod (L.av:Int)=(((g.gen-1).toNat%L.av:Nat):Int):=by
  rw[Int.tmod_eq_emod_of_nonneg (by omega),Int.natCast_emod];congr 1;omega
 have hml:(g.gen-1).toNat%L.av<L.av:=Nat.mod_lt _ (by omega);have hsn:((L.from_:Int)+(((g.gen-1).toNat%L.av:Nat):Int)*8+i)=(jY L g i:Nat):=by simp only[jY];omega
 have hlt:jY L g i<d.n:=by simp only[jY];omega
 refine⟨_,_,rfl,?_⟩;refine⟨_,_,rfl,?_⟩;refine⟨_,0,_,_,rfl,hc,?_⟩;refine⟨⟨⟨_,rfl,_,rfl,r1⟩,trivial⟩,fun _=>?_⟩;simp only[de,List.getD_cons_zero,jP,hm];refine⟨by simp only[bR]at *;omega,fun _=>⟨by omega,fun _=>⟨by simp only[bR];omega,by simp only[bR];omega,by simp only[bR];omega,fun _=>?_⟩⟩⟩;rw[hsn];refine⟨S5.mk H y g i L.run,?_⟩
 and_intros<;>first|exact dg|skip
 intro _ _;refine⟨LR.mk d (jY L g i) 0 64 64 64 (pV g i L.run),?_⟩;simp only[Nat.zero_add]
 (repeat' (first|apply And.intro|(intro _)|apply Exists.intro ()))<;>first|exact dg|skip)
theorem Fb:au (Y Tryz.prog).G.X 198 G3:=aU fL P3 ⟨L8,pT,trivial⟩
instance:Inhabited mU:=⟨⟨0,undef,undef,[]⟩⟩
def zH(ys:List mU):Nat->Nat->Value:=fun i _=>pv (gl ys i).b 0
structure bY(H:PH)(y:iu)(L:bQ):Prop where
 Ji:∃c,kr H y.lv [.deep] L.l.length c (zH y.ys)
 len:y.ys.length=L.l.length
 seg:∀i,i<L.l.length->oE H (gl y.ys i) (gl L.l i)
 nd:(fN y.lv++y.ys.flatMap bw).Nodup
def bt(y:iu):List Nat:=fN y.lv++y.ys.flatMap bw
theorem bY.at_{H:PH}{y:iu}{L:bQ}(h:bY H y L){i:Nat}(hi:i<L.l.length):∃b lo o c cs,y.lv=fc b (lo+o) L.l.length c/\H b=some (lo,cs)/\cs[o+i*1]? = some (pv (gl y.ys i).b 0)/\cs.getD (o+i*1) (Value.tuple #[])=pv (gl y.ys i).b 0:=by
 obtain⟨c,h⟩:=h.Ji;rcases h with⟨_,h0,_⟩ | ⟨b,lo,o,cs,h1,h2,h3,h4,h5⟩
 ·omega
 ·have:=(h5.at_ i hi 0 .deep rfl).1;exact⟨b,lo,o,c,cs,h1,h3,this,by rw[List.getD_eq_getElem?_getD,show cs[o+i*1]? = some (pv (gl y.ys i).b 0)from this];rfl⟩
theorem bY.rD{H:PH}{y:iu}{L:bQ}(h:bY H y L):di y.lv=L.l.length/\Gb y.lv/\(∃a c,y.lv = .slice a L.l.length c)/\L.l.length<=aq/\y.lv.oneCell'=true:=by
 obtain⟨c,h⟩:=h.Ji;obtain⟨h1,h2,h3,h4,h5,⟨a,h6⟩,h7⟩:=fh h;exact⟨h1,h5,⟨a,c,h6⟩,by omega,h7⟩
def bn(L:bQ):dG:=⟨(match L.l.getLast? with|some g=>g.gen+1|none=>1),L.next,0,[],[]⟩
theorem kL{H:PH}{v:Value}{x:Nat}(h:x∉fN v):aL H v x=H x:=by
 unfold aL;split
 ·rename_i b o p l c;exact zb (fun e=>h (by simp[fN,e]))
 ·rfl
theorem vU{ys:List mU}{i x:Nat}(hi:i<ys.length)(hx:x∈bw (gl ys i)):x∈ys.flatMap bw:=by
 rw[bT hi]at hx;exact List.mem_flatMap.2 ⟨_,List.getElem_mem _,hx⟩
theorem S6{ys:List mU}{x:Nat}(hx:x∈ys.flatMap bw):∃i,i<ys.length/\x∈bw (gl ys i):=by
 obtain⟨y,hy,hx⟩:=List.mem_flatMap.1 hx;obtain⟨i,hi,rfl⟩:=List.getElem_of_mem hy;exact⟨i,hi,by rw[bT hi];exact hx⟩
theorem bY.dom{H:PH}{y:iu}{L:bQ}(h:bY H y L):∀x∈bt y,H x≠none:=by
 intro x hx;rcases List.mem_append.1 hx with hx|hx
 ·obtain⟨c,hl⟩:=h.Ji;exact mV hl x hx
 ·obtain⟨i,hi,hx⟩:=S6 hx;exact(h.seg i (by rw[<- h.len];exact hi)).dom x hx
theorem bY.frame{H H':PH}{y:iu}{L:bQ}(h:bY H y L)(e:∀x∈bt y,H' x=H x):bY H' y L:=by
 obtain⟨c,hl⟩:=h.Ji;refine⟨⟨c,iS hl fun x hx=>e x (List.mem_append_left _ hx)⟩,h.len,fun i hi=>(h.seg i hi).frame fun x hx=>e x (List.mem_append_right _ (vU (by rw[h.len];exact hi) hx)),h.nd⟩
theorem kM{α:Type}[Inhabited α]{l:List α}{x:α}{i:Nat}(h:i<l.length+1):gl (l++[x]) i=if i<l.length then gl l i else x:=by
 by_cases hi:i<l.length
 ·rw[if_pos hi,bO hi]
 ·rw[if_neg hi,show i=l.length+0 by omega,bf];rfl
def newL(b:Nat):mU:=⟨b,.slice none 0 0,.slice none 0 0,[]⟩
theorem Fc{H:PH}{b:Nat}{L:bQ}(h1:bR .i64 L.next)(h2:bR .i64 (bn L).gen):oE (aN H b 0 (de (bn L) (.slice none 0 0) (.slice none 0 0))) (newL b) (bn L) :=
 ⟨dN ..,⟨h2,h1,by show bR .i64 0;simp only[bR];omega⟩,⟨0,.inl ⟨rfl,rfl,rfl⟩⟩,⟨0,.inl ⟨rfl,rfl,rfl⟩⟩,rfl,fun i hi=>absurd hi (Nat.not_lt_zero i)⟩
structure fW(H:PH)(y:mU)(g:dG):Prop where
 at_:oE H y g
 nd:(bw y).Nodup
theorem G6{H:PH}{y:iu}{L:bQ}{sl:mU}{g:dG}{b' lo cap:Nat}{cs:List Value}{R:Nat->Nat->Value}(hl:bY H y L)(hs:fW H sl g)(hd:∀x∈bt y,x∉bw sl)
 (hb':aL H y.lv b'=none) (hcs:cs.length=cap*1) (hc:L.l.length+1<=cap) (hc2:cap<=aq) (hp:AR cs 0 [.deep] (L.l.length+1) R)
 (hR:∀i,i<L.l.length+1->R i 0=zH (y.ys++[sl]) i 0) {L':bQ} (hL':L'.l=L.l++[g]) :
 bY (aN (aL H y.lv) b' lo cs) ⟨fc b' lo (L.l.length+1) cap,y.ys++[sl]⟩ L' /\
 ∀x,H x≠none->x∉bt y->x∉bw sl->aN (aL H y.lv) b' lo cs x=H x/\x∉bt ⟨fc b' lo (L.l.length+1) cap,y.ys++[sl]⟩:=by
 have hdm:=hl.dom;have hds:=hs.at_.dom;have hnd:=hl.nd;rw[List.nodup_append]at hnd;obtain⟨n1,n2,n3⟩:=hnd;have hFl:∀x∈y.ys.flatMap bw,x∉fN y.lv:=fun x hx e=>n3 x e x hx rfl;have hSl:∀x∈bw sl,x∉fN y.lv:=fun x hx e=>hd x (List.mem_append_left _ e) hx;have hSF:∀x∈bw sl,x∉y.ys.flatMap bw:=fun x hx e=>hd x (List.mem_append_right _ e) hx;have hm:∀x,x∉fN y.lv->aL H y.lv x=H x:=fun x hx=>kL hx;have hbF:b'∉y.ys.flatMap bw:=fun e=>by
  have:=hdm b' (List.mem_append_right _ e);rw[hm b' (hFl b' e)]at hb';exact this hb'
 have hbS:b'∉bw sl:=fun e=>by
  have:=hds b' e;rw[hm b' (hSl b' e)]at hb';exact this hb'
 have hfp:bt ⟨fc b' lo (L.l.length+1) cap,y.ys++[sl]⟩=b'::(y.ys.flatMap bw++bw sl):=by
  simp[bt,fN,fc]
 have hlen:L'.l.length=L.l.length+1:=by rw[hL'];simp
 refine⟨⟨⟨cap,.inr ⟨b',lo,0,cs,?_,⟨?_,hc2⟩,dN ..,by simp[hcs],?_⟩⟩,?_,?_,?_⟩,?_⟩
 ·rw[hlen];simp only[Nat.add_zero]
 ·rw[hlen];exact hc
 ·rw[hlen];refine⟨fun i hi j k hj=>?_⟩;have:=hp.at_ i hi j k hj;have hj0:j=0:=by have:=(List.getElem?_eq_some_iff.1 hj).1;simpa using this
  subst hj0;rw[hR i hi]at this;exact this
 ·rw[hlen];simp[hl.len]
 ·intro i hi;rw[hlen]at hi;rw[hL',kM hi];show oE _ (gl (y.ys++[sl]) i) _;rw[kM (by rw[hl.len];exact hi),hl.len];by_cases hin:i<L.l.length
  ·rw[if_pos hin,if_pos hin];refine(hl.seg i hin).frame fun x hx=>?_;have hxF:=vU (by rw[hl.len];exact hin) hx;rw[cK (fun e=>hbF (by rw[<- e];exact hxF)),hm x (hFl x hxF)]
  ·rw[if_neg hin,if_neg hin];refine hs.at_.frame fun x hx=>?_;rw[cK (fun e=>hbS (by rw[<- e];exact hx)),hm x (hSl x hx)]
 ·show(bt ⟨fc b' lo (L.l.length+1) cap,y.ys++[sl]⟩).Nodup;rw[hfp,List.nodup_cons,List.nodup_append];refine⟨?_,n2,hs.nd,?_⟩
  ·simp only[List.mem_append,not_or];exact⟨hbF,hbS⟩
  ·intro x hx z hz e;subst e;exact hSF x hz hx
 ·intro x hx hxn hxs;have hxl:x∉fN y.lv:=fun e=>hxn (List.mem_append_left _ e);have hxF:x∉y.ys.flatMap bw:=fun e=>hxn (List.mem_append_right _ e);have hxb':x≠b':=fun e=>by
   rw[<- e,hm x hxl]at hb';exact hx hb'
  refine⟨by rw[cK hxb',hm x hxl],?_⟩;rw[hfp];simp only[List.mem_cons,List.mem_append,not_or];exact⟨hxb',hxF,hxs⟩
theorem bY.congr{H:PH}{y:iu}{L L':bQ}(h:bY H y L)(e:L'.l=L.l):bY H y L':=⟨by rw[e];exact h.Ji,by rw[e];exact h.len,by rw[e];exact h.seg,h.nd⟩
structure nC where
 H:PH
 y:iu
def jZ(t s:Int)(g:dG):Bool:=decide (t-s<g.gen)
structure uU where
 H:PH
 y:iu
 L:bQ
 gb:Nat
 t:Int
structure tf(a:uU):Prop where
 log:bY a.H a.y a.L
 yw:a.L.l.length<1000
 av:a.L.av<=200
 t:bR .i64 a.t/\0<=a.t
 cell:∃r,a.H a.gb=some (0,.int .i64 a.t::r)
 far:a.gb∉bt a.y
noncomputable def S7:cE where
 α:=uU
 β:=Int
 m:=5
 m':=5
 pre:=fun a=>tf a
 args:=fun a=>[.a (.val a.y.lv),.Bz 228 [.ptr 0 0 0 0,.ptr 1 0 0 0]]
 hp:=fun _=>[]
 ro:=fun a=>[(0,.obj 289 [.val (pv a.gb 0)]),(1,.obj 202 [.ptr 2 0 0 0]),(2,fF 4 a.L a.y.lv),(3,.cA a.H)]
 post:=fun a r=>(r = -1/\∀i,i<a.L.l.length->jZ a.t a.L.av (gl a.L.l i)=true)\/∃i:Nat,r=i/\i<a.L.l.length/\jZ a.t a.L.av (gl a.L.l i)=false/\∀j,j<i->jZ a.t a.L.av (gl a.L.l j)=true
 res:=fun _ r=>.a (.int .i64 r)
 cZ:=fun _ _=>[]
def Zq(a:uU):An:=.flat 2 Nat (fun s k=>s.int 8 k) (fun _ k=>k<=a.L.l.length/\∀j,j<k->jZ a.t a.L.av (gl a.L.l j)=true) (fun _ k=>a.L.l.length-k)
def mX(w s t:Nat)(f:Nat->Option (Nat×List Value))(g:Value->Prop)(h i:Nat->List Value->Prop):Nat->Prop:=fun(z:Nat)=>∃u x:Nat,∃y:List Value,pv w (s+t)=pv z (u+x)/\f z=some (u,y)/\((∃v:Value,y[x]? = some v/\g v)/\h x y)/\i x y
def cS(x:Value):=x=x
def iT(u:Value)(v:Int)(w:Nat->Nat->Prop):Nat->Prop:=fun(x:Nat)=>∃y z s:Nat,u=fc x y z s/\cF v z/\w x y
def qv(y:Nat)(u:Value)(v:Nat)(w:Nat->Option (Nat×List Value))(s:Value->Prop)(t f:Nat->List Value->Prop)(g:Prop):=aY (af y) (di u) (Exists (iT u (af y) fun h i=>Exists (mX h i (aA y*v) (fun x=>w x) (fun x=>s x) (fun x z=>t x z) fun x z=>f x z))) g
def ey(y x:Nat)(z:Prop)(u:Nat):=(y<=x/\z)/\x-y<x-u
def bB(x:bQ):Nat:=x.l.length
def fH(x:bQ)(y:iu)(z:Prop):=rC x x y.lv y.lv z
def xx(z:Nat)(x:uU):=∀y:Nat,y<z->aC (jZ x.t (af x.L.av) (gl x.L.l y))
def CQ(z:Int)(x:uU):=z=(-1:Int)/\xx (bB x.L) x\/∃y:Nat,z=af y/\y<bB x.L/\aW (jZ x.t (af x.L.av) (gl x.L.l y))/\xx y x
def ax(x:Prop):=b8 0 x
def th(x y:Int)(z u:Prop):=ah x/\az (cC y x) z u
def G7(y:iu)(u:Nat)(f g:Nat->Prop)(h i j:Nat->Option (Nat×List Value))(s:Int)(k:Nat->Prop)(l:Nat->Nat->Prop)(m:Prop):=gA y.lv/\(∃x:Nat,aF x (bZ (af (di y.lv)) 0 (cS y.lv) (ax (cS (pv u 0)/\f x))))/\∀x:Nat,g x->qv x y.lv 1 (fun z=>h z) (fun z=>ew z) (fun z t=>True) (fun z t=>iD (aT t z) 0 (fun v=>i v) fun v n=>iD (pv u 0) 0 (fun w=>j w) fun w o=>ah s->th (jP (aT o w)-s) (jP (aT n v)) (k x) (dz x fun p=>bZ (af (di y.lv)) 0 (cS y.lv) (ax (cS (pv u 0)/\l x p)))) m
theorem S8:fnBody (Y Tryz.prog) [] 234 S7 fun a=>[(234,[Zq a],[])]:=fnBody.of (p :=
 ∀x:uU,tf x->G7 x.y x.gb (fun z=>ax (fH x.L x.y (x.H=x.H/\(z<=bB x.L/\xx z x)/\True))) (fun z=>z<=bB x.L/\xx z x) (fun z=>x.H z) (fun z=>x.H z) (fun z=>x.H z) (af x.L.av) (fun z=>∃u:Int,af z=u/\CQ u x/\True) (fun z u=>ax (fH x.L x.y (x.H=x.H/\ey u (bB x.L) (xx u x) z))) (∃z:Int,(-1:Int)=z/\CQ z x/\True)) (by kernel_rfl) (by
 delta az aT bZ gL ah b8 aA cF aH af kJ mX aC dV aX bq cS aW gA qv dz ey bB ew fH iD CQ aS cC aF iT ag aY xx G7 br ax th jw
 try dsimp -iota -proj only
 rintro⟨H,y,L,gb,T⟩ ⟨hl,h1,h2,⟨h3,h4⟩,⟨gr,hgb⟩,h5⟩;dsimp only at *;obtain⟨e1,_,⟨ea,ec,e2⟩,e3,_⟩:=hl.rD;refine⟨⟨ea,_,ec,e2,e3⟩,⟨0,?_⟩,fun k hk=>⟨fun c1=>?_,fun c1=>⟨-1,?_⟩⟩⟩
 ·(repeat' (first|apply And.intro|(intro _)))<;>first|exact dg|(exfalso;omega)
 ·obtain⟨hk0,hkk⟩:=hk;rw[e1]at c1;have hk:k<L.l.length:=by simpa using c1
  obtain⟨b,lo,o,c,cs,g1,g2,g3,g4⟩:=hl.at_ hk;have hs:=hl.seg k hk;obtain⟨r1,_,_⟩:=hs.Bq;refine⟨_,_,_,_,g1,by omega,b,lo,o+k*1,cs,by rw[Int.toNat_natCast,Nat.add_assoc],g2,⟨⟨_,g3,rfl⟩,trivial⟩,?_⟩;refine⟨_,_,g4,?_⟩;refine⟨_,_,rfl,?_⟩;refine⟨_,0,_,_,rfl,hs.cell,?_⟩;refine⟨⟨⟨_,rfl,_,rfl,r1⟩,trivial⟩,fun _=>?_⟩;refine⟨_,_,rfl,?_⟩;refine⟨_,_,rfl,?_⟩;refine⟨_,0,_,_,rfl,hgb,?_⟩;refine⟨⟨⟨_,rfl,_,rfl,h3⟩,trivial⟩,fun _ _=>?_⟩;simp only[de,List.getD_cons_zero,jP,bR]at h3 ⊢;refine⟨by omega,fun c2=>⟨k,?_⟩,fun c2=>⟨by omega,k+1,?_⟩⟩
  ·have c2:=of_decide_eq_true c2;refine⟨rfl,.inr ⟨k,rfl,hk,?_,hkk⟩,trivial⟩;simp only[jZ,decide_eq_false_iff_not];omega
  ·have c2:=of_decide_eq_false c2;have hn:∀j,j<k+1->jZ T L.av (gl L.l j)=true:=fun j hj=>by
    by_cases e:j=k
    ·subst e;simp only[jZ,decide_eq_true_eq];omega
    ·exact hkk j (by omega)
   and_intros<;>first|exact dg|exact hn
 ·obtain⟨hk0,hkk⟩:=hk;have hk:k=L.l.length:=by rw[e1]at c1;have:=of_decide_eq_false c1;omega
  subst hk;exact⟨rfl,.inl ⟨rfl,hkk⟩,trivial⟩)
theorem S9:au (Y Tryz.prog).G.X 234 S7:=aU fL S8 trivial
def stay(t s:Int)(l:List dG)(j:Nat):List Nat:=(List.range j).filter fun i=>jZ t s (gl l i)
theorem GC{α β:Type}[Inhabited α][Inhabited β]{l:List α}{f:α->β}{i:Nat}(h:i<l.length):gl (l.map f) i=f (gl l i):=by
 rw[bT (by simpa using h),bT h,List.getElem_map]
theorem Ta{α:Type}[Inhabited α](l:List α):(List.range l.length).map (gl l)=l:=by
 refine List.ext_getElem (by simp) fun i h1 h2=>?_;rw[List.getElem_map,List.getElem_range,bT h2]
theorem Tb(t s:Int)(l:List dG):(stay t s l l.length).map (gl l)=l.filter (jZ t s):=by
 have:l.filter (jZ t s)=((List.range l.length).map (gl l)).filter (jZ t s):=by rw[Ta]
 rw[this,List.filter_map];rfl
theorem Fe(t s:Int)(l:List dG)(j:Nat):stay t s l (j+1)=stay t s l j++if jZ t s (gl l j)then[j]else[]:=by
 unfold stay;rw[List.range_succ,List.filter_append];congr 1;cases h:jZ t s (gl l j)<;>simp[h]
theorem Wm{t s:Int}{l:List dG}{j i:Nat}(h:i<(stay t s l j).length):gl (stay t s l j) i<j:=by
 have:gl (stay t s l j) i∈stay t s l j:=by rw[bT h];exact List.getElem_mem _
 exact List.mem_range.1 (List.mem_filter.1 this).1
theorem Bu{α β:Type}{f:α->List β}{l m:List α}(h:l.Sublist m):(l.flatMap f).Sublist (m.flatMap f):=by
 induction h with
 |slnil=>exact List.Sublist.refl _
 |cons a _ ih=>exact ih.trans (by rw[List.flatMap_cons];exact List.sublist_append_right _ _)
 |cons_cons a _ ih=>rw[List.flatMap_cons,List.flatMap_cons];exact(List.Sublist.refl _).append ih
def uV(t:Int)(L:bQ):bQ:={ L with l:=L.l.filter (jZ t L.av) }
structure L9 where
 j:Nat
 rows:Nat->Nat->Value
noncomputable def Tc:cE where
 α:=uU
 β:=nC
 m:=5
 m':=6
 pre:=fun a=>tf a
 args:=fun a=>[.a (.val a.y.lv),.Bz 228 [.ptr 0 0 0 0,.ptr 1 0 0 0]]
 hp:=fun a=>[(3,.cA a.H)]
 ro:=fun a=>[(0,.obj 289 [.val (pv a.gb 0)]),(1,.obj 202 [.ptr 2 0 0 0]),(2,fF 4 a.L a.y.lv)]
 post:=fun a b=>bY b.H b.y (uV a.t a.L)/\∀x,a.H x≠none->x∉bt a.y->b.H x=a.H x/\x∉bt b.y
 res:=fun _ b=>.a (.val b.y.lv)
 cZ:=fun _ b=>[(5,.cA b.H)]
structure Ma(a:uU)(x:L9):Prop where
 le:x.j<=a.L.l.length
 lt:(stay a.t a.L.av a.L.l x.j).length<x.j
 one:∀i,i<a.L.l.length->(x.rows i 0).oneCell'=true
 low:∀i,i<(stay a.t a.L.av a.L.l x.j).length->x.rows i 0=pv (gl a.y.ys (gl (stay a.t a.L.av a.L.l x.j) i)).b 0
 high:∀i,x.j<=i->i<a.L.l.length->x.rows i 0=zH a.y.ys i 0
def Zr(a:uU):An:=.flat 5 L9 (fun s x=>((s.at_ (s.tg 0) (.arr 289 [.deep] a.L.l.length x.rows)).int 5 (stay a.t a.L.av a.L.l x.j).length).int 6 x.j) (fun _ x=>Ma a x) (fun _ x=>a.L.l.length-x.j)
def Zs(a:uU):An:=.S4 4 0 289 [.deep] (.mk 1000 [Zr a] [An.Ov 0 4 (.mk 1000 [] [])])
def mY(x:uU)(y:L9):Nat:=(stay x.t (af x.L.av) x.L.l y.j).length
def xy(x:Option (Nat×List Value))(z:iu)(y:Nat)(u:Option (Nat×List Value))(v:iu):=x≠none->¬y∈bt z->u=x/\¬y∈bt v
def G8(u v:Int)(x:uU)(w s:Nat)(t:Int)(f:Nat)(g:Nat->Nat->Value)(h:L9->Prop):L9->Prop:=fun(z:L9)=>u+(1:Int)=af z.j/\v=af (mY x z)/\bG w s/\bE (t == (-1:Int)) (ax (aK (bB x.L) f 1 g z.rows/\aL x.H x.y.lv=aL x.H x.y.lv/\cS (pv x.gb 0)/\ax (fH x.L x.y (Ma x z/\h z))))
def qw(x:nC)(u:bQ)(v:Nat->Option (Nat×List Value))(w:iu):=bY x.H x.y u/\∀z:Nat,xy (v z) w z (x.H z) x.y
def iU(x:CK):List CK:=[x]
def zI(x y u:Nat)(v:List Value)(w:Nat->Value):Nat->Value:=fun(z:Nat)=>if 0+aA x<=y/\y<0+aA x+(u-aA x)then aT v z else w z
def CR:Value:=Value.pointer none
theorem Td:fnBody (Y Tryz.prog) [(234,S7)] 208 Tc fun a=>[(208,[],[Zs a])]:=fnBody.of (p :=
 ∀x:uU,tf x->∃f:uU,x.y.lv=f.y.lv/\ax (kK x.gb f.gb/\ax (rC x.L f.L x.y.lv f.y.lv (x.H=f.H/\tf f/\∀w:Int,CQ w f->az (w == (-1:Int)) (∃u:nC,x.y.lv=u.y.lv/\x.H=u.H/\qw u (uV x.t x.L) (fun v=>x.H v) x.y/\True) (Exists (jS x.H x.y.lv CK.deep [] fun u v m=>ah (w+(1:Int))/\Exists (G8 w w x u v w u m fun z=>True)/\∀z:L9,Ma x z->mO (af z.j) u (0+aA z.j<bB x.L/\iD (z.rows (0+aA z.j) 0) 0 (fun g=>aL x.H x.y.lv g) fun g k=>iD (pv x.gb 0) 0 (fun s=>aL x.H x.y.lv s) fun s l=>ah (af x.L.av)->ah (jP (aT l s)-af x.L.av)/\az (bg (cC (jP (aT k g)) (jP (aT l s)-af x.L.av))) (cF (af (mY x z)) u/\0+aA (mY x z)<bB x.L/\aS (mY x z)/\aS z.j/\Exists (G8 (af z.j) (af (mY x z)+(1:Int)) x u v w (bB x.L) (kq z.rows (0+aA (mY x z)) 0 (bD (z.rows (0+aA z.j) 0))) fun h=>bB x.L-h.j<bB x.L-z.j)) (aS z.j/\Exists (G8 (af z.j) (af (mY x z)) x u v w (bB x.L) z.rows fun h=>bB x.L-h.j<bB x.L-z.j))) (dc (af (mY x z)) u/\dc (af (mY x z)) v/\(v-0≠0/\0+(aA (mY x z)-0)<=bB x.L)/\∀(g k:Nat) (s:List Value),aL x.H x.y.lv g=none->s.length=(v-0)*1->(AR s 0 (iU CK.deep) (aA (mY x z)-0) fun h=>zI (mY x z) (0+h) u (bD CR) fun i=>z.rows (0+h) i) ->
 ∃i:nC,fc g k (aA (mY x z)-0) (v-0)=i.y.lv/\aN (aL x.H x.y.lv) g k s=i.H/\qw i (uV x.t x.L) (fun n=>x.H n) x.y/\True))))))) (by kernel_rfl) (by
 delta az aT gL aK ah b8 aA bE cF aH af kJ bD aC dV aX bq bV cS aW dS bG bB fH iD mY xy CQ jS aS cC ag G8 aY xx qw ax bg iU mO kK dc jw zI CR
 try dsimp -iota -proj only
 rintro⟨H,y,L,gb,T⟩ hp;obtain⟨hl,h1,h2,⟨h3,h4⟩,⟨gr,hgb⟩,h5⟩:=hp;dsimp only at *;have hp:tf ⟨H,y,L,gb,T⟩:=⟨hl,h1,h2,⟨h3,h4⟩,⟨gr,hgb⟩,h5⟩
 obtain⟨e1,_,⟨ea,ec,e2⟩,e3,_⟩:=hl.rD;have hmap:=Tb T L.av L.l;refine⟨⟨H,y,L,gb,T⟩,rfl,rfl,rfl,rfl,rfl,rfl,rfl,rfl,rfl,rfl,rfl,rfl,rfl,hp,fun r hr=>?_⟩;dsimp only at hr ⊢;refine⟨fun c=>⟨⟨H,y⟩,rfl,rfl,⟨hl.congr ?_,fun x _ hn=>⟨rfl,hn⟩⟩,trivial⟩,fun c=>?_⟩
 ·rcases hr with⟨_,hr⟩ | ⟨i,rfl,_⟩
  ·show L.l.filter (jZ T L.av)=L.l;rw[List.filter_eq_self];intro g hg;obtain⟨i,hi,rfl⟩:=List.getElem_of_mem hg;rw[<- bT hi];exact hr i hi
  ·exfalso;simp at c
 ·obtain⟨r0,rfl,hr1,hr2,hr3⟩:∃i:Nat,r=i/\i<L.l.length/\jZ T L.av (gl L.l i)=false/\∀j,j<i->jZ T L.av (gl L.l j)=true:=by
   rcases hr with⟨rfl,_⟩|h
   ·cases c
   ·exact h
  obtain⟨cl,hlst⟩:=hl.Ji;obtain⟨u1,u2,u3,u4,_⟩:=fh hlst;have hst0:stay T L.av L.l (r0+1)=List.range r0:=by
   rw[Fe,hr2];simp only[Bool.false_eq_true,if_false,List.append_nil];unfold stay;rw[List.filter_eq_self];exact fun i hi=>hr3 i (List.mem_range.1 hi)
  have hnd:=hl.nd;rw[List.nodup_append]at hnd;obtain⟨n1,n2,n3⟩:=hnd;have hFl:∀x∈y.ys.flatMap bw,x∉fN y.lv:=fun x hx e=>n3 x e x hx rfl;have hm:∀x,x∉fN y.lv->aL H y.lv x=H x:=fun x hx=>kL hx;have hgb2:aL H y.lv gb=some (0,.int .i64 T::gr):=by rw[hm gb (fun e=>h5 (List.mem_append_left _ e))];exact hgb
  have hseg:∀i,i<L.l.length->oE (aL H y.lv) (gl y.ys i) (gl L.l i):=fun i hi=>(hl.seg i hi).frame fun x hx=>hm x (hFl x (vU (by rw[hl.len];exact hi) hx));refine⟨L.l.length,cl,zH y.ys,hlst,by simp only[bR];omega,⟨⟨r0+1,zH y.ys⟩,?_⟩,fun x hx=>?_⟩
  ·have h0:Ma ⟨H,y,L,gb,T⟩ ⟨r0+1,zH y.ys⟩:=⟨hr1,by rw[hst0];simp,fun i _=>rfl,fun i hi=>by
    dsimp only at hi ⊢;rw[hst0]at hi ⊢;have hi':i<r0:=by simpa using hi
    rw[show gl (List.range r0) i=i by rw[bT hi];simp];rfl,fun i _ _=>rfl⟩
   rw[hst0]
   and_intros<;>first|exact dg|exact h0|(simp;done)|skip
  ·obtain⟨j,rows⟩:=x;have hx':Ma ⟨H,y,L,gb,T⟩ ⟨j,rows⟩:=hx;obtain⟨x1,x2,x3,x4,x5⟩:=hx;dsimp only at x1 x2 x3 x4 x5 ⊢;obtain⟨k,hk⟩:∃k,k=(stay T L.av L.l j).length:=⟨_,rfl⟩
   rw[<- hk]at x2 x4 ⊢;simp only[Nat.zero_add,Int.toNat_natCast];refine⟨fun c1=>?_,fun c1=>?_⟩
   ·have hj:j<L.l.length:=by have:=of_decide_eq_true c1;omega
    have hs:=hseg j hj;obtain⟨r1,_,_⟩:=hs.Bq;have hrow:rows j 0=pv (gl y.ys j).b 0:=x5 j (Nat.le_refl _) hj;have hsu:=Fe T L.av L.l j;refine⟨⟨by omega,by omega⟩,by omega,_,_,hrow,?_⟩;refine⟨_,_,rfl,?_⟩;refine⟨_,0,_,_,rfl,hs.cell,?_⟩;refine⟨⟨⟨_,rfl,_,rfl,r1⟩,trivial⟩,fun _=>?_⟩;refine⟨_,_,rfl,?_⟩;refine⟨_,_,rfl,?_⟩;refine⟨_,0,_,_,rfl,hgb2,?_⟩;refine⟨⟨⟨_,rfl,_,rfl,h3⟩,trivial⟩,fun _ _=>?_⟩;simp only[de,List.getD_cons_zero,jP,bR]at h3 ⊢;refine⟨by omega,fun c2=>?_,fun c2=>?_⟩
    ·have hkeep:jZ T L.av (gl L.l j)=true:=by
      have:¬(gl L.l j).gen<=T-L.av:=by simpa using c2
      simp only[jZ,decide_eq_true_eq];omega
     rw[hkeep,if_pos rfl]at hsu;have hlen:(stay T L.av L.l (j+1)).length=k+1:=by rw[hsu,hk];simp
     have hN:Ma ⟨H,y,L,gb,T⟩ ⟨j+1,kq rows k 0 [rows j 0]⟩:=⟨hj,by dsimp only;rw[hlen];omega,fun i hi=>by
      dsimp only;rw[qT];split
      ·exact x3 j hj
      ·exact x3 i hi,fun i hi=>by
      dsimp only at hi ⊢;rw[hlen]at hi;rw[qT,hsu];by_cases e:i=k
      ·rw[if_pos e,hrow,e,hk,show(stay T L.av L.l j).length=(stay T L.av L.l j).length+0 from rfl,bf];rfl
      ·rw[if_neg e,bO (by omega)];exact x4 i (by omega),fun i hi hi2=>by
      dsimp only at hi ⊢;rw[qT,if_neg (by omega)];exact x5 i (by omega) hi2⟩
     refine⟨⟨by omega,by omega⟩,by omega,by omega,by omega,⟨j+1,kq rows k 0 [rows j 0]⟩,?_⟩;dsimp only;rw[hlen]
     and_intros<;>first|exact dg|exact hN|exact ak.refl _ _ _|skip
    ·have hkeep:jZ T L.av (gl L.l j)=false:=by
      have:(gl L.l j).gen<=T-L.av:=by simpa using c2
      simp only[jZ,decide_eq_false_iff_not];omega
     rw[hkeep]at hsu;simp only[Bool.false_eq_true,if_false,List.append_nil]at hsu;have hN:Ma ⟨H,y,L,gb,T⟩ ⟨j+1,rows⟩:=⟨hj,by dsimp only;rw[hsu,<- hk];omega,x3,by dsimp only;rw[hsu,<- hk];exact x4,fun i hi hi2=>x5 i (by dsimp only at hi;omega) hi2⟩
     refine⟨by omega,⟨j+1,rows⟩,?_⟩;dsimp only;rw[hsu,<- hk]
     and_intros<;>first|exact dg|exact hN|exact ak.refl _ _ _|skip
   ·have hj:j=L.l.length:=by have:=of_decide_eq_false c1;omega
    subst hj;have hkn:k<=L.l.length:=by omega
    refine⟨⟨by omega,by omega⟩,by omega,by omega,?_⟩;simp only[Nat.sub_zero];intro b lo cs hb hcs hpr;have hlen:((stay T L.av L.l L.l.length).map (gl y.ys)).length=k:=by rw[List.length_map,hk]
    have hL:(uV T L).l=(stay T L.av L.l L.l.length).map (gl L.l):=hmap.symm;have hll:(uV T L).l.length=k:=by rw[hL,List.length_map,hk]
    have hsubl:((stay T L.av L.l L.l.length).map (gl y.ys)).Sublist y.ys:=by
     have e:((List.range L.l.length).map (gl y.ys))=y.ys:=by rw[<- hl.len,Ta]
     have h:=List.Sublist.map (gl y.ys) (show(stay T L.av L.l L.l.length).Sublist (List.range L.l.length)from List.filter_sublist);rw[e]at h;exact h
    have hsub:=Bu (f:=bw) hsubl;have hbF:b∉y.ys.flatMap bw:=fun e=>by
     have:=hl.dom b (List.mem_append_right _ e);rw[hm b (hFl b e)]at hb;exact this hb
    have hat:bY (aN (aL H y.lv) b lo cs) ⟨fc b lo k cl,(stay T L.av L.l L.l.length).map (gl y.ys)⟩ (uV T L):=by
     refine⟨⟨cl,.inr ⟨b,lo,0,cs,by rw[hll,Nat.add_zero],⟨by rw[hll];omega,u4⟩,dN ..,by rw[hcs];simp,⟨fun i hi q ck hq=>?_⟩⟩⟩,by rw[hll];exact hlen,fun i hi=>?_,?_⟩
     ·rw[hll]at hi;have hq0:q=0:=by have:=(List.getElem?_eq_some_iff.1 hq).1;simpa using this
      subst hq0;have:=hpr.at_ i hi 0 ck hq;rw[if_neg (by omega)]at this;have e:rows i 0=zH ((stay T L.av L.l L.l.length).map (gl y.ys)) i 0:=by
       rw[x4 i hi];show _=pv (gl ((stay T L.av L.l L.l.length).map (gl y.ys)) i).b 0;rw[GC (by rw[<- hk];exact hi)]
      rw[<- e];exact this
     ·rw[hll]at hi;rw[hL];show oE _ (gl ((stay T L.av L.l L.l.length).map (gl y.ys)) i) _;rw[GC (by rw[<- hk];exact hi),GC (by rw[<- hk];exact hi)];have hi2:=Wm (t:=T) (s:=L.av) (l:=L.l) (j:=L.l.length) (i:=i) (by rw[<- hk];exact hi);exact(hseg _ hi2).frame fun x hx=>cK fun e=>hbF (by rw[<- e];exact vU (by rw[hl.len];exact hi2) hx)
     ·show(fN (fc b lo k cl)++((stay T L.av L.l L.l.length).map (gl y.ys)).flatMap bw).Nodup;simp only[fN,fc,List.cons_append,List.nil_append,List.nodup_cons];exact⟨fun e=>hbF (hsub.subset e),n2.sublist hsub⟩
    refine⟨⟨aN (aL H y.lv) b lo cs,⟨fc b lo k cl,(stay T L.av L.l L.l.length).map (gl y.ys)⟩⟩,rfl,rfl,⟨hat,fun x hx hn=>?_⟩,trivial⟩;have hxl:x∉fN y.lv:=fun e=>hn (List.mem_append_left _ e);have hxF:x∉y.ys.flatMap bw:=fun e=>hn (List.mem_append_right _ e);have hxb:x≠b:=fun e=>by rw[<- e,hm x hxl]at hb;exact hx hb
    refine⟨(cK hxb).trans (hm x hxl),?_⟩;simp only[bt,fN,fc,List.cons_append,List.nil_append,List.mem_cons,not_or];exact⟨hxb,fun e=>hxF (hsub.subset e)⟩)
theorem Te:au (Y Tryz.prog).G.X 208 Tc:=aU fL Td ⟨S9,trivial⟩
def tT(L:bQ):List dG:=L.l.filter (jZ (bn L).gen L.av)
def ji(L:bQ):bQ:={ L with l:=tT L++[bn L] }
def tj(L:bQ)(d:bA):bA:=gv (gu d (jY L (bn L) 0) 64 (pV (bn L) 0 L.run))
structure Mb where
 H:PH
 y:iu
 L:bQ
 d:bA
noncomputable def Mc:cE where
 α:=Mb
 β:=nC
 m:=4
 m':=5
 pre:=fun a=>bY a.H a.y a.L/\a.L.l.length<900/\3<=a.L.av/\a.L.av<=200/\a.L.from_+a.L.av*8<=a.d.n/\a.d.n<100000/\a.d.calls<999999999999/\bR .i64 a.L.next /\
  (bn a.L).gen<1000000000000/\1<=(bn a.L).gen
 args:=fun _=>[.a (.ptr 0 0 0 0)]
 hp:=fun a=>[(0,fF 1 a.L a.y.lv)]++gJ 1 2 a.d++[(3,.cA a.H)]
 ro:=fun _=>[]
 post:=fun a b=>bY b.H b.y (ji a.L)/\∀x,a.H x≠none->x∉bt a.y->b.H x=a.H x/\x∉bt b.y
 res:=fun _ _=>.a (.lit .i64 0)
 cZ:=fun a b=>[(0,fF 1 (ji a.L) b.y.lv)]++gJ 1 2 (tj a.L a.d)++[(4,.cA b.H)]
def Yb:An:=.Wl 5 3 0 (.mk 1000 [] [])
def gn:Value:=Value.slice none 0 0
def G9(u:PH)(v s:Value)(t:Nat->Nat->Nat->Nat->List Value->Prop):=Exists (jS u v CK.deep [] fun x f g=>gG x 8 f fun y=>(y≠0/\0+(x+1)<=x+1)/\∀(w h:Nat) (z:List Value),aL u v w=none->z.length=y*1->(AR z 0 (iU CK.deep) (x+1) fun i j=>aZ g 0 x (jR 1 (bD s)) (0+i) j)->t x y w h z)
def kN(y:bA)(z:bA->Prop):bA->Prop:=fun(x:bA)=>ag (iY y x (kE x/\aI (z x)))
def CS(x:PH)(y:Nat)(z u:Int):PH:=aN x y 0 (bx z (bx u (bx 0 (bV gn (bD gn)))))
def Tf(x:Mb)(f:Int):=ah x.L.next->∀v:Nat,x.H v=none->∃u:tc,ag (kK v u.y.b/\aF u.i (iY x.d u.d (ag (rC x.L u.L x.y.lv u.lv (CS x.H v f x.L.next=u.H/\zF u/\aI (∃z:uU,x.y.lv=z.y.lv/\ax (CS x.H v f x.L.next=z.H/\kK v z.gb/\ax (rC x.L z.L x.y.lv z.y.lv (tf z/\∀w:nC,qw w (uV z.t z.L) (fun j=>z.H j) z.y->G9 w.H w.y.lv (Value.pointer (some { block:=v,off:=0 })) fun k l g h m=>Exists (kN (zG u) fun n=>∃s:nC,aV (aN (aL w.H w.y.lv) g h m=s.H/\ag (rC x.L (ji x.L) (fc g h (k+1) l) s.y.lv (iY (gv n) (tj x.L x.d) (qw s (ji x.L) (fun o=>x.H o) x.y/\True))))))))))))))
def xz(y:iu)(u:Nat->Option (Nat×List Value))(v:Nat->List Value->Prop):=ah (eu (di y.lv))/\Exists (iT y.lv (eu (di y.lv)) fun w s=>Exists (mX w s (aX (eu (di y.lv))*1) (fun x=>u x) (fun x=>ew x) (fun x z=>True) fun x z=>v x z))
def iE(y x:Nat)(z:Prop):=y<=x/\x<100000/\z
def He(x:Mb):=bY x.H x.y x.L/\bB x.L<900/\3<=x.L.av/\x.L.av<=200/\iE (x.L.from_+x.L.av*8) x.d.n (x.d.calls<999999999999/\ah x.L.next/\(bn x.L).gen<(1000000000000:Int)/\(1:Int)<=(bn x.L).gen)
theorem P4:fnBody (Y Tryz.prog) [(198,G3),(208,Tc),(169,jN)] 195 Mc fun _=>[(195,[],[Yb])]:=fnBody.of (p :=
 ∀x:Mb,He x->ah x.L.next->gA x.y.lv/\aY 0 (di x.y.lv) (xz x.y (fun u=>x.H u) fun u w=>iD (aT w u) 0 (fun z=>x.H z) fun z v=>ah (jP (aT v z)+(1:Int))/\(ah (jP (aT v z)+(1:Int))->Tf x (jP (aT v z)+(1:Int)))) (Tf x 1)) (by kernel_rfl) (by
 delta az aT ai gL ah bx b8 aD gK cF aH af kJ mX bD aC dV aX bq bV aW Tf gA aI gG bB ew iD gn kE xz xy jS aV aF iT ag zF aY He qw G9 ax kN iU zG kK eu iE jw jR CS
 try dsimp -iota -proj only
 rintro⟨H,y,L,d⟩ ⟨hl,h1,h2,h3,h4,h5,h6,h8,h9,h10⟩;dsimp only at *;obtain⟨e1,_,⟨ea,ec,e2⟩,e3,_⟩:=hl.rD;have hgR:bR .i64 (bn L).gen:=by simp only[bR];omega
 refine fun _=>⟨⟨ea,_,ec,e2,e3⟩,fun c1=>?_,fun c1=>?_⟩
 ·rw[e1]at c1;have hn:0<L.l.length:=by simpa using c1
  have hk:L.l.length-1<L.l.length:=by omega
  obtain⟨b,lo,o,c,cs,g1,g2,g3,g4⟩:=hl.at_ hk;have hs:=hl.seg _ hk;obtain⟨r1,_,_⟩:=hs.Bq;have hng:(bn L).gen=(gl L.l (L.l.length-1)).gen+1:=by
   have:L.l.getLast? = some (gl L.l (L.l.length-1)):=by rw[bT hk,List.getLast?_eq_getElem?,List.getElem?_eq_getElem hk]
   simp only[bn,this]
  simp only[e1];have e5:((L.l.length:Int)-1).toNat=L.l.length-1:=by omega
  refine⟨by simp only[bR];omega,_,_,_,_,g1,by omega,b,lo,o+(L.l.length-1)*1,cs,by rw[e5,Nat.add_assoc],g2,⟨⟨_,g3,rfl⟩,trivial⟩,?_⟩;refine⟨_,_,g4,?_⟩;refine⟨_,_,rfl,?_⟩;refine⟨_,0,_,_,rfl,hs.cell,?_⟩;refine⟨⟨⟨_,rfl,_,rfl,r1⟩,trivial⟩,fun _=>?_⟩;simp only[de,List.getD_cons_zero,jP,<- hng];refine⟨hgR,fun _ _=>?_⟩;show ∀b,_;intro b hb;have hsg:=Fc (H:=H) (b:=b) h8 hgR;have hl1:bY (aN H b 0 (de (bn L) (.slice none 0 0) (.slice none 0 0))) y L:=hl.frame fun x hx=>cK fun e=>hl.dom x hx (by rw[e];exact hb);refine⟨tc.mk (aN H b 0 (de (bn L) (.slice none 0 0) (.slice none 0 0))) (newL b) (bn L) 0 L y.lv d,?_⟩
  and_intros<;>first|exact dg|exact hsg|(simp only[bn,List.length_nil];omega)|rfl|skip
  intro _ _;have hbm:∀x,H x≠none->x≠b:=fun x hx e=>hx (by rw[e];exact hb);have hbl:b∉bt y:=fun e=>hl.dom b e hb;have hdp:tf ⟨aN H b 0 (de (bn L) (.slice none 0 0) (.slice none 0 0)),y,L,b,(bn L).gen⟩:=⟨hl1,by show L.l.length<1000;omega,h3,⟨hgR,by show 0<=(bn L).gen;omega⟩,⟨_,dN ..⟩,hbl⟩
  refine⟨uU.mk (aN H b 0 (de (bn L) (.slice none 0 0) (.slice none 0 0))) y L b (bn L).gen,?_⟩
  and_intros<;>first|exact dg|exact hdp|rfl|skip
  rintro⟨H2,y2⟩ ⟨d1,d2⟩;dsimp only at d1 d2 ⊢;obtain⟨q1,q2⟩:=d2 b (by rw[dN];simp) hbl
  have hs2 : fW H2 (newL b) (bn L) := ⟨hsg.frame fun x hx => (by have : x = b := by simpa [newL, bw, fN] using hx
                                                                 subst this;exact q1),by simp[newL,bw,fN]⟩
  have hd2:∀x∈bt y2,x∉bw (newL b):=fun x hx e=>by
   have:x=b:=by simpa[newL,bw,fN]using e
   subst this;exact q2 hx
  have hkl:(uV (bn L).gen L).l.length<=L.l.length:=List.length_filter_le _ _;obtain⟨c0,hsl⟩:=d1.Ji;refine⟨_,c0,_,hsl,?_⟩
  repeat refine lB ?_
  intro cap hc1 hc2 hc3
  repeat refine lB ?_
  intro b' lo cs' hb' hcs hp;have hba:=G6 (lo:=lo) (L':=ji L) d1 hs2 hd2 hb' hcs hc1 hc2 hp (by
   intro i hi;simp only[Nat.zero_add,aZ,zH];rw[kM (by rw[d1.len];exact hi),d1.len];by_cases hin:i<(uV (bn L).gen L).l.length
   ·rw[if_pos hin,if_pos hin]
   ·rw[if_neg hin,if_neg hin,show i-(uV (bn L).gen L).l.length=0 by omega];rfl) rfl
  have hfr:∀x,H x≠none->x∉bt y->aN (aL H2 y2.lv) b' lo cs' x=H x/\x∉bt ⟨fc b' lo ((uV (bn L).gen L).l.length+1) cap,y2.ys++[newL b]⟩:=fun x hx hn=>by
   have hxb:=hbm x hx;have e0:aN H b 0 (de (bn L) (.slice none 0 0) (.slice none 0 0)) x=H x:=cK hxb;obtain⟨w1,w2⟩:=d2 x (by rw[e0];exact hx) hn;obtain⟨w3,w4⟩:=hba.2 x (by rw[w1,e0];exact hx) w2 (by simpa[newL,bw,fN]using hxb);exact⟨w3.trans (w1.trans e0),w4⟩
  refine⟨gu d (jY L (bn L) 0) 64 (pV (bn L) 0 L.run),?_⟩
  and_intros<;>first|exact dg|(simp only[gu];omega)|skip
  intro _ _;refine⟨⟨aN (aL H2 y2.lv) b' lo cs',⟨fc b' lo ((uV (bn L).gen L).l.length+1) cap,y2.ys++[newL b]⟩⟩,?_⟩
  and_intros<;>first|exact dg|exact hba.1|exact hfr|exact Nat.le_refl _|exact ak.refl _ _ _|rfl
 ·rw[e1]at c1;have hn:L.l.length=0:=by have:=of_decide_eq_false c1;omega
  have hng:(bn L).gen=1:=by
   have:L.l=[]:=List.eq_nil_of_length_eq_zero hn;simp only[bn,this];rfl
  rw[<- hng];intro _;intro b hb;have hsg:=Fc (H:=H) (b:=b) h8 hgR;have hl1:bY (aN H b 0 (de (bn L) (.slice none 0 0) (.slice none 0 0))) y L:=hl.frame fun x hx=>cK fun e=>hl.dom x hx (by rw[e];exact hb);refine⟨tc.mk (aN H b 0 (de (bn L) (.slice none 0 0) (.slice none 0 0))) (newL b) (bn L) 0 L y.lv d,?_⟩
  and_intros<;>first|exact dg|exact hsg|(simp only[bn,List.length_nil];omega)|rfl|skip
  intro _ _;have hbm:∀x,H x≠none->x≠b:=fun x hx e=>hx (by rw[e];exact hb);have hbl:b∉bt y:=fun e=>hl.dom b e hb;have hdp:tf ⟨aN H b 0 (de (bn L) (.slice none 0 0) (.slice none 0 0)),y,L,b,(bn L).gen⟩:=⟨hl1,by show L.l.length<1000;omega,h3,⟨hgR,by show 0<=(bn L).gen;omega⟩,⟨_,dN ..⟩,hbl⟩
  refine⟨uU.mk (aN H b 0 (de (bn L) (.slice none 0 0) (.slice none 0 0))) y L b (bn L).gen,?_⟩
  and_intros<;>first|exact dg|exact hdp|rfl|skip
  rintro⟨H2,y2⟩ ⟨d1,d2⟩;dsimp only at d1 d2 ⊢;obtain⟨q1,q2⟩:=d2 b (by rw[dN];simp) hbl
  have hs2 : fW H2 (newL b) (bn L) := ⟨hsg.frame fun x hx => (by have : x = b := by simpa [newL, bw, fN] using hx
                                                                 subst this;exact q1),by simp[newL,bw,fN]⟩
  have hd2:∀x∈bt y2,x∉bw (newL b):=fun x hx e=>by
   have:x=b:=by simpa[newL,bw,fN]using e
   subst this;exact q2 hx
  have hkl:(uV (bn L).gen L).l.length<=L.l.length:=List.length_filter_le _ _;obtain⟨c0,hsl⟩:=d1.Ji;refine⟨_,c0,_,hsl,?_⟩
  repeat refine lB ?_
  intro cap hc1 hc2 hc3
  repeat refine lB ?_
  intro b' lo cs' hb' hcs hp;have hba:=G6 (lo:=lo) (L':=ji L) d1 hs2 hd2 hb' hcs hc1 hc2 hp (by
   intro i hi;simp only[Nat.zero_add,aZ,zH];rw[kM (by rw[d1.len];exact hi),d1.len];by_cases hin:i<(uV (bn L).gen L).l.length
   ·rw[if_pos hin,if_pos hin]
   ·rw[if_neg hin,if_neg hin,show i-(uV (bn L).gen L).l.length=0 by omega];rfl) rfl
  have hfr:∀x,H x≠none->x∉bt y->aN (aL H2 y2.lv) b' lo cs' x=H x/\x∉bt ⟨fc b' lo ((uV (bn L).gen L).l.length+1) cap,y2.ys++[newL b]⟩:=fun x hx hn=>by
   have hxb:=hbm x hx;have e0:aN H b 0 (de (bn L) (.slice none 0 0) (.slice none 0 0)) x=H x:=cK hxb;obtain⟨w1,w2⟩:=d2 x (by rw[e0];exact hx) hn;obtain⟨w3,w4⟩:=hba.2 x (by rw[w1,e0];exact hx) w2 (by simpa[newL,bw,fN]using hxb);exact⟨w3.trans (w1.trans e0),w4⟩
  refine⟨gu d (jY L (bn L) 0) 64 (pV (bn L) 0 L.run),?_⟩
  and_intros<;>first|exact dg|(simp only[gu];omega)|skip
  intro _ _;refine⟨⟨aN (aL H2 y2.lv) b' lo cs',⟨fc b' lo ((uV (bn L).gen L).l.length+1) cap,y2.ys++[newL b]⟩⟩,?_⟩
  and_intros<;>first|exact dg|exact hba.1|exact hfr|exact Nat.le_refl _|exact ak.refl _ _ _|rfl)
theorem P5:au (Y Tryz.prog).G.X 195 Mc:=aU fL P4 ⟨Fb,Te,iN,trivial⟩
def kf(L:bQ):dG:=gl L.l (L.l.length-1)
def qU(L:bQ)(n:Nat):Bool:=decide (L.l.length=0)||decide (370<(kf L).buf.length+n)
def dJ(L:bQ)(n:Nat):bQ:=if qU L n then ji L else L
def kO(L:bQ)(d:bA)(n:Nat):bA:=if qU L n then tj L d else d
def J1(n:Nat)(next:Int):List Int:=[uw .u8 (uw .u64 (n:Int)/256),uw .u8 (uw .u64 (n:Int)/1),uw .u8 (uw .u64 next/1099511627776),uw .u8 (uw .u64 next/4294967296),uw .u8 (uw .u64 next/16777216),uw .u8 (uw .u64 next/65536),uw .u8 (uw .u64 next/256),uw .u8 (uw .u64 next/1)]
def rE(g:dG)(next:Int)(body:List Int):List Int:=g.buf++J1 body.length next++body
def J2(g:dG)(next:Int)(body:List Int):dG:={ g with buf:=rE g next body }
def Md(g:dG)(next:Int)(body:List Int):dG:={ g with buf:=rE g next body,aP:=g.aP++[⟨next,body⟩] }
def tU(was now i:Nat):Bool:=decide (was<cn (i+1))&&decide (cn i<now)
def dr(L:bQ)(g:dG)(was:Nat)(d:bA):Nat->bA
 |0=>d
 |i+1=>if tU was g.buf.length i then gu (dr L g was d i) (jY L g i) 64 (pV g i L.run)else dr L g was d i
def Ow(L:bQ)(g:dG):bQ:={ L with l:=L.l.set (L.l.length-1) g }
def J3(L:bQ)(body:List Int):bQ:={ Ow L (Md (kf L) L.next body)with next:=L.next+1,fresh:=false }
def qV(L:bQ)(d:bA)(body:List Int):bA:=dr L (J2 (kf L) L.next body) (kf L).buf.length d 8
def mo(L:bQ)(body:List Int):bQ:=J3 (dJ L body.length) body
def oF(L:bQ)(d:bA)(body:List Int):bA:=if(dJ L body.length).fresh then gv (qV (dJ L body.length) (kO L d body.length) body)else qV (dJ L body.length) (kO L d body.length) body
def Step(H:PH)(v:Value)(H':PH)(v':Value):Prop:=∀x,H x≠none->x∉fN v->H' x=H x/\x∉fN v'
theorem Step.trans{H H' H'':PH}{v v' v'':Value}(h:Step H v H' v')(k:Step H' v' H'' v''):Step H v H'' v'':=fun x hx hv=>by
 obtain⟨h1,h2⟩:=h x hx hv;obtain⟨k1,k2⟩:=k x (by rw[h1];exact hx) h2;exact⟨k1.trans h1,k2⟩
theorem sj{H:PH}{v:Value}{b lo l c:Nat}{cs:List Value}(h:aL H v b=none):Step H v (aN (aL H v) b lo cs) (fc b lo l c):=fun x hx hv=>by
 have hxb:x≠b:=fun e=>by rw[<- e,kL hv]at h;exact hx h
 exact⟨by rw[cK hxb,kL hv],by simp[fN,fc,hxb]⟩
theorem J4{H:PH}{b lo l c:Nat}{cs:List Value}(h:H b=none):Step H (.slice none 0 0) (aN H b lo cs) (fc b lo l c):=sj (H:=H) (v:=.slice none 0 0) h
theorem mZ{H:PH}{b lo l c:Nat}{ks:List CK}{cs:List Value}{rows rows':Nat->Nat->Value}(hl:cs.length=c*ks.length)(h1:l<=c)(h2:c<=aq)(hp:AR cs 0 ks l rows)(he:∀i,i<l->∀j,j<ks.length->rows i j=rows' i j):kr (aN H b lo cs) (fc b lo l c) ks l c rows' :=
 .inr ⟨b,lo,0,cs,by rw[Nat.add_zero],⟨h1,h2⟩,dN ..,by omega,⟨fun i hi j k hj=>by
  have:=hp.at_ i hi j k hj;rw[he i hi j (List.getElem?_eq_some_iff.1 hj).1]at this;exact this⟩⟩
theorem zJ(v:Value):(fN v).Nodup:=by
 unfold fN;split<;>simp
def Fr(H:PH)(y:mU)(H':PH)(y':mU):Prop:=∀x,H x≠none->x∉bw y->H' x=H x/\x∉bw y'
theorem Fr.trans{H H' H'':PH}{y y' y'':mU}(h:Fr H y H' y')(k:Fr H' y' H'' y''):Fr H y H'' y'':=fun x hx hv=>by
 obtain⟨h1,h2⟩:=h x hx hv;obtain⟨k1,k2⟩:=k x (by rw[h1];exact hx) h2;exact⟨k1.trans h1,k2⟩
theorem CT{y:mU}:(bw y).Nodup↔(y.b∉fN y.bv/\y.b∉fN y.rv/\y.b∉y.vs.flatMap fN)/\(∀x∈fN y.bv,x∉fN y.rv/\x∉y.vs.flatMap fN)/\(∀x∈fN y.rv,x∉y.vs.flatMap fN)/\(y.vs.flatMap fN).Nodup:=by
 unfold bw;rw[List.nodup_cons,List.nodup_append,List.nodup_append];have a1:=zJ y.bv;have a2:=zJ y.rv;simp only[List.mem_append,not_or,a1,a2,true_and];constructor
 ·rintro⟨h1,⟨h3,h4⟩,h2⟩;exact⟨h1,fun x hx=>⟨fun e=>h2 x hx x (.inl e) rfl,fun e=>h2 x hx x (.inr e) rfl⟩,fun x hx e=>h4 x hx x e rfl,h3⟩
 ·rintro⟨h1,h2,h3,h4⟩;refine⟨h1,⟨h4,fun a ha b hb e=>h3 a ha (by rw[e];exact hb)⟩,fun a ha b hb e=>?_⟩;subst e;rcases hb with hb|hb
  ·exact(h2 a ha).1 hb
  ·exact(h2 a ha).2 hb
theorem xA{X0 X2:PH}{y:mU}{g:dG}{v2:Value}{buf:List Int}(h:fW X0 y g)(hs:Step X0 y.bv X2 v2)(hb:fJ X2 v2 buf) :
 X2 y.b=some (0,de g y.bv y.rv)/\fW (aN X2 y.b 0 (de { g with buf:=buf } v2 y.rv)) { y with bv:=v2 } { g with buf:=buf }/\Fr X0 y (aN X2 y.b 0 (de { g with buf:=buf } v2 y.rv)) { y with bv:=v2 }:=by
 have hd:=h.at_.dom;obtain⟨⟨n1,n2,n3⟩,n4,n5,n6⟩:=CT.1 h.nd;have s1:∀x∈bw y,x∉fN y.bv->X2 x=X0 x/\x∉fN v2:=fun x hx hv=>hs x (hd x hx) hv;have hbm:y.b∈bw y:=List.mem_cons_self;obtain⟨c1,c2⟩:=s1 y.b hbm n1;have hrv:∀x∈fN y.rv,x∈bw y/\x∉fN y.bv:=fun x hx=>⟨by simp[bw,hx],fun e=>(n4 x e).1 hx⟩
 have hvs:∀x∈y.vs.flatMap fN,x∈bw y/\x∉fN y.bv:=fun x hx=>⟨List.mem_cons_of_mem _ (List.mem_append_right _ (List.mem_append_right _ hx)),fun e=>(n4 x e).2 hx⟩
 have same:∀x,x≠y.b->(x∈fN y.rv\/x∈y.vs.flatMap fN)->aN X2 y.b 0 (de { g with buf:=buf } v2 y.rv) x=X0 x:=fun x hx h=>by
  rw[cK hx];rcases h with h|h
  ·exact(s1 x (hrv x h).1 (hrv x h).2).1
  ·exact(s1 x (hvs x h).1 (hvs x h).2).1
 refine⟨c1.trans h.at_.cell,⟨⟨dN ..,h.at_.Bq,hb.frame fun x hx=>cK fun e=>c2 (by rw[<- e];exact hx),?_,h.at_.len,fun i hi=>(h.at_.body i hi).frame fun x hx=>?_⟩,?_⟩,?_⟩
 ·obtain⟨c,hr⟩:=h.at_.aP;exact⟨c,iS hr fun x hx=>same x (fun e=>n2 (by rw[<- e];exact hx)) (.inl hx)⟩
 ·have hm:x∈y.vs.flatMap fN:=by
   refine List.mem_flatMap.2 ⟨_,?_,hx⟩;have hl:=h.at_.len;have hi':i<g.aP.length:=hi;rw[List.getD_eq_getElem?_getD,List.getElem?_eq_getElem (by omega)];exact List.getElem_mem _
  exact same x (fun e=>n3 (by rw[<- e];exact hm)) (.inr hm)
 ·refine CT.2 ⟨⟨c2,n2,n3⟩,fun x hx=>⟨fun e=>?_,fun e=>?_⟩,n5,n6⟩
  ·exact(s1 x (hrv x e).1 (hrv x e).2).2 hx
  ·exact(s1 x (hvs x e).1 (hvs x e).2).2 hx
 ·intro x hx hn;simp only[bw,List.mem_cons,List.mem_append,not_or]at hn ⊢;obtain⟨a1,a2⟩:=hs x hx hn.2.1;exact⟨by rw[cK hn.1,a1],hn.1,a2,hn.2.2⟩
theorem AZ{X3 X4 X5:PH}{y:mU}{g:dG}{v3 v4:Value}{r:RecM}(h:fW X3 y g)(hs:Step X3 (.slice none 0 0) X4 v3)(hb:fJ X4 v3 r.body)(hs2:Step X4 y.rv X5 v4)
 (hd4:∀x∈fN v3,X4 x≠none) (hr:∃c,kr X5 v4 si (g.aP.length+1) c (uT (g.aP++[r]) (y.vs++[v3]))) :
 X4 y.b=some (0,de g y.bv y.rv)/\X5 y.b=some (0,de g y.bv y.rv)/\fW (aN X5 y.b 0 (de { g with aP:=g.aP++[r] } y.bv v4)) ⟨y.b,y.bv,v4,y.vs++[v3]⟩ { g with aP:=g.aP++[r] } /\
 Fr X3 y (aN X5 y.b 0 (de { g with aP:=g.aP++[r] } y.bv v4)) ⟨y.b,y.bv,v4,y.vs++[v3]⟩:=by
 have hd:=h.at_.dom;obtain⟨⟨n1,n2,n3⟩,n4,n5,n6⟩:=CT.1 h.nd;have s1:∀x,X3 x≠none->X4 x=X3 x/\x∉fN v3:=fun x hx=>hs x hx (by simp[fN]);have s2:∀x,X3 x≠none->x∉fN y.rv->X5 x=X3 x/\x∉fN v3/\x∉fN v4:=fun x hx hv=>by
  obtain⟨a1,a2⟩:=s1 x hx;obtain⟨b1,b2⟩:=hs2 x (by rw[a1];exact hx) hv;exact⟨b1.trans a1,a2,b2⟩
 have hbm:y.b∈bw y:=List.mem_cons_self;have hbv:∀x∈fN y.bv,x∈bw y/\x∉fN y.rv:=fun x hx=>⟨by simp[bw,hx],(n4 x hx).1⟩
 have hvs:∀x∈y.vs.flatMap fN,x∈bw y/\x∉fN y.rv:=fun x hx=>⟨List.mem_cons_of_mem _ (List.mem_append_right _ (List.mem_append_right _ hx)),fun e=>n5 x e hx⟩
 have hrv:∀x∈fN y.rv,x∈bw y:=fun x hx=>by simp[bw,hx]
 obtain⟨c1,c2,c3⟩:=s2 y.b (hd _ hbm) n2;have hv3rv:∀x∈fN v3,x∉fN y.rv:=fun x hx e=>(s1 x (hd x (hrv x e))).2 hx;have hv3:∀x∈fN v3,X5 x=X4 x/\x∉fN v4:=fun x hx=>hs2 x (hd4 x hx) (hv3rv x hx);have same:∀x∈bw y,x≠y.b->x∉fN y.rv->aN X5 y.b 0 (de { g with aP:=g.aP++[r] } y.bv v4) x=X3 x:=fun x hx h1 h2=>by
  rw[cK h1];exact(s2 x (hd x hx) h2).1
 have hl:=h.at_.len;refine⟨(s1 _ (hd _ hbm)).1.trans h.at_.cell,c1.trans h.at_.cell,⟨⟨dN ..,h.at_.Bq,h.at_.buf.frame fun x hx=>same x (hbv x hx).1 (fun e=>n1 (by rw[<- e];exact hx)) (hbv x hx).2,?_,?_,?_⟩,?_⟩,?_⟩
 ·obtain⟨c,hr⟩:=hr;refine⟨c,?_⟩;simp only[List.length_append,List.length_singleton];exact iS hr fun x hx=>cK fun e=>c3 (by rw[<- e];exact hx)
 ·simp[hl]
 ·intro i hi;simp only[List.length_append,List.length_singleton]at hi;show fJ _ ((y.vs++[v3]).getD i undef) (gl (g.aP++[r]) i).body;rw[kM hi];by_cases hin:i<g.aP.length
  ·rw[if_pos hin];have e1:(y.vs++[v3]).getD i undef=y.vs.getD i undef:=by
    rw[List.getD_eq_getElem?_getD,List.getElem?_append_left (by omega),List.getD_eq_getElem?_getD]
   rw[e1];refine(h.at_.body i hin).frame fun x hx=>?_;have hm:x∈y.vs.flatMap fN:=by
    refine List.mem_flatMap.2 ⟨_,?_,hx⟩;rw[List.getD_eq_getElem?_getD,List.getElem?_eq_getElem (by omega)];exact List.getElem_mem _
   exact same x (hvs x hm).1 (fun e=>n3 (by rw[<- e];exact hm)) (hvs x hm).2
  ·rw[if_neg hin];have e1:(y.vs++[v3]).getD i undef=v3:=by
    rw[List.getD_eq_getElem?_getD,List.getElem?_append_right (by omega),show i-y.vs.length=0 by omega];rfl
   rw[e1];refine hb.frame fun x hx=>?_;rw[cK (fun e=>c2 (by rw[<- e];exact hx)),(hv3 x hx).1]
 ·refine CT.2 ⟨⟨n1,c3,?_⟩,fun x hx=>⟨?_,?_⟩,fun x hx=>?_,?_⟩
  ·simp only[List.flatMap_append,List.mem_append,not_or];exact⟨n3,by simpa using c2⟩
  ·exact(s2 x (hd x (hbv x hx).1) (hbv x hx).2).2.2
  ·simp only[List.flatMap_append,List.mem_append,not_or];exact⟨(n4 x hx).2,by simpa using(s2 x (hd x (hbv x hx).1) (hbv x hx).2).2.1⟩
  ·simp only[List.flatMap_append,List.mem_append,not_or];exact⟨fun e=>(s2 x (hd x (hvs x e).1) (hvs x e).2).2.2 hx,fun e=>(hv3 x (by simpa using e)).2 hx⟩
  ·simp only[List.flatMap_append,List.nodup_append];refine⟨n6,by simpa using zJ v3,fun a ha b hb e=>?_⟩;subst e;exact(s1 a (hd a (hvs a ha).1)).2 (by simpa using hb)
 ·intro x hx hn;simp only[bw,List.mem_cons,List.mem_append,not_or]at hn;obtain⟨a1,a2,a3⟩:=s2 x hx hn.2.2.1;refine⟨by rw[cK hn.1,a1],?_⟩;simp only[bw,List.mem_cons,List.mem_append,not_or,List.flatMap_append];exact⟨hn.1,hn.2.1,a3,hn.2.2.2,by simpa using a2⟩
theorem uW{α β:Type}{f:α->List β}:∀ {l:List α} {a:α},a∈l->(f a).Sublist (l.flatMap f)
 |[],_,h=>by cases h
 |x::r,a,h=>by
  rw[List.flatMap_cons];rcases List.mem_cons.1 h with rfl|h
  ·exact List.sublist_append_left _ _
  ·exact(uW h).trans (List.sublist_append_right _ _)
theorem bY.Zt{H:PH}{y:iu}{L:bQ}(h:bY H y L){k:Nat}(hk:k<L.l.length):fW H (gl y.ys k) (gl L.l k):=by
 refine⟨h.seg k hk,?_⟩;have hk':k<y.ys.length:=by rw[h.len];exact hk
 refine(List.nodup_append.1 h.nd).2.1.sublist (uW ?_);rw[bT hk'];exact List.getElem_mem _
theorem Me{α:Type}[Inhabited α]{l:List α}{k i:Nat}{x:α}(hi:i<l.length):gl (l.set k x) i=if i=k then x else gl l i:=by
 unfold gl;rw[List.getD_eq_getElem?_getD,List.getElem?_set];by_cases h:i=k
 ·subst h;simp[hi]
 ·rw[if_neg (fun e=>h e.symm),if_neg h,List.getD_eq_getElem?_getD]
theorem bY.set{H H':PH}{y:iu}{L:bQ}{k:Nat}{sl:mU}{g:dG}(h:bY H y L)(hk:k<L.l.length)(hb:sl.b=(gl y.ys k).b)(hg:fW H' sl g)(hf:Fr H (gl y.ys k) H' sl) :
 bY H' ⟨y.lv,y.ys.set k sl⟩ { L with l:=L.l.set k g }/\∀x,H x≠none->x∉bt y->H' x=H x/\x∉bt ⟨y.lv,y.ys.set k sl⟩:=by
 have hk':k<y.ys.length:=by rw[h.len];exact hk
 have hd:=h.dom;obtain⟨A,B,e1,e2,hA⟩:∃A B,y.ys=A++gl y.ys k::B/\y.ys.set k sl=A++sl::B/\A.length=k:=by
  refine⟨y.ys.take k,y.ys.drop (k+1),?_,?_,by simp;omega⟩
  ·rw[bT hk'];simp
  ·rw[List.set_eq_take_append_cons_drop,if_pos hk']
 obtain⟨s,hs⟩:∃s,s=gl y.ys k:=⟨_,rfl⟩
 rw[<- hs]at e1 hb hf;have F1:y.ys.flatMap bw=A.flatMap bw++(bw s++B.flatMap bw):=by rw[e1];simp
 have F2:(y.ys.set k sl).flatMap bw=A.flatMap bw++(bw sl++B.flatMap bw):=by rw[e2];simp
 have hnd:=h.nd;rw[F1]at hnd;simp only[List.nodup_append,List.mem_append]at hnd;obtain⟨n1,⟨n2,⟨n3,n4,n5⟩,n6⟩,n7⟩:=hnd;have oV:∀x∈fN y.lv,H' x=H x/\x∉bw sl:=fun x hx=>hf x (hd x (List.mem_append_left _ hx)) fun e=>n7 x hx x (.inr (.inl e)) rfl;have oA:∀x∈A.flatMap bw,H' x=H x/\x∉bw sl:=fun x hx=>hf x (hd x (List.mem_append_right _ (by rw[F1];exact List.mem_append_left _ hx))) fun e=>n6 x hx x (.inl e) rfl;have oB:∀x∈B.flatMap bw,H' x=H x/\x∉bw sl:=fun x hx=>hf x (hd x (List.mem_append_right _ (by rw[F1];exact List.mem_append_right _ (List.mem_append_right _ hx)))) fun e=>n5 x e x hx rfl;refine⟨⟨?_,by simp[h.len],?_,?_⟩,?_⟩
 ·obtain⟨c,hl⟩:=h.Ji;refine⟨c,?_⟩;simp only[List.length_set];have hl2:=iS (H':=H') hl fun x hx=>(oV x hx).1;have he:∀i,i<L.l.length->zH y.ys i 0=zH (y.ys.set k sl) i 0:=fun i hi=>by
   simp only[zH];rw[Me (by rw[h.len];exact hi)];by_cases hik:i=k
   ·subst hik;rw[if_pos rfl,hb,hs]
   ·rw[if_neg hik]
  rcases hl2 with hz | ⟨b,lo,o,cs,g1,g2,g3,g4,g5⟩
  ·exact .inl hz
  ·refine .inr ⟨b,lo,o,cs,g1,g2,g3,g4,⟨fun i hi j q hj=>?_⟩⟩;have hj0:j=0:=by have:=(List.getElem?_eq_some_iff.1 hj).1;simpa using this
   subst hj0;have:=g5.at_ i hi 0 q hj;rw[he i hi]at this;exact this
 ·intro i hi;simp only[List.length_set]at hi;show oE H' (gl (y.ys.set k sl) i) (gl (L.l.set k g) i);rw[Me (by rw[h.len];exact hi),Me hi];by_cases hik:i=k
  ·rw[if_pos hik,if_pos hik];exact hg.at_
  ·rw[if_neg hik,if_neg hik];refine(h.seg i hi).frame fun x hx=>?_;have hm:gl y.ys i∈A\/gl y.ys i∈B:=by
    have hi':i<y.ys.length:=by rw[h.len];exact hi
    have e3:gl y.ys i=gl (A++s::B) i:=by rw[<- e1]
    rcases Nat.lt_or_ge i k with hlt|hge
    ·left;rw[e3,bO (by omega),bT (by omega)];exact List.getElem_mem _
    ·right;have hlen:y.ys.length=A.length+(B.length+1):=by rw[e1];simp
     rw[e3,show i=A.length+((i-k-1)+1)by omega,bf];have:gl (s::B) (i-k-1+1)=gl B (i-k-1):=by simp[gl]
     rw[this,bT (by omega)];exact List.getElem_mem _
   rcases hm with hm|hm
   ·exact(oA x (List.mem_flatMap.2 ⟨_,hm,hx⟩)).1
   ·exact(oB x (List.mem_flatMap.2 ⟨_,hm,hx⟩)).1
 ·show(fN y.lv++(y.ys.set k sl).flatMap bw).Nodup;rw[F2];simp only[List.nodup_append,List.mem_append];refine⟨n1,⟨n2,⟨hg.nd,n4,fun a ha b hb e=>?_⟩,fun a ha b hb e=>?_⟩,fun a ha b hb e=>?_⟩
  ·subst e;exact(oB a hb).2 ha
  ·subst e;rcases hb with hb|hb
   ·exact(oA a ha).2 hb
   ·exact n6 a ha a (.inr hb) rfl
  ·subst e;rcases hb with hb|hb|hb
   ·exact n7 a ha a (.inl hb) rfl
   ·exact(oV a ha).2 hb
   ·exact n7 a ha a (.inr (.inr hb)) rfl
 ·intro x hx hn;have hn1:x∉fN y.lv:=fun e=>hn (List.mem_append_left _ e);have hn2:x∉A.flatMap bw/\x∉bw s/\x∉B.flatMap bw:=by
   have:x∉y.ys.flatMap bw:=fun e=>hn (List.mem_append_right _ e);rw[F1]at this;simpa only[List.mem_append,not_or]using this
  obtain⟨a1,a2⟩:=hf x hx hn2.2.1;refine⟨a1,?_⟩;show x∉fN y.lv++(y.ys.set k sl).flatMap bw;rw[F2];simp only[List.mem_append,not_or];exact⟨hn1,hn2.1,a2,hn2.2.2⟩
def Ff(s:S):Nat:=match sG s.hp with|some t=>t|none=>0
def S.log(s:S)(slot:Nat)(L:bQ)(lv:Value)(d:bA)(H:PH):S :=
 (fun(q:S)=>(q.put (q.hp.del (Ff q))).new (.cA H))
  (((s.at_ (s.tg slot) (fF (s.fu (s.tg slot) 0) L lv)).at_ (s.fu (s.tg slot) 0) (.obj 116 [.slc (s.fu (s.fu (s.tg slot) 0) 0) 0 129 d.n d.n,.int .i64 d.calls])).at_ (s.fu (s.fu (s.tg slot) 0) 0) (.arr 158 AX d.n (fe d)))
def S.dev(s:S)(td:Nat)(d:bA):S:=(s.at_ td (.obj 116 [.slc (s.fu td 0) 0 129 d.n d.n,.int .i64 d.calls])).at_ (s.fu td 0) (.arr 158 AX d.n (fe d))
structure uX(L:bQ)(d:bA):Prop where
 yw:L.l.length<800
 av:3<=L.av/\L.av<=200
 room:L.from_+L.av*8<=d.n
 size:d.n<100000
 calls:d.calls<900000000000
 next:0<=L.next/\L.next<100000000000
 gen:∀i,i<L.l.length->1<=(gl L.l i).gen/\(gl L.l i).gen<100000000000
 buf:∀i,i<L.l.length->(gl L.l i).buf.length<=378
 aP:∀i,i<L.l.length->(gl L.l i).aP.length*9<=(gl L.l i).buf.length
structure aad(L L1:bQ)(d d1:bA)(n:Nat):Prop where
 pos:1<=L1.l.length
 yw:L1.l.length<=801
 from_:L1.from_=L.from_
 av:L1.av=L.av
 next:L1.next=L.next
 run:L1.run=L.run
 fresh:L1.fresh=L.fresh
 dn:d1.n=d.n
 calls:d1.calls<=d.calls+2
 gen:∀i,i<L1.l.length->1<=(gl L1.l i).gen/\(gl L1.l i).gen<=100000000000
 buf:∀i,i<L1.l.length->(gl L1.l i).buf.length<=378
 aP:∀i,i<L1.l.length->(gl L1.l i).aP.length*9<=(gl L1.l i).buf.length
 last:(kf L1).buf.length+n<=370
theorem CU{L:bQ}{d:bA}(ok:uX L d):1<=(bn L).gen/\(bn L).gen<=100000000000:=by
 by_cases h:L.l.length=0
 ·have:L.l=[]:=List.eq_nil_of_length_eq_zero h;simp only[bn,this,List.getLast?_nil];omega
 ·have hk:L.l.length-1<L.l.length:=by omega
  have e:L.l.getLast? = some (gl L.l (L.l.length-1)):=by rw[bT hk,List.getLast?_eq_getElem?,List.getElem?_eq_getElem hk]
  have:=ok.gen _ hk;simp only[bn,e];omega
theorem zK{L:bQ}{i:Nat}(h:i<(tT L).length):∃j,j<L.l.length/\gl (tT L) i=gl L.l j:=by
 have hm:gl (tT L) i∈L.l:=by rw[bT h];exact(List.mem_filter.1 (List.getElem_mem h)).1
 obtain⟨j,hj,e⟩:=List.getElem_of_mem hm;exact⟨j,hj,by rw[bT hj];exact e.symm⟩
theorem Tg(L:bQ):(tT L).length<=L.l.length:=List.length_filter_le _ _
theorem J5{L:bQ}{d:bA}{n:Nat}(ok:uX L d)(hn:n<=300):aad L (dJ L n) d (kO L d n) n:=by
 have hf:=ok.yw;cases hB:qU L n with
 |false =>
  rw[show dJ L n=L from if_neg (by rw[hB];decide),show kO L d n=d from if_neg (by rw[hB];decide)];simp only[qU,Bool.or_eq_false_iff,decide_eq_false_iff_not]at hB;exact⟨by omega,by omega,rfl,rfl,rfl,rfl,rfl,rfl,by omega,fun i hi=>by have:=ok.gen i hi;omega,ok.buf,ok.aP,by omega⟩
 |true =>
  rw[show dJ L n=ji L from if_pos hB,show kO L d n=tj L d from if_pos hB];have hln:(ji L).l.length=(tT L).length+1:=by simp[ji]
  have hkl:=Tg L;have hg:=CU ok;have hgl:∀i,i<(tT L).length+1->gl (ji L).l i=if i<(tT L).length then gl (tT L) i else bn L:=fun i hi=>by simp only[ji];exact kM hi
  refine⟨by omega,by omega,rfl,rfl,rfl,rfl,rfl,rfl,by simp[tj,gv,gu],fun i hi=>?_,fun i hi=>?_,fun i hi=>?_,?_⟩
  ·rw[hgl i (by omega)];split
   ·obtain⟨j,hj,e⟩:=zK (L:=L) (i:=i) (by assumption);rw[e];have:=ok.gen j hj;omega
   ·exact hg
  ·rw[hgl i (by omega)];split
   ·obtain⟨j,hj,e⟩:=zK (L:=L) (i:=i) (by assumption);rw[e];exact ok.buf j hj
   ·simp[bn]
  ·rw[hgl i (by omega)];split
   ·obtain⟨j,hj,e⟩:=zK (L:=L) (i:=i) (by assumption);rw[e];exact ok.aP j hj
   ·simp[bn]
  ·have:kf (ji L)=bn L:=by
    show gl (ji L).l ((ji L).l.length-1)=_;rw[hgl _ (by omega),if_neg (by omega)]
   rw[this];simp[bn];omega
theorem tn(L:bQ)(g:dG)(was:Nat)(d:bA):∀i,(dr L g was d i).n=d.n/\(dr L g was d i).calls<=d.calls+i
 |0=>⟨rfl,Nat.le_refl _⟩
 |i+1=>by
  have:=tn L g was d i;unfold dr;split
  ·simp only[gu];omega
  ·omega
structure rF where
 H:PH
 y:iu
 L:bQ
 d:bA
 body:List Int
 cap:Nat
noncomputable def BN:cE where
 α:=rF
 β:=nC
 m:=5
 m':=6
 pre:=fun a=>bY a.H a.y a.L/\uX a.L a.d/\1<=a.body.length/\a.body.length<=300
 args:=fun a=>[.a (.ptr 0 0 0 0),.a (.slc 4 0 1 a.body.length a.cap)]
 hp:=fun a=>[(0,fF 1 a.L a.y.lv)]++gJ 1 2 a.d++[(3,.cA a.H)]
 ro:=fun a=>jv 4 a.body
 post:=fun a b=>bY b.H b.y (mo a.L a.body)/\∀x,a.H x≠none->x∉bt a.y->b.H x=a.H x/\x∉bt b.y
 res:=fun a _=>.mG [.a (.int .i64 a.L.next),.a (.lit .i64 0)]
 cZ:=fun a b=>[(0,fF 1 (mo a.L a.body) b.y.lv)]++gJ 1 2 (oF a.L a.d a.body)++[(5,.cA b.H)]
def Xl(a:rF):An:=.flat 17 Nat (fun s i=>S.dev (s.int 95 i) (s.fu (s.tg 0) 0) (dr (dJ a.L a.body.length) (J2 (kf (dJ a.L a.body.length)) a.L.next a.body) (kf (dJ a.L a.body.length)).buf.length (kO a.L a.d a.body.length) i)) (fun _ i=>i<=8) (fun _ i=>8-i)
def Zu(a:rF):An:=.mk 10 (PH×iu) (fun s x=>S.log s 0 (dJ a.L a.body.length) x.2.lv (kO a.L a.d a.body.length) x.1) (fun _ x=>bY x.1 x.2 (dJ a.L a.body.length)/\∀z,a.H z≠none->z∉bt a.y->x.1 z=a.H z/\z∉bt x.2) (fun _ _=>0) fun _=>.mk 1000 [Xl a] []
def qx(x:Nat)(y z:List Value)(u:Nat):List Value:=List.take x y++z++List.drop (x+u) y
def zL(y:Nat)(z x:List Value):List Value:=qx y z x x.length
def jH(x:Nat)(y:List Value)(z u v w s:Nat):List Value:=zL x y (bD (Value.slice (some { block:=z,off:=u }) (v+w) s))
def uY(x:rF)(y:Int):Int:=mP (cM (dJ x.L (ai x.body)).next/y)
def Xm(y z u:Int)(x:rF)(v w s:Int)(t f:Prop):=bZ (mP (cM y/z)) (mP (cM y/u)) (aD (uY x v)) (bZ (uY x w) (uY x s) t f)
def A0(x y w s:Nat)(t:Nat->Option (Nat×List Value))(f:Nat)(g:IntKind)(h:List CK)(i j:Nat->Nat->Value)(k:Nat->Nat->Nat->List Value->Prop):=gK x y w s fun z=>(z≠0/\0+(x+y)<=x+y)/\∀(v l:Nat) (u:List Value),t v=none->u.length=z*f->(AR u 0 (CK.int g::h) (x+y) fun m n=>aZ i 0 x j (0+m) n)->k z v l u
def CW(y:Nat)(x:bQ)(z:Nat)(u:Value)(v:iu)(w s:Int)(t:Bool)(f:Prop):=bz y x.from_/\bz z x.av/\u=v.lv/\w=x.next/\s=x.run/\t=x.fresh/\f
def tq(x:rF):Int:=(dJ x.L (ai x.body)).next+(1:Int)
def xB(z:nC)(x:rF):=qw z (mo x.L x.body) (fun u=>x.H u) x.y
def J6(x:rF)(u:PH)(v:PH×iu)(w:Bool)(s:bA):=∃z:nC,tq x-(1:Int)=x.L.next/\aV (u=z.H/\ag (CW (dJ x.L (ai x.body)).from_ (mo x.L x.body) (dJ x.L (ai x.body)).av v.snd.lv z.y (tq x) (dJ x.L (ai x.body)).run w (iY s (oF x.L x.d x.body) (xB z x/\True))))
def yx(x:rF)(y:Nat):bA:=dr (dJ x.L (ai x.body)) (J2 (kf (dJ x.L (ai x.body))) x.L.next x.body) (ai (kf (dJ x.L (ai x.body))).buf) (kO x.L x.d (ai x.body)) y
def kP(z:PH×iu)(u:List Value)(v x y:Nat)(w:List Value)(s t f g:Nat)(h:List Value):PH:=aN (aL (aN (aL z.fst (aT u v)) x y w) (fc x y (s+8) t)) f g h
def qy(x:Prop):=bN (bZ 0 0 (0=0) x)
def CX(z:List Value)(u:Nat)(x:rF)(y:PH)(v:PH×iu)(w:bA)(s:Nat)(t:Prop):=ag (cS (aT z u)/\bE (aH 300 (af (ai x.body))) (qy (bG (ai x.body) x.cap/\y=y/\Xm (af (ai x.body)) 256 1 x 1099511627776 4294967296 16777216 (aD (uY x 65536)) (bZ (uY x 256) (uY x 1) (0=0) (fH (dJ x.L (ai x.body)) v.snd (iY w (yx x s) (ct x.body x.body cH/\t)))))))
def gV(x y:bQ)(z u:iu)(v w:bA)(s:Prop):=ag (rC x y z.lv u.lv (iY v w s))
def Mf(x:PH×iu)(z:rF):=bY x.fst x.snd (dJ z.L (ai z.body))/\∀u:Nat,xy (z.H u) z.y u (x.fst u) x.snd
def Mg(x:rF)(z:PH)(u:bQ)(v:iu)(w:bA):=∃y:PH×iu,bE (aH 300 (af (ai x.body))) (qy (bG (ai x.body) x.cap/\z=y.fst/\gV u (dJ x.L (ai x.body)) v y.snd w (kO x.L x.d (ai x.body)) (ct x.body x.body cH/\Mf y x/\True)))
def Mh(z:rF):=∃x:Mb,ax (rC z.L x.L z.y.lv x.y.lv (iY z.d x.d (z.H=x.H/\He x/\∀u:nC,qw u (ji x.L) (fun v=>x.H v) x.y->Mg z u.H (ji x.L) u.y (tj x.L x.d))))
def Mi(x y:Int)(z:List A):List A:=A.int .u8 x::A.int .u8 y::z
def Mj(y z:Int)(x:rF)(u v:Int)(w:List A):List A:=Mi y z (Mi (uY x u) (uY x v) w)
def o8(z:Value)(u:Nat)(v:Nat->Option (Nat×List Value))(w:A)(s:Nat->Nat->Nat->List Value->Prop):=Exists (kJ z u (fun x=>v x) (fun x y=>x+[w].length<=y.length) fun x y t f=>s x y t f)
def uZ(u:PH)(v:Value)(w:IntKind)(s:List CK)(t f g h i:Nat)(j:Nat->Nat->Value)(k:Nat->Nat->Nat->Nat->List Value->Prop):=Exists (jS u v (CK.int w) s fun y l m=>0+y<=y/\t<=f/\A0 y g h l (fun x=>aL u v x) i w s m (fun x z=>j x z) fun x z n o=>k y x z n o)
def CY(s:Nat)(g:Nat->Option (Nat×List Value))(h:Nat->Nat->Value)(t:PH)(f:Value)(i:Int)(j:Nat->Nat->List Value->Nat->Nat->Nat->Nat->List Value->Prop):=A0 0 s 1 0 (fun u=>g u) 1 .u8 [] (aO 1 []) h fun u x y v=>Exists (jS (aN t x y v) f (CK.int .i64) (iU CK.deep) fun z k l=>0+z<=z/\A0 z 1 32 k (fun w=>aL (aN t x y v) f w) 2 .i64 (iU CK.deep) l (kX [A.int .i64 i,A.val (fc x y (0+s) u)] 2) fun w m n o=>j x y v z w m n o)
def gW(x:List Int)(y:Nat):=1<=ai x/\ai x<=y
def nc(x y:Int)(z:Prop):=ah x->ah (x-y)/\z
def rG(x:Int->List Value)(y:List Int):Nat->Nat->Value:=fun(z u:Nat)=>aa x y (0+z) u
def Mk(x y z u v w:Int)(s:Prop):=(0:Int)<=x/\bq y 6/\(0:Int)<=z/\bq u 6/\(0:Int)<=v/\bq w 6/\s
def zM(x:rF):=bY x.H x.y x.L/\uX x.L x.d/\gW x.body 300
def zN(x:List Int)(z u:Prop):=∀y:Bool,(aC y->ai x=0)->az y z (0<=0/\mT x/\u)
def CZ(x:rF):=ah (dJ x.L (ai x.body)).next
theorem Ml:fnBody (Y Tryz.prog) [(195,Mc),(198,G3),(169,jN)] 162 BN fun a=>[(162,[Xl a],[Zu a])]:=fnBody.of (p :=
 ∀x:rF,zM x->kG (af (ai x.body)) 1 (∃z:nC,(0:Int)=x.L.next/\(1:Int)=0/\x.H=z.H/\gV x.L (mo x.L x.body) x.y z.y x.d (oF x.L x.d x.body) (xB z x/\True)) 300 ((gA x.y.lv/\az (af (di x.y.lv) == (0:Int)) (Mh x) (xz x.y (fun z=>x.H z) fun z U=>mW (aT U z) 3 (fun n=>x.H n) fun n B=>ah ((370:Int)-af (ai x.body))/\aY ((370:Int)-af (ai x.body)) (di (aT B n)) (Mh x) (Mg x x.H x.L x.y x.d)))/\∀z:PH×iu,Mf z x->gA z.snd.lv/\xz z.snd (fun n=>z.fst n) fun n B=>dS 2 8/\0<8/\(0:Int)<=0/\bq 1 2/\(0:Int)<=8/\bq 0 2/\dS 2 8/\2<8/\(CZ x->Mk 0 5 8 4 16 3 (Mk 24 2 32 1 40 0 (mW (aT B n) 3 (fun M=>z.fst M) fun M Q=>Exists (gL (aT B n) 3 (fun s=>z.fst s) (fun s=>ew s) fun s f=>0<8/\Exists (jS z.fst (aT f s) (CK.int .u8) [] fun t V W=>0+t<=t/\A0 t 8 1 V (fun g=>aL z.fst (aT f s) g) 1 .u8 [] W (kX (Mj (mP (cM (af (ai x.body))/(256:Int))) (mP (cM (af (ai x.body))/(1:Int))) x 1099511627776 4294967296 (Mj (uY x 16777216) (uY x 65536) x 256 1 [])) 1) fun g h j o=>uZ (aN (aL z.fst (aT f s)) h j o) (fc h j (t+8) g) .u8 [] (0+ai x.body) (ai x.body) (ai x.body) 1 1 (fun k l=>aa cH x.body (0+k) l) fun k l u v q=>o8 (aT B n) 3 (fun p=>aN (aL (aN (aL z.fst (aT f s)) h j o) (fc h j (t+8) g)) u v q p) (A.val (fc u v (k+ai x.body) l)) fun p r c e=>(∃w:Nat,aF w (bu (di (aT Q M)) /\
 CX B n x (aN (kP z f s h j o t g u v q) p r (jH c e u v k (ai x.body) l)) z (kO x.L x.d (ai x.body)) w (w<=8/\True)))/\∀w:Nat,w<=8->az (aH (af w) 8) (aS w/\o5 ((af w+(1:Int))*(48:Int)) 6 (az (aH (af (di (aT Q M))) (pL true 0 ((af w+(1:Int))*(48:Int)-6))) (mW (aT B n) 3 (fun m=>aN (kP z f s h j o t g u v q) p r (jH c e u v k (ai x.body) l) m) fun m F=>o5 (af w*(48:Int)) 6 (aY (pL true 0 (af w*(48:Int)-6)) (di (aT F m)) (∃D:tc,ag (aT B n=pv D.y.b 0/\bz w D.i/\iY (yx x w) D.d (ag (rC (dJ x.L (ai x.body)) D.L z.snd.lv D.lv (aN (kP z f s h j o t g u v q) p r (jH c e u v k (ai x.body) l)=D.H/\zF D/\aI (dz w fun C=>bu (di (aT Q M))/\CX B n x (aN (kP z f s h j o t g u v q) p r (jH c e u v k (ai x.body) l)) z (zG D) C (bU C 8 w))))))) (dz w fun D=>bu (di (aT Q M))/\CX B n x (aN (kP z f s h j o t g u v q) p r (jH c e u v k (ai x.body) l)) z (yx x w) D (bU D 8 w)))) (dz w fun m=>bu (di (aT Q M))/\CX B n x (aN (kP z f s h j o t g u v q) p r (jH c e u v k (ai x.body) l)) z (yx x w) m (bU m 8 w)))) (Exists (gL (aT B n) 4 (fun m=>aN (kP z f s h j o t g u v q) p r (jH c e u v k (ai x.body) l) m) (fun m=>ew m) fun m F=>CZ x->zN x.body (uZ (aN (kP z f s h j o t g u v q) p r (jH c e u v k (ai x.body) l)) (aT F m) .i64 (iU CK.deep) 1 1 1 32 2 (fun C J=>aO 2 (bx (dJ x.L (ai x.body)).next (bD gn)) (0+C) J) fun C J G I N=>o8 (aT B n) 4 (fun E=>aN (aL (aN (kP z f s h j o t g u v q) p r (jH c e u v k (ai x.body) l)) (aT F m)) G I N E) (A.val (fc G I (C+1) J)) fun E K P O=>CZ x ->
 ah (tq x)/\az (dJ x.L (ai x.body)).fresh (nc (tq x) 1 (Exists (kN (yx x w) fun R=>J6 x (aN (aN (aL (aN (kP z f s h j o t g u v q) p r (jH c e u v k (ai x.body) l)) (aT F m)) G I N) E K (jH P O G I C 1 J)) z false (gv R)))) (nc (tq x) 1 (J6 x (aN (aN (aL (aN (kP z f s h j o t g u v q) p r (jH c e u v k (ai x.body) l)) (aT F m)) G I N) E K (jH P O G I C 1 J)) z (dJ x.L (ai x.body)).fresh (yx x w)))) (CY (ai x.body) (fun C=>aN (kP z f s h j o t g u v q) p r (jH c e u v k (ai x.body) l) C) (rG cH x.body) (aN (kP z f s h j o t g u v q) p r (jH c e u v k (ai x.body) l)) (aT F m) (dJ x.L (ai x.body)).next fun C J G I N E K P=>o8 (aT B n) 4 (fun O=>aN (aL (aN (aN (kP z f s h j o t g u v q) p r (jH c e u v k (ai x.body) l)) C J G) (aT F m)) E K P O) (A.val (fc E K (I+1) N)) fun O S R T=>CZ x->ah (tq x)/\az (dJ x.L (ai x.body)).fresh (nc (tq x) 1 (Exists (kN (yx x w) fun X=>J6 x (aN (aN (aL (aN (aN (kP z f s h j o t g u v q) p r (jH c e u v k (ai x.body) l)) C J G) (aT F m)) E K P) O S (jH R T E K I 1 N)) z false (gv X)))) (nc (tq x) 1 (J6 x (aN (aN (aL (aN (aN (kP z f s h j o t g u v q) p r (jH c e u v k (ai x.body) l)) C J G) (aT F m)) E K P) O S (jH R T E K I 1 N)) z (dJ x.L (ai x.body)).fresh (yx x w))))))))))))) (by kernel_rfl) (by
 delta az aT ai bZ gL aK ah bx jH b8 aD bE gK pL cF aH af kJ mX bD aC dV aX bq bV cS aW ct Xm iM A0 dS bN gA aI J6 yx uY bG dz kP bB ew fH CW bU CX Mh gn kE xz cM Mj o8 xy jS aV aS uZ aF iT ag zF aY CY Mg tq He zL qw br ax gW kN iU qy o5 bu bz mW mP nc mT zG rG gV Mk zM xB Mi eu iE kG zN qx Mf CZ
 try dsimp -iota -proj only
 rintro⟨H,y,L,d,body,cap⟩ ⟨hl,ok,hb1,hb2⟩;dsimp only at *;have hf:=ok.yw;have hcl:=ok.calls;have hnx:=ok.next
 have hng:=CU ok;obtain⟨e1,_,⟨ea,ec,e2⟩,e3,_⟩:=hl.rD;refine⟨fun c1=>?_,fun _=>⟨fun c2=>?_,fun _=>⟨⟨⟨ea,_,ec,e2,e3⟩,fun c3=>?_,fun c3=>?_⟩,?_⟩⟩⟩
 ·simp at c1;omega
 ·simp at c2;omega
 ·rw[e1]at c3;have hn0:L.l.length=0:=by simpa using c3
  have hneed:qU L body.length=true:=by simp only[qU,hn0];rfl
  have e1:dJ L body.length=ji L:=if_pos hneed;have e2:kO L d body.length=tj L d:=if_pos hneed;refine⟨Mb.mk H y L d,?_⟩
  and_intros<;>first|exact dg|exact ok.av.1|exact ok.av.2|exact ok.room|exact ok.size|(simp only[bR];omega)|skip
  intro b hpost;refine⟨(b.H,b.y),?_⟩;simp only[e1,e2]
  and_intros<;>first|exact dg|exact hpost.1|exact hpost.2|rfl
 ·rw[e1]at c3 ⊢;have hn0:0<L.l.length:=by have:=(beq_eq_false_iff_ne.1 c3);omega
  have hk:L.l.length-1<L.l.length:=by omega
  obtain⟨b,lo,o,c,cs,g1,g2,g3,g4⟩:=hl.at_ hk;have hs:=hl.seg _ hk;obtain⟨b1,b2,b3,b4,⟨ba,bc,b5⟩,b6⟩:=hs.buf.len;have e5:((L.l.length:Int)-1).toNat=L.l.length-1:=by omega
  refine⟨by simp only[bR];omega,_,_,_,_,g1,by omega,b,lo,o+(L.l.length-1)*1,cs,by rw[e5,Nat.add_assoc],g2,⟨⟨_,g3,rfl⟩,trivial⟩,?_⟩;refine⟨_,_,g4,?_⟩;refine⟨_,_,rfl,?_⟩;refine⟨_,0,_,_,rfl,hs.cell,?_⟩;refine⟨⟨⟨_,rfl,b6⟩,trivial⟩,⟨ba,_,bc,b5,b3⟩,by simp only[bR];omega,fun c4=>?_,fun c4=>?_⟩
  ·simp only[de,List.getD_cons_succ,List.getD_cons_zero,b1]at c4;have hneed:qU L body.length=true:=by
    have:=of_decide_eq_true c4;rw[qU,Bool.or_eq_true];exact .inr (decide_eq_true (show 370<(kf L).buf.length+body.length by unfold kf;omega))
   have e1:dJ L body.length=ji L:=if_pos hneed;have e2:kO L d body.length=tj L d:=if_pos hneed;refine⟨Mb.mk H y L d,?_⟩
   and_intros<;>first|exact dg|exact ok.av.1|exact ok.av.2|exact ok.room|exact ok.size|(simp only[bR];omega)|skip
   intro b hpost;refine⟨(b.H,b.y),?_⟩;simp only[e1,e2]
   and_intros<;>first|exact dg|exact hpost.1|exact hpost.2|rfl
  ·simp only[de,List.getD_cons_succ,List.getD_cons_zero,b1]at c4;have hneed:qU L body.length=false:=by
    have:=of_decide_eq_false c4;rw[qU,Bool.or_eq_false_iff];exact⟨decide_eq_false (by omega),decide_eq_false (show ¬370<(kf L).buf.length+body.length by unfold kf;omega)⟩
   have e1:dJ L body.length=L:=if_neg (by rw[hneed];decide);have e2:kO L d body.length=d:=if_neg (by rw[hneed];decide);refine⟨(H,y),?_⟩;simp only[e1,e2]
   and_intros<;>first|exact dg|exact hl|exact fun _ _ h=>⟨rfl,h⟩|exact fun _ _ h=>⟨trivial,h⟩|rfl
 ·rintro⟨X,Y⟩ ⟨hX,hfr⟩;dsimp only at hX hfr ⊢;have h1:=J5 (n:=body.length) ok hb2;have eA:mo L body=J3 (dJ L body.length) body:=rfl;have eD:oF L d body=if(dJ L body.length).fresh then gv (qV (dJ L body.length) (kO L d body.length) body)else qV (dJ L body.length) (kO L d body.length) body:=rfl;rw[eA,eD];obtain⟨L1,hL1⟩:∃L1,L1=dJ L body.length:=⟨_,rfl⟩
  obtain⟨d1,hd1⟩:∃d1,d1=kO L d body.length:=⟨_,rfl⟩
  rw[<- hL1]at hX;rw[<- hL1,<- hd1]at h1 ⊢;have hp:=h1.pos;have hk:L1.l.length-1<L1.l.length:=by omega
  obtain⟨k1,_,⟨ka,kc,k2⟩,k3,_⟩:=hX.rD;obtain⟨b,lo,o,c,cs,g1,g2,g3,g4⟩:=hX.at_ hk;have hs:=hX.Zt hk;obtain⟨sl,hsl⟩:∃sl,sl=gl Y.ys (L1.l.length-1):=⟨_,rfl⟩
  have hlg:kf L1=gl L1.l (L1.l.length-1):=rfl;obtain⟨g,hg⟩:∃g,g=kf L1:=⟨_,rfl⟩
  rw[<- hlg,<- hg,<- hsl]at hs;rw[<- hsl]at g3 g4;rw[<- hg];have hlast:=h1.last;rw[<- hg]at hlast;have hgen:=h1.gen _ hk;rw[<- hlg,<- hg]at hgen;obtain⟨b1,b2,b3,b4,⟨ba,bc,b5⟩,b6⟩:=hs.at_.buf.len;have e5:((L1.l.length:Int)-1).toNat=L1.l.length-1:=by omega
  rw[k1];have hfew:=h1.yw;refine⟨⟨ka,_,kc,k2,k3⟩,by simp only[bR];omega,_,_,_,_,g1,by omega,b,lo,o+(L1.l.length-1)*1,cs,by rw[e5,Nat.add_assoc],g2,⟨⟨_,g3,rfl⟩,trivial⟩,?_⟩
  repeat refine lB ?_
  intro _
  repeat refine lB ?_
  refine⟨_,_,g4,?_⟩;refine⟨_,_,rfl,?_⟩;refine⟨_,0,_,_,rfl,hs.at_.cell,?_⟩;refine⟨⟨⟨_,rfl,b6⟩,trivial⟩,⟨ba,_,bc,b5,b3⟩,?_⟩;refine⟨_,_,g4,?_⟩;refine⟨_,_,rfl,?_⟩;refine⟨_,0,_,_,rfl,hs.at_.cell,?_⟩;refine⟨⟨⟨_,rfl,b6⟩,trivial⟩,?_⟩
  repeat refine lB ?_
  obtain⟨c0,hbuf⟩:=hs.at_.buf;simp only[show(de g sl.bv sl.rv).getD 3 (Value.tuple #[])=sl.bv from rfl];refine⟨_,c0,_,hbuf,?_⟩
  repeat refine lB ?_
  intro cap1 q1 q2 q3
  repeat refine lB ?_
  intro p1 lo1 cs1 hp1 hl1 hr1;have hA:Step X sl.bv (aN (aL X sl.bv) p1 lo1 cs1) (fc p1 lo1 (g.buf.length+8) cap1):=sj hp1;have hsA:kr (aN (aL X sl.bv) p1 lo1 cs1) (fc p1 lo1 (g.buf.length+8) cap1) [.int .u8] (g.buf.length+8) cap1 (aa cH (g.buf++J1 body.length L1.next)):=by
   refine mZ hl1 q1 q2 hr1 fun i hi j hj=>?_;have hj0:j=0:=by simpa using hj
   subst hj0;simp only[Nat.zero_add,aZ,aa,cH,List.getD_cons_zero];by_cases hin:i<g.buf.length
   ·rw[if_pos hin,bO hin]
   ·rw[if_neg hin];obtain⟨m,rfl⟩:∃m,i=g.buf.length+m:=⟨i-g.buf.length,by omega⟩
    rw[bf,Nat.add_sub_cancel_left];have hm:m<8:=by omega
    match m,hm with
    |0,_=>rfl
    |1,_=>rfl
    |2,_=>rfl
    |3,_=>rfl
    |4,_=>rfl
    |5,_=>rfl
    |6,_=>rfl
    |7,_=>rfl
  refine⟨_,cap1,_,hsA,?_⟩
  repeat refine lB ?_
  intro cap2 q4 q5 q6
  repeat refine lB ?_
  intro p2 lo2 cs2 hp2 hl2 hr2;have hB:Step X sl.bv (aN (aL (aN (aL X sl.bv) p1 lo1 cs1) (fc p1 lo1 (g.buf.length+8) cap1)) p2 lo2 cs2) (fc p2 lo2 (g.buf.length+8+body.length) cap2):=hA.trans (sj hp2);have hlb:(rE g L1.next body).length=g.buf.length+8+body.length:=by simp only[rE,List.length_append];rfl
  have hBy:fJ (aN (aL (aN (aL X sl.bv) p1 lo1 cs1) (fc p1 lo1 (g.buf.length+8) cap1)) p2 lo2 cs2) (fc p2 lo2 (g.buf.length+8+body.length) cap2) (rE g L1.next body):=by
   refine⟨cap2,?_⟩;rw[hlb];refine mZ hl2 q4 q5 hr2 fun i hi j hj=>?_;have hj0:j=0:=by simpa using hj
   subst hj0;simp only[Nat.zero_add,aZ,aa,cH,List.getD_cons_zero,rE];have hl8:(g.buf++J1 body.length L1.next).length=g.buf.length+8:=by rw[List.length_append];rfl
   by_cases hin:i<g.buf.length+8
   ·rw[if_pos hin,show gl (g.buf++J1 body.length L1.next++body) i=gl (g.buf++J1 body.length L1.next) i from bO (by rw[hl8];exact hin)]
   ·rw[if_neg hin];obtain⟨m,rfl⟩:∃m,i=g.buf.length+8+m:=⟨i-(g.buf.length+8),by omega⟩
    rw[<- hl8,bf,Nat.add_sub_cancel_left]
  obtain⟨hc2,hs3,hf3⟩:=xA hs hB hBy;obtain⟨X2,hX2⟩:∃X2,X2=aN (aL (aN (aL X sl.bv) p1 lo1 cs1) (fc p1 lo1 (g.buf.length+8) cap1)) p2 lo2 cs2:=⟨_,rfl⟩
  rw[<- hX2]at hc2 hs3 hf3 ⊢;refine⟨_,_,g4,?_⟩;refine⟨_,_,rfl,?_⟩;refine⟨_,0,_,_,rfl,hc2,by simp[de],?_⟩;obtain⟨X3,hX3⟩:∃X3,X3=aN X2 sl.b 0 (de { g with buf:=rE g L1.next body } (fc p2 lo2 (g.buf.length+8+body.length) cap2) sl.rv):=⟨_,rfl⟩
  have eX3:aN X2 sl.b 0 (List.take 3 (de g sl.bv sl.rv)++[Value.slice (some ⟨p2,lo2,none⟩) (g.buf.length+8+body.length) cap2]++List.drop (3+[Value.slice (some ⟨p2,lo2,none⟩) (g.buf.length+8+body.length) cap2].length) (de g sl.bv sl.rv))=X3:=hX3.symm;rw[<- hX3]at hs3 hf3;simp only[eX3];obtain⟨sl3,hsl3⟩:∃s,s={ sl with bv:=fc p2 lo2 (g.buf.length+8+body.length) cap2 }:=⟨_,rfl⟩
  obtain⟨g3',hg3⟩:∃s:dG,s={ g with buf:=rE g L1.next body }:=⟨_,rfl⟩
  have hsw:J2 g L.next body=g3':=by rw[hg3,<- h1.next];rfl
  have hb3:g3'.buf.length=g.buf.length+8+body.length:=by rw[hg3];exact hlb
  have hgen3:g3'.gen=g.gen:=by rw[hg3]
  have hv2:sl3.bv=fc p2 lo2 (g.buf.length+8+body.length) cap2:=by rw[hsl3]
  have hb3s:sl3.b=sl.b:=by rw[hsl3]
  rw[<- hsl3,<- hg3]at hs3;rw[<- hsl3]at hf3;have hcell3:=hs3.at_.cell;have hwn:=tn L1 g3' g.buf.length d1;have hsegs:=ok.av;have hroom:=ok.room;have hsize:=ok.size;have q1n:=h1.dn;have q1c:=h1.calls;have q1f:=h1.from_;have q1s:=h1.av;rw[hsw];refine⟨⟨0,?_⟩,fun i hi=>⟨fun c5=>?_,fun c5=>?_⟩⟩
  ·and_intros<;>first|exact dg|rfl|exact Nat.le_refl _|exact ak.refl _ _ _
  ·have hi8:i<8:=by have:=of_decide_eq_true c5;omega
   have em:(bif true then max 0 (((i:Int)+1)*48-6)else min 0 (((i:Int)+1)*48-6))=(cn (i+1):Nat):=by simp only[cond_true,cn];omega
   have em2:(bif true then max 0 ((i:Int)*48-6)else min 0 ((i:Int)*48-6))=(cn i:Nat):=by simp only[cond_true,cn];omega
   simp only[show(de g sl.bv sl.rv).getD 3 (Value.tuple #[])=sl.bv from rfl,b1,em,em2];have hw1:=hwn i
   repeat refine lB ?_
   refine⟨fun c6=>?_,fun c6=>?_⟩
   ·have c6:g.buf.length<cn (i+1):=by have:=of_decide_eq_true c6;omega
    refine⟨_,_,g4,?_⟩;refine⟨_,_,rfl,?_⟩;refine⟨_,0,_,_,rfl,by rw[<- hb3s];exact hcell3,?_⟩;refine⟨⟨⟨_,rfl,by rw[hv2];rfl⟩,trivial⟩,⟨_,_,_,hv2,Nat.le_trans q4 q5⟩,?_⟩;simp only[hv2,de,List.getD_cons_succ,List.getD_cons_zero,Pu]
    repeat refine lB ?_
    refine⟨fun c7=>?_,fun c7=>?_⟩
    ·have c7:cn i<g.buf.length+8+body.length:=by have:=of_decide_eq_true c7;omega
     have hcond:dr L1 g3' g.buf.length d1 (i+1)=gu (dr L1 g3' g.buf.length d1 i) (jY L1 g3' i) 64 (pV g3' i L1.run):=by
      have:tU g.buf.length g3'.buf.length i=true:=by simp only[tU,Bool.and_eq_true,decide_eq_true_eq];omega
      simp only[dr,this,if_true]
     refine⟨tc.mk X3 sl3 g3' i L1 Y.lv (dr L1 g3' g.buf.length d1 i),?_⟩
     and_intros<;>first|exact dg|exact hs3.at_|(rw[hb3s];exact g4)|exact ak.refl _ _ _|(dsimp only;omega)|skip
     intro _ _;refine⟨by simp only[bR];omega,i+1,?_⟩;rw[hcond]
     and_intros<;>first|exact dg|exact ak.refl _ _ _|(simp only[gu];omega)|skip
    ·have c7:¬cn i<g.buf.length+8+body.length:=by have:=of_decide_eq_false c7;omega
     have hcond:dr L1 g3' g.buf.length d1 (i+1)=dr L1 g3' g.buf.length d1 i:=by
      have:tU g.buf.length g3'.buf.length i=false:=by simp only[tU,Bool.and_eq_false_iff,decide_eq_false_iff_not];omega
      simp only[dr,this];rfl
     refine⟨by simp only[bR];omega,i+1,?_⟩;rw[hcond]
     and_intros<;>first|exact dg|exact ak.refl _ _ _|skip
   ·have c6:¬g.buf.length<cn (i+1):=by have:=of_decide_eq_false c6;omega
    have hcond:dr L1 g3' g.buf.length d1 (i+1)=dr L1 g3' g.buf.length d1 i:=by
     have:tU g.buf.length g3'.buf.length i=false:=by simp only[tU,Bool.and_eq_false_iff,decide_eq_false_iff_not];omega
     simp only[dr,this];rfl
    refine⟨by simp only[bR];omega,i+1,?_⟩;rw[hcond]
    and_intros<;>first|exact dg|exact ak.refl _ _ _|skip
  ·have hi8:i=8:=by have:=of_decide_eq_false c5;omega
   subst hi8;have eD2:qV L1 d1 body=dr L1 g3' g.buf.length d1 8:=by
    have:J2 (kf L1) L1.next body=g3':=by rw[h1.next,<- hg];exact hsw
    unfold qV;rw[this,<- hg]
   refine⟨_,_,g4,?_⟩;refine⟨_,_,rfl,?_⟩;refine⟨_,0,_,_,rfl,by rw[<- hb3s];exact hcell3,?_⟩;obtain⟨c9,hrec⟩:=hs3.at_.aP;obtain⟨m1,m2,m3,m4,m5,_,m6⟩:=fh hrec;refine⟨⟨⟨_,rfl,m6⟩,trivial⟩,fun _ b11 hb11=>⟨fun e=>absurd (hb11 e) (by omega),fun _=>?_⟩⟩;simp only[show(de g3' sl3.bv sl3.rv).getD 4 (Value.tuple #[])=sl3.rv from rfl,Nat.zero_add]
   repeat refine lB ?_
   intro cap3 u1 u2 u3
   repeat refine lB ?_
   intro p3 lo3 cs3 hp3 hl3 hr3;have hC:Step X3 (.slice none 0 0) (aN X3 p3 lo3 cs3) (fc p3 lo3 body.length cap3):=J4 hp3;have hCb:fJ (aN X3 p3 lo3 cs3) (fc p3 lo3 body.length cap3) body:=by
    refine⟨cap3,mZ hl3 u1 u2 hr3 fun i hi j hj=>?_⟩;have hj0:j=0:=by simpa using hj
    subst hj0;simp only[aZ,Nat.not_lt_zero,if_false,Nat.sub_zero]
   have hx3:∀x,X3 x≠none->x≠p3:=fun x hx e=>hx (by rw[e];exact hp3);have hrec4:kr (aN X3 p3 lo3 cs3) sl3.rv si g3'.aP.length c9 (uT g3'.aP sl3.vs):=iS hrec fun x hx=>cK (hx3 x (mV hrec x hx));refine⟨_,c9,_,hrec4,?_⟩;have hrc:=h1.aP _ hk;have hbc:=h1.buf _ hk;rw[<- hlg,<- hg]at hrc hbc;have hmr:g3'.aP.length=g.aP.length:=by rw[hg3]
   repeat refine lB ?_
   intro cap4 w1 w2 w3
   repeat refine lB ?_
   intro p4 lo4 cs4 hp4 hl4 hr4;have hD:Step (aN X3 p3 lo3 cs3) sl3.rv (aN (aL (aN X3 p3 lo3 cs3) sl3.rv) p4 lo4 cs4) (fc p4 lo4 (g3'.aP.length+1) cap4):=sj hp4;have hr5:kr (aN (aL (aN X3 p3 lo3 cs3) sl3.rv) p4 lo4 cs4) (fc p4 lo4 (g3'.aP.length+1) cap4) si (g3'.aP.length+1) cap4 (uT (g3'.aP++[⟨L1.next,body⟩]) (sl3.vs++[fc p3 lo3 body.length cap3])):=by
    refine mZ hl4 w1 w2 hr4 fun i hi j hj=>?_;have hvl:=hs3.at_.len;simp only[aZ,uT,Nat.zero_add];by_cases hin:i<g3'.aP.length
    ·rw[if_pos hin,bO hin];by_cases hj0:j=0
     ·rw[if_pos hj0,if_pos hj0]
     ·rw[if_neg hj0,if_neg hj0,List.getD_eq_getElem?_getD,List.getD_eq_getElem?_getD,List.getElem?_append_left (by omega)]
    ·rw[if_neg hin];obtain rfl:i=g3'.aP.length:=by omega
     rw[Nat.sub_self];have hj2:j<2:=hj
     match j,hj2 with
     |0,_=>rw[if_pos rfl,show g3'.aP.length=g3'.aP.length+0 from rfl,bf];rfl
     |1,_=>rw[if_neg (by decide),List.getD_eq_getElem?_getD,List.getElem?_append_right (by omega),hvl,Nat.sub_self];rfl
   obtain⟨hcell4,hcell5,hnd6,hfr6⟩:=AZ (r:=⟨L1.next,body⟩) hs3 hC hCb hD (fun x hx=>by
    simp only[fN,fc,List.mem_singleton]at hx;rw[hx,dN];simp) ⟨cap4,hr5⟩
   have hset:=hX.set hk (sl:=⟨sl3.b,sl3.bv,fc p4 lo4 (g3'.aP.length+1) cap4,sl3.vs++[fc p3 lo3 body.length cap3]⟩) (g:={ g3' with aP:=g3'.aP++[⟨L1.next,body⟩] }) (by rw[<- hsl];exact hb3s) hnd6 (by rw[<- hsl];exact hf3.trans hfr6);have hAll:=hset.1.congr (L':=J3 L1 body) (by
    simp only[J3,Ow];rw[<- hg,hg3];rfl)
   have hFr:∀z,H z≠none->z∉bt y->aN (aN (aL (aN X3 p3 lo3 cs3) sl3.rv) p4 lo4 cs4) sl3.b 0 (de { g3' with aP:=g3'.aP++[⟨L1.next,body⟩] } sl3.bv (fc p4 lo4 (g3'.aP.length+1) cap4)) z=H z/\z∉bt ⟨Y.lv,Y.ys.set (L1.l.length-1) ⟨sl3.b,sl3.bv,fc p4 lo4 (g3'.aP.length+1) cap4,sl3.vs++[fc p3 lo3 body.length cap3]⟩⟩:=fun z hz hn=>by
    obtain⟨f1,f2⟩:=hfr z hz hn;obtain⟨f3,f4⟩:=hset.2 z (by rw[f1];exact hz) f2;exact⟨f3.trans f1,f4⟩
   obtain⟨X6,hX6⟩:∃X6,X6=aN (aN (aL (aN X3 p3 lo3 cs3) sl3.rv) p4 lo4 cs4) sl3.b 0 (de { g3' with aP:=g3'.aP++[⟨L1.next,body⟩] } sl3.bv (fc p4 lo4 (g3'.aP.length+1) cap4)):=⟨_,rfl⟩
   rw[<- hX6]at hAll;simp only[<- hX6]at hFr;refine⟨_,_,g4,?_⟩;refine⟨_,_,rfl,?_⟩;refine⟨_,0,_,_,rfl,by rw[<- hb3s];exact hcell5,by simp[de],fun _=>?_⟩;have q1x:=h1.next
   have eDn:(qV L1 d1 body).n=d.n/\(qV L1 d1 body).calls<=d.calls+10:=by rw[eD2];have:=hwn 8;omega
   rw[eD2]at eDn;refine⟨by simp only[bR];omega,fun hfre _=>⟨by simp only[bR];omega,dr L1 g3' g.buf.length d1 8,?_⟩,fun hfre _=>⟨by simp only[bR];omega,?_⟩⟩
   ·and_intros<;>first|exact dg|exact ak.refl _ _ _|skip
    intro _ _;rw[hfre,if_pos rfl,eD2];refine⟨⟨X6,⟨Y.lv,Y.ys.set (L1.l.length-1) ⟨sl3.b,sl3.bv,fc p4 lo4 (g3'.aP.length+1) cap4,sl3.vs++[fc p3 lo3 body.length cap3]⟩⟩⟩,?_⟩
    and_intros<;>first|exact dg|exact hAll|exact hFr|(rw[hX6,hb3s];rfl)|exact Nat.le_refl _|exact ak.refl _ _ _|rfl|skip
   ·rw[hfre,if_neg (by decide),eD2];refine⟨⟨X6,⟨Y.lv,Y.ys.set (L1.l.length-1) ⟨sl3.b,sl3.bv,fc p4 lo4 (g3'.aP.length+1) cap4,sl3.vs++[fc p3 lo3 body.length cap3]⟩⟩⟩,?_⟩
    and_intros<;>first|exact dg|exact hAll|exact hFr|(rw[hX6,hb3s];rfl)|exact Nat.le_refl _|exact ak.refl _ _ _|rfl|skip)
theorem C0:au (Y Tryz.prog).G.X 162 BN:=aU fL Ml ⟨P5,Fb,iN,trivial⟩
structure ng(rs:List RecM):Prop where
 lt:∀i j,i<j->j<rs.length->(gl rs i).pos<(gl rs j).pos
 Bq:∀i,i<rs.length->0<=(gl rs i).pos/\(gl rs i).pos<1000000000000
theorem u0{H:PH}{v:Value}{rs:List RecM}{vs:List Value}{n c:Nat}(h:kr H v si n c (uT rs vs)){k:Nat}(hk:k<n):∃b lo o cs,v=fc b (lo+o) n c/\H b=some (lo,cs)/\cs[o+k*2]? = some (.int .i64 (gl rs k).pos)/\cs[o+k*2+1]? = some (vs.getD k undef) /\
 (vs.getD k undef).oneCell'=true/\bR .i64 (gl rs k).pos/\cs.getD (o+k*2) (Value.tuple #[]) = .int .i64 (gl rs k).pos/\cs.getD (o+k*2+1) (Value.tuple #[])=vs.getD k undef:=by
 rcases h with⟨_,h0,_⟩ | ⟨b,lo,o,cs,h1,h2,h3,h4,h5⟩
 ·omega
 ·obtain⟨g1,g2⟩:=h5.at_ k hk 0 (.int .i64) rfl;obtain⟨g3,g4⟩:=h5.at_ k hk 1 .deep rfl;have g1:cs[o+k*2]? = some (.int .i64 (gl rs k).pos):=g1;have g3:cs[o+k*2+1]? = some (vs.getD k undef):=g3;obtain⟨m,hm,hr⟩:=g2;have hr:bR .i64 (gl rs k).pos:=by
   have:(Value.int .i64 (gl rs k).pos) = .int .i64 m:=hm;injection this with _ e
   rw[e];exact hr
  exact⟨b,lo,o,cs,h1,h3,g1,g3,g4,hr,by rw[List.getD_eq_getElem?_getD,g1];rfl,by rw[List.getD_eq_getElem?_getD,g3];rfl⟩
structure Hf where
 H:PH
 rv:Value
 rs:List RecM
 vs:List Value
 p:Int
noncomputable def Yc:cE where
 α:=Hf
 β:=Nat
 m:=1
 m':=1
 pre:=fun a=>(∃c,kr a.H a.rv si a.rs.length c (uT a.rs a.vs))/\a.rs.length<=400/\ng a.rs/\0<=a.p/\a.p<1000000000000
 args:=fun a=>[.a (.val a.rv),.a (.int .i64 a.p),.a (.fn 238)]
 hp:=fun _=>[]
 ro:=fun a=>[(0,.cA a.H)]
 post:=fun a n=>n<=a.rs.length/\(∀k,k<n->(gl a.rs k).pos<a.p)/\∀k,n<=k->k<a.rs.length->a.p<=(gl a.rs k).pos
 res:=fun a n=>.mG [.a (.int .i64 n),.a (.bool (decide (n<a.rs.length)&&decide ((gl a.rs n).pos=a.p)))]
 cZ:=fun _ _=>[]
def aae(a:Hf):An:=.flat 3 (Nat×Nat) (fun s x=>(s.int 9 x.1).int 10 x.2) (fun _ x=>x.1<=x.2/\x.2<=a.rs.length/\(∀k,k<x.1->(gl a.rs k).pos<a.p)/\∀k,x.2<=k->k<a.rs.length->a.p<=(gl a.rs k).pos) (fun _ x=>x.2-x.1)
def xC(z:Nat)(x:Hf)(u:Nat):=z<=x.rs.length/\(∀y:Nat,y<u->(gl x.rs y).pos<x.p)/\∀y:Nat,z<=y->y<x.rs.length->x.p<=(gl x.rs y).pos
def u5(u:Nat)(v:Value)(w:Nat->Option (Nat×List Value))(s:Nat->List Value->Prop)(t:Prop):=qv u v 2 (fun x=>w x) (fun x=>Exists (jw x)) (fun x y=>(∃z:Value,y[x+1]? = some z/\ew z)/\True) (fun x y=>s x y) t
def zO(x:Nat×Nat):Int:=o7 (cM (af x.fst+af x.snd)/(2:Int))
def Hg(x:Hf):=(∃y:Nat,kr x.H x.rv (CK.int .i64::iU CK.deep) x.rs.length y (uT x.rs x.vs))/\x.rs.length<=400/\ng x.rs/\bq x.p 1000000000000
def Hh(x:Hf)(y:Nat×Nat)(z:Prop):=bu (di x.rv)/\bN (aV (cS x.rv/\aD x.p/\x.H=x.H/\(y.fst<=y.snd/\xC y.snd x y.fst)/\z))
def C1(y:Nat)(x:Hf):Bool:=decide (y<x.rs.length)&&decide ((gl x.rs y).pos=x.p)
theorem Wn:fnBody (Y Tryz.prog) [] 237 Yc fun a=>[(237,[aae a],[])]:=fnBody.of (p :=
 ∀y:Hf,Hg y->gA y.rv/\(∃x:Nat×Nat,bz (di y.rv) x.snd/\aF x.fst (Hh y x True))/\∀x:Nat×Nat,x.fst<=x.snd/\xC x.snd y x.fst->aY (af x.fst) x.snd (ah (af x.fst+af x.snd)/\(0:Int)<=1/\Exists (iT y.rv (zO x) fun v w=>Exists (mX v w (aX (zO x)*2) (fun u=>y.H u) (fun u=>Exists (jw u)) (fun u s=>(∃z:Value,s[u+1]? = some z/\ew z)/\True) fun u s=>nc (jP (aT s u)) y.p (az (aH (rz (jP (aT s u)-y.p) (-1:Int) 1) 0) (ah (zO x+(1:Int))/\∃z:Nat×Nat,bz x.snd z.snd/\zO x+(1:Int)=af z.fst/\Hh y z (z.snd-z.fst<x.snd-x.fst)) (∃z:Nat×Nat,zO x=af z.snd/\bz x.fst z.fst/\Hh y z (z.snd-z.fst<x.snd-x.fst)))))) (u5 x.fst y.rv (fun v=>y.H v) (fun v w=>nc (jP (aT w v)) y.p (∃u:Nat,bz x.fst u/\(rz (jP (aT w v)-y.p) (-1:Int) 1 == (0:Int))=C1 u y/\xC u y u/\True)) (∃v:Nat,bz x.fst v/\fC (C1 v y) (xC v y v) True))) (by kernel_rfl) (by
 delta az aT ah aA aD bE pL cF aH af mX aC dV aX fC bq cS aW bN gA qv ew xC cM aV aF iT aY u5 zO Hg Hh iU C1 bu bz rz nc jw o7
 try dsimp -iota -proj only
 rintro⟨H,rv,rs,vs,p⟩ ⟨⟨c,hs⟩,h1,⟨h2,h2'⟩,h3,h4⟩;dsimp only at *;obtain⟨e1,_,_,e4,_,⟨ea,e2⟩,_⟩:=fh hs;refine⟨⟨ea,_,_,e2,by omega⟩,⟨(0,rs.length),?_⟩,fun x hx=>?_⟩
 ·rw[e1]
  (repeat' (first|apply And.intro|(intro _)))<;>first|exact dg|(exfalso;dsimp only at *;omega)
 ·obtain⟨i,j⟩:=x;obtain⟨x1,x2,x3,x4⟩:=hx;dsimp only at *;have hmid:uw .i64 (uw .u64 ((i:Int)+j)/2)=(((i+j)/2:Nat):Int):=by
   have e1:uw .u64 ((i:Int)+j)=(i:Int)+j:=by simp only[uw];omega
   rw[e1];have e2:((i:Int)+j)/2=(((i+j)/2:Nat):Int):=by omega
   rw[e2];exact fA (k:=.i64) (by simp only[bR];omega)
  refine⟨fun c1=>?_,fun c1=>?_⟩
  ·have c1:i<j:=by have:=of_decide_eq_true c1;omega
   obtain⟨m,hm⟩:∃m,m=(i+j)/2:=⟨_,rfl⟩
   rw[hmid,<- hm];have hmi:i<=m/\m<j:=by omega
   obtain⟨b,lo,o,cs,g1,g2,g3,g4,g5,g6,g7,g8⟩:=u0 hs (k:=m) (by omega);have hr:=h2' m (by omega);refine⟨by simp only[bR];omega,by omega,_,_,_,_,g1,by omega,b,lo,o+m*2,cs,by rw[Int.toNat_natCast,Nat.add_assoc],g2,⟨⟨_,g3,_,rfl,g6⟩,⟨_,g4,g5⟩,trivial⟩,fun _=>?_⟩;rw[g7];simp only[jP,cond_true,cond_false];refine⟨by simp only[bR];omega,fun c2=>⟨by simp only[bR];omega,(m+1,j),?_⟩,fun c2=>⟨(i,m),?_⟩⟩
   ·have c2:=of_decide_eq_true c2;have hlt:(gl rs m).pos<p:=by omega
    (repeat' (first|apply And.intro|(intro _)))<;>first|exact dg|skip
    ·rename_i k hk;by_cases hkm:k=m
     ·rw[hkm];exact hlt
     ·have:=h2 k m (by dsimp only at hk;omega) (by omega);omega
    ·rename_i k hk1 hk2;exact x4 k hk1 hk2
   ·have c2:=of_decide_eq_false c2;have hge:p<=(gl rs m).pos:=by omega
    (repeat' (first|apply And.intro|(intro _)))<;>first|exact dg|skip
    ·rename_i k hk;exact x3 k hk
    ·rename_i k hk1 hk2;by_cases hkm:k=m
     ·rw[hkm];exact hge
     ·have:=h2 m k (by dsimp only at hk1;omega) hk2;omega
  ·have c1:i=j:=by have:=of_decide_eq_false c1;omega
   subst c1;rw[e1];refine⟨fun c2=>?_,fun c2=>⟨i,?_⟩⟩
   ·have c2:i<rs.length:=by have:=of_decide_eq_true c2;omega
    obtain⟨b,lo,o,cs,g1,g2,g3,g4,g5,g6,g7,g8⟩:=u0 hs (k:=i) c2;have hr:=h2' i c2;refine⟨_,_,_,_,g1,by omega,b,lo,o+i*2,cs,by rw[Int.toNat_natCast,Nat.add_assoc],g2,⟨⟨_,g3,_,rfl,g6⟩,⟨_,g4,g5⟩,trivial⟩,fun _=>?_⟩;rw[g7];simp only[jP,cond_true,cond_false];refine⟨by simp only[bR];omega,i,?_⟩;have hb:(min (max ((gl rs i).pos-p) (-1)) 1 == 0)=(decide (i<rs.length)&&decide ((gl rs i).pos=p)):=by
     rw[Bool.eq_iff_iff];simp only[beq_iff_eq,Bool.and_eq_true,decide_eq_true_eq];omega
    (repeat' (first|apply And.intro|(intro _)))<;>first|exact dg|exact hb|(rename_i k hk;exact x3 k hk)|(rename_i k hk1 hk2;exact x4 k hk1 hk2)
   ·have c2:¬i<rs.length:=by have:=of_decide_eq_false c2;omega
    have hb:false=(decide (i<rs.length)&&decide ((gl rs i).pos=p)):=by simp[c2]
    (repeat' (first|apply And.intro|(intro _)))<;>first|exact dg|exact hb|(rename_i k hk;exact x3 k hk)|(rename_i k hk1 hk2;exact x4 k hk1 hk2))
theorem Wo:au (Y Tryz.prog).G.X 237 Yc:=aU fL Wn trivial
def wF(rs:List RecM)(p:Int):Option (List Int):=(rs.find? fun r=>decide (r.pos=p)).map (·.body)
def gp(l:List dG)(p:Int):Option (List Int):=l.findSome? fun g=>wF g.aP p
def A1(o:Option (List Int)):Int:=match o with|some _=>0|none=>9
theorem Ox{α:Type}[Inhabited α]{l:List α}{k:Nat}(h:k<l.length):l.drop k=gl l k::l.drop (k+1):=by
 rw[bT h];exact List.drop_eq_getElem_cons h
theorem Oy{α:Type}[Inhabited α]{q:α->Bool}:∀ {l:List α} {n:Nat},n<l.length->q (gl l n)=true->(∀k,k<n->q (gl l k)=false)->l.find? q=some (gl l n)
 |[],n,h,_,_=>by simp at h
 |x::l,0,_,h,_=>by
  have h:q x=true:=h;simp[List.find?_cons,h,gl]
 |x::l,n+1,hn,h,hk=>by
  have h0:q x=false:=hk 0 (by omega);have e:∀m,gl (x::l) (m+1)=gl l m:=fun m=>by simp[gl]
  rw[e]at h ⊢;rw[List.find?_cons,h0];exact Oy (by simpa using hn) h fun k hkn=>by have:=hk (k+1) (by omega);rwa[e]at this
theorem Wp{α:Type}[Inhabited α]{q:α->Bool}{l:List α}(h:∀k,k<l.length->q (gl l k)=false):l.find? q=none:=by
 rw[List.find?_eq_none];intro x hx;obtain⟨i,hi,rfl⟩:=List.getElem_of_mem hx;have:=h i hi;rw[bT hi]at this;simp[this]
structure J7 where
 H:PH
 y:iu
 L:bQ
 p:Int
noncomputable def Mm:cE where
 α:=J7
 β:=Nat
 m:=3
 m':=4
 pre:=fun a=>bY a.H a.y a.L/\a.L.l.length<1000/\0<=a.p/\a.p<1000000000000/\∀i,i<a.L.l.length->ng (gl a.L.l i).aP/\(gl a.L.l i).aP.length<=400/\∀k,k<(gl a.L.l i).aP.length->1<=(gl (gl a.L.l i).aP k).body.length/\(gl (gl a.L.l i).aP k).body.length<=1000
 args:=fun a=>[.a (.ptr 0 0 0 0),.a (.int .i64 a.p)]
 hp:=fun _=>[]
 ro:=fun a=>[(0,fF 2 a.L a.y.lv),(1,.cA a.H)]
 post:=fun a c=>((gp a.L.l a.p).getD []).length<=c
 res:=fun a c=>.mG [.a (.slc 3 0 1 ((gp a.L.l a.p).getD []).length c),.a (.int .i64 (A1 (gp a.L.l a.p)))]
 cZ:=fun a c=>jv 3 ((gp a.L.l a.p).getD [])
def Yd(a:J7):An:=.flat 4 Nat (fun s k=>s.int 17 k) (fun _ k=>k<=a.L.l.length/\gp (a.L.l.drop k) a.p=gp a.L.l a.p) (fun _ k=>a.L.l.length-k)
def eC(x y:Prop):=ag (x/\ag y)
def pe(x:bQ)(y:Nat):Nat:=(gl x.l y).aP.length
def xD(x:bQ)(y:Nat):=pe x y<=400/\∀z:Nat,z<pe x y->gW (gl (gl x.l y).aP z).body 1000
def tu(x:J7):List Int:=(gp x.L.l x.p).getD []
def jx(x:Value)(y:Prop):=bu (di x)/\cS x/\y
def Hi(x:J7):=bB x.L<1000/\(0:Int)<=x.p/\x.p<(1000000000000:Int)/\∀y:Nat,y<bB x.L->ng (gl x.L.l y).aP/\xD x.L y
def Hj(y:Nat)(x:J7):=gp (List.drop y x.L.l) x.p=gp x.L.l x.p
def C2(x:Value)(v:Prop)(w:PH)(s:Nat->(Nat->Nat->Value)->Prop):=(∃y:Option Go.Addr,∃u z:Nat,x=Value.slice y u z)/\az (Er x) v (0<=0/\Exists (jS w x (CK.int .u8) [] fun y u z=>s y z))
theorem P6:fnBody (Y Tryz.prog) [(237,Yc)] 213 Mm fun a=>[(213,[Yd a],[])]:=fnBody.of (p :=
 ∀x:J7,bY x.H x.y x.L/\Hi x->gA x.y.lv/\(∃z:Nat,aF z (jx x.y.lv (bN (aV (eC (aD x.p) (fH x.L x.y (x.H=x.H/\(z<=bB x.L/\Hj z x)/\True)))))))/\∀z:Nat,z<=bB x.L/\Hj z x->qv z x.y.lv 1 (fun v=>x.H v) (fun v=>ew v) (fun v g=>True) (fun v g=>Exists (gL (aT g v) 4 (fun t=>x.H t) (fun t=>ew t) fun t n=>∃w:Hf,aT n t=w.rv/\x.p=w.p/\x.H=w.H/\Hg w/\∀f:Nat,xC f w f->az (C1 f w) (Exists (gL (aT g v) 4 (fun u=>x.H u) (fun u=>ew u) fun u o=>Exists (iT (aT o u) (af f) fun q r=>∃h i:Nat,pv q (r+aA f*2)=pv h i/\Exists (mX h i 1 (fun s=>x.H s) (fun s=>ew s) (fun s j=>True) fun s j=>C2 (aT j s) (CH (ai (tu x)) 0 (A1 (gp x.L.l x.p))) x.H fun k c=>gK 0 k 1 0 fun d=>∃m:Nat,dL (0+k) (ai (tu x)) d m ((0:Int)=A1 (gp x.L.l x.p)) 1 (uO c) (aa cH (tu x)) (ai (tu x)<=m/\True))))) (dz z fun u=>jx x.y.lv (bN (aV (eC (aD x.p) (fH x.L x.y (x.H=x.H/\ey u (bB x.L) (Hj u x) z)))))))) (CH (ai (tu x)) 9 (A1 (gp x.L.l x.p)))) (by kernel_rfl) (by
 delta az aT ai gL aK ah aA aD bE gK cF aH af kJ mX aC aX bq eC cS aW bN gA qv dz ey dL bB ew fH xC xD jS aV aS tu jx aF iT ag aY Hg br gW iU C1 bu Hi CH pe Hj C2 uO
 try dsimp -iota -proj only
 rintro⟨H,y,L,p⟩ ⟨hl,h1,h2,h3,h4⟩;dsimp only at *;obtain⟨e1,_,⟨ea,ec,e2⟩,e3,_⟩:=hl.rD;refine⟨⟨ea,_,ec,e2,e3⟩,⟨0,?_⟩,fun k hk=>?_⟩
 ·and_intros<;>first|exact dg|rfl
 ·obtain⟨hk1,hk2⟩:=hk;rw[e1];refine⟨fun c1=>?_,fun c1=>⟨0,?_⟩⟩
  ·have hk:k<L.l.length:=by have:=of_decide_eq_true c1;omega
   obtain⟨b,lo,o,c,cs,g1,g2,g3,g4⟩:=hl.at_ hk;have hs:=hl.seg k hk;obtain⟨hso,hrl,hbl⟩:=h4 k hk;obtain⟨c9,hrec⟩:=hs.aP;obtain⟨m1,m2,m3,m4,m5,⟨ma,m7⟩,m6⟩:=fh hrec;rw[Ox hk]at hk2;simp only[gp,List.findSome?_cons]at hk2;refine⟨_,_,_,_,g1,by omega,b,lo,o+k*1,cs,by rw[Int.toNat_natCast,Nat.add_assoc],g2,⟨⟨_,g3,rfl⟩,trivial⟩,?_⟩;refine⟨_,_,g4,?_⟩;refine⟨_,_,rfl,?_⟩;refine⟨_,0,_,_,rfl,hs.cell,?_⟩;refine⟨⟨⟨_,rfl,m6⟩,trivial⟩,Hf.mk H (gl y.ys k).rv (gl L.l k).aP (gl y.ys k).vs p,?_⟩
   and_intros<;>first|exact dg|rfl|exact⟨c9,hrec⟩|exact hso|skip
   rintro n ⟨n1,n2,n3⟩;dsimp only at n1 n2 n3 ⊢;refine⟨fun c2=>?_,fun c2=>⟨by simp only[bR];omega,k+1,?_⟩⟩
   ·simp only[Bool.and_eq_true,decide_eq_true_eq]at c2;obtain⟨c2,c3⟩:=c2;have hfind:wF (gl L.l k).aP p=some (gl (gl L.l k).aP n).body:=by
     unfold wF;rw[Oy (q:=fun(r:RecM)=>decide (r.pos=p)) c2 (by simp[c3]) fun q hq=>by have:=n2 q hq;simp;omega];rfl
    have hread:gp L.l p=some (gl (gl L.l k).aP n).body:=by
     rw[hfind]at hk2;simp only[gp];exact hk2.symm
    rw[hread];obtain⟨b',lo',o',cs',q1,q2,q3,q4,q5,q6,q7,q8⟩:=u0 hrec (k:=n) c2;obtain⟨cb,hbody⟩:=hs.body n c2;obtain⟨w1,w2,w3,w4,w5,⟨wa,w7⟩,w6⟩:=fh hbody;obtain⟨hb1,hb2⟩:=hbl n c2;refine⟨_,_,g4,?_⟩;refine⟨_,_,rfl,?_⟩;refine⟨_,0,_,_,rfl,hs.cell,?_⟩;refine⟨⟨⟨_,rfl,m6⟩,trivial⟩,_,_,_,_,q1,by omega,_,_,rfl,b',lo',o'+n*2+1,cs',by rw[Int.toNat_natCast];congr 1;omega,q2,⟨⟨_,q4,q5⟩,trivial⟩,?_⟩;rw[q8];have hnil:Er ((gl y.ys k).vs.getD n undef)=false:=by
     rcases hbody with⟨_,h0,_⟩ | ⟨b9,lo9,o9,cs9,h9,_⟩
     ·omega
     ·rw[h9];rfl
    refine⟨⟨wa,_,_,w7⟩,fun c4=>absurd c4 (by rw[hnil];decide),fun _=>?_⟩
    repeat refine lB ?_
    refine⟨_,cb,_,hbody,?_⟩
    repeat refine lB ?_
    intro cap u1 u2 u3;refine⟨cap,?_⟩;have hrw:ak (gl (gl L.l k).aP n).body.length 1 (aZ (aO 1 []) 0 0 (aa cH (gl (gl L.l k).aP n).body)) (aa cH (gl (gl L.l k).aP n).body):=⟨fun i hi j hj=>by
     simp only[aZ,Nat.not_lt_zero,if_false,Nat.sub_zero]⟩
    simp only[Nat.zero_add,Option.getD_some,A1]
    and_intros<;>first|exact dg|exact hrw
   ·have hnone:wF (gl L.l k).aP p=none:=by
     unfold wF;rw[Wp (q:=fun(r:RecM)=>decide (r.pos=p)) fun q hq=>?_]
     ·rfl
     ·simp only[decide_eq_false_iff_not];intro e;rcases Nat.lt_or_ge q n with hqn|hqn
      ·have:=n2 q hqn;omega
      ·by_cases hqe:q=n
       ·subst hqe;simp[hq,e]at c2
       ·have:=hso.lt n q (by omega) hq;have:=n3 n (Nat.le_refl _) (by omega);omega
    rw[hnone]at hk2
    and_intros<;>first|exact dg|exact hk2
  ·have hkn:k=L.l.length:=by have:=of_decide_eq_false c1;omega
   subst hkn;rw[List.drop_length]at hk2;have:gp L.l p=none:=hk2.symm;rw[this]
   and_intros<;>first|exact dg|rfl)
def jf(l:List dG)(next:Int):Int:=match l.find? (fun g=>decide (0<g.aP.length))with|some g=>(gl g.aP 0).pos|none=>next
structure EC where
 H:PH
 y:iu
 L:bQ
noncomputable def C3:cE where
 α:=EC
 β:=Unit
 m:=3
 m':=3
 pre:=fun a=>bY a.H a.y a.L/\a.L.l.length<1000
 args:=fun a=>[.a (.ptr 0 0 0 0)]
 hp:=fun _=>[]
 ro:=fun a=>[(0,fF 2 a.L a.y.lv),(1,.cA a.H)]
 post:=fun _ _=>True
 res:=fun a _=>.a (.int .i64 (jf a.L.l a.L.next))
 cZ:=fun _ _=>[]
def Ye(a:EC):An:=.flat 4 Nat (fun s k=>s.int 12 k) (fun _ k=>k<=a.L.l.length/\jf (a.L.l.drop k) a.L.next=jf a.L.l a.L.next) (fun _ k=>a.L.l.length-k)
def u6(x y:Int):=ah x->Exists (bI (x=y))
def Hl(y:Nat)(x:EC):=jf (List.drop y x.L.l) x.L.next=jf x.L.l x.L.next
theorem P7:fnBody (Y Tryz.prog) [] 164 C3 fun a=>[(164,[Ye a],[])]:=fnBody.of (p :=
 ∀x:EC,bY x.H x.y x.L/\bB x.L<1000->gA x.y.lv/\(∃z:Nat,aF z (jx x.y.lv (bN (aV (ax (fH x.L x.y (x.H=x.H/\(z<=bB x.L/\Hl z x)/\True)))))))/\∀z:Nat,z<=bB x.L/\Hl z x->qv z x.y.lv 1 (fun v=>x.H v) (fun v=>ew v) (fun v s=>True) (fun v s=>mW (aT s v) 4 (fun t=>x.H t) fun t i=>aY 0 (di (aT i t)) (Exists (gL (aT s v) 4 (fun u=>x.H u) (fun u=>ew u) fun u j=>Exists (iT (aT j u) 0 fun k m=>∃f g:Nat,pv k (m+0)=pv f g/\Exists (mX f g 0 (fun w=>x.H w) (fun w=>Exists (jw w)) (fun w h=>True) fun w h=>u6 (jP (aT h w)) (jf x.L.l x.L.next))))) (dz z fun u=>jx x.y.lv (bN (aV (ax (fH x.L x.y (x.H=x.H/\ey u (bB x.L) (Hl u x) z))))))) (u6 x.L.next (jf x.L.l x.L.next))) (by kernel_rfl) (by
 delta az aT gL ah b8 aA aD bE cF aH af kJ mX aC dV aX bq cS aW bN gA bI qv dz ey bB ew fH aV ay aS jx aF iT ag aY br ax bl bu mW u6 Hl jw
 try dsimp -iota -proj only
 rintro⟨H,y,L⟩ ⟨hl,h1⟩;dsimp only at *;obtain⟨e1,_,⟨ea,ec,e2⟩,e3,_⟩:=hl.rD;refine⟨⟨ea,_,ec,e2,e3⟩,⟨0,?_⟩,fun k hk=>?_⟩
 ·and_intros<;>first|exact dg|rfl
 ·obtain⟨hk1,hk2⟩:=hk;rw[e1];refine⟨fun c1=>?_,fun c1 _=>⟨(),?_⟩⟩
  ·have hk:k<L.l.length:=by have:=of_decide_eq_true c1;omega
   obtain⟨b,lo,o,c,cs,g1,g2,g3,g4⟩:=hl.at_ hk;have hs:=hl.seg k hk;obtain⟨c9,hrec⟩:=hs.aP;obtain⟨m1,m2,m3,m4,m5,⟨ma,m7⟩,m6⟩:=fh hrec;rw[Ox hk]at hk2;simp only[jf,List.find?_cons]at hk2;refine⟨_,_,_,_,g1,by omega,b,lo,o+k*1,cs,by rw[Int.toNat_natCast,Nat.add_assoc],g2,⟨⟨_,g3,rfl⟩,trivial⟩,?_⟩;refine⟨_,_,g4,?_⟩;refine⟨_,_,rfl,?_⟩;refine⟨_,0,_,_,rfl,hs.cell,?_⟩;refine⟨⟨⟨_,rfl,m6⟩,trivial⟩,⟨ma,_,_,m7,by omega⟩,?_⟩;simp only[show(de (gl L.l k) (gl y.ys k).bv (gl y.ys k).rv).getD 4 (Value.tuple #[])=(gl y.ys k).rv from rfl,m1];refine⟨fun c2=>?_,fun c2=>⟨by simp only[bR];omega,k+1,?_⟩⟩
   ·have c2:0<(gl L.l k).aP.length:=by have:=of_decide_eq_true c2;omega
    obtain⟨b',lo',o',cs',q1,q2,q3,q4,q5,q6,q7,q8⟩:=u0 hrec (k:=0) c2;rw[decide_eq_true c2]at hk2;refine⟨_,_,g4,?_⟩;refine⟨_,_,rfl,?_⟩;refine⟨_,0,_,_,rfl,hs.cell,?_⟩;refine⟨⟨⟨_,rfl,m6⟩,trivial⟩,_,_,_,_,q1,by omega,_,_,rfl,b',lo',o',cs',rfl,q2,⟨⟨_,q3,_,rfl,q6⟩,trivial⟩,fun _=>⟨(),?_⟩⟩;have q7':cs'.getD o' (Value.tuple #[]) = .int .i64 (gl (gl L.l k).aP 0).pos:=q7;rw[q7']
    and_intros<;>first|exact dg|exact hk2
   ·have c2:¬0<(gl L.l k).aP.length:=by have:=of_decide_eq_false c2;omega
    rw[decide_eq_false c2]at hk2
    and_intros<;>first|exact dg|exact hk2
  ·have hkn:k=L.l.length:=by have:=of_decide_eq_false c1;omega
   subst hkn;rw[List.drop_length]at hk2
   and_intros<;>first|exact dg|exact hk2)
theorem P8:au (Y Tryz.prog).G.X 213 Mm:=aU fL P6 ⟨Wo,trivial⟩
theorem zP:au (Y Tryz.prog).G.X 164 C3:=aU fL P7 trivial
def gB(f:Nat->Int)(r len:Nat):Int:=jW (fun k=>f (r+k)) len
def tv(i:Nat):Nat:=if i=0 then 22 else 16
def qz(g:dG)(i:Nat)(f:Nat->Int):dG:=if i=0 then { g with gen:=uw .i64 (gB f 4 6),base:=uw .i64 (gB f 16 6) }else g
def gd(g:dG)(i:Nat)(f:Nat->Int):Bool :=
 (wo f == gB f 0 4)&&((uw .i64 (gB f 4 6) == (qz g i f).gen)&&(!decide (uw .i64 (gB f 10 4)<g.run)&&((f 14 == (i:Int))&&(decide (f 15<=kI i)&&decide (g.buf.length=cn i)))))
def gM(g:dG)(i:Nat)(f:Nat->Int):dG :=
 if gd g i f then { qz g i f with run:=uw .i64 (gB f 10 4),buf:=g.buf++(List.range (f 15).toNat).map fun k=>f (tv i+k) }else qz g i f
theorem tw{X:PH}{y:mU}{g g':dG}(h:fW X y g)(hb:g'.buf=g.buf)(hr:g'.aP=g.aP)(hg:bR .i64 g'.gen/\bR .i64 g'.base/\bR .i64 g'.run) :
 fW (aN X y.b 0 (de g' y.bv y.rv)) y g'/\Fr X y (aN X y.b 0 (de g' y.bv y.rv)) y:=by
 obtain⟨⟨n1,n2,n3⟩,_⟩:=CT.1 h.nd;refine⟨⟨⟨dN ..,hg,?_,?_,by rw[hr];exact h.at_.len,fun i hi=>?_⟩,h.nd⟩,fun x hx hn=>⟨cK fun e=>hn (by rw[e];exact List.mem_cons_self),hn⟩⟩
 ·rw[hb];exact h.at_.buf.frame fun x hx=>cK fun e=>n1 (by rw[<- e];exact hx)
 ·rw[hr];obtain⟨c,hc⟩:=h.at_.aP;exact⟨c,iS hc fun x hx=>cK fun e=>n2 (by rw[<- e];exact hx)⟩
 ·rw[hr]at hi ⊢;refine(h.at_.body i hi).frame fun x hx=>cK fun e=>n3 ?_;rw[<- e];refine List.mem_flatMap.2 ⟨_,?_,hx⟩;have:=h.at_.len;rw[List.getD_eq_getElem?_getD,List.getElem?_eq_getElem (by omega)];exact List.getElem_mem _
structure yy where
 H:PH
 y:mU
 g:dG
 i:Nat
 f:Nat->Int
 cap:Nat
structure A2 where
 H:PH
 y:mU
noncomputable def Th:cE where
 α:=yy
 β:=A2
 m:=2
 m':=3
 pre:=fun a=>fW a.H a.y a.g/\a.i<8/\a.g.buf.length<=378/\64<=a.cap/\(gd a.g a.i a.f=true->0<a.f 15)
 args:=fun a=>[.a (.val (pv a.y.b 0)),.a (.int .i64 a.i),.a (.slc 1 0 1 64 a.cap)]
 hp:=fun a=>[(0,.cA a.H)]
 ro:=fun a=>[(1,.arr 5 [.int .u8] 64 (bP a.f))]
 post:=fun a b=>fW b.H b.y (gM a.g a.i a.f)/\b.y.b=a.y.b/\b.y.rv=a.y.rv/\Fr a.H a.y b.H b.y
 res:=fun a _=>.a (.bool (gd a.g a.i a.f))
 cZ:=fun _ b=>[(2,.cA b.H)]
def S.cA(s:S)(H:PH):S:=(s.put (s.hp.del (Ff s))).new (.cA H)
def Yg(a:yy):An:=.mk 5 PH (fun s H=>S.cA (s.set 7 (.a (.slc (s.tg 2) (tv a.i) 1 (kI a.i) (a.cap-tv a.i)))) H) (fun _ H=>fW H a.y (qz a.g a.i a.f)/\Fr a.H a.y H a.y) (fun _ _=>0) fun _=>.mk 1000 [] []
def rH(x:xh):Int:=o7 (ry x x.len)
def A3(x:Nat)(y:List Value)(z:xh):List Value:=zL x y (bx (rH z) [])
def C4(z:A2)(x:yy):=fW z.H z.y (gM x.g x.i x.f)/\z.y.b=x.y.b/\z.y.rv=x.y.rv/\Fr x.H x.y z.H z.y
def xE(z:Bool)(x:yy)(u:PH)(v:Prop):=az z (∃y:A2,fC (gd x.g x.i x.f) (u=y.H) (C4 y x/\True)) v
def u7(y z u v:Nat)(w:Nat->Int)(s:xh->Prop):=∃x:xh,(y=x.r/\z=x.len/\u-v=x.cap)/\aK x.n 64 1 (bP w) x.rows/\(x.r+x.len<=x.n/\x.len<=8)/\aI (s x)
def Mn(u:Nat)(x:yy)(v w s:Nat)(t:PH):PH->Prop:=fun(z:PH)=>(u=tv x.i/\v=kI x.i/\w-s=x.cap-tv x.i)/\bN (cS (pv x.y.b 0)/\bu x.i/\bG 64 x.cap/\t=z/\dU 64 1 (bP x.f)/\(fW z x.y (qz x.g x.i x.f)/\Fr x.H x.y z x.y)/\True)
def Ho(x:yy):=fW x.H x.y x.g/\x.i<8/\ai x.g.buf<=378/\64<=x.cap/\(aC (gd x.g x.i x.f)->(0:Int)<x.f 15)
theorem Ti:fnBody (Y Tryz.prog) [(230,JP),(203,SP)] 231 Th fun a=>[(231,[],[Yg a])]:=fnBody.of (p :=
 ∀x:yy,Ho x->dS 16 64/\az (af x.i == (0:Int)) (dc 10 x.cap/\dS 4 10/\dc 6 (x.cap-16)/\u7 4 6 x.cap 4 x.f fun z=>u7 16 6 (x.cap-16) 0 x.f fun G=>o8 (pv x.y.b 0) 0 (fun v=>x.H v) (A.int .i64 (rH z)) fun v u h s=>o8 (pv x.y.b 0) 1 (fun j=>aN x.H v u (A3 h s z) j) (A.int .i64 (rH G)) fun j e k B=>dS 6 48/\Exists (Mn 22 x 42 (x.cap-16) 6 (aN (aN x.H v u (A3 h s z)) j e (A3 k B G)))) (Exists (Mn 16 x 48 x.cap 16 x.H))/\∀z:PH,fW z x.y (qz x.g x.i x.f)/\Fr x.H x.y z x.y->dc 14 x.cap/\dS 10 14/\u7 10 4 x.cap 10 x.f fun v=>dS 4 64/\dc 4 x.cap/\∃u:zo,b8 1 (1=u.c)/\(4=u.r/\60=u.len/\x.cap-4=u.cap)/\aK u.n 64 1 (bP x.f) u.rows/\(u.r+u.len<=u.n/\u.len<100000)/\aI (u7 0 4 x.cap 0 x.f fun h=>xE (uL u u.len != ry h h.len) x z (dc 10 x.cap/\dS 4 10/\iD (pv x.y.b 0) 0 (fun s=>z s) fun s j=>u7 4 6 x.cap 4 x.f fun e=>xE (rH e != jP (aT j s)) x z (iD (pv x.y.b 0) 2 (fun k=>z k) fun k B=>xE (aH (rH v) (jP (aT B k))) x z (bq 14 64/\14<64/\(jQ (x.f 14)->xE (x.f 14 != af x.i) x z (bq 15 64/\15<64/\(jQ (x.f 15)->xE (aH (af (kI x.i)) (x.f 15)) x z (mW (pv x.y.b 0) 3 (fun C=>z C) fun C K=>o5 (af x.i*(48:Int)) 6 (xE (af (di (aT K C)) != pL true 0 (af x.i*(48:Int)-6)) x z (o8 (pv x.y.b 0) 2 (fun t=>z t) (A.int .i64 (rH v)) fun t l m o=>Exists (gL (pv x.y.b 0) 3 (fun w=>aN z t l (A3 m o v) w) (fun w=>ew w) fun w D=>bq 15 64 /\
 15<64/\(jQ (x.f 15)->dc (x.f 15) (x.cap-tv x.i)/\uZ (aN z t l (A3 m o v)) (aT D w) .u8 [] (tv x.i+0+(aX (x.f 15)-0)) 64 (aX (x.f 15)-0) 1 1 (fun p E=>fM (x.f (tv x.i+0+p))) fun p E q d I=>o8 (pv x.y.b 0) 3 (fun F=>aN (aL (aN z t l (A3 m o v)) (aT D w)) q d I F) (A.val (fc q d (p+(aX (x.f 15)-0)) E)) fun F L M N=>∃J:A2,true=gd x.g x.i x.f/\aN (aN (aL (aN z t l (A3 m o v)) (aT D w)) q d I) F L (jH M N q d p (aX (x.f 15)-0) E)=J.H/\C4 J x/\True))))))))))))) (by kernel_rfl) (by
 delta az aT ai gL aK ah bx jH b8 aD bE gK pL aH af kJ bD fM aC dV aX fC bq bV cS aW dU A0 dS bN gA aI A3 bG xE ew iD o8 jS rH u7 uZ ag uL zL C4 Mn ry o5 bu mW jQ Ho dc jw uK qx o7
 try dsimp -iota -proj only
 rintro⟨H,y,g,i,f,cap⟩ ⟨hs,hi,hlen,hcap,hpos⟩;dsimp only at *;have eG:∀r len,jW (fun i=>u8 (bP f) (r+i)) len=gB f r len:=fun _ _=>rfl;have eS:dI .xor .u32 4294967295 (qQ (fun i=>u8 (bP f) (4+i)) 60)=wo f:=rfl;obtain⟨rg1,rg2,rg3⟩:=hs.at_.Bq
 repeat refine lB ?_
 refine⟨⟨fun c1=>?_,fun c1=>?_⟩,?_⟩
 ·have hi0:i=0:=by simpa using c1
  subst hi0
  repeat refine lB ?_
  refine⟨xh.mk 4 6 (cap-4) 64 (bP f),?_⟩
  and_intros<;>first|exact dg|skip
  intro _ _;refine⟨xh.mk 16 6 (cap-16-0) 64 (bP f),?_⟩
  and_intros<;>first|exact dg|skip
  intro _ _;dsimp only;simp only[eG];have s1:=tw (g':={ g with gen:=uw .i64 (gB f 4 6) }) hs rfl rfl ⟨sI _ _,rg2,rg3⟩;have s2:=tw (g':={ g with gen:=uw .i64 (gB f 4 6),base:=uw .i64 (gB f 16 6) }) s1.1 rfl rfl ⟨sI _ _,sI _ _,rg3⟩;refine⟨_,_,rfl,?_⟩;refine⟨_,_,rfl,?_⟩;refine⟨_,0,_,_,rfl,hs.at_.cell,by simp[de],?_⟩;refine⟨_,_,rfl,?_⟩;refine⟨_,_,rfl,?_⟩;refine⟨_,0,_,_,rfl,s1.1.at_.cell,by simp[de],?_⟩
  repeat refine lB ?_
  refine⟨aN (aN H y.b 0 (de { g with gen:=uw .i64 (gB f 4 6) } y.bv y.rv)) y.b 0 (de { g with gen:=uw .i64 (gB f 4 6),base:=uw .i64 (gB f 16 6) } y.bv y.rv),?_⟩
  and_intros<;>first|exact dg|exact s2.1|exact s1.2.trans s2.2|rfl|(simp only[tv,if_true];omega)|skip
 ·have hi0:i≠0:=by simpa using c1
  refine⟨H,?_⟩;have hg:qz g i f=g:=if_neg hi0;rw[hg]
  and_intros<;>first|exact dg|exact hs|exact fun x _ hn=>⟨rfl,hn⟩|(simp only[tv,kI,if_neg hi0];done)|skip
 ·rintro X ⟨hX,hfr⟩;obtain⟨g1,hg1⟩:∃g1,g1=qz g i f:=⟨_,rfl⟩
  have eb:g1.buf=g.buf:=by rw[hg1];unfold qz;split<;>rfl
  have er:g1.run=g.run:=by rw[hg1];unfold qz;split<;>rfl
  rw[<- hg1]at hX;obtain⟨rx1,rx2,rx3⟩:=hX.at_.Bq;obtain⟨b1,b2,b3,b4,⟨ba,bc,b5⟩,b6⟩:=hX.at_.buf.len;have hcell:=hX.at_.cell
  repeat refine lB ?_
  refine⟨xh.mk 10 4 (cap-10) 64 (bP f),?_⟩
  and_intros<;>first|exact dg|skip
  intro _ _;dsimp only;simp only[eG]
  repeat refine lB ?_
  refine⟨zo.mk 1 4 60 (cap-4) 64 (bP f),?_⟩
  and_intros<;>first|exact dg|skip
  intro _ _;refine⟨xh.mk 0 4 (cap-0) 64 (bP f),?_⟩
  and_intros<;>first|exact dg|skip
  intro _ _;dsimp only;simp only[eG,eS];refine⟨fun c1=>?_,fun c1=>?_⟩
  ·have hF:gd g i f=false:=by
    unfold gd;rw[<- hg1];have:(wo f == gB f 0 4)=false:=by simpa using c1
    rw[this];rfl
   refine⟨⟨X,y⟩,?_⟩;rw[hF,show gM g i f=g1 by unfold gM;rw[hF];exact hg1.symm]
   and_intros<;>first|exact dg|exact hX.at_|exact hX|exact hfr|rfl
  ·have k1:(wo f == gB f 0 4)=true:=by simpa using c1
   repeat refine lB ?_
   refine⟨_,_,rfl,?_⟩;refine⟨_,_,rfl,?_⟩;refine⟨_,0,_,_,rfl,hcell,?_⟩;refine⟨⟨⟨_,rfl,_,rfl,rx1⟩,trivial⟩,fun _=>⟨xh.mk 4 6 (cap-4) 64 (bP f),?_⟩⟩
   and_intros<;>first|exact dg|skip
   intro _ _;dsimp only;simp only[eG,de,List.getD_cons_zero,jP];refine⟨fun c2=>?_,fun c2=>?_⟩
   ·have hF:gd g i f=false:=by
     unfold gd;rw[<- hg1];have:(uw .i64 (gB f 4 6) == g1.gen)=false:=by simpa using c2
     rw[this,Bool.false_and,Bool.and_false]
    refine⟨⟨X,y⟩,?_⟩;rw[hF,show gM g i f=g1 by unfold gM;rw[hF];exact hg1.symm]
    and_intros<;>first|exact dg|exact hX.at_|exact hX|exact hfr|rfl
   ·have k2:(uw .i64 (gB f 4 6) == g1.gen)=true:=by simpa using c2
    refine⟨_,_,rfl,?_⟩;refine⟨_,_,rfl,?_⟩;refine⟨_,0,_,_,rfl,hcell,?_⟩;refine⟨⟨⟨_,rfl,_,rfl,rx3⟩,trivial⟩,fun _=>?_⟩;simp only[de,List.getD_cons_zero,List.getD_cons_succ,jP];refine⟨fun c3=>?_,fun c3=>?_⟩
    ·have hF:gd g i f=false:=by
      unfold gd;rw[<- hg1];rw[<- er,c3,k1,k2];simp
     refine⟨⟨X,y⟩,?_⟩;rw[hF,show gM g i f=g1 by unfold gM;rw[hF];exact hg1.symm]
     and_intros<;>first|exact dg|exact hX.at_|exact hX|exact hfr|rfl
    ·repeat refine lB ?_
     intro rg14;refine⟨fun c4=>?_,fun c4=>?_⟩
     ·have hF:gd g i f=false:=by
       unfold gd;rw[<- hg1];have:(f 14 == (i:Int))=false:=by simpa using c4
       rw[this,Bool.false_and,Bool.and_false,Bool.and_false,Bool.and_false]
      refine⟨⟨X,y⟩,?_⟩;rw[hF,show gM g i f=g1 by unfold gM;rw[hF];exact hg1.symm]
      and_intros<;>first|exact dg|exact hX.at_|exact hX|exact hfr|rfl
     ·have k4:(f 14 == (i:Int))=true:=by simpa using c4
      repeat refine lB ?_
      intro rg15;refine⟨fun c5=>?_,fun c5=>?_⟩
      ·have hF:gd g i f=false:=by
        unfold gd;rw[<- hg1];have c5:=of_decide_eq_true c5;have:decide (f 15<=kI i)=false:=by simp;omega
        rw[this,Bool.false_and,Bool.and_false,Bool.and_false,Bool.and_false,Bool.and_false]
       refine⟨⟨X,y⟩,?_⟩;rw[hF,show gM g i f=g1 by unfold gM;rw[hF];exact hg1.symm]
       and_intros<;>first|exact dg|exact hX.at_|exact hX|exact hfr|rfl
      ·have k5:decide (f 15<=kI i)=true:=by have:=of_decide_eq_false c5;simp;omega
       refine⟨_,_,rfl,?_⟩;refine⟨_,_,rfl,?_⟩;refine⟨_,0,_,_,rfl,hcell,?_⟩;refine⟨⟨⟨_,rfl,b6⟩,trivial⟩,⟨ba,_,bc,b5,b3⟩,?_⟩
       repeat refine lB ?_
       simp only[de,List.getD_cons_zero,List.getD_cons_succ,b1];have em2:(bif true then max 0 ((i:Int)*48-6)else min 0 ((i:Int)*48-6))=(cn i:Nat):=by simp only[cond_true,cn];omega
       rw[em2];refine⟨fun c6=>?_,fun c6=>?_⟩
       ·have hF:gd g i f=false:=by
         unfold gd;rw[<- hg1];have c6:g1.buf.length≠cn i:=by intro e;rw[e]at c6;simp at c6
         have:decide (g.buf.length=cn i)=false:=by rw[<- eb];simpa using c6
         rw[this,Bool.and_false,Bool.and_false,Bool.and_false,Bool.and_false,Bool.and_false]
        refine⟨⟨X,y⟩,?_⟩;rw[hF,show gM g i f=g1 by unfold gM;rw[hF];exact hg1.symm]
        and_intros<;>first|exact dg|exact hX.at_|exact hX|exact hfr|rfl
       ·have k6:g1.buf.length=cn i:=by
         have:(g1.buf.length:Int)=(cn i:Nat):=by simpa using c6
         omega
        have hT:gd g i f=true:=by
         unfold gd;rw[<- hg1,k1,k2,<- er,c3,k4,k5,<- eb,k6];simp
        have s1:=tw (g':={ g1 with run:=uw .i64 (gB f 10 4) }) hX rfl rfl ⟨rx1,rx2,sI _ _⟩;obtain⟨X1,hX1⟩:∃X1,X1=aN X y.b 0 (de { g1 with run:=uw .i64 (gB f 10 4) } y.bv y.rv):=⟨_,rfl⟩
        rw[<- hX1]at s1;have hf15:(f 15).toNat<=kI i:=by have:=of_decide_eq_true k5;omega
        have hroom:tv i+kI i=64:=by unfold tv kI;split<;>rfl
        have hroom2:kI i<=48:=by unfold kI;split<;>omega
        refine⟨_,_,rfl,?_⟩;refine⟨_,_,rfl,?_⟩;refine⟨_,0,_,_,rfl,hcell,by simp[de],?_⟩;simp only[show aN X y.b 0 (List.take 2 (de g1 y.bv y.rv)++[Value.int .i64 (uw .i64 (gB f 10 4))]++List.drop (2+[Value.int .i64 (uw .i64 (gB f 10 4))].length) (de g1 y.bv y.rv))=X1 from hX1.symm];refine⟨_,_,rfl,?_⟩;refine⟨_,_,rfl,?_⟩;refine⟨_,0,_,_,rfl,s1.1.at_.cell,?_⟩;refine⟨⟨⟨_,rfl,b6⟩,trivial⟩,?_⟩
        repeat refine lB ?_
        intro _;obtain⟨c0,hbuf⟩:=s1.1.at_.buf;simp only[bR]at rg15;have hp15:=hpos hT;simp only[show(de { g1 with run:=uw .i64 (gB f 10 4) } y.bv y.rv).getD 3 (Value.tuple #[])=y.bv from rfl]
        repeat refine lB ?_
        refine⟨_,c0,_,hbuf,?_⟩;dsimp only;rw[eb]
        repeat refine lB ?_
        intro cap1 q1 q2 q3
        repeat refine lB ?_
        intro p1 lo1 cs1 hp1 hl1 hr1;have hB:Step X1 y.bv (aN (aL X1 y.bv) p1 lo1 cs1) (fc p1 lo1 (g.buf.length+((f 15).toNat-0)) cap1):=sj hp1;have hlb:(g.buf++(List.range (f 15).toNat).map fun k=>f (tv i+k)).length=g.buf.length+((f 15).toNat-0):=by simp
        have hBy:fJ (aN (aL X1 y.bv) p1 lo1 cs1) (fc p1 lo1 (g.buf.length+((f 15).toNat-0)) cap1) (g.buf++(List.range (f 15).toNat).map fun k=>f (tv i+k)):=by
         refine⟨cap1,?_⟩;rw[hlb];refine mZ hl1 q1 q2 hr1 fun k hk j hj=>?_;have hj0:j=0:=by simpa using hj
         subst hj0;simp only[Nat.zero_add,aZ,aa,cH,List.getD_cons_zero];by_cases hin:k<g.buf.length
         ·rw[if_pos hin,bO hin]
         ·rw[if_neg hin];obtain⟨m,rfl⟩:∃m,k=g.buf.length+m:=⟨k-g.buf.length,by omega⟩
          rw[bf,Nat.add_sub_cancel_left];have:gl ((List.range (f 15).toNat).map fun k=>f (tv i+k)) m=f (tv i+m):=by
           rw[bT (by simp;omega)];simp
          rw[this,Nat.add_zero]
        obtain⟨hc2,hs3,hf3⟩:=xA s1.1 hB hBy;refine⟨_,_,rfl,?_⟩;refine⟨_,_,rfl,?_⟩;refine⟨_,0,_,_,rfl,hc2,by simp[de],?_⟩;have hM:gM g i f={ g1 with run:=uw .i64 (gB f 10 4),buf:=g.buf++(List.range (f 15).toNat).map fun k=>f (tv i+k) }:=by
         unfold gM;rw[if_pos hT,<- hg1]
        refine⟨⟨aN (aN (aL X1 y.bv) p1 lo1 cs1) y.b 0 (de { g1 with run:=uw .i64 (gB f 10 4),buf:=g.buf++(List.range (f 15).toNat).map fun k=>f (tv i+k) } (fc p1 lo1 (g.buf.length+((f 15).toNat-0)) cap1) y.rv),{ y with bv:=fc p1 lo1 (g.buf.length+((f 15).toNat-0)) cap1 }⟩,?_⟩;rw[hT,hM];refine And.intro (by first|trivial|rfl) (And.intro rfl (And.intro ⟨hs3,rfl,rfl,?_⟩ trivial));exact(hfr.trans s1.2).trans hf3)
theorem Tj:au (Y Tryz.prog).G.X 231 Th:=aU fL Ti ⟨BK,GG,trivial⟩
structure u9 where
 H:PH
 v:Value
 len:Nat
 c:Nat
 rows:Nat->Nat->Value
noncomputable def Tk:cE where
 α:=u9
 β:=Unit
 m:=1
 m':=1
 pre:=fun a=>kr a.H a.v [.int .u8] a.len a.c a.rows/\a.len<=8
 args:=fun a=>[.a (.val a.v)]
 hp:=fun _=>[]
 ro:=fun a=>[(0,.cA a.H)]
 post:=fun _ _=>True
 res:=fun a _=>.a (.int .u64 (jW (fun i=>u8 a.rows i) a.len))
 cZ:=fun _ _=>[]
def Zv(a:u9):An:=.flat 3 Nat (fun s k=>(s.set 3 (.a (.int .u64 (jW (fun i=>u8 a.rows i) k)))).int 8 k) (fun _ k=>k<=a.len) (fun _ k=>a.len-k)
def va(x:u9)(y:Nat):Int:=jW (fun z=>u8 x.rows z) y
def Hp(x:u9):=kr x.H x.v (iU (CK.int .u8)) x.len x.c x.rows/\x.len<=8
theorem Tl:fnBody (Y Tryz.prog) [] 230 Tk fun a=>[(230,[Zv a],[])]:=fnBody.of (p :=
 ∀x:u9,Hp x->gA x.v/\(∃y:Nat,aF y ((0:Int)=va x y/\jx x.v (aV (cS x.v/\x.H=x.H/\y<=x.len/\True))))/\∀y:Nat,y<=x.len->qv y x.v 1 (fun z=>x.H z) (fun z=>∃u:Int,z=fM u/\jQ u) (fun z u=>True) (fun z u=>jQ (jP (aT u z))->(0:Int)<=8/\dz y fun w=>dI .or .u64 (cM (va x y*(256:Int))) (jP (aT u z))=va x w/\jx x.v (aV (cS x.v/\x.H=x.H/\bU w x.len y))) (Exists (bI (va x y=va x x.len)))) (by kernel_rfl) (by
 delta az aT ah aA aD cF aH af mX fM aC aX bq cS aW gA bI qv dz bU cM aV ay aS jx aF iT aY br iU bl bu jQ va Hp
 try dsimp -iota -proj only
 rintro⟨H,v,len,c,rows⟩ ⟨hs,h1⟩;dsimp only at *;obtain⟨e1,_,e3,e4,_,⟨ea,e2⟩,_⟩:=fh hs;refine⟨⟨ea,_,_,e2,by omega⟩,⟨0,?_⟩,fun k hk=>⟨fun c1=>?_,fun c1=>⟨(),?_⟩⟩⟩
 ·and_intros<;>first|exact dg|rfl
 ·rw[e1]at c1;have hk:k<len:=by have:=of_decide_eq_true c1;omega
  rcases hs with⟨_,h0,_⟩ | ⟨b,lo,o,cs,g1,g2,g3,g4,g5⟩
  ·omega
  ·obtain⟨q1,m,q2,q3⟩:=g5.at_ k hk 0 (.int .u8) rfl;have q1:cs[o+k*1]? = some (rows k 0):=q1;have q4:cs.getD (o+k*1) (Value.tuple #[])=rows k 0:=by rw[List.getD_eq_getElem?_getD,q1];rfl
   refine⟨_,_,_,_,g1,by omega,b,lo,o+k*1,cs,by rw[Int.toNat_natCast,Nat.add_assoc],g3,⟨⟨_,q1,m,q2,q3⟩,trivial⟩,fun _=>?_⟩;rw[q4];refine⟨by omega,by simp only[bR];omega,k+1,?_⟩
   and_intros<;>first|exact dg|rfl
 ·have hk:k=len:=by rw[e1]at c1;have:=of_decide_eq_false c1;omega
  subst hk
  and_intros<;>first|exact dg|rfl)
theorem Tm:au (Y Tryz.prog).G.X 230 Tk:=aU fL Tl trivial
def Hq(buf:List Int)(at_:Nat):Int:=uw .i64 (jW (fun k=>gl buf (at_+k)) 2)
def Zw(buf:List Int)(at_:Nat):Int:=uw .i64 (jW (fun k=>gl buf (at_+2+k)) 6)
def sk(buf:List Int)(at_:Nat):Bool:=decide (at_+8<=buf.length)&&(decide (1<=Hq buf at_)&&(decide (Hq buf at_<=300)&&decide ((at_:Int)+8+Hq buf at_<=buf.length)))
def recAt(buf:List Int)(at_:Nat):RecM:=⟨Zw buf at_,(buf.drop (at_+8)).take (Hq buf at_).toNat⟩
def fk(buf:List Int):Nat->Nat->List RecM×Nat
 |0,at_=>([],at_)
 |k+1,at_=>if sk buf at_ then(recAt buf at_::(fk buf k (at_+8+(Hq buf at_).toNat)).1,(fk buf k (at_+8+(Hq buf at_).toNat)).2)else([],at_)
def yz(g:dG):dG:={ g with aP:=(fk g.buf 50 0).1,buf:=g.buf.take (fk g.buf 50 0).2 }
structure tV where
 H:PH
 y:mU
 g:dG
noncomputable def C5:cE where
 α:=tV
 β:=A2
 m:=1
 m':=2
 pre:=fun a=>fW a.H a.y a.g/\a.g.buf.length<=378/\a.g.aP=[]
 args:=fun a=>[.a (.val (pv a.y.b 0))]
 hp:=fun a=>[(0,.cA a.H)]
 ro:=fun _=>[]
 post:=fun a b=>fW b.H b.y (yz a.g)/\b.y.b=a.y.b/\Fr a.H a.y b.H b.y
 res:=fun _ _=>.mG []
 cZ:=fun _ b=>[(1,.cA b.H)]
structure nh where
 H:PH
 y:mU
 rs:List RecM
 at_:Nat
 k:Nat
def Zx(a:tV):An:=.flat 1 nh (fun s x=>S.cA (s.int 2 x.at_) x.H) (fun _ x=>fW x.H x.y { a.g with aP:=x.rs }/\x.y.b=a.y.b/\Fr a.H a.y x.H x.y/\x.at_<=a.g.buf.length/\a.g.buf.length<x.at_+9*x.k/\x.rs++(fk a.g.buf x.k x.at_).1=(fk a.g.buf 50 0).1/\(fk a.g.buf x.k x.at_).2=(fk a.g.buf 50 0).2/\x.rs.length*9<=x.at_) (fun _ x=>a.g.buf.length-x.at_)
def Yh(a:tV):An:=.mk 7 nh (fun s x=>S.cA (s.int 2 x.at_) x.H) (fun _ x=>fW x.H x.y { a.g with aP:=(fk a.g.buf 50 0).1 }/\x.y.b=a.y.b/\Fr a.H a.y x.H x.y/\x.at_<=a.g.buf.length/\x.at_=(fk a.g.buf 50 0).2) (fun _ _=>0) fun _=>.mk 1000 [] []
def Mo(z:nh)(x:tV)(u:List RecM)(v:Prop):=fW z.H z.y { gen:=x.g.gen,base:=x.g.base,run:=x.g.run,buf:=x.g.buf,aP:=u }/\z.y.b=x.y.b/\Fr x.H x.y z.H z.y/\z.at_<=ai x.g.buf/\v
def Oz(x:nh)(y:tV):=Mo x y x.rs (ai y.g.buf<x.at_+9*x.k/\x.rs++(fk y.g.buf x.k x.at_).fst=(fk y.g.buf 50 0).fst/\(fk y.g.buf x.k x.at_).snd=(fk y.g.buf 50 0).snd/\x.rs.length*9<=x.at_)
def rI(x:u9):Int:=o7 (va x x.len)
def Hr(f:Value)(u:PH)(s:Value)(t:Int)(g:Nat->Nat->Nat->Nat->List Value->Prop)(h:Nat->Option (Nat×List Value))(i:Nat->Nat->List Value->Nat->Nat->Nat->Nat->List Value->Prop):=C2 f (uZ u s .i64 (iU CK.deep) 1 1 1 32 2 (fun x y=>aO 2 (bx t (bD gn)) (0+x) y) fun x y z v w=>g x y z v w) u fun x y=>CY x (fun z=>h z) y u s t fun z v w j k l m n=>i z v w j k l m n
def Mp(y:nh)(x:tV):=Mo y x (fk x.g.buf 50 0).fst (y.at_=(fk x.g.buf 50 0).snd)
def Mq(x:tV)(f:PH)(h:List Value)(i z u:Nat)(j:List Value)(k l:Nat)(w:u9)(s:nh):=o8 (pv x.y.b 0) 4 (fun t=>aN (aL f (aT h i)) z u j t) (A.val (fc z u (k+1) l)) fun t m n o=>ah ((8:Int)+rI w)/\ah (af s.at_+((8:Int)+rI w))/\∃v:nh,af s.at_+((8:Int)+rI w)=af v.at_/\cS (pv x.y.b 0)/\aN (aN (aL f (aT h i)) z u j) t m (jH n o z u k 1 l)=v.H/\Oz v x/\ai x.g.buf-v.at_<ai x.g.buf-s.at_
def Mr(x:nh)(y:Int)(u:List Value)(w:Nat)(s:Int)(t:Nat)(f:u9->Prop):=ah (af x.at_+y)/\Gb (aT u w)/\dc (af x.at_+y) (jF (aT u w))/\dc s (aX (af x.at_+y))/\∃z:u9,s9 u w t (aX (af x.at_+y))=z.v/\x.H=z.H/\Hp z/\aI (f z)
def vb(z:tV)(u:Nat)(v:nh)(w:Nat->List Value->Prop):Nat->Prop:=gL (pv z.y.b 0) u (fun x=>v.H x) (fun x=>ew x) fun x s=>w x s
def Hs(z:nh)(u:tV):nh->Prop:=fun(x:nh)=>bz z.at_ x.at_/\cS (pv u.y.b 0)/\z.H=x.H/\Mp x u/\True
theorem J8:fnBody (Y Tryz.prog) [(230,Tk)] 232 C5 fun a=>[(232,[Zx a],[Yh a])]:=fnBody.of (p :=
 ∀z:tV,fW z.H z.y z.g/\ai z.g.buf<=378/\z.g.aP=[]->((∃x:nh,aF x.at_ (cS (pv z.y.b 0)/\z.H=x.H/\Oz x z/\True))/\∀x:nh,Oz x z->Exists (vb z 3 x fun w s=>gA (aT s w)/\th (af (di (aT s w))-af x.at_) 8 (Exists (vb z 3 x fun t h=>Mr x 2 h t (af x.at_) (aA x.at_) fun u=>Exists (vb z 3 x fun i v=>ah (af x.at_+(2:Int))/\Mr x 8 v i (af x.at_+(2:Int)) (aX (af x.at_+(2:Int))) fun d=>kG (rI u) 1 (Exists (Hs x z)) 300 (Exists (vb z 3 x fun j k=>gA (aT k j)/\o5 (af (di (aT k j))-af x.at_) 8 (az (aH (af (di (aT k j))-af x.at_-(8:Int)) (rI u)) (Exists (Hs x z)) (Exists (vb z 4 x fun l m=>Exists (vb z 3 x fun n o=>ah (af x.at_+(8:Int))/\nS (af x.at_+(8:Int)) (rI u) (Gb (aT o n)/\zC (af x.at_+(8:Int)) (rI u) (jF (aT o n)) (Hr (s9 o n (aX (af x.at_+(8:Int))) (aX (af x.at_+(8:Int)+rI u))) x.H (aT m l) (rI d) (fun f p q r c=>Mq z x.H m l q r c f p u x) (fun f=>x.H f) fun f p q r c e B C=>Mq z (aN x.H f p q) m l e B C r c u x))))))))))) (Exists (Hs x z))))/\∀x:nh,Mp x z->Exists (vb z 3 x fun w s=>Gb (aT s w)/\dc (af x.at_) (jF (aT s w))/\o8 (pv z.y.b 0) 3 (fun t=>x.H t) (A.val (s9 s w 0 (aA x.at_))) fun t h u i=>∃v:A2,aN x.H t h (zL u i (bD (s9 s w 0 (aA x.at_))))=v.H /\
 (fW v.H v.y (yz z.g)/\v.y.b=z.y.b/\Fr z.H z.y v.H v.y)/\True)) (by kernel_rfl) (by
 delta az aT ai gL ah bx jH aA gK aH af kJ bD aC dV aX bV cS aW iM A0 dS gA aI Oz ew rI Hr gn Mp o8 jS cC uZ aF CY Mq Mr zL vb nS iU Hs o5 zC bz va dc th Mo kG qx s9 C2 Hp o7
 try dsimp -iota -proj only
 rintro⟨H,y,g⟩ ⟨hs,hlen,hnil⟩;dsimp only at *;refine⟨⟨⟨⟨H,y,[],0,50⟩,?_⟩,?_⟩,?_⟩
 ·have hs':fW H y { g with aP:=[] }:=by rw[<- hnil];exact hs
  and_intros<;>first|exact dg|exact hs'|exact fun x _ hn=>⟨rfl,hn⟩|rfl|skip
 ·rintro⟨X,Y,rs,at_,k⟩ ⟨hX,hb,hfr,h1,h2,h3,h4,h5⟩;dsimp only at *;have hcell:X y.b=some (0,de { g with aP:=rs } Y.bv Y.rv):=by rw[<- hb];exact hX.at_.cell
  obtain⟨b1,b2,b3,b4,⟨ba,bc,b5⟩,b6⟩:=hX.at_.buf.len;have b1:di Y.bv=g.buf.length:=b1;have b4:g.buf.length<=jF Y.bv:=b4;have hbuf:fJ X Y.bv g.buf:=hX.at_.buf;have pstop:sk g.buf at_=false->rs=(fk g.buf 50 0).1/\at_=(fk g.buf 50 0).2:=fun hR=>by
   have:fk g.buf k at_=([],at_):=by
    cases k with
    |zero=>rfl
    |succ k=>unfold fk;rw[hR];rfl
   rw[this]at h3 h4;exact⟨by simpa using h3,h4⟩
  have e3:(de { g with aP:=rs } Y.bv Y.rv).getD 3 (Value.tuple #[])=Y.bv:=rfl;have e4:(de { g with aP:=rs } Y.bv Y.rv).getD 4 (Value.tuple #[])=Y.rv:=rfl;have eN:jW (fun i=>u8 (fun i=>aa cH g.buf (at_+i)) i) 2=jW (fun k=>gl g.buf (at_+k)) 2:=rfl;have eP:jW (fun i=>u8 (fun i=>aa cH g.buf (at_+2+i)) i) 6=jW (fun k=>gl g.buf (at_+2+k)) 6:=rfl;refine⟨_,_,rfl,?_⟩;refine⟨_,_,rfl,?_⟩;refine⟨_,0,_,_,rfl,hcell,?_⟩;refine⟨⟨⟨_,rfl,b6⟩,trivial⟩,⟨ba,_,bc,b5,b3⟩,?_⟩;simp only[e3,b1];refine⟨by simp only[bR];omega,fun c1=>?_,fun c1=>?_⟩
  ·have c1:at_+8<=g.buf.length:=by have:=of_decide_eq_true c1;omega
   have w1:((at_:Int)+2).toNat=at_+2:=by omega
   have w2:((at_:Int)+8).toNat=at_+8:=by omega
   have cut1:=hbuf.cut (a:=at_) (e:=at_+2) (by omega) (by omega);rw[show at_+2-at_=2 by omega]at cut1;have cut2:=hbuf.cut (a:=at_+2) (e:=at_+8) (by omega) (by omega);rw[show at_+8-(at_+2)=6 by omega]at cut2;refine⟨_,_,rfl,?_⟩;refine⟨_,_,rfl,?_⟩;refine⟨_,0,_,_,rfl,hcell,?_⟩;refine⟨⟨⟨_,rfl,b6⟩,trivial⟩,?_⟩;simp only[e3,w1,Int.toNat_natCast]
   repeat refine lB ?_
   refine⟨u9.mk X (nF 1 Y.bv at_ (at_+2) (jF Y.bv)) 2 (jF Y.bv-at_) (fun i=>aa cH g.buf (at_+i)),rfl,rfl,⟨cut1,by show 2<=8;omega⟩,fun _ _=>?_⟩;dsimp only;refine⟨_,_,rfl,?_⟩;refine⟨_,_,rfl,?_⟩;refine⟨_,0,_,_,rfl,hcell,?_⟩;refine⟨⟨⟨_,rfl,b6⟩,trivial⟩,?_⟩;simp only[e3,w1,w2,eN]
   repeat refine lB ?_
   refine⟨u9.mk X (nF 1 Y.bv (at_+2) (at_+8) (jF Y.bv)) 6 (jF Y.bv-(at_+2)) (fun i=>aa cH g.buf (at_+2+i)),rfl,rfl,⟨cut2,by show 6<=8;omega⟩,fun _ _=>?_⟩;dsimp only;simp only[eP];rw[show uw .i64 (jW (fun k=>gl g.buf (at_+k)) 2)=Hq g.buf at_ from rfl,show uw .i64 (jW (fun k=>gl g.buf (at_+2+k)) 6)=Zw g.buf at_ from rfl];obtain⟨N,hN⟩:∃N,N=Hq g.buf at_:=⟨_,rfl⟩
   rw[<- hN];have hNr:bR .i64 N:=by rw[hN];exact sI _ _
   refine⟨fun c2=>?_,fun c2=>⟨fun c3=>?_,fun c3=>?_⟩⟩
   ·have c2:=of_decide_eq_true c2;refine⟨nh.mk X Y rs at_ 0,?_⟩;have hR:sk g.buf at_=false:=by unfold sk;rw[<- hN,show decide (1<=N)=false from decide_eq_false (by omega)];simp
    obtain⟨hp1,hp2⟩:=pstop hR
    and_intros<;>first|exact dg|(rw[<- hp1];exact hX)|exact hfr|exact hb|exact hp2
   ·have c3:=of_decide_eq_true c3;refine⟨nh.mk X Y rs at_ 0,?_⟩;have hR:sk g.buf at_=false:=by unfold sk;rw[<- hN,show decide (N<=300)=false from decide_eq_false (by omega)];simp
    obtain⟨hp1,hp2⟩:=pstop hR
    and_intros<;>first|exact dg|(rw[<- hp1];exact hX)|exact hfr|exact hb|exact hp2
   ·have c2:=of_decide_eq_false c2;have c3:=of_decide_eq_false c3;refine⟨_,_,rfl,?_⟩;refine⟨_,_,rfl,?_⟩;refine⟨_,0,_,_,rfl,hcell,?_⟩;refine⟨⟨⟨_,rfl,b6⟩,trivial⟩,⟨ba,_,bc,b5,b3⟩,?_⟩;simp only[e3,b1]
    repeat refine lB ?_
    refine⟨fun c4=>?_,fun c4=>?_⟩
    ·have c4:=of_decide_eq_true c4;refine⟨nh.mk X Y rs at_ 0,?_⟩;have hR:sk g.buf at_=false:=by unfold sk;rw[<- hN,show decide ((at_:Int)+8+N<=g.buf.length)=false from decide_eq_false (by omega)];simp
     obtain⟨hp1,hp2⟩:=pstop hR
     and_intros<;>first|exact dg|(rw[<- hp1];exact hX)|exact hfr|exact hb|exact hp2
    ·have c4:=of_decide_eq_false c4;have hR:sk g.buf at_=true:=by
      unfold sk;rw[<- hN];simp only[Bool.and_eq_true,decide_eq_true_eq];omega
     obtain⟨nn,rfl⟩:∃nn:Nat,N=nn:=⟨N.toNat,by omega⟩
     have w3:((at_:Int)+8+nn).toNat=at_+8+nn:=by omega
     obtain⟨c9,hrec⟩:=hX.at_.aP;have hrec:kr X Y.rv si rs.length c9 (uT rs Y.vs):=hrec;obtain⟨m1,m2,m3,m4,m5,_,m6⟩:=fh hrec;have cut3:=hbuf.cut (a:=at_+8) (e:=at_+8+nn) (by omega) (by omega);rw[show at_+8+nn-(at_+8)=nn by omega]at cut3;obtain⟨_,_,_,_,_,⟨za,zs⟩,_⟩:=fh cut3;have hnz:Er (nF 1 Y.bv (at_+8) (at_+8+nn) (jF Y.bv))=false:=by
      rcases cut3 with⟨_,h0,_⟩ | ⟨b9,lo9,o9,cs9,h9,_⟩
      ·omega
      ·rw[h9];rfl
     refine⟨_,_,rfl,?_⟩;refine⟨_,_,rfl,?_⟩;refine⟨_,0,_,_,rfl,hcell,?_⟩;refine⟨⟨⟨_,rfl,m6⟩,trivial⟩,?_⟩;refine⟨_,_,rfl,?_⟩;refine⟨_,_,rfl,?_⟩;refine⟨_,0,_,_,rfl,hcell,?_⟩;refine⟨⟨⟨_,rfl,b6⟩,trivial⟩,?_⟩;simp only[e3,e4,w2,w3]
     repeat refine lB ?_
     refine⟨⟨za,_,_,zs⟩,fun c5=>absurd c5 (by rw[hnz];decide),fun _=>?_⟩
     repeat refine lB ?_
     refine⟨_,_,_,cut3,?_⟩;simp only[Nat.zero_add]
     repeat refine lB ?_
     intro cap3 u1 u2 u3
     repeat refine lB ?_
     intro p3 lo3 cs3 hp3 hl3 hr3;obtain⟨r,hr⟩:∃r,r=recAt g.buf at_:=⟨_,rfl⟩
     have hrb:r.body.length=nn:=by
      rw[hr];simp only[recAt,<- hN];simp;omega
     have hC:Step X (.slice none 0 0) (aN X p3 lo3 cs3) (fc p3 lo3 nn cap3):=J4 hp3;have hCb:fJ (aN X p3 lo3 cs3) (fc p3 lo3 nn cap3) r.body:=by
      refine⟨cap3,?_⟩;rw[hrb];refine mZ hl3 u1 u2 hr3 fun i hi j hj=>?_;have hj0:j=0:=by simpa using hj
      subst hj0;simp only[aZ,Nat.not_lt_zero,if_false,Nat.sub_zero,aa,cH,List.getD_cons_zero];have:gl r.body i=gl g.buf (at_+8+i):=by
       rw[hr];simp only[recAt,<- hN,gl];rw[List.getD_eq_getElem?_getD,List.getElem?_take_of_lt (by simpa using hi),List.getElem?_drop,List.getD_eq_getElem?_getD]
      rw[this]
     have hx3:∀x,X x≠none->x≠p3:=fun x hx e=>hx (by rw[e];exact hp3);have hrec4:kr (aN X p3 lo3 cs3) Y.rv si rs.length c9 (uT rs Y.vs):=iS hrec fun x hx=>cK (hx3 x (mV hrec x hx));refine⟨_,c9,_,hrec4,?_⟩
     repeat refine lB ?_
     intro cap4 v1 v2 v3
     repeat refine lB ?_
     intro p4 lo4 cs4 hp4 hl4 hr4;have hD:Step (aN X p3 lo3 cs3) Y.rv (aN (aL (aN X p3 lo3 cs3) Y.rv) p4 lo4 cs4) (fc p4 lo4 (rs.length+1) cap4):=sj hp4;have hvl:Y.vs.length=rs.length:=hX.at_.len;have hr5:kr (aN (aL (aN X p3 lo3 cs3) Y.rv) p4 lo4 cs4) (fc p4 lo4 (rs.length+1) cap4) si (rs.length+1) cap4 (uT (rs++[r]) (Y.vs++[fc p3 lo3 nn cap3])):=by
      refine mZ hl4 v1 v2 hr4 fun i hi j hj=>?_;simp only[aZ,uT,Nat.zero_add];by_cases hin:i<rs.length
      ·rw[if_pos hin,bO hin];by_cases hj0:j=0
       ·rw[if_pos hj0,if_pos hj0]
       ·rw[if_neg hj0,if_neg hj0,List.getD_eq_getElem?_getD,List.getD_eq_getElem?_getD,List.getElem?_append_left (by omega)]
      ·rw[if_neg hin];obtain rfl:i=rs.length:=by omega
       rw[Nat.sub_self];have hj2:j<2:=hj
       match j,hj2 with
       |0,_=>rw[if_pos rfl,show rs.length=rs.length+0 from rfl,bf,hr];rfl
       |1,_=>rw[if_neg (by decide),List.getD_eq_getElem?_getD,List.getElem?_append_right (by omega),hvl,Nat.sub_self];rfl
     obtain⟨hcell4,hcell5,hnd6,hfr6⟩:=AZ (r:=r) hX hC hCb hD (fun x hx=>by
      simp only[fN,fc,List.mem_singleton]at hx;rw[hx,dN];simp) ⟨cap4,hr5⟩
     have hpk:∃k',k=k'+1:=by
      cases k with
      |zero=>omega
      |succ k=>exact⟨k,rfl⟩
     obtain⟨k',rfl⟩:=hpk;have hps:fk g.buf (k'+1) at_=(r::(fk g.buf k' (at_+8+nn)).1,(fk g.buf k' (at_+8+nn)).2):=by
      have e:(Hq g.buf at_).toNat=nn:=by rw[<- hN];rfl
      rw[hr];show(if sk g.buf at_=true then _ else _)=_;rw[if_pos hR,e]
     rw[hps]at h3 h4;refine⟨_,_,rfl,?_⟩;refine⟨_,_,rfl,?_⟩;refine⟨_,0,_,_,rfl,by rw[<- hb];exact hcell5,by simp[de],?_⟩
     repeat refine lB ?_
     refine⟨⟨aN (aN (aL (aN X p3 lo3 cs3) Y.rv) p4 lo4 cs4) Y.b 0 (de { g with aP:=rs++[r] } Y.bv (fc p4 lo4 (rs.length+1) cap4)),⟨Y.b,Y.bv,fc p4 lo4 (rs.length+1) cap4,Y.vs++[fc p3 lo3 nn cap3]⟩,rs++[r],at_+8+nn,k'⟩,?_⟩;have hnd7:fW (aN (aN (aL (aN X p3 lo3 cs3) Y.rv) p4 lo4 cs4) Y.b 0 (de { g with aP:=rs++[r] } Y.bv (fc p4 lo4 (rs.length+1) cap4))) ⟨Y.b,Y.bv,fc p4 lo4 (rs.length+1) cap4,Y.vs++[fc p3 lo3 nn cap3]⟩ { g with aP:=rs++[r] }:=hnd6;have h3':rs++[r]++(fk g.buf k' (at_+8+nn)).1=(fk g.buf 50 0).1:=by rw[<- h3,List.append_assoc];rfl
     dsimp only
     and_intros<;>first|exact dg|exact hnd7|exact hb|exact hfr.trans hfr6|exact h3'|exact h4|(rw[<- hb];rfl)|(rw[List.length_append,List.length_singleton];omega)|skip
  ·have c1:=of_decide_eq_false c1;refine⟨nh.mk X Y rs at_ 0,?_⟩;have hR:sk g.buf at_=false:=by unfold sk;rw[show decide (at_+8<=g.buf.length)=false from decide_eq_false (by omega)];rfl
   obtain⟨hp1,hp2⟩:=pstop hR
   and_intros<;>first|exact dg|(rw[<- hp1];exact hX)|exact hfr|exact hb|exact hp2
 ·rintro⟨X,Y,rs,at_,k⟩ ⟨hX,hb,hfr,h1,h2⟩;dsimp only at *;have hcell:X y.b=some (0,de { g with aP:=(fk g.buf 50 0).1 } Y.bv Y.rv):=by rw[<- hb];exact hX.at_.cell
  obtain⟨b1,b2,b3,b4,⟨ba,bc,b5⟩,b6⟩:=hX.at_.buf.len;have b1:di Y.bv=g.buf.length:=b1;have b4:g.buf.length<=jF Y.bv:=b4;have hbuf:fJ X Y.bv g.buf:=hX.at_.buf;have e3:(de { g with aP:=(fk g.buf 50 0).1 } Y.bv Y.rv).getD 3 (Value.tuple #[])=Y.bv:=rfl;refine⟨_,_,rfl,?_⟩;refine⟨_,_,rfl,?_⟩;refine⟨_,0,_,_,rfl,hcell,?_⟩;refine⟨⟨⟨_,rfl,b6⟩,trivial⟩,?_⟩;simp only[e3,Int.toNat_natCast]
  repeat refine lB ?_
  have hcut:=hbuf.cut (a:=0) (e:=at_) (by omega) h1;have hfpc:fN (nF 1 Y.bv 0 at_ (jF Y.bv))=fN Y.bv:=by
   obtain⟨c,hb⟩:=hbuf;rcases hb with⟨h0,_⟩ | ⟨b9,lo9,o9,cs9,h9,_⟩
   ·rw[h0];rfl
   ·rw[h9,Ll];rfl
  have hst:Step X Y.bv X (nF 1 Y.bv 0 at_ (jF Y.bv)):=fun x hx hn=>⟨rfl,by rw[hfpc];exact hn⟩
  have hby:fJ X (nF 1 Y.bv 0 at_ (jF Y.bv)) (g.buf.take at_):=by
   refine⟨jF Y.bv-0,?_⟩;rw[show(g.buf.take at_).length=at_-0 by simp;omega];rcases hcut with h0 | ⟨b9,lo9,o9,cs9,g1,g2,g3,g4,g5⟩
   ·exact .inl h0
   ·refine .inr ⟨b9,lo9,o9,cs9,g1,g2,g3,g4,⟨fun i hi j q hj=>?_⟩⟩;have:=g5.at_ i hi j q hj;have e:aa cH g.buf (0+i) j=aa cH (g.buf.take at_) i j:=by
     unfold aa;rw[Nat.zero_add,Ol (by omega)]
    rwa[e]at this
  obtain⟨hc2,hs3,hf3⟩:=xA hX hst hby;refine⟨_,_,rfl,?_⟩;refine⟨_,_,rfl,?_⟩;refine⟨_,0,_,_,rfl,hcell,by simp[de],?_⟩;refine⟨⟨aN X Y.b 0 (de { g with aP:=(fk g.buf 50 0).1,buf:=g.buf.take at_ } (nF 1 Y.bv 0 at_ (jF Y.bv)) Y.rv),{ Y with bv:=nF 1 Y.bv 0 at_ (jF Y.bv) }⟩,?_⟩;have hM:yz g={ g with aP:=(fk g.buf 50 0).1,buf:=g.buf.take at_ }:=by unfold yz;rw[<- h2]
  rw[hM];refine And.intro (by rw[<- hb];rfl) (And.intro ⟨hs3,hb,hfr.trans hf3⟩ trivial))
theorem J9:au (Y Tryz.prog).G.X 232 C5:=aU fL J8 ⟨Tm,trivial⟩
end Go.Proofs.YtfjgoonelcaggaaGreat
namespace Go.Sx
section
def yA(s:S)(K:S->Prop):Prop:=K ⟨s.nt,s.fr,⟨s.nx,true,.cA fun _=>none⟩::s.hp,s.nx+1,s.kp,s.rt⟩
theorem Ms:∀s K,yA s K->w9 s K:=by
 intro s K h w0 M ρ a w hs;have hl:=ρ.en ⟨0,0,0,fun _=>False⟩;have hn:=hs.n;have hpl:(ρ.ext ⟨0,0,0,fun _=>False⟩).pl s.nx=⟨0,0,0,fun _=>False⟩:=by rw[<- hn];exact ρ.dD _
 refine⟨_,ρ.ext ⟨0,0,0,fun _=>False⟩,h,hl,⟨hs.defers,hs.size,by show ρ.n+1=s.nx+1;rw[hn],hs.frame.mono hl,?_⟩⟩;refine(hs.heap.mono hl).cons (e:=⟨s.nx,true,.cA fun _=>none⟩) ⟨by show s.nx<ρ.n+1;omega,?_,?_,?_⟩ fun x hx=>⟨?_,?_⟩
 ·intro b lo cs hb;cases hb
 ·rw[hpl];exact fun b hb=>hb.elim
 ·rw[hpl];exact fun _ b hb=>hb.elim
 ·have:=(hs.heap.gO x hx).tag;show s.nx≠x.tag;omega
 ·rw[hpl];exact fun _ b hb=>hb.elim
def An.yA(key:Nat)(next:LH):An:=.view key Sx.yA Ms next
def A.Fg:A->Bool
 |.ptr t _ _ _=>!Nat.beq t 0
 |.slc t _ _ _ _=>!Nat.beq t 0
 |.sub t _ _ _ _ _=>!Nat.beq t 0
 |_=>true
def CV.Fg:CV->Bool
 |.a x=>x.Fg
 |.agg xs=>xs.all A.Fg
def SV.Fg:SV->Bool
 |.a x=>x.Fg
 |.agg xs=>xs.all A.Fg
 |.mG xs=>xs.all CV.Fg
 |.Bz _ xs=>xs.all A.Fg
def Chunk.Fg:Chunk->Bool
 |.obj _ cs=>cs.all A.Fg
 |_=>true
structure Mt(ρ ρ':Env):Prop where
 n:ρ'.n=ρ.n
 pl:∀t,t≠0->ρ'.pl t=ρ.pl t
theorem ne0{t:Nat}(h:(!Nat.beq t 0)=true):t≠0:=by rintro rfl;simp at h
theorem A.cq.uf{ρ ρ':Env}(h:Mt ρ ρ'){x:A}(hx:x.Fg=true){v:Value}(r:x.cq ρ v):x.cq ρ' v:=by
 cases x<;>simp only[A.cq,A.Fg]at r hx ⊢<;>try exact r
 case ptr t _ _ _=>rw[h.n,h.pl t (ne0 hx)];exact r
 case slc t _ _ _ _=>rw[h.n,h.pl t (ne0 hx)];exact r
 case sub t _ _ _ _ _=>rw[h.n,h.pl t (ne0 hx)];exact r
theorem cz.uf{ρ ρ':Env}(h:Mt ρ ρ'):∀ {xs:List A} {vs:List Value},xs.all A.Fg=true->cz ρ xs vs->cz ρ' xs vs
 |[],_,_,r=>r
 |x::xs,_,hx,⟨v,t,e,r1,r2⟩=>by
  simp only[List.all_cons,Bool.and_eq_true]at hx;exact⟨v,t,e,r1.uf h hx.1,cz.uf h hx.2 r2⟩
theorem CV.cq.uf{ρ ρ':Env}(h:Mt ρ ρ'):∀ {x:CV} {v:Value},x.Fg=true->x.cq ρ v->x.cq ρ' v
 |.a _,_,hx,r=>A.cq.uf h hx r
 |.agg _,_,hx,⟨vs,e,r⟩=>⟨vs,e,cz.uf h hx r⟩
theorem sE.uf{ρ ρ':Env}(h:Mt ρ ρ'):∀ {xs:List CV} {vs:List Value},xs.all CV.Fg=true->sE ρ xs vs->sE ρ' xs vs
 |[],_,_,r=>r
 |x::xs,_,hx,⟨v,t,e,r1,r2⟩=>by
  simp only[List.all_cons,Bool.and_eq_true]at hx;exact⟨v,t,e,r1.uf h hx.1,sE.uf h hx.2 r2⟩
theorem SV.cq.uf{ρ ρ':Env}(h:Mt ρ ρ'):∀ {x:SV} {v:Value},x.Fg=true->x.cq ρ v->x.cq ρ' v
 |.a _,_,hx,r=>A.cq.uf h hx r
 |.agg _,_,hx,⟨vs,e,r⟩=>⟨vs,e,cz.uf h hx r⟩
 |.mG _,_,hx,⟨vs,e,r⟩=>⟨vs,e,sE.uf h hx r⟩
 |.Bz _ _,_,hx,⟨vs,e,r⟩=>⟨vs,e,cz.uf h hx r⟩
theorem Chunk.Sat.uf{ρ ρ':Env}(h:Mt ρ ρ'){p:Place}{w:World}{ch:Chunk}(hx:ch.Fg=true)(r:ch.Sat ρ p w):ch.Sat ρ' p w:=by
 cases ch with
 |obj ty cs=>obtain⟨vs,fr,h1,h2,⟨us,xs,h5,h3⟩,h4⟩:=r;exact⟨vs,fr,h1,h2,⟨us,xs,h5,h3.uf h hx⟩,h4⟩
 |arr ty ks n rows=>exact r
 |abs R=>exact r
 |cA H=>exact r
structure Zy where
 ty:Nat
 ks:List CK
 n:Nat
 cap:Nat
 rows:Nat->Nat->Value
structure V1(α:Type) where
 a:α
 H:PH
 v:Value
def cE.Wq(C:cE)(sl:C.α->Zy):cE where
 α:=V1 C.α
 β:=C.β
 m:=1
 m':=C.m'
 pre:=fun x=>C.pre x.a/\kr x.H x.v (sl x.a).ks (sl x.a).n (sl x.a).cap (sl x.a).rows
 args:=fun x=>[.a (.val x.v)]
 hp:=fun _=>[]
 ro:=fun x=>[(0,.cA x.H)]
 post:=fun x b=>C.post x.a b
 res:=fun x b=>C.res x.a b
 cZ:=fun x b=>C.cZ x.a b
structure aaf(C:cE)(sl:C.α->Zy):Prop where
 m:C.m=1
 hp:∀a,C.hp a=[]
 ro:∀a,C.ro a=[(0,.arr (sl a).ty (sl a).ks (sl a).n (sl a).rows)]
 args:∀a,C.args a=[.a (.slc 0 0 (sl a).ks.length (sl a).n (sl a).cap)]
 res:∀a b,(C.res a b).Fg=true
 cZ:∀a b,∀p∈C.cZ a b,p.1≠0/\p.2.Fg=true
theorem Ka{X:Cx}{C:cE}{f:Nat}(hs:l8 X C f){sl:C.α->Zy}(hv:aaf C sl):l8 X (C.Wq sl) f:=by
 rintro⟨a,H,v⟩ ⟨hpre,hsl⟩ M ρ w vs hn hh hargs;obtain⟨u,_,rfl,hu,rfl⟩:=hargs;obtain⟨rfl,_⟩:=hu;have hps:=(hh.gO ⟨0,false,.cA H⟩ (by simp[vP,Ex,cE.Wq])).ch;dsimp only at hpre hsl hps hn;obtain⟨p,hp1,hp2,hp3⟩:∃p:Place,(∀(ρ':Env),0<ρ'.n->ρ'.pl 0=p->(A.slc 0 0 (sl a).ks.length (sl a).n (sl a).cap).cq ρ' u)/\(∀ρ',(Chunk.arr (sl a).ty (sl a).ks (sl a).n (sl a).rows).Sat ρ' p w)/\∀b,p.fp b->b<w.heap.size:=by
  rcases hsl with⟨rfl,h0,h1⟩ | ⟨b,lo,o,cs,rfl,⟨hlc,hcm⟩,hH,hfit,hrows⟩
  ·exact⟨yg,fun ρ' h _=>⟨h,by omega,by rw[h1];exact Nat.zero_le _,.inl ⟨h0,h1,rfl⟩⟩,fun ρ'=>.inl ⟨h0,rfl,fun b hb=>hb⟩,fun b hb=>hb.elim⟩
  ·obtain⟨hfp,vs,vty,fr,hb,hvl,hvs,hun⟩:=hps b lo cs hH;refine⟨⟨b,lo+o,(sl a).cap,fun x=>x=b⟩,fun ρ' h e=>⟨h,hlc,hcm,.inr ⟨_,rfl,fun _=>by rw[e];simp⟩⟩,fun ρ'=>.inr ⟨vs,vty,fr,hb,by simp only;omega,hlc,fun x h1 h2=>hun x (by simp only at h1;omega) (by simp only at h2;omega),fun _=>Iff.rfl,fun i hi j k hk=>?_⟩,fun x hx=>?_⟩
   ·obtain⟨g1,g2⟩:=hrows.at_ i hi j k hk;refine⟨?_,g2⟩;have hlt:o+i*(sl a).ks.length+j<cs.length:=(List.getElem?_eq_some_iff.1 g1).1;rw[<- g1,<- hvs _ hlt];congr 1;simp only;omega
   ·simp only at hx;subst hx;exact(Array.getElem?_eq_some_iff.1 hb).1
 have hpl:(⟨1,fun _=>p⟩:Env).pl 0=p:=rfl;refine(hs a hpre M ⟨1,fun _=>p⟩ w [u] (by rw[hv.m]) ?_ ?_).mono ?_
 ·rw[hv.hp,hv.ro];refine⟨hh.keeps,fun e he=>?_,by simp[vP,Ex]⟩;have he:e=⟨0,false,.arr (sl a).ty (sl a).ks (sl a).n (sl a).rows⟩:=by simpa[vP,Ex]using he
  subst he;exact⟨Nat.one_pos,hp2 _,hp3,fun h=>(by cases h)⟩
 ·rw[hv.args];exact⟨u,[],rfl,hp1 _ Nat.one_pos rfl,rfl⟩
 ·rintro e w' ⟨r,rfl,o,ρ2,g1,g2,g3,g4,g5⟩;have hoff:Mt ρ2 ⟨ρ2.n,fun t=>if t=0 then ρ.pl 0 else ρ2.pl t⟩:=⟨rfl,fun t ht=>if_neg ht⟩
  refine⟨r,rfl,o,⟨ρ2.n,fun t=>if t=0 then ρ.pl 0 else ρ2.pl t⟩,g1,g2,fun T hT=>?_,g4.uf hoff (hv.res a o),?_⟩
  ·have hT:T<1:=hT;have:T=0:=by omega
   subst this;rfl
  ·have hent:∀e∈vP (C.cZ a o),e.tag≠0/\e.ch.Fg=true:=fun e he=>by
    obtain⟨q,hq,rfl⟩:=List.mem_map.1 he;exact hv.cZ a o q hq
   refine⟨g5.keeps,fun e he=>?_,g5.apart.imp_of_mem fun {x y} hx hy hxy=>?_⟩
   ·obtain⟨h1,h2⟩:=hent e he;have he:=g5.gO e he;exact⟨he.tag,by rw[hoff.pl _ h1];exact he.ch.uf hoff h2,by rw[hoff.pl _ h1];exact he.lt,by rw[hoff.pl _ h1];exact he.own⟩
   ·refine⟨hxy.1,?_⟩;rw[hoff.pl _ (hent x hx).1,hoff.pl _ (hent y hy).1];exact hxy.2
end
end Go.Sx
namespace Go.Proofs.YtfjgoonelcaggaaGreat
open Go.Sx
structure Lc where
 g:dG
 ok:Bool
 run:Int
def g0:dG:=⟨0,0,0,[],[]⟩
def wq(L:bQ)(d:bA)(k i:Nat):Nat->Int:=d.now (L.from_+k*8+i)
def rdStep(x:Lc)(i:Nat)(f:Nat->Int):Lc :=
 ⟨if !(x.ok&&gd x.g i f)&&decide (i=0)then { (if x.ok then gM x.g i f else x.g)with gen:=0 }else(if x.ok then gM x.g i f else x.g),x.ok&&gd x.g i f,max x.run (uw .i64 (gB f 10 4)+1)⟩
def lp(L:bQ)(d:bA)(k:Nat):Nat->Lc
 |0=>⟨g0,true,L.run⟩
 |i+1=>rdStep (lp L d k i) i (wq L d k i)
def nH(L:bQ)(d:bA)(k:Nat):Option dG :=
 if(lp L d k 8).g.gen<1\/((lp L d k 8).g.gen-1).tmod L.av≠k then none else some (yz (lp L d k 8).g)
structure Tn(L:bQ)(d:bA)(k:Nat):Prop where
 run:∀i,i<8->0<=uw .i64 (gB (wq L d k i) 10 4)/\uw .i64 (gB (wq L d k i) 10 4)<100000000000
 used:∀i,i<8->(lp L d k i).ok=true->gd (lp L d k i).g i (wq L d k i)=true->0<wq L d k i 15
theorem Mu(g:dG)(i:Nat)(f:Nat->Int):(gM g i f).aP=g.aP:=by
 have e:(qz g i f).aP=g.aP:=by unfold qz;split<;>rfl
 unfold gM;split
 ·exact e
 ·exact e
theorem P9(g:dG)(i:Nat)(f:Nat->Int):(qz g i f).buf=g.buf:=by
 unfold qz;split<;>rfl
theorem To{g:dG}{i:Nat}{f:Nat->Int}(h:gd g i f=false):gM g i f=qz g i f:=by
 unfold gM;rw[h];rfl
theorem Qa{g:dG}{i:Nat}{f:Nat->Int}(h:gd g i f=true):(gM g i f).buf=g.buf++(List.range (f 15).toNat).map fun k=>f (tv i+k):=by
 unfold gM;rw[if_pos h]
theorem Qb{g:dG}{i:Nat}{f:Nat->Int}(h:gd g i f=true):f 15<=kI i/\g.buf.length=cn i:=by
 unfold gd at h;simp only[Bool.and_eq_true,decide_eq_true_eq]at h;exact h.2.2.2.2
theorem Qc{g:dG}{i:Nat}{f:Nat->Int}(h:g.buf.length<=cn i):(gM g i f).buf.length<=cn (i+1):=by
 cases hB:gd g i f with
 |false=>rw[To hB,P9];unfold cn at *;omega
 |true =>
  obtain⟨h1,h2⟩:=Qb hB;rw[Qa hB];simp only[List.length_append,List.length_map,List.length_range];unfold cn kI at *;split at h1<;>omega
structure Xn(L:bQ)(x:Lc)(i:Nat):Prop where
 aP:x.g.aP=[]
 buf:x.g.buf.length<=cn i
 run:0<=x.run/\x.run<200000000000
theorem C6{L:bQ}{d:bA}{k:Nat}(h:Tn L d k)(h0:0<=L.run/\L.run<200000000000):∀i,i<=8->Xn L (lp L d k i) i
 |0,_=>⟨rfl,by show[].length<=_;simp,h0⟩
 |i+1,hi=>by
  have ih:=C6 h h0 i (by omega);have hr:=h.run i (by omega);obtain⟨g1,g2,g3⟩:=ih;have hb:(if(lp L d k i).ok then gM (lp L d k i).g i (wq L d k i)else(lp L d k i).g).aP=[]/\(if(lp L d k i).ok then gM (lp L d k i).g i (wq L d k i)else(lp L d k i).g).buf.length<=cn (i+1):=by
   split
   ·exact⟨(Mu _ _ _).trans g1,Qc g2⟩
   ·exact⟨g1,by unfold cn at *;omega⟩
  show Xn L (rdStep (lp L d k i) i (wq L d k i)) (i+1);unfold rdStep;refine⟨?_,?_,by dsimp only;omega⟩
  ·dsimp only;split
   ·exact hb.1
   ·exact hb.1
  ·dsimp only;split
   ·exact hb.2
   ·exact hb.2
theorem fW.Zz{X:PH}{y:mU}{g:dG}(h:fW X y g):fW (aN X y.b 0 (de { g with gen:=0 } y.bv y.rv)) y { g with gen:=0 }/\Fr X y (aN X y.b 0 (de { g with gen:=0 } y.bv y.rv)) y :=
 tw h rfl rfl ⟨by simp only[bR];omega,h.at_.Bq.2.1,h.at_.Bq.2.2⟩
theorem ZA(H:PH)(b:Nat):fW (aN H b 0 [.int .i64 0,.int .i64 0,.int .i64 0,.slice none 0 0,.slice none 0 0]) (newL b) g0 :=
 ⟨⟨dN ..,⟨by simp only[g0,bR];omega,by simp only[g0,bR];omega,by simp only[g0,bR];omega⟩,⟨0,.inl ⟨rfl,rfl,rfl⟩⟩,⟨0,.inl ⟨rfl,rfl,rfl⟩⟩,rfl,fun i hi=>absurd hi (Nat.not_lt_zero i)⟩,by simp[newL,bw,fN]⟩
structure sr where
 H:PH
 L:bQ
 lv:Value
 d:bA
 k:Nat
structure OA where
 H:PH
 y:mU
 v:Value
def C7(H:PH)(b:OA):Option dG->Prop
 |none=>b.v = .pointer none/\∀x,H x≠none->b.H x=H x
 |some g=>b.v=pv b.y.b 0/\fW b.H b.y g/\∀x,H x≠none->b.H x=H x/\x∉bw b.y
noncomputable def Mv:cE where
 α:=sr
 β:=OA
 m:=4
 m':=5
 pre:=fun a=>a.k<a.L.av/\3<=a.L.av/\a.L.av<=200/\a.L.from_+a.L.av*8<=a.d.n/\a.d.n<100000/\0<=a.L.run/\a.L.run<200000000000/\Tn a.L a.d a.k
 args:=fun a=>[.a (.ptr 0 0 0 0),.a (.int .i64 a.k)]
 hp:=fun a=>[(0,fF 1 a.L a.lv),(3,.cA a.H)]
 ro:=fun a=>gJ 1 2 a.d
 post:=fun a b=>C7 a.H b (nH a.L a.d a.k)
 res:=fun _ b=>.a (.val b.v)
 cZ:=fun a b=>[(0,fF 1 { a.L with run:=(lp a.L a.d a.k 8).run } a.lv),(4,.cA b.H)]
structure Tp where
 i:Nat
 H:PH
 y:mU
def Yi(a:sr):An:=.flat 4 Tp (fun s x=>S.cA ((((s.at_ (s.tg 0) (fF (s.fu (s.tg 0) 0) { a.L with run:=(lp a.L a.d a.k x.i).run } a.lv)).set 5 (.a (.val (pv x.y.b 0)))).set 6 (.a (.bool (lp a.L a.d a.k x.i).ok))).int 12 x.i) x.H)
 (fun _ x=>x.i<=8/\fW x.H x.y (lp a.L a.d a.k x.i).g/\∀z,a.H z≠none->x.H z=a.H z/\z∉bw x.y) (fun _ x=>8-x.i)
def Yj(a:sr):An:=.Ov 3 5 (.mk 1000 [Yi a] [])
def nT(x:sr)(y:Tp):Lc:=lp x.L x.d x.k y.i
def pg(x y:Option (Nat×List Value))(z:List Nat)(u:Nat):=x≠none->y=x/\¬u∈z
def Ht(x:Tp)(u:sr):=fW x.H x.y (Lc.g (nT u x))/\∀z:Nat,pg (u.H z) (x.H z) (bw x.y) z
def Hu(x:sr)(y:Int)(z:Lc)(u:Prop):=ag (bZ (af x.L.from_) (af x.L.av) (cS x.lv) (aD x.L.next/\y=z.run/\bE x.L.fresh u))
def Kb(x:sr)(u:PH)(y z:Tp)(v:xh):=ag (bu x.k/\u=y.H/\Hu x (pL true (Lc.run (nT x z)) (rH v+(1:Int))) (nT x y) (iY x.d x.d (ey y.i 8 (Ht y x) z.i)))
def Hv(z:Value)(u:PH)(x:sr)(w:Tp):=∃y:OA,z=y.v/\u=y.H/\Hu x (Lc.run (nT x w)) (lp x.L x.d x.k 8) (C7 x.H y (nH x.L x.d x.k)/\True)
def Hw(x:sr):=x.k<x.L.av/\3<=x.L.av/\x.L.av<=200/\iE (x.L.from_+x.L.av*8) x.d.n ((0:Int)<=x.L.run/\x.L.run<(200000000000:Int)/\Tn x.L x.d x.k)
theorem Qd:fnBody (Y Tryz.prog) [(201,CG),(230,JP),(231,Th),(232,C5)] 205 Mv fun a=>[(205,[],[Yj a])]:=fnBody.of (p :=
 ∀u:sr,Hw u->∀o:Nat,u.H o=none->(∃x:Tp,aF x.i (true=Lc.ok (nT u x)/\kK o x.y.b/\ag (bu u.k/\CS u.H o 0 0=x.H/\Hu u u.L.run (nT u x) (iY u.d u.d ((x.i<=8/\Ht x u)/\True)))))/\∀x:Tp,x.i<=8/\Ht x u->az (aH (af x.i) 8) (G4 u.L (af u.k) x.i (∃w:RdA,ag (af u.L.from_+af u.k*(8:Int)+af x.i=af w.i/\iY u.d w.d ((w.i<w.d.n/\w.d.n<100000)/\∀h:Nat,64<=h->ah (Lc.run (nT u x))->dc 14 h/\dS 10 14/\u7 10 4 h 10 (w.d.now w.i) fun j=>ah (rH j+(1:Int))/\az (Lc.ok (nT u x)) (∃z:yy,kK x.y.b z.y.b/\bz x.i z.i/\b8 64 (h=z.cap)/\x.H=z.H/\aK 64 64 1 (bP (w.d.now w.i)) (bP z.f)/\Ho z/\∀v:A2,C4 v z->o6 (bg (gd z.g z.i z.f)) (af x.i == (0:Int)) (Exists (kJ (pv x.y.b 0) 0 (fun s=>v.H s) (fun s t=>s+1<=t.length) fun s t q r=>aS x.i/\∃l:Tp,br x.i l.i/\gd z.g z.i z.f=Lc.ok (nT u l)/\kK x.y.b l.y.b/\Kb u (aN v.H s t (qx q r (bx 0 []) 1)) l x j)) (aS x.i/\∃s:Tp,br x.i s.i/\gd z.g z.i z.f=Lc.ok (nT u s)/\kK x.y.b s.y.b/\Kb u v.H s x j)) (az (af x.i == (0:Int)) (Exists (kJ (pv x.y.b 0) 0 (fun z=>x.H z) (fun z v=>z+1<=v.length) fun z v c s=>aS x.i/\∃t:Tp,br x.i t.i/\fC (Lc.ok (nT u t)) (kK x.y.b t.y.b) (Kb u (aN x.H z v (qx c s (bx 0 []) 1)) t x j))) (aS x.i /\
 ∃z:Tp,br x.i z.i/\fC (Lc.ok (nT u z)) (kK x.y.b z.y.b) (Kb u x.H z x j))))))) (iD (pv x.y.b 0) 0 (fun w=>x.H w) fun w h=>az (aH (jP (aT h w)) 1) (Hv CR x.H u x) (iD (pv x.y.b 0) 0 (fun m=>x.H m) fun m p=>ah (jP (aT p m)-(1:Int))/\(ah (af u.L.av)->af u.L.av≠(0:Int)/\az ((jP (aT p m)-(1:Int)).tmod (af u.L.av) != af u.k) (Hv CR x.H u x) (∃z:tV,kK x.y.b z.y.b/\x.H=z.H/\(fW z.H z.y z.g/\ai z.g.buf<=378/\z.g.aP=[])/\∀v:A2,fW v.H v.y (yz z.g)/\v.y.b=z.y.b/\Fr z.H z.y v.H v.y->Hv (pv x.y.b 0) v.H u x))))) (by kernel_rfl) (by
 delta o6 az aT ai bZ gL aK ah bx b8 aD bE pL aH af kJ bD aC dV fC bV cS aW dS aI Kb ey iD gn rH Hv aS u7 aF ag nT pg nS C4 br Hw bg ry bu bz Ht Hu kK Ho dc iE G4 jw qx CS o7 CR
 try dsimp -iota -proj only
 rintro⟨H,L,lv,d,k⟩ ⟨h1,h2,h3,h4,h5,h6,h7,ok⟩;dsimp only at *;intro b hb;refine⟨⟨⟨0,aN H b 0 [.int .i64 0,.int .i64 0,.int .i64 0,.slice none 0 0,.slice none 0 0],newL b⟩,?_⟩,?_⟩
 ·have hz:∀z,H z≠none->aN H b 0 [.int .i64 0,.int .i64 0,.int .i64 0,.slice none 0 0,.slice none 0 0] z=H z/\¬z∈bw (newL b):=fun z hz=>by
   have:z≠b:=fun e=>hz (by rw[e];exact hb);exact⟨cK this,by simpa[newL,bw,fN]using this⟩
  and_intros<;>first|exact dg|exact ZA H b|exact hz|rfl
 ·rintro⟨i,X,Y⟩ ⟨hi,hX,hfr⟩;dsimp only at *;obtain⟨v1,v2,v3⟩:=C6 ok ⟨h6,h7⟩ i hi;refine⟨fun c1=>?_,fun c1=>?_⟩
  ·have hi8:i<8:=by have:=of_decide_eq_true c1;omega
   obtain⟨F,hF⟩:∃F,F=wq L d k i:=⟨_,rfl⟩
   have hok:=ok.run i hi8;have hus:=ok.used i hi8;have hstep:lp L d k (i+1)=rdStep (lp L d k i) i F:=by rw[hF];rfl
   have hdn:d.now (L.from_+k*8+i)=F:=by rw[hF];rfl
   rw[<- hF]at hok hus;obtain⟨R,hR⟩:∃R,R=lp L d k i:=⟨_,rfl⟩
   rw[<- hR]at hX v1 v2 v3 hus ⊢;have e10:jW (fun i=>u8 (bP F) (10+i)) 4=gB F 10 4:=rfl;intro _;refine⟨by simp only[bR];omega,by simp only[bR];omega,by simp only[bR];omega,RdA.mk d (L.from_+k*8+i),?_⟩;have hin:L.from_+k*8+i<d.n:=by omega
   and_intros<;>first|exact dg|skip
   intro cap hcap;intro _
   repeat refine lB ?_
   refine⟨xh.mk 10 4 (cap-10) 64 (bP F),?_⟩;simp only[hdn]
   and_intros<;>first|exact dg|skip
   intro _ _;simp only[e10,cond_true];refine⟨by simp only[bR];omega,fun c2=>⟨yy.mk X Y R.g i F cap,?_⟩,fun c2=>⟨fun c3=>?_,fun c3=>?_⟩⟩
   ·have hsz:R.g.buf.length<=378:=by unfold cn at v2;omega
    and_intros<;>first|exact dg|exact hX|exact hus c2|skip
    rintro⟨X1,Y1⟩ ⟨t1,t2,t3,t4⟩;dsimp only at *;have f1:∀z,H z≠none->X1 z=H z/\¬z∈bw Y1:=fun z hz=>by
     obtain⟨a1,a2⟩:=hfr z hz;obtain⟨b1,b2⟩:=t4 z (by rw[a1];exact hz) a2;exact⟨b1.trans a1,b2⟩
    refine⟨fun c3=>⟨fun c4=>?_,fun c4=>?_⟩,fun c3=>?_⟩
    ·have hg:(rdStep R i F).g={ gM R.g i F with gen:=0 }:=by
      have:gd R.g i F=false:=by simpa using c3
      have hi0:i=0:=by simpa using c4
      subst hi0;simp[rdStep,c2,this]
     obtain⟨q1,q2⟩:=t1.Zz;refine⟨_,_,rfl,_,_,rfl,Y1.b,0,0,_,by rw[t2],t1.at_.cell,by simp[de],by simp only[bR];omega,⟨i+1,aN X1 Y1.b 0 (de { gM R.g i F with gen:=0 } Y1.bv Y1.rv),Y1⟩,?_⟩;rw[hstep,<- hR];have f2:∀z,H z≠none->aN X1 Y1.b 0 (de { gM R.g i F with gen:=0 } Y1.bv Y1.rv) z=H z/\¬z∈bw Y1:=fun z hz=>by
      obtain⟨a1,a2⟩:=f1 z hz;obtain⟨b1,b2⟩:=q2 z (by rw[a1];exact hz) a2;exact⟨b1.trans a1,b2⟩
     rw[hg]
     and_intros<;>first|exact dg|exact q1|exact f2|(rw[t2];done)|(simp[rdStep,c2];done)|rfl|skip
    ·have hg:(rdStep R i F).g=gM R.g i F:=by
      have hi0:i≠0:=by simpa using c4
      simp[rdStep,c2,hi0]
     refine⟨by simp only[bR];omega,⟨i+1,X1,Y1⟩,?_⟩;rw[hstep,<- hR,hg]
     and_intros<;>first|exact dg|exact t1|exact f1|(rw[t2];done)|(simp[rdStep,c2];done)|rfl|skip
    ·have hg:(rdStep R i F).g=gM R.g i F:=by
      have:gd R.g i F=true:=by simpa using c3
      simp[rdStep,c2,this]
     refine⟨by simp only[bR];omega,⟨i+1,X1,Y1⟩,?_⟩;rw[hstep,<- hR,hg]
     and_intros<;>first|exact dg|exact t1|exact f1|(rw[t2];done)|(simp[rdStep,c2];done)|rfl|skip
   ·have hg:(rdStep R i F).g={ R.g with gen:=0 }:=by
     have hi0:i=0:=by simpa using c3
     subst hi0;simp[rdStep,c2]
    obtain⟨q1,q2⟩:=hX.Zz;refine⟨_,_,rfl,_,_,rfl,Y.b,0,0,_,rfl,hX.at_.cell,by simp[de],by simp only[bR];omega,⟨i+1,aN X Y.b 0 (de { R.g with gen:=0 } Y.bv Y.rv),Y⟩,?_⟩;rw[hstep,<- hR];have f2:∀z,H z≠none->aN X Y.b 0 (de { R.g with gen:=0 } Y.bv Y.rv) z=H z/\¬z∈bw Y:=fun z hz=>by
     obtain⟨a1,a2⟩:=hfr z hz;obtain⟨b1,b2⟩:=q2 z (by rw[a1];exact hz) a2;exact⟨b1.trans a1,b2⟩
    rw[hg]
    and_intros<;>first|exact dg|exact q1|exact f2|(simp[rdStep,c2];done)|rfl|skip
   ·have hg:(rdStep R i F).g=R.g:=by
     have hi0:i≠0:=by simpa using c3
     simp[rdStep,c2,hi0]
    refine⟨by simp only[bR];omega,⟨i+1,X,Y⟩,?_⟩;rw[hstep,<- hR,hg]
    and_intros<;>first|exact dg|exact hX|exact hfr|(simp[rdStep,c2];done)|rfl|skip
  ·have hi8:i=8:=by have:=of_decide_eq_false c1;omega
   subst hi8;obtain⟨r1,r2,r3⟩:=hX.at_.Bq;have hcell:=hX.at_.cell;obtain⟨R,hR⟩:∃R,R=lp L d k 8:=⟨_,rfl⟩
   rw[<- hR]at hX v1 v2 v3 r1 hcell ⊢;have hseg:nH L d k=if R.g.gen<1\/(R.g.gen-1).tmod L.av≠k then none else some (yz R.g):=by rw[hR];rfl
   have fnone:nH L d k=none->C7 H ⟨X,Y,.pointer none⟩ (nH L d k):=fun e=>by
    rw[e];exact⟨rfl,fun z hz=>(hfr z hz).1⟩
   refine⟨_,_,rfl,?_⟩;refine⟨_,_,rfl,?_⟩;refine⟨_,0,_,_,rfl,hcell,?_⟩;refine⟨⟨⟨_,rfl,_,rfl,r1⟩,trivial⟩,fun _=>?_⟩;simp only[de,List.getD_cons_zero,jP];refine⟨fun c2=>⟨⟨X,Y,.pointer none⟩,?_⟩,fun c2=>?_⟩
   ·have c2:=of_decide_eq_true c2;have hno:nH L d k=none:=by rw[hseg,if_pos (.inl c2)]
    and_intros<;>first|exact dg|exact fnone hno|rfl
   ·have c2:=of_decide_eq_false c2;refine⟨_,_,rfl,?_⟩;refine⟨_,_,rfl,?_⟩;refine⟨_,0,_,_,rfl,hcell,?_⟩;refine⟨⟨⟨_,rfl,_,rfl,r1⟩,trivial⟩,fun _=>?_⟩;simp only[de,List.getD_cons_zero,jP];refine⟨by simp only[bR]at *;omega,fun _=>⟨by omega,fun c3=>⟨⟨X,Y,.pointer none⟩,?_⟩,fun c3=>?_⟩⟩
    ·have c3:(R.g.gen-1).tmod L.av≠k:=by simpa using c3
     have hno:nH L d k=none:=by rw[hseg,if_pos (.inr c3)]
     and_intros<;>first|exact dg|exact fnone hno|rfl
    ·have c3:(R.g.gen-1).tmod L.av=k:=by simpa using c3
     have hyes:nH L d k=some (yz R.g):=by rw[hseg,if_neg (by rintro(e|e)<;>omega)]
     refine⟨tV.mk X Y R.g,?_⟩;have hsz:R.g.buf.length<=378:=v2
     and_intros<;>first|exact dg|exact hX|exact v1|skip
     rintro⟨X1,Y1⟩ ⟨t1,t2,t3⟩;dsimp only at *;have f1:∀z,H z≠none->X1 z=H z/\¬z∈bw Y1:=fun z hz=>by
      obtain⟨a1,a2⟩:=hfr z hz;obtain⟨b1,b2⟩:=t3 z (by rw[a1];exact hz) a2;exact⟨b1.trans a1,b2⟩
     refine⟨⟨X1,Y1,pv Y.b 0⟩,?_⟩;rw[hyes];have hp:C7 H ⟨X1,Y1,pv Y.b 0⟩ (some (yz R.g)):=⟨by rw[t2],t1,f1⟩
     and_intros<;>first|exact dg|exact t1|exact f1|(show pv Y.b 0=pv Y1.b 0;rw[t2])|rfl)
theorem Qe:au (Y Tryz.prog).G.X 205 Mv:=aU fL Qd ⟨JR,BK,Tj,J9,trivial⟩
noncomputable def OB(n:Int):cE where
 α:=Unit
 β:=Unit
 m:=0
 m':=0
 pre:=fun _=>True
 args:=fun a=>[.a (.lit .u64 n)]
 hp:=fun _=>[]
 ro:=fun _=>[]
 post:=fun _ _=>True
 res:=fun _ b=>.a (.lit .i64 n)
 cZ:=fun _ _=>[]
theorem Tq:fnBody (Yf Tryz.prog) [] 189 (OB 0) fun _=>[]:=fnBody.of (p :=
 aI (Exists (bI (aD 0)))) (by kernel_rfl) (by
 delta aD aI bI ay bl
 exact fun _ _=>⟨(),rfl,trivial,trivial⟩)
theorem Tr:fnBody (Yf Tryz.prog) [] 189 (OB 1) fun _=>[]:=fnBody.of (p :=
 aI (Exists (bI (aD 1)))) (by kernel_rfl) (by
 delta aD aI bI ay bl
 exact fun _ _=>⟨(),rfl,trivial,trivial⟩)
noncomputable def Ts:cE where
 α:=Int
 β:=Unit
 m:=0
 m':=0
 pre:=fun a=>a=0\/a=1
 args:=fun a=>[.a (.int .u64 a)]
 hp:=fun _=>[]
 ro:=fun _=>[]
 post:=fun _ _=>True
 res:=fun a _=>.a (.int .i64 a)
 cZ:=fun _ _=>[]
theorem Tt(n:Int)(h:fnBody (Yf Tryz.prog) [] 189 (OB n) fun _=>[]):l8 (Yf Tryz.prog).G.X (OB n) 189:=BH Zj (fun _=>BI Zj (jk:=[]) trivial) h.body
theorem Wr:l8 (Y Tryz.prog).G.X Ts 189:=by
 intro a ha M ρ w vs hn hh hargs;rcases ha with rfl|rfl
 ·exact Tt 0 Tq () trivial M ρ w vs hn hh hargs
 ·exact Tt 1 Tr () trivial M ρ w vs hn hh hargs
theorem Tu:au (Y Tryz.prog).G.X 189 Ts:=fun _ _ _ h=>vR Wr h
noncomputable def Ws(k:Nat):cE where
 α:=Unit
 β:=Unit
 m:=0
 m':=0
 pre:=fun _=>False
 args:=fun _=>List.replicate k (.a .any)
 hp:=fun _=>[]
 ro:=fun _=>[]
 post:=fun _ _=>True
 res:=fun _ _=>.a .any
 cZ:=fun _ _=>[]
theorem Hx(k f:Nat):au (Y Tryz.prog).G.X f (Ws k):=aU fL (jk:=[]) (l:=fun _=>[]) ⟨fun a h=>False.elim h⟩ trivial
structure Ke where
 v:Value
 n:Nat
def C8(v:Value)(n:Nat):Prop:=n<=1/\(∃a c,v = .slice a n c)/\v.oneCell'=true
noncomputable def Tv:cE where
 α:=Ke
 β:=Unit
 m:=0
 m':=0
 pre:=fun a=>C8 a.v a.n
 args:=fun a=>[.a (.val a.v),.a (.int .i64 0),.a (.int .i64 a.n),.a (.fn 207)]
 hp:=fun _=>[]
 ro:=fun _=>[]
 post:=fun _ _=>True
 res:=fun _ _=>.mG []
 cZ:=fun _ _=>[]
def ZB:An:=.flat 4 Unit (fun s _=>s) (fun _ _=>False) (fun _ _=>0)
def ZC(a:Ke):An:=.mk 1 Unit (fun s _=>s) (fun _ _=>True) (fun _ _=>0) fun _=>.mk 60 [ZB] []
theorem Tw:fnBody (Y Tryz.prog) [] 254 Tv fun a=>[(254,[ZC a],[])]:=fnBody.of (p :=
 ∀x:Ke,C8 x.v x.n->ah 1/\Exists (ay (aD 1/\cS x.v/\bZ 0 (af x.n) True True))/\aI (aY 1 x.n (Exists (ay (aD 1/\bE (aH 1 (af x.n)) (aD 1/\cS x.v/\bZ 0 (af x.n) False True)))/\∀y:Unit,False->az true (Exists (iT x.v 1 fun z u=>False)) (ah 2/\Exists (ay ((2:Int)=1/\cS x.v/\bZ 0 (af x.n) True (0<0))))) (Exists (ay (True/\True))))) (by kernel_rfl) (by
 delta az bZ ah aD bE cF aH af aC bq cS aW aI ay iT aY
 try dsimp -iota -proj only
 rintro⟨v,n⟩ ⟨h1,_⟩;dsimp only at *;refine⟨by simp only[bR];omega,⟨(),?_⟩,fun _ _=>⟨fun c1=>?_,fun _=>⟨(),trivial,trivial⟩⟩⟩
 ·and_intros<;>first|trivial|rfl
 ·exfalso;have:=of_decide_eq_true c1;omega)
theorem Tx:au (Y Tryz.prog).G.X 254 Tv:=aU fL Tw trivial
noncomputable def Mw:cE where
 α:=Ke
 β:=Unit
 m:=0
 m':=0
 pre:=fun a=>C8 a.v a.n
 args:=fun a=>[.a (.val a.v),.a (.fn 207)]
 hp:=fun _=>[]
 ro:=fun _=>[]
 post:=fun _ _=>True
 res:=fun _ _=>.mG []
 cZ:=fun _ _=>[]
noncomputable def Ty:List (Nat×cE):=[(189,Ts),(254,Tv),(255,Ws 4),(256,Ws 4),(257,Ws 4)]
def Yk:An:=.flat 2 Unit (fun s _=>s) (fun _ _=>True) (fun _ _=>0)
theorem Qf:fnBody (Y Tryz.prog) Ty 206 Mw fun a=>[(233,[Yk],[])]:=fnBody.of (p :=
 ∀x:Ke,C8 x.v x.n->gA x.v/\∃y:Int,cM (af (di x.v))=y/\(y=(0:Int)\/y=(1:Int))/\aI (Exists (ay (bE true (bE true (cS x.v/\bZ 0 (af (di x.v)) (y=y) (True/\True)))))/\aI (ah (af (di x.v)-(0:Int))/\az (cC (af (di x.v)-(0:Int)) 12) (∃z:Ke,x.v=z.v/\aV (bz (di x.v) z.n/\C8 z.v z.n/\aI (Exists (ay (True/\True))))) (az (y == (0:Int)) (Exists (ay (False/\aI (Exists (ay (True/\True)))))) (Exists (ay (False/\aI False))))))) (by kernel_rfl) (by
 delta az bZ ah aD bE af aC cS aW gA aI cM aV ay cC bz
 rintro⟨v,n⟩ ⟨h1,⟨ba,c,h2⟩,h3⟩;dsimp only at h1 h2 h3;subst h2;have hl:di (.slice ba n c)=n:=rfl;dsimp only at *;rw[hl];have e1:uw .u64 (n:Int)=n:=by simp only[uw];omega
 refine⟨⟨_,_,_,rfl,by simp only[aq];omega⟩,n,e1,by omega,fun _ _=>⟨⟨(),?_⟩,fun _ _=>⟨by simp only[bR];omega,fun c1=>⟨⟨.slice ba n c,n⟩,?_⟩,fun c1=>?_⟩⟩⟩
 ·and_intros<;>first|trivial|rfl
 ·have hp:C8 (.slice ba n c) n:=⟨h1,⟨_,_,rfl⟩,h3⟩
  (repeat' (first|apply And.intro|(intro _)|apply Exists.intro ()))<;>first|trivial|rfl|omega|exact h1|exact h3|exact⟨_,_,rfl⟩
 ·exfalso;have:=of_decide_eq_false c1;omega)
theorem Qg:au (Y Tryz.prog).G.X 206 Mw:=aU fL Qf ⟨Tu,Tx,Hx _ _,Hx _ _,Hx _ _,trivial⟩
structure wG where
 H:PH
 y:iu
 L:bQ
 gb:Nat
 t:Int
 s:Int
noncomputable def vV:cE where
 α:=wG
 β:=Unit
 m:=3
 m':=3
 pre:=fun a=>bY a.H a.y a.L/\a.L.l.length<1000/\0<=a.s/\a.s<=1000/\bR .i64 a.t/\0<=a.t/\(∃r,a.H a.gb=some (0,.int .i64 a.t::r))/\∀i,i<a.L.l.length->a.t-a.s<(gl a.L.l i).gen
 args:=fun a=>[.a (.val a.y.lv),.Bz 209 [.ptr 0 0 0 0,.ptr 1 0 0 0]]
 hp:=fun _=>[]
 ro:=fun a=>[(0,.obj 289 [.val (pv a.gb 0)]),(1,.obj 3 [.int .i64 a.s]),(2,.cA a.H)]
 post:=fun _ _=>True
 res:=fun a _=>.a (.val a.y.lv)
 cZ:=fun _ _=>[]
noncomputable def Hy:cE where
 α:=wG
 β:=Unit
 m:=3
 m':=3
 pre:=vV.pre
 args:=vV.args
 hp:=fun _=>[]
 ro:=vV.ro
 post:=fun _ _=>True
 res:=fun a _=>.a (.lit .i64 (-1))
 cZ:=fun _ _=>[]
def Wt(a:wG):An:=.flat 2 Nat (fun s k=>s.int 8 k) (fun _ k=>k<=a.L.l.length) (fun _ k=>a.L.l.length-k)
def xF(x:wG):=bY x.H x.y x.L/\bB x.L<1000/\(0:Int)<=x.s/\x.s<=(1000:Int)/\ah x.t/\(0:Int)<=x.t/\(∃z:List Value,x.H x.gb=some (0,bx x.t z))/\∀z:Nat,z<bB x.L->x.t-x.s<(gl x.L.l z).gen
theorem Mx:fnBody (Y Tryz.prog) [] 234 Hy fun a=>[(234,[Wt a],[])]:=fnBody.of (p :=
 ∀x:wG,xF x->G7 x.y x.gb (fun z=>aD x.s/\x.H=x.H/\z<=bB x.L/\True) (fun z=>z<=bB x.L) (fun z=>x.H z) (fun z=>x.H z) (fun z=>x.H z) x.s (fun z=>Exists (bI (af z=(-1:Int)))) (fun z u=>aD x.s/\x.H=x.H/\bU u (bB x.L) z) (Exists (bI (aD (-1:Int))))) (by kernel_rfl) (by
 delta az aT bZ gL ah bx b8 aA aD cF aH af kJ mX aC dV aX bq bV cS aW gA bI qv dz bB ew iD bU xF ay aS cC aF iT ag aY G7 br ax bl th jw
 try dsimp -iota -proj only
 rintro⟨H,y,L,gb,T,S⟩ ⟨hl,h1,h2,h2',h3,h4,⟨gr,hgb⟩,h5⟩;dsimp only at *;obtain⟨e1,_,⟨ea,ec,e2⟩,e3,_⟩:=hl.rD;refine⟨⟨ea,_,ec,e2,e3⟩,⟨0,?_⟩,fun k hk=>⟨fun c1=>?_,fun c1=>⟨(),?_⟩⟩⟩
 ·and_intros<;>first|exact dg
 ·rw[e1]at c1;have hk:k<L.l.length:=by simpa using c1
  obtain⟨b,lo,o,c,cs,g1,g2,g3,g4⟩:=hl.at_ hk;have hs:=hl.seg k hk;obtain⟨r1,_,_⟩:=hs.Bq;refine⟨_,_,_,_,g1,by omega,b,lo,o+k*1,cs,by rw[Int.toNat_natCast,Nat.add_assoc],g2,⟨⟨_,g3,rfl⟩,trivial⟩,?_⟩;refine⟨_,_,g4,?_⟩;refine⟨_,_,rfl,?_⟩;refine⟨_,0,_,_,rfl,hs.cell,?_⟩;refine⟨⟨⟨_,rfl,_,rfl,r1⟩,trivial⟩,fun _=>?_⟩;refine⟨_,_,rfl,?_⟩;refine⟨_,_,rfl,?_⟩;refine⟨_,0,_,_,rfl,hgb,?_⟩;refine⟨⟨⟨_,rfl,_,rfl,h3⟩,trivial⟩,fun _ _=>?_⟩;simp only[de,List.getD_cons_zero,jP,bR]at h3 ⊢;have h6:=h5 k hk;refine⟨by omega,fun c2=>?_,fun c2=>⟨by omega,k+1,?_⟩⟩
  ·exfalso;simp at c2;omega
  ·and_intros<;>first|exact dg
 ·and_intros<;>first|exact dg)
theorem My:au (Y Tryz.prog).G.X 234 Hy:=aU fL Mx trivial
theorem Mz:fnBody (Y Tryz.prog) [(234,Hy)] 208 vV fun a=>[]:=fnBody.of (p :=
 ∀x:wG,xF x->∃z:wG,x.y.lv=z.y.lv/\ax (kK x.gb z.gb/\x.s=z.s/\x.H=z.H/\xF z/\aI (Exists (bI (cS x.y.lv))))) (by kernel_rfl) (by
 delta ah bx b8 dV bV cS aI bI bB xF ay ag ax bl kK
 intro a h;refine⟨a,?_⟩;obtain⟨h1,h2,h3,h4,h5,h6,h7,h8⟩:=h
 (repeat' (first|apply And.intro|(intro _)|apply Exists.intro ()))<;>first|exact dg|exact h7|exact h5.2|exact h5.1|exact h8 _ (by assumption))
theorem MA:au (Y Tryz.prog).G.X 208 vV:=aU fL Mz ⟨My,trivial⟩
end Go.Proofs.YtfjgoonelcaggaaGreat
