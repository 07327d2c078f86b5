/-
  
-/
import Derived.Test.YtfjgoonelcaggaaGreatNodeLeaseP2
set_option maxRecDepth 100000
set_option maxHeartbeats 4000000
set_option linter.unusedVariables false
set_option linter.unusedSimpArgs false
namespace Go.Proofs.YtfjgoonelcaggaaGreat
open Go.Sx
def u8(r:Nat->Nat->Value)(i:Nat):Int:=js (r i 0)
def ZA(x:Int):Int:=dA .xor .u32 (x/2) (dA .and .u32 3988292384 (uw .u32 (0-dA .and .u32 x 1)))
def Jm:Nat->Int->Int
 |0,x=>x
 |k+1,x=>ZA (Jm k x)
def qD(r:Nat->Int):Nat->Int
 |0=>4294967295
 |k+1=>Jm 8 (dA .xor .u32 (qD r k) (r k))
structure yX where
 c:Nat
 r:Nat
 len:Nat
 cap:Nat
 n:Nat
 rows:Nat->Nat->Value
noncomputable def Sc:cC where
 α:=yX
 β:=Unit
 m:=2
 m':=2
 pre:=fun a=>a.r+a.len<=a.n/\a.len<100000
 args:=fun a=>[.a (.slc 0 0 1 1 a.c)]
 hp:=fun _=>[]
 ro:=fun a=>[(0,.obj 58 [.slc 1 a.r 1 a.len a.cap]),(1,.arr 5 [.int .u8] a.n a.rows)]
 post:=fun _ _=>True
 res:=fun a _=>.a (.int .u32 (dA .xor .u32 4294967295 (qD (fun i=>u8 a.rows (a.r+i)) a.len)))
 cW:=fun _ _=>[]
def Yz:An:=.flat 10 Nat (fun s j=>(s.set 3 (.a (.int .u32 (Jm j (S.iv s 3))))).int 24 j) (fun _ j=>j<=8) (fun _ j=>8-j)
def ZB(a:yX):An:=.mk 6 Nat (fun s i=>(s.set 3 (.a (.int .u32 (qD (fun i=>u8 a.rows (a.r+i)) i)))).int 16 i) (fun _ i=>i<=a.len) (fun _ i=>a.len-i) fun _=>.mk 60 [Yz] []
def aB(x:Bool):=x=true
def aD(x:Bool)(y z:Prop):=(aB x->y)/\(x=false->z)
def aK(x y z:Nat)(u v:Nat->Nat->Value):=x<=y/\aj x z u v
def cF(x y:Int)(z u:Prop):=x=x/\y=y/\z/\u
def ah(x:Int):=bQ .i64 x
def ag(x:Prop):=0=0/\x
def bW(x:Nat)(y:Prop):=ag (x=x/\y)
def af(x:Nat):Int:=(x:Int)
def aV(x:Int):Nat:=x.toNat
def ay(x:Nat):Nat:=aV (af x)
def aC(x:Int):=x=x
def aF(x y:Int):Bool:=decide (x<y)
def bK(x:Bool)(y:Prop):=x=x/\y
def aX(x y:Int):=(0:Int)<=x/\x<y
def ur(y x z:Prop):=y/\x/\x/\z
def kn(x y z:Nat):=x=x/\y=y/\z=z
def dN(x z:Nat)(y:Nat->Nat->Value):=aK x x z y y
def bC(y x:Nat):=bW y (x=x)
def ax(x:Prop):Unit->Prop:=fun(y:Unit)=>x
def bl(x:Prop):=x/\True/\True
def bL(x:Prop):=Exists (ax (bl x))
def aS(x:Nat):=ah (af x+(1:Int))
def bx(x y:Nat):=af x+(1:Int)=af y
def cO(x:Nat)(z:Nat->Prop):=aS x/\∃y:Nat,bx x y/\z y
def bF(y x z:Nat):=y<=x/\x-y<x-z
def uu(x:yX)(y:Nat):Int:=qD (fun z=>u8 x.rows (x.r+z)) y
def wM(x:yX)(y:Nat):Int:=dA Go.BinOp.xor .u32 (uu x y) (js (x.rows (x.r+ay y) 0))
def oG(x y:Nat)(z u:Prop):=bK (aF (af x) (af y)) (cF (af x) (af y) z u)
def aA(x:Nat)(y:Prop):=(0:Int)=af x/\y
def aW(x:Prop):=aC 0/\x
def aY(x:Int)(y:Nat)(z u:Prop):=aD (aF x (af y)) z u
def Ch(x:yX)(y:Prop):=bK true (cF 0 1 (bC 1 x.c) (aW (bC 1 x.c/\kn x.r x.len x.cap/\dN x.n 1 x.rows/\y)))
def uv(x:yX)(y:Nat):Int:=dA Go.BinOp.xor .u32 (4294967295:Int) (uu x y)
def mz(x:Int)(y:Nat)(z u:Prop):=aY x y (aX x (af y)/\z) u
def bu(x:Nat):=aC (af x)
def jE(x:Int):=bQ .u8 x
theorem Vw:fnBody (Y Tryz.prog) [] 203 Sc fun a=>[(203,[ZB a],[])]:=fnBody.of (p :=
 ∀x:yX,x.r+x.len<=x.n/\x.len<100000->aX 0 1/\(∃y:Nat,aA y ((4294967295:Int)=uu x y/\ur (bu x.len) (kn x.r x.len x.cap) (Ch x (y<=x.len/\True))))/\∀y:Nat,y<=x.len->mz (af y) x.len (x.r+ay y<x.n/\(jE (js (x.rows (x.r+ay y) 0))->(∃z:Nat,aA z (wM x y=Jm z (wM x y)/\aC (js (x.rows (x.r+ay y) 0))/\oG y x.len (kn x.r x.len x.cap) (kn x.r x.len x.cap/\Ch x (z<=8/\True))))/\∀z:Nat,z<=8->aD (aF (af z) 8) ((0:Int)<=1/\cO z fun u=>dA .xor .u32 (Jm z (wM x y)/(2:Int)) (dA .and .u32 (3988292384:Int) (uw .u32 ((0:Int)-dA .and .u32 (Jm z (wM x y)) (1:Int))))=Jm u (wM x y)/\aC (js (x.rows (x.r+ay y) 0))/\oG y x.len (kn x.r x.len x.cap) (kn x.r x.len x.cap/\Ch x (bF u 8 z))) (cO y fun u=>Jm z (wM x y)=uu x u/\ur (bu x.len) (kn x.r x.len x.cap) (Ch x (bF u x.len y))))) (bL (uv x y=uv x x.len))) (by kernel_rfl) (by
 delta aD aK cF ah bW ay aC aF af bK aX aB aV ur kn dN bC bL cO bF wM ax aS oG aA aW ag aY Ch uv bx mz bl bu jE uu
 try dsimp -iota -proj only
 rintro⟨c,r,len,cap,n,rows⟩ ⟨h1,h2⟩;dsimp only at h1 h2 ⊢;simp only[Int.toNat_natCast,bQ,decide_eq_true_eq,decide_eq_false_iff_not];refine⟨by decide,⟨0,?_⟩,fun i hi=>⟨fun c1=>?_,fun c1=>⟨(),?_⟩⟩⟩
 ·(and_intros<;>first|exact vL|skip)
 ·have hi:i<len:=by omega
  refine⟨by omega,by omega,fun _=>⟨⟨0,?_⟩,fun j hj=>⟨fun c2=>⟨by decide,by omega,j+1,?_⟩,fun c2=>⟨by omega,i+1,?_⟩⟩⟩⟩
  ·(and_intros<;>first|exact vL|skip)
  ·(and_intros<;>first|exact vL|skip)
  ·have:j=8:=by omega
   subst this
   (and_intros<;>first|exact vL|skip)
 ·have:i=len:=by omega
  subst this
  (and_intros<;>first|exact vL|skip))
theorem Gk:ak (Y Tryz.prog).G.X 203 Sc:=aU fF Vw trivial
def tN(rows:Nat->Nat->Value)(r len:Nat)(v:Int)(k:Nat):Nat->Nat->Value:=fun i j=>if r+len<=i+k/\i<r+len then .int .u8 (uw .u8 (v/2^min (8*(r+len-1-i)) 64))else rows i j
structure mg where
 r:Nat
 len:Nat
 cap:Nat
 v:Int
 n:Nat
 rows:Nat->Nat->Value
noncomputable def Ci:cC where
 α:=mg
 β:=Unit
 m:=1
 m':=1
 pre:=fun a=>a.r+a.len<=a.n/\a.len<=8
 args:=fun a=>[.a (.slc 0 a.r 1 a.len a.cap),.a (.int .u64 a.v)]
 hp:=fun a=>[(0,.arr 5 [.int .u8] a.n a.rows)]
 ro:=fun _=>[]
 post:=fun _ _=>True
 res:=fun _ _=>.mm []
 cW:=fun a _=>[(0,.arr 5 [.int .u8] a.n (tN a.rows a.r a.len a.v a.len))]
def YA(a:mg):An:=.flat 1 Nat (fun s k=>(s.at_ 0 (.arr 5 [.int .u8] a.n (tN a.rows a.r a.len a.v k))).int 7 k) (fun _ k=>k<=a.len) (fun _ k=>a.len-k)
def bS(x:Value)(y:List Value):List Value:=x::y
def bD(x:Value):List Value:=bS x []
def fA(x:Int):Value:=Value.int .u8 x
def kX(x:mg)(y:Nat):Nat->Nat->Value:=tN x.rows x.r x.len x.v y
def oH(x y:Int)(z:Prop):=ah x/\ah (x-y)/\z
def dW(x:Nat):Int:=af x-(1:Int)
def Gl:=∀x:mg,x.r+x.len<=x.n/\x.len<=8->(∃y:Nat,aA y (bu x.len/\kn x.r x.len x.cap/\aC x.v/\aK x.n x.n 1 x.rows (kX x y)/\y<=x.len/\True))/\∀y:Nat,y<=x.len->aY (af y) x.len (oH (dW x.len) (af y) (ah ((8:Int)*af y)/\(0:Int)<=8*af y/\aX (dW x.len-af y) (af x.len)/\x.r+aV (dW x.len-af y)<x.n/\cO y fun z=>bu x.len/\kn x.r x.len x.cap/\aC x.v/\aK x.n x.n 1 (jY (kX x y) (x.r+aV (dW x.len-af y)) 0 (bD (fA (uw .u8 (x.v/(2:Int)^min (aV ((8:Int)*af y)) 64))))) (kX x z)/\bF z x.len y)) (bL (aK x.n x.n 1 (kX x y) (kX x x.len)))
theorem Gm:fnBody (Y Tryz.prog) [] 196 Ci fun a=>[(196,[YA a],[])]:=fnBody.of (p :=
 Gl) (by kernel_rfl) (by
 delta aD aK ah aC aF af bD aX fA aB aV kn bS bL cO bF Gl ax aS aA aY kX bx oH bl bu dW
 try dsimp -iota -proj only
 rintro⟨r,len,cap,v,n,rows⟩ ⟨h1,h2⟩;dsimp only at h1 h2 ⊢;simp only[Int.toNat_natCast,bQ,decide_eq_true_eq,decide_eq_false_iff_not];refine⟨⟨0,?_⟩,fun k hk=>⟨fun c1=>?_,fun c1=>⟨(),?_⟩⟩⟩
 ·(and_intros<;>first|exact vL|skip)
  refine⟨fun i hi j hj=>?_⟩;unfold tN;rw[if_neg (by omega)]
 ·have hk:k<len:=by omega
  have e:((len:Int)-1-k).toNat=len-1-k:=by omega
  rw[e];refine⟨by omega,by omega,by omega,by omega,by omega,by omega,by omega,k+1,?_⟩
  (and_intros<;>first|exact vL|skip)
  refine⟨fun i hi j hj=>?_⟩;have hj:j=0:=by omega
  subst hj;by_cases hik:i=r+(len-1-k)
  ·subst hik;have e3:(8*(k:Int)).toNat=8*(r+len-1-(r+(len-1-k))):=by omega
   rw[iX,e3];show Value.int .u8 _=_;simp only[tN];rw[if_pos (by omega)]
  ·rw[gO hik];simp only[tN];by_cases hq:r+len<=i+k/\i<r+len
   ·rw[if_pos hq,if_pos (by omega)]
   ·rw[if_neg hq,if_neg (by omega)]
 ·have:k=len:=by omega
  subst this
  (and_intros<;>first|exact vL|skip))
theorem Bo:ak (Y Tryz.prog).G.X 196 Ci:=aU fF Gm trivial
def jN(r:Nat->Int):Nat->Int
 |0=>0
 |k+1=>dA .or .u64 (uw .u64 (jN r k*2^8)) (r k)
structure wN where
 r:Nat
 len:Nat
 cap:Nat
 n:Nat
 rows:Nat->Nat->Value
noncomputable def Jn:cC where
 α:=wN
 β:=Unit
 m:=1
 m':=1
 pre:=fun a=>a.r+a.len<=a.n/\a.len<=8
 args:=fun a=>[.a (.slc 0 a.r 1 a.len a.cap)]
 hp:=fun _=>[]
 ro:=fun a=>[(0,.arr 5 [.int .u8] a.n a.rows)]
 post:=fun _ _=>True
 res:=fun a _=>.a (.int .u64 (jN (fun i=>u8 a.rows (a.r+i)) a.len))
 cW:=fun _ _=>[]
def ZC(a:wN):An:=.flat 3 Nat (fun s k=>(s.set 3 (.a (.int .u64 (jN (fun i=>u8 a.rows (a.r+i)) k)))).int 8 k) (fun _ k=>k<=a.len) (fun _ k=>a.len-k)
def cQ(x:Int):Int:=uw .u64 x
def qP(x:wN)(y:Nat):Int:=jN (fun z=>u8 x.rows (x.r+z)) y
theorem Gn:fnBody (Y Tryz.prog) [] 230 Jn fun a=>[(230,[ZC a],[])]:=fnBody.of (p :=
 ∀x:wN,x.r+x.len<=x.n/\x.len<=8->(∃y:Nat,aA y ((0:Int)=qP x y/\bu x.len/\kn x.r x.len x.cap/\aW (kn x.r x.len x.cap/\dN x.n 1 x.rows/\y<=x.len/\True)))/\∀y:Nat,y<=x.len->mz (af y) x.len (x.r+ay y<x.n/\(jE (js (x.rows (x.r+ay y) 0))->(0:Int)<=8/\cO y fun z=>dA .or .u64 (cQ (qP x y*(256:Int))) (js (x.rows (x.r+ay y) 0))=qP x z/\bu x.len/\kn x.r x.len x.cap/\aW (kn x.r x.len x.cap/\dN x.n 1 x.rows/\bF z x.len y))) (bL (qP x y=qP x x.len))) (by kernel_rfl) (by
 delta aD aK ah ay aC aF af aX aB aV kn dN bL cO bF cQ ax aS aA aW aY bx mz qP bl bu jE
 try dsimp -iota -proj only
 rintro⟨r,len,cap,n,rows⟩ ⟨h1,h2⟩;dsimp only at h1 h2 ⊢;simp only[Int.toNat_natCast,bQ,decide_eq_true_eq,decide_eq_false_iff_not];refine⟨⟨0,?_⟩,fun k hk=>⟨fun c1=>?_,fun c1=>⟨(),?_⟩⟩⟩
 ·(and_intros<;>first|exact vL|skip)
 ·have hk:k<len:=by omega
  refine⟨by omega,by omega,fun _=>⟨by omega,by omega,k+1,?_⟩⟩
  (and_intros<;>first|exact vL|skip)
 ·have:k=len:=by omega
  subst this
  (and_intros<;>first|exact vL|skip))
theorem Bp:ak (Y Tryz.prog).G.X 230 Jn:=aU fF Gn trivial
structure bz where
 n:Nat
 now:Nat->Nat->Int
 EM:Nat->Nat->Int
 loose:Nat->Bool
 calls:Nat
def Cj:List CK:=List.replicate 128 (.int .u8)++[.bool]
def fo(d:bz):Nat->Nat->Value:=fun i j=>if j<64 then .int .u8 (d.now i j)else if j<128 then .int .u8 (d.EM i (j-64))else .bool (d.loose i)
@[reducible] def gz(a b:bz)(p:Prop):Prop:=(0=0/\a.n=b.n/\a.n=b.n)/\(↑a.calls:Int)=(↑b.calls:Int)/\(b.n<=a.n/\aj b.n 129 (fo a) (fo b))/\p
def gG(o a:Nat)(d:bz):List (Nat×Chunk):=[(o,.obj 116 [.slc a 0 129 d.n d.n,.int .i64 d.calls]),(a,.arr 158 Cj d.n (fo d))]
def lP(n:Int):bz:=⟨(min (max n 1) 2048).toNat,fun _ _=>0,fun _ _=>0,fun _=>false,0⟩
noncomputable def Bq:cC where
 α:=Int
 β:=Unit
 m:=0
 m':=2
 pre:=fun _=>True
 args:=fun n=>[.a (.int .i64 n)]
 hp:=fun _=>[]
 ro:=fun _=>[]
 post:=fun _ _=>True
 res:=fun _ _=>.a (.ptr 0 0 0 0)
 cW:=fun n _=>gG 0 1 (lP n)
def kS(x y:Value)(z:List Value):List Value:=bS x (bS y z)
def Ed(x:IntKind)(y z u:Int)(v:Value)(w s t:Int)(f:List Value):List Value:=kS (Value.int x y) (Value.int x z) (kS (Value.int x u) v (kS (Value.int x w) (Value.int x s) (bS (Value.int x t) f)))
def uy(x:List Value):List Value:=Ed .u8 0 0 0 (fA 0) 0 0 0 x
def Ck(x:List Value):List Value:=kS (fA 0) (fA 0) x
def Vx(x:Value)(y:List Value):List Value:=uy (uy (Ck (bS x y)))
def Xf(x:Value)(y:List Value):List Value:=Vx (fA 0) (uy (uy (kS (fA 0) x y)))
def YB(x:Value)(y:List Value):List Value:=Xf (fA 0) (Vx (fA 0) (uy (uy (bS x y))))
def aP(x:List Value)(y:Nat):Value:=x.getD y (Value.tuple #[])
def oW(z:Bool)(x y:Int):Int:=bif z then max x y else min x y
def dP(x y z u:Nat)(v:Prop)(w:Nat)(s t:Nat->Nat->Value)(f:Prop):=ag (x=y/\z=u)/\v/\aK y x w s t/\f
def lQ(x y:Int)(z:Prop):=(0:Int)<=x/\x<=x/\y<=(281474976710656:Int)/\z
def dK(x:Bool):Value:=Value.bool x
def gd:Value:=dK false
def sI(x:Nat)(y:bz)(u:Int)(z:bz)(v:Nat->Nat->Value)(w s:Prop):=dP x y.n x y.n (u=af z.calls) 129 v (fo z) (w/\s)
def qQ(x y z:Int):Int:=oW false (oW true x y) z
theorem Lp:fnBody (Y Tryz.prog) [] 12 Bq fun _=>[]:=fnBody.of (p :=
 ∀x:Int,True->lQ (qQ x 1 2048) ((129:Int)*qQ x 1 2048) (Exists (ax (ag (sI (aV (qQ x 1 2048)) (lP x) 0 (lP x) (fun z y=>aP (YB (fA 0) (Xf (fA 0) (Vx (fA 0) (uy (Ck (Ck (Ck (bD gd)))))))) y) True True))))) (by kernel_rfl) (by
 delta YB Xf Vx aP Ed aK oW af bD fA aV kS bS dP lQ ax uy gd ag sI qQ dK Ck
 try dsimp -iota -proj only
 intro n _;simp only[cond_true,cond_false,Nat.zero_add];have e:min (max n 1) 2048=((min (max n 1) 2048).toNat:Int):=by omega
 refine⟨by omega,by omega,by omega,(),(by trivial),⟨(by trivial),(by trivial),(by trivial)⟩,(by trivial),⟨Nat.le_refl _,⟨fun i hi j hj=>?_⟩⟩,trivial,trivial⟩;show(List.replicate 128 (Value.int .u8 0)++[Value.bool false]).getD j undef=_;unfold fo lP;dsimp only;simp only[List.getD_eq_getElem?_getD,List.getElem?_append,List.length_replicate,List.getElem?_replicate];by_cases h1:j<64
 ·rw[if_pos (by omega),if_pos (by omega),if_pos h1];rfl
 ·by_cases h2:j<128
  ·rw[if_pos h2,if_pos h2,if_neg h1,if_pos h2];rfl
  ·rw[if_neg h2,if_neg h1,if_neg h2,show j=128 by omega];rfl)
theorem Br{rows:Nat->Nat->Value}{row c i j:Nat}{vs:List Value}:jY rows row c vs i j=if(c<=j/\j<c+vs.length)/\i=row then vs.getD (j-c) undef else rows i j:=by
 have e1:∀a b:Nat,Nat.ble a b=decide (a<=b):=fun a b=>by rw[Bool.eq_iff_iff];simp
 have e2:∀a b:Nat,Nat.blt a b=decide (a<b):=fun a b=>e1 _ _;unfold jY;rw[e1,e2];by_cases h1:c<=j<;>by_cases h2:j<c+vs.length<;>by_cases h3:i=row<;>simp[h1,h2,h3]
theorem Sd{f:Nat->Value}{n j:Nat}(h:j<n):((List.range n).map f).getD j undef=f j:=by
 simp[List.getD_eq_getElem?_getD,List.getElem?_range h]
def gm(d:bz)(i len:Nat)(src:Nat->Int):bz:=⟨d.n,fun r j=>if r=i/\j<len then src j else d.now r j,d.EM,fun r=>if r=i then true else d.loose r,d.calls+1⟩
def bM(f:Nat->Int):Nat->Nat->Value:=fun i _=>.int .u8 (f i)
structure Lq where
 d:bz
 i:Nat
 r:Nat
 len:Nat
 cap:Nat
 n:Nat
 src:Nat->Int
noncomputable def pL:cC where
 α:=Lq
 β:=Unit
 m:=3
 m':=3
 pre:=fun a=>a.i<a.d.n/\a.d.n<100000/\a.len<=64/\a.r+a.len<=a.n/\a.d.calls<1000000000000
 args:=fun a=>[.a (.ptr 0 0 0 0),.a (.int .i64 a.i),.a (.slc 2 a.r 1 a.len a.cap)]
 hp:=fun a=>gG 0 1 a.d
 ro:=fun a=>[(2,.arr 5 [.int .u8] a.n (bM a.src))]
 post:=fun _ _=>True
 res:=fun _ _=>.a (.lit .i64 0)
 cW:=fun a _=>gG 0 1 (gm a.d a.i a.len fun j=>a.src (a.r+j))
def eO(y:Int)(x z:Nat)(u:Prop):=aX y (af x)/\z<x/\u
def iY(y:Bool)(x:Prop)(z:Bool)(u:Prop):=aD y x (aD z x u)
def lR(x:Lq):bz:=gm x.d x.i x.len fun y=>x.src (x.r+y)
def cM(x y:Int):Bool:=decide (x<=y)
def uz(x:Lq):=x.i<x.d.n/\x.d.n<100000/\x.len<=64/\x.r+x.len<=x.n/\x.d.calls<1000000000000
def dQ(x y:Nat)(z:Prop):=eO (af x) y (0+ay x) z
def Gp(x y:bz)(z:Nat->Nat->Value):=ah (af x.calls)->aS x.calls/\Exists (ax (aW (sI x.n y (af x.calls+(1:Int)) y z True True)))
theorem Gq:fnBody (Y Tryz.prog) [] 81 pL fun _=>[]:=fnBody.of (p :=
 ∀x:Lq,uz x->iY (aF (af x.i) 0) (Exists (ax ((4:Int)=0/\gz x.d (lR x) (True/\True)))) (cM (af x.d.n) (af x.i)) (aY 64 x.len (Exists (ax ((1:Int)=0/\gz x.d (lR x) (True/\True)))) (aX (af x.i) (af x.d.n)/\0<64/\0+ay x.i<x.d.n/\x.r+x.len<=x.n/\dQ x.i x.d.n (Gp x.d (lR x) (jY (Bg (fo x.d) (0+ay x.i) 0 (min x.len 64) fun y z=>fA (x.src (x.r+y))) (0+ay x.i) 128 (bD (dK true))))))) (by kernel_rfl) (by
 delta aD aK ah ay aC eO aF af bD aX fA aB aV bS iY dP lR ax aS cM aW ag aY sI uz dQ dK Gp
 try dsimp -iota -proj only
 intro a h;obtain⟨h1,h2,h3,h4,h5⟩:=h;have e1:decide ((a.i:Int)<0)=false:=by simp
 have e2:decide ((a.d.n:Int)<=a.i)=false:=by simp;omega
 have e3:decide ((64:Int)<a.len)=false:=by simp;omega
 simp only[e1,e2,e3,Nat.zero_add,Int.toNat_natCast,bQ];refine⟨fun e=>(by cases e),fun _=>⟨fun e=>(by cases e),fun _=>⟨fun e=>(by cases e),fun _=>⟨by omega,by omega,by omega,by omega,by omega,by omega,fun _=>⟨by omega,(),(by trivial),⟨(by trivial),(by trivial),(by trivial)⟩,(by trivial),⟨Nat.le_refl _,⟨fun i hi j hj=>?_⟩⟩,trivial,trivial⟩⟩⟩⟩⟩;rw[Br,show min a.len 64=a.len by omega];simp only[fo,gm,Bg,bM,List.length_singleton];by_cases h6:i=a.i
 ·subst h6;by_cases g1:j<64
  ·by_cases g2:j<a.len
   ·simp[g1,g2,show ¬(128<=j)by omega]
   ·simp[g1,g2,show ¬(128<=j)by omega]
  ·by_cases g3:j<128
   ·simp[g1,g3,show ¬(128<=j)by omega,show ¬(j<a.len)by omega]
   ·simp[g1,g3,show j=128 by omega]
 ·simp[h6])
def gn(d:bz):bz:=⟨d.n,d.now,d.now,fun _=>false,d.calls+1⟩
def jO(d:bz)(i:Nat):bz:=⟨d.n,d.now,fun r j=>if r<i then d.now r j else d.EM r j,fun r=>if r<i then false else d.loose r,d.calls⟩
noncomputable def jC:cC where
 α:=bz
 β:=Unit
 m:=2
 m':=2
 pre:=fun d=>d.n<100000/\d.calls<1000000000000
 args:=fun a=>[.a (.ptr 0 0 0 0)]
 hp:=fun d=>gG 0 1 d
 ro:=fun _=>[]
 post:=fun _ _=>True
 res:=fun _ _=>.a (.lit .i64 0)
 cW:=fun d _=>gG 0 1 (gn d)
def Xg(d:bz):An:=.flat 4 Nat (fun s i=>(s.at_ (s.pK (s.tg 0) 0) (.arr 158 Cj d.n (fo (jO d i)))).int 11 i) (fun _ i=>i<=d.n) (fun _ i=>d.n-i)
def gp(x y:Nat)(z u:Prop):=aY (af x) y (dQ x y z) u
def bT(x:Prop):=bK false x
def jF(x:bz):=x.n<100000/\x.calls<1000000000000
def fO(x y:Nat)(z u:Prop):=x<=y->gp x y z u
def kY(x:Prop):=bT (aW (ag x))
theorem Gr:fnBody (Y Tryz.prog) [] 169 jC fun d=>[(169,[Xg d],[])]:=fnBody.of (p :=
 ∀x:bz,jF x->(∃y:Nat,aA y (bu x.n/\kY (bC x.n x.n/\bu x.calls/\aK x.n x.n 129 (fo x) (fo (jO x y))/\y<=x.n/\True)))/\∀y:Nat,fO y x.n (dQ y x.n (dQ y x.n (cO y fun z=>bu x.n/\kY (bC x.n x.n/\bu x.calls/\aK x.n x.n 129 (jY (jY (fo (jO x y)) (0+ay y) 64 (List.map (fun(u:Nat)=>fA ((jO x y).now (0+ay y) u)) (List.range 64))) (0+ay y) 128 (bD gd)) (fo (jO x z))/\bF z x.n y)))) (Gp x (gn x) (fo (jO x y)))) (by kernel_rfl) (by
 delta aD aK ah bW ay aC eO aF af bK bD aX fA aB aV bS gp bT bC cO dP bF jF ax aS aA aW gd ag aY sI bx fO bu dQ dK kY Gp
 try dsimp -iota -proj only
 intro d h;obtain⟨h1,h2⟩:=h;simp only[Nat.zero_add,Int.toNat_natCast,bQ];refine⟨⟨0,(by trivial),(by trivial),(by trivial),(by trivial),(by trivial),⟨(by trivial),(by trivial),(by trivial)⟩,(by trivial),⟨Nat.le_refl _,⟨fun i hi j hj=>?_⟩⟩,by omega,trivial⟩,fun k hk=>⟨fun c1=>?_,fun c1 _=>?_⟩⟩
 ·simp only[fo,jO,Nat.not_lt_zero,if_false]
 ·have hk:k<d.n:=by simpa using c1
  refine⟨by omega,by omega,by omega,by omega,by omega,by omega,by omega,k+1,by omega,(by trivial),(by trivial),(by trivial),(by trivial),⟨(by trivial),(by trivial),(by trivial)⟩,(by trivial),⟨Nat.le_refl _,⟨fun i hi j hj=>?_⟩⟩,by omega,by omega⟩;refine Eq.trans (b:=jY (jY (fo (jO d k)) k 64 ((List.range 64).map fun j=>.int .u8 ((jO d k).now k j))) k 128 [.bool false] i j) rfl ?_;rw[Br,Br];simp only[List.length_singleton,List.length_map,List.length_range];by_cases h6:i=k
  ·subst h6;by_cases g1:j<64
   ·simp[fo,jO,g1,show ¬(128<=j)by omega,show ¬(64<=j)by omega]
   ·by_cases g3:j<128
    ·rw[if_neg (by omega),if_pos (by omega),Sd (by omega)];simp[fo,jO,g1,g3]
    ·simp[fo,jO,g1,g3,show j=128 by omega]
  ·rw[if_neg (by omega),if_neg (by omega)];simp only[fo,jO,show(i<k+1)=(i<k)by simp;omega]
 ·have hk:k=d.n:=by simp at c1;omega
  subst hk;refine⟨by omega,(),(by trivial),⟨(by trivial),(by trivial),(by trivial)⟩,(by trivial),⟨Nat.le_refl _,⟨fun i hi j hj=>?_⟩⟩,trivial,trivial⟩;have hi:i<d.n:=hi;simp only[fo,jO,gn,hi,if_true])
structure Zp where
 d:bz
 i:Nat
noncomputable def Cl:cC where
 α:=Zp
 β:=Nat
 m:=2
 m':=3
 pre:=fun a=>a.i<a.d.n/\a.d.n<100000
 args:=fun a=>[.a (.ptr 0 0 0 0),.a (.int .i64 a.i)]
 hp:=fun _=>[]
 ro:=fun a=>gG 0 1 a.d
 post:=fun _ c=>64<=c
 res:=fun _ c=>.mm [.a (.slc 2 0 1 64 c),.a (.lit .i64 0)]
 cW:=fun a c=>[(2,.arr 5 [.int .u8] 64 (bM (a.d.now a.i)))]
def Cm(x:Nat)(z u:Int):Nat->Prop:=fun(y:Nat)=>(0=x/\0=y)/\z=u/\x=0/\x<=y/\True
def uA(x:Nat->Nat->Value):Nat->Nat->Value:=aZ (aM 1 []) 0 0 x
theorem Jo:fnBody (Y Tryz.prog) [] 201 Cl fun _=>[]:=fnBody.of (p :=
 ∀x:Zp,x.i<x.d.n/\x.d.n<100000->iY (aF (af x.i) 0) (Exists (Cm 64 4 0)) (cM (af x.d.n) (af x.i)) (aX (af x.i) (af x.d.n)/\0<64/\0<=0/\0+ay x.i<x.d.n/\64<=140737488355328/\∀y:Nat,64<=y->y<=aq->(64<=0->y=0)->∃z:Nat,bW 64 (y=z)/\aW (aK 64 64 1 (uA fun u v=>fo x.d (0+ay x.i) (0+u)) (bM (x.d.now x.i))/\64<=z/\True))) (by kernel_rfl) (by
 delta aD aK bW ay aC aF af aX aB aV iY cM aW ag Cm uA
 try dsimp -iota -proj only
 intro a h;obtain⟨h1,h2⟩:=h;have e1:decide ((a.i:Int)<0)=false:=by simp
 have e2:decide ((a.d.n:Int)<=a.i)=false:=by simp;omega
 simp only[e1,e2,Nat.zero_add,Int.toNat_natCast];refine⟨fun e=>(by cases e),fun _=>⟨fun e=>(by cases e),fun _=>⟨by omega,by omega,by omega,by omega,by omega,fun cap hc1 hc2 hc3=>⟨cap,⟨(by trivial),(by trivial),(by trivial)⟩,(by trivial),⟨Nat.le_refl _,⟨fun i hi j hj=>?_⟩⟩,hc1,trivial⟩⟩⟩⟩;simp only[aZ,bM,Nat.not_lt_zero,if_false,Nat.sub_zero,fo,if_pos hi])
theorem Cn:ak (Y Tryz.prog).G.X 12 Bq:=aU fF Lp trivial
theorem pn:ak (Y Tryz.prog).G.X 81 pL:=aU fF Gq trivial
theorem iG:ak (Y Tryz.prog).G.X 169 jC:=aU fF Gr trivial
theorem Jp:ak (Y Tryz.prog).G.X 201 Cl:=aU fF Jo trivial
def cE(x:Int):List Value:=[.int .u8 x]
def vt:Nat->Nat->List Int
 |0,u=>[(u:Int)]
 |k+1,u=>if u<128 then[(u:Int)]else((u%128+128:Nat):Int)::vt k (u/128)
theorem vu:∀(k u:Nat),1<=(vt k u).length/\(vt k u).length<=k+1
 |0,u=>by simp[vt]
 |k+1,u=>by
  unfold vt;split
  ·simp
  ·have:=vu k (u/128);simp only[List.length_cons];omega
theorem YC(x:Nat):dA .or .u8 (uw .u8 x) 128=((x%128+128:Nat):Int):=by
 have h:∀y:Fin 256,dA .or .u8 (y.1:Int) 128=((y.1%128+128:Nat):Int):=by decide +kernel
 have e:uw .u8 (x:Int)=((x%256:Nat):Int):=by simp only[uw];omega
 have:=h ⟨x%256,by omega⟩;rw[e,this];simp only;omega
def vi(n:Int):List Int:=vt 9 (2*n.toNat)
def jh(t:Nat)(l:List Int):List (Nat×Chunk):=[(t,.arr 5 [.int .u8] l.length (aa cE l))]
def S.bytes(s:S)(slot:Nat)(l:List Int)(cap:Nat):S:=((s.put (s.hp.del (s.tg slot))).new (.arr 5 [.int .u8] l.length (aa cE l))).set slot (.a (.slc s.nx 0 1 l.length cap))
structure AB where
 l:List Int
 cap:Nat
 n:Int
noncomputable def NP:cC where
 α:=AB
 β:=Nat
 m:=1
 m':=2
 pre:=fun a=>a.l.length<100000/\0<=a.n/\a.n<4611686018427387904
 args:=fun a=>[.a (.slc 0 0 1 a.l.length a.cap),.a (.int .i64 a.n)]
 hp:=fun a=>jh 0 a.l
 ro:=fun _=>[]
 post:=fun _ _=>True
 res:=fun a c=>.a (.slc 1 0 1 (a.l++vi a.n).length c)
 cW:=fun a c=>jh 1 (a.l++vi a.n)
structure Jq where
 l:List Int
 u:Nat
 k:Nat
 cap:Nat
def YD(a:AB):An:=.flat 4 Jq (fun s x=>(S.bytes s 0 x.l x.cap).set 5 (.a (.int .u64 x.u))) (fun _ x=>x.l++vt x.k x.u=a.l++vi a.n/\x.u<128^(x.k+1)/\x.k<=9) (fun _ x=>x.u)
def av(x:List Int):Nat:=x.length
def gH(y z v u:Nat)(w:Nat->Prop):=(y+z)*v<=140737488355328/\∀x:Nat,y+z<=x->x<=aq->(y+z<=u->x=u)->w x
def cq(x y:List Int)(z:Int->List Value):=aK (av x) (av y) 1 (aa z y) (aa z x)
def jG(x:Nat)(y:List Value):Nat->Nat->Value:=fun(z u:Nat)=>aM x y (0+z) u
def lC(z x y:Nat)(u:Nat->Nat->Value)(v:List Value)(w:Nat->Nat->Value):=aK z (x+1) y (aZ u 0 x (jG y v)) w
def jP(x y z:Nat)(u:Nat->Prop):=0+x<=x/\1<=1/\gH x 1 y z fun v=>u v
def cN(x y:List Int)(z u:Nat):=ag (av x=av y/\z=u)
def uB(x:Nat):List Value:=bD (fA (uw .u8 (af x)))
def Gs(x:Jq)(y:AB):=x.l++vt x.k x.u=y.l++vi y.n/\x.u<128^(x.k+1)/\x.k<=9
def Lr(w:Int)(y:AB):=(∃x:Jq,w=af x.u/\cN y.l x.l y.cap x.cap/\bK (aF y.n 0) (aC y.n/\cq x.l y.l cE/\Gs x y/\True))/\∀x:Jq,Gs x y->aY 127 x.u (jP (av x.l) 1 x.cap fun v=>(0:Int)<=7/\∃z:Jq,af x.u/(128:Int)=af z.u/\ag (av x.l+1=av z.l/\v=z.cap)/\bK (aF y.n 0) (aC y.n/\lC (av z.l) (av x.l) 1 (aa cE x.l) (bD (fA (dA Go.BinOp.or .u8 (uw .u8 (af x.u)) (128:Int)))) (aa cE z.l)/\Gs z y/\z.u<x.u)) (jP (av x.l) 1 x.cap fun v=>∃z:Nat,ag (av x.l+1=av (y.l++vi y.n)/\v=z)/\bl (lC (av (y.l++vi y.n)) (av x.l) 1 (aa cE x.l) (uB x.u) (aa cE (y.l++vi y.n))))
def mA(x y:Int):Int:=dA Go.BinOp.xor .u64 x y
def yY(x:AB):=av x.l<100000/\aX x.n 4611686018427387904
theorem Se:fnBody (Y Tryz.prog) [] 200 NP fun a=>[(200,[YD a],[])]:=fnBody.of (p :=
 ∀x:AB,yY x->(0:Int)<=1/\aD (aF x.n 0) (Lr (mA 18446744073709551615 (cQ (cQ x.n*(2:Int)))) x) (Lr (cQ (cQ x.n*(2:Int))) x)) (by kernel_rfl) (by
 delta aD av aK aC gH aF af bK bD aX fA aB bS cq lC jP Lr cQ ag aY mA cN bl uB Gs yY jG
 try dsimp -iota -proj only
 rintro⟨l,cap,n⟩ ⟨h1,h2,h3⟩;dsimp only at h1 h2 h3 ⊢;have e0:decide (n<0)=false:=by simp;omega
 have e1:uw .u64 (uw .u64 n*2)=((2*n.toNat:Nat):Int):=by simp only[uw];omega
 have hv:=vu 9 (2*n.toNat);rw[e0,e1];refine⟨by omega,fun e=>(by cases e),fun _=>⟨⟨⟨l,2*n.toNat,9,cap⟩,?_⟩,fun x hx=>?_⟩⟩
 ·dsimp only
  and_intros<;>first|trivial|exact aj.refl _ _ _|exact Nat.le_refl _|(simp only[vi])|omega|skip
 ·obtain⟨l',u,k,cap'⟩:=x;obtain⟨g1,g2,g3⟩:=hx;dsimp only at g1 g2 g3 ⊢;have hl:=congrArg List.length g1;have hv2:=vu k u;simp only[List.length_append,vi]at hl;refine⟨fun c1=>⟨by omega,by omega,by omega,fun c hc1 hc2 hc3=>⟨by omega,⟨l'++[((u%128+128:Nat):Int)],u/128,k-1,c⟩,?_⟩⟩,fun c1=>⟨by omega,by omega,by omega,fun c hc1 hc2 hc3=>⟨c,?_⟩⟩⟩
  ·have c1:127<u:=by simp at c1;omega
   obtain⟨k',rfl⟩:∃k',k=k'+1:=⟨k-1,by
    by_cases hk:k=0
    ·subst hk;simp at g2;omega
    ·omega⟩
   have g1':(l'++[((u%128+128:Nat):Int)])++vt k' (u/128)=l++vi n:=by
    rw[<- g1,List.append_assoc];congr 1;rw[show vt (k'+1) u=((u%128+128:Nat):Int)::vt k' (u/128)from if_neg (by omega)];rfl
   have g4:u/128<128^(k'+1):=by
    rw[Nat.pow_succ]at g2;exact Nat.div_lt_of_lt_mul (by rw[Nat.mul_comm];exact g2)
   simp only[Nat.add_sub_cancel]
   and_intros<;>first|trivial|with_reducible rfl|exact g1'|exact g4|omega|(simp;done)|skip
   refine .push rfl (by simp) ?_;show[_]=[_]
   simp only[aM,cE,Nat.add_zero,Nat.zero_mul,List.getD_cons_zero,YC]
  ·have c1:u<128:=by simp at c1;omega
   have e5:vt k u=[(u:Int)]:=by
    cases k with
    |zero=>rfl
    |succ k=>exact if_pos (by simp at c1;omega)
   rw[e5]at g1;rw[<- g1]
   and_intros<;>first|trivial|with_reducible rfl|omega|(simp;done)|skip
   refine .push rfl (by simp) ?_;show[_]=[_]
   simp only[aM,cE,Nat.add_zero,Nat.zero_mul,List.getD_cons_zero,uw];rw[Int.emod_eq_of_lt (by omega) (by omega)])
theorem iK(n:Int):1<=(vi n).length/\(vi n).length<=10:=vu 9 _
theorem Jr:ak (Y Tryz.prog).G.X 200 NP:=aU fF Se trivial
structure aG where
 key:ByteArray
 val:ByteArray
 e:Int
 gone:Bool
 deriving Inhabited
def Ls:List CK:=[.str,.str,.int .i64,.bool]
def kL(x:aG):List Value:=[.string x.key,.string x.val,.int .i64 x.e,.bool x.gone]
def Co(x:aG):List A:=[.str x.key,.str x.val,.int .i64 x.e,.bool x.gone]
def dS(k:ByteArray):Bool:=!decide (k=ByteArray.mk #[])&&decide (k.size<=40)
def fV(x:aG):Bool:=dS x.key&&decide (x.val.size<=200)&&decide (0<=x.e)&&decide (x.e<=1099511627776)&&(!x.gone||decide (x.val=ByteArray.mk #[])&&decide (x.e=0))
def uC(x:aG)(now:Int):Bool:=fV x&&!x.gone&&(decide (x.e=0)||decide (now<x.e))
noncomputable def Lt:cC where
 α:=ByteArray
 β:=Unit
 m:=0
 m':=0
 pre:=fun _=>True
 args:=fun k=>[.a (.str k)]
 hp:=fun _=>[]
 ro:=fun _=>[]
 post:=fun _ _=>True
 res:=fun k _=>.a (.bool (dS k))
 cW:=fun _ _=>[]
def cR:ByteArray:=(ByteArray.mk #[])
def fR(x:Bool)(y z:Prop):=false=x/\y/\z
def bp(x:ByteArray):Nat:=x.size
def eZ(x:Bool):Unit->Prop:=ax (fR x True True)
def bn(x:Bool):Bool:=!x
def gP(x y:ByteArray):Bool:=decide (x=y)
theorem Vy:fnBody (Y Tryz.prog) [] 86 Lt fun _=>[]:=fnBody.of (p :=
 ∀x:ByteArray,True->aD (bn (gP x cR)) (bL (cM (af (bp x)) 40=dS x)) (Exists (eZ (dS x)))) (by kernel_rfl) (by
 delta aD af cR aB fR bp bL ax cM eZ bn bl gP
 intro k _;refine⟨fun h=>⟨(),?_,trivial,trivial⟩,fun h=>⟨(),?_,trivial,trivial⟩⟩
 ·simp only[dS,h,Bool.true_and];exact decide_eq_decide.2 (by omega)
 ·simp only[dS,h];rfl)
noncomputable def yZ:cC where
 α:=aG
 β:=Unit
 m:=0
 m':=0
 pre:=fun _=>True
 args:=fun x=>[.agg (Co x)]
 hp:=fun _=>[]
 ro:=fun _=>[]
 post:=fun _ _=>True
 res:=fun x _=>.a (.bool (fV x))
 cW:=fun _ _=>[]
def aI(x:Prop):=∀y:Unit,True->x
def ko(x:Int)(y:Bool)(z u:Prop):=ah x->aD y z (ah x->u)
def cS(x:Prop):=True/\aI x
theorem Gt:fnBody (Y Tryz.prog) [(86,Lt)] 96 yZ fun _=>[]:=fnBody.of (p :=
 ∀x:aG,True->∃y:ByteArray,x.key=y/\cS (iY (bn (dS y)) (Exists (eZ (fV x))) (aF 200 (af (bp x.val))) (ko x.e (aF x.e 0) (Exists (eZ (fV x))) (aD (aF 1099511627776 x.e) (Exists (eZ (fV x))) (aD (bn x.gone) (bL (true=fV x)) (aD (gP x.val cR) (ah x.e->bL ((x.e == (0:Int))=fV x)) (Exists (eZ (fV x))))))))) (by kernel_rfl) (by
 delta aD ah aF af cR aB fR iY aI bp bL ax eZ bn bl gP ko cS
 intro x _;have hv:x.val=ByteArray.mk #[]->x.val.size=0:=fun e=>by rw[e];rfl
 refine⟨x.key,rfl,trivial,fun _ _=>?_⟩
 repeat' (first|intro _|apply And.intro|apply Exists.intro ())
 all_goals(try exact trivial)
 all_goals(try simp only[Bool.not_eq_true',Bool.not_eq_false',decide_eq_true_eq,decide_eq_false_iff_not]at *)
 all_goals(simp only[fV];rw[Bool.eq_iff_iff];simp only[Bool.and_eq_true,Bool.or_eq_true,Bool.not_eq_true',decide_eq_true_eq,beq_iff_eq];grind))
structure NQ where
 x:aG
 now:Int
noncomputable def Sf:cC where
 α:=NQ
 β:=Unit
 m:=0
 m':=0
 pre:=fun _=>True
 args:=fun a=>[.agg (Co a.x),.a (.int .i64 a.now)]
 hp:=fun _=>[]
 ro:=fun _=>[]
 post:=fun _ _=>True
 res:=fun a _=>.a (.bool (uC a.x a.now))
 cW:=fun _ _=>[]
def qu(y z:Bool)(u x:Prop):=aD y (aD z u x) x
def qb(x y:aG)(z:Prop):=x.key=y.key/\x.val=y.val/\x.e=y.e/\x.gone=y.gone/\z
theorem Sg:fnBody (Y Tryz.prog) [(96,yZ)] 185 Sf fun _=>[]:=fnBody.of (p :=
 ∀y:NQ,True->∃z:aG,qb y.x z (cS (qu (fV z) (bn y.x.gone) (ko y.x.e (y.x.e == (0:Int)) (bL (true=uC y.x y.now)) (bL (aF y.now y.x.e=uC y.x y.now))) (Exists (eZ (uC y.x y.now)))))) (by kernel_rfl) (by
 delta qu aD ah aF aB fR qb aI bL ax eZ bn bl ko cS
 rintro⟨x,now⟩ _;refine⟨x,rfl,rfl,rfl,rfl,trivial,fun _ _=>?_⟩;dsimp only
 repeat' (first|intro _|apply And.intro|apply Exists.intro ())
 all_goals(try exact trivial)
 all_goals(try simp only[Bool.not_eq_true',Bool.not_eq_false',decide_eq_true_eq,decide_eq_false_iff_not]at *)
 all_goals(simp only[uC];rw[Bool.eq_iff_iff];simp only[Bool.and_eq_true,Bool.or_eq_true,Bool.not_eq_true',decide_eq_true_eq,beq_iff_eq];(try simp only[Bool.not_eq_true']at *);grind))
theorem pM{α:Type}[Inhabited α]{l:List α}{i:Nat}(h:i<l.length):l.take (i+1)=l.take i++[gl l i]:=by
 rw[bR h,List.take_add_one,List.getElem?_eq_getElem h];rfl
theorem flatMap_push{α β:Type}[Inhabited α]{l:List α}{f:α->List β}{i:Nat}(h:i<l.length):(l.take (i+1)).flatMap f=(l.take i).flatMap f++f (gl l i):=by
 rw[pM h,List.flatMap_append];simp
theorem uD{α β:Type}{l:List α}{f:α->List β}{i:Nat}(h:¬i<l.length):(l.take i).flatMap f=l.flatMap f:=by
 rw[List.take_of_length_le (by omega)]
theorem Js{α β:Type}[Inhabited α]{l:List α}{f:α->List β}{m:Nat}(h:∀i,i<l.length->(f (gl l i)).length<=m):(l.flatMap f).length<=l.length*m:=by
 induction l with
 |nil=>simp
 |cons x r ih =>
  have h0:=h 0 (by simp);have:=ih fun i hi=>h (i+1) (by simp;omega);simp only[List.flatMap_cons,List.length_append,List.length_cons,Nat.succ_mul]at *;simp only[gl,List.getD_cons_zero]at h0;omega
theorem kM{α β:Type}[Inhabited α]{l:List α}{f:α->List β}{m:Nat}(h:∀i,i<l.length->(f (gl l i)).length<=m)(k:Nat)(hk:k<=l.length):((l.take k).flatMap f).length<=k*m:=by
 have:=Js (l:=l.take k) (f:=f) (m:=m) fun i hi=>by
  simp at hi;have e:gl (l.take k) i=gl l i:=by unfold gl;rw[List.getD_eq_getElem?_getD,List.getElem?_take_of_lt (by omega),List.getD_eq_getElem?_getD]
  rw[e];exact h i (by omega)
 simpa[Nat.min_eq_left hk]using this
def IL(t:ByteArray):List Int:=t.data.toList.map fun b=>(b.toNat:Int)
def encI(x:Int):List Value:=[.int .i64 x]
def kq(x:ByteArray):List Value:=[.string x]
def ic(ns:List Int):List Int:=ns.flatMap vi
def eL(ts:List ByteArray):List Int:=ts.flatMap fun t=>vi t.size++IL t
theorem iU(t:ByteArray):(IL t).length=t.size:=by rw[IL,List.length_map];rfl
theorem Cp(t:ByteArray){m:Nat}(h:m<=t.size):aj m 1 (nu t) (aa cE (IL t)):=by
 refine⟨fun i hi j hj=>?_⟩;have hj:j=0:=by omega
 have hs:t.size=t.data.size:=rfl;have hi':i<t.data.size:=by omega
 subst hj;simp only[nu,aa,cE,List.getD_cons_zero,IL,gl];congr 1;simp[List.getD_eq_getElem?_getD,Array.getD_eq_getD_getElem?,Array.getElem?_eq_getElem hi']
structure lS where
 l:List Int
 cap:Nat
 ns:List Int
 Sh:Nat
noncomputable def Cq:cC where
 α:=lS
 β:=Nat
 m:=2
 m':=3
 pre:=fun a=>a.l.length<10000/\a.ns.length<100/\∀i,i<a.ns.length->0<=gl a.ns i/\gl a.ns i<4611686018427387904
 args:=fun a=>[.a (.slc 0 0 1 a.l.length a.cap),.a (.slc 1 0 1 a.ns.length a.Sh)]
 hp:=fun a=>jh 0 a.l
 ro:=fun a=>[(1,.arr 2 [.int .i64] a.ns.length (aa encI a.ns))]
 post:=fun _ _=>True
 res:=fun a c=>.a (.slc 2 0 1 (a.l++ic a.ns).length c)
 cW:=fun a c=>jh 2 (a.l++ic a.ns)
def Xh(a:lS):An:=.flat 2 (Nat×Nat) (fun s x=>(S.bytes s 0 (a.l++ic (a.ns.take x.1)) x.2).int 9 x.1) (fun _ x=>x.1<=a.ns.length) (fun _ x=>a.ns.length-x.1)
def iq(x:Nat×Nat)(z:Nat×Nat->Prop):=aS x.fst/\∃y:Nat×Nat,bx x.fst y.fst/\z y
def lT(x y:List Int)(z u:Nat)(v:Int->List Value)(w s:Prop):=cN x y z u/\cq y x v/\w/\s
def sJ(x y:Nat)(z:Prop):=ur (bu x) (bC x y) z
def wO(x y:List Int)(z:Nat)(u:Nat×Nat)(v w:Nat)(s t:Prop):=cN x y z u.snd/\sJ v w (cq y x cE/\s/\t)
def y3(x:lS):=av x.l<10000/\av x.ns<100/\∀y:Nat,y<av x.ns->aX (gl x.ns y) 4611686018427387904
def y4(x:lS)(y:Nat×Nat):List Int:=x.l++ic (List.take y.fst x.ns)
theorem Pn:fnBody (Y Tryz.prog) [(200,NP)] 165 Cq fun a=>[(165,[Xh a],[])]:=fnBody.of (p :=
 ∀x:lS,y3 x->(∃y:Nat×Nat,aA y.fst (wO x.l (y4 x y) x.cap y (av x.ns) x.Sh (cq x.ns x.ns encI) (y.fst<=av x.ns/\True)))/\∀y:Nat×Nat,fO y.fst (av x.ns) (ah (gl x.ns (0+ay y.fst))->∃z:AB,cN (y4 x y) z.l y.snd z.cap/\gl x.ns (0+ay y.fst)=z.n/\cq z.l (y4 x y) cE/\yY z/\∀v:Nat,True->iq y fun u=>wO (z.l++vi z.n) (y4 x u) v u (av x.ns) x.Sh (cq x.ns x.ns encI) (bF u.fst (av x.ns) y.fst)) (∃w:Nat,lT (y4 x y) (x.l++ic x.ns) y.snd w cE True True)) (by kernel_rfl) (by
 delta aD av aK ah bW ay aC eO aF af aX aB aV ur cq gp bC bF iq lT aS wO aA ag aY cN bx fO bu dQ y3 y4 yY sJ
 try dsimp -iota -proj only
 rintro⟨l,cap,ns,Sh⟩ ⟨h1,h2,h3⟩;dsimp only at h1 h2 h3 ⊢;have e0:ic (ns.take 0)=[]:=rfl;refine⟨⟨(0,cap),?_⟩,fun x hx=>?_⟩
 ·dsimp only;rw[e0,List.append_nil]
  and_intros<;>first|trivial|with_reducible rfl|exact aj.refl _ _ _|exact Nat.le_refl _|omega
 ·obtain⟨i,c⟩:=x;have hx:i<=ns.length:=hx;have ln:(ic (ns.take i)).length<=i*10:=kM (fun j _=>(iK _).2) i hx;dsimp only;simp only[Nat.zero_add,Int.toNat_natCast,bQ];refine⟨fun c1=>?_,fun c1=>?_⟩
  ·have hi:i<ns.length:=by simpa using c1
   have hs:ic (ns.take (i+1))=ic (ns.take i)++vi (gl ns i):=flatMap_push hi;have h3:=h3 i hi;refine⟨by omega,by omega,fun _=>⟨⟨l++ic (ns.take i),c,gl ns i⟩,?_⟩⟩;dsimp only;rw[List.append_assoc,<- hs]
   (repeat' (first|apply And.intro|(intro _)))<;>first|trivial|with_reducible rfl|exact aj.refl _ _ _|exact Nat.le_refl _|omega|(simp;omega)|skip
   apply Exists.intro ((i+1,_):Nat×Nat)
   (repeat' (first|apply And.intro|(intro _)))<;>first|trivial|with_reducible rfl|exact aj.refl _ _ _|exact Nat.le_refl _|omega
  ·have hi:¬i<ns.length:=by simpa using c1
   rw[show ic (ns.take i)=ic ns from uD hi];refine⟨c,?_⟩
   (repeat' (first|apply And.intro|(intro _)))<;>first|trivial|with_reducible rfl|exact aj.refl _ _ _|exact Nat.le_refl _|omega)
structure nT where
 l:List Int
 cap:Nat
 ts:List ByteArray
 Si:Nat
noncomputable def Gu:cC where
 α:=nT
 β:=Nat
 m:=2
 m':=3
 pre:=fun a=>a.l.length<10000/\a.ts.length<20/\∀i,i<a.ts.length->(gl a.ts i).size<=1000
 args:=fun a=>[.a (.slc 0 0 1 a.l.length a.cap),.a (.slc 1 0 1 a.ts.length a.Si)]
 hp:=fun a=>jh 0 a.l
 ro:=fun a=>[(1,.arr 9 [.str] a.ts.length (aa kq a.ts))]
 post:=fun _ _=>True
 res:=fun a c=>.a (.slc 2 0 1 (a.l++eL a.ts).length c)
 cW:=fun a c=>jh 2 (a.l++eL a.ts)
def Vz(a:nT):An:=.flat 2 (Nat×Nat) (fun s x=>(S.bytes s 0 (a.l++eL (a.ts.take x.1)) x.2).int 9 x.1) (fun _ x=>x.1<=a.ts.length) (fun _ x=>a.ts.length-x.1)
def aT(x:List ByteArray):Nat:=x.length
def kZ(x:List ByteArray):=dN (aT x) 1 (aa kq x)
def sK(x:List ByteArray)(y:Nat):Nat:=bp (gl x (0+ay y))
def Gv(z x y:List Int)(u:List ByteArray)(v:Nat):=aK (av z) (av (x++y)+sK u v) 1 (aZ (aa cE (x++y)) 0 (av (x++y)) (nu (gl u (0+ay v)))) (aa cE z)
def mB(x:List Int):=0+av x<=av x
def wP(x:nT)(y:Nat×Nat):List Int:=x.l++eL (List.take y.fst x.ts)
def Gw(x:nT):=av x.l<10000/\aT x.ts<20/\∀y:Nat,y<aT x.ts->bp (gl x.ts y)<=1000
theorem Lu:fnBody (Y Tryz.prog) [(200,NP)] 166 Gu fun a=>[(166,[Vz a],[])]:=fnBody.of (p :=
 ∀x:nT,Gw x->(∃y:Nat×Nat,aA y.fst (wO x.l (wP x y) x.cap y (aT x.ts) x.Si (kZ x.ts) (y.fst<=aT x.ts/\True)))/\∀y:Nat×Nat,fO y.fst (aT x.ts) (∃z:AB,cN (wP x y) z.l y.snd z.cap/\af (sK x.ts y.fst)=z.n/\cq z.l (wP x y) cE/\yY z/\∀v:Nat,True->mB (z.l++vi z.n)/\gH (av (z.l++vi z.n)) (sK x.ts y.fst) 1 v fun w=>iq y fun u=>ag (av (z.l++vi z.n)+sK x.ts y.fst=av (wP x u)/\w=u.snd)/\sJ (aT x.ts) x.Si (Gv (wP x u) z.l (vi z.n) x.ts y.fst/\kZ x.ts/\bF u.fst (aT x.ts) y.fst)) (∃z:Nat,lT (wP x y) (x.l++eL x.ts) y.snd z cE True True)) (by kernel_rfl) (by
 delta aD av aK ah bW ay aC gH eO aF af aT aX aB aV ur cq dN gp bp bC bF iq lT aS wO kZ aA ag aY cN Gv bx fO bu mB wP dQ yY Gw sJ sK
 try dsimp -iota -proj only
 rintro⟨l,cap,ts,Si⟩ ⟨h1,h2,h3⟩;dsimp only at h1 h2 h3 ⊢;have e0:eL (ts.take 0)=[]:=rfl;refine⟨⟨(0,cap),?_⟩,fun x hx=>?_⟩
 ·dsimp only;rw[e0,List.append_nil]
  and_intros<;>first|trivial|with_reducible rfl|exact aj.refl _ _ _|exact Nat.le_refl _|omega
 ·obtain⟨i,c⟩:=x;have hx:i<=ts.length:=hx;have ln:(eL (ts.take i)).length<=i*1010:=kM (fun j hj=>by
   have:=h3 j hj;have:=(iK ((gl ts j).size:Nat)).2;rw[List.length_append,iU];omega) i hx
  dsimp only;simp only[Nat.zero_add,Int.toNat_natCast,bQ];refine⟨fun c1=>?_,fun c1=>?_⟩
  ·have hi:i<ts.length:=by simpa using c1
   have hs:eL (ts.take (i+1))=eL (ts.take i)++(vi (gl ts i).size++IL (gl ts i)):=flatMap_push hi;have h3:=h3 i hi;have hv:=iK ((gl ts i).size:Nat);refine⟨by omega,by omega,⟨⟨l++eL (ts.take i),c,(gl ts i).size⟩,?_⟩⟩;dsimp only;have hl2:(l++eL (ts.take i)++vi (gl ts i).size).length+(gl ts i).size=(l++eL (ts.take (i+1))).length:=by
    rw[hs];simp only[List.length_append,iU];omega
   have hr2:aj (l++eL (ts.take (i+1))).length 1 (aZ (aa cE (l++eL (ts.take i)++vi (gl ts i).size)) 0 (l++eL (ts.take i)++vi (gl ts i).size).length (nu (gl ts i))) (aa cE (l++eL (ts.take (i+1)))):=by
    rw[hs,<- List.append_assoc,<- List.append_assoc];refine .app rfl (.of_eq (by funext i;simp)) (Cp _ (by simp only[List.length_append,iU];omega))
   (repeat' (first|apply And.intro|(intro _)|apply Exists.intro ((i+1,_):Nat×Nat)))<;>first|trivial|with_reducible rfl|exact aj.refl _ _ _|exact Nat.le_refl _|exact hr2|exact hl2|exact Nat.le_of_eq hl2.symm|omega|(dsimp only;omega)|(simp only[List.length_append];omega)
  ·have hi:¬i<ts.length:=by simpa using c1
   rw[show eL (ts.take i)=eL ts from uD hi];refine⟨c,?_⟩
   (repeat' (first|apply And.intro|(intro _)))<;>first|trivial|with_reducible rfl|exact aj.refl _ _ _|exact Nat.le_refl _|omega)
def cT(x:aG):List Int:=eL [x.key,x.val]++ic [x.e,if x.gone then 1 else 0]
def dD(xs:List aG):List Int:=xs.flatMap cT
theorem qE{x:aG}(h:fV x=true):x.key.size<=40/\x.val.size<=200/\0<=x.e/\x.e<=1099511627776:=by
 simp only[fV,dS,Bool.and_eq_true,decide_eq_true_eq]at h;exact⟨h.1.1.1.1.2,h.1.1.1.2,h.1.1.2,h.1.2⟩
theorem EN{x:aG}(h:fV x=true):(cT x).length<=300:=by
 obtain⟨k1,k2,k3,k4⟩:=qE h;have a1:=(iK (x.key.size:Nat)).2;have a2:=(iK (x.val.size:Nat)).2;have a3:=(iK x.e).2;have a4:=(iK (if x.gone then 1 else 0)).2;simp only[cT,eL,ic,List.flatMap_cons,List.flatMap_nil,List.length_append,iU,List.length_nil];omega
structure Ee where
 xs:List aG
 cap:Nat
noncomputable def Sj:cC where
 α:=Ee
 β:=Nat
 m:=1
 m':=2
 pre:=fun a=>1<=a.xs.length/\a.xs.length<20/\∀i,i<a.xs.length->fV (gl a.xs i)=true
 args:=fun a=>[.a (.slc 0 0 4 a.xs.length a.cap)]
 hp:=fun _=>[]
 ro:=fun a=>[(0,.arr 40 Ls a.xs.length (aa kL a.xs))]
 post:=fun _ _=>True
 res:=fun a c=>.a (.slc 1 0 1 (dD a.xs).length c)
 cW:=fun a c=>jh 1 (dD a.xs)
def ZD(a:Ee):An:=.flat 3 (Nat×Nat) (fun s x=>((s.new (.arr 5 [.int .u8] (dD (a.xs.take x.1)).length (aa cE (dD (a.xs.take x.1))))).set 3 (.a (.slc s.nx 0 1 (dD (a.xs.take x.1)).length x.2))).int 9 x.1) (fun _ x=>x.1<=a.xs.length) (fun _ x=>a.xs.length-x.1)
def dO(x:Int):Value:=Value.int .i64 x
def bq(x:Int)(y:List Value):List Value:=bS (dO x) y
def bH(x:ByteArray):Value:=Value.string x
def y5(y:Nat)(x:lS)(z:Prop)(u:Int)(v:List Value)(w:Nat->Prop):=dP y (av x.ns) y x.Sh z 1 (aM 1 (bq u v)) (aa encI x.ns) (y3 x/\∀s:Nat,True->w s)
def wQ(x:Nat×Nat)(y:Ee):List Int:=dD (List.take x.fst y.xs)
def Cr(z:Nat×Nat)(x:Ee)(w:Int):nT->Prop:=fun(y:nT)=>cN (wQ z x) y.l z.snd y.cap/\dP 2 (aT y.ts) 2 y.Si (cq y.l (wQ z x) cE) 1 (aM 1 (bS (bH (gl x.xs (0+ay z.fst)).key) (bD (bH (gl x.xs (0+ay z.fst)).val)))) (aa kq y.ts) (Gw y/\∀s:Nat,True->∃u:lS,cN (y.l++eL y.ts) u.l s u.cap/\y5 2 u (cq u.l (y.l++eL y.ts) cE) (gl x.xs (0+ay z.fst)).e (bq w []) fun t=>iq z fun v=>wO (u.l++ic u.ns) (wQ v x) t v x.xs.length x.cap (dN x.xs.length 4 (aa kL x.xs)) (bF v.fst x.xs.length z.fst))
def wR(x:Ee):=1<=x.xs.length/\x.xs.length<20/\∀y:Nat,y<x.xs.length->aB (fV (gl x.xs y))
def y6(x:Nat):=∃y:Nat,(0=x/\0=y)/\bl (x=0)
theorem VA:fnBody (Y Tryz.prog) [(96,yZ),(165,Cq),(166,Gu)] 122 Sj fun a=>[(122,[ZD a],[])]:=fnBody.of (p :=
 ∀x:Ee,wR x->(∃y:Nat×Nat,aA y.fst ((0=av (wQ y x)/\0=y.snd)/\sJ x.xs.length x.cap (av (wQ y x)=0/\dN x.xs.length 4 (aa kL x.xs)/\y.fst<=x.xs.length/\True)))/\∀y:Nat×Nat,fO y.fst x.xs.length (∃z:aG,qb (gl x.xs (0+ay y.fst)) z (cS (aD (bn (fV z)) (y6 (av (dD x.xs))) (aD (gl x.xs (0+ay y.fst)).gone (ah (gl x.xs (0+ay y.fst)).e->(Exists (Cr y x 1)/\Exists (Cr y x 1))/\Exists (Cr y x 1)) (ah (gl x.xs (0+ay y.fst)).e->(Exists (Cr y x 0)/\Exists (Cr y x 0))/\Exists (Cr y x 0)))))) (∃z:Nat,lT (wQ y x) (dD x.xs) y.snd z cE True True)) (by kernel_rfl) (by
 delta aD av aK ah bq bW ay aC eO aF af aT bD aX aB dO aV ur bS Cr cq dN qb aI gp bp bC bH dP bF iq lT y5 aS wO aA ag aY wR cN bx fO bn bl bu dQ y3 cS y6 wQ Gw sJ
 try dsimp -iota -proj only
 rintro⟨xs,cap⟩ ⟨h1,h2,h3⟩;dsimp only at h1 h2 h3 ⊢;have ei:∀k:Nat,List.flatMap cT (xs.take k)=dD (xs.take k):=fun _=>rfl;have ea:List.flatMap cT xs=dD xs:=rfl;simp only[ei,ea];have e0:dD (xs.take 0)=[]:=rfl;refine⟨⟨(0,0),?_⟩,fun x hx=>?_⟩
 ·dsimp only;rw[e0]
  and_intros<;>first|trivial|with_reducible rfl|exact aj.refl _ _ _|exact Nat.le_refl _|omega
 ·obtain⟨i,c⟩:=x;have hx:i<=xs.length:=hx;have ln:(dD (xs.take i)).length<=i*300:=kM (fun j hj=>EN (h3 j hj)) i hx;dsimp only;simp only[Nat.zero_add,Int.toNat_natCast,bQ];refine⟨fun c1=>?_,fun c1=>?_⟩
  ·have hi:i<xs.length:=by simpa using c1
   have hs:dD (xs.take (i+1))=dD (xs.take i)++cT (gl xs i):=flatMap_push hi;have h3:=h3 i hi;obtain⟨k1,k2,k3,k4⟩:=qE h3;refine⟨by omega,by omega,⟨gl xs i,rfl,rfl,rfl,rfl,trivial,fun _ _=>?_⟩⟩;rw[h3];have eg:∀g:Bool,(gl xs i).gone=g->dD (xs.take i)++eL [(gl xs i).key,(gl xs i).val]++ic [(gl xs i).e,if g then 1 else 0]=dD (xs.take (i+1)):=fun g e=>by
    rw[hs,List.append_assoc];unfold cT;rw[e]
   have tl:(eL [(gl xs i).key,(gl xs i).val]).length<=300:=by
    have a1:=(iK ((gl xs i).key.size:Nat)).2;have a2:=(iK ((gl xs i).val.size:Nat)).2;simp only[eL,List.flatMap_cons,List.flatMap_nil,List.length_append,iU,List.length_nil];omega
   have t2:∀k,k < [(gl xs i).key,(gl xs i).val].length->(gl [(gl xs i).key,(gl xs i).val] k).size<=1000:=fun k hk=>by
    match k,hk with
    |0,_=>show(gl xs i).key.size<=1000;omega
    |1,_=>show(gl xs i).val.size<=1000;omega
   have n2:∀g:Int,0<=g->g<=1->∀k,k < [(gl xs i).e,g].length->0<=gl [(gl xs i).e,g] k/\gl [(gl xs i).e,g] k<4611686018427387904:=fun g g0 g1 k hk=>by
    match k,hk with
    |0,_=>show 0<=(gl xs i).e/\(gl xs i).e<4611686018427387904;exact⟨k3,by omega⟩
    |1,_=>show 0<=g/\g<4611686018427387904;omega
   have r1:aj 2 1 (aM 1 [Value.string (gl xs i).key,Value.string (gl xs i).val]) (aa kq [(gl xs i).key,(gl xs i).val]):=.dR fun k hk=>by
    match k,hk with
    |0,_=>rfl
    |1,_=>rfl
   have r2:∀g:Int,aj 2 1 (aM 1 [Value.int .i64 (gl xs i).e,Value.int .i64 g]) (aa encI [(gl xs i).e,g]):=fun g=>.dR fun k hk=>by
    match k,hk with
    |0,_=>rfl
    |1,_=>rfl
   refine⟨fun e=>(by cases e),fun _=>⟨fun eg1=>?_,fun eg1=>?_⟩⟩
   ·have eg:=eg _ eg1;rw[if_pos rfl]at eg;intro _;have main:∀(P:nT->Nat->Prop),True:=fun _=>trivial
    repeat' (first
     |apply And.intro
     |(intro _)
     |apply Exists.intro (nT.mk (dD (xs.take i)) _ [(gl xs i).key,(gl xs i).val] 2)
     |apply Exists.intro (lS.mk (dD (xs.take i)++eL [(gl xs i).key,(gl xs i).val]) _ [(gl xs i).e,1] 2)
     |apply Exists.intro ((i+1,_):Nat×Nat))
    all_goals first|exact dc|exact r1|exact r2 _|exact t2 _ (by assumption)|exact(n2 1 (by omega) (by omega) _ (by assumption)).1|exact(n2 1 (by omega) (by omega) _ (by assumption)).2|omega|(simp only[List.length_append];omega)|(dsimp only;rw[eg];done)|(dsimp only;rw[eg];exact aj.refl _ _ _)|(dsimp only;rw[eg];exact Nat.le_refl _)|skip
   ·have eg:=eg _ eg1;rw[if_neg (by decide)]at eg;intro _
    repeat' (first
     |apply And.intro
     |(intro _)
     |apply Exists.intro (nT.mk (dD (xs.take i)) _ [(gl xs i).key,(gl xs i).val] 2)
     |apply Exists.intro (lS.mk (dD (xs.take i)++eL [(gl xs i).key,(gl xs i).val]) _ [(gl xs i).e,0] 2)
     |apply Exists.intro ((i+1,_):Nat×Nat))
    all_goals first|exact dc|exact r1|exact r2 _|exact t2 _ (by assumption)|exact(n2 0 (by omega) (by omega) _ (by assumption)).1|exact(n2 0 (by omega) (by omega) _ (by assumption)).2|omega|(simp only[List.length_append];omega)|(dsimp only;rw[eg];done)|(dsimp only;rw[eg];exact aj.refl _ _ _)|(dsimp only;rw[eg];exact Nat.le_refl _)|skip
  ·have hi:¬i<xs.length:=by simpa using c1
   rw[show dD (xs.take i)=dD xs from uD hi];refine⟨c,?_⟩
   (repeat' (first|apply And.intro|(intro _)))<;>first|trivial|with_reducible rfl|exact aj.refl _ _ _|exact Nat.le_refl _|omega)
theorem x6:ak (Y Tryz.prog).G.X 86 Lt:=aU fF Vy trivial
theorem pq:ak (Y Tryz.prog).G.X 96 yZ:=aU fF Gt ⟨x6,trivial⟩
theorem Sk:ak (Y Tryz.prog).G.X 185 Sf:=aU fF Sg ⟨pq,trivial⟩
theorem y7:ak (Y Tryz.prog).G.X 165 Cq:=aU fF Pn ⟨Jr,trivial⟩
theorem Lv:ak (Y Tryz.prog).G.X 166 Gu:=aU fF Lu ⟨Jr,trivial⟩
theorem Gy:ak (Y Tryz.prog).G.X 122 Sj:=aU fF VA ⟨pq,y7,Lv,trivial⟩
theorem Jt(a b:Nat)(ha:a<2^64)(hb:b<2^64):dA .or .u64 a b=((a ||| b:Nat):Int):=by
 have h:=Nat.or_lt_two_pow ha hb;have e:(BitVec.ofInt 64 (a:Int) ||| BitVec.ofInt 64 (b:Int)).toNat=a ||| b:=by
  rw[BitVec.toNat_or,BitVec.ofInt_natCast,BitVec.ofInt_natCast,BitVec.toNat_ofNat,BitVec.toNat_ofNat,Nat.mod_eq_of_lt ha,Nat.mod_eq_of_lt hb]
 show IntKind.u64.wrap ((BitVec.ofInt 64 (a:Int) ||| BitVec.ofInt 64 (b:Int)).toNat:Int)=_;rw[e];exact fk (by simp only[bQ];omega)
theorem Lw(a:Nat)(ha:a<2^64):dA .and .u64 a 1=((a%2:Nat):Int):=by
 have e:(BitVec.ofInt 64 (a:Int) &&& BitVec.ofInt 64 ((1:Nat):Int)).toNat=a%2:=by
  rw[BitVec.toNat_and,BitVec.ofInt_natCast,BitVec.ofInt_natCast,BitVec.toNat_ofNat,BitVec.toNat_ofNat,Nat.mod_eq_of_lt ha,Nat.mod_eq_of_lt (by decide),Nat.and_one_is_mod]
 show IntKind.u64.wrap ((BitVec.ofInt 64 (a:Int) &&& BitVec.ofInt 64 ((1:Nat):Int)).toNat:Int)=_;rw[e];exact fk (by simp only[bQ];omega)
theorem Xi(c:Nat)(h:c<256):dA .and .u8 c 127=((c%128:Nat):Int):=by
 have h':∀y:Fin 256,dA .and .u8 (y.1:Int) 127=((y.1%128:Nat):Int):=by decide +kernel
 exact h' ⟨c,h⟩
theorem y8:∀(k m u:Nat),u<128^(m+1)->(vt k u).length<=m+1
 |0,_,_,_=>by simp[vt]
 |k+1,m,u,h=>by
  unfold vt;split
  ·simp
  ·cases m with
   |zero=>simp at h;omega
   |succ m =>
    have:=y8 k m (u/128) (Nat.div_lt_of_lt_mul (by rw[Nat.mul_comm,<- Nat.pow_succ];exact h));simp only[List.length_cons];omega
theorem Sl:∀(k u i:Nat),u<128^(k+1)->i<(vt k u).length ->
 (i+1<(vt k u).length->128<=u/128^i/\gl (vt k u) i=((u/128^i%128+128:Nat):Int))/\(i+1=(vt k u).length->u/128^i<128/\gl (vt k u) i=((u/128^i:Nat):Int)/\(0<i->0<u/128^i))
 |0,u,i,h,hi=>by
  simp[vt]at hi;subst hi;simp[vt,gl]at h ⊢;omega
 |k+1,u,i,h,hi=>by
  unfold vt at hi ⊢;by_cases hu:u<128
  ·rw[if_pos hu]at hi ⊢;simp at hi;subst hi;simp[gl];omega
  ·rw[if_neg hu]at hi ⊢;cases i with
   |zero =>
    have:=(vu k (u/128)).1;rw[Nat.pow_zero,Nat.div_one];refine⟨fun _=>⟨by omega,rfl⟩,fun hh=>?_⟩;simp only[List.length_cons]at hh;omega
   |succ i =>
    have e:u/128^(i+1)=u/128/128^i:=by rw[Nat.pow_succ,Nat.mul_comm,Nat.div_div_eq_div_mul]
    have hi':i<(vt k (u/128)).length:=by simpa using hi
    obtain⟨h1,h2⟩:=Sl k (u/128) i (Nat.div_lt_of_lt_mul (by rw[Nat.mul_comm,<- Nat.pow_succ];exact h)) hi';have eg:∀x:Int,gl (x::vt k (u/128)) (i+1)=gl (vt k (u/128)) i:=fun x=>by simp[gl]
    rw[e,eg];simp only[List.length_cons,Nat.add_lt_add_iff_right,Nat.add_right_cancel_iff];refine⟨h1,fun hh=>⟨(h2 hh).1,(h2 hh).2.1,fun _=>?_⟩⟩;by_cases h0:0<i
    ·exact(h2 hh).2.2 h0
    ·have:i=0:=by omega
     subst this;simp;omega
theorem VB{U i c:Nat}(hU:U<2^63)(hi:i<=8)(hc:c<256)(hx:c%128=U/128^i%128) :
 dA .or .u64 ((U%128^i:Nat):Int) (uw .u64 (dA .and .u8 (c:Int) 127*2^min (7*(i:Int)).toNat 64))=((U%128^(i+1):Nat):Int):=by
 have e1:(7*(i:Int)).toNat=7*i:=by omega
 have e2:min (7*i) 64=7*i:=by omega
 have e3:(128:Nat)^i=2^(7*i):=by rw[Nat.pow_mul]
 rw[Xi c hc,e1,e2,hx,Nat.pow_succ,Nat.mod_mul,e3];have hlt:U%2^(7*i)<2^(7*i):=Nat.mod_lt _ (Nat.pow_pos (by decide));have hp:(2:Nat)^(7*i)<=2^56:=Nat.pow_le_pow_right (by decide) (by omega);obtain⟨x,hx2⟩:∃x,x=U/2^(7*i)%128:=⟨_,rfl⟩
 have hxl:x<128:=by rw[hx2];exact Nat.mod_lt _ (by decide)
 rw[<- hx2];have hb:2^(7*i)*x<2^64:=by
  have:=Nat.mul_le_mul hp (Nat.le_of_lt_succ (show x<127+1 by omega));omega
 have e5:uw .u64 ((x:Int)*2^(7*i))=((2^(7*i)*x:Nat):Int):=by
  have:(x:Int)*2^(7*i)=((2^(7*i)*x:Nat):Int):=by push_cast;rw[Int.mul_comm]
  rw[this];simp only[uw];omega
 rw[e5,Jt _ _ (by omega) hb,Nat.or_comm,<- Nat.two_pow_add_eq_or_of_lt hlt,Nat.add_comm]
structure qd where
 l:List Int
 r:Nat
 len:Nat
 cap:Nat
 n:Int
noncomputable def Ju:cC where
 α:=qd
 β:=Unit
 m:=1
 m':=1
 pre:=fun a=>a.r+a.len<=a.l.length/\a.len<100000/\a.len<=a.cap/\0<=a.n/\a.n<4611686018427387904/\(vi a.n).length<=a.len/\∀i,i<(vi a.n).length->gl a.l (a.r+i)=gl (vi a.n) i
 args:=fun a=>[.a (.slc 0 a.r 1 a.len a.cap)]
 hp:=fun _=>[]
 ro:=fun a=>jh 0 a.l
 post:=fun _ _=>True
 res:=fun a _=>.mm [.a (.int .i64 a.n),.a (.int .i64 (vi a.n).length),.a (.lit .i64 0)]
 cW:=fun _ _=>[]
def YE(a:qd):An:=.flat 3 Nat (fun s i=>(s.set 5 (.a (.int .u64 ((2*a.n.toNat%128^i:Nat):Int)))).int 11 i) (fun _ i=>i<(vi a.n).length) (fun _ i=>(vi a.n).length-i)
def Cs(x:qd)(y:Nat):Int:=dA Go.BinOp.or .u64 (af (2*aV x.n%128^y)) (cQ (dA Go.BinOp.and .u8 (gl x.l (x.r+ay y)) (127:Int)*2^min (aV ((7:Int)*af y)) 64))
def y9(y u:Nat)(x:Int)(v:List Int)(w:Nat):=y<100000/\y<=u/\(0:Int)<=x/\x<(4611686018427387904:Int)/\av (vi x)<=y/\∀z:Nat,z<av (vi x)->gl v (w+z)=gl (vi x) z
def Gz(x:qd)(y:Int):=Exists (ax ((0:Int)=x.n/\aA (av (vi x.n)) (bl (y=(0:Int)))))
def zb(x:qd):=x.r+x.len<=av x.l/\y9 x.len x.cap x.n x.l x.r
def Lx(x:qd)(y:Nat)(z:Prop):=bu x.len/\kn x.r x.len x.cap/\cF 0 0 (aC 0) (kn x.r x.len x.cap/\cq x.l x.l cE/\y<av (vi x.n)/\z)
def oI(x:Int):Int:=uw .i64 x
theorem Jv:fnBody (Y Tryz.prog) [] 177 Ju fun a=>[(177,[YE a],[])]:=fnBody.of (p :=
 ∀x:qd,zb x->(∃y:Nat,aA y (aA (2*aV x.n%128^y) (Lx x y True)))/\∀y:Nat,y<av (vi x.n)->mz (af y) x.len (x.r+ay y<av x.l/\(jE (gl x.l (x.r+ay y))->qu (af y == (9:Int)) (aF 1 (gl x.l (x.r+ay y))) (Gz x 1) (ah ((7:Int)*af y)/\(0:Int)<=7*af y/\aD (aF 127 (gl x.l (x.r+ay y))) (cO y fun z=>Cs x y=af (2*aV x.n%128^z)/\Lx x z (av (vi x.n)-z<av (vi x.n)-y)) (qu (aF 0 (af y)) (gl x.l (x.r+ay y) == (0:Int)) (Gz x 1) ((0:Int)<=1/\aD (dA .and .u64 (Cs x y) (1:Int) == 1) (aS y/\Exists (ax (dA .xor .i64 (-1:Int) (oI (Cs x y/(2:Int)))=x.n/\bx y (av (vi x.n))/\aW (True/\True)))) (aS y/\Exists (ax (oI (Cs x y/(2:Int))=x.n/\bx y (av (vi x.n))/\aW (True/\True))))))))) (Gz x 2)) (by kernel_rfl) (by
 delta qu aD av aK cF ah ay aC aF af aX aB aV kn cq cO Cs y9 cQ ax aS aA aW aY bx mz bl bu jE Gz zb Lx oI
 try dsimp -iota -proj only
 rintro⟨l,r,len,cap,n⟩ ⟨h1,h2,h3,h4,h5,h6,h7⟩;dsimp only at *;obtain⟨U,hU⟩:∃U,U=2*n.toNat:=⟨_,rfl⟩
 have hUlt:U<2^63:=by omega
 have hv:vi n=vt 9 U:=by rw[hU];rfl
 have hv0:=vu 9 U
 have hvs := y8 9 8 U (by have : (2 : Nat) ^ 63 = 128 ^ 9 := by decide
                          omega)
 rw[<- hU];rw[hv]at h6 h7 ⊢;refine⟨⟨0,?_⟩,fun i hi=>?_⟩
 ·and_intros<;>first|exact dc|simp[Nat.mod_one]
 ·obtain ⟨b1, b2⟩ := Sl 9 U i (by have : (2 : Nat) ^ 63 ≤ 128 ^ (9 + 1) := by decide
                                  omega) hi
  have hgi:=h7 i hi;simp only[Int.toNat_natCast,bQ,hgi];obtain⟨c,hc,hc1⟩:∃c:Nat,gl (vt 9 U) i=(c:Int)/\c<256:=by
   by_cases hl:i+1<(vt 9 U).length
   ·exact⟨_,(b1 hl).2,by omega⟩
   ·exact⟨_,(b2 (by omega)).2.1,by have:=(b2 (by omega)).1;omega⟩
  have hx:c%128=U/128^i%128:=by
   by_cases hl:i+1<(vt 9 U).length
   ·have:=(b1 hl).2;rw[hc]at this;omega
   ·have:=(b2 (by omega)).2.1;rw[hc]at this;omega
  have hor:=VB (c:=c) hUlt (by omega:i<=8) hc1 hx;rw[hc]at b1 b2;simp only[hc,hor];have last:¬(127<(c:Int))->i+1=(vt 9 U).length/\U%128^(i+1)=U/\(0<i->0<c):=fun h=>by
   have hl:¬(i+1<(vt 9 U).length):=fun hl=>by have:=(b1 hl).2;omega
   obtain⟨g1,g2,g3⟩:=b2 (by omega);refine⟨by omega,Nat.mod_eq_of_lt ?_,fun h0=>by have:=g3 h0;omega⟩;have:=(Nat.div_lt_iff_lt_mul (Nat.pow_pos (n:=i) (show 0<128 by decide))).1 g1;rw[Nat.pow_succ,Nat.mul_comm];exact this
  have more:127<(c:Int)->i+1<(vt 9 U).length:=fun h=>by
   rcases Nat.lt_or_ge (i+1) (vt 9 U).length with hl|hl
   ·exact hl
   ·have:=b2 (by omega);omega
  have fin:∀w,w=U->(dA .and .u64 (w:Int) 1 == 1)=true->False:=fun w hw h=>by
   rw[hw,Lw U (by omega)]at h;simp at h;omega
  have fin2:∀w:Nat,w=U->uw .i64 ((w:Int)/2)=n:=fun w hw=>by
   subst hw;show IntKind.i64.wrap ((w:Int)/2)=n;rw[fk (by simp only[bQ];omega)];omega
  have h9:((i:Int) == 9)=false:=by simp;omega
  rw[h9];refine⟨fun c1=>⟨by omega,by omega,fun _=>⟨fun e=>(by cases e),fun _=>⟨by omega,by omega,fun c2=>?_,fun c2=>⟨fun c3=>?_,fun c3=>?_⟩⟩⟩⟩,fun c1=>?_⟩
  ·have hm:=more (by simpa using c2);refine⟨by omega,i+1,?_⟩
   and_intros<;>first|exact dc
  ·obtain⟨l1,l2,l3⟩:=last (by simpa using c2);have l3:=l3 (by simpa using c3);refine⟨fun e=>?_,fun _=>⟨by omega,fun e=>(fin _ l2 e).elim,fun e=>⟨by omega,(),?_⟩⟩⟩
   ·simp at e;omega
   ·and_intros<;>first|exact dc|exact fin2 _ l2
  ·obtain⟨l1,l2,l3⟩:=last (by simpa using c2);refine⟨by omega,fun e=>(fin _ l2 e).elim,fun e=>⟨by omega,(),?_⟩⟩
   and_intros<;>first|exact dc|exact fin2 _ l2
  ·simp at c1;omega)
theorem GA(l:List Int)(r n:Nat):iE (aa cE l) r n=List.foldl (fun(s:ByteArray) (n:Int)=>s.push (UInt8.ofNat n.toNat)) ByteArray.empty (List.map (fun(i:Nat)=>gl l (r+i)) (List.range n)):=rfl
theorem foldl_push:∀(l:List UInt8) (b:ByteArray),List.foldl (fun(s:ByteArray) (n:Int)=>s.push (UInt8.ofNat n.toNat)) b (l.map fun x=>(x.toNat:Int))=⟨b.data++l.toArray⟩
 |[],b=>by simp
 |x::l,b=>by
  rw[List.map_cons,List.foldl_cons,foldl_push l];congr 1;simp[ByteArray.push]
theorem NR{t:ByteArray}{n:Nat}{f:Nat->Int}(hn:n=t.size)(h:∀i,i<t.size->f i=gl (IL t) i):List.foldl (fun(s:ByteArray) (n:Int)=>s.push (UInt8.ofNat n.toNat)) ByteArray.empty (List.map f (List.range n))=t:=by
 have e:List.map f (List.range n)=IL t:=by
  refine List.ext_getElem (by rw[List.length_map,List.length_range,iU,hn]) fun i h1 h2=>?_;rw[List.getElem_map,List.getElem_range,h i (by rw[iU]at h2;exact h2),bR h2]
 rw[e,IL,foldl_push];cases t with
 |mk d=>show ByteArray.mk (#[]++d.toList.toArray)=ByteArray.mk d;simp
theorem bf{α:Type}[Inhabited α]{l m:List α}{i:Nat}:gl (l++m) (l.length+i)=gl m i:=by
 simp[gl,List.getD_eq_getElem?_getD,List.getElem?_append_right]
structure oJ where
 l:List Int
 r:Nat
 len:Nat
 cap:Nat
 t:ByteArray
noncomputable def Lz:cC where
 α:=oJ
 β:=Unit
 m:=1
 m':=1
 pre:=fun a=>a.r+a.len<=a.l.length/\a.len<100000/\a.len<=a.cap/\a.t.size<=1000/\(vi a.t.size++IL a.t).length<=a.len/\∀i,i<(vi a.t.size++IL a.t).length->gl a.l (a.r+i)=gl (vi a.t.size++IL a.t) i
 args:=fun a=>[.a (.slc 0 a.r 1 a.len a.cap)]
 hp:=fun _=>[]
 ro:=fun a=>jh 0 a.l
 post:=fun _ _=>True
 res:=fun a _=>.mm [.a (.str a.t),.a (.int .i64 (vi a.t.size++IL a.t).length),.a (.lit .i64 0)]
 cW:=fun _ _=>[]
def dX(x y:Int):=(0:Int)<=x/\x<=y
def ng(x:oJ):Nat:=av (vi (af (bp x.t))++IL x.t)
def GB(x:oJ):=x.r+x.len<=av x.l/\x.len<100000/\x.len<=x.cap/\bp x.t<=1000/\ng x<=x.len/\∀y:Nat,y<ng x->gl x.l (x.r+y)=gl (vi (af (bp x.t))++IL x.t) y
def cU(x:Int)(y:Nat):=dX x (af y)
def zc(x y:Int)(z:Nat)(u:Prop):=cU (x+y) z/\cU x (aV (x+y))/\u
def ze(x:qd):Int:=af (av (vi x.n))+x.n
def lp(x y:Int)(z:Prop)(u:Int)(v:Prop):=iY (aF x y) z (aF u x) v
theorem Po:fnBody (Y Tryz.prog) [(177,Ju)] 235 Lz fun _=>[]:=fnBody.of (p :=
 ∀y:oJ,GB y->∃x:qd,(y.r=x.r/\y.len=x.len/\y.cap=x.cap)/\cq x.l y.l cE/\zb x/\aI (lp x.n 0 (Exists (ax (cR=y.t/\aA (ng y) (bl ((1:Int)=0))))) 65536 (ah (af y.len-af (av (vi x.n)))/\aD (aF (af y.len-af (av (vi x.n))) x.n) (Exists (ax (cR=y.t/\aA (ng y) (bl ((2:Int)=0))))) (ah (ze x)/\zc (af (av (vi x.n))) x.n y.cap (y.r+ay (av (vi x.n))+(aV (ze x)-ay (av (vi x.n)))<=av y.l/\ah (ze x)/\Exists (ax (iE (aa cE y.l) (y.r+ay (av (vi x.n))) (aV (ze x)-ay (av (vi x.n)))=y.t/\ze x=af (ng y)/\aW (True/\True)))))))) (by kernel_rfl) (by
 delta aD av aK ah ay aC aF af cR dX aB aV cq ng iY aI bp y9 ax aA aW GB bl zc cU zb ze lp
 try dsimp -iota -proj only
 rintro⟨l,r,len,cap,t⟩ ⟨h1,h2,h3,h4,h5,h6⟩;dsimp only at *;have hv:=iK (t.size:Nat);rw[List.length_append,iU]at h5 h6 ⊢;have g1:∀i,i<(vi (t.size:Nat)).length->gl l (r+i)=gl (vi (t.size:Nat)) i:=fun i hi=>by rw[h6 i (by omega),bJ hi]
 refine⟨⟨l,r,len,cap,t.size⟩,?_⟩
 (repeat' (first|apply And.intro|(intro _)|apply Exists.intro ()))<;>first|exact dc|(exact g1 _ (by assumption))|(exfalso;(try dsimp only at *);(try simp only[decide_eq_true_eq,decide_eq_false_iff_not,Bool.false_eq_true]at *);omega)|skip
 refine NR (by dsimp only;omega) fun i hi=>?_;dsimp only;show gl l (r+(((vi (t.size:Nat)).length:Int)).toNat+i)=_;rw[show r+(((vi (t.size:Nat)).length:Int)).toNat+i=r+((vi (t.size:Nat)).length+i)by omega,h6 _ (by omega),bf])
theorem Jw:ak (Y Tryz.prog).G.X 177 Ju:=aU fF Jv trivial
theorem Pp:ak (Y Tryz.prog).G.X 235 Lz:=aU fF Po ⟨Jw,trivial⟩
structure Ct where
 l:List Int
 r:Nat
 cap:Nat
 x:aG
noncomputable def VC:cC where
 α:=Ct
 β:=Nat
 m:=1
 m':=2
 pre:=fun a=>fV a.x=true/\a.r+(cT a.x).length<=a.l.length/\(cT a.x).length<=a.cap/\∀i,i<(cT a.x).length->gl a.l (a.r+i)=gl (cT a.x) i
 args:=fun a=>[.a (.slc 0 a.r 1 (cT a.x).length a.cap)]
 hp:=fun _=>[]
 ro:=fun a=>jh 0 a.l
 post:=fun _ _=>True
 res:=fun a c=>.mm [.a (.slc 1 0 4 1 c),.a (.lit .i64 0)]
 cW:=fun a _=>[(1,.arr 40 Ls 1 (aa kL [a.x]))]
def ZE(a:Ct):An:=.flat 3 (Nat×Nat) (fun s k=>((s.new (.arr 40 Ls k.1 (aa kL ([a.x].take k.1)))).set 4 (.a (.slc s.nx 0 4 k.1 k.2))).int 5 ((k.1*(cT a.x).length:Nat):Int)) (fun _ k=>k.1<=1) (fun _ k=>1-k.1)
def qR(y:Nat×Nat)(z:Ct):Int:=af (y.fst*av (cT z.x))
def qS(x:Int)(y:qd):Int:=x+af (av (vi y.n))
def wS(x:Nat×Nat)(y:Ct)(z u:oJ):Int:=qR x y+af (ng z)+af (ng u)
def LA(t:Int)(y:Ct)(u:Nat×Nat)(v w:oJ)(s:Nat)(f:qd->Prop):=cU t (av (cT y.x)-aV (wS u y v w))/\∃z:qd,(y.r+aV (wS u y v w)+s=z.r/\av (cT y.x)-aV (wS u y v w)-s=z.len/\y.cap-aV (wS u y v w)-s=z.cap)/\cq z.l y.l cE/\zb z/\aI (ah (qS t z)/\f z)
def LB(y:Ct)(u:Nat)(z:oJ)(v:Nat×Nat)(w:oJ)(s t:Prop):=(y.r+u=z.r/\av (cT y.x)-u=z.len/\y.cap-u=z.cap)/\cq z.l y.l cE/\GB z/\aI (ah (qR v y+af (ng w))/\s/\t)
def ir(x y z u v:Nat)(w s:Nat->Nat->Value)(t f:Prop):=ag (x=y/\z=u)/\aK y x v w s/\t/\f
def nB(x y:Int)(z:Prop):=ah x/\ah (x+y)/\z
def GC(y:Ct):=aB (fV y.x)/\y.r+av (cT y.x)<=av y.l/\av (cT y.x)<=y.cap/\∀z:Nat,z<av (cT y.x)->gl y.l (y.r+z)=gl (cT y.x) z
def Cu(y:Nat×Nat)(z:Ct):Nat->Nat->Value:=aa kL (List.take y.fst [z.x])
theorem VD:fnBody (Y Tryz.prog) [(177,Ju),(235,Lz),(122,Sj)] 210 VC fun a=>[(210,[ZE a],[])]:=fnBody.of (p :=
 ∀y:Ct,GC y->(∃z:Nat×Nat,aA (z.fst*av (cT y.x)) ((0=z.fst/\0=z.snd)/\aW (kn y.r (av (cT y.x)) y.cap/\z.fst=0/\cq y.l y.l cE/\z.fst<=1/\True)))/\∀z:Nat×Nat,z.fst<=1->aY (qR z y) (av (cT y.x)) (cU (qR z y) (av (cT y.x))/\∃u:oJ,LB y (ay (z.fst*av (cT y.x))) u z u (cU (qR z y+af (ng u)) (av (cT y.x))) (∃v:oJ,LB y (aV (qR z y+af (ng u))) v z u (ah (wS z y u v)) (cU (wS z y u v) (av (cT y.x))/\aX 0 2/\LA 0 y z u v 0 fun f=>aX 1 2/\LA (qS 0 f) y z u v (aV (qS 0 f)) fun w=>ah w.n->jP z.fst 48 z.snd fun s=>nB (af (ng u)+af (ng v)) (qS (qS 0 f) w) (ah (qR z y+(af (ng u)+af (ng v)+qS (qS 0 f) w))/\∃g:Nat×Nat,qR z y+(af (ng u)+af (ng v)+qS (qS 0 f) w)=qR g y/\ag (z.fst+1=g.fst/\s=g.snd)/\aW (kn y.r (av (cT y.x)) y.cap/\lC g.fst z.fst 4 (Cu z y) (kS (bH u.t) (bH v.t) (bq f.n (bD (dK (w.n == (1:Int)))))) (Cu g y)/\cq y.l y.l cE/\bF g.fst 1 z.fst))))) (∃u:Ee,ir z.fst u.xs.length z.snd u.cap 4 (Cu z y) (aa kL u.xs) (wR u) (∀v:Nat,True->∀w:Bool,(aB w->av (dD u.xs)=0)->aD w (∃s:Nat,(0=1/\0=s)/\(1:Int)=0/\bl (1=0)) (mB (dD u.xs) /\
 y.r+av (cT y.x)<=av y.l/\aD (bn (gP (iE (aa cE (dD u.xs)) 0 (av (dD u.xs))) (iE (aa cE y.l) y.r (av (cT y.x))))) (∃s:Nat,(0=1/\0=s)/\(1:Int)=0/\bl (1=0)) (∃s:Nat,dP z.fst 1 z.snd s (aC 0) 4 (Cu z y) (aa kL [y.x]) (True/\True)))))) (by kernel_rfl) (by
 delta aD av aK ah bq ay aC gH aF af dX bD aX aB dO aV kS kn bS cq ng aI bp lC jP bH dP bF LA y9 LB ir aA aW ag aY qR nB wR GB bn bl GC Cu mB gP dK cU zb qS jG wS
 try dsimp -iota -proj only
 rintro⟨l,r,cap,x⟩ ⟨h1,h2,h3,h4⟩;dsimp only at *;obtain⟨k1,k2,k3,k4⟩:=qE h1;obtain⟨P,hP⟩:∃P,P=vi (x.key.size:Nat)++IL x.key:=⟨_,rfl⟩
 obtain⟨Q,hQ⟩:∃Q,Q=vi (x.val.size:Nat)++IL x.val:=⟨_,rfl⟩
 obtain⟨E,hE⟩:∃E,E=vi x.e:=⟨_,rfl⟩
 obtain⟨g,hg⟩:∃g:Int,g=if x.gone then 1 else 0:=⟨_,rfl⟩
 obtain⟨G,hG⟩:∃G,G=vi g:=⟨_,rfl⟩
 have hg0:0<=g/\g<=1:=by rw[hg];split<;>omega
 have hI:cT x=P++(Q++(E++G)):=by
  simp only[cT,eL,ic,List.flatMap_cons,List.flatMap_nil,List.append_nil,hP,hQ,hE,hG,hg,List.append_assoc]
 have hPl:1<=P.length:=by have:=iK (x.key.size:Nat);rw[hP,List.length_append];omega
 have hlen:=EN h1;have hL:(cT x).length=P.length+(Q.length+(E.length+G.length)):=by rw[hI];simp only[List.length_append]
 have fP:∀i,i<P.length->gl l (r+i)=gl P i:=fun i hi=>by rw[h4 i (by omega),hI,bJ hi]
 have fQ:∀i,i<Q.length->gl l (r+P.length+i)=gl Q i:=fun i hi=>by
  rw[Nat.add_assoc,h4 _ (by omega),hI,bf,bJ hi]
 have fE:∀i,i<E.length->gl l (r+(P.length+Q.length)+i)=gl E i:=fun i hi=>by
  rw[Nat.add_assoc,h4 _ (by omega),hI,Nat.add_assoc,bf,bf,bJ hi]
 have fG:∀i,i<G.length->gl l (r+(P.length+Q.length)+E.length+i)=gl G i:=fun i hi=>by
  rw[Nat.add_assoc,Nat.add_assoc,h4 _ (by omega),hI,Nat.add_assoc,bf,bf,bf]
 have hall:List.map (fun(i:Nat)=>gl l (r+i)) (List.range (cT x).length)=List.map (fun(i:Nat)=>gl (cT x) (0+i)) (List.range (cT x).length):=by
  refine List.map_congr_left fun i hi=>?_;rw[h4 i (List.mem_range.1 hi),Nat.zero_add]
 obtain⟨L,hLL⟩:∃L,(cT x).length=L:=⟨_,rfl⟩
 rw[hLL]at h2 h3 h4 hlen hL hall ⊢;refine⟨⟨(0,0),?_⟩,fun k hk=>?_⟩
 ·dsimp only
  and_intros<;>first|exact dc|simp
 ·obtain⟨k,c⟩:=k;have hk:k<=1:=hk;dsimp only;refine⟨fun c1=>?_,fun c1=>?_⟩
  ·have hk0:k=0:=by
    rcases Nat.lt_or_ge k 1 with h|h
    ·omega
    ·have:k=1:=by omega
     subst this;simp at c1
   subst hk0;simp only[Nat.zero_mul,Int.natCast_zero,Int.zero_add,Int.toNat_zero,Nat.add_zero,Nat.sub_zero];refine⟨by omega,⟨oJ.mk l r L cap x.key,?_⟩⟩;simp only[<- hP]
   and_intros<;>first|exact dc|exact fP|skip
   intro _ _;refine⟨by simp only[bQ];omega,by omega,⟨oJ.mk l (r+P.length) (L-P.length) (cap-P.length) x.val,?_⟩⟩;simp only[<- hQ]
   and_intros<;>first|exact dc|exact fQ|skip
   intro _ _
   and_intros<;>first|exact dc|(simp only[bQ];omega)|skip
   refine⟨qd.mk l (r+(P.length+Q.length)) (L-(P.length+Q.length)) (cap-(P.length+Q.length)) x.e,?_⟩;simp only[<- hE]
   and_intros<;>first|exact dc|exact fE|skip
   intro _ _
   and_intros<;>first|exact dc|(simp only[bQ];omega)|skip
   refine⟨qd.mk l (r+(P.length+Q.length)+E.length) (L-(P.length+Q.length)-E.length) (cap-(P.length+Q.length)-E.length) g,?_⟩;simp only[<- hG]
   and_intros<;>first|exact dc|exact fG|skip
   intro _ _
   (repeat' (first|apply And.intro|(intro _)))<;>first|exact dc|(simp only[bQ];omega)|skip
   apply Exists.intro ((1,_):Nat×Nat);have hgo:(g == 1)=x.gone:=by
    rw[hg];cases x.gone<;>rfl
   have hr:aj 1 4 (aZ (aa kL (List.take 0 [x])) 0 0 fun(i j:Nat)=>aM 4 [Value.string x.key,Value.string x.val,Value.int .i64 x.e,Value.bool (g == 1)] (0+i) j) (aa kL (List.take 1 [x])):=.dR fun i hi=>by
    have:i=0:=by omega
    subst this;rw[hgo];rfl
   and_intros<;>first|exact dc|exact hr|skip
  ·have hk1:k=1:=by
    rcases Nat.lt_or_ge k 1 with h|h
    ·have:k=0:=by omega
     subst this;simp at c1;omega
    ·omega
   subst hk1;have hx1:List.take 1 [x]=[x]:=rfl;have hI1:dD [x]=cT x:=by simp[dD]
   rw[hx1];refine⟨⟨[x],c⟩,?_⟩;simp only[GA,hI1,hLL,hall];have hm:∀i,i < [x].length->fV (gl [x] i)=true:=fun i hi=>by
    have:i=0:=by simp at hi;omega
    subst this;exact h1
   (repeat' (first|apply And.intro|(intro _)|apply Exists.intro (c:Nat)))<;>first|exact dc|(exact hm _ (by assumption))|(exfalso;simp at *;done)|(exfalso;clear h4 hall fP fQ fE fG;grind)|skip)
theorem NS:ak (Y Tryz.prog).G.X 210 VC:=aU fF VD ⟨Jw,Pp,Gy,trivial⟩
end Go.Proofs.YtfjgoonelcaggaaGreat
namespace Go.Sx
section
def VE(f:A->S->(A->S->Prop)->Prop):Prop:=∀x s K,f x s K->∀w0 M ρ w,ρ.n=s.nx->ai w0 M ρ s.hp w->∀u,x.cc ρ u->I5 w0 M ρ w s u K
theorem NT(n:Nat):VE (I6 n):=Bj n
def Sm(ty:Nat)(ks:List CK)(x:A)(s:S)(K:A->S->Prop):Prop :=
 match x with
 |.val v=>oC s fun tp wr H=>bif wr then ∃l c rows,jZ H v ks l c rows /\
  K (.slc s.nx 0 ks.length l c) ⟨s.nt,s.fr,⟨s.nx,true,.arr ty ks l rows⟩::⟨s.nx+1,true,.cA (aL H v)⟩::s.hp.del tp,s.nx+2,s.kp,s.rt⟩else False
 |_=>False
theorem Sn(ty:Nat)(ks:List CK):VE (Sm ty ks):=by
 intro x s K h w0 M ρ w hρ hh u hu;unfold Sm at h;split at h<;>try exact h.elim
 rename_i v;replace h:=pI h;obtain⟨tp,wr,H,h,hf⟩:=h;cases wr with
 |false=>exact h.elim
 |true =>
  simp only[cond_true]at h;obtain⟨l,c,rows,hat,hK⟩:=h;obtain⟨rfl,_⟩:=hu;have hcp:=(hh.gJ _ (aH.bg hf)).ch;simp only at hcp;rcases hat with⟨rfl,rfl,rfl⟩ | ⟨b,lo,o,cs,rfl,⟨hlc,hcm⟩,hH,hfit,hrows⟩
  ·have hsp:=hh.FU hf ⟨0,0,0,fun _=>False⟩ ⟨0,0,0,fun x=>(ρ.pl tp).fp x⟩ (fun x hx=>hx.elim) (fun x hx=>hx) (fun x hx _=>hx)
    (c1:=.arr ty ks 0 rows) (c2:=.cA H) (fun ρ'=>.inl ⟨rfl,rfl,fun _ h=>h⟩) (fun ρ' x lo' cs' hx=>hcp x lo' cs' hx)
   rw[hρ]at hsp;exact⟨_,_,_,hK,rfl,rfl,by show ρ.n+1+1=s.nx+2;rw[hρ],(ρ.dV _).trans ((ρ.ext _).dV _),⟨by show s.nx<ρ.n+2;omega,Nat.le_refl _,by unfold aq;omega,.inl ⟨rfl,rfl,rfl⟩⟩,hsp⟩
  ·obtain⟨hfp,vs,vty,fr,hb,hvl,hvs,hun⟩:=hcp b lo cs hH;have hsp:=hh.FU hf ⟨b,lo+o,c,fun x=>x=b⟩ ⟨0,0,0,fun x=>(ρ.pl tp).fp x/\x≠b⟩ (fun x hx=>by simp only at hx;subst hx;exact hfp) (fun x hx=>hx.1) (fun x hx hx'=>hx'.2 hx)
    (c1:=.arr ty ks l rows) (c2:=.cA (sw H b)) (fun ρ'=>.inr ⟨vs,vty,fr,hb,by simp only;omega,hlc,fun x h1 h2=>hun x (by simp only at h1;omega) (by simp only at h2;omega),fun _=>Iff.rfl,fun i hi j k hk=>by
     obtain⟨g1,g2⟩:=hrows.at_ i hi j k hk;refine⟨?_,g2⟩;have hlt:o+i*ks.length+j<cs.length:=(List.getElem?_eq_some_iff.1 g1).1;rw[<- g1,<- hvs _ hlt];congr 1;simp only;omega⟩)
    (fun ρ' x lo' cs' hx=>by
     by_cases hxb:x=b
     ·subst hxb;rw[Au]at hx;cases hx
     ·rw[yL hxb]at hx;obtain⟨g1,g2⟩:=hcp x lo' cs' hx;exact⟨⟨g1,hxb⟩,g2⟩)
   rw[hρ]at hsp;refine⟨_,_,_,hK,rfl,rfl,by show ρ.n+1+1=s.nx+2;rw[hρ],(ρ.dV _).trans ((ρ.ext _).dV _),⟨by show s.nx<ρ.n+2;omega,hlc,hcm,.inr ⟨_,rfl,fun _=>?_⟩⟩,hsp⟩;have hpl:((ρ.ext ⟨b,lo+o,c,fun x=>x=b⟩).ext ⟨0,0,0,fun x=>(ρ.pl tp).fp x/\x≠b⟩).pl s.nx=⟨b,lo+o,c,fun x=>x=b⟩:=by
    rw[<- hρ,(ρ.ext _).ve _ (Nat.lt_succ_self _)];exact ρ.dw _
   rw[hpl];simp
def GD(f:A->S->(A->S->Prop)->Prop)(slot:Nat)(s:S)(K:S->Prop):Prop :=
 match look s.fr slot with
 |.a x=>f x s fun y s'=>K (s'.set slot (.a y))
 |_=>False
theorem EO{f:A->S->(A->S->Prop)->Prop}(hf:VE f)(slot:Nat):∀s K,GD f slot s K->wL s K:=by
 intro s K h w0 M ρ a w hs;unfold GD at h;split at h<;>try exact h.elim
 rename_i x hx;have hr:=hs.frame slot;rw[hx]at hr;obtain⟨y,s',ρ',hK,h1,h2,h3,h4,h5,h6⟩:=hf x s _ h w0 M ρ w hs.n hs.heap _ hr;refine⟨_,ρ',hK,h4,⟨hs.defers,by rw[hs.size];exact h1.symm,h3,?_,h6⟩⟩;intro j;show(look ((slot,.a y)::s'.fr) j).cc ρ' _;simp only[look];by_cases hj:slot=j
 ·subst hj;simp only[dm,cond_true];exact h5
 ·simp only[eH hj,cond_false];rw[h2];exact(hs.frame j).mono h4
def LC(f:A->S->(A->S->Prop)->Prop)(slot cell:Nat)(s:S)(K:S->Prop):Prop :=
 match look s.fr slot with
 |.a (.ptr t _ _ _)=>match s.hp.find t with
  |some (_,.obj _ cs)=>match cs[cell]? with
   |some x=>f x s fun y s'=>match s'.hp.find t with
    |some (true,.obj ty cs')=>bif Nat.blt cell cs'.length then K (s'.put (s'.hp.tL t (.obj ty (cs'.set cell y))))else False
    |_=>False
   |none=>False
  |_=>False
 |_=>False
theorem Pq{f:A->S->(A->S->Prop)->Prop}(hf:VE f)(slot cell:Nat):∀s K,LC f slot cell s K->wL s K:=by
 intro s K h w0 M ρ a w hs;unfold LC at h;split at h<;>try exact h.elim
 rename_i t r e c hsl;split at h<;>try exact h.elim
 rename_i m0 ty0 cs hfd;split at h<;>try exact h.elim
 rename_i x hx;have he:=hs.heap.gJ _ (aH.bg hfd);obtain⟨vs,fr,a1,a2,⟨us,xs,a3,a4⟩,a5⟩:=he.ch;obtain⟨u,hu,hru⟩:=a4.get hx;obtain⟨y,s',ρ',hK,h1,h2,h3,h4,h5,h6⟩:=hf x s _ h w0 M ρ w hs.n hs.heap u hru;split at hK<;>try exact hK.elim
 rename_i ty1 cs' hf';cases hl:Nat.blt cell cs'.length with
 |false=>rw[hl]at hK;exact hK.elim
 |true =>
  rw[hl]at hK;simp only[cond_true]at hK;have hl:=Nat.le_of_ble_eq_true hl;have htn:t<ρ.n:=he.tag;have hpl:ρ'.pl t=ρ.pl t:=h4.pl t htn;have h7:=h6.tL hf' (ey.refl _ w) (ch':=.obj ty1 (cs'.set cell y)) (by
   obtain⟨vs',fr',b1,b2,⟨us',xs',b3,b4⟩,b5⟩:=(h6.gJ _ (aH.bg hf')).ch;refine⟨vs',fr',b1,b2,⟨us',xs',b3,?_⟩,b5⟩;simp only[hpl]at b1;rw[a1]at b1;have hvv:vs=vs':=by injection b1 with b1;injection b1
   subst hvv;have hlu:=b4.length;have e1:us'[cell]? = some u:=by
    have g1:vs.toList[cell]? = us'[cell]?:=by rw[b3,List.getElem?_append_left (by omega)]
    have g2:vs.toList[cell]? = us[cell]?:=by
     obtain⟨hlt,_⟩:=List.getElem?_eq_some_iff.1 hu;rw[a3,List.getElem?_append_left hlt]
    rw[<- g1,g2,hu]
   have:=b4.set cell (v:=u) (x:=y) h5;have e:us'.set cell u=us':=by
    obtain⟨hlt,he⟩:=List.getElem?_eq_some_iff.1 e1;subst he;exact List.set_getElem_self hlt
   rwa[e]at this)
  exact⟨_,ρ',hK,h4,⟨hs.defers,by rw[hs.size];exact h1.symm,h3,by show dz ρ' s'.fr _;rw[h2];exact hs.frame.mono h4,h7⟩⟩
def An.NU(key slot:Nat)(next:LH):An:=.view key (GD (I6 3) slot) (EO (NT 3) slot) next
def An.VF(key slot cell:Nat)(next:LH):An:=.view key (LC (I6 3) slot cell) (Pq (NT 3) slot cell) next
def An.Sp(key slot:Nat)(ty:Nat)(ks:List CK)(next:LH):An:=.view key (GD (Sm ty ks) slot) (EO (Sn ty ks) slot) next
end
end Go.Sx
namespace Go.Proofs.YtfjgoonelcaggaaGreat
open Go.Sx
structure RecM where
 pos:Int
 body:List Int
 deriving Inhabited
structure dy where
 gen:Int
 base:Int
 run:Int
 buf:List Int
 aR:List RecM
 deriving Inhabited
structure mC where
 b:Nat
 bv:Value
 rv:Value
 vs:List Value
def rO:List CK:=[.int .i64,.deep]
def uE(rs:List RecM)(vs:List Value):Nat->Nat->Value:=fun i j=>if j=0 then .int .i64 (gl rs i).pos else vs.getD i undef
def cZ(g:dy)(bv rv:Value):List Value:=[.int .i64 g.gen,.int .i64 g.base,.int .i64 g.run,bv,rv]
def fu(H:PH)(v:Value)(l:List Int):Prop:=∃c,jZ H v [.int .u8] l.length c (aa cE l)
structure n9(H:PH)(y:mC)(g:dy):Prop where
 cell:H y.b=some (0,cZ g y.bv y.rv)
 A5:bQ .i64 g.gen/\bQ .i64 g.base/\bQ .i64 g.run
 buf:fu H y.bv g.buf
 aR:∃c,jZ H y.rv rO g.aR.length c (uE g.aR y.vs)
 len:y.vs.length=g.aR.length
 body:∀i,i<g.aR.length->fu H (y.vs.getD i undef) (gl g.aR i).body
def fB:Value->List Nat
 |.slice (some ⟨b,_,_⟩) _ _=>[b]
 |_=>[]
def bw(y:mC):List Nat:=y.b::(fB y.bv++(fB y.rv++y.vs.flatMap fB))
theorem iL{H H':PH}{v:Value}{ks:List CK}{l c:Nat}{rows:Nat->Nat->Value}(h:jZ H v ks l c rows)(e:∀x∈fB v,H' x=H x):jZ H' v ks l c rows:=by
 rcases h with h | ⟨b,lo,o,cs,rfl,h1,h2,h3,h4⟩
 ·exact .inl h
 ·exact .inr ⟨b,lo,o,cs,rfl,h1,by rw[e b (by simp[fB,eW]),h2],h3,h4⟩
theorem fu.frame{H H':PH}{v:Value}{l:List Int}(h:fu H v l)(e:∀x∈fB v,H' x=H x):fu H' v l:=by
 obtain⟨c,h⟩:=h;exact⟨c,iL h e⟩
theorem n9.frame{H H':PH}{y:mC}{g:dy}(h:n9 H y g)(e:∀x∈bw y,H' x=H x):n9 H' y g:=by
 have e1:∀x∈fB y.bv,H' x=H x:=fun x hx=>e x (by simp[bw,hx]);have e2:∀x∈fB y.rv,H' x=H x:=fun x hx=>e x (by simp[bw,hx]);obtain⟨c,hr⟩:=h.aR;refine⟨by rw[e y.b (by simp[bw]),h.cell],h.A5,h.buf.frame e1,⟨c,iL hr e2⟩,h.len,fun i hi=>(h.body i hi).frame fun x hx=>e x ?_⟩;simp only[bw,List.mem_cons,List.mem_append,List.mem_flatMap];refine .inr (.inr (.inr ⟨_,?_,hx⟩));have:=h.len;rw[List.getD_eq_getElem?_getD,List.getElem?_eq_getElem (by omega)];exact List.getElem_mem _
theorem mD{H:PH}{v:Value}{ks:List CK}{l c:Nat}{rows:Nat->Nat->Value}(h:jZ H v ks l c rows):∀x∈fB v,H x≠none:=by
 rcases h with⟨rfl,_⟩ | ⟨b,lo,o,cs,rfl,h1,h2,h3,h4⟩
 ·intro x hx;cases hx
 ·intro x hx;simp only[fB,eW,List.mem_singleton]at hx;rw[hx,h2];simp
theorem n9.dom{H:PH}{y:mC}{g:dy}(h:n9 H y g):∀x∈bw y,H x≠none:=by
 intro x hx;simp only[bw,List.mem_cons,List.mem_append,List.mem_flatMap]at hx;rcases hx with rfl|hx|hx | ⟨v,hv,hx⟩
 ·rw[h.cell];simp
 ·obtain⟨c,hb⟩:=h.buf;exact mD hb x hx
 ·obtain⟨c,hr⟩:=h.aR;exact mD hr x hx
 ·obtain⟨i,hi,rfl⟩:=List.getElem_of_mem hv;have hl:=h.len;obtain⟨c,hb⟩:=h.body i (by omega);rw[List.getD_eq_getElem?_getD,List.getElem?_eq_getElem hi]at hb;exact mD hb x hx
theorem e9{H:PH}{v:Value}{ks:List CK}{l c:Nat}{rows:Nat->Nat->Value}(h:jZ H v ks l c rows):dr v=l/\jt v=c/\l<=c/\c<=aq/\FN v/\(∃a,v = .slice a l c)/\v.oneCell'=true:=by
 rcases h with⟨rfl,rfl,rfl⟩ | ⟨b,lo,o,cs,rfl,⟨h1,h1'⟩,h2,h3,h4⟩
 ·exact⟨rfl,rfl,Nat.le_refl _,Nat.zero_le _,.inl rfl,⟨_,rfl⟩,rfl⟩
 ·exact⟨rfl,rfl,h1,h1',.inr ⟨_,_,_,_,rfl,h1,h1'⟩,⟨_,rfl⟩,rfl⟩
theorem Jx{H:PH}{v:Value}{ks:List CK}{l c:Nat}{rows:Nat->Nat->Value}(hk:1<=ks.length)(h:jZ H v ks l c rows){sz a e m:Nat}(hs:sz=ks.length)(h1:a<=e)(h2:e<=l)(h2':e<=m)(h3:m<=c):jZ H (nc sz v a e m) ks (e-a) (m-a) (fun i=>rows (a+i)):=by
 subst hs;rcases h with⟨rfl,rfl,rfl⟩ | ⟨b,lo,o,cs,rfl,⟨g1,g1'⟩,g2,g3,g4⟩
 ·exact .inl ⟨rfl,by omega,by omega⟩
 ·rw[yM];by_cases hm:m=a
  ·subst hm
   refine .inr ⟨b, lo, o, cs, by rw [if_pos rfl], ⟨by omega, by omega⟩, g2, by have : (m - m) * ks.length = 0 := by rw [Nat.sub_self, Nat.zero_mul]
                                                                               have:=Nat.le_add_right o (c*ks.length);omega,⟨fun i hi=>by omega⟩⟩
  ·rw[if_neg hm];have e1:(m-a)*ks.length+a*ks.length=m*ks.length:=by rw[<- Nat.add_mul,Nat.sub_add_cancel (by omega)]
   have e2:=Nat.mul_le_mul_right ks.length h3;refine .inr ⟨b,lo,o+a*ks.length,cs,by rw[Nat.add_assoc],⟨by omega,by omega⟩,g2,by omega,⟨fun i hi j k hj=>?_⟩⟩;have:=g4.at_ (a+i) (by omega) j k hj;rw[Nat.add_mul]at this;rwa[show o+a*ks.length+i*ks.length+j=o+(a*ks.length+i*ks.length)+j by omega]
theorem fu.len{H:PH}{v:Value}{l:List Int}(h:fu H v l):dr v=l.length/\FN v/\l.length<=aq/\l.length<=jt v/\(∃a c,v = .slice a l.length c)/\v.oneCell'=true:=by
 obtain⟨c,h⟩:=h;obtain⟨h1,h2,h3,h4,h5,⟨a,h6⟩,h7⟩:=e9 h;exact⟨h1,h5,by omega,by omega,⟨a,c,h6⟩,h7⟩
theorem fu.cut{H:PH}{v:Value}{l:List Int}(h:fu H v l){a e:Nat}(h1:a<=e)(h2:e<=l.length):jZ H (nc 1 v a e (jt v)) [.int .u8] (e-a) (jt v-a) (fun i=>aa cE l (a+i)):=by
 obtain⟨c,h⟩:=h;obtain⟨_,g2,g3,_⟩:=e9 h;rw[g2];exact Jx (Nat.le_refl _) h rfl h1 h2 (by omega) (Nat.le_refl _)
theorem kr{n:Nat}{f:Nat->Int}{rows:Nat->Nat->Value}(h:∀i,i<n->rows i 0 = .int .u8 (f i)):aj n 1 rows (bM f):=⟨fun i hi j hj=>by
 have:j=0:=by omega
 subst this;exact h i hi⟩
theorem qF{rows:Nat->Nat->Value}{k i:Nat}{v:Value}:jY rows k 0 [v] i 0=if i=k then v else rows i 0:=by
 rw[Br];simp
def IM(v:Int)(len k:Nat):Int:=uw .u8 (v/2^(8*(len-1-k)))
def bZ(i:Nat):Nat:=48*i-6
def ku(i:Nat):Nat:=if i=0 then 42 else 48
def tF(n i:Nat):Nat:=min (ku i) (n-min (bZ i) n)
def qv(g:dy)(i:Nat)(run:Int)(j:Nat):Int :=
 if j<4 then 0 else if j<10 then IM (uw .u64 g.gen) 6 (j-4)else if j<14 then IM (uw .u64 run) 4 (j-10)else if j<15 then(i:Int)else if j<16 then(tF g.buf.length i:Int)
 else if i=0 then(if j<22 then IM (uw .u64 g.base) 6 (j-16)else if j-22<tF g.buf.length i then gl g.buf (j-22)else 0)
 else if j-16<tF g.buf.length i then gl g.buf (bZ i+(j-16))else 0
def vM(f:Nat->Int):Int:=dA .xor .u32 4294967295 (qD (fun k=>f (4+k)) 60)
def pz(g:dy)(i:Nat)(run:Int)(j:Nat):Int:=if j<4 then IM (vM (qv g i run)) 4 j else qv g i run j
theorem wT{f:Nat->Int}{r len:Nat}{v:Int}(h:len<=8):tN (bM f) r len v len=bM fun i=>if r<=i/\i<r+len then IM v len (i-r)else f i:=by
 funext i j;simp only[tN,bM];by_cases hi:r<=i/\i<r+len
 ·rw[if_pos (by omega),if_pos hi];simp only[IM];rw[show min (8*(r+len-1-i)) 64=8*(len-1-(i-r))by omega]
 ·rw[if_neg (by omega),if_neg hi]
structure Sq where
 H:PH
 y:mC
 g:dy
 i:Nat
 run:Int
noncomputable def GF:cC where
 α:=Sq
 β:=Unit
 m:=1
 m':=2
 pre:=fun a=>n9 a.H a.y a.g/\a.i<8/\a.g.buf.length<=378
 args:=fun a=>[.a (.val (pv a.y.b 0)),.a (.int .i64 a.i),.a (.int .i64 a.run)]
 hp:=fun _=>[]
 ro:=fun a=>[(0,.cA a.H)]
 post:=fun _ _=>True
 res:=fun _ _=>.a (.slc 1 0 1 64 64)
 cW:=fun a _=>[(1,.arr 5 [.int .u8] 64 (bM (pz a.g a.i a.run)))]
def kz(f:Value)(g:Nat)(h:Nat->Option (Nat×List Value))(i:Nat->List Value->Prop)(j:Nat->Nat->Nat->List Value->Prop):=∃v w:Nat,f=pv v w/\∃s t:Nat,pv v w=pv s t/\∃x y z:Nat,∃u:List Value,pv s (t+g)=pv x (y+z)/\h x=some (y,u)/\i z u/\j x y z u
def kA(u:Value)(v:Nat)(w:Nat->Option (Nat×List Value))(s:Value->Prop)(t:Nat->List Value->Prop):=kz u v (fun x=>w x) (fun x z=>(∃y:Value,z[x]? = some y/\s y)/\True) fun x z y f=>t y f
def eC(y:Value):Option Go.Addr->Prop:=fun(z:Option Go.Addr)=>∃x u:Nat,y=Value.slice z x u/\x<=aq
def gA(x:Value):=aB x.oneCell'
def ji(y:Value):=∃x:Int,y=dO x/\ah x
def gC(z:Value)(u:Nat)(v:Nat->Option (Nat×List Value))(w:Nat->List Value->Prop):=kA z u (fun x=>v x) (fun x=>ji x) fun x y=>ah (js (aP y x))->w x y
def wU(y z u:Nat)(w:Int)(s:Nat)(t:Nat->Nat->Value)(f:mg->Prop):=∃x:mg,(y=x.r/\z=x.len/\u=x.cap)/\w=x.v/\aK x.n s 1 t x.rows/\(x.r+x.len<=x.n/\x.len<=8)/\aI (f x)
def GG(u:Prop)(y:mg)(z:Nat->Nat->Value)(v:mg->Prop):=ur u (dX 4 64) (∃x:yX,bW 1 (1=x.c)/\(4=x.r/\60=x.len/\60=x.cap)/\aK x.n y.n 1 z x.rows/\(x.r+x.len<=x.n/\x.len<100000)/\aI (wU 0 4 64 (uv x x.len) y.n z fun w=>v w))
def jH(u:PH)(v:Value)(w:CK)(s:List CK)(t:Nat->Nat->(Nat->Nat->Value)->Prop):Nat->Prop:=fun(x:Nat)=>∃y:Nat,∃z:Nat->Nat->Value,jZ u v (w::s) x y z/\t x y z
def gf(y:Value)(z:Nat)(u:Nat->Option (Nat×List Value))(v:Nat->List Value->Prop):=kA y z (fun x=>u x) (fun x=>gA x) fun x w=>v x w
def sL(x:List Value)(y z u:Nat):Value:=nc 1 (aP x y) z u (jt (aP x y))
def LD(x:Sq)(w:mg)(j:Nat->Nat->Value)(k f:Nat):=gf (pv x.y.b 0) 3 (fun z=>x.H z) fun z v=>gf (pv x.y.b 0) 3 (fun u=>x.H u) fun u s=>Exists (eC (aP s u))/\oH (af x.i*(48:Int)) 6 (FN (aP v z)/\cU (qQ 0 (af x.i*(48:Int)-6) (af (dr (aP s u)))) (dr (aP v z))/\64<=w.n/\Exists (jH x.H (sL v z (aV (qQ 0 (af x.i*(48:Int)-6) (af (dr (aP s u))))) (dr (aP v z))) (CK.int .u8) [] fun h m l=>aX 15 64/\GG (15<w.n) w (jY (oD j k (min h f) l) 15 0 (uB (min h f))) fun t=>Exists (ax (bC 64 64/\bl (aK 64 t.n 1 (kX t t.len) (bM (pz x.g x.i x.run)))))))
def sM:Nat->Nat->Value:=fun(y x:Nat)=>aP (bD (fA 0)) x
theorem LF:fnBody (Y Tryz.prog) [(196,Ci),(203,Sc)] 229 GF fun _=>[]:=fnBody.of (p :=
 ∀x:Sq,n9 x.H x.y x.g/\x.i<8/\av x.g.buf<=378->lQ 64 64 (dX 10 64/\dX 4 10/\gC (pv x.y.b 0) 0 (fun u=>x.H u) fun u t=>wU 4 6 60 (cQ (js (aP t u))) 64 sM fun v=>dX 14 64/\dX 10 14/\wU 10 4 54 (cQ x.run) v.n (kX v v.len) fun z=>aX 14 64/\14<z.n/\dX 16 64/\aD (af x.i == (0:Int)) (dX 6 48/\gC (pv x.y.b 0) 1 (fun w=>x.H w) fun w f=>wU 16 6 48 (cQ (js (aP f w))) z.n (jY (kX z z.len) 14 0 (uB x.i)) fun s=>dX 6 48/\LD x s (kX s s.len) 22 42) (LD x z (jY (kX z z.len) 14 0 (uB x.i)) 16 48))) (by kernel_rfl) (by
 delta aD aP av aK kA ah bW oW af kz dX bD aX fA aB dO aV ur bS eC aI bC gA gC LD GG jH lQ cQ ax ag wU uv kX gf sM oH bl qQ uB cU ji uu sL
 try dsimp -iota -proj only
 rintro⟨H,y,g,i,run⟩ ⟨hs,hi,hlen⟩;dsimp only at hs hi hlen ⊢;have hc:=hs.cell;obtain⟨r1,r2,r3⟩:=hs.A5;obtain⟨b1,b2,b3,b4,⟨ba,bc,b5⟩,b6⟩:=hs.buf.len;obtain⟨S,hS⟩:∃S,S=min (bZ i) g.buf.length:=⟨_,rfl⟩
 have hmm:(bif false then max (bif true then max 0 ((i:Int)*48-6)else min 0 ((i:Int)*48-6)) (g.buf.length:Int)else min (bif true then max 0 ((i:Int)*48-6)else min 0 ((i:Int)*48-6)) (g.buf.length:Int))=(S:Int):=by
  simp only[cond_true,cond_false,bZ]at *;omega
 have hcut:=hs.buf.cut (a:=S) (e:=g.buf.length) (by omega) (Nat.le_refl _)
 repeat refine kR ?_
 refine⟨_,_,rfl,?_⟩;refine⟨_,_,rfl,?_⟩;refine⟨_,0,_,_,rfl,hc,?_⟩;refine⟨⟨⟨_,rfl,_,rfl,r1⟩,trivial⟩,fun _=>⟨⟨4,6,60,uw .u64 g.gen,64,bM fun _=>0⟩,?_⟩⟩
 and_intros<;>first|exact dc|rfl|exact kr fun _ _=>rfl|skip
 intro _ _;obtain⟨F1,hF1⟩:∃F:Nat->Int,F=fun k=>if 4<=k/\k<4+6 then IM (uw .u64 g.gen) 6 (k-4)else 0:=⟨_,rfl⟩
 obtain⟨F2,hF2⟩:∃F:Nat->Int,F=fun k=>if 10<=k/\k<10+4 then IM (uw .u64 run) 4 (k-10)else F1 k:=⟨_,rfl⟩
 rw[show tN (bM fun _=>0) 4 6 (uw .u64 g.gen) 6=bM F1 by rw[wT (by omega),hF1]]
 repeat refine kR ?_
 refine⟨⟨10,4,54,uw .u64 run,64,bM F1⟩,?_⟩
 and_intros<;>first|exact dc|rfl|skip
 intro _ _;rw[show tN (bM F1) 10 4 (uw .u64 run) 4=bM F2 by rw[wT (by omega),hF2]];have hi8:uw .u8 (i:Int)=i:=by simp only[uw];omega
 have hsec:∀(F:Nat->Int),(∀k,k<64->F k=qv g i run k)->∀k,k<64->(if 0<=k/\k<0+4 then IM (dA .xor .u32 4294967295 (qD (fun i_1=>u8 (bM (qv g i run)) (4+i_1)) 60)) 4 (k-0)else qv g i run k)=pz g i run k:=by
  intro F hF k hk;simp only[pz,vM,Nat.zero_add,Nat.sub_zero,Nat.zero_le,true_and];rfl
 repeat refine kR ?_
 rw[hi8];refine⟨fun c1=>?_,fun c1=>?_⟩
 ·have hi0:i=0:=by simpa using c1
  subst hi0;obtain⟨F3,hF3⟩:∃F:Nat->Int,F=fun k=>if k=14 then 0 else F2 k:=⟨_,rfl⟩
  obtain⟨F4,hF4⟩:∃F:Nat->Int,F=fun k=>if 16<=k/\k<16+6 then IM (uw .u64 g.base) 6 (k-16)else F3 k:=⟨_,rfl⟩
  repeat refine kR ?_
  refine⟨_,_,rfl,?_⟩;refine⟨_,_,rfl,?_⟩;refine⟨_,0,_,_,rfl,hc,?_⟩;refine⟨⟨⟨_,rfl,_,rfl,r2⟩,trivial⟩,fun _=>⟨⟨16,6,48,uw .u64 g.base,64,bM F3⟩,?_⟩⟩
  and_intros<;>first|exact dc|rfl|exact kr (fun k hk=>by rw[qF,hF3];simp only[bM];split<;>rfl)|skip
  intro _ _;rw[show tN (bM F3) 16 6 (uw .u64 g.base) 6=bM F4 by rw[wT (by omega),hF4]]
  repeat refine kR ?_
  refine⟨_,_,rfl,?_⟩;refine⟨_,_,rfl,?_⟩;refine⟨_,0,_,_,rfl,hc,?_⟩;refine⟨⟨⟨_,rfl,b6⟩,trivial⟩,?_⟩;refine⟨_,_,rfl,?_⟩;refine⟨_,_,rfl,?_⟩;refine⟨_,0,_,_,rfl,hc,?_⟩;refine⟨⟨⟨_,rfl,b6⟩,trivial⟩,⟨ba,_,bc,b5,b3⟩,?_⟩;simp only[cZ,List.getD_cons_succ,List.getD_cons_zero,b1,hmm,Int.toNat_natCast]
  repeat refine kR ?_
  refine⟨_,_,_,hcut,?_⟩
  repeat refine kR ?_
  obtain⟨U,hU⟩:∃U,U=tF g.buf.length 0:=⟨_,rfl⟩
  have hU2:min (g.buf.length-S) 42=U:=by rw[hU,hS];simp only[tF,ku,bZ,if_true];omega
  have hUs:(uw .u8 ((min (g.buf.length-S) 42:Nat):Int))=(U:Int):=by rw[hU2];simp only[uw];omega
  have hS0:S=0:=by rw[hS];simp[bZ]
  have hfin:aj 64 1 (jY (oD (bM F4) 22 (min (g.buf.length-S) 42) fun i=>aa cE g.buf (S+i)) 15 0 [Value.int .u8 (uw .u8 ((min (g.buf.length-S) 42:Nat):Int))]) (bM (qv g 0 run)):=by
   rw[hUs,hU2,hS0];refine kr fun k hk=>?_;rw[qF];simp only[oD,bM,aa,cE,List.getD_cons_zero,Nat.zero_add,hF4,hF3,hF2,hF1,qv,<- hU,if_true]
   (repeat' split)<;>first|rfl|(exfalso;omega)|skip
  refine⟨yX.mk 1 4 60 60 64 (bM (qv g 0 run)),?_⟩
  and_intros<;>first|exact dc|exact hfin|skip
  intro _ _;refine⟨mg.mk 0 4 64 (dA .xor .u32 4294967295 (qD (fun i_1=>u8 (bM (qv g 0 run)) (4+i_1)) 60)) 64 (bM (qv g 0 run)),?_⟩
  and_intros<;>first|exact dc|exact hfin|skip
  intro _ _;refine⟨(),?_⟩;have hlast:aj 64 1 (tN (bM (qv g 0 run)) 0 4 (dA .xor .u32 4294967295 (qD (fun i_1=>u8 (bM (qv g 0 run)) (4+i_1)) 60)) 4) (bM (pz g 0 run)):=by
   rw[wT (by omega)];exact kr fun k hk=>by simp only[bM];rw[hsec _ (fun _ _=>rfl) k hk]
  and_intros<;>first|exact dc|exact hlast|skip
 ·have hi0:i≠0:=by simpa using c1
  repeat refine kR ?_
  refine⟨_,_,rfl,?_⟩;refine⟨_,_,rfl,?_⟩;refine⟨_,0,_,_,rfl,hc,?_⟩;refine⟨⟨⟨_,rfl,b6⟩,trivial⟩,?_⟩;refine⟨_,_,rfl,?_⟩;refine⟨_,_,rfl,?_⟩;refine⟨_,0,_,_,rfl,hc,?_⟩;refine⟨⟨⟨_,rfl,b6⟩,trivial⟩,⟨ba,_,bc,b5,b3⟩,?_⟩;simp only[cZ,List.getD_cons_succ,List.getD_cons_zero,b1,hmm,Int.toNat_natCast]
  repeat refine kR ?_
  refine⟨_,_,_,hcut,?_⟩
  repeat refine kR ?_
  obtain⟨U,hU⟩:∃U,U=tF g.buf.length i:=⟨_,rfl⟩
  have hU2:min (g.buf.length-S) 48=U:=by rw[hU,hS];simp only[tF,ku,if_neg hi0];omega
  have hUs:(uw .u8 ((min (g.buf.length-S) 48:Nat):Int))=(U:Int):=by rw[hU2];simp only[uw];omega
  have hfin:aj 64 1 (jY (oD (jY (bM F2) 14 0 [Value.int .u8 (i:Int)]) 16 (min (g.buf.length-S) 48) fun i=>aa cE g.buf (S+i)) 15 0 [Value.int .u8 (uw .u8 ((min (g.buf.length-S) 48:Nat):Int))]) (bM (qv g i run)):=by
   have hSU:0<U->S=bZ i:=by rw[hU,hS];simp only[tF];omega
   rw[hUs,hU2];refine kr fun k hk=>?_;rw[qF];simp only[oD,bM,aa,cE,List.getD_cons_zero,qF,hF2,hF1,qv,<- hU,if_neg hi0]
   (repeat' split)<;>first|rfl|(exfalso;omega)|(rw[hSU (by omega)];done)|skip
  refine⟨yX.mk 1 4 60 60 64 (bM (qv g i run)),?_⟩
  and_intros<;>first|exact dc|exact hfin|skip
  intro _ _;refine⟨mg.mk 0 4 64 (dA .xor .u32 4294967295 (qD (fun i_1=>u8 (bM (qv g i run)) (4+i_1)) 60)) 64 (bM (qv g i run)),?_⟩
  and_intros<;>first|exact dc|exact hfin|skip
  intro _ _;refine⟨(),?_⟩;have hlast:aj 64 1 (tN (bM (qv g i run)) 0 4 (dA .xor .u32 4294967295 (qD (fun i_1=>u8 (bM (qv g i run)) (4+i_1)) 60)) 4) (bM (pz g i run)):=by
   rw[wT (by omega)];exact kr fun k hk=>by simp only[bM];rw[hsec _ (fun _ _=>rfl) k hk]
  and_intros<;>first|exact dc|exact hlast|skip)
theorem LG:ak (Y Tryz.prog).G.X 229 GF:=aU fF LF ⟨Bo,Gk,trivial⟩
structure bN where
 from_:Nat
 au:Nat
 l:List dy
 next:Int
 run:Int
 fresh:Bool
 deriving Inhabited
structure gQ where
 lv:Value
 ys:List mC
def ZF(t:Nat)(L:bN)(lv:Value):List A:=[.ptr t 0 0 0,.int .i64 L.from_,.int .i64 L.au,.val lv,.int .i64 L.next,.int .i64 L.run,.bool L.fresh]
@[reducible] def tO(a b:bN)(v w:Value)(p:Prop):Prop:=(↑a.from_:Int)=(↑b.from_:Int)/\(↑a.au:Int)=(↑b.au:Int)/\v=w/\a.next=b.next/\a.run=b.run/\a.fresh=b.fresh/\p
def fS(t:Nat)(L:bN)(lv:Value):Chunk:=.obj 254 (ZF t L lv)
def jQ(L:bN)(g:dy)(i:Nat):Nat:=L.from_+(g.gen-1).toNat%L.au*8+i
structure sN where
 H:PH
 y:mC
 g:dy
 i:Nat
 L:bN
 lv:Value
 d:bz
noncomputable def GH:cC where
 α:=sN
 β:=Unit
 m:=4
 m':=4
 pre:=fun a=>n9 a.H a.y a.g/\a.i<8/\a.g.buf.length<=378/\1<=a.g.gen/\3<=a.L.au/\a.L.au<=200/\a.L.from_+a.L.au*8<=a.d.n/\a.d.n<100000/\a.d.calls<1000000000000
 args:=fun a=>[.a (.ptr 0 0 0 0),.a (.val (pv a.y.b 0)),.a (.int .i64 a.i)]
 hp:=fun a=>gG 1 2 a.d
 ro:=fun a=>[(0,fS 1 a.L a.lv),(3,.cA a.H)]
 post:=fun _ _=>True
 res:=fun _ _=>.a (.lit .i64 0)
 cW:=fun a _=>gG 1 2 (gm a.d (jQ a.L a.g a.i) 64 (pz a.g a.i a.L.run))
def wV(x:Lq)(y:bz)(z:Nat)(u:Nat->Nat->Value)(v:Prop):=(0=x.r/\64=x.len/\64=x.cap)/\gz y x.d (aK x.n z 1 u (bM x.src)/\uz x/\aI v)
def zf(x:sN):=n9 x.H x.y x.g/\x.i<8/\av x.g.buf<=378/\(1:Int)<=x.g.gen/\3<=x.L.au/\x.L.au<=200/\x.L.from_+x.L.au*8<=x.d.n/\jF x.d
def bA(x y:Nat):=af x=af y
def zg(x:sN):bz:=gm x.d (jQ x.L x.g x.i) 64 (pz x.g x.i x.L.run)
def kC(x y:Nat):=pv x 0=pv y 0
def GI(x:bN)(y:Int)(z:Nat)(u:Prop):=ah (af x.from_)->ah (y*(8:Int))/\nB (af x.from_+y*(8:Int)) (af z) u
theorem Pr:fnBody (Y Tryz.prog) [(229,GF),(81,pL)] 198 GH fun _=>[]:=fnBody.of (p :=
 ∀x:sN,zf x->gC (pv x.y.b 0) 0 (fun u=>x.H u) fun u v=>ah (js (aP v u)-(1:Int))/\(ah (af x.L.au)->af x.L.au≠(0:Int)/\GI x.L ((js (aP v u)-(1:Int)).tmod (af x.L.au)) x.i (ah x.L.run->∃z:Sq,kC x.y.b z.y.b/\bA x.i z.i/\x.L.run=z.run/\x.H=z.H/\(n9 z.H z.y z.g/\z.i<8/\av z.g.buf<=378)/\aI (∃w:Lq,ag (af x.L.from_+(js (aP v u)-(1:Int)).tmod (af x.L.au)*(8:Int)+af x.i=af w.i/\wV w x.d 64 (bM (pz z.g z.i z.run)) (Exists (ax (aW (gz (lR w) (zg x) (True/\True)))))))))) (by kernel_rfl) (by
 delta aP av aK kA ah aC af kz dO aI gC jF lR wV ax aW ag zf nB uz bA zg kC GI ji
 try dsimp -iota -proj only
 rintro⟨H,y,g,i,L,lv,d⟩ ⟨hs,hi,hlen,hg,s1,s2,h3,h4,h5⟩;dsimp only at *;have hc:=hs.cell;obtain⟨r1,r2,r3⟩:=hs.A5;have hm:(g.gen-1).tmod (L.au:Int)=(((g.gen-1).toNat%L.au:Nat):Int):=by
  rw[Int.tmod_eq_emod_of_nonneg (by omega),Int.natCast_emod];congr 1;omega
 have hml:(g.gen-1).toNat%L.au<L.au:=Nat.mod_lt _ (by omega);have hsn:((L.from_:Int)+(((g.gen-1).toNat%L.au:Nat):Int)*8+i)=(jQ L g i:Nat):=by simp only[jQ];omega
 have hlt:jQ L g i<d.n:=by simp only[jQ];omega
 refine⟨_,_,rfl,?_⟩;refine⟨_,_,rfl,?_⟩;refine⟨_,0,_,_,rfl,hc,?_⟩;refine⟨⟨⟨_,rfl,_,rfl,r1⟩,trivial⟩,fun _=>?_⟩;simp only[cZ,List.getD_cons_zero,js,hm];refine⟨by simp only[bQ]at *;omega,fun _=>⟨by omega,fun _=>⟨by simp only[bQ];omega,by simp only[bQ];omega,by simp only[bQ];omega,fun _=>?_⟩⟩⟩;rw[hsn];refine⟨Sq.mk H y g i L.run,?_⟩
 and_intros<;>first|exact dc|skip
 intro _ _;refine⟨Lq.mk d (jQ L g i) 0 64 64 64 (pz g i L.run),?_⟩;simp only[Nat.zero_add]
 (repeat' (first|apply And.intro|(intro _)|apply Exists.intro ()))<;>first|exact dc|skip)
theorem EP:ak (Y Tryz.prog).G.X 198 GH:=aU fF Pr ⟨LG,pn,trivial⟩
instance:Inhabited mC:=⟨⟨0,undef,undef,[]⟩⟩
def zh(ys:List mC):Nat->Nat->Value:=fun i _=>pv (gl ys i).b 0
structure bU(H:PH)(y:gQ)(L:bN):Prop where
 IN:∃c,jZ H y.lv [.deep] L.l.length c (zh y.ys)
 len:y.ys.length=L.l.length
 seg:∀i,i<L.l.length->n9 H (gl y.ys i) (gl L.l i)
 nd:(fB y.lv++y.ys.flatMap bw).Nodup
def br(y:gQ):List Nat:=fB y.lv++y.ys.flatMap bw
theorem bU.at_{H:PH}{y:gQ}{L:bN}(h:bU H y L){i:Nat}(hi:i<L.l.length):∃b lo o c cs,y.lv=eW b (lo+o) L.l.length c/\H b=some (lo,cs)/\cs[o+i*1]? = some (pv (gl y.ys i).b 0)/\cs.getD (o+i*1) (Value.tuple #[])=pv (gl y.ys i).b 0:=by
 obtain⟨c,h⟩:=h.IN;rcases h with⟨_,h0,_⟩ | ⟨b,lo,o,cs,h1,h2,h3,h4,h5⟩
 ·omega
 ·have:=(h5.at_ i hi 0 .deep rfl).1;exact⟨b,lo,o,c,cs,h1,h3,this,by rw[List.getD_eq_getElem?_getD,show cs[o+i*1]? = some (pv (gl y.ys i).b 0)from this];rfl⟩
theorem bU.qT{H:PH}{y:gQ}{L:bN}(h:bU H y L):dr y.lv=L.l.length/\FN y.lv/\(∃a c,y.lv = .slice a L.l.length c)/\L.l.length<=aq/\y.lv.oneCell'=true:=by
 obtain⟨c,h⟩:=h.IN;obtain⟨h1,h2,h3,h4,h5,⟨a,h6⟩,h7⟩:=e9 h;exact⟨h1,h5,⟨a,c,h6⟩,by omega,h7⟩
def bh(L:bN):dy:=⟨(match L.l.getLast? with|some g=>g.gen+1|none=>1),L.next,0,[],[]⟩
theorem kD{H:PH}{v:Value}{x:Nat}(h:x∉fB v):aL H v x=H x:=by
 unfold aL;split
 ·rename_i b o p l c;exact yL (fun e=>h (by simp[fB,e]))
 ·rfl
theorem vv{ys:List mC}{i x:Nat}(hi:i<ys.length)(hx:x∈bw (gl ys i)):x∈ys.flatMap bw:=by
 rw[bR hi]at hx;exact List.mem_flatMap.2 ⟨_,List.getElem_mem _,hx⟩
theorem Sr{ys:List mC}{x:Nat}(hx:x∈ys.flatMap bw):∃i,i<ys.length/\x∈bw (gl ys i):=by
 obtain⟨y,hy,hx⟩:=List.mem_flatMap.1 hx;obtain⟨i,hi,rfl⟩:=List.getElem_of_mem hy;exact⟨i,hi,by rw[bR hi];exact hx⟩
theorem bU.dom{H:PH}{y:gQ}{L:bN}(h:bU H y L):∀x∈br y,H x≠none:=by
 intro x hx;rcases List.mem_append.1 hx with hx|hx
 ·obtain⟨c,hl⟩:=h.IN;exact mD hl x hx
 ·obtain⟨i,hi,hx⟩:=Sr hx;exact(h.seg i (by rw[<- h.len];exact hi)).dom x hx
theorem bU.frame{H H':PH}{y:gQ}{L:bN}(h:bU H y L)(e:∀x∈br y,H' x=H x):bU H' y L:=by
 obtain⟨c,hl⟩:=h.IN;refine⟨⟨c,iL hl fun x hx=>e x (List.mem_append_left _ hx)⟩,h.len,fun i hi=>(h.seg i hi).frame fun x hx=>e x (List.mem_append_right _ (vv (by rw[h.len];exact hi) hx)),h.nd⟩
theorem kE{α:Type}[Inhabited α]{l:List α}{x:α}{i:Nat}(h:i<l.length+1):gl (l++[x]) i=if i<l.length then gl l i else x:=by
 by_cases hi:i<l.length
 ·rw[if_pos hi,bJ hi]
 ·rw[if_neg hi,show i=l.length+0 by omega,bf];rfl
def newL(b:Nat):mC:=⟨b,.slice none 0 0,.slice none 0 0,[]⟩
theorem ER{H:PH}{b:Nat}{L:bN}(h1:bQ .i64 L.next)(h2:bQ .i64 (bh L).gen):n9 (aO H b 0 (cZ (bh L) (.slice none 0 0) (.slice none 0 0))) (newL b) (bh L) :=
 ⟨dF ..,⟨h2,h1,by show bQ .i64 0;simp only[bQ];omega⟩,⟨0,.inl ⟨rfl,rfl,rfl⟩⟩,⟨0,.inl ⟨rfl,rfl,rfl⟩⟩,rfl,fun i hi=>absurd hi (Nat.not_lt_zero i)⟩
structure fK(H:PH)(y:mC)(g:dy):Prop where
 at_:n9 H y g
 nd:(bw y).Nodup
theorem GJ{H:PH}{y:gQ}{L:bN}{sl:mC}{g:dy}{b' lo cap:Nat}{cs:List Value}{R:Nat->Nat->Value}(hl:bU H y L)(hs:fK H sl g)(hd:∀x∈br y,x∉bw sl)
 (hb':aL H y.lv b'=none) (hcs:cs.length=cap*1) (hc:L.l.length+1<=cap) (hc2:cap<=aq) (hp:Av cs 0 [.deep] (L.l.length+1) R)
 (hR:∀i,i<L.l.length+1->R i 0=zh (y.ys++[sl]) i 0) {L':bN} (hL':L'.l=L.l++[g]) :
 bU (aO (aL H y.lv) b' lo cs) ⟨eW b' lo (L.l.length+1) cap,y.ys++[sl]⟩ L' /\
 ∀x,H x≠none->x∉br y->x∉bw sl->aO (aL H y.lv) b' lo cs x=H x/\x∉br ⟨eW b' lo (L.l.length+1) cap,y.ys++[sl]⟩:=by
 have hdm:=hl.dom;have hds:=hs.at_.dom;have hnd:=hl.nd;rw[List.nodup_append]at hnd;obtain⟨n1,n2,n3⟩:=hnd;have hFl:∀x∈y.ys.flatMap bw,x∉fB y.lv:=fun x hx e=>n3 x e x hx rfl;have hSl:∀x∈bw sl,x∉fB y.lv:=fun x hx e=>hd x (List.mem_append_left _ e) hx;have hSF:∀x∈bw sl,x∉y.ys.flatMap bw:=fun x hx e=>hd x (List.mem_append_right _ e) hx;have hm:∀x,x∉fB y.lv->aL H y.lv x=H x:=fun x hx=>kD hx;have hbF:b'∉y.ys.flatMap bw:=fun e=>by
  have:=hdm b' (List.mem_append_right _ e);rw[hm b' (hFl b' e)]at hb';exact this hb'
 have hbS:b'∉bw sl:=fun e=>by
  have:=hds b' e;rw[hm b' (hSl b' e)]at hb';exact this hb'
 have hfp:br ⟨eW b' lo (L.l.length+1) cap,y.ys++[sl]⟩=b'::(y.ys.flatMap bw++bw sl):=by
  simp[br,fB,eW]
 have hlen:L'.l.length=L.l.length+1:=by rw[hL'];simp
 refine⟨⟨⟨cap,.inr ⟨b',lo,0,cs,?_,⟨?_,hc2⟩,dF ..,by simp[hcs],?_⟩⟩,?_,?_,?_⟩,?_⟩
 ·rw[hlen];simp only[Nat.add_zero]
 ·rw[hlen];exact hc
 ·rw[hlen];refine⟨fun i hi j k hj=>?_⟩;have:=hp.at_ i hi j k hj;have hj0:j=0:=by have:=(List.getElem?_eq_some_iff.1 hj).1;simpa using this
  subst hj0;rw[hR i hi]at this;exact this
 ·rw[hlen];simp[hl.len]
 ·intro i hi;rw[hlen]at hi;rw[hL',kE hi];show n9 _ (gl (y.ys++[sl]) i) _;rw[kE (by rw[hl.len];exact hi),hl.len];by_cases hin:i<L.l.length
  ·rw[if_pos hin,if_pos hin];refine(hl.seg i hin).frame fun x hx=>?_;have hxF:=vv (by rw[hl.len];exact hin) hx;rw[cD (fun e=>hbF (by rw[<- e];exact hxF)),hm x (hFl x hxF)]
  ·rw[if_neg hin,if_neg hin];refine hs.at_.frame fun x hx=>?_;rw[cD (fun e=>hbS (by rw[<- e];exact hx)),hm x (hSl x hx)]
 ·show(br ⟨eW b' lo (L.l.length+1) cap,y.ys++[sl]⟩).Nodup;rw[hfp,List.nodup_cons,List.nodup_append];refine⟨?_,n2,hs.nd,?_⟩
  ·simp only[List.mem_append,not_or];exact⟨hbF,hbS⟩
  ·intro x hx z hz e;subst e;exact hSF x hz hx
 ·intro x hx hxn hxs;have hxl:x∉fB y.lv:=fun e=>hxn (List.mem_append_left _ e);have hxF:x∉y.ys.flatMap bw:=fun e=>hxn (List.mem_append_right _ e);have hxb':x≠b':=fun e=>by
   rw[<- e,hm x hxl]at hb';exact hx hb'
  refine⟨by rw[cD hxb',hm x hxl],?_⟩;rw[hfp];simp only[List.mem_cons,List.mem_append,not_or];exact⟨hxb',hxF,hxs⟩
theorem bU.congr{H:PH}{y:gQ}{L L':bN}(h:bU H y L)(e:L'.l=L.l):bU H y L':=⟨by rw[e];exact h.IN,by rw[e];exact h.len,by rw[e];exact h.seg,h.nd⟩
structure mE where
 H:PH
 y:gQ
def jR(t s:Int)(g:dy):Bool:=decide (t-s<g.gen)
structure uF where
 H:PH
 y:gQ
 L:bN
 gb:Nat
 t:Int
structure sO(a:uF):Prop where
 log:bU a.H a.y a.L
 x7:a.L.l.length<1000
 au:a.L.au<=200
 t:bQ .i64 a.t/\0<=a.t
 cell:∃r,a.H a.gb=some (0,.int .i64 a.t::r)
 ZZ:a.gb∉br a.y
noncomputable def Ss:cC where
 α:=uF
 β:=Int
 m:=5
 m':=5
 pre:=fun a=>sO a
 args:=fun a=>[.a (.val a.y.lv),.Bd 228 [.ptr 0 0 0 0,.ptr 1 0 0 0]]
 hp:=fun _=>[]
 ro:=fun a=>[(0,.obj 289 [.val (pv a.gb 0)]),(1,.obj 202 [.ptr 2 0 0 0]),(2,fS 4 a.L a.y.lv),(3,.cA a.H)]
 post:=fun a r=>(r = -1/\∀i,i<a.L.l.length->jR a.t a.L.au (gl a.L.l i)=true)\/∃i:Nat,r=i/\i<a.L.l.length/\jR a.t a.L.au (gl a.L.l i)=false/\∀j,j<i->jR a.t a.L.au (gl a.L.l j)=true
 res:=fun _ r=>.a (.int .i64 r)
 cW:=fun _ _=>[]
def YF(a:uF):An:=.flat 2 Nat (fun s k=>s.int 8 k) (fun _ k=>k<=a.L.l.length/\∀j,j<k->jR a.t a.L.au (gl a.L.l j)=true) (fun _ k=>a.L.l.length-k)
def mF(w s t:Nat)(f:Nat->Option (Nat×List Value))(g:Value->Prop)(h i:Nat->List Value->Prop):=∃z u x:Nat,∃y:List Value,pv w (s+t)=pv z (u+x)/\f z=some (u,y)/\((∃v:Value,y[x]? = some v/\g v)/\h x y)/\i x y
def dY(y x:Nat)(z:Prop)(u:Nat):=(y<=x/\z)/\x-y<x-u
def cV(x:Value):=x=x
def iM(u:Value)(v:Int)(w:Nat->Nat->Prop):Nat->Prop:=fun(x:Nat)=>∃y z s:Nat,u=eW x y z s/\aX v (af z)/\w x y
def oZ(y:Nat)(u:Value)(v:Nat)(w:Nat->Option (Nat×List Value))(s:Value->Prop)(t f:Nat->List Value->Prop)(g:Prop):=aY (af y) (dr u) (Exists (iM u (af y) fun h i=>mF h i (ay y*v) (fun x=>w x) (fun x=>s x) (fun x z=>t x z) fun x z=>f x z)) g
def bB(x:bN):Nat:=x.l.length
def fq(x:bN)(y:gQ)(z:Prop):=tO x x y.lv y.lv z
def wW(z:Nat)(x:uF):=∀y:Nat,y<z->aB (jR x.t (af x.L.au) (gl x.L.l y))
def Cv(z:Int)(x:uF):=z=(-1:Int)/\wW (bB x.L) x\/∃y:Nat,z=af y/\y<bB x.L/\jR x.t (af x.L.au) (gl x.L.l y)=false/\wW y x
def mG(x y:Int)(z u:Prop):=ah x/\aD (cM y x) z u
def az(x:Prop):=bW 0 x
def zi(x:gQ)(y:Nat)(z:Prop):=cF (af (dr x.lv)) 0 (cV x.lv) (az (cV (pv y 0)/\z))
theorem St:fnBody (Y Tryz.prog) [] 234 Ss fun a=>[(234,[YF a],[])]:=fnBody.of (p :=
 ∀x:uF,sO x->Exists (eC x.y.lv)/\(∃z:Nat,aA z (zi x.y x.gb (az (fq x.L x.y (x.H=x.H/\(z<=bB x.L/\wW z x)/\True)))))/\∀z:Nat,z<=bB x.L/\wW z x->oZ z x.y.lv 1 (fun u=>x.H u) (fun u=>gA u) (fun u t=>True) (fun u t=>gC (aP t u) 0 (fun w=>x.H w) fun w f=>gC (pv x.gb 0) 0 (fun s=>x.H s) fun s g=>ah (af x.L.au)->mG (js (aP g s)-af x.L.au) (js (aP f w)) (∃v:Int,af z=v/\Cv v x/\True) (cO z fun v=>zi x.y x.gb (az (fq x.L x.y (x.H=x.H/\dY v (bB x.L) (wW v x) z))))) (∃u:Int,(-1:Int)=u/\Cv u x/\True)) (by kernel_rfl) (by
 delta aD aP cF kA ah bW ay aF af kz mF dY aX aB dO aV cV eC oZ cO bB gA fq gC Cv aS iM aA cM ag aY mG wW bx az zi ji
 try dsimp -iota -proj only
 rintro⟨H,y,L,gb,T⟩ ⟨hl,h1,h2,⟨h3,h4⟩,⟨gr,hgb⟩,h5⟩;dsimp only at *;obtain⟨e1,_,⟨ea,ec,e2⟩,e3,_⟩:=hl.qT;refine⟨⟨ea,_,ec,e2,e3⟩,⟨0,?_⟩,fun k hk=>⟨fun c1=>?_,fun c1=>⟨-1,?_⟩⟩⟩
 ·(repeat' (first|apply And.intro|(intro _)))<;>first|exact dc|(exfalso;omega)
 ·obtain⟨hk0,hkk⟩:=hk;rw[e1]at c1;have hk:k<L.l.length:=by simpa using c1
  obtain⟨b,lo,o,c,cs,g1,g2,g3,g4⟩:=hl.at_ hk;have hs:=hl.seg k hk;obtain⟨r1,_,_⟩:=hs.A5;refine⟨_,_,_,_,g1,by omega,b,lo,o+k*1,cs,by rw[Int.toNat_natCast,Nat.add_assoc],g2,⟨⟨_,g3,rfl⟩,trivial⟩,?_⟩;refine⟨_,_,g4,?_⟩;refine⟨_,_,rfl,?_⟩;refine⟨_,0,_,_,rfl,hs.cell,?_⟩;refine⟨⟨⟨_,rfl,_,rfl,r1⟩,trivial⟩,fun _=>?_⟩;refine⟨_,_,rfl,?_⟩;refine⟨_,_,rfl,?_⟩;refine⟨_,0,_,_,rfl,hgb,?_⟩;refine⟨⟨⟨_,rfl,_,rfl,h3⟩,trivial⟩,fun _ _=>?_⟩;simp only[cZ,List.getD_cons_zero,js,bQ]at h3 ⊢;refine⟨by omega,fun c2=>⟨k,?_⟩,fun c2=>⟨by omega,k+1,?_⟩⟩
  ·have c2:=of_decide_eq_true c2;refine⟨rfl,.inr ⟨k,rfl,hk,?_,hkk⟩,trivial⟩;simp only[jR,decide_eq_false_iff_not];omega
  ·have c2:=of_decide_eq_false c2;have hn:∀j,j<k+1->jR T L.au (gl L.l j)=true:=fun j hj=>by
    by_cases e:j=k
    ·subst e;simp only[jR,decide_eq_true_eq];omega
    ·exact hkk j (by omega)
   and_intros<;>first|exact dc|exact hn
 ·obtain⟨hk0,hkk⟩:=hk;have hk:k=L.l.length:=by rw[e1]at c1;have:=of_decide_eq_false c1;omega
  subst hk;exact⟨rfl,.inl ⟨rfl,hkk⟩,trivial⟩)
theorem Su:ak (Y Tryz.prog).G.X 234 Ss:=aU fF St trivial
def stay(t s:Int)(l:List dy)(j:Nat):List Nat:=(List.range j).filter fun i=>jR t s (gl l i)
theorem Gh{α β:Type}[Inhabited α][Inhabited β]{l:List α}{f:α->β}{i:Nat}(h:i<l.length):gl (l.map f) i=f (gl l i):=by
 rw[bR (by simpa using h),bR h,List.getElem_map]
theorem Sv{α:Type}[Inhabited α](l:List α):(List.range l.length).map (gl l)=l:=by
 refine List.ext_getElem (by simp) fun i h1 h2=>?_;rw[List.getElem_map,List.getElem_range,bR h2]
theorem Sw(t s:Int)(l:List dy):(stay t s l l.length).map (gl l)=l.filter (jR t s):=by
 have:l.filter (jR t s)=((List.range l.length).map (gl l)).filter (jR t s):=by rw[Sv]
 rw[this,List.filter_map];rfl
theorem ES(t s:Int)(l:List dy)(j:Nat):stay t s l (j+1)=stay t s l j++if jR t s (gl l j)then[j]else[]:=by
 unfold stay;rw[List.range_succ,List.filter_append];congr 1;cases h:jR t s (gl l j)<;>simp[h]
theorem VG{t s:Int}{l:List dy}{j i:Nat}(h:i<(stay t s l j).length):gl (stay t s l j) i<j:=by
 have:gl (stay t s l j) i∈stay t s l j:=by rw[bR h];exact List.getElem_mem _
 exact List.mem_range.1 (List.mem_filter.1 this).1
theorem A8{α β:Type}{f:α->List β}{l m:List α}(h:l.Sublist m):(l.flatMap f).Sublist (m.flatMap f):=by
 induction h with
 |slnil=>exact List.Sublist.refl _
 |cons a _ ih=>exact ih.trans (by rw[List.flatMap_cons];exact List.sublist_append_right _ _)
 |cons_cons a _ ih=>rw[List.flatMap_cons,List.flatMap_cons];exact(List.Sublist.refl _).append ih
def uG(t:Int)(L:bN):bN:={ L with l:=L.l.filter (jR t L.au) }
structure LI where
 j:Nat
 rows:Nat->Nat->Value
noncomputable def Sy:cC where
 α:=uF
 β:=mE
 m:=5
 m':=6
 pre:=fun a=>sO a
 args:=fun a=>[.a (.val a.y.lv),.Bd 228 [.ptr 0 0 0 0,.ptr 1 0 0 0]]
 hp:=fun a=>[(3,.cA a.H)]
 ro:=fun a=>[(0,.obj 289 [.val (pv a.gb 0)]),(1,.obj 202 [.ptr 2 0 0 0]),(2,fS 4 a.L a.y.lv)]
 post:=fun a b=>bU b.H b.y (uG a.t a.L)/\∀x,a.H x≠none->x∉br a.y->b.H x=a.H x/\x∉br b.y
 res:=fun _ b=>.a (.val b.y.lv)
 cW:=fun _ b=>[(5,.cA b.H)]
structure LJ(a:uF)(x:LI):Prop where
 le:x.j<=a.L.l.length
 lt:(stay a.t a.L.au a.L.l x.j).length<x.j
 one:∀i,i<a.L.l.length->(x.rows i 0).oneCell'=true
 low:∀i,i<(stay a.t a.L.au a.L.l x.j).length->x.rows i 0=pv (gl a.y.ys (gl (stay a.t a.L.au a.L.l x.j) i)).b 0
 high:∀i,x.j<=i->i<a.L.l.length->x.rows i 0=zh a.y.ys i 0
def YG(a:uF):An:=.flat 5 LI (fun s x=>((s.at_ (s.tg 0) (.arr 289 [.deep] a.L.l.length x.rows)).int 5 (stay a.t a.L.au a.L.l x.j).length).int 6 x.j) (fun _ x=>LJ a x) (fun _ x=>a.L.l.length-x.j)
def YH(a:uF):An:=.Sp 4 0 289 [.deep] (.mk 1000 [YG a] [An.NU 0 4 (.mk 1000 [] [])])
def mH(x:uF)(y:LI):Nat:=(stay x.t (af x.L.au) x.L.l y.j).length
def wX(x:Option (Nat×List Value))(z:gQ)(y:Nat)(u:Option (Nat×List Value))(v:gQ):=x≠none->¬y∈br z->u=x/\¬y∈br v
def GK(u v:Int)(x:uF)(w s:Nat)(t:Int)(f:Nat)(g:Nat->Nat->Value)(h:LI->Prop):LI->Prop:=fun(z:LI)=>u+(1:Int)=af z.j/\v=af (mH x z)/\bC w s/\bK (t == (-1:Int)) (az (aK (bB x.L) f 1 g z.rows/\aL x.H x.y.lv=aL x.H x.y.lv/\cV (pv x.gb 0)/\az (fq x.L x.y (LJ x z/\h z))))
def qe(x:mE)(u:bN)(v:Nat->Option (Nat×List Value))(w:gQ):=bU x.H x.y u/\∀z:Nat,wX (v z) w z (x.H z) x.y
def iN(x:CK):List CK:=[x]
def zj(x y u:Nat)(v:List Value)(w:Nat->Value):Nat->Value:=fun(z:Nat)=>if 0+ay x<=y/\y<0+ay x+(u-ay x)then aP v z else w z
def Cw:Value:=Value.pointer none
theorem Sz:fnBody (Y Tryz.prog) [(234,Ss)] 208 Sy fun a=>[(208,[],[YH a])]:=fnBody.of (p :=
 ∀x:uF,sO x->∃f:uF,x.y.lv=f.y.lv/\az (kC x.gb f.gb/\az (tO x.L f.L x.y.lv f.y.lv (x.H=f.H/\sO f/\∀w:Int,Cv w f->aD (w == (-1:Int)) (∃u:mE,x.y.lv=u.y.lv/\x.H=u.H/\qe u (uG x.t x.L) (fun v=>x.H v) x.y/\True) (Exists (jH x.H x.y.lv CK.deep [] fun u v m=>ah (w+(1:Int))/\Exists (GK w w x u v w u m fun z=>True)/\∀z:LI,LJ x z->mz (af z.j) u (0+ay z.j<bB x.L/\gC (z.rows (0+ay z.j) 0) 0 (fun g=>aL x.H x.y.lv g) fun g k=>gC (pv x.gb 0) 0 (fun s=>aL x.H x.y.lv s) fun s l=>ah (af x.L.au)->ah (js (aP l s)-af x.L.au)/\aD (bn (cM (js (aP k g)) (js (aP l s)-af x.L.au))) (aX (af (mH x z)) (af u)/\0+ay (mH x z)<bB x.L/\aS (mH x z)/\aS z.j/\Exists (GK (af z.j) (af (mH x z)+(1:Int)) x u v w (bB x.L) (jY z.rows (0+ay (mH x z)) 0 (bD (z.rows (0+ay z.j) 0))) fun h=>bB x.L-h.j<bB x.L-z.j)) (aS z.j/\Exists (GK (af z.j) (af (mH x z)) x u v w (bB x.L) z.rows fun h=>bB x.L-h.j<bB x.L-z.j))) (cU (af (mH x z)) u/\cU (af (mH x z)) v/\(v-0≠0/\0+(ay (mH x z)-0)<=bB x.L)/\∀(g k:Nat) (s:List Value),aL x.H x.y.lv g=none->s.length=(v-0)*1->(Av s 0 (iN CK.deep) (ay (mH x z)-0) fun h=>zj (mH x z) (0+h) u (bD Cw) fun i=>z.rows (0+h) i) ->
 ∃i:mE,eW g k (ay (mH x z)-0) (v-0)=i.y.lv/\aO (aL x.H x.y.lv) g k s=i.H/\qe i (uG x.t x.L) (fun n=>x.H n) x.y/\True))))))) (by kernel_rfl) (by
 delta aD aP aK kA ah bW ay aF af bK kz dX bD aX aB dO aV bS cV bC bB fq gC mH Cv wX jH aS cM ag GK aY wW qe mz az iN bn kC cU ji zj Cw
 try dsimp -iota -proj only
 rintro⟨H,y,L,gb,T⟩ hp;obtain⟨hl,h1,h2,⟨h3,h4⟩,⟨gr,hgb⟩,h5⟩:=hp;dsimp only at *;have hp:sO ⟨H,y,L,gb,T⟩:=⟨hl,h1,h2,⟨h3,h4⟩,⟨gr,hgb⟩,h5⟩
 obtain⟨e1,_,⟨ea,ec,e2⟩,e3,_⟩:=hl.qT;have hmap:=Sw T L.au L.l;refine⟨⟨H,y,L,gb,T⟩,rfl,rfl,rfl,rfl,rfl,rfl,rfl,rfl,rfl,rfl,rfl,rfl,rfl,hp,fun r hr=>?_⟩;dsimp only at hr ⊢;refine⟨fun c=>⟨⟨H,y⟩,rfl,rfl,⟨hl.congr ?_,fun x _ hn=>⟨rfl,hn⟩⟩,trivial⟩,fun c=>?_⟩
 ·rcases hr with⟨_,hr⟩ | ⟨i,rfl,_⟩
  ·show L.l.filter (jR T L.au)=L.l;rw[List.filter_eq_self];intro g hg;obtain⟨i,hi,rfl⟩:=List.getElem_of_mem hg;rw[<- bR hi];exact hr i hi
  ·exfalso;simp at c
 ·obtain⟨r0,rfl,hr1,hr2,hr3⟩:∃i:Nat,r=i/\i<L.l.length/\jR T L.au (gl L.l i)=false/\∀j,j<i->jR T L.au (gl L.l j)=true:=by
   rcases hr with⟨rfl,_⟩|h
   ·cases c
   ·exact h
  obtain⟨cl,hlst⟩:=hl.IN;obtain⟨u1,u2,u3,u4,_⟩:=e9 hlst;have hst0:stay T L.au L.l (r0+1)=List.range r0:=by
   rw[ES,hr2];simp only[Bool.false_eq_true,if_false,List.append_nil];unfold stay;rw[List.filter_eq_self];exact fun i hi=>hr3 i (List.mem_range.1 hi)
  have hnd:=hl.nd;rw[List.nodup_append]at hnd;obtain⟨n1,n2,n3⟩:=hnd;have hFl:∀x∈y.ys.flatMap bw,x∉fB y.lv:=fun x hx e=>n3 x e x hx rfl;have hm:∀x,x∉fB y.lv->aL H y.lv x=H x:=fun x hx=>kD hx;have hgb2:aL H y.lv gb=some (0,.int .i64 T::gr):=by rw[hm gb (fun e=>h5 (List.mem_append_left _ e))];exact hgb
  have hseg:∀i,i<L.l.length->n9 (aL H y.lv) (gl y.ys i) (gl L.l i):=fun i hi=>(hl.seg i hi).frame fun x hx=>hm x (hFl x (vv (by rw[hl.len];exact hi) hx));refine⟨L.l.length,cl,zh y.ys,hlst,by simp only[bQ];omega,⟨⟨r0+1,zh y.ys⟩,?_⟩,fun x hx=>?_⟩
  ·have h0:LJ ⟨H,y,L,gb,T⟩ ⟨r0+1,zh y.ys⟩:=⟨hr1,by rw[hst0];simp,fun i _=>rfl,fun i hi=>by
    dsimp only at hi ⊢;rw[hst0]at hi ⊢;have hi':i<r0:=by simpa using hi
    rw[show gl (List.range r0) i=i by rw[bR hi];simp];rfl,fun i _ _=>rfl⟩
   rw[hst0]
   and_intros<;>first|exact dc|exact h0|(simp;done)|skip
  ·obtain⟨j,rows⟩:=x;have hx':LJ ⟨H,y,L,gb,T⟩ ⟨j,rows⟩:=hx;obtain⟨x1,x2,x3,x4,x5⟩:=hx;dsimp only at x1 x2 x3 x4 x5 ⊢;obtain⟨k,hk⟩:∃k,k=(stay T L.au L.l j).length:=⟨_,rfl⟩
   rw[<- hk]at x2 x4 ⊢;simp only[Nat.zero_add,Int.toNat_natCast];refine⟨fun c1=>?_,fun c1=>?_⟩
   ·have hj:j<L.l.length:=by have:=of_decide_eq_true c1;omega
    have hs:=hseg j hj;obtain⟨r1,_,_⟩:=hs.A5;have hrow:rows j 0=pv (gl y.ys j).b 0:=x5 j (Nat.le_refl _) hj;have hsu:=ES T L.au L.l j;refine⟨⟨by omega,by omega⟩,by omega,_,_,hrow,?_⟩;refine⟨_,_,rfl,?_⟩;refine⟨_,0,_,_,rfl,hs.cell,?_⟩;refine⟨⟨⟨_,rfl,_,rfl,r1⟩,trivial⟩,fun _=>?_⟩;refine⟨_,_,rfl,?_⟩;refine⟨_,_,rfl,?_⟩;refine⟨_,0,_,_,rfl,hgb2,?_⟩;refine⟨⟨⟨_,rfl,_,rfl,h3⟩,trivial⟩,fun _ _=>?_⟩;simp only[cZ,List.getD_cons_zero,js,bQ]at h3 ⊢;refine⟨by omega,fun c2=>?_,fun c2=>?_⟩
    ·have hkeep:jR T L.au (gl L.l j)=true:=by
      have:¬(gl L.l j).gen<=T-L.au:=by simpa using c2
      simp only[jR,decide_eq_true_eq];omega
     rw[hkeep,if_pos rfl]at hsu;have hlen:(stay T L.au L.l (j+1)).length=k+1:=by rw[hsu,hk];simp
     have hN:LJ ⟨H,y,L,gb,T⟩ ⟨j+1,jY rows k 0 [rows j 0]⟩:=⟨hj,by dsimp only;rw[hlen];omega,fun i hi=>by
      dsimp only;rw[qF];split
      ·exact x3 j hj
      ·exact x3 i hi,fun i hi=>by
      dsimp only at hi ⊢;rw[hlen]at hi;rw[qF,hsu];by_cases e:i=k
      ·rw[if_pos e,hrow,e,hk,show(stay T L.au L.l j).length=(stay T L.au L.l j).length+0 from rfl,bf];rfl
      ·rw[if_neg e,bJ (by omega)];exact x4 i (by omega),fun i hi hi2=>by
      dsimp only at hi ⊢;rw[qF,if_neg (by omega)];exact x5 i (by omega) hi2⟩
     refine⟨⟨by omega,by omega⟩,by omega,by omega,by omega,⟨j+1,jY rows k 0 [rows j 0]⟩,?_⟩;dsimp only;rw[hlen]
     and_intros<;>first|exact dc|exact hN|exact aj.refl _ _ _|skip
    ·have hkeep:jR T L.au (gl L.l j)=false:=by
      have:(gl L.l j).gen<=T-L.au:=by simpa using c2
      simp only[jR,decide_eq_false_iff_not];omega
     rw[hkeep]at hsu;simp only[Bool.false_eq_true,if_false,List.append_nil]at hsu;have hN:LJ ⟨H,y,L,gb,T⟩ ⟨j+1,rows⟩:=⟨hj,by dsimp only;rw[hsu,<- hk];omega,x3,by dsimp only;rw[hsu,<- hk];exact x4,fun i hi hi2=>x5 i (by dsimp only at hi;omega) hi2⟩
     refine⟨by omega,⟨j+1,rows⟩,?_⟩;dsimp only;rw[hsu,<- hk]
     and_intros<;>first|exact dc|exact hN|exact aj.refl _ _ _|skip
   ·have hj:j=L.l.length:=by have:=of_decide_eq_false c1;omega
    subst hj;have hkn:k<=L.l.length:=by omega
    refine⟨⟨by omega,by omega⟩,by omega,by omega,?_⟩;simp only[Nat.sub_zero];intro b lo cs hb hcs hpr;have hlen:((stay T L.au L.l L.l.length).map (gl y.ys)).length=k:=by rw[List.length_map,hk]
    have hL:(uG T L).l=(stay T L.au L.l L.l.length).map (gl L.l):=hmap.symm;have hll:(uG T L).l.length=k:=by rw[hL,List.length_map,hk]
    have hsubl:((stay T L.au L.l L.l.length).map (gl y.ys)).Sublist y.ys:=by
     have e:((List.range L.l.length).map (gl y.ys))=y.ys:=by rw[<- hl.len,Sv]
     have h:=List.Sublist.map (gl y.ys) (show(stay T L.au L.l L.l.length).Sublist (List.range L.l.length)from List.filter_sublist);rw[e]at h;exact h
    have hsub:=A8 (f:=bw) hsubl;have hbF:b∉y.ys.flatMap bw:=fun e=>by
     have:=hl.dom b (List.mem_append_right _ e);rw[hm b (hFl b e)]at hb;exact this hb
    have hat:bU (aO (aL H y.lv) b lo cs) ⟨eW b lo k cl,(stay T L.au L.l L.l.length).map (gl y.ys)⟩ (uG T L):=by
     refine⟨⟨cl,.inr ⟨b,lo,0,cs,by rw[hll,Nat.add_zero],⟨by rw[hll];omega,u4⟩,dF ..,by rw[hcs];simp,⟨fun i hi q ck hq=>?_⟩⟩⟩,by rw[hll];exact hlen,fun i hi=>?_,?_⟩
     ·rw[hll]at hi;have hq0:q=0:=by have:=(List.getElem?_eq_some_iff.1 hq).1;simpa using this
      subst hq0;have:=hpr.at_ i hi 0 ck hq;rw[if_neg (by omega)]at this;have e:rows i 0=zh ((stay T L.au L.l L.l.length).map (gl y.ys)) i 0:=by
       rw[x4 i hi];show _=pv (gl ((stay T L.au L.l L.l.length).map (gl y.ys)) i).b 0;rw[Gh (by rw[<- hk];exact hi)]
      rw[<- e];exact this
     ·rw[hll]at hi;rw[hL];show n9 _ (gl ((stay T L.au L.l L.l.length).map (gl y.ys)) i) _;rw[Gh (by rw[<- hk];exact hi),Gh (by rw[<- hk];exact hi)];have hi2:=VG (t:=T) (s:=L.au) (l:=L.l) (j:=L.l.length) (i:=i) (by rw[<- hk];exact hi);exact(hseg _ hi2).frame fun x hx=>cD fun e=>hbF (by rw[<- e];exact vv (by rw[hl.len];exact hi2) hx)
     ·show(fB (eW b lo k cl)++((stay T L.au L.l L.l.length).map (gl y.ys)).flatMap bw).Nodup;simp only[fB,eW,List.cons_append,List.nil_append,List.nodup_cons];exact⟨fun e=>hbF (hsub.subset e),n2.sublist hsub⟩
    refine⟨⟨aO (aL H y.lv) b lo cs,⟨eW b lo k cl,(stay T L.au L.l L.l.length).map (gl y.ys)⟩⟩,rfl,rfl,⟨hat,fun x hx hn=>?_⟩,trivial⟩;have hxl:x∉fB y.lv:=fun e=>hn (List.mem_append_left _ e);have hxF:x∉y.ys.flatMap bw:=fun e=>hn (List.mem_append_right _ e);have hxb:x≠b:=fun e=>by rw[<- e,hm x hxl]at hb;exact hx hb
    refine⟨(cD hxb).trans (hm x hxl),?_⟩;simp only[br,fB,eW,List.cons_append,List.nil_append,List.mem_cons,not_or];exact⟨hxb,fun e=>hxF (hsub.subset e)⟩)
theorem SA:ak (Y Tryz.prog).G.X 208 Sy:=aU fF Sz ⟨Su,trivial⟩
def tG(L:bN):List dy:=L.l.filter (jR (bh L).gen L.au)
def iZ(L:bN):bN:={ L with l:=tG L++[bh L] }
def sP(L:bN)(d:bz):bz:=gn (gm d (jQ L (bh L) 0) 64 (pz (bh L) 0 L.run))
structure Jy where
 H:PH
 y:gQ
 L:bN
 d:bz
noncomputable def LK:cC where
 α:=Jy
 β:=mE
 m:=4
 m':=5
 pre:=fun a=>bU a.H a.y a.L/\a.L.l.length<900/\3<=a.L.au/\a.L.au<=200/\a.L.from_+a.L.au*8<=a.d.n/\a.d.n<100000/\a.d.calls<999999999999/\bQ .i64 a.L.next /\
  (bh a.L).gen<1000000000000/\1<=(bh a.L).gen
 args:=fun _=>[.a (.ptr 0 0 0 0)]
 hp:=fun a=>[(0,fS 1 a.L a.y.lv)]++gG 1 2 a.d++[(3,.cA a.H)]
 ro:=fun _=>[]
 post:=fun a b=>bU b.H b.y (iZ a.L)/\∀x,a.H x≠none->x∉br a.y->b.H x=a.H x/\x∉br b.y
 res:=fun _ _=>.a (.lit .i64 0)
 cW:=fun a b=>[(0,fS 1 (iZ a.L) b.y.lv)]++gG 1 2 (sP a.L a.d)++[(4,.cA b.H)]
def Xj:An:=.VF 5 3 0 (.mk 1000 [] [])
def gh:Value:=Value.slice none 0 0
def GL(u:PH)(v s:Value)(t:Nat->Nat->Nat->Nat->List Value->Prop):Nat->Prop:=jH u v CK.deep [] fun x f g=>jP x 8 f fun y=>(y≠0/\0+(x+1)<=x+1)/\∀(w h:Nat) (z:List Value),aL u v w=none->z.length=y*1->(Av z 0 (iN CK.deep) (x+1) fun i j=>aZ g 0 x (jG 1 (bD s)) (0+i) j)->t x y w h z
def kF(y:bz)(z:bz->Prop):bz->Prop:=fun(x:bz)=>ag (gz y x (jF x/\aI (z x)))
def Cy(x:PH)(y:Nat)(z u:Int):PH:=aO x y 0 (bq z (bq u (bq 0 (bS gh (bD gh)))))
def SB(x:Jy)(f:Int):=ah x.L.next->∀v:Nat,x.H v=none->∃u:sN,ag (kC v u.y.b/\aA u.i (gz x.d u.d (ag (tO x.L u.L x.y.lv u.lv (Cy x.H v f x.L.next=u.H/\zf u/\aI (∃z:uF,x.y.lv=z.y.lv/\az (Cy x.H v f x.L.next=z.H/\kC v z.gb/\az (tO x.L z.L x.y.lv z.y.lv (sO z/\∀w:mE,qe w (uG z.t z.L) (fun j=>z.H j) z.y->Exists (GL w.H w.y.lv (Value.pointer (some { block:=v,off:=0 })) fun k l g h m=>Exists (kF (zg u) fun n=>∃s:mE,aW (aO (aL w.H w.y.lv) g h m=s.H/\ag (tO x.L (iZ x.L) (eW g h (k+1) l) s.y.lv (gz (gn n) (sP x.L x.d) (qe s (iZ x.L) (fun o=>x.H o) x.y/\True)))))))))))))))
def wY(y:gQ)(u:Nat->Option (Nat×List Value))(v:Nat->List Value->Prop):=ah (dW (dr y.lv))/\Exists (iM y.lv (dW (dr y.lv)) fun w s=>mF w s (aV (dW (dr y.lv))*1) (fun x=>u x) (fun x=>gA x) (fun x z=>True) fun x z=>v x z)
def iu(y x:Nat)(z:Prop):=y<=x/\x<100000/\z
def GM(x:Jy):=bU x.H x.y x.L/\bB x.L<900/\3<=x.L.au/\x.L.au<=200/\iu (x.L.from_+x.L.au*8) x.d.n (x.d.calls<999999999999/\ah x.L.next/\(bh x.L).gen<(1000000000000:Int)/\(1:Int)<=(bh x.L).gen)
theorem Pt:fnBody (Y Tryz.prog) [(198,GH),(208,Sy),(169,jC)] 195 LK fun _=>[(195,[],[Xj])]:=fnBody.of (p :=
 ∀x:Jy,GM x->ah x.L.next->Exists (eC x.y.lv)/\aY 0 (dr x.y.lv) (wY x.y (fun u=>x.H u) fun u w=>gC (aP w u) 0 (fun z=>x.H z) fun z v=>ah (js (aP v z)+(1:Int))/\(ah (js (aP v z)+(1:Int))->SB x (js (aP v z)+(1:Int)))) (SB x 1)) (by kernel_rfl) (by
 delta aD aP av kA ah bq bW aC gH aF af kz mF bD aX aB dO aV bS SB eC aI jP bB gA gC gh wY jF wX jH iM aA aW ag zf aY GM qe GL az kF iN zg kC dW iu ji jG Cy
 try dsimp -iota -proj only
 rintro⟨H,y,L,d⟩ ⟨hl,h1,h2,h3,h4,h5,h6,h8,h9,h10⟩;dsimp only at *;obtain⟨e1,_,⟨ea,ec,e2⟩,e3,_⟩:=hl.qT;have hgR:bQ .i64 (bh L).gen:=by simp only[bQ];omega
 refine fun _=>⟨⟨ea,_,ec,e2,e3⟩,fun c1=>?_,fun c1=>?_⟩
 ·rw[e1]at c1;have hn:0<L.l.length:=by simpa using c1
  have hk:L.l.length-1<L.l.length:=by omega
  obtain⟨b,lo,o,c,cs,g1,g2,g3,g4⟩:=hl.at_ hk;have hs:=hl.seg _ hk;obtain⟨r1,_,_⟩:=hs.A5;have hng:(bh L).gen=(gl L.l (L.l.length-1)).gen+1:=by
   have:L.l.getLast? = some (gl L.l (L.l.length-1)):=by rw[bR hk,List.getLast?_eq_getElem?,List.getElem?_eq_getElem hk]
   simp only[bh,this]
  simp only[e1];have e5:((L.l.length:Int)-1).toNat=L.l.length-1:=by omega
  refine⟨by simp only[bQ];omega,_,_,_,_,g1,by omega,b,lo,o+(L.l.length-1)*1,cs,by rw[e5,Nat.add_assoc],g2,⟨⟨_,g3,rfl⟩,trivial⟩,?_⟩;refine⟨_,_,g4,?_⟩;refine⟨_,_,rfl,?_⟩;refine⟨_,0,_,_,rfl,hs.cell,?_⟩;refine⟨⟨⟨_,rfl,_,rfl,r1⟩,trivial⟩,fun _=>?_⟩;simp only[cZ,List.getD_cons_zero,js,<- hng];refine⟨hgR,fun _ _=>?_⟩;show ∀b,_;intro b hb;have hsg:=ER (H:=H) (b:=b) h8 hgR;have hl1:bU (aO H b 0 (cZ (bh L) (.slice none 0 0) (.slice none 0 0))) y L:=hl.frame fun x hx=>cD fun e=>hl.dom x hx (by rw[e];exact hb);refine⟨sN.mk (aO H b 0 (cZ (bh L) (.slice none 0 0) (.slice none 0 0))) (newL b) (bh L) 0 L y.lv d,?_⟩
  and_intros<;>first|exact dc|exact hsg|(simp only[bh,List.length_nil];omega)|rfl|skip
  intro _ _;have hbm:∀x,H x≠none->x≠b:=fun x hx e=>hx (by rw[e];exact hb);have hbl:b∉br y:=fun e=>hl.dom b e hb;have hdp:sO ⟨aO H b 0 (cZ (bh L) (.slice none 0 0) (.slice none 0 0)),y,L,b,(bh L).gen⟩:=⟨hl1,by show L.l.length<1000;omega,h3,⟨hgR,by show 0<=(bh L).gen;omega⟩,⟨_,dF ..⟩,hbl⟩
  refine⟨uF.mk (aO H b 0 (cZ (bh L) (.slice none 0 0) (.slice none 0 0))) y L b (bh L).gen,?_⟩
  and_intros<;>first|exact dc|exact hdp|rfl|skip
  rintro⟨H2,y2⟩ ⟨d1,d2⟩;dsimp only at d1 d2 ⊢;obtain⟨q1,q2⟩:=d2 b (by rw[dF];simp) hbl
  have hs2 : fK H2 (newL b) (bh L) := ⟨hsg.frame fun x hx => (by have : x = b := by simpa [newL, bw, fB] using hx
                                                                 subst this;exact q1),by simp[newL,bw,fB]⟩
  have hd2:∀x∈br y2,x∉bw (newL b):=fun x hx e=>by
   have:x=b:=by simpa[newL,bw,fB]using e
   subst this;exact q2 hx
  have hkl:(uG (bh L).gen L).l.length<=L.l.length:=List.length_filter_le _ _;obtain⟨c0,hsl⟩:=d1.IN;refine⟨_,c0,_,hsl,?_⟩
  repeat refine kR ?_
  intro cap hc1 hc2 hc3
  repeat refine kR ?_
  intro b' lo cs' hb' hcs hp;have hba:=GJ (lo:=lo) (L':=iZ L) d1 hs2 hd2 hb' hcs hc1 hc2 hp (by
   intro i hi;simp only[Nat.zero_add,aZ,zh];rw[kE (by rw[d1.len];exact hi),d1.len];by_cases hin:i<(uG (bh L).gen L).l.length
   ·rw[if_pos hin,if_pos hin]
   ·rw[if_neg hin,if_neg hin,show i-(uG (bh L).gen L).l.length=0 by omega];rfl) rfl
  have hfr:∀x,H x≠none->x∉br y->aO (aL H2 y2.lv) b' lo cs' x=H x/\x∉br ⟨eW b' lo ((uG (bh L).gen L).l.length+1) cap,y2.ys++[newL b]⟩:=fun x hx hn=>by
   have hxb:=hbm x hx;have e0:aO H b 0 (cZ (bh L) (.slice none 0 0) (.slice none 0 0)) x=H x:=cD hxb;obtain⟨w1,w2⟩:=d2 x (by rw[e0];exact hx) hn;obtain⟨w3,w4⟩:=hba.2 x (by rw[w1,e0];exact hx) w2 (by simpa[newL,bw,fB]using hxb);exact⟨w3.trans (w1.trans e0),w4⟩
  refine⟨gm d (jQ L (bh L) 0) 64 (pz (bh L) 0 L.run),?_⟩
  and_intros<;>first|exact dc|(simp only[gm];omega)|skip
  intro _ _;refine⟨⟨aO (aL H2 y2.lv) b' lo cs',⟨eW b' lo ((uG (bh L).gen L).l.length+1) cap,y2.ys++[newL b]⟩⟩,?_⟩
  and_intros<;>first|exact dc|exact hba.1|exact hfr|exact Nat.le_refl _|exact aj.refl _ _ _|rfl
 ·rw[e1]at c1;have hn:L.l.length=0:=by have:=of_decide_eq_false c1;omega
  have hng:(bh L).gen=1:=by
   have:L.l=[]:=List.eq_nil_of_length_eq_zero hn;simp only[bh,this];rfl
  rw[<- hng];intro _;intro b hb;have hsg:=ER (H:=H) (b:=b) h8 hgR;have hl1:bU (aO H b 0 (cZ (bh L) (.slice none 0 0) (.slice none 0 0))) y L:=hl.frame fun x hx=>cD fun e=>hl.dom x hx (by rw[e];exact hb);refine⟨sN.mk (aO H b 0 (cZ (bh L) (.slice none 0 0) (.slice none 0 0))) (newL b) (bh L) 0 L y.lv d,?_⟩
  and_intros<;>first|exact dc|exact hsg|(simp only[bh,List.length_nil];omega)|rfl|skip
  intro _ _;have hbm:∀x,H x≠none->x≠b:=fun x hx e=>hx (by rw[e];exact hb);have hbl:b∉br y:=fun e=>hl.dom b e hb;have hdp:sO ⟨aO H b 0 (cZ (bh L) (.slice none 0 0) (.slice none 0 0)),y,L,b,(bh L).gen⟩:=⟨hl1,by show L.l.length<1000;omega,h3,⟨hgR,by show 0<=(bh L).gen;omega⟩,⟨_,dF ..⟩,hbl⟩
  refine⟨uF.mk (aO H b 0 (cZ (bh L) (.slice none 0 0) (.slice none 0 0))) y L b (bh L).gen,?_⟩
  and_intros<;>first|exact dc|exact hdp|rfl|skip
  rintro⟨H2,y2⟩ ⟨d1,d2⟩;dsimp only at d1 d2 ⊢;obtain⟨q1,q2⟩:=d2 b (by rw[dF];simp) hbl
  have hs2 : fK H2 (newL b) (bh L) := ⟨hsg.frame fun x hx => (by have : x = b := by simpa [newL, bw, fB] using hx
                                                                 subst this;exact q1),by simp[newL,bw,fB]⟩
  have hd2:∀x∈br y2,x∉bw (newL b):=fun x hx e=>by
   have:x=b:=by simpa[newL,bw,fB]using e
   subst this;exact q2 hx
  have hkl:(uG (bh L).gen L).l.length<=L.l.length:=List.length_filter_le _ _;obtain⟨c0,hsl⟩:=d1.IN;refine⟨_,c0,_,hsl,?_⟩
  repeat refine kR ?_
  intro cap hc1 hc2 hc3
  repeat refine kR ?_
  intro b' lo cs' hb' hcs hp;have hba:=GJ (lo:=lo) (L':=iZ L) d1 hs2 hd2 hb' hcs hc1 hc2 hp (by
   intro i hi;simp only[Nat.zero_add,aZ,zh];rw[kE (by rw[d1.len];exact hi),d1.len];by_cases hin:i<(uG (bh L).gen L).l.length
   ·rw[if_pos hin,if_pos hin]
   ·rw[if_neg hin,if_neg hin,show i-(uG (bh L).gen L).l.length=0 by omega];rfl) rfl
  have hfr:∀x,H x≠none->x∉br y->aO (aL H2 y2.lv) b' lo cs' x=H x/\x∉br ⟨eW b' lo ((uG (bh L).gen L).l.length+1) cap,y2.ys++[newL b]⟩:=fun x hx hn=>by
   have hxb:=hbm x hx;have e0:aO H b 0 (cZ (bh L) (.slice none 0 0) (.slice none 0 0)) x=H x:=cD hxb;obtain⟨w1,w2⟩:=d2 x (by rw[e0];exact hx) hn;obtain⟨w3,w4⟩:=hba.2 x (by rw[w1,e0];exact hx) w2 (by simpa[newL,bw,fB]using hxb);exact⟨w3.trans (w1.trans e0),w4⟩
  refine⟨gm d (jQ L (bh L) 0) 64 (pz (bh L) 0 L.run),?_⟩
  and_intros<;>first|exact dc|(simp only[gm];omega)|skip
  intro _ _;refine⟨⟨aO (aL H2 y2.lv) b' lo cs',⟨eW b' lo ((uG (bh L).gen L).l.length+1) cap,y2.ys++[newL b]⟩⟩,?_⟩
  and_intros<;>first|exact dc|exact hba.1|exact hfr|exact Nat.le_refl _|exact aj.refl _ _ _|rfl)
theorem Pu:ak (Y Tryz.prog).G.X 195 LK:=aU fF Pt ⟨EP,SA,iG,trivial⟩
def jS(L:bN):dy:=gl L.l (L.l.length-1)
def qG(L:bN)(n:Nat):Bool:=decide (L.l.length=0)||decide (370<(jS L).buf.length+n)
def dx(L:bN)(n:Nat):bN:=if qG L n then iZ L else L
def kG(L:bN)(d:bz)(n:Nat):bz:=if qG L n then sP L d else d
def Jz(n:Nat)(next:Int):List Int:=[uw .u8 (uw .u64 (n:Int)/256),uw .u8 (uw .u64 (n:Int)/1),uw .u8 (uw .u64 next/1099511627776),uw .u8 (uw .u64 next/4294967296),uw .u8 (uw .u64 next/16777216),uw .u8 (uw .u64 next/65536),uw .u8 (uw .u64 next/256),uw .u8 (uw .u64 next/1)]
def qU(g:dy)(next:Int)(body:List Int):List Int:=g.buf++Jz body.length next++body
def JA(g:dy)(next:Int)(body:List Int):dy:={ g with buf:=qU g next body }
def LL(g:dy)(next:Int)(body:List Int):dy:={ g with buf:=qU g next body,aR:=g.aR++[⟨next,body⟩] }
def tH(was now i:Nat):Bool:=decide (was<bZ (i+1))&&decide (bZ i<now)
def dg(L:bN)(g:dy)(was:Nat)(d:bz):Nat->bz
 |0=>d
 |i+1=>if tH was g.buf.length i then gm (dg L g was d i) (jQ L g i) 64 (pz g i L.run)else dg L g was d i
def NV(L:bN)(g:dy):bN:={ L with l:=L.l.set (L.l.length-1) g }
def JB(L:bN)(body:List Int):bN:={ NV L (LL (jS L) L.next body)with next:=L.next+1,fresh:=false }
def qH(L:bN)(d:bz)(body:List Int):bz:=dg L (JA (jS L) L.next body) (jS L).buf.length d 8
def lU(L:bN)(body:List Int):bN:=JB (dx L body.length) body
def oa(L:bN)(d:bz)(body:List Int):bz:=if(dx L body.length).fresh then gn (qH (dx L body.length) (kG L d body.length) body)else qH (dx L body.length) (kG L d body.length) body
def Step(H:PH)(v:Value)(H':PH)(v':Value):Prop:=∀x,H x≠none->x∉fB v->H' x=H x/\x∉fB v'
theorem Step.trans{H H' H'':PH}{v v' v'':Value}(h:Step H v H' v')(k:Step H' v' H'' v''):Step H v H'' v'':=fun x hx hv=>by
 obtain⟨h1,h2⟩:=h x hx hv;obtain⟨k1,k2⟩:=k x (by rw[h1];exact hx) h2;exact⟨k1.trans h1,k2⟩
theorem rP{H:PH}{v:Value}{b lo l c:Nat}{cs:List Value}(h:aL H v b=none):Step H v (aO (aL H v) b lo cs) (eW b lo l c):=fun x hx hv=>by
 have hxb:x≠b:=fun e=>by rw[<- e,kD hv]at h;exact hx h
 exact⟨by rw[cD hxb,kD hv],by simp[fB,eW,hxb]⟩
theorem JC{H:PH}{b lo l c:Nat}{cs:List Value}(h:H b=none):Step H (.slice none 0 0) (aO H b lo cs) (eW b lo l c):=rP (H:=H) (v:=.slice none 0 0) h
theorem mI{H:PH}{b lo l c:Nat}{ks:List CK}{cs:List Value}{rows rows':Nat->Nat->Value}(hl:cs.length=c*ks.length)(h1:l<=c)(h2:c<=aq)(hp:Av cs 0 ks l rows)(he:∀i,i<l->∀j,j<ks.length->rows i j=rows' i j):jZ (aO H b lo cs) (eW b lo l c) ks l c rows' :=
 .inr ⟨b,lo,0,cs,by rw[Nat.add_zero],⟨h1,h2⟩,dF ..,by omega,⟨fun i hi j k hj=>by
  have:=hp.at_ i hi j k hj;rw[he i hi j (List.getElem?_eq_some_iff.1 hj).1]at this;exact this⟩⟩
theorem zk(v:Value):(fB v).Nodup:=by
 unfold fB;split<;>simp
def Fr(H:PH)(y:mC)(H':PH)(y':mC):Prop:=∀x,H x≠none->x∉bw y->H' x=H x/\x∉bw y'
theorem Fr.trans{H H' H'':PH}{y y' y'':mC}(h:Fr H y H' y')(k:Fr H' y' H'' y''):Fr H y H'' y'':=fun x hx hv=>by
 obtain⟨h1,h2⟩:=h x hx hv;obtain⟨k1,k2⟩:=k x (by rw[h1];exact hx) h2;exact⟨k1.trans h1,k2⟩
theorem Cz{y:mC}:(bw y).Nodup↔(y.b∉fB y.bv/\y.b∉fB y.rv/\y.b∉y.vs.flatMap fB)/\(∀x∈fB y.bv,x∉fB y.rv/\x∉y.vs.flatMap fB)/\(∀x∈fB y.rv,x∉y.vs.flatMap fB)/\(y.vs.flatMap fB).Nodup:=by
 unfold bw;rw[List.nodup_cons,List.nodup_append,List.nodup_append];have a1:=zk y.bv;have a2:=zk y.rv;simp only[List.mem_append,not_or,a1,a2,true_and];constructor
 ·rintro⟨h1,⟨h3,h4⟩,h2⟩;exact⟨h1,fun x hx=>⟨fun e=>h2 x hx x (.inl e) rfl,fun e=>h2 x hx x (.inr e) rfl⟩,fun x hx e=>h4 x hx x e rfl,h3⟩
 ·rintro⟨h1,h2,h3,h4⟩;refine⟨h1,⟨h4,fun a ha b hb e=>h3 a ha (by rw[e];exact hb)⟩,fun a ha b hb e=>?_⟩;subst e;rcases hb with hb|hb
  ·exact(h2 a ha).1 hb
  ·exact(h2 a ha).2 hb
theorem wZ{X0 X2:PH}{y:mC}{g:dy}{v2:Value}{buf:List Int}(h:fK X0 y g)(hs:Step X0 y.bv X2 v2)(hb:fu X2 v2 buf) :
 X2 y.b=some (0,cZ g y.bv y.rv)/\fK (aO X2 y.b 0 (cZ { g with buf:=buf } v2 y.rv)) { y with bv:=v2 } { g with buf:=buf }/\Fr X0 y (aO X2 y.b 0 (cZ { g with buf:=buf } v2 y.rv)) { y with bv:=v2 }:=by
 have hd:=h.at_.dom;obtain⟨⟨n1,n2,n3⟩,n4,n5,n6⟩:=Cz.1 h.nd;have s1:∀x∈bw y,x∉fB y.bv->X2 x=X0 x/\x∉fB v2:=fun x hx hv=>hs x (hd x hx) hv;have hbm:y.b∈bw y:=List.mem_cons_self;obtain⟨c1,c2⟩:=s1 y.b hbm n1;have hrv:∀x∈fB y.rv,x∈bw y/\x∉fB y.bv:=fun x hx=>⟨by simp[bw,hx],fun e=>(n4 x e).1 hx⟩
 have hvs:∀x∈y.vs.flatMap fB,x∈bw y/\x∉fB y.bv:=fun x hx=>⟨List.mem_cons_of_mem _ (List.mem_append_right _ (List.mem_append_right _ hx)),fun e=>(n4 x e).2 hx⟩
 have same:∀x,x≠y.b->(x∈fB y.rv\/x∈y.vs.flatMap fB)->aO X2 y.b 0 (cZ { g with buf:=buf } v2 y.rv) x=X0 x:=fun x hx h=>by
  rw[cD hx];rcases h with h|h
  ·exact(s1 x (hrv x h).1 (hrv x h).2).1
  ·exact(s1 x (hvs x h).1 (hvs x h).2).1
 refine⟨c1.trans h.at_.cell,⟨⟨dF ..,h.at_.A5,hb.frame fun x hx=>cD fun e=>c2 (by rw[<- e];exact hx),?_,h.at_.len,fun i hi=>(h.at_.body i hi).frame fun x hx=>?_⟩,?_⟩,?_⟩
 ·obtain⟨c,hr⟩:=h.at_.aR;exact⟨c,iL hr fun x hx=>same x (fun e=>n2 (by rw[<- e];exact hx)) (.inl hx)⟩
 ·have hm:x∈y.vs.flatMap fB:=by
   refine List.mem_flatMap.2 ⟨_,?_,hx⟩;have hl:=h.at_.len;have hi':i<g.aR.length:=hi;rw[List.getD_eq_getElem?_getD,List.getElem?_eq_getElem (by omega)];exact List.getElem_mem _
  exact same x (fun e=>n3 (by rw[<- e];exact hm)) (.inr hm)
 ·refine Cz.2 ⟨⟨c2,n2,n3⟩,fun x hx=>⟨fun e=>?_,fun e=>?_⟩,n5,n6⟩
  ·exact(s1 x (hrv x e).1 (hrv x e).2).2 hx
  ·exact(s1 x (hvs x e).1 (hvs x e).2).2 hx
 ·intro x hx hn;simp only[bw,List.mem_cons,List.mem_append,not_or]at hn ⊢;obtain⟨a1,a2⟩:=hs x hx hn.2.1;exact⟨by rw[cD hn.1,a1],hn.1,a2,hn.2.2⟩
theorem AE{X3 X4 X5:PH}{y:mC}{g:dy}{v3 v4:Value}{r:RecM}(h:fK X3 y g)(hs:Step X3 (.slice none 0 0) X4 v3)(hb:fu X4 v3 r.body)(hs2:Step X4 y.rv X5 v4)
 (hd4:∀x∈fB v3,X4 x≠none) (hr:∃c,jZ X5 v4 rO (g.aR.length+1) c (uE (g.aR++[r]) (y.vs++[v3]))) :
 X4 y.b=some (0,cZ g y.bv y.rv)/\X5 y.b=some (0,cZ g y.bv y.rv)/\fK (aO X5 y.b 0 (cZ { g with aR:=g.aR++[r] } y.bv v4)) ⟨y.b,y.bv,v4,y.vs++[v3]⟩ { g with aR:=g.aR++[r] } /\
 Fr X3 y (aO X5 y.b 0 (cZ { g with aR:=g.aR++[r] } y.bv v4)) ⟨y.b,y.bv,v4,y.vs++[v3]⟩:=by
 have hd:=h.at_.dom;obtain⟨⟨n1,n2,n3⟩,n4,n5,n6⟩:=Cz.1 h.nd;have s1:∀x,X3 x≠none->X4 x=X3 x/\x∉fB v3:=fun x hx=>hs x hx (by simp[fB]);have s2:∀x,X3 x≠none->x∉fB y.rv->X5 x=X3 x/\x∉fB v3/\x∉fB v4:=fun x hx hv=>by
  obtain⟨a1,a2⟩:=s1 x hx;obtain⟨b1,b2⟩:=hs2 x (by rw[a1];exact hx) hv;exact⟨b1.trans a1,a2,b2⟩
 have hbm:y.b∈bw y:=List.mem_cons_self;have hbv:∀x∈fB y.bv,x∈bw y/\x∉fB y.rv:=fun x hx=>⟨by simp[bw,hx],(n4 x hx).1⟩
 have hvs:∀x∈y.vs.flatMap fB,x∈bw y/\x∉fB y.rv:=fun x hx=>⟨List.mem_cons_of_mem _ (List.mem_append_right _ (List.mem_append_right _ hx)),fun e=>n5 x e hx⟩
 have hrv:∀x∈fB y.rv,x∈bw y:=fun x hx=>by simp[bw,hx]
 obtain⟨c1,c2,c3⟩:=s2 y.b (hd _ hbm) n2;have hv3rv:∀x∈fB v3,x∉fB y.rv:=fun x hx e=>(s1 x (hd x (hrv x e))).2 hx;have hv3:∀x∈fB v3,X5 x=X4 x/\x∉fB v4:=fun x hx=>hs2 x (hd4 x hx) (hv3rv x hx);have same:∀x∈bw y,x≠y.b->x∉fB y.rv->aO X5 y.b 0 (cZ { g with aR:=g.aR++[r] } y.bv v4) x=X3 x:=fun x hx h1 h2=>by
  rw[cD h1];exact(s2 x (hd x hx) h2).1
 have hl:=h.at_.len;refine⟨(s1 _ (hd _ hbm)).1.trans h.at_.cell,c1.trans h.at_.cell,⟨⟨dF ..,h.at_.A5,h.at_.buf.frame fun x hx=>same x (hbv x hx).1 (fun e=>n1 (by rw[<- e];exact hx)) (hbv x hx).2,?_,?_,?_⟩,?_⟩,?_⟩
 ·obtain⟨c,hr⟩:=hr;refine⟨c,?_⟩;simp only[List.length_append,List.length_singleton];exact iL hr fun x hx=>cD fun e=>c3 (by rw[<- e];exact hx)
 ·simp[hl]
 ·intro i hi;simp only[List.length_append,List.length_singleton]at hi;show fu _ ((y.vs++[v3]).getD i undef) (gl (g.aR++[r]) i).body;rw[kE hi];by_cases hin:i<g.aR.length
  ·rw[if_pos hin];have e1:(y.vs++[v3]).getD i undef=y.vs.getD i undef:=by
    rw[List.getD_eq_getElem?_getD,List.getElem?_append_left (by omega),List.getD_eq_getElem?_getD]
   rw[e1];refine(h.at_.body i hin).frame fun x hx=>?_;have hm:x∈y.vs.flatMap fB:=by
    refine List.mem_flatMap.2 ⟨_,?_,hx⟩;rw[List.getD_eq_getElem?_getD,List.getElem?_eq_getElem (by omega)];exact List.getElem_mem _
   exact same x (hvs x hm).1 (fun e=>n3 (by rw[<- e];exact hm)) (hvs x hm).2
  ·rw[if_neg hin];have e1:(y.vs++[v3]).getD i undef=v3:=by
    rw[List.getD_eq_getElem?_getD,List.getElem?_append_right (by omega),show i-y.vs.length=0 by omega];rfl
   rw[e1];refine hb.frame fun x hx=>?_;rw[cD (fun e=>c2 (by rw[<- e];exact hx)),(hv3 x hx).1]
 ·refine Cz.2 ⟨⟨n1,c3,?_⟩,fun x hx=>⟨?_,?_⟩,fun x hx=>?_,?_⟩
  ·simp only[List.flatMap_append,List.mem_append,not_or];exact⟨n3,by simpa using c2⟩
  ·exact(s2 x (hd x (hbv x hx).1) (hbv x hx).2).2.2
  ·simp only[List.flatMap_append,List.mem_append,not_or];exact⟨(n4 x hx).2,by simpa using(s2 x (hd x (hbv x hx).1) (hbv x hx).2).2.1⟩
  ·simp only[List.flatMap_append,List.mem_append,not_or];exact⟨fun e=>(s2 x (hd x (hvs x e).1) (hvs x e).2).2.2 hx,fun e=>(hv3 x (by simpa using e)).2 hx⟩
  ·simp only[List.flatMap_append,List.nodup_append];refine⟨n6,by simpa using zk v3,fun a ha b hb e=>?_⟩;subst e;exact(s1 a (hd a (hvs a ha).1)).2 (by simpa using hb)
 ·intro x hx hn;simp only[bw,List.mem_cons,List.mem_append,not_or]at hn;obtain⟨a1,a2,a3⟩:=s2 x hx hn.2.2.1;refine⟨by rw[cD hn.1,a1],?_⟩;simp only[bw,List.mem_cons,List.mem_append,not_or,List.flatMap_append];exact⟨hn.1,hn.2.1,a3,hn.2.2.2,by simpa using a2⟩
theorem uH{α β:Type}{f:α->List β}:∀ {l:List α} {a:α},a∈l->(f a).Sublist (l.flatMap f)
 |[],_,h=>by cases h
 |x::r,a,h=>by
  rw[List.flatMap_cons];rcases List.mem_cons.1 h with rfl|h
  ·exact List.sublist_append_left _ _
  ·exact(uH h).trans (List.sublist_append_right _ _)
theorem bU.YI{H:PH}{y:gQ}{L:bN}(h:bU H y L){k:Nat}(hk:k<L.l.length):fK H (gl y.ys k) (gl L.l k):=by
 refine⟨h.seg k hk,?_⟩;have hk':k<y.ys.length:=by rw[h.len];exact hk
 refine(List.nodup_append.1 h.nd).2.1.sublist (uH ?_);rw[bR hk'];exact List.getElem_mem _
theorem LM{α:Type}[Inhabited α]{l:List α}{k i:Nat}{x:α}(hi:i<l.length):gl (l.set k x) i=if i=k then x else gl l i:=by
 unfold gl;rw[List.getD_eq_getElem?_getD,List.getElem?_set];by_cases h:i=k
 ·subst h;simp[hi]
 ·rw[if_neg (fun e=>h e.symm),if_neg h,List.getD_eq_getElem?_getD]
theorem bU.set{H H':PH}{y:gQ}{L:bN}{k:Nat}{sl:mC}{g:dy}(h:bU H y L)(hk:k<L.l.length)(hb:sl.b=(gl y.ys k).b)(hg:fK H' sl g)(hf:Fr H (gl y.ys k) H' sl) :
 bU H' ⟨y.lv,y.ys.set k sl⟩ { L with l:=L.l.set k g }/\∀x,H x≠none->x∉br y->H' x=H x/\x∉br ⟨y.lv,y.ys.set k sl⟩:=by
 have hk':k<y.ys.length:=by rw[h.len];exact hk
 have hd:=h.dom;obtain⟨A,B,e1,e2,hA⟩:∃A B,y.ys=A++gl y.ys k::B/\y.ys.set k sl=A++sl::B/\A.length=k:=by
  refine⟨y.ys.take k,y.ys.drop (k+1),?_,?_,by simp;omega⟩
  ·rw[bR hk'];simp
  ·rw[List.set_eq_take_append_cons_drop,if_pos hk']
 obtain⟨s,hs⟩:∃s,s=gl y.ys k:=⟨_,rfl⟩
 rw[<- hs]at e1 hb hf;have F1:y.ys.flatMap bw=A.flatMap bw++(bw s++B.flatMap bw):=by rw[e1];simp
 have F2:(y.ys.set k sl).flatMap bw=A.flatMap bw++(bw sl++B.flatMap bw):=by rw[e2];simp
 have hnd:=h.nd;rw[F1]at hnd;simp only[List.nodup_append,List.mem_append]at hnd;obtain⟨n1,⟨n2,⟨n3,n4,n5⟩,n6⟩,n7⟩:=hnd;have oV:∀x∈fB y.lv,H' x=H x/\x∉bw sl:=fun x hx=>hf x (hd x (List.mem_append_left _ hx)) fun e=>n7 x hx x (.inr (.inl e)) rfl;have oA:∀x∈A.flatMap bw,H' x=H x/\x∉bw sl:=fun x hx=>hf x (hd x (List.mem_append_right _ (by rw[F1];exact List.mem_append_left _ hx))) fun e=>n6 x hx x (.inl e) rfl;have oB:∀x∈B.flatMap bw,H' x=H x/\x∉bw sl:=fun x hx=>hf x (hd x (List.mem_append_right _ (by rw[F1];exact List.mem_append_right _ (List.mem_append_right _ hx)))) fun e=>n5 x e x hx rfl;refine⟨⟨?_,by simp[h.len],?_,?_⟩,?_⟩
 ·obtain⟨c,hl⟩:=h.IN;refine⟨c,?_⟩;simp only[List.length_set];have hl2:=iL (H':=H') hl fun x hx=>(oV x hx).1;have he:∀i,i<L.l.length->zh y.ys i 0=zh (y.ys.set k sl) i 0:=fun i hi=>by
   simp only[zh];rw[LM (by rw[h.len];exact hi)];by_cases hik:i=k
   ·subst hik;rw[if_pos rfl,hb,hs]
   ·rw[if_neg hik]
  rcases hl2 with hz | ⟨b,lo,o,cs,g1,g2,g3,g4,g5⟩
  ·exact .inl hz
  ·refine .inr ⟨b,lo,o,cs,g1,g2,g3,g4,⟨fun i hi j q hj=>?_⟩⟩;have hj0:j=0:=by have:=(List.getElem?_eq_some_iff.1 hj).1;simpa using this
   subst hj0;have:=g5.at_ i hi 0 q hj;rw[he i hi]at this;exact this
 ·intro i hi;simp only[List.length_set]at hi;show n9 H' (gl (y.ys.set k sl) i) (gl (L.l.set k g) i);rw[LM (by rw[h.len];exact hi),LM hi];by_cases hik:i=k
  ·rw[if_pos hik,if_pos hik];exact hg.at_
  ·rw[if_neg hik,if_neg hik];refine(h.seg i hi).frame fun x hx=>?_;have hm:gl y.ys i∈A\/gl y.ys i∈B:=by
    have hi':i<y.ys.length:=by rw[h.len];exact hi
    have e3:gl y.ys i=gl (A++s::B) i:=by rw[<- e1]
    rcases Nat.lt_or_ge i k with hlt|hge
    ·left;rw[e3,bJ (by omega),bR (by omega)];exact List.getElem_mem _
    ·right;have hlen:y.ys.length=A.length+(B.length+1):=by rw[e1];simp
     rw[e3,show i=A.length+((i-k-1)+1)by omega,bf];have:gl (s::B) (i-k-1+1)=gl B (i-k-1):=by simp[gl]
     rw[this,bR (by omega)];exact List.getElem_mem _
   rcases hm with hm|hm
   ·exact(oA x (List.mem_flatMap.2 ⟨_,hm,hx⟩)).1
   ·exact(oB x (List.mem_flatMap.2 ⟨_,hm,hx⟩)).1
 ·show(fB y.lv++(y.ys.set k sl).flatMap bw).Nodup;rw[F2];simp only[List.nodup_append,List.mem_append];refine⟨n1,⟨n2,⟨hg.nd,n4,fun a ha b hb e=>?_⟩,fun a ha b hb e=>?_⟩,fun a ha b hb e=>?_⟩
  ·subst e;exact(oB a hb).2 ha
  ·subst e;rcases hb with hb|hb
   ·exact(oA a ha).2 hb
   ·exact n6 a ha a (.inr hb) rfl
  ·subst e;rcases hb with hb|hb|hb
   ·exact n7 a ha a (.inl hb) rfl
   ·exact(oV a ha).2 hb
   ·exact n7 a ha a (.inr (.inr hb)) rfl
 ·intro x hx hn;have hn1:x∉fB y.lv:=fun e=>hn (List.mem_append_left _ e);have hn2:x∉A.flatMap bw/\x∉bw s/\x∉B.flatMap bw:=by
   have:x∉y.ys.flatMap bw:=fun e=>hn (List.mem_append_right _ e);rw[F1]at this;simpa only[List.mem_append,not_or]using this
  obtain⟨a1,a2⟩:=hf x hx hn2.2.1;refine⟨a1,?_⟩;show x∉fB y.lv++(y.ys.set k sl).flatMap bw;rw[F2];simp only[List.mem_append,not_or];exact⟨hn1,hn2.1,a2,hn2.2.2⟩
def JD(s:S):Nat:=match r8 s.hp with|some t=>t|none=>0
def S.log(s:S)(slot:Nat)(L:bN)(lv:Value)(d:bz)(H:PH):S :=
 (fun(q:S)=>(q.put (q.hp.del (JD q))).new (.cA H))
  (((s.at_ (s.tg slot) (fS (s.pK (s.tg slot) 0) L lv)).at_ (s.pK (s.tg slot) 0) (.obj 116 [.slc (s.pK (s.pK (s.tg slot) 0) 0) 0 129 d.n d.n,.int .i64 d.calls])).at_ (s.pK (s.pK (s.tg slot) 0) 0) (.arr 158 Cj d.n (fo d)))
def S.dev(s:S)(td:Nat)(d:bz):S:=(s.at_ td (.obj 116 [.slc (s.pK td 0) 0 129 d.n d.n,.int .i64 d.calls])).at_ (s.pK td 0) (.arr 158 Cj d.n (fo d))
structure uI(L:bN)(d:bz):Prop where
 x7:L.l.length<800
 au:3<=L.au/\L.au<=200
 room:L.from_+L.au*8<=d.n
 size:d.n<100000
 calls:d.calls<900000000000
 next:0<=L.next/\L.next<100000000000
 gen:∀i,i<L.l.length->1<=(gl L.l i).gen/\(gl L.l i).gen<100000000000
 buf:∀i,i<L.l.length->(gl L.l i).buf.length<=378
 aR:∀i,i<L.l.length->(gl L.l i).aR.length*9<=(gl L.l i).buf.length
structure ZG(L L1:bN)(d d1:bz)(n:Nat):Prop where
 pos:1<=L1.l.length
 x7:L1.l.length<=801
 from_:L1.from_=L.from_
 au:L1.au=L.au
 next:L1.next=L.next
 run:L1.run=L.run
 fresh:L1.fresh=L.fresh
 dn:d1.n=d.n
 calls:d1.calls<=d.calls+2
 gen:∀i,i<L1.l.length->1<=(gl L1.l i).gen/\(gl L1.l i).gen<=100000000000
 buf:∀i,i<L1.l.length->(gl L1.l i).buf.length<=378
 aR:∀i,i<L1.l.length->(gl L1.l i).aR.length*9<=(gl L1.l i).buf.length
 last:(jS L1).buf.length+n<=370
theorem CA{L:bN}{d:bz}(ok:uI L d):1<=(bh L).gen/\(bh L).gen<=100000000000:=by
 by_cases h:L.l.length=0
 ·have:L.l=[]:=List.eq_nil_of_length_eq_zero h;simp only[bh,this,List.getLast?_nil];omega
 ·have hk:L.l.length-1<L.l.length:=by omega
  have e:L.l.getLast? = some (gl L.l (L.l.length-1)):=by rw[bR hk,List.getLast?_eq_getElem?,List.getElem?_eq_getElem hk]
  have:=ok.gen _ hk;simp only[bh,e];omega
theorem zl{L:bN}{i:Nat}(h:i<(tG L).length):∃j,j<L.l.length/\gl (tG L) i=gl L.l j:=by
 have hm:gl (tG L) i∈L.l:=by rw[bR h];exact(List.mem_filter.1 (List.getElem_mem h)).1
 obtain⟨j,hj,e⟩:=List.getElem_of_mem hm;exact⟨j,hj,by rw[bR hj];exact e.symm⟩
theorem SC(L:bN):(tG L).length<=L.l.length:=List.length_filter_le _ _
theorem JE{L:bN}{d:bz}{n:Nat}(ok:uI L d)(hn:n<=300):ZG L (dx L n) d (kG L d n) n:=by
 have hf:=ok.x7;cases hB:qG L n with
 |false =>
  rw[show dx L n=L from if_neg (by rw[hB];decide),show kG L d n=d from if_neg (by rw[hB];decide)];simp only[qG,Bool.or_eq_false_iff,decide_eq_false_iff_not]at hB;exact⟨by omega,by omega,rfl,rfl,rfl,rfl,rfl,rfl,by omega,fun i hi=>by have:=ok.gen i hi;omega,ok.buf,ok.aR,by omega⟩
 |true =>
  rw[show dx L n=iZ L from if_pos hB,show kG L d n=sP L d from if_pos hB];have hln:(iZ L).l.length=(tG L).length+1:=by simp[iZ]
  have hkl:=SC L;have hg:=CA ok;have hgl:∀i,i<(tG L).length+1->gl (iZ L).l i=if i<(tG L).length then gl (tG L) i else bh L:=fun i hi=>by simp only[iZ];exact kE hi
  refine⟨by omega,by omega,rfl,rfl,rfl,rfl,rfl,rfl,by simp[sP,gn,gm],fun i hi=>?_,fun i hi=>?_,fun i hi=>?_,?_⟩
  ·rw[hgl i (by omega)];split
   ·obtain⟨j,hj,e⟩:=zl (L:=L) (i:=i) (by assumption);rw[e];have:=ok.gen j hj;omega
   ·exact hg
  ·rw[hgl i (by omega)];split
   ·obtain⟨j,hj,e⟩:=zl (L:=L) (i:=i) (by assumption);rw[e];exact ok.buf j hj
   ·simp[bh]
  ·rw[hgl i (by omega)];split
   ·obtain⟨j,hj,e⟩:=zl (L:=L) (i:=i) (by assumption);rw[e];exact ok.aR j hj
   ·simp[bh]
  ·have:jS (iZ L)=bh L:=by
    show gl (iZ L).l ((iZ L).l.length-1)=_;rw[hgl _ (by omega),if_neg (by omega)]
   rw[this];simp[bh];omega
theorem sQ(L:bN)(g:dy)(was:Nat)(d:bz):∀i,(dg L g was d i).n=d.n/\(dg L g was d i).calls<=d.calls+i
 |0=>⟨rfl,Nat.le_refl _⟩
 |i+1=>by
  have:=sQ L g was d i;unfold dg;split
  ·simp only[gm];omega
  ·omega
structure qV where
 H:PH
 y:gQ
 L:bN
 d:bz
 body:List Int
 cap:Nat
noncomputable def Bs:cC where
 α:=qV
 β:=mE
 m:=5
 m':=6
 pre:=fun a=>bU a.H a.y a.L/\uI a.L a.d/\1<=a.body.length/\a.body.length<=300
 args:=fun a=>[.a (.ptr 0 0 0 0),.a (.slc 4 0 1 a.body.length a.cap)]
 hp:=fun a=>[(0,fS 1 a.L a.y.lv)]++gG 1 2 a.d++[(3,.cA a.H)]
 ro:=fun a=>jh 4 a.body
 post:=fun a b=>bU b.H b.y (lU a.L a.body)/\∀x,a.H x≠none->x∉br a.y->b.H x=a.H x/\x∉br b.y
 res:=fun a _=>.mm [.a (.int .i64 a.L.next),.a (.lit .i64 0)]
 cW:=fun a b=>[(0,fS 1 (lU a.L a.body) b.y.lv)]++gG 1 2 (oa a.L a.d a.body)++[(5,.cA b.H)]
def WA(a:qV):An:=.flat 17 Nat (fun s i=>S.dev (s.int 95 i) (s.pK (s.tg 0) 0) (dg (dx a.L a.body.length) (JA (jS (dx a.L a.body.length)) a.L.next a.body) (jS (dx a.L a.body.length)).buf.length (kG a.L a.d a.body.length) i)) (fun _ i=>i<=8) (fun _ i=>8-i)
def YJ(a:qV):An:=.mk 10 (PH×gQ) (fun s x=>S.log s 0 (dx a.L a.body.length) x.2.lv (kG a.L a.d a.body.length) x.1) (fun _ x=>bU x.1 x.2 (dx a.L a.body.length)/\∀z,a.H z≠none->z∉br a.y->x.1 z=a.H z/\z∉br x.2) (fun _ _=>0) fun _=>.mk 1000 [WA a] []
def qf(x:Nat)(y z:List Value)(u:Nat):List Value:=List.take x y++z++List.drop (x+u) y
def zm(y:Nat)(z x:List Value):List Value:=qf y z x x.length
def jw(x:Nat)(y:List Value)(z u v w s:Nat):List Value:=zm x y (bD (Value.slice (some { block:=z,off:=u }) (v+w) s))
def ET(x y:Int):Int:=uw .u8 (cQ x/y)
def AF(x y w s:Nat)(t:Nat->Option (Nat×List Value))(f:Nat)(g:IntKind)(h:List CK)(i j:Nat->Nat->Value)(k:Nat->Nat->Nat->List Value->Prop):=gH x y w s fun z=>(z≠0/\0+(x+y)<=x+y)/\∀(v l:Nat) (u:List Value),t v=none->u.length=z*f->(Av u 0 (CK.int g::h) (x+y) fun m n=>aZ i 0 x j (0+m) n)->k z v l u
def CB(y:Nat)(x:bN)(z:Nat)(u:Value)(v:gQ)(w s:Int)(t:Bool)(f:Prop):=bA y x.from_/\bA z x.au/\u=v.lv/\w=x.next/\s=x.run/\t=x.fresh/\f
def sR(x:qV):Int:=(dx x.L (av x.body)).next+(1:Int)
def w8(z:mE)(x:qV):=qe z (lU x.L x.body) (fun u=>x.H u) x.y
def JF(x:qV)(u:PH)(v:PH×gQ)(w:Bool)(s:bz):=∃z:mE,sR x-(1:Int)=x.L.next/\aW (u=z.H/\ag (CB (dx x.L (av x.body)).from_ (lU x.L x.body) (dx x.L (av x.body)).au v.snd.lv z.y (sR x) (dx x.L (av x.body)).run w (gz s (oa x.L x.d x.body) (w8 z x/\True))))
def x8(x:qV)(y:Nat):bz:=dg (dx x.L (av x.body)) (JA (jS (dx x.L (av x.body))) x.L.next x.body) (av (jS (dx x.L (av x.body))).buf) (kG x.L x.d (av x.body)) y
def sS(x:qV)(y:Int):Int:=ET (dx x.L (av x.body)).next y
def WB(y z u:Int)(x:qV)(v w s:Int)(t f:Prop):=cF (ET y z) (ET y u) (aC (sS x v)) (cF (sS x w) (sS x s) t f)
def ob(z:PH×gQ)(u:List Value)(v x y:Nat)(w:List Value)(s t f g:Nat)(h:List Value):PH:=aO (aL (aO (aL z.fst (aP u v)) x y w) (eW x y (s+8) t)) f g h
def qg(x:Prop):=bT (cF 0 0 (0=0) x)
def CC(z:List Value)(u:Nat)(x:qV)(y:PH)(v:PH×gQ)(w:bz)(s:Nat)(t:Prop):=ag (cV (aP z u)/\bK (aF 300 (af (av x.body))) (qg (bC (av x.body) x.cap/\y=y/\WB (af (av x.body)) 256 1 x 1099511627776 4294967296 16777216 (aC (sS x 65536)) (cF (sS x 256) (sS x 1) (0=0) (fq (dx x.L (av x.body)) v.snd (gz w (x8 x s) (cq x.body x.body cE/\t)))))))
def fH(x y:bN)(z u:gQ)(v:Prop):=ag (tO x y z.lv u.lv v)
def LN(x:PH×gQ)(z:qV):=bU x.fst x.snd (dx z.L (av z.body))/\∀u:Nat,wX (z.H u) z.y u (x.fst u) x.snd
def LO(x:qV)(z:PH)(u:bN)(v:gQ)(w:bz):=∃y:PH×gQ,bK (aF 300 (af (av x.body))) (qg (bC (av x.body) x.cap/\z=y.fst/\fH u (dx x.L (av x.body)) v y.snd (gz w (kG x.L x.d (av x.body)) (cq x.body x.body cE/\LN y x/\True))))
def LP(z:qV):Jy->Prop:=fun(x:Jy)=>az (tO z.L x.L z.y.lv x.y.lv (gz z.d x.d (z.H=x.H/\GM x/\∀u:mE,qe u (iZ x.L) (fun v=>x.H v) x.y->LO z u.H (iZ x.L) u.y (sP x.L x.d))))
def LQ(x y:Int)(z:List A):List A:=A.int .u8 x::A.int .u8 y::z
def LR(x z u:Int)(y:qV)(v w:Int)(s:List A):List A:=LQ (ET x z) (ET x u) (LQ (sS y v) (sS y w) s)
def oK(z:Value)(u:Nat)(v:Nat->Option (Nat×List Value))(w:A)(s:Nat->Nat->Nat->List Value->Prop):=kz z u (fun x=>v x) (fun x y=>x+[w].length<=y.length) fun x y t f=>s x y t f
def uJ(u:PH)(v:Value)(w:IntKind)(s:List CK)(t f g h i:Nat)(j:Nat->Nat->Value)(k:Nat->Nat->Nat->Nat->List Value->Prop):=Exists (jH u v (CK.int w) s fun y l m=>0+y<=y/\t<=f/\AF y g h l (fun x=>aL u v x) i w s m (fun x z=>j x z) fun x z n o=>k y x z n o)
def CD(s:Nat)(g:Nat->Option (Nat×List Value))(h:Nat->Nat->Value)(t:PH)(f:Value)(i:Int)(j:Nat->Nat->List Value->Nat->Nat->Nat->Nat->List Value->Prop):=AF 0 s 1 0 (fun u=>g u) 1 .u8 [] (aM 1 []) h fun u x y v=>Exists (jH (aO t x y v) f (CK.int .i64) (iN CK.deep) fun z k l=>0+z<=z/\AF z 1 32 k (fun w=>aL (aO t x y v) f w) 2 .i64 (iN CK.deep) l (kK [A.int .i64 i,A.val (eW x y (0+s) u)] 2) fun w m n o=>j x y v z w m n o)
def gR(x:List Int)(y:Nat):=1<=av x/\av x<=y
def oL(x y:Int)(z:Prop):=ah x->ah (x-y)/\z
def qW(x:Int->List Value)(y:List Int):Nat->Nat->Value:=fun(z u:Nat)=>aa x y (0+z) u
def LS(x y z u v w:Int)(s:Prop):=(0:Int)<=x/\aX y 6/\(0:Int)<=z/\aX u 6/\(0:Int)<=v/\aX w 6/\s
def zn(x:qV):=bU x.H x.y x.L/\uI x.L x.d/\gR x.body 300
def zo(x:List Int)(z u:Prop):=∀y:Bool,(aB y->av x=0)->aD y z (0<=0/\mB x/\u)
def CE(x:qV):=ah (dx x.L (av x.body)).next
theorem LU:fnBody (Y Tryz.prog) [(195,LK),(198,GH),(169,jC)] 162 Bs fun a=>[(162,[WA a],[YJ a])]:=fnBody.of (p :=
 ∀x:qV,zn x->lp (af (av x.body)) 1 (∃z:mE,(0:Int)=x.L.next/\(1:Int)=0/\x.H=z.H/\fH x.L (lU x.L x.body) x.y z.y (gz x.d (oa x.L x.d x.body) (w8 z x/\True))) 300 ((Exists (eC x.y.lv)/\aD (af (dr x.y.lv) == (0:Int)) (Exists (LP x)) (wY x.y (fun z=>x.H z) fun z U=>gf (aP U z) 3 (fun k=>x.H k) fun k B=>Exists (eC (aP B k))/\ah ((370:Int)-af (av x.body))/\aY ((370:Int)-af (av x.body)) (dr (aP B k)) (Exists (LP x)) (LO x x.H x.L x.y x.d)))/\∀z:PH×gQ,LN z x->Exists (eC z.snd.lv)/\wY z.snd (fun k=>z.fst k) fun k B=>dX 2 8/\0<8/\(0:Int)<=0/\aX 1 2/\(0:Int)<=8/\aX 0 2/\dX 2 8/\2<8/\(CE x->LS 0 5 8 4 16 3 (LS 24 2 32 1 40 0 (gf (aP B k) 3 (fun M=>z.fst M) fun M P=>Exists (eC (aP P M))/\gf (aP B k) 3 (fun s=>z.fst s) fun s f=>0<8/\Exists (jH z.fst (aP f s) (CK.int .u8) [] fun t V W=>0+t<=t/\AF t 8 1 V (fun g=>aL z.fst (aP f s) g) 1 .u8 [] W (kK (LR (af (av x.body)) 256 1 x 1099511627776 4294967296 (LR (dx x.L (av x.body)).next 16777216 65536 x 256 1 [])) 1) fun g h j n=>uJ (aO (aL z.fst (aP f s)) h j n) (eW h j (t+8) g) .u8 [] (0+av x.body) (av x.body) (av x.body) 1 1 (fun l m=>aa cE x.body (0+l) m) fun l m u v q=>oK (aP B k) 3 (fun o=>aO (aL (aO (aL z.fst (aP f s)) h j n) (eW h j (t+8) g)) u v q o) (A.val (eW u v (l+av x.body) m)) fun o r c e=>(∃w:Nat,aA w (bu (dr (aP P M)) /\
 CC B k x (aO (ob z f s h j n t g u v q) o r (jw c e u v l (av x.body) m)) z (kG x.L x.d (av x.body)) w (w<=8/\True)))/\∀w:Nat,w<=8->aD (aF (af w) 8) (aS w/\oH ((af w+(1:Int))*(48:Int)) 6 (aD (aF (af (dr (aP P M))) (oW true 0 ((af w+(1:Int))*(48:Int)-6))) (gf (aP B k) 3 (fun p=>aO (ob z f s h j n t g u v q) o r (jw c e u v l (av x.body) m) p) fun p D=>Exists (eC (aP D p))/\oH (af w*(48:Int)) 6 (aY (oW true 0 (af w*(48:Int)-6)) (dr (aP D p)) (∃E:sN,ag (aP B k=pv E.y.b 0/\bA w E.i/\gz (x8 x w) E.d (ag (tO (dx x.L (av x.body)) E.L z.snd.lv E.lv (aO (ob z f s h j n t g u v q) o r (jw c e u v l (av x.body) m)=E.H/\zf E/\aI (cO w fun C=>bu (dr (aP P M))/\CC B k x (aO (ob z f s h j n t g u v q) o r (jw c e u v l (av x.body) m)) z (zg E) C (bF C 8 w))))))) (cO w fun E=>bu (dr (aP P M))/\CC B k x (aO (ob z f s h j n t g u v q) o r (jw c e u v l (av x.body) m)) z (x8 x w) E (bF E 8 w)))) (cO w fun p=>bu (dr (aP P M))/\CC B k x (aO (ob z f s h j n t g u v q) o r (jw c e u v l (av x.body) m)) z (x8 x w) p (bF p 8 w)))) (gf (aP B k) 4 (fun p=>aO (ob z f s h j n t g u v q) o r (jw c e u v l (av x.body) m) p) fun p D=>CE x->zo x.body (uJ (aO (ob z f s h j n t g u v q) o r (jw c e u v l (av x.body) m)) (aP D p) .i64 (iN CK.deep) 1 1 1 32 2 (fun C J=>aM 2 (bq (dx x.L (av x.body)).next (bD gh)) (0+C) J) fun C J G I N=>oK (aP B k) 4 (fun F=>aO (aL (aO (ob z f s h j n t g u v q) o r (jw c e u v l (av x.body) m)) (aP D p)) G I N F) (A.val (eW G I (C+1) J)) fun F K Q O=>CE x ->
 ah (sR x)/\aD (dx x.L (av x.body)).fresh (oL (sR x) 1 (Exists (kF (x8 x w) fun R=>JF x (aO (aO (aL (aO (ob z f s h j n t g u v q) o r (jw c e u v l (av x.body) m)) (aP D p)) G I N) F K (jw Q O G I C 1 J)) z false (gn R)))) (oL (sR x) 1 (JF x (aO (aO (aL (aO (ob z f s h j n t g u v q) o r (jw c e u v l (av x.body) m)) (aP D p)) G I N) F K (jw Q O G I C 1 J)) z (dx x.L (av x.body)).fresh (x8 x w)))) (CD (av x.body) (fun C=>aO (ob z f s h j n t g u v q) o r (jw c e u v l (av x.body) m) C) (qW cE x.body) (aO (ob z f s h j n t g u v q) o r (jw c e u v l (av x.body) m)) (aP D p) (dx x.L (av x.body)).next fun C J G I N F K Q=>oK (aP B k) 4 (fun O=>aO (aL (aO (aO (ob z f s h j n t g u v q) o r (jw c e u v l (av x.body) m)) C J G) (aP D p)) F K Q O) (A.val (eW F K (I+1) N)) fun O S R T=>CE x->ah (sR x)/\aD (dx x.L (av x.body)).fresh (oL (sR x) 1 (Exists (kF (x8 x w) fun X=>JF x (aO (aO (aL (aO (aO (ob z f s h j n t g u v q) o r (jw c e u v l (av x.body) m)) C J G) (aP D p)) F K Q) O S (jw R T F K I 1 N)) z false (gn X)))) (oL (sR x) 1 (JF x (aO (aO (aL (aO (aO (ob z f s h j n t g u v q) o r (jw c e u v l (av x.body) m)) C J G) (aP D p)) F K Q) O S (jw R T F K I 1 N)) z (dx x.L (av x.body)).fresh (x8 x w))))))))))) (by kernel_rfl) (by
 delta aD aP av aK cF kA ah bq jw bW aC gH oW aF af bK kz dX mF ET bD aX aB dO aV bS cV cq iY AF eC aI JF x8 bT bC cO WB ob bB gA bF fq CB CC LP LR gh wY jF oK wX jH cQ aS iM aA aW uJ ag zf aY CD LO sR GM zm gf qe bx az gR kF iN qg sS oH bu bA mB zg oL qW fH LS zn w8 dW iu LQ zo qf LN CE lp
 try dsimp -iota -proj only
 rintro⟨H,y,L,d,body,cap⟩ ⟨hl,ok,hb1,hb2⟩;dsimp only at *;have hf:=ok.x7;have hcl:=ok.calls;have hnx:=ok.next
 have hng:=CA ok;obtain⟨e1,_,⟨ea,ec,e2⟩,e3,_⟩:=hl.qT;refine⟨fun c1=>?_,fun _=>⟨fun c2=>?_,fun _=>⟨⟨⟨ea,_,ec,e2,e3⟩,fun c3=>?_,fun c3=>?_⟩,?_⟩⟩⟩
 ·simp at c1;omega
 ·simp at c2;omega
 ·rw[e1]at c3;have hn0:L.l.length=0:=by simpa using c3
  have hneed:qG L body.length=true:=by simp only[qG,hn0];rfl
  have e1:dx L body.length=iZ L:=if_pos hneed;have e2:kG L d body.length=sP L d:=if_pos hneed;refine⟨Jy.mk H y L d,?_⟩
  and_intros<;>first|exact dc|exact ok.au.1|exact ok.au.2|exact ok.room|exact ok.size|(simp only[bQ];omega)|skip
  intro b hpost;refine⟨(b.H,b.y),?_⟩;simp only[e1,e2]
  and_intros<;>first|exact dc|exact hpost.1|exact hpost.2|rfl
 ·rw[e1]at c3 ⊢;have hn0:0<L.l.length:=by have:=(beq_eq_false_iff_ne.1 c3);omega
  have hk:L.l.length-1<L.l.length:=by omega
  obtain⟨b,lo,o,c,cs,g1,g2,g3,g4⟩:=hl.at_ hk;have hs:=hl.seg _ hk;obtain⟨b1,b2,b3,b4,⟨ba,bc,b5⟩,b6⟩:=hs.buf.len;have e5:((L.l.length:Int)-1).toNat=L.l.length-1:=by omega
  refine⟨by simp only[bQ];omega,_,_,_,_,g1,by omega,b,lo,o+(L.l.length-1)*1,cs,by rw[e5,Nat.add_assoc],g2,⟨⟨_,g3,rfl⟩,trivial⟩,?_⟩;refine⟨_,_,g4,?_⟩;refine⟨_,_,rfl,?_⟩;refine⟨_,0,_,_,rfl,hs.cell,?_⟩;refine⟨⟨⟨_,rfl,b6⟩,trivial⟩,⟨ba,_,bc,b5,b3⟩,by simp only[bQ];omega,fun c4=>?_,fun c4=>?_⟩
  ·simp only[cZ,List.getD_cons_succ,List.getD_cons_zero,b1]at c4;have hneed:qG L body.length=true:=by
    have:=of_decide_eq_true c4;rw[qG,Bool.or_eq_true];exact .inr (decide_eq_true (show 370<(jS L).buf.length+body.length by unfold jS;omega))
   have e1:dx L body.length=iZ L:=if_pos hneed;have e2:kG L d body.length=sP L d:=if_pos hneed;refine⟨Jy.mk H y L d,?_⟩
   and_intros<;>first|exact dc|exact ok.au.1|exact ok.au.2|exact ok.room|exact ok.size|(simp only[bQ];omega)|skip
   intro b hpost;refine⟨(b.H,b.y),?_⟩;simp only[e1,e2]
   and_intros<;>first|exact dc|exact hpost.1|exact hpost.2|rfl
  ·simp only[cZ,List.getD_cons_succ,List.getD_cons_zero,b1]at c4;have hneed:qG L body.length=false:=by
    have:=of_decide_eq_false c4;rw[qG,Bool.or_eq_false_iff];exact⟨decide_eq_false (by omega),decide_eq_false (show ¬370<(jS L).buf.length+body.length by unfold jS;omega)⟩
   have e1:dx L body.length=L:=if_neg (by rw[hneed];decide);have e2:kG L d body.length=d:=if_neg (by rw[hneed];decide);refine⟨(H,y),?_⟩;simp only[e1,e2]
   and_intros<;>first|exact dc|exact hl|exact fun _ _ h=>⟨rfl,h⟩|exact fun _ _ h=>⟨trivial,h⟩|rfl
 ·rintro⟨X,Y⟩ ⟨hX,hfr⟩;dsimp only at hX hfr ⊢;have h1:=JE (n:=body.length) ok hb2;have eA:lU L body=JB (dx L body.length) body:=rfl;have eD:oa L d body=if(dx L body.length).fresh then gn (qH (dx L body.length) (kG L d body.length) body)else qH (dx L body.length) (kG L d body.length) body:=rfl;rw[eA,eD];obtain⟨L1,hL1⟩:∃L1,L1=dx L body.length:=⟨_,rfl⟩
  obtain⟨d1,hd1⟩:∃d1,d1=kG L d body.length:=⟨_,rfl⟩
  rw[<- hL1]at hX;rw[<- hL1,<- hd1]at h1 ⊢;have hp:=h1.pos;have hk:L1.l.length-1<L1.l.length:=by omega
  obtain⟨k1,_,⟨ka,kc,k2⟩,k3,_⟩:=hX.qT;obtain⟨b,lo,o,c,cs,g1,g2,g3,g4⟩:=hX.at_ hk;have hs:=hX.YI hk;obtain⟨sl,hsl⟩:∃sl,sl=gl Y.ys (L1.l.length-1):=⟨_,rfl⟩
  have hlg:jS L1=gl L1.l (L1.l.length-1):=rfl;obtain⟨g,hg⟩:∃g,g=jS L1:=⟨_,rfl⟩
  rw[<- hlg,<- hg,<- hsl]at hs;rw[<- hsl]at g3 g4;rw[<- hg];have hlast:=h1.last;rw[<- hg]at hlast;have hgen:=h1.gen _ hk;rw[<- hlg,<- hg]at hgen;obtain⟨b1,b2,b3,b4,⟨ba,bc,b5⟩,b6⟩:=hs.at_.buf.len;have e5:((L1.l.length:Int)-1).toNat=L1.l.length-1:=by omega
  rw[k1];have hfew:=h1.x7;refine⟨⟨ka,_,kc,k2,k3⟩,by simp only[bQ];omega,_,_,_,_,g1,by omega,b,lo,o+(L1.l.length-1)*1,cs,by rw[e5,Nat.add_assoc],g2,⟨⟨_,g3,rfl⟩,trivial⟩,?_⟩
  repeat refine kR ?_
  intro _
  repeat refine kR ?_
  refine⟨_,_,g4,?_⟩;refine⟨_,_,rfl,?_⟩;refine⟨_,0,_,_,rfl,hs.at_.cell,?_⟩;refine⟨⟨⟨_,rfl,b6⟩,trivial⟩,⟨ba,_,bc,b5,b3⟩,?_⟩;refine⟨_,_,g4,?_⟩;refine⟨_,_,rfl,?_⟩;refine⟨_,0,_,_,rfl,hs.at_.cell,?_⟩;refine⟨⟨⟨_,rfl,b6⟩,trivial⟩,?_⟩
  repeat refine kR ?_
  obtain⟨c0,hbuf⟩:=hs.at_.buf;simp only[show(cZ g sl.bv sl.rv).getD 3 (Value.tuple #[])=sl.bv from rfl];refine⟨_,c0,_,hbuf,?_⟩
  repeat refine kR ?_
  intro cap1 q1 q2 q3
  repeat refine kR ?_
  intro p1 lo1 cs1 hp1 hl1 hr1;have hA:Step X sl.bv (aO (aL X sl.bv) p1 lo1 cs1) (eW p1 lo1 (g.buf.length+8) cap1):=rP hp1;have hsA:jZ (aO (aL X sl.bv) p1 lo1 cs1) (eW p1 lo1 (g.buf.length+8) cap1) [.int .u8] (g.buf.length+8) cap1 (aa cE (g.buf++Jz body.length L1.next)):=by
   refine mI hl1 q1 q2 hr1 fun i hi j hj=>?_;have hj0:j=0:=by simpa using hj
   subst hj0;simp only[Nat.zero_add,aZ,aa,cE,List.getD_cons_zero];by_cases hin:i<g.buf.length
   ·rw[if_pos hin,bJ hin]
   ·rw[if_neg hin];obtain⟨m,rfl⟩:∃m,i=g.buf.length+m:=⟨i-g.buf.length,by omega⟩
    rw[bf,Nat.add_sub_cancel_left];have hm:m<8:=by omega
    match m,hm with
    |0,_=>rfl
    |1,_=>rfl
    |2,_=>rfl
    |3,_=>rfl
    |4,_=>rfl
    |5,_=>rfl
    |6,_=>rfl
    |7,_=>rfl
  refine⟨_,cap1,_,hsA,?_⟩
  repeat refine kR ?_
  intro cap2 q4 q5 q6
  repeat refine kR ?_
  intro p2 lo2 cs2 hp2 hl2 hr2;have hB:Step X sl.bv (aO (aL (aO (aL X sl.bv) p1 lo1 cs1) (eW p1 lo1 (g.buf.length+8) cap1)) p2 lo2 cs2) (eW p2 lo2 (g.buf.length+8+body.length) cap2):=hA.trans (rP hp2);have hlb:(qU g L1.next body).length=g.buf.length+8+body.length:=by simp only[qU,List.length_append];rfl
  have hBy:fu (aO (aL (aO (aL X sl.bv) p1 lo1 cs1) (eW p1 lo1 (g.buf.length+8) cap1)) p2 lo2 cs2) (eW p2 lo2 (g.buf.length+8+body.length) cap2) (qU g L1.next body):=by
   refine⟨cap2,?_⟩;rw[hlb];refine mI hl2 q4 q5 hr2 fun i hi j hj=>?_;have hj0:j=0:=by simpa using hj
   subst hj0;simp only[Nat.zero_add,aZ,aa,cE,List.getD_cons_zero,qU];have hl8:(g.buf++Jz body.length L1.next).length=g.buf.length+8:=by rw[List.length_append];rfl
   by_cases hin:i<g.buf.length+8
   ·rw[if_pos hin,show gl (g.buf++Jz body.length L1.next++body) i=gl (g.buf++Jz body.length L1.next) i from bJ (by rw[hl8];exact hin)]
   ·rw[if_neg hin];obtain⟨m,rfl⟩:∃m,i=g.buf.length+8+m:=⟨i-(g.buf.length+8),by omega⟩
    rw[<- hl8,bf,Nat.add_sub_cancel_left]
  obtain⟨hc2,hs3,hf3⟩:=wZ hs hB hBy;obtain⟨X2,hX2⟩:∃X2,X2=aO (aL (aO (aL X sl.bv) p1 lo1 cs1) (eW p1 lo1 (g.buf.length+8) cap1)) p2 lo2 cs2:=⟨_,rfl⟩
  rw[<- hX2]at hc2 hs3 hf3 ⊢;refine⟨_,_,g4,?_⟩;refine⟨_,_,rfl,?_⟩;refine⟨_,0,_,_,rfl,hc2,by simp[cZ],?_⟩;obtain⟨X3,hX3⟩:∃X3,X3=aO X2 sl.b 0 (cZ { g with buf:=qU g L1.next body } (eW p2 lo2 (g.buf.length+8+body.length) cap2) sl.rv):=⟨_,rfl⟩
  have eX3:aO X2 sl.b 0 (List.take 3 (cZ g sl.bv sl.rv)++[Value.slice (some ⟨p2,lo2,none⟩) (g.buf.length+8+body.length) cap2]++List.drop (3+[Value.slice (some ⟨p2,lo2,none⟩) (g.buf.length+8+body.length) cap2].length) (cZ g sl.bv sl.rv))=X3:=hX3.symm;rw[<- hX3]at hs3 hf3;simp only[eX3];obtain⟨sl3,hsl3⟩:∃s,s={ sl with bv:=eW p2 lo2 (g.buf.length+8+body.length) cap2 }:=⟨_,rfl⟩
  obtain⟨g3',hg3⟩:∃s:dy,s={ g with buf:=qU g L1.next body }:=⟨_,rfl⟩
  have hsw:JA g L.next body=g3':=by rw[hg3,<- h1.next];rfl
  have hb3:g3'.buf.length=g.buf.length+8+body.length:=by rw[hg3];exact hlb
  have hgen3:g3'.gen=g.gen:=by rw[hg3]
  have hv2:sl3.bv=eW p2 lo2 (g.buf.length+8+body.length) cap2:=by rw[hsl3]
  have hb3s:sl3.b=sl.b:=by rw[hsl3]
  rw[<- hsl3,<- hg3]at hs3;rw[<- hsl3]at hf3;have hcell3:=hs3.at_.cell;have hwn:=sQ L1 g3' g.buf.length d1;have hsegs:=ok.au;have hroom:=ok.room;have hsize:=ok.size;have q1n:=h1.dn;have q1c:=h1.calls;have q1f:=h1.from_;have q1s:=h1.au;rw[hsw];refine⟨⟨0,?_⟩,fun i hi=>⟨fun c5=>?_,fun c5=>?_⟩⟩
  ·and_intros<;>first|exact dc|rfl|exact Nat.le_refl _|exact aj.refl _ _ _
  ·have hi8:i<8:=by have:=of_decide_eq_true c5;omega
   have em:(bif true then max 0 (((i:Int)+1)*48-6)else min 0 (((i:Int)+1)*48-6))=(bZ (i+1):Nat):=by simp only[cond_true,bZ];omega
   have em2:(bif true then max 0 ((i:Int)*48-6)else min 0 ((i:Int)*48-6))=(bZ i:Nat):=by simp only[cond_true,bZ];omega
   simp only[show(cZ g sl.bv sl.rv).getD 3 (Value.tuple #[])=sl.bv from rfl,b1,em,em2];have hw1:=hwn i
   repeat refine kR ?_
   refine⟨fun c6=>?_,fun c6=>?_⟩
   ·have c6:g.buf.length<bZ (i+1):=by have:=of_decide_eq_true c6;omega
    refine⟨_,_,g4,?_⟩;refine⟨_,_,rfl,?_⟩;refine⟨_,0,_,_,rfl,by rw[<- hb3s];exact hcell3,?_⟩;refine⟨⟨⟨_,rfl,by rw[hv2];rfl⟩,trivial⟩,⟨_,_,_,hv2,Nat.le_trans q4 q5⟩,?_⟩;simp only[hv2,cZ,List.getD_cons_succ,List.getD_cons_zero,OU]
    repeat refine kR ?_
    refine⟨fun c7=>?_,fun c7=>?_⟩
    ·have c7:bZ i<g.buf.length+8+body.length:=by have:=of_decide_eq_true c7;omega
     have hcond:dg L1 g3' g.buf.length d1 (i+1)=gm (dg L1 g3' g.buf.length d1 i) (jQ L1 g3' i) 64 (pz g3' i L1.run):=by
      have:tH g.buf.length g3'.buf.length i=true:=by simp only[tH,Bool.and_eq_true,decide_eq_true_eq];omega
      simp only[dg,this,if_true]
     refine⟨sN.mk X3 sl3 g3' i L1 Y.lv (dg L1 g3' g.buf.length d1 i),?_⟩
     and_intros<;>first|exact dc|exact hs3.at_|(rw[hb3s];exact g4)|exact aj.refl _ _ _|(dsimp only;omega)|skip
     intro _ _;refine⟨by simp only[bQ];omega,i+1,?_⟩;rw[hcond]
     and_intros<;>first|exact dc|exact aj.refl _ _ _|(simp only[gm];omega)|skip
    ·have c7:¬bZ i<g.buf.length+8+body.length:=by have:=of_decide_eq_false c7;omega
     have hcond:dg L1 g3' g.buf.length d1 (i+1)=dg L1 g3' g.buf.length d1 i:=by
      have:tH g.buf.length g3'.buf.length i=false:=by simp only[tH,Bool.and_eq_false_iff,decide_eq_false_iff_not];omega
      simp only[dg,this];rfl
     refine⟨by simp only[bQ];omega,i+1,?_⟩;rw[hcond]
     and_intros<;>first|exact dc|exact aj.refl _ _ _|skip
   ·have c6:¬g.buf.length<bZ (i+1):=by have:=of_decide_eq_false c6;omega
    have hcond:dg L1 g3' g.buf.length d1 (i+1)=dg L1 g3' g.buf.length d1 i:=by
     have:tH g.buf.length g3'.buf.length i=false:=by simp only[tH,Bool.and_eq_false_iff,decide_eq_false_iff_not];omega
     simp only[dg,this];rfl
    refine⟨by simp only[bQ];omega,i+1,?_⟩;rw[hcond]
    and_intros<;>first|exact dc|exact aj.refl _ _ _|skip
  ·have hi8:i=8:=by have:=of_decide_eq_false c5;omega
   subst hi8;have eD2:qH L1 d1 body=dg L1 g3' g.buf.length d1 8:=by
    have:JA (jS L1) L1.next body=g3':=by rw[h1.next,<- hg];exact hsw
    unfold qH;rw[this,<- hg]
   refine⟨_,_,g4,?_⟩;refine⟨_,_,rfl,?_⟩;refine⟨_,0,_,_,rfl,by rw[<- hb3s];exact hcell3,?_⟩;obtain⟨c9,hrec⟩:=hs3.at_.aR;obtain⟨m1,m2,m3,m4,m5,_,m6⟩:=e9 hrec;refine⟨⟨⟨_,rfl,m6⟩,trivial⟩,fun _ b11 hb11=>⟨fun e=>absurd (hb11 e) (by omega),fun _=>?_⟩⟩;simp only[show(cZ g3' sl3.bv sl3.rv).getD 4 (Value.tuple #[])=sl3.rv from rfl,Nat.zero_add]
   repeat refine kR ?_
   intro cap3 u1 u2 u3
   repeat refine kR ?_
   intro p3 lo3 cs3 hp3 hl3 hr3;have hC:Step X3 (.slice none 0 0) (aO X3 p3 lo3 cs3) (eW p3 lo3 body.length cap3):=JC hp3;have hCb:fu (aO X3 p3 lo3 cs3) (eW p3 lo3 body.length cap3) body:=by
    refine⟨cap3,mI hl3 u1 u2 hr3 fun i hi j hj=>?_⟩;have hj0:j=0:=by simpa using hj
    subst hj0;simp only[aZ,Nat.not_lt_zero,if_false,Nat.sub_zero]
   have hx3:∀x,X3 x≠none->x≠p3:=fun x hx e=>hx (by rw[e];exact hp3);have hrec4:jZ (aO X3 p3 lo3 cs3) sl3.rv rO g3'.aR.length c9 (uE g3'.aR sl3.vs):=iL hrec fun x hx=>cD (hx3 x (mD hrec x hx));refine⟨_,c9,_,hrec4,?_⟩;have hrc:=h1.aR _ hk;have hbc:=h1.buf _ hk;rw[<- hlg,<- hg]at hrc hbc;have hmr:g3'.aR.length=g.aR.length:=by rw[hg3]
   repeat refine kR ?_
   intro cap4 w1 w2 w3
   repeat refine kR ?_
   intro p4 lo4 cs4 hp4 hl4 hr4;have hD:Step (aO X3 p3 lo3 cs3) sl3.rv (aO (aL (aO X3 p3 lo3 cs3) sl3.rv) p4 lo4 cs4) (eW p4 lo4 (g3'.aR.length+1) cap4):=rP hp4;have hr5:jZ (aO (aL (aO X3 p3 lo3 cs3) sl3.rv) p4 lo4 cs4) (eW p4 lo4 (g3'.aR.length+1) cap4) rO (g3'.aR.length+1) cap4 (uE (g3'.aR++[⟨L1.next,body⟩]) (sl3.vs++[eW p3 lo3 body.length cap3])):=by
    refine mI hl4 w1 w2 hr4 fun i hi j hj=>?_;have hvl:=hs3.at_.len;simp only[aZ,uE,Nat.zero_add];by_cases hin:i<g3'.aR.length
    ·rw[if_pos hin,bJ hin];by_cases hj0:j=0
     ·rw[if_pos hj0,if_pos hj0]
     ·rw[if_neg hj0,if_neg hj0,List.getD_eq_getElem?_getD,List.getD_eq_getElem?_getD,List.getElem?_append_left (by omega)]
    ·rw[if_neg hin];obtain rfl:i=g3'.aR.length:=by omega
     rw[Nat.sub_self];have hj2:j<2:=hj
     match j,hj2 with
     |0,_=>rw[if_pos rfl,show g3'.aR.length=g3'.aR.length+0 from rfl,bf];rfl
     |1,_=>rw[if_neg (by decide),List.getD_eq_getElem?_getD,List.getElem?_append_right (by omega),hvl,Nat.sub_self];rfl
   obtain⟨hcell4,hcell5,hnd6,hfr6⟩:=AE (r:=⟨L1.next,body⟩) hs3 hC hCb hD (fun x hx=>by
    simp only[fB,eW,List.mem_singleton]at hx;rw[hx,dF];simp) ⟨cap4,hr5⟩
   have hset:=hX.set hk (sl:=⟨sl3.b,sl3.bv,eW p4 lo4 (g3'.aR.length+1) cap4,sl3.vs++[eW p3 lo3 body.length cap3]⟩) (g:={ g3' with aR:=g3'.aR++[⟨L1.next,body⟩] }) (by rw[<- hsl];exact hb3s) hnd6 (by rw[<- hsl];exact hf3.trans hfr6);have hAll:=hset.1.congr (L':=JB L1 body) (by
    simp only[JB,NV];rw[<- hg,hg3];rfl)
   have hFr:∀z,H z≠none->z∉br y->aO (aO (aL (aO X3 p3 lo3 cs3) sl3.rv) p4 lo4 cs4) sl3.b 0 (cZ { g3' with aR:=g3'.aR++[⟨L1.next,body⟩] } sl3.bv (eW p4 lo4 (g3'.aR.length+1) cap4)) z=H z/\z∉br ⟨Y.lv,Y.ys.set (L1.l.length-1) ⟨sl3.b,sl3.bv,eW p4 lo4 (g3'.aR.length+1) cap4,sl3.vs++[eW p3 lo3 body.length cap3]⟩⟩:=fun z hz hn=>by
    obtain⟨f1,f2⟩:=hfr z hz hn;obtain⟨f3,f4⟩:=hset.2 z (by rw[f1];exact hz) f2;exact⟨f3.trans f1,f4⟩
   obtain⟨X6,hX6⟩:∃X6,X6=aO (aO (aL (aO X3 p3 lo3 cs3) sl3.rv) p4 lo4 cs4) sl3.b 0 (cZ { g3' with aR:=g3'.aR++[⟨L1.next,body⟩] } sl3.bv (eW p4 lo4 (g3'.aR.length+1) cap4)):=⟨_,rfl⟩
   rw[<- hX6]at hAll;simp only[<- hX6]at hFr;refine⟨_,_,g4,?_⟩;refine⟨_,_,rfl,?_⟩;refine⟨_,0,_,_,rfl,by rw[<- hb3s];exact hcell5,by simp[cZ],fun _=>?_⟩;have q1x:=h1.next
   have eDn:(qH L1 d1 body).n=d.n/\(qH L1 d1 body).calls<=d.calls+10:=by rw[eD2];have:=hwn 8;omega
   rw[eD2]at eDn;refine⟨by simp only[bQ];omega,fun hfre _=>⟨by simp only[bQ];omega,dg L1 g3' g.buf.length d1 8,?_⟩,fun hfre _=>⟨by simp only[bQ];omega,?_⟩⟩
   ·and_intros<;>first|exact dc|exact aj.refl _ _ _|skip
    intro _ _;rw[hfre,if_pos rfl,eD2];refine⟨⟨X6,⟨Y.lv,Y.ys.set (L1.l.length-1) ⟨sl3.b,sl3.bv,eW p4 lo4 (g3'.aR.length+1) cap4,sl3.vs++[eW p3 lo3 body.length cap3]⟩⟩⟩,?_⟩
    and_intros<;>first|exact dc|exact hAll|exact hFr|(rw[hX6,hb3s];rfl)|exact Nat.le_refl _|exact aj.refl _ _ _|rfl|skip
   ·rw[hfre,if_neg (by decide),eD2];refine⟨⟨X6,⟨Y.lv,Y.ys.set (L1.l.length-1) ⟨sl3.b,sl3.bv,eW p4 lo4 (g3'.aR.length+1) cap4,sl3.vs++[eW p3 lo3 body.length cap3]⟩⟩⟩,?_⟩
    and_intros<;>first|exact dc|exact hAll|exact hFr|(rw[hX6,hb3s];rfl)|exact Nat.le_refl _|exact aj.refl _ _ _|rfl|skip)
theorem CF:ak (Y Tryz.prog).G.X 162 Bs:=aU fF LU ⟨Pu,EP,iG,trivial⟩
structure mJ(rs:List RecM):Prop where
 lt:∀i j,i<j->j<rs.length->(gl rs i).pos<(gl rs j).pos
 A5:∀i,i<rs.length->0<=(gl rs i).pos/\(gl rs i).pos<1000000000000
theorem uK{H:PH}{v:Value}{rs:List RecM}{vs:List Value}{n c:Nat}(h:jZ H v rO n c (uE rs vs)){k:Nat}(hk:k<n):∃b lo o cs,v=eW b (lo+o) n c/\H b=some (lo,cs)/\cs[o+k*2]? = some (.int .i64 (gl rs k).pos)/\cs[o+k*2+1]? = some (vs.getD k undef) /\
 (vs.getD k undef).oneCell'=true/\bQ .i64 (gl rs k).pos/\cs.getD (o+k*2) (Value.tuple #[]) = .int .i64 (gl rs k).pos/\cs.getD (o+k*2+1) (Value.tuple #[])=vs.getD k undef:=by
 rcases h with⟨_,h0,_⟩ | ⟨b,lo,o,cs,h1,h2,h3,h4,h5⟩
 ·omega
 ·obtain⟨g1,g2⟩:=h5.at_ k hk 0 (.int .i64) rfl;obtain⟨g3,g4⟩:=h5.at_ k hk 1 .deep rfl;have g1:cs[o+k*2]? = some (.int .i64 (gl rs k).pos):=g1;have g3:cs[o+k*2+1]? = some (vs.getD k undef):=g3;obtain⟨m,hm,hr⟩:=g2;have hr:bQ .i64 (gl rs k).pos:=by
   have:(Value.int .i64 (gl rs k).pos) = .int .i64 m:=hm;injection this with _ e
   rw[e];exact hr
  exact⟨b,lo,o,cs,h1,h3,g1,g3,g4,hr,by rw[List.getD_eq_getElem?_getD,g1];rfl,by rw[List.getD_eq_getElem?_getD,g3];rfl⟩
structure GN where
 H:PH
 rv:Value
 rs:List RecM
 vs:List Value
 p:Int
noncomputable def Xk:cC where
 α:=GN
 β:=Nat
 m:=1
 m':=1
 pre:=fun a=>(∃c,jZ a.H a.rv rO a.rs.length c (uE a.rs a.vs))/\a.rs.length<=400/\mJ a.rs/\0<=a.p/\a.p<1000000000000
 args:=fun a=>[.a (.val a.rv),.a (.int .i64 a.p),.a (.fn 238)]
 hp:=fun _=>[]
 ro:=fun a=>[(0,.cA a.H)]
 post:=fun a n=>n<=a.rs.length/\(∀k,k<n->(gl a.rs k).pos<a.p)/\∀k,n<=k->k<a.rs.length->a.p<=(gl a.rs k).pos
 res:=fun a n=>.mm [.a (.int .i64 n),.a (.bool (decide (n<a.rs.length)&&decide ((gl a.rs n).pos=a.p)))]
 cW:=fun _ _=>[]
def ZH(a:GN):An:=.flat 3 (Nat×Nat) (fun s x=>(s.int 9 x.1).int 10 x.2) (fun _ x=>x.1<=x.2/\x.2<=a.rs.length/\(∀k,k<x.1->(gl a.rs k).pos<a.p)/\∀k,x.2<=k->k<a.rs.length->a.p<=(gl a.rs k).pos) (fun _ x=>x.2-x.1)
def w9(z:Nat)(x:GN)(u:Nat):=z<=x.rs.length/\(∀y:Nat,y<u->(gl x.rs y).pos<x.p)/\∀y:Nat,z<=y->y<x.rs.length->x.p<=(gl x.rs y).pos
def uL(u:Nat)(v:Value)(w:Nat->Option (Nat×List Value))(s:Nat->List Value->Prop)(t:Prop):=oZ u v 2 (fun x=>w x) (fun x=>ji x) (fun x y=>(∃z:Value,y[x+1]? = some z/\gA z)/\True) (fun x y=>s x y) t
def zq(x:Nat×Nat):Int:=oI (cQ (af x.fst+af x.snd)/(2:Int))
def GO(x:GN):=(∃y:Nat,jZ x.H x.rv (CK.int .i64::iN CK.deep) x.rs.length y (uE x.rs x.vs))/\x.rs.length<=400/\mJ x.rs/\aX x.p 1000000000000
def GP(x:GN)(y:Nat×Nat)(z:Prop):=bu (dr x.rv)/\bT (aW (cV x.rv/\aC x.p/\x.H=x.H/\(y.fst<=y.snd/\w9 y.snd x y.fst)/\z))
def CG(y:Nat)(x:GN):Bool:=decide (y<x.rs.length)&&decide ((gl x.rs y).pos=x.p)
theorem VH:fnBody (Y Tryz.prog) [] 237 Xk fun a=>[(237,[ZH a],[])]:=fnBody.of (p :=
 ∀y:GN,GO y->Exists (eC y.rv)/\(∃x:Nat×Nat,bA (dr y.rv) x.snd/\aA x.fst (GP y x True))/\∀x:Nat×Nat,x.fst<=x.snd/\w9 x.snd y x.fst->aY (af x.fst) x.snd (ah (af x.fst+af x.snd)/\(0:Int)<=1/\Exists (iM y.rv (zq x) fun v w=>mF v w (aV (zq x)*2) (fun u=>y.H u) (fun u=>ji u) (fun u s=>(∃z:Value,s[u+1]? = some z/\gA z)/\True) fun u s=>oL (js (aP s u)) y.p (aD (aF (qQ (js (aP s u)-y.p) (-1:Int) 1) 0) (ah (zq x+(1:Int))/\∃z:Nat×Nat,bA x.snd z.snd/\zq x+(1:Int)=af z.fst/\GP y z (z.snd-z.fst<x.snd-x.fst)) (∃z:Nat×Nat,zq x=af z.snd/\bA x.fst z.fst/\GP y z (z.snd-z.fst<x.snd-x.fst))))) (uL x.fst y.rv (fun v=>y.H v) (fun v w=>oL (js (aP w v)) y.p (∃u:Nat,bA x.fst u/\(qQ (js (aP w v)-y.p) (-1:Int) 1 == (0:Int))=CG u y/\w9 u y u/\True)) (∃v:Nat,bA x.fst v/\fR (CG v y) (w9 v y v) True))) (by kernel_rfl) (by
 delta aD aP ah ay aC oW aF af bK mF aX aB dO aV fR cV eC bT oZ gA w9 cQ iM aA aW aY uL zq GO GP iN CG bu qQ bA oL ji oI
 try dsimp -iota -proj only
 rintro⟨H,rv,rs,vs,p⟩ ⟨⟨c,hs⟩,h1,⟨h2,h2'⟩,h3,h4⟩;dsimp only at *;obtain⟨e1,_,_,e4,_,⟨ea,e2⟩,_⟩:=e9 hs;refine⟨⟨ea,_,_,e2,by omega⟩,⟨(0,rs.length),?_⟩,fun x hx=>?_⟩
 ·rw[e1]
  (repeat' (first|apply And.intro|(intro _)))<;>first|exact dc|(exfalso;dsimp only at *;omega)
 ·obtain⟨i,j⟩:=x;obtain⟨x1,x2,x3,x4⟩:=hx;dsimp only at *;have hmid:uw .i64 (uw .u64 ((i:Int)+j)/2)=(((i+j)/2:Nat):Int):=by
   have e1:uw .u64 ((i:Int)+j)=(i:Int)+j:=by simp only[uw];omega
   rw[e1];have e2:((i:Int)+j)/2=(((i+j)/2:Nat):Int):=by omega
   rw[e2];exact fk (k:=.i64) (by simp only[bQ];omega)
  refine⟨fun c1=>?_,fun c1=>?_⟩
  ·have c1:i<j:=by have:=of_decide_eq_true c1;omega
   obtain⟨m,hm⟩:∃m,m=(i+j)/2:=⟨_,rfl⟩
   rw[hmid,<- hm];have hmi:i<=m/\m<j:=by omega
   obtain⟨b,lo,o,cs,g1,g2,g3,g4,g5,g6,g7,g8⟩:=uK hs (k:=m) (by omega);have hr:=h2' m (by omega);refine⟨by simp only[bQ];omega,by omega,_,_,_,_,g1,by omega,b,lo,o+m*2,cs,by rw[Int.toNat_natCast,Nat.add_assoc],g2,⟨⟨_,g3,_,rfl,g6⟩,⟨_,g4,g5⟩,trivial⟩,fun _=>?_⟩;rw[g7];simp only[js,cond_true,cond_false];refine⟨by simp only[bQ];omega,fun c2=>⟨by simp only[bQ];omega,(m+1,j),?_⟩,fun c2=>⟨(i,m),?_⟩⟩
   ·have c2:=of_decide_eq_true c2;have hlt:(gl rs m).pos<p:=by omega
    (repeat' (first|apply And.intro|(intro _)))<;>first|exact dc|skip
    ·rename_i k hk;by_cases hkm:k=m
     ·rw[hkm];exact hlt
     ·have:=h2 k m (by dsimp only at hk;omega) (by omega);omega
    ·rename_i k hk1 hk2;exact x4 k hk1 hk2
   ·have c2:=of_decide_eq_false c2;have hge:p<=(gl rs m).pos:=by omega
    (repeat' (first|apply And.intro|(intro _)))<;>first|exact dc|skip
    ·rename_i k hk;exact x3 k hk
    ·rename_i k hk1 hk2;by_cases hkm:k=m
     ·rw[hkm];exact hge
     ·have:=h2 m k (by dsimp only at hk1;omega) hk2;omega
  ·have c1:i=j:=by have:=of_decide_eq_false c1;omega
   subst c1;rw[e1];refine⟨fun c2=>?_,fun c2=>⟨i,?_⟩⟩
   ·have c2:i<rs.length:=by have:=of_decide_eq_true c2;omega
    obtain⟨b,lo,o,cs,g1,g2,g3,g4,g5,g6,g7,g8⟩:=uK hs (k:=i) c2;have hr:=h2' i c2;refine⟨_,_,_,_,g1,by omega,b,lo,o+i*2,cs,by rw[Int.toNat_natCast,Nat.add_assoc],g2,⟨⟨_,g3,_,rfl,g6⟩,⟨_,g4,g5⟩,trivial⟩,fun _=>?_⟩;rw[g7];simp only[js,cond_true,cond_false];refine⟨by simp only[bQ];omega,i,?_⟩;have hb:(min (max ((gl rs i).pos-p) (-1)) 1 == 0)=(decide (i<rs.length)&&decide ((gl rs i).pos=p)):=by
     rw[Bool.eq_iff_iff];simp only[beq_iff_eq,Bool.and_eq_true,decide_eq_true_eq];omega
    (repeat' (first|apply And.intro|(intro _)))<;>first|exact dc|exact hb|(rename_i k hk;exact x3 k hk)|(rename_i k hk1 hk2;exact x4 k hk1 hk2)
   ·have c2:¬i<rs.length:=by have:=of_decide_eq_false c2;omega
    have hb:false=(decide (i<rs.length)&&decide ((gl rs i).pos=p)):=by simp[c2]
    (repeat' (first|apply And.intro|(intro _)))<;>first|exact dc|exact hb|(rename_i k hk;exact x3 k hk)|(rename_i k hk1 hk2;exact x4 k hk1 hk2))
theorem VI:ak (Y Tryz.prog).G.X 237 Xk:=aU fF VH trivial
def vW(rs:List RecM)(p:Int):Option (List Int):=(rs.find? fun r=>decide (r.pos=p)).map (·.body)
def gi(l:List dy)(p:Int):Option (List Int):=l.findSome? fun g=>vW g.aR p
def AG(o:Option (List Int)):Int:=match o with|some _=>0|none=>9
theorem NW{α:Type}[Inhabited α]{l:List α}{k:Nat}(h:k<l.length):l.drop k=gl l k::l.drop (k+1):=by
 rw[bR h];exact List.drop_eq_getElem_cons h
theorem NX{α:Type}[Inhabited α]{q:α->Bool}:∀ {l:List α} {n:Nat},n<l.length->q (gl l n)=true->(∀k,k<n->q (gl l k)=false)->l.find? q=some (gl l n)
 |[],n,h,_,_=>by simp at h
 |x::l,0,_,h,_=>by
  have h:q x=true:=h;simp[List.find?_cons,h,gl]
 |x::l,n+1,hn,h,hk=>by
  have h0:q x=false:=hk 0 (by omega);have e:∀m,gl (x::l) (m+1)=gl l m:=fun m=>by simp[gl]
  rw[e]at h ⊢;rw[List.find?_cons,h0];exact NX (by simpa using hn) h fun k hkn=>by have:=hk (k+1) (by omega);rwa[e]at this
theorem VJ{α:Type}[Inhabited α]{q:α->Bool}{l:List α}(h:∀k,k<l.length->q (gl l k)=false):l.find? q=none:=by
 rw[List.find?_eq_none];intro x hx;obtain⟨i,hi,rfl⟩:=List.getElem_of_mem hx;have:=h i hi;rw[bR hi]at this;simp[this]
structure JG where
 H:PH
 y:gQ
 L:bN
 p:Int
noncomputable def LV:cC where
 α:=JG
 β:=Nat
 m:=3
 m':=4
 pre:=fun a=>bU a.H a.y a.L/\a.L.l.length<1000/\0<=a.p/\a.p<1000000000000/\∀i,i<a.L.l.length->mJ (gl a.L.l i).aR/\(gl a.L.l i).aR.length<=400/\∀k,k<(gl a.L.l i).aR.length->1<=(gl (gl a.L.l i).aR k).body.length/\(gl (gl a.L.l i).aR k).body.length<=1000
 args:=fun a=>[.a (.ptr 0 0 0 0),.a (.int .i64 a.p)]
 hp:=fun _=>[]
 ro:=fun a=>[(0,fS 2 a.L a.y.lv),(1,.cA a.H)]
 post:=fun a c=>((gi a.L.l a.p).getD []).length<=c
 res:=fun a c=>.mm [.a (.slc 3 0 1 ((gi a.L.l a.p).getD []).length c),.a (.int .i64 (AG (gi a.L.l a.p)))]
 cW:=fun a c=>jh 3 ((gi a.L.l a.p).getD [])
def Xl(a:JG):An:=.flat 4 Nat (fun s k=>s.int 17 k) (fun _ k=>k<=a.L.l.length/\gi (a.L.l.drop k) a.p=gi a.L.l a.p) (fun _ k=>a.L.l.length-k)
def eo(x y:Prop):=ag (x/\ag y)
def oM(x:bN)(y:Nat):Nat:=(gl x.l y).aR.length
def xg(x:bN)(y:Nat):=oM x y<=400/\∀z:Nat,z<oM x y->gR (gl (gl x.l y).aR z).body 1000
def sU(x:JG):List Int:=(gi x.L.l x.p).getD []
def jj(x:Value)(y:Prop):=bu (dr x)/\cV x/\y
def GQ(x:JG):=bB x.L<1000/\(0:Int)<=x.p/\x.p<(1000000000000:Int)/\∀y:Nat,y<bB x.L->mJ (gl x.L.l y).aR/\xg x.L y
def GR(y:Nat)(x:JG):=gi (List.drop y x.L.l) x.p=gi x.L.l x.p
def CH(x:Value)(v:Prop)(w:PH)(s:Nat->(Nat->Nat->Value)->Prop):=(∃y:Option Go.Addr,∃u z:Nat,x=Value.slice y u z)/\aD (D6 x) v (0<=0/\Exists (jH w x (CK.int .u8) [] fun y u z=>s y z))
theorem Pv:fnBody (Y Tryz.prog) [(237,Xk)] 213 LV fun a=>[(213,[Xl a],[])]:=fnBody.of (p :=
 ∀x:JG,bU x.H x.y x.L/\GQ x->Exists (eC x.y.lv)/\(∃z:Nat,aA z (jj x.y.lv (bT (aW (eo (aC x.p) (fq x.L x.y (x.H=x.H/\(z<=bB x.L/\GR z x)/\True)))))))/\∀z:Nat,z<=bB x.L/\GR z x->oZ z x.y.lv 1 (fun u=>x.H u) (fun u=>gA u) (fun u f=>True) (fun u f=>gf (aP f u) 4 (fun g=>x.H g) fun g n=>∃v:GN,aP n g=v.rv/\x.p=v.p/\x.H=v.H/\GO v/\∀t:Nat,w9 t v t->aD (CG t v) (gf (aP f u) 4 (fun w=>x.H w) fun w o=>Exists (iM (aP o w) (af t) fun q r=>∃h i:Nat,pv q (r+ay t*2)=pv h i/\mF h i 1 (fun s=>x.H s) (fun s=>gA s) (fun s j=>True) fun s j=>CH (aP j s) (Exists (Cm (av (sU x)) 0 (AG (gi x.L.l x.p)))) x.H fun k c=>gH 0 k 1 0 fun d=>∃m:Nat,dP (0+k) (av (sU x)) d m ((0:Int)=AG (gi x.L.l x.p)) 1 (uA c) (aa cE (sU x)) (av (sU x)<=m/\True))) (cO z fun w=>jj x.y.lv (bT (aW (eo (aC x.p) (fq x.L x.y (x.H=x.H/\dY w (bB x.L) (GR w x) z))))))) (Exists (Cm (av (sU x)) 9 (AG (gi x.L.l x.p))))) (by kernel_rfl) (by
 delta aD aP av aK kA ah ay aC gH aF af bK kz mF dY aX aB aV eo cV eC bT oZ cO bB gA dP fq w9 xg jH aS iM sU aA aW jj ag aY gf GO bx gR iN CG bu GQ Cm oM GR CH uA
 try dsimp -iota -proj only
 rintro⟨H,y,L,p⟩ ⟨hl,h1,h2,h3,h4⟩;dsimp only at *;obtain⟨e1,_,⟨ea,ec,e2⟩,e3,_⟩:=hl.qT;refine⟨⟨ea,_,ec,e2,e3⟩,⟨0,?_⟩,fun k hk=>?_⟩
 ·and_intros<;>first|exact dc|rfl
 ·obtain⟨hk1,hk2⟩:=hk;rw[e1];refine⟨fun c1=>?_,fun c1=>⟨0,?_⟩⟩
  ·have hk:k<L.l.length:=by have:=of_decide_eq_true c1;omega
   obtain⟨b,lo,o,c,cs,g1,g2,g3,g4⟩:=hl.at_ hk;have hs:=hl.seg k hk;obtain⟨hso,hrl,hbl⟩:=h4 k hk;obtain⟨c9,hrec⟩:=hs.aR;obtain⟨m1,m2,m3,m4,m5,⟨ma,m7⟩,m6⟩:=e9 hrec;rw[NW hk]at hk2;simp only[gi,List.findSome?_cons]at hk2;refine⟨_,_,_,_,g1,by omega,b,lo,o+k*1,cs,by rw[Int.toNat_natCast,Nat.add_assoc],g2,⟨⟨_,g3,rfl⟩,trivial⟩,?_⟩;refine⟨_,_,g4,?_⟩;refine⟨_,_,rfl,?_⟩;refine⟨_,0,_,_,rfl,hs.cell,?_⟩;refine⟨⟨⟨_,rfl,m6⟩,trivial⟩,GN.mk H (gl y.ys k).rv (gl L.l k).aR (gl y.ys k).vs p,?_⟩
   and_intros<;>first|exact dc|rfl|exact⟨c9,hrec⟩|exact hso|skip
   rintro n ⟨n1,n2,n3⟩;dsimp only at n1 n2 n3 ⊢;refine⟨fun c2=>?_,fun c2=>⟨by simp only[bQ];omega,k+1,?_⟩⟩
   ·simp only[Bool.and_eq_true,decide_eq_true_eq]at c2;obtain⟨c2,c3⟩:=c2;have hfind:vW (gl L.l k).aR p=some (gl (gl L.l k).aR n).body:=by
     unfold vW;rw[NX (q:=fun(r:RecM)=>decide (r.pos=p)) c2 (by simp[c3]) fun q hq=>by have:=n2 q hq;simp;omega];rfl
    have hread:gi L.l p=some (gl (gl L.l k).aR n).body:=by
     rw[hfind]at hk2;simp only[gi];exact hk2.symm
    rw[hread];obtain⟨b',lo',o',cs',q1,q2,q3,q4,q5,q6,q7,q8⟩:=uK hrec (k:=n) c2;obtain⟨cb,hbody⟩:=hs.body n c2;obtain⟨w1,w2,w3,w4,w5,⟨wa,w7⟩,w6⟩:=e9 hbody;obtain⟨hb1,hb2⟩:=hbl n c2;refine⟨_,_,g4,?_⟩;refine⟨_,_,rfl,?_⟩;refine⟨_,0,_,_,rfl,hs.cell,?_⟩;refine⟨⟨⟨_,rfl,m6⟩,trivial⟩,_,_,_,_,q1,by omega,_,_,rfl,b',lo',o'+n*2+1,cs',by rw[Int.toNat_natCast];congr 1;omega,q2,⟨⟨_,q4,q5⟩,trivial⟩,?_⟩;rw[q8];have hnil:D6 ((gl y.ys k).vs.getD n undef)=false:=by
     rcases hbody with⟨_,h0,_⟩ | ⟨b9,lo9,o9,cs9,h9,_⟩
     ·omega
     ·rw[h9];rfl
    refine⟨⟨wa,_,_,w7⟩,fun c4=>absurd c4 (by rw[hnil];decide),fun _=>?_⟩
    repeat refine kR ?_
    refine⟨_,cb,_,hbody,?_⟩
    repeat refine kR ?_
    intro cap u1 u2 u3;refine⟨cap,?_⟩;have hrw:aj (gl (gl L.l k).aR n).body.length 1 (aZ (aM 1 []) 0 0 (aa cE (gl (gl L.l k).aR n).body)) (aa cE (gl (gl L.l k).aR n).body):=⟨fun i hi j hj=>by
     simp only[aZ,Nat.not_lt_zero,if_false,Nat.sub_zero]⟩
    simp only[Nat.zero_add,Option.getD_some,AG]
    and_intros<;>first|exact dc|exact hrw
   ·have hnone:vW (gl L.l k).aR p=none:=by
     unfold vW;rw[VJ (q:=fun(r:RecM)=>decide (r.pos=p)) fun q hq=>?_]
     ·rfl
     ·simp only[decide_eq_false_iff_not];intro e;rcases Nat.lt_or_ge q n with hqn|hqn
      ·have:=n2 q hqn;omega
      ·by_cases hqe:q=n
       ·subst hqe;simp[hq,e]at c2
       ·have:=hso.lt n q (by omega) hq;have:=n3 n (Nat.le_refl _) (by omega);omega
    rw[hnone]at hk2
    and_intros<;>first|exact dc|exact hk2
  ·have hkn:k=L.l.length:=by have:=of_decide_eq_false c1;omega
   subst hkn;rw[List.drop_length]at hk2;have:gi L.l p=none:=hk2.symm;rw[this]
   and_intros<;>first|exact dc|rfl)
def iV(l:List dy)(next:Int):Int:=match l.find? (fun g=>decide (0<g.aR.length))with|some g=>(gl g.aR 0).pos|none=>next
structure Ef where
 H:PH
 y:gQ
 L:bN
noncomputable def CI:cC where
 α:=Ef
 β:=Unit
 m:=3
 m':=3
 pre:=fun a=>bU a.H a.y a.L/\a.L.l.length<1000
 args:=fun a=>[.a (.ptr 0 0 0 0)]
 hp:=fun _=>[]
 ro:=fun a=>[(0,fS 2 a.L a.y.lv),(1,.cA a.H)]
 post:=fun _ _=>True
 res:=fun a _=>.a (.int .i64 (iV a.L.l a.L.next))
 cW:=fun _ _=>[]
def Xm(a:Ef):An:=.flat 4 Nat (fun s k=>s.int 12 k) (fun _ k=>k<=a.L.l.length/\iV (a.L.l.drop k) a.L.next=iV a.L.l a.L.next) (fun _ k=>a.L.l.length-k)
def qX(x y:Int):=ah x->bL (x=y)
def GS(y:Nat)(x:Ef):=iV (List.drop y x.L.l) x.L.next=iV x.L.l x.L.next
theorem Pw:fnBody (Y Tryz.prog) [] 164 CI fun a=>[(164,[Xm a],[])]:=fnBody.of (p :=
 ∀x:Ef,bU x.H x.y x.L/\bB x.L<1000->Exists (eC x.y.lv)/\(∃z:Nat,aA z (jj x.y.lv (bT (aW (az (fq x.L x.y (x.H=x.H/\(z<=bB x.L/\GS z x)/\True)))))))/\∀z:Nat,z<=bB x.L/\GS z x->oZ z x.y.lv 1 (fun u=>x.H u) (fun u=>gA u) (fun u t=>True) (fun u t=>gf (aP t u) 4 (fun s=>x.H s) fun s f=>Exists (eC (aP f s))/\aY 0 (dr (aP f s)) (gf (aP t u) 4 (fun v=>x.H v) fun v j=>Exists (iM (aP j v) 0 fun k m=>∃g h:Nat,pv k (m+0)=pv g h/\mF g h 0 (fun w=>x.H w) (fun w=>ji w) (fun w i=>True) fun w i=>qX (js (aP i w)) (iV x.L.l x.L.next))) (cO z fun v=>jj x.y.lv (bT (aW (az (fq x.L x.y (x.H=x.H/\dY v (bB x.L) (GS v x) z))))))) (qX x.L.next (iV x.L.l x.L.next))) (by kernel_rfl) (by
 delta aD aP kA ah bW ay aC aF af bK kz mF dY aX aB dO aV cV eC bT bL oZ cO bB gA fq ax aS iM aA aW jj ag aY gf bx az qX bl bu GS ji
 try dsimp -iota -proj only
 rintro⟨H,y,L⟩ ⟨hl,h1⟩;dsimp only at *;obtain⟨e1,_,⟨ea,ec,e2⟩,e3,_⟩:=hl.qT;refine⟨⟨ea,_,ec,e2,e3⟩,⟨0,?_⟩,fun k hk=>?_⟩
 ·and_intros<;>first|exact dc|rfl
 ·obtain⟨hk1,hk2⟩:=hk;rw[e1];refine⟨fun c1=>?_,fun c1 _=>⟨(),?_⟩⟩
  ·have hk:k<L.l.length:=by have:=of_decide_eq_true c1;omega
   obtain⟨b,lo,o,c,cs,g1,g2,g3,g4⟩:=hl.at_ hk;have hs:=hl.seg k hk;obtain⟨c9,hrec⟩:=hs.aR;obtain⟨m1,m2,m3,m4,m5,⟨ma,m7⟩,m6⟩:=e9 hrec;rw[NW hk]at hk2;simp only[iV,List.find?_cons]at hk2;refine⟨_,_,_,_,g1,by omega,b,lo,o+k*1,cs,by rw[Int.toNat_natCast,Nat.add_assoc],g2,⟨⟨_,g3,rfl⟩,trivial⟩,?_⟩;refine⟨_,_,g4,?_⟩;refine⟨_,_,rfl,?_⟩;refine⟨_,0,_,_,rfl,hs.cell,?_⟩;refine⟨⟨⟨_,rfl,m6⟩,trivial⟩,⟨ma,_,_,m7,by omega⟩,?_⟩;simp only[show(cZ (gl L.l k) (gl y.ys k).bv (gl y.ys k).rv).getD 4 (Value.tuple #[])=(gl y.ys k).rv from rfl,m1];refine⟨fun c2=>?_,fun c2=>⟨by simp only[bQ];omega,k+1,?_⟩⟩
   ·have c2:0<(gl L.l k).aR.length:=by have:=of_decide_eq_true c2;omega
    obtain⟨b',lo',o',cs',q1,q2,q3,q4,q5,q6,q7,q8⟩:=uK hrec (k:=0) c2;rw[decide_eq_true c2]at hk2;refine⟨_,_,g4,?_⟩;refine⟨_,_,rfl,?_⟩;refine⟨_,0,_,_,rfl,hs.cell,?_⟩;refine⟨⟨⟨_,rfl,m6⟩,trivial⟩,_,_,_,_,q1,by omega,_,_,rfl,b',lo',o',cs',rfl,q2,⟨⟨_,q3,_,rfl,q6⟩,trivial⟩,fun _=>⟨(),?_⟩⟩;have q7':cs'.getD o' (Value.tuple #[]) = .int .i64 (gl (gl L.l k).aR 0).pos:=q7;rw[q7']
    and_intros<;>first|exact dc|exact hk2
   ·have c2:¬0<(gl L.l k).aR.length:=by have:=of_decide_eq_false c2;omega
    rw[decide_eq_false c2]at hk2
    and_intros<;>first|exact dc|exact hk2
  ·have hkn:k=L.l.length:=by have:=of_decide_eq_false c1;omega
   subst hkn;rw[List.drop_length]at hk2
   and_intros<;>first|exact dc|exact hk2)
theorem Px:ak (Y Tryz.prog).G.X 213 LV:=aU fF Pv ⟨VI,trivial⟩
theorem zu:ak (Y Tryz.prog).G.X 164 CI:=aU fF Pw trivial
def gB(f:Nat->Int)(r len:Nat):Int:=jN (fun k=>f (r+k)) len
def sV(i:Nat):Nat:=if i=0 then 22 else 16
def qh(g:dy)(i:Nat)(f:Nat->Int):dy:=if i=0 then { g with gen:=uw .i64 (gB f 4 6),base:=uw .i64 (gB f 16 6) }else g
def fT(g:dy)(i:Nat)(f:Nat->Int):Bool :=
 (vM f == gB f 0 4)&&((uw .i64 (gB f 4 6) == (qh g i f).gen)&&(!decide (uw .i64 (gB f 10 4)<g.run)&&((f 14 == (i:Int))&&(decide (f 15<=ku i)&&decide (g.buf.length=bZ i)))))
def gI(g:dy)(i:Nat)(f:Nat->Int):dy :=
 if fT g i f then { qh g i f with run:=uw .i64 (gB f 10 4),buf:=g.buf++(List.range (f 15).toNat).map fun k=>f (sV i+k) }else qh g i f
theorem sW{X:PH}{y:mC}{g g':dy}(h:fK X y g)(hb:g'.buf=g.buf)(hr:g'.aR=g.aR)(hg:bQ .i64 g'.gen/\bQ .i64 g'.base/\bQ .i64 g'.run) :
 fK (aO X y.b 0 (cZ g' y.bv y.rv)) y g'/\Fr X y (aO X y.b 0 (cZ g' y.bv y.rv)) y:=by
 obtain⟨⟨n1,n2,n3⟩,_⟩:=Cz.1 h.nd;refine⟨⟨⟨dF ..,hg,?_,?_,by rw[hr];exact h.at_.len,fun i hi=>?_⟩,h.nd⟩,fun x hx hn=>⟨cD fun e=>hn (by rw[e];exact List.mem_cons_self),hn⟩⟩
 ·rw[hb];exact h.at_.buf.frame fun x hx=>cD fun e=>n1 (by rw[<- e];exact hx)
 ·rw[hr];obtain⟨c,hc⟩:=h.at_.aR;exact⟨c,iL hc fun x hx=>cD fun e=>n2 (by rw[<- e];exact hx)⟩
 ·rw[hr]at hi ⊢;refine(h.at_.body i hi).frame fun x hx=>cD fun e=>n3 ?_;rw[<- e];refine List.mem_flatMap.2 ⟨_,?_,hx⟩;have:=h.at_.len;rw[List.getD_eq_getElem?_getD,List.getElem?_eq_getElem (by omega)];exact List.getElem_mem _
structure x9 where
 H:PH
 y:mC
 g:dy
 i:Nat
 f:Nat->Int
 cap:Nat
structure AH where
 H:PH
 y:mC
noncomputable def SD:cC where
 α:=x9
 β:=AH
 m:=2
 m':=3
 pre:=fun a=>fK a.H a.y a.g/\a.i<8/\a.g.buf.length<=378/\64<=a.cap/\(fT a.g a.i a.f=true->0<a.f 15)
 args:=fun a=>[.a (.val (pv a.y.b 0)),.a (.int .i64 a.i),.a (.slc 1 0 1 64 a.cap)]
 hp:=fun a=>[(0,.cA a.H)]
 ro:=fun a=>[(1,.arr 5 [.int .u8] 64 (bM a.f))]
 post:=fun a b=>fK b.H b.y (gI a.g a.i a.f)/\b.y.b=a.y.b/\b.y.rv=a.y.rv/\Fr a.H a.y b.H b.y
 res:=fun a _=>.a (.bool (fT a.g a.i a.f))
 cW:=fun _ b=>[(2,.cA b.H)]
def S.cA(s:S)(H:PH):S:=(s.put (s.hp.del (JD s))).new (.cA H)
def Xn(a:x9):An:=.mk 5 PH (fun s H=>S.cA (s.set 7 (.a (.slc (s.tg 2) (sV a.i) 1 (ku a.i) (a.cap-sV a.i)))) H) (fun _ H=>fK H a.y (qh a.g a.i a.f)/\Fr a.H a.y H a.y) (fun _ _=>0) fun _=>.mk 1000 [] []
def qY(x:wN):Int:=oI (qP x x.len)
def AI(x:Nat)(y:List Value)(z:wN):List Value:=zm x y (bq (qY z) [])
def CJ(z:AH)(x:x9):=fK z.H z.y (gI x.g x.i x.f)/\z.y.b=x.y.b/\z.y.rv=x.y.rv/\Fr x.H x.y z.H z.y
def xh(z:Bool)(x:x9)(u:PH)(v:Prop):=aD z (∃y:AH,fR (fT x.g x.i x.f) (u=y.H) (CJ y x/\True)) v
def uM(y z u v:Nat)(w:Nat->Int)(s:wN->Prop):=∃x:wN,(y=x.r/\z=x.len/\u-v=x.cap)/\aK x.n 64 1 (bM w) x.rows/\(x.r+x.len<=x.n/\x.len<=8)/\aI (s x)
def LW(u:Nat)(x:x9)(v w s:Nat)(t:PH):=∃z:PH,(u=sV x.i/\v=ku x.i/\w-s=x.cap-sV x.i)/\bT (cV (pv x.y.b 0)/\bu x.i/\bC 64 x.cap/\t=z/\dN 64 1 (bM x.f)/\(fK z x.y (qh x.g x.i x.f)/\Fr x.H x.y z x.y)/\True)
def GU(x:x9):=fK x.H x.y x.g/\x.i<8/\av x.g.buf<=378/\64<=x.cap/\(aB (fT x.g x.i x.f)->(0:Int)<x.f 15)
theorem SE:fnBody (Y Tryz.prog) [(230,Jn),(203,Sc)] 231 SD fun a=>[(231,[],[Xn a])]:=fnBody.of (p :=
 ∀x:x9,GU x->dX 16 64/\aD (af x.i == (0:Int)) (cU 10 x.cap/\dX 4 10/\cU 6 (x.cap-16)/\uM 4 6 x.cap 4 x.f fun z=>uM 16 6 (x.cap-16) 0 x.f fun G=>oK (pv x.y.b 0) 0 (fun v=>x.H v) (A.int .i64 (qY z)) fun v u t w=>oK (pv x.y.b 0) 1 (fun h=>aO x.H v u (AI t w z) h) (A.int .i64 (qY G)) fun h B j C=>dX 6 48/\LW 22 x 42 (x.cap-16) 6 (aO (aO x.H v u (AI t w z)) h B (AI j C G))) (LW 16 x 48 x.cap 16 x.H)/\∀z:PH,fK z x.y (qh x.g x.i x.f)/\Fr x.H x.y z x.y->cU 14 x.cap/\dX 10 14/\uM 10 4 x.cap 10 x.f fun v=>dX 4 64/\cU 4 x.cap/\∃u:yX,bW 1 (1=u.c)/\(4=u.r/\60=u.len/\x.cap-4=u.cap)/\aK u.n 64 1 (bM x.f) u.rows/\(u.r+u.len<=u.n/\u.len<100000)/\aI (uM 0 4 x.cap 0 x.f fun t=>xh (uv u u.len != qP t t.len) x z (cU 10 x.cap/\dX 4 10/\gC (pv x.y.b 0) 0 (fun w=>z w) fun w h=>uM 4 6 x.cap 4 x.f fun B=>xh (qY B != js (aP h w)) x z (gC (pv x.y.b 0) 2 (fun j=>z j) fun j C=>xh (aF (qY v) (js (aP C j))) x z (aX 14 64/\14<64/\(jE (x.f 14)->xh (x.f 14 != af x.i) x z (aX 15 64/\15<64/\(jE (x.f 15)->xh (aF (af (ku x.i)) (x.f 15)) x z (gf (pv x.y.b 0) 3 (fun l=>z l) fun l I=>Exists (eC (aP I l))/\oH (af x.i*(48:Int)) 6 (xh (af (dr (aP I l)) != oW true 0 (af x.i*(48:Int)-6)) x z (oK (pv x.y.b 0) 2 (fun s=>z s) (A.int .i64 (qY v)) fun s m o p=>gf (pv x.y.b 0) 3 (fun k=>aO z s m (AI o p v) k) fun k D=>aX 15 64 /\
 15<64/\(jE (x.f 15)->cU (x.f 15) (x.cap-sV x.i)/\uJ (aO z s m (AI o p v)) (aP D k) .u8 [] (sV x.i+0+(aV (x.f 15)-0)) 64 (aV (x.f 15)-0) 1 1 (fun q E=>fA (x.f (sV x.i+0+q))) fun q E d e J=>oK (pv x.y.b 0) 3 (fun F=>aO (aL (aO z s m (AI o p v)) (aP D k)) d e J F) (A.val (eW d e (q+(aV (x.f 15)-0)) E)) fun F L M N=>∃K:AH,true=fT x.g x.i x.f/\aO (aO (aL (aO z s m (AI o p v)) (aP D k)) d e J) F L (jw M N d e q (aV (x.f 15)-0) E)=K.H/\CJ K x/\True)))))))))))) (by kernel_rfl) (by
 delta aD aP av aK kA ah bq jw bW aC gH oW aF af bK kz dX bD aX fA aB dO aV fR bS cV dN AF eC aI AI bT bC xh gA gC oK jH qY uM uJ ag uv zm gf CJ LW qP oH bu jE GU cU ji uu qf oI
 try dsimp -iota -proj only
 rintro⟨H,y,g,i,f,cap⟩ ⟨hs,hi,hlen,hcap,hpos⟩;dsimp only at *;have eG:∀r len,jN (fun i=>u8 (bM f) (r+i)) len=gB f r len:=fun _ _=>rfl;have eS:dA .xor .u32 4294967295 (qD (fun i=>u8 (bM f) (4+i)) 60)=vM f:=rfl;obtain⟨rg1,rg2,rg3⟩:=hs.at_.A5
 repeat refine kR ?_
 refine⟨⟨fun c1=>?_,fun c1=>?_⟩,?_⟩
 ·have hi0:i=0:=by simpa using c1
  subst hi0
  repeat refine kR ?_
  refine⟨wN.mk 4 6 (cap-4) 64 (bM f),?_⟩
  and_intros<;>first|exact dc|skip
  intro _ _;refine⟨wN.mk 16 6 (cap-16-0) 64 (bM f),?_⟩
  and_intros<;>first|exact dc|skip
  intro _ _;dsimp only;simp only[eG];have s1:=sW (g':={ g with gen:=uw .i64 (gB f 4 6) }) hs rfl rfl ⟨si _ _,rg2,rg3⟩;have s2:=sW (g':={ g with gen:=uw .i64 (gB f 4 6),base:=uw .i64 (gB f 16 6) }) s1.1 rfl rfl ⟨si _ _,si _ _,rg3⟩;refine⟨_,_,rfl,?_⟩;refine⟨_,_,rfl,?_⟩;refine⟨_,0,_,_,rfl,hs.at_.cell,by simp[cZ],?_⟩;refine⟨_,_,rfl,?_⟩;refine⟨_,_,rfl,?_⟩;refine⟨_,0,_,_,rfl,s1.1.at_.cell,by simp[cZ],?_⟩
  repeat refine kR ?_
  refine⟨aO (aO H y.b 0 (cZ { g with gen:=uw .i64 (gB f 4 6) } y.bv y.rv)) y.b 0 (cZ { g with gen:=uw .i64 (gB f 4 6),base:=uw .i64 (gB f 16 6) } y.bv y.rv),?_⟩
  and_intros<;>first|exact dc|exact s2.1|exact s1.2.trans s2.2|rfl|(simp only[sV,if_true];omega)|skip
 ·have hi0:i≠0:=by simpa using c1
  refine⟨H,?_⟩;have hg:qh g i f=g:=if_neg hi0;rw[hg]
  and_intros<;>first|exact dc|exact hs|exact fun x _ hn=>⟨rfl,hn⟩|(simp only[sV,ku,if_neg hi0];done)|skip
 ·rintro X ⟨hX,hfr⟩;obtain⟨g1,hg1⟩:∃g1,g1=qh g i f:=⟨_,rfl⟩
  have eb:g1.buf=g.buf:=by rw[hg1];unfold qh;split<;>rfl
  have er:g1.run=g.run:=by rw[hg1];unfold qh;split<;>rfl
  rw[<- hg1]at hX;obtain⟨rx1,rx2,rx3⟩:=hX.at_.A5;obtain⟨b1,b2,b3,b4,⟨ba,bc,b5⟩,b6⟩:=hX.at_.buf.len;have hcell:=hX.at_.cell
  repeat refine kR ?_
  refine⟨wN.mk 10 4 (cap-10) 64 (bM f),?_⟩
  and_intros<;>first|exact dc|skip
  intro _ _;dsimp only;simp only[eG]
  repeat refine kR ?_
  refine⟨yX.mk 1 4 60 (cap-4) 64 (bM f),?_⟩
  and_intros<;>first|exact dc|skip
  intro _ _;refine⟨wN.mk 0 4 (cap-0) 64 (bM f),?_⟩
  and_intros<;>first|exact dc|skip
  intro _ _;dsimp only;simp only[eG,eS];refine⟨fun c1=>?_,fun c1=>?_⟩
  ·have hF:fT g i f=false:=by
    unfold fT;rw[<- hg1];have:(vM f == gB f 0 4)=false:=by simpa using c1
    rw[this];rfl
   refine⟨⟨X,y⟩,?_⟩;rw[hF,show gI g i f=g1 by unfold gI;rw[hF];exact hg1.symm]
   and_intros<;>first|exact dc|exact hX.at_|exact hX|exact hfr|rfl
  ·have k1:(vM f == gB f 0 4)=true:=by simpa using c1
   repeat refine kR ?_
   refine⟨_,_,rfl,?_⟩;refine⟨_,_,rfl,?_⟩;refine⟨_,0,_,_,rfl,hcell,?_⟩;refine⟨⟨⟨_,rfl,_,rfl,rx1⟩,trivial⟩,fun _=>⟨wN.mk 4 6 (cap-4) 64 (bM f),?_⟩⟩
   and_intros<;>first|exact dc|skip
   intro _ _;dsimp only;simp only[eG,cZ,List.getD_cons_zero,js];refine⟨fun c2=>?_,fun c2=>?_⟩
   ·have hF:fT g i f=false:=by
     unfold fT;rw[<- hg1];have:(uw .i64 (gB f 4 6) == g1.gen)=false:=by simpa using c2
     rw[this,Bool.false_and,Bool.and_false]
    refine⟨⟨X,y⟩,?_⟩;rw[hF,show gI g i f=g1 by unfold gI;rw[hF];exact hg1.symm]
    and_intros<;>first|exact dc|exact hX.at_|exact hX|exact hfr|rfl
   ·have k2:(uw .i64 (gB f 4 6) == g1.gen)=true:=by simpa using c2
    refine⟨_,_,rfl,?_⟩;refine⟨_,_,rfl,?_⟩;refine⟨_,0,_,_,rfl,hcell,?_⟩;refine⟨⟨⟨_,rfl,_,rfl,rx3⟩,trivial⟩,fun _=>?_⟩;simp only[cZ,List.getD_cons_zero,List.getD_cons_succ,js];refine⟨fun c3=>?_,fun c3=>?_⟩
    ·have hF:fT g i f=false:=by
      unfold fT;rw[<- hg1];rw[<- er,c3,k1,k2];simp
     refine⟨⟨X,y⟩,?_⟩;rw[hF,show gI g i f=g1 by unfold gI;rw[hF];exact hg1.symm]
     and_intros<;>first|exact dc|exact hX.at_|exact hX|exact hfr|rfl
    ·repeat refine kR ?_
     intro rg14;refine⟨fun c4=>?_,fun c4=>?_⟩
     ·have hF:fT g i f=false:=by
       unfold fT;rw[<- hg1];have:(f 14 == (i:Int))=false:=by simpa using c4
       rw[this,Bool.false_and,Bool.and_false,Bool.and_false,Bool.and_false]
      refine⟨⟨X,y⟩,?_⟩;rw[hF,show gI g i f=g1 by unfold gI;rw[hF];exact hg1.symm]
      and_intros<;>first|exact dc|exact hX.at_|exact hX|exact hfr|rfl
     ·have k4:(f 14 == (i:Int))=true:=by simpa using c4
      repeat refine kR ?_
      intro rg15;refine⟨fun c5=>?_,fun c5=>?_⟩
      ·have hF:fT g i f=false:=by
        unfold fT;rw[<- hg1];have c5:=of_decide_eq_true c5;have:decide (f 15<=ku i)=false:=by simp;omega
        rw[this,Bool.false_and,Bool.and_false,Bool.and_false,Bool.and_false,Bool.and_false]
       refine⟨⟨X,y⟩,?_⟩;rw[hF,show gI g i f=g1 by unfold gI;rw[hF];exact hg1.symm]
       and_intros<;>first|exact dc|exact hX.at_|exact hX|exact hfr|rfl
      ·have k5:decide (f 15<=ku i)=true:=by have:=of_decide_eq_false c5;simp;omega
       refine⟨_,_,rfl,?_⟩;refine⟨_,_,rfl,?_⟩;refine⟨_,0,_,_,rfl,hcell,?_⟩;refine⟨⟨⟨_,rfl,b6⟩,trivial⟩,⟨ba,_,bc,b5,b3⟩,?_⟩
       repeat refine kR ?_
       simp only[cZ,List.getD_cons_zero,List.getD_cons_succ,b1];have em2:(bif true then max 0 ((i:Int)*48-6)else min 0 ((i:Int)*48-6))=(bZ i:Nat):=by simp only[cond_true,bZ];omega
       rw[em2];refine⟨fun c6=>?_,fun c6=>?_⟩
       ·have hF:fT g i f=false:=by
         unfold fT;rw[<- hg1];have c6:g1.buf.length≠bZ i:=by intro e;rw[e]at c6;simp at c6
         have:decide (g.buf.length=bZ i)=false:=by rw[<- eb];simpa using c6
         rw[this,Bool.and_false,Bool.and_false,Bool.and_false,Bool.and_false,Bool.and_false]
        refine⟨⟨X,y⟩,?_⟩;rw[hF,show gI g i f=g1 by unfold gI;rw[hF];exact hg1.symm]
        and_intros<;>first|exact dc|exact hX.at_|exact hX|exact hfr|rfl
       ·have k6:g1.buf.length=bZ i:=by
         have:(g1.buf.length:Int)=(bZ i:Nat):=by simpa using c6
         omega
        have hT:fT g i f=true:=by
         unfold fT;rw[<- hg1,k1,k2,<- er,c3,k4,k5,<- eb,k6];simp
        have s1:=sW (g':={ g1 with run:=uw .i64 (gB f 10 4) }) hX rfl rfl ⟨rx1,rx2,si _ _⟩;obtain⟨X1,hX1⟩:∃X1,X1=aO X y.b 0 (cZ { g1 with run:=uw .i64 (gB f 10 4) } y.bv y.rv):=⟨_,rfl⟩
        rw[<- hX1]at s1;have hf15:(f 15).toNat<=ku i:=by have:=of_decide_eq_true k5;omega
        have hroom:sV i+ku i=64:=by unfold sV ku;split<;>rfl
        have hroom2:ku i<=48:=by unfold ku;split<;>omega
        refine⟨_,_,rfl,?_⟩;refine⟨_,_,rfl,?_⟩;refine⟨_,0,_,_,rfl,hcell,by simp[cZ],?_⟩;simp only[show aO X y.b 0 (List.take 2 (cZ g1 y.bv y.rv)++[Value.int .i64 (uw .i64 (gB f 10 4))]++List.drop (2+[Value.int .i64 (uw .i64 (gB f 10 4))].length) (cZ g1 y.bv y.rv))=X1 from hX1.symm];refine⟨_,_,rfl,?_⟩;refine⟨_,_,rfl,?_⟩;refine⟨_,0,_,_,rfl,s1.1.at_.cell,?_⟩;refine⟨⟨⟨_,rfl,b6⟩,trivial⟩,?_⟩
        repeat refine kR ?_
        intro _;obtain⟨c0,hbuf⟩:=s1.1.at_.buf;simp only[bQ]at rg15;have hp15:=hpos hT;simp only[show(cZ { g1 with run:=uw .i64 (gB f 10 4) } y.bv y.rv).getD 3 (Value.tuple #[])=y.bv from rfl]
        repeat refine kR ?_
        refine⟨_,c0,_,hbuf,?_⟩;dsimp only;rw[eb]
        repeat refine kR ?_
        intro cap1 q1 q2 q3
        repeat refine kR ?_
        intro p1 lo1 cs1 hp1 hl1 hr1;have hB:Step X1 y.bv (aO (aL X1 y.bv) p1 lo1 cs1) (eW p1 lo1 (g.buf.length+((f 15).toNat-0)) cap1):=rP hp1;have hlb:(g.buf++(List.range (f 15).toNat).map fun k=>f (sV i+k)).length=g.buf.length+((f 15).toNat-0):=by simp
        have hBy:fu (aO (aL X1 y.bv) p1 lo1 cs1) (eW p1 lo1 (g.buf.length+((f 15).toNat-0)) cap1) (g.buf++(List.range (f 15).toNat).map fun k=>f (sV i+k)):=by
         refine⟨cap1,?_⟩;rw[hlb];refine mI hl1 q1 q2 hr1 fun k hk j hj=>?_;have hj0:j=0:=by simpa using hj
         subst hj0;simp only[Nat.zero_add,aZ,aa,cE,List.getD_cons_zero];by_cases hin:k<g.buf.length
         ·rw[if_pos hin,bJ hin]
         ·rw[if_neg hin];obtain⟨m,rfl⟩:∃m,k=g.buf.length+m:=⟨k-g.buf.length,by omega⟩
          rw[bf,Nat.add_sub_cancel_left];have:gl ((List.range (f 15).toNat).map fun k=>f (sV i+k)) m=f (sV i+m):=by
           rw[bR (by simp;omega)];simp
          rw[this,Nat.add_zero]
        obtain⟨hc2,hs3,hf3⟩:=wZ s1.1 hB hBy;refine⟨_,_,rfl,?_⟩;refine⟨_,_,rfl,?_⟩;refine⟨_,0,_,_,rfl,hc2,by simp[cZ],?_⟩;have hM:gI g i f={ g1 with run:=uw .i64 (gB f 10 4),buf:=g.buf++(List.range (f 15).toNat).map fun k=>f (sV i+k) }:=by
         unfold gI;rw[if_pos hT,<- hg1]
        refine⟨⟨aO (aO (aL X1 y.bv) p1 lo1 cs1) y.b 0 (cZ { g1 with run:=uw .i64 (gB f 10 4),buf:=g.buf++(List.range (f 15).toNat).map fun k=>f (sV i+k) } (eW p1 lo1 (g.buf.length+((f 15).toNat-0)) cap1) y.rv),{ y with bv:=eW p1 lo1 (g.buf.length+((f 15).toNat-0)) cap1 }⟩,?_⟩;rw[hT,hM];refine And.intro (by first|trivial|rfl) (And.intro rfl (And.intro ⟨hs3,rfl,rfl,?_⟩ trivial));exact(hfr.trans s1.2).trans hf3)
theorem SF:ak (Y Tryz.prog).G.X 231 SD:=aU fF SE ⟨Bp,Gk,trivial⟩
structure uN where
 H:PH
 v:Value
 len:Nat
 c:Nat
 rows:Nat->Nat->Value
noncomputable def SG:cC where
 α:=uN
 β:=Unit
 m:=1
 m':=1
 pre:=fun a=>jZ a.H a.v [.int .u8] a.len a.c a.rows/\a.len<=8
 args:=fun a=>[.a (.val a.v)]
 hp:=fun _=>[]
 ro:=fun a=>[(0,.cA a.H)]
 post:=fun _ _=>True
 res:=fun a _=>.a (.int .u64 (jN (fun i=>u8 a.rows i) a.len))
 cW:=fun _ _=>[]
def YK(a:uN):An:=.flat 3 Nat (fun s k=>(s.set 3 (.a (.int .u64 (jN (fun i=>u8 a.rows i) k)))).int 8 k) (fun _ k=>k<=a.len) (fun _ k=>a.len-k)
def uO(x:uN)(y:Nat):Int:=jN (fun z=>u8 x.rows z) y
def GV(x:uN):=jZ x.H x.v (iN (CK.int .u8)) x.len x.c x.rows/\x.len<=8
theorem SH:fnBody (Y Tryz.prog) [] 230 SG fun a=>[(230,[YK a],[])]:=fnBody.of (p :=
 ∀x:uN,GV x->Exists (eC x.v)/\(∃y:Nat,aA y ((0:Int)=uO x y/\jj x.v (aW (cV x.v/\x.H=x.H/\y<=x.len/\True))))/\∀y:Nat,y<=x.len->oZ y x.v 1 (fun z=>x.H z) (fun z=>∃u:Int,z=fA u/\jE u) (fun z u=>True) (fun z u=>jE (js (aP u z))->(0:Int)<=8/\cO y fun w=>dA .or .u64 (cQ (uO x y*(256:Int))) (js (aP u z))=uO x w/\jj x.v (aW (cV x.v/\x.H=x.H/\bF w x.len y))) (bL (uO x y=uO x x.len))) (by kernel_rfl) (by
 delta aD aP ah ay aC aF af mF aX fA aB aV cV eC bL oZ cO bF cQ ax aS iM aA aW jj aY bx iN bl bu jE uO GV
 try dsimp -iota -proj only
 rintro⟨H,v,len,c,rows⟩ ⟨hs,h1⟩;dsimp only at *;obtain⟨e1,_,e3,e4,_,⟨ea,e2⟩,_⟩:=e9 hs;refine⟨⟨ea,_,_,e2,by omega⟩,⟨0,?_⟩,fun k hk=>⟨fun c1=>?_,fun c1=>⟨(),?_⟩⟩⟩
 ·and_intros<;>first|exact dc|rfl
 ·rw[e1]at c1;have hk:k<len:=by have:=of_decide_eq_true c1;omega
  rcases hs with⟨_,h0,_⟩ | ⟨b,lo,o,cs,g1,g2,g3,g4,g5⟩
  ·omega
  ·obtain⟨q1,m,q2,q3⟩:=g5.at_ k hk 0 (.int .u8) rfl;have q1:cs[o+k*1]? = some (rows k 0):=q1;have q4:cs.getD (o+k*1) (Value.tuple #[])=rows k 0:=by rw[List.getD_eq_getElem?_getD,q1];rfl
   refine⟨_,_,_,_,g1,by omega,b,lo,o+k*1,cs,by rw[Int.toNat_natCast,Nat.add_assoc],g3,⟨⟨_,q1,m,q2,q3⟩,trivial⟩,fun _=>?_⟩;rw[q4];refine⟨by omega,by simp only[bQ];omega,k+1,?_⟩
   and_intros<;>first|exact dc|rfl
 ·have hk:k=len:=by rw[e1]at c1;have:=of_decide_eq_false c1;omega
  subst hk
  and_intros<;>first|exact dc|rfl)
theorem SI:ak (Y Tryz.prog).G.X 230 SG:=aU fF SH trivial
def GW(buf:List Int)(at_:Nat):Int:=uw .i64 (jN (fun k=>gl buf (at_+k)) 2)
def YL(buf:List Int)(at_:Nat):Int:=uw .i64 (jN (fun k=>gl buf (at_+2+k)) 6)
def rQ(buf:List Int)(at_:Nat):Bool:=decide (at_+8<=buf.length)&&(decide (1<=GW buf at_)&&(decide (GW buf at_<=300)&&decide ((at_:Int)+8+GW buf at_<=buf.length)))
def recAt(buf:List Int)(at_:Nat):RecM:=⟨YL buf at_,(buf.drop (at_+8)).take (GW buf at_).toNat⟩
def fc(buf:List Int):Nat->Nat->List RecM×Nat
 |0,at_=>([],at_)
 |k+1,at_=>if rQ buf at_ then(recAt buf at_::(fc buf k (at_+8+(GW buf at_).toNat)).1,(fc buf k (at_+8+(GW buf at_).toNat)).2)else([],at_)
def ya(g:dy):dy:={ g with aR:=(fc g.buf 50 0).1,buf:=g.buf.take (fc g.buf 50 0).2 }
structure tI where
 H:PH
 y:mC
 g:dy
noncomputable def CL:cC where
 α:=tI
 β:=AH
 m:=1
 m':=2
 pre:=fun a=>fK a.H a.y a.g/\a.g.buf.length<=378/\a.g.aR=[]
 args:=fun a=>[.a (.val (pv a.y.b 0))]
 hp:=fun a=>[(0,.cA a.H)]
 ro:=fun _=>[]
 post:=fun a b=>fK b.H b.y (ya a.g)/\b.y.b=a.y.b/\Fr a.H a.y b.H b.y
 res:=fun _ _=>.mm []
 cW:=fun _ b=>[(1,.cA b.H)]
structure nh where
 H:PH
 y:mC
 rs:List RecM
 at_:Nat
 k:Nat
def YM(a:tI):An:=.flat 1 nh (fun s x=>S.cA (s.int 2 x.at_) x.H) (fun _ x=>fK x.H x.y { a.g with aR:=x.rs }/\x.y.b=a.y.b/\Fr a.H a.y x.H x.y/\x.at_<=a.g.buf.length/\a.g.buf.length<x.at_+9*x.k/\x.rs++(fc a.g.buf x.k x.at_).1=(fc a.g.buf 50 0).1/\(fc a.g.buf x.k x.at_).2=(fc a.g.buf 50 0).2/\x.rs.length*9<=x.at_) (fun _ x=>a.g.buf.length-x.at_)
def Xo(a:tI):An:=.mk 7 nh (fun s x=>S.cA (s.int 2 x.at_) x.H) (fun _ x=>fK x.H x.y { a.g with aR:=(fc a.g.buf 50 0).1 }/\x.y.b=a.y.b/\Fr a.H a.y x.H x.y/\x.at_<=a.g.buf.length/\x.at_=(fc a.g.buf 50 0).2) (fun _ _=>0) fun _=>.mk 1000 [] []
def LX(z:nh)(x:tI)(u:List RecM)(v:Prop):=fK z.H z.y { gen:=x.g.gen,base:=x.g.base,run:=x.g.run,buf:=x.g.buf,aR:=u }/\z.y.b=x.y.b/\Fr x.H x.y z.H z.y/\z.at_<=av x.g.buf/\v
def NY(x:nh)(y:tI):=LX x y x.rs (av y.g.buf<x.at_+9*x.k/\x.rs++(fc y.g.buf x.k x.at_).fst=(fc y.g.buf 50 0).fst/\(fc y.g.buf x.k x.at_).snd=(fc y.g.buf 50 0).snd/\x.rs.length*9<=x.at_)
def qZ(x:uN):Int:=oI (uO x x.len)
def GX(f:Value)(u:PH)(s:Value)(t:Int)(g:Nat->Nat->Nat->Nat->List Value->Prop)(h:Nat->Option (Nat×List Value))(i:Nat->Nat->List Value->Nat->Nat->Nat->Nat->List Value->Prop):=CH f (uJ u s .i64 (iN CK.deep) 1 1 1 32 2 (fun x y=>aM 2 (bq t (bD gh)) (0+x) y) fun x y z v w=>g x y z v w) u fun x y=>CD x (fun z=>h z) y u s t fun z v w j k l m n=>i z v w j k l m n
def LY(y:nh)(x:tI):=LX y x (fc x.g.buf 50 0).fst (y.at_=(fc x.g.buf 50 0).snd)
def LZ(x:tI)(f:PH)(h:List Value)(i z u:Nat)(j:List Value)(k l:Nat)(w:uN)(s:nh):=oK (pv x.y.b 0) 4 (fun t=>aO (aL f (aP h i)) z u j t) (A.val (eW z u (k+1) l)) fun t m n o=>ah ((8:Int)+qZ w)/\ah (af s.at_+((8:Int)+qZ w))/\∃v:nh,af s.at_+((8:Int)+qZ w)=af v.at_/\cV (pv x.y.b 0)/\aO (aO (aL f (aP h i)) z u j) t m (jw n o z u k 1 l)=v.H/\NY v x/\av x.g.buf-v.at_<av x.g.buf-s.at_
def L0(x:nh)(y:Int)(u:List Value)(w:Nat)(s:Int)(t:Nat)(f:uN->Prop):=ah (af x.at_+y)/\FN (aP u w)/\cU (af x.at_+y) (jt (aP u w))/\cU s (aV (af x.at_+y))/\∃z:uN,sL u w t (aV (af x.at_+y))=z.v/\x.H=z.H/\GV z/\aI (f z)
def GY(z:nh)(u:tI):=∃x:nh,bA z.at_ x.at_/\cV (pv u.y.b 0)/\z.H=x.H/\LY x u/\True
def uP(z:tI)(u:Nat)(v:nh)(w:Nat->List Value->Prop):=gf (pv z.y.b 0) u (fun x=>v.H x) fun x s=>w x s
theorem JH:fnBody (Y Tryz.prog) [(230,SG)] 232 CL fun a=>[(232,[YM a],[Xo a])]:=fnBody.of (p :=
 ∀z:tI,fK z.H z.y z.g/\av z.g.buf<=378/\z.g.aR=[]->((∃x:nh,aA x.at_ (cV (pv z.y.b 0)/\z.H=x.H/\NY x z/\True))/\∀x:nh,NY x z->uP z 3 x fun w s=>Exists (eC (aP s w))/\mG (af (dr (aP s w))-af x.at_) 8 (uP z 3 x fun t h=>L0 x 2 h t (af x.at_) (ay x.at_) fun u=>uP z 3 x fun i v=>ah (af x.at_+(2:Int))/\L0 x 8 v i (af x.at_+(2:Int)) (aV (af x.at_+(2:Int))) fun d=>lp (qZ u) 1 (GY x z) 300 (uP z 3 x fun j k=>Exists (eC (aP k j))/\oH (af (dr (aP k j))-af x.at_) 8 (aD (aF (af (dr (aP k j))-af x.at_-(8:Int)) (qZ u)) (GY x z) (uP z 4 x fun l m=>uP z 3 x fun n o=>ah (af x.at_+(8:Int))/\nB (af x.at_+(8:Int)) (qZ u) (FN (aP o n)/\zc (af x.at_+(8:Int)) (qZ u) (jt (aP o n)) (GX (sL o n (aV (af x.at_+(8:Int))) (aV (af x.at_+(8:Int)+qZ u))) x.H (aP m l) (qZ d) (fun f p q r c=>LZ z x.H m l q r c f p u x) (fun f=>x.H f) fun f p q r c e B C=>LZ z (aO x.H f p q) m l e B C r c u x)))))) (GY x z))/\∀x:nh,LY x z->uP z 3 x fun w s=>FN (aP s w)/\cU (af x.at_) (jt (aP s w))/\oK (pv z.y.b 0) 3 (fun t=>x.H t) (A.val (sL s w 0 (ay x.at_))) fun t h u i=>∃v:AH,aO x.H t h (zm u i (bD (sL s w 0 (ay x.at_))))=v.H /\
 (fK v.H v.y (ya z.g)/\v.y.b=z.y.b/\Fr z.H z.y v.H v.y)/\True) (by kernel_rfl) (by
 delta aD aP av kA ah bq jw ay gH aF af kz dX bD aB dO aV bS cV iY AF eC aI NY gA qZ GX gh LY oK jH aA cM uJ CD LZ mG L0 nB zm gf iN GY oH zc bA uP uO cU LX qf CH sL GV oI lp
 try dsimp -iota -proj only
 rintro⟨H,y,g⟩ ⟨hs,hlen,hnil⟩;dsimp only at *;refine⟨⟨⟨⟨H,y,[],0,50⟩,?_⟩,?_⟩,?_⟩
 ·have hs':fK H y { g with aR:=[] }:=by rw[<- hnil];exact hs
  and_intros<;>first|exact dc|exact hs'|exact fun x _ hn=>⟨rfl,hn⟩|rfl|skip
 ·rintro⟨X,Y,rs,at_,k⟩ ⟨hX,hb,hfr,h1,h2,h3,h4,h5⟩;dsimp only at *;have hcell:X y.b=some (0,cZ { g with aR:=rs } Y.bv Y.rv):=by rw[<- hb];exact hX.at_.cell
  obtain⟨b1,b2,b3,b4,⟨ba,bc,b5⟩,b6⟩:=hX.at_.buf.len;have b1:dr Y.bv=g.buf.length:=b1;have b4:g.buf.length<=jt Y.bv:=b4;have hbuf:fu X Y.bv g.buf:=hX.at_.buf;have pstop:rQ g.buf at_=false->rs=(fc g.buf 50 0).1/\at_=(fc g.buf 50 0).2:=fun hR=>by
   have:fc g.buf k at_=([],at_):=by
    cases k with
    |zero=>rfl
    |succ k=>unfold fc;rw[hR];rfl
   rw[this]at h3 h4;exact⟨by simpa using h3,h4⟩
  have e3:(cZ { g with aR:=rs } Y.bv Y.rv).getD 3 (Value.tuple #[])=Y.bv:=rfl;have e4:(cZ { g with aR:=rs } Y.bv Y.rv).getD 4 (Value.tuple #[])=Y.rv:=rfl;have eN:jN (fun i=>u8 (fun i=>aa cE g.buf (at_+i)) i) 2=jN (fun k=>gl g.buf (at_+k)) 2:=rfl;have eP:jN (fun i=>u8 (fun i=>aa cE g.buf (at_+2+i)) i) 6=jN (fun k=>gl g.buf (at_+2+k)) 6:=rfl;refine⟨_,_,rfl,?_⟩;refine⟨_,_,rfl,?_⟩;refine⟨_,0,_,_,rfl,hcell,?_⟩;refine⟨⟨⟨_,rfl,b6⟩,trivial⟩,⟨ba,_,bc,b5,b3⟩,?_⟩;simp only[e3,b1];refine⟨by simp only[bQ];omega,fun c1=>?_,fun c1=>?_⟩
  ·have c1:at_+8<=g.buf.length:=by have:=of_decide_eq_true c1;omega
   have w1:((at_:Int)+2).toNat=at_+2:=by omega
   have w2:((at_:Int)+8).toNat=at_+8:=by omega
   have cut1:=hbuf.cut (a:=at_) (e:=at_+2) (by omega) (by omega);rw[show at_+2-at_=2 by omega]at cut1;have cut2:=hbuf.cut (a:=at_+2) (e:=at_+8) (by omega) (by omega);rw[show at_+8-(at_+2)=6 by omega]at cut2;refine⟨_,_,rfl,?_⟩;refine⟨_,_,rfl,?_⟩;refine⟨_,0,_,_,rfl,hcell,?_⟩;refine⟨⟨⟨_,rfl,b6⟩,trivial⟩,?_⟩;simp only[e3,w1,Int.toNat_natCast]
   repeat refine kR ?_
   refine⟨uN.mk X (nc 1 Y.bv at_ (at_+2) (jt Y.bv)) 2 (jt Y.bv-at_) (fun i=>aa cE g.buf (at_+i)),rfl,rfl,⟨cut1,by show 2<=8;omega⟩,fun _ _=>?_⟩;dsimp only;refine⟨_,_,rfl,?_⟩;refine⟨_,_,rfl,?_⟩;refine⟨_,0,_,_,rfl,hcell,?_⟩;refine⟨⟨⟨_,rfl,b6⟩,trivial⟩,?_⟩;simp only[e3,w1,w2,eN]
   repeat refine kR ?_
   refine⟨uN.mk X (nc 1 Y.bv (at_+2) (at_+8) (jt Y.bv)) 6 (jt Y.bv-(at_+2)) (fun i=>aa cE g.buf (at_+2+i)),rfl,rfl,⟨cut2,by show 6<=8;omega⟩,fun _ _=>?_⟩;dsimp only;simp only[eP];rw[show uw .i64 (jN (fun k=>gl g.buf (at_+k)) 2)=GW g.buf at_ from rfl,show uw .i64 (jN (fun k=>gl g.buf (at_+2+k)) 6)=YL g.buf at_ from rfl];obtain⟨N,hN⟩:∃N,N=GW g.buf at_:=⟨_,rfl⟩
   rw[<- hN];have hNr:bQ .i64 N:=by rw[hN];exact si _ _
   refine⟨fun c2=>?_,fun c2=>⟨fun c3=>?_,fun c3=>?_⟩⟩
   ·have c2:=of_decide_eq_true c2;refine⟨nh.mk X Y rs at_ 0,?_⟩;have hR:rQ g.buf at_=false:=by unfold rQ;rw[<- hN,show decide (1<=N)=false from decide_eq_false (by omega)];simp
    obtain⟨hp1,hp2⟩:=pstop hR
    and_intros<;>first|exact dc|(rw[<- hp1];exact hX)|exact hfr|exact hb|exact hp2
   ·have c3:=of_decide_eq_true c3;refine⟨nh.mk X Y rs at_ 0,?_⟩;have hR:rQ g.buf at_=false:=by unfold rQ;rw[<- hN,show decide (N<=300)=false from decide_eq_false (by omega)];simp
    obtain⟨hp1,hp2⟩:=pstop hR
    and_intros<;>first|exact dc|(rw[<- hp1];exact hX)|exact hfr|exact hb|exact hp2
   ·have c2:=of_decide_eq_false c2;have c3:=of_decide_eq_false c3;refine⟨_,_,rfl,?_⟩;refine⟨_,_,rfl,?_⟩;refine⟨_,0,_,_,rfl,hcell,?_⟩;refine⟨⟨⟨_,rfl,b6⟩,trivial⟩,⟨ba,_,bc,b5,b3⟩,?_⟩;simp only[e3,b1]
    repeat refine kR ?_
    refine⟨fun c4=>?_,fun c4=>?_⟩
    ·have c4:=of_decide_eq_true c4;refine⟨nh.mk X Y rs at_ 0,?_⟩;have hR:rQ g.buf at_=false:=by unfold rQ;rw[<- hN,show decide ((at_:Int)+8+N<=g.buf.length)=false from decide_eq_false (by omega)];simp
     obtain⟨hp1,hp2⟩:=pstop hR
     and_intros<;>first|exact dc|(rw[<- hp1];exact hX)|exact hfr|exact hb|exact hp2
    ·have c4:=of_decide_eq_false c4;have hR:rQ g.buf at_=true:=by
      unfold rQ;rw[<- hN];simp only[Bool.and_eq_true,decide_eq_true_eq];omega
     obtain⟨nn,rfl⟩:∃nn:Nat,N=nn:=⟨N.toNat,by omega⟩
     have w3:((at_:Int)+8+nn).toNat=at_+8+nn:=by omega
     obtain⟨c9,hrec⟩:=hX.at_.aR;have hrec:jZ X Y.rv rO rs.length c9 (uE rs Y.vs):=hrec;obtain⟨m1,m2,m3,m4,m5,_,m6⟩:=e9 hrec;have cut3:=hbuf.cut (a:=at_+8) (e:=at_+8+nn) (by omega) (by omega);rw[show at_+8+nn-(at_+8)=nn by omega]at cut3;obtain⟨_,_,_,_,_,⟨za,zs⟩,_⟩:=e9 cut3;have hnz:D6 (nc 1 Y.bv (at_+8) (at_+8+nn) (jt Y.bv))=false:=by
      rcases cut3 with⟨_,h0,_⟩ | ⟨b9,lo9,o9,cs9,h9,_⟩
      ·omega
      ·rw[h9];rfl
     refine⟨_,_,rfl,?_⟩;refine⟨_,_,rfl,?_⟩;refine⟨_,0,_,_,rfl,hcell,?_⟩;refine⟨⟨⟨_,rfl,m6⟩,trivial⟩,?_⟩;refine⟨_,_,rfl,?_⟩;refine⟨_,_,rfl,?_⟩;refine⟨_,0,_,_,rfl,hcell,?_⟩;refine⟨⟨⟨_,rfl,b6⟩,trivial⟩,?_⟩;simp only[e3,e4,w2,w3]
     repeat refine kR ?_
     refine⟨⟨za,_,_,zs⟩,fun c5=>absurd c5 (by rw[hnz];decide),fun _=>?_⟩
     repeat refine kR ?_
     refine⟨_,_,_,cut3,?_⟩;simp only[Nat.zero_add]
     repeat refine kR ?_
     intro cap3 u1 u2 u3
     repeat refine kR ?_
     intro p3 lo3 cs3 hp3 hl3 hr3;obtain⟨r,hr⟩:∃r,r=recAt g.buf at_:=⟨_,rfl⟩
     have hrb:r.body.length=nn:=by
      rw[hr];simp only[recAt,<- hN];simp;omega
     have hC:Step X (.slice none 0 0) (aO X p3 lo3 cs3) (eW p3 lo3 nn cap3):=JC hp3;have hCb:fu (aO X p3 lo3 cs3) (eW p3 lo3 nn cap3) r.body:=by
      refine⟨cap3,?_⟩;rw[hrb];refine mI hl3 u1 u2 hr3 fun i hi j hj=>?_;have hj0:j=0:=by simpa using hj
      subst hj0;simp only[aZ,Nat.not_lt_zero,if_false,Nat.sub_zero,aa,cE,List.getD_cons_zero];have:gl r.body i=gl g.buf (at_+8+i):=by
       rw[hr];simp only[recAt,<- hN,gl];rw[List.getD_eq_getElem?_getD,List.getElem?_take_of_lt (by simpa using hi),List.getElem?_drop,List.getD_eq_getElem?_getD]
      rw[this]
     have hx3:∀x,X x≠none->x≠p3:=fun x hx e=>hx (by rw[e];exact hp3);have hrec4:jZ (aO X p3 lo3 cs3) Y.rv rO rs.length c9 (uE rs Y.vs):=iL hrec fun x hx=>cD (hx3 x (mD hrec x hx));refine⟨_,c9,_,hrec4,?_⟩
     repeat refine kR ?_
     intro cap4 v1 v2 v3
     repeat refine kR ?_
     intro p4 lo4 cs4 hp4 hl4 hr4;have hD:Step (aO X p3 lo3 cs3) Y.rv (aO (aL (aO X p3 lo3 cs3) Y.rv) p4 lo4 cs4) (eW p4 lo4 (rs.length+1) cap4):=rP hp4;have hvl:Y.vs.length=rs.length:=hX.at_.len;have hr5:jZ (aO (aL (aO X p3 lo3 cs3) Y.rv) p4 lo4 cs4) (eW p4 lo4 (rs.length+1) cap4) rO (rs.length+1) cap4 (uE (rs++[r]) (Y.vs++[eW p3 lo3 nn cap3])):=by
      refine mI hl4 v1 v2 hr4 fun i hi j hj=>?_;simp only[aZ,uE,Nat.zero_add];by_cases hin:i<rs.length
      ·rw[if_pos hin,bJ hin];by_cases hj0:j=0
       ·rw[if_pos hj0,if_pos hj0]
       ·rw[if_neg hj0,if_neg hj0,List.getD_eq_getElem?_getD,List.getD_eq_getElem?_getD,List.getElem?_append_left (by omega)]
      ·rw[if_neg hin];obtain rfl:i=rs.length:=by omega
       rw[Nat.sub_self];have hj2:j<2:=hj
       match j,hj2 with
       |0,_=>rw[if_pos rfl,show rs.length=rs.length+0 from rfl,bf,hr];rfl
       |1,_=>rw[if_neg (by decide),List.getD_eq_getElem?_getD,List.getElem?_append_right (by omega),hvl,Nat.sub_self];rfl
     obtain⟨hcell4,hcell5,hnd6,hfr6⟩:=AE (r:=r) hX hC hCb hD (fun x hx=>by
      simp only[fB,eW,List.mem_singleton]at hx;rw[hx,dF];simp) ⟨cap4,hr5⟩
     have hpk:∃k',k=k'+1:=by
      cases k with
      |zero=>omega
      |succ k=>exact⟨k,rfl⟩
     obtain⟨k',rfl⟩:=hpk;have hps:fc g.buf (k'+1) at_=(r::(fc g.buf k' (at_+8+nn)).1,(fc g.buf k' (at_+8+nn)).2):=by
      have e:(GW g.buf at_).toNat=nn:=by rw[<- hN];rfl
      rw[hr];show(if rQ g.buf at_=true then _ else _)=_;rw[if_pos hR,e]
     rw[hps]at h3 h4;refine⟨_,_,rfl,?_⟩;refine⟨_,_,rfl,?_⟩;refine⟨_,0,_,_,rfl,by rw[<- hb];exact hcell5,by simp[cZ],?_⟩
     repeat refine kR ?_
     refine⟨⟨aO (aO (aL (aO X p3 lo3 cs3) Y.rv) p4 lo4 cs4) Y.b 0 (cZ { g with aR:=rs++[r] } Y.bv (eW p4 lo4 (rs.length+1) cap4)),⟨Y.b,Y.bv,eW p4 lo4 (rs.length+1) cap4,Y.vs++[eW p3 lo3 nn cap3]⟩,rs++[r],at_+8+nn,k'⟩,?_⟩;have hnd7:fK (aO (aO (aL (aO X p3 lo3 cs3) Y.rv) p4 lo4 cs4) Y.b 0 (cZ { g with aR:=rs++[r] } Y.bv (eW p4 lo4 (rs.length+1) cap4))) ⟨Y.b,Y.bv,eW p4 lo4 (rs.length+1) cap4,Y.vs++[eW p3 lo3 nn cap3]⟩ { g with aR:=rs++[r] }:=hnd6;have h3':rs++[r]++(fc g.buf k' (at_+8+nn)).1=(fc g.buf 50 0).1:=by rw[<- h3,List.append_assoc];rfl
     dsimp only
     and_intros<;>first|exact dc|exact hnd7|exact hb|exact hfr.trans hfr6|exact h3'|exact h4|(rw[<- hb];rfl)|(rw[List.length_append,List.length_singleton];omega)|skip
  ·have c1:=of_decide_eq_false c1;refine⟨nh.mk X Y rs at_ 0,?_⟩;have hR:rQ g.buf at_=false:=by unfold rQ;rw[show decide (at_+8<=g.buf.length)=false from decide_eq_false (by omega)];rfl
   obtain⟨hp1,hp2⟩:=pstop hR
   and_intros<;>first|exact dc|(rw[<- hp1];exact hX)|exact hfr|exact hb|exact hp2
 ·rintro⟨X,Y,rs,at_,k⟩ ⟨hX,hb,hfr,h1,h2⟩;dsimp only at *;have hcell:X y.b=some (0,cZ { g with aR:=(fc g.buf 50 0).1 } Y.bv Y.rv):=by rw[<- hb];exact hX.at_.cell
  obtain⟨b1,b2,b3,b4,⟨ba,bc,b5⟩,b6⟩:=hX.at_.buf.len;have b1:dr Y.bv=g.buf.length:=b1;have b4:g.buf.length<=jt Y.bv:=b4;have hbuf:fu X Y.bv g.buf:=hX.at_.buf;have e3:(cZ { g with aR:=(fc g.buf 50 0).1 } Y.bv Y.rv).getD 3 (Value.tuple #[])=Y.bv:=rfl;refine⟨_,_,rfl,?_⟩;refine⟨_,_,rfl,?_⟩;refine⟨_,0,_,_,rfl,hcell,?_⟩;refine⟨⟨⟨_,rfl,b6⟩,trivial⟩,?_⟩;simp only[e3,Int.toNat_natCast]
  repeat refine kR ?_
  have hcut:=hbuf.cut (a:=0) (e:=at_) (by omega) h1;have hfpc:fB (nc 1 Y.bv 0 at_ (jt Y.bv))=fB Y.bv:=by
   obtain⟨c,hb⟩:=hbuf;rcases hb with⟨h0,_⟩ | ⟨b9,lo9,o9,cs9,h9,_⟩
   ·rw[h0];rfl
   ·rw[h9,KW];rfl
  have hst:Step X Y.bv X (nc 1 Y.bv 0 at_ (jt Y.bv)):=fun x hx hn=>⟨rfl,by rw[hfpc];exact hn⟩
  have hby:fu X (nc 1 Y.bv 0 at_ (jt Y.bv)) (g.buf.take at_):=by
   refine⟨jt Y.bv-0,?_⟩;rw[show(g.buf.take at_).length=at_-0 by simp;omega];rcases hcut with h0 | ⟨b9,lo9,o9,cs9,g1,g2,g3,g4,g5⟩
   ·exact .inl h0
   ·refine .inr ⟨b9,lo9,o9,cs9,g1,g2,g3,g4,⟨fun i hi j q hj=>?_⟩⟩;have:=g5.at_ i hi j q hj;have e:aa cE g.buf (0+i) j=aa cE (g.buf.take at_) i j:=by
     unfold aa;rw[Nat.zero_add,NN (by omega)]
    rwa[e]at this
  obtain⟨hc2,hs3,hf3⟩:=wZ hX hst hby;refine⟨_,_,rfl,?_⟩;refine⟨_,_,rfl,?_⟩;refine⟨_,0,_,_,rfl,hcell,by simp[cZ],?_⟩;refine⟨⟨aO X Y.b 0 (cZ { g with aR:=(fc g.buf 50 0).1,buf:=g.buf.take at_ } (nc 1 Y.bv 0 at_ (jt Y.bv)) Y.rv),{ Y with bv:=nc 1 Y.bv 0 at_ (jt Y.bv) }⟩,?_⟩;have hM:ya g={ g with aR:=(fc g.buf 50 0).1,buf:=g.buf.take at_ }:=by unfold ya;rw[<- h2]
  rw[hM];refine And.intro (by rw[<- hb];rfl) (And.intro ⟨hs3,hb,hfr.trans hf3⟩ trivial))
theorem JI:ak (Y Tryz.prog).G.X 232 CL:=aU fF JH ⟨SI,trivial⟩
end Go.Proofs.YtfjgoonelcaggaaGreat
namespace Go.Sx
section
def yb(s:S)(K:S->Prop):Prop:=K ⟨s.nt,s.fr,⟨s.nx,true,.cA fun _=>none⟩::s.hp,s.nx+1,s.kp,s.rt⟩
theorem L3:∀s K,yb s K->wL s K:=by
 intro s K h w0 M ρ a w hs;have hl:=ρ.dV ⟨0,0,0,fun _=>False⟩;have hn:=hs.n;have hpl:(ρ.ext ⟨0,0,0,fun _=>False⟩).pl s.nx=⟨0,0,0,fun _=>False⟩:=by rw[<- hn];exact ρ.dw _
 refine⟨_,ρ.ext ⟨0,0,0,fun _=>False⟩,h,hl,⟨hs.defers,hs.size,by show ρ.n+1=s.nx+1;rw[hn],hs.frame.mono hl,?_⟩⟩;refine(hs.heap.mono hl).cons (e:=⟨s.nx,true,.cA fun _=>none⟩) ⟨by show s.nx<ρ.n+1;omega,?_,?_,?_⟩ fun x hx=>⟨?_,?_⟩
 ·intro b lo cs hb;cases hb
 ·rw[hpl];exact fun b hb=>hb.elim
 ·rw[hpl];exact fun _ b hb=>hb.elim
 ·have:=(hs.heap.gJ x hx).tag;show s.nx≠x.tag;omega
 ·rw[hpl];exact fun _ b hb=>hb.elim
def An.yb(key:Nat)(next:LH):An:=.view key Sx.yb L3 next
def A.EU:A->Bool
 |.ptr t _ _ _=>!Nat.beq t 0
 |.slc t _ _ _ _=>!Nat.beq t 0
 |.sub t _ _ _ _ _=>!Nat.beq t 0
 |_=>true
def CV.EU:CV->Bool
 |.a x=>x.EU
 |.agg xs=>xs.all A.EU
def SV.EU:SV->Bool
 |.a x=>x.EU
 |.agg xs=>xs.all A.EU
 |.mm xs=>xs.all CV.EU
 |.Bd _ xs=>xs.all A.EU
def Chunk.EU:Chunk->Bool
 |.obj _ cs=>cs.all A.EU
 |_=>true
structure L4(ρ ρ':Env):Prop where
 n:ρ'.n=ρ.n
 pl:∀t,t≠0->ρ'.pl t=ρ.pl t
theorem ZI{t:Nat}(h:(!Nat.beq t 0)=true):t≠0:=by rintro rfl;simp at h
theorem A.cc.tP{ρ ρ':Env}(h:L4 ρ ρ'){x:A}(hx:x.EU=true){v:Value}(r:x.cc ρ v):x.cc ρ' v:=by
 cases x<;>simp only[A.cc,A.EU]at r hx ⊢<;>try exact r
 case ptr t _ _ _=>rw[h.n,h.pl t (ZI hx)];exact r
 case slc t _ _ _ _=>rw[h.n,h.pl t (ZI hx)];exact r
 case sub t _ _ _ _ _=>rw[h.n,h.pl t (ZI hx)];exact r
theorem ct.tP{ρ ρ':Env}(h:L4 ρ ρ'):∀ {xs:List A} {vs:List Value},xs.all A.EU=true->ct ρ xs vs->ct ρ' xs vs
 |[],_,_,r=>r
 |x::xs,_,hx,⟨v,t,e,r1,r2⟩=>by
  simp only[List.all_cons,Bool.and_eq_true]at hx;exact⟨v,t,e,r1.tP h hx.1,ct.tP h hx.2 r2⟩
theorem CV.cc.tP{ρ ρ':Env}(h:L4 ρ ρ'):∀ {x:CV} {v:Value},x.EU=true->x.cc ρ v->x.cc ρ' v
 |.a _,_,hx,r=>A.cc.tP h hx r
 |.agg _,_,hx,⟨vs,e,r⟩=>⟨vs,e,ct.tP h hx r⟩
theorem r6.tP{ρ ρ':Env}(h:L4 ρ ρ'):∀ {xs:List CV} {vs:List Value},xs.all CV.EU=true->r6 ρ xs vs->r6 ρ' xs vs
 |[],_,_,r=>r
 |x::xs,_,hx,⟨v,t,e,r1,r2⟩=>by
  simp only[List.all_cons,Bool.and_eq_true]at hx;exact⟨v,t,e,r1.tP h hx.1,r6.tP h hx.2 r2⟩
theorem SV.cc.tP{ρ ρ':Env}(h:L4 ρ ρ'):∀ {x:SV} {v:Value},x.EU=true->x.cc ρ v->x.cc ρ' v
 |.a _,_,hx,r=>A.cc.tP h hx r
 |.agg _,_,hx,⟨vs,e,r⟩=>⟨vs,e,ct.tP h hx r⟩
 |.mm _,_,hx,⟨vs,e,r⟩=>⟨vs,e,r6.tP h hx r⟩
 |.Bd _ _,_,hx,⟨vs,e,r⟩=>⟨vs,e,ct.tP h hx r⟩
theorem Chunk.Sat.tP{ρ ρ':Env}(h:L4 ρ ρ'){p:Place}{w:World}{ch:Chunk}(hx:ch.EU=true)(r:ch.Sat ρ p w):ch.Sat ρ' p w:=by
 cases ch with
 |obj ty cs=>obtain⟨vs,fr,h1,h2,⟨us,xs,h5,h3⟩,h4⟩:=r;exact⟨vs,fr,h1,h2,⟨us,xs,h5,h3.tP h hx⟩,h4⟩
 |arr ty ks n rows=>exact r
 |abs R=>exact r
 |cA H=>exact r
structure YN where
 ty:Nat
 ks:List CK
 n:Nat
 cap:Nat
 rows:Nat->Nat->Value
structure V1(α:Type) where
 a:α
 H:PH
 v:Value
def cC.VK(C:cC)(sl:C.α->YN):cC where
 α:=V1 C.α
 β:=C.β
 m:=1
 m':=C.m'
 pre:=fun x=>C.pre x.a/\jZ x.H x.v (sl x.a).ks (sl x.a).n (sl x.a).cap (sl x.a).rows
 args:=fun x=>[.a (.val x.v)]
 hp:=fun _=>[]
 ro:=fun x=>[(0,.cA x.H)]
 post:=fun x b=>C.post x.a b
 res:=fun x b=>C.res x.a b
 cW:=fun x b=>C.cW x.a b
structure ZJ(C:cC)(sl:C.α->YN):Prop where
 m:C.m=1
 hp:∀a,C.hp a=[]
 ro:∀a,C.ro a=[(0,.arr (sl a).ty (sl a).ks (sl a).n (sl a).rows)]
 args:∀a,C.args a=[.a (.slc 0 0 (sl a).ks.length (sl a).n (sl a).cap)]
 res:∀a b,(C.res a b).EU=true
 cW:∀a b,∀p∈C.cW a b,p.1≠0/\p.2.EU=true
theorem JJ{X:Cx}{C:cC}{f:Nat}(hs:lM X C f){sl:C.α->YN}(hv:ZJ C sl):lM X (C.VK sl) f:=by
 rintro⟨a,H,v⟩ ⟨hpre,hsl⟩ M ρ w vs hn hh hargs;obtain⟨u,_,rfl,hu,rfl⟩:=hargs;obtain⟨rfl,_⟩:=hu;have hps:=(hh.gJ ⟨0,false,.cA H⟩ (by simp[vp,Eb,cC.VK])).ch;dsimp only at hpre hsl hps hn;obtain⟨p,hp1,hp2,hp3⟩:∃p:Place,(∀(ρ':Env),0<ρ'.n->ρ'.pl 0=p->(A.slc 0 0 (sl a).ks.length (sl a).n (sl a).cap).cc ρ' u)/\(∀ρ',(Chunk.arr (sl a).ty (sl a).ks (sl a).n (sl a).rows).Sat ρ' p w)/\∀b,p.fp b->b<w.heap.size:=by
  rcases hsl with⟨rfl,h0,h1⟩ | ⟨b,lo,o,cs,rfl,⟨hlc,hcm⟩,hH,hfit,hrows⟩
  ·exact⟨xT,fun ρ' h _=>⟨h,by omega,by rw[h1];exact Nat.zero_le _,.inl ⟨h0,h1,rfl⟩⟩,fun ρ'=>.inl ⟨h0,rfl,fun b hb=>hb⟩,fun b hb=>hb.elim⟩
  ·obtain⟨hfp,vs,vty,fr,hb,hvl,hvs,hun⟩:=hps b lo cs hH;refine⟨⟨b,lo+o,(sl a).cap,fun x=>x=b⟩,fun ρ' h e=>⟨h,hlc,hcm,.inr ⟨_,rfl,fun _=>by rw[e];simp⟩⟩,fun ρ'=>.inr ⟨vs,vty,fr,hb,by simp only;omega,hlc,fun x h1 h2=>hun x (by simp only at h1;omega) (by simp only at h2;omega),fun _=>Iff.rfl,fun i hi j k hk=>?_⟩,fun x hx=>?_⟩
   ·obtain⟨g1,g2⟩:=hrows.at_ i hi j k hk;refine⟨?_,g2⟩;have hlt:o+i*(sl a).ks.length+j<cs.length:=(List.getElem?_eq_some_iff.1 g1).1;rw[<- g1,<- hvs _ hlt];congr 1;simp only;omega
   ·simp only at hx;subst hx;exact(Array.getElem?_eq_some_iff.1 hb).1
 have hpl:(⟨1,fun _=>p⟩:Env).pl 0=p:=rfl;refine(hs a hpre M ⟨1,fun _=>p⟩ w [u] (by rw[hv.m]) ?_ ?_).mono ?_
 ·rw[hv.hp,hv.ro];refine⟨hh.keeps,fun e he=>?_,by simp[vp,Eb]⟩;have he:e=⟨0,false,.arr (sl a).ty (sl a).ks (sl a).n (sl a).rows⟩:=by simpa[vp,Eb]using he
  subst he;exact⟨Nat.one_pos,hp2 _,hp3,fun h=>(by cases h)⟩
 ·rw[hv.args];exact⟨u,[],rfl,hp1 _ Nat.one_pos rfl,rfl⟩
 ·rintro e w' ⟨r,rfl,o,ρ2,g1,g2,g3,g4,g5⟩;have hoff:L4 ρ2 ⟨ρ2.n,fun t=>if t=0 then ρ.pl 0 else ρ2.pl t⟩:=⟨rfl,fun t ht=>if_neg ht⟩
  refine⟨r,rfl,o,⟨ρ2.n,fun t=>if t=0 then ρ.pl 0 else ρ2.pl t⟩,g1,g2,fun T hT=>?_,g4.tP hoff (hv.res a o),?_⟩
  ·have hT:T<1:=hT;have:T=0:=by omega
   subst this;rfl
  ·have hent:∀e∈vp (C.cW a o),e.tag≠0/\e.ch.EU=true:=fun e he=>by
    obtain⟨q,hq,rfl⟩:=List.mem_map.1 he;exact hv.cW a o q hq
   refine⟨g5.keeps,fun e he=>?_,g5.apart.imp_of_mem fun {x y} hx hy hxy=>?_⟩
   ·obtain⟨h1,h2⟩:=hent e he;have he:=g5.gJ e he;exact⟨he.tag,by rw[hoff.pl _ h1];exact he.ch.tP hoff h2,by rw[hoff.pl _ h1];exact he.lt,by rw[hoff.pl _ h1];exact he.own⟩
   ·refine⟨hxy.1,?_⟩;rw[hoff.pl _ (hent x hx).1,hoff.pl _ (hent y hy).1];exact hxy.2
end
end Go.Sx
namespace Go.Proofs.YtfjgoonelcaggaaGreat
open Go.Sx
structure KN where
 g:dy
 ok:Bool
 run:Int
def g0:dy:=⟨0,0,0,[],[]⟩
def vN(L:bN)(d:bz)(k i:Nat):Nat->Int:=d.now (L.from_+k*8+i)
def rdStep(x:KN)(i:Nat)(f:Nat->Int):KN :=
 ⟨if !(x.ok&&fT x.g i f)&&decide (i=0)then { (if x.ok then gI x.g i f else x.g)with gen:=0 }else(if x.ok then gI x.g i f else x.g),x.ok&&fT x.g i f,max x.run (uw .i64 (gB f 10 4)+1)⟩
def kN(L:bN)(d:bz)(k:Nat):Nat->KN
 |0=>⟨g0,true,L.run⟩
 |i+1=>rdStep (kN L d k i) i (vN L d k i)
def ni(L:bN)(d:bz)(k:Nat):Option dy :=
 if(kN L d k 8).g.gen<1\/((kN L d k 8).g.gen-1).tmod L.au≠k then none else some (ya (kN L d k 8).g)
structure SJ(L:bN)(d:bz)(k:Nat):Prop where
 run:∀i,i<8->0<=uw .i64 (gB (vN L d k i) 10 4)/\uw .i64 (gB (vN L d k i) 10 4)<100000000000
 used:∀i,i<8->(kN L d k i).ok=true->fT (kN L d k i).g i (vN L d k i)=true->0<vN L d k i 15
theorem L5(g:dy)(i:Nat)(f:Nat->Int):(gI g i f).aR=g.aR:=by
 have e:(qh g i f).aR=g.aR:=by unfold qh;split<;>rfl
 unfold gI;split
 ·exact e
 ·exact e
theorem Py(g:dy)(i:Nat)(f:Nat->Int):(qh g i f).buf=g.buf:=by
 unfold qh;split<;>rfl
theorem SK{g:dy}{i:Nat}{f:Nat->Int}(h:fT g i f=false):gI g i f=qh g i f:=by
 unfold gI;rw[h];rfl
theorem Pz{g:dy}{i:Nat}{f:Nat->Int}(h:fT g i f=true):(gI g i f).buf=g.buf++(List.range (f 15).toNat).map fun k=>f (sV i+k):=by
 unfold gI;rw[if_pos h]
theorem PA{g:dy}{i:Nat}{f:Nat->Int}(h:fT g i f=true):f 15<=ku i/\g.buf.length=bZ i:=by
 unfold fT at h;simp only[Bool.and_eq_true,decide_eq_true_eq]at h;exact h.2.2.2.2
theorem PB{g:dy}{i:Nat}{f:Nat->Int}(h:g.buf.length<=bZ i):(gI g i f).buf.length<=bZ (i+1):=by
 cases hB:fT g i f with
 |false=>rw[SK hB,Py];unfold bZ at *;omega
 |true =>
  obtain⟨h1,h2⟩:=PA hB;rw[Pz hB];simp only[List.length_append,List.length_map,List.length_range];unfold bZ ku at *;split at h1<;>omega
structure WC(L:bN)(x:KN)(i:Nat):Prop where
 aR:x.g.aR=[]
 buf:x.g.buf.length<=bZ i
 run:0<=x.run/\x.run<200000000000
theorem CM{L:bN}{d:bz}{k:Nat}(h:SJ L d k)(h0:0<=L.run/\L.run<200000000000):∀i,i<=8->WC L (kN L d k i) i
 |0,_=>⟨rfl,by show[].length<=_;simp,h0⟩
 |i+1,hi=>by
  have ih:=CM h h0 i (by omega);have hr:=h.run i (by omega);obtain⟨g1,g2,g3⟩:=ih;have hb:(if(kN L d k i).ok then gI (kN L d k i).g i (vN L d k i)else(kN L d k i).g).aR=[]/\(if(kN L d k i).ok then gI (kN L d k i).g i (vN L d k i)else(kN L d k i).g).buf.length<=bZ (i+1):=by
   split
   ·exact⟨(L5 _ _ _).trans g1,PB g2⟩
   ·exact⟨g1,by unfold bZ at *;omega⟩
  show WC L (rdStep (kN L d k i) i (vN L d k i)) (i+1);unfold rdStep;refine⟨?_,?_,by dsimp only;omega⟩
  ·dsimp only;split
   ·exact hb.1
   ·exact hb.1
  ·dsimp only;split
   ·exact hb.2
   ·exact hb.2
theorem fK.YO{X:PH}{y:mC}{g:dy}(h:fK X y g):fK (aO X y.b 0 (cZ { g with gen:=0 } y.bv y.rv)) y { g with gen:=0 }/\Fr X y (aO X y.b 0 (cZ { g with gen:=0 } y.bv y.rv)) y :=
 sW h rfl rfl ⟨by simp only[bQ];omega,h.at_.A5.2.1,h.at_.A5.2.2⟩
theorem YP(H:PH)(b:Nat):fK (aO H b 0 [.int .i64 0,.int .i64 0,.int .i64 0,.slice none 0 0,.slice none 0 0]) (newL b) g0 :=
 ⟨⟨dF ..,⟨by simp only[g0,bQ];omega,by simp only[g0,bQ];omega,by simp only[g0,bQ];omega⟩,⟨0,.inl ⟨rfl,rfl,rfl⟩⟩,⟨0,.inl ⟨rfl,rfl,rfl⟩⟩,rfl,fun i hi=>absurd hi (Nat.not_lt_zero i)⟩,by simp[newL,bw,fB]⟩
structure rR where
 H:PH
 L:bN
 lv:Value
 d:bz
 k:Nat
structure NZ where
 H:PH
 y:mC
 v:Value
def CN(H:PH)(b:NZ):Option dy->Prop
 |none=>b.v = .pointer none/\∀x,H x≠none->b.H x=H x
 |some g=>b.v=pv b.y.b 0/\fK b.H b.y g/\∀x,H x≠none->b.H x=H x/\x∉bw b.y
noncomputable def L6:cC where
 α:=rR
 β:=NZ
 m:=4
 m':=5
 pre:=fun a=>a.k<a.L.au/\3<=a.L.au/\a.L.au<=200/\a.L.from_+a.L.au*8<=a.d.n/\a.d.n<100000/\0<=a.L.run/\a.L.run<200000000000/\SJ a.L a.d a.k
 args:=fun a=>[.a (.ptr 0 0 0 0),.a (.int .i64 a.k)]
 hp:=fun a=>[(0,fS 1 a.L a.lv),(3,.cA a.H)]
 ro:=fun a=>gG 1 2 a.d
 post:=fun a b=>CN a.H b (ni a.L a.d a.k)
 res:=fun _ b=>.a (.val b.v)
 cW:=fun a b=>[(0,fS 1 { a.L with run:=(kN a.L a.d a.k 8).run } a.lv),(4,.cA b.H)]
structure SL where
 i:Nat
 H:PH
 y:mC
def Xp(a:rR):An:=.flat 4 SL (fun s x=>S.cA ((((s.at_ (s.tg 0) (fS (s.pK (s.tg 0) 0) { a.L with run:=(kN a.L a.d a.k x.i).run } a.lv)).set 5 (.a (.val (pv x.y.b 0)))).set 6 (.a (.bool (kN a.L a.d a.k x.i).ok))).int 12 x.i) x.H)
 (fun _ x=>x.i<=8/\fK x.H x.y (kN a.L a.d a.k x.i).g/\∀z,a.H z≠none->x.H z=a.H z/\z∉bw x.y) (fun _ x=>8-x.i)
def Xq(a:rR):An:=.NU 3 5 (.mk 1000 [Xp a] [])
def nC(x:rR)(y:SL):KN:=kN x.L x.d x.k y.i
def oN(x y:Option (Nat×List Value))(z:List Nat)(u:Nat):=x≠none->y=x/\¬u∈z
def GZ(x:rR)(y:Int)(z:KN)(u:Prop):=ag (cF (af x.L.from_) (af x.L.au) (cV x.lv) (aC x.L.next/\y=z.run/\bK x.L.fresh u))
def G0(x:SL)(u:rR):=fK x.H x.y (KN.g (nC u x))/\∀z:Nat,oN (u.H z) (x.H z) (bw x.y) z
def JK(x:rR)(u:PH)(y z:SL)(v:wN):=ag (bu x.k/\u=y.H/\GZ x (oW true (KN.run (nC x z)) (qY v+(1:Int))) (nC x y) (gz x.d x.d (dY y.i 8 (G0 y x) z.i)))
def G1(z:Value)(u:PH)(x:rR)(w:SL):=∃y:NZ,z=y.v/\u=y.H/\GZ x (KN.run (nC x w)) (kN x.L x.d x.k 8) (CN x.H y (ni x.L x.d x.k)/\True)
def G2(x:rR):=x.k<x.L.au/\3<=x.L.au/\x.L.au<=200/\iu (x.L.from_+x.L.au*8) x.d.n ((0:Int)<=x.L.run/\x.L.run<(200000000000:Int)/\SJ x.L x.d x.k)
theorem PC:fnBody (Y Tryz.prog) [(201,Cl),(230,Jn),(231,SD),(232,CL)] 205 L6 fun a=>[(205,[],[Xq a])]:=fnBody.of (p :=
 ∀u:rR,G2 u->∀o:Nat,u.H o=none->(∃x:SL,aA x.i (true=KN.ok (nC u x)/\kC o x.y.b/\ag (bu u.k/\Cy u.H o 0 0=x.H/\GZ u u.L.run (nC u x) (gz u.d u.d ((x.i<=8/\G0 x u)/\True)))))/\∀x:SL,x.i<=8/\G0 x u->aD (aF (af x.i) 8) (GI u.L (af u.k) x.i (∃w:Zp,ag (af u.L.from_+af u.k*(8:Int)+af x.i=af w.i/\gz u.d w.d ((w.i<w.d.n/\w.d.n<100000)/\∀h:Nat,64<=h->ah (KN.run (nC u x))->cU 14 h/\dX 10 14/\uM 10 4 h 10 (w.d.now w.i) fun j=>ah (qY j+(1:Int))/\aD (KN.ok (nC u x)) (∃z:x9,kC x.y.b z.y.b/\bA x.i z.i/\bW 64 (h=z.cap)/\x.H=z.H/\aK 64 64 1 (bM (w.d.now w.i)) (bM z.f)/\GU z/\∀v:AH,CJ v z->qu (bn (fT z.g z.i z.f)) (af x.i == (0:Int)) (kz (pv x.y.b 0) 0 (fun s=>v.H s) (fun s t=>s+1<=t.length) fun s t q r=>aS x.i/\∃l:SL,bx x.i l.i/\fT z.g z.i z.f=KN.ok (nC u l)/\kC x.y.b l.y.b/\JK u (aO v.H s t (qf q r (bq 0 []) 1)) l x j) (aS x.i/\∃s:SL,bx x.i s.i/\fT z.g z.i z.f=KN.ok (nC u s)/\kC x.y.b s.y.b/\JK u v.H s x j)) (aD (af x.i == (0:Int)) (kz (pv x.y.b 0) 0 (fun z=>x.H z) (fun z v=>z+1<=v.length) fun z v c s=>aS x.i/\∃t:SL,bx x.i t.i/\fR (KN.ok (nC u t)) (kC x.y.b t.y.b) (JK u (aO x.H z v (qf c s (bq 0 []) 1)) t x j)) (aS x.i /\
 ∃z:SL,bx x.i z.i/\fR (KN.ok (nC u z)) (kC x.y.b z.y.b) (JK u x.H z x j))))))) (gC (pv x.y.b 0) 0 (fun w=>x.H w) fun w h=>aD (aF (js (aP h w)) 1) (G1 Cw x.H u x) (gC (pv x.y.b 0) 0 (fun m=>x.H m) fun m p=>ah (js (aP p m)-(1:Int))/\(ah (af u.L.au)->af u.L.au≠(0:Int)/\aD ((js (aP p m)-(1:Int)).tmod (af u.L.au) != af u.k) (G1 Cw x.H u x) (∃z:tI,kC x.y.b z.y.b/\x.H=z.H/\(fK z.H z.y z.g/\av z.g.buf<=378/\z.g.aR=[])/\∀v:AH,fK v.H v.y (ya z.g)/\v.y.b=z.y.b/\Fr z.H z.y v.H v.y->G1 (pv x.y.b 0) v.H u x))))) (by kernel_rfl) (by
 delta qu aD aP av aK cF kA ah bq bW aC oW aF af bK kz dX dY bD aB dO fR bS cV aI JK gC gh qY G1 aS uM aA ag nC nB oN CJ bx G2 qP bn bu bA GZ G0 kC GU cU iu GI ji qf Cy oI Cw
 try dsimp -iota -proj only
 rintro⟨H,L,lv,d,k⟩ ⟨h1,h2,h3,h4,h5,h6,h7,ok⟩;dsimp only at *;intro b hb;refine⟨⟨⟨0,aO H b 0 [.int .i64 0,.int .i64 0,.int .i64 0,.slice none 0 0,.slice none 0 0],newL b⟩,?_⟩,?_⟩
 ·have hz:∀z,H z≠none->aO H b 0 [.int .i64 0,.int .i64 0,.int .i64 0,.slice none 0 0,.slice none 0 0] z=H z/\¬z∈bw (newL b):=fun z hz=>by
   have:z≠b:=fun e=>hz (by rw[e];exact hb);exact⟨cD this,by simpa[newL,bw,fB]using this⟩
  and_intros<;>first|exact dc|exact YP H b|exact hz|rfl
 ·rintro⟨i,X,Y⟩ ⟨hi,hX,hfr⟩;dsimp only at *;obtain⟨v1,v2,v3⟩:=CM ok ⟨h6,h7⟩ i hi;refine⟨fun c1=>?_,fun c1=>?_⟩
  ·have hi8:i<8:=by have:=of_decide_eq_true c1;omega
   obtain⟨F,hF⟩:∃F,F=vN L d k i:=⟨_,rfl⟩
   have hok:=ok.run i hi8;have hus:=ok.used i hi8;have hstep:kN L d k (i+1)=rdStep (kN L d k i) i F:=by rw[hF];rfl
   have hdn:d.now (L.from_+k*8+i)=F:=by rw[hF];rfl
   rw[<- hF]at hok hus;obtain⟨R,hR⟩:∃R,R=kN L d k i:=⟨_,rfl⟩
   rw[<- hR]at hX v1 v2 v3 hus ⊢;have e10:jN (fun i=>u8 (bM F) (10+i)) 4=gB F 10 4:=rfl;intro _;refine⟨by simp only[bQ];omega,by simp only[bQ];omega,by simp only[bQ];omega,Zp.mk d (L.from_+k*8+i),?_⟩;have hin:L.from_+k*8+i<d.n:=by omega
   and_intros<;>first|exact dc|skip
   intro cap hcap;intro _
   repeat refine kR ?_
   refine⟨wN.mk 10 4 (cap-10) 64 (bM F),?_⟩;simp only[hdn]
   and_intros<;>first|exact dc|skip
   intro _ _;simp only[e10,cond_true];refine⟨by simp only[bQ];omega,fun c2=>⟨x9.mk X Y R.g i F cap,?_⟩,fun c2=>⟨fun c3=>?_,fun c3=>?_⟩⟩
   ·have hsz:R.g.buf.length<=378:=by unfold bZ at v2;omega
    and_intros<;>first|exact dc|exact hX|exact hus c2|skip
    rintro⟨X1,Y1⟩ ⟨t1,t2,t3,t4⟩;dsimp only at *;have f1:∀z,H z≠none->X1 z=H z/\¬z∈bw Y1:=fun z hz=>by
     obtain⟨a1,a2⟩:=hfr z hz;obtain⟨b1,b2⟩:=t4 z (by rw[a1];exact hz) a2;exact⟨b1.trans a1,b2⟩
    refine⟨fun c3=>⟨fun c4=>?_,fun c4=>?_⟩,fun c3=>?_⟩
    ·have hg:(rdStep R i F).g={ gI R.g i F with gen:=0 }:=by
      have:fT R.g i F=false:=by simpa using c3
      have hi0:i=0:=by simpa using c4
      subst hi0;simp[rdStep,c2,this]
     obtain⟨q1,q2⟩:=t1.YO;refine⟨_,_,rfl,_,_,rfl,Y1.b,0,0,_,by rw[t2],t1.at_.cell,by simp[cZ],by simp only[bQ];omega,⟨i+1,aO X1 Y1.b 0 (cZ { gI R.g i F with gen:=0 } Y1.bv Y1.rv),Y1⟩,?_⟩;rw[hstep,<- hR];have f2:∀z,H z≠none->aO X1 Y1.b 0 (cZ { gI R.g i F with gen:=0 } Y1.bv Y1.rv) z=H z/\¬z∈bw Y1:=fun z hz=>by
      obtain⟨a1,a2⟩:=f1 z hz;obtain⟨b1,b2⟩:=q2 z (by rw[a1];exact hz) a2;exact⟨b1.trans a1,b2⟩
     rw[hg]
     and_intros<;>first|exact dc|exact q1|exact f2|(rw[t2];done)|(simp[rdStep,c2];done)|rfl|skip
    ·have hg:(rdStep R i F).g=gI R.g i F:=by
      have hi0:i≠0:=by simpa using c4
      simp[rdStep,c2,hi0]
     refine⟨by simp only[bQ];omega,⟨i+1,X1,Y1⟩,?_⟩;rw[hstep,<- hR,hg]
     and_intros<;>first|exact dc|exact t1|exact f1|(rw[t2];done)|(simp[rdStep,c2];done)|rfl|skip
    ·have hg:(rdStep R i F).g=gI R.g i F:=by
      have:fT R.g i F=true:=by simpa using c3
      simp[rdStep,c2,this]
     refine⟨by simp only[bQ];omega,⟨i+1,X1,Y1⟩,?_⟩;rw[hstep,<- hR,hg]
     and_intros<;>first|exact dc|exact t1|exact f1|(rw[t2];done)|(simp[rdStep,c2];done)|rfl|skip
   ·have hg:(rdStep R i F).g={ R.g with gen:=0 }:=by
     have hi0:i=0:=by simpa using c3
     subst hi0;simp[rdStep,c2]
    obtain⟨q1,q2⟩:=hX.YO;refine⟨_,_,rfl,_,_,rfl,Y.b,0,0,_,rfl,hX.at_.cell,by simp[cZ],by simp only[bQ];omega,⟨i+1,aO X Y.b 0 (cZ { R.g with gen:=0 } Y.bv Y.rv),Y⟩,?_⟩;rw[hstep,<- hR];have f2:∀z,H z≠none->aO X Y.b 0 (cZ { R.g with gen:=0 } Y.bv Y.rv) z=H z/\¬z∈bw Y:=fun z hz=>by
     obtain⟨a1,a2⟩:=hfr z hz;obtain⟨b1,b2⟩:=q2 z (by rw[a1];exact hz) a2;exact⟨b1.trans a1,b2⟩
    rw[hg]
    and_intros<;>first|exact dc|exact q1|exact f2|(simp[rdStep,c2];done)|rfl|skip
   ·have hg:(rdStep R i F).g=R.g:=by
     have hi0:i≠0:=by simpa using c3
     simp[rdStep,c2,hi0]
    refine⟨by simp only[bQ];omega,⟨i+1,X,Y⟩,?_⟩;rw[hstep,<- hR,hg]
    and_intros<;>first|exact dc|exact hX|exact hfr|(simp[rdStep,c2];done)|rfl|skip
  ·have hi8:i=8:=by have:=of_decide_eq_false c1;omega
   subst hi8;obtain⟨r1,r2,r3⟩:=hX.at_.A5;have hcell:=hX.at_.cell;obtain⟨R,hR⟩:∃R,R=kN L d k 8:=⟨_,rfl⟩
   rw[<- hR]at hX v1 v2 v3 r1 hcell ⊢;have hseg:ni L d k=if R.g.gen<1\/(R.g.gen-1).tmod L.au≠k then none else some (ya R.g):=by rw[hR];rfl
   have fnone:ni L d k=none->CN H ⟨X,Y,.pointer none⟩ (ni L d k):=fun e=>by
    rw[e];exact⟨rfl,fun z hz=>(hfr z hz).1⟩
   refine⟨_,_,rfl,?_⟩;refine⟨_,_,rfl,?_⟩;refine⟨_,0,_,_,rfl,hcell,?_⟩;refine⟨⟨⟨_,rfl,_,rfl,r1⟩,trivial⟩,fun _=>?_⟩;simp only[cZ,List.getD_cons_zero,js];refine⟨fun c2=>⟨⟨X,Y,.pointer none⟩,?_⟩,fun c2=>?_⟩
   ·have c2:=of_decide_eq_true c2;have hno:ni L d k=none:=by rw[hseg,if_pos (.inl c2)]
    and_intros<;>first|exact dc|exact fnone hno|rfl
   ·have c2:=of_decide_eq_false c2;refine⟨_,_,rfl,?_⟩;refine⟨_,_,rfl,?_⟩;refine⟨_,0,_,_,rfl,hcell,?_⟩;refine⟨⟨⟨_,rfl,_,rfl,r1⟩,trivial⟩,fun _=>?_⟩;simp only[cZ,List.getD_cons_zero,js];refine⟨by simp only[bQ]at *;omega,fun _=>⟨by omega,fun c3=>⟨⟨X,Y,.pointer none⟩,?_⟩,fun c3=>?_⟩⟩
    ·have c3:(R.g.gen-1).tmod L.au≠k:=by simpa using c3
     have hno:ni L d k=none:=by rw[hseg,if_pos (.inr c3)]
     and_intros<;>first|exact dc|exact fnone hno|rfl
    ·have c3:(R.g.gen-1).tmod L.au=k:=by simpa using c3
     have hyes:ni L d k=some (ya R.g):=by rw[hseg,if_neg (by rintro(e|e)<;>omega)]
     refine⟨tI.mk X Y R.g,?_⟩;have hsz:R.g.buf.length<=378:=v2
     and_intros<;>first|exact dc|exact hX|exact v1|skip
     rintro⟨X1,Y1⟩ ⟨t1,t2,t3⟩;dsimp only at *;have f1:∀z,H z≠none->X1 z=H z/\¬z∈bw Y1:=fun z hz=>by
      obtain⟨a1,a2⟩:=hfr z hz;obtain⟨b1,b2⟩:=t3 z (by rw[a1];exact hz) a2;exact⟨b1.trans a1,b2⟩
     refine⟨⟨X1,Y1,pv Y.b 0⟩,?_⟩;rw[hyes];have hp:CN H ⟨X1,Y1,pv Y.b 0⟩ (some (ya R.g)):=⟨by rw[t2],t1,f1⟩
     and_intros<;>first|exact dc|exact t1|exact f1|(show pv Y.b 0=pv Y1.b 0;rw[t2])|rfl)
theorem PD:ak (Y Tryz.prog).G.X 205 L6:=aU fF PC ⟨Jp,Bp,SF,JI,trivial⟩
noncomputable def N0(n:Int):cC where
 α:=Unit
 β:=Unit
 m:=0
 m':=0
 pre:=fun _=>True
 args:=fun a=>[.a (.lit .u64 n)]
 hp:=fun _=>[]
 ro:=fun _=>[]
 post:=fun _ _=>True
 res:=fun _ b=>.a (.lit .i64 n)
 cW:=fun _ _=>[]
theorem SM:fnBody (Yf Tryz.prog) [] 189 (N0 0) fun _=>[]:=fnBody.of (p :=
 aI (bL (aC 0))) (by kernel_rfl) (by
 delta aC aI bL ax bl
 exact fun _ _=>⟨(),rfl,trivial,trivial⟩)
theorem SN:fnBody (Yf Tryz.prog) [] 189 (N0 1) fun _=>[]:=fnBody.of (p :=
 aI (bL (aC 1))) (by kernel_rfl) (by
 delta aC aI bL ax bl
 exact fun _ _=>⟨(),rfl,trivial,trivial⟩)
noncomputable def SO:cC where
 α:=Int
 β:=Unit
 m:=0
 m':=0
 pre:=fun a=>a=0\/a=1
 args:=fun a=>[.a (.int .u64 a)]
 hp:=fun _=>[]
 ro:=fun _=>[]
 post:=fun _ _=>True
 res:=fun a _=>.a (.int .i64 a)
 cW:=fun _ _=>[]
theorem SP(n:Int)(h:fnBody (Yf Tryz.prog) [] 189 (N0 n) fun _=>[]):lM (Yf Tryz.prog).G.X (N0 n) 189:=Bm Yy (fun _=>Bn Yy (je:=[]) trivial) h.body
theorem VL:lM (Y Tryz.prog).G.X SO 189:=by
 intro a ha M ρ w vs hn hh hargs;rcases ha with rfl|rfl
 ·exact SP 0 SM () trivial M ρ w vs hn hh hargs
 ·exact SP 1 SN () trivial M ρ w vs hn hh hargs
theorem SQ:ak (Y Tryz.prog).G.X 189 SO:=fun _ _ _ h=>vr VL h
noncomputable def VM(k:Nat):cC where
 α:=Unit
 β:=Unit
 m:=0
 m':=0
 pre:=fun _=>False
 args:=fun _=>List.replicate k (.a .any)
 hp:=fun _=>[]
 ro:=fun _=>[]
 post:=fun _ _=>True
 res:=fun _ _=>.a .any
 cW:=fun _ _=>[]
theorem G3(k f:Nat):ak (Y Tryz.prog).G.X f (VM k):=aU fF (je:=[]) (l:=fun _=>[]) ⟨fun a h=>False.elim h⟩ trivial
structure JL where
 v:Value
 n:Nat
def CO(v:Value)(n:Nat):Prop:=n<=1/\(∃a c,v = .slice a n c)/\v.oneCell'=true
noncomputable def SR:cC where
 α:=JL
 β:=Unit
 m:=0
 m':=0
 pre:=fun a=>CO a.v a.n
 args:=fun a=>[.a (.val a.v),.a (.int .i64 0),.a (.int .i64 a.n),.a (.fn 207)]
 hp:=fun _=>[]
 ro:=fun _=>[]
 post:=fun _ _=>True
 res:=fun _ _=>.mm []
 cW:=fun _ _=>[]
def YQ:An:=.flat 4 Unit (fun s _=>s) (fun _ _=>False) (fun _ _=>0)
def YR(a:JL):An:=.mk 1 Unit (fun s _=>s) (fun _ _=>True) (fun _ _=>0) fun _=>.mk 60 [YQ] []
theorem SS:fnBody (Y Tryz.prog) [] 254 SR fun a=>[(254,[YR a],[])]:=fnBody.of (p :=
 ∀x:JL,CO x.v x.n->ah 1/\Exists (ax (aC 1/\cV x.v/\cF 0 (af x.n) True True))/\aI (aY 1 x.n (Exists (ax (aC 1/\bK (aF 1 (af x.n)) (aC 1/\cV x.v/\cF 0 (af x.n) False True)))/\∀y:Unit,False->aD true (Exists (iM x.v 1 fun z u=>False)) (ah 2/\Exists (ax ((2:Int)=1/\cV x.v/\cF 0 (af x.n) True (0<0))))) (Exists (ax (True/\True))))) (by kernel_rfl) (by
 delta aD cF ah aC aF af bK aX aB cV aI ax iM aY
 try dsimp -iota -proj only
 rintro⟨v,n⟩ ⟨h1,_⟩;dsimp only at *;refine⟨by simp only[bQ];omega,⟨(),?_⟩,fun _ _=>⟨fun c1=>?_,fun _=>⟨(),trivial,trivial⟩⟩⟩
 ·and_intros<;>first|trivial|rfl
 ·exfalso;have:=of_decide_eq_true c1;omega)
theorem SU:ak (Y Tryz.prog).G.X 254 SR:=aU fF SS trivial
noncomputable def L7:cC where
 α:=JL
 β:=Unit
 m:=0
 m':=0
 pre:=fun a=>CO a.v a.n
 args:=fun a=>[.a (.val a.v),.a (.fn 207)]
 hp:=fun _=>[]
 ro:=fun _=>[]
 post:=fun _ _=>True
 res:=fun _ _=>.mm []
 cW:=fun _ _=>[]
noncomputable def SX:List (Nat×cC):=[(189,SO),(254,SR),(255,VM 4),(256,VM 4),(257,VM 4)]
def Xr:An:=.flat 2 Unit (fun s _=>s) (fun _ _=>True) (fun _ _=>0)
theorem PE:fnBody (Y Tryz.prog) SX 206 L7 fun a=>[(233,[Xr],[])]:=fnBody.of (p :=
 ∀x:JL,CO x.v x.n->Exists (eC x.v)/\∃y:Int,cQ (af (dr x.v))=y/\(y=(0:Int)\/y=(1:Int))/\aI (Exists (ax (bK true (bK true (cV x.v/\cF 0 (af (dr x.v)) (y=y) (True/\True)))))/\aI (ah (af (dr x.v)-(0:Int))/\aD (cM (af (dr x.v)-(0:Int)) 12) (∃z:JL,x.v=z.v/\aW (bA (dr x.v) z.n/\CO z.v z.n/\aI (Exists (ax (True/\True))))) (aD (y == (0:Int)) (Exists (ax (False/\aI (Exists (ax (True/\True)))))) (Exists (ax (False/\aI False))))))) (by kernel_rfl) (by
 delta aD cF ah aC af bK aB cV eC aI cQ ax cM aW bA
 rintro⟨v,n⟩ ⟨h1,⟨ba,c,h2⟩,h3⟩;dsimp only at h1 h2 h3;subst h2;have hl:dr (.slice ba n c)=n:=rfl;dsimp only at *;rw[hl];have e1:uw .u64 (n:Int)=n:=by simp only[uw];omega
 refine⟨⟨_,_,_,rfl,by simp only[aq];omega⟩,n,e1,by omega,fun _ _=>⟨⟨(),?_⟩,fun _ _=>⟨by simp only[bQ];omega,fun c1=>⟨⟨.slice ba n c,n⟩,?_⟩,fun c1=>?_⟩⟩⟩
 ·and_intros<;>first|trivial|rfl
 ·have hp:CO (.slice ba n c) n:=⟨h1,⟨_,_,rfl⟩,h3⟩
  (repeat' (first|apply And.intro|(intro _)|apply Exists.intro ()))<;>first|trivial|rfl|omega|exact h1|exact h3|exact⟨_,_,rfl⟩
 ·exfalso;have:=of_decide_eq_false c1;omega)
theorem PF:ak (Y Tryz.prog).G.X 206 L7:=aU fF PE ⟨SQ,SU,G3 _ _,G3 _ _,G3 _ _,trivial⟩
structure vX where
 H:PH
 y:gQ
 L:bN
 gb:Nat
 t:Int
 s:Int
noncomputable def vw:cC where
 α:=vX
 β:=Unit
 m:=3
 m':=3
 pre:=fun a=>bU a.H a.y a.L/\a.L.l.length<1000/\0<=a.s/\a.s<=1000/\bQ .i64 a.t/\0<=a.t/\(∃r,a.H a.gb=some (0,.int .i64 a.t::r))/\∀i,i<a.L.l.length->a.t-a.s<(gl a.L.l i).gen
 args:=fun a=>[.a (.val a.y.lv),.Bd 209 [.ptr 0 0 0 0,.ptr 1 0 0 0]]
 hp:=fun _=>[]
 ro:=fun a=>[(0,.obj 289 [.val (pv a.gb 0)]),(1,.obj 3 [.int .i64 a.s]),(2,.cA a.H)]
 post:=fun _ _=>True
 res:=fun a _=>.a (.val a.y.lv)
 cW:=fun _ _=>[]
noncomputable def G4:cC where
 α:=vX
 β:=Unit
 m:=3
 m':=3
 pre:=vw.pre
 args:=vw.args
 hp:=fun _=>[]
 ro:=vw.ro
 post:=fun _ _=>True
 res:=fun a _=>.a (.lit .i64 (-1))
 cW:=fun _ _=>[]
def VN(a:vX):An:=.flat 2 Nat (fun s k=>s.int 8 k) (fun _ k=>k<=a.L.l.length) (fun _ k=>a.L.l.length-k)
def xk(x:vX):=bU x.H x.y x.L/\bB x.L<1000/\(0:Int)<=x.s/\x.s<=(1000:Int)/\ah x.t/\(0:Int)<=x.t/\(∃z:List Value,x.H x.gb=some (0,bq x.t z))/\∀z:Nat,z<bB x.L->x.t-x.s<(gl x.L.l z).gen
theorem L8:fnBody (Y Tryz.prog) [] 234 G4 fun a=>[(234,[VN a],[])]:=fnBody.of (p :=
 ∀x:vX,xk x->Exists (eC x.y.lv)/\(∃z:Nat,aA z (zi x.y x.gb (aC x.s/\x.H=x.H/\z<=bB x.L/\True)))/\∀z:Nat,z<=bB x.L->oZ z x.y.lv 1 (fun u=>x.H u) (fun u=>gA u) (fun u t=>True) (fun u t=>gC (aP t u) 0 (fun v=>x.H v) fun v f=>gC (pv x.gb 0) 0 (fun w=>x.H w) fun w g=>ah x.s->mG (js (aP g w)-x.s) (js (aP f v)) (bL (af z=(-1:Int))) (cO z fun h=>zi x.y x.gb (aC x.s/\x.H=x.H/\bF h (bB x.L) z))) (bL (aC (-1:Int)))) (by kernel_rfl) (by
 delta aD aP cF kA ah bq bW ay aC aF af kz mF aX aB dO aV bS cV eC bL oZ cO bB gA bF gC xk ax aS iM aA cM ag aY mG bx az bl zi ji
 try dsimp -iota -proj only
 rintro⟨H,y,L,gb,T,S⟩ ⟨hl,h1,h2,h2',h3,h4,⟨gr,hgb⟩,h5⟩;dsimp only at *;obtain⟨e1,_,⟨ea,ec,e2⟩,e3,_⟩:=hl.qT;refine⟨⟨ea,_,ec,e2,e3⟩,⟨0,?_⟩,fun k hk=>⟨fun c1=>?_,fun c1=>⟨(),?_⟩⟩⟩
 ·and_intros<;>first|exact dc
 ·rw[e1]at c1;have hk:k<L.l.length:=by simpa using c1
  obtain⟨b,lo,o,c,cs,g1,g2,g3,g4⟩:=hl.at_ hk;have hs:=hl.seg k hk;obtain⟨r1,_,_⟩:=hs.A5;refine⟨_,_,_,_,g1,by omega,b,lo,o+k*1,cs,by rw[Int.toNat_natCast,Nat.add_assoc],g2,⟨⟨_,g3,rfl⟩,trivial⟩,?_⟩;refine⟨_,_,g4,?_⟩;refine⟨_,_,rfl,?_⟩;refine⟨_,0,_,_,rfl,hs.cell,?_⟩;refine⟨⟨⟨_,rfl,_,rfl,r1⟩,trivial⟩,fun _=>?_⟩;refine⟨_,_,rfl,?_⟩;refine⟨_,_,rfl,?_⟩;refine⟨_,0,_,_,rfl,hgb,?_⟩;refine⟨⟨⟨_,rfl,_,rfl,h3⟩,trivial⟩,fun _ _=>?_⟩;simp only[cZ,List.getD_cons_zero,js,bQ]at h3 ⊢;have h6:=h5 k hk;refine⟨by omega,fun c2=>?_,fun c2=>⟨by omega,k+1,?_⟩⟩
  ·exfalso;simp at c2;omega
  ·and_intros<;>first|exact dc
 ·and_intros<;>first|exact dc)
theorem L9:ak (Y Tryz.prog).G.X 234 G4:=aU fF L8 trivial
theorem Ma:fnBody (Y Tryz.prog) [(234,G4)] 208 vw fun a=>[]:=fnBody.of (p :=
 ∀x:vX,xk x->∃z:vX,x.y.lv=z.y.lv/\az (kC x.gb z.gb/\x.s=z.s/\x.H=z.H/\xk z/\aI (bL (cV x.y.lv)))) (by kernel_rfl) (by
 delta ah bq bW dO bS cV aI bL bB xk ax ag az bl kC
 intro a h;refine⟨a,?_⟩;obtain⟨h1,h2,h3,h4,h5,h6,h7,h8⟩:=h
 (repeat' (first|apply And.intro|(intro _)|apply Exists.intro ()))<;>first|exact dc|exact h7|exact h5.2|exact h5.1|exact h8 _ (by assumption))
theorem Mb:ak (Y Tryz.prog).G.X 208 vw:=aU fF Ma ⟨L9,trivial⟩
end Go.Proofs.YtfjgoonelcaggaaGreat
