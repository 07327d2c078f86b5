/-
  
-/
import Derived.Test.YtfjgoonelcaggaaGreatNodeNoneP2
set_option maxRecDepth 100000
set_option maxHeartbeats 4000000
set_option linter.unusedVariables false
set_option linter.unusedSimpArgs false
namespace Go.Proofs.YtfjgoonelcaggaaGreat
open Go.Sx
def u8(r:Nat->Nat->Value)(i:Nat):Int:=jC (r i 0)
def YW(x:Int):Int:=dy .xor .u32 (x/2) (dy .and .u32 3988292384 (uw .u32 (0-dy .and .u32 x 1)))
def IG:Nat->Int->Int
 |0,x=>x
 |k+1,x=>YW (IG k x)
def qi(r:Nat->Int):Nat->Int
 |0=>4294967295
 |k+1=>IG 8 (dy .xor .u32 (qi r k) (r k))
structure yF where
 c:Nat
 r:Nat
 len:Nat
 cap:Nat
 n:Nat
 rows:Nat->Nat->Value
noncomputable def Rn:cF where
 α:=yF
 β:=Unit
 m:=2
 m':=2
 pre:=fun a=>a.r+a.len<=a.n/\a.len<100000
 args:=fun a=>[.a (.slc 0 0 1 1 a.c)]
 hp:=fun _=>[]
 ro:=fun a=>[(0,.obj 58 [.slc 1 a.r 1 a.len a.cap]),(1,.arr 5 [.int .u8] a.n a.rows)]
 post:=fun _ _=>True
 res:=fun a _=>.a (.int .u32 (dy .xor .u32 4294967295 (qi (fun i=>u8 a.rows (a.r+i)) a.len)))
 cS:=fun _ _=>[]
def XR:An:=.flat 10 Nat (fun s j=>(s.set 3 (.a (.int .u32 (IG j (S.iv s 3))))).int 24 j) (fun _ j=>j<=8) (fun _ j=>8-j)
def YX(a:yF):An:=.mk 6 Nat (fun s i=>(s.set 3 (.a (.int .u32 (qi (fun i=>u8 a.rows (a.r+i)) i)))).int 16 i) (fun _ i=>i<=a.len) (fun _ i=>a.len-i) fun _=>.mk 60 [XR] []
def aF(x:Bool):=x=true
def aG(x:Bool)(y z:Prop):=(aF x->y)/\(x=false->z)
def bB(x y z:Nat)(u v:Nat->Nat->Value):=x<=y/\aj x z u v
def cC(x y:Int)(z u:Prop):=x=x/\y=y/\z/\u
def ai(x:Int):=bQ .i64 x
def ag(x:Prop):=0=0/\x
def bR(x:Nat)(y:Prop):=ag (x=x/\y)
def af(x:Nat):Int:=(x:Int)
def aU(x:Int):Nat:=x.toNat
def az(x:Nat):Nat:=aU (af x)
def aH(x:Int):=x=x
def aA(x y:Int):Bool:=decide (x<y)
def bn(x y:Int):=(0:Int)<=x/\x<y
def cn(x:Int)(y:Nat):=bn x (af y)
def bO(x:Bool)(y:Prop):=x=x/\y
def pI(y x z:Prop):=y/\x/\x/\z
def jZ(x y z:Nat):=x=x/\y=y/\z=z
def eM(x:Nat):=x=x
def dK(x z:Nat)(y:Nat->Nat->Value):=bB x x z y y
def aP(x:Nat):=ai (af x+(1:Int))
def bx(x y:Nat):=af x+(1:Int)=af y
def dm(x:Nat)(z:Nat->Prop):=aP x/\∃y:Nat,bx x y/\z y
def ay(x:Prop):Unit->Prop:=fun(y:Unit)=>x
def bg(x:Prop):=x/\True/\True
def bV(x:Prop):Unit->Prop:=ay (bg x)
def aV(x y:Nat):=bR x (eM y)
def bS(y x z:Nat):=y<=x/\x-y<x-z
def od(x y:Nat)(z u:Prop):=bO (aA (af x) (af y)) (cC (af x) (af y) z u)
def tM(x:yF)(y:Nat):Int:=qi (fun z=>u8 x.rows (x.r+z)) y
def wm(x:yF)(y:Nat):Int:=dy Go.BinOp.xor .u32 (tM x y) (jC (x.rows (x.r+az y) 0))
def aW(x:Nat):=aH (af x)
def aR(x:Prop):=aH 0/\x
def BQ(x:yF)(y:Prop):=bO true (cC 0 1 (aV 1 x.c) (aR (aV 1 x.c/\jZ x.r x.len x.cap/\dK x.n 1 x.rows/\y)))
def aK(x:Nat)(y:Prop):=(0:Int)=af x/\y
def bf(x:Int)(y:Nat)(z u:Prop):=aG (aA x (af y)) z u
def tN(x:yF)(y:Nat):Int:=dy Go.BinOp.xor .u32 (4294967295:Int) (tM x y)
def l8(x:Int)(y:Nat)(z u:Prop):=bf x y (cn x y/\z) u
def jD(x:Int):=bQ .u8 x
theorem UW:fnBody (Y Tryz.prog) [] 203 Rn fun a=>[(203,[YX a],[])]:=fnBody.of (p :=
 ∀x:yF,x.r+x.len<=x.n/\x.len<100000->bn 0 1/\(∃y:Nat,aK y ((4294967295:Int)=tM x y/\pI (aW x.len) (jZ x.r x.len x.cap) (BQ x (y<=x.len/\True))))/\∀y:Nat,y<=x.len->l8 (af y) x.len (x.r+az y<x.n/\(jD (jC (x.rows (x.r+az y) 0))->(∃z:Nat,aK z (wm x y=IG z (wm x y)/\aH (jC (x.rows (x.r+az y) 0))/\od y x.len (jZ x.r x.len x.cap) (jZ x.r x.len x.cap/\BQ x (z<=8/\True))))/\∀z:Nat,z<=8->aG (aA (af z) 8) ((0:Int)<=1/\dm z fun u=>dy .xor .u32 (IG z (wm x y)/(2:Int)) (dy .and .u32 (3988292384:Int) (uw .u32 ((0:Int)-dy .and .u32 (IG z (wm x y)) (1:Int))))=IG u (wm x y)/\aH (jC (x.rows (x.r+az y) 0))/\od y x.len (jZ x.r x.len x.cap) (jZ x.r x.len x.cap/\BQ x (bS u 8 z))) (dm y fun u=>IG z (wm x y)=tM x u/\pI (aW x.len) (jZ x.r x.len x.cap) (BQ x (bS u x.len y))))) (Exists (bV (tN x y=tN x x.len)))) (by kernel_rfl) (by
 delta aG bB cC ai bR az aH aA cn af bO aF aU bn pI jZ eM dK dm bV aV bS od wm ay aP aW BQ aK aR bf tN ag bg bx l8 jD tM
 try dsimp -iota -proj only
 rintro⟨c,r,len,cap,n,rows⟩ ⟨h1,h2⟩;dsimp only at h1 h2 ⊢;simp only[Int.toNat_natCast,bQ,decide_eq_true_eq,decide_eq_false_iff_not];refine⟨by decide,⟨0,?_⟩,fun i hi=>⟨fun c1=>?_,fun c1=>⟨(),?_⟩⟩⟩
 ·(and_intros<;>first|exact vv|skip)
 ·have hi:i<len:=by omega
  refine⟨by omega,by omega,fun _=>⟨⟨0,?_⟩,fun j hj=>⟨fun c2=>⟨by decide,by omega,j+1,?_⟩,fun c2=>⟨by omega,i+1,?_⟩⟩⟩⟩
  ·(and_intros<;>first|exact vv|skip)
  ·(and_intros<;>first|exact vv|skip)
  ·have:j=8:=by omega
   subst this
   (and_intros<;>first|exact vv|skip)
 ·have:i=len:=by omega
  subst this
  (and_intros<;>first|exact vv|skip))
theorem FH:ak (Y Tryz.prog).G.X 203 Rn:=aT fF UW trivial
def tc(rows:Nat->Nat->Value)(r len:Nat)(v:Int)(k:Nat):Nat->Nat->Value:=fun i j=>if r+len<=i+k/\i<r+len then .int .u8 (uw .u8 (v/2^min (8*(r+len-1-i)) 64))else rows i j
structure lV where
 r:Nat
 len:Nat
 cap:Nat
 v:Int
 n:Nat
 rows:Nat->Nat->Value
noncomputable def BR:cF where
 α:=lV
 β:=Unit
 m:=1
 m':=1
 pre:=fun a=>a.r+a.len<=a.n/\a.len<=8
 args:=fun a=>[.a (.slc 0 a.r 1 a.len a.cap),.a (.int .u64 a.v)]
 hp:=fun a=>[(0,.arr 5 [.int .u8] a.n a.rows)]
 ro:=fun _=>[]
 post:=fun _ _=>True
 res:=fun _ _=>.lY []
 cS:=fun a _=>[(0,.arr 5 [.int .u8] a.n (tc a.rows a.r a.len a.v a.len))]
def XS(a:lV):An:=.flat 1 Nat (fun s k=>(s.at_ 0 (.arr 5 [.int .u8] a.n (tc a.rows a.r a.len a.v k))).int 7 k) (fun _ k=>k<=a.len) (fun _ k=>a.len-k)
def bP(x:Value)(y:List Value):List Value:=x::y
def bG(x:Value):List Value:=bP x []
def fk(x:Int):Value:=Value.int .u8 x
def kN(x:lV)(y:Nat):Nat->Nat->Value:=tc x.rows x.r x.len x.v y
def oe(x y:Int)(z:Prop):=ai x/\ai (x-y)/\z
def FI:=∀x:lV,x.r+x.len<=x.n/\x.len<=8->(∃y:Nat,aK y (aW x.len/\jZ x.r x.len x.cap/\aH x.v/\bB x.n x.n 1 x.rows (kN x y)/\y<=x.len/\True))/\∀y:Nat,y<=x.len->bf (af y) x.len (oe (af x.len-(1:Int)) (af y) (ai ((8:Int)*af y)/\(0:Int)<=8*af y/\cn (af x.len-(1:Int)-af y) x.len/\x.r+aU (af x.len-(1:Int)-af y)<x.n/\dm y fun z=>aW x.len/\jZ x.r x.len x.cap/\aH x.v/\bB x.n x.n 1 (jT (kN x y) (x.r+aU (af x.len-(1:Int)-af y)) 0 (bG (fk (uw .u8 (x.v/(2:Int)^min (aU ((8:Int)*af y)) 64))))) (kN x z)/\bS z x.len y)) (Exists (bV (bB x.n x.n 1 (kN x y) (kN x x.len))))
theorem FJ:fnBody (Y Tryz.prog) [] 196 BR fun a=>[(196,[XS a],[])]:=fnBody.of (p :=
 FI) (by kernel_rfl) (by
 delta aG bB ai aH aA cn af bG fk aF aU bn jZ bP dm bV bS FI ay aP aW aK bf kN bg bx oe
 try dsimp -iota -proj only
 rintro⟨r,len,cap,v,n,rows⟩ ⟨h1,h2⟩;dsimp only at h1 h2 ⊢;simp only[Int.toNat_natCast,bQ,decide_eq_true_eq,decide_eq_false_iff_not];refine⟨⟨0,?_⟩,fun k hk=>⟨fun c1=>?_,fun c1=>⟨(),?_⟩⟩⟩
 ·(and_intros<;>first|exact vv|skip)
  refine⟨fun i hi j hj=>?_⟩;unfold tc;rw[if_neg (by omega)]
 ·have hk:k<len:=by omega
  have e:((len:Int)-1-k).toNat=len-1-k:=by omega
  rw[e];refine⟨by omega,by omega,by omega,by omega,by omega,by omega,by omega,k+1,?_⟩
  (and_intros<;>first|exact vv|skip)
  refine⟨fun i hi j hj=>?_⟩;have hj:j=0:=by omega
  subst hj;by_cases hik:i=r+(len-1-k)
  ·subst hik;have e3:(8*(k:Int)).toNat=8*(r+len-1-(r+(len-1-k))):=by omega
   rw[iR,e3];show Value.int .u8 _=_;simp only[tc];rw[if_pos (by omega)]
  ·rw[gG hik];simp only[tc];by_cases hq:r+len<=i+k/\i<r+len
   ·rw[if_pos hq,if_pos (by omega)]
   ·rw[if_neg hq,if_neg (by omega)]
 ·have:k=len:=by omega
  subst this
  (and_intros<;>first|exact vv|skip))
theorem AX:ak (Y Tryz.prog).G.X 196 BR:=aT fF FJ trivial
def jK(r:Nat->Int):Nat->Int
 |0=>0
 |k+1=>dy .or .u64 (uw .u64 (jK r k*2^8)) (r k)
structure wo where
 r:Nat
 len:Nat
 cap:Nat
 n:Nat
 rows:Nat->Nat->Value
noncomputable def II:cF where
 α:=wo
 β:=Unit
 m:=1
 m':=1
 pre:=fun a=>a.r+a.len<=a.n/\a.len<=8
 args:=fun a=>[.a (.slc 0 a.r 1 a.len a.cap)]
 hp:=fun _=>[]
 ro:=fun a=>[(0,.arr 5 [.int .u8] a.n a.rows)]
 post:=fun _ _=>True
 res:=fun a _=>.a (.int .u64 (jK (fun i=>u8 a.rows (a.r+i)) a.len))
 cS:=fun _ _=>[]
def YY(a:wo):An:=.flat 3 Nat (fun s k=>(s.set 3 (.a (.int .u64 (jK (fun i=>u8 a.rows (a.r+i)) k)))).int 8 k) (fun _ k=>k<=a.len) (fun _ k=>a.len-k)
def cN(x:Int):Int:=uw .u64 x
def qx(x:wo)(y:Nat):Int:=jK (fun z=>u8 x.rows (x.r+z)) y
theorem FK:fnBody (Y Tryz.prog) [] 230 II fun a=>[(230,[YY a],[])]:=fnBody.of (p :=
 ∀x:wo,x.r+x.len<=x.n/\x.len<=8->(∃y:Nat,aK y ((0:Int)=qx x y/\aW x.len/\jZ x.r x.len x.cap/\aR (jZ x.r x.len x.cap/\dK x.n 1 x.rows/\y<=x.len/\True)))/\∀y:Nat,y<=x.len->l8 (af y) x.len (x.r+az y<x.n/\(jD (jC (x.rows (x.r+az y) 0))->(0:Int)<=8/\dm y fun z=>dy .or .u64 (cN (qx x y*(256:Int))) (jC (x.rows (x.r+az y) 0))=qx x z/\aW x.len/\jZ x.r x.len x.cap/\aR (jZ x.r x.len x.cap/\dK x.n 1 x.rows/\bS z x.len y))) (Exists (bV (qx x y=qx x x.len)))) (by kernel_rfl) (by
 delta aG bB ai az aH aA cn af aF aU bn jZ dK dm bV bS ay cN aP aW aK aR bf bg bx qx l8 jD
 try dsimp -iota -proj only
 rintro⟨r,len,cap,n,rows⟩ ⟨h1,h2⟩;dsimp only at h1 h2 ⊢;simp only[Int.toNat_natCast,bQ,decide_eq_true_eq,decide_eq_false_iff_not];refine⟨⟨0,?_⟩,fun k hk=>⟨fun c1=>?_,fun c1=>⟨(),?_⟩⟩⟩
 ·(and_intros<;>first|exact vv|skip)
 ·have hk:k<len:=by omega
  refine⟨by omega,by omega,fun _=>⟨by omega,by omega,k+1,?_⟩⟩
  (and_intros<;>first|exact vv|skip)
 ·have:k=len:=by omega
  subst this
  (and_intros<;>first|exact vv|skip))
theorem AY:ak (Y Tryz.prog).G.X 230 II:=aT fF FK trivial
structure bw where
 n:Nat
 now:Nat->Nat->Int
 Eb:Nat->Nat->Int
 loose:Nat->Bool
 calls:Nat
def BS:List CK:=List.replicate 128 (.int .u8)++[.bool]
def e9(d:bw):Nat->Nat->Value:=fun i j=>if j<64 then .int .u8 (d.now i j)else if j<128 then .int .u8 (d.Eb i (j-64))else .bool (d.loose i)
@[reducible] def fV(a b:bw)(p:Prop):Prop:=(0=0/\a.n=b.n/\a.n=b.n)/\(↑a.calls:Int)=(↑b.calls:Int)/\(b.n<=a.n/\aj b.n 129 (e9 a) (e9 b))/\p
def gn(o a:Nat)(d:bw):List (Nat×Chunk):=[(o,.obj 116 [.slc a 0 129 d.n d.n,.int .i64 d.calls]),(a,.arr 158 BS d.n (e9 d))]
def qy(n:Int):bw:=⟨(min (max n 1) 2048).toNat,fun _ _=>0,fun _ _=>0,fun _=>false,0⟩
noncomputable def AZ:cF where
 α:=Int
 β:=Unit
 m:=0
 m':=2
 pre:=fun _=>True
 args:=fun n=>[.a (.int .i64 n)]
 hp:=fun _=>[]
 ro:=fun _=>[]
 post:=fun _ _=>True
 res:=fun _ _=>.a (.ptr 0 0 0 0)
 cS:=fun n _=>gn 0 1 (qy n)
def kK(x y:Value)(z:List Value):List Value:=bP x (bP y z)
def DD(x:IntKind)(y z u:Int)(v:Value)(w s t:Int)(f:List Value):List Value:=kK (Value.int x y) (Value.int x z) (kK (Value.int x u) v (kK (Value.int x w) (Value.int x s) (bP (Value.int x t) f)))
def tO(x:List Value):List Value:=DD .u8 0 0 0 (fk 0) 0 0 0 x
def BT(x:List Value):List Value:=kK (fk 0) (fk 0) x
def UX(x:Value)(y:List Value):List Value:=tO (tO (BT (bP x y)))
def WE(x:Value)(y:List Value):List Value:=UX (fk 0) (tO (tO (kK (fk 0) x y)))
def XT(x:Value)(y:List Value):List Value:=WE (fk 0) (UX (fk 0) (tO (tO (bP x y))))
def aQ(x:List Value)(y:Nat):Value:=x.getD y (Value.tuple #[])
def oF(z:Bool)(x y:Int):Int:=bif z then max x y else min x y
def gp(x y z u:Nat)(v:Prop)(w:Nat)(s t:Nat->Nat->Value)(f:Prop):=ag (x=y/\z=u)/\v/\bB y x w s t/\f
def lF(x y:Int)(z:Prop):=(0:Int)<=x/\x<=x/\y<=(281474976710656:Int)/\z
def dR(x:Bool):Value:=Value.bool x
def fR:Value:=dR false
def r5(x:Nat)(y:bw)(u:Int)(z:bw)(v:Nat->Nat->Value)(w s:Prop):=gp x y.n x y.n (u=af z.calls) 129 v (e9 z) (w/\s)
def qz(x y z:Int):Int:=oF false (oF true x y) z
theorem KD:fnBody (Y Tryz.prog) [] 12 AZ fun _=>[]:=fnBody.of (p :=
 ∀x:Int,True->lF (qz x 1 2048) ((129:Int)*qz x 1 2048) (Exists (ay (ag (r5 (aU (qz x 1 2048)) (qy x) 0 (qy x) (fun z y=>aQ (XT (fk 0) (WE (fk 0) (UX (fk 0) (tO (BT (BT (BT (bG fR)))))))) y) True True))))) (by kernel_rfl) (by
 delta XT WE UX aQ DD bB oF af bG fk aU kK bP gp lF ay tO fR r5 ag qz dR BT
 try dsimp -iota -proj only
 intro n _;simp only[cond_true,cond_false,Nat.zero_add];have e:min (max n 1) 2048=((min (max n 1) 2048).toNat:Int):=by omega
 refine⟨by omega,by omega,by omega,(),(by trivial),⟨(by trivial),(by trivial),(by trivial)⟩,(by trivial),⟨Nat.le_refl _,⟨fun i hi j hj=>?_⟩⟩,trivial,trivial⟩;show(List.replicate 128 (Value.int .u8 0)++[Value.bool false]).getD j undef=_;unfold e9 qy;dsimp only;simp only[List.getD_eq_getElem?_getD,List.getElem?_append,List.length_replicate,List.getElem?_replicate];by_cases h1:j<64
 ·rw[if_pos (by omega),if_pos (by omega),if_pos h1];rfl
 ·by_cases h2:j<128
  ·rw[if_pos h2,if_pos h2,if_neg h1,if_pos h2];rfl
  ·rw[if_neg h2,if_neg h1,if_neg h2,show j=128 by omega];rfl)
theorem A0{rows:Nat->Nat->Value}{row c i j:Nat}{vs:List Value}:jT rows row c vs i j=if(c<=j/\j<c+vs.length)/\i=row then vs.getD (j-c) undef else rows i j:=by
 have e1:∀a b:Nat,Nat.ble a b=decide (a<=b):=fun a b=>by rw[Bool.eq_iff_iff];simp
 have e2:∀a b:Nat,Nat.blt a b=decide (a<b):=fun a b=>e1 _ _;unfold jT;rw[e1,e2];by_cases h1:c<=j<;>by_cases h2:j<c+vs.length<;>by_cases h3:i=row<;>simp[h1,h2,h3]
theorem Ro{f:Nat->Value}{n j:Nat}(h:j<n):((List.range n).map f).getD j undef=f j:=by
 simp[List.getD_eq_getElem?_getD,List.getElem?_range h]
def fW(d:bw)(i len:Nat)(src:Nat->Int):bw:=⟨d.n,fun r j=>if r=i/\j<len then src j else d.now r j,d.Eb,fun r=>if r=i then true else d.loose r,d.calls+1⟩
def bK(f:Nat->Int):Nat->Nat->Value:=fun i _=>.int .u8 (f i)
structure KE where
 d:bw
 i:Nat
 r:Nat
 len:Nat
 cap:Nat
 n:Nat
 src:Nat->Int
noncomputable def oR:cF where
 α:=KE
 β:=Unit
 m:=3
 m':=3
 pre:=fun a=>a.i<a.d.n/\a.d.n<100000/\a.len<=64/\a.r+a.len<=a.n/\a.d.calls<1000000000000
 args:=fun a=>[.a (.ptr 0 0 0 0),.a (.int .i64 a.i),.a (.slc 2 a.r 1 a.len a.cap)]
 hp:=fun a=>gn 0 1 a.d
 ro:=fun a=>[(2,.arr 5 [.int .u8] a.n (bK a.src))]
 post:=fun _ _=>True
 res:=fun _ _=>.a (.lit .i64 0)
 cS:=fun a _=>gn 0 1 (fW a.d a.i a.len fun j=>a.src (a.r+j))
def gU(y:Bool)(x:Prop)(z:Bool)(u:Prop):=aG y x (aG z x u)
def lG(x:KE):bw:=fW x.d x.i x.len fun y=>x.src (x.r+y)
def cO(x y:Int):Bool:=decide (x<=y)
def dJ(x y:Nat)(z:Prop):=cn (af x) y/\0+az x<y/\z
def tP(x:KE):=x.i<x.d.n/\x.d.n<100000/\x.len<=64/\x.r+x.len<=x.n/\x.d.calls<1000000000000
def pJ:List Value:=bG (dR true)
def FL(x y:bw)(z:Nat->Nat->Value):=ai (af x.calls)->aP x.calls/\Exists (ay (aR (r5 x.n y (af x.calls+(1:Int)) y z True True)))
theorem FM:fnBody (Y Tryz.prog) [] 81 oR fun _=>[]:=fnBody.of (p :=
 ∀x:KE,tP x->gU (aA (af x.i) 0) (Exists (ay ((4:Int)=0/\fV x.d (lG x) (True/\True)))) (cO (af x.d.n) (af x.i)) (bf 64 x.len (Exists (ay ((1:Int)=0/\fV x.d (lG x) (True/\True)))) (cn (af x.i) x.d.n/\0<64/\0+az x.i<x.d.n/\x.r+x.len<=x.n/\dJ x.i x.d.n (FL x.d (lG x) (jT (AQ (e9 x.d) (0+az x.i) 0 (min x.len 64) fun y z=>fk (x.src (x.r+y))) (0+az x.i) 128 pJ))))) (by kernel_rfl) (by
 delta aG bB ai az aH aA cn af bG fk aF aU bn bP gU gp lG ay aP cO aR bf r5 ag dJ tP pJ dR FL
 try dsimp -iota -proj only
 intro a h;obtain⟨h1,h2,h3,h4,h5⟩:=h;have e1:decide ((a.i:Int)<0)=false:=by simp
 have e2:decide ((a.d.n:Int)<=a.i)=false:=by simp;omega
 have e3:decide ((64:Int)<a.len)=false:=by simp;omega
 simp only[e1,e2,e3,Nat.zero_add,Int.toNat_natCast,bQ];refine⟨fun e=>(by cases e),fun _=>⟨fun e=>(by cases e),fun _=>⟨fun e=>(by cases e),fun _=>⟨by omega,by omega,by omega,by omega,by omega,by omega,fun _=>⟨by omega,(),(by trivial),⟨(by trivial),(by trivial),(by trivial)⟩,(by trivial),⟨Nat.le_refl _,⟨fun i hi j hj=>?_⟩⟩,trivial,trivial⟩⟩⟩⟩⟩;rw[A0,show min a.len 64=a.len by omega];simp only[e9,fW,AQ,bK,List.length_singleton];by_cases h6:i=a.i
 ·subst h6;by_cases g1:j<64
  ·by_cases g2:j<a.len
   ·simp[g1,g2,show ¬(128<=j)by omega]
   ·simp[g1,g2,show ¬(128<=j)by omega]
  ·by_cases g3:j<128
   ·simp[g1,g3,show ¬(128<=j)by omega,show ¬(j<a.len)by omega]
   ·simp[g1,g3,show j=128 by omega]
 ·simp[h6])
def fZ(d:bw):bw:=⟨d.n,d.now,d.now,fun _=>false,d.calls+1⟩
def jM(d:bw)(i:Nat):bw:=⟨d.n,d.now,fun r j=>if r<i then d.now r j else d.Eb r j,fun r=>if r<i then false else d.loose r,d.calls⟩
noncomputable def jA:cF where
 α:=bw
 β:=Unit
 m:=2
 m':=2
 pre:=fun d=>d.n<100000/\d.calls<1000000000000
 args:=fun a=>[.a (.ptr 0 0 0 0)]
 hp:=fun d=>gn 0 1 d
 ro:=fun _=>[]
 post:=fun _ _=>True
 res:=fun _ _=>.a (.lit .i64 0)
 cS:=fun d _=>gn 0 1 (fZ d)
def WG(d:bw):An:=.flat 4 Nat (fun s i=>(s.at_ (s.oQ (s.tg 0) 0) (.arr 158 BS d.n (e9 (jM d i)))).int 11 i) (fun _ i=>i<=d.n) (fun _ i=>d.n-i)
def jt(x y:Nat)(z u:Prop):=bf (af x) y (dJ x y z) u
def bp(x:Prop):=bO false x
def kf(x:bw):=x.n<100000/\x.calls<1000000000000
def gi(x y:Nat)(z u:Prop):=x<=y->jt x y z u
theorem FN:fnBody (Y Tryz.prog) [] 169 jA fun d=>[(169,[WG d],[])]:=fnBody.of (p :=
 ∀x:bw,kf x->(∃y:Nat,aK y (aW x.n/\bp (aR (ag (aV x.n x.n/\aW x.calls/\bB x.n x.n 129 (e9 x) (e9 (jM x y))/\y<=x.n/\True)))))/\∀y:Nat,gi y x.n (dJ y x.n (dJ y x.n (dm y fun z=>aW x.n/\bp (aR (ag (aV x.n x.n/\aW x.calls/\bB x.n x.n 129 (jT (jT (e9 (jM x y)) (0+az y) 64 (List.map (fun(u:Nat)=>fk ((jM x y).now (0+az y) u)) (List.range 64))) (0+az y) 128 (bG fR)) (e9 (jM x z))/\bS z x.n y)))))) (FL x (fZ x) (e9 (jM x y)))) (by kernel_rfl) (by
 delta aG bB ai bR az aH aA cn af bO bG fk aF aU bn bP eM jt gp dm aV bp bS kf ay aP aW fR aK aR bf r5 ag dJ bx gi dR FL
 try dsimp -iota -proj only
 intro d h;obtain⟨h1,h2⟩:=h;simp only[Nat.zero_add,Int.toNat_natCast,bQ];refine⟨⟨0,(by trivial),(by trivial),(by trivial),(by trivial),(by trivial),⟨(by trivial),(by trivial),(by trivial)⟩,(by trivial),⟨Nat.le_refl _,⟨fun i hi j hj=>?_⟩⟩,by omega,trivial⟩,fun k hk=>⟨fun c1=>?_,fun c1 _=>?_⟩⟩
 ·simp only[e9,jM,Nat.not_lt_zero,if_false]
 ·have hk:k<d.n:=by simpa using c1
  refine⟨by omega,by omega,by omega,by omega,by omega,by omega,by omega,k+1,by omega,(by trivial),(by trivial),(by trivial),(by trivial),⟨(by trivial),(by trivial),(by trivial)⟩,(by trivial),⟨Nat.le_refl _,⟨fun i hi j hj=>?_⟩⟩,by omega,by omega⟩;refine Eq.trans (b:=jT (jT (e9 (jM d k)) k 64 ((List.range 64).map fun j=>.int .u8 ((jM d k).now k j))) k 128 [.bool false] i j) rfl ?_;rw[A0,A0];simp only[List.length_singleton,List.length_map,List.length_range];by_cases h6:i=k
  ·subst h6;by_cases g1:j<64
   ·simp[e9,jM,g1,show ¬(128<=j)by omega,show ¬(64<=j)by omega]
   ·by_cases g3:j<128
    ·rw[if_neg (by omega),if_pos (by omega),Ro (by omega)];simp[e9,jM,g1,g3]
    ·simp[e9,jM,g1,g3,show j=128 by omega]
  ·rw[if_neg (by omega),if_neg (by omega)];simp only[e9,jM,show(i<k+1)=(i<k)by simp;omega]
 ·have hk:k=d.n:=by simp at c1;omega
  subst hk;refine⟨by omega,(),(by trivial),⟨(by trivial),(by trivial),(by trivial)⟩,(by trivial),⟨Nat.le_refl _,⟨fun i hi j hj=>?_⟩⟩,trivial,trivial⟩;have hi:i<d.n:=hi;simp only[e9,jM,fZ,hi,if_true])
structure YM where
 d:bw
 i:Nat
noncomputable def BU:cF where
 α:=YM
 β:=Nat
 m:=2
 m':=3
 pre:=fun a=>a.i<a.d.n/\a.d.n<100000
 args:=fun a=>[.a (.ptr 0 0 0 0),.a (.int .i64 a.i)]
 hp:=fun _=>[]
 ro:=fun a=>gn 0 1 a.d
 post:=fun _ c=>64<=c
 res:=fun _ c=>.lY [.a (.slc 2 0 1 64 c),.a (.lit .i64 0)]
 cS:=fun a c=>[(2,.arr 5 [.int .u8] 64 (bK (a.d.now a.i)))]
def BV(x:Nat)(z u:Int):=∃y:Nat,(0=x/\0=y)/\z=u/\x=0/\x<=y/\True
def tQ(x:Nat->Nat->Value):Nat->Nat->Value:=aX (aN 1 []) 0 0 x
theorem IJ:fnBody (Y Tryz.prog) [] 201 BU fun _=>[]:=fnBody.of (p :=
 ∀x:YM,x.i<x.d.n/\x.d.n<100000->gU (aA (af x.i) 0) (BV 64 4 0) (cO (af x.d.n) (af x.i)) (cn (af x.i) x.d.n/\0<64/\0<=0/\0+az x.i<x.d.n/\64<=140737488355328/\∀y:Nat,64<=y->y<=aq->(64<=0->y=0)->∃z:Nat,bR 64 (y=z)/\aR (bB 64 64 1 (tQ fun u v=>e9 x.d (0+az x.i) (0+u)) (bK (x.d.now x.i))/\64<=z/\True))) (by kernel_rfl) (by
 delta aG bB bR az aH aA cn af aF aU bn gU cO aR ag BV tQ
 try dsimp -iota -proj only
 intro a h;obtain⟨h1,h2⟩:=h;have e1:decide ((a.i:Int)<0)=false:=by simp
 have e2:decide ((a.d.n:Int)<=a.i)=false:=by simp;omega
 simp only[e1,e2,Nat.zero_add,Int.toNat_natCast];refine⟨fun e=>(by cases e),fun _=>⟨fun e=>(by cases e),fun _=>⟨by omega,by omega,by omega,by omega,by omega,fun cap hc1 hc2 hc3=>⟨cap,⟨(by trivial),(by trivial),(by trivial)⟩,(by trivial),⟨Nat.le_refl _,⟨fun i hi j hj=>?_⟩⟩,hc1,trivial⟩⟩⟩⟩;simp only[aX,bK,Nat.not_lt_zero,if_false,Nat.sub_zero,e9,if_pos hi])
theorem BW:ak (Y Tryz.prog).G.X 12 AZ:=aT fF KD trivial
theorem oK:ak (Y Tryz.prog).G.X 81 oR:=aT fF FM trivial
theorem iz:ak (Y Tryz.prog).G.X 169 jA:=aT fF FN trivial
theorem IK:ak (Y Tryz.prog).G.X 201 BU:=aT fF IJ trivial
def cB(x:Int):List Value:=[.int .u8 x]
def vf:Nat->Nat->List Int
 |0,u=>[(u:Int)]
 |k+1,u=>if u<128 then[(u:Int)]else((u%128+128:Nat):Int)::vf k (u/128)
theorem vg:∀(k u:Nat),1<=(vf k u).length/\(vf k u).length<=k+1
 |0,u=>by simp[vf]
 |k+1,u=>by
  unfold vf;split
  ·simp
  ·have:=vg k (u/128);simp only[List.length_cons];omega
theorem XU(x:Nat):dy .or .u8 (uw .u8 x) 128=((x%128+128:Nat):Int):=by
 have h:∀y:Fin 256,dy .or .u8 (y.1:Int) 128=((y.1%128+128:Nat):Int):=by decide +kernel
 have e:uw .u8 (x:Int)=((x%256:Nat):Int):=by simp only[uw];omega
 have:=h ⟨x%256,by omega⟩;rw[e,this];simp only;omega
def vi(n:Int):List Int:=vf 9 (2*n.toNat)
def je(t:Nat)(l:List Int):List (Nat×Chunk):=[(t,.arr 5 [.int .u8] l.length (aa cB l))]
def S.bytes(s:S)(slot:Nat)(l:List Int)(cap:Nat):S:=((s.put (s.hp.del (s.tg slot))).new (.arr 5 [.int .u8] l.length (aa cB l))).set slot (.a (.slc s.nx 0 1 l.length cap))
structure xJ where
 l:List Int
 cap:Nat
 n:Int
noncomputable def Ng:cF where
 α:=xJ
 β:=Nat
 m:=1
 m':=2
 pre:=fun a=>a.l.length<100000/\0<=a.n/\a.n<4611686018427387904
 args:=fun a=>[.a (.slc 0 0 1 a.l.length a.cap),.a (.int .i64 a.n)]
 hp:=fun a=>je 0 a.l
 ro:=fun _=>[]
 post:=fun _ _=>True
 res:=fun a c=>.a (.slc 1 0 1 (a.l++vi a.n).length c)
 cS:=fun a c=>je 1 (a.l++vi a.n)
structure IL where
 l:List Int
 u:Nat
 k:Nat
 cap:Nat
def XV(a:xJ):An:=.flat 4 IL (fun s x=>(S.bytes s 0 x.l x.cap).set 5 (.a (.int .u64 x.u))) (fun _ x=>x.l++vf x.k x.u=a.l++vi a.n/\x.u<128^(x.k+1)/\x.k<=9) (fun _ x=>x.u)
def av(x:List Int):Nat:=x.length
def gq(y z v u:Nat)(w:Nat->Prop):=(y+z)*v<=140737488355328/\∀x:Nat,y+z<=x->x<=aq->(y+z<=u->x=u)->w x
def bW(x y:List Int)(z:Int->List Value):=bB (av x) (av y) 1 (aa z y) (aa z x)
def jE(x:Nat)(y:List Value):Nat->Nat->Value:=fun(z u:Nat)=>aN x y (0+z) u
def iS(z x y:Nat)(u:Nat->Nat->Value)(v:List Value)(w:Nat->Nat->Value):=bB z (x+1) y (aX u 0 x (jE y v)) w
def gH(x y z:Nat)(u:Nat->Prop):=0+x<=x/\1<=1/\gq x 1 y z fun v=>u v
def FO(x:IL)(y:xJ):=x.l++vf x.k x.u=y.l++vi y.n/\x.u<128^(x.k+1)/\x.k<=9
def tR(x:Nat):List Value:=bG (fk (uw .u8 (af x)))
def VY(y:xJ):=∀x:IL,FO x y->bf 127 x.u (gH (av x.l) 1 x.cap fun v=>(0:Int)<=7/\∃z:IL,af x.u/(128:Int)=af z.u/\ag (av x.l+1=av z.l/\v=z.cap)/\bO (aA y.n 0) (aH y.n/\iS (av z.l) (av x.l) 1 (aa cB x.l) (bG (fk (dy Go.BinOp.or .u8 (uw .u8 (af x.u)) (128:Int)))) (aa cB z.l)/\FO z y/\z.u<x.u)) (gH (av x.l) 1 x.cap fun v=>∃z:Nat,ag (av x.l+1=av (y.l++vi y.n)/\v=z)/\bg (iS (av (y.l++vi y.n)) (av x.l) 1 (aa cB x.l) (tR x.u) (aa cB (y.l++vi y.n))))
def cG(x y:List Int)(z u:Nat):=ag (av x=av y/\z=u)
def l9(x y:Int):Int:=dy Go.BinOp.xor .u64 x y
def KF(z:Int)(x:xJ):=(∃y:IL,z=af y.u/\cG x.l y.l x.cap y.cap/\bO (aA x.n 0) (aH x.n/\bW y.l x.l cB/\FO y x/\True))/\VY x
def yG(x:xJ):=av x.l<100000/\bn x.n 4611686018427387904
theorem Rp:fnBody (Y Tryz.prog) [] 200 Ng fun a=>[(200,[XV a],[])]:=fnBody.of (p :=
 ∀x:xJ,yG x->(0:Int)<=1/\aG (aA x.n 0) (KF (l9 18446744073709551615 (cN (cN x.n*(2:Int)))) x) (KF (cN (cN x.n*(2:Int))) x)) (by kernel_rfl) (by
 delta aG av bB aH gq aA af bO bG fk aF bn bP bW VY iS gH cG cN bf l9 ag FO bg tR KF yG jE
 try dsimp -iota -proj only
 rintro⟨l,cap,n⟩ ⟨h1,h2,h3⟩;dsimp only at h1 h2 h3 ⊢;have e0:decide (n<0)=false:=by simp;omega
 have e1:uw .u64 (uw .u64 n*2)=((2*n.toNat:Nat):Int):=by simp only[uw];omega
 have hv:=vg 9 (2*n.toNat);rw[e0,e1];refine⟨by omega,fun e=>(by cases e),fun _=>⟨⟨⟨l,2*n.toNat,9,cap⟩,?_⟩,fun x hx=>?_⟩⟩
 ·dsimp only
  and_intros<;>first|trivial|exact aj.refl _ _ _|exact Nat.le_refl _|(simp only[vi])|omega|skip
 ·obtain⟨l',u,k,cap'⟩:=x;obtain⟨g1,g2,g3⟩:=hx;dsimp only at g1 g2 g3 ⊢;have hl:=congrArg List.length g1;have hv2:=vg k u;simp only[List.length_append,vi]at hl;refine⟨fun c1=>⟨by omega,by omega,by omega,fun c hc1 hc2 hc3=>⟨by omega,⟨l'++[((u%128+128:Nat):Int)],u/128,k-1,c⟩,?_⟩⟩,fun c1=>⟨by omega,by omega,by omega,fun c hc1 hc2 hc3=>⟨c,?_⟩⟩⟩
  ·have c1:127<u:=by simp at c1;omega
   obtain⟨k',rfl⟩:∃k',k=k'+1:=⟨k-1,by
    by_cases hk:k=0
    ·subst hk;simp at g2;omega
    ·omega⟩
   have g1':(l'++[((u%128+128:Nat):Int)])++vf k' (u/128)=l++vi n:=by
    rw[<- g1,List.append_assoc];congr 1;rw[show vf (k'+1) u=((u%128+128:Nat):Int)::vf k' (u/128)from if_neg (by omega)];rfl
   have g4:u/128<128^(k'+1):=by
    rw[Nat.pow_succ]at g2;exact Nat.div_lt_of_lt_mul (by rw[Nat.mul_comm];exact g2)
   simp only[Nat.add_sub_cancel]
   and_intros<;>first|trivial|with_reducible rfl|exact g1'|exact g4|omega|(simp;done)|skip
   refine .push rfl (by simp) ?_;show[_]=[_]
   simp only[aN,cB,Nat.add_zero,Nat.zero_mul,List.getD_cons_zero,XU]
  ·have c1:u<128:=by simp at c1;omega
   have e5:vf k u=[(u:Int)]:=by
    cases k with
    |zero=>rfl
    |succ k=>exact if_pos (by simp at c1;omega)
   rw[e5]at g1;rw[<- g1]
   and_intros<;>first|trivial|with_reducible rfl|omega|(simp;done)|skip
   refine .push rfl (by simp) ?_;show[_]=[_]
   simp only[aN,cB,Nat.add_zero,Nat.zero_mul,List.getD_cons_zero,uw];rw[Int.emod_eq_of_lt (by omega) (by omega)])
theorem iD(n:Int):1<=(vi n).length/\(vi n).length<=10:=vg 9 _
theorem IM:ak (Y Tryz.prog).G.X 200 Ng:=aT fF Rp trivial
structure aD where
 key:ByteArray
 val:ByteArray
 e:Int
 gone:Bool
 deriving Inhabited
def KG:List CK:=[.str,.str,.int .i64,.bool]
def lz(x:aD):List Value:=[.string x.key,.string x.val,.int .i64 x.e,.bool x.gone]
def BX(x:aD):List A:=[.str x.key,.str x.val,.int .i64 x.e,.bool x.gone]
def dM(k:ByteArray):Bool:=!decide (k=ByteArray.mk #[])&&decide (k.size<=40)
def fH(x:aD):Bool:=dM x.key&&decide (x.val.size<=200)&&decide (0<=x.e)&&decide (x.e<=1099511627776)&&(!x.gone||decide (x.val=ByteArray.mk #[])&&decide (x.e=0))
def tS(x:aD)(now:Int):Bool:=fH x&&!x.gone&&(decide (x.e=0)||decide (now<x.e))
noncomputable def KH:cF where
 α:=ByteArray
 β:=Unit
 m:=0
 m':=0
 pre:=fun _=>True
 args:=fun k=>[.a (.str k)]
 hp:=fun _=>[]
 ro:=fun _=>[]
 post:=fun _ _=>True
 res:=fun k _=>.a (.bool (dM k))
 cS:=fun _ _=>[]
def bA(x:ByteArray):Nat:=x.size
def cV:ByteArray:=(ByteArray.mk #[])
def fM(x:Bool)(y z:Prop):=false=x/\y/\z
def eO(x:Bool):Unit->Prop:=ay (fM x True True)
def bC(x:Bool):Bool:=!x
def jF(x y:ByteArray):Bool:=decide (x=y)
theorem UY:fnBody (Y Tryz.prog) [] 86 KH fun _=>[]:=fnBody.of (p :=
 ∀x:ByteArray,True->aG (bC (jF x cV)) (Exists (bV (cO (af (bA x)) 40=dM x))) (Exists (eO (dM x)))) (by kernel_rfl) (by
 delta aG af bA cV aF fM bV ay cO eO bg bC jF
 intro k _;refine⟨fun h=>⟨(),?_,trivial,trivial⟩,fun h=>⟨(),?_,trivial,trivial⟩⟩
 ·simp only[dM,h,Bool.true_and];exact decide_eq_decide.2 (by omega)
 ·simp only[dM,h];rfl)
noncomputable def AE:cF where
 α:=aD
 β:=Unit
 m:=0
 m':=0
 pre:=fun _=>True
 args:=fun x=>[.agg (BX x)]
 hp:=fun _=>[]
 ro:=fun _=>[]
 post:=fun _ _=>True
 res:=fun x _=>.a (.bool (fH x))
 cS:=fun _ _=>[]
def aI(x:Prop):=∀y:Unit,True->x
def cH(x:Prop):=True/\aI x
def me(x:Int)(y:Bool)(z u:Prop):=ai x->aG y z (ai x->u)
theorem FP:fnBody (Y Tryz.prog) [(86,KH)] 96 AE fun _=>[]:=fnBody.of (p :=
 ∀x:aD,True->∃y:ByteArray,x.key=y/\cH (gU (bC (dM y)) (Exists (eO (fH x))) (aA 200 (af (bA x.val))) (me x.e (aA x.e 0) (Exists (eO (fH x))) (aG (aA 1099511627776 x.e) (Exists (eO (fH x))) (aG (bC x.gone) (Exists (bV (true=fH x))) (aG (jF x.val cV) (ai x.e->Exists (bV ((x.e == (0:Int))=fH x))) (Exists (eO (fH x))))))))) (by kernel_rfl) (by
 delta aG ai aA af bA cV aF fM gU aI bV ay eO bg bC cH jF me
 intro x _;have hv:x.val=ByteArray.mk #[]->x.val.size=0:=fun e=>by rw[e];rfl
 refine⟨x.key,rfl,trivial,fun _ _=>?_⟩
 repeat' (first|intro _|apply And.intro|apply Exists.intro ())
 all_goals(try exact trivial)
 all_goals(try simp only[Bool.not_eq_true',Bool.not_eq_false',decide_eq_true_eq,decide_eq_false_iff_not]at *)
 all_goals(simp only[fH];rw[Bool.eq_iff_iff];simp only[Bool.and_eq_true,Bool.or_eq_true,Bool.not_eq_true',decide_eq_true_eq,beq_iff_eq];grind))
structure Nh where
 x:aD
 now:Int
noncomputable def Rq:cF where
 α:=Nh
 β:=Unit
 m:=0
 m':=0
 pre:=fun _=>True
 args:=fun a=>[.agg (BX a.x),.a (.int .i64 a.now)]
 hp:=fun _=>[]
 ro:=fun _=>[]
 post:=fun _ _=>True
 res:=fun a _=>.a (.bool (tS a.x a.now))
 cS:=fun _ _=>[]
def qA(y z:Bool)(u x:Prop):=aG y (aG z u x) x
def pK(x y:aD)(z:Prop):=x.key=y.key/\x.val=y.val/\x.e=y.e/\x.gone=y.gone/\z
theorem Rr:fnBody (Y Tryz.prog) [(96,AE)] 185 Rq fun _=>[]:=fnBody.of (p :=
 ∀y:Nh,True->∃z:aD,pK y.x z (cH (qA (fH z) (bC y.x.gone) (me y.x.e (y.x.e == (0:Int)) (Exists (bV (true=tS y.x y.now))) (Exists (bV (aA y.now y.x.e=tS y.x y.now)))) (Exists (eO (tS y.x y.now)))))) (by kernel_rfl) (by
 delta qA aG ai aA aF fM pK aI bV ay eO bg bC cH me
 rintro⟨x,now⟩ _;refine⟨x,rfl,rfl,rfl,rfl,trivial,fun _ _=>?_⟩;dsimp only
 repeat' (first|intro _|apply And.intro|apply Exists.intro ())
 all_goals(try exact trivial)
 all_goals(try simp only[Bool.not_eq_true',Bool.not_eq_false',decide_eq_true_eq,decide_eq_false_iff_not]at *)
 all_goals(simp only[tS];rw[Bool.eq_iff_iff];simp only[Bool.and_eq_true,Bool.or_eq_true,Bool.not_eq_true',decide_eq_true_eq,beq_iff_eq];(try simp only[Bool.not_eq_true']at *);grind))
theorem oS{α:Type}[Inhabited α]{l:List α}{i:Nat}(h:i<l.length):l.take (i+1)=l.take i++[gl l i]:=by
 rw[bN h,List.take_add_one,List.getElem?_eq_getElem h];rfl
theorem flatMap_push{α β:Type}[Inhabited α]{l:List α}{f:α->List β}{i:Nat}(h:i<l.length):(l.take (i+1)).flatMap f=(l.take i).flatMap f++f (gl l i):=by
 rw[oS h,List.flatMap_append];simp
theorem tT{α β:Type}{l:List α}{f:α->List β}{i:Nat}(h:¬i<l.length):(l.take i).flatMap f=l.flatMap f:=by
 rw[List.take_of_length_le (by omega)]
theorem IN{α β:Type}[Inhabited α]{l:List α}{f:α->List β}{m:Nat}(h:∀i,i<l.length->(f (gl l i)).length<=m):(l.flatMap f).length<=l.length*m:=by
 induction l with
 |nil=>simp
 |cons x r ih =>
  have h0:=h 0 (by simp);have:=ih fun i hi=>h (i+1) (by simp;omega);simp only[List.flatMap_cons,List.length_append,List.length_cons,Nat.succ_mul]at *;simp only[gl,List.getD_cons_zero]at h0;omega
theorem kE{α β:Type}[Inhabited α]{l:List α}{f:α->List β}{m:Nat}(h:∀i,i<l.length->(f (gl l i)).length<=m)(k:Nat)(hk:k<=l.length):((l.take k).flatMap f).length<=k*m:=by
 have:=IN (l:=l.take k) (f:=f) (m:=m) fun i hi=>by
  simp at hi;have e:gl (l.take k) i=gl l i:=by unfold gl;rw[List.getD_eq_getElem?_getD,List.getElem?_take_of_lt (by omega),List.getD_eq_getElem?_getD]
  rw[e];exact h i (by omega)
 simpa[Nat.min_eq_left hk]using this
def HZ(t:ByteArray):List Int:=t.data.toList.map fun b=>(b.toNat:Int)
def encI(x:Int):List Value:=[.int .i64 x]
def kO(x:ByteArray):List Value:=[.string x]
def gI(ns:List Int):List Int:=ns.flatMap vi
def eE(ts:List ByteArray):List Int:=ts.flatMap fun t=>vi t.size++HZ t
theorem iO(t:ByteArray):(HZ t).length=t.size:=by rw[HZ,List.length_map];rfl
theorem BY(t:ByteArray){m:Nat}(h:m<=t.size):aj m 1 (mV t) (aa cB (HZ t)):=by
 refine⟨fun i hi j hj=>?_⟩;have hj:j=0:=by omega
 have hs:t.size=t.data.size:=rfl;have hi':i<t.data.size:=by omega
 subst hj;simp only[mV,aa,cB,List.getD_cons_zero,HZ,gl];congr 1;simp[List.getD_eq_getElem?_getD,Array.getD_eq_getD_getElem?,Array.getElem?_eq_getElem hi']
structure mg where
 l:List Int
 cap:Nat
 ns:List Int
 Rs:Nat
noncomputable def BZ:cF where
 α:=mg
 β:=Nat
 m:=2
 m':=3
 pre:=fun a=>a.l.length<10000/\a.ns.length<100/\∀i,i<a.ns.length->0<=gl a.ns i/\gl a.ns i<4611686018427387904
 args:=fun a=>[.a (.slc 0 0 1 a.l.length a.cap),.a (.slc 1 0 1 a.ns.length a.Rs)]
 hp:=fun a=>je 0 a.l
 ro:=fun a=>[(1,.arr 2 [.int .i64] a.ns.length (aa encI a.ns))]
 post:=fun _ _=>True
 res:=fun a c=>.a (.slc 2 0 1 (a.l++gI a.ns).length c)
 cS:=fun a c=>je 2 (a.l++gI a.ns)
def WH(a:mg):An:=.flat 2 (Nat×Nat) (fun s x=>(S.bytes s 0 (a.l++gI (a.ns.take x.1)) x.2).int 9 x.1) (fun _ x=>x.1<=a.ns.length) (fun _ x=>a.ns.length-x.1)
def iT(x:Nat×Nat)(z:Nat×Nat->Prop):=aP x.fst/\∃y:Nat×Nat,bx x.fst y.fst/\z y
def yH(w:Prop)(y s:Nat)(t:Nat->Prop)(f:Nat×Nat->Prop)(g:Nat)(h:Nat×Nat->Prop)(i:Prop)(j:Nat×Nat->Prop)(z:Nat×Nat->List Int)(u:List Int):=(w/\y<s/\∀v:Nat,v<y->t v)->(∃x:Nat×Nat,aK x.fst (f x/\pI (aW y) (aV y g) (h x/\i/\x.fst<=y/\True)))/\∀x:Nat×Nat,gi x.fst y (j x) (∃k:Nat,cG (z x) u x.snd k/\bg (bW u (z x) cB))
def wq(x:mg)(y:Nat×Nat):List Int:=x.l++gI (List.take y.fst x.ns)
def FQ(z:Nat×Nat)(u v:List Int)(w:Nat×Nat->List Int)(s y t:Nat)(f:Prop):=iT z fun x=>cG (u++v) (w x) s x.snd/\pI (aW y) (aV y t) (bW (w x) (u++v) cB/\f/\bS x.fst y z.fst)
theorem OF:fnBody (Y Tryz.prog) [(200,Ng)] 165 BZ fun a=>[(165,[WH a],[])]:=fnBody.of (p :=
 ∀x:mg,yH (av x.l<10000) (av x.ns) 100 (fun y=>bn (gl x.ns y) 4611686018427387904) (fun y=>cG x.l (wq x y) x.cap y.snd) x.Rs (fun y=>bW (wq x y) x.l cB) (bW x.ns x.ns encI) (fun y=>ai (gl x.ns (0+az y.fst))->∃z:xJ,cG (wq x y) z.l y.snd z.cap/\gl x.ns (0+az y.fst)=z.n/\bW z.l (wq x y) cB/\yG z/\∀u:Nat,True->FQ y z.l (vi z.n) (fun v=>wq x v) u (av x.ns) x.Rs (bW x.ns x.ns encI)) (fun y=>wq x y) (x.l++gI x.ns)) (by kernel_rfl) (by
 delta aG av bB ai bR az aH aA cn af aF aU bn pI eM bW jt aV cG bS iT yH aP aW aK bf ag dJ bg bx wq gi FQ yG
 try dsimp -iota -proj only
 rintro⟨l,cap,ns,Rs⟩ ⟨h1,h2,h3⟩;dsimp only at h1 h2 h3 ⊢;have e0:gI (ns.take 0)=[]:=rfl;refine⟨⟨(0,cap),?_⟩,fun x hx=>?_⟩
 ·dsimp only;rw[e0,List.append_nil]
  and_intros<;>first|trivial|with_reducible rfl|exact aj.refl _ _ _|exact Nat.le_refl _|omega
 ·obtain⟨i,c⟩:=x;have hx:i<=ns.length:=hx;have ln:(gI (ns.take i)).length<=i*10:=kE (fun j _=>(iD _).2) i hx;dsimp only;simp only[Nat.zero_add,Int.toNat_natCast,bQ];refine⟨fun c1=>?_,fun c1=>?_⟩
  ·have hi:i<ns.length:=by simpa using c1
   have hs:gI (ns.take (i+1))=gI (ns.take i)++vi (gl ns i):=flatMap_push hi;have h3:=h3 i hi;refine⟨by omega,by omega,fun _=>⟨⟨l++gI (ns.take i),c,gl ns i⟩,?_⟩⟩;dsimp only;rw[List.append_assoc,<- hs]
   (repeat' (first|apply And.intro|(intro _)))<;>first|trivial|with_reducible rfl|exact aj.refl _ _ _|exact Nat.le_refl _|omega|(simp;omega)|skip
   apply Exists.intro ((i+1,_):Nat×Nat)
   (repeat' (first|apply And.intro|(intro _)))<;>first|trivial|with_reducible rfl|exact aj.refl _ _ _|exact Nat.le_refl _|omega
  ·have hi:¬i<ns.length:=by simpa using c1
   rw[show gI (ns.take i)=gI ns from tT hi];refine⟨c,?_⟩
   (repeat' (first|apply And.intro|(intro _)))<;>first|trivial|with_reducible rfl|exact aj.refl _ _ _|exact Nat.le_refl _|omega)
structure qj where
 l:List Int
 cap:Nat
 ts:List ByteArray
 Rt:Nat
noncomputable def FR:cF where
 α:=qj
 β:=Nat
 m:=2
 m':=3
 pre:=fun a=>a.l.length<10000/\a.ts.length<20/\∀i,i<a.ts.length->(gl a.ts i).size<=1000
 args:=fun a=>[.a (.slc 0 0 1 a.l.length a.cap),.a (.slc 1 0 1 a.ts.length a.Rt)]
 hp:=fun a=>je 0 a.l
 ro:=fun a=>[(1,.arr 9 [.str] a.ts.length (aa kO a.ts))]
 post:=fun _ _=>True
 res:=fun a c=>.a (.slc 2 0 1 (a.l++eE a.ts).length c)
 cS:=fun a c=>je 2 (a.l++eE a.ts)
def UZ(a:qj):An:=.flat 2 (Nat×Nat) (fun s x=>(S.bytes s 0 (a.l++eE (a.ts.take x.1)) x.2).int 9 x.1) (fun _ x=>x.1<=a.ts.length) (fun _ x=>a.ts.length-x.1)
def aZ(x:List ByteArray):Nat:=x.length
def kP(x:List ByteArray):=dK (aZ x) 1 (aa kO x)
def r6(x:List ByteArray)(y:Nat):Nat:=bA (gl x (0+az y))
def FT(z x y:List Int)(u:List ByteArray)(v:Nat):=bB (av z) (av (x++y)+r6 u v) 1 (aX (aa cB (x++y)) 0 (av (x++y)) (mV (gl u (0+az v)))) (aa cB z)
def tU(x:qj)(y:Nat×Nat):List Int:=x.l++eE (List.take y.fst x.ts)
def mh(x:List Int):=0+av x<=av x
theorem KI:fnBody (Y Tryz.prog) [(200,Ng)] 166 FR fun a=>[(166,[UZ a],[])]:=fnBody.of (p :=
 ∀x:qj,yH (av x.l<10000) (aZ x.ts) 20 (fun y=>bA (gl x.ts y)<=1000) (fun y=>cG x.l (tU x y) x.cap y.snd) x.Rt (fun y=>bW (tU x y) x.l cB) (kP x.ts) (fun y=>∃z:xJ,cG (tU x y) z.l y.snd z.cap/\af (r6 x.ts y.fst)=z.n/\bW z.l (tU x y) cB/\yG z/\∀v:Nat,True->mh (z.l++vi z.n)/\gq (av (z.l++vi z.n)) (r6 x.ts y.fst) 1 v fun w=>iT y fun u=>ag (av (z.l++vi z.n)+r6 x.ts y.fst=av (tU x u)/\w=u.snd)/\pI (aW (aZ x.ts)) (aV (aZ x.ts) x.Rt) (FT (tU x u) z.l (vi z.n) x.ts y.fst/\kP x.ts/\bS u.fst (aZ x.ts) y.fst)) (fun y=>tU x y) (x.l++eE x.ts)) (by kernel_rfl) (by
 delta aG av bB ai bR az aH gq aA cn af aZ bA aF aU bn pI eM bW dK jt aV cG bS iT yH aP aW kP aK bf ag dJ FT bg bx tU mh gi yG r6
 try dsimp -iota -proj only
 rintro⟨l,cap,ts,Rt⟩ ⟨h1,h2,h3⟩;dsimp only at h1 h2 h3 ⊢;have e0:eE (ts.take 0)=[]:=rfl;refine⟨⟨(0,cap),?_⟩,fun x hx=>?_⟩
 ·dsimp only;rw[e0,List.append_nil]
  and_intros<;>first|trivial|with_reducible rfl|exact aj.refl _ _ _|exact Nat.le_refl _|omega
 ·obtain⟨i,c⟩:=x;have hx:i<=ts.length:=hx;have ln:(eE (ts.take i)).length<=i*1010:=kE (fun j hj=>by
   have:=h3 j hj;have:=(iD ((gl ts j).size:Nat)).2;rw[List.length_append,iO];omega) i hx
  dsimp only;simp only[Nat.zero_add,Int.toNat_natCast,bQ];refine⟨fun c1=>?_,fun c1=>?_⟩
  ·have hi:i<ts.length:=by simpa using c1
   have hs:eE (ts.take (i+1))=eE (ts.take i)++(vi (gl ts i).size++HZ (gl ts i)):=flatMap_push hi;have h3:=h3 i hi;have hv:=iD ((gl ts i).size:Nat);refine⟨by omega,by omega,⟨⟨l++eE (ts.take i),c,(gl ts i).size⟩,?_⟩⟩;dsimp only;have hl2:(l++eE (ts.take i)++vi (gl ts i).size).length+(gl ts i).size=(l++eE (ts.take (i+1))).length:=by
    rw[hs];simp only[List.length_append,iO];omega
   have hr2:aj (l++eE (ts.take (i+1))).length 1 (aX (aa cB (l++eE (ts.take i)++vi (gl ts i).size)) 0 (l++eE (ts.take i)++vi (gl ts i).size).length (mV (gl ts i))) (aa cB (l++eE (ts.take (i+1)))):=by
    rw[hs,<- List.append_assoc,<- List.append_assoc];refine .app rfl (.of_eq (by funext i;simp)) (BY _ (by simp only[List.length_append,iO];omega))
   (repeat' (first|apply And.intro|(intro _)|apply Exists.intro ((i+1,_):Nat×Nat)))<;>first|trivial|with_reducible rfl|exact aj.refl _ _ _|exact Nat.le_refl _|exact hr2|exact hl2|exact Nat.le_of_eq hl2.symm|omega|(dsimp only;omega)|(simp only[List.length_append];omega)
  ·have hi:¬i<ts.length:=by simpa using c1
   rw[show eE (ts.take i)=eE ts from tT hi];refine⟨c,?_⟩
   (repeat' (first|apply And.intro|(intro _)))<;>first|trivial|with_reducible rfl|exact aj.refl _ _ _|exact Nat.le_refl _|omega)
def cW(x:aD):List Int:=eE [x.key,x.val]++gI [x.e,if x.gone then 1 else 0]
def dA(xs:List aD):List Int:=xs.flatMap cW
theorem qk{x:aD}(h:fH x=true):x.key.size<=40/\x.val.size<=200/\0<=x.e/\x.e<=1099511627776:=by
 simp only[fH,dM,Bool.and_eq_true,decide_eq_true_eq]at h;exact⟨h.1.1.1.1.2,h.1.1.1.2,h.1.1.2,h.1.2⟩
theorem Ec{x:aD}(h:fH x=true):(cW x).length<=300:=by
 obtain⟨k1,k2,k3,k4⟩:=qk h;have a1:=(iD (x.key.size:Nat)).2;have a2:=(iD (x.val.size:Nat)).2;have a3:=(iD x.e).2;have a4:=(iD (if x.gone then 1 else 0)).2;simp only[cW,eE,gI,List.flatMap_cons,List.flatMap_nil,List.length_append,iO,List.length_nil];omega
structure B0 where
 xs:List aD
 cap:Nat
noncomputable def Ru:cF where
 α:=B0
 β:=Nat
 m:=1
 m':=2
 pre:=fun a=>1<=a.xs.length/\a.xs.length<20/\∀i,i<a.xs.length->fH (gl a.xs i)=true
 args:=fun a=>[.a (.slc 0 0 4 a.xs.length a.cap)]
 hp:=fun _=>[]
 ro:=fun a=>[(0,.arr 40 KG a.xs.length (aa lz a.xs))]
 post:=fun _ _=>True
 res:=fun a c=>.a (.slc 1 0 1 (dA a.xs).length c)
 cS:=fun a c=>je 1 (dA a.xs)
def YZ(a:B0):An:=.flat 3 (Nat×Nat) (fun s x=>((s.new (.arr 5 [.int .u8] (dA (a.xs.take x.1)).length (aa cB (dA (a.xs.take x.1))))).set 3 (.a (.slc s.nx 0 1 (dA (a.xs.take x.1)).length x.2))).int 9 x.1) (fun _ x=>x.1<=a.xs.length) (fun _ x=>a.xs.length-x.1)
def dL(x:Int):Value:=Value.int .i64 x
def bt(x:Int)(y:List Value):List Value:=bP (dL x) y
def bF(x:ByteArray):Value:=Value.string x
def yI(z:Nat)(x:mg)(u:Prop)(v:Int)(w:List Value)(s:Nat->Prop):=gp z (av x.ns) z x.Rs u 1 (aN 1 (bt v w)) (aa encI x.ns) ((av x.l<10000/\av x.ns<100/\∀y:Nat,y<av x.ns->bn (gl x.ns y) 4611686018427387904)/\∀y:Nat,True->s y)
def wu(x:Nat×Nat)(y:B0):List Int:=dA (List.take x.fst y.xs)
def B1(z:Nat×Nat)(y:B0)(w:Int):=∃x:qj,cG (wu z y) x.l z.snd x.cap/\gp 2 (aZ x.ts) 2 x.Rt (bW x.l (wu z y) cB) 1 (aN 1 (bP (bF (gl y.xs (0+az z.fst)).key) (bG (bF (gl y.xs (0+az z.fst)).val)))) (aa kO x.ts) ((av x.l<10000/\aZ x.ts<20/\∀v:Nat,v<aZ x.ts->bA (gl x.ts v)<=1000)/\∀v:Nat,True->∃u:mg,cG (x.l++eE x.ts) u.l v u.cap/\yI 2 u (bW u.l (x.l++eE x.ts) cB) (gl y.xs (0+az z.fst)).e (bt w []) fun s=>FQ z u.l (gI u.ns) (fun t=>wu t y) s y.xs.length y.cap (dK y.xs.length 4 (aa lz y.xs)))
def yJ(x:Nat):Nat->Prop:=fun(y:Nat)=>(0=x/\0=y)/\bg (x=0)
theorem U0:fnBody (Y Tryz.prog) [(96,AE),(165,BZ),(166,FR)] 122 Ru fun a=>[(122,[YZ a],[])]:=fnBody.of (p :=
 ∀x:B0,yH (1<=x.xs.length) x.xs.length 20 (fun y=>aF (fH (gl x.xs y))) (fun y=>0=av (wu y x)/\0=y.snd) x.cap (fun y=>av (wu y x)=0) (dK x.xs.length 4 (aa lz x.xs)) (fun y=>∃z:aD,pK (gl x.xs (0+az y.fst)) z (cH (aG (bC (fH z)) (Exists (yJ (av (dA x.xs)))) (aG (gl x.xs (0+az y.fst)).gone (ai (gl x.xs (0+az y.fst)).e->(B1 y x 1/\B1 y x 1)/\B1 y x 1) (ai (gl x.xs (0+az y.fst)).e->(B1 y x 0/\B1 y x 0)/\B1 y x 0))))) (fun y=>wu y x) (dA x.xs)) (by kernel_rfl) (by
 delta aG av bB ai bt bR az aH aA cn af aZ bA bG aF dL aU bn pI bP eM B1 bW dK jt gp pK aI aV cG bS bF iT yH yI aP aW aK bf ag dJ bg bx gi bC FQ cH yJ wu
 try dsimp -iota -proj only
 rintro⟨xs,cap⟩ ⟨h1,h2,h3⟩;dsimp only at h1 h2 h3 ⊢;have ei:∀k:Nat,List.flatMap cW (xs.take k)=dA (xs.take k):=fun _=>rfl;have ea:List.flatMap cW xs=dA xs:=rfl;simp only[ei,ea];have e0:dA (xs.take 0)=[]:=rfl;refine⟨⟨(0,0),?_⟩,fun x hx=>?_⟩
 ·dsimp only;rw[e0]
  and_intros<;>first|trivial|with_reducible rfl|exact aj.refl _ _ _|exact Nat.le_refl _|omega
 ·obtain⟨i,c⟩:=x;have hx:i<=xs.length:=hx;have ln:(dA (xs.take i)).length<=i*300:=kE (fun j hj=>Ec (h3 j hj)) i hx;dsimp only;simp only[Nat.zero_add,Int.toNat_natCast,bQ];refine⟨fun c1=>?_,fun c1=>?_⟩
  ·have hi:i<xs.length:=by simpa using c1
   have hs:dA (xs.take (i+1))=dA (xs.take i)++cW (gl xs i):=flatMap_push hi;have h3:=h3 i hi;obtain⟨k1,k2,k3,k4⟩:=qk h3;refine⟨by omega,by omega,⟨gl xs i,rfl,rfl,rfl,rfl,trivial,fun _ _=>?_⟩⟩;rw[h3];have eg:∀g:Bool,(gl xs i).gone=g->dA (xs.take i)++eE [(gl xs i).key,(gl xs i).val]++gI [(gl xs i).e,if g then 1 else 0]=dA (xs.take (i+1)):=fun g e=>by
    rw[hs,List.append_assoc];unfold cW;rw[e]
   have tl:(eE [(gl xs i).key,(gl xs i).val]).length<=300:=by
    have a1:=(iD ((gl xs i).key.size:Nat)).2;have a2:=(iD ((gl xs i).val.size:Nat)).2;simp only[eE,List.flatMap_cons,List.flatMap_nil,List.length_append,iO,List.length_nil];omega
   have t2:∀k,k < [(gl xs i).key,(gl xs i).val].length->(gl [(gl xs i).key,(gl xs i).val] k).size<=1000:=fun k hk=>by
    match k,hk with
    |0,_=>show(gl xs i).key.size<=1000;omega
    |1,_=>show(gl xs i).val.size<=1000;omega
   have n2:∀g:Int,0<=g->g<=1->∀k,k < [(gl xs i).e,g].length->0<=gl [(gl xs i).e,g] k/\gl [(gl xs i).e,g] k<4611686018427387904:=fun g g0 g1 k hk=>by
    match k,hk with
    |0,_=>show 0<=(gl xs i).e/\(gl xs i).e<4611686018427387904;exact⟨k3,by omega⟩
    |1,_=>show 0<=g/\g<4611686018427387904;omega
   have r1:aj 2 1 (aN 1 [Value.string (gl xs i).key,Value.string (gl xs i).val]) (aa kO [(gl xs i).key,(gl xs i).val]):=.dQ fun k hk=>by
    match k,hk with
    |0,_=>rfl
    |1,_=>rfl
   have r2:∀g:Int,aj 2 1 (aN 1 [Value.int .i64 (gl xs i).e,Value.int .i64 g]) (aa encI [(gl xs i).e,g]):=fun g=>.dQ fun k hk=>by
    match k,hk with
    |0,_=>rfl
    |1,_=>rfl
   refine⟨fun e=>(by cases e),fun _=>⟨fun eg1=>?_,fun eg1=>?_⟩⟩
   ·have eg:=eg _ eg1;rw[if_pos rfl]at eg;intro _;have main:∀(P:qj->Nat->Prop),True:=fun _=>trivial
    repeat' (first
     |apply And.intro
     |(intro _)
     |apply Exists.intro (qj.mk (dA (xs.take i)) _ [(gl xs i).key,(gl xs i).val] 2)
     |apply Exists.intro (mg.mk (dA (xs.take i)++eE [(gl xs i).key,(gl xs i).val]) _ [(gl xs i).e,1] 2)
     |apply Exists.intro ((i+1,_):Nat×Nat))
    all_goals first|exact cT|exact r1|exact r2 _|exact t2 _ (by assumption)|exact(n2 1 (by omega) (by omega) _ (by assumption)).1|exact(n2 1 (by omega) (by omega) _ (by assumption)).2|omega|(simp only[List.length_append];omega)|(dsimp only;rw[eg];done)|(dsimp only;rw[eg];exact aj.refl _ _ _)|(dsimp only;rw[eg];exact Nat.le_refl _)|skip
   ·have eg:=eg _ eg1;rw[if_neg (by decide)]at eg;intro _
    repeat' (first
     |apply And.intro
     |(intro _)
     |apply Exists.intro (qj.mk (dA (xs.take i)) _ [(gl xs i).key,(gl xs i).val] 2)
     |apply Exists.intro (mg.mk (dA (xs.take i)++eE [(gl xs i).key,(gl xs i).val]) _ [(gl xs i).e,0] 2)
     |apply Exists.intro ((i+1,_):Nat×Nat))
    all_goals first|exact cT|exact r1|exact r2 _|exact t2 _ (by assumption)|exact(n2 0 (by omega) (by omega) _ (by assumption)).1|exact(n2 0 (by omega) (by omega) _ (by assumption)).2|omega|(simp only[List.length_append];omega)|(dsimp only;rw[eg];done)|(dsimp only;rw[eg];exact aj.refl _ _ _)|(dsimp only;rw[eg];exact Nat.le_refl _)|skip
  ·have hi:¬i<xs.length:=by simpa using c1
   rw[show dA (xs.take i)=dA xs from tT hi];refine⟨c,?_⟩
   (repeat' (first|apply And.intro|(intro _)))<;>first|trivial|with_reducible rfl|exact aj.refl _ _ _|exact Nat.le_refl _|omega)
theorem xK:ak (Y Tryz.prog).G.X 86 KH:=aT fF UY trivial
theorem ql:ak (Y Tryz.prog).G.X 96 AE:=aT fF FP ⟨xK,trivial⟩
theorem Rv:ak (Y Tryz.prog).G.X 185 Rq:=aT fF Rr ⟨ql,trivial⟩
theorem yK:ak (Y Tryz.prog).G.X 165 BZ:=aT fF OF ⟨IM,trivial⟩
theorem KJ:ak (Y Tryz.prog).G.X 166 FR:=aT fF KI ⟨IM,trivial⟩
theorem FU:ak (Y Tryz.prog).G.X 122 Ru:=aT fF U0 ⟨ql,yK,KJ,trivial⟩
theorem IP(a b:Nat)(ha:a<2^64)(hb:b<2^64):dy .or .u64 a b=((a ||| b:Nat):Int):=by
 have h:=Nat.or_lt_two_pow ha hb;have e:(BitVec.ofInt 64 (a:Int) ||| BitVec.ofInt 64 (b:Int)).toNat=a ||| b:=by
  rw[BitVec.toNat_or,BitVec.ofInt_natCast,BitVec.ofInt_natCast,BitVec.toNat_ofNat,BitVec.toNat_ofNat,Nat.mod_eq_of_lt ha,Nat.mod_eq_of_lt hb]
 show IntKind.u64.wrap ((BitVec.ofInt 64 (a:Int) ||| BitVec.ofInt 64 (b:Int)).toNat:Int)=_;rw[e];exact eZ (by simp only[bQ];omega)
theorem KK(a:Nat)(ha:a<2^64):dy .and .u64 a 1=((a%2:Nat):Int):=by
 have e:(BitVec.ofInt 64 (a:Int) &&& BitVec.ofInt 64 ((1:Nat):Int)).toNat=a%2:=by
  rw[BitVec.toNat_and,BitVec.ofInt_natCast,BitVec.ofInt_natCast,BitVec.toNat_ofNat,BitVec.toNat_ofNat,Nat.mod_eq_of_lt ha,Nat.mod_eq_of_lt (by decide),Nat.and_one_is_mod]
 show IntKind.u64.wrap ((BitVec.ofInt 64 (a:Int) &&& BitVec.ofInt 64 ((1:Nat):Int)).toNat:Int)=_;rw[e];exact eZ (by simp only[bQ];omega)
theorem WI(c:Nat)(h:c<256):dy .and .u8 c 127=((c%128:Nat):Int):=by
 have h':∀y:Fin 256,dy .and .u8 (y.1:Int) 127=((y.1%128:Nat):Int):=by decide +kernel
 exact h' ⟨c,h⟩
theorem yL:∀(k m u:Nat),u<128^(m+1)->(vf k u).length<=m+1
 |0,_,_,_=>by simp[vf]
 |k+1,m,u,h=>by
  unfold vf;split
  ·simp
  ·cases m with
   |zero=>simp at h;omega
   |succ m =>
    have:=yL k m (u/128) (Nat.div_lt_of_lt_mul (by rw[Nat.mul_comm,<- Nat.pow_succ];exact h));simp only[List.length_cons];omega
theorem Rw:∀(k u i:Nat),u<128^(k+1)->i<(vf k u).length ->
 (i+1<(vf k u).length->128<=u/128^i/\gl (vf k u) i=((u/128^i%128+128:Nat):Int))/\(i+1=(vf k u).length->u/128^i<128/\gl (vf k u) i=((u/128^i:Nat):Int)/\(0<i->0<u/128^i))
 |0,u,i,h,hi=>by
  simp[vf]at hi;subst hi;simp[vf,gl]at h ⊢;omega
 |k+1,u,i,h,hi=>by
  unfold vf at hi ⊢;by_cases hu:u<128
  ·rw[if_pos hu]at hi ⊢;simp at hi;subst hi;simp[gl];omega
  ·rw[if_neg hu]at hi ⊢;cases i with
   |zero =>
    have:=(vg k (u/128)).1;rw[Nat.pow_zero,Nat.div_one];refine⟨fun _=>⟨by omega,rfl⟩,fun hh=>?_⟩;simp only[List.length_cons]at hh;omega
   |succ i =>
    have e:u/128^(i+1)=u/128/128^i:=by rw[Nat.pow_succ,Nat.mul_comm,Nat.div_div_eq_div_mul]
    have hi':i<(vf k (u/128)).length:=by simpa using hi
    obtain⟨h1,h2⟩:=Rw k (u/128) i (Nat.div_lt_of_lt_mul (by rw[Nat.mul_comm,<- Nat.pow_succ];exact h)) hi';have eg:∀x:Int,gl (x::vf k (u/128)) (i+1)=gl (vf k (u/128)) i:=fun x=>by simp[gl]
    rw[e,eg];simp only[List.length_cons,Nat.add_lt_add_iff_right,Nat.add_right_cancel_iff];refine⟨h1,fun hh=>⟨(h2 hh).1,(h2 hh).2.1,fun _=>?_⟩⟩;by_cases h0:0<i
    ·exact(h2 hh).2.2 h0
    ·have:i=0:=by omega
     subst this;simp;omega
theorem U1{U i c:Nat}(hU:U<2^63)(hi:i<=8)(hc:c<256)(hx:c%128=U/128^i%128) :
 dy .or .u64 ((U%128^i:Nat):Int) (uw .u64 (dy .and .u8 (c:Int) 127*2^min (7*(i:Int)).toNat 64))=((U%128^(i+1):Nat):Int):=by
 have e1:(7*(i:Int)).toNat=7*i:=by omega
 have e2:min (7*i) 64=7*i:=by omega
 have e3:(128:Nat)^i=2^(7*i):=by rw[Nat.pow_mul]
 rw[WI c hc,e1,e2,hx,Nat.pow_succ,Nat.mod_mul,e3];have hlt:U%2^(7*i)<2^(7*i):=Nat.mod_lt _ (Nat.pow_pos (by decide));have hp:(2:Nat)^(7*i)<=2^56:=Nat.pow_le_pow_right (by decide) (by omega);obtain⟨x,hx2⟩:∃x,x=U/2^(7*i)%128:=⟨_,rfl⟩
 have hxl:x<128:=by rw[hx2];exact Nat.mod_lt _ (by decide)
 rw[<- hx2];have hb:2^(7*i)*x<2^64:=by
  have:=Nat.mul_le_mul hp (Nat.le_of_lt_succ (show x<127+1 by omega));omega
 have e5:uw .u64 ((x:Int)*2^(7*i))=((2^(7*i)*x:Nat):Int):=by
  have:(x:Int)*2^(7*i)=((2^(7*i)*x:Nat):Int):=by push_cast;rw[Int.mul_comm]
  rw[this];simp only[uw];omega
 rw[e5,IP _ _ (by omega) hb,Nat.or_comm,<- Nat.two_pow_add_eq_or_of_lt hlt,Nat.add_comm]
structure pL where
 l:List Int
 r:Nat
 len:Nat
 cap:Nat
 n:Int
noncomputable def IQ:cF where
 α:=pL
 β:=Unit
 m:=1
 m':=1
 pre:=fun a=>a.r+a.len<=a.l.length/\a.len<100000/\a.len<=a.cap/\0<=a.n/\a.n<4611686018427387904/\(vi a.n).length<=a.len/\∀i,i<(vi a.n).length->gl a.l (a.r+i)=gl (vi a.n) i
 args:=fun a=>[.a (.slc 0 a.r 1 a.len a.cap)]
 hp:=fun _=>[]
 ro:=fun a=>je 0 a.l
 post:=fun _ _=>True
 res:=fun a _=>.lY [.a (.int .i64 a.n),.a (.int .i64 (vi a.n).length),.a (.lit .i64 0)]
 cS:=fun _ _=>[]
def XW(a:pL):An:=.flat 3 Nat (fun s i=>(s.set 5 (.a (.int .u64 ((2*a.n.toNat%128^i:Nat):Int)))).int 11 i) (fun _ i=>i<(vi a.n).length) (fun _ i=>(vi a.n).length-i)
def tV(x:List Int)(z:Nat)(u:List Int)(v:Nat):=av x<=z/\∀y:Nat,y<av x->gl u (v+y)=gl x y
def B2(x:pL)(y:Nat):Int:=dy Go.BinOp.or .u64 (af (2*aU x.n%128^y)) (cN (dy Go.BinOp.and .u8 (gl x.l (x.r+az y)) (127:Int)*2^min (aU ((7:Int)*af y)) 64))
def yM(x z:Nat)(y:Int)(u:List Int)(v:Nat):=x<100000/\x<=z/\(0:Int)<=y/\y<(4611686018427387904:Int)/\tV (vi y) x u v
def yN(x:pL):=x.r+x.len<=av x.l/\yM x.len x.cap x.n x.l x.r
def FV(x:pL)(y:Int):Unit->Prop:=ay ((0:Int)=x.n/\aK (av (vi x.n)) (bg (y=(0:Int))))
def KL(x:pL)(y:Nat)(z:Prop):=aW x.len/\jZ x.r x.len x.cap/\cC 0 0 (aH 0) (jZ x.r x.len x.cap/\bW x.l x.l cB/\y<av (vi x.n)/\z)
def og(x:Int):Int:=uw .i64 x
theorem IS:fnBody (Y Tryz.prog) [] 177 IQ fun a=>[(177,[XW a],[])]:=fnBody.of (p :=
 ∀x:pL,yN x->(∃y:Nat,aK y (aK (2*aU x.n%128^y) (KL x y True)))/\∀y:Nat,y<av (vi x.n)->l8 (af y) x.len (x.r+az y<av x.l/\(jD (gl x.l (x.r+az y))->qA (af y == (9:Int)) (aA 1 (gl x.l (x.r+az y))) (Exists (FV x 1)) (ai ((7:Int)*af y)/\(0:Int)<=7*af y/\aG (aA 127 (gl x.l (x.r+az y))) (dm y fun z=>B2 x y=af (2*aU x.n%128^z)/\KL x z (av (vi x.n)-z<av (vi x.n)-y)) (qA (aA 0 (af y)) (gl x.l (x.r+az y) == (0:Int)) (Exists (FV x 1)) ((0:Int)<=1/\aG (dy .and .u64 (B2 x y) (1:Int) == 1) (aP y/\Exists (ay (dy .xor .i64 (-1:Int) (og (B2 x y/(2:Int)))=x.n/\bx y (av (vi x.n))/\aR (True/\True)))) (aP y/\Exists (ay (og (B2 x y/(2:Int))=x.n/\bx y (av (vi x.n))/\aR (True/\True))))))))) (Exists (FV x 2))) (by kernel_rfl) (by
 delta qA aG av bB cC ai az aH aA cn af aF aU bn jZ bW dm tV B2 ay cN aP aW aK aR bf yN bg bx l8 jD FV KL yM og
 try dsimp -iota -proj only
 rintro⟨l,r,len,cap,n⟩ ⟨h1,h2,h3,h4,h5,h6,h7⟩;dsimp only at *;obtain⟨U,hU⟩:∃U,U=2*n.toNat:=⟨_,rfl⟩
 have hUlt:U<2^63:=by omega
 have hv:vi n=vf 9 U:=by rw[hU];rfl
 have hv0:=vg 9 U
 have hvs := yL 9 8 U (by have : (2 : Nat) ^ 63 = 128 ^ 9 := by decide
                          omega)
 rw[<- hU];rw[hv]at h6 h7 ⊢;refine⟨⟨0,?_⟩,fun i hi=>?_⟩
 ·and_intros<;>first|exact cT|simp[Nat.mod_one]
 ·obtain ⟨b1, b2⟩ := Rw 9 U i (by have : (2 : Nat) ^ 63 ≤ 128 ^ (9 + 1) := by decide
                                  omega) hi
  have hgi:=h7 i hi;simp only[Int.toNat_natCast,bQ,hgi];obtain⟨c,hc,hc1⟩:∃c:Nat,gl (vf 9 U) i=(c:Int)/\c<256:=by
   by_cases hl:i+1<(vf 9 U).length
   ·exact⟨_,(b1 hl).2,by omega⟩
   ·exact⟨_,(b2 (by omega)).2.1,by have:=(b2 (by omega)).1;omega⟩
  have hx:c%128=U/128^i%128:=by
   by_cases hl:i+1<(vf 9 U).length
   ·have:=(b1 hl).2;rw[hc]at this;omega
   ·have:=(b2 (by omega)).2.1;rw[hc]at this;omega
  have hor:=U1 (c:=c) hUlt (by omega:i<=8) hc1 hx;rw[hc]at b1 b2;simp only[hc,hor];have last:¬(127<(c:Int))->i+1=(vf 9 U).length/\U%128^(i+1)=U/\(0<i->0<c):=fun h=>by
   have hl:¬(i+1<(vf 9 U).length):=fun hl=>by have:=(b1 hl).2;omega
   obtain⟨g1,g2,g3⟩:=b2 (by omega);refine⟨by omega,Nat.mod_eq_of_lt ?_,fun h0=>by have:=g3 h0;omega⟩;have:=(Nat.div_lt_iff_lt_mul (Nat.pow_pos (n:=i) (show 0<128 by decide))).1 g1;rw[Nat.pow_succ,Nat.mul_comm];exact this
  have more:127<(c:Int)->i+1<(vf 9 U).length:=fun h=>by
   rcases Nat.lt_or_ge (i+1) (vf 9 U).length with hl|hl
   ·exact hl
   ·have:=b2 (by omega);omega
  have fin:∀w,w=U->(dy .and .u64 (w:Int) 1 == 1)=true->False:=fun w hw h=>by
   rw[hw,KK U (by omega)]at h;simp at h;omega
  have fin2:∀w:Nat,w=U->uw .i64 ((w:Int)/2)=n:=fun w hw=>by
   subst hw;show IntKind.i64.wrap ((w:Int)/2)=n;rw[eZ (by simp only[bQ];omega)];omega
  have h9:((i:Int) == 9)=false:=by simp;omega
  rw[h9];refine⟨fun c1=>⟨by omega,by omega,fun _=>⟨fun e=>(by cases e),fun _=>⟨by omega,by omega,fun c2=>?_,fun c2=>⟨fun c3=>?_,fun c3=>?_⟩⟩⟩⟩,fun c1=>?_⟩
  ·have hm:=more (by simpa using c2);refine⟨by omega,i+1,?_⟩
   and_intros<;>first|exact cT
  ·obtain⟨l1,l2,l3⟩:=last (by simpa using c2);have l3:=l3 (by simpa using c3);refine⟨fun e=>?_,fun _=>⟨by omega,fun e=>(fin _ l2 e).elim,fun e=>⟨by omega,(),?_⟩⟩⟩
   ·simp at e;omega
   ·and_intros<;>first|exact cT|exact fin2 _ l2
  ·obtain⟨l1,l2,l3⟩:=last (by simpa using c2);refine⟨by omega,fun e=>(fin _ l2 e).elim,fun e=>⟨by omega,(),?_⟩⟩
   and_intros<;>first|exact cT|exact fin2 _ l2
  ·simp at c1;omega)
theorem FW(l:List Int)(r n:Nat):iw (aa cB l) r n=List.foldl (fun(s:ByteArray) (n:Int)=>s.push (UInt8.ofNat n.toNat)) ByteArray.empty (List.map (fun(i:Nat)=>gl l (r+i)) (List.range n)):=rfl
theorem foldl_push:∀(l:List UInt8) (b:ByteArray),List.foldl (fun(s:ByteArray) (n:Int)=>s.push (UInt8.ofNat n.toNat)) b (l.map fun x=>(x.toNat:Int))=⟨b.data++l.toArray⟩
 |[],b=>by simp
 |x::l,b=>by
  rw[List.map_cons,List.foldl_cons,foldl_push l];congr 1;simp[ByteArray.push]
theorem Ni{t:ByteArray}{n:Nat}{f:Nat->Int}(hn:n=t.size)(h:∀i,i<t.size->f i=gl (HZ t) i):List.foldl (fun(s:ByteArray) (n:Int)=>s.push (UInt8.ofNat n.toNat)) ByteArray.empty (List.map f (List.range n))=t:=by
 have e:List.map f (List.range n)=HZ t:=by
  refine List.ext_getElem (by rw[List.length_map,List.length_range,iO,hn]) fun i h1 h2=>?_;rw[List.getElem_map,List.getElem_range,h i (by rw[iO]at h2;exact h2),bN h2]
 rw[e,HZ,foldl_push];cases t with
 |mk d=>show ByteArray.mk (#[]++d.toList.toArray)=ByteArray.mk d;simp
theorem aY{α:Type}[Inhabited α]{l m:List α}{i:Nat}:gl (l++m) (l.length+i)=gl m i:=by
 simp[gl,List.getD_eq_getElem?_getD,List.getElem?_append_right]
structure pM where
 l:List Int
 r:Nat
 len:Nat
 cap:Nat
 t:ByteArray
noncomputable def KM:cF where
 α:=pM
 β:=Unit
 m:=1
 m':=1
 pre:=fun a=>a.r+a.len<=a.l.length/\a.len<100000/\a.len<=a.cap/\a.t.size<=1000/\(vi a.t.size++HZ a.t).length<=a.len/\∀i,i<(vi a.t.size++HZ a.t).length->gl a.l (a.r+i)=gl (vi a.t.size++HZ a.t) i
 args:=fun a=>[.a (.slc 0 a.r 1 a.len a.cap)]
 hp:=fun _=>[]
 ro:=fun a=>je 0 a.l
 post:=fun _ _=>True
 res:=fun a _=>.lY [.a (.str a.t),.a (.int .i64 (vi a.t.size++HZ a.t).length),.a (.lit .i64 0)]
 cS:=fun _ _=>[]
def dZ(x y:Int):=(0:Int)<=x/\x<=y
def iY(x:pM):Int:=af (av (vi (af (bA x.t))++HZ x.t))
def dh(x:Int)(y:Nat):=dZ x (af y)
def yO(x y:Int)(z:Nat)(u:Prop):=dh (x+y) z/\dh x (aU (x+y))/\u
def FX(x:pM):=x.r+x.len<=av x.l/\x.len<100000/\x.len<=x.cap/\bA x.t<=1000/\tV (vi (af (bA x.t))++HZ x.t) x.len x.l x.r
def yP(x:pL):Int:=af (av (vi x.n))+x.n
theorem OG:fnBody (Y Tryz.prog) [(177,IQ)] 235 KM fun _=>[]:=fnBody.of (p :=
 ∀y:pM,FX y->∃x:pL,(y.r=x.r/\y.len=x.len/\y.cap=x.cap)/\bW x.l y.l cB/\yN x/\aI (gU (aA x.n 0) (Exists (ay (cV=y.t/\(0:Int)=iY y/\bg ((1:Int)=0)))) (aA 65536 x.n) (ai (af y.len-af (av (vi x.n)))/\aG (aA (af y.len-af (av (vi x.n))) x.n) (Exists (ay (cV=y.t/\(0:Int)=iY y/\bg ((2:Int)=0)))) (ai (yP x)/\yO (af (av (vi x.n))) x.n y.cap (y.r+az (av (vi x.n))+(aU (yP x)-az (av (vi x.n)))<=av y.l/\ai (yP x)/\Exists (ay (iw (aa cB y.l) (y.r+az (av (vi x.n))) (aU (yP x)-az (av (vi x.n)))=y.t/\yP x=iY y/\aR (True/\True)))))))) (by kernel_rfl) (by
 delta aG av bB ai az aH aA af bA cV dZ aF aU bW gU aI iY tV ay aR yN bg yO FX dh yP yM
 try dsimp -iota -proj only
 rintro⟨l,r,len,cap,t⟩ ⟨h1,h2,h3,h4,h5,h6⟩;dsimp only at *;have hv:=iD (t.size:Nat);rw[List.length_append,iO]at h5 h6 ⊢;have g1:∀i,i<(vi (t.size:Nat)).length->gl l (r+i)=gl (vi (t.size:Nat)) i:=fun i hi=>by rw[h6 i (by omega),bJ hi]
 refine⟨⟨l,r,len,cap,t.size⟩,?_⟩
 (repeat' (first|apply And.intro|(intro _)|apply Exists.intro ()))<;>first|exact cT|(exact g1 _ (by assumption))|(exfalso;(try dsimp only at *);(try simp only[decide_eq_true_eq,decide_eq_false_iff_not,Bool.false_eq_true]at *);omega)|skip
 refine Ni (by dsimp only;omega) fun i hi=>?_;dsimp only;show gl l (r+(((vi (t.size:Nat)).length:Int)).toNat+i)=_;rw[show r+(((vi (t.size:Nat)).length:Int)).toNat+i=r+((vi (t.size:Nat)).length+i)by omega,h6 _ (by omega),aY])
theorem IT:ak (Y Tryz.prog).G.X 177 IQ:=aT fF IS trivial
theorem OH:ak (Y Tryz.prog).G.X 235 KM:=aT fF OG ⟨IT,trivial⟩
structure DF where
 l:List Int
 r:Nat
 cap:Nat
 x:aD
noncomputable def U2:cF where
 α:=DF
 β:=Nat
 m:=1
 m':=2
 pre:=fun a=>fH a.x=true/\a.r+(cW a.x).length<=a.l.length/\(cW a.x).length<=a.cap/\∀i,i<(cW a.x).length->gl a.l (a.r+i)=gl (cW a.x) i
 args:=fun a=>[.a (.slc 0 a.r 1 (cW a.x).length a.cap)]
 hp:=fun _=>[]
 ro:=fun a=>je 0 a.l
 post:=fun _ _=>True
 res:=fun a c=>.lY [.a (.slc 1 0 4 1 c),.a (.lit .i64 0)]
 cS:=fun a _=>[(1,.arr 40 KG 1 (aa lz [a.x]))]
def Y0(a:DF):An:=.flat 3 (Nat×Nat) (fun s k=>((s.new (.arr 40 KG k.1 (aa lz ([a.x].take k.1)))).set 4 (.a (.slc s.nx 0 4 k.1 k.2))).int 5 ((k.1*(cW a.x).length:Nat):Int)) (fun _ k=>k.1<=1) (fun _ k=>1-k.1)
def ia(x y z u v:Nat)(w s:Nat->Nat->Value)(t f:Prop):=ag (x=y/\z=u)/\bB y x v w s/\t/\f
def lH(y:Nat×Nat)(z:DF):Int:=af (y.fst*av (cW z.x))
def qB(x:Int)(y:pL):Int:=x+af (av (vi y.n))
def KN(t:Int)(y:DF)(u:Nat×Nat)(v w:pM)(s:Nat)(f:pL->Prop):=dh t (av (cW y.x)-aU (lH u y+iY v+iY w))/\∃z:pL,(y.r+aU (lH u y+iY v+iY w)+s=z.r/\av (cW y.x)-aU (lH u y+iY v+iY w)-s=z.len/\y.cap-aU (lH u y+iY v+iY w)-s=z.cap)/\bW z.l y.l cB/\yN z/\aI (ai (qB t z)/\f z)
def KO(y:DF)(u:Nat)(z:pM)(v:Nat×Nat)(w:pM)(s t:Prop):=(y.r+u=z.r/\av (cW y.x)-u=z.len/\y.cap-u=z.cap)/\bW z.l y.l cB/\FX z/\aI (ai (lH v y+iY w)/\s/\t)
def mZ(x y:Int)(z:Prop):=ai x/\ai (x+y)/\z
def B3(z u:Nat)(v:Nat->Nat->Value)(w:B0->Prop):B0->Prop:=fun(x:B0)=>ia z x.xs.length u x.cap 4 v (aa lz x.xs) (1<=x.xs.length/\x.xs.length<20/\∀y:Nat,y<x.xs.length->aF (fH (gl x.xs y))) (∀y:Nat,True->w x)
def B4(y:Nat×Nat)(z:DF):Nat->Nat->Value:=aa lz (List.take y.fst [z.x])
def FY(y:DF):=aF (fH y.x)/\y.r+av (cW y.x)<=av y.l/\tV (cW y.x) y.cap y.l y.r
theorem U3:fnBody (Y Tryz.prog) [(177,IQ),(235,KM),(122,Ru)] 210 U2 fun a=>[(210,[Y0 a],[])]:=fnBody.of (p :=
 ∀y:DF,FY y->(∃z:Nat×Nat,aK (z.fst*av (cW y.x)) ((0=z.fst/\0=z.snd)/\aR (jZ y.r (av (cW y.x)) y.cap/\z.fst=0/\bW y.l y.l cB/\z.fst<=1/\True)))/\∀z:Nat×Nat,z.fst<=1->bf (lH z y) (av (cW y.x)) (dh (lH z y) (av (cW y.x))/\∃u:pM,KO y (az (z.fst*av (cW y.x))) u z u (dh (lH z y+iY u) (av (cW y.x))) (∃v:pM,KO y (aU (lH z y+iY u)) v z u (ai (lH z y+iY u+iY v)) (dh (lH z y+iY u+iY v) (av (cW y.x))/\bn 0 2/\KN 0 y z u v 0 fun s=>bn 1 2/\KN (qB 0 s) y z u v (aU (qB 0 s)) fun w=>ai w.n->gH z.fst 48 z.snd fun g=>mZ (iY u+iY v) (qB (qB 0 s) w) (ai (lH z y+(iY u+iY v+qB (qB 0 s) w))/\∃f:Nat×Nat,lH z y+(iY u+iY v+qB (qB 0 s) w)=lH f y/\ag (z.fst+1=f.fst/\g=f.snd)/\aR (jZ y.r (av (cW y.x)) y.cap/\iS f.fst z.fst 4 (B4 z y) (kK (bF u.t) (bF v.t) (bt s.n (bG (dR (w.n == (1:Int)))))) (B4 f y)/\bW y.l y.l cB/\bS f.fst 1 z.fst))))) (Exists (B3 z.fst z.snd (B4 z y) fun u=>∀v:Bool,(aF v->av (dA u.xs)=0)->aG v (∃w:Nat,(0=1/\0=w)/\(1:Int)=0/\bg (1=0)) (mh (dA u.xs)/\y.r+av (cW y.x)<=av y.l/\aG (bC (jF (iw (aa cB (dA u.xs)) 0 (av (dA u.xs))) (iw (aa cB y.l) y.r (av (cW y.x))))) (∃w:Nat,(0=1 /\
 0=w)/\(1:Int)=0/\bg (1=0)) (∃w:Nat,gp z.fst 1 z.snd w (aH 0) 4 (B4 z y) (aa lz [y.x]) (True/\True)))))) (by kernel_rfl) (by
 delta aG av bB ai bt az aH gq aA af bA dZ bG aF dL aU bn kK jZ bP bW gp aI iY iS gH bS tV bF ia KN KO aK aR bf yN lH ag mZ bg B3 B4 mh FX bC qB dh jF dR jE yM FY
 try dsimp -iota -proj only
 rintro⟨l,r,cap,x⟩ ⟨h1,h2,h3,h4⟩;dsimp only at *;obtain⟨k1,k2,k3,k4⟩:=qk h1;obtain⟨P,hP⟩:∃P,P=vi (x.key.size:Nat)++HZ x.key:=⟨_,rfl⟩
 obtain⟨Q,hQ⟩:∃Q,Q=vi (x.val.size:Nat)++HZ x.val:=⟨_,rfl⟩
 obtain⟨E,hE⟩:∃E,E=vi x.e:=⟨_,rfl⟩
 obtain⟨g,hg⟩:∃g:Int,g=if x.gone then 1 else 0:=⟨_,rfl⟩
 obtain⟨G,hG⟩:∃G,G=vi g:=⟨_,rfl⟩
 have hg0:0<=g/\g<=1:=by rw[hg];split<;>omega
 have hI:cW x=P++(Q++(E++G)):=by
  simp only[cW,eE,gI,List.flatMap_cons,List.flatMap_nil,List.append_nil,hP,hQ,hE,hG,hg,List.append_assoc]
 have hPl:1<=P.length:=by have:=iD (x.key.size:Nat);rw[hP,List.length_append];omega
 have hlen:=Ec h1;have hL:(cW x).length=P.length+(Q.length+(E.length+G.length)):=by rw[hI];simp only[List.length_append]
 have fP:∀i,i<P.length->gl l (r+i)=gl P i:=fun i hi=>by rw[h4 i (by omega),hI,bJ hi]
 have fQ:∀i,i<Q.length->gl l (r+P.length+i)=gl Q i:=fun i hi=>by
  rw[Nat.add_assoc,h4 _ (by omega),hI,aY,bJ hi]
 have fE:∀i,i<E.length->gl l (r+(P.length+Q.length)+i)=gl E i:=fun i hi=>by
  rw[Nat.add_assoc,h4 _ (by omega),hI,Nat.add_assoc,aY,aY,bJ hi]
 have fG:∀i,i<G.length->gl l (r+(P.length+Q.length)+E.length+i)=gl G i:=fun i hi=>by
  rw[Nat.add_assoc,Nat.add_assoc,h4 _ (by omega),hI,Nat.add_assoc,aY,aY,aY]
 have hall:List.map (fun(i:Nat)=>gl l (r+i)) (List.range (cW x).length)=List.map (fun(i:Nat)=>gl (cW x) (0+i)) (List.range (cW x).length):=by
  refine List.map_congr_left fun i hi=>?_;rw[h4 i (List.mem_range.1 hi),Nat.zero_add]
 obtain⟨L,hLL⟩:∃L,(cW x).length=L:=⟨_,rfl⟩
 rw[hLL]at h2 h3 h4 hlen hL hall ⊢;refine⟨⟨(0,0),?_⟩,fun k hk=>?_⟩
 ·dsimp only
  and_intros<;>first|exact cT|simp
 ·obtain⟨k,c⟩:=k;have hk:k<=1:=hk;dsimp only;refine⟨fun c1=>?_,fun c1=>?_⟩
  ·have hk0:k=0:=by
    rcases Nat.lt_or_ge k 1 with h|h
    ·omega
    ·have:k=1:=by omega
     subst this;simp at c1
   subst hk0;simp only[Nat.zero_mul,Int.natCast_zero,Int.zero_add,Int.toNat_zero,Nat.add_zero,Nat.sub_zero];refine⟨by omega,⟨pM.mk l r L cap x.key,?_⟩⟩;simp only[<- hP]
   and_intros<;>first|exact cT|exact fP|skip
   intro _ _;refine⟨by simp only[bQ];omega,by omega,⟨pM.mk l (r+P.length) (L-P.length) (cap-P.length) x.val,?_⟩⟩;simp only[<- hQ]
   and_intros<;>first|exact cT|exact fQ|skip
   intro _ _
   and_intros<;>first|exact cT|(simp only[bQ];omega)|skip
   refine⟨pL.mk l (r+(P.length+Q.length)) (L-(P.length+Q.length)) (cap-(P.length+Q.length)) x.e,?_⟩;simp only[<- hE]
   and_intros<;>first|exact cT|exact fE|skip
   intro _ _
   and_intros<;>first|exact cT|(simp only[bQ];omega)|skip
   refine⟨pL.mk l (r+(P.length+Q.length)+E.length) (L-(P.length+Q.length)-E.length) (cap-(P.length+Q.length)-E.length) g,?_⟩;simp only[<- hG]
   and_intros<;>first|exact cT|exact fG|skip
   intro _ _
   (repeat' (first|apply And.intro|(intro _)))<;>first|exact cT|(simp only[bQ];omega)|skip
   apply Exists.intro ((1,_):Nat×Nat);have hgo:(g == 1)=x.gone:=by
    rw[hg];cases x.gone<;>rfl
   have hr:aj 1 4 (aX (aa lz (List.take 0 [x])) 0 0 fun(i j:Nat)=>aN 4 [Value.string x.key,Value.string x.val,Value.int .i64 x.e,Value.bool (g == 1)] (0+i) j) (aa lz (List.take 1 [x])):=.dQ fun i hi=>by
    have:i=0:=by omega
    subst this;rw[hgo];rfl
   and_intros<;>first|exact cT|exact hr|skip
  ·have hk1:k=1:=by
    rcases Nat.lt_or_ge k 1 with h|h
    ·have:k=0:=by omega
     subst this;simp at c1;omega
    ·omega
   subst hk1;have hx1:List.take 1 [x]=[x]:=rfl;have hI1:dA [x]=cW x:=by simp[dA]
   rw[hx1];refine⟨⟨[x],c⟩,?_⟩;simp only[FW,hI1,hLL,hall];have hm:∀i,i < [x].length->fH (gl [x] i)=true:=fun i hi=>by
    have:i=0:=by simp at hi;omega
    subst this;exact h1
   (repeat' (first|apply And.intro|(intro _)|apply Exists.intro (c:Nat)))<;>first|exact cT|(exact hm _ (by assumption))|(exfalso;simp at *;done)|(exfalso;clear h4 hall fP fQ fE fG;grind)|skip)
theorem Nj:ak (Y Tryz.prog).G.X 210 U2:=aT fF U3 ⟨IT,OH,FU,trivial⟩
end Go.Proofs.YtfjgoonelcaggaaGreat
namespace Go.Sx
section
def U4(f:A->S->(A->S->Prop)->Prop):Prop:=∀x s K,f x s K->∀w0 M ρ w,ρ.n=s.nx->ah w0 M ρ s.hp w->∀u,x.b8 ρ u->Io w0 M ρ w s u K
theorem Nk(n:Nat):U4 (Ip n):=AT n
def Rx(ty:Nat)(ks:List CK)(x:A)(s:S)(K:A->S->Prop):Prop :=
 match x with
 |.val v=>n9 s fun tp wr H=>bif wr then ∃l c rows,jU H v ks l c rows /\
  K (.slc s.nx 0 ks.length l c) ⟨s.nt,s.fr,⟨s.nx,true,.arr ty ks l rows⟩::⟨s.nx+1,true,.ct (aJ H v)⟩::s.hp.del tp,s.nx+2,s.kp,s.rt⟩else False
 |_=>False
theorem Ry(ty:Nat)(ks:List CK):U4 (Rx ty ks):=by
 intro x s K h w0 M ρ w hρ hh u hu;unfold Rx at h;split at h<;>try exact h.elim
 rename_i v;replace h:=oO h;obtain⟨tp,wr,H,h,hf⟩:=h;cases wr with
 |false=>exact h.elim
 |true =>
  simp only[cond_true]at h;obtain⟨l,c,rows,hat,hK⟩:=h;obtain⟨rfl,_⟩:=hu;have hcp:=(hh.gz _ (aB.bh hf)).ch;simp only at hcp;rcases hat with⟨rfl,rfl,rfl⟩ | ⟨b,lo,o,cs,rfl,⟨hlc,hcm⟩,hH,hfit,hrows⟩
  ·have hsp:=hh.Fi hf ⟨0,0,0,fun _=>False⟩ ⟨0,0,0,fun x=>(ρ.pl tp).fp x⟩ (fun x hx=>hx.elim) (fun x hx=>hx) (fun x hx _=>hx)
    (c1:=.arr ty ks 0 rows) (c2:=.ct H) (fun ρ'=>.inl ⟨rfl,rfl,fun _ h=>h⟩) (fun ρ' x lo' cs' hx=>hcp x lo' cs' hx)
   rw[hρ]at hsp;exact⟨_,_,_,hK,rfl,rfl,by show ρ.n+1+1=s.nx+2;rw[hρ],(ρ.dP _).trans ((ρ.ext _).dP _),⟨by show s.nx<ρ.n+2;omega,Nat.le_refl _,by unfold aq;omega,.inl ⟨rfl,rfl,rfl⟩⟩,hsp⟩
  ·obtain⟨hfp,vs,vty,fr,hb,hvl,hvs,hun⟩:=hcp b lo cs hH;have hsp:=hh.Fi hf ⟨b,lo+o,c,fun x=>x=b⟩ ⟨0,0,0,fun x=>(ρ.pl tp).fp x/\x≠b⟩ (fun x hx=>by simp only at hx;subst hx;exact hfp) (fun x hx=>hx.1) (fun x hx hx'=>hx'.2 hx)
    (c1:=.arr ty ks l rows) (c2:=.ct (rP H b)) (fun ρ'=>.inr ⟨vs,vty,fr,hb,by simp only;omega,hlc,fun x h1 h2=>hun x (by simp only at h1;omega) (by simp only at h2;omega),fun _=>Iff.rfl,fun i hi j k hk=>by
     obtain⟨g1,g2⟩:=hrows.at_ i hi j k hk;refine⟨?_,g2⟩;have hlt:o+i*ks.length+j<cs.length:=(List.getElem?_eq_some_iff.1 g1).1;rw[<- g1,<- hvs _ hlt];congr 1;simp only;omega⟩)
    (fun ρ' x lo' cs' hx=>by
     by_cases hxb:x=b
     ·subst hxb;rw[zU]at hx;cases hx
     ·rw[yp hxb]at hx;obtain⟨g1,g2⟩:=hcp x lo' cs' hx;exact⟨⟨g1,hxb⟩,g2⟩)
   rw[hρ]at hsp;refine⟨_,_,_,hK,rfl,rfl,by show ρ.n+1+1=s.nx+2;rw[hρ],(ρ.dP _).trans ((ρ.ext _).dP _),⟨by show s.nx<ρ.n+2;omega,hlc,hcm,.inr ⟨_,rfl,fun _=>?_⟩⟩,hsp⟩;have hpl:((ρ.ext ⟨b,lo+o,c,fun x=>x=b⟩).ext ⟨0,0,0,fun x=>(ρ.pl tp).fp x/\x≠b⟩).pl s.nx=⟨b,lo+o,c,fun x=>x=b⟩:=by
    rw[<- hρ,(ρ.ext _).uW _ (Nat.lt_succ_self _)];exact ρ.di _
   rw[hpl];simp
def FZ(f:A->S->(A->S->Prop)->Prop)(slot:Nat)(s:S)(K:S->Prop):Prop :=
 match look s.fr slot with
 |.a x=>f x s fun y s'=>K (s'.set slot (.a y))
 |_=>False
theorem Ed{f:A->S->(A->S->Prop)->Prop}(hf:U4 f)(slot:Nat):∀s K,FZ f slot s K->wk s K:=by
 intro s K h w0 M ρ a w hs;unfold FZ at h;split at h<;>try exact h.elim
 rename_i x hx;have hr:=hs.frame slot;rw[hx]at hr;obtain⟨y,s',ρ',hK,h1,h2,h3,h4,h5,h6⟩:=hf x s _ h w0 M ρ w hs.n hs.heap _ hr;refine⟨_,ρ',hK,h4,⟨hs.defers,by rw[hs.size];exact h1.symm,h3,?_,h6⟩⟩;intro j;show(look ((slot,.a y)::s'.fr) j).b8 ρ' _;simp only[look];by_cases hj:slot=j
 ·subst hj;simp only[dg,cond_true];exact h5
 ·simp only[eC hj,cond_false];rw[h2];exact(hs.frame j).mono h4
def KP(f:A->S->(A->S->Prop)->Prop)(slot cell:Nat)(s:S)(K:S->Prop):Prop :=
 match look s.fr slot with
 |.a (.ptr t _ _ _)=>match s.hp.find t with
  |some (_,.obj _ cs)=>match cs[cell]? with
   |some x=>f x s fun y s'=>match s'.hp.find t with
    |some (true,.obj ty cs')=>bif Nat.blt cell cs'.length then K (s'.put (s'.hp.s9 t (.obj ty (cs'.set cell y))))else False
    |_=>False
   |none=>False
  |_=>False
 |_=>False
theorem OI{f:A->S->(A->S->Prop)->Prop}(hf:U4 f)(slot cell:Nat):∀s K,KP f slot cell s K->wk s K:=by
 intro s K h w0 M ρ a w hs;unfold KP at h;split at h<;>try exact h.elim
 rename_i t r e c hsl;split at h<;>try exact h.elim
 rename_i m0 ty0 cs hfd;split at h<;>try exact h.elim
 rename_i x hx;have he:=hs.heap.gz _ (aB.bh hfd);obtain⟨vs,fr,a1,a2,⟨us,xs,a3,a4⟩,a5⟩:=he.ch;obtain⟨u,hu,hru⟩:=a4.get hx;obtain⟨y,s',ρ',hK,h1,h2,h3,h4,h5,h6⟩:=hf x s _ h w0 M ρ w hs.n hs.heap u hru;split at hK<;>try exact hK.elim
 rename_i ty1 cs' hf';cases hl:Nat.blt cell cs'.length with
 |false=>rw[hl]at hK;exact hK.elim
 |true =>
  rw[hl]at hK;simp only[cond_true]at hK;have hl:=Nat.le_of_ble_eq_true hl;have htn:t<ρ.n:=he.tag;have hpl:ρ'.pl t=ρ.pl t:=h4.pl t htn;have h7:=h6.s9 hf' (en.refl _ w) (ch':=.obj ty1 (cs'.set cell y)) (by
   obtain⟨vs',fr',b1,b2,⟨us',xs',b3,b4⟩,b5⟩:=(h6.gz _ (aB.bh hf')).ch;refine⟨vs',fr',b1,b2,⟨us',xs',b3,?_⟩,b5⟩;simp only[hpl]at b1;rw[a1]at b1;have hvv:vs=vs':=by injection b1 with b1;injection b1
   subst hvv;have hlu:=b4.length;have e1:us'[cell]? = some u:=by
    have g1:vs.toList[cell]? = us'[cell]?:=by rw[b3,List.getElem?_append_left (by omega)]
    have g2:vs.toList[cell]? = us[cell]?:=by
     obtain⟨hlt,_⟩:=List.getElem?_eq_some_iff.1 hu;rw[a3,List.getElem?_append_left hlt]
    rw[<- g1,g2,hu]
   have:=b4.set cell (v:=u) (x:=y) h5;have e:us'.set cell u=us':=by
    obtain⟨hlt,he⟩:=List.getElem?_eq_some_iff.1 e1;subst he;exact List.set_getElem_self hlt
   rwa[e]at this)
  exact⟨_,ρ',hK,h4,⟨hs.defers,by rw[hs.size];exact h1.symm,h3,by show dx ρ' s'.fr _;rw[h2];exact hs.frame.mono h4,h7⟩⟩
def An.Nl(key slot:Nat)(next:LH):An:=.view key (FZ (Ip 3) slot) (Ed (Nk 3) slot) next
def An.U5(key slot cell:Nat)(next:LH):An:=.view key (KP (Ip 3) slot cell) (OI (Nk 3) slot cell) next
def An.Rz(key slot:Nat)(ty:Nat)(ks:List CK)(next:LH):An:=.view key (FZ (Rx ty ks) slot) (Ed (Ry ty ks) slot) next
end
end Go.Sx
namespace Go.Proofs.YtfjgoonelcaggaaGreat
open Go.Sx
structure RecM where
 pos:Int
 body:List Int
 deriving Inhabited
structure dw where
 gen:Int
 base:Int
 run:Int
 buf:List Int
 aO:List RecM
 deriving Inhabited
structure mm where
 b:Nat
 bv:Value
 rv:Value
 vs:List Value
def qZ:List CK:=[.int .i64,.deep]
def tW(rs:List RecM)(vs:List Value):Nat->Nat->Value:=fun i j=>if j=0 then .int .i64 (gl rs i).pos else vs.getD i undef
def cR(g:dw)(bv rv:Value):List Value:=[.int .i64 g.gen,.int .i64 g.base,.int .i64 g.run,bv,rv]
def fe(H:PH)(v:Value)(l:List Int):Prop:=∃c,jU H v [.int .u8] l.length c (aa cB l)
structure nI(H:PH)(y:mm)(g:dw):Prop where
 cell:H y.b=some (0,cR g y.bv y.rv)
 Az:bQ .i64 g.gen/\bQ .i64 g.base/\bQ .i64 g.run
 buf:fe H y.bv g.buf
 aO:∃c,jU H y.rv qZ g.aO.length c (tW g.aO y.vs)
 len:y.vs.length=g.aO.length
 body:∀i,i<g.aO.length->fe H (y.vs.getD i undef) (gl g.aO i).body
def fm:Value->List Nat
 |.slice (some ⟨b,_,_⟩) _ _=>[b]
 |_=>[]
def br(y:mm):List Nat:=y.b::(fm y.bv++(fm y.rv++y.vs.flatMap fm))
theorem iE{H H':PH}{v:Value}{ks:List CK}{l c:Nat}{rows:Nat->Nat->Value}(h:jU H v ks l c rows)(e:∀x∈fm v,H' x=H x):jU H' v ks l c rows:=by
 rcases h with h | ⟨b,lo,o,cs,rfl,h1,h2,h3,h4⟩
 ·exact .inl h
 ·exact .inr ⟨b,lo,o,cs,rfl,h1,by rw[e b (by simp[fm,eL]),h2],h3,h4⟩
theorem fe.frame{H H':PH}{v:Value}{l:List Int}(h:fe H v l)(e:∀x∈fm v,H' x=H x):fe H' v l:=by
 obtain⟨c,h⟩:=h;exact⟨c,iE h e⟩
theorem nI.frame{H H':PH}{y:mm}{g:dw}(h:nI H y g)(e:∀x∈br y,H' x=H x):nI H' y g:=by
 have e1:∀x∈fm y.bv,H' x=H x:=fun x hx=>e x (by simp[br,hx]);have e2:∀x∈fm y.rv,H' x=H x:=fun x hx=>e x (by simp[br,hx]);obtain⟨c,hr⟩:=h.aO;refine⟨by rw[e y.b (by simp[br]),h.cell],h.Az,h.buf.frame e1,⟨c,iE hr e2⟩,h.len,fun i hi=>(h.body i hi).frame fun x hx=>e x ?_⟩;simp only[br,List.mem_cons,List.mem_append,List.mem_flatMap];refine .inr (.inr (.inr ⟨_,?_,hx⟩));have:=h.len;rw[List.getD_eq_getElem?_getD,List.getElem?_eq_getElem (by omega)];exact List.getElem_mem _
theorem mo{H:PH}{v:Value}{ks:List CK}{l c:Nat}{rows:Nat->Nat->Value}(h:jU H v ks l c rows):∀x∈fm v,H x≠none:=by
 rcases h with⟨rfl,_⟩ | ⟨b,lo,o,cs,rfl,h1,h2,h3,h4⟩
 ·intro x hx;cases hx
 ·intro x hx;simp only[fm,eL,List.mem_singleton]at hx;rw[hx,h2];simp
theorem nI.dom{H:PH}{y:mm}{g:dw}(h:nI H y g):∀x∈br y,H x≠none:=by
 intro x hx;simp only[br,List.mem_cons,List.mem_append,List.mem_flatMap]at hx;rcases hx with rfl|hx|hx | ⟨v,hv,hx⟩
 ·rw[h.cell];simp
 ·obtain⟨c,hb⟩:=h.buf;exact mo hb x hx
 ·obtain⟨c,hr⟩:=h.aO;exact mo hr x hx
 ·obtain⟨i,hi,rfl⟩:=List.getElem_of_mem hv;have hl:=h.len;obtain⟨c,hb⟩:=h.body i (by omega);rw[List.getD_eq_getElem?_getD,List.getElem?_eq_getElem hi]at hb;exact mo hb x hx
theorem eR{H:PH}{v:Value}{ks:List CK}{l c:Nat}{rows:Nat->Nat->Value}(h:jU H v ks l c rows):cU v=l/\jq v=c/\l<=c/\c<=aq/\Fb v/\(∃a,v = .slice a l c)/\v.oneCell'=true:=by
 rcases h with⟨rfl,rfl,rfl⟩ | ⟨b,lo,o,cs,rfl,⟨h1,h1'⟩,h2,h3,h4⟩
 ·exact⟨rfl,rfl,Nat.le_refl _,Nat.zero_le _,.inl rfl,⟨_,rfl⟩,rfl⟩
 ·exact⟨rfl,rfl,h1,h1',.inr ⟨_,_,_,_,rfl,h1,h1'⟩,⟨_,rfl⟩,rfl⟩
theorem IU{H:PH}{v:Value}{ks:List CK}{l c:Nat}{rows:Nat->Nat->Value}(hk:1<=ks.length)(h:jU H v ks l c rows){sz a e m:Nat}(hs:sz=ks.length)(h1:a<=e)(h2:e<=l)(h2':e<=m)(h3:m<=c):jU H (mP sz v a e m) ks (e-a) (m-a) (fun i=>rows (a+i)):=by
 subst hs;rcases h with⟨rfl,rfl,rfl⟩ | ⟨b,lo,o,cs,rfl,⟨g1,g1'⟩,g2,g3,g4⟩
 ·exact .inl ⟨rfl,by omega,by omega⟩
 ·rw[yq];by_cases hm:m=a
  ·subst hm
   refine .inr ⟨b, lo, o, cs, by rw [if_pos rfl], ⟨by omega, by omega⟩, g2, by have : (m - m) * ks.length = 0 := by rw [Nat.sub_self, Nat.zero_mul]
                                                                               have:=Nat.le_add_right o (c*ks.length);omega,⟨fun i hi=>by omega⟩⟩
  ·rw[if_neg hm];have e1:(m-a)*ks.length+a*ks.length=m*ks.length:=by rw[<- Nat.add_mul,Nat.sub_add_cancel (by omega)]
   have e2:=Nat.mul_le_mul_right ks.length h3;refine .inr ⟨b,lo,o+a*ks.length,cs,by rw[Nat.add_assoc],⟨by omega,by omega⟩,g2,by omega,⟨fun i hi j k hj=>?_⟩⟩;have:=g4.at_ (a+i) (by omega) j k hj;rw[Nat.add_mul]at this;rwa[show o+a*ks.length+i*ks.length+j=o+(a*ks.length+i*ks.length)+j by omega]
theorem fe.len{H:PH}{v:Value}{l:List Int}(h:fe H v l):cU v=l.length/\Fb v/\l.length<=aq/\l.length<=jq v/\(∃a c,v = .slice a l.length c)/\v.oneCell'=true:=by
 obtain⟨c,h⟩:=h;obtain⟨h1,h2,h3,h4,h5,⟨a,h6⟩,h7⟩:=eR h;exact⟨h1,h5,by omega,by omega,⟨a,c,h6⟩,h7⟩
theorem fe.cut{H:PH}{v:Value}{l:List Int}(h:fe H v l){a e:Nat}(h1:a<=e)(h2:e<=l.length):jU H (mP 1 v a e (jq v)) [.int .u8] (e-a) (jq v-a) (fun i=>aa cB l (a+i)):=by
 obtain⟨c,h⟩:=h;obtain⟨_,g2,g3,_⟩:=eR h;rw[g2];exact IU (Nat.le_refl _) h rfl h1 h2 (by omega) (Nat.le_refl _)
theorem kg{n:Nat}{f:Nat->Int}{rows:Nat->Nat->Value}(h:∀i,i<n->rows i 0 = .int .u8 (f i)):aj n 1 rows (bK f):=⟨fun i hi j hj=>by
 have:j=0:=by omega
 subst this;exact h i hi⟩
theorem qm{rows:Nat->Nat->Value}{k i:Nat}{v:Value}:jT rows k 0 [v] i 0=if i=k then v else rows i 0:=by
 rw[A0];simp
def H6(v:Int)(len k:Nat):Int:=uw .u8 (v/2^(8*(len-1-k)))
def bY(i:Nat):Nat:=48*i-6
def ki(i:Nat):Nat:=if i=0 then 42 else 48
def sV(n i:Nat):Nat:=min (ki i) (n-min (bY i) n)
def qa(g:dw)(i:Nat)(run:Int)(j:Nat):Int :=
 if j<4 then 0 else if j<10 then H6 (uw .u64 g.gen) 6 (j-4)else if j<14 then H6 (uw .u64 run) 4 (j-10)else if j<15 then(i:Int)else if j<16 then(sV g.buf.length i:Int)
 else if i=0 then(if j<22 then H6 (uw .u64 g.base) 6 (j-16)else if j-22<sV g.buf.length i then gl g.buf (j-22)else 0)
 else if j-16<sV g.buf.length i then gl g.buf (bY i+(j-16))else 0
def vw(f:Nat->Int):Int:=dy .xor .u32 4294967295 (qi (fun k=>f (4+k)) 60)
def oL(g:dw)(i:Nat)(run:Int)(j:Nat):Int:=if j<4 then H6 (vw (qa g i run)) 4 j else qa g i run j
theorem wv{f:Nat->Int}{r len:Nat}{v:Int}(h:len<=8):tc (bK f) r len v len=bK fun i=>if r<=i/\i<r+len then H6 v len (i-r)else f i:=by
 funext i j;simp only[tc,bK];by_cases hi:r<=i/\i<r+len
 ·rw[if_pos (by omega),if_pos hi];simp only[H6];rw[show min (8*(r+len-1-i)) 64=8*(len-1-(i-r))by omega]
 ·rw[if_neg (by omega),if_neg hi]
structure RA where
 H:PH
 y:mm
 g:dw
 i:Nat
 run:Int
noncomputable def F0:cF where
 α:=RA
 β:=Unit
 m:=1
 m':=2
 pre:=fun a=>nI a.H a.y a.g/\a.i<8/\a.g.buf.length<=378
 args:=fun a=>[.a (.val (pv a.y.b 0)),.a (.int .i64 a.i),.a (.int .i64 a.run)]
 hp:=fun _=>[]
 ro:=fun a=>[(0,.ct a.H)]
 post:=fun _ _=>True
 res:=fun _ _=>.a (.slc 1 0 1 64 64)
 cS:=fun a _=>[(1,.arr 5 [.int .u8] 64 (bK (oL a.g a.i a.run)))]
def iA(w s t:Nat)(f:Nat->Option (Nat×List Value))(g:Value->Prop)(h i:Nat->List Value->Prop):=∃z u x:Nat,∃y:List Value,pv w (s+t)=pv z (u+x)/\f z=some (u,y)/\((∃v:Value,y[x]? = some v/\g v)/\h x y)/\i x y
def gu(s:Value)(t:Nat)(f:Nat->Option (Nat×List Value))(g:Value->Prop)(h:Nat->List Value->Prop):Nat->Prop:=fun(y:Nat)=>∃z:Nat,s=pv y z/\∃u v:Nat,pv y z=pv u v/\iA u v t (fun x=>f x) (fun x=>g x) (fun x w=>True) fun x w=>h x w
def ga(y:Value):Option Go.Addr->Prop:=fun(z:Option Go.Addr)=>∃x u:Nat,y=Value.slice z x u/\x<=aq
def dS(x:Value):=aF x.oneCell'
def jf(y:Value):=∃x:Int,y=dL x/\ai x
def ic(z:Value)(u:Nat)(v:Nat->Option (Nat×List Value))(w:Nat->List Value->Prop):Nat->Prop:=gu z u (fun x=>v x) (fun x=>jf x) fun x y=>ai (jC (aQ y x))->w x y
def wz(y z u:Nat)(w:Int)(s:Nat)(t:Nat->Nat->Value)(f:lV->Prop):=∃x:lV,(y=x.r/\z=x.len/\u=x.cap)/\w=x.v/\bB x.n s 1 t x.rows/\(x.r+x.len<=x.n/\x.len<=8)/\aI (f x)
def F5(u:Prop)(y:lV)(z:Nat->Nat->Value)(v:lV->Prop):=pI u (dZ 4 64) (∃x:yF,bR 1 (1=x.c)/\(4=x.r/\60=x.len/\60=x.cap)/\bB x.n y.n 1 z x.rows/\(x.r+x.len<=x.n/\x.len<100000)/\aI (wz 0 4 64 (tN x x.len) y.n z fun w=>v w))
def jG(u:PH)(v:Value)(w:CK)(s:List CK)(t:Nat->Nat->(Nat->Nat->Value)->Prop):Nat->Prop:=fun(x:Nat)=>∃y:Nat,∃z:Nat->Nat->Value,jU u v (w::s) x y z/\t x y z
def mq(z:Value)(u:Nat)(v:Nat->Option (Nat×List Value))(w:Nat->List Value->Prop):Nat->Prop:=gu z u (fun x=>v x) (fun x=>dS x) fun x y=>Exists (ga (aQ y x))/\w x y
def r7(x:List Value)(y z u:Nat):Value:=mP 1 (aQ x y) z u (jq (aQ x y))
def KQ(x:RA)(w:lV)(j:Nat->Nat->Value)(k t:Nat):Nat->Prop:=gu (pv x.y.b 0) 3 (fun z=>x.H z) (fun z=>dS z) fun z u=>Exists (mq (pv x.y.b 0) 3 (fun v=>x.H v) fun v f=>oe (af x.i*(48:Int)) 6 (Fb (aQ u z)/\dh (qz 0 (af x.i*(48:Int)-6) (af (cU (aQ f v)))) (cU (aQ u z))/\64<=w.n/\Exists (jG x.H (r7 u z (aU (qz 0 (af x.i*(48:Int)-6) (af (cU (aQ f v))))) (cU (aQ u z))) (CK.int .u8) [] fun h m l=>bn 15 64/\F5 (15<w.n) w (jT (oa j k (min h t) l) 15 0 (tR (min h t))) fun s=>Exists (ay (bR 64 (64=64)/\bg (bB 64 s.n 1 (kN s s.len) (bK (oL x.g x.i x.run))))))))
def r8:Nat->Nat->Value:=fun(y x:Nat)=>aQ (bG (fk 0)) x
theorem KR:fnBody (Y Tryz.prog) [(196,BR),(203,Rn)] 229 F0 fun _=>[]:=fnBody.of (p :=
 ∀x:RA,nI x.H x.y x.g/\x.i<8/\av x.g.buf<=378->lF 64 64 (dZ 10 64/\dZ 4 10/\Exists (ic (pv x.y.b 0) 0 (fun u=>x.H u) fun u t=>wz 4 6 60 (cN (jC (aQ t u))) 64 r8 fun v=>dZ 14 64/\dZ 10 14/\wz 10 4 54 (cN x.run) v.n (kN v v.len) fun z=>bn 14 64/\14<z.n/\dZ 16 64/\aG (af x.i == (0:Int)) (dZ 6 48/\Exists (ic (pv x.y.b 0) 1 (fun w=>x.H w) fun w f=>wz 16 6 48 (cN (jC (aQ f w))) z.n (jT (kN z z.len) 14 0 (tR x.i)) fun s=>dZ 6 48/\Exists (KQ x s (kN s s.len) 22 42))) (Exists (KQ x z (jT (kN z z.len) 14 0 (tR x.i)) 16 48))))) (by kernel_rfl) (by
 delta aG aQ av bB gu ai bR oF af iA dZ bG fk aF dL aU bn pI bP ga aI dS ic KQ F5 jG lF ay cN wz tN kN ag r8 bg oe qz mq tR dh jf tM r7
 try dsimp -iota -proj only
 rintro⟨H,y,g,i,run⟩ ⟨hs,hi,hlen⟩;dsimp only at hs hi hlen ⊢;have hc:=hs.cell;obtain⟨r1,r2,r3⟩:=hs.Az;obtain⟨b1,b2,b3,b4,⟨ba,bc,b5⟩,b6⟩:=hs.buf.len;obtain⟨S,hS⟩:∃S,S=min (bY i) g.buf.length:=⟨_,rfl⟩
 have hmm:(bif false then max (bif true then max 0 ((i:Int)*48-6)else min 0 ((i:Int)*48-6)) (g.buf.length:Int)else min (bif true then max 0 ((i:Int)*48-6)else min 0 ((i:Int)*48-6)) (g.buf.length:Int))=(S:Int):=by
  simp only[cond_true,cond_false,bY]at *;omega
 have hcut:=hs.buf.cut (a:=S) (e:=g.buf.length) (by omega) (Nat.le_refl _)
 repeat refine kJ ?_
 refine⟨_,_,rfl,?_⟩;refine⟨_,_,rfl,?_⟩;refine⟨_,0,_,_,rfl,hc,?_⟩;refine⟨⟨⟨_,rfl,_,rfl,r1⟩,trivial⟩,fun _=>⟨⟨4,6,60,uw .u64 g.gen,64,bK fun _=>0⟩,?_⟩⟩
 and_intros<;>first|exact cT|rfl|exact kg fun _ _=>rfl|skip
 intro _ _;obtain⟨F1,hF1⟩:∃F:Nat->Int,F=fun k=>if 4<=k/\k<4+6 then H6 (uw .u64 g.gen) 6 (k-4)else 0:=⟨_,rfl⟩
 obtain⟨F2,hF2⟩:∃F:Nat->Int,F=fun k=>if 10<=k/\k<10+4 then H6 (uw .u64 run) 4 (k-10)else F1 k:=⟨_,rfl⟩
 rw[show tc (bK fun _=>0) 4 6 (uw .u64 g.gen) 6=bK F1 by rw[wv (by omega),hF1]]
 repeat refine kJ ?_
 refine⟨⟨10,4,54,uw .u64 run,64,bK F1⟩,?_⟩
 and_intros<;>first|exact cT|rfl|skip
 intro _ _;rw[show tc (bK F1) 10 4 (uw .u64 run) 4=bK F2 by rw[wv (by omega),hF2]];have hi8:uw .u8 (i:Int)=i:=by simp only[uw];omega
 have hsec:∀(F:Nat->Int),(∀k,k<64->F k=qa g i run k)->∀k,k<64->(if 0<=k/\k<0+4 then H6 (dy .xor .u32 4294967295 (qi (fun i_1=>u8 (bK (qa g i run)) (4+i_1)) 60)) 4 (k-0)else qa g i run k)=oL g i run k:=by
  intro F hF k hk;simp only[oL,vw,Nat.zero_add,Nat.sub_zero,Nat.zero_le,true_and];rfl
 repeat refine kJ ?_
 rw[hi8];refine⟨fun c1=>?_,fun c1=>?_⟩
 ·have hi0:i=0:=by simpa using c1
  subst hi0;obtain⟨F3,hF3⟩:∃F:Nat->Int,F=fun k=>if k=14 then 0 else F2 k:=⟨_,rfl⟩
  obtain⟨F4,hF4⟩:∃F:Nat->Int,F=fun k=>if 16<=k/\k<16+6 then H6 (uw .u64 g.base) 6 (k-16)else F3 k:=⟨_,rfl⟩
  repeat refine kJ ?_
  refine⟨_,_,rfl,?_⟩;refine⟨_,_,rfl,?_⟩;refine⟨_,0,_,_,rfl,hc,?_⟩;refine⟨⟨⟨_,rfl,_,rfl,r2⟩,trivial⟩,fun _=>⟨⟨16,6,48,uw .u64 g.base,64,bK F3⟩,?_⟩⟩
  and_intros<;>first|exact cT|rfl|exact kg (fun k hk=>by rw[qm,hF3];simp only[bK];split<;>rfl)|skip
  intro _ _;rw[show tc (bK F3) 16 6 (uw .u64 g.base) 6=bK F4 by rw[wv (by omega),hF4]]
  repeat refine kJ ?_
  refine⟨_,_,rfl,?_⟩;refine⟨_,_,rfl,?_⟩;refine⟨_,0,_,_,rfl,hc,?_⟩;refine⟨⟨⟨_,rfl,b6⟩,trivial⟩,?_⟩;refine⟨_,_,rfl,?_⟩;refine⟨_,_,rfl,?_⟩;refine⟨_,0,_,_,rfl,hc,?_⟩;refine⟨⟨⟨_,rfl,b6⟩,trivial⟩,⟨ba,_,bc,b5,b3⟩,?_⟩;simp only[cR,List.getD_cons_succ,List.getD_cons_zero,b1,hmm,Int.toNat_natCast]
  repeat refine kJ ?_
  refine⟨_,_,_,hcut,?_⟩
  repeat refine kJ ?_
  obtain⟨U,hU⟩:∃U,U=sV g.buf.length 0:=⟨_,rfl⟩
  have hU2:min (g.buf.length-S) 42=U:=by rw[hU,hS];simp only[sV,ki,bY,if_true];omega
  have hUs:(uw .u8 ((min (g.buf.length-S) 42:Nat):Int))=(U:Int):=by rw[hU2];simp only[uw];omega
  have hS0:S=0:=by rw[hS];simp[bY]
  have hfin:aj 64 1 (jT (oa (bK F4) 22 (min (g.buf.length-S) 42) fun i=>aa cB g.buf (S+i)) 15 0 [Value.int .u8 (uw .u8 ((min (g.buf.length-S) 42:Nat):Int))]) (bK (qa g 0 run)):=by
   rw[hUs,hU2,hS0];refine kg fun k hk=>?_;rw[qm];simp only[oa,bK,aa,cB,List.getD_cons_zero,Nat.zero_add,hF4,hF3,hF2,hF1,qa,<- hU,if_true]
   (repeat' split)<;>first|rfl|(exfalso;omega)|skip
  refine⟨yF.mk 1 4 60 60 64 (bK (qa g 0 run)),?_⟩
  and_intros<;>first|exact cT|exact hfin|skip
  intro _ _;refine⟨lV.mk 0 4 64 (dy .xor .u32 4294967295 (qi (fun i_1=>u8 (bK (qa g 0 run)) (4+i_1)) 60)) 64 (bK (qa g 0 run)),?_⟩
  and_intros<;>first|exact cT|exact hfin|skip
  intro _ _;refine⟨(),?_⟩;have hlast:aj 64 1 (tc (bK (qa g 0 run)) 0 4 (dy .xor .u32 4294967295 (qi (fun i_1=>u8 (bK (qa g 0 run)) (4+i_1)) 60)) 4) (bK (oL g 0 run)):=by
   rw[wv (by omega)];exact kg fun k hk=>by simp only[bK];rw[hsec _ (fun _ _=>rfl) k hk]
  and_intros<;>first|exact cT|exact hlast|skip
 ·have hi0:i≠0:=by simpa using c1
  repeat refine kJ ?_
  refine⟨_,_,rfl,?_⟩;refine⟨_,_,rfl,?_⟩;refine⟨_,0,_,_,rfl,hc,?_⟩;refine⟨⟨⟨_,rfl,b6⟩,trivial⟩,?_⟩;refine⟨_,_,rfl,?_⟩;refine⟨_,_,rfl,?_⟩;refine⟨_,0,_,_,rfl,hc,?_⟩;refine⟨⟨⟨_,rfl,b6⟩,trivial⟩,⟨ba,_,bc,b5,b3⟩,?_⟩;simp only[cR,List.getD_cons_succ,List.getD_cons_zero,b1,hmm,Int.toNat_natCast]
  repeat refine kJ ?_
  refine⟨_,_,_,hcut,?_⟩
  repeat refine kJ ?_
  obtain⟨U,hU⟩:∃U,U=sV g.buf.length i:=⟨_,rfl⟩
  have hU2:min (g.buf.length-S) 48=U:=by rw[hU,hS];simp only[sV,ki,if_neg hi0];omega
  have hUs:(uw .u8 ((min (g.buf.length-S) 48:Nat):Int))=(U:Int):=by rw[hU2];simp only[uw];omega
  have hfin:aj 64 1 (jT (oa (jT (bK F2) 14 0 [Value.int .u8 (i:Int)]) 16 (min (g.buf.length-S) 48) fun i=>aa cB g.buf (S+i)) 15 0 [Value.int .u8 (uw .u8 ((min (g.buf.length-S) 48:Nat):Int))]) (bK (qa g i run)):=by
   have hSU:0<U->S=bY i:=by rw[hU,hS];simp only[sV];omega
   rw[hUs,hU2];refine kg fun k hk=>?_;rw[qm];simp only[oa,bK,aa,cB,List.getD_cons_zero,qm,hF2,hF1,qa,<- hU,if_neg hi0]
   (repeat' split)<;>first|rfl|(exfalso;omega)|(rw[hSU (by omega)];done)|skip
  refine⟨yF.mk 1 4 60 60 64 (bK (qa g i run)),?_⟩
  and_intros<;>first|exact cT|exact hfin|skip
  intro _ _;refine⟨lV.mk 0 4 64 (dy .xor .u32 4294967295 (qi (fun i_1=>u8 (bK (qa g i run)) (4+i_1)) 60)) 64 (bK (qa g i run)),?_⟩
  and_intros<;>first|exact cT|exact hfin|skip
  intro _ _;refine⟨(),?_⟩;have hlast:aj 64 1 (tc (bK (qa g i run)) 0 4 (dy .xor .u32 4294967295 (qi (fun i_1=>u8 (bK (qa g i run)) (4+i_1)) 60)) 4) (bK (oL g i run)):=by
   rw[wv (by omega)];exact kg fun k hk=>by simp only[bK];rw[hsec _ (fun _ _=>rfl) k hk]
  and_intros<;>first|exact cT|exact hlast|skip)
theorem KS:ak (Y Tryz.prog).G.X 229 F0:=aT fF KR ⟨AX,FH,trivial⟩
structure bL where
 from_:Nat
 au:Nat
 l:List dw
 next:Int
 run:Int
 fresh:Bool
 deriving Inhabited
structure gT where
 lv:Value
 ys:List mm
def Y3(t:Nat)(L:bL)(lv:Value):List A:=[.ptr t 0 0 0,.int .i64 L.from_,.int .i64 L.au,.val lv,.int .i64 L.next,.int .i64 L.run,.bool L.fresh]
@[reducible] def tf(a b:bL)(v w:Value)(p:Prop):Prop:=(↑a.from_:Int)=(↑b.from_:Int)/\(↑a.au:Int)=(↑b.au:Int)/\v=w/\a.next=b.next/\a.run=b.run/\a.fresh=b.fresh/\p
def fI(t:Nat)(L:bL)(lv:Value):Chunk:=.obj 254 (Y3 t L lv)
def jN(L:bL)(g:dw)(i:Nat):Nat:=L.from_+(g.gen-1).toNat%L.au*8+i
structure r9 where
 H:PH
 y:mm
 g:dw
 i:Nat
 L:bL
 lv:Value
 d:bw
noncomputable def F6:cF where
 α:=r9
 β:=Unit
 m:=4
 m':=4
 pre:=fun a=>nI a.H a.y a.g/\a.i<8/\a.g.buf.length<=378/\1<=a.g.gen/\3<=a.L.au/\a.L.au<=200/\a.L.from_+a.L.au*8<=a.d.n/\a.d.n<100000/\a.d.calls<1000000000000
 args:=fun a=>[.a (.ptr 0 0 0 0),.a (.val (pv a.y.b 0)),.a (.int .i64 a.i)]
 hp:=fun a=>gn 1 2 a.d
 ro:=fun a=>[(0,fI 1 a.L a.lv),(3,.ct a.H)]
 post:=fun _ _=>True
 res:=fun _ _=>.a (.lit .i64 0)
 cS:=fun a _=>gn 1 2 (fW a.d (jN a.L a.g a.i) 64 (oL a.g a.i a.L.run))
def wA(x:KE)(y:bw)(z:Nat)(u:Nat->Nat->Value)(v:Prop):=(0=x.r/\64=x.len/\64=x.cap)/\fV y x.d (bB x.n z 1 u (bK x.src)/\tP x/\aI v)
def yQ(x:r9):=nI x.H x.y x.g/\x.i<8/\av x.g.buf<=378/\(1:Int)<=x.g.gen/\3<=x.L.au/\x.L.au<=200/\x.L.from_+x.L.au*8<=x.d.n/\kf x.d
def bu(x y:Nat):=af x=af y
def yR(x:r9):bw:=fW x.d (jN x.L x.g x.i) 64 (oL x.g x.i x.L.run)
def kj(x y:Nat):=pv x 0=pv y 0
def F7(x:bL)(y:Int)(z:Nat)(u:Prop):=ai (af x.from_)->ai (y*(8:Int))/\mZ (af x.from_+y*(8:Int)) (af z) u
theorem OJ:fnBody (Y Tryz.prog) [(229,F0),(81,oR)] 198 F6 fun _=>[]:=fnBody.of (p :=
 ∀x:r9,yQ x->Exists (ic (pv x.y.b 0) 0 (fun u=>x.H u) fun u v=>ai (jC (aQ v u)-(1:Int))/\(ai (af x.L.au)->af x.L.au≠(0:Int)/\F7 x.L ((jC (aQ v u)-(1:Int)).tmod (af x.L.au)) x.i (ai x.L.run->∃z:RA,kj x.y.b z.y.b/\bu x.i z.i/\x.L.run=z.run/\x.H=z.H/\(nI z.H z.y z.g/\z.i<8/\av z.g.buf<=378)/\aI (∃w:KE,ag (af x.L.from_+(jC (aQ v u)-(1:Int)).tmod (af x.L.au)*(8:Int)+af x.i=af w.i/\wA w x.d 64 (bK (oL z.g z.i z.run)) (Exists (ay (aR (fV (lG w) (yR x) (True/\True))))))))))) (by kernel_rfl) (by
 delta aQ av bB gu ai aH af iA dL aI ic kf lG wA ay yQ aR ag mZ tP bu yR kj F7 jf
 try dsimp -iota -proj only
 rintro⟨H,y,g,i,L,lv,d⟩ ⟨hs,hi,hlen,hg,s1,s2,h3,h4,h5⟩;dsimp only at *;have hc:=hs.cell;obtain⟨r1,r2,r3⟩:=hs.Az;have hm:(g.gen-1).tmod (L.au:Int)=(((g.gen-1).toNat%L.au:Nat):Int):=by
  rw[Int.tmod_eq_emod_of_nonneg (by omega),Int.natCast_emod];congr 1;omega
 have hml:(g.gen-1).toNat%L.au<L.au:=Nat.mod_lt _ (by omega);have hsn:((L.from_:Int)+(((g.gen-1).toNat%L.au:Nat):Int)*8+i)=(jN L g i:Nat):=by simp only[jN];omega
 have hlt:jN L g i<d.n:=by simp only[jN];omega
 refine⟨_,_,rfl,?_⟩;refine⟨_,_,rfl,?_⟩;refine⟨_,0,_,_,rfl,hc,?_⟩;refine⟨⟨⟨_,rfl,_,rfl,r1⟩,trivial⟩,fun _=>?_⟩;simp only[cR,List.getD_cons_zero,jC,hm];refine⟨by simp only[bQ]at *;omega,fun _=>⟨by omega,fun _=>⟨by simp only[bQ];omega,by simp only[bQ];omega,by simp only[bQ];omega,fun _=>?_⟩⟩⟩;rw[hsn];refine⟨RA.mk H y g i L.run,?_⟩
 and_intros<;>first|exact cT|skip
 intro _ _;refine⟨KE.mk d (jN L g i) 0 64 64 64 (oL g i L.run),?_⟩;simp only[Nat.zero_add]
 (repeat' (first|apply And.intro|(intro _)|apply Exists.intro ()))<;>first|exact cT|skip)
theorem Ee:ak (Y Tryz.prog).G.X 198 F6:=aT fF OJ ⟨KS,oK,trivial⟩
instance:Inhabited mm:=⟨⟨0,undef,undef,[]⟩⟩
def yS(ys:List mm):Nat->Nat->Value:=fun i _=>pv (gl ys i).b 0
structure bT(H:PH)(y:gT)(L:bL):Prop where
 H7:∃c,jU H y.lv [.deep] L.l.length c (yS y.ys)
 len:y.ys.length=L.l.length
 seg:∀i,i<L.l.length->nI H (gl y.ys i) (gl L.l i)
 nd:(fm y.lv++y.ys.flatMap br).Nodup
def bq(y:gT):List Nat:=fm y.lv++y.ys.flatMap br
theorem bT.at_{H:PH}{y:gT}{L:bL}(h:bT H y L){i:Nat}(hi:i<L.l.length):∃b lo o c cs,y.lv=eL b (lo+o) L.l.length c/\H b=some (lo,cs)/\cs[o+i*1]? = some (pv (gl y.ys i).b 0)/\cs.getD (o+i*1) (Value.tuple #[])=pv (gl y.ys i).b 0:=by
 obtain⟨c,h⟩:=h.H7;rcases h with⟨_,h0,_⟩ | ⟨b,lo,o,cs,h1,h2,h3,h4,h5⟩
 ·omega
 ·have:=(h5.at_ i hi 0 .deep rfl).1;exact⟨b,lo,o,c,cs,h1,h3,this,by rw[List.getD_eq_getElem?_getD,show cs[o+i*1]? = some (pv (gl y.ys i).b 0)from this];rfl⟩
theorem bT.qC{H:PH}{y:gT}{L:bL}(h:bT H y L):cU y.lv=L.l.length/\Fb y.lv/\(∃a c,y.lv = .slice a L.l.length c)/\L.l.length<=aq/\y.lv.oneCell'=true:=by
 obtain⟨c,h⟩:=h.H7;obtain⟨h1,h2,h3,h4,h5,⟨a,h6⟩,h7⟩:=eR h;exact⟨h1,h5,⟨a,c,h6⟩,by omega,h7⟩
def bk(L:bL):dw:=⟨(match L.l.getLast? with|some g=>g.gen+1|none=>1),L.next,0,[],[]⟩
theorem kn{H:PH}{v:Value}{x:Nat}(h:x∉fm v):aJ H v x=H x:=by
 unfold aJ;split
 ·rename_i b o p l c;exact yp (fun e=>h (by simp[fm,e]))
 ·rfl
theorem vh{ys:List mm}{i x:Nat}(hi:i<ys.length)(hx:x∈br (gl ys i)):x∈ys.flatMap br:=by
 rw[bN hi]at hx;exact List.mem_flatMap.2 ⟨_,List.getElem_mem _,hx⟩
theorem RB{ys:List mm}{x:Nat}(hx:x∈ys.flatMap br):∃i,i<ys.length/\x∈br (gl ys i):=by
 obtain⟨y,hy,hx⟩:=List.mem_flatMap.1 hx;obtain⟨i,hi,rfl⟩:=List.getElem_of_mem hy;exact⟨i,hi,by rw[bN hi];exact hx⟩
theorem bT.dom{H:PH}{y:gT}{L:bL}(h:bT H y L):∀x∈bq y,H x≠none:=by
 intro x hx;rcases List.mem_append.1 hx with hx|hx
 ·obtain⟨c,hl⟩:=h.H7;exact mo hl x hx
 ·obtain⟨i,hi,hx⟩:=RB hx;exact(h.seg i (by rw[<- h.len];exact hi)).dom x hx
theorem bT.frame{H H':PH}{y:gT}{L:bL}(h:bT H y L)(e:∀x∈bq y,H' x=H x):bT H' y L:=by
 obtain⟨c,hl⟩:=h.H7;refine⟨⟨c,iE hl fun x hx=>e x (List.mem_append_left _ hx)⟩,h.len,fun i hi=>(h.seg i hi).frame fun x hx=>e x (List.mem_append_right _ (vh (by rw[h.len];exact hi) hx)),h.nd⟩
theorem ko{α:Type}[Inhabited α]{l:List α}{x:α}{i:Nat}(h:i<l.length+1):gl (l++[x]) i=if i<l.length then gl l i else x:=by
 by_cases hi:i<l.length
 ·rw[if_pos hi,bJ hi]
 ·rw[if_neg hi,show i=l.length+0 by omega,aY];rfl
def newL(b:Nat):mm:=⟨b,.slice none 0 0,.slice none 0 0,[]⟩
theorem Ef{H:PH}{b:Nat}{L:bL}(h1:bQ .i64 L.next)(h2:bQ .i64 (bk L).gen):nI (aM H b 0 (cR (bk L) (.slice none 0 0) (.slice none 0 0))) (newL b) (bk L) :=
 ⟨dB ..,⟨h2,h1,by show bQ .i64 0;simp only[bQ];omega⟩,⟨0,.inl ⟨rfl,rfl,rfl⟩⟩,⟨0,.inl ⟨rfl,rfl,rfl⟩⟩,rfl,fun i hi=>absurd hi (Nat.not_lt_zero i)⟩
structure fC(H:PH)(y:mm)(g:dw):Prop where
 at_:nI H y g
 nd:(br y).Nodup
theorem F8{H:PH}{y:gT}{L:bL}{sl:mm}{g:dw}{b' lo cap:Nat}{cs:List Value}{R:Nat->Nat->Value}(hl:bT H y L)(hs:fC H sl g)(hd:∀x∈bq y,x∉br sl)
 (hb':aJ H y.lv b'=none) (hcs:cs.length=cap*1) (hc:L.l.length+1<=cap) (hc2:cap<=aq) (hp:zV cs 0 [.deep] (L.l.length+1) R)
 (hR:∀i,i<L.l.length+1->R i 0=yS (y.ys++[sl]) i 0) {L':bL} (hL':L'.l=L.l++[g]) :
 bT (aM (aJ H y.lv) b' lo cs) ⟨eL b' lo (L.l.length+1) cap,y.ys++[sl]⟩ L' /\
 ∀x,H x≠none->x∉bq y->x∉br sl->aM (aJ H y.lv) b' lo cs x=H x/\x∉bq ⟨eL b' lo (L.l.length+1) cap,y.ys++[sl]⟩:=by
 have hdm:=hl.dom;have hds:=hs.at_.dom;have hnd:=hl.nd;rw[List.nodup_append]at hnd;obtain⟨n1,n2,n3⟩:=hnd;have hFl:∀x∈y.ys.flatMap br,x∉fm y.lv:=fun x hx e=>n3 x e x hx rfl;have hSl:∀x∈br sl,x∉fm y.lv:=fun x hx e=>hd x (List.mem_append_left _ e) hx;have hSF:∀x∈br sl,x∉y.ys.flatMap br:=fun x hx e=>hd x (List.mem_append_right _ e) hx;have hm:∀x,x∉fm y.lv->aJ H y.lv x=H x:=fun x hx=>kn hx;have hbF:b'∉y.ys.flatMap br:=fun e=>by
  have:=hdm b' (List.mem_append_right _ e);rw[hm b' (hFl b' e)]at hb';exact this hb'
 have hbS:b'∉br sl:=fun e=>by
  have:=hds b' e;rw[hm b' (hSl b' e)]at hb';exact this hb'
 have hfp:bq ⟨eL b' lo (L.l.length+1) cap,y.ys++[sl]⟩=b'::(y.ys.flatMap br++br sl):=by
  simp[bq,fm,eL]
 have hlen:L'.l.length=L.l.length+1:=by rw[hL'];simp
 refine⟨⟨⟨cap,.inr ⟨b',lo,0,cs,?_,⟨?_,hc2⟩,dB ..,by simp[hcs],?_⟩⟩,?_,?_,?_⟩,?_⟩
 ·rw[hlen];simp only[Nat.add_zero]
 ·rw[hlen];exact hc
 ·rw[hlen];refine⟨fun i hi j k hj=>?_⟩;have:=hp.at_ i hi j k hj;have hj0:j=0:=by have:=(List.getElem?_eq_some_iff.1 hj).1;simpa using this
  subst hj0;rw[hR i hi]at this;exact this
 ·rw[hlen];simp[hl.len]
 ·intro i hi;rw[hlen]at hi;rw[hL',ko hi];show nI _ (gl (y.ys++[sl]) i) _;rw[ko (by rw[hl.len];exact hi),hl.len];by_cases hin:i<L.l.length
  ·rw[if_pos hin,if_pos hin];refine(hl.seg i hin).frame fun x hx=>?_;have hxF:=vh (by rw[hl.len];exact hin) hx;rw[cw (fun e=>hbF (by rw[<- e];exact hxF)),hm x (hFl x hxF)]
  ·rw[if_neg hin,if_neg hin];refine hs.at_.frame fun x hx=>?_;rw[cw (fun e=>hbS (by rw[<- e];exact hx)),hm x (hSl x hx)]
 ·show(bq ⟨eL b' lo (L.l.length+1) cap,y.ys++[sl]⟩).Nodup;rw[hfp,List.nodup_cons,List.nodup_append];refine⟨?_,n2,hs.nd,?_⟩
  ·simp only[List.mem_append,not_or];exact⟨hbF,hbS⟩
  ·intro x hx z hz e;subst e;exact hSF x hz hx
 ·intro x hx hxn hxs;have hxl:x∉fm y.lv:=fun e=>hxn (List.mem_append_left _ e);have hxF:x∉y.ys.flatMap br:=fun e=>hxn (List.mem_append_right _ e);have hxb':x≠b':=fun e=>by
   rw[<- e,hm x hxl]at hb';exact hx hb'
  refine⟨by rw[cw hxb',hm x hxl],?_⟩;rw[hfp];simp only[List.mem_cons,List.mem_append,not_or];exact⟨hxb',hxF,hxs⟩
theorem bT.congr{H:PH}{y:gT}{L L':bL}(h:bT H y L)(e:L'.l=L.l):bT H y L':=⟨by rw[e];exact h.H7,by rw[e];exact h.len,by rw[e];exact h.seg,h.nd⟩
structure mK where
 H:PH
 y:gT
def jO(t s:Int)(g:dw):Bool:=decide (t-s<g.gen)
structure tZ where
 H:PH
 y:gT
 L:bL
 gb:Nat
 t:Int
structure si(a:tZ):Prop where
 log:bT a.H a.y a.L
 xL:a.L.l.length<1000
 au:a.L.au<=200
 t:bQ .i64 a.t/\0<=a.t
 cell:∃r,a.H a.gb=some (0,.int .i64 a.t::r)
 Zp:a.gb∉bq a.y
noncomputable def RC:cF where
 α:=tZ
 β:=Int
 m:=5
 m':=5
 pre:=fun a=>si a
 args:=fun a=>[.a (.val a.y.lv),.AM 228 [.ptr 0 0 0 0,.ptr 1 0 0 0]]
 hp:=fun _=>[]
 ro:=fun a=>[(0,.obj 289 [.val (pv a.gb 0)]),(1,.obj 202 [.ptr 2 0 0 0]),(2,fI 4 a.L a.y.lv),(3,.ct a.H)]
 post:=fun a r=>(r = -1/\∀i,i<a.L.l.length->jO a.t a.L.au (gl a.L.l i)=true)\/∃i:Nat,r=i/\i<a.L.l.length/\jO a.t a.L.au (gl a.L.l i)=false/\∀j,j<i->jO a.t a.L.au (gl a.L.l j)=true
 res:=fun _ r=>.a (.int .i64 r)
 cS:=fun _ _=>[]
def XX(a:tZ):An:=.flat 2 Nat (fun s k=>s.int 8 k) (fun _ k=>k<=a.L.l.length/\∀j,j<k->jO a.t a.L.au (gl a.L.l j)=true) (fun _ k=>a.L.l.length-k)
def dO(y x:Nat)(z:Prop)(u:Nat):=(y<=x/\z)/\x-y<x-u
def cQ(x:Value):=x=x
def iF(u:Value)(v:Int)(w:Nat->Nat->Prop):Nat->Prop:=fun(x:Nat)=>∃y z s:Nat,u=eL x y z s/\cn v z/\w x y
def pN(y:Nat)(u:Value)(v:Nat)(w:Nat->Option (Nat×List Value))(s:Value->Prop)(t f:Nat->List Value->Prop)(g:Prop):=bf (af y) (cU u) (Exists (iF u (af y) fun h i=>iA h i (az y*v) (fun x=>w x) (fun x=>s x) (fun x z=>t x z) fun x z=>f x z)) g
def bz(x:bL):Nat:=x.l.length
def fc(x:bL)(y:gT)(z:Prop):=tf x x y.lv y.lv z
def wB(z:Nat)(x:tZ):=∀y:Nat,y<z->aF (jO x.t (af x.L.au) (gl x.L.l y))
def B5(z:Int)(x:tZ):=z=(-1:Int)/\wB (bz x.L) x\/∃y:Nat,z=af y/\y<bz x.L/\jO x.t (af x.L.au) (gl x.L.l y)=false/\wB y x
def ax(x:Prop):=bR 0 x
def sj(x y:Int)(z u:Prop):=ai x/\aG (cO y x) z u
def F9(y:gT)(u:Nat)(f g:Nat->Prop)(h i j:Nat->Option (Nat×List Value))(s:Int)(k:Nat->Prop)(l:Nat->Nat->Prop)(m:Prop):=Exists (ga y.lv)/\(∃x:Nat,aK x (cC (af (cU y.lv)) 0 (cQ y.lv) (ax (cQ (pv u 0)/\f x))))/\∀x:Nat,g x->pN x y.lv 1 (fun z=>h z) (fun z=>dS z) (fun z t=>True) (fun z t=>Exists (ic (aQ t z) 0 (fun v=>i v) fun v n=>Exists (ic (pv u 0) 0 (fun w=>j w) fun w o=>ai s->sj (jC (aQ o w)-s) (jC (aQ n v)) (k x) (dm x fun p=>cC (af (cU y.lv)) 0 (cQ y.lv) (ax (cQ (pv u 0)/\l x p)))))) m
theorem RE:fnBody (Y Tryz.prog) [] 234 RC fun a=>[(234,[XX a],[])]:=fnBody.of (p :=
 ∀x:tZ,si x->F9 x.y x.gb (fun z=>ax (fc x.L x.y (x.H=x.H/\(z<=bz x.L/\wB z x)/\True))) (fun z=>z<=bz x.L/\wB z x) (fun z=>x.H z) (fun z=>x.H z) (fun z=>x.H z) (af x.L.au) (fun z=>∃u:Int,af z=u/\B5 u x/\True) (fun z u=>ax (fc x.L x.y (x.H=x.H/\dO u (bz x.L) (wB u x) z))) (∃z:Int,(-1:Int)=z/\B5 z x/\True)) (by kernel_rfl) (by
 delta aG aQ cC gu ai bR az aA cn af iA dO aF dL aU bn cQ ga pN dm bz dS ic fc B5 aP iF cO aK bf wB ag F9 bx ax sj jf
 try dsimp -iota -proj only
 rintro⟨H,y,L,gb,T⟩ ⟨hl,h1,h2,⟨h3,h4⟩,⟨gr,hgb⟩,h5⟩;dsimp only at *;obtain⟨e1,_,⟨ea,ec,e2⟩,e3,_⟩:=hl.qC;refine⟨⟨ea,_,ec,e2,e3⟩,⟨0,?_⟩,fun k hk=>⟨fun c1=>?_,fun c1=>⟨-1,?_⟩⟩⟩
 ·(repeat' (first|apply And.intro|(intro _)))<;>first|exact cT|(exfalso;omega)
 ·obtain⟨hk0,hkk⟩:=hk;rw[e1]at c1;have hk:k<L.l.length:=by simpa using c1
  obtain⟨b,lo,o,c,cs,g1,g2,g3,g4⟩:=hl.at_ hk;have hs:=hl.seg k hk;obtain⟨r1,_,_⟩:=hs.Az;refine⟨_,_,_,_,g1,by omega,b,lo,o+k*1,cs,by rw[Int.toNat_natCast,Nat.add_assoc],g2,⟨⟨_,g3,rfl⟩,trivial⟩,?_⟩;refine⟨_,_,g4,?_⟩;refine⟨_,_,rfl,?_⟩;refine⟨_,0,_,_,rfl,hs.cell,?_⟩;refine⟨⟨⟨_,rfl,_,rfl,r1⟩,trivial⟩,fun _=>?_⟩;refine⟨_,_,rfl,?_⟩;refine⟨_,_,rfl,?_⟩;refine⟨_,0,_,_,rfl,hgb,?_⟩;refine⟨⟨⟨_,rfl,_,rfl,h3⟩,trivial⟩,fun _ _=>?_⟩;simp only[cR,List.getD_cons_zero,jC,bQ]at h3 ⊢;refine⟨by omega,fun c2=>⟨k,?_⟩,fun c2=>⟨by omega,k+1,?_⟩⟩
  ·have c2:=of_decide_eq_true c2;refine⟨rfl,.inr ⟨k,rfl,hk,?_,hkk⟩,trivial⟩;simp only[jO,decide_eq_false_iff_not];omega
  ·have c2:=of_decide_eq_false c2;have hn:∀j,j<k+1->jO T L.au (gl L.l j)=true:=fun j hj=>by
    by_cases e:j=k
    ·subst e;simp only[jO,decide_eq_true_eq];omega
    ·exact hkk j (by omega)
   and_intros<;>first|exact cT|exact hn
 ·obtain⟨hk0,hkk⟩:=hk;have hk:k=L.l.length:=by rw[e1]at c1;have:=of_decide_eq_false c1;omega
  subst hk;exact⟨rfl,.inl ⟨rfl,hkk⟩,trivial⟩)
theorem RF:ak (Y Tryz.prog).G.X 234 RC:=aT fF RE trivial
def stay(t s:Int)(l:List dw)(j:Nat):List Nat:=(List.range j).filter fun i=>jO t s (gl l i)
theorem FE{α β:Type}[Inhabited α][Inhabited β]{l:List α}{f:α->β}{i:Nat}(h:i<l.length):gl (l.map f) i=f (gl l i):=by
 rw[bN (by simpa using h),bN h,List.getElem_map]
theorem RH{α:Type}[Inhabited α](l:List α):(List.range l.length).map (gl l)=l:=by
 refine List.ext_getElem (by simp) fun i h1 h2=>?_;rw[List.getElem_map,List.getElem_range,bN h2]
theorem RI(t s:Int)(l:List dw):(stay t s l l.length).map (gl l)=l.filter (jO t s):=by
 have:l.filter (jO t s)=((List.range l.length).map (gl l)).filter (jO t s):=by rw[RH]
 rw[this,List.filter_map];rfl
theorem Eg(t s:Int)(l:List dw)(j:Nat):stay t s l (j+1)=stay t s l j++if jO t s (gl l j)then[j]else[]:=by
 unfold stay;rw[List.range_succ,List.filter_append];congr 1;cases h:jO t s (gl l j)<;>simp[h]
theorem U6{t s:Int}{l:List dw}{j i:Nat}(h:i<(stay t s l j).length):gl (stay t s l j) i<j:=by
 have:gl (stay t s l j) i∈stay t s l j:=by rw[bN h];exact List.getElem_mem _
 exact List.mem_range.1 (List.mem_filter.1 this).1
theorem AF{α β:Type}{f:α->List β}{l m:List α}(h:l.Sublist m):(l.flatMap f).Sublist (m.flatMap f):=by
 induction h with
 |slnil=>exact List.Sublist.refl _
 |cons a _ ih=>exact ih.trans (by rw[List.flatMap_cons];exact List.sublist_append_right _ _)
 |cons_cons a _ ih=>rw[List.flatMap_cons,List.flatMap_cons];exact(List.Sublist.refl _).append ih
def ua(t:Int)(L:bL):bL:={ L with l:=L.l.filter (jO t L.au) }
structure KT where
 j:Nat
 rows:Nat->Nat->Value
noncomputable def RJ:cF where
 α:=tZ
 β:=mK
 m:=5
 m':=6
 pre:=fun a=>si a
 args:=fun a=>[.a (.val a.y.lv),.AM 228 [.ptr 0 0 0 0,.ptr 1 0 0 0]]
 hp:=fun a=>[(3,.ct a.H)]
 ro:=fun a=>[(0,.obj 289 [.val (pv a.gb 0)]),(1,.obj 202 [.ptr 2 0 0 0]),(2,fI 4 a.L a.y.lv)]
 post:=fun a b=>bT b.H b.y (ua a.t a.L)/\∀x,a.H x≠none->x∉bq a.y->b.H x=a.H x/\x∉bq b.y
 res:=fun _ b=>.a (.val b.y.lv)
 cS:=fun _ b=>[(5,.ct b.H)]
structure KU(a:tZ)(x:KT):Prop where
 le:x.j<=a.L.l.length
 lt:(stay a.t a.L.au a.L.l x.j).length<x.j
 one:∀i,i<a.L.l.length->(x.rows i 0).oneCell'=true
 low:∀i,i<(stay a.t a.L.au a.L.l x.j).length->x.rows i 0=pv (gl a.y.ys (gl (stay a.t a.L.au a.L.l x.j) i)).b 0
 high:∀i,x.j<=i->i<a.L.l.length->x.rows i 0=yS a.y.ys i 0
def XY(a:tZ):An:=.flat 5 KT (fun s x=>((s.at_ (s.tg 0) (.arr 289 [.deep] a.L.l.length x.rows)).int 5 (stay a.t a.L.au a.L.l x.j).length).int 6 x.j) (fun _ x=>KU a x) (fun _ x=>a.L.l.length-x.j)
def XZ(a:tZ):An:=.Rz 4 0 289 [.deep] (.mk 1000 [XY a] [An.Nl 0 4 (.mk 1000 [] [])])
def mu(x:tZ)(y:KT):Nat:=(stay x.t (af x.L.au) x.L.l y.j).length
def wC(x:Option (Nat×List Value))(z:gT)(y:Nat)(u:Option (Nat×List Value))(v:gT):=x≠none->¬y∈bq z->u=x/\¬y∈bq v
def Ga(v w:Int)(x:tZ)(s u:Nat)(t:Int)(f:Nat)(g:Nat->Nat->Value)(h:KT->Prop):KT->Prop:=fun(z:KT)=>v+(1:Int)=af z.j/\w=af (mu x z)/\bR s (u=u)/\bO (t == (-1:Int)) (ax (bB (bz x.L) f 1 g z.rows/\aJ x.H x.y.lv=aJ x.H x.y.lv/\cQ (pv x.gb 0)/\ax (fc x.L x.y (KU x z/\h z))))
def pO(x:mK)(u:bL)(v:Nat->Option (Nat×List Value))(w:gT):=bT x.H x.y u/\∀z:Nat,wC (v z) w z (x.H z) x.y
def iG(x:CK):List CK:=[x]
def yT(x y u:Nat)(v:List Value)(w:Nat->Value):Nat->Value:=fun(z:Nat)=>if 0+az x<=y/\y<0+az x+(u-az x)then aQ v z else w z
def B6:Value:=Value.pointer none
theorem RL:fnBody (Y Tryz.prog) [(234,RC)] 208 RJ fun a=>[(208,[],[XZ a])]:=fnBody.of (p :=
 ∀x:tZ,si x->∃f:tZ,x.y.lv=f.y.lv/\ax (kj x.gb f.gb/\ax (tf x.L f.L x.y.lv f.y.lv (x.H=f.H/\si f/\∀w:Int,B5 w f->aG (w == (-1:Int)) (∃u:mK,x.y.lv=u.y.lv/\x.H=u.H/\pO u (ua x.t x.L) (fun v=>x.H v) x.y/\True) (Exists (jG x.H x.y.lv CK.deep [] fun u v m=>ai (w+(1:Int))/\Exists (Ga w w x u v w u m fun z=>True)/\∀z:KT,KU x z->l8 (af z.j) u (0+az z.j<bz x.L/\Exists (ic (z.rows (0+az z.j) 0) 0 (fun g=>aJ x.H x.y.lv g) fun g k=>Exists (ic (pv x.gb 0) 0 (fun s=>aJ x.H x.y.lv s) fun s l=>ai (af x.L.au)->ai (jC (aQ l s)-af x.L.au)/\aG (bC (cO (jC (aQ k g)) (jC (aQ l s)-af x.L.au))) (cn (af (mu x z)) u/\0+az (mu x z)<bz x.L/\aP (mu x z)/\aP z.j/\Exists (Ga (af z.j) (af (mu x z)+(1:Int)) x u v w (bz x.L) (jT z.rows (0+az (mu x z)) 0 (bG (z.rows (0+az z.j) 0))) fun h=>bz x.L-h.j<bz x.L-z.j)) (aP z.j/\Exists (Ga (af z.j) (af (mu x z)) x u v w (bz x.L) z.rows fun h=>bz x.L-h.j<bz x.L-z.j))))) (dh (af (mu x z)) u/\dh (af (mu x z)) v/\(v-0≠0/\0+(az (mu x z)-0)<=bz x.L)/\∀(g k:Nat) (s:List Value),aJ x.H x.y.lv g=none->s.length=(v-0)*1->(zV s 0 (iG CK.deep) (az (mu x z)-0) fun h=>yT (mu x z) (0+h) u (bG B6) fun i=>z.rows (0+h) i) ->
 ∃i:mK,eL g k (az (mu x z)-0) (v-0)=i.y.lv/\aM (aJ x.H x.y.lv) g k s=i.H/\pO i (ua x.t x.L) (fun n=>x.H n) x.y/\True))))))) (by kernel_rfl) (by
 delta aG aQ bB gu ai bR az aA cn af bO iA dZ bG aF dL aU bn bP cQ bz ic fc mu B5 wC jG aP Ga cO bf wB ag pO iG ax l8 kj bC dh jf yT B6
 try dsimp -iota -proj only
 rintro⟨H,y,L,gb,T⟩ hp;obtain⟨hl,h1,h2,⟨h3,h4⟩,⟨gr,hgb⟩,h5⟩:=hp;dsimp only at *;have hp:si ⟨H,y,L,gb,T⟩:=⟨hl,h1,h2,⟨h3,h4⟩,⟨gr,hgb⟩,h5⟩
 obtain⟨e1,_,⟨ea,ec,e2⟩,e3,_⟩:=hl.qC;have hmap:=RI T L.au L.l;refine⟨⟨H,y,L,gb,T⟩,rfl,rfl,rfl,rfl,rfl,rfl,rfl,rfl,rfl,rfl,rfl,rfl,rfl,hp,fun r hr=>?_⟩;dsimp only at hr ⊢;refine⟨fun c=>⟨⟨H,y⟩,rfl,rfl,⟨hl.congr ?_,fun x _ hn=>⟨rfl,hn⟩⟩,trivial⟩,fun c=>?_⟩
 ·rcases hr with⟨_,hr⟩ | ⟨i,rfl,_⟩
  ·show L.l.filter (jO T L.au)=L.l;rw[List.filter_eq_self];intro g hg;obtain⟨i,hi,rfl⟩:=List.getElem_of_mem hg;rw[<- bN hi];exact hr i hi
  ·exfalso;simp at c
 ·obtain⟨r0,rfl,hr1,hr2,hr3⟩:∃i:Nat,r=i/\i<L.l.length/\jO T L.au (gl L.l i)=false/\∀j,j<i->jO T L.au (gl L.l j)=true:=by
   rcases hr with⟨rfl,_⟩|h
   ·cases c
   ·exact h
  obtain⟨cl,hlst⟩:=hl.H7;obtain⟨u1,u2,u3,u4,_⟩:=eR hlst;have hst0:stay T L.au L.l (r0+1)=List.range r0:=by
   rw[Eg,hr2];simp only[Bool.false_eq_true,if_false,List.append_nil];unfold stay;rw[List.filter_eq_self];exact fun i hi=>hr3 i (List.mem_range.1 hi)
  have hnd:=hl.nd;rw[List.nodup_append]at hnd;obtain⟨n1,n2,n3⟩:=hnd;have hFl:∀x∈y.ys.flatMap br,x∉fm y.lv:=fun x hx e=>n3 x e x hx rfl;have hm:∀x,x∉fm y.lv->aJ H y.lv x=H x:=fun x hx=>kn hx;have hgb2:aJ H y.lv gb=some (0,.int .i64 T::gr):=by rw[hm gb (fun e=>h5 (List.mem_append_left _ e))];exact hgb
  have hseg:∀i,i<L.l.length->nI (aJ H y.lv) (gl y.ys i) (gl L.l i):=fun i hi=>(hl.seg i hi).frame fun x hx=>hm x (hFl x (vh (by rw[hl.len];exact hi) hx));refine⟨L.l.length,cl,yS y.ys,hlst,by simp only[bQ];omega,⟨⟨r0+1,yS y.ys⟩,?_⟩,fun x hx=>?_⟩
  ·have h0:KU ⟨H,y,L,gb,T⟩ ⟨r0+1,yS y.ys⟩:=⟨hr1,by rw[hst0];simp,fun i _=>rfl,fun i hi=>by
    dsimp only at hi ⊢;rw[hst0]at hi ⊢;have hi':i<r0:=by simpa using hi
    rw[show gl (List.range r0) i=i by rw[bN hi];simp];rfl,fun i _ _=>rfl⟩
   rw[hst0]
   and_intros<;>first|exact cT|exact h0|(simp;done)|skip
  ·obtain⟨j,rows⟩:=x;have hx':KU ⟨H,y,L,gb,T⟩ ⟨j,rows⟩:=hx;obtain⟨x1,x2,x3,x4,x5⟩:=hx;dsimp only at x1 x2 x3 x4 x5 ⊢;obtain⟨k,hk⟩:∃k,k=(stay T L.au L.l j).length:=⟨_,rfl⟩
   rw[<- hk]at x2 x4 ⊢;simp only[Nat.zero_add,Int.toNat_natCast];refine⟨fun c1=>?_,fun c1=>?_⟩
   ·have hj:j<L.l.length:=by have:=of_decide_eq_true c1;omega
    have hs:=hseg j hj;obtain⟨r1,_,_⟩:=hs.Az;have hrow:rows j 0=pv (gl y.ys j).b 0:=x5 j (Nat.le_refl _) hj;have hsu:=Eg T L.au L.l j;refine⟨⟨by omega,by omega⟩,by omega,_,_,hrow,?_⟩;refine⟨_,_,rfl,?_⟩;refine⟨_,0,_,_,rfl,hs.cell,?_⟩;refine⟨⟨⟨_,rfl,_,rfl,r1⟩,trivial⟩,fun _=>?_⟩;refine⟨_,_,rfl,?_⟩;refine⟨_,_,rfl,?_⟩;refine⟨_,0,_,_,rfl,hgb2,?_⟩;refine⟨⟨⟨_,rfl,_,rfl,h3⟩,trivial⟩,fun _ _=>?_⟩;simp only[cR,List.getD_cons_zero,jC,bQ]at h3 ⊢;refine⟨by omega,fun c2=>?_,fun c2=>?_⟩
    ·have hkeep:jO T L.au (gl L.l j)=true:=by
      have:¬(gl L.l j).gen<=T-L.au:=by simpa using c2
      simp only[jO,decide_eq_true_eq];omega
     rw[hkeep,if_pos rfl]at hsu;have hlen:(stay T L.au L.l (j+1)).length=k+1:=by rw[hsu,hk];simp
     have hN:KU ⟨H,y,L,gb,T⟩ ⟨j+1,jT rows k 0 [rows j 0]⟩:=⟨hj,by dsimp only;rw[hlen];omega,fun i hi=>by
      dsimp only;rw[qm];split
      ·exact x3 j hj
      ·exact x3 i hi,fun i hi=>by
      dsimp only at hi ⊢;rw[hlen]at hi;rw[qm,hsu];by_cases e:i=k
      ·rw[if_pos e,hrow,e,hk,show(stay T L.au L.l j).length=(stay T L.au L.l j).length+0 from rfl,aY];rfl
      ·rw[if_neg e,bJ (by omega)];exact x4 i (by omega),fun i hi hi2=>by
      dsimp only at hi ⊢;rw[qm,if_neg (by omega)];exact x5 i (by omega) hi2⟩
     refine⟨⟨by omega,by omega⟩,by omega,by omega,by omega,⟨j+1,jT rows k 0 [rows j 0]⟩,?_⟩;dsimp only;rw[hlen]
     and_intros<;>first|exact cT|exact hN|exact aj.refl _ _ _|skip
    ·have hkeep:jO T L.au (gl L.l j)=false:=by
      have:(gl L.l j).gen<=T-L.au:=by simpa using c2
      simp only[jO,decide_eq_false_iff_not];omega
     rw[hkeep]at hsu;simp only[Bool.false_eq_true,if_false,List.append_nil]at hsu;have hN:KU ⟨H,y,L,gb,T⟩ ⟨j+1,rows⟩:=⟨hj,by dsimp only;rw[hsu,<- hk];omega,x3,by dsimp only;rw[hsu,<- hk];exact x4,fun i hi hi2=>x5 i (by dsimp only at hi;omega) hi2⟩
     refine⟨by omega,⟨j+1,rows⟩,?_⟩;dsimp only;rw[hsu,<- hk]
     and_intros<;>first|exact cT|exact hN|exact aj.refl _ _ _|skip
   ·have hj:j=L.l.length:=by have:=of_decide_eq_false c1;omega
    subst hj;have hkn:k<=L.l.length:=by omega
    refine⟨⟨by omega,by omega⟩,by omega,by omega,?_⟩;simp only[Nat.sub_zero];intro b lo cs hb hcs hpr;have hlen:((stay T L.au L.l L.l.length).map (gl y.ys)).length=k:=by rw[List.length_map,hk]
    have hL:(ua T L).l=(stay T L.au L.l L.l.length).map (gl L.l):=hmap.symm;have hll:(ua T L).l.length=k:=by rw[hL,List.length_map,hk]
    have hsubl:((stay T L.au L.l L.l.length).map (gl y.ys)).Sublist y.ys:=by
     have e:((List.range L.l.length).map (gl y.ys))=y.ys:=by rw[<- hl.len,RH]
     have h:=List.Sublist.map (gl y.ys) (show(stay T L.au L.l L.l.length).Sublist (List.range L.l.length)from List.filter_sublist);rw[e]at h;exact h
    have hsub:=AF (f:=br) hsubl;have hbF:b∉y.ys.flatMap br:=fun e=>by
     have:=hl.dom b (List.mem_append_right _ e);rw[hm b (hFl b e)]at hb;exact this hb
    have hat:bT (aM (aJ H y.lv) b lo cs) ⟨eL b lo k cl,(stay T L.au L.l L.l.length).map (gl y.ys)⟩ (ua T L):=by
     refine⟨⟨cl,.inr ⟨b,lo,0,cs,by rw[hll,Nat.add_zero],⟨by rw[hll];omega,u4⟩,dB ..,by rw[hcs];simp,⟨fun i hi q ck hq=>?_⟩⟩⟩,by rw[hll];exact hlen,fun i hi=>?_,?_⟩
     ·rw[hll]at hi;have hq0:q=0:=by have:=(List.getElem?_eq_some_iff.1 hq).1;simpa using this
      subst hq0;have:=hpr.at_ i hi 0 ck hq;rw[if_neg (by omega)]at this;have e:rows i 0=yS ((stay T L.au L.l L.l.length).map (gl y.ys)) i 0:=by
       rw[x4 i hi];show _=pv (gl ((stay T L.au L.l L.l.length).map (gl y.ys)) i).b 0;rw[FE (by rw[<- hk];exact hi)]
      rw[<- e];exact this
     ·rw[hll]at hi;rw[hL];show nI _ (gl ((stay T L.au L.l L.l.length).map (gl y.ys)) i) _;rw[FE (by rw[<- hk];exact hi),FE (by rw[<- hk];exact hi)];have hi2:=U6 (t:=T) (s:=L.au) (l:=L.l) (j:=L.l.length) (i:=i) (by rw[<- hk];exact hi);exact(hseg _ hi2).frame fun x hx=>cw fun e=>hbF (by rw[<- e];exact vh (by rw[hl.len];exact hi2) hx)
     ·show(fm (eL b lo k cl)++((stay T L.au L.l L.l.length).map (gl y.ys)).flatMap br).Nodup;simp only[fm,eL,List.cons_append,List.nil_append,List.nodup_cons];exact⟨fun e=>hbF (hsub.subset e),n2.sublist hsub⟩
    refine⟨⟨aM (aJ H y.lv) b lo cs,⟨eL b lo k cl,(stay T L.au L.l L.l.length).map (gl y.ys)⟩⟩,rfl,rfl,⟨hat,fun x hx hn=>?_⟩,trivial⟩;have hxl:x∉fm y.lv:=fun e=>hn (List.mem_append_left _ e);have hxF:x∉y.ys.flatMap br:=fun e=>hn (List.mem_append_right _ e);have hxb:x≠b:=fun e=>by rw[<- e,hm x hxl]at hb;exact hx hb
    refine⟨(cw hxb).trans (hm x hxl),?_⟩;simp only[bq,fm,eL,List.cons_append,List.nil_append,List.mem_cons,not_or];exact⟨hxb,fun e=>hxF (hsub.subset e)⟩)
theorem RM:ak (Y Tryz.prog).G.X 208 RJ:=aT fF RL ⟨RF,trivial⟩
def sW(L:bL):List dw:=L.l.filter (jO (bk L).gen L.au)
def iU(L:bL):bL:={ L with l:=sW L++[bk L] }
def sk(L:bL)(d:bw):bw:=fZ (fW d (jN L (bk L) 0) 64 (oL (bk L) 0 L.run))
structure KW where
 H:PH
 y:gT
 L:bL
 d:bw
noncomputable def KY:cF where
 α:=KW
 β:=mK
 m:=4
 m':=5
 pre:=fun a=>bT a.H a.y a.L/\a.L.l.length<900/\3<=a.L.au/\a.L.au<=200/\a.L.from_+a.L.au*8<=a.d.n/\a.d.n<100000/\a.d.calls<999999999999/\bQ .i64 a.L.next /\
  (bk a.L).gen<1000000000000/\1<=(bk a.L).gen
 args:=fun _=>[.a (.ptr 0 0 0 0)]
 hp:=fun a=>[(0,fI 1 a.L a.y.lv)]++gn 1 2 a.d++[(3,.ct a.H)]
 ro:=fun _=>[]
 post:=fun a b=>bT b.H b.y (iU a.L)/\∀x,a.H x≠none->x∉bq a.y->b.H x=a.H x/\x∉bq b.y
 res:=fun _ _=>.a (.lit .i64 0)
 cS:=fun a b=>[(0,fI 1 (iU a.L) b.y.lv)]++gn 1 2 (sk a.L a.d)++[(4,.ct b.H)]
def WJ:An:=.U5 5 3 0 (.mk 1000 [] [])
def Eh(x y:Nat):Option Go.Addr:=some { block:=x,off:=y }
def fS:Value:=Value.slice none 0 0
def Gb(u:PH)(v s:Value)(t:Nat->Nat->Nat->Nat->List Value->Prop):Nat->Prop:=jG u v CK.deep [] fun x f g=>gH x 8 f fun y=>(y≠0/\0+(x+1)<=x+1)/\∀(w h:Nat) (z:List Value),aJ u v w=none->z.length=y*1->(zV z 0 (iG CK.deep) (x+1) fun i j=>aX g 0 x (jE 1 (bG s)) (0+i) j)->t x y w h z
def kq(y:bw)(z:bw->Prop):=∃x:bw,ag (fV y x (kf x/\aI (z x)))
def B7(x:PH)(y:Nat)(z u:Int):PH:=aM x y 0 (bt z (bt u (bt 0 (bP fS (bG fS)))))
def RN(x:KW)(f:Int):=ai x.L.next->∀v:Nat,x.H v=none->∃u:r9,ag (kj v u.y.b/\aK u.i (fV x.d u.d (ag (tf x.L u.L x.y.lv u.lv (B7 x.H v f x.L.next=u.H/\yQ u/\aI (∃z:tZ,x.y.lv=z.y.lv/\ax (B7 x.H v f x.L.next=z.H/\kj v z.gb/\ax (tf x.L z.L x.y.lv z.y.lv (si z/\∀w:mK,pO w (ua z.t z.L) (fun j=>z.H j) z.y->Exists (Gb w.H w.y.lv (Value.pointer (Eh v 0)) fun k l g h m=>kq (yR u) fun n=>∃s:mK,aR (aM (aJ w.H w.y.lv) g h m=s.H/\ag (tf x.L (iU x.L) (eL g h (k+1) l) s.y.lv (fV (fZ n) (sk x.L x.d) (pO s (iU x.L) (fun o=>x.H o) x.y/\True))))))))))))))
def wD(y:gT)(u:Nat->Option (Nat×List Value))(v:Nat->List Value->Prop):=ai (af (cU y.lv)-(1:Int))/\Exists (iF y.lv (af (cU y.lv)-(1:Int)) fun w s=>iA w s (aU (af (cU y.lv)-(1:Int))*1) (fun x=>u x) (fun x=>dS x) (fun x z=>True) fun x z=>v x z)
def iH(y x:Nat)(z:Prop):=y<=x/\x<100000/\z
def Gc(x:KW):=bT x.H x.y x.L/\bz x.L<900/\3<=x.L.au/\x.L.au<=200/\iH (x.L.from_+x.L.au*8) x.d.n (x.d.calls<999999999999/\ai x.L.next/\(bk x.L).gen<(1000000000000:Int)/\(1:Int)<=(bk x.L).gen)
theorem OK:fnBody (Y Tryz.prog) [(198,F6),(208,RJ),(169,jA)] 195 KY fun _=>[(195,[],[WJ])]:=fnBody.of (p :=
 ∀x:KW,Gc x->ai x.L.next->Exists (ga x.y.lv)/\bf 0 (cU x.y.lv) (wD x.y (fun u=>x.H u) fun u w=>Exists (ic (aQ w u) 0 (fun z=>x.H z) fun z v=>ai (jC (aQ v z)+(1:Int))/\(ai (jC (aQ v z)+(1:Int))->RN x (jC (aQ v z)+(1:Int))))) (RN x 1)) (by kernel_rfl) (by
 delta aG aQ av gu ai bt bR aH gq aA cn af iA bG aF dL aU bn bP Eh RN ga aI bz dS gH ic fS kf wD wC jG iF yQ aK aR bf Gc ag pO Gb kq iG ax yR kj iH jf jE B7
 try dsimp -iota -proj only
 rintro⟨H,y,L,d⟩ ⟨hl,h1,h2,h3,h4,h5,h6,h8,h9,h10⟩;dsimp only at *;obtain⟨e1,_,⟨ea,ec,e2⟩,e3,_⟩:=hl.qC;have hgR:bQ .i64 (bk L).gen:=by simp only[bQ];omega
 refine fun _=>⟨⟨ea,_,ec,e2,e3⟩,fun c1=>?_,fun c1=>?_⟩
 ·rw[e1]at c1;have hn:0<L.l.length:=by simpa using c1
  have hk:L.l.length-1<L.l.length:=by omega
  obtain⟨b,lo,o,c,cs,g1,g2,g3,g4⟩:=hl.at_ hk;have hs:=hl.seg _ hk;obtain⟨r1,_,_⟩:=hs.Az;have hng:(bk L).gen=(gl L.l (L.l.length-1)).gen+1:=by
   have:L.l.getLast? = some (gl L.l (L.l.length-1)):=by rw[bN hk,List.getLast?_eq_getElem?,List.getElem?_eq_getElem hk]
   simp only[bk,this]
  simp only[e1];have e5:((L.l.length:Int)-1).toNat=L.l.length-1:=by omega
  refine⟨by simp only[bQ];omega,_,_,_,_,g1,by omega,b,lo,o+(L.l.length-1)*1,cs,by rw[e5,Nat.add_assoc],g2,⟨⟨_,g3,rfl⟩,trivial⟩,?_⟩;refine⟨_,_,g4,?_⟩;refine⟨_,_,rfl,?_⟩;refine⟨_,0,_,_,rfl,hs.cell,?_⟩;refine⟨⟨⟨_,rfl,_,rfl,r1⟩,trivial⟩,fun _=>?_⟩;simp only[cR,List.getD_cons_zero,jC,<- hng];refine⟨hgR,fun _ _=>?_⟩;show ∀b,_;intro b hb;have hsg:=Ef (H:=H) (b:=b) h8 hgR;have hl1:bT (aM H b 0 (cR (bk L) (.slice none 0 0) (.slice none 0 0))) y L:=hl.frame fun x hx=>cw fun e=>hl.dom x hx (by rw[e];exact hb);refine⟨r9.mk (aM H b 0 (cR (bk L) (.slice none 0 0) (.slice none 0 0))) (newL b) (bk L) 0 L y.lv d,?_⟩
  and_intros<;>first|exact cT|exact hsg|(simp only[bk,List.length_nil];omega)|rfl|skip
  intro _ _;have hbm:∀x,H x≠none->x≠b:=fun x hx e=>hx (by rw[e];exact hb);have hbl:b∉bq y:=fun e=>hl.dom b e hb;have hdp:si ⟨aM H b 0 (cR (bk L) (.slice none 0 0) (.slice none 0 0)),y,L,b,(bk L).gen⟩:=⟨hl1,by show L.l.length<1000;omega,h3,⟨hgR,by show 0<=(bk L).gen;omega⟩,⟨_,dB ..⟩,hbl⟩
  refine⟨tZ.mk (aM H b 0 (cR (bk L) (.slice none 0 0) (.slice none 0 0))) y L b (bk L).gen,?_⟩
  and_intros<;>first|exact cT|exact hdp|rfl|skip
  rintro⟨H2,y2⟩ ⟨d1,d2⟩;dsimp only at d1 d2 ⊢;obtain⟨q1,q2⟩:=d2 b (by rw[dB];simp) hbl
  have hs2 : fC H2 (newL b) (bk L) := ⟨hsg.frame fun x hx => (by have : x = b := by simpa [newL, br, fm] using hx
                                                                 subst this;exact q1),by simp[newL,br,fm]⟩
  have hd2:∀x∈bq y2,x∉br (newL b):=fun x hx e=>by
   have:x=b:=by simpa[newL,br,fm]using e
   subst this;exact q2 hx
  have hkl:(ua (bk L).gen L).l.length<=L.l.length:=List.length_filter_le _ _;obtain⟨c0,hsl⟩:=d1.H7;refine⟨_,c0,_,hsl,?_⟩
  repeat refine kJ ?_
  intro cap hc1 hc2 hc3
  repeat refine kJ ?_
  intro b' lo cs' hb' hcs hp;have hba:=F8 (lo:=lo) (L':=iU L) d1 hs2 hd2 hb' hcs hc1 hc2 hp (by
   intro i hi;simp only[Nat.zero_add,aX,yS];rw[ko (by rw[d1.len];exact hi),d1.len];by_cases hin:i<(ua (bk L).gen L).l.length
   ·rw[if_pos hin,if_pos hin]
   ·rw[if_neg hin,if_neg hin,show i-(ua (bk L).gen L).l.length=0 by omega];rfl) rfl
  have hfr:∀x,H x≠none->x∉bq y->aM (aJ H2 y2.lv) b' lo cs' x=H x/\x∉bq ⟨eL b' lo ((ua (bk L).gen L).l.length+1) cap,y2.ys++[newL b]⟩:=fun x hx hn=>by
   have hxb:=hbm x hx;have e0:aM H b 0 (cR (bk L) (.slice none 0 0) (.slice none 0 0)) x=H x:=cw hxb;obtain⟨w1,w2⟩:=d2 x (by rw[e0];exact hx) hn;obtain⟨w3,w4⟩:=hba.2 x (by rw[w1,e0];exact hx) w2 (by simpa[newL,br,fm]using hxb);exact⟨w3.trans (w1.trans e0),w4⟩
  refine⟨fW d (jN L (bk L) 0) 64 (oL (bk L) 0 L.run),?_⟩
  and_intros<;>first|exact cT|(simp only[fW];omega)|skip
  intro _ _;refine⟨⟨aM (aJ H2 y2.lv) b' lo cs',⟨eL b' lo ((ua (bk L).gen L).l.length+1) cap,y2.ys++[newL b]⟩⟩,?_⟩
  and_intros<;>first|exact cT|exact hba.1|exact hfr|exact Nat.le_refl _|exact aj.refl _ _ _|rfl
 ·rw[e1]at c1;have hn:L.l.length=0:=by have:=of_decide_eq_false c1;omega
  have hng:(bk L).gen=1:=by
   have:L.l=[]:=List.eq_nil_of_length_eq_zero hn;simp only[bk,this];rfl
  rw[<- hng];intro _;intro b hb;have hsg:=Ef (H:=H) (b:=b) h8 hgR;have hl1:bT (aM H b 0 (cR (bk L) (.slice none 0 0) (.slice none 0 0))) y L:=hl.frame fun x hx=>cw fun e=>hl.dom x hx (by rw[e];exact hb);refine⟨r9.mk (aM H b 0 (cR (bk L) (.slice none 0 0) (.slice none 0 0))) (newL b) (bk L) 0 L y.lv d,?_⟩
  and_intros<;>first|exact cT|exact hsg|(simp only[bk,List.length_nil];omega)|rfl|skip
  intro _ _;have hbm:∀x,H x≠none->x≠b:=fun x hx e=>hx (by rw[e];exact hb);have hbl:b∉bq y:=fun e=>hl.dom b e hb;have hdp:si ⟨aM H b 0 (cR (bk L) (.slice none 0 0) (.slice none 0 0)),y,L,b,(bk L).gen⟩:=⟨hl1,by show L.l.length<1000;omega,h3,⟨hgR,by show 0<=(bk L).gen;omega⟩,⟨_,dB ..⟩,hbl⟩
  refine⟨tZ.mk (aM H b 0 (cR (bk L) (.slice none 0 0) (.slice none 0 0))) y L b (bk L).gen,?_⟩
  and_intros<;>first|exact cT|exact hdp|rfl|skip
  rintro⟨H2,y2⟩ ⟨d1,d2⟩;dsimp only at d1 d2 ⊢;obtain⟨q1,q2⟩:=d2 b (by rw[dB];simp) hbl
  have hs2 : fC H2 (newL b) (bk L) := ⟨hsg.frame fun x hx => (by have : x = b := by simpa [newL, br, fm] using hx
                                                                 subst this;exact q1),by simp[newL,br,fm]⟩
  have hd2:∀x∈bq y2,x∉br (newL b):=fun x hx e=>by
   have:x=b:=by simpa[newL,br,fm]using e
   subst this;exact q2 hx
  have hkl:(ua (bk L).gen L).l.length<=L.l.length:=List.length_filter_le _ _;obtain⟨c0,hsl⟩:=d1.H7;refine⟨_,c0,_,hsl,?_⟩
  repeat refine kJ ?_
  intro cap hc1 hc2 hc3
  repeat refine kJ ?_
  intro b' lo cs' hb' hcs hp;have hba:=F8 (lo:=lo) (L':=iU L) d1 hs2 hd2 hb' hcs hc1 hc2 hp (by
   intro i hi;simp only[Nat.zero_add,aX,yS];rw[ko (by rw[d1.len];exact hi),d1.len];by_cases hin:i<(ua (bk L).gen L).l.length
   ·rw[if_pos hin,if_pos hin]
   ·rw[if_neg hin,if_neg hin,show i-(ua (bk L).gen L).l.length=0 by omega];rfl) rfl
  have hfr:∀x,H x≠none->x∉bq y->aM (aJ H2 y2.lv) b' lo cs' x=H x/\x∉bq ⟨eL b' lo ((ua (bk L).gen L).l.length+1) cap,y2.ys++[newL b]⟩:=fun x hx hn=>by
   have hxb:=hbm x hx;have e0:aM H b 0 (cR (bk L) (.slice none 0 0) (.slice none 0 0)) x=H x:=cw hxb;obtain⟨w1,w2⟩:=d2 x (by rw[e0];exact hx) hn;obtain⟨w3,w4⟩:=hba.2 x (by rw[w1,e0];exact hx) w2 (by simpa[newL,br,fm]using hxb);exact⟨w3.trans (w1.trans e0),w4⟩
  refine⟨fW d (jN L (bk L) 0) 64 (oL (bk L) 0 L.run),?_⟩
  and_intros<;>first|exact cT|(simp only[fW];omega)|skip
  intro _ _;refine⟨⟨aM (aJ H2 y2.lv) b' lo cs',⟨eL b' lo ((ua (bk L).gen L).l.length+1) cap,y2.ys++[newL b]⟩⟩,?_⟩
  and_intros<;>first|exact cT|exact hba.1|exact hfr|exact Nat.le_refl _|exact aj.refl _ _ _|rfl)
theorem OL:ak (Y Tryz.prog).G.X 195 KY:=aT fF OK ⟨Ee,RM,iz,trivial⟩
def jP(L:bL):dw:=gl L.l (L.l.length-1)
def qn(L:bL)(n:Nat):Bool:=decide (L.l.length=0)||decide (370<(jP L).buf.length+n)
def dr(L:bL)(n:Nat):bL:=if qn L n then iU L else L
def kr(L:bL)(d:bw)(n:Nat):bw:=if qn L n then sk L d else d
def IV(n:Nat)(next:Int):List Int:=[uw .u8 (uw .u64 (n:Int)/256),uw .u8 (uw .u64 (n:Int)/1),uw .u8 (uw .u64 next/1099511627776),uw .u8 (uw .u64 next/4294967296),uw .u8 (uw .u64 next/16777216),uw .u8 (uw .u64 next/65536),uw .u8 (uw .u64 next/256),uw .u8 (uw .u64 next/1)]
def qD(g:dw)(next:Int)(body:List Int):List Int:=g.buf++IV body.length next++body
def IW(g:dw)(next:Int)(body:List Int):dw:={ g with buf:=qD g next body }
def KZ(g:dw)(next:Int)(body:List Int):dw:={ g with buf:=qD g next body,aO:=g.aO++[⟨next,body⟩] }
def sX(was now i:Nat):Bool:=decide (was<bY (i+1))&&decide (bY i<now)
def cZ(L:bL)(g:dw)(was:Nat)(d:bw):Nat->bw
 |0=>d
 |i+1=>if sX was g.buf.length i then fW (cZ L g was d i) (jN L g i) 64 (oL g i L.run)else cZ L g was d i
def Nn(L:bL)(g:dw):bL:={ L with l:=L.l.set (L.l.length-1) g }
def IX(L:bL)(body:List Int):bL:={ Nn L (KZ (jP L) L.next body)with next:=L.next+1,fresh:=false }
def qo(L:bL)(d:bw)(body:List Int):bw:=cZ L (IW (jP L) L.next body) (jP L).buf.length d 8
def lI(L:bL)(body:List Int):bL:=IX (dr L body.length) body
def nJ(L:bL)(d:bw)(body:List Int):bw:=if(dr L body.length).fresh then fZ (qo (dr L body.length) (kr L d body.length) body)else qo (dr L body.length) (kr L d body.length) body
def Step(H:PH)(v:Value)(H':PH)(v':Value):Prop:=∀x,H x≠none->x∉fm v->H' x=H x/\x∉fm v'
theorem Step.trans{H H' H'':PH}{v v' v'':Value}(h:Step H v H' v')(k:Step H' v' H'' v''):Step H v H'' v'':=fun x hx hv=>by
 obtain⟨h1,h2⟩:=h x hx hv;obtain⟨k1,k2⟩:=k x (by rw[h1];exact hx) h2;exact⟨k1.trans h1,k2⟩
theorem q9{H:PH}{v:Value}{b lo l c:Nat}{cs:List Value}(h:aJ H v b=none):Step H v (aM (aJ H v) b lo cs) (eL b lo l c):=fun x hx hv=>by
 have hxb:x≠b:=fun e=>by rw[<- e,kn hv]at h;exact hx h
 exact⟨by rw[cw hxb,kn hv],by simp[fm,eL,hxb]⟩
theorem IY{H:PH}{b lo l c:Nat}{cs:List Value}(h:H b=none):Step H (.slice none 0 0) (aM H b lo cs) (eL b lo l c):=q9 (H:=H) (v:=.slice none 0 0) h
theorem mw{H:PH}{b lo l c:Nat}{ks:List CK}{cs:List Value}{rows rows':Nat->Nat->Value}(hl:cs.length=c*ks.length)(h1:l<=c)(h2:c<=aq)(hp:zV cs 0 ks l rows)(he:∀i,i<l->∀j,j<ks.length->rows i j=rows' i j):jU (aM H b lo cs) (eL b lo l c) ks l c rows' :=
 .inr ⟨b,lo,0,cs,by rw[Nat.add_zero],⟨h1,h2⟩,dB ..,by omega,⟨fun i hi j k hj=>by
  have:=hp.at_ i hi j k hj;rw[he i hi j (List.getElem?_eq_some_iff.1 hj).1]at this;exact this⟩⟩
theorem yU(v:Value):(fm v).Nodup:=by
 unfold fm;split<;>simp
def Fr(H:PH)(y:mm)(H':PH)(y':mm):Prop:=∀x,H x≠none->x∉br y->H' x=H x/\x∉br y'
theorem Fr.trans{H H' H'':PH}{y y' y'':mm}(h:Fr H y H' y')(k:Fr H' y' H'' y''):Fr H y H'' y'':=fun x hx hv=>by
 obtain⟨h1,h2⟩:=h x hx hv;obtain⟨k1,k2⟩:=k x (by rw[h1];exact hx) h2;exact⟨k1.trans h1,k2⟩
theorem B8{y:mm}:(br y).Nodup↔(y.b∉fm y.bv/\y.b∉fm y.rv/\y.b∉y.vs.flatMap fm)/\(∀x∈fm y.bv,x∉fm y.rv/\x∉y.vs.flatMap fm)/\(∀x∈fm y.rv,x∉y.vs.flatMap fm)/\(y.vs.flatMap fm).Nodup:=by
 unfold br;rw[List.nodup_cons,List.nodup_append,List.nodup_append];have a1:=yU y.bv;have a2:=yU y.rv;simp only[List.mem_append,not_or,a1,a2,true_and];constructor
 ·rintro⟨h1,⟨h3,h4⟩,h2⟩;exact⟨h1,fun x hx=>⟨fun e=>h2 x hx x (.inl e) rfl,fun e=>h2 x hx x (.inr e) rfl⟩,fun x hx e=>h4 x hx x e rfl,h3⟩
 ·rintro⟨h1,h2,h3,h4⟩;refine⟨h1,⟨h4,fun a ha b hb e=>h3 a ha (by rw[e];exact hb)⟩,fun a ha b hb e=>?_⟩;subst e;rcases hb with hb|hb
  ·exact(h2 a ha).1 hb
  ·exact(h2 a ha).2 hb
theorem wE{X0 X2:PH}{y:mm}{g:dw}{v2:Value}{buf:List Int}(h:fC X0 y g)(hs:Step X0 y.bv X2 v2)(hb:fe X2 v2 buf) :
 X2 y.b=some (0,cR g y.bv y.rv)/\fC (aM X2 y.b 0 (cR { g with buf:=buf } v2 y.rv)) { y with bv:=v2 } { g with buf:=buf }/\Fr X0 y (aM X2 y.b 0 (cR { g with buf:=buf } v2 y.rv)) { y with bv:=v2 }:=by
 have hd:=h.at_.dom;obtain⟨⟨n1,n2,n3⟩,n4,n5,n6⟩:=B8.1 h.nd;have s1:∀x∈br y,x∉fm y.bv->X2 x=X0 x/\x∉fm v2:=fun x hx hv=>hs x (hd x hx) hv;have hbm:y.b∈br y:=List.mem_cons_self;obtain⟨c1,c2⟩:=s1 y.b hbm n1;have hrv:∀x∈fm y.rv,x∈br y/\x∉fm y.bv:=fun x hx=>⟨by simp[br,hx],fun e=>(n4 x e).1 hx⟩
 have hvs:∀x∈y.vs.flatMap fm,x∈br y/\x∉fm y.bv:=fun x hx=>⟨List.mem_cons_of_mem _ (List.mem_append_right _ (List.mem_append_right _ hx)),fun e=>(n4 x e).2 hx⟩
 have same:∀x,x≠y.b->(x∈fm y.rv\/x∈y.vs.flatMap fm)->aM X2 y.b 0 (cR { g with buf:=buf } v2 y.rv) x=X0 x:=fun x hx h=>by
  rw[cw hx];rcases h with h|h
  ·exact(s1 x (hrv x h).1 (hrv x h).2).1
  ·exact(s1 x (hvs x h).1 (hvs x h).2).1
 refine⟨c1.trans h.at_.cell,⟨⟨dB ..,h.at_.Az,hb.frame fun x hx=>cw fun e=>c2 (by rw[<- e];exact hx),?_,h.at_.len,fun i hi=>(h.at_.body i hi).frame fun x hx=>?_⟩,?_⟩,?_⟩
 ·obtain⟨c,hr⟩:=h.at_.aO;exact⟨c,iE hr fun x hx=>same x (fun e=>n2 (by rw[<- e];exact hx)) (.inl hx)⟩
 ·have hm:x∈y.vs.flatMap fm:=by
   refine List.mem_flatMap.2 ⟨_,?_,hx⟩;have hl:=h.at_.len;have hi':i<g.aO.length:=hi;rw[List.getD_eq_getElem?_getD,List.getElem?_eq_getElem (by omega)];exact List.getElem_mem _
  exact same x (fun e=>n3 (by rw[<- e];exact hm)) (.inr hm)
 ·refine B8.2 ⟨⟨c2,n2,n3⟩,fun x hx=>⟨fun e=>?_,fun e=>?_⟩,n5,n6⟩
  ·exact(s1 x (hrv x e).1 (hrv x e).2).2 hx
  ·exact(s1 x (hvs x e).1 (hvs x e).2).2 hx
 ·intro x hx hn;simp only[br,List.mem_cons,List.mem_append,not_or]at hn ⊢;obtain⟨a1,a2⟩:=hs x hx hn.2.1;exact⟨by rw[cw hn.1,a1],hn.1,a2,hn.2.2⟩
theorem z6{X3 X4 X5:PH}{y:mm}{g:dw}{v3 v4:Value}{r:RecM}(h:fC X3 y g)(hs:Step X3 (.slice none 0 0) X4 v3)(hb:fe X4 v3 r.body)(hs2:Step X4 y.rv X5 v4)
 (hd4:∀x∈fm v3,X4 x≠none) (hr:∃c,jU X5 v4 qZ (g.aO.length+1) c (tW (g.aO++[r]) (y.vs++[v3]))) :
 X4 y.b=some (0,cR g y.bv y.rv)/\X5 y.b=some (0,cR g y.bv y.rv)/\fC (aM X5 y.b 0 (cR { g with aO:=g.aO++[r] } y.bv v4)) ⟨y.b,y.bv,v4,y.vs++[v3]⟩ { g with aO:=g.aO++[r] } /\
 Fr X3 y (aM X5 y.b 0 (cR { g with aO:=g.aO++[r] } y.bv v4)) ⟨y.b,y.bv,v4,y.vs++[v3]⟩:=by
 have hd:=h.at_.dom;obtain⟨⟨n1,n2,n3⟩,n4,n5,n6⟩:=B8.1 h.nd;have s1:∀x,X3 x≠none->X4 x=X3 x/\x∉fm v3:=fun x hx=>hs x hx (by simp[fm]);have s2:∀x,X3 x≠none->x∉fm y.rv->X5 x=X3 x/\x∉fm v3/\x∉fm v4:=fun x hx hv=>by
  obtain⟨a1,a2⟩:=s1 x hx;obtain⟨b1,b2⟩:=hs2 x (by rw[a1];exact hx) hv;exact⟨b1.trans a1,a2,b2⟩
 have hbm:y.b∈br y:=List.mem_cons_self;have hbv:∀x∈fm y.bv,x∈br y/\x∉fm y.rv:=fun x hx=>⟨by simp[br,hx],(n4 x hx).1⟩
 have hvs:∀x∈y.vs.flatMap fm,x∈br y/\x∉fm y.rv:=fun x hx=>⟨List.mem_cons_of_mem _ (List.mem_append_right _ (List.mem_append_right _ hx)),fun e=>n5 x e hx⟩
 have hrv:∀x∈fm y.rv,x∈br y:=fun x hx=>by simp[br,hx]
 obtain⟨c1,c2,c3⟩:=s2 y.b (hd _ hbm) n2;have hv3rv:∀x∈fm v3,x∉fm y.rv:=fun x hx e=>(s1 x (hd x (hrv x e))).2 hx;have hv3:∀x∈fm v3,X5 x=X4 x/\x∉fm v4:=fun x hx=>hs2 x (hd4 x hx) (hv3rv x hx);have same:∀x∈br y,x≠y.b->x∉fm y.rv->aM X5 y.b 0 (cR { g with aO:=g.aO++[r] } y.bv v4) x=X3 x:=fun x hx h1 h2=>by
  rw[cw h1];exact(s2 x (hd x hx) h2).1
 have hl:=h.at_.len;refine⟨(s1 _ (hd _ hbm)).1.trans h.at_.cell,c1.trans h.at_.cell,⟨⟨dB ..,h.at_.Az,h.at_.buf.frame fun x hx=>same x (hbv x hx).1 (fun e=>n1 (by rw[<- e];exact hx)) (hbv x hx).2,?_,?_,?_⟩,?_⟩,?_⟩
 ·obtain⟨c,hr⟩:=hr;refine⟨c,?_⟩;simp only[List.length_append,List.length_singleton];exact iE hr fun x hx=>cw fun e=>c3 (by rw[<- e];exact hx)
 ·simp[hl]
 ·intro i hi;simp only[List.length_append,List.length_singleton]at hi;show fe _ ((y.vs++[v3]).getD i undef) (gl (g.aO++[r]) i).body;rw[ko hi];by_cases hin:i<g.aO.length
  ·rw[if_pos hin];have e1:(y.vs++[v3]).getD i undef=y.vs.getD i undef:=by
    rw[List.getD_eq_getElem?_getD,List.getElem?_append_left (by omega),List.getD_eq_getElem?_getD]
   rw[e1];refine(h.at_.body i hin).frame fun x hx=>?_;have hm:x∈y.vs.flatMap fm:=by
    refine List.mem_flatMap.2 ⟨_,?_,hx⟩;rw[List.getD_eq_getElem?_getD,List.getElem?_eq_getElem (by omega)];exact List.getElem_mem _
   exact same x (hvs x hm).1 (fun e=>n3 (by rw[<- e];exact hm)) (hvs x hm).2
  ·rw[if_neg hin];have e1:(y.vs++[v3]).getD i undef=v3:=by
    rw[List.getD_eq_getElem?_getD,List.getElem?_append_right (by omega),show i-y.vs.length=0 by omega];rfl
   rw[e1];refine hb.frame fun x hx=>?_;rw[cw (fun e=>c2 (by rw[<- e];exact hx)),(hv3 x hx).1]
 ·refine B8.2 ⟨⟨n1,c3,?_⟩,fun x hx=>⟨?_,?_⟩,fun x hx=>?_,?_⟩
  ·simp only[List.flatMap_append,List.mem_append,not_or];exact⟨n3,by simpa using c2⟩
  ·exact(s2 x (hd x (hbv x hx).1) (hbv x hx).2).2.2
  ·simp only[List.flatMap_append,List.mem_append,not_or];exact⟨(n4 x hx).2,by simpa using(s2 x (hd x (hbv x hx).1) (hbv x hx).2).2.1⟩
  ·simp only[List.flatMap_append,List.mem_append,not_or];exact⟨fun e=>(s2 x (hd x (hvs x e).1) (hvs x e).2).2.2 hx,fun e=>(hv3 x (by simpa using e)).2 hx⟩
  ·simp only[List.flatMap_append,List.nodup_append];refine⟨n6,by simpa using yU v3,fun a ha b hb e=>?_⟩;subst e;exact(s1 a (hd a (hvs a ha).1)).2 (by simpa using hb)
 ·intro x hx hn;simp only[br,List.mem_cons,List.mem_append,not_or]at hn;obtain⟨a1,a2,a3⟩:=s2 x hx hn.2.2.1;refine⟨by rw[cw hn.1,a1],?_⟩;simp only[br,List.mem_cons,List.mem_append,not_or,List.flatMap_append];exact⟨hn.1,hn.2.1,a3,hn.2.2.2,by simpa using a2⟩
theorem uc{α β:Type}{f:α->List β}:∀ {l:List α} {a:α},a∈l->(f a).Sublist (l.flatMap f)
 |[],_,h=>by cases h
 |x::r,a,h=>by
  rw[List.flatMap_cons];rcases List.mem_cons.1 h with rfl|h
  ·exact List.sublist_append_left _ _
  ·exact(uc h).trans (List.sublist_append_right _ _)
theorem bT.X7{H:PH}{y:gT}{L:bL}(h:bT H y L){k:Nat}(hk:k<L.l.length):fC H (gl y.ys k) (gl L.l k):=by
 refine⟨h.seg k hk,?_⟩;have hk':k<y.ys.length:=by rw[h.len];exact hk
 refine(List.nodup_append.1 h.nd).2.1.sublist (uc ?_);rw[bN hk'];exact List.getElem_mem _
theorem K0{α:Type}[Inhabited α]{l:List α}{k i:Nat}{x:α}(hi:i<l.length):gl (l.set k x) i=if i=k then x else gl l i:=by
 unfold gl;rw[List.getD_eq_getElem?_getD,List.getElem?_set];by_cases h:i=k
 ·subst h;simp[hi]
 ·rw[if_neg (fun e=>h e.symm),if_neg h,List.getD_eq_getElem?_getD]
theorem bT.set{H H':PH}{y:gT}{L:bL}{k:Nat}{sl:mm}{g:dw}(h:bT H y L)(hk:k<L.l.length)(hb:sl.b=(gl y.ys k).b)(hg:fC H' sl g)(hf:Fr H (gl y.ys k) H' sl) :
 bT H' ⟨y.lv,y.ys.set k sl⟩ { L with l:=L.l.set k g }/\∀x,H x≠none->x∉bq y->H' x=H x/\x∉bq ⟨y.lv,y.ys.set k sl⟩:=by
 have hk':k<y.ys.length:=by rw[h.len];exact hk
 have hd:=h.dom;obtain⟨A,B,e1,e2,hA⟩:∃A B,y.ys=A++gl y.ys k::B/\y.ys.set k sl=A++sl::B/\A.length=k:=by
  refine⟨y.ys.take k,y.ys.drop (k+1),?_,?_,by simp;omega⟩
  ·rw[bN hk'];simp
  ·rw[List.set_eq_take_append_cons_drop,if_pos hk']
 obtain⟨s,hs⟩:∃s,s=gl y.ys k:=⟨_,rfl⟩
 rw[<- hs]at e1 hb hf;have F1:y.ys.flatMap br=A.flatMap br++(br s++B.flatMap br):=by rw[e1];simp
 have F2:(y.ys.set k sl).flatMap br=A.flatMap br++(br sl++B.flatMap br):=by rw[e2];simp
 have hnd:=h.nd;rw[F1]at hnd;simp only[List.nodup_append,List.mem_append]at hnd;obtain⟨n1,⟨n2,⟨n3,n4,n5⟩,n6⟩,n7⟩:=hnd;have oV:∀x∈fm y.lv,H' x=H x/\x∉br sl:=fun x hx=>hf x (hd x (List.mem_append_left _ hx)) fun e=>n7 x hx x (.inr (.inl e)) rfl;have oA:∀x∈A.flatMap br,H' x=H x/\x∉br sl:=fun x hx=>hf x (hd x (List.mem_append_right _ (by rw[F1];exact List.mem_append_left _ hx))) fun e=>n6 x hx x (.inl e) rfl;have oB:∀x∈B.flatMap br,H' x=H x/\x∉br sl:=fun x hx=>hf x (hd x (List.mem_append_right _ (by rw[F1];exact List.mem_append_right _ (List.mem_append_right _ hx)))) fun e=>n5 x e x hx rfl;refine⟨⟨?_,by simp[h.len],?_,?_⟩,?_⟩
 ·obtain⟨c,hl⟩:=h.H7;refine⟨c,?_⟩;simp only[List.length_set];have hl2:=iE (H':=H') hl fun x hx=>(oV x hx).1;have he:∀i,i<L.l.length->yS y.ys i 0=yS (y.ys.set k sl) i 0:=fun i hi=>by
   simp only[yS];rw[K0 (by rw[h.len];exact hi)];by_cases hik:i=k
   ·subst hik;rw[if_pos rfl,hb,hs]
   ·rw[if_neg hik]
  rcases hl2 with hz | ⟨b,lo,o,cs,g1,g2,g3,g4,g5⟩
  ·exact .inl hz
  ·refine .inr ⟨b,lo,o,cs,g1,g2,g3,g4,⟨fun i hi j q hj=>?_⟩⟩;have hj0:j=0:=by have:=(List.getElem?_eq_some_iff.1 hj).1;simpa using this
   subst hj0;have:=g5.at_ i hi 0 q hj;rw[he i hi]at this;exact this
 ·intro i hi;simp only[List.length_set]at hi;show nI H' (gl (y.ys.set k sl) i) (gl (L.l.set k g) i);rw[K0 (by rw[h.len];exact hi),K0 hi];by_cases hik:i=k
  ·rw[if_pos hik,if_pos hik];exact hg.at_
  ·rw[if_neg hik,if_neg hik];refine(h.seg i hi).frame fun x hx=>?_;have hm:gl y.ys i∈A\/gl y.ys i∈B:=by
    have hi':i<y.ys.length:=by rw[h.len];exact hi
    have e3:gl y.ys i=gl (A++s::B) i:=by rw[<- e1]
    rcases Nat.lt_or_ge i k with hlt|hge
    ·left;rw[e3,bJ (by omega),bN (by omega)];exact List.getElem_mem _
    ·right;have hlen:y.ys.length=A.length+(B.length+1):=by rw[e1];simp
     rw[e3,show i=A.length+((i-k-1)+1)by omega,aY];have:gl (s::B) (i-k-1+1)=gl B (i-k-1):=by simp[gl]
     rw[this,bN (by omega)];exact List.getElem_mem _
   rcases hm with hm|hm
   ·exact(oA x (List.mem_flatMap.2 ⟨_,hm,hx⟩)).1
   ·exact(oB x (List.mem_flatMap.2 ⟨_,hm,hx⟩)).1
 ·show(fm y.lv++(y.ys.set k sl).flatMap br).Nodup;rw[F2];simp only[List.nodup_append,List.mem_append];refine⟨n1,⟨n2,⟨hg.nd,n4,fun a ha b hb e=>?_⟩,fun a ha b hb e=>?_⟩,fun a ha b hb e=>?_⟩
  ·subst e;exact(oB a hb).2 ha
  ·subst e;rcases hb with hb|hb
   ·exact(oA a ha).2 hb
   ·exact n6 a ha a (.inr hb) rfl
  ·subst e;rcases hb with hb|hb|hb
   ·exact n7 a ha a (.inl hb) rfl
   ·exact(oV a ha).2 hb
   ·exact n7 a ha a (.inr (.inr hb)) rfl
 ·intro x hx hn;have hn1:x∉fm y.lv:=fun e=>hn (List.mem_append_left _ e);have hn2:x∉A.flatMap br/\x∉br s/\x∉B.flatMap br:=by
   have:x∉y.ys.flatMap br:=fun e=>hn (List.mem_append_right _ e);rw[F1]at this;simpa only[List.mem_append,not_or]using this
  obtain⟨a1,a2⟩:=hf x hx hn2.2.1;refine⟨a1,?_⟩;show x∉fm y.lv++(y.ys.set k sl).flatMap br;rw[F2];simp only[List.mem_append,not_or];exact⟨hn1,hn2.1,a2,hn2.2.2⟩
def IZ(s:S):Nat:=match rI s.hp with|some t=>t|none=>0
def S.log(s:S)(slot:Nat)(L:bL)(lv:Value)(d:bw)(H:PH):S :=
 (fun(q:S)=>(q.put (q.hp.del (IZ q))).new (.ct H))
  (((s.at_ (s.tg slot) (fI (s.oQ (s.tg slot) 0) L lv)).at_ (s.oQ (s.tg slot) 0) (.obj 116 [.slc (s.oQ (s.oQ (s.tg slot) 0) 0) 0 129 d.n d.n,.int .i64 d.calls])).at_ (s.oQ (s.oQ (s.tg slot) 0) 0) (.arr 158 BS d.n (e9 d)))
def S.dev(s:S)(td:Nat)(d:bw):S:=(s.at_ td (.obj 116 [.slc (s.oQ td 0) 0 129 d.n d.n,.int .i64 d.calls])).at_ (s.oQ td 0) (.arr 158 BS d.n (e9 d))
structure ud(L:bL)(d:bw):Prop where
 xL:L.l.length<800
 au:3<=L.au/\L.au<=200
 room:L.from_+L.au*8<=d.n
 size:d.n<100000
 calls:d.calls<900000000000
 next:0<=L.next/\L.next<100000000000
 gen:∀i,i<L.l.length->1<=(gl L.l i).gen/\(gl L.l i).gen<100000000000
 buf:∀i,i<L.l.length->(gl L.l i).buf.length<=378
 aO:∀i,i<L.l.length->(gl L.l i).aO.length*9<=(gl L.l i).buf.length
structure Y4(L L1:bL)(d d1:bw)(n:Nat):Prop where
 pos:1<=L1.l.length
 xL:L1.l.length<=801
 from_:L1.from_=L.from_
 au:L1.au=L.au
 next:L1.next=L.next
 run:L1.run=L.run
 fresh:L1.fresh=L.fresh
 dn:d1.n=d.n
 calls:d1.calls<=d.calls+2
 gen:∀i,i<L1.l.length->1<=(gl L1.l i).gen/\(gl L1.l i).gen<=100000000000
 buf:∀i,i<L1.l.length->(gl L1.l i).buf.length<=378
 aO:∀i,i<L1.l.length->(gl L1.l i).aO.length*9<=(gl L1.l i).buf.length
 last:(jP L1).buf.length+n<=370
theorem B9{L:bL}{d:bw}(ok:ud L d):1<=(bk L).gen/\(bk L).gen<=100000000000:=by
 by_cases h:L.l.length=0
 ·have:L.l=[]:=List.eq_nil_of_length_eq_zero h;simp only[bk,this,List.getLast?_nil];omega
 ·have hk:L.l.length-1<L.l.length:=by omega
  have e:L.l.getLast? = some (gl L.l (L.l.length-1)):=by rw[bN hk,List.getLast?_eq_getElem?,List.getElem?_eq_getElem hk]
  have:=ok.gen _ hk;simp only[bk,e];omega
theorem yV{L:bL}{i:Nat}(h:i<(sW L).length):∃j,j<L.l.length/\gl (sW L) i=gl L.l j:=by
 have hm:gl (sW L) i∈L.l:=by rw[bN h];exact(List.mem_filter.1 (List.getElem_mem h)).1
 obtain⟨j,hj,e⟩:=List.getElem_of_mem hm;exact⟨j,hj,by rw[bN hj];exact e.symm⟩
theorem RO(L:bL):(sW L).length<=L.l.length:=List.length_filter_le _ _
theorem I1{L:bL}{d:bw}{n:Nat}(ok:ud L d)(hn:n<=300):Y4 L (dr L n) d (kr L d n) n:=by
 have hf:=ok.xL;cases hB:qn L n with
 |false =>
  rw[show dr L n=L from if_neg (by rw[hB];decide),show kr L d n=d from if_neg (by rw[hB];decide)];simp only[qn,Bool.or_eq_false_iff,decide_eq_false_iff_not]at hB;exact⟨by omega,by omega,rfl,rfl,rfl,rfl,rfl,rfl,by omega,fun i hi=>by have:=ok.gen i hi;omega,ok.buf,ok.aO,by omega⟩
 |true =>
  rw[show dr L n=iU L from if_pos hB,show kr L d n=sk L d from if_pos hB];have hln:(iU L).l.length=(sW L).length+1:=by simp[iU]
  have hkl:=RO L;have hg:=B9 ok;have hgl:∀i,i<(sW L).length+1->gl (iU L).l i=if i<(sW L).length then gl (sW L) i else bk L:=fun i hi=>by simp only[iU];exact ko hi
  refine⟨by omega,by omega,rfl,rfl,rfl,rfl,rfl,rfl,by simp[sk,fZ,fW],fun i hi=>?_,fun i hi=>?_,fun i hi=>?_,?_⟩
  ·rw[hgl i (by omega)];split
   ·obtain⟨j,hj,e⟩:=yV (L:=L) (i:=i) (by assumption);rw[e];have:=ok.gen j hj;omega
   ·exact hg
  ·rw[hgl i (by omega)];split
   ·obtain⟨j,hj,e⟩:=yV (L:=L) (i:=i) (by assumption);rw[e];exact ok.buf j hj
   ·simp[bk]
  ·rw[hgl i (by omega)];split
   ·obtain⟨j,hj,e⟩:=yV (L:=L) (i:=i) (by assumption);rw[e];exact ok.aO j hj
   ·simp[bk]
  ·have:jP (iU L)=bk L:=by
    show gl (iU L).l ((iU L).l.length-1)=_;rw[hgl _ (by omega),if_neg (by omega)]
   rw[this];simp[bk];omega
theorem sr(L:bL)(g:dw)(was:Nat)(d:bw):∀i,(cZ L g was d i).n=d.n/\(cZ L g was d i).calls<=d.calls+i
 |0=>⟨rfl,Nat.le_refl _⟩
 |i+1=>by
  have:=sr L g was d i;unfold cZ;split
  ·simp only[fW];omega
  ·omega
structure qE where
 H:PH
 y:gT
 L:bL
 d:bw
 body:List Int
 cap:Nat
noncomputable def A1:cF where
 α:=qE
 β:=mK
 m:=5
 m':=6
 pre:=fun a=>bT a.H a.y a.L/\ud a.L a.d/\1<=a.body.length/\a.body.length<=300
 args:=fun a=>[.a (.ptr 0 0 0 0),.a (.slc 4 0 1 a.body.length a.cap)]
 hp:=fun a=>[(0,fI 1 a.L a.y.lv)]++gn 1 2 a.d++[(3,.ct a.H)]
 ro:=fun a=>je 4 a.body
 post:=fun a b=>bT b.H b.y (lI a.L a.body)/\∀x,a.H x≠none->x∉bq a.y->b.H x=a.H x/\x∉bq b.y
 res:=fun a _=>.lY [.a (.int .i64 a.L.next),.a (.lit .i64 0)]
 cS:=fun a b=>[(0,fI 1 (lI a.L a.body) b.y.lv)]++gn 1 2 (nJ a.L a.d a.body)++[(5,.ct b.H)]
def VZ(a:qE):An:=.flat 17 Nat (fun s i=>S.dev (s.int 95 i) (s.oQ (s.tg 0) 0) (cZ (dr a.L a.body.length) (IW (jP (dr a.L a.body.length)) a.L.next a.body) (jP (dr a.L a.body.length)).buf.length (kr a.L a.d a.body.length) i)) (fun _ i=>i<=8) (fun _ i=>8-i)
def X8(a:qE):An:=.mk 10 (PH×gT) (fun s x=>S.log s 0 (dr a.L a.body.length) x.2.lv (kr a.L a.d a.body.length) x.1) (fun _ x=>bT x.1 x.2 (dr a.L a.body.length)/\∀z,a.H z≠none->z∉bq a.y->x.1 z=a.H z/\z∉bq x.2) (fun _ _=>0) fun _=>.mk 1000 [VZ a] []
def pP(x:Nat)(y z:List Value)(u:Nat):List Value:=List.take x y++z++List.drop (x+u) y
def yW(y:Nat)(z x:List Value):List Value:=pP y z x x.length
def jv(x:Nat)(y:List Value)(z u v w s:Nat):List Value:=yW x y (bG (Value.slice (Eh z u) (v+w) s))
def mz(f:Value)(g:Nat)(h:Nat->Option (Nat×List Value))(i:Nat)(j:Nat->Nat->Nat->List Value->Prop):Nat->Prop:=fun(v:Nat)=>∃w:Nat,f=pv v w/\∃s t:Nat,pv v w=pv s t/\∃x y z:Nat,∃u:List Value,pv s (t+g)=pv x (y+z)/\h x=some (y,u)/\z+i<=u.length/\j x y z u
def Ei(x y:Int):Int:=uw .u8 (cN x/y)
def z7(x y w s:Nat)(t:Nat->Option (Nat×List Value))(f:Nat)(g:IntKind)(h:List CK)(i j:Nat->Nat->Value)(k:Nat->Nat->Nat->List Value->Prop):=gq x y w s fun z=>(z≠0/\0+(x+y)<=x+y)/\∀(v l:Nat) (u:List Value),t v=none->u.length=z*f->(zV u 0 (CK.int g::h) (x+y) fun m n=>aX i 0 x j (0+m) n)->k z v l u
def Ca(y:Nat)(x:bL)(z:Nat)(u:Value)(v:gT)(w s:Int)(t:Bool)(f:Prop):=bu y x.from_/\bu z x.au/\u=v.lv/\w=x.next/\s=x.run/\t=x.fresh/\f
def sw(x:qE):Int:=(dr x.L (av x.body)).next+(1:Int)
def wF(z:mK)(x:qE):=pO z (lI x.L x.body) (fun u=>x.H u) x.y
def I2(x:qE)(u:PH)(v:PH×gT)(w:Bool)(s:bw):=∃z:mK,sw x-(1:Int)=x.L.next/\aR (u=z.H/\ag (Ca (dr x.L (av x.body)).from_ (lI x.L x.body) (dr x.L (av x.body)).au v.snd.lv z.y (sw x) (dr x.L (av x.body)).run w (fV s (nJ x.L x.d x.body) (wF z x/\True))))
def xM(x:qE)(y:Nat):bw:=cZ (dr x.L (av x.body)) (IW (jP (dr x.L (av x.body))) x.L.next x.body) (av (jP (dr x.L (av x.body))).buf) (kr x.L x.d (av x.body)) y
def sx(x:qE)(y:Int):Int:=Ei (dr x.L (av x.body)).next y
def V0(y z u:Int)(x:qE)(v w s:Int)(t f:Prop):=cC (Ei y z) (Ei y u) (aH (sx x v)) (cC (sx x w) (sx x s) t f)
def nK(z:PH×gT)(u:List Value)(v x y:Nat)(w:List Value)(s t f g:Nat)(h:List Value):PH:=aM (aJ (aM (aJ z.fst (aQ u v)) x y w) (eL x y (s+8) t)) f g h
def pQ(x:Prop):=cC 0 0 (0=0) x
def Cb(z:List Value)(u:Nat)(x:qE)(y:PH)(v:PH×gT)(w:bw)(s:Nat)(t:Prop):=ag (cQ (aQ z u)/\bO (aA 300 (af (av x.body))) (bp (pQ (aV (av x.body) x.cap/\y=y/\V0 (af (av x.body)) 256 1 x 1099511627776 4294967296 16777216 (aH (sx x 65536)) (cC (sx x 256) (sx x 1) (0=0) (fc (dr x.L (av x.body)) v.snd (fV w (xM x s) (bW x.body x.body cB/\t))))))))
def fA(x y:bL)(z u:gT)(v:Prop):=ag (tf x y z.lv u.lv v)
def K1(x:PH×gT)(z:qE):=bT x.fst x.snd (dr z.L (av z.body))/\∀u:Nat,wC (z.H u) z.y u (x.fst u) x.snd
def K2(x:qE)(z:PH)(u:bL)(v:gT)(w:bw):=∃y:PH×gT,bO (aA 300 (af (av x.body))) (bp (pQ (aV (av x.body) x.cap/\z=y.fst/\fA u (dr x.L (av x.body)) v y.snd (fV w (kr x.L x.d (av x.body)) (bW x.body x.body cB/\K1 y x/\True)))))
def K3(z:qE):=∃x:KW,ax (tf z.L x.L z.y.lv x.y.lv (fV z.d x.d (z.H=x.H/\Gc x/\∀u:mK,pO u (iU x.L) (fun v=>x.H v) x.y->K2 z u.H (iU x.L) u.y (sk x.L x.d))))
def K4(x y:Int)(z:List A):List A:=A.int .u8 x::A.int .u8 y::z
def K5(x z u:Int)(y:qE)(v w:Int)(s:List A):List A:=K4 (Ei x z) (Ei x u) (K4 (sx y v) (sx y w) s)
def ue(u:PH)(v:Value)(w:IntKind)(s:List CK)(t f g h i:Nat)(j:Nat->Nat->Value)(k:Nat->Nat->Nat->Nat->List Value->Prop):=Exists (jG u v (CK.int w) s fun y l m=>0+y<=y/\t<=f/\z7 y g h l (fun x=>aJ u v x) i w s m (fun x z=>j x z) fun x z n o=>k y x z n o)
def Cc(s:Nat)(g:Nat->Option (Nat×List Value))(h:Nat->Nat->Value)(t:PH)(f:Value)(i:Int)(j:Nat->Nat->List Value->Nat->Nat->Nat->Nat->List Value->Prop):=z7 0 s 1 0 (fun u=>g u) 1 .u8 [] (aN 1 []) h fun u x y v=>Exists (jG (aM t x y v) f (CK.int .i64) (iG CK.deep) fun z k l=>0+z<=z/\z7 z 1 32 k (fun w=>aJ (aM t x y v) f w) 2 .i64 (iG CK.deep) l (kD [A.int .i64 i,A.val (eL x y (0+s) u)] 2) fun w m n o=>j x y v z w m n o)
def oh(x:A):Nat:=[x].length
def gJ(x:List Int)(y:Nat):=1<=av x/\av x<=y
def nc(x y:Int)(z:Prop):=ai x->ai (x-y)/\z
def qF(x:Int->List Value)(y:List Int):Nat->Nat->Value:=fun(z u:Nat)=>aa x y (0+z) u
def K6(x y z u v w:Int)(s:Prop):=(0:Int)<=x/\bn y 6/\(0:Int)<=z/\bn u 6/\(0:Int)<=v/\bn w 6/\s
def yX(x:qE):=bT x.H x.y x.L/\ud x.L x.d/\gJ x.body 300
def yY(x:List Int)(z u:Prop):=∀y:Bool,(aF y->av x=0)->aG y z (0<=0/\mh x/\u)
def Cd(x:qE):=ai (dr x.L (av x.body)).next
theorem K7:fnBody (Y Tryz.prog) [(195,KY),(198,F6),(169,jA)] 162 A1 fun a=>[(162,[VZ a],[X8 a])]:=fnBody.of (p :=
 ∀x:qE,yX x->gU (aA (af (av x.body)) 1) (∃z:mK,(0:Int)=x.L.next/\(1:Int)=0/\x.H=z.H/\fA x.L (lI x.L x.body) x.y z.y (fV x.d (nJ x.L x.d x.body) (wF z x/\True))) (aA 300 (af (av x.body))) ((Exists (ga x.y.lv)/\aG (af (cU x.y.lv) == (0:Int)) (K3 x) (wD x.y (fun z=>x.H z) fun z U=>Exists (mq (aQ U z) 3 (fun n=>x.H n) fun n B=>ai ((370:Int)-af (av x.body))/\bf ((370:Int)-af (av x.body)) (cU (aQ B n)) (K3 x) (K2 x x.H x.L x.y x.d))))/\∀z:PH×gT,K1 z x->Exists (ga z.snd.lv)/\wD z.snd (fun n=>z.fst n) fun n B=>dZ 2 8/\0<8/\(0:Int)<=0/\bn 1 2/\(0:Int)<=8/\bn 0 2/\dZ 2 8/\2<8/\(Cd x->K6 0 5 8 4 16 3 (K6 24 2 32 1 40 0 (Exists (mq (aQ B n) 3 (fun M=>z.fst M) fun M Q=>Exists (gu (aQ B n) 3 (fun s=>z.fst s) (fun s=>dS s) fun s f=>0<8/\Exists (jG z.fst (aQ f s) (CK.int .u8) [] fun t V W=>0+t<=t/\z7 t 8 1 V (fun g=>aJ z.fst (aQ f s) g) 1 .u8 [] W (kD (K5 (af (av x.body)) 256 1 x 1099511627776 4294967296 (K5 (dr x.L (av x.body)).next 16777216 65536 x 256 1 [])) 1) fun g h j o=>ue (aM (aJ z.fst (aQ f s)) h j o) (eL h j (t+8) g) .u8 [] (0+av x.body) (av x.body) (av x.body) 1 1 (fun k l=>aa cB x.body (0+k) l) fun k l u v q=>Exists (mz (aQ B n) 3 (fun p=>aM (aJ (aM (aJ z.fst (aQ f s)) h j o) (eL h j (t+8) g)) u v q p) (oh (A.val (eL u v (k+av x.body) l))) fun p r c e=>(∃w:Nat,aK w (aW (cU (aQ Q M)) /\
 Cb B n x (aM (nK z f s h j o t g u v q) p r (jv c e u v k (av x.body) l)) z (kr x.L x.d (av x.body)) w (w<=8/\True)))/\∀w:Nat,w<=8->aG (aA (af w) 8) (aP w/\oe ((af w+(1:Int))*(48:Int)) 6 (aG (aA (af (cU (aQ Q M))) (oF true 0 ((af w+(1:Int))*(48:Int)-6))) (Exists (mq (aQ B n) 3 (fun m=>aM (nK z f s h j o t g u v q) p r (jv c e u v k (av x.body) l) m) fun m F=>oe (af w*(48:Int)) 6 (bf (oF true 0 (af w*(48:Int)-6)) (cU (aQ F m)) (∃D:r9,ag (aQ B n=pv D.y.b 0/\bu w D.i/\fV (xM x w) D.d (ag (tf (dr x.L (av x.body)) D.L z.snd.lv D.lv (aM (nK z f s h j o t g u v q) p r (jv c e u v k (av x.body) l)=D.H/\yQ D/\aI (dm w fun C=>aW (cU (aQ Q M))/\Cb B n x (aM (nK z f s h j o t g u v q) p r (jv c e u v k (av x.body) l)) z (yR D) C (bS C 8 w))))))) (dm w fun D=>aW (cU (aQ Q M))/\Cb B n x (aM (nK z f s h j o t g u v q) p r (jv c e u v k (av x.body) l)) z (xM x w) D (bS D 8 w))))) (dm w fun m=>aW (cU (aQ Q M))/\Cb B n x (aM (nK z f s h j o t g u v q) p r (jv c e u v k (av x.body) l)) z (xM x w) m (bS m 8 w)))) (Exists (gu (aQ B n) 4 (fun m=>aM (nK z f s h j o t g u v q) p r (jv c e u v k (av x.body) l) m) (fun m=>dS m) fun m F=>Cd x->yY x.body (ue (aM (nK z f s h j o t g u v q) p r (jv c e u v k (av x.body) l)) (aQ F m) .i64 (iG CK.deep) 1 1 1 32 2 (fun C J=>aN 2 (bt (dr x.L (av x.body)).next (bG fS)) (0+C) J) fun C J G I N=>Exists (mz (aQ B n) 4 (fun E=>aM (aJ (aM (nK z f s h j o t g u v q) p r (jv c e u v k (av x.body) l)) (aQ F m)) G I N E) (oh (A.val (eL G I (C+1) J))) fun E K P O=>Cd x ->
 ai (sw x)/\aG (dr x.L (av x.body)).fresh (nc (sw x) 1 (kq (xM x w) fun R=>I2 x (aM (aM (aJ (aM (nK z f s h j o t g u v q) p r (jv c e u v k (av x.body) l)) (aQ F m)) G I N) E K (jv P O G I C 1 J)) z false (fZ R))) (nc (sw x) 1 (I2 x (aM (aM (aJ (aM (nK z f s h j o t g u v q) p r (jv c e u v k (av x.body) l)) (aQ F m)) G I N) E K (jv P O G I C 1 J)) z (dr x.L (av x.body)).fresh (xM x w))))) (Cc (av x.body) (fun C=>aM (nK z f s h j o t g u v q) p r (jv c e u v k (av x.body) l) C) (qF cB x.body) (aM (nK z f s h j o t g u v q) p r (jv c e u v k (av x.body) l)) (aQ F m) (dr x.L (av x.body)).next fun C J G I N E K P=>Exists (mz (aQ B n) 4 (fun O=>aM (aJ (aM (aM (nK z f s h j o t g u v q) p r (jv c e u v k (av x.body) l)) C J G) (aQ F m)) E K P O) (oh (A.val (eL E K (I+1) N))) fun O S R T=>Cd x->ai (sw x)/\aG (dr x.L (av x.body)).fresh (nc (sw x) 1 (kq (xM x w) fun X=>I2 x (aM (aM (aJ (aM (aM (nK z f s h j o t g u v q) p r (jv c e u v k (av x.body) l)) C J G) (aQ F m)) E K P) O S (jv R T E K I 1 N)) z false (fZ X))) (nc (sw x) 1 (I2 x (aM (aM (aJ (aM (aM (nK z f s h j o t g u v q) p r (jv c e u v k (av x.body) l)) C J G) (aQ F m)) E K P) O S (jv R T E K I 1 N)) z (dr x.L (av x.body)).fresh (xM x w)))))))))))))))) (by kernel_rfl) (by
 delta aG aQ av bB cC gu ai bt jv bR aH gq oF aA cn af mz bO iA dZ Ei bG aF dL aU bn bP cQ eM Eh bW gU z7 ga aI I2 xM dm V0 nK bz dS aV bp Ca fc bS Cb K3 K5 fS kf wD wC jG cN aP aW ue iF yQ aK aR K2 bf Cc sw Gc oh ag pO gJ yW bx kq iG ax sx oe mq nc bu mh yR qF K6 yX fA wF iH pQ K4 yY pP K1 Cd
 try dsimp -iota -proj only
 rintro⟨H,y,L,d,body,cap⟩ ⟨hl,ok,hb1,hb2⟩;dsimp only at *;have hf:=ok.xL;have hcl:=ok.calls;have hnx:=ok.next
 have hng:=B9 ok;obtain⟨e1,_,⟨ea,ec,e2⟩,e3,_⟩:=hl.qC;refine⟨fun c1=>?_,fun _=>⟨fun c2=>?_,fun _=>⟨⟨⟨ea,_,ec,e2,e3⟩,fun c3=>?_,fun c3=>?_⟩,?_⟩⟩⟩
 ·simp at c1;omega
 ·simp at c2;omega
 ·rw[e1]at c3;have hn0:L.l.length=0:=by simpa using c3
  have hneed:qn L body.length=true:=by simp only[qn,hn0];rfl
  have e1:dr L body.length=iU L:=if_pos hneed;have e2:kr L d body.length=sk L d:=if_pos hneed;refine⟨KW.mk H y L d,?_⟩
  and_intros<;>first|exact cT|exact ok.au.1|exact ok.au.2|exact ok.room|exact ok.size|(simp only[bQ];omega)|skip
  intro b hpost;refine⟨(b.H,b.y),?_⟩;simp only[e1,e2]
  and_intros<;>first|exact cT|exact hpost.1|exact hpost.2|rfl
 ·rw[e1]at c3 ⊢;have hn0:0<L.l.length:=by have:=(beq_eq_false_iff_ne.1 c3);omega
  have hk:L.l.length-1<L.l.length:=by omega
  obtain⟨b,lo,o,c,cs,g1,g2,g3,g4⟩:=hl.at_ hk;have hs:=hl.seg _ hk;obtain⟨b1,b2,b3,b4,⟨ba,bc,b5⟩,b6⟩:=hs.buf.len;have e5:((L.l.length:Int)-1).toNat=L.l.length-1:=by omega
  refine⟨by simp only[bQ];omega,_,_,_,_,g1,by omega,b,lo,o+(L.l.length-1)*1,cs,by rw[e5,Nat.add_assoc],g2,⟨⟨_,g3,rfl⟩,trivial⟩,?_⟩;refine⟨_,_,g4,?_⟩;refine⟨_,_,rfl,?_⟩;refine⟨_,0,_,_,rfl,hs.cell,?_⟩;refine⟨⟨⟨_,rfl,b6⟩,trivial⟩,⟨ba,_,bc,b5,b3⟩,by simp only[bQ];omega,fun c4=>?_,fun c4=>?_⟩
  ·simp only[cR,List.getD_cons_succ,List.getD_cons_zero,b1]at c4;have hneed:qn L body.length=true:=by
    have:=of_decide_eq_true c4;rw[qn,Bool.or_eq_true];exact .inr (decide_eq_true (show 370<(jP L).buf.length+body.length by unfold jP;omega))
   have e1:dr L body.length=iU L:=if_pos hneed;have e2:kr L d body.length=sk L d:=if_pos hneed;refine⟨KW.mk H y L d,?_⟩
   and_intros<;>first|exact cT|exact ok.au.1|exact ok.au.2|exact ok.room|exact ok.size|(simp only[bQ];omega)|skip
   intro b hpost;refine⟨(b.H,b.y),?_⟩;simp only[e1,e2]
   and_intros<;>first|exact cT|exact hpost.1|exact hpost.2|rfl
  ·simp only[cR,List.getD_cons_succ,List.getD_cons_zero,b1]at c4;have hneed:qn L body.length=false:=by
    have:=of_decide_eq_false c4;rw[qn,Bool.or_eq_false_iff];exact⟨decide_eq_false (by omega),decide_eq_false (show ¬370<(jP L).buf.length+body.length by unfold jP;omega)⟩
   have e1:dr L body.length=L:=if_neg (by rw[hneed];decide);have e2:kr L d body.length=d:=if_neg (by rw[hneed];decide);refine⟨(H,y),?_⟩;simp only[e1,e2]
   and_intros<;>first|exact cT|exact hl|exact fun _ _ h=>⟨rfl,h⟩|exact fun _ _ h=>⟨trivial,h⟩|rfl
 ·rintro⟨X,Y⟩ ⟨hX,hfr⟩;dsimp only at hX hfr ⊢;have h1:=I1 (n:=body.length) ok hb2;have eA:lI L body=IX (dr L body.length) body:=rfl;have eD:nJ L d body=if(dr L body.length).fresh then fZ (qo (dr L body.length) (kr L d body.length) body)else qo (dr L body.length) (kr L d body.length) body:=rfl;rw[eA,eD];obtain⟨L1,hL1⟩:∃L1,L1=dr L body.length:=⟨_,rfl⟩
  obtain⟨d1,hd1⟩:∃d1,d1=kr L d body.length:=⟨_,rfl⟩
  rw[<- hL1]at hX;rw[<- hL1,<- hd1]at h1 ⊢;have hp:=h1.pos;have hk:L1.l.length-1<L1.l.length:=by omega
  obtain⟨k1,_,⟨ka,kc,k2⟩,k3,_⟩:=hX.qC;obtain⟨b,lo,o,c,cs,g1,g2,g3,g4⟩:=hX.at_ hk;have hs:=hX.X7 hk;obtain⟨sl,hsl⟩:∃sl,sl=gl Y.ys (L1.l.length-1):=⟨_,rfl⟩
  have hlg:jP L1=gl L1.l (L1.l.length-1):=rfl;obtain⟨g,hg⟩:∃g,g=jP L1:=⟨_,rfl⟩
  rw[<- hlg,<- hg,<- hsl]at hs;rw[<- hsl]at g3 g4;rw[<- hg];have hlast:=h1.last;rw[<- hg]at hlast;have hgen:=h1.gen _ hk;rw[<- hlg,<- hg]at hgen;obtain⟨b1,b2,b3,b4,⟨ba,bc,b5⟩,b6⟩:=hs.at_.buf.len;have e5:((L1.l.length:Int)-1).toNat=L1.l.length-1:=by omega
  rw[k1];have hfew:=h1.xL;refine⟨⟨ka,_,kc,k2,k3⟩,by simp only[bQ];omega,_,_,_,_,g1,by omega,b,lo,o+(L1.l.length-1)*1,cs,by rw[e5,Nat.add_assoc],g2,⟨⟨_,g3,rfl⟩,trivial⟩,?_⟩
  repeat refine kJ ?_
  intro _
  repeat refine kJ ?_
  refine⟨_,_,g4,?_⟩;refine⟨_,_,rfl,?_⟩;refine⟨_,0,_,_,rfl,hs.at_.cell,?_⟩;refine⟨⟨⟨_,rfl,b6⟩,trivial⟩,⟨ba,_,bc,b5,b3⟩,?_⟩;refine⟨_,_,g4,?_⟩;refine⟨_,_,rfl,?_⟩;refine⟨_,0,_,_,rfl,hs.at_.cell,?_⟩;refine⟨⟨⟨_,rfl,b6⟩,trivial⟩,?_⟩
  repeat refine kJ ?_
  obtain⟨c0,hbuf⟩:=hs.at_.buf;simp only[show(cR g sl.bv sl.rv).getD 3 (Value.tuple #[])=sl.bv from rfl];refine⟨_,c0,_,hbuf,?_⟩
  repeat refine kJ ?_
  intro cap1 q1 q2 q3
  repeat refine kJ ?_
  intro p1 lo1 cs1 hp1 hl1 hr1;have hA:Step X sl.bv (aM (aJ X sl.bv) p1 lo1 cs1) (eL p1 lo1 (g.buf.length+8) cap1):=q9 hp1;have hsA:jU (aM (aJ X sl.bv) p1 lo1 cs1) (eL p1 lo1 (g.buf.length+8) cap1) [.int .u8] (g.buf.length+8) cap1 (aa cB (g.buf++IV body.length L1.next)):=by
   refine mw hl1 q1 q2 hr1 fun i hi j hj=>?_;have hj0:j=0:=by simpa using hj
   subst hj0;simp only[Nat.zero_add,aX,aa,cB,List.getD_cons_zero];by_cases hin:i<g.buf.length
   ·rw[if_pos hin,bJ hin]
   ·rw[if_neg hin];obtain⟨m,rfl⟩:∃m,i=g.buf.length+m:=⟨i-g.buf.length,by omega⟩
    rw[aY,Nat.add_sub_cancel_left];have hm:m<8:=by omega
    match m,hm with
    |0,_=>rfl
    |1,_=>rfl
    |2,_=>rfl
    |3,_=>rfl
    |4,_=>rfl
    |5,_=>rfl
    |6,_=>rfl
    |7,_=>rfl
  refine⟨_,cap1,_,hsA,?_⟩
  repeat refine kJ ?_
  intro cap2 q4 q5 q6
  repeat refine kJ ?_
  intro p2 lo2 cs2 hp2 hl2 hr2;have hB:Step X sl.bv (aM (aJ (aM (aJ X sl.bv) p1 lo1 cs1) (eL p1 lo1 (g.buf.length+8) cap1)) p2 lo2 cs2) (eL p2 lo2 (g.buf.length+8+body.length) cap2):=hA.trans (q9 hp2);have hlb:(qD g L1.next body).length=g.buf.length+8+body.length:=by simp only[qD,List.length_append];rfl
  have hBy:fe (aM (aJ (aM (aJ X sl.bv) p1 lo1 cs1) (eL p1 lo1 (g.buf.length+8) cap1)) p2 lo2 cs2) (eL p2 lo2 (g.buf.length+8+body.length) cap2) (qD g L1.next body):=by
   refine⟨cap2,?_⟩;rw[hlb];refine mw hl2 q4 q5 hr2 fun i hi j hj=>?_;have hj0:j=0:=by simpa using hj
   subst hj0;simp only[Nat.zero_add,aX,aa,cB,List.getD_cons_zero,qD];have hl8:(g.buf++IV body.length L1.next).length=g.buf.length+8:=by rw[List.length_append];rfl
   by_cases hin:i<g.buf.length+8
   ·rw[if_pos hin,show gl (g.buf++IV body.length L1.next++body) i=gl (g.buf++IV body.length L1.next) i from bJ (by rw[hl8];exact hin)]
   ·rw[if_neg hin];obtain⟨m,rfl⟩:∃m,i=g.buf.length+8+m:=⟨i-(g.buf.length+8),by omega⟩
    rw[<- hl8,aY,Nat.add_sub_cancel_left]
  obtain⟨hc2,hs3,hf3⟩:=wE hs hB hBy;obtain⟨X2,hX2⟩:∃X2,X2=aM (aJ (aM (aJ X sl.bv) p1 lo1 cs1) (eL p1 lo1 (g.buf.length+8) cap1)) p2 lo2 cs2:=⟨_,rfl⟩
  rw[<- hX2]at hc2 hs3 hf3 ⊢;refine⟨_,_,g4,?_⟩;refine⟨_,_,rfl,?_⟩;refine⟨_,0,_,_,rfl,hc2,by simp[cR],?_⟩;obtain⟨X3,hX3⟩:∃X3,X3=aM X2 sl.b 0 (cR { g with buf:=qD g L1.next body } (eL p2 lo2 (g.buf.length+8+body.length) cap2) sl.rv):=⟨_,rfl⟩
  have eX3:aM X2 sl.b 0 (List.take 3 (cR g sl.bv sl.rv)++[Value.slice (some ⟨p2,lo2,none⟩) (g.buf.length+8+body.length) cap2]++List.drop (3+[Value.slice (some ⟨p2,lo2,none⟩) (g.buf.length+8+body.length) cap2].length) (cR g sl.bv sl.rv))=X3:=hX3.symm;rw[<- hX3]at hs3 hf3;simp only[eX3];obtain⟨sl3,hsl3⟩:∃s,s={ sl with bv:=eL p2 lo2 (g.buf.length+8+body.length) cap2 }:=⟨_,rfl⟩
  obtain⟨g3',hg3⟩:∃s:dw,s={ g with buf:=qD g L1.next body }:=⟨_,rfl⟩
  have hsw:IW g L.next body=g3':=by rw[hg3,<- h1.next];rfl
  have hb3:g3'.buf.length=g.buf.length+8+body.length:=by rw[hg3];exact hlb
  have hgen3:g3'.gen=g.gen:=by rw[hg3]
  have hv2:sl3.bv=eL p2 lo2 (g.buf.length+8+body.length) cap2:=by rw[hsl3]
  have hb3s:sl3.b=sl.b:=by rw[hsl3]
  rw[<- hsl3,<- hg3]at hs3;rw[<- hsl3]at hf3;have hcell3:=hs3.at_.cell;have hwn:=sr L1 g3' g.buf.length d1;have hsegs:=ok.au;have hroom:=ok.room;have hsize:=ok.size;have q1n:=h1.dn;have q1c:=h1.calls;have q1f:=h1.from_;have q1s:=h1.au;rw[hsw];refine⟨⟨0,?_⟩,fun i hi=>⟨fun c5=>?_,fun c5=>?_⟩⟩
  ·and_intros<;>first|exact cT|rfl|exact Nat.le_refl _|exact aj.refl _ _ _
  ·have hi8:i<8:=by have:=of_decide_eq_true c5;omega
   have em:(bif true then max 0 (((i:Int)+1)*48-6)else min 0 (((i:Int)+1)*48-6))=(bY (i+1):Nat):=by simp only[cond_true,bY];omega
   have em2:(bif true then max 0 ((i:Int)*48-6)else min 0 ((i:Int)*48-6))=(bY i:Nat):=by simp only[cond_true,bY];omega
   simp only[show(cR g sl.bv sl.rv).getD 3 (Value.tuple #[])=sl.bv from rfl,b1,em,em2];have hw1:=hwn i
   repeat refine kJ ?_
   refine⟨fun c6=>?_,fun c6=>?_⟩
   ·have c6:g.buf.length<bY (i+1):=by have:=of_decide_eq_true c6;omega
    refine⟨_,_,g4,?_⟩;refine⟨_,_,rfl,?_⟩;refine⟨_,0,_,_,rfl,by rw[<- hb3s];exact hcell3,?_⟩;refine⟨⟨⟨_,rfl,by rw[hv2];rfl⟩,trivial⟩,⟨_,_,_,hv2,Nat.le_trans q4 q5⟩,?_⟩;simp only[hv2,cR,List.getD_cons_succ,List.getD_cons_zero,Ob]
    repeat refine kJ ?_
    refine⟨fun c7=>?_,fun c7=>?_⟩
    ·have c7:bY i<g.buf.length+8+body.length:=by have:=of_decide_eq_true c7;omega
     have hcond:cZ L1 g3' g.buf.length d1 (i+1)=fW (cZ L1 g3' g.buf.length d1 i) (jN L1 g3' i) 64 (oL g3' i L1.run):=by
      have:sX g.buf.length g3'.buf.length i=true:=by simp only[sX,Bool.and_eq_true,decide_eq_true_eq];omega
      simp only[cZ,this,if_true]
     refine⟨r9.mk X3 sl3 g3' i L1 Y.lv (cZ L1 g3' g.buf.length d1 i),?_⟩
     and_intros<;>first|exact cT|exact hs3.at_|(rw[hb3s];exact g4)|exact aj.refl _ _ _|(dsimp only;omega)|skip
     intro _ _;refine⟨by simp only[bQ];omega,i+1,?_⟩;rw[hcond]
     and_intros<;>first|exact cT|exact aj.refl _ _ _|(simp only[fW];omega)|skip
    ·have c7:¬bY i<g.buf.length+8+body.length:=by have:=of_decide_eq_false c7;omega
     have hcond:cZ L1 g3' g.buf.length d1 (i+1)=cZ L1 g3' g.buf.length d1 i:=by
      have:sX g.buf.length g3'.buf.length i=false:=by simp only[sX,Bool.and_eq_false_iff,decide_eq_false_iff_not];omega
      simp only[cZ,this];rfl
     refine⟨by simp only[bQ];omega,i+1,?_⟩;rw[hcond]
     and_intros<;>first|exact cT|exact aj.refl _ _ _|skip
   ·have c6:¬g.buf.length<bY (i+1):=by have:=of_decide_eq_false c6;omega
    have hcond:cZ L1 g3' g.buf.length d1 (i+1)=cZ L1 g3' g.buf.length d1 i:=by
     have:sX g.buf.length g3'.buf.length i=false:=by simp only[sX,Bool.and_eq_false_iff,decide_eq_false_iff_not];omega
     simp only[cZ,this];rfl
    refine⟨by simp only[bQ];omega,i+1,?_⟩;rw[hcond]
    and_intros<;>first|exact cT|exact aj.refl _ _ _|skip
  ·have hi8:i=8:=by have:=of_decide_eq_false c5;omega
   subst hi8;have eD2:qo L1 d1 body=cZ L1 g3' g.buf.length d1 8:=by
    have:IW (jP L1) L1.next body=g3':=by rw[h1.next,<- hg];exact hsw
    unfold qo;rw[this,<- hg]
   refine⟨_,_,g4,?_⟩;refine⟨_,_,rfl,?_⟩;refine⟨_,0,_,_,rfl,by rw[<- hb3s];exact hcell3,?_⟩;obtain⟨c9,hrec⟩:=hs3.at_.aO;obtain⟨m1,m2,m3,m4,m5,_,m6⟩:=eR hrec;refine⟨⟨⟨_,rfl,m6⟩,trivial⟩,fun _ b11 hb11=>⟨fun e=>absurd (hb11 e) (by omega),fun _=>?_⟩⟩;simp only[show(cR g3' sl3.bv sl3.rv).getD 4 (Value.tuple #[])=sl3.rv from rfl,Nat.zero_add]
   repeat refine kJ ?_
   intro cap3 u1 u2 u3
   repeat refine kJ ?_
   intro p3 lo3 cs3 hp3 hl3 hr3;have hC:Step X3 (.slice none 0 0) (aM X3 p3 lo3 cs3) (eL p3 lo3 body.length cap3):=IY hp3;have hCb:fe (aM X3 p3 lo3 cs3) (eL p3 lo3 body.length cap3) body:=by
    refine⟨cap3,mw hl3 u1 u2 hr3 fun i hi j hj=>?_⟩;have hj0:j=0:=by simpa using hj
    subst hj0;simp only[aX,Nat.not_lt_zero,if_false,Nat.sub_zero]
   have hx3:∀x,X3 x≠none->x≠p3:=fun x hx e=>hx (by rw[e];exact hp3);have hrec4:jU (aM X3 p3 lo3 cs3) sl3.rv qZ g3'.aO.length c9 (tW g3'.aO sl3.vs):=iE hrec fun x hx=>cw (hx3 x (mo hrec x hx));refine⟨_,c9,_,hrec4,?_⟩;have hrc:=h1.aO _ hk;have hbc:=h1.buf _ hk;rw[<- hlg,<- hg]at hrc hbc;have hmr:g3'.aO.length=g.aO.length:=by rw[hg3]
   repeat refine kJ ?_
   intro cap4 w1 w2 w3
   repeat refine kJ ?_
   intro p4 lo4 cs4 hp4 hl4 hr4;have hD:Step (aM X3 p3 lo3 cs3) sl3.rv (aM (aJ (aM X3 p3 lo3 cs3) sl3.rv) p4 lo4 cs4) (eL p4 lo4 (g3'.aO.length+1) cap4):=q9 hp4;have hr5:jU (aM (aJ (aM X3 p3 lo3 cs3) sl3.rv) p4 lo4 cs4) (eL p4 lo4 (g3'.aO.length+1) cap4) qZ (g3'.aO.length+1) cap4 (tW (g3'.aO++[⟨L1.next,body⟩]) (sl3.vs++[eL p3 lo3 body.length cap3])):=by
    refine mw hl4 w1 w2 hr4 fun i hi j hj=>?_;have hvl:=hs3.at_.len;simp only[aX,tW,Nat.zero_add];by_cases hin:i<g3'.aO.length
    ·rw[if_pos hin,bJ hin];by_cases hj0:j=0
     ·rw[if_pos hj0,if_pos hj0]
     ·rw[if_neg hj0,if_neg hj0,List.getD_eq_getElem?_getD,List.getD_eq_getElem?_getD,List.getElem?_append_left (by omega)]
    ·rw[if_neg hin];obtain rfl:i=g3'.aO.length:=by omega
     rw[Nat.sub_self];have hj2:j<2:=hj
     match j,hj2 with
     |0,_=>rw[if_pos rfl,show g3'.aO.length=g3'.aO.length+0 from rfl,aY];rfl
     |1,_=>rw[if_neg (by decide),List.getD_eq_getElem?_getD,List.getElem?_append_right (by omega),hvl,Nat.sub_self];rfl
   obtain⟨hcell4,hcell5,hnd6,hfr6⟩:=z6 (r:=⟨L1.next,body⟩) hs3 hC hCb hD (fun x hx=>by
    simp only[fm,eL,List.mem_singleton]at hx;rw[hx,dB];simp) ⟨cap4,hr5⟩
   have hset:=hX.set hk (sl:=⟨sl3.b,sl3.bv,eL p4 lo4 (g3'.aO.length+1) cap4,sl3.vs++[eL p3 lo3 body.length cap3]⟩) (g:={ g3' with aO:=g3'.aO++[⟨L1.next,body⟩] }) (by rw[<- hsl];exact hb3s) hnd6 (by rw[<- hsl];exact hf3.trans hfr6);have hAll:=hset.1.congr (L':=IX L1 body) (by
    simp only[IX,Nn];rw[<- hg,hg3];rfl)
   have hFr:∀z,H z≠none->z∉bq y->aM (aM (aJ (aM X3 p3 lo3 cs3) sl3.rv) p4 lo4 cs4) sl3.b 0 (cR { g3' with aO:=g3'.aO++[⟨L1.next,body⟩] } sl3.bv (eL p4 lo4 (g3'.aO.length+1) cap4)) z=H z/\z∉bq ⟨Y.lv,Y.ys.set (L1.l.length-1) ⟨sl3.b,sl3.bv,eL p4 lo4 (g3'.aO.length+1) cap4,sl3.vs++[eL p3 lo3 body.length cap3]⟩⟩:=fun z hz hn=>by
    obtain⟨f1,f2⟩:=hfr z hz hn;obtain⟨f3,f4⟩:=hset.2 z (by rw[f1];exact hz) f2;exact⟨f3.trans f1,f4⟩
   obtain⟨X6,hX6⟩:∃X6,X6=aM (aM (aJ (aM X3 p3 lo3 cs3) sl3.rv) p4 lo4 cs4) sl3.b 0 (cR { g3' with aO:=g3'.aO++[⟨L1.next,body⟩] } sl3.bv (eL p4 lo4 (g3'.aO.length+1) cap4)):=⟨_,rfl⟩
   rw[<- hX6]at hAll;simp only[<- hX6]at hFr;refine⟨_,_,g4,?_⟩;refine⟨_,_,rfl,?_⟩;refine⟨_,0,_,_,rfl,by rw[<- hb3s];exact hcell5,by simp[cR],fun _=>?_⟩;have q1x:=h1.next
   have eDn:(qo L1 d1 body).n=d.n/\(qo L1 d1 body).calls<=d.calls+10:=by rw[eD2];have:=hwn 8;omega
   rw[eD2]at eDn;refine⟨by simp only[bQ];omega,fun hfre _=>⟨by simp only[bQ];omega,cZ L1 g3' g.buf.length d1 8,?_⟩,fun hfre _=>⟨by simp only[bQ];omega,?_⟩⟩
   ·and_intros<;>first|exact cT|exact aj.refl _ _ _|skip
    intro _ _;rw[hfre,if_pos rfl,eD2];refine⟨⟨X6,⟨Y.lv,Y.ys.set (L1.l.length-1) ⟨sl3.b,sl3.bv,eL p4 lo4 (g3'.aO.length+1) cap4,sl3.vs++[eL p3 lo3 body.length cap3]⟩⟩⟩,?_⟩
    and_intros<;>first|exact cT|exact hAll|exact hFr|(rw[hX6,hb3s];rfl)|exact Nat.le_refl _|exact aj.refl _ _ _|rfl|skip
   ·rw[hfre,if_neg (by decide),eD2];refine⟨⟨X6,⟨Y.lv,Y.ys.set (L1.l.length-1) ⟨sl3.b,sl3.bv,eL p4 lo4 (g3'.aO.length+1) cap4,sl3.vs++[eL p3 lo3 body.length cap3]⟩⟩⟩,?_⟩
    and_intros<;>first|exact cT|exact hAll|exact hFr|(rw[hX6,hb3s];rfl)|exact Nat.le_refl _|exact aj.refl _ _ _|rfl|skip)
theorem Ce:ak (Y Tryz.prog).G.X 162 A1:=aT fF K7 ⟨OL,Ee,iz,trivial⟩
structure mA(rs:List RecM):Prop where
 lt:∀i j,i<j->j<rs.length->(gl rs i).pos<(gl rs j).pos
 Az:∀i,i<rs.length->0<=(gl rs i).pos/\(gl rs i).pos<1000000000000
theorem uf{H:PH}{v:Value}{rs:List RecM}{vs:List Value}{n c:Nat}(h:jU H v qZ n c (tW rs vs)){k:Nat}(hk:k<n):∃b lo o cs,v=eL b (lo+o) n c/\H b=some (lo,cs)/\cs[o+k*2]? = some (.int .i64 (gl rs k).pos)/\cs[o+k*2+1]? = some (vs.getD k undef) /\
 (vs.getD k undef).oneCell'=true/\bQ .i64 (gl rs k).pos/\cs.getD (o+k*2) (Value.tuple #[]) = .int .i64 (gl rs k).pos/\cs.getD (o+k*2+1) (Value.tuple #[])=vs.getD k undef:=by
 rcases h with⟨_,h0,_⟩ | ⟨b,lo,o,cs,h1,h2,h3,h4,h5⟩
 ·omega
 ·obtain⟨g1,g2⟩:=h5.at_ k hk 0 (.int .i64) rfl;obtain⟨g3,g4⟩:=h5.at_ k hk 1 .deep rfl;have g1:cs[o+k*2]? = some (.int .i64 (gl rs k).pos):=g1;have g3:cs[o+k*2+1]? = some (vs.getD k undef):=g3;obtain⟨m,hm,hr⟩:=g2;have hr:bQ .i64 (gl rs k).pos:=by
   have:(Value.int .i64 (gl rs k).pos) = .int .i64 m:=hm;injection this with _ e
   rw[e];exact hr
  exact⟨b,lo,o,cs,h1,h3,g1,g3,g4,hr,by rw[List.getD_eq_getElem?_getD,g1];rfl,by rw[List.getD_eq_getElem?_getD,g3];rfl⟩
structure Gd where
 H:PH
 rv:Value
 rs:List RecM
 vs:List Value
 p:Int
noncomputable def WK:cF where
 α:=Gd
 β:=Nat
 m:=1
 m':=1
 pre:=fun a=>(∃c,jU a.H a.rv qZ a.rs.length c (tW a.rs a.vs))/\a.rs.length<=400/\mA a.rs/\0<=a.p/\a.p<1000000000000
 args:=fun a=>[.a (.val a.rv),.a (.int .i64 a.p),.a (.fn 238)]
 hp:=fun _=>[]
 ro:=fun a=>[(0,.ct a.H)]
 post:=fun a n=>n<=a.rs.length/\(∀k,k<n->(gl a.rs k).pos<a.p)/\∀k,n<=k->k<a.rs.length->a.p<=(gl a.rs k).pos
 res:=fun a n=>.lY [.a (.int .i64 n),.a (.bool (decide (n<a.rs.length)&&decide ((gl a.rs n).pos=a.p)))]
 cS:=fun _ _=>[]
def Y5(a:Gd):An:=.flat 3 (Nat×Nat) (fun s x=>(s.int 9 x.1).int 10 x.2) (fun _ x=>x.1<=x.2/\x.2<=a.rs.length/\(∀k,k<x.1->(gl a.rs k).pos<a.p)/\∀k,x.2<=k->k<a.rs.length->a.p<=(gl a.rs k).pos) (fun _ x=>x.2-x.1)
def wG(z:Nat)(x:Gd)(u:Nat):=z<=x.rs.length/\(∀y:Nat,y<u->(gl x.rs y).pos<x.p)/\∀y:Nat,z<=y->y<x.rs.length->x.p<=(gl x.rs y).pos
def ug(u:Nat)(v:Value)(w:Nat->Option (Nat×List Value))(s:Nat->List Value->Prop)(t:Prop):=pN u v 2 (fun x=>w x) (fun x=>jf x) (fun x y=>(∃z:Value,y[x+1]? = some z/\dS z)/\True) (fun x y=>s x y) t
def yZ(x:Nat×Nat):Int:=og (cN (af x.fst+af x.snd)/(2:Int))
def Ge(x:Gd):=(∃y:Nat,jU x.H x.rv (CK.int .i64::iG CK.deep) x.rs.length y (tW x.rs x.vs))/\x.rs.length<=400/\mA x.rs/\bn x.p 1000000000000
def Gf(x:Gd)(y:Nat×Nat)(z:Prop):=aW (cU x.rv)/\bp (aR (cQ x.rv/\aH x.p/\x.H=x.H/\(y.fst<=y.snd/\wG y.snd x y.fst)/\z))
def Cf(y:Nat)(x:Gd):Bool:=decide (y<x.rs.length)&&decide ((gl x.rs y).pos=x.p)
theorem U7:fnBody (Y Tryz.prog) [] 237 WK fun a=>[(237,[Y5 a],[])]:=fnBody.of (p :=
 ∀y:Gd,Ge y->Exists (ga y.rv)/\(∃x:Nat×Nat,bu (cU y.rv) x.snd/\aK x.fst (Gf y x True))/\∀x:Nat×Nat,x.fst<=x.snd/\wG x.snd y x.fst->bf (af x.fst) x.snd (ai (af x.fst+af x.snd)/\(0:Int)<=1/\Exists (iF y.rv (yZ x) fun v w=>iA v w (aU (yZ x)*2) (fun u=>y.H u) (fun u=>jf u) (fun u s=>(∃z:Value,s[u+1]? = some z/\dS z)/\True) fun u s=>nc (jC (aQ s u)) y.p (aG (aA (qz (jC (aQ s u)-y.p) (-1:Int) 1) 0) (ai (yZ x+(1:Int))/\∃z:Nat×Nat,bu x.snd z.snd/\yZ x+(1:Int)=af z.fst/\Gf y z (z.snd-z.fst<x.snd-x.fst)) (∃z:Nat×Nat,yZ x=af z.snd/\bu x.fst z.fst/\Gf y z (z.snd-z.fst<x.snd-x.fst))))) (ug x.fst y.rv (fun v=>y.H v) (fun v w=>nc (jC (aQ w v)) y.p (∃u:Nat,bu x.fst u/\(qz (jC (aQ w v)-y.p) (-1:Int) 1 == (0:Int))=Cf u y/\wG u y u/\True)) (∃v:Nat,bu x.fst v/\fM (Cf v y) (wG v y v) True))) (by kernel_rfl) (by
 delta aG aQ ai az aH oF aA cn af bO iA aF dL aU bn fM cQ ga pN dS bp wG cN aW iF aK aR bf ug yZ Ge Gf iG Cf qz nc bu jf og
 try dsimp -iota -proj only
 rintro⟨H,rv,rs,vs,p⟩ ⟨⟨c,hs⟩,h1,⟨h2,h2'⟩,h3,h4⟩;dsimp only at *;obtain⟨e1,_,_,e4,_,⟨ea,e2⟩,_⟩:=eR hs;refine⟨⟨ea,_,_,e2,by omega⟩,⟨(0,rs.length),?_⟩,fun x hx=>?_⟩
 ·rw[e1]
  (repeat' (first|apply And.intro|(intro _)))<;>first|exact cT|(exfalso;dsimp only at *;omega)
 ·obtain⟨i,j⟩:=x;obtain⟨x1,x2,x3,x4⟩:=hx;dsimp only at *;have hmid:uw .i64 (uw .u64 ((i:Int)+j)/2)=(((i+j)/2:Nat):Int):=by
   have e1:uw .u64 ((i:Int)+j)=(i:Int)+j:=by simp only[uw];omega
   rw[e1];have e2:((i:Int)+j)/2=(((i+j)/2:Nat):Int):=by omega
   rw[e2];exact eZ (k:=.i64) (by simp only[bQ];omega)
  refine⟨fun c1=>?_,fun c1=>?_⟩
  ·have c1:i<j:=by have:=of_decide_eq_true c1;omega
   obtain⟨m,hm⟩:∃m,m=(i+j)/2:=⟨_,rfl⟩
   rw[hmid,<- hm];have hmi:i<=m/\m<j:=by omega
   obtain⟨b,lo,o,cs,g1,g2,g3,g4,g5,g6,g7,g8⟩:=uf hs (k:=m) (by omega);have hr:=h2' m (by omega);refine⟨by simp only[bQ];omega,by omega,_,_,_,_,g1,by omega,b,lo,o+m*2,cs,by rw[Int.toNat_natCast,Nat.add_assoc],g2,⟨⟨_,g3,_,rfl,g6⟩,⟨_,g4,g5⟩,trivial⟩,fun _=>?_⟩;rw[g7];simp only[jC,cond_true,cond_false];refine⟨by simp only[bQ];omega,fun c2=>⟨by simp only[bQ];omega,(m+1,j),?_⟩,fun c2=>⟨(i,m),?_⟩⟩
   ·have c2:=of_decide_eq_true c2;have hlt:(gl rs m).pos<p:=by omega
    (repeat' (first|apply And.intro|(intro _)))<;>first|exact cT|skip
    ·rename_i k hk;by_cases hkm:k=m
     ·rw[hkm];exact hlt
     ·have:=h2 k m (by dsimp only at hk;omega) (by omega);omega
    ·rename_i k hk1 hk2;exact x4 k hk1 hk2
   ·have c2:=of_decide_eq_false c2;have hge:p<=(gl rs m).pos:=by omega
    (repeat' (first|apply And.intro|(intro _)))<;>first|exact cT|skip
    ·rename_i k hk;exact x3 k hk
    ·rename_i k hk1 hk2;by_cases hkm:k=m
     ·rw[hkm];exact hge
     ·have:=h2 m k (by dsimp only at hk1;omega) hk2;omega
  ·have c1:i=j:=by have:=of_decide_eq_false c1;omega
   subst c1;rw[e1];refine⟨fun c2=>?_,fun c2=>⟨i,?_⟩⟩
   ·have c2:i<rs.length:=by have:=of_decide_eq_true c2;omega
    obtain⟨b,lo,o,cs,g1,g2,g3,g4,g5,g6,g7,g8⟩:=uf hs (k:=i) c2;have hr:=h2' i c2;refine⟨_,_,_,_,g1,by omega,b,lo,o+i*2,cs,by rw[Int.toNat_natCast,Nat.add_assoc],g2,⟨⟨_,g3,_,rfl,g6⟩,⟨_,g4,g5⟩,trivial⟩,fun _=>?_⟩;rw[g7];simp only[jC,cond_true,cond_false];refine⟨by simp only[bQ];omega,i,?_⟩;have hb:(min (max ((gl rs i).pos-p) (-1)) 1 == 0)=(decide (i<rs.length)&&decide ((gl rs i).pos=p)):=by
     rw[Bool.eq_iff_iff];simp only[beq_iff_eq,Bool.and_eq_true,decide_eq_true_eq];omega
    (repeat' (first|apply And.intro|(intro _)))<;>first|exact cT|exact hb|(rename_i k hk;exact x3 k hk)|(rename_i k hk1 hk2;exact x4 k hk1 hk2)
   ·have c2:¬i<rs.length:=by have:=of_decide_eq_false c2;omega
    have hb:false=(decide (i<rs.length)&&decide ((gl rs i).pos=p)):=by simp[c2]
    (repeat' (first|apply And.intro|(intro _)))<;>first|exact cT|exact hb|(rename_i k hk;exact x3 k hk)|(rename_i k hk1 hk2;exact x4 k hk1 hk2))
theorem U8:ak (Y Tryz.prog).G.X 237 WK:=aT fF U7 trivial
def vI(rs:List RecM)(p:Int):Option (List Int):=(rs.find? fun r=>decide (r.pos=p)).map (·.body)
def fT(l:List dw)(p:Int):Option (List Int):=l.findSome? fun g=>vI g.aO p
def z8(o:Option (List Int)):Int:=match o with|some _=>0|none=>9
theorem No{α:Type}[Inhabited α]{l:List α}{k:Nat}(h:k<l.length):l.drop k=gl l k::l.drop (k+1):=by
 rw[bN h];exact List.drop_eq_getElem_cons h
theorem Np{α:Type}[Inhabited α]{q:α->Bool}:∀ {l:List α} {n:Nat},n<l.length->q (gl l n)=true->(∀k,k<n->q (gl l k)=false)->l.find? q=some (gl l n)
 |[],n,h,_,_=>by simp at h
 |x::l,0,_,h,_=>by
  have h:q x=true:=h;simp[List.find?_cons,h,gl]
 |x::l,n+1,hn,h,hk=>by
  have h0:q x=false:=hk 0 (by omega);have e:∀m,gl (x::l) (m+1)=gl l m:=fun m=>by simp[gl]
  rw[e]at h ⊢;rw[List.find?_cons,h0];exact Np (by simpa using hn) h fun k hkn=>by have:=hk (k+1) (by omega);rwa[e]at this
theorem U9{α:Type}[Inhabited α]{q:α->Bool}{l:List α}(h:∀k,k<l.length->q (gl l k)=false):l.find? q=none:=by
 rw[List.find?_eq_none];intro x hx;obtain⟨i,hi,rfl⟩:=List.getElem_of_mem hx;have:=h i hi;rw[bN hi]at this;simp[this]
structure I3 where
 H:PH
 y:gT
 L:bL
 p:Int
noncomputable def K8:cF where
 α:=I3
 β:=Nat
 m:=3
 m':=4
 pre:=fun a=>bT a.H a.y a.L/\a.L.l.length<1000/\0<=a.p/\a.p<1000000000000/\∀i,i<a.L.l.length->mA (gl a.L.l i).aO/\(gl a.L.l i).aO.length<=400/\∀k,k<(gl a.L.l i).aO.length->1<=(gl (gl a.L.l i).aO k).body.length/\(gl (gl a.L.l i).aO k).body.length<=1000
 args:=fun a=>[.a (.ptr 0 0 0 0),.a (.int .i64 a.p)]
 hp:=fun _=>[]
 ro:=fun a=>[(0,fI 2 a.L a.y.lv),(1,.ct a.H)]
 post:=fun a c=>((fT a.L.l a.p).getD []).length<=c
 res:=fun a c=>.lY [.a (.slc 3 0 1 ((fT a.L.l a.p).getD []).length c),.a (.int .i64 (z8 (fT a.L.l a.p)))]
 cS:=fun a c=>je 3 ((fT a.L.l a.p).getD [])
def WL(a:I3):An:=.flat 4 Nat (fun s k=>s.int 17 k) (fun _ k=>k<=a.L.l.length/\fT (a.L.l.drop k) a.p=fT a.L.l a.p) (fun _ k=>a.L.l.length-k)
def eo(x y:Prop):=ag (x/\ag y)
def om(x:bL)(y:Nat):Nat:=(gl x.l y).aO.length
def wH(x:bL)(y:Nat):=om x y<=400/\∀z:Nat,z<om x y->gJ (gl (gl x.l y).aO z).body 1000
def qG(x:I3):List Int:=(fT x.L.l x.p).getD []
def jg(x:Value)(y:Prop):=aW (cU x)/\cQ x/\y
def Gg(x:I3):=bz x.L<1000/\(0:Int)<=x.p/\x.p<(1000000000000:Int)/\∀y:Nat,y<bz x.L->mA (gl x.L.l y).aO/\wH x.L y
def Gh(y:Nat)(x:I3):=fT (List.drop y x.L.l) x.p=fT x.L.l x.p
def Cg(x:Value)(v:Prop)(w:PH)(s:Nat->(Nat->Nat->Value)->Prop):=(∃y:Option Go.Addr,∃u z:Nat,x=Value.slice y u z)/\aG (Dw x) v (0<=0/\Exists (jG w x (CK.int .u8) [] fun y u z=>s y z))
theorem OM:fnBody (Y Tryz.prog) [(237,WK)] 213 K8 fun a=>[(213,[WL a],[])]:=fnBody.of (p :=
 ∀x:I3,bT x.H x.y x.L/\Gg x->Exists (ga x.y.lv)/\(∃z:Nat,aK z (jg x.y.lv (bp (aR (eo (aH x.p) (fc x.L x.y (x.H=x.H/\(z<=bz x.L/\Gh z x)/\True)))))))/\∀z:Nat,z<=bz x.L/\Gh z x->pN z x.y.lv 1 (fun v=>x.H v) (fun v=>dS v) (fun v g=>True) (fun v g=>Exists (gu (aQ g v) 4 (fun t=>x.H t) (fun t=>dS t) fun t n=>∃w:Gd,aQ n t=w.rv/\x.p=w.p/\x.H=w.H/\Ge w/\∀f:Nat,wG f w f->aG (Cf f w) (Exists (gu (aQ g v) 4 (fun u=>x.H u) (fun u=>dS u) fun u o=>Exists (iF (aQ o u) (af f) fun q r=>∃h i:Nat,pv q (r+az f*2)=pv h i/\iA h i 1 (fun s=>x.H s) (fun s=>dS s) (fun s j=>True) fun s j=>Cg (aQ j s) (BV (av (qG x)) 0 (z8 (fT x.L.l x.p))) x.H fun k c=>gq 0 k 1 0 fun d=>∃m:Nat,gp (0+k) (av (qG x)) d m ((0:Int)=z8 (fT x.L.l x.p)) 1 (tQ c) (aa cB (qG x)) (av (qG x)<=m/\True)))) (dm z fun u=>jg x.y.lv (bp (aR (eo (aH x.p) (fc x.L x.y (x.H=x.H/\dO u (bz x.L) (Gh u x) z)))))))) (BV (av (qG x)) 9 (z8 (fT x.L.l x.p)))) (by kernel_rfl) (by
 delta aG aQ av bB gu ai az aH gq aA cn af bO iA dO aF aU bn eo cQ gp ga pN dm bz dS bp wG fc wH jG qG aP aW iF aK aR bf ag Ge jg gJ bx iG Cf Gg BV om Gh Cg tQ
 try dsimp -iota -proj only
 rintro⟨H,y,L,p⟩ ⟨hl,h1,h2,h3,h4⟩;dsimp only at *;obtain⟨e1,_,⟨ea,ec,e2⟩,e3,_⟩:=hl.qC;refine⟨⟨ea,_,ec,e2,e3⟩,⟨0,?_⟩,fun k hk=>?_⟩
 ·and_intros<;>first|exact cT|rfl
 ·obtain⟨hk1,hk2⟩:=hk;rw[e1];refine⟨fun c1=>?_,fun c1=>⟨0,?_⟩⟩
  ·have hk:k<L.l.length:=by have:=of_decide_eq_true c1;omega
   obtain⟨b,lo,o,c,cs,g1,g2,g3,g4⟩:=hl.at_ hk;have hs:=hl.seg k hk;obtain⟨hso,hrl,hbl⟩:=h4 k hk;obtain⟨c9,hrec⟩:=hs.aO;obtain⟨m1,m2,m3,m4,m5,⟨ma,m7⟩,m6⟩:=eR hrec;rw[No hk]at hk2;simp only[fT,List.findSome?_cons]at hk2;refine⟨_,_,_,_,g1,by omega,b,lo,o+k*1,cs,by rw[Int.toNat_natCast,Nat.add_assoc],g2,⟨⟨_,g3,rfl⟩,trivial⟩,?_⟩;refine⟨_,_,g4,?_⟩;refine⟨_,_,rfl,?_⟩;refine⟨_,0,_,_,rfl,hs.cell,?_⟩;refine⟨⟨⟨_,rfl,m6⟩,trivial⟩,Gd.mk H (gl y.ys k).rv (gl L.l k).aO (gl y.ys k).vs p,?_⟩
   and_intros<;>first|exact cT|rfl|exact⟨c9,hrec⟩|exact hso|skip
   rintro n ⟨n1,n2,n3⟩;dsimp only at n1 n2 n3 ⊢;refine⟨fun c2=>?_,fun c2=>⟨by simp only[bQ];omega,k+1,?_⟩⟩
   ·simp only[Bool.and_eq_true,decide_eq_true_eq]at c2;obtain⟨c2,c3⟩:=c2;have hfind:vI (gl L.l k).aO p=some (gl (gl L.l k).aO n).body:=by
     unfold vI;rw[Np (q:=fun(r:RecM)=>decide (r.pos=p)) c2 (by simp[c3]) fun q hq=>by have:=n2 q hq;simp;omega];rfl
    have hread:fT L.l p=some (gl (gl L.l k).aO n).body:=by
     rw[hfind]at hk2;simp only[fT];exact hk2.symm
    rw[hread];obtain⟨b',lo',o',cs',q1,q2,q3,q4,q5,q6,q7,q8⟩:=uf hrec (k:=n) c2;obtain⟨cb,hbody⟩:=hs.body n c2;obtain⟨w1,w2,w3,w4,w5,⟨wa,w7⟩,w6⟩:=eR hbody;obtain⟨hb1,hb2⟩:=hbl n c2;refine⟨_,_,g4,?_⟩;refine⟨_,_,rfl,?_⟩;refine⟨_,0,_,_,rfl,hs.cell,?_⟩;refine⟨⟨⟨_,rfl,m6⟩,trivial⟩,_,_,_,_,q1,by omega,_,_,rfl,b',lo',o'+n*2+1,cs',by rw[Int.toNat_natCast];congr 1;omega,q2,⟨⟨_,q4,q5⟩,trivial⟩,?_⟩;rw[q8];have hnil:Dw ((gl y.ys k).vs.getD n undef)=false:=by
     rcases hbody with⟨_,h0,_⟩ | ⟨b9,lo9,o9,cs9,h9,_⟩
     ·omega
     ·rw[h9];rfl
    refine⟨⟨wa,_,_,w7⟩,fun c4=>absurd c4 (by rw[hnil];decide),fun _=>?_⟩
    repeat refine kJ ?_
    refine⟨_,cb,_,hbody,?_⟩
    repeat refine kJ ?_
    intro cap u1 u2 u3;refine⟨cap,?_⟩;have hrw:aj (gl (gl L.l k).aO n).body.length 1 (aX (aN 1 []) 0 0 (aa cB (gl (gl L.l k).aO n).body)) (aa cB (gl (gl L.l k).aO n).body):=⟨fun i hi j hj=>by
     simp only[aX,Nat.not_lt_zero,if_false,Nat.sub_zero]⟩
    simp only[Nat.zero_add,Option.getD_some,z8]
    and_intros<;>first|exact cT|exact hrw
   ·have hnone:vI (gl L.l k).aO p=none:=by
     unfold vI;rw[U9 (q:=fun(r:RecM)=>decide (r.pos=p)) fun q hq=>?_]
     ·rfl
     ·simp only[decide_eq_false_iff_not];intro e;rcases Nat.lt_or_ge q n with hqn|hqn
      ·have:=n2 q hqn;omega
      ·by_cases hqe:q=n
       ·subst hqe;simp[hq,e]at c2
       ·have:=hso.lt n q (by omega) hq;have:=n3 n (Nat.le_refl _) (by omega);omega
    rw[hnone]at hk2
    and_intros<;>first|exact cT|exact hk2
  ·have hkn:k=L.l.length:=by have:=of_decide_eq_false c1;omega
   subst hkn;rw[List.drop_length]at hk2;have:fT L.l p=none:=hk2.symm;rw[this]
   and_intros<;>first|exact cT|rfl)
def iP(l:List dw)(next:Int):Int:=match l.find? (fun g=>decide (0<g.aO.length))with|some g=>(gl g.aO 0).pos|none=>next
structure DG where
 H:PH
 y:gT
 L:bL
noncomputable def Ch:cF where
 α:=DG
 β:=Unit
 m:=3
 m':=3
 pre:=fun a=>bT a.H a.y a.L/\a.L.l.length<1000
 args:=fun a=>[.a (.ptr 0 0 0 0)]
 hp:=fun _=>[]
 ro:=fun a=>[(0,fI 2 a.L a.y.lv),(1,.ct a.H)]
 post:=fun _ _=>True
 res:=fun a _=>.a (.int .i64 (iP a.L.l a.L.next))
 cS:=fun _ _=>[]
def WM(a:DG):An:=.flat 4 Nat (fun s k=>s.int 12 k) (fun _ k=>k<=a.L.l.length/\iP (a.L.l.drop k) a.L.next=iP a.L.l a.L.next) (fun _ k=>a.L.l.length-k)
def uh(x y:Int):=ai x->Exists (bV (x=y))
def Gi(y:Nat)(x:DG):=iP (List.drop y x.L.l) x.L.next=iP x.L.l x.L.next
theorem ON:fnBody (Y Tryz.prog) [] 164 Ch fun a=>[(164,[WM a],[])]:=fnBody.of (p :=
 ∀x:DG,bT x.H x.y x.L/\bz x.L<1000->Exists (ga x.y.lv)/\(∃z:Nat,aK z (jg x.y.lv (bp (aR (ax (fc x.L x.y (x.H=x.H/\(z<=bz x.L/\Gi z x)/\True)))))))/\∀z:Nat,z<=bz x.L/\Gi z x->pN z x.y.lv 1 (fun v=>x.H v) (fun v=>dS v) (fun v s=>True) (fun v s=>Exists (mq (aQ s v) 4 (fun t=>x.H t) fun t i=>bf 0 (cU (aQ i t)) (Exists (gu (aQ s v) 4 (fun u=>x.H u) (fun u=>dS u) fun u j=>Exists (iF (aQ j u) 0 fun k m=>∃f g:Nat,pv k (m+0)=pv f g/\iA f g 0 (fun w=>x.H w) (fun w=>jf w) (fun w h=>True) fun w h=>uh (jC (aQ h w)) (iP x.L.l x.L.next)))) (dm z fun u=>jg x.y.lv (bp (aR (ax (fc x.L x.y (x.H=x.H/\dO u (bz x.L) (Gi u x) z)))))))) (uh x.L.next (iP x.L.l x.L.next))) (by kernel_rfl) (by
 delta aG aQ gu ai bR az aH aA cn af bO iA dO aF dL aU bn cQ ga pN dm bV bz dS bp fc ay aP aW iF aK aR bf ag jg bg bx ax mq uh Gi jf
 try dsimp -iota -proj only
 rintro⟨H,y,L⟩ ⟨hl,h1⟩;dsimp only at *;obtain⟨e1,_,⟨ea,ec,e2⟩,e3,_⟩:=hl.qC;refine⟨⟨ea,_,ec,e2,e3⟩,⟨0,?_⟩,fun k hk=>?_⟩
 ·and_intros<;>first|exact cT|rfl
 ·obtain⟨hk1,hk2⟩:=hk;rw[e1];refine⟨fun c1=>?_,fun c1 _=>⟨(),?_⟩⟩
  ·have hk:k<L.l.length:=by have:=of_decide_eq_true c1;omega
   obtain⟨b,lo,o,c,cs,g1,g2,g3,g4⟩:=hl.at_ hk;have hs:=hl.seg k hk;obtain⟨c9,hrec⟩:=hs.aO;obtain⟨m1,m2,m3,m4,m5,⟨ma,m7⟩,m6⟩:=eR hrec;rw[No hk]at hk2;simp only[iP,List.find?_cons]at hk2;refine⟨_,_,_,_,g1,by omega,b,lo,o+k*1,cs,by rw[Int.toNat_natCast,Nat.add_assoc],g2,⟨⟨_,g3,rfl⟩,trivial⟩,?_⟩;refine⟨_,_,g4,?_⟩;refine⟨_,_,rfl,?_⟩;refine⟨_,0,_,_,rfl,hs.cell,?_⟩;refine⟨⟨⟨_,rfl,m6⟩,trivial⟩,⟨ma,_,_,m7,by omega⟩,?_⟩;simp only[show(cR (gl L.l k) (gl y.ys k).bv (gl y.ys k).rv).getD 4 (Value.tuple #[])=(gl y.ys k).rv from rfl,m1];refine⟨fun c2=>?_,fun c2=>⟨by simp only[bQ];omega,k+1,?_⟩⟩
   ·have c2:0<(gl L.l k).aO.length:=by have:=of_decide_eq_true c2;omega
    obtain⟨b',lo',o',cs',q1,q2,q3,q4,q5,q6,q7,q8⟩:=uf hrec (k:=0) c2;rw[decide_eq_true c2]at hk2;refine⟨_,_,g4,?_⟩;refine⟨_,_,rfl,?_⟩;refine⟨_,0,_,_,rfl,hs.cell,?_⟩;refine⟨⟨⟨_,rfl,m6⟩,trivial⟩,_,_,_,_,q1,by omega,_,_,rfl,b',lo',o',cs',rfl,q2,⟨⟨_,q3,_,rfl,q6⟩,trivial⟩,fun _=>⟨(),?_⟩⟩;have q7':cs'.getD o' (Value.tuple #[]) = .int .i64 (gl (gl L.l k).aO 0).pos:=q7;rw[q7']
    and_intros<;>first|exact cT|exact hk2
   ·have c2:¬0<(gl L.l k).aO.length:=by have:=of_decide_eq_false c2;omega
    rw[decide_eq_false c2]at hk2
    and_intros<;>first|exact cT|exact hk2
  ·have hkn:k=L.l.length:=by have:=of_decide_eq_false c1;omega
   subst hkn;rw[List.drop_length]at hk2
   and_intros<;>first|exact cT|exact hk2)
theorem OO:ak (Y Tryz.prog).G.X 213 K8:=aT fF OM ⟨U8,trivial⟩
theorem y3:ak (Y Tryz.prog).G.X 164 Ch:=aT fF ON trivial
def gB(f:Nat->Int)(r len:Nat):Int:=jK (fun k=>f (r+k)) len
def sA(i:Nat):Nat:=if i=0 then 22 else 16
def pR(g:dw)(i:Nat)(f:Nat->Int):dw:=if i=0 then { g with gen:=uw .i64 (gB f 4 6),base:=uw .i64 (gB f 16 6) }else g
def fJ(g:dw)(i:Nat)(f:Nat->Int):Bool :=
 (vw f == gB f 0 4)&&((uw .i64 (gB f 4 6) == (pR g i f).gen)&&(!decide (uw .i64 (gB f 10 4)<g.run)&&((f 14 == (i:Int))&&(decide (f 15<=ki i)&&decide (g.buf.length=bY i)))))
def gv(g:dw)(i:Nat)(f:Nat->Int):dw :=
 if fJ g i f then { pR g i f with run:=uw .i64 (gB f 10 4),buf:=g.buf++(List.range (f 15).toNat).map fun k=>f (sA i+k) }else pR g i f
theorem sB{X:PH}{y:mm}{g g':dw}(h:fC X y g)(hb:g'.buf=g.buf)(hr:g'.aO=g.aO)(hg:bQ .i64 g'.gen/\bQ .i64 g'.base/\bQ .i64 g'.run) :
 fC (aM X y.b 0 (cR g' y.bv y.rv)) y g'/\Fr X y (aM X y.b 0 (cR g' y.bv y.rv)) y:=by
 obtain⟨⟨n1,n2,n3⟩,_⟩:=B8.1 h.nd;refine⟨⟨⟨dB ..,hg,?_,?_,by rw[hr];exact h.at_.len,fun i hi=>?_⟩,h.nd⟩,fun x hx hn=>⟨cw fun e=>hn (by rw[e];exact List.mem_cons_self),hn⟩⟩
 ·rw[hb];exact h.at_.buf.frame fun x hx=>cw fun e=>n1 (by rw[<- e];exact hx)
 ·rw[hr];obtain⟨c,hc⟩:=h.at_.aO;exact⟨c,iE hc fun x hx=>cw fun e=>n2 (by rw[<- e];exact hx)⟩
 ·rw[hr]at hi ⊢;refine(h.at_.body i hi).frame fun x hx=>cw fun e=>n3 ?_;rw[<- e];refine List.mem_flatMap.2 ⟨_,?_,hx⟩;have:=h.at_.len;rw[List.getD_eq_getElem?_getD,List.getElem?_eq_getElem (by omega)];exact List.getElem_mem _
structure xN where
 H:PH
 y:mm
 g:dw
 i:Nat
 f:Nat->Int
 cap:Nat
structure Aa where
 H:PH
 y:mm
noncomputable def RP:cF where
 α:=xN
 β:=Aa
 m:=2
 m':=3
 pre:=fun a=>fC a.H a.y a.g/\a.i<8/\a.g.buf.length<=378/\64<=a.cap/\(fJ a.g a.i a.f=true->0<a.f 15)
 args:=fun a=>[.a (.val (pv a.y.b 0)),.a (.int .i64 a.i),.a (.slc 1 0 1 64 a.cap)]
 hp:=fun a=>[(0,.ct a.H)]
 ro:=fun a=>[(1,.arr 5 [.int .u8] 64 (bK a.f))]
 post:=fun a b=>fC b.H b.y (gv a.g a.i a.f)/\b.y.b=a.y.b/\b.y.rv=a.y.rv/\Fr a.H a.y b.H b.y
 res:=fun a _=>.a (.bool (fJ a.g a.i a.f))
 cS:=fun _ b=>[(2,.ct b.H)]
def S.ct(s:S)(H:PH):S:=(s.put (s.hp.del (IZ s))).new (.ct H)
def WN(a:xN):An:=.mk 5 PH (fun s H=>S.ct (s.set 7 (.a (.slc (s.tg 2) (sA a.i) 1 (ki a.i) (a.cap-sA a.i)))) H) (fun _ H=>fC H a.y (pR a.g a.i a.f)/\Fr a.H a.y H a.y) (fun _ _=>0) fun _=>.mk 1000 [] []
def qH(x:wo):Int:=og (qx x x.len)
def Ab(x:Nat)(y:List Value)(z:wo):List Value:=yW x y (bt (qH z) [])
def Ci(z:Aa)(x:xN):=fC z.H z.y (gv x.g x.i x.f)/\z.y.b=x.y.b/\z.y.rv=x.y.rv/\Fr x.H x.y z.H z.y
def wI(z:Bool)(x:xN)(u:PH)(v:Prop):=aG z (∃y:Aa,fM (fJ x.g x.i x.f) (u=y.H) (Ci y x/\True)) v
def uj(y z u v:Nat)(w:Nat->Int)(s:wo->Prop):=∃x:wo,(y=x.r/\z=x.len/\u-v=x.cap)/\bB x.n 64 1 (bK w) x.rows/\(x.r+x.len<=x.n/\x.len<=8)/\aI (s x)
def K9(u:Nat)(x:xN)(v w s:Nat)(t:PH):=∃z:PH,(u=sA x.i/\v=ki x.i/\w-s=x.cap-sA x.i)/\bp (cQ (pv x.y.b 0)/\aW x.i/\aV 64 x.cap/\t=z/\dK 64 1 (bK x.f)/\(fC z x.y (pR x.g x.i x.f)/\Fr x.H x.y z x.y)/\True)
def Gj(x:xN):=fC x.H x.y x.g/\x.i<8/\av x.g.buf<=378/\64<=x.cap/\(aF (fJ x.g x.i x.f)->(0:Int)<x.f 15)
theorem RQ:fnBody (Y Tryz.prog) [(230,II),(203,Rn)] 231 RP fun a=>[(231,[],[WN a])]:=fnBody.of (p :=
 ∀x:xN,Gj x->dZ 16 64/\aG (af x.i == (0:Int)) (dh 10 x.cap/\dZ 4 10/\dh 6 (x.cap-16)/\uj 4 6 x.cap 4 x.f fun z=>uj 16 6 (x.cap-16) 0 x.f fun G=>Exists (mz (pv x.y.b 0) 0 (fun v=>x.H v) (oh (A.int .i64 (qH z))) fun v u h s=>Exists (mz (pv x.y.b 0) 1 (fun j=>aM x.H v u (Ab h s z) j) (oh (A.int .i64 (qH G))) fun j e k B=>dZ 6 48/\K9 22 x 42 (x.cap-16) 6 (aM (aM x.H v u (Ab h s z)) j e (Ab k B G))))) (K9 16 x 48 x.cap 16 x.H)/\∀z:PH,fC z x.y (pR x.g x.i x.f)/\Fr x.H x.y z x.y->dh 14 x.cap/\dZ 10 14/\uj 10 4 x.cap 10 x.f fun v=>dZ 4 64/\dh 4 x.cap/\∃u:yF,bR 1 (1=u.c)/\(4=u.r/\60=u.len/\x.cap-4=u.cap)/\bB u.n 64 1 (bK x.f) u.rows/\(u.r+u.len<=u.n/\u.len<100000)/\aI (uj 0 4 x.cap 0 x.f fun h=>wI (tN u u.len != qx h h.len) x z (dh 10 x.cap/\dZ 4 10/\Exists (ic (pv x.y.b 0) 0 (fun s=>z s) fun s j=>uj 4 6 x.cap 4 x.f fun e=>wI (qH e != jC (aQ j s)) x z (Exists (ic (pv x.y.b 0) 2 (fun k=>z k) fun k B=>wI (aA (qH v) (jC (aQ B k))) x z (bn 14 64/\14<64/\(jD (x.f 14)->wI (x.f 14 != af x.i) x z (bn 15 64/\15<64/\(jD (x.f 15)->wI (aA (af (ki x.i)) (x.f 15)) x z (Exists (mq (pv x.y.b 0) 3 (fun C=>z C) fun C K=>oe (af x.i*(48:Int)) 6 (wI (af (cU (aQ K C)) != oF true 0 (af x.i*(48:Int)-6)) x z (Exists (mz (pv x.y.b 0) 2 (fun t=>z t) (oh (A.int .i64 (qH v))) fun t l m o=>Exists (gu (pv x.y.b 0) 3 (fun w=>aM z t l (Ab m o v) w) (fun w=>dS w) fun w D=>bn 15 64 /\
 15<64/\(jD (x.f 15)->dh (x.f 15) (x.cap-sA x.i)/\ue (aM z t l (Ab m o v)) (aQ D w) .u8 [] (sA x.i+0+(aU (x.f 15)-0)) 64 (aU (x.f 15)-0) 1 1 (fun p E=>fk (x.f (sA x.i+0+p))) fun p E q d I=>Exists (mz (pv x.y.b 0) 3 (fun F=>aM (aJ (aM z t l (Ab m o v)) (aQ D w)) q d I F) (oh (A.val (eL q d (p+(aU (x.f 15)-0)) E))) fun F L M N=>∃J:Aa,true=fJ x.g x.i x.f/\aM (aM (aJ (aM z t l (Ab m o v)) (aQ D w)) q d I) F L (jv M N q d p (aU (x.f 15)-0) E)=J.H/\Ci J x/\True)))))))))))))))))) (by kernel_rfl) (by
 delta aG aQ av bB gu ai bt jv bR aH gq oF aA af mz bO iA dZ bG fk aF dL aU bn fM bP cQ eM Eh dK z7 ga aI Ab wI dS aV bp ic jG qH uj aW ue tN oh ag Ci yW K9 qx oe mq jD Gj dh jf tM pP og
 try dsimp -iota -proj only
 rintro⟨H,y,g,i,f,cap⟩ ⟨hs,hi,hlen,hcap,hpos⟩;dsimp only at *;have eG:∀r len,jK (fun i=>u8 (bK f) (r+i)) len=gB f r len:=fun _ _=>rfl;have eS:dy .xor .u32 4294967295 (qi (fun i=>u8 (bK f) (4+i)) 60)=vw f:=rfl;obtain⟨rg1,rg2,rg3⟩:=hs.at_.Az
 repeat refine kJ ?_
 refine⟨⟨fun c1=>?_,fun c1=>?_⟩,?_⟩
 ·have hi0:i=0:=by simpa using c1
  subst hi0
  repeat refine kJ ?_
  refine⟨wo.mk 4 6 (cap-4) 64 (bK f),?_⟩
  and_intros<;>first|exact cT|skip
  intro _ _;refine⟨wo.mk 16 6 (cap-16-0) 64 (bK f),?_⟩
  and_intros<;>first|exact cT|skip
  intro _ _;dsimp only;simp only[eG];have s1:=sB (g':={ g with gen:=uw .i64 (gB f 4 6) }) hs rfl rfl ⟨rK _ _,rg2,rg3⟩;have s2:=sB (g':={ g with gen:=uw .i64 (gB f 4 6),base:=uw .i64 (gB f 16 6) }) s1.1 rfl rfl ⟨rK _ _,rK _ _,rg3⟩;refine⟨_,_,rfl,?_⟩;refine⟨_,_,rfl,?_⟩;refine⟨_,0,_,_,rfl,hs.at_.cell,by simp[cR],?_⟩;refine⟨_,_,rfl,?_⟩;refine⟨_,_,rfl,?_⟩;refine⟨_,0,_,_,rfl,s1.1.at_.cell,by simp[cR],?_⟩
  repeat refine kJ ?_
  refine⟨aM (aM H y.b 0 (cR { g with gen:=uw .i64 (gB f 4 6) } y.bv y.rv)) y.b 0 (cR { g with gen:=uw .i64 (gB f 4 6),base:=uw .i64 (gB f 16 6) } y.bv y.rv),?_⟩
  and_intros<;>first|exact cT|exact s2.1|exact s1.2.trans s2.2|rfl|(simp only[sA,if_true];omega)|skip
 ·have hi0:i≠0:=by simpa using c1
  refine⟨H,?_⟩;have hg:pR g i f=g:=if_neg hi0;rw[hg]
  and_intros<;>first|exact cT|exact hs|exact fun x _ hn=>⟨rfl,hn⟩|(simp only[sA,ki,if_neg hi0];done)|skip
 ·rintro X ⟨hX,hfr⟩;obtain⟨g1,hg1⟩:∃g1,g1=pR g i f:=⟨_,rfl⟩
  have eb:g1.buf=g.buf:=by rw[hg1];unfold pR;split<;>rfl
  have er:g1.run=g.run:=by rw[hg1];unfold pR;split<;>rfl
  rw[<- hg1]at hX;obtain⟨rx1,rx2,rx3⟩:=hX.at_.Az;obtain⟨b1,b2,b3,b4,⟨ba,bc,b5⟩,b6⟩:=hX.at_.buf.len;have hcell:=hX.at_.cell
  repeat refine kJ ?_
  refine⟨wo.mk 10 4 (cap-10) 64 (bK f),?_⟩
  and_intros<;>first|exact cT|skip
  intro _ _;dsimp only;simp only[eG]
  repeat refine kJ ?_
  refine⟨yF.mk 1 4 60 (cap-4) 64 (bK f),?_⟩
  and_intros<;>first|exact cT|skip
  intro _ _;refine⟨wo.mk 0 4 (cap-0) 64 (bK f),?_⟩
  and_intros<;>first|exact cT|skip
  intro _ _;dsimp only;simp only[eG,eS];refine⟨fun c1=>?_,fun c1=>?_⟩
  ·have hF:fJ g i f=false:=by
    unfold fJ;rw[<- hg1];have:(vw f == gB f 0 4)=false:=by simpa using c1
    rw[this];rfl
   refine⟨⟨X,y⟩,?_⟩;rw[hF,show gv g i f=g1 by unfold gv;rw[hF];exact hg1.symm]
   and_intros<;>first|exact cT|exact hX.at_|exact hX|exact hfr|rfl
  ·have k1:(vw f == gB f 0 4)=true:=by simpa using c1
   repeat refine kJ ?_
   refine⟨_,_,rfl,?_⟩;refine⟨_,_,rfl,?_⟩;refine⟨_,0,_,_,rfl,hcell,?_⟩;refine⟨⟨⟨_,rfl,_,rfl,rx1⟩,trivial⟩,fun _=>⟨wo.mk 4 6 (cap-4) 64 (bK f),?_⟩⟩
   and_intros<;>first|exact cT|skip
   intro _ _;dsimp only;simp only[eG,cR,List.getD_cons_zero,jC];refine⟨fun c2=>?_,fun c2=>?_⟩
   ·have hF:fJ g i f=false:=by
     unfold fJ;rw[<- hg1];have:(uw .i64 (gB f 4 6) == g1.gen)=false:=by simpa using c2
     rw[this,Bool.false_and,Bool.and_false]
    refine⟨⟨X,y⟩,?_⟩;rw[hF,show gv g i f=g1 by unfold gv;rw[hF];exact hg1.symm]
    and_intros<;>first|exact cT|exact hX.at_|exact hX|exact hfr|rfl
   ·have k2:(uw .i64 (gB f 4 6) == g1.gen)=true:=by simpa using c2
    refine⟨_,_,rfl,?_⟩;refine⟨_,_,rfl,?_⟩;refine⟨_,0,_,_,rfl,hcell,?_⟩;refine⟨⟨⟨_,rfl,_,rfl,rx3⟩,trivial⟩,fun _=>?_⟩;simp only[cR,List.getD_cons_zero,List.getD_cons_succ,jC];refine⟨fun c3=>?_,fun c3=>?_⟩
    ·have hF:fJ g i f=false:=by
      unfold fJ;rw[<- hg1];rw[<- er,c3,k1,k2];simp
     refine⟨⟨X,y⟩,?_⟩;rw[hF,show gv g i f=g1 by unfold gv;rw[hF];exact hg1.symm]
     and_intros<;>first|exact cT|exact hX.at_|exact hX|exact hfr|rfl
    ·repeat refine kJ ?_
     intro rg14;refine⟨fun c4=>?_,fun c4=>?_⟩
     ·have hF:fJ g i f=false:=by
       unfold fJ;rw[<- hg1];have:(f 14 == (i:Int))=false:=by simpa using c4
       rw[this,Bool.false_and,Bool.and_false,Bool.and_false,Bool.and_false]
      refine⟨⟨X,y⟩,?_⟩;rw[hF,show gv g i f=g1 by unfold gv;rw[hF];exact hg1.symm]
      and_intros<;>first|exact cT|exact hX.at_|exact hX|exact hfr|rfl
     ·have k4:(f 14 == (i:Int))=true:=by simpa using c4
      repeat refine kJ ?_
      intro rg15;refine⟨fun c5=>?_,fun c5=>?_⟩
      ·have hF:fJ g i f=false:=by
        unfold fJ;rw[<- hg1];have c5:=of_decide_eq_true c5;have:decide (f 15<=ki i)=false:=by simp;omega
        rw[this,Bool.false_and,Bool.and_false,Bool.and_false,Bool.and_false,Bool.and_false]
       refine⟨⟨X,y⟩,?_⟩;rw[hF,show gv g i f=g1 by unfold gv;rw[hF];exact hg1.symm]
       and_intros<;>first|exact cT|exact hX.at_|exact hX|exact hfr|rfl
      ·have k5:decide (f 15<=ki i)=true:=by have:=of_decide_eq_false c5;simp;omega
       refine⟨_,_,rfl,?_⟩;refine⟨_,_,rfl,?_⟩;refine⟨_,0,_,_,rfl,hcell,?_⟩;refine⟨⟨⟨_,rfl,b6⟩,trivial⟩,⟨ba,_,bc,b5,b3⟩,?_⟩
       repeat refine kJ ?_
       simp only[cR,List.getD_cons_zero,List.getD_cons_succ,b1];have em2:(bif true then max 0 ((i:Int)*48-6)else min 0 ((i:Int)*48-6))=(bY i:Nat):=by simp only[cond_true,bY];omega
       rw[em2];refine⟨fun c6=>?_,fun c6=>?_⟩
       ·have hF:fJ g i f=false:=by
         unfold fJ;rw[<- hg1];have c6:g1.buf.length≠bY i:=by intro e;rw[e]at c6;simp at c6
         have:decide (g.buf.length=bY i)=false:=by rw[<- eb];simpa using c6
         rw[this,Bool.and_false,Bool.and_false,Bool.and_false,Bool.and_false,Bool.and_false]
        refine⟨⟨X,y⟩,?_⟩;rw[hF,show gv g i f=g1 by unfold gv;rw[hF];exact hg1.symm]
        and_intros<;>first|exact cT|exact hX.at_|exact hX|exact hfr|rfl
       ·have k6:g1.buf.length=bY i:=by
         have:(g1.buf.length:Int)=(bY i:Nat):=by simpa using c6
         omega
        have hT:fJ g i f=true:=by
         unfold fJ;rw[<- hg1,k1,k2,<- er,c3,k4,k5,<- eb,k6];simp
        have s1:=sB (g':={ g1 with run:=uw .i64 (gB f 10 4) }) hX rfl rfl ⟨rx1,rx2,rK _ _⟩;obtain⟨X1,hX1⟩:∃X1,X1=aM X y.b 0 (cR { g1 with run:=uw .i64 (gB f 10 4) } y.bv y.rv):=⟨_,rfl⟩
        rw[<- hX1]at s1;have hf15:(f 15).toNat<=ki i:=by have:=of_decide_eq_true k5;omega
        have hroom:sA i+ki i=64:=by unfold sA ki;split<;>rfl
        have hroom2:ki i<=48:=by unfold ki;split<;>omega
        refine⟨_,_,rfl,?_⟩;refine⟨_,_,rfl,?_⟩;refine⟨_,0,_,_,rfl,hcell,by simp[cR],?_⟩;simp only[show aM X y.b 0 (List.take 2 (cR g1 y.bv y.rv)++[Value.int .i64 (uw .i64 (gB f 10 4))]++List.drop (2+[Value.int .i64 (uw .i64 (gB f 10 4))].length) (cR g1 y.bv y.rv))=X1 from hX1.symm];refine⟨_,_,rfl,?_⟩;refine⟨_,_,rfl,?_⟩;refine⟨_,0,_,_,rfl,s1.1.at_.cell,?_⟩;refine⟨⟨⟨_,rfl,b6⟩,trivial⟩,?_⟩
        repeat refine kJ ?_
        intro _;obtain⟨c0,hbuf⟩:=s1.1.at_.buf;simp only[bQ]at rg15;have hp15:=hpos hT;simp only[show(cR { g1 with run:=uw .i64 (gB f 10 4) } y.bv y.rv).getD 3 (Value.tuple #[])=y.bv from rfl]
        repeat refine kJ ?_
        refine⟨_,c0,_,hbuf,?_⟩;dsimp only;rw[eb]
        repeat refine kJ ?_
        intro cap1 q1 q2 q3
        repeat refine kJ ?_
        intro p1 lo1 cs1 hp1 hl1 hr1;have hB:Step X1 y.bv (aM (aJ X1 y.bv) p1 lo1 cs1) (eL p1 lo1 (g.buf.length+((f 15).toNat-0)) cap1):=q9 hp1;have hlb:(g.buf++(List.range (f 15).toNat).map fun k=>f (sA i+k)).length=g.buf.length+((f 15).toNat-0):=by simp
        have hBy:fe (aM (aJ X1 y.bv) p1 lo1 cs1) (eL p1 lo1 (g.buf.length+((f 15).toNat-0)) cap1) (g.buf++(List.range (f 15).toNat).map fun k=>f (sA i+k)):=by
         refine⟨cap1,?_⟩;rw[hlb];refine mw hl1 q1 q2 hr1 fun k hk j hj=>?_;have hj0:j=0:=by simpa using hj
         subst hj0;simp only[Nat.zero_add,aX,aa,cB,List.getD_cons_zero];by_cases hin:k<g.buf.length
         ·rw[if_pos hin,bJ hin]
         ·rw[if_neg hin];obtain⟨m,rfl⟩:∃m,k=g.buf.length+m:=⟨k-g.buf.length,by omega⟩
          rw[aY,Nat.add_sub_cancel_left];have:gl ((List.range (f 15).toNat).map fun k=>f (sA i+k)) m=f (sA i+m):=by
           rw[bN (by simp;omega)];simp
          rw[this,Nat.add_zero]
        obtain⟨hc2,hs3,hf3⟩:=wE s1.1 hB hBy;refine⟨_,_,rfl,?_⟩;refine⟨_,_,rfl,?_⟩;refine⟨_,0,_,_,rfl,hc2,by simp[cR],?_⟩;have hM:gv g i f={ g1 with run:=uw .i64 (gB f 10 4),buf:=g.buf++(List.range (f 15).toNat).map fun k=>f (sA i+k) }:=by
         unfold gv;rw[if_pos hT,<- hg1]
        refine⟨⟨aM (aM (aJ X1 y.bv) p1 lo1 cs1) y.b 0 (cR { g1 with run:=uw .i64 (gB f 10 4),buf:=g.buf++(List.range (f 15).toNat).map fun k=>f (sA i+k) } (eL p1 lo1 (g.buf.length+((f 15).toNat-0)) cap1) y.rv),{ y with bv:=eL p1 lo1 (g.buf.length+((f 15).toNat-0)) cap1 }⟩,?_⟩;rw[hT,hM];refine And.intro (by first|trivial|rfl) (And.intro rfl (And.intro ⟨hs3,rfl,rfl,?_⟩ trivial));exact(hfr.trans s1.2).trans hf3)
theorem RR:ak (Y Tryz.prog).G.X 231 RP:=aT fF RQ ⟨AY,FH,trivial⟩
structure uo where
 H:PH
 v:Value
 len:Nat
 c:Nat
 rows:Nat->Nat->Value
noncomputable def RS:cF where
 α:=uo
 β:=Unit
 m:=1
 m':=1
 pre:=fun a=>jU a.H a.v [.int .u8] a.len a.c a.rows/\a.len<=8
 args:=fun a=>[.a (.val a.v)]
 hp:=fun _=>[]
 ro:=fun a=>[(0,.ct a.H)]
 post:=fun _ _=>True
 res:=fun a _=>.a (.int .u64 (jK (fun i=>u8 a.rows i) a.len))
 cS:=fun _ _=>[]
def X9(a:uo):An:=.flat 3 Nat (fun s k=>(s.set 3 (.a (.int .u64 (jK (fun i=>u8 a.rows i) k)))).int 8 k) (fun _ k=>k<=a.len) (fun _ k=>a.len-k)
def uq(x:uo)(y:Nat):Int:=jK (fun z=>u8 x.rows z) y
def Gk(x:uo):=jU x.H x.v (iG (CK.int .u8)) x.len x.c x.rows/\x.len<=8
theorem RU:fnBody (Y Tryz.prog) [] 230 RS fun a=>[(230,[X9 a],[])]:=fnBody.of (p :=
 ∀x:uo,Gk x->Exists (ga x.v)/\(∃y:Nat,aK y ((0:Int)=uq x y/\jg x.v (aR (cQ x.v/\x.H=x.H/\y<=x.len/\True))))/\∀y:Nat,y<=x.len->pN y x.v 1 (fun z=>x.H z) (fun z=>∃u:Int,z=fk u/\jD u) (fun z u=>True) (fun z u=>jD (jC (aQ u z))->(0:Int)<=8/\dm y fun w=>dy .or .u64 (cN (uq x y*(256:Int))) (jC (aQ u z))=uq x w/\jg x.v (aR (cQ x.v/\x.H=x.H/\bS w x.len y))) (Exists (bV (uq x y=uq x x.len)))) (by kernel_rfl) (by
 delta aG aQ ai az aH aA cn af iA fk aF aU bn cQ ga pN dm bV bS ay cN aP aW iF aK aR bf jg bg bx iG jD uq Gk
 try dsimp -iota -proj only
 rintro⟨H,v,len,c,rows⟩ ⟨hs,h1⟩;dsimp only at *;obtain⟨e1,_,e3,e4,_,⟨ea,e2⟩,_⟩:=eR hs;refine⟨⟨ea,_,_,e2,by omega⟩,⟨0,?_⟩,fun k hk=>⟨fun c1=>?_,fun c1=>⟨(),?_⟩⟩⟩
 ·and_intros<;>first|exact cT|rfl
 ·rw[e1]at c1;have hk:k<len:=by have:=of_decide_eq_true c1;omega
  rcases hs with⟨_,h0,_⟩ | ⟨b,lo,o,cs,g1,g2,g3,g4,g5⟩
  ·omega
  ·obtain⟨q1,m,q2,q3⟩:=g5.at_ k hk 0 (.int .u8) rfl;have q1:cs[o+k*1]? = some (rows k 0):=q1;have q4:cs.getD (o+k*1) (Value.tuple #[])=rows k 0:=by rw[List.getD_eq_getElem?_getD,q1];rfl
   refine⟨_,_,_,_,g1,by omega,b,lo,o+k*1,cs,by rw[Int.toNat_natCast,Nat.add_assoc],g3,⟨⟨_,q1,m,q2,q3⟩,trivial⟩,fun _=>?_⟩;rw[q4];refine⟨by omega,by simp only[bQ];omega,k+1,?_⟩
   and_intros<;>first|exact cT|rfl
 ·have hk:k=len:=by rw[e1]at c1;have:=of_decide_eq_false c1;omega
  subst hk
  and_intros<;>first|exact cT|rfl)
theorem RV:ak (Y Tryz.prog).G.X 230 RS:=aT fF RU trivial
def Gl(buf:List Int)(at_:Nat):Int:=uw .i64 (jK (fun k=>gl buf (at_+k)) 2)
def Ya(buf:List Int)(at_:Nat):Int:=uw .i64 (jK (fun k=>gl buf (at_+2+k)) 6)
def ri(buf:List Int)(at_:Nat):Bool:=decide (at_+8<=buf.length)&&(decide (1<=Gl buf at_)&&(decide (Gl buf at_<=300)&&decide ((at_:Int)+8+Gl buf at_<=buf.length)))
def recAt(buf:List Int)(at_:Nat):RecM:=⟨Ya buf at_,(buf.drop (at_+8)).take (Gl buf at_).toNat⟩
def eU(buf:List Int):Nat->Nat->List RecM×Nat
 |0,at_=>([],at_)
 |k+1,at_=>if ri buf at_ then(recAt buf at_::(eU buf k (at_+8+(Gl buf at_).toNat)).1,(eU buf k (at_+8+(Gl buf at_).toNat)).2)else([],at_)
def xO(g:dw):dw:={ g with aO:=(eU g.buf 50 0).1,buf:=g.buf.take (eU g.buf 50 0).2 }
structure sY where
 H:PH
 y:mm
 g:dw
noncomputable def Cj:cF where
 α:=sY
 β:=Aa
 m:=1
 m':=2
 pre:=fun a=>fC a.H a.y a.g/\a.g.buf.length<=378/\a.g.aO=[]
 args:=fun a=>[.a (.val (pv a.y.b 0))]
 hp:=fun a=>[(0,.ct a.H)]
 ro:=fun _=>[]
 post:=fun a b=>fC b.H b.y (xO a.g)/\b.y.b=a.y.b/\Fr a.H a.y b.H b.y
 res:=fun _ _=>.lY []
 cS:=fun _ b=>[(1,.ct b.H)]
structure mB where
 H:PH
 y:mm
 rs:List RecM
 at_:Nat
 k:Nat
def Yb(a:sY):An:=.flat 1 mB (fun s x=>S.ct (s.int 2 x.at_) x.H) (fun _ x=>fC x.H x.y { a.g with aO:=x.rs }/\x.y.b=a.y.b/\Fr a.H a.y x.H x.y/\x.at_<=a.g.buf.length/\a.g.buf.length<x.at_+9*x.k/\x.rs++(eU a.g.buf x.k x.at_).1=(eU a.g.buf 50 0).1/\(eU a.g.buf x.k x.at_).2=(eU a.g.buf 50 0).2/\x.rs.length*9<=x.at_) (fun _ x=>a.g.buf.length-x.at_)
def WO(a:sY):An:=.mk 7 mB (fun s x=>S.ct (s.int 2 x.at_) x.H) (fun _ x=>fC x.H x.y { a.g with aO:=(eU a.g.buf 50 0).1 }/\x.y.b=a.y.b/\Fr a.H a.y x.H x.y/\x.at_<=a.g.buf.length/\x.at_=(eU a.g.buf 50 0).2) (fun _ _=>0) fun _=>.mk 1000 [] []
def La(z:mB)(x:sY)(u:List RecM)(v:Prop):=fC z.H z.y { gen:=x.g.gen,base:=x.g.base,run:=x.g.run,buf:=x.g.buf,aO:=u }/\z.y.b=x.y.b/\Fr x.H x.y z.H z.y/\z.at_<=av x.g.buf/\v
def Nq(x:mB)(y:sY):=La x y x.rs (av y.g.buf<x.at_+9*x.k/\x.rs++(eU y.g.buf x.k x.at_).fst=(eU y.g.buf 50 0).fst/\(eU y.g.buf x.k x.at_).snd=(eU y.g.buf 50 0).snd/\x.rs.length*9<=x.at_)
def pS(x:uo):Int:=og (uq x x.len)
def Gm(f:Value)(u:PH)(s:Value)(t:Int)(g:Nat->Nat->Nat->Nat->List Value->Prop)(h:Nat->Option (Nat×List Value))(i:Nat->Nat->List Value->Nat->Nat->Nat->Nat->List Value->Prop):=Cg f (ue u s .i64 (iG CK.deep) 1 1 1 32 2 (fun x y=>aN 2 (bt t (bG fS)) (0+x) y) fun x y z v w=>g x y z v w) u fun x y=>Cc x (fun z=>h z) y u s t fun z v w j k l m n=>i z v w j k l m n
def Lb(y:mB)(x:sY):=La y x (eU x.g.buf 50 0).fst (y.at_=(eU x.g.buf 50 0).snd)
def Lc(x:sY)(f:PH)(h:List Value)(i z u:Nat)(j:List Value)(k l:Nat)(w:uo)(s:mB):=Exists (mz (pv x.y.b 0) 4 (fun t=>aM (aJ f (aQ h i)) z u j t) (oh (A.val (eL z u (k+1) l))) fun t m n o=>ai ((8:Int)+pS w)/\ai (af s.at_+((8:Int)+pS w))/\∃v:mB,af s.at_+((8:Int)+pS w)=af v.at_/\cQ (pv x.y.b 0)/\aM (aM (aJ f (aQ h i)) z u j) t m (jv n o z u k 1 l)=v.H/\Nq v x/\av x.g.buf-v.at_<av x.g.buf-s.at_)
def Ld(x:mB)(y:Int)(u:List Value)(w:Nat)(s:Int)(t:Nat)(f:uo->Prop):=ai (af x.at_+y)/\Fb (aQ u w)/\dh (af x.at_+y) (jq (aQ u w))/\dh s (aU (af x.at_+y))/\∃z:uo,r7 u w t (aU (af x.at_+y))=z.v/\x.H=z.H/\Gk z/\aI (f z)
def ur(z:sY)(u:Nat)(v:mB)(w:Nat->List Value->Prop):=Exists (gu (pv z.y.b 0) u (fun x=>v.H x) (fun x=>dS x) fun x s=>w x s)
def Gn(z:mB)(u:sY):mB->Prop:=fun(x:mB)=>bu z.at_ x.at_/\cQ (pv u.y.b 0)/\z.H=x.H/\Lb x u/\True
theorem I4:fnBody (Y Tryz.prog) [(230,RS)] 232 Cj fun a=>[(232,[Yb a],[WO a])]:=fnBody.of (p :=
 ∀z:sY,fC z.H z.y z.g/\av z.g.buf<=378/\z.g.aO=[]->((∃x:mB,aK x.at_ (cQ (pv z.y.b 0)/\z.H=x.H/\Nq x z/\True))/\∀x:mB,Nq x z->ur z 3 x fun w s=>Exists (ga (aQ s w))/\sj (af (cU (aQ s w))-af x.at_) 8 (ur z 3 x fun t h=>Ld x 2 h t (af x.at_) (az x.at_) fun u=>ur z 3 x fun i v=>ai (af x.at_+(2:Int))/\Ld x 8 v i (af x.at_+(2:Int)) (aU (af x.at_+(2:Int))) fun d=>gU (aA (pS u) 1) (Exists (Gn x z)) (aA 300 (pS u)) (ur z 3 x fun j k=>Exists (ga (aQ k j))/\oe (af (cU (aQ k j))-af x.at_) 8 (aG (aA (af (cU (aQ k j))-af x.at_-(8:Int)) (pS u)) (Exists (Gn x z)) (ur z 4 x fun l m=>ur z 3 x fun n o=>ai (af x.at_+(8:Int))/\mZ (af x.at_+(8:Int)) (pS u) (Fb (aQ o n)/\yO (af x.at_+(8:Int)) (pS u) (jq (aQ o n)) (Gm (r7 o n (aU (af x.at_+(8:Int))) (aU (af x.at_+(8:Int)+pS u))) x.H (aQ m l) (pS d) (fun f p q r c=>Lc z x.H m l q r c f p u x) (fun f=>x.H f) fun f p q r c e B C=>Lc z (aM x.H f p q) m l e B C r c u x)))))) (Exists (Gn x z)))/\∀x:mB,Lb x z->ur z 3 x fun w s=>Fb (aQ s w)/\dh (af x.at_) (jq (aQ s w))/\Exists (mz (pv z.y.b 0) 3 (fun t=>x.H t) (oh (A.val (r7 s w 0 (az x.at_)))) fun t h u i=>∃v:Aa,aM x.H t h (yW u i (bG (r7 s w 0 (az x.at_))))=v.H /\
 (fC v.H v.y (xO z.g)/\v.y.b=z.y.b/\Fr z.H z.y v.H v.y)/\True)) (by kernel_rfl) (by
 delta aG aQ av gu ai bt jv az gq aA af mz iA dZ bG aF dL aU bP cQ Eh gU z7 ga aI Nq dS pS Gm fS Lb jG ue cO Lc aK Cc oh Ld ur mZ yW iG Gn oe yO bu uq sj La dh pP Cg r7 Gk og
 try dsimp -iota -proj only
 rintro⟨H,y,g⟩ ⟨hs,hlen,hnil⟩;dsimp only at *;refine⟨⟨⟨⟨H,y,[],0,50⟩,?_⟩,?_⟩,?_⟩
 ·have hs':fC H y { g with aO:=[] }:=by rw[<- hnil];exact hs
  and_intros<;>first|exact cT|exact hs'|exact fun x _ hn=>⟨rfl,hn⟩|rfl|skip
 ·rintro⟨X,Y,rs,at_,k⟩ ⟨hX,hb,hfr,h1,h2,h3,h4,h5⟩;dsimp only at *;have hcell:X y.b=some (0,cR { g with aO:=rs } Y.bv Y.rv):=by rw[<- hb];exact hX.at_.cell
  obtain⟨b1,b2,b3,b4,⟨ba,bc,b5⟩,b6⟩:=hX.at_.buf.len;have b1:cU Y.bv=g.buf.length:=b1;have b4:g.buf.length<=jq Y.bv:=b4;have hbuf:fe X Y.bv g.buf:=hX.at_.buf;have pstop:ri g.buf at_=false->rs=(eU g.buf 50 0).1/\at_=(eU g.buf 50 0).2:=fun hR=>by
   have:eU g.buf k at_=([],at_):=by
    cases k with
    |zero=>rfl
    |succ k=>unfold eU;rw[hR];rfl
   rw[this]at h3 h4;exact⟨by simpa using h3,h4⟩
  have e3:(cR { g with aO:=rs } Y.bv Y.rv).getD 3 (Value.tuple #[])=Y.bv:=rfl;have e4:(cR { g with aO:=rs } Y.bv Y.rv).getD 4 (Value.tuple #[])=Y.rv:=rfl;have eN:jK (fun i=>u8 (fun i=>aa cB g.buf (at_+i)) i) 2=jK (fun k=>gl g.buf (at_+k)) 2:=rfl;have eP:jK (fun i=>u8 (fun i=>aa cB g.buf (at_+2+i)) i) 6=jK (fun k=>gl g.buf (at_+2+k)) 6:=rfl;refine⟨_,_,rfl,?_⟩;refine⟨_,_,rfl,?_⟩;refine⟨_,0,_,_,rfl,hcell,?_⟩;refine⟨⟨⟨_,rfl,b6⟩,trivial⟩,⟨ba,_,bc,b5,b3⟩,?_⟩;simp only[e3,b1];refine⟨by simp only[bQ];omega,fun c1=>?_,fun c1=>?_⟩
  ·have c1:at_+8<=g.buf.length:=by have:=of_decide_eq_true c1;omega
   have w1:((at_:Int)+2).toNat=at_+2:=by omega
   have w2:((at_:Int)+8).toNat=at_+8:=by omega
   have cut1:=hbuf.cut (a:=at_) (e:=at_+2) (by omega) (by omega);rw[show at_+2-at_=2 by omega]at cut1;have cut2:=hbuf.cut (a:=at_+2) (e:=at_+8) (by omega) (by omega);rw[show at_+8-(at_+2)=6 by omega]at cut2;refine⟨_,_,rfl,?_⟩;refine⟨_,_,rfl,?_⟩;refine⟨_,0,_,_,rfl,hcell,?_⟩;refine⟨⟨⟨_,rfl,b6⟩,trivial⟩,?_⟩;simp only[e3,w1,Int.toNat_natCast]
   repeat refine kJ ?_
   refine⟨uo.mk X (mP 1 Y.bv at_ (at_+2) (jq Y.bv)) 2 (jq Y.bv-at_) (fun i=>aa cB g.buf (at_+i)),rfl,rfl,⟨cut1,by show 2<=8;omega⟩,fun _ _=>?_⟩;dsimp only;refine⟨_,_,rfl,?_⟩;refine⟨_,_,rfl,?_⟩;refine⟨_,0,_,_,rfl,hcell,?_⟩;refine⟨⟨⟨_,rfl,b6⟩,trivial⟩,?_⟩;simp only[e3,w1,w2,eN]
   repeat refine kJ ?_
   refine⟨uo.mk X (mP 1 Y.bv (at_+2) (at_+8) (jq Y.bv)) 6 (jq Y.bv-(at_+2)) (fun i=>aa cB g.buf (at_+2+i)),rfl,rfl,⟨cut2,by show 6<=8;omega⟩,fun _ _=>?_⟩;dsimp only;simp only[eP];rw[show uw .i64 (jK (fun k=>gl g.buf (at_+k)) 2)=Gl g.buf at_ from rfl,show uw .i64 (jK (fun k=>gl g.buf (at_+2+k)) 6)=Ya g.buf at_ from rfl];obtain⟨N,hN⟩:∃N,N=Gl g.buf at_:=⟨_,rfl⟩
   rw[<- hN];have hNr:bQ .i64 N:=by rw[hN];exact rK _ _
   refine⟨fun c2=>?_,fun c2=>⟨fun c3=>?_,fun c3=>?_⟩⟩
   ·have c2:=of_decide_eq_true c2;refine⟨mB.mk X Y rs at_ 0,?_⟩;have hR:ri g.buf at_=false:=by unfold ri;rw[<- hN,show decide (1<=N)=false from decide_eq_false (by omega)];simp
    obtain⟨hp1,hp2⟩:=pstop hR
    and_intros<;>first|exact cT|(rw[<- hp1];exact hX)|exact hfr|exact hb|exact hp2
   ·have c3:=of_decide_eq_true c3;refine⟨mB.mk X Y rs at_ 0,?_⟩;have hR:ri g.buf at_=false:=by unfold ri;rw[<- hN,show decide (N<=300)=false from decide_eq_false (by omega)];simp
    obtain⟨hp1,hp2⟩:=pstop hR
    and_intros<;>first|exact cT|(rw[<- hp1];exact hX)|exact hfr|exact hb|exact hp2
   ·have c2:=of_decide_eq_false c2;have c3:=of_decide_eq_false c3;refine⟨_,_,rfl,?_⟩;refine⟨_,_,rfl,?_⟩;refine⟨_,0,_,_,rfl,hcell,?_⟩;refine⟨⟨⟨_,rfl,b6⟩,trivial⟩,⟨ba,_,bc,b5,b3⟩,?_⟩;simp only[e3,b1]
    repeat refine kJ ?_
    refine⟨fun c4=>?_,fun c4=>?_⟩
    ·have c4:=of_decide_eq_true c4;refine⟨mB.mk X Y rs at_ 0,?_⟩;have hR:ri g.buf at_=false:=by unfold ri;rw[<- hN,show decide ((at_:Int)+8+N<=g.buf.length)=false from decide_eq_false (by omega)];simp
     obtain⟨hp1,hp2⟩:=pstop hR
     and_intros<;>first|exact cT|(rw[<- hp1];exact hX)|exact hfr|exact hb|exact hp2
    ·have c4:=of_decide_eq_false c4;have hR:ri g.buf at_=true:=by
      unfold ri;rw[<- hN];simp only[Bool.and_eq_true,decide_eq_true_eq];omega
     obtain⟨nn,rfl⟩:∃nn:Nat,N=nn:=⟨N.toNat,by omega⟩
     have w3:((at_:Int)+8+nn).toNat=at_+8+nn:=by omega
     obtain⟨c9,hrec⟩:=hX.at_.aO;have hrec:jU X Y.rv qZ rs.length c9 (tW rs Y.vs):=hrec;obtain⟨m1,m2,m3,m4,m5,_,m6⟩:=eR hrec;have cut3:=hbuf.cut (a:=at_+8) (e:=at_+8+nn) (by omega) (by omega);rw[show at_+8+nn-(at_+8)=nn by omega]at cut3;obtain⟨_,_,_,_,_,⟨za,zs⟩,_⟩:=eR cut3;have hnz:Dw (mP 1 Y.bv (at_+8) (at_+8+nn) (jq Y.bv))=false:=by
      rcases cut3 with⟨_,h0,_⟩ | ⟨b9,lo9,o9,cs9,h9,_⟩
      ·omega
      ·rw[h9];rfl
     refine⟨_,_,rfl,?_⟩;refine⟨_,_,rfl,?_⟩;refine⟨_,0,_,_,rfl,hcell,?_⟩;refine⟨⟨⟨_,rfl,m6⟩,trivial⟩,?_⟩;refine⟨_,_,rfl,?_⟩;refine⟨_,_,rfl,?_⟩;refine⟨_,0,_,_,rfl,hcell,?_⟩;refine⟨⟨⟨_,rfl,b6⟩,trivial⟩,?_⟩;simp only[e3,e4,w2,w3]
     repeat refine kJ ?_
     refine⟨⟨za,_,_,zs⟩,fun c5=>absurd c5 (by rw[hnz];decide),fun _=>?_⟩
     repeat refine kJ ?_
     refine⟨_,_,_,cut3,?_⟩;simp only[Nat.zero_add]
     repeat refine kJ ?_
     intro cap3 u1 u2 u3
     repeat refine kJ ?_
     intro p3 lo3 cs3 hp3 hl3 hr3;obtain⟨r,hr⟩:∃r,r=recAt g.buf at_:=⟨_,rfl⟩
     have hrb:r.body.length=nn:=by
      rw[hr];simp only[recAt,<- hN];simp;omega
     have hC:Step X (.slice none 0 0) (aM X p3 lo3 cs3) (eL p3 lo3 nn cap3):=IY hp3;have hCb:fe (aM X p3 lo3 cs3) (eL p3 lo3 nn cap3) r.body:=by
      refine⟨cap3,?_⟩;rw[hrb];refine mw hl3 u1 u2 hr3 fun i hi j hj=>?_;have hj0:j=0:=by simpa using hj
      subst hj0;simp only[aX,Nat.not_lt_zero,if_false,Nat.sub_zero,aa,cB,List.getD_cons_zero];have:gl r.body i=gl g.buf (at_+8+i):=by
       rw[hr];simp only[recAt,<- hN,gl];rw[List.getD_eq_getElem?_getD,List.getElem?_take_of_lt (by simpa using hi),List.getElem?_drop,List.getD_eq_getElem?_getD]
      rw[this]
     have hx3:∀x,X x≠none->x≠p3:=fun x hx e=>hx (by rw[e];exact hp3);have hrec4:jU (aM X p3 lo3 cs3) Y.rv qZ rs.length c9 (tW rs Y.vs):=iE hrec fun x hx=>cw (hx3 x (mo hrec x hx));refine⟨_,c9,_,hrec4,?_⟩
     repeat refine kJ ?_
     intro cap4 v1 v2 v3
     repeat refine kJ ?_
     intro p4 lo4 cs4 hp4 hl4 hr4;have hD:Step (aM X p3 lo3 cs3) Y.rv (aM (aJ (aM X p3 lo3 cs3) Y.rv) p4 lo4 cs4) (eL p4 lo4 (rs.length+1) cap4):=q9 hp4;have hvl:Y.vs.length=rs.length:=hX.at_.len;have hr5:jU (aM (aJ (aM X p3 lo3 cs3) Y.rv) p4 lo4 cs4) (eL p4 lo4 (rs.length+1) cap4) qZ (rs.length+1) cap4 (tW (rs++[r]) (Y.vs++[eL p3 lo3 nn cap3])):=by
      refine mw hl4 v1 v2 hr4 fun i hi j hj=>?_;simp only[aX,tW,Nat.zero_add];by_cases hin:i<rs.length
      ·rw[if_pos hin,bJ hin];by_cases hj0:j=0
       ·rw[if_pos hj0,if_pos hj0]
       ·rw[if_neg hj0,if_neg hj0,List.getD_eq_getElem?_getD,List.getD_eq_getElem?_getD,List.getElem?_append_left (by omega)]
      ·rw[if_neg hin];obtain rfl:i=rs.length:=by omega
       rw[Nat.sub_self];have hj2:j<2:=hj
       match j,hj2 with
       |0,_=>rw[if_pos rfl,show rs.length=rs.length+0 from rfl,aY,hr];rfl
       |1,_=>rw[if_neg (by decide),List.getD_eq_getElem?_getD,List.getElem?_append_right (by omega),hvl,Nat.sub_self];rfl
     obtain⟨hcell4,hcell5,hnd6,hfr6⟩:=z6 (r:=r) hX hC hCb hD (fun x hx=>by
      simp only[fm,eL,List.mem_singleton]at hx;rw[hx,dB];simp) ⟨cap4,hr5⟩
     have hpk:∃k',k=k'+1:=by
      cases k with
      |zero=>omega
      |succ k=>exact⟨k,rfl⟩
     obtain⟨k',rfl⟩:=hpk;have hps:eU g.buf (k'+1) at_=(r::(eU g.buf k' (at_+8+nn)).1,(eU g.buf k' (at_+8+nn)).2):=by
      have e:(Gl g.buf at_).toNat=nn:=by rw[<- hN];rfl
      rw[hr];show(if ri g.buf at_=true then _ else _)=_;rw[if_pos hR,e]
     rw[hps]at h3 h4;refine⟨_,_,rfl,?_⟩;refine⟨_,_,rfl,?_⟩;refine⟨_,0,_,_,rfl,by rw[<- hb];exact hcell5,by simp[cR],?_⟩
     repeat refine kJ ?_
     refine⟨⟨aM (aM (aJ (aM X p3 lo3 cs3) Y.rv) p4 lo4 cs4) Y.b 0 (cR { g with aO:=rs++[r] } Y.bv (eL p4 lo4 (rs.length+1) cap4)),⟨Y.b,Y.bv,eL p4 lo4 (rs.length+1) cap4,Y.vs++[eL p3 lo3 nn cap3]⟩,rs++[r],at_+8+nn,k'⟩,?_⟩;have hnd7:fC (aM (aM (aJ (aM X p3 lo3 cs3) Y.rv) p4 lo4 cs4) Y.b 0 (cR { g with aO:=rs++[r] } Y.bv (eL p4 lo4 (rs.length+1) cap4))) ⟨Y.b,Y.bv,eL p4 lo4 (rs.length+1) cap4,Y.vs++[eL p3 lo3 nn cap3]⟩ { g with aO:=rs++[r] }:=hnd6;have h3':rs++[r]++(eU g.buf k' (at_+8+nn)).1=(eU g.buf 50 0).1:=by rw[<- h3,List.append_assoc];rfl
     dsimp only
     and_intros<;>first|exact cT|exact hnd7|exact hb|exact hfr.trans hfr6|exact h3'|exact h4|(rw[<- hb];rfl)|(rw[List.length_append,List.length_singleton];omega)|skip
  ·have c1:=of_decide_eq_false c1;refine⟨mB.mk X Y rs at_ 0,?_⟩;have hR:ri g.buf at_=false:=by unfold ri;rw[show decide (at_+8<=g.buf.length)=false from decide_eq_false (by omega)];rfl
   obtain⟨hp1,hp2⟩:=pstop hR
   and_intros<;>first|exact cT|(rw[<- hp1];exact hX)|exact hfr|exact hb|exact hp2
 ·rintro⟨X,Y,rs,at_,k⟩ ⟨hX,hb,hfr,h1,h2⟩;dsimp only at *;have hcell:X y.b=some (0,cR { g with aO:=(eU g.buf 50 0).1 } Y.bv Y.rv):=by rw[<- hb];exact hX.at_.cell
  obtain⟨b1,b2,b3,b4,⟨ba,bc,b5⟩,b6⟩:=hX.at_.buf.len;have b1:cU Y.bv=g.buf.length:=b1;have b4:g.buf.length<=jq Y.bv:=b4;have hbuf:fe X Y.bv g.buf:=hX.at_.buf;have e3:(cR { g with aO:=(eU g.buf 50 0).1 } Y.bv Y.rv).getD 3 (Value.tuple #[])=Y.bv:=rfl;refine⟨_,_,rfl,?_⟩;refine⟨_,_,rfl,?_⟩;refine⟨_,0,_,_,rfl,hcell,?_⟩;refine⟨⟨⟨_,rfl,b6⟩,trivial⟩,?_⟩;simp only[e3,Int.toNat_natCast]
  repeat refine kJ ?_
  have hcut:=hbuf.cut (a:=0) (e:=at_) (by omega) h1;have hfpc:fm (mP 1 Y.bv 0 at_ (jq Y.bv))=fm Y.bv:=by
   obtain⟨c,hb⟩:=hbuf;rcases hb with⟨h0,_⟩ | ⟨b9,lo9,o9,cs9,h9,_⟩
   ·rw[h0];rfl
   ·rw[h9,J9];rfl
  have hst:Step X Y.bv X (mP 1 Y.bv 0 at_ (jq Y.bv)):=fun x hx hn=>⟨rfl,by rw[hfpc];exact hn⟩
  have hby:fe X (mP 1 Y.bv 0 at_ (jq Y.bv)) (g.buf.take at_):=by
   refine⟨jq Y.bv-0,?_⟩;rw[show(g.buf.take at_).length=at_-0 by simp;omega];rcases hcut with h0 | ⟨b9,lo9,o9,cs9,g1,g2,g3,g4,g5⟩
   ·exact .inl h0
   ·refine .inr ⟨b9,lo9,o9,cs9,g1,g2,g3,g4,⟨fun i hi j q hj=>?_⟩⟩;have:=g5.at_ i hi j q hj;have e:aa cB g.buf (0+i) j=aa cB (g.buf.take at_) i j:=by
     unfold aa;rw[Nat.zero_add,Nd (by omega)]
    rwa[e]at this
  obtain⟨hc2,hs3,hf3⟩:=wE hX hst hby;refine⟨_,_,rfl,?_⟩;refine⟨_,_,rfl,?_⟩;refine⟨_,0,_,_,rfl,hcell,by simp[cR],?_⟩;refine⟨⟨aM X Y.b 0 (cR { g with aO:=(eU g.buf 50 0).1,buf:=g.buf.take at_ } (mP 1 Y.bv 0 at_ (jq Y.bv)) Y.rv),{ Y with bv:=mP 1 Y.bv 0 at_ (jq Y.bv) }⟩,?_⟩;have hM:xO g={ g with aO:=(eU g.buf 50 0).1,buf:=g.buf.take at_ }:=by unfold xO;rw[<- h2]
  rw[hM];refine And.intro (by rw[<- hb];rfl) (And.intro ⟨hs3,hb,hfr.trans hf3⟩ trivial))
theorem I5:ak (Y Tryz.prog).G.X 232 Cj:=aT fF I4 ⟨RV,trivial⟩
end Go.Proofs.YtfjgoonelcaggaaGreat
namespace Go.Sx
section
def A2(s:S)(K:S->Prop):Prop:=K ⟨s.nt,s.fr,⟨s.nx,true,.ct fun _=>none⟩::s.hp,s.nx+1,s.kp,s.rt⟩
theorem Le:∀s K,A2 s K->wk s K:=by
 intro s K h w0 M ρ a w hs;have hl:=ρ.dP ⟨0,0,0,fun _=>False⟩;have hn:=hs.n;have hpl:(ρ.ext ⟨0,0,0,fun _=>False⟩).pl s.nx=⟨0,0,0,fun _=>False⟩:=by rw[<- hn];exact ρ.di _
 refine⟨_,ρ.ext ⟨0,0,0,fun _=>False⟩,h,hl,⟨hs.defers,hs.size,by show ρ.n+1=s.nx+1;rw[hn],hs.frame.mono hl,?_⟩⟩;refine(hs.heap.mono hl).cons (e:=⟨s.nx,true,.ct fun _=>none⟩) ⟨by show s.nx<ρ.n+1;omega,?_,?_,?_⟩ fun x hx=>⟨?_,?_⟩
 ·intro b lo cs hb;cases hb
 ·rw[hpl];exact fun b hb=>hb.elim
 ·rw[hpl];exact fun _ b hb=>hb.elim
 ·have:=(hs.heap.gz x hx).tag;show s.nx≠x.tag;omega
 ·rw[hpl];exact fun _ b hb=>hb.elim
def An.A2(key:Nat)(next:LH):An:=.view key Sx.A2 Le next
def A.Ej:A->Bool
 |.ptr t _ _ _=>!Nat.beq t 0
 |.slc t _ _ _ _=>!Nat.beq t 0
 |.sub t _ _ _ _ _=>!Nat.beq t 0
 |_=>true
def CV.Ej:CV->Bool
 |.a x=>x.Ej
 |.agg xs=>xs.all A.Ej
def SV.Ej:SV->Bool
 |.a x=>x.Ej
 |.agg xs=>xs.all A.Ej
 |.lY xs=>xs.all CV.Ej
 |.AM _ xs=>xs.all A.Ej
def Chunk.Ej:Chunk->Bool
 |.obj _ cs=>cs.all A.Ej
 |_=>true
structure Lf(ρ ρ':Env):Prop where
 n:ρ'.n=ρ.n
 pl:∀t,t≠0->ρ'.pl t=ρ.pl t
theorem Y6{t:Nat}(h:(!Nat.beq t 0)=true):t≠0:=by rintro rfl;simp at h
theorem A.b8.th{ρ ρ':Env}(h:Lf ρ ρ'){x:A}(hx:x.Ej=true){v:Value}(r:x.b8 ρ v):x.b8 ρ' v:=by
 cases x<;>simp only[A.b8,A.Ej]at r hx ⊢<;>try exact r
 case ptr t _ _ _=>rw[h.n,h.pl t (Y6 hx)];exact r
 case slc t _ _ _ _=>rw[h.n,h.pl t (Y6 hx)];exact r
 case sub t _ _ _ _ _=>rw[h.n,h.pl t (Y6 hx)];exact r
theorem cc.th{ρ ρ':Env}(h:Lf ρ ρ'):∀ {xs:List A} {vs:List Value},xs.all A.Ej=true->cc ρ xs vs->cc ρ' xs vs
 |[],_,_,r=>r
 |x::xs,_,hx,⟨v,t,e,r1,r2⟩=>by
  simp only[List.all_cons,Bool.and_eq_true]at hx;exact⟨v,t,e,r1.th h hx.1,cc.th h hx.2 r2⟩
theorem CV.b8.th{ρ ρ':Env}(h:Lf ρ ρ'):∀ {x:CV} {v:Value},x.Ej=true->x.b8 ρ v->x.b8 ρ' v
 |.a _,_,hx,r=>A.b8.th h hx r
 |.agg _,_,hx,⟨vs,e,r⟩=>⟨vs,e,cc.th h hx r⟩
theorem rG.th{ρ ρ':Env}(h:Lf ρ ρ'):∀ {xs:List CV} {vs:List Value},xs.all CV.Ej=true->rG ρ xs vs->rG ρ' xs vs
 |[],_,_,r=>r
 |x::xs,_,hx,⟨v,t,e,r1,r2⟩=>by
  simp only[List.all_cons,Bool.and_eq_true]at hx;exact⟨v,t,e,r1.th h hx.1,rG.th h hx.2 r2⟩
theorem SV.b8.th{ρ ρ':Env}(h:Lf ρ ρ'):∀ {x:SV} {v:Value},x.Ej=true->x.b8 ρ v->x.b8 ρ' v
 |.a _,_,hx,r=>A.b8.th h hx r
 |.agg _,_,hx,⟨vs,e,r⟩=>⟨vs,e,cc.th h hx r⟩
 |.lY _,_,hx,⟨vs,e,r⟩=>⟨vs,e,rG.th h hx r⟩
 |.AM _ _,_,hx,⟨vs,e,r⟩=>⟨vs,e,cc.th h hx r⟩
theorem Chunk.Sat.th{ρ ρ':Env}(h:Lf ρ ρ'){p:Place}{w:World}{ch:Chunk}(hx:ch.Ej=true)(r:ch.Sat ρ p w):ch.Sat ρ' p w:=by
 cases ch with
 |obj ty cs=>obtain⟨vs,fr,h1,h2,⟨us,xs,h5,h3⟩,h4⟩:=r;exact⟨vs,fr,h1,h2,⟨us,xs,h5,h3.th h hx⟩,h4⟩
 |arr ty ks n rows=>exact r
 |abs R=>exact r
 |ct H=>exact r
structure Yc where
 ty:Nat
 ks:List CK
 n:Nat
 cap:Nat
 rows:Nat->Nat->Value
structure V1(α:Type) where
 a:α
 H:PH
 v:Value
def cF.Va(C:cF)(sl:C.α->Yc):cF where
 α:=V1 C.α
 β:=C.β
 m:=1
 m':=C.m'
 pre:=fun x=>C.pre x.a/\jU x.H x.v (sl x.a).ks (sl x.a).n (sl x.a).cap (sl x.a).rows
 args:=fun x=>[.a (.val x.v)]
 hp:=fun _=>[]
 ro:=fun x=>[(0,.ct x.H)]
 post:=fun x b=>C.post x.a b
 res:=fun x b=>C.res x.a b
 cS:=fun x b=>C.cS x.a b
structure Y7(C:cF)(sl:C.α->Yc):Prop where
 m:C.m=1
 hp:∀a,C.hp a=[]
 ro:∀a,C.ro a=[(0,.arr (sl a).ty (sl a).ks (sl a).n (sl a).rows)]
 args:∀a,C.args a=[.a (.slc 0 0 (sl a).ks.length (sl a).n (sl a).cap)]
 res:∀a b,(C.res a b).Ej=true
 cS:∀a b,∀p∈C.cS a b,p.1≠0/\p.2.Ej=true
theorem I6{X:Cx}{C:cF}{f:Nat}(hs:lE X C f){sl:C.α->Yc}(hv:Y7 C sl):lE X (C.Va sl) f:=by
 rintro⟨a,H,v⟩ ⟨hpre,hsl⟩ M ρ w vs hn hh hargs;obtain⟨u,_,rfl,hu,rfl⟩:=hargs;obtain⟨rfl,_⟩:=hu;have hps:=(hh.gz ⟨0,false,.ct H⟩ (by simp[vb,DB,cF.Va])).ch;dsimp only at hpre hsl hps hn;obtain⟨p,hp1,hp2,hp3⟩:∃p:Place,(∀(ρ':Env),0<ρ'.n->ρ'.pl 0=p->(A.slc 0 0 (sl a).ks.length (sl a).n (sl a).cap).b8 ρ' u)/\(∀ρ',(Chunk.arr (sl a).ty (sl a).ks (sl a).n (sl a).rows).Sat ρ' p w)/\∀b,p.fp b->b<w.heap.size:=by
  rcases hsl with⟨rfl,h0,h1⟩ | ⟨b,lo,o,cs,rfl,⟨hlc,hcm⟩,hH,hfit,hrows⟩
  ·exact⟨xB,fun ρ' h _=>⟨h,by omega,by rw[h1];exact Nat.zero_le _,.inl ⟨h0,h1,rfl⟩⟩,fun ρ'=>.inl ⟨h0,rfl,fun b hb=>hb⟩,fun b hb=>hb.elim⟩
  ·obtain⟨hfp,vs,vty,fr,hb,hvl,hvs,hun⟩:=hps b lo cs hH;refine⟨⟨b,lo+o,(sl a).cap,fun x=>x=b⟩,fun ρ' h e=>⟨h,hlc,hcm,.inr ⟨_,rfl,fun _=>by rw[e];simp⟩⟩,fun ρ'=>.inr ⟨vs,vty,fr,hb,by simp only;omega,hlc,fun x h1 h2=>hun x (by simp only at h1;omega) (by simp only at h2;omega),fun _=>Iff.rfl,fun i hi j k hk=>?_⟩,fun x hx=>?_⟩
   ·obtain⟨g1,g2⟩:=hrows.at_ i hi j k hk;refine⟨?_,g2⟩;have hlt:o+i*(sl a).ks.length+j<cs.length:=(List.getElem?_eq_some_iff.1 g1).1;rw[<- g1,<- hvs _ hlt];congr 1;simp only;omega
   ·simp only at hx;subst hx;exact(Array.getElem?_eq_some_iff.1 hb).1
 have hpl:(⟨1,fun _=>p⟩:Env).pl 0=p:=rfl;refine(hs a hpre M ⟨1,fun _=>p⟩ w [u] (by rw[hv.m]) ?_ ?_).mono ?_
 ·rw[hv.hp,hv.ro];refine⟨hh.keeps,fun e he=>?_,by simp[vb,DB]⟩;have he:e=⟨0,false,.arr (sl a).ty (sl a).ks (sl a).n (sl a).rows⟩:=by simpa[vb,DB]using he
  subst he;exact⟨Nat.one_pos,hp2 _,hp3,fun h=>(by cases h)⟩
 ·rw[hv.args];exact⟨u,[],rfl,hp1 _ Nat.one_pos rfl,rfl⟩
 ·rintro e w' ⟨r,rfl,o,ρ2,g1,g2,g3,g4,g5⟩;have hoff:Lf ρ2 ⟨ρ2.n,fun t=>if t=0 then ρ.pl 0 else ρ2.pl t⟩:=⟨rfl,fun t ht=>if_neg ht⟩
  refine⟨r,rfl,o,⟨ρ2.n,fun t=>if t=0 then ρ.pl 0 else ρ2.pl t⟩,g1,g2,fun T hT=>?_,g4.th hoff (hv.res a o),?_⟩
  ·have hT:T<1:=hT;have:T=0:=by omega
   subst this;rfl
  ·have hent:∀e∈vb (C.cS a o),e.tag≠0/\e.ch.Ej=true:=fun e he=>by
    obtain⟨q,hq,rfl⟩:=List.mem_map.1 he;exact hv.cS a o q hq
   refine⟨g5.keeps,fun e he=>?_,g5.apart.imp_of_mem fun {x y} hx hy hxy=>?_⟩
   ·obtain⟨h1,h2⟩:=hent e he;have he:=g5.gz e he;exact⟨he.tag,by rw[hoff.pl _ h1];exact he.ch.th hoff h2,by rw[hoff.pl _ h1];exact he.lt,by rw[hoff.pl _ h1];exact he.own⟩
   ·refine⟨hxy.1,?_⟩;rw[hoff.pl _ (hent x hx).1,hoff.pl _ (hent y hy).1];exact hxy.2
end
end Go.Sx
namespace Go.Proofs.YtfjgoonelcaggaaGreat
open Go.Sx
structure J1 where
 g:dw
 ok:Bool
 run:Int
def g0:dw:=⟨0,0,0,[],[]⟩
def vz(L:bL)(d:bw)(k i:Nat):Nat->Int:=d.now (L.from_+k*8+i)
def rdStep(x:J1)(i:Nat)(f:Nat->Int):J1 :=
 ⟨if !(x.ok&&fJ x.g i f)&&decide (i=0)then { (if x.ok then gv x.g i f else x.g)with gen:=0 }else(if x.ok then gv x.g i f else x.g),x.ok&&fJ x.g i f,max x.run (uw .i64 (gB f 10 4)+1)⟩
def kF(L:bL)(d:bw)(k:Nat):Nat->J1
 |0=>⟨g0,true,L.run⟩
 |i+1=>rdStep (kF L d k i) i (vz L d k i)
def mQ(L:bL)(d:bw)(k:Nat):Option dw :=
 if(kF L d k 8).g.gen<1\/((kF L d k 8).g.gen-1).tmod L.au≠k then none else some (xO (kF L d k 8).g)
structure RW(L:bL)(d:bw)(k:Nat):Prop where
 run:∀i,i<8->0<=uw .i64 (gB (vz L d k i) 10 4)/\uw .i64 (gB (vz L d k i) 10 4)<100000000000
 used:∀i,i<8->(kF L d k i).ok=true->fJ (kF L d k i).g i (vz L d k i)=true->0<vz L d k i 15
theorem Lg(g:dw)(i:Nat)(f:Nat->Int):(gv g i f).aO=g.aO:=by
 have e:(pR g i f).aO=g.aO:=by unfold pR;split<;>rfl
 unfold gv;split
 ·exact e
 ·exact e
theorem OP(g:dw)(i:Nat)(f:Nat->Int):(pR g i f).buf=g.buf:=by
 unfold pR;split<;>rfl
theorem RX{g:dw}{i:Nat}{f:Nat->Int}(h:fJ g i f=false):gv g i f=pR g i f:=by
 unfold gv;rw[h];rfl
theorem OQ{g:dw}{i:Nat}{f:Nat->Int}(h:fJ g i f=true):(gv g i f).buf=g.buf++(List.range (f 15).toNat).map fun k=>f (sA i+k):=by
 unfold gv;rw[if_pos h]
theorem OR{g:dw}{i:Nat}{f:Nat->Int}(h:fJ g i f=true):f 15<=ki i/\g.buf.length=bY i:=by
 unfold fJ at h;simp only[Bool.and_eq_true,decide_eq_true_eq]at h;exact h.2.2.2.2
theorem OS{g:dw}{i:Nat}{f:Nat->Int}(h:g.buf.length<=bY i):(gv g i f).buf.length<=bY (i+1):=by
 cases hB:fJ g i f with
 |false=>rw[RX hB,OP];unfold bY at *;omega
 |true =>
  obtain⟨h1,h2⟩:=OR hB;rw[OQ hB];simp only[List.length_append,List.length_map,List.length_range];unfold bY ki at *;split at h1<;>omega
structure V2(L:bL)(x:J1)(i:Nat):Prop where
 aO:x.g.aO=[]
 buf:x.g.buf.length<=bY i
 run:0<=x.run/\x.run<200000000000
theorem Ck{L:bL}{d:bw}{k:Nat}(h:RW L d k)(h0:0<=L.run/\L.run<200000000000):∀i,i<=8->V2 L (kF L d k i) i
 |0,_=>⟨rfl,by show[].length<=_;simp,h0⟩
 |i+1,hi=>by
  have ih:=Ck h h0 i (by omega);have hr:=h.run i (by omega);obtain⟨g1,g2,g3⟩:=ih;have hb:(if(kF L d k i).ok then gv (kF L d k i).g i (vz L d k i)else(kF L d k i).g).aO=[]/\(if(kF L d k i).ok then gv (kF L d k i).g i (vz L d k i)else(kF L d k i).g).buf.length<=bY (i+1):=by
   split
   ·exact⟨(Lg _ _ _).trans g1,OS g2⟩
   ·exact⟨g1,by unfold bY at *;omega⟩
  show V2 L (rdStep (kF L d k i) i (vz L d k i)) (i+1);unfold rdStep;refine⟨?_,?_,by dsimp only;omega⟩
  ·dsimp only;split
   ·exact hb.1
   ·exact hb.1
  ·dsimp only;split
   ·exact hb.2
   ·exact hb.2
theorem fC.Yd{X:PH}{y:mm}{g:dw}(h:fC X y g):fC (aM X y.b 0 (cR { g with gen:=0 } y.bv y.rv)) y { g with gen:=0 }/\Fr X y (aM X y.b 0 (cR { g with gen:=0 } y.bv y.rv)) y :=
 sB h rfl rfl ⟨by simp only[bQ];omega,h.at_.Az.2.1,h.at_.Az.2.2⟩
theorem Ye(H:PH)(b:Nat):fC (aM H b 0 [.int .i64 0,.int .i64 0,.int .i64 0,.slice none 0 0,.slice none 0 0]) (newL b) g0 :=
 ⟨⟨dB ..,⟨by simp only[g0,bQ];omega,by simp only[g0,bQ];omega,by simp only[g0,bQ];omega⟩,⟨0,.inl ⟨rfl,rfl,rfl⟩⟩,⟨0,.inl ⟨rfl,rfl,rfl⟩⟩,rfl,fun i hi=>absurd hi (Nat.not_lt_zero i)⟩,by simp[newL,br,fm]⟩
structure rj where
 H:PH
 L:bL
 lv:Value
 d:bw
 k:Nat
structure Nr where
 H:PH
 y:mm
 v:Value
def Cl(H:PH)(b:Nr):Option dw->Prop
 |none=>b.v = .pointer none/\∀x,H x≠none->b.H x=H x
 |some g=>b.v=pv b.y.b 0/\fC b.H b.y g/\∀x,H x≠none->b.H x=H x/\x∉br b.y
noncomputable def Lh:cF where
 α:=rj
 β:=Nr
 m:=4
 m':=5
 pre:=fun a=>a.k<a.L.au/\3<=a.L.au/\a.L.au<=200/\a.L.from_+a.L.au*8<=a.d.n/\a.d.n<100000/\0<=a.L.run/\a.L.run<200000000000/\RW a.L a.d a.k
 args:=fun a=>[.a (.ptr 0 0 0 0),.a (.int .i64 a.k)]
 hp:=fun a=>[(0,fI 1 a.L a.lv),(3,.ct a.H)]
 ro:=fun a=>gn 1 2 a.d
 post:=fun a b=>Cl a.H b (mQ a.L a.d a.k)
 res:=fun _ b=>.a (.val b.v)
 cS:=fun a b=>[(0,fI 1 { a.L with run:=(kF a.L a.d a.k 8).run } a.lv),(4,.ct b.H)]
structure RY where
 i:Nat
 H:PH
 y:mm
def WQ(a:rj):An:=.flat 4 RY (fun s x=>S.ct ((((s.at_ (s.tg 0) (fI (s.oQ (s.tg 0) 0) { a.L with run:=(kF a.L a.d a.k x.i).run } a.lv)).set 5 (.a (.val (pv x.y.b 0)))).set 6 (.a (.bool (kF a.L a.d a.k x.i).ok))).int 12 x.i) x.H)
 (fun _ x=>x.i<=8/\fC x.H x.y (kF a.L a.d a.k x.i).g/\∀z,a.H z≠none->x.H z=a.H z/\z∉br x.y) (fun _ x=>8-x.i)
def WR(a:rj):An:=.Nl 3 5 (.mk 1000 [WQ a] [])
def ng(x:rj)(y:RY):J1:=kF x.L x.d x.k y.i
def oo(x y:Option (Nat×List Value))(z:List Nat)(u:Nat):=x≠none->y=x/\¬u∈z
def Gp(x:RY)(u:rj):=fC x.H x.y (J1.g (ng u x))/\∀z:Nat,oo (u.H z) (x.H z) (br x.y) z
def Gq(x:rj)(y:Int)(z:J1)(u:Prop):=ag (cC (af x.L.from_) (af x.L.au) (cQ x.lv) (aH x.L.next/\y=z.run/\bO x.L.fresh u))
def I7(x:rj)(u:PH)(y z:RY)(v:wo):=ag (aW x.k/\u=y.H/\Gq x (oF true (J1.run (ng x z)) (qH v+(1:Int))) (ng x y) (fV x.d x.d (dO y.i 8 (Gp y x) z.i)))
def Gr(z:Value)(u:PH)(x:rj)(w:RY):=∃y:Nr,z=y.v/\u=y.H/\Gq x (J1.run (ng x w)) (kF x.L x.d x.k 8) (Cl x.H y (mQ x.L x.d x.k)/\True)
def Gs(x:rj):=x.k<x.L.au/\3<=x.L.au/\x.L.au<=200/\iH (x.L.from_+x.L.au*8) x.d.n ((0:Int)<=x.L.run/\x.L.run<(200000000000:Int)/\RW x.L x.d x.k)
theorem OT:fnBody (Y Tryz.prog) [(201,BU),(230,II),(231,RP),(232,Cj)] 205 Lh fun a=>[(205,[],[WR a])]:=fnBody.of (p :=
 ∀u:rj,Gs u->∀o:Nat,u.H o=none->(∃x:RY,aK x.i (true=J1.ok (ng u x)/\kj o x.y.b/\ag (aW u.k/\B7 u.H o 0 0=x.H/\Gq u u.L.run (ng u x) (fV u.d u.d ((x.i<=8/\Gp x u)/\True)))))/\∀x:RY,x.i<=8/\Gp x u->aG (aA (af x.i) 8) (F7 u.L (af u.k) x.i (∃v:YM,ag (af u.L.from_+af u.k*(8:Int)+af x.i=af v.i/\fV u.d v.d ((v.i<v.d.n/\v.d.n<100000)/\∀t:Nat,64<=t->ai (J1.run (ng u x))->dh 14 t/\dZ 10 14/\uj 10 4 t 10 (v.d.now v.i) fun j=>ai (qH j+(1:Int))/\aG (J1.ok (ng u x)) (∃z:xN,kj x.y.b z.y.b/\bu x.i z.i/\bR 64 (t=z.cap)/\x.H=z.H/\bB 64 64 1 (bK (v.d.now v.i)) (bK z.f)/\Gj z/\∀w:Aa,Ci w z->qA (bC (fJ z.g z.i z.f)) (af x.i == (0:Int)) (Exists (mz (pv x.y.b 0) 0 (fun s=>w.H s) 1 fun s h q r=>aP x.i/\∃l:RY,bx x.i l.i/\fJ z.g z.i z.f=J1.ok (ng u l)/\kj x.y.b l.y.b/\I7 u (aM w.H s h (pP q r (bt 0 []) 1)) l x j)) (aP x.i/\∃s:RY,bx x.i s.i/\fJ z.g z.i z.f=J1.ok (ng u s)/\kj x.y.b s.y.b/\I7 u w.H s x j)) (aG (af x.i == (0:Int)) (Exists (mz (pv x.y.b 0) 0 (fun z=>x.H z) 1 fun z w c s=>aP x.i/\∃h:RY,bx x.i h.i/\fM (J1.ok (ng u h)) (kj x.y.b h.y.b) (I7 u (aM x.H z w (pP c s (bt 0 []) 1)) h x j))) (aP x.i/\∃z:RY,bx x.i z.i /\
 fM (J1.ok (ng u z)) (kj x.y.b z.y.b) (I7 u x.H z x j))))))) (Exists (ic (pv x.y.b 0) 0 (fun v=>x.H v) fun v t=>aG (aA (jC (aQ t v)) 1) (Gr B6 x.H u x) (Exists (ic (pv x.y.b 0) 0 (fun m=>x.H m) fun m p=>ai (jC (aQ p m)-(1:Int))/\(ai (af u.L.au)->af u.L.au≠(0:Int)/\aG ((jC (aQ p m)-(1:Int)).tmod (af u.L.au) != af u.k) (Gr B6 x.H u x) (∃z:sY,kj x.y.b z.y.b/\x.H=z.H/\(fC z.H z.y z.g/\av z.g.buf<=378/\z.g.aO=[])/\∀w:Aa,fC w.H w.y (xO z.g)/\w.y.b=z.y.b/\Fr z.H z.y w.H w.y->Gr (pv x.y.b 0) w.H u x))))))) (by kernel_rfl) (by
 delta qA aG aQ av bB cC gu ai bt bR aH oF aA af mz bO iA dZ dO bG aF dL fM bP cQ aI I7 ic fS qH Gr aP uj aW aK ng oo ag mZ Ci Gs bx qx bu Gp Gq kj Gj bC iH dh F7 jf pP B7 og B6
 try dsimp -iota -proj only
 rintro⟨H,L,lv,d,k⟩ ⟨h1,h2,h3,h4,h5,h6,h7,ok⟩;dsimp only at *;intro b hb;refine⟨⟨⟨0,aM H b 0 [.int .i64 0,.int .i64 0,.int .i64 0,.slice none 0 0,.slice none 0 0],newL b⟩,?_⟩,?_⟩
 ·have hz:∀z,H z≠none->aM H b 0 [.int .i64 0,.int .i64 0,.int .i64 0,.slice none 0 0,.slice none 0 0] z=H z/\¬z∈br (newL b):=fun z hz=>by
   have:z≠b:=fun e=>hz (by rw[e];exact hb);exact⟨cw this,by simpa[newL,br,fm]using this⟩
  and_intros<;>first|exact cT|exact Ye H b|exact hz|rfl
 ·rintro⟨i,X,Y⟩ ⟨hi,hX,hfr⟩;dsimp only at *;obtain⟨v1,v2,v3⟩:=Ck ok ⟨h6,h7⟩ i hi;refine⟨fun c1=>?_,fun c1=>?_⟩
  ·have hi8:i<8:=by have:=of_decide_eq_true c1;omega
   obtain⟨F,hF⟩:∃F,F=vz L d k i:=⟨_,rfl⟩
   have hok:=ok.run i hi8;have hus:=ok.used i hi8;have hstep:kF L d k (i+1)=rdStep (kF L d k i) i F:=by rw[hF];rfl
   have hdn:d.now (L.from_+k*8+i)=F:=by rw[hF];rfl
   rw[<- hF]at hok hus;obtain⟨R,hR⟩:∃R,R=kF L d k i:=⟨_,rfl⟩
   rw[<- hR]at hX v1 v2 v3 hus ⊢;have e10:jK (fun i=>u8 (bK F) (10+i)) 4=gB F 10 4:=rfl;intro _;refine⟨by simp only[bQ];omega,by simp only[bQ];omega,by simp only[bQ];omega,YM.mk d (L.from_+k*8+i),?_⟩;have hin:L.from_+k*8+i<d.n:=by omega
   and_intros<;>first|exact cT|skip
   intro cap hcap;intro _
   repeat refine kJ ?_
   refine⟨wo.mk 10 4 (cap-10) 64 (bK F),?_⟩;simp only[hdn]
   and_intros<;>first|exact cT|skip
   intro _ _;simp only[e10,cond_true];refine⟨by simp only[bQ];omega,fun c2=>⟨xN.mk X Y R.g i F cap,?_⟩,fun c2=>⟨fun c3=>?_,fun c3=>?_⟩⟩
   ·have hsz:R.g.buf.length<=378:=by unfold bY at v2;omega
    and_intros<;>first|exact cT|exact hX|exact hus c2|skip
    rintro⟨X1,Y1⟩ ⟨t1,t2,t3,t4⟩;dsimp only at *;have f1:∀z,H z≠none->X1 z=H z/\¬z∈br Y1:=fun z hz=>by
     obtain⟨a1,a2⟩:=hfr z hz;obtain⟨b1,b2⟩:=t4 z (by rw[a1];exact hz) a2;exact⟨b1.trans a1,b2⟩
    refine⟨fun c3=>⟨fun c4=>?_,fun c4=>?_⟩,fun c3=>?_⟩
    ·have hg:(rdStep R i F).g={ gv R.g i F with gen:=0 }:=by
      have:fJ R.g i F=false:=by simpa using c3
      have hi0:i=0:=by simpa using c4
      subst hi0;simp[rdStep,c2,this]
     obtain⟨q1,q2⟩:=t1.Yd;refine⟨_,_,rfl,_,_,rfl,Y1.b,0,0,_,by rw[t2],t1.at_.cell,by simp[cR],by simp only[bQ];omega,⟨i+1,aM X1 Y1.b 0 (cR { gv R.g i F with gen:=0 } Y1.bv Y1.rv),Y1⟩,?_⟩;rw[hstep,<- hR];have f2:∀z,H z≠none->aM X1 Y1.b 0 (cR { gv R.g i F with gen:=0 } Y1.bv Y1.rv) z=H z/\¬z∈br Y1:=fun z hz=>by
      obtain⟨a1,a2⟩:=f1 z hz;obtain⟨b1,b2⟩:=q2 z (by rw[a1];exact hz) a2;exact⟨b1.trans a1,b2⟩
     rw[hg]
     and_intros<;>first|exact cT|exact q1|exact f2|(rw[t2];done)|(simp[rdStep,c2];done)|rfl|skip
    ·have hg:(rdStep R i F).g=gv R.g i F:=by
      have hi0:i≠0:=by simpa using c4
      simp[rdStep,c2,hi0]
     refine⟨by simp only[bQ];omega,⟨i+1,X1,Y1⟩,?_⟩;rw[hstep,<- hR,hg]
     and_intros<;>first|exact cT|exact t1|exact f1|(rw[t2];done)|(simp[rdStep,c2];done)|rfl|skip
    ·have hg:(rdStep R i F).g=gv R.g i F:=by
      have:fJ R.g i F=true:=by simpa using c3
      simp[rdStep,c2,this]
     refine⟨by simp only[bQ];omega,⟨i+1,X1,Y1⟩,?_⟩;rw[hstep,<- hR,hg]
     and_intros<;>first|exact cT|exact t1|exact f1|(rw[t2];done)|(simp[rdStep,c2];done)|rfl|skip
   ·have hg:(rdStep R i F).g={ R.g with gen:=0 }:=by
     have hi0:i=0:=by simpa using c3
     subst hi0;simp[rdStep,c2]
    obtain⟨q1,q2⟩:=hX.Yd;refine⟨_,_,rfl,_,_,rfl,Y.b,0,0,_,rfl,hX.at_.cell,by simp[cR],by simp only[bQ];omega,⟨i+1,aM X Y.b 0 (cR { R.g with gen:=0 } Y.bv Y.rv),Y⟩,?_⟩;rw[hstep,<- hR];have f2:∀z,H z≠none->aM X Y.b 0 (cR { R.g with gen:=0 } Y.bv Y.rv) z=H z/\¬z∈br Y:=fun z hz=>by
     obtain⟨a1,a2⟩:=hfr z hz;obtain⟨b1,b2⟩:=q2 z (by rw[a1];exact hz) a2;exact⟨b1.trans a1,b2⟩
    rw[hg]
    and_intros<;>first|exact cT|exact q1|exact f2|(simp[rdStep,c2];done)|rfl|skip
   ·have hg:(rdStep R i F).g=R.g:=by
     have hi0:i≠0:=by simpa using c3
     simp[rdStep,c2,hi0]
    refine⟨by simp only[bQ];omega,⟨i+1,X,Y⟩,?_⟩;rw[hstep,<- hR,hg]
    and_intros<;>first|exact cT|exact hX|exact hfr|(simp[rdStep,c2];done)|rfl|skip
  ·have hi8:i=8:=by have:=of_decide_eq_false c1;omega
   subst hi8;obtain⟨r1,r2,r3⟩:=hX.at_.Az;have hcell:=hX.at_.cell;obtain⟨R,hR⟩:∃R,R=kF L d k 8:=⟨_,rfl⟩
   rw[<- hR]at hX v1 v2 v3 r1 hcell ⊢;have hseg:mQ L d k=if R.g.gen<1\/(R.g.gen-1).tmod L.au≠k then none else some (xO R.g):=by rw[hR];rfl
   have fnone:mQ L d k=none->Cl H ⟨X,Y,.pointer none⟩ (mQ L d k):=fun e=>by
    rw[e];exact⟨rfl,fun z hz=>(hfr z hz).1⟩
   refine⟨_,_,rfl,?_⟩;refine⟨_,_,rfl,?_⟩;refine⟨_,0,_,_,rfl,hcell,?_⟩;refine⟨⟨⟨_,rfl,_,rfl,r1⟩,trivial⟩,fun _=>?_⟩;simp only[cR,List.getD_cons_zero,jC];refine⟨fun c2=>⟨⟨X,Y,.pointer none⟩,?_⟩,fun c2=>?_⟩
   ·have c2:=of_decide_eq_true c2;have hno:mQ L d k=none:=by rw[hseg,if_pos (.inl c2)]
    and_intros<;>first|exact cT|exact fnone hno|rfl
   ·have c2:=of_decide_eq_false c2;refine⟨_,_,rfl,?_⟩;refine⟨_,_,rfl,?_⟩;refine⟨_,0,_,_,rfl,hcell,?_⟩;refine⟨⟨⟨_,rfl,_,rfl,r1⟩,trivial⟩,fun _=>?_⟩;simp only[cR,List.getD_cons_zero,jC];refine⟨by simp only[bQ]at *;omega,fun _=>⟨by omega,fun c3=>⟨⟨X,Y,.pointer none⟩,?_⟩,fun c3=>?_⟩⟩
    ·have c3:(R.g.gen-1).tmod L.au≠k:=by simpa using c3
     have hno:mQ L d k=none:=by rw[hseg,if_pos (.inr c3)]
     and_intros<;>first|exact cT|exact fnone hno|rfl
    ·have c3:(R.g.gen-1).tmod L.au=k:=by simpa using c3
     have hyes:mQ L d k=some (xO R.g):=by rw[hseg,if_neg (by rintro(e|e)<;>omega)]
     refine⟨sY.mk X Y R.g,?_⟩;have hsz:R.g.buf.length<=378:=v2
     and_intros<;>first|exact cT|exact hX|exact v1|skip
     rintro⟨X1,Y1⟩ ⟨t1,t2,t3⟩;dsimp only at *;have f1:∀z,H z≠none->X1 z=H z/\¬z∈br Y1:=fun z hz=>by
      obtain⟨a1,a2⟩:=hfr z hz;obtain⟨b1,b2⟩:=t3 z (by rw[a1];exact hz) a2;exact⟨b1.trans a1,b2⟩
     refine⟨⟨X1,Y1,pv Y.b 0⟩,?_⟩;rw[hyes];have hp:Cl H ⟨X1,Y1,pv Y.b 0⟩ (some (xO R.g)):=⟨by rw[t2],t1,f1⟩
     and_intros<;>first|exact cT|exact t1|exact f1|(show pv Y.b 0=pv Y1.b 0;rw[t2])|rfl)
theorem OU:ak (Y Tryz.prog).G.X 205 Lh:=aT fF OT ⟨IK,AY,RR,I5,trivial⟩
noncomputable def Ns(n:Int):cF where
 α:=Unit
 β:=Unit
 m:=0
 m':=0
 pre:=fun _=>True
 args:=fun a=>[.a (.lit .u64 n)]
 hp:=fun _=>[]
 ro:=fun _=>[]
 post:=fun _ _=>True
 res:=fun _ b=>.a (.lit .i64 n)
 cS:=fun _ _=>[]
theorem RZ:fnBody (Yf Tryz.prog) [] 189 (Ns 0) fun _=>[]:=fnBody.of (p :=
 aI (Exists (bV (aH 0)))) (by kernel_rfl) (by
 delta aH aI bV ay bg
 exact fun _ _=>⟨(),rfl,trivial,trivial⟩)
theorem R3:fnBody (Yf Tryz.prog) [] 189 (Ns 1) fun _=>[]:=fnBody.of (p :=
 aI (Exists (bV (aH 1)))) (by kernel_rfl) (by
 delta aH aI bV ay bg
 exact fun _ _=>⟨(),rfl,trivial,trivial⟩)
noncomputable def R4:cF where
 α:=Int
 β:=Unit
 m:=0
 m':=0
 pre:=fun a=>a=0\/a=1
 args:=fun a=>[.a (.int .u64 a)]
 hp:=fun _=>[]
 ro:=fun _=>[]
 post:=fun _ _=>True
 res:=fun a _=>.a (.int .i64 a)
 cS:=fun _ _=>[]
theorem R5(n:Int)(h:fnBody (Yf Tryz.prog) [] 189 (Ns n) fun _=>[]):lE (Yf Tryz.prog).G.X (Ns n) 189:=AW XP (fun _=>xI XP (iW:=[]) trivial) h.body
theorem Vb:lE (Y Tryz.prog).G.X R4 189:=by
 intro a ha M ρ w vs hn hh hargs;rcases ha with rfl|rfl
 ·exact R5 0 RZ () trivial M ρ w vs hn hh hargs
 ·exact R5 1 R3 () trivial M ρ w vs hn hh hargs
theorem R6:ak (Y Tryz.prog).G.X 189 R4:=fun _ _ _ h=>ve Vb h
noncomputable def Vc(k:Nat):cF where
 α:=Unit
 β:=Unit
 m:=0
 m':=0
 pre:=fun _=>False
 args:=fun _=>List.replicate k (.a .any)
 hp:=fun _=>[]
 ro:=fun _=>[]
 post:=fun _ _=>True
 res:=fun _ _=>.a .any
 cS:=fun _ _=>[]
theorem Gt(k f:Nat):ak (Y Tryz.prog).G.X f (Vc k):=aT fF (iW:=[]) (l:=fun _=>[]) ⟨fun a h=>False.elim h⟩ trivial
structure I8 where
 v:Value
 n:Nat
def Cm(v:Value)(n:Nat):Prop:=n<=1/\(∃a c,v = .slice a n c)/\v.oneCell'=true
noncomputable def R7:cF where
 α:=I8
 β:=Unit
 m:=0
 m':=0
 pre:=fun a=>Cm a.v a.n
 args:=fun a=>[.a (.val a.v),.a (.int .i64 0),.a (.int .i64 a.n),.a (.fn 207)]
 hp:=fun _=>[]
 ro:=fun _=>[]
 post:=fun _ _=>True
 res:=fun _ _=>.lY []
 cS:=fun _ _=>[]
def Yg:An:=.flat 4 Unit (fun s _=>s) (fun _ _=>False) (fun _ _=>0)
def Yh(a:I8):An:=.mk 1 Unit (fun s _=>s) (fun _ _=>True) (fun _ _=>0) fun _=>.mk 60 [Yg] []
theorem R8:fnBody (Y Tryz.prog) [] 254 R7 fun a=>[(254,[Yh a],[])]:=fnBody.of (p :=
 ∀x:I8,Cm x.v x.n->ai 1/\Exists (ay (aH 1/\cQ x.v/\cC 0 (af x.n) True True))/\aI (bf 1 x.n (Exists (ay (aH 1/\bO (aA 1 (af x.n)) (aH 1/\cQ x.v/\cC 0 (af x.n) False True)))/\∀y:Unit,False->aG true (Exists (iF x.v 1 fun z u=>False)) (ai 2/\Exists (ay ((2:Int)=1/\cQ x.v/\cC 0 (af x.n) True (0<0))))) (Exists (ay (True/\True))))) (by kernel_rfl) (by
 delta aG cC ai aH aA cn af bO aF bn cQ aI ay iF bf
 try dsimp -iota -proj only
 rintro⟨v,n⟩ ⟨h1,_⟩;dsimp only at *;refine⟨by simp only[bQ];omega,⟨(),?_⟩,fun _ _=>⟨fun c1=>?_,fun _=>⟨(),trivial,trivial⟩⟩⟩
 ·and_intros<;>first|trivial|rfl
 ·exfalso;have:=of_decide_eq_true c1;omega)
theorem R9:ak (Y Tryz.prog).G.X 254 R7:=aT fF R8 trivial
noncomputable def Li:cF where
 α:=I8
 β:=Unit
 m:=0
 m':=0
 pre:=fun a=>Cm a.v a.n
 args:=fun a=>[.a (.val a.v),.a (.fn 207)]
 hp:=fun _=>[]
 ro:=fun _=>[]
 post:=fun _ _=>True
 res:=fun _ _=>.lY []
 cS:=fun _ _=>[]
noncomputable def Sa:List (Nat×cF):=[(189,R4),(254,R7),(255,Vc 4),(256,Vc 4),(257,Vc 4)]
def WS:An:=.flat 2 Unit (fun s _=>s) (fun _ _=>True) (fun _ _=>0)
theorem OV:fnBody (Y Tryz.prog) Sa 206 Li fun a=>[(233,[WS],[])]:=fnBody.of (p :=
 ∀x:I8,Cm x.v x.n->Exists (ga x.v)/\∃y:Int,cN (af (cU x.v))=y/\(y=(0:Int)\/y=(1:Int))/\aI (Exists (ay (bO true (bO true (cQ x.v/\cC 0 (af (cU x.v)) (y=y) (True/\True)))))/\aI (ai (af (cU x.v)-(0:Int))/\aG (cO (af (cU x.v)-(0:Int)) 12) (∃z:I8,x.v=z.v/\aR (bu (cU x.v) z.n/\Cm z.v z.n/\aI (Exists (ay (True/\True))))) (aG (y == (0:Int)) (Exists (ay (False/\aI (Exists (ay (True/\True)))))) (Exists (ay (False/\aI False))))))) (by kernel_rfl) (by
 delta aG cC ai aH af bO aF cQ ga aI ay cN cO aR bu
 rintro⟨v,n⟩ ⟨h1,⟨ba,c,h2⟩,h3⟩;dsimp only at h1 h2 h3;subst h2;have hl:cU (.slice ba n c)=n:=rfl;dsimp only at *;rw[hl];have e1:uw .u64 (n:Int)=n:=by simp only[uw];omega
 refine⟨⟨_,_,_,rfl,by simp only[aq];omega⟩,n,e1,by omega,fun _ _=>⟨⟨(),?_⟩,fun _ _=>⟨by simp only[bQ];omega,fun c1=>⟨⟨.slice ba n c,n⟩,?_⟩,fun c1=>?_⟩⟩⟩
 ·and_intros<;>first|trivial|rfl
 ·have hp:Cm (.slice ba n c) n:=⟨h1,⟨_,_,rfl⟩,h3⟩
  (repeat' (first|apply And.intro|(intro _)|apply Exists.intro ()))<;>first|trivial|rfl|omega|exact h1|exact h3|exact⟨_,_,rfl⟩
 ·exfalso;have:=of_decide_eq_false c1;omega)
theorem OW:ak (Y Tryz.prog).G.X 206 Li:=aT fF OV ⟨R6,R9,Gt _ _,Gt _ _,Gt _ _,trivial⟩
structure vJ where
 H:PH
 y:gT
 L:bL
 gb:Nat
 t:Int
 s:Int
noncomputable def vj:cF where
 α:=vJ
 β:=Unit
 m:=3
 m':=3
 pre:=fun a=>bT a.H a.y a.L/\a.L.l.length<1000/\0<=a.s/\a.s<=1000/\bQ .i64 a.t/\0<=a.t/\(∃r,a.H a.gb=some (0,.int .i64 a.t::r))/\∀i,i<a.L.l.length->a.t-a.s<(gl a.L.l i).gen
 args:=fun a=>[.a (.val a.y.lv),.AM 209 [.ptr 0 0 0 0,.ptr 1 0 0 0]]
 hp:=fun _=>[]
 ro:=fun a=>[(0,.obj 289 [.val (pv a.gb 0)]),(1,.obj 3 [.int .i64 a.s]),(2,.ct a.H)]
 post:=fun _ _=>True
 res:=fun a _=>.a (.val a.y.lv)
 cS:=fun _ _=>[]
noncomputable def Gu:cF where
 α:=vJ
 β:=Unit
 m:=3
 m':=3
 pre:=vj.pre
 args:=vj.args
 hp:=fun _=>[]
 ro:=vj.ro
 post:=fun _ _=>True
 res:=fun a _=>.a (.lit .i64 (-1))
 cS:=fun _ _=>[]
def Vd(a:vJ):An:=.flat 2 Nat (fun s k=>s.int 8 k) (fun _ k=>k<=a.L.l.length) (fun _ k=>a.L.l.length-k)
def wJ(x:vJ):=bT x.H x.y x.L/\bz x.L<1000/\(0:Int)<=x.s/\x.s<=(1000:Int)/\ai x.t/\(0:Int)<=x.t/\(∃z:List Value,x.H x.gb=some (0,bt x.t z))/\∀z:Nat,z<bz x.L->x.t-x.s<(gl x.L.l z).gen
theorem Lj:fnBody (Y Tryz.prog) [] 234 Gu fun a=>[(234,[Vd a],[])]:=fnBody.of (p :=
 ∀x:vJ,wJ x->F9 x.y x.gb (fun z=>aH x.s/\x.H=x.H/\z<=bz x.L/\True) (fun z=>z<=bz x.L) (fun z=>x.H z) (fun z=>x.H z) (fun z=>x.H z) x.s (fun z=>Exists (bV (af z=(-1:Int)))) (fun z u=>aH x.s/\x.H=x.H/\bS u (bz x.L) z) (Exists (bV (aH (-1:Int))))) (by kernel_rfl) (by
 delta aG aQ cC gu ai bt bR az aH aA cn af iA aF dL aU bn bP cQ ga pN dm bV bz dS ic bS wJ ay aP iF cO aK bf ag F9 bg bx ax sj jf
 try dsimp -iota -proj only
 rintro⟨H,y,L,gb,T,S⟩ ⟨hl,h1,h2,h2',h3,h4,⟨gr,hgb⟩,h5⟩;dsimp only at *;obtain⟨e1,_,⟨ea,ec,e2⟩,e3,_⟩:=hl.qC;refine⟨⟨ea,_,ec,e2,e3⟩,⟨0,?_⟩,fun k hk=>⟨fun c1=>?_,fun c1=>⟨(),?_⟩⟩⟩
 ·and_intros<;>first|exact cT
 ·rw[e1]at c1;have hk:k<L.l.length:=by simpa using c1
  obtain⟨b,lo,o,c,cs,g1,g2,g3,g4⟩:=hl.at_ hk;have hs:=hl.seg k hk;obtain⟨r1,_,_⟩:=hs.Az;refine⟨_,_,_,_,g1,by omega,b,lo,o+k*1,cs,by rw[Int.toNat_natCast,Nat.add_assoc],g2,⟨⟨_,g3,rfl⟩,trivial⟩,?_⟩;refine⟨_,_,g4,?_⟩;refine⟨_,_,rfl,?_⟩;refine⟨_,0,_,_,rfl,hs.cell,?_⟩;refine⟨⟨⟨_,rfl,_,rfl,r1⟩,trivial⟩,fun _=>?_⟩;refine⟨_,_,rfl,?_⟩;refine⟨_,_,rfl,?_⟩;refine⟨_,0,_,_,rfl,hgb,?_⟩;refine⟨⟨⟨_,rfl,_,rfl,h3⟩,trivial⟩,fun _ _=>?_⟩;simp only[cR,List.getD_cons_zero,jC,bQ]at h3 ⊢;have h6:=h5 k hk;refine⟨by omega,fun c2=>?_,fun c2=>⟨by omega,k+1,?_⟩⟩
  ·exfalso;simp at c2;omega
  ·and_intros<;>first|exact cT
 ·and_intros<;>first|exact cT)
theorem Lk:ak (Y Tryz.prog).G.X 234 Gu:=aT fF Lj trivial
theorem Ll:fnBody (Y Tryz.prog) [(234,Gu)] 208 vj fun a=>[]:=fnBody.of (p :=
 ∀x:vJ,wJ x->∃z:vJ,x.y.lv=z.y.lv/\ax (kj x.gb z.gb/\x.s=z.s/\x.H=z.H/\wJ z/\aI (Exists (bV (cQ x.y.lv))))) (by kernel_rfl) (by
 delta ai bt bR dL bP cQ aI bV bz wJ ay ag bg ax kj
 intro a h;refine⟨a,?_⟩;obtain⟨h1,h2,h3,h4,h5,h6,h7,h8⟩:=h
 (repeat' (first|apply And.intro|(intro _)|apply Exists.intro ()))<;>first|exact cT|exact h7|exact h5.2|exact h5.1|exact h8 _ (by assumption))
theorem Lm:ak (Y Tryz.prog).G.X 208 vj:=aT fF Ll ⟨Lk,trivial⟩
end Go.Proofs.YtfjgoonelcaggaaGreat
