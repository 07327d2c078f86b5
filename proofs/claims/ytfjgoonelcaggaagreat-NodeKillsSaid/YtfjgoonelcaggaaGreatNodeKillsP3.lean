/-
  
-/
import Derived.Test.YtfjgoonelcaggaaGreatNodeKillsP2
set_option maxRecDepth 100000
set_option maxHeartbeats 4000000
set_option linter.unusedVariables false
set_option linter.unusedSimpArgs false
namespace Go.Proofs.YtfjgoonelcaggaaGreat
open Go.Sx
def u8(r:Nat->Nat->Value)(i:Nat):Int:=jD (r i 0)
def Z1(x:Int):Int:=dz .xor .u32 (x/2) (dz .and .u32 3988292384 (uw .u32 (0-dz .and .u32 x 1)))
def Js:Nat->Int->Int
 |0,x=>x
 |k+1,x=>Z1 (Js k x)
def qF(r:Nat->Int):Nat->Int
 |0=>4294967295
 |k+1=>Js 8 (dz .xor .u32 (qF r k) (r k))
structure y8 where
 c:Nat
 r:Nat
 len:Nat
 cap:Nat
 n:Nat
 rows:Nat->Nat->Value
noncomputable def Sq:cD where
 α:=y8
 β:=Unit
 m:=2
 m':=2
 pre:=fun a=>a.r+a.len<=a.n/\a.len<100000
 args:=fun a=>[.a (.slc 0 0 1 1 a.c)]
 hp:=fun _=>[]
 ro:=fun a=>[(0,.obj 58 [.slc 1 a.r 1 a.len a.cap]),(1,.arr 5 [.int .u8] a.n a.rows)]
 post:=fun _ _=>True
 res:=fun a _=>.a (.int .u32 (dz .xor .u32 4294967295 (qF (fun i=>u8 a.rows (a.r+i)) a.len)))
 cT:=fun _ _=>[]
def YT:An:=.flat 10 Nat (fun s j=>(s.set 3 (.a (.int .u32 (Js j (S.iv s 3))))).int 24 j) (fun _ j=>j<=8) (fun _ j=>8-j)
def Z2(a:y8):An:=.mk 6 Nat (fun s i=>(s.set 3 (.a (.int .u32 (qF (fun i=>u8 a.rows (a.r+i)) i)))).int 16 i) (fun _ i=>i<=a.len) (fun _ i=>a.len-i) fun _=>.mk 60 [YT] []
def aD(x:Bool):=x=true
def aO(x:Bool)(y z:Prop):=(aD x->y)/\(x=false->z)
def cz(x y:Int)(z u:Prop):=x=x/\y=y/\z/\u
def aL(x y z:Nat)(u v:Nat->Nat->Value):=x<=y/\aj x z u v
def ah(x:Int):=bL .i64 x
def ag(x:Prop):=0=0/\x
def bW(x:Nat)(y:Prop):=ag (x=x/\y)
def aa(x:Nat):Int:=(x:Int)
def aX(x:Int):Nat:=x.toNat
def az(x:Nat):Nat:=aX (aa x)
def aG(x:Int):=x=x
def bB(x:Bool):=x=x
def aQ(x y:Int):Bool:=decide (x<y)
def aY(x:Nat):Int:=aa x+(1:Int)
def bg(x y:Int):=(0:Int)<=x/\x<y
def ig(y x z:Prop):=y/\x/\x/\z
def kg(x y z:Nat):=x=x/\y=y/\z=z
def dN(x z:Nat)(y:Nat->Nat->Value):=aL x x z y y
def bD(y x:Nat):=bW y (x=x)
def ay(x:Prop):=∃y:Unit,x
def bp(x:Prop):=x/\True/\True
def bQ(x:Prop):=ay (bp x)
def bS(y x z:Nat):=y<=x/\x-y<x-z
def aP(x:Nat)(y:Prop):=ah (aY x)/\y
def bY(x:Nat)(z:Nat->Prop):=aP x (∃y:Nat,aY x=aa y/\z y)
def uz(x:y8)(y:Nat):Int:=qF (fun z=>u8 x.rows (x.r+z)) y
def wL(x:y8)(y:Nat):Int:=dz Go.BinOp.xor .u32 (uz x y) (jD (x.rows (x.r+az y) 0))
def aC(x:Nat)(y:Prop):=(0:Int)=aa x/\y
def oH(x y:Nat)(z u:Prop):=bB (aQ (aa x) (aa y))/\cz (aa x) (aa y) z u
def aW(x:Prop):=aG 0/\x
def Cg(x:y8)(y:Prop):=bB true/\cz 0 1 (bD 1 x.c) (aW (bD 1 x.c/\kg x.r x.len x.cap/\dN x.n 1 x.rows/\y))
def aA(x y:Int)(z u:Prop):=aO (aQ x y) z u
def uA(x:y8)(y:Nat):Int:=dz Go.BinOp.xor .u32 (4294967295:Int) (uz x y)
def mq(x:Int)(y:Nat)(z u:Prop):=aA x (aa y) (bg x (aa y)/\z) u
def bh(x:Nat):=aG (aa x)
def jE(x:Int):=bL .u8 x
theorem VN:fnBody (Y Tryz.prog) [] 203 Sq fun a=>[(203,[Z2 a],[])]:=fnBody.of (p :=
 ∀x:y8,x.r+x.len<=x.n/\x.len<100000->bg 0 1/\(∃y:Nat,aC y ((4294967295:Int)=uz x y/\ig (bh x.len) (kg x.r x.len x.cap) (Cg x (y<=x.len/\True))))/\∀y:Nat,y<=x.len->mq (aa y) x.len (x.r+az y<x.n/\(jE (jD (x.rows (x.r+az y) 0))->(∃z:Nat,aC z (wL x y=Js z (wL x y)/\aG (jD (x.rows (x.r+az y) 0))/\oH y x.len (kg x.r x.len x.cap) (kg x.r x.len x.cap/\Cg x (z<=8/\True))))/\∀z:Nat,z<=8->aA (aa z) 8 ((0:Int)<=1/\bY z fun u=>dz .xor .u32 (Js z (wL x y)/(2:Int)) (dz .and .u32 (3988292384:Int) (uw .u32 ((0:Int)-dz .and .u32 (Js z (wL x y)) (1:Int))))=Js u (wL x y)/\aG (jD (x.rows (x.r+az y) 0))/\oH y x.len (kg x.r x.len x.cap) (kg x.r x.len x.cap/\Cg x (bS u 8 z))) (bY y fun u=>Js z (wL x y)=uz x u/\ig (bh x.len) (kg x.r x.len x.cap) (Cg x (bS u x.len y))))) (bQ (uA x y=uA x x.len))) (by kernel_rfl) (by
 delta aO cz aL ah bW az aG bB aQ aY aa bg aD aX ig kg dN bD bQ bS bY wL ay aC oH Cg aW ag aA uA mq aP bh bp jE uz
 try dsimp -iota -proj only
 rintro⟨c,r,len,cap,n,rows⟩ ⟨h1,h2⟩;dsimp only at h1 h2 ⊢;simp only[Int.toNat_natCast,bL,decide_eq_true_eq,decide_eq_false_iff_not];refine⟨by decide,⟨0,?_⟩,fun i hi=>⟨fun c1=>?_,fun c1=>⟨(),?_⟩⟩⟩
 ·(and_intros<;>first|exact vR|skip)
 ·have hi:i<len:=by omega
  refine⟨by omega,by omega,fun _=>⟨⟨0,?_⟩,fun j hj=>⟨fun c2=>⟨by decide,by omega,j+1,?_⟩,fun c2=>⟨by omega,i+1,?_⟩⟩⟩⟩
  ·(and_intros<;>first|exact vR|skip)
  ·(and_intros<;>first|exact vR|skip)
  ·have:j=8:=by omega
   subst this
   (and_intros<;>first|exact vR|skip)
 ·have:i=len:=by omega
  subst this
  (and_intros<;>first|exact vR|skip))
theorem Gh:ak (Y Tryz.prog).G.X 203 Sq:=aV fK VN trivial
def tQ(rows:Nat->Nat->Value)(r len:Nat)(v:Int)(k:Nat):Nat->Nat->Value:=fun i j=>if r+len<=i+k/\i<r+len then .int .u8 (uw .u8 (v/2^min (8*(r+len-1-i)) 64))else rows i j
structure l9 where
 r:Nat
 len:Nat
 cap:Nat
 v:Int
 n:Nat
 rows:Nat->Nat->Value
noncomputable def Ch:cD where
 α:=l9
 β:=Unit
 m:=1
 m':=1
 pre:=fun a=>a.r+a.len<=a.n/\a.len<=8
 args:=fun a=>[.a (.slc 0 a.r 1 a.len a.cap),.a (.int .u64 a.v)]
 hp:=fun a=>[(0,.arr 5 [.int .u8] a.n a.rows)]
 ro:=fun _=>[]
 post:=fun _ _=>True
 res:=fun _ _=>.l8 []
 cT:=fun a _=>[(0,.arr 5 [.int .u8] a.n (tQ a.rows a.r a.len a.v a.len))]
def YU(a:l9):An:=.flat 1 Nat (fun s k=>(s.at_ 0 (.arr 5 [.int .u8] a.n (tQ a.rows a.r a.len a.v k))).int 7 k) (fun _ k=>k<=a.len) (fun _ k=>a.len-k)
def bM(x:Value)(y:List Value):List Value:=x::y
def bH(x:Value):List Value:=bM x []
def fk(x:Int):Value:=Value.int .u8 x
def kU(x:l9)(y:Nat):Nat->Nat->Value:=tQ x.rows x.r x.len x.v y
def nA(x:Int):List Value:=bH (fk (uw .u8 x))
def oI(x y:Int)(z:Prop):=ah x/\ah (x-y)/\z
def Gi:=∀x:l9,x.r+x.len<=x.n/\x.len<=8->(∃y:Nat,aC y (bh x.len/\kg x.r x.len x.cap/\aG x.v/\aL x.n x.n 1 x.rows (kU x y)/\y<=x.len/\True))/\∀y:Nat,y<=x.len->aA (aa y) (aa x.len) (oI (aa x.len-(1:Int)) (aa y) (ah ((8:Int)*aa y)/\(0:Int)<=8*aa y/\bg (aa x.len-(1:Int)-aa y) (aa x.len)/\x.r+aX (aa x.len-(1:Int)-aa y)<x.n/\bY y fun z=>bh x.len/\kg x.r x.len x.cap/\aG x.v/\aL x.n x.n 1 (jV (kU x y) (x.r+aX (aa x.len-(1:Int)-aa y)) 0 (nA (x.v/(2:Int)^min (aX ((8:Int)*aa y)) 64))) (kU x z)/\bS z x.len y)) (bQ (aL x.n x.n 1 (kU x y) (kU x x.len)))
theorem Gj:fnBody (Y Tryz.prog) [] 196 Ch fun a=>[(196,[YU a],[])]:=fnBody.of (p :=
 Gi) (by kernel_rfl) (by
 delta aO aL ah aG aQ aY aa bH fk bg aD aX kg bM bQ bS Gi bY ay aC aA kU aP bh nA bp oI
 try dsimp -iota -proj only
 rintro⟨r,len,cap,v,n,rows⟩ ⟨h1,h2⟩;dsimp only at h1 h2 ⊢;simp only[Int.toNat_natCast,bL,decide_eq_true_eq,decide_eq_false_iff_not];refine⟨⟨0,?_⟩,fun k hk=>⟨fun c1=>?_,fun c1=>⟨(),?_⟩⟩⟩
 ·(and_intros<;>first|exact vR|skip)
  refine⟨fun i hi j hj=>?_⟩;unfold tQ;rw[if_neg (by omega)]
 ·have hk:k<len:=by omega
  have e:((len:Int)-1-k).toNat=len-1-k:=by omega
  rw[e];refine⟨by omega,by omega,by omega,by omega,by omega,by omega,by omega,k+1,?_⟩
  (and_intros<;>first|exact vR|skip)
  refine⟨fun i hi j hj=>?_⟩;have hj:j=0:=by omega
  subst hj;by_cases hik:i=r+(len-1-k)
  ·subst hik;have e3:(8*(k:Int)).toNat=8*(r+len-1-(r+(len-1-k))):=by omega
   rw[iY,e3];show Value.int .u8 _=_;simp only[tQ];rw[if_pos (by omega)]
  ·rw[gN hik];simp only[tQ];by_cases hq:r+len<=i+k/\i<r+len
   ·rw[if_pos hq,if_pos (by omega)]
   ·rw[if_neg hq,if_neg (by omega)]
 ·have:k=len:=by omega
  subst this
  (and_intros<;>first|exact vR|skip))
theorem Bm:ak (Y Tryz.prog).G.X 196 Ch:=aV fK Gj trivial
def jK(r:Nat->Int):Nat->Int
 |0=>0
 |k+1=>dz .or .u64 (uw .u64 (jK r k*2^8)) (r k)
structure vS where
 r:Nat
 len:Nat
 cap:Nat
 n:Nat
 rows:Nat->Nat->Value
noncomputable def Jt:cD where
 α:=vS
 β:=Unit
 m:=1
 m':=1
 pre:=fun a=>a.r+a.len<=a.n/\a.len<=8
 args:=fun a=>[.a (.slc 0 a.r 1 a.len a.cap)]
 hp:=fun _=>[]
 ro:=fun a=>[(0,.arr 5 [.int .u8] a.n a.rows)]
 post:=fun _ _=>True
 res:=fun a _=>.a (.int .u64 (jK (fun i=>u8 a.rows (a.r+i)) a.len))
 cT:=fun _ _=>[]
def Z3(a:vS):An:=.flat 3 Nat (fun s k=>(s.set 3 (.a (.int .u64 (jK (fun i=>u8 a.rows (a.r+i)) k)))).int 8 k) (fun _ k=>k<=a.len) (fun _ k=>a.len-k)
def cQ(x:Int):Int:=uw .u64 x
def qR(x:vS)(y:Nat):Int:=jK (fun z=>u8 x.rows (x.r+z)) y
theorem Gk:fnBody (Y Tryz.prog) [] 230 Jt fun a=>[(230,[Z3 a],[])]:=fnBody.of (p :=
 ∀x:vS,x.r+x.len<=x.n/\x.len<=8->(∃y:Nat,aC y ((0:Int)=qR x y/\bh x.len/\kg x.r x.len x.cap/\aW (kg x.r x.len x.cap/\dN x.n 1 x.rows/\y<=x.len/\True)))/\∀y:Nat,y<=x.len->mq (aa y) x.len (x.r+az y<x.n/\(jE (jD (x.rows (x.r+az y) 0))->(0:Int)<=8/\bY y fun z=>dz .or .u64 (cQ (qR x y*(256:Int))) (jD (x.rows (x.r+az y) 0))=qR x z/\bh x.len/\kg x.r x.len x.cap/\aW (kg x.r x.len x.cap/\dN x.n 1 x.rows/\bS z x.len y))) (bQ (qR x y=qR x x.len))) (by kernel_rfl) (by
 delta aO aL ah az aG aQ aY aa bg aD aX kg dN bQ bS bY cQ ay aC aW aA mq aP bh qR bp jE
 try dsimp -iota -proj only
 rintro⟨r,len,cap,n,rows⟩ ⟨h1,h2⟩;dsimp only at h1 h2 ⊢;simp only[Int.toNat_natCast,bL,decide_eq_true_eq,decide_eq_false_iff_not];refine⟨⟨0,?_⟩,fun k hk=>⟨fun c1=>?_,fun c1=>⟨(),?_⟩⟩⟩
 ·(and_intros<;>first|exact vR|skip)
 ·have hk:k<len:=by omega
  refine⟨by omega,by omega,fun _=>⟨by omega,by omega,k+1,?_⟩⟩
  (and_intros<;>first|exact vR|skip)
 ·have:k=len:=by omega
  subst this
  (and_intros<;>first|exact vR|skip))
theorem Bn:ak (Y Tryz.prog).G.X 230 Jt:=aV fK Gk trivial
structure bw where
 n:Nat
 now:Nat->Nat->Int
 EH:Nat->Nat->Int
 loose:Nat->Bool
 calls:Nat
def AA:List CK:=List.replicate 128 (.int .u8)++[.bool]
def eO(d:bw):Nat->Nat->Value:=fun i j=>if j<64 then .int .u8 (d.now i j)else if j<128 then .int .u8 (d.EH i (j-64))else .bool (d.loose i)
@[reducible] def iR(a b:bw)(p:Prop):Prop:=(0=0/\a.n=b.n/\a.n=b.n)/\(↑a.calls:Int)=(↑b.calls:Int)/\(b.n<=a.n/\aj b.n 129 (eO a) (eO b))/\p
def gA(o a:Nat)(d:bw):List (Nat×Chunk):=[(o,.obj 116 [.slc a 0 129 d.n d.n,.int .i64 d.calls]),(a,.arr 158 AA d.n (eO d))]
def kV(n:Int):bw:=⟨(min (max n 1) 2048).toNat,fun _ _=>0,fun _ _=>0,fun _=>false,0⟩
noncomputable def Bo:cD where
 α:=Int
 β:=Unit
 m:=0
 m':=2
 pre:=fun _=>True
 args:=fun n=>[.a (.int .i64 n)]
 hp:=fun _=>[]
 ro:=fun _=>[]
 post:=fun _ _=>True
 res:=fun _ _=>.a (.ptr 0 0 0 0)
 cT:=fun n _=>gA 0 1 (kV n)
def kP(x y:Value)(z:List Value):List Value:=bM x (bM y z)
def D8(x:IntKind)(y z u:Int)(v:Value)(w s t:Int)(f:List Value):List Value:=kP (Value.int x y) (Value.int x z) (kP (Value.int x u) v (kP (Value.int x w) (Value.int x s) (bM (Value.int x t) f)))
def uB(x:List Value):List Value:=D8 .u8 0 0 0 (fk 0) 0 0 0 x
def Ci(x:List Value):List Value:=kP (fk 0) (fk 0) x
def VO(x:Value)(y:List Value):List Value:=uB (uB (Ci (bM x y)))
def Xx(x:Value)(y:List Value):List Value:=VO (fk 0) (uB (uB (kP (fk 0) x y)))
def YV(x:Value)(y:List Value):List Value:=Xx (fk 0) (VO (fk 0) (uB (uB (bM x y))))
def aS(x:List Value)(y:Nat):Value:=x.getD y (Value.tuple #[])
def o7(z:Bool)(x y:Int):Int:=bif z then max x y else min x y
def dJ(x y z u:Nat)(v:Prop)(w:Nat)(s t:Nat->Nat->Value)(f:Prop):=ag (x=y/\z=u)/\v/\aL y x w s t/\f
def lJ(x y:Int)(z:Prop):=(0:Int)<=x/\x<=x/\y<=(281474976710656:Int)/\z
def dX(x:Bool):Value:=Value.bool x
def fZ:Value:=dX false
def sG(x:Nat)(y:bw)(u:Int)(z:bw)(v:Nat->Nat->Value)(w s:Prop):=dJ x y.n x y.n (u=aa z.calls) 129 v (eO z) (w/\s)
def qS(x y z:Int):Int:=o7 false (o7 true x y) z
theorem Lr:fnBody (Y Tryz.prog) [] 12 Bo fun _=>[]:=fnBody.of (p :=
 ∀x:Int,True->lJ (qS x 1 2048) ((129:Int)*qS x 1 2048) (ay (ag (sG (aX (qS x 1 2048)) (kV x) 0 (kV x) (fun z y=>aS (YV (fk 0) (Xx (fk 0) (VO (fk 0) (uB (Ci (Ci (Ci (bH fZ)))))))) y) True True)))) (by kernel_rfl) (by
 delta YV Xx VO aS D8 aL o7 aa bH fk aX kP bM dJ lJ ay uB fZ ag sG qS dX Ci
 try dsimp -iota -proj only
 intro n _;simp only[cond_true,cond_false,Nat.zero_add];have e:min (max n 1) 2048=((min (max n 1) 2048).toNat:Int):=by omega
 refine⟨by omega,by omega,by omega,(),(by trivial),⟨(by trivial),(by trivial),(by trivial)⟩,(by trivial),⟨Nat.le_refl _,⟨fun i hi j hj=>?_⟩⟩,trivial,trivial⟩;show(List.replicate 128 (Value.int .u8 0)++[Value.bool false]).getD j undef=_;unfold eO kV;dsimp only;simp only[List.getD_eq_getElem?_getD,List.getElem?_append,List.length_replicate,List.getElem?_replicate];by_cases h1:j<64
 ·rw[if_pos (by omega),if_pos (by omega),if_pos h1];rfl
 ·by_cases h2:j<128
  ·rw[if_pos h2,if_pos h2,if_neg h1,if_pos h2];rfl
  ·rw[if_neg h2,if_neg h1,if_neg h2,show j=128 by omega];rfl)
theorem Bp{rows:Nat->Nat->Value}{row c i j:Nat}{vs:List Value}:jV rows row c vs i j=if(c<=j/\j<c+vs.length)/\i=row then vs.getD (j-c) undef else rows i j:=by
 have e1:∀a b:Nat,Nat.ble a b=decide (a<=b):=fun a b=>by rw[Bool.eq_iff_iff];simp
 have e2:∀a b:Nat,Nat.blt a b=decide (a<b):=fun a b=>e1 _ _;unfold jV;rw[e1,e2];by_cases h1:c<=j<;>by_cases h2:j<c+vs.length<;>by_cases h3:i=row<;>simp[h1,h2,h3]
theorem Sr{f:Nat->Value}{n j:Nat}(h:j<n):((List.range n).map f).getD j undef=f j:=by
 simp[List.getD_eq_getElem?_getD,List.getElem?_range h]
def gi(d:bw)(i len:Nat)(src:Nat->Int):bw:=⟨d.n,fun r j=>if r=i/\j<len then src j else d.now r j,d.EH,fun r=>if r=i then true else d.loose r,d.calls+1⟩
def bO(f:Nat->Int):Nat->Nat->Value:=fun i _=>.int .u8 (f i)
structure Ls where
 d:bw
 i:Nat
 r:Nat
 len:Nat
 cap:Nat
 n:Nat
 src:Nat->Int
noncomputable def pN:cD where
 α:=Ls
 β:=Unit
 m:=3
 m':=3
 pre:=fun a=>a.i<a.d.n/\a.d.n<100000/\a.len<=64/\a.r+a.len<=a.n/\a.d.calls<1000000000000
 args:=fun a=>[.a (.ptr 0 0 0 0),.a (.int .i64 a.i),.a (.slc 2 a.r 1 a.len a.cap)]
 hp:=fun a=>gA 0 1 a.d
 ro:=fun a=>[(2,.arr 5 [.int .u8] a.n (bO a.src))]
 post:=fun _ _=>True
 res:=fun _ _=>.a (.lit .i64 0)
 cT:=fun a _=>gA 0 1 (gi a.d a.i a.len fun j=>a.src (a.r+j))
def eF(y:Int)(x z:Nat)(u:Prop):=bg y (aa x)/\z<x/\u
def gC(y:Bool)(x:Prop)(z:Bool)(u:Prop):=aO y x (aO z x u)
def lK(x:Ls):bw:=gi x.d x.i x.len fun y=>x.src (x.r+y)
def cR(x y:Int):Bool:=decide (x<=y)
def uC(x:Ls):=x.i<x.d.n/\x.d.n<100000/\x.len<=64/\x.r+x.len<=x.n/\x.d.calls<1000000000000
def qe:List Value:=bH (dX true)
def dR(x y:Nat)(z:Prop):=eF (aa x) y (0+az x) z
def Gl(x y:bw)(z:Nat->Nat->Value):=ah (aa x.calls)->aP x.calls (ay (aW (sG x.n y (aY x.calls) y z True True)))
theorem Gm:fnBody (Y Tryz.prog) [] 81 pN fun _=>[]:=fnBody.of (p :=
 ∀x:Ls,uC x->gC (aQ (aa x.i) 0) (ay ((4:Int)=0/\iR x.d (lK x) (True/\True))) (cR (aa x.d.n) (aa x.i)) (aA 64 (aa x.len) (ay ((1:Int)=0/\iR x.d (lK x) (True/\True))) (bg (aa x.i) (aa x.d.n)/\0<64/\0+az x.i<x.d.n/\x.r+x.len<=x.n/\dR x.i x.d.n (Gl x.d (lK x) (jV (Bg (eO x.d) (0+az x.i) 0 (min x.len 64) fun y z=>fk (x.src (x.r+y))) (0+az x.i) 128 qe))))) (by kernel_rfl) (by
 delta aO aL ah az aG eF aQ aY aa bH fk bg aD aX bM gC dJ lK ay cR aW ag aA sG aP uC qe dR dX Gl
 try dsimp -iota -proj only
 intro a h;obtain⟨h1,h2,h3,h4,h5⟩:=h;have e1:decide ((a.i:Int)<0)=false:=by simp
 have e2:decide ((a.d.n:Int)<=a.i)=false:=by simp;omega
 have e3:decide ((64:Int)<a.len)=false:=by simp;omega
 simp only[e1,e2,e3,Nat.zero_add,Int.toNat_natCast,bL];refine⟨fun e=>(by cases e),fun _=>⟨fun e=>(by cases e),fun _=>⟨fun e=>(by cases e),fun _=>⟨by omega,by omega,by omega,by omega,by omega,by omega,fun _=>⟨by omega,(),(by trivial),⟨(by trivial),(by trivial),(by trivial)⟩,(by trivial),⟨Nat.le_refl _,⟨fun i hi j hj=>?_⟩⟩,trivial,trivial⟩⟩⟩⟩⟩;rw[Bp,show min a.len 64=a.len by omega];simp only[eO,gi,Bg,bO,List.length_singleton];by_cases h6:i=a.i
 ·subst h6;by_cases g1:j<64
  ·by_cases g2:j<a.len
   ·simp[g1,g2,show ¬(128<=j)by omega]
   ·simp[g1,g2,show ¬(128<=j)by omega]
  ·by_cases g3:j<128
   ·simp[g1,g3,show ¬(128<=j)by omega,show ¬(j<a.len)by omega]
   ·simp[g1,g3,show j=128 by omega]
 ·simp[h6])
def gj(d:bw):bw:=⟨d.n,d.now,d.now,fun _=>false,d.calls+1⟩
def jM(d:bw)(i:Nat):bw:=⟨d.n,d.now,fun r j=>if r<i then d.now r j else d.EH r j,fun r=>if r<i then false else d.loose r,d.calls⟩
noncomputable def jB:cD where
 α:=bw
 β:=Unit
 m:=2
 m':=2
 pre:=fun d=>d.n<100000/\d.calls<1000000000000
 args:=fun a=>[.a (.ptr 0 0 0 0)]
 hp:=fun d=>gA 0 1 d
 ro:=fun _=>[]
 post:=fun _ _=>True
 res:=fun _ _=>.a (.lit .i64 0)
 cT:=fun d _=>gA 0 1 (gj d)
def Xy(d:bw):An:=.flat 4 Nat (fun s i=>(s.at_ (s.fh (s.tg 0) 0) (.arr 158 AA d.n (eO (jM d i)))).int 11 i) (fun _ i=>i<=d.n) (fun _ i=>d.n-i)
def gD(x y:Nat)(z u:Prop):=aA (aa x) (aa y) (dR x y z) u
def cH(x:Prop):=bB false/\x
def ki(x:bw):=x.n<100000/\x.calls<1000000000000
def mu(x:Prop):=cH (aW (ag x))
theorem Gn:fnBody (Y Tryz.prog) [] 169 jB fun d=>[(169,[Xy d],[])]:=fnBody.of (p :=
 ∀x:bw,ki x->(∃y:Nat,aC y (bh x.n/\mu (bD x.n x.n/\bh x.calls/\aL x.n x.n 129 (eO x) (eO (jM x y))/\y<=x.n/\True)))/\∀y:Nat,y<=x.n->gD y x.n (dR y x.n (dR y x.n (bY y fun z=>bh x.n/\mu (bD x.n x.n/\bh x.calls/\aL x.n x.n 129 (jV (jV (eO (jM x y)) (0+az y) 64 (List.map (fun(u:Nat)=>fk ((jM x y).now (0+az y) u)) (List.range 64))) (0+az y) 128 (bH fZ)) (eO (jM x z))/\bS z x.n y)))) (Gl x (gj x) (eO (jM x y)))) (by kernel_rfl) (by
 delta aO aL ah bW az aG bB eF aQ aY aa bH fk bg aD aX bM gD bD cH dJ bS bY ki ay aC fZ aW ag aA sG aP bh dR mu dX Gl
 try dsimp -iota -proj only
 intro d h;obtain⟨h1,h2⟩:=h;simp only[Nat.zero_add,Int.toNat_natCast,bL];refine⟨⟨0,(by trivial),(by trivial),(by trivial),(by trivial),(by trivial),⟨(by trivial),(by trivial),(by trivial)⟩,(by trivial),⟨Nat.le_refl _,⟨fun i hi j hj=>?_⟩⟩,by omega,trivial⟩,fun k hk=>⟨fun c1=>?_,fun c1 _=>?_⟩⟩
 ·simp only[eO,jM,Nat.not_lt_zero,if_false]
 ·have hk:k<d.n:=by simpa using c1
  refine⟨by omega,by omega,by omega,by omega,by omega,by omega,by omega,k+1,by omega,(by trivial),(by trivial),(by trivial),(by trivial),⟨(by trivial),(by trivial),(by trivial)⟩,(by trivial),⟨Nat.le_refl _,⟨fun i hi j hj=>?_⟩⟩,by omega,by omega⟩;refine Eq.trans (b:=jV (jV (eO (jM d k)) k 64 ((List.range 64).map fun j=>.int .u8 ((jM d k).now k j))) k 128 [.bool false] i j) rfl ?_;rw[Bp,Bp];simp only[List.length_singleton,List.length_map,List.length_range];by_cases h6:i=k
  ·subst h6;by_cases g1:j<64
   ·simp[eO,jM,g1,show ¬(128<=j)by omega,show ¬(64<=j)by omega]
   ·by_cases g3:j<128
    ·rw[if_neg (by omega),if_pos (by omega),Sr (by omega)];simp[eO,jM,g1,g3]
    ·simp[eO,jM,g1,g3,show j=128 by omega]
  ·rw[if_neg (by omega),if_neg (by omega)];simp only[eO,jM,show(i<k+1)=(i<k)by simp;omega]
 ·have hk:k=d.n:=by simp at c1;omega
  subst hk;refine⟨by omega,(),(by trivial),⟨(by trivial),(by trivial),(by trivial)⟩,(by trivial),⟨Nat.le_refl _,⟨fun i hi j hj=>?_⟩⟩,trivial,trivial⟩;have hi:i<d.n:=hi;simp only[eO,jM,gj,hi,if_true])
structure ZO where
 d:bw
 i:Nat
noncomputable def Cj:cD where
 α:=ZO
 β:=Nat
 m:=2
 m':=3
 pre:=fun a=>a.i<a.d.n/\a.d.n<100000
 args:=fun a=>[.a (.ptr 0 0 0 0),.a (.int .i64 a.i)]
 hp:=fun _=>[]
 ro:=fun a=>gA 0 1 a.d
 post:=fun _ c=>64<=c
 res:=fun _ c=>.l8 [.a (.slc 2 0 1 64 c),.a (.lit .i64 0)]
 cT:=fun a c=>[(2,.arr 5 [.int .u8] 64 (bO (a.d.now a.i)))]
def Ck(x:Nat)(z u:Int):Nat->Prop:=fun(y:Nat)=>(0=x/\0=y)/\z=u/\x=0/\x<=y/\True
def uD(x:Nat->Nat->Value):Nat->Nat->Value:=aZ (aN 1 []) 0 0 x
theorem Ju:fnBody (Y Tryz.prog) [] 201 Cj fun _=>[]:=fnBody.of (p :=
 ∀x:ZO,x.i<x.d.n/\x.d.n<100000->gC (aQ (aa x.i) 0) (Exists (Ck 64 4 0)) (cR (aa x.d.n) (aa x.i)) (bg (aa x.i) (aa x.d.n)/\0<64/\0<=0/\0+az x.i<x.d.n/\64<=140737488355328/\∀y:Nat,64<=y->y<=aq->(64<=0->y=0)->∃z:Nat,bW 64 (y=z)/\aW (aL 64 64 1 (uD fun u v=>eO x.d (0+az x.i) (0+u)) (bO (x.d.now x.i))/\64<=z/\True))) (by kernel_rfl) (by
 delta aO aL bW az aG aQ aa bg aD aX gC cR aW ag Ck uD
 try dsimp -iota -proj only
 intro a h;obtain⟨h1,h2⟩:=h;have e1:decide ((a.i:Int)<0)=false:=by simp
 have e2:decide ((a.d.n:Int)<=a.i)=false:=by simp;omega
 simp only[e1,e2,Nat.zero_add,Int.toNat_natCast];refine⟨fun e=>(by cases e),fun _=>⟨fun e=>(by cases e),fun _=>⟨by omega,by omega,by omega,by omega,by omega,fun cap hc1 hc2 hc3=>⟨cap,⟨(by trivial),(by trivial),(by trivial)⟩,(by trivial),⟨Nat.le_refl _,⟨fun i hi j hj=>?_⟩⟩,hc1,trivial⟩⟩⟩⟩;simp only[aZ,bO,Nat.not_lt_zero,if_false,Nat.sub_zero,eO,if_pos hi])
theorem Cl:ak (Y Tryz.prog).G.X 12 Bo:=aV fK Lr trivial
theorem pH:ak (Y Tryz.prog).G.X 81 pN:=aV fK Gm trivial
theorem iF:ak (Y Tryz.prog).G.X 169 jB:=aV fK Gn trivial
theorem Jv:ak (Y Tryz.prog).G.X 201 Cj:=aV fK Ju trivial
def cA(x:Int):List Value:=[.int .u8 x]
def uE:Nat->Nat->List Int
 |0,u=>[(u:Int)]
 |k+1,u=>if u<128 then[(u:Int)]else((u%128+128:Nat):Int)::uE k (u/128)
theorem vE:∀(k u:Nat),1<=(uE k u).length/\(uE k u).length<=k+1
 |0,u=>by simp[uE]
 |k+1,u=>by
  unfold uE;split
  ·simp
  ·have:=vE k (u/128);simp only[List.length_cons];omega
theorem YW(x:Nat):dz .or .u8 (uw .u8 x) 128=((x%128+128:Nat):Int):=by
 have h:∀y:Fin 256,dz .or .u8 (y.1:Int) 128=((y.1%128+128:Nat):Int):=by decide +kernel
 have e:uw .u8 (x:Int)=((x%256:Nat):Int):=by simp only[uw];omega
 have:=h ⟨x%256,by omega⟩;rw[e,this];simp only;omega
def vi(n:Int):List Int:=uE 9 (2*n.toNat)
def ji(t:Nat)(l:List Int):List (Nat×Chunk):=[(t,.arr 5 [.int .u8] l.length (af cA l))]
def S.bytes(s:S)(slot:Nat)(l:List Int)(cap:Nat):S:=((s.put (s.hp.del (s.tg slot))).new (.arr 5 [.int .u8] l.length (af cA l))).set slot (.a (.slc s.nx 0 1 l.length cap))
structure AB where
 l:List Int
 cap:Nat
 n:Int
noncomputable def NZ:cD where
 α:=AB
 β:=Nat
 m:=1
 m':=2
 pre:=fun a=>a.l.length<100000/\0<=a.n/\a.n<4611686018427387904
 args:=fun a=>[.a (.slc 0 0 1 a.l.length a.cap),.a (.int .i64 a.n)]
 hp:=fun a=>ji 0 a.l
 ro:=fun _=>[]
 post:=fun _ _=>True
 res:=fun a c=>.a (.slc 1 0 1 (a.l++vi a.n).length c)
 cT:=fun a c=>ji 1 (a.l++vi a.n)
structure EI where
 l:List Int
 u:Nat
 k:Nat
 cap:Nat
def YX(a:AB):An:=.flat 4 EI (fun s x=>(S.bytes s 0 x.l x.cap).set 5 (.a (.int .u64 x.u))) (fun _ x=>x.l++uE x.k x.u=a.l++vi a.n/\x.u<128^(x.k+1)/\x.k<=9) (fun _ x=>x.u)
def av(x:List Int):Nat:=x.length
def gF(y z v u:Nat)(w:Nat->Prop):=(y+z)*v<=140737488355328/\∀x:Nat,y+z<=x->x<=aq->(y+z<=u->x=u)->w x
def cn(x y:List Int)(z:Int->List Value):=aL (av x) (av y) 1 (af z y) (af z x)
def jF(x:Nat)(y:List Value):Nat->Nat->Value:=fun(z u:Nat)=>aN x y (0+z) u
def iJ(z x y:Nat)(u:Nat->Nat->Value)(v:List Value)(w:Nat->Nat->Value):=aL z (x+1) y (aZ u 0 x (jF y v)) w
def gu(x y z:Nat)(u:Nat->Prop):=0+x<=x/\1<=1/\gF x 1 y z fun v=>u v
def Gp(z:Int)(x:EI)(v w:Nat)(y:AB)(s t:Prop):=z=aa x.u/\ag (v=av x.l/\w=x.cap)/\bB (aQ y.n 0)/\aG y.n/\s/\(x.l++uE x.k x.u=y.l++vi y.n/\x.u<128^(x.k+1)/\x.k<=9)/\t
def Ss(y:AB):=∀x:EI,x.l++uE x.k x.u=y.l++vi y.n/\x.u<128^(x.k+1)/\x.k<=9->aA 127 (aa x.u) (gu (av x.l) 1 x.cap fun v=>(0:Int)<=7/\∃z:EI,Gp (aa x.u/(128:Int)) z (av x.l+1) v y (iJ (av z.l) (av x.l) 1 (af cA x.l) (bH (fk (dz Go.BinOp.or .u8 (uw .u8 (aa x.u)) (128:Int)))) (af cA z.l)) (z.u<x.u)) (gu (av x.l) 1 x.cap fun v=>∃z:Nat,ag (av x.l+1=av (y.l++vi y.n)/\v=z)/\bp (iJ (av (y.l++vi y.n)) (av x.l) 1 (af cA x.l) (nA (aa x.u)) (af cA (y.l++vi y.n))))
def mw(x y:Int):Int:=dz Go.BinOp.xor .u64 x y
def y9(x:AB):=av x.l<100000/\bg x.n 4611686018427387904
theorem St:fnBody (Y Tryz.prog) [] 200 NZ fun a=>[(200,[YX a],[])]:=fnBody.of (p :=
 ∀x:AB,y9 x->(0:Int)<=1/\aA x.n 0 ((∃y:EI,Gp (mw 18446744073709551615 (cQ (cQ x.n*(2:Int)))) y (av x.l) x.cap x (cn y.l x.l cA) True)/\Ss x) ((∃y:EI,Gp (cQ (cQ x.n*(2:Int))) y (av x.l) x.cap x (cn y.l x.l cA) True)/\Ss x)) (by kernel_rfl) (by
 delta aO av aL aG gF bB aQ aa bH fk bg aD bM cn Ss iJ gu cQ ag aA mw Gp nA bp y9 jF
 try dsimp -iota -proj only
 rintro⟨l,cap,n⟩ ⟨h1,h2,h3⟩;dsimp only at h1 h2 h3 ⊢;have e0:decide (n<0)=false:=by simp;omega
 have e1:uw .u64 (uw .u64 n*2)=((2*n.toNat:Nat):Int):=by simp only[uw];omega
 have hv:=vE 9 (2*n.toNat);rw[e0,e1];refine⟨by omega,fun e=>(by cases e),fun _=>⟨⟨⟨l,2*n.toNat,9,cap⟩,?_⟩,fun x hx=>?_⟩⟩
 ·dsimp only
  and_intros<;>first|trivial|exact aj.refl _ _ _|exact Nat.le_refl _|(simp only[vi])|omega|skip
 ·obtain⟨l',u,k,cap'⟩:=x;obtain⟨g1,g2,g3⟩:=hx;dsimp only at g1 g2 g3 ⊢;have hl:=congrArg List.length g1;have hv2:=vE k u;simp only[List.length_append,vi]at hl;refine⟨fun c1=>⟨by omega,by omega,by omega,fun c hc1 hc2 hc3=>⟨by omega,⟨l'++[((u%128+128:Nat):Int)],u/128,k-1,c⟩,?_⟩⟩,fun c1=>⟨by omega,by omega,by omega,fun c hc1 hc2 hc3=>⟨c,?_⟩⟩⟩
  ·have c1:127<u:=by simp at c1;omega
   obtain⟨k',rfl⟩:∃k',k=k'+1:=⟨k-1,by
    by_cases hk:k=0
    ·subst hk;simp at g2;omega
    ·omega⟩
   have g1':(l'++[((u%128+128:Nat):Int)])++uE k' (u/128)=l++vi n:=by
    rw[<- g1,List.append_assoc];congr 1;rw[show uE (k'+1) u=((u%128+128:Nat):Int)::uE k' (u/128)from if_neg (by omega)];rfl
   have g4:u/128<128^(k'+1):=by
    rw[Nat.pow_succ]at g2;exact Nat.div_lt_of_lt_mul (by rw[Nat.mul_comm];exact g2)
   simp only[Nat.add_sub_cancel]
   and_intros<;>first|trivial|with_reducible rfl|exact g1'|exact g4|omega|(simp;done)|skip
   refine .push rfl (by simp) ?_;show[_]=[_]
   simp only[aN,cA,Nat.add_zero,Nat.zero_mul,List.getD_cons_zero,YW]
  ·have c1:u<128:=by simp at c1;omega
   have e5:uE k u=[(u:Int)]:=by
    cases k with
    |zero=>rfl
    |succ k=>exact if_pos (by simp at c1;omega)
   rw[e5]at g1;rw[<- g1]
   and_intros<;>first|trivial|with_reducible rfl|omega|(simp;done)|skip
   refine .push rfl (by simp) ?_;show[_]=[_]
   simp only[aN,cA,Nat.add_zero,Nat.zero_mul,List.getD_cons_zero,uw];rw[Int.emod_eq_of_lt (by omega) (by omega)])
theorem iK(n:Int):1<=(vi n).length/\(vi n).length<=10:=vE 9 _
theorem Jw:ak (Y Tryz.prog).G.X 200 NZ:=aV fK St trivial
structure aB where
 key:ByteArray
 val:ByteArray
 e:Int
 gone:Bool
 deriving Inhabited
def Lt:List CK:=[.str,.str,.int .i64,.bool]
def kJ(x:aB):List Value:=[.string x.key,.string x.val,.int .i64 x.e,.bool x.gone]
def Cm(x:aB):List A:=[.str x.key,.str x.val,.int .i64 x.e,.bool x.gone]
def dS(k:ByteArray):Bool:=!decide (k=ByteArray.mk #[])&&decide (k.size<=40)
def fU(x:aB):Bool:=dS x.key&&decide (x.val.size<=200)&&decide (0<=x.e)&&decide (x.e<=1099511627776)&&(!x.gone||decide (x.val=ByteArray.mk #[])&&decide (x.e=0))
def uF(x:aB)(now:Int):Bool:=fU x&&!x.gone&&(decide (x.e=0)||decide (now<x.e))
noncomputable def Lu:cD where
 α:=ByteArray
 β:=Unit
 m:=0
 m':=0
 pre:=fun _=>True
 args:=fun k=>[.a (.str k)]
 hp:=fun _=>[]
 ro:=fun _=>[]
 post:=fun _ _=>True
 res:=fun k _=>.a (.bool (dS k))
 cT:=fun _ _=>[]
def fL(x:Bool)(y z:Prop):=false=x/\y/\z
def dc:ByteArray:=(ByteArray.mk #[])
def bA(x:ByteArray):Nat:=x.size
def eR(x:Bool):=ay (fL x True True)
def bx(x:Bool):Bool:=!x
def iZ(x y:ByteArray):Bool:=decide (x=y)
theorem VP:fnBody (Y Tryz.prog) [] 86 Lu fun _=>[]:=fnBody.of (p :=
 ∀x:ByteArray,True->aO (bx (iZ x dc)) (bQ (cR (aa (bA x)) 40=dS x)) (eR (dS x))) (by kernel_rfl) (by
 delta aO aa aD fL dc bA bQ ay cR eR bp bx iZ
 intro k _;refine⟨fun h=>⟨(),?_,trivial,trivial⟩,fun h=>⟨(),?_,trivial,trivial⟩⟩
 ·simp only[dS,h,Bool.true_and];exact decide_eq_decide.2 (by omega)
 ·simp only[dS,h];rfl)
noncomputable def A7:cD where
 α:=aB
 β:=Unit
 m:=0
 m':=0
 pre:=fun _=>True
 args:=fun x=>[.agg (Cm x)]
 hp:=fun _=>[]
 ro:=fun _=>[]
 post:=fun _ _=>True
 res:=fun x _=>.a (.bool (fU x))
 cT:=fun _ _=>[]
def aI(x:Prop):=∀y:Unit,True->x
def cO(x:Prop):=True/\aI x
theorem Gq:fnBody (Y Tryz.prog) [(86,Lu)] 96 A7 fun _=>[]:=fnBody.of (p :=
 ∀x:aB,True->∃y:ByteArray,x.key=y/\cO (gC (bx (dS y)) (eR (fU x)) (aQ 200 (aa (bA x.val))) (ah x.e->aA x.e 0 (eR (fU x)) (ah x.e->aA 1099511627776 x.e (eR (fU x)) (aO (bx x.gone) (bQ (true=fU x)) (aO (iZ x.val dc) (ah x.e->bQ ((x.e == (0:Int))=fU x)) (eR (fU x)))))))) (by kernel_rfl) (by
 delta aO ah aQ aa aD fL gC dc aI bA bQ ay aA eR bp bx iZ cO
 intro x _;have hv:x.val=ByteArray.mk #[]->x.val.size=0:=fun e=>by rw[e];rfl
 refine⟨x.key,rfl,trivial,fun _ _=>?_⟩
 repeat' (first|intro _|apply And.intro|apply Exists.intro ())
 all_goals(try exact trivial)
 all_goals(try simp only[Bool.not_eq_true',Bool.not_eq_false',decide_eq_true_eq,decide_eq_false_iff_not]at *)
 all_goals(simp only[fU];rw[Bool.eq_iff_iff];simp only[Bool.and_eq_true,Bool.or_eq_true,Bool.not_eq_true',decide_eq_true_eq,beq_iff_eq];grind))
structure N0 where
 x:aB
 now:Int
noncomputable def Su:cD where
 α:=N0
 β:=Unit
 m:=0
 m':=0
 pre:=fun _=>True
 args:=fun a=>[.agg (Cm a.x),.a (.int .i64 a.now)]
 hp:=fun _=>[]
 ro:=fun _=>[]
 post:=fun _ _=>True
 res:=fun a _=>.a (.bool (uF a.x a.now))
 cT:=fun _ _=>[]
def qT(y z:Bool)(u x:Prop):=aO y (aO z u x) x
def qf(x y:aB)(z:Prop):=x.key=y.key/\x.val=y.val/\x.e=y.e/\x.gone=y.gone/\z
theorem Sv:fnBody (Y Tryz.prog) [(96,A7)] 185 Su fun _=>[]:=fnBody.of (p :=
 ∀y:N0,True->∃z:aB,qf y.x z (cO (qT (fU z) (bx y.x.gone) (ah y.x.e->aO (y.x.e == (0:Int)) (bQ (true=uF y.x y.now)) (ah y.x.e->bQ (aQ y.now y.x.e=uF y.x y.now))) (eR (uF y.x y.now))))) (by kernel_rfl) (by
 delta qT aO ah aQ aD fL qf aI bQ ay eR bp bx cO
 rintro⟨x,now⟩ _;refine⟨x,rfl,rfl,rfl,rfl,trivial,fun _ _=>?_⟩;dsimp only
 repeat' (first|intro _|apply And.intro|apply Exists.intro ())
 all_goals(try exact trivial)
 all_goals(try simp only[Bool.not_eq_true',Bool.not_eq_false',decide_eq_true_eq,decide_eq_false_iff_not]at *)
 all_goals(simp only[uF];rw[Bool.eq_iff_iff];simp only[Bool.and_eq_true,Bool.or_eq_true,Bool.not_eq_true',decide_eq_true_eq,beq_iff_eq];(try simp only[Bool.not_eq_true']at *);grind))
theorem pO{α:Type}[Inhabited α]{l:List α}{i:Nat}(h:i<l.length):l.take (i+1)=l.take i++[gl l i]:=by
 rw[bR h,List.take_add_one,List.getElem?_eq_getElem h];rfl
theorem flatMap_push{α β:Type}[Inhabited α]{l:List α}{f:α->List β}{i:Nat}(h:i<l.length):(l.take (i+1)).flatMap f=(l.take i).flatMap f++f (gl l i):=by
 rw[pO h,List.flatMap_append];simp
theorem uG{α β:Type}{l:List α}{f:α->List β}{i:Nat}(h:¬i<l.length):(l.take i).flatMap f=l.flatMap f:=by
 rw[List.take_of_length_le (by omega)]
theorem Jx{α β:Type}[Inhabited α]{l:List α}{f:α->List β}{m:Nat}(h:∀i,i<l.length->(f (gl l i)).length<=m):(l.flatMap f).length<=l.length*m:=by
 induction l with
 |nil=>simp
 |cons x r ih =>
  have h0:=h 0 (by simp);have:=ih fun i hi=>h (i+1) (by simp;omega);simp only[List.flatMap_cons,List.length_append,List.length_cons,Nat.succ_mul]at *;simp only[gl,List.getD_cons_zero]at h0;omega
theorem kK{α β:Type}[Inhabited α]{l:List α}{f:α->List β}{m:Nat}(h:∀i,i<l.length->(f (gl l i)).length<=m)(k:Nat)(hk:k<=l.length):((l.take k).flatMap f).length<=k*m:=by
 have:=Jx (l:=l.take k) (f:=f) (m:=m) fun i hi=>by
  simp at hi;have e:gl (l.take k) i=gl l i:=by unfold gl;rw[List.getD_eq_getElem?_getD,List.getElem?_take_of_lt (by omega),List.getD_eq_getElem?_getD]
  rw[e];exact h i (by omega)
 simpa[Nat.min_eq_left hk]using this
def IN(t:ByteArray):List Int:=t.data.toList.map fun b=>(b.toNat:Int)
def encI(x:Int):List Value:=[.int .i64 x]
def kj(x:ByteArray):List Value:=[.string x]
def ij(ns:List Int):List Int:=ns.flatMap vi
def eC(ts:List ByteArray):List Int:=ts.flatMap fun t=>vi t.size++IN t
theorem iV(t:ByteArray):(IN t).length=t.size:=by rw[IN,List.length_map];rfl
theorem Cn(t:ByteArray){m:Nat}(h:m<=t.size):aj m 1 (nr t) (af cA (IN t)):=by
 refine⟨fun i hi j hj=>?_⟩;have hj:j=0:=by omega
 have hs:t.size=t.data.size:=rfl;have hi':i<t.data.size:=by omega
 subst hj;simp only[nr,af,cA,List.getD_cons_zero,IN,gl];congr 1;simp[List.getD_eq_getElem?_getD,Array.getD_eq_getD_getElem?,Array.getElem?_eq_getElem hi']
structure lM where
 l:List Int
 cap:Nat
 ns:List Int
 Sw:Nat
noncomputable def Co:cD where
 α:=lM
 β:=Nat
 m:=2
 m':=3
 pre:=fun a=>a.l.length<10000/\a.ns.length<100/\∀i,i<a.ns.length->0<=gl a.ns i/\gl a.ns i<4611686018427387904
 args:=fun a=>[.a (.slc 0 0 1 a.l.length a.cap),.a (.slc 1 0 1 a.ns.length a.Sw)]
 hp:=fun a=>ji 0 a.l
 ro:=fun a=>[(1,.arr 2 [.int .i64] a.ns.length (af encI a.ns))]
 post:=fun _ _=>True
 res:=fun a c=>.a (.slc 2 0 1 (a.l++ij a.ns).length c)
 cT:=fun a c=>ji 2 (a.l++ij a.ns)
def Xz(a:lM):An:=.flat 2 (Nat×Nat) (fun s x=>(S.bytes s 0 (a.l++ij (a.ns.take x.1)) x.2).int 9 x.1) (fun _ x=>x.1<=a.ns.length) (fun _ x=>a.ns.length-x.1)
def cW(x y:List Int)(z u:Nat):=ag (av x=av y/\z=u)
def mz(x y:List Int)(z u:Nat)(v:Int->List Value)(w s:Prop):=cW x y z u/\cn y x v/\w/\s
def ir(x:Nat×Nat)(z:Nat×Nat->Prop):=aP x.fst (∃y:Nat×Nat,aY x.fst=aa y.fst/\z y)
def sH(x y:Nat)(z:Prop):=ig (bh x) (bD x y) z
def wM(x y:List Int)(z:Nat)(u:Nat×Nat)(v w:Nat)(s t:Prop):=cW x y z u.snd/\sH v w (cn y x cA/\s/\t)
def mA(z:Nat×Nat->Prop)(y:Nat)(u v:Nat×Nat->Prop):=(∃x:Nat×Nat,aC x.fst (z x))/\∀x:Nat×Nat,x.fst<=y->gD x.fst y (u x) (v x)
def zb(x:lM):=av x.l<10000/\av x.ns<100/\∀y:Nat,y<av x.ns->bg (gl x.ns y) 4611686018427387904
def zc(x:lM)(y:Nat×Nat):List Int:=x.l++ij (List.take y.fst x.ns)
theorem Pu:fnBody (Y Tryz.prog) [(200,NZ)] 165 Co fun a=>[(165,[Xz a],[])]:=fnBody.of (p :=
 ∀x:lM,zb x->mA (fun y=>wM x.l (zc x y) x.cap y (av x.ns) x.Sw (cn x.ns x.ns encI) (y.fst<=av x.ns/\True)) (av x.ns) (fun y=>ah (gl x.ns (0+az y.fst))->∃z:AB,cW (zc x y) z.l y.snd z.cap/\gl x.ns (0+az y.fst)=z.n/\cn z.l (zc x y) cA/\y9 z/\∀v:Nat,True->ir y fun u=>wM (z.l++vi z.n) (zc x u) v u (av x.ns) x.Sw (cn x.ns x.ns encI) (bS u.fst (av x.ns) y.fst)) fun y=>∃w:Nat,mz (zc x y) (x.l++ij x.ns) y.snd w cA True True) (by kernel_rfl) (by
 delta aO av aL ah bW az aG eF aQ aY aa bg aD aX ig cn gD bD bS mz ir aC wM ag aA aP bh cW mA dR zb zc y9 sH
 try dsimp -iota -proj only
 rintro⟨l,cap,ns,Sw⟩ ⟨h1,h2,h3⟩;dsimp only at h1 h2 h3 ⊢;have e0:ij (ns.take 0)=[]:=rfl;refine⟨⟨(0,cap),?_⟩,fun x hx=>?_⟩
 ·dsimp only;rw[e0,List.append_nil]
  and_intros<;>first|trivial|with_reducible rfl|exact aj.refl _ _ _|exact Nat.le_refl _|omega
 ·obtain⟨i,c⟩:=x;have hx:i<=ns.length:=hx;have ln:(ij (ns.take i)).length<=i*10:=kK (fun j _=>(iK _).2) i hx;dsimp only;simp only[Nat.zero_add,Int.toNat_natCast,bL];refine⟨fun c1=>?_,fun c1=>?_⟩
  ·have hi:i<ns.length:=by simpa using c1
   have hs:ij (ns.take (i+1))=ij (ns.take i)++vi (gl ns i):=flatMap_push hi;have h3:=h3 i hi;refine⟨by omega,by omega,fun _=>⟨⟨l++ij (ns.take i),c,gl ns i⟩,?_⟩⟩;dsimp only;rw[List.append_assoc,<- hs]
   (repeat' (first|apply And.intro|(intro _)))<;>first|trivial|with_reducible rfl|exact aj.refl _ _ _|exact Nat.le_refl _|omega|(simp;omega)|skip
   apply Exists.intro ((i+1,_):Nat×Nat)
   (repeat' (first|apply And.intro|(intro _)))<;>first|trivial|with_reducible rfl|exact aj.refl _ _ _|exact Nat.le_refl _|omega
  ·have hi:¬i<ns.length:=by simpa using c1
   rw[show ij (ns.take i)=ij ns from uG hi];refine⟨c,?_⟩
   (repeat' (first|apply And.intro|(intro _)))<;>first|trivial|with_reducible rfl|exact aj.refl _ _ _|exact Nat.le_refl _|omega)
structure nS where
 l:List Int
 cap:Nat
 ts:List ByteArray
 Sy:Nat
noncomputable def Gr:cD where
 α:=nS
 β:=Nat
 m:=2
 m':=3
 pre:=fun a=>a.l.length<10000/\a.ts.length<20/\∀i,i<a.ts.length->(gl a.ts i).size<=1000
 args:=fun a=>[.a (.slc 0 0 1 a.l.length a.cap),.a (.slc 1 0 1 a.ts.length a.Sy)]
 hp:=fun a=>ji 0 a.l
 ro:=fun a=>[(1,.arr 9 [.str] a.ts.length (af kj a.ts))]
 post:=fun _ _=>True
 res:=fun a c=>.a (.slc 2 0 1 (a.l++eC a.ts).length c)
 cT:=fun a c=>ji 2 (a.l++eC a.ts)
def VQ(a:nS):An:=.flat 2 (Nat×Nat) (fun s x=>(S.bytes s 0 (a.l++eC (a.ts.take x.1)) x.2).int 9 x.1) (fun _ x=>x.1<=a.ts.length) (fun _ x=>a.ts.length-x.1)
def aU(x:List ByteArray):Nat:=x.length
def kW(x:List ByteArray):=dN (aU x) 1 (af kj x)
def sI(x:List ByteArray)(y:Nat):Nat:=bA (gl x (0+az y))
def Gs(z x y:List Int)(u:List ByteArray)(v:Nat):=aL (av z) (av (x++y)+sI u v) 1 (aZ (af cA (x++y)) 0 (av (x++y)) (nr (gl u (0+az v)))) (af cA z)
def mB(x:List Int):=0+av x<=av x
def wN(x:nS)(y:Nat×Nat):List Int:=x.l++eC (List.take y.fst x.ts)
def Gt(x:nS):=av x.l<10000/\aU x.ts<20/\∀y:Nat,y<aU x.ts->bA (gl x.ts y)<=1000
theorem Lv:fnBody (Y Tryz.prog) [(200,NZ)] 166 Gr fun a=>[(166,[VQ a],[])]:=fnBody.of (p :=
 ∀x:nS,Gt x->mA (fun y=>wM x.l (wN x y) x.cap y (aU x.ts) x.Sy (kW x.ts) (y.fst<=aU x.ts/\True)) (aU x.ts) (fun y=>∃z:AB,cW (wN x y) z.l y.snd z.cap/\aa (sI x.ts y.fst)=z.n/\cn z.l (wN x y) cA/\y9 z/\∀v:Nat,True->mB (z.l++vi z.n)/\gF (av (z.l++vi z.n)) (sI x.ts y.fst) 1 v fun w=>ir y fun u=>ag (av (z.l++vi z.n)+sI x.ts y.fst=av (wN x u)/\w=u.snd)/\sH (aU x.ts) x.Sy (Gs (wN x u) z.l (vi z.n) x.ts y.fst/\kW x.ts/\bS u.fst (aU x.ts) y.fst)) fun y=>∃z:Nat,mz (wN x y) (x.l++eC x.ts) y.snd z cA True True) (by kernel_rfl) (by
 delta aO av aL ah bW az aG gF eF aQ aY aa aU bg aD aX ig cn dN gD bA bD bS mz ir aC kW wM ag aA Gs aP bh cW mA mB wN dR y9 Gt sH sI
 try dsimp -iota -proj only
 rintro⟨l,cap,ts,Sy⟩ ⟨h1,h2,h3⟩;dsimp only at h1 h2 h3 ⊢;have e0:eC (ts.take 0)=[]:=rfl;refine⟨⟨(0,cap),?_⟩,fun x hx=>?_⟩
 ·dsimp only;rw[e0,List.append_nil]
  and_intros<;>first|trivial|with_reducible rfl|exact aj.refl _ _ _|exact Nat.le_refl _|omega
 ·obtain⟨i,c⟩:=x;have hx:i<=ts.length:=hx;have ln:(eC (ts.take i)).length<=i*1010:=kK (fun j hj=>by
   have:=h3 j hj;have:=(iK ((gl ts j).size:Nat)).2;rw[List.length_append,iV];omega) i hx
  dsimp only;simp only[Nat.zero_add,Int.toNat_natCast,bL];refine⟨fun c1=>?_,fun c1=>?_⟩
  ·have hi:i<ts.length:=by simpa using c1
   have hs:eC (ts.take (i+1))=eC (ts.take i)++(vi (gl ts i).size++IN (gl ts i)):=flatMap_push hi;have h3:=h3 i hi;have hv:=iK ((gl ts i).size:Nat);refine⟨by omega,by omega,⟨⟨l++eC (ts.take i),c,(gl ts i).size⟩,?_⟩⟩;dsimp only;have hl2:(l++eC (ts.take i)++vi (gl ts i).size).length+(gl ts i).size=(l++eC (ts.take (i+1))).length:=by
    rw[hs];simp only[List.length_append,iV];omega
   have hr2:aj (l++eC (ts.take (i+1))).length 1 (aZ (af cA (l++eC (ts.take i)++vi (gl ts i).size)) 0 (l++eC (ts.take i)++vi (gl ts i).size).length (nr (gl ts i))) (af cA (l++eC (ts.take (i+1)))):=by
    rw[hs,<- List.append_assoc,<- List.append_assoc];refine .app rfl (.of_eq (by funext i;simp)) (Cn _ (by simp only[List.length_append,iV];omega))
   (repeat' (first|apply And.intro|(intro _)|apply Exists.intro ((i+1,_):Nat×Nat)))<;>first|trivial|with_reducible rfl|exact aj.refl _ _ _|exact Nat.le_refl _|exact hr2|exact hl2|exact Nat.le_of_eq hl2.symm|omega|(dsimp only;omega)|(simp only[List.length_append];omega)
  ·have hi:¬i<ts.length:=by simpa using c1
   rw[show eC (ts.take i)=eC ts from uG hi];refine⟨c,?_⟩
   (repeat' (first|apply And.intro|(intro _)))<;>first|trivial|with_reducible rfl|exact aj.refl _ _ _|exact Nat.le_refl _|omega)
def cS(x:aB):List Int:=eC [x.key,x.val]++ij [x.e,if x.gone then 1 else 0]
def dD(xs:List aB):List Int:=xs.flatMap cS
theorem qG{x:aB}(h:fU x=true):x.key.size<=40/\x.val.size<=200/\0<=x.e/\x.e<=1099511627776:=by
 simp only[fU,dS,Bool.and_eq_true,decide_eq_true_eq]at h;exact⟨h.1.1.1.1.2,h.1.1.1.2,h.1.1.2,h.1.2⟩
theorem EJ{x:aB}(h:fU x=true):(cS x).length<=300:=by
 obtain⟨k1,k2,k3,k4⟩:=qG h;have a1:=(iK (x.key.size:Nat)).2;have a2:=(iK (x.val.size:Nat)).2;have a3:=(iK x.e).2;have a4:=(iK (if x.gone then 1 else 0)).2;simp only[cS,eC,ij,List.flatMap_cons,List.flatMap_nil,List.length_append,iV,List.length_nil];omega
structure D9 where
 xs:List aB
 cap:Nat
noncomputable def Sz:cD where
 α:=D9
 β:=Nat
 m:=1
 m':=2
 pre:=fun a=>1<=a.xs.length/\a.xs.length<20/\∀i,i<a.xs.length->fU (gl a.xs i)=true
 args:=fun a=>[.a (.slc 0 0 4 a.xs.length a.cap)]
 hp:=fun _=>[]
 ro:=fun a=>[(0,.arr 40 Lt a.xs.length (af kJ a.xs))]
 post:=fun _ _=>True
 res:=fun a c=>.a (.slc 1 0 1 (dD a.xs).length c)
 cT:=fun a c=>ji 1 (dD a.xs)
def Z4(a:D9):An:=.flat 3 (Nat×Nat) (fun s x=>((s.new (.arr 5 [.int .u8] (dD (a.xs.take x.1)).length (af cA (dD (a.xs.take x.1))))).set 3 (.a (.slc s.nx 0 1 (dD (a.xs.take x.1)).length x.2))).int 9 x.1) (fun _ x=>x.1<=a.xs.length) (fun _ x=>a.xs.length-x.1)
def dO(x:Int):Value:=Value.int .i64 x
def bu(x:Int)(y:List Value):List Value:=bM (dO x) y
def bE(x:ByteArray):Value:=Value.string x
def ze(y:Nat)(x:lM)(z:Prop)(u:Int)(v:List Value)(w:Nat->Prop):=dJ y (av x.ns) y x.Sw z 1 (aN 1 (bu u v)) (af encI x.ns) (zb x/\∀s:Nat,True->w s)
def wO(x:Nat×Nat)(y:D9):List Int:=dD (List.take x.fst y.xs)
def Cp(z:Nat×Nat)(x:D9)(w:Int):nS->Prop:=fun(y:nS)=>cW (wO z x) y.l z.snd y.cap/\dJ 2 (aU y.ts) 2 y.Sy (cn y.l (wO z x) cA) 1 (aN 1 (bM (bE (gl x.xs (0+az z.fst)).key) (bH (bE (gl x.xs (0+az z.fst)).val)))) (af kj y.ts) (Gt y/\∀s:Nat,True->∃u:lM,cW (y.l++eC y.ts) u.l s u.cap/\ze 2 u (cn u.l (y.l++eC y.ts) cA) (gl x.xs (0+az z.fst)).e (bu w []) fun t=>ir z fun v=>wM (u.l++ij u.ns) (wO v x) t v x.xs.length x.cap (dN x.xs.length 4 (af kJ x.xs)) (bS v.fst x.xs.length z.fst))
def wP(x:D9):=1<=x.xs.length/\x.xs.length<20/\∀y:Nat,y<x.xs.length->aD (fU (gl x.xs y))
def zf(x:Nat):=∃y:Nat,(0=x/\0=y)/\bp (x=0)
theorem VR:fnBody (Y Tryz.prog) [(96,A7),(165,Co),(166,Gr)] 122 Sz fun a=>[(122,[Z4 a],[])]:=fnBody.of (p :=
 ∀x:D9,wP x->mA (fun y=>(0=av (wO y x)/\0=y.snd)/\sH x.xs.length x.cap (av (wO y x)=0/\dN x.xs.length 4 (af kJ x.xs)/\y.fst<=x.xs.length/\True)) x.xs.length (fun y=>∃z:aB,qf (gl x.xs (0+az y.fst)) z (cO (aO (bx (fU z)) (zf (av (dD x.xs))) (aO (gl x.xs (0+az y.fst)).gone (ah (gl x.xs (0+az y.fst)).e->(Exists (Cp y x 1)/\Exists (Cp y x 1))/\Exists (Cp y x 1)) (ah (gl x.xs (0+az y.fst)).e->(Exists (Cp y x 0)/\Exists (Cp y x 0))/\Exists (Cp y x 0)))))) fun y=>∃z:Nat,mz (wO y x) (dD x.xs) y.snd z cA True True) (by kernel_rfl) (by
 delta aO av aL ah bu bW az aG eF aQ aY aa aU bH bg aD dO aX ig bM Cp cn dN qf aI gD bA bD dJ bE bS mz ir ze aC wM ag aA wP aP bh cW mA bp dR bx zb cO zf wO Gt sH
 try dsimp -iota -proj only
 rintro⟨xs,cap⟩ ⟨h1,h2,h3⟩;dsimp only at h1 h2 h3 ⊢;have ei:∀k:Nat,List.flatMap cS (xs.take k)=dD (xs.take k):=fun _=>rfl;have ea:List.flatMap cS xs=dD xs:=rfl;simp only[ei,ea];have e0:dD (xs.take 0)=[]:=rfl;refine⟨⟨(0,0),?_⟩,fun x hx=>?_⟩
 ·dsimp only;rw[e0]
  and_intros<;>first|trivial|with_reducible rfl|exact aj.refl _ _ _|exact Nat.le_refl _|omega
 ·obtain⟨i,c⟩:=x;have hx:i<=xs.length:=hx;have ln:(dD (xs.take i)).length<=i*300:=kK (fun j hj=>EJ (h3 j hj)) i hx;dsimp only;simp only[Nat.zero_add,Int.toNat_natCast,bL];refine⟨fun c1=>?_,fun c1=>?_⟩
  ·have hi:i<xs.length:=by simpa using c1
   have hs:dD (xs.take (i+1))=dD (xs.take i)++cS (gl xs i):=flatMap_push hi;have h3:=h3 i hi;obtain⟨k1,k2,k3,k4⟩:=qG h3;refine⟨by omega,by omega,⟨gl xs i,rfl,rfl,rfl,rfl,trivial,fun _ _=>?_⟩⟩;rw[h3];have eg:∀g:Bool,(gl xs i).gone=g->dD (xs.take i)++eC [(gl xs i).key,(gl xs i).val]++ij [(gl xs i).e,if g then 1 else 0]=dD (xs.take (i+1)):=fun g e=>by
    rw[hs,List.append_assoc];unfold cS;rw[e]
   have tl:(eC [(gl xs i).key,(gl xs i).val]).length<=300:=by
    have a1:=(iK ((gl xs i).key.size:Nat)).2;have a2:=(iK ((gl xs i).val.size:Nat)).2;simp only[eC,List.flatMap_cons,List.flatMap_nil,List.length_append,iV,List.length_nil];omega
   have t2:∀k,k < [(gl xs i).key,(gl xs i).val].length->(gl [(gl xs i).key,(gl xs i).val] k).size<=1000:=fun k hk=>by
    match k,hk with
    |0,_=>show(gl xs i).key.size<=1000;omega
    |1,_=>show(gl xs i).val.size<=1000;omega
   have n2:∀g:Int,0<=g->g<=1->∀k,k < [(gl xs i).e,g].length->0<=gl [(gl xs i).e,g] k/\gl [(gl xs i).e,g] k<4611686018427387904:=fun g g0 g1 k hk=>by
    match k,hk with
    |0,_=>show 0<=(gl xs i).e/\(gl xs i).e<4611686018427387904;exact⟨k3,by omega⟩
    |1,_=>show 0<=g/\g<4611686018427387904;omega
   have r1:aj 2 1 (aN 1 [Value.string (gl xs i).key,Value.string (gl xs i).val]) (af kj [(gl xs i).key,(gl xs i).val]):=.dW fun k hk=>by
    match k,hk with
    |0,_=>rfl
    |1,_=>rfl
   have r2:∀g:Int,aj 2 1 (aN 1 [Value.int .i64 (gl xs i).e,Value.int .i64 g]) (af encI [(gl xs i).e,g]):=fun g=>.dW fun k hk=>by
    match k,hk with
    |0,_=>rfl
    |1,_=>rfl
   refine⟨fun e=>(by cases e),fun _=>⟨fun eg1=>?_,fun eg1=>?_⟩⟩
   ·have eg:=eg _ eg1;rw[if_pos rfl]at eg;intro _;have main:∀(P:nS->Nat->Prop),True:=fun _=>trivial
    repeat' (first
     |apply And.intro
     |(intro _)
     |apply Exists.intro (nS.mk (dD (xs.take i)) _ [(gl xs i).key,(gl xs i).val] 2)
     |apply Exists.intro (lM.mk (dD (xs.take i)++eC [(gl xs i).key,(gl xs i).val]) _ [(gl xs i).e,1] 2)
     |apply Exists.intro ((i+1,_):Nat×Nat))
    all_goals first|exact cV|exact r1|exact r2 _|exact t2 _ (by assumption)|exact(n2 1 (by omega) (by omega) _ (by assumption)).1|exact(n2 1 (by omega) (by omega) _ (by assumption)).2|omega|(simp only[List.length_append];omega)|(dsimp only;rw[eg];done)|(dsimp only;rw[eg];exact aj.refl _ _ _)|(dsimp only;rw[eg];exact Nat.le_refl _)|skip
   ·have eg:=eg _ eg1;rw[if_neg (by decide)]at eg;intro _
    repeat' (first
     |apply And.intro
     |(intro _)
     |apply Exists.intro (nS.mk (dD (xs.take i)) _ [(gl xs i).key,(gl xs i).val] 2)
     |apply Exists.intro (lM.mk (dD (xs.take i)++eC [(gl xs i).key,(gl xs i).val]) _ [(gl xs i).e,0] 2)
     |apply Exists.intro ((i+1,_):Nat×Nat))
    all_goals first|exact cV|exact r1|exact r2 _|exact t2 _ (by assumption)|exact(n2 0 (by omega) (by omega) _ (by assumption)).1|exact(n2 0 (by omega) (by omega) _ (by assumption)).2|omega|(simp only[List.length_append];omega)|(dsimp only;rw[eg];done)|(dsimp only;rw[eg];exact aj.refl _ _ _)|(dsimp only;rw[eg];exact Nat.le_refl _)|skip
  ·have hi:¬i<xs.length:=by simpa using c1
   rw[show dD (xs.take i)=dD xs from uG hi];refine⟨c,?_⟩
   (repeat' (first|apply And.intro|(intro _)))<;>first|trivial|with_reducible rfl|exact aj.refl _ _ _|exact Nat.le_refl _|omega)
theorem yd:ak (Y Tryz.prog).G.X 86 Lu:=aV fK VP trivial
theorem qH:ak (Y Tryz.prog).G.X 96 A7:=aV fK Gq ⟨yd,trivial⟩
theorem SA:ak (Y Tryz.prog).G.X 185 Su:=aV fK Sv ⟨qH,trivial⟩
theorem zg:ak (Y Tryz.prog).G.X 165 Co:=aV fK Pu ⟨Jw,trivial⟩
theorem Lw:ak (Y Tryz.prog).G.X 166 Gr:=aV fK Lv ⟨Jw,trivial⟩
theorem Gu:ak (Y Tryz.prog).G.X 122 Sz:=aV fK VR ⟨qH,zg,Lw,trivial⟩
theorem Jy(a b:Nat)(ha:a<2^64)(hb:b<2^64):dz .or .u64 a b=((a ||| b:Nat):Int):=by
 have h:=Nat.or_lt_two_pow ha hb;have e:(BitVec.ofInt 64 (a:Int) ||| BitVec.ofInt 64 (b:Int)).toNat=a ||| b:=by
  rw[BitVec.toNat_or,BitVec.ofInt_natCast,BitVec.ofInt_natCast,BitVec.toNat_ofNat,BitVec.toNat_ofNat,Nat.mod_eq_of_lt ha,Nat.mod_eq_of_lt hb]
 show IntKind.u64.wrap ((BitVec.ofInt 64 (a:Int) ||| BitVec.ofInt 64 (b:Int)).toNat:Int)=_;rw[e];exact fc (by simp only[bL];omega)
theorem Lx(a:Nat)(ha:a<2^64):dz .and .u64 a 1=((a%2:Nat):Int):=by
 have e:(BitVec.ofInt 64 (a:Int) &&& BitVec.ofInt 64 ((1:Nat):Int)).toNat=a%2:=by
  rw[BitVec.toNat_and,BitVec.ofInt_natCast,BitVec.ofInt_natCast,BitVec.toNat_ofNat,BitVec.toNat_ofNat,Nat.mod_eq_of_lt ha,Nat.mod_eq_of_lt (by decide),Nat.and_one_is_mod]
 show IntKind.u64.wrap ((BitVec.ofInt 64 (a:Int) &&& BitVec.ofInt 64 ((1:Nat):Int)).toNat:Int)=_;rw[e];exact fc (by simp only[bL];omega)
theorem XA(c:Nat)(h:c<256):dz .and .u8 c 127=((c%128:Nat):Int):=by
 have h':∀y:Fin 256,dz .and .u8 (y.1:Int) 127=((y.1%128:Nat):Int):=by decide +kernel
 exact h' ⟨c,h⟩
theorem zh:∀(k m u:Nat),u<128^(m+1)->(uE k u).length<=m+1
 |0,_,_,_=>by simp[uE]
 |k+1,m,u,h=>by
  unfold uE;split
  ·simp
  ·cases m with
   |zero=>simp at h;omega
   |succ m =>
    have:=zh k m (u/128) (Nat.div_lt_of_lt_mul (by rw[Nat.mul_comm,<- Nat.pow_succ];exact h));simp only[List.length_cons];omega
theorem SB:∀(k u i:Nat),u<128^(k+1)->i<(uE k u).length ->
 (i+1<(uE k u).length->128<=u/128^i/\gl (uE k u) i=((u/128^i%128+128:Nat):Int))/\(i+1=(uE k u).length->u/128^i<128/\gl (uE k u) i=((u/128^i:Nat):Int)/\(0<i->0<u/128^i))
 |0,u,i,h,hi=>by
  simp[uE]at hi;subst hi;simp[uE,gl]at h ⊢;omega
 |k+1,u,i,h,hi=>by
  unfold uE at hi ⊢;by_cases hu:u<128
  ·rw[if_pos hu]at hi ⊢;simp at hi;subst hi;simp[gl];omega
  ·rw[if_neg hu]at hi ⊢;cases i with
   |zero =>
    have:=(vE k (u/128)).1;rw[Nat.pow_zero,Nat.div_one];refine⟨fun _=>⟨by omega,rfl⟩,fun hh=>?_⟩;simp only[List.length_cons]at hh;omega
   |succ i =>
    have e:u/128^(i+1)=u/128/128^i:=by rw[Nat.pow_succ,Nat.mul_comm,Nat.div_div_eq_div_mul]
    have hi':i<(uE k (u/128)).length:=by simpa using hi
    obtain⟨h1,h2⟩:=SB k (u/128) i (Nat.div_lt_of_lt_mul (by rw[Nat.mul_comm,<- Nat.pow_succ];exact h)) hi';have eg:∀x:Int,gl (x::uE k (u/128)) (i+1)=gl (uE k (u/128)) i:=fun x=>by simp[gl]
    rw[e,eg];simp only[List.length_cons,Nat.add_lt_add_iff_right,Nat.add_right_cancel_iff];refine⟨h1,fun hh=>⟨(h2 hh).1,(h2 hh).2.1,fun _=>?_⟩⟩;by_cases h0:0<i
    ·exact(h2 hh).2.2 h0
    ·have:i=0:=by omega
     subst this;simp;omega
theorem VS{U i c:Nat}(hU:U<2^63)(hi:i<=8)(hc:c<256)(hx:c%128=U/128^i%128) :
 dz .or .u64 ((U%128^i:Nat):Int) (uw .u64 (dz .and .u8 (c:Int) 127*2^min (7*(i:Int)).toNat 64))=((U%128^(i+1):Nat):Int):=by
 have e1:(7*(i:Int)).toNat=7*i:=by omega
 have e2:min (7*i) 64=7*i:=by omega
 have e3:(128:Nat)^i=2^(7*i):=by rw[Nat.pow_mul]
 rw[XA c hc,e1,e2,hx,Nat.pow_succ,Nat.mod_mul,e3];have hlt:U%2^(7*i)<2^(7*i):=Nat.mod_lt _ (Nat.pow_pos (by decide));have hp:(2:Nat)^(7*i)<=2^56:=Nat.pow_le_pow_right (by decide) (by omega);obtain⟨x,hx2⟩:∃x,x=U/2^(7*i)%128:=⟨_,rfl⟩
 have hxl:x<128:=by rw[hx2];exact Nat.mod_lt _ (by decide)
 rw[<- hx2];have hb:2^(7*i)*x<2^64:=by
  have:=Nat.mul_le_mul hp (Nat.le_of_lt_succ (show x<127+1 by omega));omega
 have e5:uw .u64 ((x:Int)*2^(7*i))=((2^(7*i)*x:Nat):Int):=by
  have:(x:Int)*2^(7*i)=((2^(7*i)*x:Nat):Int):=by push_cast;rw[Int.mul_comm]
  rw[this];simp only[uw];omega
 rw[e5,Jy _ _ (by omega) hb,Nat.or_comm,<- Nat.two_pow_add_eq_or_of_lt hlt,Nat.add_comm]
structure qg where
 l:List Int
 r:Nat
 len:Nat
 cap:Nat
 n:Int
noncomputable def Jz:cD where
 α:=qg
 β:=Unit
 m:=1
 m':=1
 pre:=fun a=>a.r+a.len<=a.l.length/\a.len<100000/\a.len<=a.cap/\0<=a.n/\a.n<4611686018427387904/\(vi a.n).length<=a.len/\∀i,i<(vi a.n).length->gl a.l (a.r+i)=gl (vi a.n) i
 args:=fun a=>[.a (.slc 0 a.r 1 a.len a.cap)]
 hp:=fun _=>[]
 ro:=fun a=>ji 0 a.l
 post:=fun _ _=>True
 res:=fun a _=>.l8 [.a (.int .i64 a.n),.a (.int .i64 (vi a.n).length),.a (.lit .i64 0)]
 cT:=fun _ _=>[]
def YY(a:qg):An:=.flat 3 Nat (fun s i=>(s.set 5 (.a (.int .u64 ((2*a.n.toNat%128^i:Nat):Int)))).int 11 i) (fun _ i=>i<(vi a.n).length) (fun _ i=>(vi a.n).length-i)
def Cq(x:qg)(y:Nat):Int:=dz Go.BinOp.or .u64 (aa (2*aX x.n%128^y)) (cQ (dz Go.BinOp.and .u8 (gl x.l (x.r+az y)) (127:Int)*2^min (aX ((7:Int)*aa y)) 64))
def zi(y u:Nat)(x:Int)(v:List Int)(w:Nat):=y<100000/\y<=u/\(0:Int)<=x/\x<(4611686018427387904:Int)/\av (vi x)<=y/\∀z:Nat,z<av (vi x)->gl v (w+z)=gl (vi x) z
def zj(x:qg):=x.r+x.len<=av x.l/\zi x.len x.cap x.n x.l x.r
def Gv(x:qg)(y:Int):=ay ((0:Int)=x.n/\aC (av (vi x.n)) (bp (y=(0:Int))))
def Lz(x:qg)(y:Nat)(z:Prop):=bh x.len/\kg x.r x.len x.cap/\cz 0 0 (aG 0) (kg x.r x.len x.cap/\cn x.l x.l cA/\y<av (vi x.n)/\z)
def oJ(x:Int):Int:=uw .i64 x
theorem JA:fnBody (Y Tryz.prog) [] 177 Jz fun a=>[(177,[YY a],[])]:=fnBody.of (p :=
 ∀x:qg,zj x->(∃y:Nat,aC y (aC (2*aX x.n%128^y) (Lz x y True)))/\∀y:Nat,y<av (vi x.n)->mq (aa y) x.len (x.r+az y<av x.l/\(jE (gl x.l (x.r+az y))->qT (aa y == (9:Int)) (aQ 1 (gl x.l (x.r+az y))) (Gv x 1) (ah ((7:Int)*aa y)/\(0:Int)<=7*aa y/\aA 127 (gl x.l (x.r+az y)) (bY y fun z=>Cq x y=aa (2*aX x.n%128^z)/\Lz x z (av (vi x.n)-z<av (vi x.n)-y)) (qT (aQ 0 (aa y)) (gl x.l (x.r+az y) == (0:Int)) (Gv x 1) ((0:Int)<=1/\aO (dz .and .u64 (Cq x y) (1:Int) == 1) (aP y (ay (dz .xor .i64 (-1:Int) (oJ (Cq x y/(2:Int)))=x.n/\aY y=aa (av (vi x.n))/\aW (True/\True)))) (aP y (ay (oJ (Cq x y/(2:Int))=x.n/\aY y=aa (av (vi x.n))/\aW (True/\True))))))))) (Gv x 2)) (by kernel_rfl) (by
 delta qT aO av cz aL ah az aG aQ aY aa bg aD aX kg cn bY Cq zi cQ ay aC aW aA mq aP bh bp jE zj Gv Lz oJ
 try dsimp -iota -proj only
 rintro⟨l,r,len,cap,n⟩ ⟨h1,h2,h3,h4,h5,h6,h7⟩;dsimp only at *;obtain⟨U,hU⟩:∃U,U=2*n.toNat:=⟨_,rfl⟩
 have hUlt:U<2^63:=by omega
 have hv:vi n=uE 9 U:=by rw[hU];rfl
 have hv0:=vE 9 U
 have hvs := zh 9 8 U (by have : (2 : Nat) ^ 63 = 128 ^ 9 := by decide
                          omega)
 rw[<- hU];rw[hv]at h6 h7 ⊢;refine⟨⟨0,?_⟩,fun i hi=>?_⟩
 ·and_intros<;>first|exact cV|simp[Nat.mod_one]
 ·obtain ⟨b1, b2⟩ := SB 9 U i (by have : (2 : Nat) ^ 63 ≤ 128 ^ (9 + 1) := by decide
                                  omega) hi
  have hgi:=h7 i hi;simp only[Int.toNat_natCast,bL,hgi];obtain⟨c,hc,hc1⟩:∃c:Nat,gl (uE 9 U) i=(c:Int)/\c<256:=by
   by_cases hl:i+1<(uE 9 U).length
   ·exact⟨_,(b1 hl).2,by omega⟩
   ·exact⟨_,(b2 (by omega)).2.1,by have:=(b2 (by omega)).1;omega⟩
  have hx:c%128=U/128^i%128:=by
   by_cases hl:i+1<(uE 9 U).length
   ·have:=(b1 hl).2;rw[hc]at this;omega
   ·have:=(b2 (by omega)).2.1;rw[hc]at this;omega
  have hor:=VS (c:=c) hUlt (by omega:i<=8) hc1 hx;rw[hc]at b1 b2;simp only[hc,hor];have last:¬(127<(c:Int))->i+1=(uE 9 U).length/\U%128^(i+1)=U/\(0<i->0<c):=fun h=>by
   have hl:¬(i+1<(uE 9 U).length):=fun hl=>by have:=(b1 hl).2;omega
   obtain⟨g1,g2,g3⟩:=b2 (by omega);refine⟨by omega,Nat.mod_eq_of_lt ?_,fun h0=>by have:=g3 h0;omega⟩;have:=(Nat.div_lt_iff_lt_mul (Nat.pow_pos (n:=i) (show 0<128 by decide))).1 g1;rw[Nat.pow_succ,Nat.mul_comm];exact this
  have more:127<(c:Int)->i+1<(uE 9 U).length:=fun h=>by
   rcases Nat.lt_or_ge (i+1) (uE 9 U).length with hl|hl
   ·exact hl
   ·have:=b2 (by omega);omega
  have fin:∀w,w=U->(dz .and .u64 (w:Int) 1 == 1)=true->False:=fun w hw h=>by
   rw[hw,Lx U (by omega)]at h;simp at h;omega
  have fin2:∀w:Nat,w=U->uw .i64 ((w:Int)/2)=n:=fun w hw=>by
   subst hw;show IntKind.i64.wrap ((w:Int)/2)=n;rw[fc (by simp only[bL];omega)];omega
  have h9:((i:Int) == 9)=false:=by simp;omega
  rw[h9];refine⟨fun c1=>⟨by omega,by omega,fun _=>⟨fun e=>(by cases e),fun _=>⟨by omega,by omega,fun c2=>?_,fun c2=>⟨fun c3=>?_,fun c3=>?_⟩⟩⟩⟩,fun c1=>?_⟩
  ·have hm:=more (by simpa using c2);refine⟨by omega,i+1,?_⟩
   and_intros<;>first|exact cV
  ·obtain⟨l1,l2,l3⟩:=last (by simpa using c2);have l3:=l3 (by simpa using c3);refine⟨fun e=>?_,fun _=>⟨by omega,fun e=>(fin _ l2 e).elim,fun e=>⟨by omega,(),?_⟩⟩⟩
   ·simp at e;omega
   ·and_intros<;>first|exact cV|exact fin2 _ l2
  ·obtain⟨l1,l2,l3⟩:=last (by simpa using c2);refine⟨by omega,fun e=>(fin _ l2 e).elim,fun e=>⟨by omega,(),?_⟩⟩
   and_intros<;>first|exact cV|exact fin2 _ l2
  ·simp at c1;omega)
theorem Gw(l:List Int)(r n:Nat):gL (af cA l) r n=List.foldl (fun(s:ByteArray) (n:Int)=>s.push (UInt8.ofNat n.toNat)) ByteArray.empty (List.map (fun(i:Nat)=>gl l (r+i)) (List.range n)):=rfl
theorem foldl_push:∀(l:List UInt8) (b:ByteArray),List.foldl (fun(s:ByteArray) (n:Int)=>s.push (UInt8.ofNat n.toNat)) b (l.map fun x=>(x.toNat:Int))=⟨b.data++l.toArray⟩
 |[],b=>by simp
 |x::l,b=>by
  rw[List.map_cons,List.foldl_cons,foldl_push l];congr 1;simp[ByteArray.push]
theorem N1{t:ByteArray}{n:Nat}{f:Nat->Int}(hn:n=t.size)(h:∀i,i<t.size->f i=gl (IN t) i):List.foldl (fun(s:ByteArray) (n:Int)=>s.push (UInt8.ofNat n.toNat)) ByteArray.empty (List.map f (List.range n))=t:=by
 have e:List.map f (List.range n)=IN t:=by
  refine List.ext_getElem (by rw[List.length_map,List.length_range,iV,hn]) fun i h1 h2=>?_;rw[List.getElem_map,List.getElem_range,h i (by rw[iV]at h2;exact h2),bR h2]
 rw[e,IN,foldl_push];cases t with
 |mk d=>show ByteArray.mk (#[]++d.toList.toArray)=ByteArray.mk d;simp
theorem bf{α:Type}[Inhabited α]{l m:List α}{i:Nat}:gl (l++m) (l.length+i)=gl m i:=by
 simp[gl,List.getD_eq_getElem?_getD,List.getElem?_append_right]
structure oK where
 l:List Int
 r:Nat
 len:Nat
 cap:Nat
 t:ByteArray
noncomputable def LA:cD where
 α:=oK
 β:=Unit
 m:=1
 m':=1
 pre:=fun a=>a.r+a.len<=a.l.length/\a.len<100000/\a.len<=a.cap/\a.t.size<=1000/\(vi a.t.size++IN a.t).length<=a.len/\∀i,i<(vi a.t.size++IN a.t).length->gl a.l (a.r+i)=gl (vi a.t.size++IN a.t) i
 args:=fun a=>[.a (.slc 0 a.r 1 a.len a.cap)]
 hp:=fun _=>[]
 ro:=fun a=>ji 0 a.l
 post:=fun _ _=>True
 res:=fun a _=>.l8 [.a (.str a.t),.a (.int .i64 (vi a.t.size++IN a.t).length),.a (.lit .i64 0)]
 cT:=fun _ _=>[]
def cI(x y:Int):=(0:Int)<=x/\x<=y
def nc(x:oK):Nat:=av (vi (aa (bA x.t))++IN x.t)
def Gy(x:oK):=x.r+x.len<=av x.l/\x.len<100000/\x.len<=x.cap/\bA x.t<=1000/\nc x<=x.len/\∀y:Nat,y<nc x->gl x.l (x.r+y)=gl (vi (aa (bA x.t))++IN x.t) y
def wQ(x:Int)(y:Nat)(z:Int)(u:Prop):=cI x (aa y)/\cI z (aa (aX x))/\u
def wR(x:qg):Int:=aa (av (vi x.n))+x.n
theorem Pv:fnBody (Y Tryz.prog) [(177,Jz)] 235 LA fun _=>[]:=fnBody.of (p :=
 ∀y:oK,Gy y->∃x:qg,(y.r=x.r/\y.len=x.len/\y.cap=x.cap)/\cn x.l y.l cA/\zj x/\aI (gC (aQ x.n 0) (ay (dc=y.t/\aC (nc y) (bp ((1:Int)=0)))) (aQ 65536 x.n) (ah (aa y.len-aa (av (vi x.n)))/\aA (aa y.len-aa (av (vi x.n))) x.n (ay (dc=y.t/\aC (nc y) (bp ((2:Int)=0)))) (ah (wR x)/\wQ (wR x) y.cap (aa (av (vi x.n))) (y.r+az (av (vi x.n))+(aX (wR x)-az (av (vi x.n)))<=av y.l/\ah (wR x)/\ay (gL (af cA y.l) (y.r+az (av (vi x.n))) (aX (wR x)-az (av (vi x.n)))=y.t/\wR x=aa (nc y)/\aW (True/\True))))))) (by kernel_rfl) (by
 delta aO av aL ah az aG aQ aa cI aD aX cn nc gC dc aI bA zi ay aC aW aA Gy bp wQ wR zj
 try dsimp -iota -proj only
 rintro⟨l,r,len,cap,t⟩ ⟨h1,h2,h3,h4,h5,h6⟩;dsimp only at *;have hv:=iK (t.size:Nat);rw[List.length_append,iV]at h5 h6 ⊢;have g1:∀i,i<(vi (t.size:Nat)).length->gl l (r+i)=gl (vi (t.size:Nat)) i:=fun i hi=>by rw[h6 i (by omega),bN hi]
 refine⟨⟨l,r,len,cap,t.size⟩,?_⟩
 (repeat' (first|apply And.intro|(intro _)|apply Exists.intro ()))<;>first|exact cV|(exact g1 _ (by assumption))|(exfalso;(try dsimp only at *);(try simp only[decide_eq_true_eq,decide_eq_false_iff_not,Bool.false_eq_true]at *);omega)|skip
 refine N1 (by dsimp only;omega) fun i hi=>?_;dsimp only;show gl l (r+(((vi (t.size:Nat)).length:Int)).toNat+i)=_;rw[show r+(((vi (t.size:Nat)).length:Int)).toNat+i=r+((vi (t.size:Nat)).length+i)by omega,h6 _ (by omega),bf])
theorem JB:ak (Y Tryz.prog).G.X 177 Jz:=aV fK JA trivial
theorem Pw:ak (Y Tryz.prog).G.X 235 LA:=aV fK Pv ⟨JB,trivial⟩
structure Cr where
 l:List Int
 r:Nat
 cap:Nat
 x:aB
noncomputable def VT:cD where
 α:=Cr
 β:=Nat
 m:=1
 m':=2
 pre:=fun a=>fU a.x=true/\a.r+(cS a.x).length<=a.l.length/\(cS a.x).length<=a.cap/\∀i,i<(cS a.x).length->gl a.l (a.r+i)=gl (cS a.x) i
 args:=fun a=>[.a (.slc 0 a.r 1 (cS a.x).length a.cap)]
 hp:=fun _=>[]
 ro:=fun a=>ji 0 a.l
 post:=fun _ _=>True
 res:=fun a c=>.l8 [.a (.slc 1 0 4 1 c),.a (.lit .i64 0)]
 cT:=fun a _=>[(1,.arr 40 Lt 1 (af kJ [a.x]))]
def Z5(a:Cr):An:=.flat 3 (Nat×Nat) (fun s k=>((s.new (.arr 40 Lt k.1 (af kJ ([a.x].take k.1)))).set 4 (.a (.slc s.nx 0 4 k.1 k.2))).int 5 ((k.1*(cS a.x).length:Nat):Int)) (fun _ k=>k.1<=1) (fun _ k=>1-k.1)
def qU(y:Nat×Nat)(z:Cr):Int:=aa (y.fst*av (cS z.x))
def qV(x:Int)(y:qg):Int:=x+aa (av (vi y.n))
def wS(x:Nat×Nat)(y:Cr)(z u:oK):Int:=qU x y+aa (nc z)+aa (nc u)
def LB(t:Int)(y:Cr)(u:Nat×Nat)(v w:oK)(s:Nat)(f:qg->Prop):=cI t (aa (av (cS y.x)-aX (wS u y v w)))/\∃z:qg,(y.r+aX (wS u y v w)+s=z.r/\av (cS y.x)-aX (wS u y v w)-s=z.len/\y.cap-aX (wS u y v w)-s=z.cap)/\cn z.l y.l cA/\zj z/\aI (ah (qV t z)/\f z)
def LC(y:Cr)(u:Nat)(z:oK)(v:Nat×Nat)(w:oK)(s t:Prop):=(y.r+u=z.r/\av (cS y.x)-u=z.len/\y.cap-u=z.cap)/\cn z.l y.l cA/\Gy z/\aI (ah (qU v y+aa (nc w))/\s/\t)
def iu(x y z u v:Nat)(w s:Nat->Nat->Value)(t f:Prop):=ag (x=y/\z=u)/\aL y x v w s/\t/\f
def nB(x y:Int)(z:Prop):=ah x/\ah (x+y)/\z
def Gz(y:Cr):=aD (fU y.x)/\y.r+av (cS y.x)<=av y.l/\av (cS y.x)<=y.cap/\∀z:Nat,z<av (cS y.x)->gl y.l (y.r+z)=gl (cS y.x) z
def Cs(y:Nat×Nat)(z:Cr):Nat->Nat->Value:=af kJ (List.take y.fst [z.x])
theorem VU:fnBody (Y Tryz.prog) [(177,Jz),(235,LA),(122,Sz)] 210 VT fun a=>[(210,[Z5 a],[])]:=fnBody.of (p :=
 ∀y:Cr,Gz y->(∃z:Nat×Nat,aC (z.fst*av (cS y.x)) ((0=z.fst/\0=z.snd)/\aW (kg y.r (av (cS y.x)) y.cap/\z.fst=0/\cn y.l y.l cA/\z.fst<=1/\True)))/\∀z:Nat×Nat,z.fst<=1->aA (qU z y) (aa (av (cS y.x))) (cI (qU z y) (aa (av (cS y.x)))/\∃u:oK,LC y (az (z.fst*av (cS y.x))) u z u (cI (qU z y+aa (nc u)) (aa (av (cS y.x)))) (∃v:oK,LC y (aX (qU z y+aa (nc u))) v z u (ah (wS z y u v)) (cI (wS z y u v) (aa (av (cS y.x)))/\bg 0 2/\LB 0 y z u v 0 fun f=>bg 1 2/\LB (qV 0 f) y z u v (aX (qV 0 f)) fun w=>ah w.n->gu z.fst 48 z.snd fun s=>nB (aa (nc u)+aa (nc v)) (qV (qV 0 f) w) (ah (qU z y+(aa (nc u)+aa (nc v)+qV (qV 0 f) w))/\∃g:Nat×Nat,qU z y+(aa (nc u)+aa (nc v)+qV (qV 0 f) w)=qU g y/\ag (z.fst+1=g.fst/\s=g.snd)/\aW (kg y.r (av (cS y.x)) y.cap/\iJ g.fst z.fst 4 (Cs z y) (kP (bE u.t) (bE v.t) (bu f.n (bH (dX (w.n == (1:Int)))))) (Cs g y)/\cn y.l y.l cA/\bS g.fst 1 z.fst))))) (∃u:D9,iu z.fst u.xs.length z.snd u.cap 4 (Cs z y) (af kJ u.xs) (wP u) (∀v:Nat,True->∀w:Bool,(aD w->av (dD u.xs)=0)->aO w (∃s:Nat,(0=1/\0=s)/\(1:Int)=0/\bp (1=0)) (mB (dD u.xs) /\
 y.r+av (cS y.x)<=av y.l/\aO (bx (iZ (gL (af cA (dD u.xs)) 0 (av (dD u.xs))) (gL (af cA y.l) y.r (av (cS y.x))))) (∃s:Nat,(0=1/\0=s)/\(1:Int)=0/\bp (1=0)) (∃s:Nat,dJ z.fst 1 z.snd s (aG 0) 4 (Cs z y) (af kJ [y.x]) (True/\True)))))) (by kernel_rfl) (by
 delta aO av aL ah bu az aG gF aQ aa cI bH bg aD dO aX kP kg bM cn nc aI bA dJ iJ gu bE bS LB zi LC aC iu aW ag aA qU nB wP Gy bp Gz Cs mB bx iZ zj qV dX jF wS
 try dsimp -iota -proj only
 rintro⟨l,r,cap,x⟩ ⟨h1,h2,h3,h4⟩;dsimp only at *;obtain⟨k1,k2,k3,k4⟩:=qG h1;obtain⟨P,hP⟩:∃P,P=vi (x.key.size:Nat)++IN x.key:=⟨_,rfl⟩
 obtain⟨Q,hQ⟩:∃Q,Q=vi (x.val.size:Nat)++IN x.val:=⟨_,rfl⟩
 obtain⟨E,hE⟩:∃E,E=vi x.e:=⟨_,rfl⟩
 obtain⟨g,hg⟩:∃g:Int,g=if x.gone then 1 else 0:=⟨_,rfl⟩
 obtain⟨G,hG⟩:∃G,G=vi g:=⟨_,rfl⟩
 have hg0:0<=g/\g<=1:=by rw[hg];split<;>omega
 have hI:cS x=P++(Q++(E++G)):=by
  simp only[cS,eC,ij,List.flatMap_cons,List.flatMap_nil,List.append_nil,hP,hQ,hE,hG,hg,List.append_assoc]
 have hPl:1<=P.length:=by have:=iK (x.key.size:Nat);rw[hP,List.length_append];omega
 have hlen:=EJ h1;have hL:(cS x).length=P.length+(Q.length+(E.length+G.length)):=by rw[hI];simp only[List.length_append]
 have fP:∀i,i<P.length->gl l (r+i)=gl P i:=fun i hi=>by rw[h4 i (by omega),hI,bN hi]
 have fQ:∀i,i<Q.length->gl l (r+P.length+i)=gl Q i:=fun i hi=>by
  rw[Nat.add_assoc,h4 _ (by omega),hI,bf,bN hi]
 have fE:∀i,i<E.length->gl l (r+(P.length+Q.length)+i)=gl E i:=fun i hi=>by
  rw[Nat.add_assoc,h4 _ (by omega),hI,Nat.add_assoc,bf,bf,bN hi]
 have fG:∀i,i<G.length->gl l (r+(P.length+Q.length)+E.length+i)=gl G i:=fun i hi=>by
  rw[Nat.add_assoc,Nat.add_assoc,h4 _ (by omega),hI,Nat.add_assoc,bf,bf,bf]
 have hall:List.map (fun(i:Nat)=>gl l (r+i)) (List.range (cS x).length)=List.map (fun(i:Nat)=>gl (cS x) (0+i)) (List.range (cS x).length):=by
  refine List.map_congr_left fun i hi=>?_;rw[h4 i (List.mem_range.1 hi),Nat.zero_add]
 obtain⟨L,hLL⟩:∃L,(cS x).length=L:=⟨_,rfl⟩
 rw[hLL]at h2 h3 h4 hlen hL hall ⊢;refine⟨⟨(0,0),?_⟩,fun k hk=>?_⟩
 ·dsimp only
  and_intros<;>first|exact cV|simp
 ·obtain⟨k,c⟩:=k;have hk:k<=1:=hk;dsimp only;refine⟨fun c1=>?_,fun c1=>?_⟩
  ·have hk0:k=0:=by
    rcases Nat.lt_or_ge k 1 with h|h
    ·omega
    ·have:k=1:=by omega
     subst this;simp at c1
   subst hk0;simp only[Nat.zero_mul,Int.natCast_zero,Int.zero_add,Int.toNat_zero,Nat.add_zero,Nat.sub_zero];refine⟨by omega,⟨oK.mk l r L cap x.key,?_⟩⟩;simp only[<- hP]
   and_intros<;>first|exact cV|exact fP|skip
   intro _ _;refine⟨by simp only[bL];omega,by omega,⟨oK.mk l (r+P.length) (L-P.length) (cap-P.length) x.val,?_⟩⟩;simp only[<- hQ]
   and_intros<;>first|exact cV|exact fQ|skip
   intro _ _
   and_intros<;>first|exact cV|(simp only[bL];omega)|skip
   refine⟨qg.mk l (r+(P.length+Q.length)) (L-(P.length+Q.length)) (cap-(P.length+Q.length)) x.e,?_⟩;simp only[<- hE]
   and_intros<;>first|exact cV|exact fE|skip
   intro _ _
   and_intros<;>first|exact cV|(simp only[bL];omega)|skip
   refine⟨qg.mk l (r+(P.length+Q.length)+E.length) (L-(P.length+Q.length)-E.length) (cap-(P.length+Q.length)-E.length) g,?_⟩;simp only[<- hG]
   and_intros<;>first|exact cV|exact fG|skip
   intro _ _
   (repeat' (first|apply And.intro|(intro _)))<;>first|exact cV|(simp only[bL];omega)|skip
   apply Exists.intro ((1,_):Nat×Nat);have hgo:(g == 1)=x.gone:=by
    rw[hg];cases x.gone<;>rfl
   have hr:aj 1 4 (aZ (af kJ (List.take 0 [x])) 0 0 fun(i j:Nat)=>aN 4 [Value.string x.key,Value.string x.val,Value.int .i64 x.e,Value.bool (g == 1)] (0+i) j) (af kJ (List.take 1 [x])):=.dW fun i hi=>by
    have:i=0:=by omega
    subst this;rw[hgo];rfl
   and_intros<;>first|exact cV|exact hr|skip
  ·have hk1:k=1:=by
    rcases Nat.lt_or_ge k 1 with h|h
    ·have:k=0:=by omega
     subst this;simp at c1;omega
    ·omega
   subst hk1;have hx1:List.take 1 [x]=[x]:=rfl;have hI1:dD [x]=cS x:=by simp[dD]
   rw[hx1];refine⟨⟨[x],c⟩,?_⟩;simp only[Gw,hI1,hLL,hall];have hm:∀i,i < [x].length->fU (gl [x] i)=true:=fun i hi=>by
    have:i=0:=by simp at hi;omega
    subst this;exact h1
   (repeat' (first|apply And.intro|(intro _)|apply Exists.intro (c:Nat)))<;>first|exact cV|(exact hm _ (by assumption))|(exfalso;simp at *;done)|(exfalso;clear h4 hall fP fQ fE fG;grind)|skip)
theorem N2:ak (Y Tryz.prog).G.X 210 VT:=aV fK VU ⟨JB,Pw,Gu,trivial⟩
end Go.Proofs.YtfjgoonelcaggaaGreat
namespace Go.Sx
section
def VV(f:A->S->(A->S->Prop)->Prop):Prop:=∀x s K,f x s K->∀w0 M ρ w,ρ.n=s.nx->ai w0 M ρ s.hp w->∀u,x.b8 ρ u->Jb w0 M ρ w s u K
theorem N3(n:Nat):VV (Jc n):=Bj n
def SC(ty:Nat)(ks:List CK)(x:A)(s:S)(K:A->S->Prop):Prop :=
 match x with
 |.val v=>oD s fun tp wr H=>bif wr then ∃l c rows,jW H v ks l c rows /\
  K (.slc s.nx 0 ks.length l c) ⟨s.nt,s.fr,⟨s.nx,true,.arr ty ks l rows⟩::⟨s.nx+1,true,.cu (aJ H v)⟩::s.hp.del tp,s.nx+2,s.kp,s.rt⟩else False
 |_=>False
theorem SD(ty:Nat)(ks:List CK):VV (SC ty ks):=by
 intro x s K h w0 M ρ w hρ hh u hu;unfold SC at h;split at h<;>try exact h.elim
 rename_i v;replace h:=pL h;obtain⟨tp,wr,H,h,hf⟩:=h;cases wr with
 |false=>exact h.elim
 |true =>
  simp only[cond_true]at h;obtain⟨l,c,rows,hat,hK⟩:=h;obtain⟨rfl,_⟩:=hu;have hcp:=(hh.gH _ (aF.bk hf)).ch;simp only at hcp;rcases hat with⟨rfl,rfl,rfl⟩ | ⟨b,lo,o,cs,rfl,⟨hlc,hcm⟩,hH,hfit,hrows⟩
  ·have hsp:=hh.FQ hf ⟨0,0,0,fun _=>False⟩ ⟨0,0,0,fun x=>(ρ.pl tp).fp x⟩ (fun x hx=>hx.elim) (fun x hx=>hx) (fun x hx _=>hx)
    (c1:=.arr ty ks 0 rows) (c2:=.cu H) (fun ρ'=>.inl ⟨rfl,rfl,fun _ h=>h⟩) (fun ρ' x lo' cs' hx=>hcp x lo' cs' hx)
   rw[hρ]at hsp;exact⟨_,_,_,hK,rfl,rfl,by show ρ.n+1+1=s.nx+2;rw[hρ],(ρ.dV _).trans ((ρ.ext _).dV _),⟨by show s.nx<ρ.n+2;omega,Nat.le_refl _,by unfold aq;omega,.inl ⟨rfl,rfl,rfl⟩⟩,hsp⟩
  ·obtain⟨hfp,vs,vty,fr,hb,hvl,hvs,hun⟩:=hcp b lo cs hH;have hsp:=hh.FQ hf ⟨b,lo+o,c,fun x=>x=b⟩ ⟨0,0,0,fun x=>(ρ.pl tp).fp x/\x≠b⟩ (fun x hx=>by simp only at hx;subst hx;exact hfp) (fun x hx=>hx.1) (fun x hx hx'=>hx'.2 hx)
    (c1:=.arr ty ks l rows) (c2:=.cu (sk H b)) (fun ρ'=>.inr ⟨vs,vty,fr,hb,by simp only;omega,hlc,fun x h1 h2=>hun x (by simp only at h1;omega) (by simp only at h2;omega),fun _=>Iff.rfl,fun i hi j k hk=>by
     obtain⟨g1,g2⟩:=hrows.at_ i hi j k hk;refine⟨?_,g2⟩;have hlt:o+i*ks.length+j<cs.length:=(List.getElem?_eq_some_iff.1 g1).1;rw[<- g1,<- hvs _ hlt];congr 1;simp only;omega⟩)
    (fun ρ' x lo' cs' hx=>by
     by_cases hxb:x=b
     ·subst hxb;rw[As]at hx;cases hx
     ·rw[yS hxb]at hx;obtain⟨g1,g2⟩:=hcp x lo' cs' hx;exact⟨⟨g1,hxb⟩,g2⟩)
   rw[hρ]at hsp;refine⟨_,_,_,hK,rfl,rfl,by show ρ.n+1+1=s.nx+2;rw[hρ],(ρ.dV _).trans ((ρ.ext _).dV _),⟨by show s.nx<ρ.n+2;omega,hlc,hcm,.inr ⟨_,rfl,fun _=>?_⟩⟩,hsp⟩;have hpl:((ρ.ext ⟨b,lo+o,c,fun x=>x=b⟩).ext ⟨0,0,0,fun x=>(ρ.pl tp).fp x/\x≠b⟩).pl s.nx=⟨b,lo+o,c,fun x=>x=b⟩:=by
    rw[<- hρ,(ρ.ext _).vn _ (Nat.lt_succ_self _)];exact ρ.dr _
   rw[hpl];simp
def GA(f:A->S->(A->S->Prop)->Prop)(slot:Nat)(s:S)(K:S->Prop):Prop :=
 match look s.fr slot with
 |.a x=>f x s fun y s'=>K (s'.set slot (.a y))
 |_=>False
theorem EK{f:A->S->(A->S->Prop)->Prop}(hf:VV f)(slot:Nat):∀s K,GA f slot s K->wK s K:=by
 intro s K h w0 M ρ a w hs;unfold GA at h;split at h<;>try exact h.elim
 rename_i x hx;have hr:=hs.frame slot;rw[hx]at hr;obtain⟨y,s',ρ',hK,h1,h2,h3,h4,h5,h6⟩:=hf x s _ h w0 M ρ w hs.n hs.heap _ hr;refine⟨_,ρ',hK,h4,⟨hs.defers,by rw[hs.size];exact h1.symm,h3,?_,h6⟩⟩;intro j;show(look ((slot,.a y)::s'.fr) j).b8 ρ' _;simp only[look];by_cases hj:slot=j
 ·subst hj;simp only[dh,cond_true];exact h5
 ·simp only[ey hj,cond_false];rw[h2];exact(hs.frame j).mono h4
def LD(f:A->S->(A->S->Prop)->Prop)(slot cell:Nat)(s:S)(K:S->Prop):Prop :=
 match look s.fr slot with
 |.a (.ptr t _ _ _)=>match s.hp.find t with
  |some (_,.obj _ cs)=>match cs[cell]? with
   |some x=>f x s fun y s'=>match s'.hp.find t with
    |some (true,.obj ty cs')=>bif Nat.blt cell cs'.length then K (s'.put (s'.hp.tO t (.obj ty (cs'.set cell y))))else False
    |_=>False
   |none=>False
  |_=>False
 |_=>False
theorem Px{f:A->S->(A->S->Prop)->Prop}(hf:VV f)(slot cell:Nat):∀s K,LD f slot cell s K->wK s K:=by
 intro s K h w0 M ρ a w hs;unfold LD at h;split at h<;>try exact h.elim
 rename_i t r e c hsl;split at h<;>try exact h.elim
 rename_i m0 ty0 cs hfd;split at h<;>try exact h.elim
 rename_i x hx;have he:=hs.heap.gH _ (aF.bk hfd);obtain⟨vs,fr,a1,a2,⟨us,xs,a3,a4⟩,a5⟩:=he.ch;obtain⟨u,hu,hru⟩:=a4.get hx;obtain⟨y,s',ρ',hK,h1,h2,h3,h4,h5,h6⟩:=hf x s _ h w0 M ρ w hs.n hs.heap u hru;split at hK<;>try exact hK.elim
 rename_i ty1 cs' hf';cases hl:Nat.blt cell cs'.length with
 |false=>rw[hl]at hK;exact hK.elim
 |true =>
  rw[hl]at hK;simp only[cond_true]at hK;have hl:=Nat.le_of_ble_eq_true hl;have htn:t<ρ.n:=he.tag;have hpl:ρ'.pl t=ρ.pl t:=h4.pl t htn;have h7:=h6.tO hf' (eu.refl _ w) (ch':=.obj ty1 (cs'.set cell y)) (by
   obtain⟨vs',fr',b1,b2,⟨us',xs',b3,b4⟩,b5⟩:=(h6.gH _ (aF.bk hf')).ch;refine⟨vs',fr',b1,b2,⟨us',xs',b3,?_⟩,b5⟩;simp only[hpl]at b1;rw[a1]at b1;have hvv:vs=vs':=by injection b1 with b1;injection b1
   subst hvv;have hlu:=b4.length;have e1:us'[cell]? = some u:=by
    have g1:vs.toList[cell]? = us'[cell]?:=by rw[b3,List.getElem?_append_left (by omega)]
    have g2:vs.toList[cell]? = us[cell]?:=by
     obtain⟨hlt,_⟩:=List.getElem?_eq_some_iff.1 hu;rw[a3,List.getElem?_append_left hlt]
    rw[<- g1,g2,hu]
   have:=b4.set cell (v:=u) (x:=y) h5;have e:us'.set cell u=us':=by
    obtain⟨hlt,he⟩:=List.getElem?_eq_some_iff.1 e1;subst he;exact List.set_getElem_self hlt
   rwa[e]at this)
  exact⟨_,ρ',hK,h4,⟨hs.defers,by rw[hs.size];exact h1.symm,h3,by show dy ρ' s'.fr _;rw[h2];exact hs.frame.mono h4,h7⟩⟩
def An.N4(key slot:Nat)(next:LH):An:=.view key (GA (Jc 3) slot) (EK (N3 3) slot) next
def An.VW(key slot cell:Nat)(next:LH):An:=.view key (LD (Jc 3) slot cell) (Px (N3 3) slot cell) next
def An.SE(key slot:Nat)(ty:Nat)(ks:List CK)(next:LH):An:=.view key (GA (SC ty ks) slot) (EK (SD ty ks) slot) next
end
end Go.Sx
namespace Go.Proofs.YtfjgoonelcaggaaGreat
open Go.Sx
structure RecM where
 pos:Int
 body:List Int
 deriving Inhabited
structure dx where
 gen:Int
 base:Int
 run:Int
 buf:List Int
 aR:List RecM
 deriving Inhabited
structure mC where
 b:Nat
 bv:Value
 rv:Value
 vs:List Value
def rP:List CK:=[.int .i64,.deep]
def uH(rs:List RecM)(vs:List Value):Nat->Nat->Value:=fun i j=>if j=0 then .int .i64 (gl rs i).pos else vs.getD i undef
def cU(g:dx)(bv rv:Value):List Value:=[.int .i64 g.gen,.int .i64 g.base,.int .i64 g.run,bv,rv]
def fA(H:PH)(v:Value)(l:List Int):Prop:=∃c,jW H v [.int .u8] l.length c (af cA l)
structure nZ(H:PH)(y:mC)(g:dx):Prop where
 cell:H y.b=some (0,cU g y.bv y.rv)
 A4:bL .i64 g.gen/\bL .i64 g.base/\bL .i64 g.run
 buf:fA H y.bv g.buf
 aR:∃c,jW H y.rv rP g.aR.length c (uH g.aR y.vs)
 len:y.vs.length=g.aR.length
 body:∀i,i<g.aR.length->fA H (y.vs.getD i undef) (gl g.aR i).body
def fC:Value->List Nat
 |.slice (some ⟨b,_,_⟩) _ _=>[b]
 |_=>[]
def bt(y:mC):List Nat:=y.b::(fC y.bv++(fC y.rv++y.vs.flatMap fC))
theorem iL{H H':PH}{v:Value}{ks:List CK}{l c:Nat}{rows:Nat->Nat->Value}(h:jW H v ks l c rows)(e:∀x∈fC v,H' x=H x):jW H' v ks l c rows:=by
 rcases h with h | ⟨b,lo,o,cs,rfl,h1,h2,h3,h4⟩
 ·exact .inl h
 ·exact .inr ⟨b,lo,o,cs,rfl,h1,by rw[e b (by simp[fC,eM]),h2],h3,h4⟩
theorem fA.frame{H H':PH}{v:Value}{l:List Int}(h:fA H v l)(e:∀x∈fC v,H' x=H x):fA H' v l:=by
 obtain⟨c,h⟩:=h;exact⟨c,iL h e⟩
theorem nZ.frame{H H':PH}{y:mC}{g:dx}(h:nZ H y g)(e:∀x∈bt y,H' x=H x):nZ H' y g:=by
 have e1:∀x∈fC y.bv,H' x=H x:=fun x hx=>e x (by simp[bt,hx]);have e2:∀x∈fC y.rv,H' x=H x:=fun x hx=>e x (by simp[bt,hx]);obtain⟨c,hr⟩:=h.aR;refine⟨by rw[e y.b (by simp[bt]),h.cell],h.A4,h.buf.frame e1,⟨c,iL hr e2⟩,h.len,fun i hi=>(h.body i hi).frame fun x hx=>e x ?_⟩;simp only[bt,List.mem_cons,List.mem_append,List.mem_flatMap];refine .inr (.inr (.inr ⟨_,?_,hx⟩));have:=h.len;rw[List.getD_eq_getElem?_getD,List.getElem?_eq_getElem (by omega)];exact List.getElem_mem _
theorem mD{H:PH}{v:Value}{ks:List CK}{l c:Nat}{rows:Nat->Nat->Value}(h:jW H v ks l c rows):∀x∈fC v,H x≠none:=by
 rcases h with⟨rfl,_⟩ | ⟨b,lo,o,cs,rfl,h1,h2,h3,h4⟩
 ·intro x hx;cases hx
 ·intro x hx;simp only[fC,eM,List.mem_singleton]at hx;rw[hx,h2];simp
theorem nZ.dom{H:PH}{y:mC}{g:dx}(h:nZ H y g):∀x∈bt y,H x≠none:=by
 intro x hx;simp only[bt,List.mem_cons,List.mem_append,List.mem_flatMap]at hx;rcases hx with rfl|hx|hx | ⟨v,hv,hx⟩
 ·rw[h.cell];simp
 ·obtain⟨c,hb⟩:=h.buf;exact mD hb x hx
 ·obtain⟨c,hr⟩:=h.aR;exact mD hr x hx
 ·obtain⟨i,hi,rfl⟩:=List.getElem_of_mem hv;have hl:=h.len;obtain⟨c,hb⟩:=h.body i (by omega);rw[List.getD_eq_getElem?_getD,List.getElem?_eq_getElem hi]at hb;exact mD hb x hx
theorem eU{H:PH}{v:Value}{ks:List CK}{l c:Nat}{rows:Nat->Nat->Value}(h:jW H v ks l c rows):di v=l/\jt v=c/\l<=c/\c<=aq/\FK v/\(∃a,v = .slice a l c)/\v.oneCell'=true:=by
 rcases h with⟨rfl,rfl,rfl⟩ | ⟨b,lo,o,cs,rfl,⟨h1,h1'⟩,h2,h3,h4⟩
 ·exact⟨rfl,rfl,Nat.le_refl _,Nat.zero_le _,.inl rfl,⟨_,rfl⟩,rfl⟩
 ·exact⟨rfl,rfl,h1,h1',.inr ⟨_,_,_,_,rfl,h1,h1'⟩,⟨_,rfl⟩,rfl⟩
theorem JC{H:PH}{v:Value}{ks:List CK}{l c:Nat}{rows:Nat->Nat->Value}(hk:1<=ks.length)(h:jW H v ks l c rows){sz a e m:Nat}(hs:sz=ks.length)(h1:a<=e)(h2:e<=l)(h2':e<=m)(h3:m<=c):jW H (mY sz v a e m) ks (e-a) (m-a) (fun i=>rows (a+i)):=by
 subst hs;rcases h with⟨rfl,rfl,rfl⟩ | ⟨b,lo,o,cs,rfl,⟨g1,g1'⟩,g2,g3,g4⟩
 ·exact .inl ⟨rfl,by omega,by omega⟩
 ·rw[yT];by_cases hm:m=a
  ·subst hm
   refine .inr ⟨b, lo, o, cs, by rw [if_pos rfl], ⟨by omega, by omega⟩, g2, by have : (m - m) * ks.length = 0 := by rw [Nat.sub_self, Nat.zero_mul]
                                                                               have:=Nat.le_add_right o (c*ks.length);omega,⟨fun i hi=>by omega⟩⟩
  ·rw[if_neg hm];have e1:(m-a)*ks.length+a*ks.length=m*ks.length:=by rw[<- Nat.add_mul,Nat.sub_add_cancel (by omega)]
   have e2:=Nat.mul_le_mul_right ks.length h3;refine .inr ⟨b,lo,o+a*ks.length,cs,by rw[Nat.add_assoc],⟨by omega,by omega⟩,g2,by omega,⟨fun i hi j k hj=>?_⟩⟩;have:=g4.at_ (a+i) (by omega) j k hj;rw[Nat.add_mul]at this;rwa[show o+a*ks.length+i*ks.length+j=o+(a*ks.length+i*ks.length)+j by omega]
theorem fA.len{H:PH}{v:Value}{l:List Int}(h:fA H v l):di v=l.length/\FK v/\l.length<=aq/\l.length<=jt v/\(∃a c,v = .slice a l.length c)/\v.oneCell'=true:=by
 obtain⟨c,h⟩:=h;obtain⟨h1,h2,h3,h4,h5,⟨a,h6⟩,h7⟩:=eU h;exact⟨h1,h5,by omega,by omega,⟨a,c,h6⟩,h7⟩
theorem fA.cut{H:PH}{v:Value}{l:List Int}(h:fA H v l){a e:Nat}(h1:a<=e)(h2:e<=l.length):jW H (mY 1 v a e (jt v)) [.int .u8] (e-a) (jt v-a) (fun i=>af cA l (a+i)):=by
 obtain⟨c,h⟩:=h;obtain⟨_,g2,g3,_⟩:=eU h;rw[g2];exact JC (Nat.le_refl _) h rfl h1 h2 (by omega) (Nat.le_refl _)
theorem kn{n:Nat}{f:Nat->Int}{rows:Nat->Nat->Value}(h:∀i,i<n->rows i 0 = .int .u8 (f i)):aj n 1 rows (bO f):=⟨fun i hi j hj=>by
 have:j=0:=by omega
 subst this;exact h i hi⟩
theorem qI{rows:Nat->Nat->Value}{k i:Nat}{v:Value}:jV rows k 0 [v] i 0=if i=k then v else rows i 0:=by
 rw[Bp];simp
def IP(v:Int)(len k:Nat):Int:=uw .u8 (v/2^(8*(len-1-k)))
def bZ(i:Nat):Nat:=48*i-6
def ko(i:Nat):Nat:=if i=0 then 42 else 48
def tH(n i:Nat):Nat:=min (ko i) (n-min (bZ i) n)
def qy(g:dx)(i:Nat)(run:Int)(j:Nat):Int :=
 if j<4 then 0 else if j<10 then IP (uw .u64 g.gen) 6 (j-4)else if j<14 then IP (uw .u64 run) 4 (j-10)else if j<15 then(i:Int)else if j<16 then(tH g.buf.length i:Int)
 else if i=0 then(if j<22 then IP (uw .u64 g.base) 6 (j-16)else if j-22<tH g.buf.length i then gl g.buf (j-22)else 0)
 else if j-16<tH g.buf.length i then gl g.buf (bZ i+(j-16))else 0
def vT(f:Nat->Int):Int:=dz .xor .u32 4294967295 (qF (fun k=>f (4+k)) 60)
def pI(g:dx)(i:Nat)(run:Int)(j:Nat):Int:=if j<4 then IP (vT (qy g i run)) 4 j else qy g i run j
theorem wT{f:Nat->Int}{r len:Nat}{v:Int}(h:len<=8):tQ (bO f) r len v len=bO fun i=>if r<=i/\i<r+len then IP v len (i-r)else f i:=by
 funext i j;simp only[tQ,bO];by_cases hi:r<=i/\i<r+len
 ·rw[if_pos (by omega),if_pos hi];simp only[IP];rw[show min (8*(r+len-1-i)) 64=8*(len-1-(i-r))by omega]
 ·rw[if_neg (by omega),if_neg hi]
structure SF where
 H:PH
 y:mC
 g:dx
 i:Nat
 run:Int
noncomputable def GB:cD where
 α:=SF
 β:=Unit
 m:=1
 m':=2
 pre:=fun a=>nZ a.H a.y a.g/\a.i<8/\a.g.buf.length<=378
 args:=fun a=>[.a (.val (pv a.y.b 0)),.a (.int .i64 a.i),.a (.int .i64 a.run)]
 hp:=fun _=>[]
 ro:=fun a=>[(0,.cu a.H)]
 post:=fun _ _=>True
 res:=fun _ _=>.a (.slc 1 0 1 64 64)
 cT:=fun a _=>[(1,.arr 5 [.int .u8] 64 (bO (pI a.g a.i a.run)))]
def kq(f:Value)(g:Nat)(h:Nat->Option (Nat×List Value))(i:Nat->List Value->Prop)(j:Nat->Nat->Nat->List Value->Prop):Nat->Prop:=fun(v:Nat)=>∃w:Nat,f=pv v w/\∃s t:Nat,pv v w=pv s t/\∃x y z:Nat,∃u:List Value,pv s (t+g)=pv x (y+z)/\h x=some (y,u)/\i z u/\j x y z u
def kr(u:Value)(v:Nat)(w:Nat->Option (Nat×List Value))(s:Value->Prop)(t:Nat->List Value->Prop):=Exists (kq u v (fun x=>w x) (fun x z=>(∃y:Value,z[x]? = some y/\s y)/\True) fun x z y f=>t y f)
def fD(y:Value):=∃z:Option Go.Addr,∃x u:Nat,y=Value.slice z x u/\x<=aq
def gO(x:Value):=aD x.oneCell'
def jj(y:Value):Int->Prop:=fun(x:Int)=>y=dO x/\ah x
def iw(z:Value)(u:Nat)(v:Nat->Option (Nat×List Value))(w:Nat->List Value->Prop):=kr z u (fun x=>v x) (fun x=>Exists (jj x)) fun x y=>ah (jD (aS y x))->w x y
def wU(y z u:Nat)(w:Int)(s:Nat)(t:Nat->Nat->Value)(f:l9->Prop):=∃x:l9,(y=x.r/\z=x.len/\u=x.cap)/\w=x.v/\aL x.n s 1 t x.rows/\(x.r+x.len<=x.n/\x.len<=8)/\aI (f x)
def GC(u:Prop)(y:l9)(z:Nat->Nat->Value)(v:l9->Prop):=ig u (cI 4 64) (∃x:y8,bW 1 (1=x.c)/\(4=x.r/\60=x.len/\60=x.cap)/\aL x.n y.n 1 z x.rows/\(x.r+x.len<=x.n/\x.len<100000)/\aI (wU 0 4 64 (uA x x.len) y.n z fun w=>v w))
def jG(u:PH)(v:Value)(w:CK)(s:List CK)(t:Nat->Nat->(Nat->Nat->Value)->Prop):Nat->Prop:=fun(x:Nat)=>∃y:Nat,∃z:Nat->Nat->Value,jW u v (w::s) x y z/\t x y z
def ga(y:Value)(z:Nat)(u:Nat->Option (Nat×List Value))(v:Nat->List Value->Prop):=kr y z (fun x=>u x) (fun x=>gO x) fun x w=>v x w
def sJ(x:List Value)(y z u:Nat):Value:=mY 1 (aS x y) z u (jt (aS x y))
def LF(x:SF)(w:l9)(j:Nat->Nat->Value)(k f:Nat):=ga (pv x.y.b 0) 3 (fun z=>x.H z) fun z v=>ga (pv x.y.b 0) 3 (fun u=>x.H u) fun u s=>fD (aS s u)/\oI (aa x.i*(48:Int)) 6 (FK (aS v z)/\cI (qS 0 (aa x.i*(48:Int)-6) (aa (di (aS s u)))) (aa (di (aS v z)))/\64<=w.n/\Exists (jG x.H (sJ v z (aX (qS 0 (aa x.i*(48:Int)-6) (aa (di (aS s u))))) (di (aS v z))) (CK.int .u8) [] fun h m l=>bg 15 64/\GC (15<w.n) w (jV (oE j k (min h f) l) 15 0 (nA (aa (min h f)))) fun t=>ay (bD 64 64/\bp (aL 64 t.n 1 (kU t t.len) (bO (pI x.g x.i x.run))))))
def sK:Nat->Nat->Value:=fun(y x:Nat)=>aS (bH (fk 0)) x
theorem LG:fnBody (Y Tryz.prog) [(196,Ch),(203,Sq)] 229 GB fun _=>[]:=fnBody.of (p :=
 ∀x:SF,nZ x.H x.y x.g/\x.i<8/\av x.g.buf<=378->lJ 64 64 (cI 10 64/\cI 4 10/\iw (pv x.y.b 0) 0 (fun u=>x.H u) fun u t=>wU 4 6 60 (cQ (jD (aS t u))) 64 sK fun v=>cI 14 64/\cI 10 14/\wU 10 4 54 (cQ x.run) v.n (kU v v.len) fun z=>bg 14 64/\14<z.n/\cI 16 64/\aO (aa x.i == (0:Int)) (cI 6 48/\iw (pv x.y.b 0) 1 (fun w=>x.H w) fun w f=>wU 16 6 48 (cQ (jD (aS f w))) z.n (jV (kU z z.len) 14 0 (nA (aa x.i))) fun s=>cI 6 48/\LF x s (kU s s.len) 22 42) (LF x z (jV (kU z z.len) 14 0 (nA (aa x.i))) 16 48))) (by kernel_rfl) (by
 delta aO aS av aL kr ah bW o7 aa kq cI bH fk bg aD dO aX ig bM fD aI bD gO iw LF GC jG lJ cQ ay ag wU uA kU ga sK nA bp qS oI jj uz sJ
 try dsimp -iota -proj only
 rintro⟨H,y,g,i,run⟩ ⟨hs,hi,hlen⟩;dsimp only at hs hi hlen ⊢;have hc:=hs.cell;obtain⟨r1,r2,r3⟩:=hs.A4;obtain⟨b1,b2,b3,b4,⟨ba,bc,b5⟩,b6⟩:=hs.buf.len;obtain⟨S,hS⟩:∃S,S=min (bZ i) g.buf.length:=⟨_,rfl⟩
 have hmm:(bif false then max (bif true then max 0 ((i:Int)*48-6)else min 0 ((i:Int)*48-6)) (g.buf.length:Int)else min (bif true then max 0 ((i:Int)*48-6)else min 0 ((i:Int)*48-6)) (g.buf.length:Int))=(S:Int):=by
  simp only[cond_true,cond_false,bZ]at *;omega
 have hcut:=hs.buf.cut (a:=S) (e:=g.buf.length) (by omega) (Nat.le_refl _)
 repeat refine kO ?_
 refine⟨_,_,rfl,?_⟩;refine⟨_,_,rfl,?_⟩;refine⟨_,0,_,_,rfl,hc,?_⟩;refine⟨⟨⟨_,rfl,_,rfl,r1⟩,trivial⟩,fun _=>⟨⟨4,6,60,uw .u64 g.gen,64,bO fun _=>0⟩,?_⟩⟩
 and_intros<;>first|exact cV|rfl|exact kn fun _ _=>rfl|skip
 intro _ _;obtain⟨F1,hF1⟩:∃F:Nat->Int,F=fun k=>if 4<=k/\k<4+6 then IP (uw .u64 g.gen) 6 (k-4)else 0:=⟨_,rfl⟩
 obtain⟨F2,hF2⟩:∃F:Nat->Int,F=fun k=>if 10<=k/\k<10+4 then IP (uw .u64 run) 4 (k-10)else F1 k:=⟨_,rfl⟩
 rw[show tQ (bO fun _=>0) 4 6 (uw .u64 g.gen) 6=bO F1 by rw[wT (by omega),hF1]]
 repeat refine kO ?_
 refine⟨⟨10,4,54,uw .u64 run,64,bO F1⟩,?_⟩
 and_intros<;>first|exact cV|rfl|skip
 intro _ _;rw[show tQ (bO F1) 10 4 (uw .u64 run) 4=bO F2 by rw[wT (by omega),hF2]];have hi8:uw .u8 (i:Int)=i:=by simp only[uw];omega
 have hsec:∀(F:Nat->Int),(∀k,k<64->F k=qy g i run k)->∀k,k<64->(if 0<=k/\k<0+4 then IP (dz .xor .u32 4294967295 (qF (fun i_1=>u8 (bO (qy g i run)) (4+i_1)) 60)) 4 (k-0)else qy g i run k)=pI g i run k:=by
  intro F hF k hk;simp only[pI,vT,Nat.zero_add,Nat.sub_zero,Nat.zero_le,true_and];rfl
 repeat refine kO ?_
 rw[hi8];refine⟨fun c1=>?_,fun c1=>?_⟩
 ·have hi0:i=0:=by simpa using c1
  subst hi0;obtain⟨F3,hF3⟩:∃F:Nat->Int,F=fun k=>if k=14 then 0 else F2 k:=⟨_,rfl⟩
  obtain⟨F4,hF4⟩:∃F:Nat->Int,F=fun k=>if 16<=k/\k<16+6 then IP (uw .u64 g.base) 6 (k-16)else F3 k:=⟨_,rfl⟩
  repeat refine kO ?_
  refine⟨_,_,rfl,?_⟩;refine⟨_,_,rfl,?_⟩;refine⟨_,0,_,_,rfl,hc,?_⟩;refine⟨⟨⟨_,rfl,_,rfl,r2⟩,trivial⟩,fun _=>⟨⟨16,6,48,uw .u64 g.base,64,bO F3⟩,?_⟩⟩
  and_intros<;>first|exact cV|rfl|exact kn (fun k hk=>by rw[qI,hF3];simp only[bO];split<;>rfl)|skip
  intro _ _;rw[show tQ (bO F3) 16 6 (uw .u64 g.base) 6=bO F4 by rw[wT (by omega),hF4]]
  repeat refine kO ?_
  refine⟨_,_,rfl,?_⟩;refine⟨_,_,rfl,?_⟩;refine⟨_,0,_,_,rfl,hc,?_⟩;refine⟨⟨⟨_,rfl,b6⟩,trivial⟩,?_⟩;refine⟨_,_,rfl,?_⟩;refine⟨_,_,rfl,?_⟩;refine⟨_,0,_,_,rfl,hc,?_⟩;refine⟨⟨⟨_,rfl,b6⟩,trivial⟩,⟨ba,_,bc,b5,b3⟩,?_⟩;simp only[cU,List.getD_cons_succ,List.getD_cons_zero,b1,hmm,Int.toNat_natCast]
  repeat refine kO ?_
  refine⟨_,_,_,hcut,?_⟩
  repeat refine kO ?_
  obtain⟨U,hU⟩:∃U,U=tH g.buf.length 0:=⟨_,rfl⟩
  have hU2:min (g.buf.length-S) 42=U:=by rw[hU,hS];simp only[tH,ko,bZ,if_true];omega
  have hUs:(uw .u8 ((min (g.buf.length-S) 42:Nat):Int))=(U:Int):=by rw[hU2];simp only[uw];omega
  have hS0:S=0:=by rw[hS];simp[bZ]
  have hfin:aj 64 1 (jV (oE (bO F4) 22 (min (g.buf.length-S) 42) fun i=>af cA g.buf (S+i)) 15 0 [Value.int .u8 (uw .u8 ((min (g.buf.length-S) 42:Nat):Int))]) (bO (qy g 0 run)):=by
   rw[hUs,hU2,hS0];refine kn fun k hk=>?_;rw[qI];simp only[oE,bO,af,cA,List.getD_cons_zero,Nat.zero_add,hF4,hF3,hF2,hF1,qy,<- hU,if_true]
   (repeat' split)<;>first|rfl|(exfalso;omega)|skip
  refine⟨y8.mk 1 4 60 60 64 (bO (qy g 0 run)),?_⟩
  and_intros<;>first|exact cV|exact hfin|skip
  intro _ _;refine⟨l9.mk 0 4 64 (dz .xor .u32 4294967295 (qF (fun i_1=>u8 (bO (qy g 0 run)) (4+i_1)) 60)) 64 (bO (qy g 0 run)),?_⟩
  and_intros<;>first|exact cV|exact hfin|skip
  intro _ _;refine⟨(),?_⟩;have hlast:aj 64 1 (tQ (bO (qy g 0 run)) 0 4 (dz .xor .u32 4294967295 (qF (fun i_1=>u8 (bO (qy g 0 run)) (4+i_1)) 60)) 4) (bO (pI g 0 run)):=by
   rw[wT (by omega)];exact kn fun k hk=>by simp only[bO];rw[hsec _ (fun _ _=>rfl) k hk]
  and_intros<;>first|exact cV|exact hlast|skip
 ·have hi0:i≠0:=by simpa using c1
  repeat refine kO ?_
  refine⟨_,_,rfl,?_⟩;refine⟨_,_,rfl,?_⟩;refine⟨_,0,_,_,rfl,hc,?_⟩;refine⟨⟨⟨_,rfl,b6⟩,trivial⟩,?_⟩;refine⟨_,_,rfl,?_⟩;refine⟨_,_,rfl,?_⟩;refine⟨_,0,_,_,rfl,hc,?_⟩;refine⟨⟨⟨_,rfl,b6⟩,trivial⟩,⟨ba,_,bc,b5,b3⟩,?_⟩;simp only[cU,List.getD_cons_succ,List.getD_cons_zero,b1,hmm,Int.toNat_natCast]
  repeat refine kO ?_
  refine⟨_,_,_,hcut,?_⟩
  repeat refine kO ?_
  obtain⟨U,hU⟩:∃U,U=tH g.buf.length i:=⟨_,rfl⟩
  have hU2:min (g.buf.length-S) 48=U:=by rw[hU,hS];simp only[tH,ko,if_neg hi0];omega
  have hUs:(uw .u8 ((min (g.buf.length-S) 48:Nat):Int))=(U:Int):=by rw[hU2];simp only[uw];omega
  have hfin:aj 64 1 (jV (oE (jV (bO F2) 14 0 [Value.int .u8 (i:Int)]) 16 (min (g.buf.length-S) 48) fun i=>af cA g.buf (S+i)) 15 0 [Value.int .u8 (uw .u8 ((min (g.buf.length-S) 48:Nat):Int))]) (bO (qy g i run)):=by
   have hSU:0<U->S=bZ i:=by rw[hU,hS];simp only[tH];omega
   rw[hUs,hU2];refine kn fun k hk=>?_;rw[qI];simp only[oE,bO,af,cA,List.getD_cons_zero,qI,hF2,hF1,qy,<- hU,if_neg hi0]
   (repeat' split)<;>first|rfl|(exfalso;omega)|(rw[hSU (by omega)];done)|skip
  refine⟨y8.mk 1 4 60 60 64 (bO (qy g i run)),?_⟩
  and_intros<;>first|exact cV|exact hfin|skip
  intro _ _;refine⟨l9.mk 0 4 64 (dz .xor .u32 4294967295 (qF (fun i_1=>u8 (bO (qy g i run)) (4+i_1)) 60)) 64 (bO (qy g i run)),?_⟩
  and_intros<;>first|exact cV|exact hfin|skip
  intro _ _;refine⟨(),?_⟩;have hlast:aj 64 1 (tQ (bO (qy g i run)) 0 4 (dz .xor .u32 4294967295 (qF (fun i_1=>u8 (bO (qy g i run)) (4+i_1)) 60)) 4) (bO (pI g i run)):=by
   rw[wT (by omega)];exact kn fun k hk=>by simp only[bO];rw[hsec _ (fun _ _=>rfl) k hk]
  and_intros<;>first|exact cV|exact hlast|skip)
theorem LI:ak (Y Tryz.prog).G.X 229 GB:=aV fK LG ⟨Bm,Gh,trivial⟩
structure bP where
 from_:Nat
 au:Nat
 l:List dx
 next:Int
 run:Int
 fresh:Bool
 deriving Inhabited
structure gP where
 lv:Value
 ys:List mC
def Z6(t:Nat)(L:bP)(lv:Value):List A:=[.ptr t 0 0 0,.int .i64 L.from_,.int .i64 L.au,.val lv,.int .i64 L.next,.int .i64 L.run,.bool L.fresh]
@[reducible] def qW(a b:bP)(v w:Value)(p:Prop):Prop:=(↑a.from_:Int)=(↑b.from_:Int)/\(↑a.au:Int)=(↑b.au:Int)/\v=w/\a.next=b.next/\a.run=b.run/\a.fresh=b.fresh/\p
def fo(t:Nat)(L:bP)(lv:Value):Chunk:=.obj 254 (Z6 t L lv)
def jN(L:bP)(g:dx)(i:Nat):Nat:=L.from_+(g.gen-1).toNat%L.au*8+i
structure sL where
 H:PH
 y:mC
 g:dx
 i:Nat
 L:bP
 lv:Value
 d:bw
noncomputable def GD:cD where
 α:=sL
 β:=Unit
 m:=4
 m':=4
 pre:=fun a=>nZ a.H a.y a.g/\a.i<8/\a.g.buf.length<=378/\1<=a.g.gen/\3<=a.L.au/\a.L.au<=200/\a.L.from_+a.L.au*8<=a.d.n/\a.d.n<100000/\a.d.calls<1000000000000
 args:=fun a=>[.a (.ptr 0 0 0 0),.a (.val (pv a.y.b 0)),.a (.int .i64 a.i)]
 hp:=fun a=>gA 1 2 a.d
 ro:=fun a=>[(0,fo 1 a.L a.lv),(3,.cu a.H)]
 post:=fun _ _=>True
 res:=fun _ _=>.a (.lit .i64 0)
 cT:=fun a _=>gA 1 2 (gi a.d (jN a.L a.g a.i) 64 (pI a.g a.i a.L.run))
def wV(x:Ls)(y:bw)(z:Nat)(u:Nat->Nat->Value)(v:Prop):=(0=x.r/\64=x.len/\64=x.cap)/\iR y x.d (aL x.n z 1 u (bO x.src)/\uC x/\aI v)
def zk(x:sL):=nZ x.H x.y x.g/\x.i<8/\av x.g.buf<=378/\(1:Int)<=x.g.gen/\3<=x.L.au/\x.L.au<=200/\x.L.from_+x.L.au*8<=x.d.n/\ki x.d
def bq(x y:Nat):=aa x=aa y
def zl(x:sL):bw:=gi x.d (jN x.L x.g x.i) 64 (pI x.g x.i x.L.run)
def ku(x y:Nat):=pv x 0=pv y 0
def GF(x:bP)(y:Int)(z:Nat)(u:Prop):=ah (aa x.from_)->ah (y*(8:Int))/\nB (aa x.from_+y*(8:Int)) (aa z) u
theorem Py:fnBody (Y Tryz.prog) [(229,GB),(81,pN)] 198 GD fun _=>[]:=fnBody.of (p :=
 ∀x:sL,zk x->iw (pv x.y.b 0) 0 (fun u=>x.H u) fun u v=>ah (jD (aS v u)-(1:Int))/\(ah (aa x.L.au)->aa x.L.au≠(0:Int)/\GF x.L ((jD (aS v u)-(1:Int)).tmod (aa x.L.au)) x.i (ah x.L.run->∃z:SF,ku x.y.b z.y.b/\bq x.i z.i/\x.L.run=z.run/\x.H=z.H/\(nZ z.H z.y z.g/\z.i<8/\av z.g.buf<=378)/\aI (∃w:Ls,ag (aa x.L.from_+(jD (aS v u)-(1:Int)).tmod (aa x.L.au)*(8:Int)+aa x.i=aa w.i/\wV w x.d 64 (bO (pI z.g z.i z.run)) (ay (aW (iR (lK w) (zl x) (True/\True))))))))) (by kernel_rfl) (by
 delta aS av aL kr ah aG aa kq dO aI iw ki lK wV ay zk aW ag nB uC bq zl ku GF jj
 try dsimp -iota -proj only
 rintro⟨H,y,g,i,L,lv,d⟩ ⟨hs,hi,hlen,hg,s1,s2,h3,h4,h5⟩;dsimp only at *;have hc:=hs.cell;obtain⟨r1,r2,r3⟩:=hs.A4;have hm:(g.gen-1).tmod (L.au:Int)=(((g.gen-1).toNat%L.au:Nat):Int):=by
  rw[Int.tmod_eq_emod_of_nonneg (by omega),Int.natCast_emod];congr 1;omega
 have hml:(g.gen-1).toNat%L.au<L.au:=Nat.mod_lt _ (by omega);have hsn:((L.from_:Int)+(((g.gen-1).toNat%L.au:Nat):Int)*8+i)=(jN L g i:Nat):=by simp only[jN];omega
 have hlt:jN L g i<d.n:=by simp only[jN];omega
 refine⟨_,_,rfl,?_⟩;refine⟨_,_,rfl,?_⟩;refine⟨_,0,_,_,rfl,hc,?_⟩;refine⟨⟨⟨_,rfl,_,rfl,r1⟩,trivial⟩,fun _=>?_⟩;simp only[cU,List.getD_cons_zero,jD,hm];refine⟨by simp only[bL]at *;omega,fun _=>⟨by omega,fun _=>⟨by simp only[bL];omega,by simp only[bL];omega,by simp only[bL];omega,fun _=>?_⟩⟩⟩;rw[hsn];refine⟨SF.mk H y g i L.run,?_⟩
 and_intros<;>first|exact cV|skip
 intro _ _;refine⟨Ls.mk d (jN L g i) 0 64 64 64 (pI g i L.run),?_⟩;simp only[Nat.zero_add]
 (repeat' (first|apply And.intro|(intro _)|apply Exists.intro ()))<;>first|exact cV|skip)
theorem EL:ak (Y Tryz.prog).G.X 198 GD:=aV fK Py ⟨LI,pH,trivial⟩
instance:Inhabited mC:=⟨⟨0,undef,undef,[]⟩⟩
def zm(ys:List mC):Nat->Nat->Value:=fun i _=>pv (gl ys i).b 0
structure bT(H:PH)(y:gP)(L:bP):Prop where
 IQ:∃c,jW H y.lv [.deep] L.l.length c (zm y.ys)
 len:y.ys.length=L.l.length
 seg:∀i,i<L.l.length->nZ H (gl y.ys i) (gl L.l i)
 nd:(fC y.lv++y.ys.flatMap bt).Nodup
def br(y:gP):List Nat:=fC y.lv++y.ys.flatMap bt
theorem bT.at_{H:PH}{y:gP}{L:bP}(h:bT H y L){i:Nat}(hi:i<L.l.length):∃b lo o c cs,y.lv=eM b (lo+o) L.l.length c/\H b=some (lo,cs)/\cs[o+i*1]? = some (pv (gl y.ys i).b 0)/\cs.getD (o+i*1) (Value.tuple #[])=pv (gl y.ys i).b 0:=by
 obtain⟨c,h⟩:=h.IQ;rcases h with⟨_,h0,_⟩ | ⟨b,lo,o,cs,h1,h2,h3,h4,h5⟩
 ·omega
 ·have:=(h5.at_ i hi 0 .deep rfl).1;exact⟨b,lo,o,c,cs,h1,h3,this,by rw[List.getD_eq_getElem?_getD,show cs[o+i*1]? = some (pv (gl y.ys i).b 0)from this];rfl⟩
theorem bT.qX{H:PH}{y:gP}{L:bP}(h:bT H y L):di y.lv=L.l.length/\FK y.lv/\(∃a c,y.lv = .slice a L.l.length c)/\L.l.length<=aq/\y.lv.oneCell'=true:=by
 obtain⟨c,h⟩:=h.IQ;obtain⟨h1,h2,h3,h4,h5,⟨a,h6⟩,h7⟩:=eU h;exact⟨h1,h5,⟨a,c,h6⟩,by omega,h7⟩
def bl(L:bP):dx:=⟨(match L.l.getLast? with|some g=>g.gen+1|none=>1),L.next,0,[],[]⟩
theorem kz{H:PH}{v:Value}{x:Nat}(h:x∉fC v):aJ H v x=H x:=by
 unfold aJ;split
 ·rename_i b o p l c;exact yS (fun e=>h (by simp[fC,e]))
 ·rfl
theorem vF{ys:List mC}{i x:Nat}(hi:i<ys.length)(hx:x∈bt (gl ys i)):x∈ys.flatMap bt:=by
 rw[bR hi]at hx;exact List.mem_flatMap.2 ⟨_,List.getElem_mem _,hx⟩
theorem SG{ys:List mC}{x:Nat}(hx:x∈ys.flatMap bt):∃i,i<ys.length/\x∈bt (gl ys i):=by
 obtain⟨y,hy,hx⟩:=List.mem_flatMap.1 hx;obtain⟨i,hi,rfl⟩:=List.getElem_of_mem hy;exact⟨i,hi,by rw[bR hi];exact hx⟩
theorem bT.dom{H:PH}{y:gP}{L:bP}(h:bT H y L):∀x∈br y,H x≠none:=by
 intro x hx;rcases List.mem_append.1 hx with hx|hx
 ·obtain⟨c,hl⟩:=h.IQ;exact mD hl x hx
 ·obtain⟨i,hi,hx⟩:=SG hx;exact(h.seg i (by rw[<- h.len];exact hi)).dom x hx
theorem bT.frame{H H':PH}{y:gP}{L:bP}(h:bT H y L)(e:∀x∈br y,H' x=H x):bT H' y L:=by
 obtain⟨c,hl⟩:=h.IQ;refine⟨⟨c,iL hl fun x hx=>e x (List.mem_append_left _ hx)⟩,h.len,fun i hi=>(h.seg i hi).frame fun x hx=>e x (List.mem_append_right _ (vF (by rw[h.len];exact hi) hx)),h.nd⟩
theorem kA{α:Type}[Inhabited α]{l:List α}{x:α}{i:Nat}(h:i<l.length+1):gl (l++[x]) i=if i<l.length then gl l i else x:=by
 by_cases hi:i<l.length
 ·rw[if_pos hi,bN hi]
 ·rw[if_neg hi,show i=l.length+0 by omega,bf];rfl
def newL(b:Nat):mC:=⟨b,.slice none 0 0,.slice none 0 0,[]⟩
theorem EM{H:PH}{b:Nat}{L:bP}(h1:bL .i64 L.next)(h2:bL .i64 (bl L).gen):nZ (aM H b 0 (cU (bl L) (.slice none 0 0) (.slice none 0 0))) (newL b) (bl L) :=
 ⟨dF ..,⟨h2,h1,by show bL .i64 0;simp only[bL];omega⟩,⟨0,.inl ⟨rfl,rfl,rfl⟩⟩,⟨0,.inl ⟨rfl,rfl,rfl⟩⟩,rfl,fun i hi=>absurd hi (Nat.not_lt_zero i)⟩
structure fM(H:PH)(y:mC)(g:dx):Prop where
 at_:nZ H y g
 nd:(bt y).Nodup
theorem GG{H:PH}{y:gP}{L:bP}{sl:mC}{g:dx}{b' lo cap:Nat}{cs:List Value}{R:Nat->Nat->Value}(hl:bT H y L)(hs:fM H sl g)(hd:∀x∈br y,x∉bt sl)
 (hb':aJ H y.lv b'=none) (hcs:cs.length=cap*1) (hc:L.l.length+1<=cap) (hc2:cap<=aq) (hp:Au cs 0 [.deep] (L.l.length+1) R)
 (hR:∀i,i<L.l.length+1->R i 0=zm (y.ys++[sl]) i 0) {L':bP} (hL':L'.l=L.l++[g]) :
 bT (aM (aJ H y.lv) b' lo cs) ⟨eM b' lo (L.l.length+1) cap,y.ys++[sl]⟩ L' /\
 ∀x,H x≠none->x∉br y->x∉bt sl->aM (aJ H y.lv) b' lo cs x=H x/\x∉br ⟨eM b' lo (L.l.length+1) cap,y.ys++[sl]⟩:=by
 have hdm:=hl.dom;have hds:=hs.at_.dom;have hnd:=hl.nd;rw[List.nodup_append]at hnd;obtain⟨n1,n2,n3⟩:=hnd;have hFl:∀x∈y.ys.flatMap bt,x∉fC y.lv:=fun x hx e=>n3 x e x hx rfl;have hSl:∀x∈bt sl,x∉fC y.lv:=fun x hx e=>hd x (List.mem_append_left _ e) hx;have hSF:∀x∈bt sl,x∉y.ys.flatMap bt:=fun x hx e=>hd x (List.mem_append_right _ e) hx;have hm:∀x,x∉fC y.lv->aJ H y.lv x=H x:=fun x hx=>kz hx;have hbF:b'∉y.ys.flatMap bt:=fun e=>by
  have:=hdm b' (List.mem_append_right _ e);rw[hm b' (hFl b' e)]at hb';exact this hb'
 have hbS:b'∉bt sl:=fun e=>by
  have:=hds b' e;rw[hm b' (hSl b' e)]at hb';exact this hb'
 have hfp:br ⟨eM b' lo (L.l.length+1) cap,y.ys++[sl]⟩=b'::(y.ys.flatMap bt++bt sl):=by
  simp[br,fC,eM]
 have hlen:L'.l.length=L.l.length+1:=by rw[hL'];simp
 refine⟨⟨⟨cap,.inr ⟨b',lo,0,cs,?_,⟨?_,hc2⟩,dF ..,by simp[hcs],?_⟩⟩,?_,?_,?_⟩,?_⟩
 ·rw[hlen];simp only[Nat.add_zero]
 ·rw[hlen];exact hc
 ·rw[hlen];refine⟨fun i hi j k hj=>?_⟩;have:=hp.at_ i hi j k hj;have hj0:j=0:=by have:=(List.getElem?_eq_some_iff.1 hj).1;simpa using this
  subst hj0;rw[hR i hi]at this;exact this
 ·rw[hlen];simp[hl.len]
 ·intro i hi;rw[hlen]at hi;rw[hL',kA hi];show nZ _ (gl (y.ys++[sl]) i) _;rw[kA (by rw[hl.len];exact hi),hl.len];by_cases hin:i<L.l.length
  ·rw[if_pos hin,if_pos hin];refine(hl.seg i hin).frame fun x hx=>?_;have hxF:=vF (by rw[hl.len];exact hin) hx;rw[cC (fun e=>hbF (by rw[<- e];exact hxF)),hm x (hFl x hxF)]
  ·rw[if_neg hin,if_neg hin];refine hs.at_.frame fun x hx=>?_;rw[cC (fun e=>hbS (by rw[<- e];exact hx)),hm x (hSl x hx)]
 ·show(br ⟨eM b' lo (L.l.length+1) cap,y.ys++[sl]⟩).Nodup;rw[hfp,List.nodup_cons,List.nodup_append];refine⟨?_,n2,hs.nd,?_⟩
  ·simp only[List.mem_append,not_or];exact⟨hbF,hbS⟩
  ·intro x hx z hz e;subst e;exact hSF x hz hx
 ·intro x hx hxn hxs;have hxl:x∉fC y.lv:=fun e=>hxn (List.mem_append_left _ e);have hxF:x∉y.ys.flatMap bt:=fun e=>hxn (List.mem_append_right _ e);have hxb':x≠b':=fun e=>by
   rw[<- e,hm x hxl]at hb';exact hx hb'
  refine⟨by rw[cC hxb',hm x hxl],?_⟩;rw[hfp];simp only[List.mem_cons,List.mem_append,not_or];exact⟨hxb',hxF,hxs⟩
theorem bT.congr{H:PH}{y:gP}{L L':bP}(h:bT H y L)(e:L'.l=L.l):bT H y L':=⟨by rw[e];exact h.IQ,by rw[e];exact h.len,by rw[e];exact h.seg,h.nd⟩
structure mE where
 H:PH
 y:gP
def jO(t s:Int)(g:dx):Bool:=decide (t-s<g.gen)
structure uI where
 H:PH
 y:gP
 L:bP
 gb:Nat
 t:Int
structure sM(a:uI):Prop where
 log:bT a.H a.y a.L
 ye:a.L.l.length<1000
 au:a.L.au<=200
 t:bL .i64 a.t/\0<=a.t
 cell:∃r,a.H a.gb=some (0,.int .i64 a.t::r)
 far:a.gb∉br a.y
noncomputable def SH:cD where
 α:=uI
 β:=Int
 m:=5
 m':=5
 pre:=fun a=>sM a
 args:=fun a=>[.a (.val a.y.lv),.Bd 228 [.ptr 0 0 0 0,.ptr 1 0 0 0]]
 hp:=fun _=>[]
 ro:=fun a=>[(0,.obj 289 [.val (pv a.gb 0)]),(1,.obj 202 [.ptr 2 0 0 0]),(2,fo 4 a.L a.y.lv),(3,.cu a.H)]
 post:=fun a r=>(r = -1/\∀i,i<a.L.l.length->jO a.t a.L.au (gl a.L.l i)=true)\/∃i:Nat,r=i/\i<a.L.l.length/\jO a.t a.L.au (gl a.L.l i)=false/\∀j,j<i->jO a.t a.L.au (gl a.L.l j)=true
 res:=fun _ r=>.a (.int .i64 r)
 cT:=fun _ _=>[]
def YZ(a:uI):An:=.flat 2 Nat (fun s k=>s.int 8 k) (fun _ k=>k<=a.L.l.length/\∀j,j<k->jO a.t a.L.au (gl a.L.l j)=true) (fun _ k=>a.L.l.length-k)
def mF(w s t:Nat)(f:Nat->Option (Nat×List Value))(g:Value->Prop)(h i:Nat->List Value->Prop):Nat->Prop:=fun(z:Nat)=>∃u x:Nat,∃y:List Value,pv w (s+t)=pv z (u+x)/\f z=some (u,y)/\((∃v:Value,y[x]? = some v/\g v)/\h x y)/\i x y
def dP(y x:Nat)(z:Prop)(u:Nat):=(y<=x/\z)/\x-y<x-u
def cM(x:Value):=x=x
def iM(u:Value)(v:Int)(w:Nat->Nat->Prop):=∃x y:Nat,∃z s:Nat,u=eM x y z s/\bg v (aa z)/\w x y
def qh(y:Nat)(u:Value)(v:Nat)(w:Nat->Option (Nat×List Value))(s:Value->Prop)(t f:Nat->List Value->Prop)(g:Prop):=aA (aa y) (aa (di u)) (iM u (aa y) fun h i=>Exists (mF h i (az y*v) (fun x=>w x) (fun x=>s x) (fun x z=>t x z) fun x z=>f x z)) g
def bz(x:bP):Nat:=x.l.length
def fq(x:bP)(y:gP)(z:Prop):=qW x x y.lv y.lv z
def wW(z:Nat)(x:uI):=∀y:Nat,y<z->aD (jO x.t (aa x.L.au) (gl x.L.l y))
def Ct(z:Int)(x:uI):=z=(-1:Int)/\wW (bz x.L) x\/∃y:Nat,z=aa y/\y<bz x.L/\jO x.t (aa x.L.au) (gl x.L.l y)=false/\wW y x
def ax(x:Prop):=bW 0 x
def sN(x y:Int)(z u:Prop):=ah x/\aO (cR y x) z u
def GH(y:gP)(u:Nat)(f g:Nat->Prop)(h i j:Nat->Option (Nat×List Value))(s:Int)(k:Nat->Prop)(l:Nat->Nat->Prop)(m:Prop):=fD y.lv/\(∃x:Nat,aC x (cz (aa (di y.lv)) 0 (cM y.lv) (ax (cM (pv u 0)/\f x))))/\∀x:Nat,g x->qh x y.lv 1 (fun z=>h z) (fun z=>gO z) (fun z t=>True) (fun z t=>iw (aS t z) 0 (fun v=>i v) fun v n=>iw (pv u 0) 0 (fun w=>j w) fun w o=>ah s->sN (jD (aS o w)-s) (jD (aS n v)) (k x) (bY x fun p=>cz (aa (di y.lv)) 0 (cM y.lv) (ax (cM (pv u 0)/\l x p)))) m
theorem SI:fnBody (Y Tryz.prog) [] 234 SH fun a=>[(234,[YZ a],[])]:=fnBody.of (p :=
 ∀x:uI,sM x->GH x.y x.gb (fun z=>ax (fq x.L x.y (x.H=x.H/\(z<=bz x.L/\wW z x)/\True))) (fun z=>z<=bz x.L/\wW z x) (fun z=>x.H z) (fun z=>x.H z) (fun z=>x.H z) (aa x.L.au) (fun z=>∃u:Int,aa z=u/\Ct u x/\True) (fun z u=>ax (fq x.L x.y (x.H=x.H/\dP u (bz x.L) (wW u x) z))) (∃z:Int,(-1:Int)=z/\Ct z x/\True)) (by kernel_rfl) (by
 delta aO aS cz kr ah bW az aQ aY aa kq mF dP bg aD dO aX cM fD qh bz gO iw fq bY Ct iM aC cR ag aA wW GH aP ax sN jj
 try dsimp -iota -proj only
 rintro⟨H,y,L,gb,T⟩ ⟨hl,h1,h2,⟨h3,h4⟩,⟨gr,hgb⟩,h5⟩;dsimp only at *;obtain⟨e1,_,⟨ea,ec,e2⟩,e3,_⟩:=hl.qX;refine⟨⟨ea,_,ec,e2,e3⟩,⟨0,?_⟩,fun k hk=>⟨fun c1=>?_,fun c1=>⟨-1,?_⟩⟩⟩
 ·(repeat' (first|apply And.intro|(intro _)))<;>first|exact cV|(exfalso;omega)
 ·obtain⟨hk0,hkk⟩:=hk;rw[e1]at c1;have hk:k<L.l.length:=by simpa using c1
  obtain⟨b,lo,o,c,cs,g1,g2,g3,g4⟩:=hl.at_ hk;have hs:=hl.seg k hk;obtain⟨r1,_,_⟩:=hs.A4;refine⟨_,_,_,_,g1,by omega,b,lo,o+k*1,cs,by rw[Int.toNat_natCast,Nat.add_assoc],g2,⟨⟨_,g3,rfl⟩,trivial⟩,?_⟩;refine⟨_,_,g4,?_⟩;refine⟨_,_,rfl,?_⟩;refine⟨_,0,_,_,rfl,hs.cell,?_⟩;refine⟨⟨⟨_,rfl,_,rfl,r1⟩,trivial⟩,fun _=>?_⟩;refine⟨_,_,rfl,?_⟩;refine⟨_,_,rfl,?_⟩;refine⟨_,0,_,_,rfl,hgb,?_⟩;refine⟨⟨⟨_,rfl,_,rfl,h3⟩,trivial⟩,fun _ _=>?_⟩;simp only[cU,List.getD_cons_zero,jD,bL]at h3 ⊢;refine⟨by omega,fun c2=>⟨k,?_⟩,fun c2=>⟨by omega,k+1,?_⟩⟩
  ·have c2:=of_decide_eq_true c2;refine⟨rfl,.inr ⟨k,rfl,hk,?_,hkk⟩,trivial⟩;simp only[jO,decide_eq_false_iff_not];omega
  ·have c2:=of_decide_eq_false c2;have hn:∀j,j<k+1->jO T L.au (gl L.l j)=true:=fun j hj=>by
    by_cases e:j=k
    ·subst e;simp only[jO,decide_eq_true_eq];omega
    ·exact hkk j (by omega)
   and_intros<;>first|exact cV|exact hn
 ·obtain⟨hk0,hkk⟩:=hk;have hk:k=L.l.length:=by rw[e1]at c1;have:=of_decide_eq_false c1;omega
  subst hk;exact⟨rfl,.inl ⟨rfl,hkk⟩,trivial⟩)
theorem SJ:ak (Y Tryz.prog).G.X 234 SH:=aV fK SI trivial
def stay(t s:Int)(l:List dx)(j:Nat):List Nat:=(List.range j).filter fun i=>jO t s (gl l i)
theorem Ge{α β:Type}[Inhabited α][Inhabited β]{l:List α}{f:α->β}{i:Nat}(h:i<l.length):gl (l.map f) i=f (gl l i):=by
 rw[bR (by simpa using h),bR h,List.getElem_map]
theorem SK{α:Type}[Inhabited α](l:List α):(List.range l.length).map (gl l)=l:=by
 refine List.ext_getElem (by simp) fun i h1 h2=>?_;rw[List.getElem_map,List.getElem_range,bR h2]
theorem SL(t s:Int)(l:List dx):(stay t s l l.length).map (gl l)=l.filter (jO t s):=by
 have:l.filter (jO t s)=((List.range l.length).map (gl l)).filter (jO t s):=by rw[SK]
 rw[this,List.filter_map];rfl
theorem EN(t s:Int)(l:List dx)(j:Nat):stay t s l (j+1)=stay t s l j++if jO t s (gl l j)then[j]else[]:=by
 unfold stay;rw[List.range_succ,List.filter_append];congr 1;cases h:jO t s (gl l j)<;>simp[h]
theorem VX{t s:Int}{l:List dx}{j i:Nat}(h:i<(stay t s l j).length):gl (stay t s l j) i<j:=by
 have:gl (stay t s l j) i∈stay t s l j:=by rw[bR h];exact List.getElem_mem _
 exact List.mem_range.1 (List.mem_filter.1 this).1
theorem A8{α β:Type}{f:α->List β}{l m:List α}(h:l.Sublist m):(l.flatMap f).Sublist (m.flatMap f):=by
 induction h with
 |slnil=>exact List.Sublist.refl _
 |cons a _ ih=>exact ih.trans (by rw[List.flatMap_cons];exact List.sublist_append_right _ _)
 |cons_cons a _ ih=>rw[List.flatMap_cons,List.flatMap_cons];exact(List.Sublist.refl _).append ih
def uJ(t:Int)(L:bP):bP:={ L with l:=L.l.filter (jO t L.au) }
structure Pz where
 j:Nat
 rows:Nat->Nat->Value
noncomputable def SM:cD where
 α:=uI
 β:=mE
 m:=5
 m':=6
 pre:=fun a=>sM a
 args:=fun a=>[.a (.val a.y.lv),.Bd 228 [.ptr 0 0 0 0,.ptr 1 0 0 0]]
 hp:=fun a=>[(3,.cu a.H)]
 ro:=fun a=>[(0,.obj 289 [.val (pv a.gb 0)]),(1,.obj 202 [.ptr 2 0 0 0]),(2,fo 4 a.L a.y.lv)]
 post:=fun a b=>bT b.H b.y (uJ a.t a.L)/\∀x,a.H x≠none->x∉br a.y->b.H x=a.H x/\x∉br b.y
 res:=fun _ b=>.a (.val b.y.lv)
 cT:=fun _ b=>[(5,.cu b.H)]
structure LJ(a:uI)(x:Pz):Prop where
 le:x.j<=a.L.l.length
 lt:(stay a.t a.L.au a.L.l x.j).length<x.j
 one:∀i,i<a.L.l.length->(x.rows i 0).oneCell'=true
 low:∀i,i<(stay a.t a.L.au a.L.l x.j).length->x.rows i 0=pv (gl a.y.ys (gl (stay a.t a.L.au a.L.l x.j) i)).b 0
 high:∀i,x.j<=i->i<a.L.l.length->x.rows i 0=zm a.y.ys i 0
def Y0(a:uI):An:=.flat 5 Pz (fun s x=>((s.at_ (s.tg 0) (.arr 289 [.deep] a.L.l.length x.rows)).int 5 (stay a.t a.L.au a.L.l x.j).length).int 6 x.j) (fun _ x=>LJ a x) (fun _ x=>a.L.l.length-x.j)
def Y3(a:uI):An:=.SE 4 0 289 [.deep] (.mk 1000 [Y0 a] [An.N4 0 4 (.mk 1000 [] [])])
def mG(x:uI)(y:Pz):Nat:=(stay x.t (aa x.L.au) x.L.l y.j).length
def wX(x:Option (Nat×List Value))(z:gP)(y:Nat)(u:Option (Nat×List Value))(v:gP):=x≠none->¬y∈br z->u=x/\¬y∈br v
def GI(u v:Int)(x:uI)(w s:Nat)(t:Int)(f:Nat)(g:Nat->Nat->Value)(h:Pz->Prop):=∃z:Pz,u=aa z.j/\v=aa (mG x z)/\bD w s/\bB (t == (-1:Int))/\ax (aL (bz x.L) f 1 g z.rows/\aJ x.H x.y.lv=aJ x.H x.y.lv/\cM (pv x.gb 0)/\ax (fq x.L x.y (LJ x z/\h z)))
def qi(x:mE)(u:bP)(v:Nat->Option (Nat×List Value))(w:gP):=bT x.H x.y u/\∀z:Nat,wX (v z) w z (x.H z) x.y
def iN(x:CK):List CK:=[x]
def zn(x y u:Nat)(v:List Value)(w:Nat->Value):Nat->Value:=fun(z:Nat)=>if 0+az x<=y/\y<0+az x+(u-az x)then aS v z else w z
def lP(x y:Nat):=cI (aa x) (aa y)
def Cu:Value:=Value.pointer none
theorem SN:fnBody (Y Tryz.prog) [(234,SH)] 208 SM fun a=>[(208,[],[Y3 a])]:=fnBody.of (p :=
 ∀x:uI,sM x->∃f:uI,x.y.lv=f.y.lv/\ax (ku x.gb f.gb/\ax (qW x.L f.L x.y.lv f.y.lv (x.H=f.H/\sM f/\∀w:Int,Ct w f->aO (w == (-1:Int)) (∃u:mE,x.y.lv=u.y.lv/\x.H=u.H/\qi u (uJ x.t x.L) (fun v=>x.H v) x.y/\True) (Exists (jG x.H x.y.lv CK.deep [] fun u v m=>ah (w+(1:Int))/\(GI (w+(1:Int)) w x u v w u m fun z=>True)/\∀z:Pz,LJ x z->mq (aa z.j) u (0+az z.j<bz x.L/\iw (z.rows (0+az z.j) 0) 0 (fun g=>aJ x.H x.y.lv g) fun g k=>iw (pv x.gb 0) 0 (fun s=>aJ x.H x.y.lv s) fun s l=>ah (aa x.L.au)->ah (jD (aS l s)-aa x.L.au)/\aO (bx (cR (jD (aS k g)) (jD (aS l s)-aa x.L.au))) (bg (aa (mG x z)) (aa u)/\0+az (mG x z)<bz x.L/\aP (mG x z) (aP z.j (GI (aY z.j) (aY (mG x z)) x u v w (bz x.L) (jV z.rows (0+az (mG x z)) 0 (bH (z.rows (0+az z.j) 0))) fun h=>bz x.L-h.j<bz x.L-z.j))) (aP z.j (GI (aY z.j) (aa (mG x z)) x u v w (bz x.L) z.rows fun h=>bz x.L-h.j<bz x.L-z.j))) (lP (mG x z) u/\lP (mG x z) v/\(v-0≠0/\0+(az (mG x z)-0)<=bz x.L)/\∀(g k:Nat) (s:List Value),aJ x.H x.y.lv g=none->s.length=(v-0)*1->(Au s 0 (iN CK.deep) (az (mG x z)-0) fun h=>zn (mG x z) (0+h) u (bH Cu) fun i=>z.rows (0+h) i) ->
 ∃i:mE,eM g k (az (mG x z)-0) (v-0)=i.y.lv/\aM (aJ x.H x.y.lv) g k s=i.H/\qi i (uJ x.t x.L) (fun n=>x.H n) x.y/\True))))))) (by kernel_rfl) (by
 delta aO aS aL kr ah bW az bB aQ aY aa kq cI bH bg aD dO aX bM cM bD bz iw fq mG Ct wX jG cR GI ag aA mq wW qi aP iN zn ax ku bx lP jj Cu
 try dsimp -iota -proj only
 rintro⟨H,y,L,gb,T⟩ hp;obtain⟨hl,h1,h2,⟨h3,h4⟩,⟨gr,hgb⟩,h5⟩:=hp;dsimp only at *;have hp:sM ⟨H,y,L,gb,T⟩:=⟨hl,h1,h2,⟨h3,h4⟩,⟨gr,hgb⟩,h5⟩
 obtain⟨e1,_,⟨ea,ec,e2⟩,e3,_⟩:=hl.qX;have hmap:=SL T L.au L.l;refine⟨⟨H,y,L,gb,T⟩,rfl,rfl,rfl,rfl,rfl,rfl,rfl,rfl,rfl,rfl,rfl,rfl,rfl,hp,fun r hr=>?_⟩;dsimp only at hr ⊢;refine⟨fun c=>⟨⟨H,y⟩,rfl,rfl,⟨hl.congr ?_,fun x _ hn=>⟨rfl,hn⟩⟩,trivial⟩,fun c=>?_⟩
 ·rcases hr with⟨_,hr⟩ | ⟨i,rfl,_⟩
  ·show L.l.filter (jO T L.au)=L.l;rw[List.filter_eq_self];intro g hg;obtain⟨i,hi,rfl⟩:=List.getElem_of_mem hg;rw[<- bR hi];exact hr i hi
  ·exfalso;simp at c
 ·obtain⟨r0,rfl,hr1,hr2,hr3⟩:∃i:Nat,r=i/\i<L.l.length/\jO T L.au (gl L.l i)=false/\∀j,j<i->jO T L.au (gl L.l j)=true:=by
   rcases hr with⟨rfl,_⟩|h
   ·cases c
   ·exact h
  obtain⟨cl,hlst⟩:=hl.IQ;obtain⟨u1,u2,u3,u4,_⟩:=eU hlst;have hst0:stay T L.au L.l (r0+1)=List.range r0:=by
   rw[EN,hr2];simp only[Bool.false_eq_true,if_false,List.append_nil];unfold stay;rw[List.filter_eq_self];exact fun i hi=>hr3 i (List.mem_range.1 hi)
  have hnd:=hl.nd;rw[List.nodup_append]at hnd;obtain⟨n1,n2,n3⟩:=hnd;have hFl:∀x∈y.ys.flatMap bt,x∉fC y.lv:=fun x hx e=>n3 x e x hx rfl;have hm:∀x,x∉fC y.lv->aJ H y.lv x=H x:=fun x hx=>kz hx;have hgb2:aJ H y.lv gb=some (0,.int .i64 T::gr):=by rw[hm gb (fun e=>h5 (List.mem_append_left _ e))];exact hgb
  have hseg:∀i,i<L.l.length->nZ (aJ H y.lv) (gl y.ys i) (gl L.l i):=fun i hi=>(hl.seg i hi).frame fun x hx=>hm x (hFl x (vF (by rw[hl.len];exact hi) hx));refine⟨L.l.length,cl,zm y.ys,hlst,by simp only[bL];omega,⟨⟨r0+1,zm y.ys⟩,?_⟩,fun x hx=>?_⟩
  ·have h0:LJ ⟨H,y,L,gb,T⟩ ⟨r0+1,zm y.ys⟩:=⟨hr1,by rw[hst0];simp,fun i _=>rfl,fun i hi=>by
    dsimp only at hi ⊢;rw[hst0]at hi ⊢;have hi':i<r0:=by simpa using hi
    rw[show gl (List.range r0) i=i by rw[bR hi];simp];rfl,fun i _ _=>rfl⟩
   rw[hst0]
   and_intros<;>first|exact cV|exact h0|(simp;done)|skip
  ·obtain⟨j,rows⟩:=x;have hx':LJ ⟨H,y,L,gb,T⟩ ⟨j,rows⟩:=hx;obtain⟨x1,x2,x3,x4,x5⟩:=hx;dsimp only at x1 x2 x3 x4 x5 ⊢;obtain⟨k,hk⟩:∃k,k=(stay T L.au L.l j).length:=⟨_,rfl⟩
   rw[<- hk]at x2 x4 ⊢;simp only[Nat.zero_add,Int.toNat_natCast];refine⟨fun c1=>?_,fun c1=>?_⟩
   ·have hj:j<L.l.length:=by have:=of_decide_eq_true c1;omega
    have hs:=hseg j hj;obtain⟨r1,_,_⟩:=hs.A4;have hrow:rows j 0=pv (gl y.ys j).b 0:=x5 j (Nat.le_refl _) hj;have hsu:=EN T L.au L.l j;refine⟨⟨by omega,by omega⟩,by omega,_,_,hrow,?_⟩;refine⟨_,_,rfl,?_⟩;refine⟨_,0,_,_,rfl,hs.cell,?_⟩;refine⟨⟨⟨_,rfl,_,rfl,r1⟩,trivial⟩,fun _=>?_⟩;refine⟨_,_,rfl,?_⟩;refine⟨_,_,rfl,?_⟩;refine⟨_,0,_,_,rfl,hgb2,?_⟩;refine⟨⟨⟨_,rfl,_,rfl,h3⟩,trivial⟩,fun _ _=>?_⟩;simp only[cU,List.getD_cons_zero,jD,bL]at h3 ⊢;refine⟨by omega,fun c2=>?_,fun c2=>?_⟩
    ·have hkeep:jO T L.au (gl L.l j)=true:=by
      have:¬(gl L.l j).gen<=T-L.au:=by simpa using c2
      simp only[jO,decide_eq_true_eq];omega
     rw[hkeep,if_pos rfl]at hsu;have hlen:(stay T L.au L.l (j+1)).length=k+1:=by rw[hsu,hk];simp
     have hN:LJ ⟨H,y,L,gb,T⟩ ⟨j+1,jV rows k 0 [rows j 0]⟩:=⟨hj,by dsimp only;rw[hlen];omega,fun i hi=>by
      dsimp only;rw[qI];split
      ·exact x3 j hj
      ·exact x3 i hi,fun i hi=>by
      dsimp only at hi ⊢;rw[hlen]at hi;rw[qI,hsu];by_cases e:i=k
      ·rw[if_pos e,hrow,e,hk,show(stay T L.au L.l j).length=(stay T L.au L.l j).length+0 from rfl,bf];rfl
      ·rw[if_neg e,bN (by omega)];exact x4 i (by omega),fun i hi hi2=>by
      dsimp only at hi ⊢;rw[qI,if_neg (by omega)];exact x5 i (by omega) hi2⟩
     refine⟨⟨by omega,by omega⟩,by omega,by omega,by omega,⟨j+1,jV rows k 0 [rows j 0]⟩,?_⟩;dsimp only;rw[hlen]
     and_intros<;>first|exact cV|exact hN|exact aj.refl _ _ _|skip
    ·have hkeep:jO T L.au (gl L.l j)=false:=by
      have:(gl L.l j).gen<=T-L.au:=by simpa using c2
      simp only[jO,decide_eq_false_iff_not];omega
     rw[hkeep]at hsu;simp only[Bool.false_eq_true,if_false,List.append_nil]at hsu;have hN:LJ ⟨H,y,L,gb,T⟩ ⟨j+1,rows⟩:=⟨hj,by dsimp only;rw[hsu,<- hk];omega,x3,by dsimp only;rw[hsu,<- hk];exact x4,fun i hi hi2=>x5 i (by dsimp only at hi;omega) hi2⟩
     refine⟨by omega,⟨j+1,rows⟩,?_⟩;dsimp only;rw[hsu,<- hk]
     and_intros<;>first|exact cV|exact hN|exact aj.refl _ _ _|skip
   ·have hj:j=L.l.length:=by have:=of_decide_eq_false c1;omega
    subst hj;have hkn:k<=L.l.length:=by omega
    refine⟨⟨by omega,by omega⟩,by omega,by omega,?_⟩;simp only[Nat.sub_zero];intro b lo cs hb hcs hpr;have hlen:((stay T L.au L.l L.l.length).map (gl y.ys)).length=k:=by rw[List.length_map,hk]
    have hL:(uJ T L).l=(stay T L.au L.l L.l.length).map (gl L.l):=hmap.symm;have hll:(uJ T L).l.length=k:=by rw[hL,List.length_map,hk]
    have hsubl:((stay T L.au L.l L.l.length).map (gl y.ys)).Sublist y.ys:=by
     have e:((List.range L.l.length).map (gl y.ys))=y.ys:=by rw[<- hl.len,SK]
     have h:=List.Sublist.map (gl y.ys) (show(stay T L.au L.l L.l.length).Sublist (List.range L.l.length)from List.filter_sublist);rw[e]at h;exact h
    have hsub:=A8 (f:=bt) hsubl;have hbF:b∉y.ys.flatMap bt:=fun e=>by
     have:=hl.dom b (List.mem_append_right _ e);rw[hm b (hFl b e)]at hb;exact this hb
    have hat:bT (aM (aJ H y.lv) b lo cs) ⟨eM b lo k cl,(stay T L.au L.l L.l.length).map (gl y.ys)⟩ (uJ T L):=by
     refine⟨⟨cl,.inr ⟨b,lo,0,cs,by rw[hll,Nat.add_zero],⟨by rw[hll];omega,u4⟩,dF ..,by rw[hcs];simp,⟨fun i hi q ck hq=>?_⟩⟩⟩,by rw[hll];exact hlen,fun i hi=>?_,?_⟩
     ·rw[hll]at hi;have hq0:q=0:=by have:=(List.getElem?_eq_some_iff.1 hq).1;simpa using this
      subst hq0;have:=hpr.at_ i hi 0 ck hq;rw[if_neg (by omega)]at this;have e:rows i 0=zm ((stay T L.au L.l L.l.length).map (gl y.ys)) i 0:=by
       rw[x4 i hi];show _=pv (gl ((stay T L.au L.l L.l.length).map (gl y.ys)) i).b 0;rw[Ge (by rw[<- hk];exact hi)]
      rw[<- e];exact this
     ·rw[hll]at hi;rw[hL];show nZ _ (gl ((stay T L.au L.l L.l.length).map (gl y.ys)) i) _;rw[Ge (by rw[<- hk];exact hi),Ge (by rw[<- hk];exact hi)];have hi2:=VX (t:=T) (s:=L.au) (l:=L.l) (j:=L.l.length) (i:=i) (by rw[<- hk];exact hi);exact(hseg _ hi2).frame fun x hx=>cC fun e=>hbF (by rw[<- e];exact vF (by rw[hl.len];exact hi2) hx)
     ·show(fC (eM b lo k cl)++((stay T L.au L.l L.l.length).map (gl y.ys)).flatMap bt).Nodup;simp only[fC,eM,List.cons_append,List.nil_append,List.nodup_cons];exact⟨fun e=>hbF (hsub.subset e),n2.sublist hsub⟩
    refine⟨⟨aM (aJ H y.lv) b lo cs,⟨eM b lo k cl,(stay T L.au L.l L.l.length).map (gl y.ys)⟩⟩,rfl,rfl,⟨hat,fun x hx hn=>?_⟩,trivial⟩;have hxl:x∉fC y.lv:=fun e=>hn (List.mem_append_left _ e);have hxF:x∉y.ys.flatMap bt:=fun e=>hn (List.mem_append_right _ e);have hxb:x≠b:=fun e=>by rw[<- e,hm x hxl]at hb;exact hx hb
    refine⟨(cC hxb).trans (hm x hxl),?_⟩;simp only[br,fC,eM,List.cons_append,List.nil_append,List.mem_cons,not_or];exact⟨hxb,fun e=>hxF (hsub.subset e)⟩)
theorem SO:ak (Y Tryz.prog).G.X 208 SM:=aV fK SN ⟨SJ,trivial⟩
def tI(L:bP):List dx:=L.l.filter (jO (bl L).gen L.au)
def ja(L:bP):bP:={ L with l:=tI L++[bl L] }
def sO(L:bP)(d:bw):bw:=gj (gi d (jN L (bl L) 0) 64 (pI (bl L) 0 L.run))
structure JD where
 H:PH
 y:gP
 L:bP
 d:bw
noncomputable def LK:cD where
 α:=JD
 β:=mE
 m:=4
 m':=5
 pre:=fun a=>bT a.H a.y a.L/\a.L.l.length<900/\3<=a.L.au/\a.L.au<=200/\a.L.from_+a.L.au*8<=a.d.n/\a.d.n<100000/\a.d.calls<999999999999/\bL .i64 a.L.next /\
  (bl a.L).gen<1000000000000/\1<=(bl a.L).gen
 args:=fun _=>[.a (.ptr 0 0 0 0)]
 hp:=fun a=>[(0,fo 1 a.L a.y.lv)]++gA 1 2 a.d++[(3,.cu a.H)]
 ro:=fun _=>[]
 post:=fun a b=>bT b.H b.y (ja a.L)/\∀x,a.H x≠none->x∉br a.y->b.H x=a.H x/\x∉br b.y
 res:=fun _ _=>.a (.lit .i64 0)
 cT:=fun a b=>[(0,fo 1 (ja a.L) b.y.lv)]++gA 1 2 (sO a.L a.d)++[(4,.cu b.H)]
def XB:An:=.VW 5 3 0 (.mk 1000 [] [])
def gd:Value:=Value.slice none 0 0
def GJ(u:PH)(v s:Value)(t:Nat->Nat->Nat->Nat->List Value->Prop):Nat->Prop:=jG u v CK.deep [] fun x f g=>gu x 8 f fun y=>(y≠0/\0+(x+1)<=x+1)/\∀(w h:Nat) (z:List Value),aJ u v w=none->z.length=y*1->(Au z 0 (iN CK.deep) (x+1) fun i j=>aZ g 0 x (jF 1 (bH s)) (0+i) j)->t x y w h z
def kC(y:bw)(z:bw->Prop):=∃x:bw,ag (iR y x (ki x/\aI (z x)))
def Cv(x:PH)(y:Nat)(z u:Int):PH:=aM x y 0 (bu z (bu u (bu 0 (bM gd (bH gd)))))
def SP(x:JD)(f:Int):=ah x.L.next->∀v:Nat,x.H v=none->∃u:sL,ag (ku v u.y.b/\aC u.i (iR x.d u.d (ag (qW x.L u.L x.y.lv u.lv (Cv x.H v f x.L.next=u.H/\zk u/\aI (∃z:uI,x.y.lv=z.y.lv/\ax (Cv x.H v f x.L.next=z.H/\ku v z.gb/\ax (qW x.L z.L x.y.lv z.y.lv (sM z/\∀w:mE,qi w (uJ z.t z.L) (fun j=>z.H j) z.y->Exists (GJ w.H w.y.lv (Value.pointer (some { block:=v,off:=0 })) fun k l g h m=>kC (zl u) fun n=>∃s:mE,aW (aM (aJ w.H w.y.lv) g h m=s.H/\ag (qW x.L (ja x.L) (eM g h (k+1) l) s.y.lv (iR (gj n) (sO x.L x.d) (qi s (ja x.L) (fun o=>x.H o) x.y/\True))))))))))))))
def wY(y:gP)(u:Nat->Option (Nat×List Value))(v:Nat->List Value->Prop):=ah (aa (di y.lv)-(1:Int))/\iM y.lv (aa (di y.lv)-(1:Int)) fun w s=>Exists (mF w s (aX (aa (di y.lv)-(1:Int))*1) (fun x=>u x) (fun x=>gO x) (fun x z=>True) fun x z=>v x z)
def iy(y x:Nat)(z:Prop):=y<=x/\x<100000/\z
def GK(x:JD):=bT x.H x.y x.L/\bz x.L<900/\3<=x.L.au/\x.L.au<=200/\iy (x.L.from_+x.L.au*8) x.d.n (x.d.calls<999999999999/\ah x.L.next/\(bl x.L).gen<(1000000000000:Int)/\(1:Int)<=(bl x.L).gen)
def wZ(x:Value)(y z:Prop):=fD x/\aA 0 (aa (di x)) y z
theorem PA:fnBody (Y Tryz.prog) [(198,GD),(208,SM),(169,jB)] 195 LK fun _=>[(195,[],[XB])]:=fnBody.of (p :=
 ∀x:JD,GK x->ah x.L.next->wZ x.y.lv (wY x.y (fun u=>x.H u) fun u w=>iw (aS w u) 0 (fun z=>x.H z) fun z v=>ah (jD (aS v z)+(1:Int))/\(ah (jD (aS v z)+(1:Int))->SP x (jD (aS v z)+(1:Int)))) (SP x 1)) (by kernel_rfl) (by
 delta aO aS av kr ah bu bW aG gF aQ aa kq mF bH bg aD dO aX bM SP fD aI bz gO gu iw gd wY ki wX jG iM aC zk aW ag aA GK qi GJ kC iN ax zl ku iy jj jF wZ Cv
 try dsimp -iota -proj only
 rintro⟨H,y,L,d⟩ ⟨hl,h1,h2,h3,h4,h5,h6,h8,h9,h10⟩;dsimp only at *;obtain⟨e1,_,⟨ea,ec,e2⟩,e3,_⟩:=hl.qX;have hgR:bL .i64 (bl L).gen:=by simp only[bL];omega
 refine fun _=>⟨⟨ea,_,ec,e2,e3⟩,fun c1=>?_,fun c1=>?_⟩
 ·rw[e1]at c1;have hn:0<L.l.length:=by simpa using c1
  have hk:L.l.length-1<L.l.length:=by omega
  obtain⟨b,lo,o,c,cs,g1,g2,g3,g4⟩:=hl.at_ hk;have hs:=hl.seg _ hk;obtain⟨r1,_,_⟩:=hs.A4;have hng:(bl L).gen=(gl L.l (L.l.length-1)).gen+1:=by
   have:L.l.getLast? = some (gl L.l (L.l.length-1)):=by rw[bR hk,List.getLast?_eq_getElem?,List.getElem?_eq_getElem hk]
   simp only[bl,this]
  simp only[e1];have e5:((L.l.length:Int)-1).toNat=L.l.length-1:=by omega
  refine⟨by simp only[bL];omega,_,_,_,_,g1,by omega,b,lo,o+(L.l.length-1)*1,cs,by rw[e5,Nat.add_assoc],g2,⟨⟨_,g3,rfl⟩,trivial⟩,?_⟩;refine⟨_,_,g4,?_⟩;refine⟨_,_,rfl,?_⟩;refine⟨_,0,_,_,rfl,hs.cell,?_⟩;refine⟨⟨⟨_,rfl,_,rfl,r1⟩,trivial⟩,fun _=>?_⟩;simp only[cU,List.getD_cons_zero,jD,<- hng];refine⟨hgR,fun _ _=>?_⟩;show ∀b,_;intro b hb;have hsg:=EM (H:=H) (b:=b) h8 hgR;have hl1:bT (aM H b 0 (cU (bl L) (.slice none 0 0) (.slice none 0 0))) y L:=hl.frame fun x hx=>cC fun e=>hl.dom x hx (by rw[e];exact hb);refine⟨sL.mk (aM H b 0 (cU (bl L) (.slice none 0 0) (.slice none 0 0))) (newL b) (bl L) 0 L y.lv d,?_⟩
  and_intros<;>first|exact cV|exact hsg|(simp only[bl,List.length_nil];omega)|rfl|skip
  intro _ _;have hbm:∀x,H x≠none->x≠b:=fun x hx e=>hx (by rw[e];exact hb);have hbl:b∉br y:=fun e=>hl.dom b e hb;have hdp:sM ⟨aM H b 0 (cU (bl L) (.slice none 0 0) (.slice none 0 0)),y,L,b,(bl L).gen⟩:=⟨hl1,by show L.l.length<1000;omega,h3,⟨hgR,by show 0<=(bl L).gen;omega⟩,⟨_,dF ..⟩,hbl⟩
  refine⟨uI.mk (aM H b 0 (cU (bl L) (.slice none 0 0) (.slice none 0 0))) y L b (bl L).gen,?_⟩
  and_intros<;>first|exact cV|exact hdp|rfl|skip
  rintro⟨H2,y2⟩ ⟨d1,d2⟩;dsimp only at d1 d2 ⊢;obtain⟨q1,q2⟩:=d2 b (by rw[dF];simp) hbl
  have hs2 : fM H2 (newL b) (bl L) := ⟨hsg.frame fun x hx => (by have : x = b := by simpa [newL, bt, fC] using hx
                                                                 subst this;exact q1),by simp[newL,bt,fC]⟩
  have hd2:∀x∈br y2,x∉bt (newL b):=fun x hx e=>by
   have:x=b:=by simpa[newL,bt,fC]using e
   subst this;exact q2 hx
  have hkl:(uJ (bl L).gen L).l.length<=L.l.length:=List.length_filter_le _ _;obtain⟨c0,hsl⟩:=d1.IQ;refine⟨_,c0,_,hsl,?_⟩
  repeat refine kO ?_
  intro cap hc1 hc2 hc3
  repeat refine kO ?_
  intro b' lo cs' hb' hcs hp;have hba:=GG (lo:=lo) (L':=ja L) d1 hs2 hd2 hb' hcs hc1 hc2 hp (by
   intro i hi;simp only[Nat.zero_add,aZ,zm];rw[kA (by rw[d1.len];exact hi),d1.len];by_cases hin:i<(uJ (bl L).gen L).l.length
   ·rw[if_pos hin,if_pos hin]
   ·rw[if_neg hin,if_neg hin,show i-(uJ (bl L).gen L).l.length=0 by omega];rfl) rfl
  have hfr:∀x,H x≠none->x∉br y->aM (aJ H2 y2.lv) b' lo cs' x=H x/\x∉br ⟨eM b' lo ((uJ (bl L).gen L).l.length+1) cap,y2.ys++[newL b]⟩:=fun x hx hn=>by
   have hxb:=hbm x hx;have e0:aM H b 0 (cU (bl L) (.slice none 0 0) (.slice none 0 0)) x=H x:=cC hxb;obtain⟨w1,w2⟩:=d2 x (by rw[e0];exact hx) hn;obtain⟨w3,w4⟩:=hba.2 x (by rw[w1,e0];exact hx) w2 (by simpa[newL,bt,fC]using hxb);exact⟨w3.trans (w1.trans e0),w4⟩
  refine⟨gi d (jN L (bl L) 0) 64 (pI (bl L) 0 L.run),?_⟩
  and_intros<;>first|exact cV|(simp only[gi];omega)|skip
  intro _ _;refine⟨⟨aM (aJ H2 y2.lv) b' lo cs',⟨eM b' lo ((uJ (bl L).gen L).l.length+1) cap,y2.ys++[newL b]⟩⟩,?_⟩
  and_intros<;>first|exact cV|exact hba.1|exact hfr|exact Nat.le_refl _|exact aj.refl _ _ _|rfl
 ·rw[e1]at c1;have hn:L.l.length=0:=by have:=of_decide_eq_false c1;omega
  have hng:(bl L).gen=1:=by
   have:L.l=[]:=List.eq_nil_of_length_eq_zero hn;simp only[bl,this];rfl
  rw[<- hng];intro _;intro b hb;have hsg:=EM (H:=H) (b:=b) h8 hgR;have hl1:bT (aM H b 0 (cU (bl L) (.slice none 0 0) (.slice none 0 0))) y L:=hl.frame fun x hx=>cC fun e=>hl.dom x hx (by rw[e];exact hb);refine⟨sL.mk (aM H b 0 (cU (bl L) (.slice none 0 0) (.slice none 0 0))) (newL b) (bl L) 0 L y.lv d,?_⟩
  and_intros<;>first|exact cV|exact hsg|(simp only[bl,List.length_nil];omega)|rfl|skip
  intro _ _;have hbm:∀x,H x≠none->x≠b:=fun x hx e=>hx (by rw[e];exact hb);have hbl:b∉br y:=fun e=>hl.dom b e hb;have hdp:sM ⟨aM H b 0 (cU (bl L) (.slice none 0 0) (.slice none 0 0)),y,L,b,(bl L).gen⟩:=⟨hl1,by show L.l.length<1000;omega,h3,⟨hgR,by show 0<=(bl L).gen;omega⟩,⟨_,dF ..⟩,hbl⟩
  refine⟨uI.mk (aM H b 0 (cU (bl L) (.slice none 0 0) (.slice none 0 0))) y L b (bl L).gen,?_⟩
  and_intros<;>first|exact cV|exact hdp|rfl|skip
  rintro⟨H2,y2⟩ ⟨d1,d2⟩;dsimp only at d1 d2 ⊢;obtain⟨q1,q2⟩:=d2 b (by rw[dF];simp) hbl
  have hs2 : fM H2 (newL b) (bl L) := ⟨hsg.frame fun x hx => (by have : x = b := by simpa [newL, bt, fC] using hx
                                                                 subst this;exact q1),by simp[newL,bt,fC]⟩
  have hd2:∀x∈br y2,x∉bt (newL b):=fun x hx e=>by
   have:x=b:=by simpa[newL,bt,fC]using e
   subst this;exact q2 hx
  have hkl:(uJ (bl L).gen L).l.length<=L.l.length:=List.length_filter_le _ _;obtain⟨c0,hsl⟩:=d1.IQ;refine⟨_,c0,_,hsl,?_⟩
  repeat refine kO ?_
  intro cap hc1 hc2 hc3
  repeat refine kO ?_
  intro b' lo cs' hb' hcs hp;have hba:=GG (lo:=lo) (L':=ja L) d1 hs2 hd2 hb' hcs hc1 hc2 hp (by
   intro i hi;simp only[Nat.zero_add,aZ,zm];rw[kA (by rw[d1.len];exact hi),d1.len];by_cases hin:i<(uJ (bl L).gen L).l.length
   ·rw[if_pos hin,if_pos hin]
   ·rw[if_neg hin,if_neg hin,show i-(uJ (bl L).gen L).l.length=0 by omega];rfl) rfl
  have hfr:∀x,H x≠none->x∉br y->aM (aJ H2 y2.lv) b' lo cs' x=H x/\x∉br ⟨eM b' lo ((uJ (bl L).gen L).l.length+1) cap,y2.ys++[newL b]⟩:=fun x hx hn=>by
   have hxb:=hbm x hx;have e0:aM H b 0 (cU (bl L) (.slice none 0 0) (.slice none 0 0)) x=H x:=cC hxb;obtain⟨w1,w2⟩:=d2 x (by rw[e0];exact hx) hn;obtain⟨w3,w4⟩:=hba.2 x (by rw[w1,e0];exact hx) w2 (by simpa[newL,bt,fC]using hxb);exact⟨w3.trans (w1.trans e0),w4⟩
  refine⟨gi d (jN L (bl L) 0) 64 (pI (bl L) 0 L.run),?_⟩
  and_intros<;>first|exact cV|(simp only[gi];omega)|skip
  intro _ _;refine⟨⟨aM (aJ H2 y2.lv) b' lo cs',⟨eM b' lo ((uJ (bl L).gen L).l.length+1) cap,y2.ys++[newL b]⟩⟩,?_⟩
  and_intros<;>first|exact cV|exact hba.1|exact hfr|exact Nat.le_refl _|exact aj.refl _ _ _|rfl)
theorem PB:ak (Y Tryz.prog).G.X 195 LK:=aV fK PA ⟨EL,SO,iF,trivial⟩
def jP(L:bP):dx:=gl L.l (L.l.length-1)
def qJ(L:bP)(n:Nat):Bool:=decide (L.l.length=0)||decide (370<(jP L).buf.length+n)
def dw(L:bP)(n:Nat):bP:=if qJ L n then ja L else L
def kD(L:bP)(d:bw)(n:Nat):bw:=if qJ L n then sO L d else d
def JE(n:Nat)(next:Int):List Int:=[uw .u8 (uw .u64 (n:Int)/256),uw .u8 (uw .u64 (n:Int)/1),uw .u8 (uw .u64 next/1099511627776),uw .u8 (uw .u64 next/4294967296),uw .u8 (uw .u64 next/16777216),uw .u8 (uw .u64 next/65536),uw .u8 (uw .u64 next/256),uw .u8 (uw .u64 next/1)]
def qY(g:dx)(next:Int)(body:List Int):List Int:=g.buf++JE body.length next++body
def JF(g:dx)(next:Int)(body:List Int):dx:={ g with buf:=qY g next body }
def LL(g:dx)(next:Int)(body:List Int):dx:={ g with buf:=qY g next body,aR:=g.aR++[⟨next,body⟩] }
def tJ(was now i:Nat):Bool:=decide (was<bZ (i+1))&&decide (bZ i<now)
def de(L:bP)(g:dx)(was:Nat)(d:bw):Nat->bw
 |0=>d
 |i+1=>if tJ was g.buf.length i then gi (de L g was d i) (jN L g i) 64 (pI g i L.run)else de L g was d i
def N5(L:bP)(g:dx):bP:={ L with l:=L.l.set (L.l.length-1) g }
def JG(L:bP)(body:List Int):bP:={ N5 L (LL (jP L) L.next body)with next:=L.next+1,fresh:=false }
def qK(L:bP)(d:bw)(body:List Int):bw:=de L (JF (jP L) L.next body) (jP L).buf.length d 8
def lQ(L:bP)(body:List Int):bP:=JG (dw L body.length) body
def n9(L:bP)(d:bw)(body:List Int):bw:=if(dw L body.length).fresh then gj (qK (dw L body.length) (kD L d body.length) body)else qK (dw L body.length) (kD L d body.length) body
def Step(H:PH)(v:Value)(H':PH)(v':Value):Prop:=∀x,H x≠none->x∉fC v->H' x=H x/\x∉fC v'
theorem Step.trans{H H' H'':PH}{v v' v'':Value}(h:Step H v H' v')(k:Step H' v' H'' v''):Step H v H'' v'':=fun x hx hv=>by
 obtain⟨h1,h2⟩:=h x hx hv;obtain⟨k1,k2⟩:=k x (by rw[h1];exact hx) h2;exact⟨k1.trans h1,k2⟩
theorem rQ{H:PH}{v:Value}{b lo l c:Nat}{cs:List Value}(h:aJ H v b=none):Step H v (aM (aJ H v) b lo cs) (eM b lo l c):=fun x hx hv=>by
 have hxb:x≠b:=fun e=>by rw[<- e,kz hv]at h;exact hx h
 exact⟨by rw[cC hxb,kz hv],by simp[fC,eM,hxb]⟩
theorem JH{H:PH}{b lo l c:Nat}{cs:List Value}(h:H b=none):Step H (.slice none 0 0) (aM H b lo cs) (eM b lo l c):=rQ (H:=H) (v:=.slice none 0 0) h
theorem mH{H:PH}{b lo l c:Nat}{ks:List CK}{cs:List Value}{rows rows':Nat->Nat->Value}(hl:cs.length=c*ks.length)(h1:l<=c)(h2:c<=aq)(hp:Au cs 0 ks l rows)(he:∀i,i<l->∀j,j<ks.length->rows i j=rows' i j):jW (aM H b lo cs) (eM b lo l c) ks l c rows' :=
 .inr ⟨b,lo,0,cs,by rw[Nat.add_zero],⟨h1,h2⟩,dF ..,by omega,⟨fun i hi j k hj=>by
  have:=hp.at_ i hi j k hj;rw[he i hi j (List.getElem?_eq_some_iff.1 hj).1]at this;exact this⟩⟩
theorem zo(v:Value):(fC v).Nodup:=by
 unfold fC;split<;>simp
def Fr(H:PH)(y:mC)(H':PH)(y':mC):Prop:=∀x,H x≠none->x∉bt y->H' x=H x/\x∉bt y'
theorem Fr.trans{H H' H'':PH}{y y' y'':mC}(h:Fr H y H' y')(k:Fr H' y' H'' y''):Fr H y H'' y'':=fun x hx hv=>by
 obtain⟨h1,h2⟩:=h x hx hv;obtain⟨k1,k2⟩:=k x (by rw[h1];exact hx) h2;exact⟨k1.trans h1,k2⟩
theorem Cw{y:mC}:(bt y).Nodup↔(y.b∉fC y.bv/\y.b∉fC y.rv/\y.b∉y.vs.flatMap fC)/\(∀x∈fC y.bv,x∉fC y.rv/\x∉y.vs.flatMap fC)/\(∀x∈fC y.rv,x∉y.vs.flatMap fC)/\(y.vs.flatMap fC).Nodup:=by
 unfold bt;rw[List.nodup_cons,List.nodup_append,List.nodup_append];have a1:=zo y.bv;have a2:=zo y.rv;simp only[List.mem_append,not_or,a1,a2,true_and];constructor
 ·rintro⟨h1,⟨h3,h4⟩,h2⟩;exact⟨h1,fun x hx=>⟨fun e=>h2 x hx x (.inl e) rfl,fun e=>h2 x hx x (.inr e) rfl⟩,fun x hx e=>h4 x hx x e rfl,h3⟩
 ·rintro⟨h1,h2,h3,h4⟩;refine⟨h1,⟨h4,fun a ha b hb e=>h3 a ha (by rw[e];exact hb)⟩,fun a ha b hb e=>?_⟩;subst e;rcases hb with hb|hb
  ·exact(h2 a ha).1 hb
  ·exact(h2 a ha).2 hb
theorem w8{X0 X2:PH}{y:mC}{g:dx}{v2:Value}{buf:List Int}(h:fM X0 y g)(hs:Step X0 y.bv X2 v2)(hb:fA X2 v2 buf) :
 X2 y.b=some (0,cU g y.bv y.rv)/\fM (aM X2 y.b 0 (cU { g with buf:=buf } v2 y.rv)) { y with bv:=v2 } { g with buf:=buf }/\Fr X0 y (aM X2 y.b 0 (cU { g with buf:=buf } v2 y.rv)) { y with bv:=v2 }:=by
 have hd:=h.at_.dom;obtain⟨⟨n1,n2,n3⟩,n4,n5,n6⟩:=Cw.1 h.nd;have s1:∀x∈bt y,x∉fC y.bv->X2 x=X0 x/\x∉fC v2:=fun x hx hv=>hs x (hd x hx) hv;have hbm:y.b∈bt y:=List.mem_cons_self;obtain⟨c1,c2⟩:=s1 y.b hbm n1;have hrv:∀x∈fC y.rv,x∈bt y/\x∉fC y.bv:=fun x hx=>⟨by simp[bt,hx],fun e=>(n4 x e).1 hx⟩
 have hvs:∀x∈y.vs.flatMap fC,x∈bt y/\x∉fC y.bv:=fun x hx=>⟨List.mem_cons_of_mem _ (List.mem_append_right _ (List.mem_append_right _ hx)),fun e=>(n4 x e).2 hx⟩
 have same:∀x,x≠y.b->(x∈fC y.rv\/x∈y.vs.flatMap fC)->aM X2 y.b 0 (cU { g with buf:=buf } v2 y.rv) x=X0 x:=fun x hx h=>by
  rw[cC hx];rcases h with h|h
  ·exact(s1 x (hrv x h).1 (hrv x h).2).1
  ·exact(s1 x (hvs x h).1 (hvs x h).2).1
 refine⟨c1.trans h.at_.cell,⟨⟨dF ..,h.at_.A4,hb.frame fun x hx=>cC fun e=>c2 (by rw[<- e];exact hx),?_,h.at_.len,fun i hi=>(h.at_.body i hi).frame fun x hx=>?_⟩,?_⟩,?_⟩
 ·obtain⟨c,hr⟩:=h.at_.aR;exact⟨c,iL hr fun x hx=>same x (fun e=>n2 (by rw[<- e];exact hx)) (.inl hx)⟩
 ·have hm:x∈y.vs.flatMap fC:=by
   refine List.mem_flatMap.2 ⟨_,?_,hx⟩;have hl:=h.at_.len;have hi':i<g.aR.length:=hi;rw[List.getD_eq_getElem?_getD,List.getElem?_eq_getElem (by omega)];exact List.getElem_mem _
  exact same x (fun e=>n3 (by rw[<- e];exact hm)) (.inr hm)
 ·refine Cw.2 ⟨⟨c2,n2,n3⟩,fun x hx=>⟨fun e=>?_,fun e=>?_⟩,n5,n6⟩
  ·exact(s1 x (hrv x e).1 (hrv x e).2).2 hx
  ·exact(s1 x (hvs x e).1 (hvs x e).2).2 hx
 ·intro x hx hn;simp only[bt,List.mem_cons,List.mem_append,not_or]at hn ⊢;obtain⟨a1,a2⟩:=hs x hx hn.2.1;exact⟨by rw[cC hn.1,a1],hn.1,a2,hn.2.2⟩
theorem AE{X3 X4 X5:PH}{y:mC}{g:dx}{v3 v4:Value}{r:RecM}(h:fM X3 y g)(hs:Step X3 (.slice none 0 0) X4 v3)(hb:fA X4 v3 r.body)(hs2:Step X4 y.rv X5 v4)
 (hd4:∀x∈fC v3,X4 x≠none) (hr:∃c,jW X5 v4 rP (g.aR.length+1) c (uH (g.aR++[r]) (y.vs++[v3]))) :
 X4 y.b=some (0,cU g y.bv y.rv)/\X5 y.b=some (0,cU g y.bv y.rv)/\fM (aM X5 y.b 0 (cU { g with aR:=g.aR++[r] } y.bv v4)) ⟨y.b,y.bv,v4,y.vs++[v3]⟩ { g with aR:=g.aR++[r] } /\
 Fr X3 y (aM X5 y.b 0 (cU { g with aR:=g.aR++[r] } y.bv v4)) ⟨y.b,y.bv,v4,y.vs++[v3]⟩:=by
 have hd:=h.at_.dom;obtain⟨⟨n1,n2,n3⟩,n4,n5,n6⟩:=Cw.1 h.nd;have s1:∀x,X3 x≠none->X4 x=X3 x/\x∉fC v3:=fun x hx=>hs x hx (by simp[fC]);have s2:∀x,X3 x≠none->x∉fC y.rv->X5 x=X3 x/\x∉fC v3/\x∉fC v4:=fun x hx hv=>by
  obtain⟨a1,a2⟩:=s1 x hx;obtain⟨b1,b2⟩:=hs2 x (by rw[a1];exact hx) hv;exact⟨b1.trans a1,a2,b2⟩
 have hbm:y.b∈bt y:=List.mem_cons_self;have hbv:∀x∈fC y.bv,x∈bt y/\x∉fC y.rv:=fun x hx=>⟨by simp[bt,hx],(n4 x hx).1⟩
 have hvs:∀x∈y.vs.flatMap fC,x∈bt y/\x∉fC y.rv:=fun x hx=>⟨List.mem_cons_of_mem _ (List.mem_append_right _ (List.mem_append_right _ hx)),fun e=>n5 x e hx⟩
 have hrv:∀x∈fC y.rv,x∈bt y:=fun x hx=>by simp[bt,hx]
 obtain⟨c1,c2,c3⟩:=s2 y.b (hd _ hbm) n2;have hv3rv:∀x∈fC v3,x∉fC y.rv:=fun x hx e=>(s1 x (hd x (hrv x e))).2 hx;have hv3:∀x∈fC v3,X5 x=X4 x/\x∉fC v4:=fun x hx=>hs2 x (hd4 x hx) (hv3rv x hx);have same:∀x∈bt y,x≠y.b->x∉fC y.rv->aM X5 y.b 0 (cU { g with aR:=g.aR++[r] } y.bv v4) x=X3 x:=fun x hx h1 h2=>by
  rw[cC h1];exact(s2 x (hd x hx) h2).1
 have hl:=h.at_.len;refine⟨(s1 _ (hd _ hbm)).1.trans h.at_.cell,c1.trans h.at_.cell,⟨⟨dF ..,h.at_.A4,h.at_.buf.frame fun x hx=>same x (hbv x hx).1 (fun e=>n1 (by rw[<- e];exact hx)) (hbv x hx).2,?_,?_,?_⟩,?_⟩,?_⟩
 ·obtain⟨c,hr⟩:=hr;refine⟨c,?_⟩;simp only[List.length_append,List.length_singleton];exact iL hr fun x hx=>cC fun e=>c3 (by rw[<- e];exact hx)
 ·simp[hl]
 ·intro i hi;simp only[List.length_append,List.length_singleton]at hi;show fA _ ((y.vs++[v3]).getD i undef) (gl (g.aR++[r]) i).body;rw[kA hi];by_cases hin:i<g.aR.length
  ·rw[if_pos hin];have e1:(y.vs++[v3]).getD i undef=y.vs.getD i undef:=by
    rw[List.getD_eq_getElem?_getD,List.getElem?_append_left (by omega),List.getD_eq_getElem?_getD]
   rw[e1];refine(h.at_.body i hin).frame fun x hx=>?_;have hm:x∈y.vs.flatMap fC:=by
    refine List.mem_flatMap.2 ⟨_,?_,hx⟩;rw[List.getD_eq_getElem?_getD,List.getElem?_eq_getElem (by omega)];exact List.getElem_mem _
   exact same x (hvs x hm).1 (fun e=>n3 (by rw[<- e];exact hm)) (hvs x hm).2
  ·rw[if_neg hin];have e1:(y.vs++[v3]).getD i undef=v3:=by
    rw[List.getD_eq_getElem?_getD,List.getElem?_append_right (by omega),show i-y.vs.length=0 by omega];rfl
   rw[e1];refine hb.frame fun x hx=>?_;rw[cC (fun e=>c2 (by rw[<- e];exact hx)),(hv3 x hx).1]
 ·refine Cw.2 ⟨⟨n1,c3,?_⟩,fun x hx=>⟨?_,?_⟩,fun x hx=>?_,?_⟩
  ·simp only[List.flatMap_append,List.mem_append,not_or];exact⟨n3,by simpa using c2⟩
  ·exact(s2 x (hd x (hbv x hx).1) (hbv x hx).2).2.2
  ·simp only[List.flatMap_append,List.mem_append,not_or];exact⟨(n4 x hx).2,by simpa using(s2 x (hd x (hbv x hx).1) (hbv x hx).2).2.1⟩
  ·simp only[List.flatMap_append,List.mem_append,not_or];exact⟨fun e=>(s2 x (hd x (hvs x e).1) (hvs x e).2).2.2 hx,fun e=>(hv3 x (by simpa using e)).2 hx⟩
  ·simp only[List.flatMap_append,List.nodup_append];refine⟨n6,by simpa using zo v3,fun a ha b hb e=>?_⟩;subst e;exact(s1 a (hd a (hvs a ha).1)).2 (by simpa using hb)
 ·intro x hx hn;simp only[bt,List.mem_cons,List.mem_append,not_or]at hn;obtain⟨a1,a2,a3⟩:=s2 x hx hn.2.2.1;refine⟨by rw[cC hn.1,a1],?_⟩;simp only[bt,List.mem_cons,List.mem_append,not_or,List.flatMap_append];exact⟨hn.1,hn.2.1,a3,hn.2.2.2,by simpa using a2⟩
theorem uK{α β:Type}{f:α->List β}:∀ {l:List α} {a:α},a∈l->(f a).Sublist (l.flatMap f)
 |[],_,h=>by cases h
 |x::r,a,h=>by
  rw[List.flatMap_cons];rcases List.mem_cons.1 h with rfl|h
  ·exact List.sublist_append_left _ _
  ·exact(uK h).trans (List.sublist_append_right _ _)
theorem bT.Y4{H:PH}{y:gP}{L:bP}(h:bT H y L){k:Nat}(hk:k<L.l.length):fM H (gl y.ys k) (gl L.l k):=by
 refine⟨h.seg k hk,?_⟩;have hk':k<y.ys.length:=by rw[h.len];exact hk
 refine(List.nodup_append.1 h.nd).2.1.sublist (uK ?_);rw[bR hk'];exact List.getElem_mem _
theorem LM{α:Type}[Inhabited α]{l:List α}{k i:Nat}{x:α}(hi:i<l.length):gl (l.set k x) i=if i=k then x else gl l i:=by
 unfold gl;rw[List.getD_eq_getElem?_getD,List.getElem?_set];by_cases h:i=k
 ·subst h;simp[hi]
 ·rw[if_neg (fun e=>h e.symm),if_neg h,List.getD_eq_getElem?_getD]
theorem bT.set{H H':PH}{y:gP}{L:bP}{k:Nat}{sl:mC}{g:dx}(h:bT H y L)(hk:k<L.l.length)(hb:sl.b=(gl y.ys k).b)(hg:fM H' sl g)(hf:Fr H (gl y.ys k) H' sl) :
 bT H' ⟨y.lv,y.ys.set k sl⟩ { L with l:=L.l.set k g }/\∀x,H x≠none->x∉br y->H' x=H x/\x∉br ⟨y.lv,y.ys.set k sl⟩:=by
 have hk':k<y.ys.length:=by rw[h.len];exact hk
 have hd:=h.dom;obtain⟨A,B,e1,e2,hA⟩:∃A B,y.ys=A++gl y.ys k::B/\y.ys.set k sl=A++sl::B/\A.length=k:=by
  refine⟨y.ys.take k,y.ys.drop (k+1),?_,?_,by simp;omega⟩
  ·rw[bR hk'];simp
  ·rw[List.set_eq_take_append_cons_drop,if_pos hk']
 obtain⟨s,hs⟩:∃s,s=gl y.ys k:=⟨_,rfl⟩
 rw[<- hs]at e1 hb hf;have F1:y.ys.flatMap bt=A.flatMap bt++(bt s++B.flatMap bt):=by rw[e1];simp
 have F2:(y.ys.set k sl).flatMap bt=A.flatMap bt++(bt sl++B.flatMap bt):=by rw[e2];simp
 have hnd:=h.nd;rw[F1]at hnd;simp only[List.nodup_append,List.mem_append]at hnd;obtain⟨n1,⟨n2,⟨n3,n4,n5⟩,n6⟩,n7⟩:=hnd;have oV:∀x∈fC y.lv,H' x=H x/\x∉bt sl:=fun x hx=>hf x (hd x (List.mem_append_left _ hx)) fun e=>n7 x hx x (.inr (.inl e)) rfl;have oA:∀x∈A.flatMap bt,H' x=H x/\x∉bt sl:=fun x hx=>hf x (hd x (List.mem_append_right _ (by rw[F1];exact List.mem_append_left _ hx))) fun e=>n6 x hx x (.inl e) rfl;have oB:∀x∈B.flatMap bt,H' x=H x/\x∉bt sl:=fun x hx=>hf x (hd x (List.mem_append_right _ (by rw[F1];exact List.mem_append_right _ (List.mem_append_right _ hx)))) fun e=>n5 x e x hx rfl;refine⟨⟨?_,by simp[h.len],?_,?_⟩,?_⟩
 ·obtain⟨c,hl⟩:=h.IQ;refine⟨c,?_⟩;simp only[List.length_set];have hl2:=iL (H':=H') hl fun x hx=>(oV x hx).1;have he:∀i,i<L.l.length->zm y.ys i 0=zm (y.ys.set k sl) i 0:=fun i hi=>by
   simp only[zm];rw[LM (by rw[h.len];exact hi)];by_cases hik:i=k
   ·subst hik;rw[if_pos rfl,hb,hs]
   ·rw[if_neg hik]
  rcases hl2 with hz | ⟨b,lo,o,cs,g1,g2,g3,g4,g5⟩
  ·exact .inl hz
  ·refine .inr ⟨b,lo,o,cs,g1,g2,g3,g4,⟨fun i hi j q hj=>?_⟩⟩;have hj0:j=0:=by have:=(List.getElem?_eq_some_iff.1 hj).1;simpa using this
   subst hj0;have:=g5.at_ i hi 0 q hj;rw[he i hi]at this;exact this
 ·intro i hi;simp only[List.length_set]at hi;show nZ H' (gl (y.ys.set k sl) i) (gl (L.l.set k g) i);rw[LM (by rw[h.len];exact hi),LM hi];by_cases hik:i=k
  ·rw[if_pos hik,if_pos hik];exact hg.at_
  ·rw[if_neg hik,if_neg hik];refine(h.seg i hi).frame fun x hx=>?_;have hm:gl y.ys i∈A\/gl y.ys i∈B:=by
    have hi':i<y.ys.length:=by rw[h.len];exact hi
    have e3:gl y.ys i=gl (A++s::B) i:=by rw[<- e1]
    rcases Nat.lt_or_ge i k with hlt|hge
    ·left;rw[e3,bN (by omega),bR (by omega)];exact List.getElem_mem _
    ·right;have hlen:y.ys.length=A.length+(B.length+1):=by rw[e1];simp
     rw[e3,show i=A.length+((i-k-1)+1)by omega,bf];have:gl (s::B) (i-k-1+1)=gl B (i-k-1):=by simp[gl]
     rw[this,bR (by omega)];exact List.getElem_mem _
   rcases hm with hm|hm
   ·exact(oA x (List.mem_flatMap.2 ⟨_,hm,hx⟩)).1
   ·exact(oB x (List.mem_flatMap.2 ⟨_,hm,hx⟩)).1
 ·show(fC y.lv++(y.ys.set k sl).flatMap bt).Nodup;rw[F2];simp only[List.nodup_append,List.mem_append];refine⟨n1,⟨n2,⟨hg.nd,n4,fun a ha b hb e=>?_⟩,fun a ha b hb e=>?_⟩,fun a ha b hb e=>?_⟩
  ·subst e;exact(oB a hb).2 ha
  ·subst e;rcases hb with hb|hb
   ·exact(oA a ha).2 hb
   ·exact n6 a ha a (.inr hb) rfl
  ·subst e;rcases hb with hb|hb|hb
   ·exact n7 a ha a (.inl hb) rfl
   ·exact(oV a ha).2 hb
   ·exact n7 a ha a (.inr (.inr hb)) rfl
 ·intro x hx hn;have hn1:x∉fC y.lv:=fun e=>hn (List.mem_append_left _ e);have hn2:x∉A.flatMap bt/\x∉bt s/\x∉B.flatMap bt:=by
   have:x∉y.ys.flatMap bt:=fun e=>hn (List.mem_append_right _ e);rw[F1]at this;simpa only[List.mem_append,not_or]using this
  obtain⟨a1,a2⟩:=hf x hx hn2.2.1;refine⟨a1,?_⟩;show x∉fC y.lv++(y.ys.set k sl).flatMap bt;rw[F2];simp only[List.mem_append,not_or];exact⟨hn1,hn2.1,a2,hn2.2.2⟩
def EO(s:S):Nat:=match r6 s.hp with|some t=>t|none=>0
def S.log(s:S)(slot:Nat)(L:bP)(lv:Value)(d:bw)(H:PH):S :=
 (fun(q:S)=>(q.put (q.hp.del (EO q))).new (.cu H))
  (((s.at_ (s.tg slot) (fo (s.fh (s.tg slot) 0) L lv)).at_ (s.fh (s.tg slot) 0) (.obj 116 [.slc (s.fh (s.fh (s.tg slot) 0) 0) 0 129 d.n d.n,.int .i64 d.calls])).at_ (s.fh (s.fh (s.tg slot) 0) 0) (.arr 158 AA d.n (eO d)))
def S.dev(s:S)(td:Nat)(d:bw):S:=(s.at_ td (.obj 116 [.slc (s.fh td 0) 0 129 d.n d.n,.int .i64 d.calls])).at_ (s.fh td 0) (.arr 158 AA d.n (eO d))
structure uL(L:bP)(d:bw):Prop where
 ye:L.l.length<800
 au:3<=L.au/\L.au<=200
 room:L.from_+L.au*8<=d.n
 size:d.n<100000
 calls:d.calls<900000000000
 next:0<=L.next/\L.next<100000000000
 gen:∀i,i<L.l.length->1<=(gl L.l i).gen/\(gl L.l i).gen<100000000000
 buf:∀i,i<L.l.length->(gl L.l i).buf.length<=378
 aR:∀i,i<L.l.length->(gl L.l i).aR.length*9<=(gl L.l i).buf.length
structure Z7(L L1:bP)(d d1:bw)(n:Nat):Prop where
 pos:1<=L1.l.length
 ye:L1.l.length<=801
 from_:L1.from_=L.from_
 au:L1.au=L.au
 next:L1.next=L.next
 run:L1.run=L.run
 fresh:L1.fresh=L.fresh
 dn:d1.n=d.n
 calls:d1.calls<=d.calls+2
 gen:∀i,i<L1.l.length->1<=(gl L1.l i).gen/\(gl L1.l i).gen<=100000000000
 buf:∀i,i<L1.l.length->(gl L1.l i).buf.length<=378
 aR:∀i,i<L1.l.length->(gl L1.l i).aR.length*9<=(gl L1.l i).buf.length
 last:(jP L1).buf.length+n<=370
theorem Cy{L:bP}{d:bw}(ok:uL L d):1<=(bl L).gen/\(bl L).gen<=100000000000:=by
 by_cases h:L.l.length=0
 ·have:L.l=[]:=List.eq_nil_of_length_eq_zero h;simp only[bl,this,List.getLast?_nil];omega
 ·have hk:L.l.length-1<L.l.length:=by omega
  have e:L.l.getLast? = some (gl L.l (L.l.length-1)):=by rw[bR hk,List.getLast?_eq_getElem?,List.getElem?_eq_getElem hk]
  have:=ok.gen _ hk;simp only[bl,e];omega
theorem zq{L:bP}{i:Nat}(h:i<(tI L).length):∃j,j<L.l.length/\gl (tI L) i=gl L.l j:=by
 have hm:gl (tI L) i∈L.l:=by rw[bR h];exact(List.mem_filter.1 (List.getElem_mem h)).1
 obtain⟨j,hj,e⟩:=List.getElem_of_mem hm;exact⟨j,hj,by rw[bR hj];exact e.symm⟩
theorem SQ(L:bP):(tI L).length<=L.l.length:=List.length_filter_le _ _
theorem JI{L:bP}{d:bw}{n:Nat}(ok:uL L d)(hn:n<=300):Z7 L (dw L n) d (kD L d n) n:=by
 have hf:=ok.ye;cases hB:qJ L n with
 |false =>
  rw[show dw L n=L from if_neg (by rw[hB];decide),show kD L d n=d from if_neg (by rw[hB];decide)];simp only[qJ,Bool.or_eq_false_iff,decide_eq_false_iff_not]at hB;exact⟨by omega,by omega,rfl,rfl,rfl,rfl,rfl,rfl,by omega,fun i hi=>by have:=ok.gen i hi;omega,ok.buf,ok.aR,by omega⟩
 |true =>
  rw[show dw L n=ja L from if_pos hB,show kD L d n=sO L d from if_pos hB];have hln:(ja L).l.length=(tI L).length+1:=by simp[ja]
  have hkl:=SQ L;have hg:=Cy ok;have hgl:∀i,i<(tI L).length+1->gl (ja L).l i=if i<(tI L).length then gl (tI L) i else bl L:=fun i hi=>by simp only[ja];exact kA hi
  refine⟨by omega,by omega,rfl,rfl,rfl,rfl,rfl,rfl,by simp[sO,gj,gi],fun i hi=>?_,fun i hi=>?_,fun i hi=>?_,?_⟩
  ·rw[hgl i (by omega)];split
   ·obtain⟨j,hj,e⟩:=zq (L:=L) (i:=i) (by assumption);rw[e];have:=ok.gen j hj;omega
   ·exact hg
  ·rw[hgl i (by omega)];split
   ·obtain⟨j,hj,e⟩:=zq (L:=L) (i:=i) (by assumption);rw[e];exact ok.buf j hj
   ·simp[bl]
  ·rw[hgl i (by omega)];split
   ·obtain⟨j,hj,e⟩:=zq (L:=L) (i:=i) (by assumption);rw[e];exact ok.aR j hj
   ·simp[bl]
  ·have:jP (ja L)=bl L:=by
    show gl (ja L).l ((ja L).l.length-1)=_;rw[hgl _ (by omega),if_neg (by omega)]
   rw[this];simp[bl];omega
theorem sP(L:bP)(g:dx)(was:Nat)(d:bw):∀i,(de L g was d i).n=d.n/\(de L g was d i).calls<=d.calls+i
 |0=>⟨rfl,Nat.le_refl _⟩
 |i+1=>by
  have:=sP L g was d i;unfold de;split
  ·simp only[gi];omega
  ·omega
structure qZ where
 H:PH
 y:gP
 L:bP
 d:bw
 body:List Int
 cap:Nat
noncomputable def Bq:cD where
 α:=qZ
 β:=mE
 m:=5
 m':=6
 pre:=fun a=>bT a.H a.y a.L/\uL a.L a.d/\1<=a.body.length/\a.body.length<=300
 args:=fun a=>[.a (.ptr 0 0 0 0),.a (.slc 4 0 1 a.body.length a.cap)]
 hp:=fun a=>[(0,fo 1 a.L a.y.lv)]++gA 1 2 a.d++[(3,.cu a.H)]
 ro:=fun a=>ji 4 a.body
 post:=fun a b=>bT b.H b.y (lQ a.L a.body)/\∀x,a.H x≠none->x∉br a.y->b.H x=a.H x/\x∉br b.y
 res:=fun a _=>.l8 [.a (.int .i64 a.L.next),.a (.lit .i64 0)]
 cT:=fun a b=>[(0,fo 1 (lQ a.L a.body) b.y.lv)]++gA 1 2 (n9 a.L a.d a.body)++[(5,.cu b.H)]
def WV(a:qZ):An:=.flat 17 Nat (fun s i=>S.dev (s.int 95 i) (s.fh (s.tg 0) 0) (de (dw a.L a.body.length) (JF (jP (dw a.L a.body.length)) a.L.next a.body) (jP (dw a.L a.body.length)).buf.length (kD a.L a.d a.body.length) i)) (fun _ i=>i<=8) (fun _ i=>8-i)
def Y5(a:qZ):An:=.mk 10 (PH×gP) (fun s x=>S.log s 0 (dw a.L a.body.length) x.2.lv (kD a.L a.d a.body.length) x.1) (fun _ x=>bT x.1 x.2 (dw a.L a.body.length)/\∀z,a.H z≠none->z∉br a.y->x.1 z=a.H z/\z∉br x.2) (fun _ _=>0) fun _=>.mk 1000 [WV a] []
def qj(x:Nat)(y z:List Value)(u:Nat):List Value:=List.take x y++z++List.drop (x+u) y
def zu(y:Nat)(z x:List Value):List Value:=qj y z x x.length
def jw(x:Nat)(y:List Value)(z u v w s:Nat):List Value:=zu x y (bH (Value.slice (some { block:=z,off:=u }) (v+w) s))
def EP(x y:Int):Int:=uw .u8 (cQ x/y)
def AF(x y w s:Nat)(t:Nat->Option (Nat×List Value))(f:Nat)(g:IntKind)(h:List CK)(i j:Nat->Nat->Value)(k:Nat->Nat->Nat->List Value->Prop):=gF x y w s fun z=>(z≠0/\0+(x+y)<=x+y)/\∀(v l:Nat) (u:List Value),t v=none->u.length=z*f->(Au u 0 (CK.int g::h) (x+y) fun m n=>aZ i 0 x j (0+m) n)->k z v l u
def Cz(y:Nat)(x:bP)(z:Nat)(u:Value)(v:gP)(w s:Int)(t:Bool)(f:Prop):=bq y x.from_/\bq z x.au/\u=v.lv/\w=x.next/\s=x.run/\t=x.fresh/\f
def sQ(x:qZ):Int:=(dw x.L (av x.body)).next+(1:Int)
def w9(z:mE)(x:qZ):=qi z (lQ x.L x.body) (fun u=>x.H u) x.y
def JJ(x:qZ)(u:PH)(v:PH×gP)(w:Bool)(s:bw):=∃z:mE,sQ x-(1:Int)=x.L.next/\aW (u=z.H/\ag (Cz (dw x.L (av x.body)).from_ (lQ x.L x.body) (dw x.L (av x.body)).au v.snd.lv z.y (sQ x) (dw x.L (av x.body)).run w (iR s (n9 x.L x.d x.body) (w9 z x/\True))))
def yf(x:qZ)(y:Nat):bw:=de (dw x.L (av x.body)) (JF (jP (dw x.L (av x.body))) x.L.next x.body) (av (jP (dw x.L (av x.body))).buf) (kD x.L x.d (av x.body)) y
def sR(x:qZ)(y:Int):Int:=EP (dw x.L (av x.body)).next y
def WW(y z u:Int)(x:qZ)(v w s:Int)(t f:Prop):=cz (EP y z) (EP y u) (aG (sR x v)) (cz (sR x w) (sR x s) t f)
def kE(z:PH×gP)(u:List Value)(v x y:Nat)(w:List Value)(s t f g:Nat)(h:List Value):PH:=aM (aJ (aM (aJ z.fst (aS u v)) x y w) (eM x y (s+8) t)) f g h
def qk(x:Prop):=cH (cz 0 0 (0=0) x)
def CA(z:List Value)(u:Nat)(x:qZ)(y:PH)(v:PH×gP)(w:bw)(s:Nat)(t:Prop):=ag (cM (aS z u)/\bB (aQ 300 (aa (av x.body)))/\qk (bD (av x.body) x.cap/\y=y/\WW (aa (av x.body)) 256 1 x 1099511627776 4294967296 16777216 (aG (sR x 65536)) (cz (sR x 256) (sR x 1) (0=0) (fq (dw x.L (av x.body)) v.snd (iR w (yf x s) (cn x.body x.body cA/\t))))))
def gQ(x y:bP)(z u:gP)(v w:bw)(s:Prop):=ag (qW x y z.lv u.lv (iR v w s))
def LN(x:PH×gP)(z:qZ):=bT x.fst x.snd (dw z.L (av z.body))/\∀u:Nat,wX (z.H u) z.y u (x.fst u) x.snd
def LO(x:qZ)(z:PH)(u:bP)(v:gP)(w:bw):PH×gP->Prop:=fun(y:PH×gP)=>bB (aQ 300 (aa (av x.body)))/\qk (bD (av x.body) x.cap/\z=y.fst/\gQ u (dw x.L (av x.body)) v y.snd w (kD x.L x.d (av x.body)) (cn x.body x.body cA/\LN y x/\True))
def LP(z:qZ):JD->Prop:=fun(x:JD)=>ax (qW z.L x.L z.y.lv x.y.lv (iR z.d x.d (z.H=x.H/\GK x/\∀u:mE,qi u (ja x.L) (fun v=>x.H v) x.y->Exists (LO z u.H (ja x.L) u.y (sO x.L x.d)))))
def LQ(x y:Int)(z:List A):List A:=A.int .u8 x::A.int .u8 y::z
def LR(x z u:Int)(y:qZ)(v w:Int)(s:List A):List A:=LQ (EP x z) (EP x u) (LQ (sR y v) (sR y w) s)
def oL(z:Value)(u:Nat)(v:Nat->Option (Nat×List Value))(w:A)(s:Nat->Nat->Nat->List Value->Prop):Nat->Prop:=kq z u (fun x=>v x) (fun x y=>x+[w].length<=y.length) fun x y t f=>s x y t f
def uM(u:PH)(v:Value)(w:IntKind)(s:List CK)(t f g h i:Nat)(j:Nat->Nat->Value)(k:Nat->Nat->Nat->Nat->List Value->Prop):=Exists (jG u v (CK.int w) s fun y l m=>0+y<=y/\t<=f/\AF y g h l (fun x=>aJ u v x) i w s m (fun x z=>j x z) fun x z n o=>k y x z n o)
def CB(s:Nat)(g:Nat->Option (Nat×List Value))(h:Nat->Nat->Value)(t:PH)(f:Value)(i:Int)(j:Nat->Nat->List Value->Nat->Nat->Nat->Nat->List Value->Prop):=AF 0 s 1 0 (fun u=>g u) 1 .u8 [] (aN 1 []) h fun u x y v=>Exists (jG (aM t x y v) f (CK.int .i64) (iN CK.deep) fun z k l=>0+z<=z/\AF z 1 32 k (fun w=>aJ (aM t x y v) f w) 2 .i64 (iN CK.deep) l (kI [A.int .i64 i,A.val (eM x y (0+s) u)] 2) fun w m n o=>j x y v z w m n o)
def gR(x:List Int)(y:Nat):=1<=av x/\av x<=y
def nC(x y:Int)(z:Prop):=ah x->ah (x-y)/\z
def q9(x:Int->List Value)(y:List Int):Nat->Nat->Value:=fun(z u:Nat)=>af x y (0+z) u
def LS(x y z u v w:Int)(s:Prop):=(0:Int)<=x/\bg y 6/\(0:Int)<=z/\bg u 6/\(0:Int)<=v/\bg w 6/\s
def zv(x:qZ):=bT x.H x.y x.L/\uL x.L x.d/\gR x.body 300
def zw(x:List Int)(z u:Prop):=∀y:Bool,(aD y->av x=0)->aO y z (0<=0/\mB x/\u)
def CC(x:qZ):=ah (dw x.L (av x.body)).next
theorem LU:fnBody (Y Tryz.prog) [(195,LK),(198,GD),(169,jB)] 162 Bq fun a=>[(162,[WV a],[Y5 a])]:=fnBody.of (p :=
 ∀x:qZ,zv x->gC (aQ (aa (av x.body)) 1) (∃z:mE,(0:Int)=x.L.next/\(1:Int)=0/\x.H=z.H/\gQ x.L (lQ x.L x.body) x.y z.y x.d (n9 x.L x.d x.body) (w9 z x/\True)) (aQ 300 (aa (av x.body))) ((fD x.y.lv/\aO (aa (di x.y.lv) == (0:Int)) (Exists (LP x)) (wY x.y (fun z=>x.H z) fun z U=>ga (aS U z) 3 (fun k=>x.H k) fun k B=>fD (aS B k)/\ah ((370:Int)-aa (av x.body))/\aA ((370:Int)-aa (av x.body)) (aa (di (aS B k))) (Exists (LP x)) (Exists (LO x x.H x.L x.y x.d))))/\∀z:PH×gP,LN z x->fD z.snd.lv/\wY z.snd (fun k=>z.fst k) fun k B=>cI 2 8/\0<8/\(0:Int)<=0/\bg 1 2/\(0:Int)<=8/\bg 0 2/\cI 2 8/\2<8/\(CC x->LS 0 5 8 4 16 3 (LS 24 2 32 1 40 0 (ga (aS B k) 3 (fun M=>z.fst M) fun M P=>fD (aS P M)/\ga (aS B k) 3 (fun s=>z.fst s) fun s f=>0<8/\Exists (jG z.fst (aS f s) (CK.int .u8) [] fun t V W=>0+t<=t/\AF t 8 1 V (fun g=>aJ z.fst (aS f s) g) 1 .u8 [] W (kI (LR (aa (av x.body)) 256 1 x 1099511627776 4294967296 (LR (dw x.L (av x.body)).next 16777216 65536 x 256 1 [])) 1) fun g h j n=>uM (aM (aJ z.fst (aS f s)) h j n) (eM h j (t+8) g) .u8 [] (0+av x.body) (av x.body) (av x.body) 1 1 (fun l m=>af cA x.body (0+l) m) fun l m u v q=>Exists (oL (aS B k) 3 (fun o=>aM (aJ (aM (aJ z.fst (aS f s)) h j n) (eM h j (t+8) g)) u v q o) (A.val (eM u v (l+av x.body) m)) fun o r c e=>(∃w:Nat,aC w (bh (di (aS P M)) /\
 CA B k x (aM (kE z f s h j n t g u v q) o r (jw c e u v l (av x.body) m)) z (kD x.L x.d (av x.body)) w (w<=8/\True)))/\∀w:Nat,w<=8->aA (aa w) 8 (aP w (oI (aY w*(48:Int)) 6 (aA (aa (di (aS P M))) (o7 true 0 (aY w*(48:Int)-6)) (ga (aS B k) 3 (fun p=>aM (kE z f s h j n t g u v q) o r (jw c e u v l (av x.body) m) p) fun p D=>fD (aS D p)/\oI (aa w*(48:Int)) 6 (aA (o7 true 0 (aa w*(48:Int)-6)) (aa (di (aS D p))) (∃E:sL,ag (aS B k=pv E.y.b 0/\bq w E.i/\iR (yf x w) E.d (ag (qW (dw x.L (av x.body)) E.L z.snd.lv E.lv (aM (kE z f s h j n t g u v q) o r (jw c e u v l (av x.body) m)=E.H/\zk E/\aI (bY w fun C=>bh (di (aS P M))/\CA B k x (aM (kE z f s h j n t g u v q) o r (jw c e u v l (av x.body) m)) z (zl E) C (bS C 8 w))))))) (bY w fun E=>bh (di (aS P M))/\CA B k x (aM (kE z f s h j n t g u v q) o r (jw c e u v l (av x.body) m)) z (yf x w) E (bS E 8 w)))) (bY w fun p=>bh (di (aS P M))/\CA B k x (aM (kE z f s h j n t g u v q) o r (jw c e u v l (av x.body) m)) z (yf x w) p (bS p 8 w))))) (ga (aS B k) 4 (fun p=>aM (kE z f s h j n t g u v q) o r (jw c e u v l (av x.body) m) p) fun p D=>CC x->zw x.body (uM (aM (kE z f s h j n t g u v q) o r (jw c e u v l (av x.body) m)) (aS D p) .i64 (iN CK.deep) 1 1 1 32 2 (fun C J=>aN 2 (bu (dw x.L (av x.body)).next (bH gd)) (0+C) J) fun C J G I N=>Exists (oL (aS B k) 4 (fun F=>aM (aJ (aM (kE z f s h j n t g u v q) o r (jw c e u v l (av x.body) m)) (aS D p)) G I N F) (A.val (eM G I (C+1) J)) fun F K Q O=>CC x ->
 ah (sQ x)/\aO (dw x.L (av x.body)).fresh (nC (sQ x) 1 (kC (yf x w) fun R=>JJ x (aM (aM (aJ (aM (kE z f s h j n t g u v q) o r (jw c e u v l (av x.body) m)) (aS D p)) G I N) F K (jw Q O G I C 1 J)) z false (gj R))) (nC (sQ x) 1 (JJ x (aM (aM (aJ (aM (kE z f s h j n t g u v q) o r (jw c e u v l (av x.body) m)) (aS D p)) G I N) F K (jw Q O G I C 1 J)) z (dw x.L (av x.body)).fresh (yf x w))))) (CB (av x.body) (fun C=>aM (kE z f s h j n t g u v q) o r (jw c e u v l (av x.body) m) C) (q9 cA x.body) (aM (kE z f s h j n t g u v q) o r (jw c e u v l (av x.body) m)) (aS D p) (dw x.L (av x.body)).next fun C J G I N F K Q=>Exists (oL (aS B k) 4 (fun O=>aM (aJ (aM (aM (kE z f s h j n t g u v q) o r (jw c e u v l (av x.body) m)) C J G) (aS D p)) F K Q O) (A.val (eM F K (I+1) N)) fun O S R T=>CC x->ah (sQ x)/\aO (dw x.L (av x.body)).fresh (nC (sQ x) 1 (kC (yf x w) fun X=>JJ x (aM (aM (aJ (aM (aM (kE z f s h j n t g u v q) o r (jw c e u v l (av x.body) m)) C J G) (aS D p)) F K Q) O S (jw R T F K I 1 N)) z false (gj X))) (nC (sQ x) 1 (JJ x (aM (aM (aJ (aM (aM (kE z f s h j n t g u v q) o r (jw c e u v l (av x.body) m)) C J G) (aS D p)) F K Q) O S (jw R T F K I 1 N)) z (dw x.L (av x.body)).fresh (yf x w))))))))))))) (by kernel_rfl) (by
 delta aO aS av cz aL kr ah bu jw bW aG gF bB o7 aQ aY aa kq cI mF EP bH bg aD dO aX bM cM cn gC AF fD aI JJ yf bD cH WW kE bz gO Cz bS fq CA LP LR gd wY bY ki oL wX jG cQ iM aC uM zk aW ag aA CB LO sQ GK zu ga qi aP bh gR kC iN qk bq sR ax oI nC mB zl q9 gQ LS zv w9 iy LQ zw qj LN CC
 try dsimp -iota -proj only
 rintro⟨H,y,L,d,body,cap⟩ ⟨hl,ok,hb1,hb2⟩;dsimp only at *;have hf:=ok.ye;have hcl:=ok.calls;have hnx:=ok.next
 have hng:=Cy ok;obtain⟨e1,_,⟨ea,ec,e2⟩,e3,_⟩:=hl.qX;refine⟨fun c1=>?_,fun _=>⟨fun c2=>?_,fun _=>⟨⟨⟨ea,_,ec,e2,e3⟩,fun c3=>?_,fun c3=>?_⟩,?_⟩⟩⟩
 ·simp at c1;omega
 ·simp at c2;omega
 ·rw[e1]at c3;have hn0:L.l.length=0:=by simpa using c3
  have hneed:qJ L body.length=true:=by simp only[qJ,hn0];rfl
  have e1:dw L body.length=ja L:=if_pos hneed;have e2:kD L d body.length=sO L d:=if_pos hneed;refine⟨JD.mk H y L d,?_⟩
  and_intros<;>first|exact cV|exact ok.au.1|exact ok.au.2|exact ok.room|exact ok.size|(simp only[bL];omega)|skip
  intro b hpost;refine⟨(b.H,b.y),?_⟩;simp only[e1,e2]
  and_intros<;>first|exact cV|exact hpost.1|exact hpost.2|rfl
 ·rw[e1]at c3 ⊢;have hn0:0<L.l.length:=by have:=(beq_eq_false_iff_ne.1 c3);omega
  have hk:L.l.length-1<L.l.length:=by omega
  obtain⟨b,lo,o,c,cs,g1,g2,g3,g4⟩:=hl.at_ hk;have hs:=hl.seg _ hk;obtain⟨b1,b2,b3,b4,⟨ba,bc,b5⟩,b6⟩:=hs.buf.len;have e5:((L.l.length:Int)-1).toNat=L.l.length-1:=by omega
  refine⟨by simp only[bL];omega,_,_,_,_,g1,by omega,b,lo,o+(L.l.length-1)*1,cs,by rw[e5,Nat.add_assoc],g2,⟨⟨_,g3,rfl⟩,trivial⟩,?_⟩;refine⟨_,_,g4,?_⟩;refine⟨_,_,rfl,?_⟩;refine⟨_,0,_,_,rfl,hs.cell,?_⟩;refine⟨⟨⟨_,rfl,b6⟩,trivial⟩,⟨ba,_,bc,b5,b3⟩,by simp only[bL];omega,fun c4=>?_,fun c4=>?_⟩
  ·simp only[cU,List.getD_cons_succ,List.getD_cons_zero,b1]at c4;have hneed:qJ L body.length=true:=by
    have:=of_decide_eq_true c4;rw[qJ,Bool.or_eq_true];exact .inr (decide_eq_true (show 370<(jP L).buf.length+body.length by unfold jP;omega))
   have e1:dw L body.length=ja L:=if_pos hneed;have e2:kD L d body.length=sO L d:=if_pos hneed;refine⟨JD.mk H y L d,?_⟩
   and_intros<;>first|exact cV|exact ok.au.1|exact ok.au.2|exact ok.room|exact ok.size|(simp only[bL];omega)|skip
   intro b hpost;refine⟨(b.H,b.y),?_⟩;simp only[e1,e2]
   and_intros<;>first|exact cV|exact hpost.1|exact hpost.2|rfl
  ·simp only[cU,List.getD_cons_succ,List.getD_cons_zero,b1]at c4;have hneed:qJ L body.length=false:=by
    have:=of_decide_eq_false c4;rw[qJ,Bool.or_eq_false_iff];exact⟨decide_eq_false (by omega),decide_eq_false (show ¬370<(jP L).buf.length+body.length by unfold jP;omega)⟩
   have e1:dw L body.length=L:=if_neg (by rw[hneed];decide);have e2:kD L d body.length=d:=if_neg (by rw[hneed];decide);refine⟨(H,y),?_⟩;simp only[e1,e2]
   and_intros<;>first|exact cV|exact hl|exact fun _ _ h=>⟨rfl,h⟩|exact fun _ _ h=>⟨trivial,h⟩|rfl
 ·rintro⟨X,Y⟩ ⟨hX,hfr⟩;dsimp only at hX hfr ⊢;have h1:=JI (n:=body.length) ok hb2;have eA:lQ L body=JG (dw L body.length) body:=rfl;have eD:n9 L d body=if(dw L body.length).fresh then gj (qK (dw L body.length) (kD L d body.length) body)else qK (dw L body.length) (kD L d body.length) body:=rfl;rw[eA,eD];obtain⟨L1,hL1⟩:∃L1,L1=dw L body.length:=⟨_,rfl⟩
  obtain⟨d1,hd1⟩:∃d1,d1=kD L d body.length:=⟨_,rfl⟩
  rw[<- hL1]at hX;rw[<- hL1,<- hd1]at h1 ⊢;have hp:=h1.pos;have hk:L1.l.length-1<L1.l.length:=by omega
  obtain⟨k1,_,⟨ka,kc,k2⟩,k3,_⟩:=hX.qX;obtain⟨b,lo,o,c,cs,g1,g2,g3,g4⟩:=hX.at_ hk;have hs:=hX.Y4 hk;obtain⟨sl,hsl⟩:∃sl,sl=gl Y.ys (L1.l.length-1):=⟨_,rfl⟩
  have hlg:jP L1=gl L1.l (L1.l.length-1):=rfl;obtain⟨g,hg⟩:∃g,g=jP L1:=⟨_,rfl⟩
  rw[<- hlg,<- hg,<- hsl]at hs;rw[<- hsl]at g3 g4;rw[<- hg];have hlast:=h1.last;rw[<- hg]at hlast;have hgen:=h1.gen _ hk;rw[<- hlg,<- hg]at hgen;obtain⟨b1,b2,b3,b4,⟨ba,bc,b5⟩,b6⟩:=hs.at_.buf.len;have e5:((L1.l.length:Int)-1).toNat=L1.l.length-1:=by omega
  rw[k1];have hfew:=h1.ye;refine⟨⟨ka,_,kc,k2,k3⟩,by simp only[bL];omega,_,_,_,_,g1,by omega,b,lo,o+(L1.l.length-1)*1,cs,by rw[e5,Nat.add_assoc],g2,⟨⟨_,g3,rfl⟩,trivial⟩,?_⟩
  repeat refine kO ?_
  intro _
  repeat refine kO ?_
  refine⟨_,_,g4,?_⟩;refine⟨_,_,rfl,?_⟩;refine⟨_,0,_,_,rfl,hs.at_.cell,?_⟩;refine⟨⟨⟨_,rfl,b6⟩,trivial⟩,⟨ba,_,bc,b5,b3⟩,?_⟩;refine⟨_,_,g4,?_⟩;refine⟨_,_,rfl,?_⟩;refine⟨_,0,_,_,rfl,hs.at_.cell,?_⟩;refine⟨⟨⟨_,rfl,b6⟩,trivial⟩,?_⟩
  repeat refine kO ?_
  obtain⟨c0,hbuf⟩:=hs.at_.buf;simp only[show(cU g sl.bv sl.rv).getD 3 (Value.tuple #[])=sl.bv from rfl];refine⟨_,c0,_,hbuf,?_⟩
  repeat refine kO ?_
  intro cap1 q1 q2 q3
  repeat refine kO ?_
  intro p1 lo1 cs1 hp1 hl1 hr1;have hA:Step X sl.bv (aM (aJ X sl.bv) p1 lo1 cs1) (eM p1 lo1 (g.buf.length+8) cap1):=rQ hp1;have hsA:jW (aM (aJ X sl.bv) p1 lo1 cs1) (eM p1 lo1 (g.buf.length+8) cap1) [.int .u8] (g.buf.length+8) cap1 (af cA (g.buf++JE body.length L1.next)):=by
   refine mH hl1 q1 q2 hr1 fun i hi j hj=>?_;have hj0:j=0:=by simpa using hj
   subst hj0;simp only[Nat.zero_add,aZ,af,cA,List.getD_cons_zero];by_cases hin:i<g.buf.length
   ·rw[if_pos hin,bN hin]
   ·rw[if_neg hin];obtain⟨m,rfl⟩:∃m,i=g.buf.length+m:=⟨i-g.buf.length,by omega⟩
    rw[bf,Nat.add_sub_cancel_left];have hm:m<8:=by omega
    match m,hm with
    |0,_=>rfl
    |1,_=>rfl
    |2,_=>rfl
    |3,_=>rfl
    |4,_=>rfl
    |5,_=>rfl
    |6,_=>rfl
    |7,_=>rfl
  refine⟨_,cap1,_,hsA,?_⟩
  repeat refine kO ?_
  intro cap2 q4 q5 q6
  repeat refine kO ?_
  intro p2 lo2 cs2 hp2 hl2 hr2;have hB:Step X sl.bv (aM (aJ (aM (aJ X sl.bv) p1 lo1 cs1) (eM p1 lo1 (g.buf.length+8) cap1)) p2 lo2 cs2) (eM p2 lo2 (g.buf.length+8+body.length) cap2):=hA.trans (rQ hp2);have hlb:(qY g L1.next body).length=g.buf.length+8+body.length:=by simp only[qY,List.length_append];rfl
  have hBy:fA (aM (aJ (aM (aJ X sl.bv) p1 lo1 cs1) (eM p1 lo1 (g.buf.length+8) cap1)) p2 lo2 cs2) (eM p2 lo2 (g.buf.length+8+body.length) cap2) (qY g L1.next body):=by
   refine⟨cap2,?_⟩;rw[hlb];refine mH hl2 q4 q5 hr2 fun i hi j hj=>?_;have hj0:j=0:=by simpa using hj
   subst hj0;simp only[Nat.zero_add,aZ,af,cA,List.getD_cons_zero,qY];have hl8:(g.buf++JE body.length L1.next).length=g.buf.length+8:=by rw[List.length_append];rfl
   by_cases hin:i<g.buf.length+8
   ·rw[if_pos hin,show gl (g.buf++JE body.length L1.next++body) i=gl (g.buf++JE body.length L1.next) i from bN (by rw[hl8];exact hin)]
   ·rw[if_neg hin];obtain⟨m,rfl⟩:∃m,i=g.buf.length+8+m:=⟨i-(g.buf.length+8),by omega⟩
    rw[<- hl8,bf,Nat.add_sub_cancel_left]
  obtain⟨hc2,hs3,hf3⟩:=w8 hs hB hBy;obtain⟨X2,hX2⟩:∃X2,X2=aM (aJ (aM (aJ X sl.bv) p1 lo1 cs1) (eM p1 lo1 (g.buf.length+8) cap1)) p2 lo2 cs2:=⟨_,rfl⟩
  rw[<- hX2]at hc2 hs3 hf3 ⊢;refine⟨_,_,g4,?_⟩;refine⟨_,_,rfl,?_⟩;refine⟨_,0,_,_,rfl,hc2,by simp[cU],?_⟩;obtain⟨X3,hX3⟩:∃X3,X3=aM X2 sl.b 0 (cU { g with buf:=qY g L1.next body } (eM p2 lo2 (g.buf.length+8+body.length) cap2) sl.rv):=⟨_,rfl⟩
  have eX3:aM X2 sl.b 0 (List.take 3 (cU g sl.bv sl.rv)++[Value.slice (some ⟨p2,lo2,none⟩) (g.buf.length+8+body.length) cap2]++List.drop (3+[Value.slice (some ⟨p2,lo2,none⟩) (g.buf.length+8+body.length) cap2].length) (cU g sl.bv sl.rv))=X3:=hX3.symm;rw[<- hX3]at hs3 hf3;simp only[eX3];obtain⟨sl3,hsl3⟩:∃s,s={ sl with bv:=eM p2 lo2 (g.buf.length+8+body.length) cap2 }:=⟨_,rfl⟩
  obtain⟨g3',hg3⟩:∃s:dx,s={ g with buf:=qY g L1.next body }:=⟨_,rfl⟩
  have hsw:JF g L.next body=g3':=by rw[hg3,<- h1.next];rfl
  have hb3:g3'.buf.length=g.buf.length+8+body.length:=by rw[hg3];exact hlb
  have hgen3:g3'.gen=g.gen:=by rw[hg3]
  have hv2:sl3.bv=eM p2 lo2 (g.buf.length+8+body.length) cap2:=by rw[hsl3]
  have hb3s:sl3.b=sl.b:=by rw[hsl3]
  rw[<- hsl3,<- hg3]at hs3;rw[<- hsl3]at hf3;have hcell3:=hs3.at_.cell;have hwn:=sP L1 g3' g.buf.length d1;have hsegs:=ok.au;have hroom:=ok.room;have hsize:=ok.size;have q1n:=h1.dn;have q1c:=h1.calls;have q1f:=h1.from_;have q1s:=h1.au;rw[hsw];refine⟨⟨0,?_⟩,fun i hi=>⟨fun c5=>?_,fun c5=>?_⟩⟩
  ·and_intros<;>first|exact cV|rfl|exact Nat.le_refl _|exact aj.refl _ _ _
  ·have hi8:i<8:=by have:=of_decide_eq_true c5;omega
   have em:(bif true then max 0 (((i:Int)+1)*48-6)else min 0 (((i:Int)+1)*48-6))=(bZ (i+1):Nat):=by simp only[cond_true,bZ];omega
   have em2:(bif true then max 0 ((i:Int)*48-6)else min 0 ((i:Int)*48-6))=(bZ i:Nat):=by simp only[cond_true,bZ];omega
   simp only[show(cU g sl.bv sl.rv).getD 3 (Value.tuple #[])=sl.bv from rfl,b1,em,em2];have hw1:=hwn i
   repeat refine kO ?_
   refine⟨fun c6=>?_,fun c6=>?_⟩
   ·have c6:g.buf.length<bZ (i+1):=by have:=of_decide_eq_true c6;omega
    refine⟨_,_,g4,?_⟩;refine⟨_,_,rfl,?_⟩;refine⟨_,0,_,_,rfl,by rw[<- hb3s];exact hcell3,?_⟩;refine⟨⟨⟨_,rfl,by rw[hv2];rfl⟩,trivial⟩,⟨_,_,_,hv2,Nat.le_trans q4 q5⟩,?_⟩;simp only[hv2,cU,List.getD_cons_succ,List.getD_cons_zero,O0]
    repeat refine kO ?_
    refine⟨fun c7=>?_,fun c7=>?_⟩
    ·have c7:bZ i<g.buf.length+8+body.length:=by have:=of_decide_eq_true c7;omega
     have hcond:de L1 g3' g.buf.length d1 (i+1)=gi (de L1 g3' g.buf.length d1 i) (jN L1 g3' i) 64 (pI g3' i L1.run):=by
      have:tJ g.buf.length g3'.buf.length i=true:=by simp only[tJ,Bool.and_eq_true,decide_eq_true_eq];omega
      simp only[de,this,if_true]
     refine⟨sL.mk X3 sl3 g3' i L1 Y.lv (de L1 g3' g.buf.length d1 i),?_⟩
     and_intros<;>first|exact cV|exact hs3.at_|(rw[hb3s];exact g4)|exact aj.refl _ _ _|(dsimp only;omega)|skip
     intro _ _;refine⟨by simp only[bL];omega,i+1,?_⟩;rw[hcond]
     and_intros<;>first|exact cV|exact aj.refl _ _ _|(simp only[gi];omega)|skip
    ·have c7:¬bZ i<g.buf.length+8+body.length:=by have:=of_decide_eq_false c7;omega
     have hcond:de L1 g3' g.buf.length d1 (i+1)=de L1 g3' g.buf.length d1 i:=by
      have:tJ g.buf.length g3'.buf.length i=false:=by simp only[tJ,Bool.and_eq_false_iff,decide_eq_false_iff_not];omega
      simp only[de,this];rfl
     refine⟨by simp only[bL];omega,i+1,?_⟩;rw[hcond]
     and_intros<;>first|exact cV|exact aj.refl _ _ _|skip
   ·have c6:¬g.buf.length<bZ (i+1):=by have:=of_decide_eq_false c6;omega
    have hcond:de L1 g3' g.buf.length d1 (i+1)=de L1 g3' g.buf.length d1 i:=by
     have:tJ g.buf.length g3'.buf.length i=false:=by simp only[tJ,Bool.and_eq_false_iff,decide_eq_false_iff_not];omega
     simp only[de,this];rfl
    refine⟨by simp only[bL];omega,i+1,?_⟩;rw[hcond]
    and_intros<;>first|exact cV|exact aj.refl _ _ _|skip
  ·have hi8:i=8:=by have:=of_decide_eq_false c5;omega
   subst hi8;have eD2:qK L1 d1 body=de L1 g3' g.buf.length d1 8:=by
    have:JF (jP L1) L1.next body=g3':=by rw[h1.next,<- hg];exact hsw
    unfold qK;rw[this,<- hg]
   refine⟨_,_,g4,?_⟩;refine⟨_,_,rfl,?_⟩;refine⟨_,0,_,_,rfl,by rw[<- hb3s];exact hcell3,?_⟩;obtain⟨c9,hrec⟩:=hs3.at_.aR;obtain⟨m1,m2,m3,m4,m5,_,m6⟩:=eU hrec;refine⟨⟨⟨_,rfl,m6⟩,trivial⟩,fun _ b11 hb11=>⟨fun e=>absurd (hb11 e) (by omega),fun _=>?_⟩⟩;simp only[show(cU g3' sl3.bv sl3.rv).getD 4 (Value.tuple #[])=sl3.rv from rfl,Nat.zero_add]
   repeat refine kO ?_
   intro cap3 u1 u2 u3
   repeat refine kO ?_
   intro p3 lo3 cs3 hp3 hl3 hr3;have hC:Step X3 (.slice none 0 0) (aM X3 p3 lo3 cs3) (eM p3 lo3 body.length cap3):=JH hp3;have hCb:fA (aM X3 p3 lo3 cs3) (eM p3 lo3 body.length cap3) body:=by
    refine⟨cap3,mH hl3 u1 u2 hr3 fun i hi j hj=>?_⟩;have hj0:j=0:=by simpa using hj
    subst hj0;simp only[aZ,Nat.not_lt_zero,if_false,Nat.sub_zero]
   have hx3:∀x,X3 x≠none->x≠p3:=fun x hx e=>hx (by rw[e];exact hp3);have hrec4:jW (aM X3 p3 lo3 cs3) sl3.rv rP g3'.aR.length c9 (uH g3'.aR sl3.vs):=iL hrec fun x hx=>cC (hx3 x (mD hrec x hx));refine⟨_,c9,_,hrec4,?_⟩;have hrc:=h1.aR _ hk;have hbc:=h1.buf _ hk;rw[<- hlg,<- hg]at hrc hbc;have hmr:g3'.aR.length=g.aR.length:=by rw[hg3]
   repeat refine kO ?_
   intro cap4 w1 w2 w3
   repeat refine kO ?_
   intro p4 lo4 cs4 hp4 hl4 hr4;have hD:Step (aM X3 p3 lo3 cs3) sl3.rv (aM (aJ (aM X3 p3 lo3 cs3) sl3.rv) p4 lo4 cs4) (eM p4 lo4 (g3'.aR.length+1) cap4):=rQ hp4;have hr5:jW (aM (aJ (aM X3 p3 lo3 cs3) sl3.rv) p4 lo4 cs4) (eM p4 lo4 (g3'.aR.length+1) cap4) rP (g3'.aR.length+1) cap4 (uH (g3'.aR++[⟨L1.next,body⟩]) (sl3.vs++[eM p3 lo3 body.length cap3])):=by
    refine mH hl4 w1 w2 hr4 fun i hi j hj=>?_;have hvl:=hs3.at_.len;simp only[aZ,uH,Nat.zero_add];by_cases hin:i<g3'.aR.length
    ·rw[if_pos hin,bN hin];by_cases hj0:j=0
     ·rw[if_pos hj0,if_pos hj0]
     ·rw[if_neg hj0,if_neg hj0,List.getD_eq_getElem?_getD,List.getD_eq_getElem?_getD,List.getElem?_append_left (by omega)]
    ·rw[if_neg hin];obtain rfl:i=g3'.aR.length:=by omega
     rw[Nat.sub_self];have hj2:j<2:=hj
     match j,hj2 with
     |0,_=>rw[if_pos rfl,show g3'.aR.length=g3'.aR.length+0 from rfl,bf];rfl
     |1,_=>rw[if_neg (by decide),List.getD_eq_getElem?_getD,List.getElem?_append_right (by omega),hvl,Nat.sub_self];rfl
   obtain⟨hcell4,hcell5,hnd6,hfr6⟩:=AE (r:=⟨L1.next,body⟩) hs3 hC hCb hD (fun x hx=>by
    simp only[fC,eM,List.mem_singleton]at hx;rw[hx,dF];simp) ⟨cap4,hr5⟩
   have hset:=hX.set hk (sl:=⟨sl3.b,sl3.bv,eM p4 lo4 (g3'.aR.length+1) cap4,sl3.vs++[eM p3 lo3 body.length cap3]⟩) (g:={ g3' with aR:=g3'.aR++[⟨L1.next,body⟩] }) (by rw[<- hsl];exact hb3s) hnd6 (by rw[<- hsl];exact hf3.trans hfr6);have hAll:=hset.1.congr (L':=JG L1 body) (by
    simp only[JG,N5];rw[<- hg,hg3];rfl)
   have hFr:∀z,H z≠none->z∉br y->aM (aM (aJ (aM X3 p3 lo3 cs3) sl3.rv) p4 lo4 cs4) sl3.b 0 (cU { g3' with aR:=g3'.aR++[⟨L1.next,body⟩] } sl3.bv (eM p4 lo4 (g3'.aR.length+1) cap4)) z=H z/\z∉br ⟨Y.lv,Y.ys.set (L1.l.length-1) ⟨sl3.b,sl3.bv,eM p4 lo4 (g3'.aR.length+1) cap4,sl3.vs++[eM p3 lo3 body.length cap3]⟩⟩:=fun z hz hn=>by
    obtain⟨f1,f2⟩:=hfr z hz hn;obtain⟨f3,f4⟩:=hset.2 z (by rw[f1];exact hz) f2;exact⟨f3.trans f1,f4⟩
   obtain⟨X6,hX6⟩:∃X6,X6=aM (aM (aJ (aM X3 p3 lo3 cs3) sl3.rv) p4 lo4 cs4) sl3.b 0 (cU { g3' with aR:=g3'.aR++[⟨L1.next,body⟩] } sl3.bv (eM p4 lo4 (g3'.aR.length+1) cap4)):=⟨_,rfl⟩
   rw[<- hX6]at hAll;simp only[<- hX6]at hFr;refine⟨_,_,g4,?_⟩;refine⟨_,_,rfl,?_⟩;refine⟨_,0,_,_,rfl,by rw[<- hb3s];exact hcell5,by simp[cU],fun _=>?_⟩;have q1x:=h1.next
   have eDn:(qK L1 d1 body).n=d.n/\(qK L1 d1 body).calls<=d.calls+10:=by rw[eD2];have:=hwn 8;omega
   rw[eD2]at eDn;refine⟨by simp only[bL];omega,fun hfre _=>⟨by simp only[bL];omega,de L1 g3' g.buf.length d1 8,?_⟩,fun hfre _=>⟨by simp only[bL];omega,?_⟩⟩
   ·and_intros<;>first|exact cV|exact aj.refl _ _ _|skip
    intro _ _;rw[hfre,if_pos rfl,eD2];refine⟨⟨X6,⟨Y.lv,Y.ys.set (L1.l.length-1) ⟨sl3.b,sl3.bv,eM p4 lo4 (g3'.aR.length+1) cap4,sl3.vs++[eM p3 lo3 body.length cap3]⟩⟩⟩,?_⟩
    and_intros<;>first|exact cV|exact hAll|exact hFr|(rw[hX6,hb3s];rfl)|exact Nat.le_refl _|exact aj.refl _ _ _|rfl|skip
   ·rw[hfre,if_neg (by decide),eD2];refine⟨⟨X6,⟨Y.lv,Y.ys.set (L1.l.length-1) ⟨sl3.b,sl3.bv,eM p4 lo4 (g3'.aR.length+1) cap4,sl3.vs++[eM p3 lo3 body.length cap3]⟩⟩⟩,?_⟩
    and_intros<;>first|exact cV|exact hAll|exact hFr|(rw[hX6,hb3s];rfl)|exact Nat.le_refl _|exact aj.refl _ _ _|rfl|skip)
theorem CD:ak (Y Tryz.prog).G.X 162 Bq:=aV fK LU ⟨PB,EL,iF,trivial⟩
structure mI(rs:List RecM):Prop where
 lt:∀i j,i<j->j<rs.length->(gl rs i).pos<(gl rs j).pos
 A4:∀i,i<rs.length->0<=(gl rs i).pos/\(gl rs i).pos<1000000000000
theorem uN{H:PH}{v:Value}{rs:List RecM}{vs:List Value}{n c:Nat}(h:jW H v rP n c (uH rs vs)){k:Nat}(hk:k<n):∃b lo o cs,v=eM b (lo+o) n c/\H b=some (lo,cs)/\cs[o+k*2]? = some (.int .i64 (gl rs k).pos)/\cs[o+k*2+1]? = some (vs.getD k undef) /\
 (vs.getD k undef).oneCell'=true/\bL .i64 (gl rs k).pos/\cs.getD (o+k*2) (Value.tuple #[]) = .int .i64 (gl rs k).pos/\cs.getD (o+k*2+1) (Value.tuple #[])=vs.getD k undef:=by
 rcases h with⟨_,h0,_⟩ | ⟨b,lo,o,cs,h1,h2,h3,h4,h5⟩
 ·omega
 ·obtain⟨g1,g2⟩:=h5.at_ k hk 0 (.int .i64) rfl;obtain⟨g3,g4⟩:=h5.at_ k hk 1 .deep rfl;have g1:cs[o+k*2]? = some (.int .i64 (gl rs k).pos):=g1;have g3:cs[o+k*2+1]? = some (vs.getD k undef):=g3;obtain⟨m,hm,hr⟩:=g2;have hr:bL .i64 (gl rs k).pos:=by
   have:(Value.int .i64 (gl rs k).pos) = .int .i64 m:=hm;injection this with _ e
   rw[e];exact hr
  exact⟨b,lo,o,cs,h1,h3,g1,g3,g4,hr,by rw[List.getD_eq_getElem?_getD,g1];rfl,by rw[List.getD_eq_getElem?_getD,g3];rfl⟩
structure GL where
 H:PH
 rv:Value
 rs:List RecM
 vs:List Value
 p:Int
noncomputable def XC:cD where
 α:=GL
 β:=Nat
 m:=1
 m':=1
 pre:=fun a=>(∃c,jW a.H a.rv rP a.rs.length c (uH a.rs a.vs))/\a.rs.length<=400/\mI a.rs/\0<=a.p/\a.p<1000000000000
 args:=fun a=>[.a (.val a.rv),.a (.int .i64 a.p),.a (.fn 238)]
 hp:=fun _=>[]
 ro:=fun a=>[(0,.cu a.H)]
 post:=fun a n=>n<=a.rs.length/\(∀k,k<n->(gl a.rs k).pos<a.p)/\∀k,n<=k->k<a.rs.length->a.p<=(gl a.rs k).pos
 res:=fun a n=>.l8 [.a (.int .i64 n),.a (.bool (decide (n<a.rs.length)&&decide ((gl a.rs n).pos=a.p)))]
 cT:=fun _ _=>[]
def Z8(a:GL):An:=.flat 3 (Nat×Nat) (fun s x=>(s.int 9 x.1).int 10 x.2) (fun _ x=>x.1<=x.2/\x.2<=a.rs.length/\(∀k,k<x.1->(gl a.rs k).pos<a.p)/\∀k,x.2<=k->k<a.rs.length->a.p<=(gl a.rs k).pos) (fun _ x=>x.2-x.1)
def xg(z:Nat)(x:GL)(u:Nat):=z<=x.rs.length/\(∀y:Nat,y<u->(gl x.rs y).pos<x.p)/\∀y:Nat,z<=y->y<x.rs.length->x.p<=(gl x.rs y).pos
def uO(u:Nat)(v:Value)(w:Nat->Option (Nat×List Value))(s:Nat->List Value->Prop)(t:Prop):=qh u v 2 (fun x=>w x) (fun x=>Exists (jj x)) (fun x y=>(∃z:Value,y[x+1]? = some z/\gO z)/\True) (fun x y=>s x y) t
def zx(x:Nat×Nat):Int:=oJ (cQ (aa x.fst+aa x.snd)/(2:Int))
def GM(x:GL):=(∃y:Nat,jW x.H x.rv (CK.int .i64::iN CK.deep) x.rs.length y (uH x.rs x.vs))/\x.rs.length<=400/\mI x.rs/\bg x.p 1000000000000
def CE(y:Nat)(x:GL):Bool:=decide (y<x.rs.length)&&decide ((gl x.rs y).pos=x.p)
def GN(x:GL)(y:Nat×Nat)(z:Prop):=cH (aW (cM x.rv/\aG x.p/\x.H=x.H/\(y.fst<=y.snd/\xg y.snd x y.fst)/\z))
theorem VY:fnBody (Y Tryz.prog) [] 237 XC fun a=>[(237,[Z8 a],[])]:=fnBody.of (p :=
 ∀y:GL,GM y->fD y.rv/\(∃x:Nat×Nat,bq (di y.rv) x.snd/\aC x.fst (bh (di y.rv)/\GN y x True))/\∀x:Nat×Nat,x.fst<=x.snd/\xg x.snd y x.fst->aA (aa x.fst) (aa x.snd) (ah (aa x.fst+aa x.snd)/\(0:Int)<=1/\iM y.rv (zx x) fun v w=>Exists (mF v w (aX (zx x)*2) (fun u=>y.H u) (fun u=>Exists (jj u)) (fun u s=>(∃z:Value,s[u+1]? = some z/\gO z)/\True) fun u s=>nC (jD (aS s u)) y.p (aA (qS (jD (aS s u)-y.p) (-1:Int) 1) 0 (ah (zx x+(1:Int))/\∃z:Nat×Nat,bq x.snd z.snd/\zx x+(1:Int)=aa z.fst/\bh (di y.rv)/\GN y z (z.snd-z.fst<x.snd-x.fst)) (∃z:Nat×Nat,zx x=aa z.snd/\bq x.fst z.fst/\bh (di y.rv)/\GN y z (z.snd-z.fst<x.snd-x.fst))))) (uO x.fst y.rv (fun v=>y.H v) (fun v w=>nC (jD (aS w v)) y.p (∃u:Nat,bq x.fst u/\(qS (jD (aS w v)-y.p) (-1:Int) 1 == (0:Int))=CE u y/\xg u y u/\True)) (∃v:Nat,bq x.fst v/\fL (CE v y) (xg v y v) True))) (by kernel_rfl) (by
 delta aO aS ah az aG bB o7 aQ aa mF bg aD dO aX fL cM fD qh cH gO xg cQ iM aC aW aA uO zx GM bh iN bq CE qS nC GN jj oJ
 try dsimp -iota -proj only
 rintro⟨H,rv,rs,vs,p⟩ ⟨⟨c,hs⟩,h1,⟨h2,h2'⟩,h3,h4⟩;dsimp only at *;obtain⟨e1,_,_,e4,_,⟨ea,e2⟩,_⟩:=eU hs;refine⟨⟨ea,_,_,e2,by omega⟩,⟨(0,rs.length),?_⟩,fun x hx=>?_⟩
 ·rw[e1]
  (repeat' (first|apply And.intro|(intro _)))<;>first|exact cV|(exfalso;dsimp only at *;omega)
 ·obtain⟨i,j⟩:=x;obtain⟨x1,x2,x3,x4⟩:=hx;dsimp only at *;have hmid:uw .i64 (uw .u64 ((i:Int)+j)/2)=(((i+j)/2:Nat):Int):=by
   have e1:uw .u64 ((i:Int)+j)=(i:Int)+j:=by simp only[uw];omega
   rw[e1];have e2:((i:Int)+j)/2=(((i+j)/2:Nat):Int):=by omega
   rw[e2];exact fc (k:=.i64) (by simp only[bL];omega)
  refine⟨fun c1=>?_,fun c1=>?_⟩
  ·have c1:i<j:=by have:=of_decide_eq_true c1;omega
   obtain⟨m,hm⟩:∃m,m=(i+j)/2:=⟨_,rfl⟩
   rw[hmid,<- hm];have hmi:i<=m/\m<j:=by omega
   obtain⟨b,lo,o,cs,g1,g2,g3,g4,g5,g6,g7,g8⟩:=uN hs (k:=m) (by omega);have hr:=h2' m (by omega);refine⟨by simp only[bL];omega,by omega,_,_,_,_,g1,by omega,b,lo,o+m*2,cs,by rw[Int.toNat_natCast,Nat.add_assoc],g2,⟨⟨_,g3,_,rfl,g6⟩,⟨_,g4,g5⟩,trivial⟩,fun _=>?_⟩;rw[g7];simp only[jD,cond_true,cond_false];refine⟨by simp only[bL];omega,fun c2=>⟨by simp only[bL];omega,(m+1,j),?_⟩,fun c2=>⟨(i,m),?_⟩⟩
   ·have c2:=of_decide_eq_true c2;have hlt:(gl rs m).pos<p:=by omega
    (repeat' (first|apply And.intro|(intro _)))<;>first|exact cV|skip
    ·rename_i k hk;by_cases hkm:k=m
     ·rw[hkm];exact hlt
     ·have:=h2 k m (by dsimp only at hk;omega) (by omega);omega
    ·rename_i k hk1 hk2;exact x4 k hk1 hk2
   ·have c2:=of_decide_eq_false c2;have hge:p<=(gl rs m).pos:=by omega
    (repeat' (first|apply And.intro|(intro _)))<;>first|exact cV|skip
    ·rename_i k hk;exact x3 k hk
    ·rename_i k hk1 hk2;by_cases hkm:k=m
     ·rw[hkm];exact hge
     ·have:=h2 m k (by dsimp only at hk1;omega) hk2;omega
  ·have c1:i=j:=by have:=of_decide_eq_false c1;omega
   subst c1;rw[e1];refine⟨fun c2=>?_,fun c2=>⟨i,?_⟩⟩
   ·have c2:i<rs.length:=by have:=of_decide_eq_true c2;omega
    obtain⟨b,lo,o,cs,g1,g2,g3,g4,g5,g6,g7,g8⟩:=uN hs (k:=i) c2;have hr:=h2' i c2;refine⟨_,_,_,_,g1,by omega,b,lo,o+i*2,cs,by rw[Int.toNat_natCast,Nat.add_assoc],g2,⟨⟨_,g3,_,rfl,g6⟩,⟨_,g4,g5⟩,trivial⟩,fun _=>?_⟩;rw[g7];simp only[jD,cond_true,cond_false];refine⟨by simp only[bL];omega,i,?_⟩;have hb:(min (max ((gl rs i).pos-p) (-1)) 1 == 0)=(decide (i<rs.length)&&decide ((gl rs i).pos=p)):=by
     rw[Bool.eq_iff_iff];simp only[beq_iff_eq,Bool.and_eq_true,decide_eq_true_eq];omega
    (repeat' (first|apply And.intro|(intro _)))<;>first|exact cV|exact hb|(rename_i k hk;exact x3 k hk)|(rename_i k hk1 hk2;exact x4 k hk1 hk2)
   ·have c2:¬i<rs.length:=by have:=of_decide_eq_false c2;omega
    have hb:false=(decide (i<rs.length)&&decide ((gl rs i).pos=p)):=by simp[c2]
    (repeat' (first|apply And.intro|(intro _)))<;>first|exact cV|exact hb|(rename_i k hk;exact x3 k hk)|(rename_i k hk1 hk2;exact x4 k hk1 hk2))
theorem VZ:ak (Y Tryz.prog).G.X 237 XC:=aV fK VY trivial
def wh(rs:List RecM)(p:Int):Option (List Int):=(rs.find? fun r=>decide (r.pos=p)).map (·.body)
def gf(l:List dx)(p:Int):Option (List Int):=l.findSome? fun g=>wh g.aR p
def AG(o:Option (List Int)):Int:=match o with|some _=>0|none=>9
theorem N6{α:Type}[Inhabited α]{l:List α}{k:Nat}(h:k<l.length):l.drop k=gl l k::l.drop (k+1):=by
 rw[bR h];exact List.drop_eq_getElem_cons h
theorem N7{α:Type}[Inhabited α]{q:α->Bool}:∀ {l:List α} {n:Nat},n<l.length->q (gl l n)=true->(∀k,k<n->q (gl l k)=false)->l.find? q=some (gl l n)
 |[],n,h,_,_=>by simp at h
 |x::l,0,_,h,_=>by
  have h:q x=true:=h;simp[List.find?_cons,h,gl]
 |x::l,n+1,hn,h,hk=>by
  have h0:q x=false:=hk 0 (by omega);have e:∀m,gl (x::l) (m+1)=gl l m:=fun m=>by simp[gl]
  rw[e]at h ⊢;rw[List.find?_cons,h0];exact N7 (by simpa using hn) h fun k hkn=>by have:=hk (k+1) (by omega);rwa[e]at this
theorem V0{α:Type}[Inhabited α]{q:α->Bool}{l:List α}(h:∀k,k<l.length->q (gl l k)=false):l.find? q=none:=by
 rw[List.find?_eq_none];intro x hx;obtain⟨i,hi,rfl⟩:=List.getElem_of_mem hx;have:=h i hi;rw[bR hi]at this;simp[this]
structure JK where
 H:PH
 y:gP
 L:bP
 p:Int
noncomputable def LV:cD where
 α:=JK
 β:=Nat
 m:=3
 m':=4
 pre:=fun a=>bT a.H a.y a.L/\a.L.l.length<1000/\0<=a.p/\a.p<1000000000000/\∀i,i<a.L.l.length->mI (gl a.L.l i).aR/\(gl a.L.l i).aR.length<=400/\∀k,k<(gl a.L.l i).aR.length->1<=(gl (gl a.L.l i).aR k).body.length/\(gl (gl a.L.l i).aR k).body.length<=1000
 args:=fun a=>[.a (.ptr 0 0 0 0),.a (.int .i64 a.p)]
 hp:=fun _=>[]
 ro:=fun a=>[(0,fo 2 a.L a.y.lv),(1,.cu a.H)]
 post:=fun a c=>((gf a.L.l a.p).getD []).length<=c
 res:=fun a c=>.l8 [.a (.slc 3 0 1 ((gf a.L.l a.p).getD []).length c),.a (.int .i64 (AG (gf a.L.l a.p)))]
 cT:=fun a c=>ji 3 ((gf a.L.l a.p).getD [])
def XD(a:JK):An:=.flat 4 Nat (fun s k=>s.int 17 k) (fun _ k=>k<=a.L.l.length/\gf (a.L.l.drop k) a.p=gf a.L.l a.p) (fun _ k=>a.L.l.length-k)
def dY(x y:Prop):=ag (x/\ag y)
def oM(x:bP)(y:Nat):Nat:=(gl x.l y).aR.length
def xh(x:bP)(y:Nat):=oM x y<=400/\∀z:Nat,z<oM x y->gR (gl (gl x.l y).aR z).body 1000
def sS(x:JK):List Int:=(gf x.L.l x.p).getD []
def jk(x:Value)(y:Prop):=bh (di x)/\cM x/\y
def GO(x:JK):=bz x.L<1000/\(0:Int)<=x.p/\x.p<(1000000000000:Int)/\∀y:Nat,y<bz x.L->mI (gl x.L.l y).aR/\xh x.L y
def GP(y:Nat)(x:JK):=gf (List.drop y x.L.l) x.p=gf x.L.l x.p
def CF(x:Value)(v:Prop)(w:PH)(s:Nat->(Nat->Nat->Value)->Prop):=(∃y:Option Go.Addr,∃u z:Nat,x=Value.slice y u z)/\aO (DY x) v (0<=0/\Exists (jG w x (CK.int .u8) [] fun y u z=>s y z))
theorem PC:fnBody (Y Tryz.prog) [(237,XC)] 213 LV fun a=>[(213,[XD a],[])]:=fnBody.of (p :=
 ∀x:JK,bT x.H x.y x.L/\GO x->fD x.y.lv/\(∃z:Nat,aC z (jk x.y.lv (cH (aW (dY (aG x.p) (fq x.L x.y (x.H=x.H/\(z<=bz x.L/\GP z x)/\True)))))))/\∀z:Nat,z<=bz x.L/\GP z x->qh z x.y.lv 1 (fun u=>x.H u) (fun u=>gO u) (fun u f=>True) (fun u f=>ga (aS f u) 4 (fun g=>x.H g) fun g n=>∃v:GL,aS n g=v.rv/\x.p=v.p/\x.H=v.H/\GM v/\∀t:Nat,xg t v t->aO (CE t v) (ga (aS f u) 4 (fun w=>x.H w) fun w o=>iM (aS o w) (aa t) fun q r=>∃h i:Nat,pv q (r+az t*2)=pv h i/\Exists (mF h i 1 (fun s=>x.H s) (fun s=>gO s) (fun s j=>True) fun s j=>CF (aS j s) (Exists (Ck (av (sS x)) 0 (AG (gf x.L.l x.p)))) x.H fun k c=>gF 0 k 1 0 fun d=>∃m:Nat,dJ (0+k) (av (sS x)) d m ((0:Int)=AG (gf x.L.l x.p)) 1 (uD c) (af cA (sS x)) (av (sS x)<=m/\True))) (bY z fun w=>jk x.y.lv (cH (aW (dY (aG x.p) (fq x.L x.y (x.H=x.H/\dP w (bz x.L) (GP w x) z))))))) (Exists (Ck (av (sS x)) 9 (AG (gf x.L.l x.p))))) (by kernel_rfl) (by
 delta aO aS av aL kr ah az aG gF bB aQ aY aa kq mF dP bg aD aX dY cM fD qh cH bz dJ gO xg fq xh bY jG iM sS aC aW jk ag aA ga GM aP bh gR iN CE GO Ck oM GP CF uD
 try dsimp -iota -proj only
 rintro⟨H,y,L,p⟩ ⟨hl,h1,h2,h3,h4⟩;dsimp only at *;obtain⟨e1,_,⟨ea,ec,e2⟩,e3,_⟩:=hl.qX;refine⟨⟨ea,_,ec,e2,e3⟩,⟨0,?_⟩,fun k hk=>?_⟩
 ·and_intros<;>first|exact cV|rfl
 ·obtain⟨hk1,hk2⟩:=hk;rw[e1];refine⟨fun c1=>?_,fun c1=>⟨0,?_⟩⟩
  ·have hk:k<L.l.length:=by have:=of_decide_eq_true c1;omega
   obtain⟨b,lo,o,c,cs,g1,g2,g3,g4⟩:=hl.at_ hk;have hs:=hl.seg k hk;obtain⟨hso,hrl,hbl⟩:=h4 k hk;obtain⟨c9,hrec⟩:=hs.aR;obtain⟨m1,m2,m3,m4,m5,⟨ma,m7⟩,m6⟩:=eU hrec;rw[N6 hk]at hk2;simp only[gf,List.findSome?_cons]at hk2;refine⟨_,_,_,_,g1,by omega,b,lo,o+k*1,cs,by rw[Int.toNat_natCast,Nat.add_assoc],g2,⟨⟨_,g3,rfl⟩,trivial⟩,?_⟩;refine⟨_,_,g4,?_⟩;refine⟨_,_,rfl,?_⟩;refine⟨_,0,_,_,rfl,hs.cell,?_⟩;refine⟨⟨⟨_,rfl,m6⟩,trivial⟩,GL.mk H (gl y.ys k).rv (gl L.l k).aR (gl y.ys k).vs p,?_⟩
   and_intros<;>first|exact cV|rfl|exact⟨c9,hrec⟩|exact hso|skip
   rintro n ⟨n1,n2,n3⟩;dsimp only at n1 n2 n3 ⊢;refine⟨fun c2=>?_,fun c2=>⟨by simp only[bL];omega,k+1,?_⟩⟩
   ·simp only[Bool.and_eq_true,decide_eq_true_eq]at c2;obtain⟨c2,c3⟩:=c2;have hfind:wh (gl L.l k).aR p=some (gl (gl L.l k).aR n).body:=by
     unfold wh;rw[N7 (q:=fun(r:RecM)=>decide (r.pos=p)) c2 (by simp[c3]) fun q hq=>by have:=n2 q hq;simp;omega];rfl
    have hread:gf L.l p=some (gl (gl L.l k).aR n).body:=by
     rw[hfind]at hk2;simp only[gf];exact hk2.symm
    rw[hread];obtain⟨b',lo',o',cs',q1,q2,q3,q4,q5,q6,q7,q8⟩:=uN hrec (k:=n) c2;obtain⟨cb,hbody⟩:=hs.body n c2;obtain⟨w1,w2,w3,w4,w5,⟨wa,w7⟩,w6⟩:=eU hbody;obtain⟨hb1,hb2⟩:=hbl n c2;refine⟨_,_,g4,?_⟩;refine⟨_,_,rfl,?_⟩;refine⟨_,0,_,_,rfl,hs.cell,?_⟩;refine⟨⟨⟨_,rfl,m6⟩,trivial⟩,_,_,_,_,q1,by omega,_,_,rfl,b',lo',o'+n*2+1,cs',by rw[Int.toNat_natCast];congr 1;omega,q2,⟨⟨_,q4,q5⟩,trivial⟩,?_⟩;rw[q8];have hnil:DY ((gl y.ys k).vs.getD n undef)=false:=by
     rcases hbody with⟨_,h0,_⟩ | ⟨b9,lo9,o9,cs9,h9,_⟩
     ·omega
     ·rw[h9];rfl
    refine⟨⟨wa,_,_,w7⟩,fun c4=>absurd c4 (by rw[hnil];decide),fun _=>?_⟩
    repeat refine kO ?_
    refine⟨_,cb,_,hbody,?_⟩
    repeat refine kO ?_
    intro cap u1 u2 u3;refine⟨cap,?_⟩;have hrw:aj (gl (gl L.l k).aR n).body.length 1 (aZ (aN 1 []) 0 0 (af cA (gl (gl L.l k).aR n).body)) (af cA (gl (gl L.l k).aR n).body):=⟨fun i hi j hj=>by
     simp only[aZ,Nat.not_lt_zero,if_false,Nat.sub_zero]⟩
    simp only[Nat.zero_add,Option.getD_some,AG]
    and_intros<;>first|exact cV|exact hrw
   ·have hnone:wh (gl L.l k).aR p=none:=by
     unfold wh;rw[V0 (q:=fun(r:RecM)=>decide (r.pos=p)) fun q hq=>?_]
     ·rfl
     ·simp only[decide_eq_false_iff_not];intro e;rcases Nat.lt_or_ge q n with hqn|hqn
      ·have:=n2 q hqn;omega
      ·by_cases hqe:q=n
       ·subst hqe;simp[hq,e]at c2
       ·have:=hso.lt n q (by omega) hq;have:=n3 n (Nat.le_refl _) (by omega);omega
    rw[hnone]at hk2
    and_intros<;>first|exact cV|exact hk2
  ·have hkn:k=L.l.length:=by have:=of_decide_eq_false c1;omega
   subst hkn;rw[List.drop_length]at hk2;have:gf L.l p=none:=hk2.symm;rw[this]
   and_intros<;>first|exact cV|rfl)
def iW(l:List dx)(next:Int):Int:=match l.find? (fun g=>decide (0<g.aR.length))with|some g=>(gl g.aR 0).pos|none=>next
structure Ea where
 H:PH
 y:gP
 L:bP
noncomputable def CG:cD where
 α:=Ea
 β:=Unit
 m:=3
 m':=3
 pre:=fun a=>bT a.H a.y a.L/\a.L.l.length<1000
 args:=fun a=>[.a (.ptr 0 0 0 0)]
 hp:=fun _=>[]
 ro:=fun a=>[(0,fo 2 a.L a.y.lv),(1,.cu a.H)]
 post:=fun _ _=>True
 res:=fun a _=>.a (.int .i64 (iW a.L.l a.L.next))
 cT:=fun _ _=>[]
def XF(a:Ea):An:=.flat 4 Nat (fun s k=>s.int 12 k) (fun _ k=>k<=a.L.l.length/\iW (a.L.l.drop k) a.L.next=iW a.L.l a.L.next) (fun _ k=>a.L.l.length-k)
def uP(x y:Int):=ah x->bQ (x=y)
def GQ(y:Nat)(x:Ea):=iW (List.drop y x.L.l) x.L.next=iW x.L.l x.L.next
theorem PD:fnBody (Y Tryz.prog) [] 164 CG fun a=>[(164,[XF a],[])]:=fnBody.of (p :=
 ∀x:Ea,bT x.H x.y x.L/\bz x.L<1000->fD x.y.lv/\(∃z:Nat,aC z (jk x.y.lv (cH (aW (ax (fq x.L x.y (x.H=x.H/\(z<=bz x.L/\GQ z x)/\True)))))))/\∀z:Nat,z<=bz x.L/\GQ z x->qh z x.y.lv 1 (fun u=>x.H u) (fun u=>gO u) (fun u s=>True) (fun u s=>ga (aS s u) 4 (fun t=>x.H t) fun t i=>wZ (aS i t) (ga (aS s u) 4 (fun v=>x.H v) fun v j=>iM (aS j v) 0 fun k m=>∃f g:Nat,pv k (m+0)=pv f g/\Exists (mF f g 0 (fun w=>x.H w) (fun w=>Exists (jj w)) (fun w h=>True) fun w h=>uP (jD (aS h w)) (iW x.L.l x.L.next))) (bY z fun v=>jk x.y.lv (cH (aW (ax (fq x.L x.y (x.H=x.H/\dP v (bz x.L) (GQ v x) z))))))) (uP x.L.next (iW x.L.l x.L.next))) (by kernel_rfl) (by
 delta aO aS kr ah bW az aG bB aQ aY aa kq mF dP bg aD dO aX cM fD qh cH bQ bz gO fq bY ay iM aC aW jk ag aA ga aP bh ax bp uP GQ jj wZ
 try dsimp -iota -proj only
 rintro⟨H,y,L⟩ ⟨hl,h1⟩;dsimp only at *;obtain⟨e1,_,⟨ea,ec,e2⟩,e3,_⟩:=hl.qX;refine⟨⟨ea,_,ec,e2,e3⟩,⟨0,?_⟩,fun k hk=>?_⟩
 ·and_intros<;>first|exact cV|rfl
 ·obtain⟨hk1,hk2⟩:=hk;rw[e1];refine⟨fun c1=>?_,fun c1 _=>⟨(),?_⟩⟩
  ·have hk:k<L.l.length:=by have:=of_decide_eq_true c1;omega
   obtain⟨b,lo,o,c,cs,g1,g2,g3,g4⟩:=hl.at_ hk;have hs:=hl.seg k hk;obtain⟨c9,hrec⟩:=hs.aR;obtain⟨m1,m2,m3,m4,m5,⟨ma,m7⟩,m6⟩:=eU hrec;rw[N6 hk]at hk2;simp only[iW,List.find?_cons]at hk2;refine⟨_,_,_,_,g1,by omega,b,lo,o+k*1,cs,by rw[Int.toNat_natCast,Nat.add_assoc],g2,⟨⟨_,g3,rfl⟩,trivial⟩,?_⟩;refine⟨_,_,g4,?_⟩;refine⟨_,_,rfl,?_⟩;refine⟨_,0,_,_,rfl,hs.cell,?_⟩;refine⟨⟨⟨_,rfl,m6⟩,trivial⟩,⟨ma,_,_,m7,by omega⟩,?_⟩;simp only[show(cU (gl L.l k) (gl y.ys k).bv (gl y.ys k).rv).getD 4 (Value.tuple #[])=(gl y.ys k).rv from rfl,m1];refine⟨fun c2=>?_,fun c2=>⟨by simp only[bL];omega,k+1,?_⟩⟩
   ·have c2:0<(gl L.l k).aR.length:=by have:=of_decide_eq_true c2;omega
    obtain⟨b',lo',o',cs',q1,q2,q3,q4,q5,q6,q7,q8⟩:=uN hrec (k:=0) c2;rw[decide_eq_true c2]at hk2;refine⟨_,_,g4,?_⟩;refine⟨_,_,rfl,?_⟩;refine⟨_,0,_,_,rfl,hs.cell,?_⟩;refine⟨⟨⟨_,rfl,m6⟩,trivial⟩,_,_,_,_,q1,by omega,_,_,rfl,b',lo',o',cs',rfl,q2,⟨⟨_,q3,_,rfl,q6⟩,trivial⟩,fun _=>⟨(),?_⟩⟩;have q7':cs'.getD o' (Value.tuple #[]) = .int .i64 (gl (gl L.l k).aR 0).pos:=q7;rw[q7']
    and_intros<;>first|exact cV|exact hk2
   ·have c2:¬0<(gl L.l k).aR.length:=by have:=of_decide_eq_false c2;omega
    rw[decide_eq_false c2]at hk2
    and_intros<;>first|exact cV|exact hk2
  ·have hkn:k=L.l.length:=by have:=of_decide_eq_false c1;omega
   subst hkn;rw[List.drop_length]at hk2
   and_intros<;>first|exact cV|exact hk2)
theorem PE:ak (Y Tryz.prog).G.X 213 LV:=aV fK PC ⟨VZ,trivial⟩
theorem zy:ak (Y Tryz.prog).G.X 164 CG:=aV fK PD trivial
def gB(f:Nat->Int)(r len:Nat):Int:=jK (fun k=>f (r+k)) len
def sU(i:Nat):Nat:=if i=0 then 22 else 16
def ql(g:dx)(i:Nat)(f:Nat->Int):dx:=if i=0 then { g with gen:=uw .i64 (gB f 4 6),base:=uw .i64 (gB f 16 6) }else g
def fO(g:dx)(i:Nat)(f:Nat->Int):Bool :=
 (vT f == gB f 0 4)&&((uw .i64 (gB f 4 6) == (ql g i f).gen)&&(!decide (uw .i64 (gB f 10 4)<g.run)&&((f 14 == (i:Int))&&(decide (f 15<=ko i)&&decide (g.buf.length=bZ i)))))
def gG(g:dx)(i:Nat)(f:Nat->Int):dx :=
 if fO g i f then { ql g i f with run:=uw .i64 (gB f 10 4),buf:=g.buf++(List.range (f 15).toNat).map fun k=>f (sU i+k) }else ql g i f
theorem sV{X:PH}{y:mC}{g g':dx}(h:fM X y g)(hb:g'.buf=g.buf)(hr:g'.aR=g.aR)(hg:bL .i64 g'.gen/\bL .i64 g'.base/\bL .i64 g'.run) :
 fM (aM X y.b 0 (cU g' y.bv y.rv)) y g'/\Fr X y (aM X y.b 0 (cU g' y.bv y.rv)) y:=by
 obtain⟨⟨n1,n2,n3⟩,_⟩:=Cw.1 h.nd;refine⟨⟨⟨dF ..,hg,?_,?_,by rw[hr];exact h.at_.len,fun i hi=>?_⟩,h.nd⟩,fun x hx hn=>⟨cC fun e=>hn (by rw[e];exact List.mem_cons_self),hn⟩⟩
 ·rw[hb];exact h.at_.buf.frame fun x hx=>cC fun e=>n1 (by rw[<- e];exact hx)
 ·rw[hr];obtain⟨c,hc⟩:=h.at_.aR;exact⟨c,iL hc fun x hx=>cC fun e=>n2 (by rw[<- e];exact hx)⟩
 ·rw[hr]at hi ⊢;refine(h.at_.body i hi).frame fun x hx=>cC fun e=>n3 ?_;rw[<- e];refine List.mem_flatMap.2 ⟨_,?_,hx⟩;have:=h.at_.len;rw[List.getD_eq_getElem?_getD,List.getElem?_eq_getElem (by omega)];exact List.getElem_mem _
structure yg where
 H:PH
 y:mC
 g:dx
 i:Nat
 f:Nat->Int
 cap:Nat
structure AH where
 H:PH
 y:mC
noncomputable def SR:cD where
 α:=yg
 β:=AH
 m:=2
 m':=3
 pre:=fun a=>fM a.H a.y a.g/\a.i<8/\a.g.buf.length<=378/\64<=a.cap/\(fO a.g a.i a.f=true->0<a.f 15)
 args:=fun a=>[.a (.val (pv a.y.b 0)),.a (.int .i64 a.i),.a (.slc 1 0 1 64 a.cap)]
 hp:=fun a=>[(0,.cu a.H)]
 ro:=fun a=>[(1,.arr 5 [.int .u8] 64 (bO a.f))]
 post:=fun a b=>fM b.H b.y (gG a.g a.i a.f)/\b.y.b=a.y.b/\b.y.rv=a.y.rv/\Fr a.H a.y b.H b.y
 res:=fun a _=>.a (.bool (fO a.g a.i a.f))
 cT:=fun _ b=>[(2,.cu b.H)]
def S.cu(s:S)(H:PH):S:=(s.put (s.hp.del (EO s))).new (.cu H)
def XG(a:yg):An:=.mk 5 PH (fun s H=>S.cu (s.set 7 (.a (.slc (s.tg 2) (sU a.i) 1 (ko a.i) (a.cap-sU a.i)))) H) (fun _ H=>fM H a.y (ql a.g a.i a.f)/\Fr a.H a.y H a.y) (fun _ _=>0) fun _=>.mk 1000 [] []
def ri(x:vS):Int:=oJ (qR x x.len)
def AI(x:Nat)(y:List Value)(z:vS):List Value:=zu x y (bu (ri z) [])
def CH(z:AH)(x:yg):=fM z.H z.y (gG x.g x.i x.f)/\z.y.b=x.y.b/\z.y.rv=x.y.rv/\Fr x.H x.y z.H z.y
def xk(z:Bool)(x:yg)(u:PH)(v:Prop):=aO z (∃y:AH,fL (fO x.g x.i x.f) (u=y.H) (CH y x/\True)) v
def uQ(y z u v:Nat)(w:Nat->Int)(s:vS->Prop):vS->Prop:=fun(x:vS)=>(y=x.r/\z=x.len/\u-v=x.cap)/\aL x.n 64 1 (bO w) x.rows/\(x.r+x.len<=x.n/\x.len<=8)/\aI (s x)
def LW(u:Nat)(x:yg)(v w s:Nat)(t:PH):PH->Prop:=fun(z:PH)=>(u=sU x.i/\v=ko x.i/\w-s=x.cap-sU x.i)/\cH (cM (pv x.y.b 0)/\bh x.i/\bD 64 x.cap/\t=z/\dN 64 1 (bO x.f)/\(fM z x.y (ql x.g x.i x.f)/\Fr x.H x.y z x.y)/\True)
def GR(x:yg):=fM x.H x.y x.g/\x.i<8/\av x.g.buf<=378/\64<=x.cap/\(aD (fO x.g x.i x.f)->(0:Int)<x.f 15)
theorem SS:fnBody (Y Tryz.prog) [(230,Jt),(203,Sq)] 231 SR fun a=>[(231,[],[XG a])]:=fnBody.of (p :=
 ∀x:yg,GR x->cI 16 64/\aO (aa x.i == (0:Int)) (cI 10 (aa x.cap)/\cI 4 10/\cI 6 (aa (x.cap-16))/\Exists (uQ 4 6 x.cap 4 x.f fun z=>Exists (uQ 16 6 (x.cap-16) 0 x.f fun G=>Exists (oL (pv x.y.b 0) 0 (fun v=>x.H v) (A.int .i64 (ri z)) fun v u t w=>Exists (oL (pv x.y.b 0) 1 (fun h=>aM x.H v u (AI t w z) h) (A.int .i64 (ri G)) fun h B j C=>cI 6 48/\Exists (LW 22 x 42 (x.cap-16) 6 (aM (aM x.H v u (AI t w z)) h B (AI j C G)))))))) (Exists (LW 16 x 48 x.cap 16 x.H))/\∀z:PH,fM z x.y (ql x.g x.i x.f)/\Fr x.H x.y z x.y->cI 14 (aa x.cap)/\cI 10 14/\Exists (uQ 10 4 x.cap 10 x.f fun v=>cI 4 64/\cI 4 (aa x.cap)/\∃u:y8,bW 1 (1=u.c)/\(4=u.r/\60=u.len/\x.cap-4=u.cap)/\aL u.n 64 1 (bO x.f) u.rows/\(u.r+u.len<=u.n/\u.len<100000)/\aI (Exists (uQ 0 4 x.cap 0 x.f fun t=>xk (uA u u.len != qR t t.len) x z (cI 10 (aa x.cap)/\cI 4 10/\iw (pv x.y.b 0) 0 (fun w=>z w) fun w h=>Exists (uQ 4 6 x.cap 4 x.f fun B=>xk (ri B != jD (aS h w)) x z (iw (pv x.y.b 0) 2 (fun j=>z j) fun j C=>xk (aQ (ri v) (jD (aS C j))) x z (bg 14 64/\14<64/\(jE (x.f 14)->xk (x.f 14 != aa x.i) x z (bg 15 64/\15<64/\(jE (x.f 15)->xk (aQ (aa (ko x.i)) (x.f 15)) x z (ga (pv x.y.b 0) 3 (fun l=>z l) fun l I=>fD (aS I l)/\oI (aa x.i*(48:Int)) 6 (xk (aa (di (aS I l)) != o7 true 0 (aa x.i*(48:Int)-6)) x z (Exists (oL (pv x.y.b 0) 2 (fun s=>z s) (A.int .i64 (ri v)) fun s m o p=>ga (pv x.y.b 0) 3 (fun k=>aM z s m (AI o p v) k) fun k D=>bg 15 64 /\
 15<64/\(jE (x.f 15)->cI (x.f 15) (aa (x.cap-sU x.i))/\uM (aM z s m (AI o p v)) (aS D k) .u8 [] (sU x.i+0+(aX (x.f 15)-0)) 64 (aX (x.f 15)-0) 1 1 (fun q E=>fk (x.f (sU x.i+0+q))) fun q E d e J=>Exists (oL (pv x.y.b 0) 3 (fun F=>aM (aJ (aM z s m (AI o p v)) (aS D k)) d e J F) (A.val (eM d e (q+(aX (x.f 15)-0)) E)) fun F L M N=>∃K:AH,true=fO x.g x.i x.f/\aM (aM (aJ (aM z s m (AI o p v)) (aS D k)) d e J) F L (jw M N d e q (aX (x.f 15)-0) E)=K.H/\CH K x/\True))))))))))))))))) (by kernel_rfl) (by
 delta aO aS av aL kr ah bu jw bW aG gF bB o7 aQ aa kq cI bH fk bg aD dO aX fL bM cM dN AF fD aI AI bD cH xk gO iw oL jG ri uQ uM ag uA zu ga CH bh qR oI jE LW GR jj uz qj oJ
 try dsimp -iota -proj only
 rintro⟨H,y,g,i,f,cap⟩ ⟨hs,hi,hlen,hcap,hpos⟩;dsimp only at *;have eG:∀r len,jK (fun i=>u8 (bO f) (r+i)) len=gB f r len:=fun _ _=>rfl;have eS:dz .xor .u32 4294967295 (qF (fun i=>u8 (bO f) (4+i)) 60)=vT f:=rfl;obtain⟨rg1,rg2,rg3⟩:=hs.at_.A4
 repeat refine kO ?_
 refine⟨⟨fun c1=>?_,fun c1=>?_⟩,?_⟩
 ·have hi0:i=0:=by simpa using c1
  subst hi0
  repeat refine kO ?_
  refine⟨vS.mk 4 6 (cap-4) 64 (bO f),?_⟩
  and_intros<;>first|exact cV|skip
  intro _ _;refine⟨vS.mk 16 6 (cap-16-0) 64 (bO f),?_⟩
  and_intros<;>first|exact cV|skip
  intro _ _;dsimp only;simp only[eG];have s1:=sV (g':={ g with gen:=uw .i64 (gB f 4 6) }) hs rfl rfl ⟨r8 _ _,rg2,rg3⟩;have s2:=sV (g':={ g with gen:=uw .i64 (gB f 4 6),base:=uw .i64 (gB f 16 6) }) s1.1 rfl rfl ⟨r8 _ _,r8 _ _,rg3⟩;refine⟨_,_,rfl,?_⟩;refine⟨_,_,rfl,?_⟩;refine⟨_,0,_,_,rfl,hs.at_.cell,by simp[cU],?_⟩;refine⟨_,_,rfl,?_⟩;refine⟨_,_,rfl,?_⟩;refine⟨_,0,_,_,rfl,s1.1.at_.cell,by simp[cU],?_⟩
  repeat refine kO ?_
  refine⟨aM (aM H y.b 0 (cU { g with gen:=uw .i64 (gB f 4 6) } y.bv y.rv)) y.b 0 (cU { g with gen:=uw .i64 (gB f 4 6),base:=uw .i64 (gB f 16 6) } y.bv y.rv),?_⟩
  and_intros<;>first|exact cV|exact s2.1|exact s1.2.trans s2.2|rfl|(simp only[sU,if_true];omega)|skip
 ·have hi0:i≠0:=by simpa using c1
  refine⟨H,?_⟩;have hg:ql g i f=g:=if_neg hi0;rw[hg]
  and_intros<;>first|exact cV|exact hs|exact fun x _ hn=>⟨rfl,hn⟩|(simp only[sU,ko,if_neg hi0];done)|skip
 ·rintro X ⟨hX,hfr⟩;obtain⟨g1,hg1⟩:∃g1,g1=ql g i f:=⟨_,rfl⟩
  have eb:g1.buf=g.buf:=by rw[hg1];unfold ql;split<;>rfl
  have er:g1.run=g.run:=by rw[hg1];unfold ql;split<;>rfl
  rw[<- hg1]at hX;obtain⟨rx1,rx2,rx3⟩:=hX.at_.A4;obtain⟨b1,b2,b3,b4,⟨ba,bc,b5⟩,b6⟩:=hX.at_.buf.len;have hcell:=hX.at_.cell
  repeat refine kO ?_
  refine⟨vS.mk 10 4 (cap-10) 64 (bO f),?_⟩
  and_intros<;>first|exact cV|skip
  intro _ _;dsimp only;simp only[eG]
  repeat refine kO ?_
  refine⟨y8.mk 1 4 60 (cap-4) 64 (bO f),?_⟩
  and_intros<;>first|exact cV|skip
  intro _ _;refine⟨vS.mk 0 4 (cap-0) 64 (bO f),?_⟩
  and_intros<;>first|exact cV|skip
  intro _ _;dsimp only;simp only[eG,eS];refine⟨fun c1=>?_,fun c1=>?_⟩
  ·have hF:fO g i f=false:=by
    unfold fO;rw[<- hg1];have:(vT f == gB f 0 4)=false:=by simpa using c1
    rw[this];rfl
   refine⟨⟨X,y⟩,?_⟩;rw[hF,show gG g i f=g1 by unfold gG;rw[hF];exact hg1.symm]
   and_intros<;>first|exact cV|exact hX.at_|exact hX|exact hfr|rfl
  ·have k1:(vT f == gB f 0 4)=true:=by simpa using c1
   repeat refine kO ?_
   refine⟨_,_,rfl,?_⟩;refine⟨_,_,rfl,?_⟩;refine⟨_,0,_,_,rfl,hcell,?_⟩;refine⟨⟨⟨_,rfl,_,rfl,rx1⟩,trivial⟩,fun _=>⟨vS.mk 4 6 (cap-4) 64 (bO f),?_⟩⟩
   and_intros<;>first|exact cV|skip
   intro _ _;dsimp only;simp only[eG,cU,List.getD_cons_zero,jD];refine⟨fun c2=>?_,fun c2=>?_⟩
   ·have hF:fO g i f=false:=by
     unfold fO;rw[<- hg1];have:(uw .i64 (gB f 4 6) == g1.gen)=false:=by simpa using c2
     rw[this,Bool.false_and,Bool.and_false]
    refine⟨⟨X,y⟩,?_⟩;rw[hF,show gG g i f=g1 by unfold gG;rw[hF];exact hg1.symm]
    and_intros<;>first|exact cV|exact hX.at_|exact hX|exact hfr|rfl
   ·have k2:(uw .i64 (gB f 4 6) == g1.gen)=true:=by simpa using c2
    refine⟨_,_,rfl,?_⟩;refine⟨_,_,rfl,?_⟩;refine⟨_,0,_,_,rfl,hcell,?_⟩;refine⟨⟨⟨_,rfl,_,rfl,rx3⟩,trivial⟩,fun _=>?_⟩;simp only[cU,List.getD_cons_zero,List.getD_cons_succ,jD];refine⟨fun c3=>?_,fun c3=>?_⟩
    ·have hF:fO g i f=false:=by
      unfold fO;rw[<- hg1];rw[<- er,c3,k1,k2];simp
     refine⟨⟨X,y⟩,?_⟩;rw[hF,show gG g i f=g1 by unfold gG;rw[hF];exact hg1.symm]
     and_intros<;>first|exact cV|exact hX.at_|exact hX|exact hfr|rfl
    ·repeat refine kO ?_
     intro rg14;refine⟨fun c4=>?_,fun c4=>?_⟩
     ·have hF:fO g i f=false:=by
       unfold fO;rw[<- hg1];have:(f 14 == (i:Int))=false:=by simpa using c4
       rw[this,Bool.false_and,Bool.and_false,Bool.and_false,Bool.and_false]
      refine⟨⟨X,y⟩,?_⟩;rw[hF,show gG g i f=g1 by unfold gG;rw[hF];exact hg1.symm]
      and_intros<;>first|exact cV|exact hX.at_|exact hX|exact hfr|rfl
     ·have k4:(f 14 == (i:Int))=true:=by simpa using c4
      repeat refine kO ?_
      intro rg15;refine⟨fun c5=>?_,fun c5=>?_⟩
      ·have hF:fO g i f=false:=by
        unfold fO;rw[<- hg1];have c5:=of_decide_eq_true c5;have:decide (f 15<=ko i)=false:=by simp;omega
        rw[this,Bool.false_and,Bool.and_false,Bool.and_false,Bool.and_false,Bool.and_false]
       refine⟨⟨X,y⟩,?_⟩;rw[hF,show gG g i f=g1 by unfold gG;rw[hF];exact hg1.symm]
       and_intros<;>first|exact cV|exact hX.at_|exact hX|exact hfr|rfl
      ·have k5:decide (f 15<=ko i)=true:=by have:=of_decide_eq_false c5;simp;omega
       refine⟨_,_,rfl,?_⟩;refine⟨_,_,rfl,?_⟩;refine⟨_,0,_,_,rfl,hcell,?_⟩;refine⟨⟨⟨_,rfl,b6⟩,trivial⟩,⟨ba,_,bc,b5,b3⟩,?_⟩
       repeat refine kO ?_
       simp only[cU,List.getD_cons_zero,List.getD_cons_succ,b1];have em2:(bif true then max 0 ((i:Int)*48-6)else min 0 ((i:Int)*48-6))=(bZ i:Nat):=by simp only[cond_true,bZ];omega
       rw[em2];refine⟨fun c6=>?_,fun c6=>?_⟩
       ·have hF:fO g i f=false:=by
         unfold fO;rw[<- hg1];have c6:g1.buf.length≠bZ i:=by intro e;rw[e]at c6;simp at c6
         have:decide (g.buf.length=bZ i)=false:=by rw[<- eb];simpa using c6
         rw[this,Bool.and_false,Bool.and_false,Bool.and_false,Bool.and_false,Bool.and_false]
        refine⟨⟨X,y⟩,?_⟩;rw[hF,show gG g i f=g1 by unfold gG;rw[hF];exact hg1.symm]
        and_intros<;>first|exact cV|exact hX.at_|exact hX|exact hfr|rfl
       ·have k6:g1.buf.length=bZ i:=by
         have:(g1.buf.length:Int)=(bZ i:Nat):=by simpa using c6
         omega
        have hT:fO g i f=true:=by
         unfold fO;rw[<- hg1,k1,k2,<- er,c3,k4,k5,<- eb,k6];simp
        have s1:=sV (g':={ g1 with run:=uw .i64 (gB f 10 4) }) hX rfl rfl ⟨rx1,rx2,r8 _ _⟩;obtain⟨X1,hX1⟩:∃X1,X1=aM X y.b 0 (cU { g1 with run:=uw .i64 (gB f 10 4) } y.bv y.rv):=⟨_,rfl⟩
        rw[<- hX1]at s1;have hf15:(f 15).toNat<=ko i:=by have:=of_decide_eq_true k5;omega
        have hroom:sU i+ko i=64:=by unfold sU ko;split<;>rfl
        have hroom2:ko i<=48:=by unfold ko;split<;>omega
        refine⟨_,_,rfl,?_⟩;refine⟨_,_,rfl,?_⟩;refine⟨_,0,_,_,rfl,hcell,by simp[cU],?_⟩;simp only[show aM X y.b 0 (List.take 2 (cU g1 y.bv y.rv)++[Value.int .i64 (uw .i64 (gB f 10 4))]++List.drop (2+[Value.int .i64 (uw .i64 (gB f 10 4))].length) (cU g1 y.bv y.rv))=X1 from hX1.symm];refine⟨_,_,rfl,?_⟩;refine⟨_,_,rfl,?_⟩;refine⟨_,0,_,_,rfl,s1.1.at_.cell,?_⟩;refine⟨⟨⟨_,rfl,b6⟩,trivial⟩,?_⟩
        repeat refine kO ?_
        intro _;obtain⟨c0,hbuf⟩:=s1.1.at_.buf;simp only[bL]at rg15;have hp15:=hpos hT;simp only[show(cU { g1 with run:=uw .i64 (gB f 10 4) } y.bv y.rv).getD 3 (Value.tuple #[])=y.bv from rfl]
        repeat refine kO ?_
        refine⟨_,c0,_,hbuf,?_⟩;dsimp only;rw[eb]
        repeat refine kO ?_
        intro cap1 q1 q2 q3
        repeat refine kO ?_
        intro p1 lo1 cs1 hp1 hl1 hr1;have hB:Step X1 y.bv (aM (aJ X1 y.bv) p1 lo1 cs1) (eM p1 lo1 (g.buf.length+((f 15).toNat-0)) cap1):=rQ hp1;have hlb:(g.buf++(List.range (f 15).toNat).map fun k=>f (sU i+k)).length=g.buf.length+((f 15).toNat-0):=by simp
        have hBy:fA (aM (aJ X1 y.bv) p1 lo1 cs1) (eM p1 lo1 (g.buf.length+((f 15).toNat-0)) cap1) (g.buf++(List.range (f 15).toNat).map fun k=>f (sU i+k)):=by
         refine⟨cap1,?_⟩;rw[hlb];refine mH hl1 q1 q2 hr1 fun k hk j hj=>?_;have hj0:j=0:=by simpa using hj
         subst hj0;simp only[Nat.zero_add,aZ,af,cA,List.getD_cons_zero];by_cases hin:k<g.buf.length
         ·rw[if_pos hin,bN hin]
         ·rw[if_neg hin];obtain⟨m,rfl⟩:∃m,k=g.buf.length+m:=⟨k-g.buf.length,by omega⟩
          rw[bf,Nat.add_sub_cancel_left];have:gl ((List.range (f 15).toNat).map fun k=>f (sU i+k)) m=f (sU i+m):=by
           rw[bR (by simp;omega)];simp
          rw[this,Nat.add_zero]
        obtain⟨hc2,hs3,hf3⟩:=w8 s1.1 hB hBy;refine⟨_,_,rfl,?_⟩;refine⟨_,_,rfl,?_⟩;refine⟨_,0,_,_,rfl,hc2,by simp[cU],?_⟩;have hM:gG g i f={ g1 with run:=uw .i64 (gB f 10 4),buf:=g.buf++(List.range (f 15).toNat).map fun k=>f (sU i+k) }:=by
         unfold gG;rw[if_pos hT,<- hg1]
        refine⟨⟨aM (aM (aJ X1 y.bv) p1 lo1 cs1) y.b 0 (cU { g1 with run:=uw .i64 (gB f 10 4),buf:=g.buf++(List.range (f 15).toNat).map fun k=>f (sU i+k) } (eM p1 lo1 (g.buf.length+((f 15).toNat-0)) cap1) y.rv),{ y with bv:=eM p1 lo1 (g.buf.length+((f 15).toNat-0)) cap1 }⟩,?_⟩;rw[hT,hM];refine And.intro (by first|trivial|rfl) (And.intro rfl (And.intro ⟨hs3,rfl,rfl,?_⟩ trivial));exact(hfr.trans s1.2).trans hf3)
theorem SU:ak (Y Tryz.prog).G.X 231 SR:=aV fK SS ⟨Bn,Gh,trivial⟩
structure uR where
 H:PH
 v:Value
 len:Nat
 c:Nat
 rows:Nat->Nat->Value
noncomputable def SX:cD where
 α:=uR
 β:=Unit
 m:=1
 m':=1
 pre:=fun a=>jW a.H a.v [.int .u8] a.len a.c a.rows/\a.len<=8
 args:=fun a=>[.a (.val a.v)]
 hp:=fun _=>[]
 ro:=fun a=>[(0,.cu a.H)]
 post:=fun _ _=>True
 res:=fun a _=>.a (.int .u64 (jK (fun i=>u8 a.rows i) a.len))
 cT:=fun _ _=>[]
def Y6(a:uR):An:=.flat 3 Nat (fun s k=>(s.set 3 (.a (.int .u64 (jK (fun i=>u8 a.rows i) k)))).int 8 k) (fun _ k=>k<=a.len) (fun _ k=>a.len-k)
def uS(x:uR)(y:Nat):Int:=jK (fun z=>u8 x.rows z) y
def GS(x:uR):=jW x.H x.v (iN (CK.int .u8)) x.len x.c x.rows/\x.len<=8
theorem SY:fnBody (Y Tryz.prog) [] 230 SX fun a=>[(230,[Y6 a],[])]:=fnBody.of (p :=
 ∀x:uR,GS x->fD x.v/\(∃y:Nat,aC y ((0:Int)=uS x y/\jk x.v (aW (cM x.v/\x.H=x.H/\y<=x.len/\True))))/\∀y:Nat,y<=x.len->qh y x.v 1 (fun z=>x.H z) (fun z=>∃u:Int,z=fk u/\jE u) (fun z u=>True) (fun z u=>jE (jD (aS u z))->(0:Int)<=8/\bY y fun w=>dz .or .u64 (cQ (uS x y*(256:Int))) (jD (aS u z))=uS x w/\jk x.v (aW (cM x.v/\x.H=x.H/\bS w x.len y))) (bQ (uS x y=uS x x.len))) (by kernel_rfl) (by
 delta aO aS ah az aG aQ aY aa mF fk bg aD aX cM fD qh bQ bS bY cQ ay iM aC aW jk aA aP bh iN bp jE uS GS
 try dsimp -iota -proj only
 rintro⟨H,v,len,c,rows⟩ ⟨hs,h1⟩;dsimp only at *;obtain⟨e1,_,e3,e4,_,⟨ea,e2⟩,_⟩:=eU hs;refine⟨⟨ea,_,_,e2,by omega⟩,⟨0,?_⟩,fun k hk=>⟨fun c1=>?_,fun c1=>⟨(),?_⟩⟩⟩
 ·and_intros<;>first|exact cV|rfl
 ·rw[e1]at c1;have hk:k<len:=by have:=of_decide_eq_true c1;omega
  rcases hs with⟨_,h0,_⟩ | ⟨b,lo,o,cs,g1,g2,g3,g4,g5⟩
  ·omega
  ·obtain⟨q1,m,q2,q3⟩:=g5.at_ k hk 0 (.int .u8) rfl;have q1:cs[o+k*1]? = some (rows k 0):=q1;have q4:cs.getD (o+k*1) (Value.tuple #[])=rows k 0:=by rw[List.getD_eq_getElem?_getD,q1];rfl
   refine⟨_,_,_,_,g1,by omega,b,lo,o+k*1,cs,by rw[Int.toNat_natCast,Nat.add_assoc],g3,⟨⟨_,q1,m,q2,q3⟩,trivial⟩,fun _=>?_⟩;rw[q4];refine⟨by omega,by simp only[bL];omega,k+1,?_⟩
   and_intros<;>first|exact cV|rfl
 ·have hk:k=len:=by rw[e1]at c1;have:=of_decide_eq_false c1;omega
  subst hk
  and_intros<;>first|exact cV|rfl)
theorem SZ:ak (Y Tryz.prog).G.X 230 SX:=aV fK SY trivial
def GU(buf:List Int)(at_:Nat):Int:=uw .i64 (jK (fun k=>gl buf (at_+k)) 2)
def Y7(buf:List Int)(at_:Nat):Int:=uw .i64 (jK (fun k=>gl buf (at_+2+k)) 6)
def rR(buf:List Int)(at_:Nat):Bool:=decide (at_+8<=buf.length)&&(decide (1<=GU buf at_)&&(decide (GU buf at_<=300)&&decide ((at_:Int)+8+GU buf at_<=buf.length)))
def recAt(buf:List Int)(at_:Nat):RecM:=⟨Y7 buf at_,(buf.drop (at_+8)).take (GU buf at_).toNat⟩
def eV(buf:List Int):Nat->Nat->List RecM×Nat
 |0,at_=>([],at_)
 |k+1,at_=>if rR buf at_ then(recAt buf at_::(eV buf k (at_+8+(GU buf at_).toNat)).1,(eV buf k (at_+8+(GU buf at_).toNat)).2)else([],at_)
def yh(g:dx):dx:={ g with aR:=(eV g.buf 50 0).1,buf:=g.buf.take (eV g.buf 50 0).2 }
structure tK where
 H:PH
 y:mC
 g:dx
noncomputable def CI:cD where
 α:=tK
 β:=AH
 m:=1
 m':=2
 pre:=fun a=>fM a.H a.y a.g/\a.g.buf.length<=378/\a.g.aR=[]
 args:=fun a=>[.a (.val (pv a.y.b 0))]
 hp:=fun a=>[(0,.cu a.H)]
 ro:=fun _=>[]
 post:=fun a b=>fM b.H b.y (yh a.g)/\b.y.b=a.y.b/\Fr a.H a.y b.H b.y
 res:=fun _ _=>.l8 []
 cT:=fun _ b=>[(1,.cu b.H)]
structure ng where
 H:PH
 y:mC
 rs:List RecM
 at_:Nat
 k:Nat
def Y8(a:tK):An:=.flat 1 ng (fun s x=>S.cu (s.int 2 x.at_) x.H) (fun _ x=>fM x.H x.y { a.g with aR:=x.rs }/\x.y.b=a.y.b/\Fr a.H a.y x.H x.y/\x.at_<=a.g.buf.length/\a.g.buf.length<x.at_+9*x.k/\x.rs++(eV a.g.buf x.k x.at_).1=(eV a.g.buf 50 0).1/\(eV a.g.buf x.k x.at_).2=(eV a.g.buf 50 0).2/\x.rs.length*9<=x.at_) (fun _ x=>a.g.buf.length-x.at_)
def XH(a:tK):An:=.mk 7 ng (fun s x=>S.cu (s.int 2 x.at_) x.H) (fun _ x=>fM x.H x.y { a.g with aR:=(eV a.g.buf 50 0).1 }/\x.y.b=a.y.b/\Fr a.H a.y x.H x.y/\x.at_<=a.g.buf.length/\x.at_=(eV a.g.buf 50 0).2) (fun _ _=>0) fun _=>.mk 1000 [] []
def LX(z:ng)(x:tK)(u:List RecM)(v:Prop):=fM z.H z.y { gen:=x.g.gen,base:=x.g.base,run:=x.g.run,buf:=x.g.buf,aR:=u }/\z.y.b=x.y.b/\Fr x.H x.y z.H z.y/\z.at_<=av x.g.buf/\v
def N8(x:ng)(y:tK):=LX x y x.rs (av y.g.buf<x.at_+9*x.k/\x.rs++(eV y.g.buf x.k x.at_).fst=(eV y.g.buf 50 0).fst/\(eV y.g.buf x.k x.at_).snd=(eV y.g.buf 50 0).snd/\x.rs.length*9<=x.at_)
def qm(x:uR):Int:=oJ (uS x x.len)
def GV(f:Value)(u:PH)(s:Value)(t:Int)(g:Nat->Nat->Nat->Nat->List Value->Prop)(h:Nat->Option (Nat×List Value))(i:Nat->Nat->List Value->Nat->Nat->Nat->Nat->List Value->Prop):=CF f (uM u s .i64 (iN CK.deep) 1 1 1 32 2 (fun x y=>aN 2 (bu t (bH gd)) (0+x) y) fun x y z v w=>g x y z v w) u fun x y=>CB x (fun z=>h z) y u s t fun z v w j k l m n=>i z v w j k l m n
def LY(y:ng)(x:tK):=LX y x (eV x.g.buf 50 0).fst (y.at_=(eV x.g.buf 50 0).snd)
def LZ(x:tK)(f:PH)(h:List Value)(i z u:Nat)(j:List Value)(k l:Nat)(w:uR)(s:ng):Nat->Prop:=oL (pv x.y.b 0) 4 (fun t=>aM (aJ f (aS h i)) z u j t) (A.val (eM z u (k+1) l)) fun t m n o=>ah ((8:Int)+qm w)/\ah (aa s.at_+((8:Int)+qm w))/\∃v:ng,aa s.at_+((8:Int)+qm w)=aa v.at_/\cM (pv x.y.b 0)/\aM (aM (aJ f (aS h i)) z u j) t m (jw n o z u k 1 l)=v.H/\N8 v x/\av x.g.buf-v.at_<av x.g.buf-s.at_
def L0(x:ng)(z:Int)(u:List Value)(w:Nat)(s:Int)(t:Nat)(f:uR->Prop):=ah (aa x.at_+z)/\FK (aS u w)/\wQ (aa x.at_+z) (jt (aS u w)) s (∃y:uR,sJ u w t (aX (aa x.at_+z))=y.v/\x.H=y.H/\GS y/\aI (f y))
def GW(z:ng)(u:tK):=∃x:ng,bq z.at_ x.at_/\cM (pv u.y.b 0)/\z.H=x.H/\LY x u/\True
def uT(z:tK)(u:Nat)(v:ng)(w:Nat->List Value->Prop):=ga (pv z.y.b 0) u (fun x=>v.H x) fun x s=>w x s
theorem JL:fnBody (Y Tryz.prog) [(230,SX)] 232 CI fun a=>[(232,[Y8 a],[XH a])]:=fnBody.of (p :=
 ∀z:tK,fM z.H z.y z.g/\av z.g.buf<=378/\z.g.aR=[]->((∃x:ng,aC x.at_ (cM (pv z.y.b 0)/\z.H=x.H/\N8 x z/\True))/\∀x:ng,N8 x z->uT z 3 x fun w s=>fD (aS s w)/\sN (aa (di (aS s w))-aa x.at_) 8 (uT z 3 x fun t h=>L0 x 2 h t (aa x.at_) (az x.at_) fun u=>uT z 3 x fun i v=>ah (aa x.at_+(2:Int))/\L0 x 8 v i (aa x.at_+(2:Int)) (aX (aa x.at_+(2:Int))) fun d=>gC (aQ (qm u) 1) (GW x z) (aQ 300 (qm u)) (uT z 3 x fun j k=>fD (aS k j)/\oI (aa (di (aS k j))-aa x.at_) 8 (aA (aa (di (aS k j))-aa x.at_-(8:Int)) (qm u) (GW x z) (uT z 4 x fun l m=>uT z 3 x fun n o=>ah (aa x.at_+(8:Int))/\nB (aa x.at_+(8:Int)) (qm u) (FK (aS o n)/\wQ (aa x.at_+(8:Int)+qm u) (jt (aS o n)) (aa x.at_+(8:Int)) (GV (sJ o n (aX (aa x.at_+(8:Int))) (aX (aa x.at_+(8:Int)+qm u))) x.H (aS m l) (qm d) (fun f p q r c=>Exists (LZ z x.H m l q r c f p u x)) (fun f=>x.H f) fun f p q r c e B C=>Exists (LZ z (aM x.H f p q) m l e B C r c u x))))))) (GW x z))/\∀x:ng,LY x z->uT z 3 x fun w s=>FK (aS s w)/\lP x.at_ (jt (aS s w))/\Exists (oL (pv z.y.b 0) 3 (fun t=>x.H t) (A.val (sJ s w 0 (az x.at_))) fun t h u i=>∃v:AH,aM x.H t h (zu u i (bH (sJ s w 0 (az x.at_))))=v.H /\
 (fM v.H v.y (yh z.g)/\v.y.b=z.y.b/\Fr z.H z.y v.H v.y)/\True)) (by kernel_rfl) (by
 delta aO aS av kr ah bu jw az gF aQ aa kq cI bH aD dO aX bM cM gC AF fD aI N8 gO qm GV gd LY oL jG aC uM cR aA CB LZ L0 nB zu ga iN bq oI GW wQ uT uS sN LX lP qj sJ CF GS oJ
 try dsimp -iota -proj only
 rintro⟨H,y,g⟩ ⟨hs,hlen,hnil⟩;dsimp only at *;refine⟨⟨⟨⟨H,y,[],0,50⟩,?_⟩,?_⟩,?_⟩
 ·have hs':fM H y { g with aR:=[] }:=by rw[<- hnil];exact hs
  and_intros<;>first|exact cV|exact hs'|exact fun x _ hn=>⟨rfl,hn⟩|rfl|skip
 ·rintro⟨X,Y,rs,at_,k⟩ ⟨hX,hb,hfr,h1,h2,h3,h4,h5⟩;dsimp only at *;have hcell:X y.b=some (0,cU { g with aR:=rs } Y.bv Y.rv):=by rw[<- hb];exact hX.at_.cell
  obtain⟨b1,b2,b3,b4,⟨ba,bc,b5⟩,b6⟩:=hX.at_.buf.len;have b1:di Y.bv=g.buf.length:=b1;have b4:g.buf.length<=jt Y.bv:=b4;have hbuf:fA X Y.bv g.buf:=hX.at_.buf;have pstop:rR g.buf at_=false->rs=(eV g.buf 50 0).1/\at_=(eV g.buf 50 0).2:=fun hR=>by
   have:eV g.buf k at_=([],at_):=by
    cases k with
    |zero=>rfl
    |succ k=>unfold eV;rw[hR];rfl
   rw[this]at h3 h4;exact⟨by simpa using h3,h4⟩
  have e3:(cU { g with aR:=rs } Y.bv Y.rv).getD 3 (Value.tuple #[])=Y.bv:=rfl;have e4:(cU { g with aR:=rs } Y.bv Y.rv).getD 4 (Value.tuple #[])=Y.rv:=rfl;have eN:jK (fun i=>u8 (fun i=>af cA g.buf (at_+i)) i) 2=jK (fun k=>gl g.buf (at_+k)) 2:=rfl;have eP:jK (fun i=>u8 (fun i=>af cA g.buf (at_+2+i)) i) 6=jK (fun k=>gl g.buf (at_+2+k)) 6:=rfl;refine⟨_,_,rfl,?_⟩;refine⟨_,_,rfl,?_⟩;refine⟨_,0,_,_,rfl,hcell,?_⟩;refine⟨⟨⟨_,rfl,b6⟩,trivial⟩,⟨ba,_,bc,b5,b3⟩,?_⟩;simp only[e3,b1];refine⟨by simp only[bL];omega,fun c1=>?_,fun c1=>?_⟩
  ·have c1:at_+8<=g.buf.length:=by have:=of_decide_eq_true c1;omega
   have w1:((at_:Int)+2).toNat=at_+2:=by omega
   have w2:((at_:Int)+8).toNat=at_+8:=by omega
   have cut1:=hbuf.cut (a:=at_) (e:=at_+2) (by omega) (by omega);rw[show at_+2-at_=2 by omega]at cut1;have cut2:=hbuf.cut (a:=at_+2) (e:=at_+8) (by omega) (by omega);rw[show at_+8-(at_+2)=6 by omega]at cut2;refine⟨_,_,rfl,?_⟩;refine⟨_,_,rfl,?_⟩;refine⟨_,0,_,_,rfl,hcell,?_⟩;refine⟨⟨⟨_,rfl,b6⟩,trivial⟩,?_⟩;simp only[e3,w1,Int.toNat_natCast]
   repeat refine kO ?_
   refine⟨uR.mk X (mY 1 Y.bv at_ (at_+2) (jt Y.bv)) 2 (jt Y.bv-at_) (fun i=>af cA g.buf (at_+i)),rfl,rfl,⟨cut1,by show 2<=8;omega⟩,fun _ _=>?_⟩;dsimp only;refine⟨_,_,rfl,?_⟩;refine⟨_,_,rfl,?_⟩;refine⟨_,0,_,_,rfl,hcell,?_⟩;refine⟨⟨⟨_,rfl,b6⟩,trivial⟩,?_⟩;simp only[e3,w1,w2,eN]
   repeat refine kO ?_
   refine⟨uR.mk X (mY 1 Y.bv (at_+2) (at_+8) (jt Y.bv)) 6 (jt Y.bv-(at_+2)) (fun i=>af cA g.buf (at_+2+i)),rfl,rfl,⟨cut2,by show 6<=8;omega⟩,fun _ _=>?_⟩;dsimp only;simp only[eP];rw[show uw .i64 (jK (fun k=>gl g.buf (at_+k)) 2)=GU g.buf at_ from rfl,show uw .i64 (jK (fun k=>gl g.buf (at_+2+k)) 6)=Y7 g.buf at_ from rfl];obtain⟨N,hN⟩:∃N,N=GU g.buf at_:=⟨_,rfl⟩
   rw[<- hN];have hNr:bL .i64 N:=by rw[hN];exact r8 _ _
   refine⟨fun c2=>?_,fun c2=>⟨fun c3=>?_,fun c3=>?_⟩⟩
   ·have c2:=of_decide_eq_true c2;refine⟨ng.mk X Y rs at_ 0,?_⟩;have hR:rR g.buf at_=false:=by unfold rR;rw[<- hN,show decide (1<=N)=false from decide_eq_false (by omega)];simp
    obtain⟨hp1,hp2⟩:=pstop hR
    and_intros<;>first|exact cV|(rw[<- hp1];exact hX)|exact hfr|exact hb|exact hp2
   ·have c3:=of_decide_eq_true c3;refine⟨ng.mk X Y rs at_ 0,?_⟩;have hR:rR g.buf at_=false:=by unfold rR;rw[<- hN,show decide (N<=300)=false from decide_eq_false (by omega)];simp
    obtain⟨hp1,hp2⟩:=pstop hR
    and_intros<;>first|exact cV|(rw[<- hp1];exact hX)|exact hfr|exact hb|exact hp2
   ·have c2:=of_decide_eq_false c2;have c3:=of_decide_eq_false c3;refine⟨_,_,rfl,?_⟩;refine⟨_,_,rfl,?_⟩;refine⟨_,0,_,_,rfl,hcell,?_⟩;refine⟨⟨⟨_,rfl,b6⟩,trivial⟩,⟨ba,_,bc,b5,b3⟩,?_⟩;simp only[e3,b1]
    repeat refine kO ?_
    refine⟨fun c4=>?_,fun c4=>?_⟩
    ·have c4:=of_decide_eq_true c4;refine⟨ng.mk X Y rs at_ 0,?_⟩;have hR:rR g.buf at_=false:=by unfold rR;rw[<- hN,show decide ((at_:Int)+8+N<=g.buf.length)=false from decide_eq_false (by omega)];simp
     obtain⟨hp1,hp2⟩:=pstop hR
     and_intros<;>first|exact cV|(rw[<- hp1];exact hX)|exact hfr|exact hb|exact hp2
    ·have c4:=of_decide_eq_false c4;have hR:rR g.buf at_=true:=by
      unfold rR;rw[<- hN];simp only[Bool.and_eq_true,decide_eq_true_eq];omega
     obtain⟨nn,rfl⟩:∃nn:Nat,N=nn:=⟨N.toNat,by omega⟩
     have w3:((at_:Int)+8+nn).toNat=at_+8+nn:=by omega
     obtain⟨c9,hrec⟩:=hX.at_.aR;have hrec:jW X Y.rv rP rs.length c9 (uH rs Y.vs):=hrec;obtain⟨m1,m2,m3,m4,m5,_,m6⟩:=eU hrec;have cut3:=hbuf.cut (a:=at_+8) (e:=at_+8+nn) (by omega) (by omega);rw[show at_+8+nn-(at_+8)=nn by omega]at cut3;obtain⟨_,_,_,_,_,⟨za,zs⟩,_⟩:=eU cut3;have hnz:DY (mY 1 Y.bv (at_+8) (at_+8+nn) (jt Y.bv))=false:=by
      rcases cut3 with⟨_,h0,_⟩ | ⟨b9,lo9,o9,cs9,h9,_⟩
      ·omega
      ·rw[h9];rfl
     refine⟨_,_,rfl,?_⟩;refine⟨_,_,rfl,?_⟩;refine⟨_,0,_,_,rfl,hcell,?_⟩;refine⟨⟨⟨_,rfl,m6⟩,trivial⟩,?_⟩;refine⟨_,_,rfl,?_⟩;refine⟨_,_,rfl,?_⟩;refine⟨_,0,_,_,rfl,hcell,?_⟩;refine⟨⟨⟨_,rfl,b6⟩,trivial⟩,?_⟩;simp only[e3,e4,w2,w3]
     repeat refine kO ?_
     refine⟨⟨za,_,_,zs⟩,fun c5=>absurd c5 (by rw[hnz];decide),fun _=>?_⟩
     repeat refine kO ?_
     refine⟨_,_,_,cut3,?_⟩;simp only[Nat.zero_add]
     repeat refine kO ?_
     intro cap3 u1 u2 u3
     repeat refine kO ?_
     intro p3 lo3 cs3 hp3 hl3 hr3;obtain⟨r,hr⟩:∃r,r=recAt g.buf at_:=⟨_,rfl⟩
     have hrb:r.body.length=nn:=by
      rw[hr];simp only[recAt,<- hN];simp;omega
     have hC:Step X (.slice none 0 0) (aM X p3 lo3 cs3) (eM p3 lo3 nn cap3):=JH hp3;have hCb:fA (aM X p3 lo3 cs3) (eM p3 lo3 nn cap3) r.body:=by
      refine⟨cap3,?_⟩;rw[hrb];refine mH hl3 u1 u2 hr3 fun i hi j hj=>?_;have hj0:j=0:=by simpa using hj
      subst hj0;simp only[aZ,Nat.not_lt_zero,if_false,Nat.sub_zero,af,cA,List.getD_cons_zero];have:gl r.body i=gl g.buf (at_+8+i):=by
       rw[hr];simp only[recAt,<- hN,gl];rw[List.getD_eq_getElem?_getD,List.getElem?_take_of_lt (by simpa using hi),List.getElem?_drop,List.getD_eq_getElem?_getD]
      rw[this]
     have hx3:∀x,X x≠none->x≠p3:=fun x hx e=>hx (by rw[e];exact hp3);have hrec4:jW (aM X p3 lo3 cs3) Y.rv rP rs.length c9 (uH rs Y.vs):=iL hrec fun x hx=>cC (hx3 x (mD hrec x hx));refine⟨_,c9,_,hrec4,?_⟩
     repeat refine kO ?_
     intro cap4 v1 v2 v3
     repeat refine kO ?_
     intro p4 lo4 cs4 hp4 hl4 hr4;have hD:Step (aM X p3 lo3 cs3) Y.rv (aM (aJ (aM X p3 lo3 cs3) Y.rv) p4 lo4 cs4) (eM p4 lo4 (rs.length+1) cap4):=rQ hp4;have hvl:Y.vs.length=rs.length:=hX.at_.len;have hr5:jW (aM (aJ (aM X p3 lo3 cs3) Y.rv) p4 lo4 cs4) (eM p4 lo4 (rs.length+1) cap4) rP (rs.length+1) cap4 (uH (rs++[r]) (Y.vs++[eM p3 lo3 nn cap3])):=by
      refine mH hl4 v1 v2 hr4 fun i hi j hj=>?_;simp only[aZ,uH,Nat.zero_add];by_cases hin:i<rs.length
      ·rw[if_pos hin,bN hin];by_cases hj0:j=0
       ·rw[if_pos hj0,if_pos hj0]
       ·rw[if_neg hj0,if_neg hj0,List.getD_eq_getElem?_getD,List.getD_eq_getElem?_getD,List.getElem?_append_left (by omega)]
      ·rw[if_neg hin];obtain rfl:i=rs.length:=by omega
       rw[Nat.sub_self];have hj2:j<2:=hj
       match j,hj2 with
       |0,_=>rw[if_pos rfl,show rs.length=rs.length+0 from rfl,bf,hr];rfl
       |1,_=>rw[if_neg (by decide),List.getD_eq_getElem?_getD,List.getElem?_append_right (by omega),hvl,Nat.sub_self];rfl
     obtain⟨hcell4,hcell5,hnd6,hfr6⟩:=AE (r:=r) hX hC hCb hD (fun x hx=>by
      simp only[fC,eM,List.mem_singleton]at hx;rw[hx,dF];simp) ⟨cap4,hr5⟩
     have hpk:∃k',k=k'+1:=by
      cases k with
      |zero=>omega
      |succ k=>exact⟨k,rfl⟩
     obtain⟨k',rfl⟩:=hpk;have hps:eV g.buf (k'+1) at_=(r::(eV g.buf k' (at_+8+nn)).1,(eV g.buf k' (at_+8+nn)).2):=by
      have e:(GU g.buf at_).toNat=nn:=by rw[<- hN];rfl
      rw[hr];show(if rR g.buf at_=true then _ else _)=_;rw[if_pos hR,e]
     rw[hps]at h3 h4;refine⟨_,_,rfl,?_⟩;refine⟨_,_,rfl,?_⟩;refine⟨_,0,_,_,rfl,by rw[<- hb];exact hcell5,by simp[cU],?_⟩
     repeat refine kO ?_
     refine⟨⟨aM (aM (aJ (aM X p3 lo3 cs3) Y.rv) p4 lo4 cs4) Y.b 0 (cU { g with aR:=rs++[r] } Y.bv (eM p4 lo4 (rs.length+1) cap4)),⟨Y.b,Y.bv,eM p4 lo4 (rs.length+1) cap4,Y.vs++[eM p3 lo3 nn cap3]⟩,rs++[r],at_+8+nn,k'⟩,?_⟩;have hnd7:fM (aM (aM (aJ (aM X p3 lo3 cs3) Y.rv) p4 lo4 cs4) Y.b 0 (cU { g with aR:=rs++[r] } Y.bv (eM p4 lo4 (rs.length+1) cap4))) ⟨Y.b,Y.bv,eM p4 lo4 (rs.length+1) cap4,Y.vs++[eM p3 lo3 nn cap3]⟩ { g with aR:=rs++[r] }:=hnd6;have h3':rs++[r]++(eV g.buf k' (at_+8+nn)).1=(eV g.buf 50 0).1:=by rw[<- h3,List.append_assoc];rfl
     dsimp only
     and_intros<;>first|exact cV|exact hnd7|exact hb|exact hfr.trans hfr6|exact h3'|exact h4|(rw[<- hb];rfl)|(rw[List.length_append,List.length_singleton];omega)|skip
  ·have c1:=of_decide_eq_false c1;refine⟨ng.mk X Y rs at_ 0,?_⟩;have hR:rR g.buf at_=false:=by unfold rR;rw[show decide (at_+8<=g.buf.length)=false from decide_eq_false (by omega)];rfl
   obtain⟨hp1,hp2⟩:=pstop hR
   and_intros<;>first|exact cV|(rw[<- hp1];exact hX)|exact hfr|exact hb|exact hp2
 ·rintro⟨X,Y,rs,at_,k⟩ ⟨hX,hb,hfr,h1,h2⟩;dsimp only at *;have hcell:X y.b=some (0,cU { g with aR:=(eV g.buf 50 0).1 } Y.bv Y.rv):=by rw[<- hb];exact hX.at_.cell
  obtain⟨b1,b2,b3,b4,⟨ba,bc,b5⟩,b6⟩:=hX.at_.buf.len;have b1:di Y.bv=g.buf.length:=b1;have b4:g.buf.length<=jt Y.bv:=b4;have hbuf:fA X Y.bv g.buf:=hX.at_.buf;have e3:(cU { g with aR:=(eV g.buf 50 0).1 } Y.bv Y.rv).getD 3 (Value.tuple #[])=Y.bv:=rfl;refine⟨_,_,rfl,?_⟩;refine⟨_,_,rfl,?_⟩;refine⟨_,0,_,_,rfl,hcell,?_⟩;refine⟨⟨⟨_,rfl,b6⟩,trivial⟩,?_⟩;simp only[e3,Int.toNat_natCast]
  repeat refine kO ?_
  have hcut:=hbuf.cut (a:=0) (e:=at_) (by omega) h1;have hfpc:fC (mY 1 Y.bv 0 at_ (jt Y.bv))=fC Y.bv:=by
   obtain⟨c,hb⟩:=hbuf;rcases hb with⟨h0,_⟩ | ⟨b9,lo9,o9,cs9,h9,_⟩
   ·rw[h0];rfl
   ·rw[h9,KZ];rfl
  have hst:Step X Y.bv X (mY 1 Y.bv 0 at_ (jt Y.bv)):=fun x hx hn=>⟨rfl,by rw[hfpc];exact hn⟩
  have hby:fA X (mY 1 Y.bv 0 at_ (jt Y.bv)) (g.buf.take at_):=by
   refine⟨jt Y.bv-0,?_⟩;rw[show(g.buf.take at_).length=at_-0 by simp;omega];rcases hcut with h0 | ⟨b9,lo9,o9,cs9,g1,g2,g3,g4,g5⟩
   ·exact .inl h0
   ·refine .inr ⟨b9,lo9,o9,cs9,g1,g2,g3,g4,⟨fun i hi j q hj=>?_⟩⟩;have:=g5.at_ i hi j q hj;have e:af cA g.buf (0+i) j=af cA (g.buf.take at_) i j:=by
     unfold af;rw[Nat.zero_add,NX (by omega)]
    rwa[e]at this
  obtain⟨hc2,hs3,hf3⟩:=w8 hX hst hby;refine⟨_,_,rfl,?_⟩;refine⟨_,_,rfl,?_⟩;refine⟨_,0,_,_,rfl,hcell,by simp[cU],?_⟩;refine⟨⟨aM X Y.b 0 (cU { g with aR:=(eV g.buf 50 0).1,buf:=g.buf.take at_ } (mY 1 Y.bv 0 at_ (jt Y.bv)) Y.rv),{ Y with bv:=mY 1 Y.bv 0 at_ (jt Y.bv) }⟩,?_⟩;have hM:yh g={ g with aR:=(eV g.buf 50 0).1,buf:=g.buf.take at_ }:=by unfold yh;rw[<- h2]
  rw[hM];refine And.intro (by rw[<- hb];rfl) (And.intro ⟨hs3,hb,hfr.trans hf3⟩ trivial))
theorem JM:ak (Y Tryz.prog).G.X 232 CI:=aV fK JL ⟨SZ,trivial⟩
end Go.Proofs.YtfjgoonelcaggaaGreat
namespace Go.Sx
section
def yj(s:S)(K:S->Prop):Prop:=K ⟨s.nt,s.fr,⟨s.nx,true,.cu fun _=>none⟩::s.hp,s.nx+1,s.kp,s.rt⟩
theorem L3:∀s K,yj s K->wK s K:=by
 intro s K h w0 M ρ a w hs;have hl:=ρ.dV ⟨0,0,0,fun _=>False⟩;have hn:=hs.n;have hpl:(ρ.ext ⟨0,0,0,fun _=>False⟩).pl s.nx=⟨0,0,0,fun _=>False⟩:=by rw[<- hn];exact ρ.dr _
 refine⟨_,ρ.ext ⟨0,0,0,fun _=>False⟩,h,hl,⟨hs.defers,hs.size,by show ρ.n+1=s.nx+1;rw[hn],hs.frame.mono hl,?_⟩⟩;refine(hs.heap.mono hl).cons (e:=⟨s.nx,true,.cu fun _=>none⟩) ⟨by show s.nx<ρ.n+1;omega,?_,?_,?_⟩ fun x hx=>⟨?_,?_⟩
 ·intro b lo cs hb;cases hb
 ·rw[hpl];exact fun b hb=>hb.elim
 ·rw[hpl];exact fun _ b hb=>hb.elim
 ·have:=(hs.heap.gH x hx).tag;show s.nx≠x.tag;omega
 ·rw[hpl];exact fun _ b hb=>hb.elim
def An.yj(key:Nat)(next:LH):An:=.view key Sx.yj L3 next
def A.ER:A->Bool
 |.ptr t _ _ _=>!Nat.beq t 0
 |.slc t _ _ _ _=>!Nat.beq t 0
 |.sub t _ _ _ _ _=>!Nat.beq t 0
 |_=>true
def CV.ER:CV->Bool
 |.a x=>x.ER
 |.agg xs=>xs.all A.ER
def SV.ER:SV->Bool
 |.a x=>x.ER
 |.agg xs=>xs.all A.ER
 |.l8 xs=>xs.all CV.ER
 |.Bd _ xs=>xs.all A.ER
def Chunk.ER:Chunk->Bool
 |.obj _ cs=>cs.all A.ER
 |_=>true
structure L4(ρ ρ':Env):Prop where
 n:ρ'.n=ρ.n
 pl:∀t,t≠0->ρ'.pl t=ρ.pl t
theorem Z9{t:Nat}(h:(!Nat.beq t 0)=true):t≠0:=by rintro rfl;simp at h
theorem A.b8.tR{ρ ρ':Env}(h:L4 ρ ρ'){x:A}(hx:x.ER=true){v:Value}(r:x.b8 ρ v):x.b8 ρ' v:=by
 cases x<;>simp only[A.b8,A.ER]at r hx ⊢<;>try exact r
 case ptr t _ _ _=>rw[h.n,h.pl t (Z9 hx)];exact r
 case slc t _ _ _ _=>rw[h.n,h.pl t (Z9 hx)];exact r
 case sub t _ _ _ _ _=>rw[h.n,h.pl t (Z9 hx)];exact r
theorem ct.tR{ρ ρ':Env}(h:L4 ρ ρ'):∀ {xs:List A} {vs:List Value},xs.all A.ER=true->ct ρ xs vs->ct ρ' xs vs
 |[],_,_,r=>r
 |x::xs,_,hx,⟨v,t,e,r1,r2⟩=>by
  simp only[List.all_cons,Bool.and_eq_true]at hx;exact⟨v,t,e,r1.tR h hx.1,ct.tR h hx.2 r2⟩
theorem CV.b8.tR{ρ ρ':Env}(h:L4 ρ ρ'):∀ {x:CV} {v:Value},x.ER=true->x.b8 ρ v->x.b8 ρ' v
 |.a _,_,hx,r=>A.b8.tR h hx r
 |.agg _,_,hx,⟨vs,e,r⟩=>⟨vs,e,ct.tR h hx r⟩
theorem r4.tR{ρ ρ':Env}(h:L4 ρ ρ'):∀ {xs:List CV} {vs:List Value},xs.all CV.ER=true->r4 ρ xs vs->r4 ρ' xs vs
 |[],_,_,r=>r
 |x::xs,_,hx,⟨v,t,e,r1,r2⟩=>by
  simp only[List.all_cons,Bool.and_eq_true]at hx;exact⟨v,t,e,r1.tR h hx.1,r4.tR h hx.2 r2⟩
theorem SV.b8.tR{ρ ρ':Env}(h:L4 ρ ρ'):∀ {x:SV} {v:Value},x.ER=true->x.b8 ρ v->x.b8 ρ' v
 |.a _,_,hx,r=>A.b8.tR h hx r
 |.agg _,_,hx,⟨vs,e,r⟩=>⟨vs,e,ct.tR h hx r⟩
 |.l8 _,_,hx,⟨vs,e,r⟩=>⟨vs,e,r4.tR h hx r⟩
 |.Bd _ _,_,hx,⟨vs,e,r⟩=>⟨vs,e,ct.tR h hx r⟩
theorem Chunk.Sat.tR{ρ ρ':Env}(h:L4 ρ ρ'){p:Place}{w:World}{ch:Chunk}(hx:ch.ER=true)(r:ch.Sat ρ p w):ch.Sat ρ' p w:=by
 cases ch with
 |obj ty cs=>obtain⟨vs,fr,h1,h2,⟨us,xs,h5,h3⟩,h4⟩:=r;exact⟨vs,fr,h1,h2,⟨us,xs,h5,h3.tR h hx⟩,h4⟩
 |arr ty ks n rows=>exact r
 |abs R=>exact r
 |cu H=>exact r
structure Y9 where
 ty:Nat
 ks:List CK
 n:Nat
 cap:Nat
 rows:Nat->Nat->Value
structure V1(α:Type) where
 a:α
 H:PH
 v:Value
def cD.V2(C:cD)(sl:C.α->Y9):cD where
 α:=V1 C.α
 β:=C.β
 m:=1
 m':=C.m'
 pre:=fun x=>C.pre x.a/\jW x.H x.v (sl x.a).ks (sl x.a).n (sl x.a).cap (sl x.a).rows
 args:=fun x=>[.a (.val x.v)]
 hp:=fun _=>[]
 ro:=fun x=>[(0,.cu x.H)]
 post:=fun x b=>C.post x.a b
 res:=fun x b=>C.res x.a b
 cT:=fun x b=>C.cT x.a b
structure aa0(C:cD)(sl:C.α->Y9):Prop where
 m:C.m=1
 hp:∀a,C.hp a=[]
 ro:∀a,C.ro a=[(0,.arr (sl a).ty (sl a).ks (sl a).n (sl a).rows)]
 args:∀a,C.args a=[.a (.slc 0 0 (sl a).ks.length (sl a).n (sl a).cap)]
 res:∀a b,(C.res a b).ER=true
 cT:∀a b,∀p∈C.cT a b,p.1≠0/\p.2.ER=true
theorem JN{X:Cx}{C:cD}{f:Nat}(hs:lI X C f){sl:C.α->Y9}(hv:aa0 C sl):lI X (C.V2 sl) f:=by
 rintro⟨a,H,v⟩ ⟨hpre,hsl⟩ M ρ w vs hn hh hargs;obtain⟨u,_,rfl,hu,rfl⟩:=hargs;obtain⟨rfl,_⟩:=hu;have hps:=(hh.gH ⟨0,false,.cu H⟩ (by simp[vA,D6,cD.V2])).ch;dsimp only at hpre hsl hps hn;obtain⟨p,hp1,hp2,hp3⟩:∃p:Place,(∀(ρ':Env),0<ρ'.n->ρ'.pl 0=p->(A.slc 0 0 (sl a).ks.length (sl a).n (sl a).cap).b8 ρ' u)/\(∀ρ',(Chunk.arr (sl a).ty (sl a).ks (sl a).n (sl a).rows).Sat ρ' p w)/\∀b,p.fp b->b<w.heap.size:=by
  rcases hsl with⟨rfl,h0,h1⟩ | ⟨b,lo,o,cs,rfl,⟨hlc,hcm⟩,hH,hfit,hrows⟩
  ·exact⟨xY,fun ρ' h _=>⟨h,by omega,by rw[h1];exact Nat.zero_le _,.inl ⟨h0,h1,rfl⟩⟩,fun ρ'=>.inl ⟨h0,rfl,fun b hb=>hb⟩,fun b hb=>hb.elim⟩
  ·obtain⟨hfp,vs,vty,fr,hb,hvl,hvs,hun⟩:=hps b lo cs hH;refine⟨⟨b,lo+o,(sl a).cap,fun x=>x=b⟩,fun ρ' h e=>⟨h,hlc,hcm,.inr ⟨_,rfl,fun _=>by rw[e];simp⟩⟩,fun ρ'=>.inr ⟨vs,vty,fr,hb,by simp only;omega,hlc,fun x h1 h2=>hun x (by simp only at h1;omega) (by simp only at h2;omega),fun _=>Iff.rfl,fun i hi j k hk=>?_⟩,fun x hx=>?_⟩
   ·obtain⟨g1,g2⟩:=hrows.at_ i hi j k hk;refine⟨?_,g2⟩;have hlt:o+i*(sl a).ks.length+j<cs.length:=(List.getElem?_eq_some_iff.1 g1).1;rw[<- g1,<- hvs _ hlt];congr 1;simp only;omega
   ·simp only at hx;subst hx;exact(Array.getElem?_eq_some_iff.1 hb).1
 have hpl:(⟨1,fun _=>p⟩:Env).pl 0=p:=rfl;refine(hs a hpre M ⟨1,fun _=>p⟩ w [u] (by rw[hv.m]) ?_ ?_).mono ?_
 ·rw[hv.hp,hv.ro];refine⟨hh.keeps,fun e he=>?_,by simp[vA,D6]⟩;have he:e=⟨0,false,.arr (sl a).ty (sl a).ks (sl a).n (sl a).rows⟩:=by simpa[vA,D6]using he
  subst he;exact⟨Nat.one_pos,hp2 _,hp3,fun h=>(by cases h)⟩
 ·rw[hv.args];exact⟨u,[],rfl,hp1 _ Nat.one_pos rfl,rfl⟩
 ·rintro e w' ⟨r,rfl,o,ρ2,g1,g2,g3,g4,g5⟩;have hoff:L4 ρ2 ⟨ρ2.n,fun t=>if t=0 then ρ.pl 0 else ρ2.pl t⟩:=⟨rfl,fun t ht=>if_neg ht⟩
  refine⟨r,rfl,o,⟨ρ2.n,fun t=>if t=0 then ρ.pl 0 else ρ2.pl t⟩,g1,g2,fun T hT=>?_,g4.tR hoff (hv.res a o),?_⟩
  ·have hT:T<1:=hT;have:T=0:=by omega
   subst this;rfl
  ·have hent:∀e∈vA (C.cT a o),e.tag≠0/\e.ch.ER=true:=fun e he=>by
    obtain⟨q,hq,rfl⟩:=List.mem_map.1 he;exact hv.cT a o q hq
   refine⟨g5.keeps,fun e he=>?_,g5.apart.imp_of_mem fun {x y} hx hy hxy=>?_⟩
   ·obtain⟨h1,h2⟩:=hent e he;have he:=g5.gH e he;exact⟨he.tag,by rw[hoff.pl _ h1];exact he.ch.tR hoff h2,by rw[hoff.pl _ h1];exact he.lt,by rw[hoff.pl _ h1];exact he.own⟩
   ·refine⟨hxy.1,?_⟩;rw[hoff.pl _ (hent x hx).1,hoff.pl _ (hent y hy).1];exact hxy.2
end
end Go.Sx
namespace Go.Proofs.YtfjgoonelcaggaaGreat
open Go.Sx
structure KP where
 g:dx
 ok:Bool
 run:Int
def g0:dx:=⟨0,0,0,[],[]⟩
def vU(L:bP)(d:bw)(k i:Nat):Nat->Int:=d.now (L.from_+k*8+i)
def rdStep(x:KP)(i:Nat)(f:Nat->Int):KP :=
 ⟨if !(x.ok&&fO x.g i f)&&decide (i=0)then { (if x.ok then gG x.g i f else x.g)with gen:=0 }else(if x.ok then gG x.g i f else x.g),x.ok&&fO x.g i f,max x.run (uw .i64 (gB f 10 4)+1)⟩
def kL(L:bP)(d:bw)(k:Nat):Nat->KP
 |0=>⟨g0,true,L.run⟩
 |i+1=>rdStep (kL L d k i) i (vU L d k i)
def nh(L:bP)(d:bw)(k:Nat):Option dx :=
 if(kL L d k 8).g.gen<1\/((kL L d k 8).g.gen-1).tmod L.au≠k then none else some (yh (kL L d k 8).g)
structure S0(L:bP)(d:bw)(k:Nat):Prop where
 run:∀i,i<8->0<=uw .i64 (gB (vU L d k i) 10 4)/\uw .i64 (gB (vU L d k i) 10 4)<100000000000
 used:∀i,i<8->(kL L d k i).ok=true->fO (kL L d k i).g i (vU L d k i)=true->0<vU L d k i 15
theorem L5(g:dx)(i:Nat)(f:Nat->Int):(gG g i f).aR=g.aR:=by
 have e:(ql g i f).aR=g.aR:=by unfold ql;split<;>rfl
 unfold gG;split
 ·exact e
 ·exact e
theorem PF(g:dx)(i:Nat)(f:Nat->Int):(ql g i f).buf=g.buf:=by
 unfold ql;split<;>rfl
theorem S1{g:dx}{i:Nat}{f:Nat->Int}(h:fO g i f=false):gG g i f=ql g i f:=by
 unfold gG;rw[h];rfl
theorem PG{g:dx}{i:Nat}{f:Nat->Int}(h:fO g i f=true):(gG g i f).buf=g.buf++(List.range (f 15).toNat).map fun k=>f (sU i+k):=by
 unfold gG;rw[if_pos h]
theorem PI{g:dx}{i:Nat}{f:Nat->Int}(h:fO g i f=true):f 15<=ko i/\g.buf.length=bZ i:=by
 unfold fO at h;simp only[Bool.and_eq_true,decide_eq_true_eq]at h;exact h.2.2.2.2
theorem PJ{g:dx}{i:Nat}{f:Nat->Int}(h:g.buf.length<=bZ i):(gG g i f).buf.length<=bZ (i+1):=by
 cases hB:fO g i f with
 |false=>rw[S1 hB,PF];unfold bZ at *;omega
 |true =>
  obtain⟨h1,h2⟩:=PI hB;rw[PG hB];simp only[List.length_append,List.length_map,List.length_range];unfold bZ ko at *;split at h1<;>omega
structure WX(L:bP)(x:KP)(i:Nat):Prop where
 aR:x.g.aR=[]
 buf:x.g.buf.length<=bZ i
 run:0<=x.run/\x.run<200000000000
theorem CJ{L:bP}{d:bw}{k:Nat}(h:S0 L d k)(h0:0<=L.run/\L.run<200000000000):∀i,i<=8->WX L (kL L d k i) i
 |0,_=>⟨rfl,by show[].length<=_;simp,h0⟩
 |i+1,hi=>by
  have ih:=CJ h h0 i (by omega);have hr:=h.run i (by omega);obtain⟨g1,g2,g3⟩:=ih;have hb:(if(kL L d k i).ok then gG (kL L d k i).g i (vU L d k i)else(kL L d k i).g).aR=[]/\(if(kL L d k i).ok then gG (kL L d k i).g i (vU L d k i)else(kL L d k i).g).buf.length<=bZ (i+1):=by
   split
   ·exact⟨(L5 _ _ _).trans g1,PJ g2⟩
   ·exact⟨g1,by unfold bZ at *;omega⟩
  show WX L (rdStep (kL L d k i) i (vU L d k i)) (i+1);unfold rdStep;refine⟨?_,?_,by dsimp only;omega⟩
  ·dsimp only;split
   ·exact hb.1
   ·exact hb.1
  ·dsimp only;split
   ·exact hb.2
   ·exact hb.2
theorem fM.Za{X:PH}{y:mC}{g:dx}(h:fM X y g):fM (aM X y.b 0 (cU { g with gen:=0 } y.bv y.rv)) y { g with gen:=0 }/\Fr X y (aM X y.b 0 (cU { g with gen:=0 } y.bv y.rv)) y :=
 sV h rfl rfl ⟨by simp only[bL];omega,h.at_.A4.2.1,h.at_.A4.2.2⟩
theorem Zb(H:PH)(b:Nat):fM (aM H b 0 [.int .i64 0,.int .i64 0,.int .i64 0,.slice none 0 0,.slice none 0 0]) (newL b) g0 :=
 ⟨⟨dF ..,⟨by simp only[g0,bL];omega,by simp only[g0,bL];omega,by simp only[g0,bL];omega⟩,⟨0,.inl ⟨rfl,rfl,rfl⟩⟩,⟨0,.inl ⟨rfl,rfl,rfl⟩⟩,rfl,fun i hi=>absurd hi (Nat.not_lt_zero i)⟩,by simp[newL,bt,fC]⟩
structure rS where
 H:PH
 L:bP
 lv:Value
 d:bw
 k:Nat
structure JO where
 H:PH
 y:mC
 v:Value
def CL(H:PH)(b:JO):Option dx->Prop
 |none=>b.v = .pointer none/\∀x,H x≠none->b.H x=H x
 |some g=>b.v=pv b.y.b 0/\fM b.H b.y g/\∀x,H x≠none->b.H x=H x/\x∉bt b.y
noncomputable def L6:cD where
 α:=rS
 β:=JO
 m:=4
 m':=5
 pre:=fun a=>a.k<a.L.au/\3<=a.L.au/\a.L.au<=200/\a.L.from_+a.L.au*8<=a.d.n/\a.d.n<100000/\0<=a.L.run/\a.L.run<200000000000/\S0 a.L a.d a.k
 args:=fun a=>[.a (.ptr 0 0 0 0),.a (.int .i64 a.k)]
 hp:=fun a=>[(0,fo 1 a.L a.lv),(3,.cu a.H)]
 ro:=fun a=>gA 1 2 a.d
 post:=fun a b=>CL a.H b (nh a.L a.d a.k)
 res:=fun _ b=>.a (.val b.v)
 cT:=fun a b=>[(0,fo 1 { a.L with run:=(kL a.L a.d a.k 8).run } a.lv),(4,.cu b.H)]
structure S2 where
 i:Nat
 H:PH
 y:mC
def XI(a:rS):An:=.flat 4 S2 (fun s x=>S.cu ((((s.at_ (s.tg 0) (fo (s.fh (s.tg 0) 0) { a.L with run:=(kL a.L a.d a.k x.i).run } a.lv)).set 5 (.a (.val (pv x.y.b 0)))).set 6 (.a (.bool (kL a.L a.d a.k x.i).ok))).int 12 x.i) x.H)
 (fun _ x=>x.i<=8/\fM x.H x.y (kL a.L a.d a.k x.i).g/\∀z,a.H z≠none->x.H z=a.H z/\z∉bt x.y) (fun _ x=>8-x.i)
def XJ(a:rS):An:=.N4 3 5 (.mk 1000 [XI a] [])
def nD(x:rS)(y:S2):KP:=kL x.L x.d x.k y.i
def oN(x y:Option (Nat×List Value))(z:List Nat)(u:Nat):=x≠none->y=x/\¬u∈z
def GX(x:S2)(u:rS):=fM x.H x.y (KP.g (nD u x))/\∀z:Nat,oN (u.H z) (x.H z) (bt x.y) z
def GY(x:rS)(y:Int)(z:KP)(u:Prop):=ag (cz (aa x.L.from_) (aa x.L.au) (cM x.lv) (aG x.L.next/\y=z.run/\bB x.L.fresh/\u))
def JP(x:rS)(u:PH)(y z:S2)(v:vS):=ag (bh x.k/\u=y.H/\GY x (o7 true (KP.run (nD x z)) (ri v+(1:Int))) (nD x y) (iR x.d x.d (dP y.i 8 (GX y x) z.i)))
def GZ(z:Value)(u:PH)(x:rS)(w:S2):JO->Prop:=fun(y:JO)=>z=y.v/\u=y.H/\GY x (KP.run (nD x w)) (kL x.L x.d x.k 8) (CL x.H y (nh x.L x.d x.k)/\True)
def G0(x:rS):=x.k<x.L.au/\3<=x.L.au/\x.L.au<=200/\iy (x.L.from_+x.L.au*8) x.d.n ((0:Int)<=x.L.run/\x.L.run<(200000000000:Int)/\S0 x.L x.d x.k)
theorem PK:fnBody (Y Tryz.prog) [(201,Cj),(230,Jt),(231,SR),(232,CI)] 205 L6 fun a=>[(205,[],[XJ a])]:=fnBody.of (p :=
 ∀u:rS,G0 u->∀o:Nat,u.H o=none->(∃x:S2,aC x.i (true=KP.ok (nD u x)/\ku o x.y.b/\ag (bh u.k/\Cv u.H o 0 0=x.H/\GY u u.L.run (nD u x) (iR u.d u.d ((x.i<=8/\GX x u)/\True)))))/\∀x:S2,x.i<=8/\GX x u->aA (aa x.i) 8 (GF u.L (aa u.k) x.i (∃w:ZO,ag (aa u.L.from_+aa u.k*(8:Int)+aa x.i=aa w.i/\iR u.d w.d ((w.i<w.d.n/\w.d.n<100000)/\∀h:Nat,64<=h->ah (KP.run (nD u x))->cI 14 (aa h)/\cI 10 14/\Exists (uQ 10 4 h 10 (w.d.now w.i) fun j=>ah (ri j+(1:Int))/\aO (KP.ok (nD u x)) (∃z:yg,ku x.y.b z.y.b/\bq x.i z.i/\bW 64 (h=z.cap)/\x.H=z.H/\aL 64 64 1 (bO (w.d.now w.i)) (bO z.f)/\GR z/\∀v:AH,CH v z->qT (bx (fO z.g z.i z.f)) (aa x.i == (0:Int)) (Exists (kq (pv x.y.b 0) 0 (fun s=>v.H s) (fun s t=>s+1<=t.length) fun s t q r=>aP x.i (∃l:S2,aY x.i=aa l.i/\fO z.g z.i z.f=KP.ok (nD u l)/\ku x.y.b l.y.b/\JP u (aM v.H s t (qj q r (bu 0 []) 1)) l x j))) (aP x.i (∃s:S2,aY x.i=aa s.i/\fO z.g z.i z.f=KP.ok (nD u s)/\ku x.y.b s.y.b/\JP u v.H s x j))) (aO (aa x.i == (0:Int)) (Exists (kq (pv x.y.b 0) 0 (fun z=>x.H z) (fun z v=>z+1<=v.length) fun z v c s=>aP x.i (∃t:S2,aY x.i=aa t.i/\fL (KP.ok (nD u t)) (ku x.y.b t.y.b) (JP u (aM x.H z v (qj c s (bu 0 []) 1)) t x j)))) (aP x.i (∃z:S2,aY x.i=aa z.i /\
 fL (KP.ok (nD u z)) (ku x.y.b z.y.b) (JP u x.H z x j))))))))) (iw (pv x.y.b 0) 0 (fun w=>x.H w) fun w h=>aA (jD (aS h w)) 1 (Exists (GZ Cu x.H u x)) (iw (pv x.y.b 0) 0 (fun m=>x.H m) fun m p=>ah (jD (aS p m)-(1:Int))/\(ah (aa u.L.au)->aa u.L.au≠(0:Int)/\aO ((jD (aS p m)-(1:Int)).tmod (aa u.L.au) != aa u.k) (Exists (GZ Cu x.H u x)) (∃z:tK,ku x.y.b z.y.b/\x.H=z.H/\(fM z.H z.y z.g/\av z.g.buf<=378/\z.g.aR=[])/\∀v:AH,fM v.H v.y (yh z.g)/\v.y.b=z.y.b/\Fr z.H z.y v.H v.y->Exists (GZ (pv x.y.b 0) v.H u x)))))) (by kernel_rfl) (by
 delta qT aO aS av cz aL kr ah bu bW aG bB o7 aQ aY aa kq cI dP bH aD dO fL bM cM aI JP iw gd ri GZ uQ aC ag aA nD nB oN CH aP bh G0 qR bq GX GY ku GR bx iy GF jj qj Cv oJ Cu
 try dsimp -iota -proj only
 rintro⟨H,L,lv,d,k⟩ ⟨h1,h2,h3,h4,h5,h6,h7,ok⟩;dsimp only at *;intro b hb;refine⟨⟨⟨0,aM H b 0 [.int .i64 0,.int .i64 0,.int .i64 0,.slice none 0 0,.slice none 0 0],newL b⟩,?_⟩,?_⟩
 ·have hz:∀z,H z≠none->aM H b 0 [.int .i64 0,.int .i64 0,.int .i64 0,.slice none 0 0,.slice none 0 0] z=H z/\¬z∈bt (newL b):=fun z hz=>by
   have:z≠b:=fun e=>hz (by rw[e];exact hb);exact⟨cC this,by simpa[newL,bt,fC]using this⟩
  and_intros<;>first|exact cV|exact Zb H b|exact hz|rfl
 ·rintro⟨i,X,Y⟩ ⟨hi,hX,hfr⟩;dsimp only at *;obtain⟨v1,v2,v3⟩:=CJ ok ⟨h6,h7⟩ i hi;refine⟨fun c1=>?_,fun c1=>?_⟩
  ·have hi8:i<8:=by have:=of_decide_eq_true c1;omega
   obtain⟨F,hF⟩:∃F,F=vU L d k i:=⟨_,rfl⟩
   have hok:=ok.run i hi8;have hus:=ok.used i hi8;have hstep:kL L d k (i+1)=rdStep (kL L d k i) i F:=by rw[hF];rfl
   have hdn:d.now (L.from_+k*8+i)=F:=by rw[hF];rfl
   rw[<- hF]at hok hus;obtain⟨R,hR⟩:∃R,R=kL L d k i:=⟨_,rfl⟩
   rw[<- hR]at hX v1 v2 v3 hus ⊢;have e10:jK (fun i=>u8 (bO F) (10+i)) 4=gB F 10 4:=rfl;intro _;refine⟨by simp only[bL];omega,by simp only[bL];omega,by simp only[bL];omega,ZO.mk d (L.from_+k*8+i),?_⟩;have hin:L.from_+k*8+i<d.n:=by omega
   and_intros<;>first|exact cV|skip
   intro cap hcap;intro _
   repeat refine kO ?_
   refine⟨vS.mk 10 4 (cap-10) 64 (bO F),?_⟩;simp only[hdn]
   and_intros<;>first|exact cV|skip
   intro _ _;simp only[e10,cond_true];refine⟨by simp only[bL];omega,fun c2=>⟨yg.mk X Y R.g i F cap,?_⟩,fun c2=>⟨fun c3=>?_,fun c3=>?_⟩⟩
   ·have hsz:R.g.buf.length<=378:=by unfold bZ at v2;omega
    and_intros<;>first|exact cV|exact hX|exact hus c2|skip
    rintro⟨X1,Y1⟩ ⟨t1,t2,t3,t4⟩;dsimp only at *;have f1:∀z,H z≠none->X1 z=H z/\¬z∈bt Y1:=fun z hz=>by
     obtain⟨a1,a2⟩:=hfr z hz;obtain⟨b1,b2⟩:=t4 z (by rw[a1];exact hz) a2;exact⟨b1.trans a1,b2⟩
    refine⟨fun c3=>⟨fun c4=>?_,fun c4=>?_⟩,fun c3=>?_⟩
    ·have hg:(rdStep R i F).g={ gG R.g i F with gen:=0 }:=by
      have:fO R.g i F=false:=by simpa using c3
      have hi0:i=0:=by simpa using c4
      subst hi0;simp[rdStep,c2,this]
     obtain⟨q1,q2⟩:=t1.Za;refine⟨_,_,rfl,_,_,rfl,Y1.b,0,0,_,by rw[t2],t1.at_.cell,by simp[cU],by simp only[bL];omega,⟨i+1,aM X1 Y1.b 0 (cU { gG R.g i F with gen:=0 } Y1.bv Y1.rv),Y1⟩,?_⟩;rw[hstep,<- hR];have f2:∀z,H z≠none->aM X1 Y1.b 0 (cU { gG R.g i F with gen:=0 } Y1.bv Y1.rv) z=H z/\¬z∈bt Y1:=fun z hz=>by
      obtain⟨a1,a2⟩:=f1 z hz;obtain⟨b1,b2⟩:=q2 z (by rw[a1];exact hz) a2;exact⟨b1.trans a1,b2⟩
     rw[hg]
     and_intros<;>first|exact cV|exact q1|exact f2|(rw[t2];done)|(simp[rdStep,c2];done)|rfl|skip
    ·have hg:(rdStep R i F).g=gG R.g i F:=by
      have hi0:i≠0:=by simpa using c4
      simp[rdStep,c2,hi0]
     refine⟨by simp only[bL];omega,⟨i+1,X1,Y1⟩,?_⟩;rw[hstep,<- hR,hg]
     and_intros<;>first|exact cV|exact t1|exact f1|(rw[t2];done)|(simp[rdStep,c2];done)|rfl|skip
    ·have hg:(rdStep R i F).g=gG R.g i F:=by
      have:fO R.g i F=true:=by simpa using c3
      simp[rdStep,c2,this]
     refine⟨by simp only[bL];omega,⟨i+1,X1,Y1⟩,?_⟩;rw[hstep,<- hR,hg]
     and_intros<;>first|exact cV|exact t1|exact f1|(rw[t2];done)|(simp[rdStep,c2];done)|rfl|skip
   ·have hg:(rdStep R i F).g={ R.g with gen:=0 }:=by
     have hi0:i=0:=by simpa using c3
     subst hi0;simp[rdStep,c2]
    obtain⟨q1,q2⟩:=hX.Za;refine⟨_,_,rfl,_,_,rfl,Y.b,0,0,_,rfl,hX.at_.cell,by simp[cU],by simp only[bL];omega,⟨i+1,aM X Y.b 0 (cU { R.g with gen:=0 } Y.bv Y.rv),Y⟩,?_⟩;rw[hstep,<- hR];have f2:∀z,H z≠none->aM X Y.b 0 (cU { R.g with gen:=0 } Y.bv Y.rv) z=H z/\¬z∈bt Y:=fun z hz=>by
     obtain⟨a1,a2⟩:=hfr z hz;obtain⟨b1,b2⟩:=q2 z (by rw[a1];exact hz) a2;exact⟨b1.trans a1,b2⟩
    rw[hg]
    and_intros<;>first|exact cV|exact q1|exact f2|(simp[rdStep,c2];done)|rfl|skip
   ·have hg:(rdStep R i F).g=R.g:=by
     have hi0:i≠0:=by simpa using c3
     simp[rdStep,c2,hi0]
    refine⟨by simp only[bL];omega,⟨i+1,X,Y⟩,?_⟩;rw[hstep,<- hR,hg]
    and_intros<;>first|exact cV|exact hX|exact hfr|(simp[rdStep,c2];done)|rfl|skip
  ·have hi8:i=8:=by have:=of_decide_eq_false c1;omega
   subst hi8;obtain⟨r1,r2,r3⟩:=hX.at_.A4;have hcell:=hX.at_.cell;obtain⟨R,hR⟩:∃R,R=kL L d k 8:=⟨_,rfl⟩
   rw[<- hR]at hX v1 v2 v3 r1 hcell ⊢;have hseg:nh L d k=if R.g.gen<1\/(R.g.gen-1).tmod L.au≠k then none else some (yh R.g):=by rw[hR];rfl
   have fnone:nh L d k=none->CL H ⟨X,Y,.pointer none⟩ (nh L d k):=fun e=>by
    rw[e];exact⟨rfl,fun z hz=>(hfr z hz).1⟩
   refine⟨_,_,rfl,?_⟩;refine⟨_,_,rfl,?_⟩;refine⟨_,0,_,_,rfl,hcell,?_⟩;refine⟨⟨⟨_,rfl,_,rfl,r1⟩,trivial⟩,fun _=>?_⟩;simp only[cU,List.getD_cons_zero,jD];refine⟨fun c2=>⟨⟨X,Y,.pointer none⟩,?_⟩,fun c2=>?_⟩
   ·have c2:=of_decide_eq_true c2;have hno:nh L d k=none:=by rw[hseg,if_pos (.inl c2)]
    and_intros<;>first|exact cV|exact fnone hno|rfl
   ·have c2:=of_decide_eq_false c2;refine⟨_,_,rfl,?_⟩;refine⟨_,_,rfl,?_⟩;refine⟨_,0,_,_,rfl,hcell,?_⟩;refine⟨⟨⟨_,rfl,_,rfl,r1⟩,trivial⟩,fun _=>?_⟩;simp only[cU,List.getD_cons_zero,jD];refine⟨by simp only[bL]at *;omega,fun _=>⟨by omega,fun c3=>⟨⟨X,Y,.pointer none⟩,?_⟩,fun c3=>?_⟩⟩
    ·have c3:(R.g.gen-1).tmod L.au≠k:=by simpa using c3
     have hno:nh L d k=none:=by rw[hseg,if_pos (.inr c3)]
     and_intros<;>first|exact cV|exact fnone hno|rfl
    ·have c3:(R.g.gen-1).tmod L.au=k:=by simpa using c3
     have hyes:nh L d k=some (yh R.g):=by rw[hseg,if_neg (by rintro(e|e)<;>omega)]
     refine⟨tK.mk X Y R.g,?_⟩;have hsz:R.g.buf.length<=378:=v2
     and_intros<;>first|exact cV|exact hX|exact v1|skip
     rintro⟨X1,Y1⟩ ⟨t1,t2,t3⟩;dsimp only at *;have f1:∀z,H z≠none->X1 z=H z/\¬z∈bt Y1:=fun z hz=>by
      obtain⟨a1,a2⟩:=hfr z hz;obtain⟨b1,b2⟩:=t3 z (by rw[a1];exact hz) a2;exact⟨b1.trans a1,b2⟩
     refine⟨⟨X1,Y1,pv Y.b 0⟩,?_⟩;rw[hyes];have hp:CL H ⟨X1,Y1,pv Y.b 0⟩ (some (yh R.g)):=⟨by rw[t2],t1,f1⟩
     and_intros<;>first|exact cV|exact t1|exact f1|(show pv Y.b 0=pv Y1.b 0;rw[t2])|rfl)
theorem PL:ak (Y Tryz.prog).G.X 205 L6:=aV fK PK ⟨Jv,Bn,SU,JM,trivial⟩
noncomputable def N9(n:Int):cD where
 α:=Unit
 β:=Unit
 m:=0
 m':=0
 pre:=fun _=>True
 args:=fun a=>[.a (.lit .u64 n)]
 hp:=fun _=>[]
 ro:=fun _=>[]
 post:=fun _ _=>True
 res:=fun _ b=>.a (.lit .i64 n)
 cT:=fun _ _=>[]
theorem S3:fnBody (Yf Tryz.prog) [] 189 (N9 0) fun _=>[]:=fnBody.of (p :=
 aI (bQ (aG 0))) (by kernel_rfl) (by
 delta aG aI bQ ay bp
 exact fun _ _=>⟨(),rfl,trivial,trivial⟩)
theorem S4:fnBody (Yf Tryz.prog) [] 189 (N9 1) fun _=>[]:=fnBody.of (p :=
 aI (bQ (aG 1))) (by kernel_rfl) (by
 delta aG aI bQ ay bp
 exact fun _ _=>⟨(),rfl,trivial,trivial⟩)
noncomputable def S5:cD where
 α:=Int
 β:=Unit
 m:=0
 m':=0
 pre:=fun a=>a=0\/a=1
 args:=fun a=>[.a (.int .u64 a)]
 hp:=fun _=>[]
 ro:=fun _=>[]
 post:=fun _ _=>True
 res:=fun a _=>.a (.int .i64 a)
 cT:=fun _ _=>[]
theorem S6(n:Int)(h:fnBody (Yf Tryz.prog) [] 189 (N9 n) fun _=>[]):lI (Yf Tryz.prog).G.X (N9 n) 189:=Bl YS (fun _=>yc YS (jf:=[]) trivial) h.body
theorem V3:lI (Y Tryz.prog).G.X S5 189:=by
 intro a ha M ρ w vs hn hh hargs;rcases ha with rfl|rfl
 ·exact S6 0 S3 () trivial M ρ w vs hn hh hargs
 ·exact S6 1 S4 () trivial M ρ w vs hn hh hargs
theorem S7:ak (Y Tryz.prog).G.X 189 S5:=fun _ _ _ h=>vD V3 h
noncomputable def V4(k:Nat):cD where
 α:=Unit
 β:=Unit
 m:=0
 m':=0
 pre:=fun _=>False
 args:=fun _=>List.replicate k (.a .any)
 hp:=fun _=>[]
 ro:=fun _=>[]
 post:=fun _ _=>True
 res:=fun _ _=>.a .any
 cT:=fun _ _=>[]
theorem G1(k f:Nat):ak (Y Tryz.prog).G.X f (V4 k):=aV fK (jf:=[]) (l:=fun _=>[]) ⟨fun a h=>False.elim h⟩ trivial
structure JQ where
 v:Value
 n:Nat
def CM(v:Value)(n:Nat):Prop:=n<=1/\(∃a c,v = .slice a n c)/\v.oneCell'=true
noncomputable def S8:cD where
 α:=JQ
 β:=Unit
 m:=0
 m':=0
 pre:=fun a=>CM a.v a.n
 args:=fun a=>[.a (.val a.v),.a (.int .i64 0),.a (.int .i64 a.n),.a (.fn 207)]
 hp:=fun _=>[]
 ro:=fun _=>[]
 post:=fun _ _=>True
 res:=fun _ _=>.l8 []
 cT:=fun _ _=>[]
def Zc:An:=.flat 4 Unit (fun s _=>s) (fun _ _=>False) (fun _ _=>0)
def Zd(a:JQ):An:=.mk 1 Unit (fun s _=>s) (fun _ _=>True) (fun _ _=>0) fun _=>.mk 60 [Zc] []
theorem S9:fnBody (Y Tryz.prog) [] 254 S8 fun a=>[(254,[Zd a],[])]:=fnBody.of (p :=
 ∀x:JQ,CM x.v x.n->ah 1/\ay (aG 1/\cM x.v/\cz 0 (aa x.n) True True)/\aI (aA 1 (aa x.n) (ay (aG 1/\bB (aQ 1 (aa x.n))/\aG 1/\cM x.v/\cz 0 (aa x.n) False True)/\∀y:Unit,False->aO true (iM x.v 1 fun z u=>False) (ah 2/\ay ((2:Int)=1/\cM x.v/\cz 0 (aa x.n) True (0<0)))) (ay (True/\True)))) (by kernel_rfl) (by
 delta aO cz ah aG bB aQ aa bg aD cM aI ay iM aA
 try dsimp -iota -proj only
 rintro⟨v,n⟩ ⟨h1,_⟩;dsimp only at *;refine⟨by simp only[bL];omega,⟨(),?_⟩,fun _ _=>⟨fun c1=>?_,fun _=>⟨(),trivial,trivial⟩⟩⟩
 ·and_intros<;>first|trivial|rfl
 ·exfalso;have:=of_decide_eq_true c1;omega)
theorem Ta:ak (Y Tryz.prog).G.X 254 S8:=aV fK S9 trivial
noncomputable def L7:cD where
 α:=JQ
 β:=Unit
 m:=0
 m':=0
 pre:=fun a=>CM a.v a.n
 args:=fun a=>[.a (.val a.v),.a (.fn 207)]
 hp:=fun _=>[]
 ro:=fun _=>[]
 post:=fun _ _=>True
 res:=fun _ _=>.l8 []
 cT:=fun _ _=>[]
noncomputable def Tb:List (Nat×cD):=[(189,S5),(254,S8),(255,V4 4),(256,V4 4),(257,V4 4)]
def XK:An:=.flat 2 Unit (fun s _=>s) (fun _ _=>True) (fun _ _=>0)
theorem PM:fnBody (Y Tryz.prog) Tb 206 L7 fun a=>[(233,[XK],[])]:=fnBody.of (p :=
 ∀x:JQ,CM x.v x.n->fD x.v/\∃y:Int,cQ (aa (di x.v))=y/\(y=(0:Int)\/y=(1:Int))/\aI (ay (bB true/\bB true/\cM x.v/\cz 0 (aa (di x.v)) (y=y) (True/\True))/\aI (ah (aa (di x.v)-(0:Int))/\aO (cR (aa (di x.v)-(0:Int)) 12) (∃z:JQ,x.v=z.v/\aW (bq (di x.v) z.n/\CM z.v z.n/\aI (ay (True/\True)))) (aO (y == (0:Int)) (ay (False/\aI (ay (True/\True)))) (ay (False/\aI False)))))) (by kernel_rfl) (by
 delta aO cz ah aG bB aa aD cM fD aI cQ ay cR aW bq
 rintro⟨v,n⟩ ⟨h1,⟨ba,c,h2⟩,h3⟩;dsimp only at h1 h2 h3;subst h2;have hl:di (.slice ba n c)=n:=rfl;dsimp only at *;rw[hl];have e1:uw .u64 (n:Int)=n:=by simp only[uw];omega
 refine⟨⟨_,_,_,rfl,by simp only[aq];omega⟩,n,e1,by omega,fun _ _=>⟨⟨(),?_⟩,fun _ _=>⟨by simp only[bL];omega,fun c1=>⟨⟨.slice ba n c,n⟩,?_⟩,fun c1=>?_⟩⟩⟩
 ·and_intros<;>first|trivial|rfl
 ·have hp:CM (.slice ba n c) n:=⟨h1,⟨_,_,rfl⟩,h3⟩
  (repeat' (first|apply And.intro|(intro _)|apply Exists.intro ()))<;>first|trivial|rfl|omega|exact h1|exact h3|exact⟨_,_,rfl⟩
 ·exfalso;have:=of_decide_eq_false c1;omega)
theorem PN:ak (Y Tryz.prog).G.X 206 L7:=aV fK PM ⟨S7,Ta,G1 _ _,G1 _ _,G1 _ _,trivial⟩
structure wk where
 H:PH
 y:gP
 L:bP
 gb:Nat
 t:Int
 s:Int
noncomputable def vG:cD where
 α:=wk
 β:=Unit
 m:=3
 m':=3
 pre:=fun a=>bT a.H a.y a.L/\a.L.l.length<1000/\0<=a.s/\a.s<=1000/\bL .i64 a.t/\0<=a.t/\(∃r,a.H a.gb=some (0,.int .i64 a.t::r))/\∀i,i<a.L.l.length->a.t-a.s<(gl a.L.l i).gen
 args:=fun a=>[.a (.val a.y.lv),.Bd 209 [.ptr 0 0 0 0,.ptr 1 0 0 0]]
 hp:=fun _=>[]
 ro:=fun a=>[(0,.obj 289 [.val (pv a.gb 0)]),(1,.obj 3 [.int .i64 a.s]),(2,.cu a.H)]
 post:=fun _ _=>True
 res:=fun a _=>.a (.val a.y.lv)
 cT:=fun _ _=>[]
noncomputable def G2:cD where
 α:=wk
 β:=Unit
 m:=3
 m':=3
 pre:=vG.pre
 args:=vG.args
 hp:=fun _=>[]
 ro:=vG.ro
 post:=fun _ _=>True
 res:=fun a _=>.a (.lit .i64 (-1))
 cT:=fun _ _=>[]
def V5(a:wk):An:=.flat 2 Nat (fun s k=>s.int 8 k) (fun _ k=>k<=a.L.l.length) (fun _ k=>a.L.l.length-k)
def xl(x:wk):=bT x.H x.y x.L/\bz x.L<1000/\(0:Int)<=x.s/\x.s<=(1000:Int)/\ah x.t/\(0:Int)<=x.t/\(∃z:List Value,x.H x.gb=some (0,bu x.t z))/\∀z:Nat,z<bz x.L->x.t-x.s<(gl x.L.l z).gen
theorem L8:fnBody (Y Tryz.prog) [] 234 G2 fun a=>[(234,[V5 a],[])]:=fnBody.of (p :=
 ∀x:wk,xl x->GH x.y x.gb (fun z=>aG x.s/\x.H=x.H/\z<=bz x.L/\True) (fun z=>z<=bz x.L) (fun z=>x.H z) (fun z=>x.H z) (fun z=>x.H z) x.s (fun z=>bQ (aa z=(-1:Int))) (fun z u=>aG x.s/\x.H=x.H/\bS u (bz x.L) z) (bQ (aG (-1:Int)))) (by kernel_rfl) (by
 delta aO aS cz kr ah bu bW az aG aQ aY aa kq mF bg aD dO aX bM cM fD qh bQ bz gO iw bS xl bY ay iM aC cR ag aA GH aP ax bp sN jj
 try dsimp -iota -proj only
 rintro⟨H,y,L,gb,T,S⟩ ⟨hl,h1,h2,h2',h3,h4,⟨gr,hgb⟩,h5⟩;dsimp only at *;obtain⟨e1,_,⟨ea,ec,e2⟩,e3,_⟩:=hl.qX;refine⟨⟨ea,_,ec,e2,e3⟩,⟨0,?_⟩,fun k hk=>⟨fun c1=>?_,fun c1=>⟨(),?_⟩⟩⟩
 ·and_intros<;>first|exact cV
 ·rw[e1]at c1;have hk:k<L.l.length:=by simpa using c1
  obtain⟨b,lo,o,c,cs,g1,g2,g3,g4⟩:=hl.at_ hk;have hs:=hl.seg k hk;obtain⟨r1,_,_⟩:=hs.A4;refine⟨_,_,_,_,g1,by omega,b,lo,o+k*1,cs,by rw[Int.toNat_natCast,Nat.add_assoc],g2,⟨⟨_,g3,rfl⟩,trivial⟩,?_⟩;refine⟨_,_,g4,?_⟩;refine⟨_,_,rfl,?_⟩;refine⟨_,0,_,_,rfl,hs.cell,?_⟩;refine⟨⟨⟨_,rfl,_,rfl,r1⟩,trivial⟩,fun _=>?_⟩;refine⟨_,_,rfl,?_⟩;refine⟨_,_,rfl,?_⟩;refine⟨_,0,_,_,rfl,hgb,?_⟩;refine⟨⟨⟨_,rfl,_,rfl,h3⟩,trivial⟩,fun _ _=>?_⟩;simp only[cU,List.getD_cons_zero,jD,bL]at h3 ⊢;have h6:=h5 k hk;refine⟨by omega,fun c2=>?_,fun c2=>⟨by omega,k+1,?_⟩⟩
  ·exfalso;simp at c2;omega
  ·and_intros<;>first|exact cV
 ·and_intros<;>first|exact cV)
theorem L9:ak (Y Tryz.prog).G.X 234 G2:=aV fK L8 trivial
theorem Ma:fnBody (Y Tryz.prog) [(234,G2)] 208 vG fun a=>[]:=fnBody.of (p :=
 ∀x:wk,xl x->∃z:wk,x.y.lv=z.y.lv/\ax (ku x.gb z.gb/\x.s=z.s/\x.H=z.H/\xl z/\aI (bQ (cM x.y.lv)))) (by kernel_rfl) (by
 delta ah bu bW dO bM cM aI bQ bz xl ay ag ax bp ku
 intro a h;refine⟨a,?_⟩;obtain⟨h1,h2,h3,h4,h5,h6,h7,h8⟩:=h
 (repeat' (first|apply And.intro|(intro _)|apply Exists.intro ()))<;>first|exact cV|exact h7|exact h5.2|exact h5.1|exact h8 _ (by assumption))
theorem Mb:ak (Y Tryz.prog).G.X 208 vG:=aV fK Ma ⟨L9,trivial⟩
end Go.Proofs.YtfjgoonelcaggaaGreat
