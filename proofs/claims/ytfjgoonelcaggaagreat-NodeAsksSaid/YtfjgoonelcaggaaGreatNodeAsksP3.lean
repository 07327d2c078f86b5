/-
  
-/
import Derived.Test.YtfjgoonelcaggaaGreatNodeAsksP2
set_option maxRecDepth 100000
set_option maxHeartbeats 4000000
set_option linter.unusedVariables false
set_option linter.unusedSimpArgs false
namespace Go.Proofs.YtfjgoonelcaggaaGreat
open Go.Sx
def u8(r:Nat->Nat->Value)(i:Nat):Int:=jW (r i 0)
def abt(x:Int):Int:=dL .xor .u32 (x/2) (dL .and .u32 3988292384 (uw .u32 (0-dL .and .u32 x 1)))
def KW:Nat->Int->Int
 |0,x=>x
 |k+1,x=>abt (KW k x)
def rP(r:Nat->Int):Nat->Int
 |0=>4294967295
 |k+1=>KW 8 (dL .xor .u32 (rP r k) (r k))
structure Aw where
 c:Nat
 r:Nat
 len:Nat
 cap:Nat
 n:Nat
 rows:Nat->Nat->Value
noncomputable def TU:cG where
 α:=Aw
 β:=Unit
 m:=2
 m':=2
 pre:=fun a=>a.r+a.len<=a.n/\a.len<100000
 args:=fun a=>[.a (.slc 0 0 1 1 a.c)]
 hp:=fun _=>[]
 ro:=fun a=>[(0,.obj 58 [.slc 1 a.r 1 a.len a.cap]),(1,.arr 5 [.int .u8] a.n a.rows)]
 post:=fun _ _=>True
 res:=fun a _=>.a (.int .u32 (dL .xor .u32 4294967295 (rP (fun i=>u8 a.rows (a.r+i)) a.len)))
 cR:=fun _ _=>[]
def aat:An:=.flat 10 Nat (fun s j=>(s.set 3 (.a (.int .u32 (KW j (S.iv s 3))))).int 24 j) (fun _ j=>j<=8) (fun _ j=>8-j)
def abu(a:Aw):An:=.mk 6 Nat (fun s i=>(s.set 3 (.a (.int .u32 (rP (fun i=>u8 a.rows (a.r+i)) i)))).int 16 i) (fun _ i=>i<=a.len) (fun _ i=>a.len-i) fun _=>.mk 60 [aat] []
def aC(x:Bool):=x=true
def aD(x:Bool)(y z:Prop):=(aC x->y)/\(x=false->z)
def aG(x y z:Nat)(u v:Nat->Nat->Value):=x<=y/\ak x z u v
def eF(x z:Nat)(y:Nat->Nat->Value):=aG x x z y y
def ai(x:Int):=bR .i64 x
def ag(x:Prop):=0=0/\x
def bF(x:Nat)(y:Prop):=ag (x=x/\y)
def ay(x:Int):=x=x
def af(x:Nat):Int:=(x:Int)
def aR(x:Int):Nat:=x.toNat
def ax(x:Nat):Nat:=aR (af x)
def bn(x:Bool):=x=x
def aK(x y:Int):Bool:=decide (x<y)
def aY(x:Nat):Int:=af x+(1:Int)
def bf(x y:Int):=(0:Int)<=x/\x<y
def gA(y x z:Prop):=y/\x/\x/\z
def nX(x y z:Nat):=x=x/\y=y/\z=z
def dV(x:Nat):=x=x
def az(x:Prop):Unit->Prop:=fun(y:Unit)=>x
def bt(x:Prop):=x/\True/\True
def bz(x:Prop):=Exists (az (bt x))
def bS(y x z:Nat):=y<=x/\x-y<x-z
def aP(x:Nat)(y:Prop):=ay (af x)/\y
def aQ(x:Nat)(y:Prop):=ai (aY x)/\y
def bH(x:Nat)(z:Nat->Prop):=aQ x (∃y:Nat,aY x=af y/\z y)
def aI(x:Prop):=ay 0/\x
def bh(x y:Nat):=bF x (dV y)
def vF(x:Aw)(y:Nat):Int:=rP (fun z=>u8 x.rows (x.r+z)) y
def yo(x:Aw)(y:Nat):Int:=dL Go.BinOp.xor .u32 (vF x y) (jW (x.rows (x.r+ax y) 0))
def Dy(x:Aw)(y:Prop):=gA (ay (af x.len)) (nX x.r x.len x.cap) (bn true/\aI (ay 1/\bh 1 x.c/\aI (bh 1 x.c/\nX x.r x.len x.cap/\eF x.n 1 x.rows/\y)))
def bM(x y:Nat):Bool:=aK (af x) (af y)
def aT(x:Nat)(y:Prop):=(0:Int)=af x/\y
def vG(x:Aw)(y:Nat):Int:=dL Go.BinOp.xor .u32 (4294967295:Int) (vF x y)
def aX(x y:Int)(z u:Prop):=aD (aK x y) z u
def jC(x y:Nat)(z:Prop):=bn (bM x y)/\aP x z
def oh(x y:Nat)(z u:Prop):=aD (bM x y) (bf (af x) (af y)/\z) u
def kr(x:Int):=bR .u8 x
def cm(y z:Nat->Prop):=(∃x:Nat,aT x (y x))/\∀x:Nat,z x
theorem Xw:fnBody (Y Tryz.prog) [] 203 TU fun a=>[(203,[abu a],[])]:=fnBody.of (p :=
 ∀x:Aw,x.r+x.len<=x.n/\x.len<100000->bf 0 1/\cm (fun y=>(4294967295:Int)=vF x y/\Dy x (y<=x.len/\True)) fun y=>y<=x.len->oh y x.len (x.r+ax y<x.n/\(kr (jW (x.rows (x.r+ax y) 0))->cm (fun z=>yo x y=KW z (yo x y)/\ay (jW (x.rows (x.r+ax y) 0))/\jC y x.len (Dy x (z<=8/\True))) fun z=>z<=8->aX (af z) 8 ((0:Int)<=1/\bH z fun u=>dL .xor .u32 (KW z (yo x y)/(2:Int)) (dL .and .u32 (3988292384:Int) (uw .u32 ((0:Int)-dL .and .u32 (KW z (yo x y)) (1:Int))))=KW u (yo x y)/\ay (jW (x.rows (x.r+ax y) 0))/\jC y x.len (Dy x (bS u 8 z))) (bH y fun u=>KW z (yo x y)=vF x u/\Dy x (bS u x.len y)))) (bz (vG x y=vG x x.len))) (by kernel_rfl) (by
 delta aD eF ai bF aG ay ax bn aK aY af bf gA aC aR nX dV bz bS aP bH aI bh yo Dy bM aT az ag vG aX aQ jC oh kr bt vF cm
 try dsimp -iota -proj only
 rintro⟨c,r,len,cap,n,rows⟩ ⟨h1,h2⟩;dsimp only at h1 h2 ⊢;simp only[Int.toNat_natCast,bR,decide_eq_true_eq,decide_eq_false_iff_not];refine⟨by decide,⟨0,?_⟩,fun i hi=>⟨fun c1=>?_,fun c1=>⟨(),?_⟩⟩⟩
 ·(and_intros<;>first|exact rO|skip)
 ·have hi:i<len:=by omega
  refine⟨by omega,by omega,fun _=>⟨⟨0,?_⟩,fun j hj=>⟨fun c2=>⟨by decide,by omega,j+1,?_⟩,fun c2=>⟨by omega,i+1,?_⟩⟩⟩⟩
  ·(and_intros<;>first|exact rO|skip)
  ·(and_intros<;>first|exact rO|skip)
  ·have:j=8:=by omega
   subst this
   (and_intros<;>first|exact rO|skip)
 ·have:i=len:=by omega
  subst this
  (and_intros<;>first|exact rO|skip))
theorem HL:au (Y Tryz.prog).G.X 203 TU:=aU fF Xw trivial
def ve(rows:Nat->Nat->Value)(r len:Nat)(v:Int)(k:Nat):Nat->Nat->Value:=fun i j=>if r+len<=i+k/\i<r+len then .int .u8 (uw .u8 (v/2^min (8*(r+len-1-i)) 64))else rows i j
structure mC where
 r:Nat
 len:Nat
 cap:Nat
 v:Int
 n:Nat
 rows:Nat->Nat->Value
noncomputable def Dz:cG where
 α:=mC
 β:=Unit
 m:=1
 m':=1
 pre:=fun a=>a.r+a.len<=a.n/\a.len<=8
 args:=fun a=>[.a (.slc 0 a.r 1 a.len a.cap),.a (.int .u64 a.v)]
 hp:=fun a=>[(0,.arr 5 [.int .u8] a.n a.rows)]
 ro:=fun _=>[]
 post:=fun _ _=>True
 res:=fun _ _=>.ng []
 cR:=fun a _=>[(0,.arr 5 [.int .u8] a.n (ve a.rows a.r a.len a.v a.len))]
def aau(a:mC):An:=.flat 1 Nat (fun s k=>(s.at_ 0 (.arr 5 [.int .u8] a.n (ve a.rows a.r a.len a.v k))).int 7 k) (fun _ k=>k<=a.len) (fun _ k=>a.len-k)
def bw(x:Value)(y:List Value):List Value:=x::y
def bP(x:Value):List Value:=bw x []
def e9(x:Int):Value:=Value.int .u8 x
def lW(x:mC)(y:Nat):Nat->Nat->Value:=ve x.rows x.r x.len x.v y
def pI(x y:Int)(z:Prop):=ai x/\ai (x-y)/\z
def nq(x:Int):Int:=uw .u8 x
def HM:=∀x:mC,x.r+x.len<=x.n/\x.len<=8->cm (fun y=>aP x.len (nX x.r x.len x.cap/\ay x.v/\aG x.n x.n 1 x.rows (lW x y)/\y<=x.len/\True)) fun y=>y<=x.len->aD (bM y x.len) (pI (af x.len-(1:Int)) (af y) (ai ((8:Int)*af y)/\(0:Int)<=8*af y/\bf (af x.len-(1:Int)-af y) (af x.len)/\x.r+aR (af x.len-(1:Int)-af y)<x.n/\bH y fun z=>aP x.len (nX x.r x.len x.cap/\ay x.v/\aG x.n x.n 1 (kQ (lW x y) (x.r+aR (af x.len-(1:Int)-af y)) 0 (bP (e9 (nq (x.v/(2:Int)^min (aR ((8:Int)*af y)) 64))))) (lW x z)/\bS z x.len y))) (bz (aG x.n x.n 1 (lW x y) (lW x x.len)))
theorem HN:fnBody (Y Tryz.prog) [] 196 Dz fun a=>[(196,[aau a],[])]:=fnBody.of (p :=
 HM) (by kernel_rfl) (by
 delta aD ai aG ay aK aY af bP bf e9 aC aR bw nX bz bS aP bH HM bM aT az lW aQ pI nq bt cm
 try dsimp -iota -proj only
 rintro⟨r,len,cap,v,n,rows⟩ ⟨h1,h2⟩;dsimp only at h1 h2 ⊢;simp only[Int.toNat_natCast,bR,decide_eq_true_eq,decide_eq_false_iff_not];refine⟨⟨0,?_⟩,fun k hk=>⟨fun c1=>?_,fun c1=>⟨(),?_⟩⟩⟩
 ·(and_intros<;>first|exact rO|skip)
  refine⟨fun i hi j hj=>?_⟩;unfold ve;rw[if_neg (by omega)]
 ·have hk:k<len:=by omega
  have e:((len:Int)-1-k).toNat=len-1-k:=by omega
  rw[e];refine⟨by omega,by omega,by omega,by omega,by omega,by omega,by omega,k+1,?_⟩
  (and_intros<;>first|exact rO|skip)
  refine⟨fun i hi j hj=>?_⟩;have hj:j=0:=by omega
  subst hj;by_cases hik:i=r+(len-1-k)
  ·subst hik;have e3:(8*(k:Int)).toNat=8*(r+len-1-(r+(len-1-k))):=by omega
   rw[jB,e3];show Value.int .u8 _=_;simp only[ve];rw[if_pos (by omega)]
  ·rw[iz hik];simp only[ve];by_cases hq:r+len<=i+k/\i<r+len
   ·rw[if_pos hq,if_pos (by omega)]
   ·rw[if_neg hq,if_neg (by omega)]
 ·have:k=len:=by omega
  subst this
  (and_intros<;>first|exact rO|skip))
theorem CE:au (Y Tryz.prog).G.X 196 Dz:=aU fF HN trivial
def kE(r:Nat->Int):Nat->Int
 |0=>0
 |k+1=>dL .or .u64 (uw .u64 (kE r k*2^8)) (r k)
structure yp where
 r:Nat
 len:Nat
 cap:Nat
 n:Nat
 rows:Nat->Nat->Value
noncomputable def KY:cG where
 α:=yp
 β:=Unit
 m:=1
 m':=1
 pre:=fun a=>a.r+a.len<=a.n/\a.len<=8
 args:=fun a=>[.a (.slc 0 a.r 1 a.len a.cap)]
 hp:=fun _=>[]
 ro:=fun a=>[(0,.arr 5 [.int .u8] a.n a.rows)]
 post:=fun _ _=>True
 res:=fun a _=>.a (.int .u64 (kE (fun i=>u8 a.rows (a.r+i)) a.len))
 cR:=fun _ _=>[]
def abv(a:yp):An:=.flat 3 Nat (fun s k=>(s.set 3 (.a (.int .u64 (kE (fun i=>u8 a.rows (a.r+i)) k)))).int 8 k) (fun _ k=>k<=a.len) (fun _ k=>a.len-k)
def cD(x:Int):Int:=uw .u64 x
def sk(x:yp)(y:Nat):Int:=kE (fun z=>u8 x.rows (x.r+z)) y
theorem HO:fnBody (Y Tryz.prog) [] 230 KY fun a=>[(230,[abv a],[])]:=fnBody.of (p :=
 ∀x:yp,x.r+x.len<=x.n/\x.len<=8->cm (fun y=>(0:Int)=sk x y/\aP x.len (nX x.r x.len x.cap/\aI (nX x.r x.len x.cap/\eF x.n 1 x.rows/\y<=x.len/\True))) fun y=>y<=x.len->oh y x.len (x.r+ax y<x.n/\(kr (jW (x.rows (x.r+ax y) 0))->(0:Int)<=8/\bH y fun z=>dL .or .u64 (cD (sk x y*(256:Int))) (jW (x.rows (x.r+ax y) 0))=sk x z/\aP x.len (nX x.r x.len x.cap/\aI (nX x.r x.len x.cap/\eF x.n 1 x.rows/\bS z x.len y)))) (bz (sk x y=sk x x.len))) (by kernel_rfl) (by
 delta aD eF ai aG ay ax aK aY af bf aC aR nX bz bS aP bH cD aI bM aT az aQ sk oh kr bt cm
 try dsimp -iota -proj only
 rintro⟨r,len,cap,n,rows⟩ ⟨h1,h2⟩;dsimp only at h1 h2 ⊢;simp only[Int.toNat_natCast,bR,decide_eq_true_eq,decide_eq_false_iff_not];refine⟨⟨0,?_⟩,fun k hk=>⟨fun c1=>?_,fun c1=>⟨(),?_⟩⟩⟩
 ·(and_intros<;>first|exact rO|skip)
 ·have hk:k<len:=by omega
  refine⟨by omega,by omega,fun _=>⟨by omega,by omega,k+1,?_⟩⟩
  (and_intros<;>first|exact rO|skip)
 ·have:k=len:=by omega
  subst this
  (and_intros<;>first|exact rO|skip))
theorem CF:au (Y Tryz.prog).G.X 230 KY:=aU fF HO trivial
structure bG where
 n:Nat
 now:Nat->Nat->Int
 F7:Nat->Nat->Int
 loose:Nat->Bool
 calls:Nat
def DA:List CK:=List.replicate 128 (.int .u8)++[.bool]
def fO(d:bG):Nat->Nat->Value:=fun i j=>if j<64 then .int .u8 (d.now i j)else if j<128 then .int .u8 (d.F7 i (j-64))else .bool (d.loose i)
@[reducible] def gP(a b:bG)(p:Prop):Prop:=(0=0/\a.n=b.n/\a.n=b.n)/\(↑a.calls:Int)=(↑b.calls:Int)/\(b.n<=a.n/\ak b.n 129 (fO a) (fO b))/\p
def ic(o a:Nat)(d:bG):List (Nat×Chunk):=[(o,.obj 116 [.slc a 0 129 d.n d.n,.int .i64 d.calls]),(a,.arr 158 DA d.n (fO d))]
def mD(n:Int):bG:=⟨(min (max n 1) 2048).toNat,fun _ _=>0,fun _ _=>0,fun _=>false,0⟩
noncomputable def CG:cG where
 α:=Int
 β:=Unit
 m:=0
 m':=2
 pre:=fun _=>True
 args:=fun n=>[.a (.int .i64 n)]
 hp:=fun _=>[]
 ro:=fun _=>[]
 post:=fun _ _=>True
 res:=fun _ _=>.a (.ptr 0 0 0 0)
 cR:=fun n _=>ic 0 1 (mD n)
def sr(x:IntKind)(y z:Int)(u:List Value):List Value:=bw (Value.int x y) (bw (Value.int x z) u)
def zD(x:IntKind)(y z u:Int)(v:Value)(w s t:Int)(f:List Value):List Value:=sr x y z (bw (Value.int x u) (bw v (sr x w s (bw (Value.int x t) f))))
def vH(x:List Value):List Value:=zD .u8 0 0 0 (e9 0) 0 0 0 x
def Xx(x:Value)(y:List Value):List Value:=vH (vH (bw (e9 0) (bw (e9 0) (bw x y))))
def ZA(x:Value)(y:List Value):List Value:=Xx (e9 0) (vH (vH (bw (e9 0) (bw x y))))
def aav(x:Value)(y:List Value):List Value:=ZA (e9 0) (Xx (e9 0) (vH (vH (bw x y))))
def aW(x:List Value)(y:Nat):Value:=x.getD y (Value.tuple #[])
def qf(z:Bool)(x y:Int):Int:=bif z then max x y else min x y
def uX(y x:Value)(z:List Value):List Value:=bw y (bw x (bw x z))
def eH(x y z u:Nat)(v:Prop)(w:Nat)(s t:Nat->Nat->Value)(f:Prop):=ag (x=y/\z=u)/\v/\aG y x w s t/\f
def mE(x y:Int)(z:Prop):=(0:Int)<=x/\x<=x/\y<=(281474976710656:Int)/\z
def ew(x:Bool):Value:=Value.bool x
def gf:Value:=ew false
def ua(x:Nat)(y:bG)(u:Int)(z:bG)(v:Nat->Nat->Value)(w s:Prop):=eH x y.n x y.n (u=af z.calls) 129 v (fO z) (w/\s)
def sw(x y z:Int):Int:=qf false (qf true x y) z
theorem MS:fnBody (Y Tryz.prog) [] 12 CG fun _=>[]:=fnBody.of (p :=
 ∀x:Int,True->mE (sw x 1 2048) ((129:Int)*sw x 1 2048) (Exists (az (ag (ua (aR (sw x 1 2048)) (mD x) 0 (mD x) (fun z y=>aW (aav (e9 0) (ZA (e9 0) (Xx (e9 0) (vH (uX (e9 0) (e9 0) (uX (e9 0) (e9 0) (bP gf))))))) y) True True))))) (by kernel_rfl) (by
 delta aav ZA Xx aW zD aG qf af bP e9 uX aR bw eH mE az vH gf ag ua sw sr ew
 try dsimp -iota -proj only
 intro n _;simp only[cond_true,cond_false,Nat.zero_add];have e:min (max n 1) 2048=((min (max n 1) 2048).toNat:Int):=by omega
 refine⟨by omega,by omega,by omega,(),(by trivial),⟨(by trivial),(by trivial),(by trivial)⟩,(by trivial),⟨Nat.le_refl _,⟨fun i hi j hj=>?_⟩⟩,trivial,trivial⟩;show(List.replicate 128 (Value.int .u8 0)++[Value.bool false]).getD j undef=_;unfold fO mD;dsimp only;simp only[List.getD_eq_getElem?_getD,List.getElem?_append,List.length_replicate,List.getElem?_replicate];by_cases h1:j<64
 ·rw[if_pos (by omega),if_pos (by omega),if_pos h1];rfl
 ·by_cases h2:j<128
  ·rw[if_pos h2,if_pos h2,if_neg h1,if_pos h2];rfl
  ·rw[if_neg h2,if_neg h1,if_neg h2,show j=128 by omega];rfl)
theorem CH{rows:Nat->Nat->Value}{row c i j:Nat}{vs:List Value}:kQ rows row c vs i j=if(c<=j/\j<c+vs.length)/\i=row then vs.getD (j-c) undef else rows i j:=by
 have e1:∀a b:Nat,Nat.ble a b=decide (a<=b):=fun a b=>by rw[Bool.eq_iff_iff];simp
 have e2:∀a b:Nat,Nat.blt a b=decide (a<b):=fun a b=>e1 _ _;unfold kQ;rw[e1,e2];by_cases h1:c<=j<;>by_cases h2:j<c+vs.length<;>by_cases h3:i=row<;>simp[h1,h2,h3]
theorem TV{f:Nat->Value}{n j:Nat}(h:j<n):((List.range n).map f).getD j undef=f j:=by
 simp[List.getD_eq_getElem?_getD,List.getElem?_range h]
def gQ(d:bG)(i len:Nat)(src:Nat->Int):bG:=⟨d.n,fun r j=>if r=i/\j<len then src j else d.now r j,d.F7,fun r=>if r=i then true else d.loose r,d.calls+1⟩
def bW(f:Nat->Int):Nat->Nat->Value:=fun i _=>.int .u8 (f i)
structure MT where
 d:bG
 i:Nat
 r:Nat
 len:Nat
 cap:Nat
 n:Nat
 src:Nat->Int
noncomputable def qy:cG where
 α:=MT
 β:=Unit
 m:=3
 m':=3
 pre:=fun a=>a.i<a.d.n/\a.d.n<100000/\a.len<=64/\a.r+a.len<=a.n/\a.d.calls<1000000000000
 args:=fun a=>[.a (.ptr 0 0 0 0),.a (.int .i64 a.i),.a (.slc 2 a.r 1 a.len a.cap)]
 hp:=fun a=>ic 0 1 a.d
 ro:=fun a=>[(2,.arr 5 [.int .u8] a.n (bW a.src))]
 post:=fun _ _=>True
 res:=fun _ _=>.a (.lit .i64 0)
 cR:=fun a _=>ic 0 1 (gQ a.d a.i a.len fun j=>a.src (a.r+j))
def dm(y:Int)(x z:Nat)(u:Prop):=bf y (af x)/\z<x/\u
def fR(y:Bool)(x:Prop)(z:Bool)(u:Prop):=aD y x (aD z x u)
def mF(x:MT):bG:=gQ x.d x.i x.len fun y=>x.src (x.r+y)
def cn(x y:Int):Bool:=decide (x<=y)
def om:List Value:=bP (ew true)
def vI(x:MT):=x.i<x.d.n/\x.d.n<100000/\x.len<=64/\x.r+x.len<=x.n/\x.d.calls<1000000000000
def dh(x y:Nat)(z:Prop):=dm (af x) y (0+ax x) z
def HP(x y:bG)(z:Nat->Nat->Value):=ai (af x.calls)->aQ x.calls (Exists (az (aI (ua x.n y (aY x.calls) y z True True))))
theorem HQ:fnBody (Y Tryz.prog) [] 81 qy fun _=>[]:=fnBody.of (p :=
 ∀x:MT,vI x->fR (aK (af x.i) 0) (Exists (az ((4:Int)=0/\gP x.d (mF x) (True/\True)))) (cn (af x.d.n) (af x.i)) (aX 64 (af x.len) (Exists (az ((1:Int)=0/\gP x.d (mF x) (True/\True)))) (bf (af x.i) (af x.d.n)/\0<64/\0+ax x.i<x.d.n/\x.r+x.len<=x.n/\dh x.i x.d.n (HP x.d (mF x) (kQ (Cv (fO x.d) (0+ax x.i) 0 (min x.len 64) fun y z=>e9 (x.src (x.r+y))) (0+ax x.i) 128 om))))) (by kernel_rfl) (by
 delta aD ai aG ay ax dm aK aY af bP bf e9 aC aR bw fR eH aI mF cn az ag ua aX om vI aQ dh ew HP
 try dsimp -iota -proj only
 intro a h;obtain⟨h1,h2,h3,h4,h5⟩:=h;have e1:decide ((a.i:Int)<0)=false:=by simp
 have e2:decide ((a.d.n:Int)<=a.i)=false:=by simp;omega
 have e3:decide ((64:Int)<a.len)=false:=by simp;omega
 simp only[e1,e2,e3,Nat.zero_add,Int.toNat_natCast,bR];refine⟨fun e=>(by cases e),fun _=>⟨fun e=>(by cases e),fun _=>⟨fun e=>(by cases e),fun _=>⟨by omega,by omega,by omega,by omega,by omega,by omega,fun _=>⟨by omega,(),(by trivial),⟨(by trivial),(by trivial),(by trivial)⟩,(by trivial),⟨Nat.le_refl _,⟨fun i hi j hj=>?_⟩⟩,trivial,trivial⟩⟩⟩⟩⟩;rw[CH,show min a.len 64=a.len by omega];simp only[fO,gQ,Cv,bW,List.length_singleton];by_cases h6:i=a.i
 ·subst h6;by_cases g1:j<64
  ·by_cases g2:j<a.len
   ·simp[g1,g2,show ¬(128<=j)by omega]
   ·simp[g1,g2,show ¬(128<=j)by omega]
  ·by_cases g3:j<128
   ·simp[g1,g3,show ¬(128<=j)by omega,show ¬(j<a.len)by omega]
   ·simp[g1,g3,show j=128 by omega]
 ·simp[h6])
def gR(d:bG):bG:=⟨d.n,d.now,d.now,fun _=>false,d.calls+1⟩
def kF(d:bG)(i:Nat):bG:=⟨d.n,d.now,fun r j=>if r<i then d.now r j else d.F7 r j,fun r=>if r<i then false else d.loose r,d.calls⟩
noncomputable def ko:cG where
 α:=bG
 β:=Unit
 m:=2
 m':=2
 pre:=fun d=>d.n<100000/\d.calls<1000000000000
 args:=fun a=>[.a (.ptr 0 0 0 0)]
 hp:=fun d=>ic 0 1 d
 ro:=fun _=>[]
 post:=fun _ _=>True
 res:=fun _ _=>.a (.lit .i64 0)
 cR:=fun d _=>ic 0 1 (gR d)
def ZB(d:bG):An:=.flat 4 Nat (fun s i=>(s.at_ (s.qx (s.tg 0) 0) (.arr 158 DA d.n (fO (kF d i)))).int 11 i) (fun _ i=>i<=d.n) (fun _ i=>d.n-i)
def jD(x y:Nat)(z u:Prop):=aD (bM x y) (dh x y z) u
def bI(x:Prop):=bn false/\x
def ku(x:bG):=x.n<100000/\x.calls<1000000000000
def gm(x y:Nat)(z u:Prop):=x<=y->jD x y z u
def mG(x:Prop):=bI (aI (ag x))
theorem HR:fnBody (Y Tryz.prog) [] 169 ko fun d=>[(169,[ZB d],[])]:=fnBody.of (p :=
 ∀x:bG,ku x->cm (fun y=>aP x.n (mG (bh x.n x.n/\aP x.calls (aG x.n x.n 129 (fO x) (fO (kF x y))/\y<=x.n/\True)))) fun y=>gm y x.n (dh y x.n (dh y x.n (bH y fun z=>aP x.n (mG (bh x.n x.n/\aP x.calls (aG x.n x.n 129 (kQ (kQ (fO (kF x y)) (0+ax y) 64 (List.map (fun(u:Nat)=>e9 ((kF x y).now (0+ax y) u)) (List.range 64))) (0+ax y) 128 (bP gf)) (fO (kF x z))/\bS z x.n y)))))) (HP x (gR x) (fO (kF x y)))) (by kernel_rfl) (by
 delta aD ai bF aG ay ax bn dm aK aY af bP bf e9 aC aR bw dV jD eH bI bS aP bH ku aI bh bM aT az gf ag ua aQ gm dh mG ew cm HP
 try dsimp -iota -proj only
 intro d h;obtain⟨h1,h2⟩:=h;simp only[Nat.zero_add,Int.toNat_natCast,bR];refine⟨⟨0,(by trivial),(by trivial),(by trivial),(by trivial),(by trivial),⟨(by trivial),(by trivial),(by trivial)⟩,(by trivial),⟨Nat.le_refl _,⟨fun i hi j hj=>?_⟩⟩,by omega,trivial⟩,fun k hk=>⟨fun c1=>?_,fun c1 _=>?_⟩⟩
 ·simp only[fO,kF,Nat.not_lt_zero,if_false]
 ·have hk:k<d.n:=by simpa using c1
  refine⟨by omega,by omega,by omega,by omega,by omega,by omega,by omega,k+1,by omega,(by trivial),(by trivial),(by trivial),(by trivial),⟨(by trivial),(by trivial),(by trivial)⟩,(by trivial),⟨Nat.le_refl _,⟨fun i hi j hj=>?_⟩⟩,by omega,by omega⟩;refine Eq.trans (b:=kQ (kQ (fO (kF d k)) k 64 ((List.range 64).map fun j=>.int .u8 ((kF d k).now k j))) k 128 [.bool false] i j) rfl ?_;rw[CH,CH];simp only[List.length_singleton,List.length_map,List.length_range];by_cases h6:i=k
  ·subst h6;by_cases g1:j<64
   ·simp[fO,kF,g1,show ¬(128<=j)by omega,show ¬(64<=j)by omega]
   ·by_cases g3:j<128
    ·rw[if_neg (by omega),if_pos (by omega),TV (by omega)];simp[fO,kF,g1,g3]
    ·simp[fO,kF,g1,g3,show j=128 by omega]
  ·rw[if_neg (by omega),if_neg (by omega)];simp only[fO,kF,show(i<k+1)=(i<k)by simp;omega]
 ·have hk:k=d.n:=by simp at c1;omega
  subst hk;refine⟨by omega,(),(by trivial),⟨(by trivial),(by trivial),(by trivial)⟩,(by trivial),⟨Nat.le_refl _,⟨fun i hi j hj=>?_⟩⟩,trivial,trivial⟩;have hi:i<d.n:=hi;simp only[fO,kF,gR,hi,if_true])
structure RdA where
 d:bG
 i:Nat
noncomputable def DB:cG where
 α:=RdA
 β:=Nat
 m:=2
 m':=3
 pre:=fun a=>a.i<a.d.n/\a.d.n<100000
 args:=fun a=>[.a (.ptr 0 0 0 0),.a (.int .i64 a.i)]
 hp:=fun _=>[]
 ro:=fun a=>ic 0 1 a.d
 post:=fun _ c=>64<=c
 res:=fun _ c=>.ng [.a (.slc 2 0 1 64 c),.a (.lit .i64 0)]
 cR:=fun a c=>[(2,.arr 5 [.int .u8] 64 (bW (a.d.now a.i)))]
def DC(x:Nat)(z u:Int):Nat->Prop:=fun(y:Nat)=>(0=x/\0=y)/\z=u/\x=0/\x<=y/\True
def vJ(x:Nat->Nat->Value):Nat->Nat->Value:=bg (aF 1 []) 0 0 x
theorem KZ:fnBody (Y Tryz.prog) [] 201 DB fun _=>[]:=fnBody.of (p :=
 ∀x:RdA,x.i<x.d.n/\x.d.n<100000->fR (aK (af x.i) 0) (Exists (DC 64 4 0)) (cn (af x.d.n) (af x.i)) (bf (af x.i) (af x.d.n)/\0<64/\0<=0/\0+ax x.i<x.d.n/\64<=140737488355328/\∀y:Nat,64<=y->y<=aq->(64<=0->y=0)->∃z:Nat,bF 64 (y=z)/\aI (aG 64 64 1 (vJ fun u v=>fO x.d (0+ax x.i) (0+u)) (bW (x.d.now x.i))/\64<=z/\True))) (by kernel_rfl) (by
 delta aD bF aG ay ax aK af bf aC aR fR aI cn ag DC vJ
 try dsimp -iota -proj only
 intro a h;obtain⟨h1,h2⟩:=h;have e1:decide ((a.i:Int)<0)=false:=by simp
 have e2:decide ((a.d.n:Int)<=a.i)=false:=by simp;omega
 simp only[e1,e2,Nat.zero_add,Int.toNat_natCast];refine⟨fun e=>(by cases e),fun _=>⟨fun e=>(by cases e),fun _=>⟨by omega,by omega,by omega,by omega,by omega,fun cap hc1 hc2 hc3=>⟨cap,⟨(by trivial),(by trivial),(by trivial)⟩,(by trivial),⟨Nat.le_refl _,⟨fun i hi j hj=>?_⟩⟩,hc1,trivial⟩⟩⟩⟩;simp only[bg,bW,Nat.not_lt_zero,if_false,Nat.sub_zero,fO,if_pos hi])
theorem DD:au (Y Tryz.prog).G.X 12 CG:=aU fF MS trivial
theorem qo:au (Y Tryz.prog).G.X 81 qy:=aU fF HQ trivial
theorem ja:au (Y Tryz.prog).G.X 169 ko:=aU fF HR trivial
theorem K0:au (Y Tryz.prog).G.X 201 DB:=aU fF KZ trivial
def cO(x:Int):List Value:=[.int .u8 x]
def xl:Nat->Nat->List Int
 |0,u=>[(u:Int)]
 |k+1,u=>if u<128 then[(u:Int)]else((u%128+128:Nat):Int)::xl k (u/128)
theorem xm:∀(k u:Nat),1<=(xl k u).length/\(xl k u).length<=k+1
 |0,u=>by simp[xl]
 |k+1,u=>by
  unfold xl;split
  ·simp
  ·have:=xm k (u/128);simp only[List.length_cons];omega
theorem aaw(x:Nat):dL .or .u8 (uw .u8 x) 128=((x%128+128:Nat):Int):=by
 have h:∀y:Fin 256,dL .or .u8 (y.1:Int) 128=((y.1%128+128:Nat):Int):=by decide +kernel
 have e:uw .u8 (x:Int)=((x%256:Nat):Int):=by simp only[uw];omega
 have:=h ⟨x%256,by omega⟩;rw[e,this];simp only;omega
def vi(n:Int):List Int:=xl 9 (2*n.toNat)
def jO(t:Nat)(l:List Int):List (Nat×Chunk):=[(t,.arr 5 [.int .u8] l.length (aa cO l))]
def S.bytes(s:S)(slot:Nat)(l:List Int)(cap:Nat):S:=((s.put (s.hp.del (s.tg slot))).new (.arr 5 [.int .u8] l.length (aa cO l))).set slot (.a (.slc s.nx 0 1 l.length cap))
structure BM where
 l:List Int
 cap:Nat
 n:Int
noncomputable def Py:cG where
 α:=BM
 β:=Nat
 m:=1
 m':=2
 pre:=fun a=>a.l.length<100000/\0<=a.n/\a.n<4611686018427387904
 args:=fun a=>[.a (.slc 0 0 1 a.l.length a.cap),.a (.int .i64 a.n)]
 hp:=fun a=>jO 0 a.l
 ro:=fun _=>[]
 post:=fun _ _=>True
 res:=fun a c=>.a (.slc 1 0 1 (a.l++vi a.n).length c)
 cR:=fun a c=>jO 1 (a.l++vi a.n)
structure K1 where
 l:List Int
 u:Nat
 k:Nat
 cap:Nat
def aax(a:BM):An:=.flat 4 K1 (fun s x=>(S.bytes s 0 x.l x.cap).set 5 (.a (.int .u64 x.u))) (fun _ x=>x.l++xl x.k x.u=a.l++vi a.n/\x.u<128^(x.k+1)/\x.k<=9) (fun _ x=>x.u)
def ah(x:List Int):Nat:=x.length
def gC(y z v u:Nat)(w:Nat->Prop):=(y+z)*v<=140737488355328/\∀x:Nat,y+z<=x->x<=aq->(y+z<=u->x=u)->w x
def dQ(x y:List Int)(z:Int->List Value):=aG (ah x) (ah y) 1 (aa z y) (aa z x)
def jE(x y z:Nat)(u:Nat->Prop):=0+x<=x/\1<=1/\gC x 1 y z fun v=>u v
def jF(x:Nat)(y:List Value):Nat->Nat->Value:=fun(z u:Nat)=>aF x y (0+z) u
def iA(z x y:Nat)(u:Nat->Nat->Value)(v:List Value)(w:Nat->Nat->Value):=aG z (x+1) y (bg u 0 x (jF y v)) w
def cU(x y:List Int)(z u:Nat):=ag (ah x=ah y/\z=u)
def HS(x:K1)(y:BM):=x.l++xl x.k x.u=y.l++vi y.n/\x.u<128^(x.k+1)/\x.k<=9
def vK(x:Nat):List Value:=bP (e9 (nq (af x)))
def MU(w:Int)(y:BM):=(∃x:K1,w=af x.u/\cU y.l x.l y.cap x.cap/\bn (aK y.n 0)/\ay y.n/\dQ x.l y.l cO/\HS x y/\True)/\∀x:K1,HS x y->aX 127 (af x.u) (jE (ah x.l) 1 x.cap fun v=>(0:Int)<=7/\∃z:K1,af x.u/(128:Int)=af z.u/\ag (ah x.l+1=ah z.l/\v=z.cap)/\bn (aK y.n 0)/\ay y.n/\iA (ah z.l) (ah x.l) 1 (aa cO x.l) (bP (e9 (dL Go.BinOp.or .u8 (nq (af x.u)) (128:Int)))) (aa cO z.l)/\HS z y/\z.u<x.u) (jE (ah x.l) 1 x.cap fun v=>∃z:Nat,ag (ah x.l+1=ah (y.l++vi y.n)/\v=z)/\bt (iA (ah (y.l++vi y.n)) (ah x.l) 1 (aa cO x.l) (vK x.u) (aa cO (y.l++vi y.n))))
def lY(x y:Int):Int:=dL Go.BinOp.xor .u64 x y
def Ax(x:BM):=ah x.l<100000/\bf x.n 4611686018427387904
theorem TW:fnBody (Y Tryz.prog) [] 200 Py fun a=>[(200,[aax a],[])]:=fnBody.of (p :=
 ∀x:BM,Ax x->(0:Int)<=1/\aX x.n 0 (MU (lY 18446744073709551615 (cD (cD x.n*(2:Int)))) x) (MU (cD (cD x.n*(2:Int))) x)) (by kernel_rfl) (by
 delta aD ah aG ay bn gC aK af bP bf e9 aC bw dQ jE iA MU cD lY ag aX cU nq HS jF Ax bt vK
 try dsimp -iota -proj only
 rintro⟨l,cap,n⟩ ⟨h1,h2,h3⟩;dsimp only at h1 h2 h3 ⊢;have e0:decide (n<0)=false:=by simp;omega
 have e1:uw .u64 (uw .u64 n*2)=((2*n.toNat:Nat):Int):=by simp only[uw];omega
 have hv:=xm 9 (2*n.toNat);rw[e0,e1];refine⟨by omega,fun e=>(by cases e),fun _=>⟨⟨⟨l,2*n.toNat,9,cap⟩,?_⟩,fun x hx=>?_⟩⟩
 ·dsimp only
  and_intros<;>first|trivial|exact ak.refl _ _ _|exact Nat.le_refl _|(simp only[vi])|omega|skip
 ·obtain⟨l',u,k,cap'⟩:=x;obtain⟨g1,g2,g3⟩:=hx;dsimp only at g1 g2 g3 ⊢;have hl:=congrArg List.length g1;have hv2:=xm k u;simp only[List.length_append,vi]at hl;refine⟨fun c1=>⟨by omega,by omega,by omega,fun c hc1 hc2 hc3=>⟨by omega,⟨l'++[((u%128+128:Nat):Int)],u/128,k-1,c⟩,?_⟩⟩,fun c1=>⟨by omega,by omega,by omega,fun c hc1 hc2 hc3=>⟨c,?_⟩⟩⟩
  ·have c1:127<u:=by simp at c1;omega
   obtain⟨k',rfl⟩:∃k',k=k'+1:=⟨k-1,by
    by_cases hk:k=0
    ·subst hk;simp at g2;omega
    ·omega⟩
   have g1':(l'++[((u%128+128:Nat):Int)])++xl k' (u/128)=l++vi n:=by
    rw[<- g1,List.append_assoc];congr 1;rw[show xl (k'+1) u=((u%128+128:Nat):Int)::xl k' (u/128)from if_neg (by omega)];rfl
   have g4:u/128<128^(k'+1):=by
    rw[Nat.pow_succ]at g2;exact Nat.div_lt_of_lt_mul (by rw[Nat.mul_comm];exact g2)
   simp only[Nat.add_sub_cancel]
   and_intros<;>first|trivial|with_reducible rfl|exact g1'|exact g4|omega|(simp;done)|skip
   refine .push rfl (by simp) ?_;show[_]=[_]
   simp only[aF,cO,Nat.add_zero,Nat.zero_mul,List.getD_cons_zero,aaw]
  ·have c1:u<128:=by simp at c1;omega
   have e5:xl k u=[(u:Int)]:=by
    cases k with
    |zero=>rfl
    |succ k=>exact if_pos (by simp at c1;omega)
   rw[e5]at g1;rw[<- g1]
   and_intros<;>first|trivial|with_reducible rfl|omega|(simp;done)|skip
   refine .push rfl (by simp) ?_;show[_]=[_]
   simp only[aF,cO,Nat.add_zero,Nat.zero_mul,List.getD_cons_zero,uw];rw[Int.emod_eq_of_lt (by omega) (by omega)])
theorem jf(n:Int):1<=(vi n).length/\(vi n).length<=10:=xm 9 _
theorem K2:au (Y Tryz.prog).G.X 200 Py:=aU fF TW trivial
structure aH where
 key:ByteArray
 val:ByteArray
 e:Int
 gone:Bool
 deriving Inhabited
def MV:List CK:=[.str,.str,.int .i64,.bool]
def kG(x:aH):List Value:=[.string x.key,.string x.val,.int .i64 x.e,.bool x.gone]
def DF(x:aH):List A:=[.str x.key,.str x.val,.int .i64 x.e,.bool x.gone]
def dN(k:ByteArray):Bool:=!decide (k=ByteArray.mk #[])&&decide (k.size<=40)
def gh(x:aH):Bool:=dN x.key&&decide (x.val.size<=200)&&decide (0<=x.e)&&decide (x.e<=1099511627776)&&(!x.gone||decide (x.val=ByteArray.mk #[])&&decide (x.e=0))
def vL(x:aH)(now:Int):Bool:=gh x&&!x.gone&&(decide (x.e=0)||decide (now<x.e))
noncomputable def MW:cG where
 α:=ByteArray
 β:=Unit
 m:=0
 m':=0
 pre:=fun _=>True
 args:=fun k=>[.a (.str k)]
 hp:=fun _=>[]
 ro:=fun _=>[]
 post:=fun _ _=>True
 res:=fun k _=>.a (.bool (dN k))
 cR:=fun _ _=>[]
def cA:ByteArray:=(ByteArray.mk #[])
def fV(x:Bool)(y z:Prop):=false=x/\y/\z
def bp(x:ByteArray):Nat:=x.size
def dZ(x:Bool):Unit->Prop:=az (fV x True True)
def bq(x:Bool):Bool:=!x
def gn(x y:ByteArray):Bool:=decide (x=y)
theorem Xy:fnBody (Y Tryz.prog) [] 86 MW fun _=>[]:=fnBody.of (p :=
 ∀x:ByteArray,True->aD (bq (gn x cA)) (bz (cn (af (bp x)) 40=dN x)) (Exists (dZ (dN x)))) (by kernel_rfl) (by
 delta aD cA af aC fV bp bz dZ cn az bq gn bt
 intro k _;refine⟨fun h=>⟨(),?_,trivial,trivial⟩,fun h=>⟨(),?_,trivial,trivial⟩⟩
 ·simp only[dN,h,Bool.true_and];exact decide_eq_decide.2 (by omega)
 ·simp only[dN,h];rfl)
noncomputable def yq:cG where
 α:=aH
 β:=Unit
 m:=0
 m':=0
 pre:=fun _=>True
 args:=fun x=>[.agg (DF x)]
 hp:=fun _=>[]
 ro:=fun _=>[]
 post:=fun _ _=>True
 res:=fun x _=>.a (.bool (gh x))
 cR:=fun _ _=>[]
def aB(x:Prop):=∀y:Unit,True->x
def ee(x:Prop):=True/\aB x
theorem HT:fnBody (Y Tryz.prog) [(86,MW)] 96 yq fun _=>[]:=fnBody.of (p :=
 ∀x:aH,True->∃y:ByteArray,x.key=y/\ee (fR (bq (dN y)) (Exists (dZ (gh x))) (aK 200 (af (bp x.val))) (ai x.e->aX x.e 0 (Exists (dZ (gh x))) (ai x.e->aX 1099511627776 x.e (Exists (dZ (gh x))) (aD (bq x.gone) (bz (true=gh x)) (aD (gn x.val cA) (ai x.e->bz ((x.e == (0:Int))=gh x)) (Exists (dZ (gh x))))))))) (by kernel_rfl) (by
 delta aD ai aK cA af aC fV fR bp aB bz dZ az aX bq gn bt ee
 intro x _;have hv:x.val=ByteArray.mk #[]->x.val.size=0:=fun e=>by rw[e];rfl
 refine⟨x.key,rfl,trivial,fun _ _=>?_⟩
 repeat' (first|intro _|apply And.intro|apply Exists.intro ())
 all_goals(try exact trivial)
 all_goals(try simp only[Bool.not_eq_true',Bool.not_eq_false',decide_eq_true_eq,decide_eq_false_iff_not]at *)
 all_goals(simp only[gh];rw[Bool.eq_iff_iff];simp only[Bool.and_eq_true,Bool.or_eq_true,Bool.not_eq_true',decide_eq_true_eq,beq_iff_eq];grind))
structure Pz where
 x:aH
 now:Int
noncomputable def TX:cG where
 α:=Pz
 β:=Unit
 m:=0
 m':=0
 pre:=fun _=>True
 args:=fun a=>[.agg (DF a.x),.a (.int .i64 a.now)]
 hp:=fun _=>[]
 ro:=fun _=>[]
 post:=fun _ _=>True
 res:=fun a _=>.a (.bool (vL a.x a.now))
 cR:=fun _ _=>[]
def qp(y z:Bool)(u x:Prop):=aD y (aD z u x) x
def pJ(x y:aH)(z:Prop):=x.key=y.key/\x.val=y.val/\x.e=y.e/\x.gone=y.gone/\z
def nY(x y:aH)(z u:Prop):=pJ x y (z/\u)
theorem TY:fnBody (Y Tryz.prog) [(96,yq)] 185 TX fun _=>[]:=fnBody.of (p :=
 ∀y:Pz,True->∃z:aH,nY y.x z True (aB (qp (gh z) (bq y.x.gone) (ai y.x.e->aD (y.x.e == (0:Int)) (bz (true=vL y.x y.now)) (ai y.x.e->bz (aK y.now y.x.e=vL y.x y.now))) (Exists (dZ (vL y.x y.now)))))) (by kernel_rfl) (by
 delta qp aD ai aK nY aC fV aB bz dZ az pJ bq bt
 rintro⟨x,now⟩ _;refine⟨x,rfl,rfl,rfl,rfl,trivial,fun _ _=>?_⟩;dsimp only
 repeat' (first|intro _|apply And.intro|apply Exists.intro ())
 all_goals(try exact trivial)
 all_goals(try simp only[Bool.not_eq_true',Bool.not_eq_false',decide_eq_true_eq,decide_eq_false_iff_not]at *)
 all_goals(simp only[vL];rw[Bool.eq_iff_iff];simp only[Bool.and_eq_true,Bool.or_eq_true,Bool.not_eq_true',decide_eq_true_eq,beq_iff_eq];(try simp only[Bool.not_eq_true']at *);grind))
theorem qz{α:Type}[Inhabited α]{l:List α}{i:Nat}(h:i<l.length):l.take (i+1)=l.take i++[gl l i]:=by
 rw[bL h,List.take_add_one,List.getElem?_eq_getElem h];rfl
theorem flatMap_push{α β:Type}[Inhabited α]{l:List α}{f:α->List β}{i:Nat}(h:i<l.length):(l.take (i+1)).flatMap f=(l.take i).flatMap f++f (gl l i):=by
 rw[qz h,List.flatMap_append];simp
theorem vM{α β:Type}{l:List α}{f:α->List β}{i:Nat}(h:¬i<l.length):(l.take i).flatMap f=l.flatMap f:=by
 rw[List.take_of_length_le (by omega)]
theorem K3{α β:Type}[Inhabited α]{l:List α}{f:α->List β}{m:Nat}(h:∀i,i<l.length->(f (gl l i)).length<=m):(l.flatMap f).length<=l.length*m:=by
 induction l with
 |nil=>simp
 |cons x r ih =>
  have h0:=h 0 (by simp);have:=ih fun i hi=>h (i+1) (by simp;omega);simp only[List.flatMap_cons,List.length_append,List.length_cons,Nat.succ_mul]at *;simp only[gl,List.getD_cons_zero]at h0;omega
theorem lP{α β:Type}[Inhabited α]{l:List α}{f:α->List β}{m:Nat}(h:∀i,i<l.length->(f (gl l i)).length<=m)(k:Nat)(hk:k<=l.length):((l.take k).flatMap f).length<=k*m:=by
 have:=K3 (l:=l.take k) (f:=f) (m:=m) fun i hi=>by
  simp at hi;have e:gl (l.take k) i=gl l i:=by unfold gl;rw[List.getD_eq_getElem?_getD,List.getElem?_take_of_lt (by omega),List.getD_eq_getElem?_getD]
  rw[e];exact h i (by omega)
 simpa[Nat.min_eq_left hk]using this
def Ko(t:ByteArray):List Int:=t.data.toList.map fun b=>(b.toNat:Int)
def encI(x:Int):List Value:=[.int .i64 x]
def jZ(x:ByteArray):List Value:=[.string x]
def iN(ns:List Int):List Int:=ns.flatMap vi
def fk(ts:List ByteArray):List Int:=ts.flatMap fun t=>vi t.size++Ko t
theorem jw(t:ByteArray):(Ko t).length=t.size:=by rw[Ko,List.length_map];rfl
theorem DG(t:ByteArray){m:Nat}(h:m<=t.size):ak m 1 (oc t) (aa cO (Ko t)):=by
 refine⟨fun i hi j hj=>?_⟩;have hj:j=0:=by omega
 have hs:t.size=t.data.size:=rfl;have hi':i<t.data.size:=by omega
 subst hj;simp only[oc,aa,cO,List.getD_cons_zero,Ko,gl];congr 1;simp[List.getD_eq_getElem?_getD,Array.getD_eq_getD_getElem?,Array.getElem?_eq_getElem hi']
structure mH where
 l:List Int
 cap:Nat
 ns:List Int
 Q5:Nat
noncomputable def DH:cG where
 α:=mH
 β:=Nat
 m:=2
 m':=3
 pre:=fun a=>a.l.length<10000/\a.ns.length<100/\∀i,i<a.ns.length->0<=gl a.ns i/\gl a.ns i<4611686018427387904
 args:=fun a=>[.a (.slc 0 0 1 a.l.length a.cap),.a (.slc 1 0 1 a.ns.length a.Q5)]
 hp:=fun a=>jO 0 a.l
 ro:=fun a=>[(1,.arr 2 [.int .i64] a.ns.length (aa encI a.ns))]
 post:=fun _ _=>True
 res:=fun a c=>.a (.slc 2 0 1 (a.l++iN a.ns).length c)
 cR:=fun a c=>jO 2 (a.l++iN a.ns)
def ZC(a:mH):An:=.flat 2 (Nat×Nat) (fun s x=>(S.bytes s 0 (a.l++iN (a.ns.take x.1)) x.2).int 9 x.1) (fun _ x=>x.1<=a.ns.length) (fun _ x=>a.ns.length-x.1)
def mI(x y:List Int)(z u:Nat)(v:Int->List Value)(w s:Prop):=cU x y z u/\dQ y x v/\w/\s
def iS(x:Nat×Nat)(z:Nat×Nat->Prop):=aQ x.fst (∃y:Nat×Nat,aY x.fst=af y.fst/\z y)
def uc(x y:Nat)(z:Prop):=gA (ay (af x)) (bh x y) z
def yu(x y:List Int)(u:Nat)(v:Nat×Nat)(z w s:Nat)(t:Nat->Nat->Value)(f:Prop):=cU x y u v.snd/\uc z w (dQ y x cO/\eF z s t/\f)
def yw(x:mH):=ah x.l<10000/\ah x.ns<100/\∀y:Nat,y<ah x.ns->bf (gl x.ns y) 4611686018427387904
def Ay(x:mH)(y:Nat×Nat):List Int:=x.l++iN (List.take y.fst x.ns)
theorem Q6:fnBody (Y Tryz.prog) [(200,Py)] 165 DH fun a=>[(165,[ZC a],[])]:=fnBody.of (p :=
 ∀x:mH,yw x->(∃y:Nat×Nat,aT y.fst (yu x.l (Ay x y) x.cap y (ah x.ns) x.Q5 1 (aa encI x.ns) (y.fst<=ah x.ns/\True)))/\∀y:Nat×Nat,gm y.fst (ah x.ns) (ai (gl x.ns (0+ax y.fst))->∃z:BM,cU (Ay x y) z.l y.snd z.cap/\gl x.ns (0+ax y.fst)=z.n/\dQ z.l (Ay x y) cO/\Ax z/\∀v:Nat,True->iS y fun u=>yu (z.l++vi z.n) (Ay x u) v u (ah x.ns) x.Q5 1 (aa encI x.ns) (bS u.fst (ah x.ns) y.fst)) (∃w:Nat,mI (Ay x y) (x.l++iN x.ns) y.snd w cO True True)) (by kernel_rfl) (by
 delta aD eF ah ai bF aG ay ax dm aK aY af bf gA aC aR dV dQ jD bS mI bh iS yu yw bM aT ag cU aQ gm dh uc Ay Ax
 try dsimp -iota -proj only
 rintro⟨l,cap,ns,Q5⟩ ⟨h1,h2,h3⟩;dsimp only at h1 h2 h3 ⊢;have e0:iN (ns.take 0)=[]:=rfl;refine⟨⟨(0,cap),?_⟩,fun x hx=>?_⟩
 ·dsimp only;rw[e0,List.append_nil]
  and_intros<;>first|trivial|with_reducible rfl|exact ak.refl _ _ _|exact Nat.le_refl _|omega
 ·obtain⟨i,c⟩:=x;have hx:i<=ns.length:=hx;have ln:(iN (ns.take i)).length<=i*10:=lP (fun j _=>(jf _).2) i hx;dsimp only;simp only[Nat.zero_add,Int.toNat_natCast,bR];refine⟨fun c1=>?_,fun c1=>?_⟩
  ·have hi:i<ns.length:=by simpa using c1
   have hs:iN (ns.take (i+1))=iN (ns.take i)++vi (gl ns i):=flatMap_push hi;have h3:=h3 i hi;refine⟨by omega,by omega,fun _=>⟨⟨l++iN (ns.take i),c,gl ns i⟩,?_⟩⟩;dsimp only;rw[List.append_assoc,<- hs]
   (repeat' (first|apply And.intro|(intro _)))<;>first|trivial|with_reducible rfl|exact ak.refl _ _ _|exact Nat.le_refl _|omega|(simp;omega)|skip
   apply Exists.intro ((i+1,_):Nat×Nat)
   (repeat' (first|apply And.intro|(intro _)))<;>first|trivial|with_reducible rfl|exact ak.refl _ _ _|exact Nat.le_refl _|omega
  ·have hi:¬i<ns.length:=by simpa using c1
   rw[show iN (ns.take i)=iN ns from vM hi];refine⟨c,?_⟩
   (repeat' (first|apply And.intro|(intro _)))<;>first|trivial|with_reducible rfl|exact ak.refl _ _ _|exact Nat.le_refl _|omega)
structure qq where
 l:List Int
 cap:Nat
 ts:List ByteArray
 TZ:Nat
noncomputable def HU:cG where
 α:=qq
 β:=Nat
 m:=2
 m':=3
 pre:=fun a=>a.l.length<10000/\a.ts.length<20/\∀i,i<a.ts.length->(gl a.ts i).size<=1000
 args:=fun a=>[.a (.slc 0 0 1 a.l.length a.cap),.a (.slc 1 0 1 a.ts.length a.TZ)]
 hp:=fun a=>jO 0 a.l
 ro:=fun a=>[(1,.arr 9 [.str] a.ts.length (aa jZ a.ts))]
 post:=fun _ _=>True
 res:=fun a c=>.a (.slc 2 0 1 (a.l++fk a.ts).length c)
 cR:=fun a c=>jO 2 (a.l++fk a.ts)
def Xz(a:qq):An:=.flat 2 (Nat×Nat) (fun s x=>(S.bytes s 0 (a.l++fk (a.ts.take x.1)) x.2).int 9 x.1) (fun _ x=>x.1<=a.ts.length) (fun _ x=>a.ts.length-x.1)
def bl(x:List ByteArray):Nat:=x.length
def ud(x:List ByteArray)(y:Nat):Nat:=bp (gl x (0+ax y))
def HV(z x y:List Int)(u:List ByteArray)(v:Nat):=aG (ah z) (ah (x++y)+ud u v) 1 (bg (aa cO (x++y)) 0 (ah (x++y)) (oc (gl u (0+ax v)))) (aa cO z)
def pK(x:List ByteArray):=eF (bl x) 1 (aa jZ x)
def nr(x:List Int):=0+ah x<=ah x
def yx(x:qq)(y:Nat×Nat):List Int:=x.l++fk (List.take y.fst x.ts)
def HW(x:qq):=ah x.l<10000/\bl x.ts<20/\∀y:Nat,y<bl x.ts->bp (gl x.ts y)<=1000
theorem MX:fnBody (Y Tryz.prog) [(200,Py)] 166 HU fun a=>[(166,[Xz a],[])]:=fnBody.of (p :=
 ∀x:qq,HW x->(∃y:Nat×Nat,aT y.fst (yu x.l (yx x y) x.cap y (bl x.ts) x.TZ 1 (aa jZ x.ts) (y.fst<=bl x.ts/\True)))/\∀y:Nat×Nat,gm y.fst (bl x.ts) (∃z:BM,cU (yx x y) z.l y.snd z.cap/\af (ud x.ts y.fst)=z.n/\dQ z.l (yx x y) cO/\Ax z/\∀v:Nat,True->nr (z.l++vi z.n)/\gC (ah (z.l++vi z.n)) (ud x.ts y.fst) 1 v fun w=>iS y fun u=>ag (ah (z.l++vi z.n)+ud x.ts y.fst=ah (yx x u)/\w=u.snd)/\uc (bl x.ts) x.TZ (HV (yx x u) z.l (vi z.n) x.ts y.fst/\pK x.ts/\bS u.fst (bl x.ts) y.fst)) (∃z:Nat,mI (yx x y) (x.l++fk x.ts) y.snd z cO True True)) (by kernel_rfl) (by
 delta aD eF ah ai bF aG ay ax gC dm aK aY af bl bf gA aC aR dV dQ bp jD bS mI bh iS yu bM aT ag HV cU pK aQ gm dh nr yx uc Ax HW ud
 try dsimp -iota -proj only
 rintro⟨l,cap,ts,TZ⟩ ⟨h1,h2,h3⟩;dsimp only at h1 h2 h3 ⊢;have e0:fk (ts.take 0)=[]:=rfl;refine⟨⟨(0,cap),?_⟩,fun x hx=>?_⟩
 ·dsimp only;rw[e0,List.append_nil]
  and_intros<;>first|trivial|with_reducible rfl|exact ak.refl _ _ _|exact Nat.le_refl _|omega
 ·obtain⟨i,c⟩:=x;have hx:i<=ts.length:=hx;have ln:(fk (ts.take i)).length<=i*1010:=lP (fun j hj=>by
   have:=h3 j hj;have:=(jf ((gl ts j).size:Nat)).2;rw[List.length_append,jw];omega) i hx
  dsimp only;simp only[Nat.zero_add,Int.toNat_natCast,bR];refine⟨fun c1=>?_,fun c1=>?_⟩
  ·have hi:i<ts.length:=by simpa using c1
   have hs:fk (ts.take (i+1))=fk (ts.take i)++(vi (gl ts i).size++Ko (gl ts i)):=flatMap_push hi;have h3:=h3 i hi;have hv:=jf ((gl ts i).size:Nat);refine⟨by omega,by omega,⟨⟨l++fk (ts.take i),c,(gl ts i).size⟩,?_⟩⟩;dsimp only;have hl2:(l++fk (ts.take i)++vi (gl ts i).size).length+(gl ts i).size=(l++fk (ts.take (i+1))).length:=by
    rw[hs];simp only[List.length_append,jw];omega
   have hr2:ak (l++fk (ts.take (i+1))).length 1 (bg (aa cO (l++fk (ts.take i)++vi (gl ts i).size)) 0 (l++fk (ts.take i)++vi (gl ts i).size).length (oc (gl ts i))) (aa cO (l++fk (ts.take (i+1)))):=by
    rw[hs,<- List.append_assoc,<- List.append_assoc];refine .app rfl (.of_eq (by funext i;simp)) (DG _ (by simp only[List.length_append,jw];omega))
   (repeat' (first|apply And.intro|(intro _)|apply Exists.intro ((i+1,_):Nat×Nat)))<;>first|trivial|with_reducible rfl|exact ak.refl _ _ _|exact Nat.le_refl _|exact hr2|exact hl2|exact Nat.le_of_eq hl2.symm|omega|(dsimp only;omega)|(simp only[List.length_append];omega)
  ·have hi:¬i<ts.length:=by simpa using c1
   rw[show fk (ts.take i)=fk ts from vM hi];refine⟨c,?_⟩
   (repeat' (first|apply And.intro|(intro _)))<;>first|trivial|with_reducible rfl|exact ak.refl _ _ _|exact Nat.le_refl _|omega)
def de(x:aH):List Int:=fk [x.key,x.val]++iN [x.e,if x.gone then 1 else 0]
def dO(xs:List aH):List Int:=xs.flatMap de
theorem rQ{x:aH}(h:gh x=true):x.key.size<=40/\x.val.size<=200/\0<=x.e/\x.e<=1099511627776:=by
 simp only[gh,dN,Bool.and_eq_true,decide_eq_true_eq]at h;exact⟨h.1.1.1.1.2,h.1.1.1.2,h.1.1.2,h.1.2⟩
theorem F8{x:aH}(h:gh x=true):(de x).length<=300:=by
 obtain⟨k1,k2,k3,k4⟩:=rQ h;have a1:=(jf (x.key.size:Nat)).2;have a2:=(jf (x.val.size:Nat)).2;have a3:=(jf x.e).2;have a4:=(jf (if x.gone then 1 else 0)).2;simp only[de,fk,iN,List.flatMap_cons,List.flatMap_nil,List.length_append,jw,List.length_nil];omega
structure Cm where
 xs:List aH
 cap:Nat
noncomputable def T0:cG where
 α:=Cm
 β:=Nat
 m:=1
 m':=2
 pre:=fun a=>1<=a.xs.length/\a.xs.length<20/\∀i,i<a.xs.length->gh (gl a.xs i)=true
 args:=fun a=>[.a (.slc 0 0 4 a.xs.length a.cap)]
 hp:=fun _=>[]
 ro:=fun a=>[(0,.arr 40 MV a.xs.length (aa kG a.xs))]
 post:=fun _ _=>True
 res:=fun a c=>.a (.slc 1 0 1 (dO a.xs).length c)
 cR:=fun a c=>jO 1 (dO a.xs)
def abw(a:Cm):An:=.flat 3 (Nat×Nat) (fun s x=>((s.new (.arr 5 [.int .u8] (dO (a.xs.take x.1)).length (aa cO (dO (a.xs.take x.1))))).set 3 (.a (.slc s.nx 0 1 (dO (a.xs.take x.1)).length x.2))).int 9 x.1) (fun _ x=>x.1<=a.xs.length) (fun _ x=>a.xs.length-x.1)
def dW(x:Int):Value:=Value.int .i64 x
def bT(x:Int)(y:List Value):List Value:=bw (dW x) y
def bJ(x:ByteArray):Value:=Value.string x
def gp(x:Int):List Value:=bT x []
def yy(x:Nat×Nat)(y:Cm):List Int:=dO (List.take x.fst y.xs)
def DI(u:Nat×Nat)(y:Cm)(w:Int):=∃x:qq,cU (yy u y) x.l u.snd x.cap/\eH 2 (bl x.ts) 2 x.TZ (dQ x.l (yy u y) cO) 1 (aF 1 (bw (bJ (gl y.xs (0+ax u.fst)).key) (bP (bJ (gl y.xs (0+ax u.fst)).val)))) (aa jZ x.ts) (HW x/\∀s:Nat,True->∃z:mH,cU (x.l++fk x.ts) z.l s z.cap/\eH 2 (ah z.ns) 2 z.Q5 (dQ z.l (x.l++fk x.ts) cO) 1 (aF 1 (bT (gl y.xs (0+ax u.fst)).e (gp w))) (aa encI z.ns) (yw z/\∀t:Nat,True->iS u fun v=>yu (z.l++iN z.ns) (yy v y) t v y.xs.length y.cap 4 (aa kG y.xs) (bS v.fst y.xs.length u.fst)))
def yz(x:Cm):=1<=x.xs.length/\x.xs.length<20/\∀y:Nat,y<x.xs.length->aC (gh (gl x.xs y))
def Az(x:Nat):=∃y:Nat,(0=x/\0=y)/\bt (x=0)
theorem XA:fnBody (Y Tryz.prog) [(96,yq),(165,DH),(166,HU)] 122 T0 fun a=>[(122,[abw a],[])]:=fnBody.of (p :=
 ∀x:Cm,yz x->(∃y:Nat×Nat,aT y.fst ((0=ah (yy y x)/\0=y.snd)/\uc x.xs.length x.cap (ah (yy y x)=0/\eF x.xs.length 4 (aa kG x.xs)/\y.fst<=x.xs.length/\True)))/\∀y:Nat×Nat,gm y.fst x.xs.length (∃z:aH,nY (gl x.xs (0+ax y.fst)) z True (aB (aD (bq (gh z)) (Az (ah (dO x.xs))) (aD (gl x.xs (0+ax y.fst)).gone (ai (gl x.xs (0+ax y.fst)).e->(DI y x 1/\DI y x 1)/\DI y x 1) (ai (gl x.xs (0+ax y.fst)).e->(DI y x 0/\DI y x 0)/\DI y x 0))))) (∃z:Nat,mI (yy y x) (dO x.xs) y.snd z cO True True)) (by kernel_rfl) (by
 delta aD eF ah ai bF aG ay bT ax dm aK aY af bl bP nY bf gA aC aR dW bw dV DI dQ bp aB jD eH bS bJ mI bh iS yu yw bM aT ag pJ yz cU bq aQ gm dh Az uc gp bt yy HW
 try dsimp -iota -proj only
 rintro⟨xs,cap⟩ ⟨h1,h2,h3⟩;dsimp only at h1 h2 h3 ⊢;have ei:∀k:Nat,List.flatMap de (xs.take k)=dO (xs.take k):=fun _=>rfl;have ea:List.flatMap de xs=dO xs:=rfl;simp only[ei,ea];have e0:dO (xs.take 0)=[]:=rfl;refine⟨⟨(0,0),?_⟩,fun x hx=>?_⟩
 ·dsimp only;rw[e0]
  and_intros<;>first|trivial|with_reducible rfl|exact ak.refl _ _ _|exact Nat.le_refl _|omega
 ·obtain⟨i,c⟩:=x;have hx:i<=xs.length:=hx;have ln:(dO (xs.take i)).length<=i*300:=lP (fun j hj=>F8 (h3 j hj)) i hx;dsimp only;simp only[Nat.zero_add,Int.toNat_natCast,bR];refine⟨fun c1=>?_,fun c1=>?_⟩
  ·have hi:i<xs.length:=by simpa using c1
   have hs:dO (xs.take (i+1))=dO (xs.take i)++de (gl xs i):=flatMap_push hi;have h3:=h3 i hi;obtain⟨k1,k2,k3,k4⟩:=rQ h3;refine⟨by omega,by omega,⟨gl xs i,rfl,rfl,rfl,rfl,trivial,fun _ _=>?_⟩⟩;rw[h3];have eg:∀g:Bool,(gl xs i).gone=g->dO (xs.take i)++fk [(gl xs i).key,(gl xs i).val]++iN [(gl xs i).e,if g then 1 else 0]=dO (xs.take (i+1)):=fun g e=>by
    rw[hs,List.append_assoc];unfold de;rw[e]
   have tl:(fk [(gl xs i).key,(gl xs i).val]).length<=300:=by
    have a1:=(jf ((gl xs i).key.size:Nat)).2;have a2:=(jf ((gl xs i).val.size:Nat)).2;simp only[fk,List.flatMap_cons,List.flatMap_nil,List.length_append,jw,List.length_nil];omega
   have t2:∀k,k < [(gl xs i).key,(gl xs i).val].length->(gl [(gl xs i).key,(gl xs i).val] k).size<=1000:=fun k hk=>by
    match k,hk with
    |0,_=>show(gl xs i).key.size<=1000;omega
    |1,_=>show(gl xs i).val.size<=1000;omega
   have n2:∀g:Int,0<=g->g<=1->∀k,k < [(gl xs i).e,g].length->0<=gl [(gl xs i).e,g] k/\gl [(gl xs i).e,g] k<4611686018427387904:=fun g g0 g1 k hk=>by
    match k,hk with
    |0,_=>show 0<=(gl xs i).e/\(gl xs i).e<4611686018427387904;exact⟨k3,by omega⟩
    |1,_=>show 0<=g/\g<4611686018427387904;omega
   have r1:ak 2 1 (aF 1 [Value.string (gl xs i).key,Value.string (gl xs i).val]) (aa jZ [(gl xs i).key,(gl xs i).val]):=.dB fun k hk=>by
    match k,hk with
    |0,_=>rfl
    |1,_=>rfl
   have r2:∀g:Int,ak 2 1 (aF 1 [Value.int .i64 (gl xs i).e,Value.int .i64 g]) (aa encI [(gl xs i).e,g]):=fun g=>.dB fun k hk=>by
    match k,hk with
    |0,_=>rfl
    |1,_=>rfl
   refine⟨fun e=>(by cases e),fun _=>⟨fun eg1=>?_,fun eg1=>?_⟩⟩
   ·have eg:=eg _ eg1;rw[if_pos rfl]at eg;intro _;have main:∀(P:qq->Nat->Prop),True:=fun _=>trivial
    repeat' (first
     |apply And.intro
     |(intro _)
     |apply Exists.intro (qq.mk (dO (xs.take i)) _ [(gl xs i).key,(gl xs i).val] 2)
     |apply Exists.intro (mH.mk (dO (xs.take i)++fk [(gl xs i).key,(gl xs i).val]) _ [(gl xs i).e,1] 2)
     |apply Exists.intro ((i+1,_):Nat×Nat))
    all_goals first|exact dg|exact r1|exact r2 _|exact t2 _ (by assumption)|exact(n2 1 (by omega) (by omega) _ (by assumption)).1|exact(n2 1 (by omega) (by omega) _ (by assumption)).2|omega|(simp only[List.length_append];omega)|(dsimp only;rw[eg];done)|(dsimp only;rw[eg];exact ak.refl _ _ _)|(dsimp only;rw[eg];exact Nat.le_refl _)|skip
   ·have eg:=eg _ eg1;rw[if_neg (by decide)]at eg;intro _
    repeat' (first
     |apply And.intro
     |(intro _)
     |apply Exists.intro (qq.mk (dO (xs.take i)) _ [(gl xs i).key,(gl xs i).val] 2)
     |apply Exists.intro (mH.mk (dO (xs.take i)++fk [(gl xs i).key,(gl xs i).val]) _ [(gl xs i).e,0] 2)
     |apply Exists.intro ((i+1,_):Nat×Nat))
    all_goals first|exact dg|exact r1|exact r2 _|exact t2 _ (by assumption)|exact(n2 0 (by omega) (by omega) _ (by assumption)).1|exact(n2 0 (by omega) (by omega) _ (by assumption)).2|omega|(simp only[List.length_append];omega)|(dsimp only;rw[eg];done)|(dsimp only;rw[eg];exact ak.refl _ _ _)|(dsimp only;rw[eg];exact Nat.le_refl _)|skip
  ·have hi:¬i<xs.length:=by simpa using c1
   rw[show dO (xs.take i)=dO xs from vM hi];refine⟨c,?_⟩
   (repeat' (first|apply And.intro|(intro _)))<;>first|trivial|with_reducible rfl|exact ak.refl _ _ _|exact Nat.le_refl _|omega)
theorem zF:au (Y Tryz.prog).G.X 86 MW:=aU fF Xy trivial
theorem rR:au (Y Tryz.prog).G.X 96 yq:=aU fF HT ⟨zF,trivial⟩
theorem T1:au (Y Tryz.prog).G.X 185 TX:=aU fF TY ⟨rR,trivial⟩
theorem AA:au (Y Tryz.prog).G.X 165 DH:=aU fF Q6 ⟨K2,trivial⟩
theorem MY:au (Y Tryz.prog).G.X 166 HU:=aU fF MX ⟨K2,trivial⟩
theorem HX:au (Y Tryz.prog).G.X 122 T0:=aU fF XA ⟨rR,AA,MY,trivial⟩
theorem K4(a b:Nat)(ha:a<2^64)(hb:b<2^64):dL .or .u64 a b=((a ||| b:Nat):Int):=by
 have h:=Nat.or_lt_two_pow ha hb;have e:(BitVec.ofInt 64 (a:Int) ||| BitVec.ofInt 64 (b:Int)).toNat=a ||| b:=by
  rw[BitVec.toNat_or,BitVec.ofInt_natCast,BitVec.ofInt_natCast,BitVec.toNat_ofNat,BitVec.toNat_ofNat,Nat.mod_eq_of_lt ha,Nat.mod_eq_of_lt hb]
 show IntKind.u64.wrap ((BitVec.ofInt 64 (a:Int) ||| BitVec.ofInt 64 (b:Int)).toNat:Int)=_;rw[e];exact fM (by simp only[bR];omega)
theorem MZ(a:Nat)(ha:a<2^64):dL .and .u64 a 1=((a%2:Nat):Int):=by
 have e:(BitVec.ofInt 64 (a:Int) &&& BitVec.ofInt 64 ((1:Nat):Int)).toNat=a%2:=by
  rw[BitVec.toNat_and,BitVec.ofInt_natCast,BitVec.ofInt_natCast,BitVec.toNat_ofNat,BitVec.toNat_ofNat,Nat.mod_eq_of_lt ha,Nat.mod_eq_of_lt (by decide),Nat.and_one_is_mod]
 show IntKind.u64.wrap ((BitVec.ofInt 64 (a:Int) &&& BitVec.ofInt 64 ((1:Nat):Int)).toNat:Int)=_;rw[e];exact fM (by simp only[bR];omega)
theorem ZD(c:Nat)(h:c<256):dL .and .u8 c 127=((c%128:Nat):Int):=by
 have h':∀y:Fin 256,dL .and .u8 (y.1:Int) 127=((y.1%128:Nat):Int):=by decide +kernel
 exact h' ⟨c,h⟩
theorem AB:∀(k m u:Nat),u<128^(m+1)->(xl k u).length<=m+1
 |0,_,_,_=>by simp[xl]
 |k+1,m,u,h=>by
  unfold xl;split
  ·simp
  ·cases m with
   |zero=>simp at h;omega
   |succ m =>
    have:=AB k m (u/128) (Nat.div_lt_of_lt_mul (by rw[Nat.mul_comm,<- Nat.pow_succ];exact h));simp only[List.length_cons];omega
theorem T2:∀(k u i:Nat),u<128^(k+1)->i<(xl k u).length ->
 (i+1<(xl k u).length->128<=u/128^i/\gl (xl k u) i=((u/128^i%128+128:Nat):Int))/\(i+1=(xl k u).length->u/128^i<128/\gl (xl k u) i=((u/128^i:Nat):Int)/\(0<i->0<u/128^i))
 |0,u,i,h,hi=>by
  simp[xl]at hi;subst hi;simp[xl,gl]at h ⊢;omega
 |k+1,u,i,h,hi=>by
  unfold xl at hi ⊢;by_cases hu:u<128
  ·rw[if_pos hu]at hi ⊢;simp at hi;subst hi;simp[gl];omega
  ·rw[if_neg hu]at hi ⊢;cases i with
   |zero =>
    have:=(xm k (u/128)).1;rw[Nat.pow_zero,Nat.div_one];refine⟨fun _=>⟨by omega,rfl⟩,fun hh=>?_⟩;simp only[List.length_cons]at hh;omega
   |succ i =>
    have e:u/128^(i+1)=u/128/128^i:=by rw[Nat.pow_succ,Nat.mul_comm,Nat.div_div_eq_div_mul]
    have hi':i<(xl k (u/128)).length:=by simpa using hi
    obtain⟨h1,h2⟩:=T2 k (u/128) i (Nat.div_lt_of_lt_mul (by rw[Nat.mul_comm,<- Nat.pow_succ];exact h)) hi';have eg:∀x:Int,gl (x::xl k (u/128)) (i+1)=gl (xl k (u/128)) i:=fun x=>by simp[gl]
    rw[e,eg];simp only[List.length_cons,Nat.add_lt_add_iff_right,Nat.add_right_cancel_iff];refine⟨h1,fun hh=>⟨(h2 hh).1,(h2 hh).2.1,fun _=>?_⟩⟩;by_cases h0:0<i
    ·exact(h2 hh).2.2 h0
    ·have:i=0:=by omega
     subst this;simp;omega
theorem XB{U i c:Nat}(hU:U<2^63)(hi:i<=8)(hc:c<256)(hx:c%128=U/128^i%128) :
 dL .or .u64 ((U%128^i:Nat):Int) (uw .u64 (dL .and .u8 (c:Int) 127*2^min (7*(i:Int)).toNat 64))=((U%128^(i+1):Nat):Int):=by
 have e1:(7*(i:Int)).toNat=7*i:=by omega
 have e2:min (7*i) 64=7*i:=by omega
 have e3:(128:Nat)^i=2^(7*i):=by rw[Nat.pow_mul]
 rw[ZD c hc,e1,e2,hx,Nat.pow_succ,Nat.mod_mul,e3];have hlt:U%2^(7*i)<2^(7*i):=Nat.mod_lt _ (Nat.pow_pos (by decide));have hp:(2:Nat)^(7*i)<=2^56:=Nat.pow_le_pow_right (by decide) (by omega);obtain⟨x,hx2⟩:∃x,x=U/2^(7*i)%128:=⟨_,rfl⟩
 have hxl:x<128:=by rw[hx2];exact Nat.mod_lt _ (by decide)
 rw[<- hx2];have hb:2^(7*i)*x<2^64:=by
  have:=Nat.mul_le_mul hp (Nat.le_of_lt_succ (show x<127+1 by omega));omega
 have e5:uw .u64 ((x:Int)*2^(7*i))=((2^(7*i)*x:Nat):Int):=by
  have:(x:Int)*2^(7*i)=((2^(7*i)*x:Nat):Int):=by push_cast;rw[Int.mul_comm]
  rw[this];simp only[uw];omega
 rw[e5,K4 _ _ (by omega) hb,Nat.or_comm,<- Nat.two_pow_add_eq_or_of_lt hlt,Nat.add_comm]
structure qS where
 l:List Int
 r:Nat
 len:Nat
 cap:Nat
 n:Int
noncomputable def K5:cG where
 α:=qS
 β:=Unit
 m:=1
 m':=1
 pre:=fun a=>a.r+a.len<=a.l.length/\a.len<100000/\a.len<=a.cap/\0<=a.n/\a.n<4611686018427387904/\(vi a.n).length<=a.len/\∀i,i<(vi a.n).length->gl a.l (a.r+i)=gl (vi a.n) i
 args:=fun a=>[.a (.slc 0 a.r 1 a.len a.cap)]
 hp:=fun _=>[]
 ro:=fun a=>jO 0 a.l
 post:=fun _ _=>True
 res:=fun a _=>.ng [.a (.int .i64 a.n),.a (.int .i64 (vi a.n).length),.a (.lit .i64 0)]
 cR:=fun _ _=>[]
def aay(a:qS):An:=.flat 3 Nat (fun s i=>(s.set 5 (.a (.int .u64 ((2*a.n.toNat%128^i:Nat):Int)))).int 11 i) (fun _ i=>i<(vi a.n).length) (fun _ i=>(vi a.n).length-i)
def mJ(x y z:Int)(u v:Prop):=x=x/\y=y/\z=z/\u/\v
def vN(x:List Int)(z:Nat)(u:List Int)(v:Nat):=ah x<=z/\∀y:Nat,y<ah x->gl u (v+y)=gl x y
def DJ(x:qS)(y:Nat):Int:=dL Go.BinOp.or .u64 (af (2*aR x.n%128^y)) (cD (dL Go.BinOp.and .u8 (gl x.l (x.r+ax y)) (127:Int)*2^min (aR ((7:Int)*af y)) 64))
def AE(x z:Nat)(y:Int)(u:List Int)(v:Nat):=x<100000/\x<=z/\(0:Int)<=y/\y<(4611686018427387904:Int)/\vN (vi y) x u v
def AF(x:qS):=x.r+x.len<=ah x.l/\AE x.len x.cap x.n x.l x.r
def pL(x:List Int)(y:Int->List Value):=eF (ah x) 1 (aa y x)
def HY(x:qS)(y:Int):Unit->Prop:=az ((0:Int)=x.n/\aT (ah (vi x.n)) (bt (y=(0:Int))))
def M0(x:qS)(y:Nat)(z:Prop):=aP x.len (nX x.r x.len x.cap/\mJ 0 0 0 (nX x.r x.len x.cap) (pL x.l cO/\y<ah (vi x.n)/\z))
def pM(x:Int):Int:=uw .i64 x
theorem K6:fnBody (Y Tryz.prog) [] 177 K5 fun a=>[(177,[aay a],[])]:=fnBody.of (p :=
 ∀x:qS,AF x->cm (fun y=>aT (2*aR x.n%128^y) (M0 x y True)) fun y=>y<ah (vi x.n)->oh y x.len (x.r+ax y<ah x.l/\(kr (gl x.l (x.r+ax y))->qp (af y == (9:Int)) (aK 1 (gl x.l (x.r+ax y))) (Exists (HY x 1)) (ai ((7:Int)*af y)/\(0:Int)<=7*af y/\aX 127 (gl x.l (x.r+ax y)) (bH y fun z=>DJ x y=af (2*aR x.n%128^z)/\M0 x z (ah (vi x.n)-z<ah (vi x.n)-y)) (qp (aK 0 (af y)) (gl x.l (x.r+ax y) == (0:Int)) (Exists (HY x 1)) ((0:Int)<=1/\aD (dL .and .u64 (DJ x y) (1:Int) == 1) (aQ y (Exists (az (dL .xor .i64 (-1:Int) (pM (DJ x y/(2:Int)))=x.n/\aY y=af (ah (vi x.n))/\aI (True/\True))))) (aQ y (Exists (az (pM (DJ x y/(2:Int))=x.n/\aY y=af (ah (vi x.n))/\aI (True/\True)))))))))) (Exists (HY x 2))) (by kernel_rfl) (by
 delta qp aD mJ eF ah ai aG ay ax aK aY af bf aC aR nX aP bH cD vN aI DJ bM aT az AF aX aQ pL oh kr HY bt cm M0 AE pM
 try dsimp -iota -proj only
 rintro⟨l,r,len,cap,n⟩ ⟨h1,h2,h3,h4,h5,h6,h7⟩;dsimp only at *;obtain⟨U,hU⟩:∃U,U=2*n.toNat:=⟨_,rfl⟩
 have hUlt:U<2^63:=by omega
 have hv:vi n=xl 9 U:=by rw[hU];rfl
 have hv0:=xm 9 U
 have hvs := AB 9 8 U (by have : (2 : Nat) ^ 63 = 128 ^ 9 := by decide
                          omega)
 rw[<- hU];rw[hv]at h6 h7 ⊢;refine⟨⟨0,?_⟩,fun i hi=>?_⟩
 ·and_intros<;>first|exact dg|simp[Nat.mod_one]
 ·obtain ⟨b1, b2⟩ := T2 9 U i (by have : (2 : Nat) ^ 63 ≤ 128 ^ (9 + 1) := by decide
                                  omega) hi
  have hgi:=h7 i hi;simp only[Int.toNat_natCast,bR,hgi];obtain⟨c,hc,hc1⟩:∃c:Nat,gl (xl 9 U) i=(c:Int)/\c<256:=by
   by_cases hl:i+1<(xl 9 U).length
   ·exact⟨_,(b1 hl).2,by omega⟩
   ·exact⟨_,(b2 (by omega)).2.1,by have:=(b2 (by omega)).1;omega⟩
  have hx:c%128=U/128^i%128:=by
   by_cases hl:i+1<(xl 9 U).length
   ·have:=(b1 hl).2;rw[hc]at this;omega
   ·have:=(b2 (by omega)).2.1;rw[hc]at this;omega
  have hor:=XB (c:=c) hUlt (by omega:i<=8) hc1 hx;rw[hc]at b1 b2;simp only[hc,hor];have last:¬(127<(c:Int))->i+1=(xl 9 U).length/\U%128^(i+1)=U/\(0<i->0<c):=fun h=>by
   have hl:¬(i+1<(xl 9 U).length):=fun hl=>by have:=(b1 hl).2;omega
   obtain⟨g1,g2,g3⟩:=b2 (by omega);refine⟨by omega,Nat.mod_eq_of_lt ?_,fun h0=>by have:=g3 h0;omega⟩;have:=(Nat.div_lt_iff_lt_mul (Nat.pow_pos (n:=i) (show 0<128 by decide))).1 g1;rw[Nat.pow_succ,Nat.mul_comm];exact this
  have more:127<(c:Int)->i+1<(xl 9 U).length:=fun h=>by
   rcases Nat.lt_or_ge (i+1) (xl 9 U).length with hl|hl
   ·exact hl
   ·have:=b2 (by omega);omega
  have fin:∀w,w=U->(dL .and .u64 (w:Int) 1 == 1)=true->False:=fun w hw h=>by
   rw[hw,MZ U (by omega)]at h;simp at h;omega
  have fin2:∀w:Nat,w=U->uw .i64 ((w:Int)/2)=n:=fun w hw=>by
   subst hw;show IntKind.i64.wrap ((w:Int)/2)=n;rw[fM (by simp only[bR];omega)];omega
  have h9:((i:Int) == 9)=false:=by simp;omega
  rw[h9];refine⟨fun c1=>⟨by omega,by omega,fun _=>⟨fun e=>(by cases e),fun _=>⟨by omega,by omega,fun c2=>?_,fun c2=>⟨fun c3=>?_,fun c3=>?_⟩⟩⟩⟩,fun c1=>?_⟩
  ·have hm:=more (by simpa using c2);refine⟨by omega,i+1,?_⟩
   and_intros<;>first|exact dg
  ·obtain⟨l1,l2,l3⟩:=last (by simpa using c2);have l3:=l3 (by simpa using c3);refine⟨fun e=>?_,fun _=>⟨by omega,fun e=>(fin _ l2 e).elim,fun e=>⟨by omega,(),?_⟩⟩⟩
   ·simp at e;omega
   ·and_intros<;>first|exact dg|exact fin2 _ l2
  ·obtain⟨l1,l2,l3⟩:=last (by simpa using c2);refine⟨by omega,fun e=>(fin _ l2 e).elim,fun e=>⟨by omega,(),?_⟩⟩
   and_intros<;>first|exact dg|exact fin2 _ l2
  ·simp at c1;omega)
theorem HZ(l:List Int)(r n:Nat):iY (aa cO l) r n=List.foldl (fun(s:ByteArray) (n:Int)=>s.push (UInt8.ofNat n.toNat)) ByteArray.empty (List.map (fun(i:Nat)=>gl l (r+i)) (List.range n)):=rfl
theorem foldl_push:∀(l:List UInt8) (b:ByteArray),List.foldl (fun(s:ByteArray) (n:Int)=>s.push (UInt8.ofNat n.toNat)) b (l.map fun x=>(x.toNat:Int))=⟨b.data++l.toArray⟩
 |[],b=>by simp
 |x::l,b=>by
  rw[List.map_cons,List.foldl_cons,foldl_push l];congr 1;simp[ByteArray.push]
theorem PA{t:ByteArray}{n:Nat}{f:Nat->Int}(hn:n=t.size)(h:∀i,i<t.size->f i=gl (Ko t) i):List.foldl (fun(s:ByteArray) (n:Int)=>s.push (UInt8.ofNat n.toNat)) ByteArray.empty (List.map f (List.range n))=t:=by
 have e:List.map f (List.range n)=Ko t:=by
  refine List.ext_getElem (by rw[List.length_map,List.length_range,jw,hn]) fun i h1 h2=>?_;rw[List.getElem_map,List.getElem_range,h i (by rw[jw]at h2;exact h2),bL h2]
 rw[e,Ko,foldl_push];cases t with
 |mk d=>show ByteArray.mk (#[]++d.toList.toArray)=ByteArray.mk d;simp
theorem br{α:Type}[Inhabited α]{l m:List α}{i:Nat}:gl (l++m) (l.length+i)=gl m i:=by
 simp[gl,List.getD_eq_getElem?_getD,List.getElem?_append_right]
structure qT where
 l:List Int
 r:Nat
 len:Nat
 cap:Nat
 t:ByteArray
noncomputable def M3:cG where
 α:=qT
 β:=Unit
 m:=1
 m':=1
 pre:=fun a=>a.r+a.len<=a.l.length/\a.len<100000/\a.len<=a.cap/\a.t.size<=1000/\(vi a.t.size++Ko a.t).length<=a.len/\∀i,i<(vi a.t.size++Ko a.t).length->gl a.l (a.r+i)=gl (vi a.t.size++Ko a.t) i
 args:=fun a=>[.a (.slc 0 a.r 1 a.len a.cap)]
 hp:=fun _=>[]
 ro:=fun a=>jO 0 a.l
 post:=fun _ _=>True
 res:=fun a _=>.ng [.a (.str a.t),.a (.int .i64 (vi a.t.size++Ko a.t).length),.a (.lit .i64 0)]
 cR:=fun _ _=>[]
def eo(x y:Int):=(0:Int)<=x/\x<=y
def gq(x:qT):Int:=af (ah (vi (af (bp x.t))++Ko x.t))
def H6(x:qT):=x.r+x.len<=ah x.l/\x.len<100000/\x.len<=x.cap/\bp x.t<=1000/\vN (vi (af (bp x.t))++Ko x.t) x.len x.l x.r
def cK(x:Int)(y:Nat):=eo x (af y)
def vO(x:qS):Int:=af (ah (vi x.n))+x.n
theorem Q7:fnBody (Y Tryz.prog) [(177,K5)] 235 M3 fun _=>[]:=fnBody.of (p :=
 ∀y:qT,H6 y->∃x:qS,(y.r=x.r/\y.len=x.len/\y.cap=x.cap)/\dQ x.l y.l cO/\AF x/\aB (fR (aK x.n 0) (Exists (az (cA=y.t/\(0:Int)=gq y/\bt ((1:Int)=0)))) (aK 65536 x.n) (ai (af y.len-af (ah (vi x.n)))/\aX (af y.len-af (ah (vi x.n))) x.n (Exists (az (cA=y.t/\(0:Int)=gq y/\bt ((2:Int)=0)))) (ai (vO x)/\cK (vO x) y.cap/\cK (af (ah (vi x.n))) (aR (vO x))/\y.r+ax (ah (vi x.n))+(aR (vO x)-ax (ah (vi x.n)))<=ah y.l/\ai (vO x)/\Exists (az (iY (aa cO y.l) (y.r+ax (ah (vi x.n))) (aR (vO x)-ax (ah (vi x.n)))=y.t/\vO x=gq y/\aI (True/\True))))))) (by kernel_rfl) (by
 delta aD ah ai aG ay ax aK cA af eo aC aR dQ fR bp aB gq vN aI az AF aX H6 cK vO bt AE
 try dsimp -iota -proj only
 rintro⟨l,r,len,cap,t⟩ ⟨h1,h2,h3,h4,h5,h6⟩;dsimp only at *;have hv:=jf (t.size:Nat);rw[List.length_append,jw]at h5 h6 ⊢;have g1:∀i,i<(vi (t.size:Nat)).length->gl l (r+i)=gl (vi (t.size:Nat)) i:=fun i hi=>by rw[h6 i (by omega),bV hi]
 refine⟨⟨l,r,len,cap,t.size⟩,?_⟩
 (repeat' (first|apply And.intro|(intro _)|apply Exists.intro ()))<;>first|exact dg|(exact g1 _ (by assumption))|(exfalso;(try dsimp only at *);(try simp only[decide_eq_true_eq,decide_eq_false_iff_not,Bool.false_eq_true]at *);omega)|skip
 refine PA (by dsimp only;omega) fun i hi=>?_;dsimp only;show gl l (r+(((vi (t.size:Nat)).length:Int)).toNat+i)=_;rw[show r+(((vi (t.size:Nat)).length:Int)).toNat+i=r+((vi (t.size:Nat)).length+i)by omega,h6 _ (by omega),br])
theorem K7:au (Y Tryz.prog).G.X 177 K5:=aU fF K6 trivial
theorem Q8:au (Y Tryz.prog).G.X 235 M3:=aU fF Q7 ⟨K7,trivial⟩
structure Fy where
 l:List Int
 r:Nat
 cap:Nat
 x:aH
noncomputable def XC:cG where
 α:=Fy
 β:=Nat
 m:=1
 m':=2
 pre:=fun a=>gh a.x=true/\a.r+(de a.x).length<=a.l.length/\(de a.x).length<=a.cap/\∀i,i<(de a.x).length->gl a.l (a.r+i)=gl (de a.x) i
 args:=fun a=>[.a (.slc 0 a.r 1 (de a.x).length a.cap)]
 hp:=fun _=>[]
 ro:=fun a=>jO 0 a.l
 post:=fun _ _=>True
 res:=fun a c=>.ng [.a (.slc 1 0 4 1 c),.a (.lit .i64 0)]
 cR:=fun a _=>[(1,.arr 40 MV 1 (aa kG [a.x]))]
def abx(a:Fy):An:=.flat 3 (Nat×Nat) (fun s k=>((s.new (.arr 40 MV k.1 (aa kG ([a.x].take k.1)))).set 4 (.a (.slc s.nx 0 4 k.1 k.2))).int 5 ((k.1*(de a.x).length:Nat):Int)) (fun _ k=>k.1<=1) (fun _ k=>1-k.1)
def nu(y:Nat×Nat)(z:Fy):Int:=af (y.fst*ah (de z.x))
def sx(x:Int)(y:qS):Int:=x+af (ah (vi y.n))
def M4(t:Int)(y:Fy)(u:Nat×Nat)(v w:qT)(s:Nat)(f:qS->Prop):=cK t (ah (de y.x)-aR (nu u y+gq v+gq w))/\∃z:qS,(y.r+aR (nu u y+gq v+gq w)+s=z.r/\ah (de y.x)-aR (nu u y+gq v+gq w)-s=z.len/\y.cap-aR (nu u y+gq v+gq w)-s=z.cap)/\dQ z.l y.l cO/\AF z/\aB (ai (sx t z)/\f z)
def gJ(x y z u v:Nat)(w s:Nat->Nat->Value)(t:Prop):=ag (x=y/\z=u)/\aG y x v w s/\t
def M5(y:Fy)(u:Nat)(z:qT)(v:Nat×Nat)(w:qT)(s t:Prop):=(y.r+u=z.r/\ah (de y.x)-u=z.len/\y.cap-u=z.cap)/\dQ z.l y.l cO/\H6 z/\aB (ai (nu v y+gq w)/\s/\t)
def pN(x y:Int)(z:Prop):=ai x/\ai (x+y)/\z
def dI(x:ByteArray)(y:Int)(z:List Value):List Value:=bw (bJ x) (bT y z)
def DK(y:Nat×Nat)(z:Fy):Nat->Nat->Value:=aa kG (List.take y.fst [z.x])
def H7(y:Fy):=aC (gh y.x)/\y.r+ah (de y.x)<=ah y.l/\vN (de y.x) y.cap y.l y.r
theorem XD:fnBody (Y Tryz.prog) [(177,K5),(235,M3),(122,T0)] 210 XC fun a=>[(210,[abx a],[])]:=fnBody.of (p :=
 ∀y:Fy,H7 y->(∃z:Nat×Nat,aT (z.fst*ah (de y.x)) ((0=z.fst/\0=z.snd)/\aI (nX y.r (ah (de y.x)) y.cap/\z.fst=0/\pL y.l cO/\z.fst<=1/\True)))/\∀z:Nat×Nat,z.fst<=1->aD (bM (z.fst*ah (de y.x)) (ah (de y.x))) (cK (nu z y) (ah (de y.x))/\∃u:qT,M5 y (ax (z.fst*ah (de y.x))) u z u (cK (nu z y+gq u) (ah (de y.x))) (∃v:qT,M5 y (aR (nu z y+gq u)) v z u (ai (nu z y+gq u+gq v)) (cK (nu z y+gq u+gq v) (ah (de y.x))/\bf 0 2/\M4 0 y z u v 0 fun f=>bf 1 2/\M4 (sx 0 f) y z u v (aR (sx 0 f)) fun w=>ai w.n->jE z.fst 48 z.snd fun s=>pN (gq u+gq v) (sx (sx 0 f) w) (ai (nu z y+(gq u+gq v+sx (sx 0 f) w))/\∃g:Nat×Nat,nu z y+(gq u+gq v+sx (sx 0 f) w)=nu g y/\ag (z.fst+1=g.fst/\s=g.snd)/\aI (nX y.r (ah (de y.x)) y.cap/\iA g.fst z.fst 4 (DK z y) (bw (bJ u.t) (dI v.t f.n (bP (ew (w.n == (1:Int)))))) (DK g y)/\pL y.l cO/\bS g.fst 1 z.fst))))) (∃u:Cm,gJ z.fst u.xs.length z.snd u.cap 4 (DK z y) (aa kG u.xs) (yz u/\∀v:Nat,True->∀w:Bool,(aC w->ah (dO u.xs)=0)->aD w (∃s:Nat,(0=1/\0=s)/\(1:Int)=0/\bt (1=0)) (nr (dO u.xs) /\
 y.r+ah (de y.x)<=ah y.l/\aD (bq (gn (iY (aa cO (dO u.xs)) 0 (ah (dO u.xs))) (iY (aa cO y.l) y.r (ah (de y.x))))) (∃s:Nat,(0=1/\0=s)/\(1:Int)=0/\bt (1=0)) (∃s:Nat,eH z.fst 1 z.snd s (ay 0) 4 (DK z y) (aa kG [y.x]) (True/\True)))))) (by kernel_rfl) (by
 delta aD eF ah ai aG ay bT ax gC aK af eo bP bf aC aR dW bw nX dQ bp aB eH jE iA bS gq bJ vN aI M4 gJ bM aT M5 ag AF yz nu pN bq dI pL gn DK nr H6 cK jF sx bt ew AE H7
 try dsimp -iota -proj only
 rintro⟨l,r,cap,x⟩ ⟨h1,h2,h3,h4⟩;dsimp only at *;obtain⟨k1,k2,k3,k4⟩:=rQ h1;obtain⟨P,hP⟩:∃P,P=vi (x.key.size:Nat)++Ko x.key:=⟨_,rfl⟩
 obtain⟨Q,hQ⟩:∃Q,Q=vi (x.val.size:Nat)++Ko x.val:=⟨_,rfl⟩
 obtain⟨E,hE⟩:∃E,E=vi x.e:=⟨_,rfl⟩
 obtain⟨g,hg⟩:∃g:Int,g=if x.gone then 1 else 0:=⟨_,rfl⟩
 obtain⟨G,hG⟩:∃G,G=vi g:=⟨_,rfl⟩
 have hg0:0<=g/\g<=1:=by rw[hg];split<;>omega
 have hI:de x=P++(Q++(E++G)):=by
  simp only[de,fk,iN,List.flatMap_cons,List.flatMap_nil,List.append_nil,hP,hQ,hE,hG,hg,List.append_assoc]
 have hPl:1<=P.length:=by have:=jf (x.key.size:Nat);rw[hP,List.length_append];omega
 have hlen:=F8 h1;have hL:(de x).length=P.length+(Q.length+(E.length+G.length)):=by rw[hI];simp only[List.length_append]
 have fP:∀i,i<P.length->gl l (r+i)=gl P i:=fun i hi=>by rw[h4 i (by omega),hI,bV hi]
 have fQ:∀i,i<Q.length->gl l (r+P.length+i)=gl Q i:=fun i hi=>by
  rw[Nat.add_assoc,h4 _ (by omega),hI,br,bV hi]
 have fE:∀i,i<E.length->gl l (r+(P.length+Q.length)+i)=gl E i:=fun i hi=>by
  rw[Nat.add_assoc,h4 _ (by omega),hI,Nat.add_assoc,br,br,bV hi]
 have fG:∀i,i<G.length->gl l (r+(P.length+Q.length)+E.length+i)=gl G i:=fun i hi=>by
  rw[Nat.add_assoc,Nat.add_assoc,h4 _ (by omega),hI,Nat.add_assoc,br,br,br]
 have hall:List.map (fun(i:Nat)=>gl l (r+i)) (List.range (de x).length)=List.map (fun(i:Nat)=>gl (de x) (0+i)) (List.range (de x).length):=by
  refine List.map_congr_left fun i hi=>?_;rw[h4 i (List.mem_range.1 hi),Nat.zero_add]
 obtain⟨L,hLL⟩:∃L,(de x).length=L:=⟨_,rfl⟩
 rw[hLL]at h2 h3 h4 hlen hL hall ⊢;refine⟨⟨(0,0),?_⟩,fun k hk=>?_⟩
 ·dsimp only
  and_intros<;>first|exact dg|simp
 ·obtain⟨k,c⟩:=k;have hk:k<=1:=hk;dsimp only;refine⟨fun c1=>?_,fun c1=>?_⟩
  ·have hk0:k=0:=by
    rcases Nat.lt_or_ge k 1 with h|h
    ·omega
    ·have:k=1:=by omega
     subst this;simp at c1
   subst hk0;simp only[Nat.zero_mul,Int.natCast_zero,Int.zero_add,Int.toNat_zero,Nat.add_zero,Nat.sub_zero];refine⟨by omega,⟨qT.mk l r L cap x.key,?_⟩⟩;simp only[<- hP]
   and_intros<;>first|exact dg|exact fP|skip
   intro _ _;refine⟨by simp only[bR];omega,by omega,⟨qT.mk l (r+P.length) (L-P.length) (cap-P.length) x.val,?_⟩⟩;simp only[<- hQ]
   and_intros<;>first|exact dg|exact fQ|skip
   intro _ _
   and_intros<;>first|exact dg|(simp only[bR];omega)|skip
   refine⟨qS.mk l (r+(P.length+Q.length)) (L-(P.length+Q.length)) (cap-(P.length+Q.length)) x.e,?_⟩;simp only[<- hE]
   and_intros<;>first|exact dg|exact fE|skip
   intro _ _
   and_intros<;>first|exact dg|(simp only[bR];omega)|skip
   refine⟨qS.mk l (r+(P.length+Q.length)+E.length) (L-(P.length+Q.length)-E.length) (cap-(P.length+Q.length)-E.length) g,?_⟩;simp only[<- hG]
   and_intros<;>first|exact dg|exact fG|skip
   intro _ _
   (repeat' (first|apply And.intro|(intro _)))<;>first|exact dg|(simp only[bR];omega)|skip
   apply Exists.intro ((1,_):Nat×Nat);have hgo:(g == 1)=x.gone:=by
    rw[hg];cases x.gone<;>rfl
   have hr:ak 1 4 (bg (aa kG (List.take 0 [x])) 0 0 fun(i j:Nat)=>aF 4 [Value.string x.key,Value.string x.val,Value.int .i64 x.e,Value.bool (g == 1)] (0+i) j) (aa kG (List.take 1 [x])):=.dB fun i hi=>by
    have:i=0:=by omega
    subst this;rw[hgo];rfl
   and_intros<;>first|exact dg|exact hr|skip
  ·have hk1:k=1:=by
    rcases Nat.lt_or_ge k 1 with h|h
    ·have:k=0:=by omega
     subst this;simp at c1;omega
    ·omega
   subst hk1;have hx1:List.take 1 [x]=[x]:=rfl;have hI1:dO [x]=de x:=by simp[dO]
   rw[hx1];refine⟨⟨[x],c⟩,?_⟩;simp only[HZ,hI1,hLL,hall];have hm:∀i,i < [x].length->gh (gl [x] i)=true:=fun i hi=>by
    have:i=0:=by simp at hi;omega
    subst this;exact h1
   (repeat' (first|apply And.intro|(intro _)|apply Exists.intro (c:Nat)))<;>first|exact dg|(exact hm _ (by assumption))|(exfalso;simp at *;done)|(exfalso;clear h4 hall fP fQ fE fG;grind)|skip)
theorem PB:au (Y Tryz.prog).G.X 210 XC:=aU fF XD ⟨K7,Q8,HX,trivial⟩
end Go.Proofs.YtfjgoonelcaggaaGreat
namespace Go.Sx
section
def XF(f:A->S->(A->S->Prop)->Prop):Prop:=∀x s K,f x s K->∀w0 M ρ w,ρ.n=s.nx->aj w0 M ρ s.hp w->∀u,x.cz ρ u->KE w0 M ρ w s u K
theorem PC(n:Nat):XF (KF n):=Cz n
def T3(ty:Nat)(ks:List CK)(x:A)(s:S)(K:A->S->Prop):Prop :=
 match x with
 |.val v=>pE s fun tp wr H=>bif wr then ∃l c rows,kR H v ks l c rows /\
  K (.slc s.nx 0 ks.length l c) ⟨s.nt,s.fr,⟨s.nx,true,.arr ty ks l rows⟩::⟨s.nx+1,true,.cI (aM H v)⟩::s.hp.del tp,s.nx+2,s.kp,s.rt⟩else False
 |_=>False
theorem T4(ty:Nat)(ks:List CK):XF (T3 ty ks):=by
 intro x s K h w0 M ρ w hρ hh u hu;unfold T3 at h;split at h<;>try exact h.elim
 rename_i v;replace h:=qv h;obtain⟨tp,wr,H,h,hf⟩:=h;cases wr with
 |false=>exact h.elim
 |true =>
  simp only[cond_true]at h;obtain⟨l,c,rows,hat,hK⟩:=h;obtain⟨rfl,_⟩:=hu;have hcp:=(hh.iq _ (aJ.bu hf)).ch;simp only at hcp;rcases hat with⟨rfl,rfl,rfl⟩ | ⟨b,lo,o,cs,rfl,⟨hlc,hcm⟩,hH,hfit,hrows⟩
  ·have hsp:=hh.Hq hf ⟨0,0,0,fun _=>False⟩ ⟨0,0,0,fun x=>(ρ.pl tp).fp x⟩ (fun x hx=>hx.elim) (fun x hx=>hx) (fun x hx _=>hx)
    (c1:=.arr ty ks 0 rows) (c2:=.cI H) (fun ρ'=>.inl ⟨rfl,rfl,fun _ h=>h⟩) (fun ρ' x lo' cs' hx=>hcp x lo' cs' hx)
   rw[hρ]at hsp;exact⟨_,_,_,hK,rfl,rfl,by show ρ.n+1+1=s.nx+2;rw[hρ],(ρ.eE _).trans ((ρ.ext _).eE _),⟨by show s.nx<ρ.n+2;omega,Nat.le_refl _,by unfold aq;omega,.inl ⟨rfl,rfl,rfl⟩⟩,hsp⟩
  ·obtain⟨hfp,vs,vty,fr,hb,hvl,hvs,hun⟩:=hcp b lo cs hH;have hsp:=hh.Hq hf ⟨b,lo+o,c,fun x=>x=b⟩ ⟨0,0,0,fun x=>(ρ.pl tp).fp x/\x≠b⟩ (fun x hx=>by simp only at hx;subst hx;exact hfp) (fun x hx=>hx.1) (fun x hx hx'=>hx'.2 hx)
    (c1:=.arr ty ks l rows) (c2:=.cI (tO H b)) (fun ρ'=>.inr ⟨vs,vty,fr,hb,by simp only;omega,hlc,fun x h1 h2=>hun x (by simp only at h1;omega) (by simp only at h2;omega),fun _=>Iff.rfl,fun i hi j k hk=>by
     obtain⟨g1,g2⟩:=hrows.at_ i hi j k hk;refine⟨?_,g2⟩;have hlt:o+i*ks.length+j<cs.length:=(List.getElem?_eq_some_iff.1 g1).1;rw[<- g1,<- hvs _ hlt];congr 1;simp only;omega⟩)
    (fun ρ' x lo' cs' hx=>by
     by_cases hxb:x=b
     ·subst hxb;rw[BF]at hx;cases hx
     ·rw[Ai hxb]at hx;obtain⟨g1,g2⟩:=hcp x lo' cs' hx;exact⟨⟨g1,hxb⟩,g2⟩)
   rw[hρ]at hsp;refine⟨_,_,_,hK,rfl,rfl,by show ρ.n+1+1=s.nx+2;rw[hρ],(ρ.eE _).trans ((ρ.ext _).eE _),⟨by show s.nx<ρ.n+2;omega,hlc,hcm,.inr ⟨_,rfl,fun _=>?_⟩⟩,hsp⟩;have hpl:((ρ.ext ⟨b,lo+o,c,fun x=>x=b⟩).ext ⟨0,0,0,fun x=>(ρ.pl tp).fp x/\x≠b⟩).pl s.nx=⟨b,lo+o,c,fun x=>x=b⟩:=by
    rw[<- hρ,(ρ.ext _).wS _ (Nat.lt_succ_self _)];exact ρ.dH _
   rw[hpl];simp
def H8(f:A->S->(A->S->Prop)->Prop)(slot:Nat)(s:S)(K:S->Prop):Prop :=
 match look s.fr slot with
 |.a x=>f x s fun y s'=>K (s'.set slot (.a y))
 |_=>False
theorem F9{f:A->S->(A->S->Prop)->Prop}(hf:XF f)(slot:Nat):∀s K,H8 f slot s K->yl s K:=by
 intro s K h w0 M ρ a w hs;unfold H8 at h;split at h<;>try exact h.elim
 rename_i x hx;have hr:=hs.frame slot;rw[hx]at hr;obtain⟨y,s',ρ',hK,h1,h2,h3,h4,h5,h6⟩:=hf x s _ h w0 M ρ w hs.n hs.heap _ hr;refine⟨_,ρ',hK,h4,⟨hs.defers,by rw[hs.size];exact h1.symm,h3,?_,h6⟩⟩;intro j;show(look ((slot,.a y)::s'.fr) j).cz ρ' _;simp only[look];by_cases hj:slot=j
 ·subst hj;simp only[dz,cond_true];exact h5
 ·simp only[fh hj,cond_false];rw[h2];exact(hs.frame j).mono h4
def M6(f:A->S->(A->S->Prop)->Prop)(slot cell:Nat)(s:S)(K:S->Prop):Prop :=
 match look s.fr slot with
 |.a (.ptr t _ _ _)=>match s.hp.find t with
  |some (_,.obj _ cs)=>match cs[cell]? with
   |some x=>f x s fun y s'=>match s'.hp.find t with
    |some (true,.obj ty cs')=>bif Nat.blt cell cs'.length then K (s'.put (s'.hp.vb t (.obj ty (cs'.set cell y))))else False
    |_=>False
   |none=>False
  |_=>False
 |_=>False
theorem Q9{f:A->S->(A->S->Prop)->Prop}(hf:XF f)(slot cell:Nat):∀s K,M6 f slot cell s K->yl s K:=by
 intro s K h w0 M ρ a w hs;unfold M6 at h;split at h<;>try exact h.elim
 rename_i t r e c hsl;split at h<;>try exact h.elim
 rename_i m0 ty0 cs hfd;split at h<;>try exact h.elim
 rename_i x hx;have he:=hs.heap.iq _ (aJ.bu hfd);obtain⟨vs,fr,a1,a2,⟨us,xs,a3,a4⟩,a5⟩:=he.ch;obtain⟨u,hu,hru⟩:=a4.get hx;obtain⟨y,s',ρ',hK,h1,h2,h3,h4,h5,h6⟩:=hf x s _ h w0 M ρ w hs.n hs.heap u hru;split at hK<;>try exact hK.elim
 rename_i ty1 cs' hf';cases hl:Nat.blt cell cs'.length with
 |false=>rw[hl]at hK;exact hK.elim
 |true =>
  rw[hl]at hK;simp only[cond_true]at hK;have hl:=Nat.le_of_ble_eq_true hl;have htn:t<ρ.n:=he.tag;have hpl:ρ'.pl t=ρ.pl t:=h4.pl t htn;have h7:=h6.vb hf' (eZ.refl _ w) (ch':=.obj ty1 (cs'.set cell y)) (by
   obtain⟨vs',fr',b1,b2,⟨us',xs',b3,b4⟩,b5⟩:=(h6.iq _ (aJ.bu hf')).ch;refine⟨vs',fr',b1,b2,⟨us',xs',b3,?_⟩,b5⟩;simp only[hpl]at b1;rw[a1]at b1;have hvv:vs=vs':=by injection b1 with b1;injection b1
   subst hvv;have hlu:=b4.length;have e1:us'[cell]? = some u:=by
    have g1:vs.toList[cell]? = us'[cell]?:=by rw[b3,List.getElem?_append_left (by omega)]
    have g2:vs.toList[cell]? = us[cell]?:=by
     obtain⟨hlt,_⟩:=List.getElem?_eq_some_iff.1 hu;rw[a3,List.getElem?_append_left hlt]
    rw[<- g1,g2,hu]
   have:=b4.set cell (v:=u) (x:=y) h5;have e:us'.set cell u=us':=by
    obtain⟨hlt,he⟩:=List.getElem?_eq_some_iff.1 e1;subst he;exact List.set_getElem_self hlt
   rwa[e]at this)
  exact⟨_,ρ',hK,h4,⟨hs.defers,by rw[hs.size];exact h1.symm,h3,by show dK ρ' s'.fr _;rw[h2];exact hs.frame.mono h4,h7⟩⟩
def An.PD(key slot:Nat)(next:LH):An:=.view key (H8 (KF 3) slot) (F9 (PC 3) slot) next
def An.XG(key slot cell:Nat)(next:LH):An:=.view key (M6 (KF 3) slot cell) (Q9 (PC 3) slot cell) next
def An.T5(key slot:Nat)(ty:Nat)(ks:List CK)(next:LH):An:=.view key (H8 (T3 ty ks) slot) (F9 (T4 ty ks) slot) next
end
end Go.Sx
namespace Go.Proofs.YtfjgoonelcaggaaGreat
open Go.Sx
structure RecM where
 pos:Int
 body:List Int
 deriving Inhabited
structure dJ where
 gen:Int
 base:Int
 run:Int
 buf:List Int
 aV:List RecM
 deriving Inhabited
structure nv where
 b:Nat
 bv:Value
 rv:Value
 vs:List Value
def tj:List CK:=[.int .i64,.deep]
def vP(rs:List RecM)(vs:List Value):Nat->Nat->Value:=fun i j=>if j=0 then .int .i64 (gl rs i).pos else vs.getD i undef
def dc(g:dJ)(bv rv:Value):List Value:=[.int .i64 g.gen,.int .i64 g.base,.int .i64 g.run,bv,rv]
def fU(H:PH)(v:Value)(l:List Int):Prop:=∃c,kR H v [.int .u8] l.length c (aa cO l)
structure oS(H:PH)(y:nv)(g:dJ):Prop where
 cell:H y.b=some (0,dc g y.bv y.rv)
 Cj:bR .i64 g.gen/\bR .i64 g.base/\bR .i64 g.run
 buf:fU H y.bv g.buf
 aV:∃c,kR H y.rv tj g.aV.length c (vP g.aV y.vs)
 len:y.vs.length=g.aV.length
 body:∀i,i<g.aV.length->fU H (y.vs.getD i undef) (gl g.aV i).body
def fW:Value->List Nat
 |.slice (some ⟨b,_,_⟩) _ _=>[b]
 |_=>[]
def bE(y:nv):List Nat:=y.b::(fW y.bv++(fW y.rv++y.vs.flatMap fW))
theorem jg{H H':PH}{v:Value}{ks:List CK}{l c:Nat}{rows:Nat->Nat->Value}(h:kR H v ks l c rows)(e:∀x∈fW v,H' x=H x):kR H' v ks l c rows:=by
 rcases h with h | ⟨b,lo,o,cs,rfl,h1,h2,h3,h4⟩
 ·exact .inl h
 ·exact .inr ⟨b,lo,o,cs,rfl,h1,by rw[e b (by simp[fW,fC]),h2],h3,h4⟩
theorem fU.frame{H H':PH}{v:Value}{l:List Int}(h:fU H v l)(e:∀x∈fW v,H' x=H x):fU H' v l:=by
 obtain⟨c,h⟩:=h;exact⟨c,jg h e⟩
theorem oS.frame{H H':PH}{y:nv}{g:dJ}(h:oS H y g)(e:∀x∈bE y,H' x=H x):oS H' y g:=by
 have e1:∀x∈fW y.bv,H' x=H x:=fun x hx=>e x (by simp[bE,hx]);have e2:∀x∈fW y.rv,H' x=H x:=fun x hx=>e x (by simp[bE,hx]);obtain⟨c,hr⟩:=h.aV;refine⟨by rw[e y.b (by simp[bE]),h.cell],h.Cj,h.buf.frame e1,⟨c,jg hr e2⟩,h.len,fun i hi=>(h.body i hi).frame fun x hx=>e x ?_⟩;simp only[bE,List.mem_cons,List.mem_append,List.mem_flatMap];refine .inr (.inr (.inr ⟨_,?_,hx⟩));have:=h.len;rw[List.getD_eq_getElem?_getD,List.getElem?_eq_getElem (by omega)];exact List.getElem_mem _
theorem nw{H:PH}{v:Value}{ks:List CK}{l c:Nat}{rows:Nat->Nat->Value}(h:kR H v ks l c rows):∀x∈fW v,H x≠none:=by
 rcases h with⟨rfl,_⟩ | ⟨b,lo,o,cs,rfl,h1,h2,h3,h4⟩
 ·intro x hx;cases hx
 ·intro x hx;simp only[fW,fC,List.mem_singleton]at hx;rw[hx,h2];simp
theorem oS.dom{H:PH}{y:nv}{g:dJ}(h:oS H y g):∀x∈bE y,H x≠none:=by
 intro x hx;simp only[bE,List.mem_cons,List.mem_append,List.mem_flatMap]at hx;rcases hx with rfl|hx|hx | ⟨v,hv,hx⟩
 ·rw[h.cell];simp
 ·obtain⟨c,hb⟩:=h.buf;exact nw hb x hx
 ·obtain⟨c,hr⟩:=h.aV;exact nw hr x hx
 ·obtain⟨i,hi,rfl⟩:=List.getElem_of_mem hv;have hl:=h.len;obtain⟨c,hb⟩:=h.body i (by omega);rw[List.getD_eq_getElem?_getD,List.getElem?_eq_getElem hi]at hb;exact nw hb x hx
theorem fH{H:PH}{v:Value}{ks:List CK}{l c:Nat}{rows:Nat->Nat->Value}(h:kR H v ks l c rows):di v=l/\jX v=c/\l<=c/\c<=aq/\Hh v/\(∃a,v = .slice a l c)/\v.oneCell'=true:=by
 rcases h with⟨rfl,rfl,rfl⟩ | ⟨b,lo,o,cs,rfl,⟨h1,h1'⟩,h2,h3,h4⟩
 ·exact⟨rfl,rfl,Nat.le_refl _,Nat.zero_le _,.inl rfl,⟨_,rfl⟩,rfl⟩
 ·exact⟨rfl,rfl,h1,h1',.inr ⟨_,_,_,_,rfl,h1,h1'⟩,⟨_,rfl⟩,rfl⟩
theorem K8{H:PH}{v:Value}{ks:List CK}{l c:Nat}{rows:Nat->Nat->Value}(hk:1<=ks.length)(h:kR H v ks l c rows){sz a e m:Nat}(hs:sz=ks.length)(h1:a<=e)(h2:e<=l)(h2':e<=m)(h3:m<=c):kR H (nW sz v a e m) ks (e-a) (m-a) (fun i=>rows (a+i)):=by
 subst hs;rcases h with⟨rfl,rfl,rfl⟩ | ⟨b,lo,o,cs,rfl,⟨g1,g1'⟩,g2,g3,g4⟩
 ·exact .inl ⟨rfl,by omega,by omega⟩
 ·rw[Aj];by_cases hm:m=a
  ·subst hm
   refine .inr ⟨b, lo, o, cs, by rw [if_pos rfl], ⟨by omega, by omega⟩, g2, by have : (m - m) * ks.length = 0 := by rw [Nat.sub_self, Nat.zero_mul]
                                                                               have:=Nat.le_add_right o (c*ks.length);omega,⟨fun i hi=>by omega⟩⟩
  ·rw[if_neg hm];have e1:(m-a)*ks.length+a*ks.length=m*ks.length:=by rw[<- Nat.add_mul,Nat.sub_add_cancel (by omega)]
   have e2:=Nat.mul_le_mul_right ks.length h3;refine .inr ⟨b,lo,o+a*ks.length,cs,by rw[Nat.add_assoc],⟨by omega,by omega⟩,g2,by omega,⟨fun i hi j k hj=>?_⟩⟩;have:=g4.at_ (a+i) (by omega) j k hj;rw[Nat.add_mul]at this;rwa[show o+a*ks.length+i*ks.length+j=o+(a*ks.length+i*ks.length)+j by omega]
theorem fU.len{H:PH}{v:Value}{l:List Int}(h:fU H v l):di v=l.length/\Hh v/\l.length<=aq/\l.length<=jX v/\(∃a c,v = .slice a l.length c)/\v.oneCell'=true:=by
 obtain⟨c,h⟩:=h;obtain⟨h1,h2,h3,h4,h5,⟨a,h6⟩,h7⟩:=fH h;exact⟨h1,h5,by omega,by omega,⟨a,c,h6⟩,h7⟩
theorem fU.cut{H:PH}{v:Value}{l:List Int}(h:fU H v l){a e:Nat}(h1:a<=e)(h2:e<=l.length):kR H (nW 1 v a e (jX v)) [.int .u8] (e-a) (jX v-a) (fun i=>aa cO l (a+i)):=by
 obtain⟨c,h⟩:=h;obtain⟨_,g2,g3,_⟩:=fH h;rw[g2];exact K8 (Nat.le_refl _) h rfl h1 h2 (by omega) (Nat.le_refl _)
theorem kW{n:Nat}{f:Nat->Int}{rows:Nat->Nat->Value}(h:∀i,i<n->rows i 0 = .int .u8 (f i)):ak n 1 rows (bW f):=⟨fun i hi j hj=>by
 have:j=0:=by omega
 subst this;exact h i hi⟩
theorem rS{rows:Nat->Nat->Value}{k i:Nat}{v:Value}:kQ rows k 0 [v] i 0=if i=k then v else rows i 0:=by
 rw[CH];simp
def Kp(v:Int)(len k:Nat):Int:=uw .u8 (v/2^(8*(len-1-k)))
def cw(i:Nat):Nat:=48*i-6
def kX(i:Nat):Nat:=if i=0 then 42 else 48
def uY(n i:Nat):Nat:=min (kX i) (n-min (cw i) n)
def rG(g:dJ)(i:Nat)(run:Int)(j:Nat):Int :=
 if j<4 then 0 else if j<10 then Kp (uw .u64 g.gen) 6 (j-4)else if j<14 then Kp (uw .u64 run) 4 (j-10)else if j<15 then(i:Int)else if j<16 then(uY g.buf.length i:Int)
 else if i=0 then(if j<22 then Kp (uw .u64 g.base) 6 (j-16)else if j-22<uY g.buf.length i then gl g.buf (j-22)else 0)
 else if j-16<uY g.buf.length i then gl g.buf (cw i+(j-16))else 0
def xG(f:Nat->Int):Int:=dL .xor .u32 4294967295 (rP (fun k=>f (4+k)) 60)
def qs(g:dJ)(i:Nat)(run:Int)(j:Nat):Int:=if j<4 then Kp (xG (rG g i run)) 4 j else rG g i run j
theorem yA{f:Nat->Int}{r len:Nat}{v:Int}(h:len<=8):ve (bW f) r len v len=bW fun i=>if r<=i/\i<r+len then Kp v len (i-r)else f i:=by
 funext i j;simp only[ve,bW];by_cases hi:r<=i/\i<r+len
 ·rw[if_pos (by omega),if_pos hi];simp only[Kp];rw[show min (8*(r+len-1-i)) 64=8*(len-1-(i-r))by omega]
 ·rw[if_neg (by omega),if_neg hi]
structure T6 where
 H:PH
 y:nv
 g:dJ
 i:Nat
 run:Int
noncomputable def H9:cG where
 α:=T6
 β:=Unit
 m:=1
 m':=2
 pre:=fun a=>oS a.H a.y a.g/\a.i<8/\a.g.buf.length<=378
 args:=fun a=>[.a (.val (pv a.y.b 0)),.a (.int .i64 a.i),.a (.int .i64 a.run)]
 hp:=fun _=>[]
 ro:=fun a=>[(0,.cI a.H)]
 post:=fun _ _=>True
 res:=fun _ _=>.a (.slc 1 0 1 64 64)
 cR:=fun a _=>[(1,.arr 5 [.int .u8] 64 (bW (qs a.g a.i a.run)))]
def kY(f:Value)(g:Nat)(h:Nat->Option (Nat×List Value))(i:Nat->List Value->Prop)(j:Nat->Nat->Nat->List Value->Prop):Nat->Prop:=fun(v:Nat)=>∃w:Nat,f=pv v w/\∃s t:Nat,pv v w=pv s t/\∃x y z:Nat,∃u:List Value,pv s (t+g)=pv x (y+z)/\h x=some (y,u)/\i z u/\j x y z u
def ig(u:Value)(v:Nat)(w:Nat->Option (Nat×List Value))(s:Value->Prop)(t:Nat->List Value->Prop):=Exists (kY u v (fun x=>w x) (fun x z=>(∃y:Value,z[x]? = some y/\s y)/\True) fun x z y f=>t y f)
def gD(y:Value):=∃z:Option Go.Addr,∃x u:Nat,y=Value.slice z x u/\x<=aq
def ey(x:Value):=aC x.oneCell'
def yB(y z u:Nat)(w:Int)(s:Nat)(t:Nat->Nat->Value)(f:mC->Prop):mC->Prop:=fun(x:mC)=>(y=x.r/\z=x.len/\u=x.cap)/\w=x.v/\aG x.n s 1 t x.rows/\(x.r+x.len<=x.n/\x.len<=8)/\aB (f x)
def Ia(u:Prop)(y:mC)(z:Nat->Nat->Value)(v:mC->Prop):=gA u (eo 4 64) (∃x:Aw,bF 1 (1=x.c)/\(4=x.r/\60=x.len/\60=x.cap)/\aG x.n y.n 1 z x.rows/\(x.r+x.len<=x.n/\x.len<100000)/\aB (Exists (yB 0 4 64 (vG x x.len) y.n z fun w=>v w)))
def kz(u:PH)(v:Value)(w:CK)(s:List CK)(t:Nat->Nat->(Nat->Nat->Value)->Prop):Nat->Prop:=fun(x:Nat)=>∃y:Nat,∃z:Nat->Nat->Value,kR u v (w::s) x y z/\t x y z
def nA(z:Value)(u:Nat)(v:Nat->Option (Nat×List Value))(w:Nat->List Value->Prop):=ig z u (fun x=>v x) (fun x=>ey x) fun x y=>gD (aW y x)/\w x y
def ue(x:List Value)(y z u:Nat):Value:=nW 1 (aW x y) z u (jX (aW x y))
def M7(x:T6)(w:mC)(j:Nat->Nat->Value)(k t:Nat):=ig (pv x.y.b 0) 3 (fun z=>x.H z) (fun z=>ey z) fun z u=>nA (pv x.y.b 0) 3 (fun v=>x.H v) fun v f=>pI (af x.i*(48:Int)) 6 (Hh (aW u z)/\cK (sw 0 (af x.i*(48:Int)-6) (af (di (aW f v)))) (di (aW u z))/\64<=w.n/\Exists (kz x.H (ue u z (aR (sw 0 (af x.i*(48:Int)-6) (af (di (aW f v))))) (di (aW u z))) (CK.int .u8) [] fun h m l=>bf 15 64/\Ia (15<w.n) w (kQ (pF j k (min h t) l) 15 0 (vK (min h t))) fun s=>Exists (az (bF 64 (64=64)/\bt (aG 64 s.n 1 (lW s s.len) (bW (qs x.g x.i x.run)))))))
def jP(y:Value):=∃x:Int,y=dW x/\ai x
def gV(z:Value)(u:Nat)(v:Nat->Option (Nat×List Value))(w:Nat->List Value->Prop):=ig z u (fun x=>v x) (fun x=>jP x) fun x y=>ai (jW (aW y x))->w x y
def uf:Nat->Nat->Value:=fun(y x:Nat)=>aW (bP (e9 0)) x
theorem M8:fnBody (Y Tryz.prog) [(196,Dz),(203,TU)] 229 H9 fun _=>[]:=fnBody.of (p :=
 ∀x:T6,oS x.H x.y x.g/\x.i<8/\ah x.g.buf<=378->mE 64 64 (eo 10 64/\eo 4 10/\gV (pv x.y.b 0) 0 (fun u=>x.H u) fun u t=>Exists (yB 4 6 60 (cD (jW (aW t u))) 64 uf fun v=>eo 14 64/\eo 10 14/\Exists (yB 10 4 54 (cD x.run) v.n (lW v v.len) fun z=>bf 14 64/\14<z.n/\eo 16 64/\aD (af x.i == (0:Int)) (eo 6 48/\gV (pv x.y.b 0) 1 (fun w=>x.H w) fun w f=>Exists (yB 16 6 48 (cD (jW (aW f w))) z.n (kQ (lW z z.len) 14 0 (vK x.i)) fun s=>eo 6 48/\M7 x s (lW s s.len) 22 42)) (M7 x z (kQ (lW z z.len) 14 0 (vK x.i)) 16 48))))) (by kernel_rfl) (by
 delta aD aW ah ig ai bF aG qf af eo kY bP bf e9 gA aC aR dW bw aB gD ey M7 gV cD Ia kz mE az yB ag vG lW uf sw nA pI nq cK bt jP vF vK ue
 try dsimp -iota -proj only
 rintro⟨H,y,g,i,run⟩ ⟨hs,hi,hlen⟩;dsimp only at hs hi hlen ⊢;have hc:=hs.cell;obtain⟨r1,r2,r3⟩:=hs.Cj;obtain⟨b1,b2,b3,b4,⟨ba,bc,b5⟩,b6⟩:=hs.buf.len;obtain⟨S,hS⟩:∃S,S=min (cw i) g.buf.length:=⟨_,rfl⟩
 have hmm:(bif false then max (bif true then max 0 ((i:Int)*48-6)else min 0 ((i:Int)*48-6)) (g.buf.length:Int)else min (bif true then max 0 ((i:Int)*48-6)else min 0 ((i:Int)*48-6)) (g.buf.length:Int))=(S:Int):=by
  simp only[cond_true,cond_false,cw]at *;omega
 have hcut:=hs.buf.cut (a:=S) (e:=g.buf.length) (by omega) (Nat.le_refl _)
 repeat refine lT ?_
 refine⟨_,_,rfl,?_⟩;refine⟨_,_,rfl,?_⟩;refine⟨_,0,_,_,rfl,hc,?_⟩;refine⟨⟨⟨_,rfl,_,rfl,r1⟩,trivial⟩,fun _=>⟨⟨4,6,60,uw .u64 g.gen,64,bW fun _=>0⟩,?_⟩⟩
 and_intros<;>first|exact dg|rfl|exact kW fun _ _=>rfl|skip
 intro _ _;obtain⟨F1,hF1⟩:∃F:Nat->Int,F=fun k=>if 4<=k/\k<4+6 then Kp (uw .u64 g.gen) 6 (k-4)else 0:=⟨_,rfl⟩
 obtain⟨F2,hF2⟩:∃F:Nat->Int,F=fun k=>if 10<=k/\k<10+4 then Kp (uw .u64 run) 4 (k-10)else F1 k:=⟨_,rfl⟩
 rw[show ve (bW fun _=>0) 4 6 (uw .u64 g.gen) 6=bW F1 by rw[yA (by omega),hF1]]
 repeat refine lT ?_
 refine⟨⟨10,4,54,uw .u64 run,64,bW F1⟩,?_⟩
 and_intros<;>first|exact dg|rfl|skip
 intro _ _;rw[show ve (bW F1) 10 4 (uw .u64 run) 4=bW F2 by rw[yA (by omega),hF2]];have hi8:uw .u8 (i:Int)=i:=by simp only[uw];omega
 have hsec:∀(F:Nat->Int),(∀k,k<64->F k=rG g i run k)->∀k,k<64->(if 0<=k/\k<0+4 then Kp (dL .xor .u32 4294967295 (rP (fun i_1=>u8 (bW (rG g i run)) (4+i_1)) 60)) 4 (k-0)else rG g i run k)=qs g i run k:=by
  intro F hF k hk;simp only[qs,xG,Nat.zero_add,Nat.sub_zero,Nat.zero_le,true_and];rfl
 repeat refine lT ?_
 rw[hi8];refine⟨fun c1=>?_,fun c1=>?_⟩
 ·have hi0:i=0:=by simpa using c1
  subst hi0;obtain⟨F3,hF3⟩:∃F:Nat->Int,F=fun k=>if k=14 then 0 else F2 k:=⟨_,rfl⟩
  obtain⟨F4,hF4⟩:∃F:Nat->Int,F=fun k=>if 16<=k/\k<16+6 then Kp (uw .u64 g.base) 6 (k-16)else F3 k:=⟨_,rfl⟩
  repeat refine lT ?_
  refine⟨_,_,rfl,?_⟩;refine⟨_,_,rfl,?_⟩;refine⟨_,0,_,_,rfl,hc,?_⟩;refine⟨⟨⟨_,rfl,_,rfl,r2⟩,trivial⟩,fun _=>⟨⟨16,6,48,uw .u64 g.base,64,bW F3⟩,?_⟩⟩
  and_intros<;>first|exact dg|rfl|exact kW (fun k hk=>by rw[rS,hF3];simp only[bW];split<;>rfl)|skip
  intro _ _;rw[show ve (bW F3) 16 6 (uw .u64 g.base) 6=bW F4 by rw[yA (by omega),hF4]]
  repeat refine lT ?_
  refine⟨_,_,rfl,?_⟩;refine⟨_,_,rfl,?_⟩;refine⟨_,0,_,_,rfl,hc,?_⟩;refine⟨⟨⟨_,rfl,b6⟩,trivial⟩,?_⟩;refine⟨_,_,rfl,?_⟩;refine⟨_,_,rfl,?_⟩;refine⟨_,0,_,_,rfl,hc,?_⟩;refine⟨⟨⟨_,rfl,b6⟩,trivial⟩,⟨ba,_,bc,b5,b3⟩,?_⟩;simp only[dc,List.getD_cons_succ,List.getD_cons_zero,b1,hmm,Int.toNat_natCast]
  repeat refine lT ?_
  refine⟨_,_,_,hcut,?_⟩
  repeat refine lT ?_
  obtain⟨U,hU⟩:∃U,U=uY g.buf.length 0:=⟨_,rfl⟩
  have hU2:min (g.buf.length-S) 42=U:=by rw[hU,hS];simp only[uY,kX,cw,if_true];omega
  have hUs:(uw .u8 ((min (g.buf.length-S) 42:Nat):Int))=(U:Int):=by rw[hU2];simp only[uw];omega
  have hS0:S=0:=by rw[hS];simp[cw]
  have hfin:ak 64 1 (kQ (pF (bW F4) 22 (min (g.buf.length-S) 42) fun i=>aa cO g.buf (S+i)) 15 0 [Value.int .u8 (uw .u8 ((min (g.buf.length-S) 42:Nat):Int))]) (bW (rG g 0 run)):=by
   rw[hUs,hU2,hS0];refine kW fun k hk=>?_;rw[rS];simp only[pF,bW,aa,cO,List.getD_cons_zero,Nat.zero_add,hF4,hF3,hF2,hF1,rG,<- hU,if_true]
   (repeat' split)<;>first|rfl|(exfalso;omega)|skip
  refine⟨Aw.mk 1 4 60 60 64 (bW (rG g 0 run)),?_⟩
  and_intros<;>first|exact dg|exact hfin|skip
  intro _ _;refine⟨mC.mk 0 4 64 (dL .xor .u32 4294967295 (rP (fun i_1=>u8 (bW (rG g 0 run)) (4+i_1)) 60)) 64 (bW (rG g 0 run)),?_⟩
  and_intros<;>first|exact dg|exact hfin|skip
  intro _ _;refine⟨(),?_⟩;have hlast:ak 64 1 (ve (bW (rG g 0 run)) 0 4 (dL .xor .u32 4294967295 (rP (fun i_1=>u8 (bW (rG g 0 run)) (4+i_1)) 60)) 4) (bW (qs g 0 run)):=by
   rw[yA (by omega)];exact kW fun k hk=>by simp only[bW];rw[hsec _ (fun _ _=>rfl) k hk]
  and_intros<;>first|exact dg|exact hlast|skip
 ·have hi0:i≠0:=by simpa using c1
  repeat refine lT ?_
  refine⟨_,_,rfl,?_⟩;refine⟨_,_,rfl,?_⟩;refine⟨_,0,_,_,rfl,hc,?_⟩;refine⟨⟨⟨_,rfl,b6⟩,trivial⟩,?_⟩;refine⟨_,_,rfl,?_⟩;refine⟨_,_,rfl,?_⟩;refine⟨_,0,_,_,rfl,hc,?_⟩;refine⟨⟨⟨_,rfl,b6⟩,trivial⟩,⟨ba,_,bc,b5,b3⟩,?_⟩;simp only[dc,List.getD_cons_succ,List.getD_cons_zero,b1,hmm,Int.toNat_natCast]
  repeat refine lT ?_
  refine⟨_,_,_,hcut,?_⟩
  repeat refine lT ?_
  obtain⟨U,hU⟩:∃U,U=uY g.buf.length i:=⟨_,rfl⟩
  have hU2:min (g.buf.length-S) 48=U:=by rw[hU,hS];simp only[uY,kX,if_neg hi0];omega
  have hUs:(uw .u8 ((min (g.buf.length-S) 48:Nat):Int))=(U:Int):=by rw[hU2];simp only[uw];omega
  have hfin:ak 64 1 (kQ (pF (kQ (bW F2) 14 0 [Value.int .u8 (i:Int)]) 16 (min (g.buf.length-S) 48) fun i=>aa cO g.buf (S+i)) 15 0 [Value.int .u8 (uw .u8 ((min (g.buf.length-S) 48:Nat):Int))]) (bW (rG g i run)):=by
   have hSU:0<U->S=cw i:=by rw[hU,hS];simp only[uY];omega
   rw[hUs,hU2];refine kW fun k hk=>?_;rw[rS];simp only[pF,bW,aa,cO,List.getD_cons_zero,rS,hF2,hF1,rG,<- hU,if_neg hi0]
   (repeat' split)<;>first|rfl|(exfalso;omega)|(rw[hSU (by omega)];done)|skip
  refine⟨Aw.mk 1 4 60 60 64 (bW (rG g i run)),?_⟩
  and_intros<;>first|exact dg|exact hfin|skip
  intro _ _;refine⟨mC.mk 0 4 64 (dL .xor .u32 4294967295 (rP (fun i_1=>u8 (bW (rG g i run)) (4+i_1)) 60)) 64 (bW (rG g i run)),?_⟩
  and_intros<;>first|exact dg|exact hfin|skip
  intro _ _;refine⟨(),?_⟩;have hlast:ak 64 1 (ve (bW (rG g i run)) 0 4 (dL .xor .u32 4294967295 (rP (fun i_1=>u8 (bW (rG g i run)) (4+i_1)) 60)) 4) (bW (qs g i run)):=by
   rw[yA (by omega)];exact kW fun k hk=>by simp only[bW];rw[hsec _ (fun _ _=>rfl) k hk]
  and_intros<;>first|exact dg|exact hlast|skip)
theorem M9:au (Y Tryz.prog).G.X 229 H9:=aU fF M8 ⟨CE,HL,trivial⟩
structure b8 where
 from_:Nat
 av:Nat
 l:List dJ
 next:Int
 run:Int
 fresh:Bool
 deriving Inhabited
structure iL where
 lv:Value
 ys:List nv
def aby(t:Nat)(L:b8)(lv:Value):List A:=[.ptr t 0 0 0,.int .i64 L.from_,.int .i64 L.av,.val lv,.int .i64 L.next,.int .i64 L.run,.bool L.fresh]
@[reducible] def vf(a b:b8)(v w:Value)(p:Prop):Prop:=(↑a.from_:Int)=(↑b.from_:Int)/\(↑a.av:Int)=(↑b.av:Int)/\v=w/\a.next=b.next/\a.run=b.run/\a.fresh=b.fresh/\p
def gu(t:Nat)(L:b8)(lv:Value):Chunk:=.obj 254 (aby t L lv)
def kH(L:b8)(g:dJ)(i:Nat):Nat:=L.from_+(g.gen-1).toNat%L.av*8+i
structure ug where
 H:PH
 y:nv
 g:dJ
 i:Nat
 L:b8
 lv:Value
 d:bG
noncomputable def Ib:cG where
 α:=ug
 β:=Unit
 m:=4
 m':=4
 pre:=fun a=>oS a.H a.y a.g/\a.i<8/\a.g.buf.length<=378/\1<=a.g.gen/\3<=a.L.av/\a.L.av<=200/\a.L.from_+a.L.av*8<=a.d.n/\a.d.n<100000/\a.d.calls<1000000000000
 args:=fun a=>[.a (.ptr 0 0 0 0),.a (.val (pv a.y.b 0)),.a (.int .i64 a.i)]
 hp:=fun a=>ic 1 2 a.d
 ro:=fun a=>[(0,gu 1 a.L a.lv),(3,.cI a.H)]
 post:=fun _ _=>True
 res:=fun _ _=>.a (.lit .i64 0)
 cR:=fun a _=>ic 1 2 (gQ a.d (kH a.L a.g a.i) 64 (qs a.g a.i a.L.run))
def yC(x:MT)(y:bG)(z:Nat)(u:Nat->Nat->Value)(v:Prop):=(0=x.r/\64=x.len/\64=x.cap)/\gP y x.d (aG x.n z 1 u (bW x.src)/\vI x/\aB v)
def AG(x:ug):=oS x.H x.y x.g/\x.i<8/\ah x.g.buf<=378/\(1:Int)<=x.g.gen/\3<=x.L.av/\x.L.av<=200/\x.L.from_+x.L.av*8<=x.d.n/\ku x.d
def bC(x y:Nat):=af x=af y
def AH(x:ug):bG:=gQ x.d (kH x.L x.g x.i) 64 (qs x.g x.i x.L.run)
def kZ(x y:Nat):=pv x 0=pv y 0
def Ic(x:b8)(y:Int)(z:Nat)(u:Prop):=ai (af x.from_)->ai (y*(8:Int))/\pN (af x.from_+y*(8:Int)) (af z) u
theorem Ra:fnBody (Y Tryz.prog) [(229,H9),(81,qy)] 198 Ib fun _=>[]:=fnBody.of (p :=
 ∀x:ug,AG x->gV (pv x.y.b 0) 0 (fun u=>x.H u) fun u v=>ai (jW (aW v u)-(1:Int))/\(ai (af x.L.av)->af x.L.av≠(0:Int)/\Ic x.L ((jW (aW v u)-(1:Int)).tmod (af x.L.av)) x.i (ai x.L.run->∃z:T6,kZ x.y.b z.y.b/\bC x.i z.i/\x.L.run=z.run/\x.H=z.H/\(oS z.H z.y z.g/\z.i<8/\ah z.g.buf<=378)/\aB (∃w:MT,ag (af x.L.from_+(jW (aW v u)-(1:Int)).tmod (af x.L.av)*(8:Int)+af x.i=af w.i/\yC w x.d 64 (bW (qs z.g z.i z.run)) (Exists (az (aI (gP (mF w) (AH x) (True/\True)))))))))) (by kernel_rfl) (by
 delta aW ah ig ai aG ay af kY dW aB gV ku aI mF yC az AG ag vI pN bC AH kZ Ic jP
 try dsimp -iota -proj only
 rintro⟨H,y,g,i,L,lv,d⟩ ⟨hs,hi,hlen,hg,s1,s2,h3,h4,h5⟩;dsimp only at *;have hc:=hs.cell;obtain⟨r1,r2,r3⟩:=hs.Cj;have hm:(g.gen-1).tmod (L.av:Int)=(((g.gen-1).toNat%L.av:Nat):Int):=by
  rw[Int.tmod_eq_emod_of_nonneg (by omega),Int.natCast_emod];congr 1;omega
 have hml:(g.gen-1).toNat%L.av<L.av:=Nat.mod_lt _ (by omega);have hsn:((L.from_:Int)+(((g.gen-1).toNat%L.av:Nat):Int)*8+i)=(kH L g i:Nat):=by simp only[kH];omega
 have hlt:kH L g i<d.n:=by simp only[kH];omega
 refine⟨_,_,rfl,?_⟩;refine⟨_,_,rfl,?_⟩;refine⟨_,0,_,_,rfl,hc,?_⟩;refine⟨⟨⟨_,rfl,_,rfl,r1⟩,trivial⟩,fun _=>?_⟩;simp only[dc,List.getD_cons_zero,jW,hm];refine⟨by simp only[bR]at *;omega,fun _=>⟨by omega,fun _=>⟨by simp only[bR];omega,by simp only[bR];omega,by simp only[bR];omega,fun _=>?_⟩⟩⟩;rw[hsn];refine⟨T6.mk H y g i L.run,?_⟩
 and_intros<;>first|exact dg|skip
 intro _ _;refine⟨MT.mk d (kH L g i) 0 64 64 64 (qs g i L.run),?_⟩;simp only[Nat.zero_add]
 (repeat' (first|apply And.intro|(intro _)|apply Exists.intro ()))<;>first|exact dg|skip)
theorem Ga:au (Y Tryz.prog).G.X 198 Ib:=aU fF Ra ⟨M9,qo,trivial⟩
instance:Inhabited nv:=⟨⟨0,undef,undef,[]⟩⟩
def AI(ys:List nv):Nat->Nat->Value:=fun i _=>pv (gl ys i).b 0
structure ct(H:PH)(y:iL)(L:b8):Prop where
 Kq:∃c,kR H y.lv [.deep] L.l.length c (AI y.ys)
 len:y.ys.length=L.l.length
 seg:∀i,i<L.l.length->oS H (gl y.ys i) (gl L.l i)
 nd:(fW y.lv++y.ys.flatMap bE).Nodup
def bB(y:iL):List Nat:=fW y.lv++y.ys.flatMap bE
theorem ct.at_{H:PH}{y:iL}{L:b8}(h:ct H y L){i:Nat}(hi:i<L.l.length):∃b lo o c cs,y.lv=fC b (lo+o) L.l.length c/\H b=some (lo,cs)/\cs[o+i*1]? = some (pv (gl y.ys i).b 0)/\cs.getD (o+i*1) (Value.tuple #[])=pv (gl y.ys i).b 0:=by
 obtain⟨c,h⟩:=h.Kq;rcases h with⟨_,h0,_⟩ | ⟨b,lo,o,cs,h1,h2,h3,h4,h5⟩
 ·omega
 ·have:=(h5.at_ i hi 0 .deep rfl).1;exact⟨b,lo,o,c,cs,h1,h3,this,by rw[List.getD_eq_getElem?_getD,show cs[o+i*1]? = some (pv (gl y.ys i).b 0)from this];rfl⟩
theorem ct.sA{H:PH}{y:iL}{L:b8}(h:ct H y L):di y.lv=L.l.length/\Hh y.lv/\(∃a c,y.lv = .slice a L.l.length c)/\L.l.length<=aq/\y.lv.oneCell'=true:=by
 obtain⟨c,h⟩:=h.Kq;obtain⟨h1,h2,h3,h4,h5,⟨a,h6⟩,h7⟩:=fH h;exact⟨h1,h5,⟨a,c,h6⟩,by omega,h7⟩
def bx(L:b8):dJ:=⟨(match L.l.getLast? with|some g=>g.gen+1|none=>1),L.next,0,[],[]⟩
theorem lp{H:PH}{v:Value}{x:Nat}(h:x∉fW v):aM H v x=H x:=by
 unfold aM;split
 ·rename_i b o p l c;exact Ai (fun e=>h (by simp[fW,e]))
 ·rfl
theorem xo{ys:List nv}{i x:Nat}(hi:i<ys.length)(hx:x∈bE (gl ys i)):x∈ys.flatMap bE:=by
 rw[bL hi]at hx;exact List.mem_flatMap.2 ⟨_,List.getElem_mem _,hx⟩
theorem T7{ys:List nv}{x:Nat}(hx:x∈ys.flatMap bE):∃i,i<ys.length/\x∈bE (gl ys i):=by
 obtain⟨y,hy,hx⟩:=List.mem_flatMap.1 hx;obtain⟨i,hi,rfl⟩:=List.getElem_of_mem hy;exact⟨i,hi,by rw[bL hi];exact hx⟩
theorem ct.dom{H:PH}{y:iL}{L:b8}(h:ct H y L):∀x∈bB y,H x≠none:=by
 intro x hx;rcases List.mem_append.1 hx with hx|hx
 ·obtain⟨c,hl⟩:=h.Kq;exact nw hl x hx
 ·obtain⟨i,hi,hx⟩:=T7 hx;exact(h.seg i (by rw[<- h.len];exact hi)).dom x hx
theorem ct.frame{H H':PH}{y:iL}{L:b8}(h:ct H y L)(e:∀x∈bB y,H' x=H x):ct H' y L:=by
 obtain⟨c,hl⟩:=h.Kq;refine⟨⟨c,jg hl fun x hx=>e x (List.mem_append_left _ hx)⟩,h.len,fun i hi=>(h.seg i hi).frame fun x hx=>e x (List.mem_append_right _ (xo (by rw[h.len];exact hi) hx)),h.nd⟩
theorem lq{α:Type}[Inhabited α]{l:List α}{x:α}{i:Nat}(h:i<l.length+1):gl (l++[x]) i=if i<l.length then gl l i else x:=by
 by_cases hi:i<l.length
 ·rw[if_pos hi,bV hi]
 ·rw[if_neg hi,show i=l.length+0 by omega,br];rfl
def newL(b:Nat):nv:=⟨b,.slice none 0 0,.slice none 0 0,[]⟩
theorem Gb{H:PH}{b:Nat}{L:b8}(h1:bR .i64 L.next)(h2:bR .i64 (bx L).gen):oS (aO H b 0 (dc (bx L) (.slice none 0 0) (.slice none 0 0))) (newL b) (bx L) :=
 ⟨dP ..,⟨h2,h1,by show bR .i64 0;simp only[bR];omega⟩,⟨0,.inl ⟨rfl,rfl,rfl⟩⟩,⟨0,.inl ⟨rfl,rfl,rfl⟩⟩,rfl,fun i hi=>absurd hi (Nat.not_lt_zero i)⟩
structure gj(H:PH)(y:nv)(g:dJ):Prop where
 at_:oS H y g
 nd:(bE y).Nodup
theorem Ie{H:PH}{y:iL}{L:b8}{sl:nv}{g:dJ}{b' lo cap:Nat}{cs:List Value}{R:Nat->Nat->Value}(hl:ct H y L)(hs:gj H sl g)(hd:∀x∈bB y,x∉bE sl)
 (hb':aM H y.lv b'=none) (hcs:cs.length=cap*1) (hc:L.l.length+1<=cap) (hc2:cap<=aq) (hp:BG cs 0 [.deep] (L.l.length+1) R)
 (hR:∀i,i<L.l.length+1->R i 0=AI (y.ys++[sl]) i 0) {L':b8} (hL':L'.l=L.l++[g]) :
 ct (aO (aM H y.lv) b' lo cs) ⟨fC b' lo (L.l.length+1) cap,y.ys++[sl]⟩ L' /\
 ∀x,H x≠none->x∉bB y->x∉bE sl->aO (aM H y.lv) b' lo cs x=H x/\x∉bB ⟨fC b' lo (L.l.length+1) cap,y.ys++[sl]⟩:=by
 have hdm:=hl.dom;have hds:=hs.at_.dom;have hnd:=hl.nd;rw[List.nodup_append]at hnd;obtain⟨n1,n2,n3⟩:=hnd;have hFl:∀x∈y.ys.flatMap bE,x∉fW y.lv:=fun x hx e=>n3 x e x hx rfl;have hSl:∀x∈bE sl,x∉fW y.lv:=fun x hx e=>hd x (List.mem_append_left _ e) hx;have hSF:∀x∈bE sl,x∉y.ys.flatMap bE:=fun x hx e=>hd x (List.mem_append_right _ e) hx;have hm:∀x,x∉fW y.lv->aM H y.lv x=H x:=fun x hx=>lp hx;have hbF:b'∉y.ys.flatMap bE:=fun e=>by
  have:=hdm b' (List.mem_append_right _ e);rw[hm b' (hFl b' e)]at hb';exact this hb'
 have hbS:b'∉bE sl:=fun e=>by
  have:=hds b' e;rw[hm b' (hSl b' e)]at hb';exact this hb'
 have hfp:bB ⟨fC b' lo (L.l.length+1) cap,y.ys++[sl]⟩=b'::(y.ys.flatMap bE++bE sl):=by
  simp[bB,fW,fC]
 have hlen:L'.l.length=L.l.length+1:=by rw[hL'];simp
 refine⟨⟨⟨cap,.inr ⟨b',lo,0,cs,?_,⟨?_,hc2⟩,dP ..,by simp[hcs],?_⟩⟩,?_,?_,?_⟩,?_⟩
 ·rw[hlen];simp only[Nat.add_zero]
 ·rw[hlen];exact hc
 ·rw[hlen];refine⟨fun i hi j k hj=>?_⟩;have:=hp.at_ i hi j k hj;have hj0:j=0:=by have:=(List.getElem?_eq_some_iff.1 hj).1;simpa using this
  subst hj0;rw[hR i hi]at this;exact this
 ·rw[hlen];simp[hl.len]
 ·intro i hi;rw[hlen]at hi;rw[hL',lq hi];show oS _ (gl (y.ys++[sl]) i) _;rw[lq (by rw[hl.len];exact hi),hl.len];by_cases hin:i<L.l.length
  ·rw[if_pos hin,if_pos hin];refine(hl.seg i hin).frame fun x hx=>?_;have hxF:=xo (by rw[hl.len];exact hin) hx;rw[cN (fun e=>hbF (by rw[<- e];exact hxF)),hm x (hFl x hxF)]
  ·rw[if_neg hin,if_neg hin];refine hs.at_.frame fun x hx=>?_;rw[cN (fun e=>hbS (by rw[<- e];exact hx)),hm x (hSl x hx)]
 ·show(bB ⟨fC b' lo (L.l.length+1) cap,y.ys++[sl]⟩).Nodup;rw[hfp,List.nodup_cons,List.nodup_append];refine⟨?_,n2,hs.nd,?_⟩
  ·simp only[List.mem_append,not_or];exact⟨hbF,hbS⟩
  ·intro x hx z hz e;subst e;exact hSF x hz hx
 ·intro x hx hxn hxs;have hxl:x∉fW y.lv:=fun e=>hxn (List.mem_append_left _ e);have hxF:x∉y.ys.flatMap bE:=fun e=>hxn (List.mem_append_right _ e);have hxb':x≠b':=fun e=>by
   rw[<- e,hm x hxl]at hb';exact hx hb'
  refine⟨by rw[cN hxb',hm x hxl],?_⟩;rw[hfp];simp only[List.mem_cons,List.mem_append,not_or];exact⟨hxb',hxF,hxs⟩
theorem ct.congr{H:PH}{y:iL}{L L':b8}(h:ct H y L)(e:L'.l=L.l):ct H y L':=⟨by rw[e];exact h.Kq,by rw[e];exact h.len,by rw[e];exact h.seg,h.nd⟩
structure nB where
 H:PH
 y:iL
def kI(t s:Int)(g:dJ):Bool:=decide (t-s<g.gen)
structure vQ where
 H:PH
 y:iL
 L:b8
 gb:Nat
 t:Int
structure uh(a:vQ):Prop where
 log:ct a.H a.y a.L
 zG:a.L.l.length<1000
 av:a.L.av<=200
 t:bR .i64 a.t/\0<=a.t
 cell:∃r,a.H a.gb=some (0,.int .i64 a.t::r)
 far:a.gb∉bB a.y
noncomputable def T8:cG where
 α:=vQ
 β:=Int
 m:=5
 m':=5
 pre:=fun a=>uh a
 args:=fun a=>[.a (.val a.y.lv),.Cg 228 [.ptr 0 0 0 0,.ptr 1 0 0 0]]
 hp:=fun _=>[]
 ro:=fun a=>[(0,.obj 289 [.val (pv a.gb 0)]),(1,.obj 202 [.ptr 2 0 0 0]),(2,gu 4 a.L a.y.lv),(3,.cI a.H)]
 post:=fun a r=>(r = -1/\∀i,i<a.L.l.length->kI a.t a.L.av (gl a.L.l i)=true)\/∃i:Nat,r=i/\i<a.L.l.length/\kI a.t a.L.av (gl a.L.l i)=false/\∀j,j<i->kI a.t a.L.av (gl a.L.l j)=true
 res:=fun _ r=>.a (.int .i64 r)
 cR:=fun _ _=>[]
def aaz(a:vQ):An:=.flat 2 Nat (fun s k=>s.int 8 k) (fun _ k=>k<=a.L.l.length/\∀j,j<k->kI a.t a.L.av (gl a.L.l j)=true) (fun _ k=>a.L.l.length-k)
def nC(w s t:Nat)(f:Nat->Option (Nat×List Value))(g:Value->Prop)(h i:Nat->List Value->Prop):Nat->Prop:=fun(z:Nat)=>∃u x:Nat,∃y:List Value,pv w (s+t)=pv z (u+x)/\f z=some (u,y)/\((∃v:Value,y[x]? = some v/\g v)/\h x y)/\i x y
def cH(x:Value):=x=x
def dD(y x:Nat)(z:Prop)(u:Nat):=(y<=x/\z)/\x-y<x-u
def jh(u:Value)(v:Int)(w:Nat->Nat->Prop):Nat->Prop:=fun(x:Nat)=>∃y z s:Nat,u=fC x y z s/\bf v (af z)/\w x y
def qg(y:Nat)(u:Value)(v:Nat)(w:Nat->Option (Nat×List Value))(s:Value->Prop)(t f:Nat->List Value->Prop)(g:Prop):=aD (bM y (di u)) (Exists (jh u (af y) fun h i=>Exists (nC h i (ax y*v) (fun x=>w x) (fun x=>s x) (fun x z=>t x z) fun x z=>f x z))) g
def bK(x:b8):Nat:=x.l.length
def gK(x:b8)(y:iL)(z:Prop):=vf x x y.lv y.lv z
def yD(z:Nat)(x:vQ):=∀y:Nat,y<z->aC (kI x.t (af x.L.av) (gl x.L.l y))
def DL(z:Int)(x:vQ):=z=(-1:Int)/\yD (bK x.L) x\/∃y:Nat,z=af y/\y<bK x.L/\kI x.t (af x.L.av) (gl x.L.l y)=false/\yD y x
def pO(x y:Int)(z u:Prop):=ai x/\aD (cn y x) z u
def aA(x:Prop):=bF 0 x
def AJ(x:iL)(y:Nat)(z:Prop):=aP (di x.lv) (aI (cH x.lv/\aA (cH (pv y 0)/\z)))
theorem T9:fnBody (Y Tryz.prog) [] 234 T8 fun a=>[(234,[aaz a],[])]:=fnBody.of (p :=
 ∀x:vQ,uh x->gD x.y.lv/\cm (fun z=>AJ x.y x.gb (aA (gK x.L x.y (x.H=x.H/\(z<=bK x.L/\yD z x)/\True)))) fun z=>z<=bK x.L/\yD z x->qg z x.y.lv 1 (fun u=>x.H u) (fun u=>ey u) (fun u t=>True) (fun u t=>gV (aW t u) 0 (fun w=>x.H w) fun w f=>gV (pv x.gb 0) 0 (fun s=>x.H s) fun s g=>ai (af x.L.av)->pO (jW (aW g s)-af x.L.av) (jW (aW f w)) (∃v:Int,af z=v/\DL v x/\True) (bH z fun v=>AJ x.y x.gb (aA (gK x.L x.y (x.H=x.H/\dD v (bK x.L) (yD v x) z))))) (∃u:Int,(-1:Int)=u/\DL u x/\True)) (by kernel_rfl) (by
 delta aD aW ig ai bF ay ax aK aY af kY nC bf aC aR dW cH gD dD qg ey aP bK bH gV gK aI cn DL jh bM aT ag yD pO aA aQ AJ jP cm
 try dsimp -iota -proj only
 rintro⟨H,y,L,gb,T⟩ ⟨hl,h1,h2,⟨h3,h4⟩,⟨gr,hgb⟩,h5⟩;dsimp only at *;obtain⟨e1,_,⟨ea,ec,e2⟩,e3,_⟩:=hl.sA;refine⟨⟨ea,_,ec,e2,e3⟩,⟨0,?_⟩,fun k hk=>⟨fun c1=>?_,fun c1=>⟨-1,?_⟩⟩⟩
 ·(repeat' (first|apply And.intro|(intro _)))<;>first|exact dg|(exfalso;omega)
 ·obtain⟨hk0,hkk⟩:=hk;rw[e1]at c1;have hk:k<L.l.length:=by simpa using c1
  obtain⟨b,lo,o,c,cs,g1,g2,g3,g4⟩:=hl.at_ hk;have hs:=hl.seg k hk;obtain⟨r1,_,_⟩:=hs.Cj;refine⟨_,_,_,_,g1,by omega,b,lo,o+k*1,cs,by rw[Int.toNat_natCast,Nat.add_assoc],g2,⟨⟨_,g3,rfl⟩,trivial⟩,?_⟩;refine⟨_,_,g4,?_⟩;refine⟨_,_,rfl,?_⟩;refine⟨_,0,_,_,rfl,hs.cell,?_⟩;refine⟨⟨⟨_,rfl,_,rfl,r1⟩,trivial⟩,fun _=>?_⟩;refine⟨_,_,rfl,?_⟩;refine⟨_,_,rfl,?_⟩;refine⟨_,0,_,_,rfl,hgb,?_⟩;refine⟨⟨⟨_,rfl,_,rfl,h3⟩,trivial⟩,fun _ _=>?_⟩;simp only[dc,List.getD_cons_zero,jW,bR]at h3 ⊢;refine⟨by omega,fun c2=>⟨k,?_⟩,fun c2=>⟨by omega,k+1,?_⟩⟩
  ·have c2:=of_decide_eq_true c2;refine⟨rfl,.inr ⟨k,rfl,hk,?_,hkk⟩,trivial⟩;simp only[kI,decide_eq_false_iff_not];omega
  ·have c2:=of_decide_eq_false c2;have hn:∀j,j<k+1->kI T L.av (gl L.l j)=true:=fun j hj=>by
    by_cases e:j=k
    ·subst e;simp only[kI,decide_eq_true_eq];omega
    ·exact hkk j (by omega)
   and_intros<;>first|exact dg|exact hn
 ·obtain⟨hk0,hkk⟩:=hk;have hk:k=L.l.length:=by rw[e1]at c1;have:=of_decide_eq_false c1;omega
  subst hk;exact⟨rfl,.inl ⟨rfl,hkk⟩,trivial⟩)
theorem Ua:au (Y Tryz.prog).G.X 234 T8:=aU fF T9 trivial
def stay(t s:Int)(l:List dJ)(j:Nat):List Nat:=(List.range j).filter fun i=>kI t s (gl l i)
theorem HJ{α β:Type}[Inhabited α][Inhabited β]{l:List α}{f:α->β}{i:Nat}(h:i<l.length):gl (l.map f) i=f (gl l i):=by
 rw[bL (by simpa using h),bL h,List.getElem_map]
theorem Ub{α:Type}[Inhabited α](l:List α):(List.range l.length).map (gl l)=l:=by
 refine List.ext_getElem (by simp) fun i h1 h2=>?_;rw[List.getElem_map,List.getElem_range,bL h2]
theorem Uc(t s:Int)(l:List dJ):(stay t s l l.length).map (gl l)=l.filter (kI t s):=by
 have:l.filter (kI t s)=((List.range l.length).map (gl l)).filter (kI t s):=by rw[Ub]
 rw[this,List.filter_map];rfl
theorem Gc(t s:Int)(l:List dJ)(j:Nat):stay t s l (j+1)=stay t s l j++if kI t s (gl l j)then[j]else[]:=by
 unfold stay;rw[List.range_succ,List.filter_append];congr 1;cases h:kI t s (gl l j)<;>simp[h]
theorem XH{t s:Int}{l:List dJ}{j i:Nat}(h:i<(stay t s l j).length):gl (stay t s l j) i<j:=by
 have:gl (stay t s l j) i∈stay t s l j:=by rw[bL h];exact List.getElem_mem _
 exact List.mem_range.1 (List.mem_filter.1 this).1
theorem Cn{α β:Type}{f:α->List β}{l m:List α}(h:l.Sublist m):(l.flatMap f).Sublist (m.flatMap f):=by
 induction h with
 |slnil=>exact List.Sublist.refl _
 |cons a _ ih=>exact ih.trans (by rw[List.flatMap_cons];exact List.sublist_append_right _ _)
 |cons_cons a _ ih=>rw[List.flatMap_cons,List.flatMap_cons];exact(List.Sublist.refl _).append ih
def vR(t:Int)(L:b8):b8:={ L with l:=L.l.filter (kI t L.av) }
structure Rb where
 j:Nat
 rows:Nat->Nat->Value
noncomputable def Ud:cG where
 α:=vQ
 β:=nB
 m:=5
 m':=6
 pre:=fun a=>uh a
 args:=fun a=>[.a (.val a.y.lv),.Cg 228 [.ptr 0 0 0 0,.ptr 1 0 0 0]]
 hp:=fun a=>[(3,.cI a.H)]
 ro:=fun a=>[(0,.obj 289 [.val (pv a.gb 0)]),(1,.obj 202 [.ptr 2 0 0 0]),(2,gu 4 a.L a.y.lv)]
 post:=fun a b=>ct b.H b.y (vR a.t a.L)/\∀x,a.H x≠none->x∉bB a.y->b.H x=a.H x/\x∉bB b.y
 res:=fun _ b=>.a (.val b.y.lv)
 cR:=fun _ b=>[(5,.cI b.H)]
structure Na(a:vQ)(x:Rb):Prop where
 le:x.j<=a.L.l.length
 lt:(stay a.t a.L.av a.L.l x.j).length<x.j
 one:∀i,i<a.L.l.length->(x.rows i 0).oneCell'=true
 low:∀i,i<(stay a.t a.L.av a.L.l x.j).length->x.rows i 0=pv (gl a.y.ys (gl (stay a.t a.L.av a.L.l x.j) i)).b 0
 high:∀i,x.j<=i->i<a.L.l.length->x.rows i 0=AI a.y.ys i 0
def aaA(a:vQ):An:=.flat 5 Rb (fun s x=>((s.at_ (s.tg 0) (.arr 289 [.deep] a.L.l.length x.rows)).int 5 (stay a.t a.L.av a.L.l x.j).length).int 6 x.j) (fun _ x=>Na a x) (fun _ x=>a.L.l.length-x.j)
def aaB(a:vQ):An:=.T5 4 0 289 [.deep] (.mk 1000 [aaA a] [An.PD 0 4 (.mk 1000 [] [])])
def nD(x:vQ)(y:Rb):Nat:=(stay x.t (af x.L.av) x.L.l y.j).length
def yE(x:Option (Nat×List Value))(z:iL)(y:Nat)(u:Option (Nat×List Value))(v:iL):=x≠none->¬y∈bB z->u=x/\¬y∈bB v
def Ig(v w:Int)(x:vQ)(s u:Nat)(t:Int)(f:Nat)(g:Nat->Nat->Value)(h:Rb->Prop):=∃z:Rb,v=af z.j/\w=af (nD x z)/\bF s (u=u)/\bn (t == (-1:Int))/\aA (aG (bK x.L) f 1 g z.rows/\aM x.H x.y.lv=aM x.H x.y.lv/\cH (pv x.gb 0)/\aA (gK x.L x.y (Na x z/\h z)))
def qU(x:nB)(u:b8)(v:Nat->Option (Nat×List Value))(w:iL):=ct x.H x.y u/\∀z:Nat,yE (v z) w z (x.H z) x.y
def ji(x:CK):List CK:=[x]
def yF(x y u:Nat)(v:List Value)(w:Nat->Value):Nat->Value:=fun(z:Nat)=>if 0+ax x<=y/\y<0+ax x+(u-ax x)then aW v z else w z
def DM:Value:=Value.pointer none
theorem Ue:fnBody (Y Tryz.prog) [(234,T8)] 208 Ud fun a=>[(208,[],[aaB a])]:=fnBody.of (p :=
 ∀x:vQ,uh x->∃f:vQ,x.y.lv=f.y.lv/\aA (kZ x.gb f.gb/\aA (vf x.L f.L x.y.lv f.y.lv (x.H=f.H/\uh f/\∀w:Int,DL w f->aD (w == (-1:Int)) (∃u:nB,x.y.lv=u.y.lv/\x.H=u.H/\qU u (vR x.t x.L) (fun v=>x.H v) x.y/\True) (Exists (kz x.H x.y.lv CK.deep [] fun u v m=>ai (w+(1:Int))/\(Ig (w+(1:Int)) w x u v w u m fun z=>True)/\∀z:Rb,Na x z->oh z.j u (0+ax z.j<bK x.L/\gV (z.rows (0+ax z.j) 0) 0 (fun g=>aM x.H x.y.lv g) fun g k=>gV (pv x.gb 0) 0 (fun s=>aM x.H x.y.lv s) fun s l=>ai (af x.L.av)->ai (jW (aW l s)-af x.L.av)/\aD (bq (cn (jW (aW k g)) (jW (aW l s)-af x.L.av))) (bf (af (nD x z)) (af u)/\0+ax (nD x z)<bK x.L/\aQ (nD x z) (aQ z.j (Ig (aY z.j) (aY (nD x z)) x u v w (bK x.L) (kQ z.rows (0+ax (nD x z)) 0 (bP (z.rows (0+ax z.j) 0))) fun h=>bK x.L-h.j<bK x.L-z.j))) (aQ z.j (Ig (aY z.j) (af (nD x z)) x u v w (bK x.L) z.rows fun h=>bK x.L-h.j<bK x.L-z.j))) (cK (af (nD x z)) u/\cK (af (nD x z)) v/\(v-0≠0/\0+(ax (nD x z)-0)<=bK x.L)/\∀(g k:Nat) (s:List Value),aM x.H x.y.lv g=none->s.length=(v-0)*1->(BG s 0 (ji CK.deep) (ax (nD x z)-0) fun h=>yF (nD x z) (0+h) u (bP DM) fun i=>z.rows (0+h) i) ->
 ∃i:nB,fC g k (ax (nD x z)-0) (v-0)=i.y.lv/\aO (aM x.H x.y.lv) g k s=i.H/\qU i (vR x.t x.L) (fun n=>x.H n) x.y/\True))))))) (by kernel_rfl) (by
 delta aD aW ig ai bF aG ax bn aK aY af eo kY bP bf aC aR dW cH bw bK gV nD gK cn DL yE kz bM Ig ag yD qU aA bq aQ ji oh cK yF kZ jP DM
 try dsimp -iota -proj only
 rintro⟨H,y,L,gb,T⟩ hp;obtain⟨hl,h1,h2,⟨h3,h4⟩,⟨gr,hgb⟩,h5⟩:=hp;dsimp only at *;have hp:uh ⟨H,y,L,gb,T⟩:=⟨hl,h1,h2,⟨h3,h4⟩,⟨gr,hgb⟩,h5⟩
 obtain⟨e1,_,⟨ea,ec,e2⟩,e3,_⟩:=hl.sA;have hmap:=Uc T L.av L.l;refine⟨⟨H,y,L,gb,T⟩,rfl,rfl,rfl,rfl,rfl,rfl,rfl,rfl,rfl,rfl,rfl,rfl,rfl,hp,fun r hr=>?_⟩;dsimp only at hr ⊢;refine⟨fun c=>⟨⟨H,y⟩,rfl,rfl,⟨hl.congr ?_,fun x _ hn=>⟨rfl,hn⟩⟩,trivial⟩,fun c=>?_⟩
 ·rcases hr with⟨_,hr⟩ | ⟨i,rfl,_⟩
  ·show L.l.filter (kI T L.av)=L.l;rw[List.filter_eq_self];intro g hg;obtain⟨i,hi,rfl⟩:=List.getElem_of_mem hg;rw[<- bL hi];exact hr i hi
  ·exfalso;simp at c
 ·obtain⟨r0,rfl,hr1,hr2,hr3⟩:∃i:Nat,r=i/\i<L.l.length/\kI T L.av (gl L.l i)=false/\∀j,j<i->kI T L.av (gl L.l j)=true:=by
   rcases hr with⟨rfl,_⟩|h
   ·cases c
   ·exact h
  obtain⟨cl,hlst⟩:=hl.Kq;obtain⟨u1,u2,u3,u4,_⟩:=fH hlst;have hst0:stay T L.av L.l (r0+1)=List.range r0:=by
   rw[Gc,hr2];simp only[Bool.false_eq_true,if_false,List.append_nil];unfold stay;rw[List.filter_eq_self];exact fun i hi=>hr3 i (List.mem_range.1 hi)
  have hnd:=hl.nd;rw[List.nodup_append]at hnd;obtain⟨n1,n2,n3⟩:=hnd;have hFl:∀x∈y.ys.flatMap bE,x∉fW y.lv:=fun x hx e=>n3 x e x hx rfl;have hm:∀x,x∉fW y.lv->aM H y.lv x=H x:=fun x hx=>lp hx;have hgb2:aM H y.lv gb=some (0,.int .i64 T::gr):=by rw[hm gb (fun e=>h5 (List.mem_append_left _ e))];exact hgb
  have hseg:∀i,i<L.l.length->oS (aM H y.lv) (gl y.ys i) (gl L.l i):=fun i hi=>(hl.seg i hi).frame fun x hx=>hm x (hFl x (xo (by rw[hl.len];exact hi) hx));refine⟨L.l.length,cl,AI y.ys,hlst,by simp only[bR];omega,⟨⟨r0+1,AI y.ys⟩,?_⟩,fun x hx=>?_⟩
  ·have h0:Na ⟨H,y,L,gb,T⟩ ⟨r0+1,AI y.ys⟩:=⟨hr1,by rw[hst0];simp,fun i _=>rfl,fun i hi=>by
    dsimp only at hi ⊢;rw[hst0]at hi ⊢;have hi':i<r0:=by simpa using hi
    rw[show gl (List.range r0) i=i by rw[bL hi];simp];rfl,fun i _ _=>rfl⟩
   rw[hst0]
   and_intros<;>first|exact dg|exact h0|(simp;done)|skip
  ·obtain⟨j,rows⟩:=x;have hx':Na ⟨H,y,L,gb,T⟩ ⟨j,rows⟩:=hx;obtain⟨x1,x2,x3,x4,x5⟩:=hx;dsimp only at x1 x2 x3 x4 x5 ⊢;obtain⟨k,hk⟩:∃k,k=(stay T L.av L.l j).length:=⟨_,rfl⟩
   rw[<- hk]at x2 x4 ⊢;simp only[Nat.zero_add,Int.toNat_natCast];refine⟨fun c1=>?_,fun c1=>?_⟩
   ·have hj:j<L.l.length:=by have:=of_decide_eq_true c1;omega
    have hs:=hseg j hj;obtain⟨r1,_,_⟩:=hs.Cj;have hrow:rows j 0=pv (gl y.ys j).b 0:=x5 j (Nat.le_refl _) hj;have hsu:=Gc T L.av L.l j;refine⟨⟨by omega,by omega⟩,by omega,_,_,hrow,?_⟩;refine⟨_,_,rfl,?_⟩;refine⟨_,0,_,_,rfl,hs.cell,?_⟩;refine⟨⟨⟨_,rfl,_,rfl,r1⟩,trivial⟩,fun _=>?_⟩;refine⟨_,_,rfl,?_⟩;refine⟨_,_,rfl,?_⟩;refine⟨_,0,_,_,rfl,hgb2,?_⟩;refine⟨⟨⟨_,rfl,_,rfl,h3⟩,trivial⟩,fun _ _=>?_⟩;simp only[dc,List.getD_cons_zero,jW,bR]at h3 ⊢;refine⟨by omega,fun c2=>?_,fun c2=>?_⟩
    ·have hkeep:kI T L.av (gl L.l j)=true:=by
      have:¬(gl L.l j).gen<=T-L.av:=by simpa using c2
      simp only[kI,decide_eq_true_eq];omega
     rw[hkeep,if_pos rfl]at hsu;have hlen:(stay T L.av L.l (j+1)).length=k+1:=by rw[hsu,hk];simp
     have hN:Na ⟨H,y,L,gb,T⟩ ⟨j+1,kQ rows k 0 [rows j 0]⟩:=⟨hj,by dsimp only;rw[hlen];omega,fun i hi=>by
      dsimp only;rw[rS];split
      ·exact x3 j hj
      ·exact x3 i hi,fun i hi=>by
      dsimp only at hi ⊢;rw[hlen]at hi;rw[rS,hsu];by_cases e:i=k
      ·rw[if_pos e,hrow,e,hk,show(stay T L.av L.l j).length=(stay T L.av L.l j).length+0 from rfl,br];rfl
      ·rw[if_neg e,bV (by omega)];exact x4 i (by omega),fun i hi hi2=>by
      dsimp only at hi ⊢;rw[rS,if_neg (by omega)];exact x5 i (by omega) hi2⟩
     refine⟨⟨by omega,by omega⟩,by omega,by omega,by omega,⟨j+1,kQ rows k 0 [rows j 0]⟩,?_⟩;dsimp only;rw[hlen]
     and_intros<;>first|exact dg|exact hN|exact ak.refl _ _ _|skip
    ·have hkeep:kI T L.av (gl L.l j)=false:=by
      have:(gl L.l j).gen<=T-L.av:=by simpa using c2
      simp only[kI,decide_eq_false_iff_not];omega
     rw[hkeep]at hsu;simp only[Bool.false_eq_true,if_false,List.append_nil]at hsu;have hN:Na ⟨H,y,L,gb,T⟩ ⟨j+1,rows⟩:=⟨hj,by dsimp only;rw[hsu,<- hk];omega,x3,by dsimp only;rw[hsu,<- hk];exact x4,fun i hi hi2=>x5 i (by dsimp only at hi;omega) hi2⟩
     refine⟨by omega,⟨j+1,rows⟩,?_⟩;dsimp only;rw[hsu,<- hk]
     and_intros<;>first|exact dg|exact hN|exact ak.refl _ _ _|skip
   ·have hj:j=L.l.length:=by have:=of_decide_eq_false c1;omega
    subst hj;have hkn:k<=L.l.length:=by omega
    refine⟨⟨by omega,by omega⟩,by omega,by omega,?_⟩;simp only[Nat.sub_zero];intro b lo cs hb hcs hpr;have hlen:((stay T L.av L.l L.l.length).map (gl y.ys)).length=k:=by rw[List.length_map,hk]
    have hL:(vR T L).l=(stay T L.av L.l L.l.length).map (gl L.l):=hmap.symm;have hll:(vR T L).l.length=k:=by rw[hL,List.length_map,hk]
    have hsubl:((stay T L.av L.l L.l.length).map (gl y.ys)).Sublist y.ys:=by
     have e:((List.range L.l.length).map (gl y.ys))=y.ys:=by rw[<- hl.len,Ub]
     have h:=List.Sublist.map (gl y.ys) (show(stay T L.av L.l L.l.length).Sublist (List.range L.l.length)from List.filter_sublist);rw[e]at h;exact h
    have hsub:=Cn (f:=bE) hsubl;have hbF:b∉y.ys.flatMap bE:=fun e=>by
     have:=hl.dom b (List.mem_append_right _ e);rw[hm b (hFl b e)]at hb;exact this hb
    have hat:ct (aO (aM H y.lv) b lo cs) ⟨fC b lo k cl,(stay T L.av L.l L.l.length).map (gl y.ys)⟩ (vR T L):=by
     refine⟨⟨cl,.inr ⟨b,lo,0,cs,by rw[hll,Nat.add_zero],⟨by rw[hll];omega,u4⟩,dP ..,by rw[hcs];simp,⟨fun i hi q ck hq=>?_⟩⟩⟩,by rw[hll];exact hlen,fun i hi=>?_,?_⟩
     ·rw[hll]at hi;have hq0:q=0:=by have:=(List.getElem?_eq_some_iff.1 hq).1;simpa using this
      subst hq0;have:=hpr.at_ i hi 0 ck hq;rw[if_neg (by omega)]at this;have e:rows i 0=AI ((stay T L.av L.l L.l.length).map (gl y.ys)) i 0:=by
       rw[x4 i hi];show _=pv (gl ((stay T L.av L.l L.l.length).map (gl y.ys)) i).b 0;rw[HJ (by rw[<- hk];exact hi)]
      rw[<- e];exact this
     ·rw[hll]at hi;rw[hL];show oS _ (gl ((stay T L.av L.l L.l.length).map (gl y.ys)) i) _;rw[HJ (by rw[<- hk];exact hi),HJ (by rw[<- hk];exact hi)];have hi2:=XH (t:=T) (s:=L.av) (l:=L.l) (j:=L.l.length) (i:=i) (by rw[<- hk];exact hi);exact(hseg _ hi2).frame fun x hx=>cN fun e=>hbF (by rw[<- e];exact xo (by rw[hl.len];exact hi2) hx)
     ·show(fW (fC b lo k cl)++((stay T L.av L.l L.l.length).map (gl y.ys)).flatMap bE).Nodup;simp only[fW,fC,List.cons_append,List.nil_append,List.nodup_cons];exact⟨fun e=>hbF (hsub.subset e),n2.sublist hsub⟩
    refine⟨⟨aO (aM H y.lv) b lo cs,⟨fC b lo k cl,(stay T L.av L.l L.l.length).map (gl y.ys)⟩⟩,rfl,rfl,⟨hat,fun x hx hn=>?_⟩,trivial⟩;have hxl:x∉fW y.lv:=fun e=>hn (List.mem_append_left _ e);have hxF:x∉y.ys.flatMap bE:=fun e=>hn (List.mem_append_right _ e);have hxb:x≠b:=fun e=>by rw[<- e,hm x hxl]at hb;exact hx hb
    refine⟨(cN hxb).trans (hm x hxl),?_⟩;simp only[bB,fW,fC,List.cons_append,List.nil_append,List.mem_cons,not_or];exact⟨hxb,fun e=>hxF (hsub.subset e)⟩)
theorem Uf:au (Y Tryz.prog).G.X 208 Ud:=aU fF Ue ⟨Ua,trivial⟩
def uZ(L:b8):List dJ:=L.l.filter (kI (bx L).gen L.av)
def jG(L:b8):b8:={ L with l:=uZ L++[bx L] }
def uj(L:b8)(d:bG):bG:=gR (gQ d (kH L (bx L) 0) 64 (qs (bx L) 0 L.run))
structure Nb where
 H:PH
 y:iL
 L:b8
 d:bG
noncomputable def Nc:cG where
 α:=Nb
 β:=nB
 m:=4
 m':=5
 pre:=fun a=>ct a.H a.y a.L/\a.L.l.length<900/\3<=a.L.av/\a.L.av<=200/\a.L.from_+a.L.av*8<=a.d.n/\a.d.n<100000/\a.d.calls<999999999999/\bR .i64 a.L.next /\
  (bx a.L).gen<1000000000000/\1<=(bx a.L).gen
 args:=fun _=>[.a (.ptr 0 0 0 0)]
 hp:=fun a=>[(0,gu 1 a.L a.y.lv)]++ic 1 2 a.d++[(3,.cI a.H)]
 ro:=fun _=>[]
 post:=fun a b=>ct b.H b.y (jG a.L)/\∀x,a.H x≠none->x∉bB a.y->b.H x=a.H x/\x∉bB b.y
 res:=fun _ _=>.a (.lit .i64 0)
 cR:=fun a b=>[(0,gu 1 (jG a.L) b.y.lv)]++ic 1 2 (uj a.L a.d)++[(4,.cI b.H)]
def ZE:An:=.XG 5 3 0 (.mk 1000 [] [])
def gW:Value:=Value.slice none 0 0
def Ih(u:PH)(v s:Value)(t:Nat->Nat->Nat->Nat->List Value->Prop):=Exists (kz u v CK.deep [] fun x f g=>jE x 8 f fun y=>(y≠0/\0+(x+1)<=x+1)/\∀(w h:Nat) (z:List Value),aM u v w=none->z.length=y*1->(BG z 0 (ji CK.deep) (x+1) fun i j=>bg g 0 x (jF 1 (bP s)) (0+i) j)->t x y w h z)
def lu(y:bG)(z:bG->Prop):=∃x:bG,ag (gP y x (ku x/\aB (z x)))
def DN(x:PH)(y:Nat)(z u:Int):PH:=aO x y 0 (bT z (bT u (bT 0 (bw gW (bP gW)))))
def Ug(x:Nb)(f:Int):=ai x.L.next->∀v:Nat,x.H v=none->∃u:ug,ag (kZ v u.y.b/\aT u.i (gP x.d u.d (ag (vf x.L u.L x.y.lv u.lv (DN x.H v f x.L.next=u.H/\AG u/\aB (∃z:vQ,x.y.lv=z.y.lv/\aA (DN x.H v f x.L.next=z.H/\kZ v z.gb/\aA (vf x.L z.L x.y.lv z.y.lv (uh z/\∀w:nB,qU w (vR z.t z.L) (fun j=>z.H j) z.y->Ih w.H w.y.lv (Value.pointer (some { block:=v,off:=0 })) fun k l g h m=>lu (AH u) fun n=>∃s:nB,aI (aO (aM w.H w.y.lv) g h m=s.H/\ag (vf x.L (jG x.L) (fC g h (k+1) l) s.y.lv (gP (gR n) (uj x.L x.d) (qU s (jG x.L) (fun o=>x.H o) x.y/\True)))))))))))))
def yG(y:iL)(u:Nat->Option (Nat×List Value))(v:Nat->List Value->Prop):=ai (af (di y.lv)-(1:Int))/\Exists (jh y.lv (af (di y.lv)-(1:Int)) fun w s=>Exists (nC w s (aR (af (di y.lv)-(1:Int))*1) (fun x=>u x) (fun x=>ey x) (fun x z=>True) fun x z=>v x z))
def iT(y x:Nat)(z:Prop):=y<=x/\x<100000/\z
def Ii(x:Nb):=ct x.H x.y x.L/\bK x.L<900/\3<=x.L.av/\x.L.av<=200/\iT (x.L.from_+x.L.av*8) x.d.n (x.d.calls<999999999999/\ai x.L.next/\(bx x.L).gen<(1000000000000:Int)/\(1:Int)<=(bx x.L).gen)
theorem Rc:fnBody (Y Tryz.prog) [(198,Ib),(208,Ud),(169,ko)] 195 Nc fun _=>[(195,[],[ZE])]:=fnBody.of (p :=
 ∀x:Nb,Ii x->ai x.L.next->gD x.y.lv/\aX 0 (af (di x.y.lv)) (yG x.y (fun u=>x.H u) fun u w=>gV (aW w u) 0 (fun z=>x.H z) fun z v=>ai (jW (aW v z)+(1:Int))/\(ai (jW (aW v z)+(1:Int))->Ug x (jW (aW v z)+(1:Int)))) (Ug x 1)) (by kernel_rfl) (by
 delta aD aW ah ig ai bF ay bT gC aK af kY nC bP bf aC aR dW bw Ug aB gD jE ey bK gV yG ku aI yE kz gW jh aT AG ag Ii aX qU Ih aA lu ji AH kZ jF iT jP DN
 try dsimp -iota -proj only
 rintro⟨H,y,L,d⟩ ⟨hl,h1,h2,h3,h4,h5,h6,h8,h9,h10⟩;dsimp only at *;obtain⟨e1,_,⟨ea,ec,e2⟩,e3,_⟩:=hl.sA;have hgR:bR .i64 (bx L).gen:=by simp only[bR];omega
 refine fun _=>⟨⟨ea,_,ec,e2,e3⟩,fun c1=>?_,fun c1=>?_⟩
 ·rw[e1]at c1;have hn:0<L.l.length:=by simpa using c1
  have hk:L.l.length-1<L.l.length:=by omega
  obtain⟨b,lo,o,c,cs,g1,g2,g3,g4⟩:=hl.at_ hk;have hs:=hl.seg _ hk;obtain⟨r1,_,_⟩:=hs.Cj;have hng:(bx L).gen=(gl L.l (L.l.length-1)).gen+1:=by
   have:L.l.getLast? = some (gl L.l (L.l.length-1)):=by rw[bL hk,List.getLast?_eq_getElem?,List.getElem?_eq_getElem hk]
   simp only[bx,this]
  simp only[e1];have e5:((L.l.length:Int)-1).toNat=L.l.length-1:=by omega
  refine⟨by simp only[bR];omega,_,_,_,_,g1,by omega,b,lo,o+(L.l.length-1)*1,cs,by rw[e5,Nat.add_assoc],g2,⟨⟨_,g3,rfl⟩,trivial⟩,?_⟩;refine⟨_,_,g4,?_⟩;refine⟨_,_,rfl,?_⟩;refine⟨_,0,_,_,rfl,hs.cell,?_⟩;refine⟨⟨⟨_,rfl,_,rfl,r1⟩,trivial⟩,fun _=>?_⟩;simp only[dc,List.getD_cons_zero,jW,<- hng];refine⟨hgR,fun _ _=>?_⟩;show ∀b,_;intro b hb;have hsg:=Gb (H:=H) (b:=b) h8 hgR;have hl1:ct (aO H b 0 (dc (bx L) (.slice none 0 0) (.slice none 0 0))) y L:=hl.frame fun x hx=>cN fun e=>hl.dom x hx (by rw[e];exact hb);refine⟨ug.mk (aO H b 0 (dc (bx L) (.slice none 0 0) (.slice none 0 0))) (newL b) (bx L) 0 L y.lv d,?_⟩
  and_intros<;>first|exact dg|exact hsg|(simp only[bx,List.length_nil];omega)|rfl|skip
  intro _ _;have hbm:∀x,H x≠none->x≠b:=fun x hx e=>hx (by rw[e];exact hb);have hbl:b∉bB y:=fun e=>hl.dom b e hb;have hdp:uh ⟨aO H b 0 (dc (bx L) (.slice none 0 0) (.slice none 0 0)),y,L,b,(bx L).gen⟩:=⟨hl1,by show L.l.length<1000;omega,h3,⟨hgR,by show 0<=(bx L).gen;omega⟩,⟨_,dP ..⟩,hbl⟩
  refine⟨vQ.mk (aO H b 0 (dc (bx L) (.slice none 0 0) (.slice none 0 0))) y L b (bx L).gen,?_⟩
  and_intros<;>first|exact dg|exact hdp|rfl|skip
  rintro⟨H2,y2⟩ ⟨d1,d2⟩;dsimp only at d1 d2 ⊢;obtain⟨q1,q2⟩:=d2 b (by rw[dP];simp) hbl
  have hs2 : gj H2 (newL b) (bx L) := ⟨hsg.frame fun x hx => (by have : x = b := by simpa [newL, bE, fW] using hx
                                                                 subst this;exact q1),by simp[newL,bE,fW]⟩
  have hd2:∀x∈bB y2,x∉bE (newL b):=fun x hx e=>by
   have:x=b:=by simpa[newL,bE,fW]using e
   subst this;exact q2 hx
  have hkl:(vR (bx L).gen L).l.length<=L.l.length:=List.length_filter_le _ _;obtain⟨c0,hsl⟩:=d1.Kq;refine⟨_,c0,_,hsl,?_⟩
  repeat refine lT ?_
  intro cap hc1 hc2 hc3
  repeat refine lT ?_
  intro b' lo cs' hb' hcs hp;have hba:=Ie (lo:=lo) (L':=jG L) d1 hs2 hd2 hb' hcs hc1 hc2 hp (by
   intro i hi;simp only[Nat.zero_add,bg,AI];rw[lq (by rw[d1.len];exact hi),d1.len];by_cases hin:i<(vR (bx L).gen L).l.length
   ·rw[if_pos hin,if_pos hin]
   ·rw[if_neg hin,if_neg hin,show i-(vR (bx L).gen L).l.length=0 by omega];rfl) rfl
  have hfr:∀x,H x≠none->x∉bB y->aO (aM H2 y2.lv) b' lo cs' x=H x/\x∉bB ⟨fC b' lo ((vR (bx L).gen L).l.length+1) cap,y2.ys++[newL b]⟩:=fun x hx hn=>by
   have hxb:=hbm x hx;have e0:aO H b 0 (dc (bx L) (.slice none 0 0) (.slice none 0 0)) x=H x:=cN hxb;obtain⟨w1,w2⟩:=d2 x (by rw[e0];exact hx) hn;obtain⟨w3,w4⟩:=hba.2 x (by rw[w1,e0];exact hx) w2 (by simpa[newL,bE,fW]using hxb);exact⟨w3.trans (w1.trans e0),w4⟩
  refine⟨gQ d (kH L (bx L) 0) 64 (qs (bx L) 0 L.run),?_⟩
  and_intros<;>first|exact dg|(simp only[gQ];omega)|skip
  intro _ _;refine⟨⟨aO (aM H2 y2.lv) b' lo cs',⟨fC b' lo ((vR (bx L).gen L).l.length+1) cap,y2.ys++[newL b]⟩⟩,?_⟩
  and_intros<;>first|exact dg|exact hba.1|exact hfr|exact Nat.le_refl _|exact ak.refl _ _ _|rfl
 ·rw[e1]at c1;have hn:L.l.length=0:=by have:=of_decide_eq_false c1;omega
  have hng:(bx L).gen=1:=by
   have:L.l=[]:=List.eq_nil_of_length_eq_zero hn;simp only[bx,this];rfl
  rw[<- hng];intro _;intro b hb;have hsg:=Gb (H:=H) (b:=b) h8 hgR;have hl1:ct (aO H b 0 (dc (bx L) (.slice none 0 0) (.slice none 0 0))) y L:=hl.frame fun x hx=>cN fun e=>hl.dom x hx (by rw[e];exact hb);refine⟨ug.mk (aO H b 0 (dc (bx L) (.slice none 0 0) (.slice none 0 0))) (newL b) (bx L) 0 L y.lv d,?_⟩
  and_intros<;>first|exact dg|exact hsg|(simp only[bx,List.length_nil];omega)|rfl|skip
  intro _ _;have hbm:∀x,H x≠none->x≠b:=fun x hx e=>hx (by rw[e];exact hb);have hbl:b∉bB y:=fun e=>hl.dom b e hb;have hdp:uh ⟨aO H b 0 (dc (bx L) (.slice none 0 0) (.slice none 0 0)),y,L,b,(bx L).gen⟩:=⟨hl1,by show L.l.length<1000;omega,h3,⟨hgR,by show 0<=(bx L).gen;omega⟩,⟨_,dP ..⟩,hbl⟩
  refine⟨vQ.mk (aO H b 0 (dc (bx L) (.slice none 0 0) (.slice none 0 0))) y L b (bx L).gen,?_⟩
  and_intros<;>first|exact dg|exact hdp|rfl|skip
  rintro⟨H2,y2⟩ ⟨d1,d2⟩;dsimp only at d1 d2 ⊢;obtain⟨q1,q2⟩:=d2 b (by rw[dP];simp) hbl
  have hs2 : gj H2 (newL b) (bx L) := ⟨hsg.frame fun x hx => (by have : x = b := by simpa [newL, bE, fW] using hx
                                                                 subst this;exact q1),by simp[newL,bE,fW]⟩
  have hd2:∀x∈bB y2,x∉bE (newL b):=fun x hx e=>by
   have:x=b:=by simpa[newL,bE,fW]using e
   subst this;exact q2 hx
  have hkl:(vR (bx L).gen L).l.length<=L.l.length:=List.length_filter_le _ _;obtain⟨c0,hsl⟩:=d1.Kq;refine⟨_,c0,_,hsl,?_⟩
  repeat refine lT ?_
  intro cap hc1 hc2 hc3
  repeat refine lT ?_
  intro b' lo cs' hb' hcs hp;have hba:=Ie (lo:=lo) (L':=jG L) d1 hs2 hd2 hb' hcs hc1 hc2 hp (by
   intro i hi;simp only[Nat.zero_add,bg,AI];rw[lq (by rw[d1.len];exact hi),d1.len];by_cases hin:i<(vR (bx L).gen L).l.length
   ·rw[if_pos hin,if_pos hin]
   ·rw[if_neg hin,if_neg hin,show i-(vR (bx L).gen L).l.length=0 by omega];rfl) rfl
  have hfr:∀x,H x≠none->x∉bB y->aO (aM H2 y2.lv) b' lo cs' x=H x/\x∉bB ⟨fC b' lo ((vR (bx L).gen L).l.length+1) cap,y2.ys++[newL b]⟩:=fun x hx hn=>by
   have hxb:=hbm x hx;have e0:aO H b 0 (dc (bx L) (.slice none 0 0) (.slice none 0 0)) x=H x:=cN hxb;obtain⟨w1,w2⟩:=d2 x (by rw[e0];exact hx) hn;obtain⟨w3,w4⟩:=hba.2 x (by rw[w1,e0];exact hx) w2 (by simpa[newL,bE,fW]using hxb);exact⟨w3.trans (w1.trans e0),w4⟩
  refine⟨gQ d (kH L (bx L) 0) 64 (qs (bx L) 0 L.run),?_⟩
  and_intros<;>first|exact dg|(simp only[gQ];omega)|skip
  intro _ _;refine⟨⟨aO (aM H2 y2.lv) b' lo cs',⟨fC b' lo ((vR (bx L).gen L).l.length+1) cap,y2.ys++[newL b]⟩⟩,?_⟩
  and_intros<;>first|exact dg|exact hba.1|exact hfr|exact Nat.le_refl _|exact ak.refl _ _ _|rfl)
theorem Re:au (Y Tryz.prog).G.X 195 Nc:=aU fF Rc ⟨Ga,Uf,ja,trivial⟩
def kJ(L:b8):dJ:=gl L.l (L.l.length-1)
def rT(L:b8)(n:Nat):Bool:=decide (L.l.length=0)||decide (370<(kJ L).buf.length+n)
def dr(L:b8)(n:Nat):b8:=if rT L n then jG L else L
def lz(L:b8)(d:bG)(n:Nat):bG:=if rT L n then uj L d else d
def K9(n:Nat)(next:Int):List Int:=[uw .u8 (uw .u64 (n:Int)/256),uw .u8 (uw .u64 (n:Int)/1),uw .u8 (uw .u64 next/1099511627776),uw .u8 (uw .u64 next/4294967296),uw .u8 (uw .u64 next/16777216),uw .u8 (uw .u64 next/65536),uw .u8 (uw .u64 next/256),uw .u8 (uw .u64 next/1)]
def sB(g:dJ)(next:Int)(body:List Int):List Int:=g.buf++K9 body.length next++body
def La(g:dJ)(next:Int)(body:List Int):dJ:={ g with buf:=sB g next body }
def Nd(g:dJ)(next:Int)(body:List Int):dJ:={ g with buf:=sB g next body,aV:=g.aV++[⟨next,body⟩] }
def u0(was now i:Nat):Bool:=decide (was<cw (i+1))&&decide (cw i<now)
def dw(L:b8)(g:dJ)(was:Nat)(d:bG):Nat->bG
 |0=>d
 |i+1=>if u0 was g.buf.length i then gQ (dw L g was d i) (kH L g i) 64 (qs g i L.run)else dw L g was d i
def PE(L:b8)(g:dJ):b8:={ L with l:=L.l.set (L.l.length-1) g }
def Lb(L:b8)(body:List Int):b8:={ PE L (Nd (kJ L) L.next body)with next:=L.next+1,fresh:=false }
def rU(L:b8)(d:bG)(body:List Int):bG:=dw L (La (kJ L) L.next body) (kJ L).buf.length d 8
def mK(L:b8)(body:List Int):b8:=Lb (dr L body.length) body
def oT(L:b8)(d:bG)(body:List Int):bG:=if(dr L body.length).fresh then gR (rU (dr L body.length) (lz L d body.length) body)else rU (dr L body.length) (lz L d body.length) body
def Step(H:PH)(v:Value)(H':PH)(v':Value):Prop:=∀x,H x≠none->x∉fW v->H' x=H x/\x∉fW v'
theorem Step.trans{H H' H'':PH}{v v' v'':Value}(h:Step H v H' v')(k:Step H' v' H'' v''):Step H v H'' v'':=fun x hx hv=>by
 obtain⟨h1,h2⟩:=h x hx hv;obtain⟨k1,k2⟩:=k x (by rw[h1];exact hx) h2;exact⟨k1.trans h1,k2⟩
theorem tn{H:PH}{v:Value}{b lo l c:Nat}{cs:List Value}(h:aM H v b=none):Step H v (aO (aM H v) b lo cs) (fC b lo l c):=fun x hx hv=>by
 have hxb:x≠b:=fun e=>by rw[<- e,lp hv]at h;exact hx h
 exact⟨by rw[cN hxb,lp hv],by simp[fW,fC,hxb]⟩
theorem Lc{H:PH}{b lo l c:Nat}{cs:List Value}(h:H b=none):Step H (.slice none 0 0) (aO H b lo cs) (fC b lo l c):=tn (H:=H) (v:=.slice none 0 0) h
theorem nE{H:PH}{b lo l c:Nat}{ks:List CK}{cs:List Value}{rows rows':Nat->Nat->Value}(hl:cs.length=c*ks.length)(h1:l<=c)(h2:c<=aq)(hp:BG cs 0 ks l rows)(he:∀i,i<l->∀j,j<ks.length->rows i j=rows' i j):kR (aO H b lo cs) (fC b lo l c) ks l c rows' :=
 .inr ⟨b,lo,0,cs,by rw[Nat.add_zero],⟨h1,h2⟩,dP ..,by omega,⟨fun i hi j k hj=>by
  have:=hp.at_ i hi j k hj;rw[he i hi j (List.getElem?_eq_some_iff.1 hj).1]at this;exact this⟩⟩
theorem AL(v:Value):(fW v).Nodup:=by
 unfold fW;split<;>simp
def Fr(H:PH)(y:nv)(H':PH)(y':nv):Prop:=∀x,H x≠none->x∉bE y->H' x=H x/\x∉bE y'
theorem Fr.trans{H H' H'':PH}{y y' y'':nv}(h:Fr H y H' y')(k:Fr H' y' H'' y''):Fr H y H'' y'':=fun x hx hv=>by
 obtain⟨h1,h2⟩:=h x hx hv;obtain⟨k1,k2⟩:=k x (by rw[h1];exact hx) h2;exact⟨k1.trans h1,k2⟩
theorem DO{y:nv}:(bE y).Nodup↔(y.b∉fW y.bv/\y.b∉fW y.rv/\y.b∉y.vs.flatMap fW)/\(∀x∈fW y.bv,x∉fW y.rv/\x∉y.vs.flatMap fW)/\(∀x∈fW y.rv,x∉y.vs.flatMap fW)/\(y.vs.flatMap fW).Nodup:=by
 unfold bE;rw[List.nodup_cons,List.nodup_append,List.nodup_append];have a1:=AL y.bv;have a2:=AL y.rv;simp only[List.mem_append,not_or,a1,a2,true_and];constructor
 ·rintro⟨h1,⟨h3,h4⟩,h2⟩;exact⟨h1,fun x hx=>⟨fun e=>h2 x hx x (.inl e) rfl,fun e=>h2 x hx x (.inr e) rfl⟩,fun x hx e=>h4 x hx x e rfl,h3⟩
 ·rintro⟨h1,h2,h3,h4⟩;refine⟨h1,⟨h4,fun a ha b hb e=>h3 a ha (by rw[e];exact hb)⟩,fun a ha b hb e=>?_⟩;subst e;rcases hb with hb|hb
  ·exact(h2 a ha).1 hb
  ·exact(h2 a ha).2 hb
theorem yH{X0 X2:PH}{y:nv}{g:dJ}{v2:Value}{buf:List Int}(h:gj X0 y g)(hs:Step X0 y.bv X2 v2)(hb:fU X2 v2 buf) :
 X2 y.b=some (0,dc g y.bv y.rv)/\gj (aO X2 y.b 0 (dc { g with buf:=buf } v2 y.rv)) { y with bv:=v2 } { g with buf:=buf }/\Fr X0 y (aO X2 y.b 0 (dc { g with buf:=buf } v2 y.rv)) { y with bv:=v2 }:=by
 have hd:=h.at_.dom;obtain⟨⟨n1,n2,n3⟩,n4,n5,n6⟩:=DO.1 h.nd;have s1:∀x∈bE y,x∉fW y.bv->X2 x=X0 x/\x∉fW v2:=fun x hx hv=>hs x (hd x hx) hv;have hbm:y.b∈bE y:=List.mem_cons_self;obtain⟨c1,c2⟩:=s1 y.b hbm n1;have hrv:∀x∈fW y.rv,x∈bE y/\x∉fW y.bv:=fun x hx=>⟨by simp[bE,hx],fun e=>(n4 x e).1 hx⟩
 have hvs:∀x∈y.vs.flatMap fW,x∈bE y/\x∉fW y.bv:=fun x hx=>⟨List.mem_cons_of_mem _ (List.mem_append_right _ (List.mem_append_right _ hx)),fun e=>(n4 x e).2 hx⟩
 have same:∀x,x≠y.b->(x∈fW y.rv\/x∈y.vs.flatMap fW)->aO X2 y.b 0 (dc { g with buf:=buf } v2 y.rv) x=X0 x:=fun x hx h=>by
  rw[cN hx];rcases h with h|h
  ·exact(s1 x (hrv x h).1 (hrv x h).2).1
  ·exact(s1 x (hvs x h).1 (hvs x h).2).1
 refine⟨c1.trans h.at_.cell,⟨⟨dP ..,h.at_.Cj,hb.frame fun x hx=>cN fun e=>c2 (by rw[<- e];exact hx),?_,h.at_.len,fun i hi=>(h.at_.body i hi).frame fun x hx=>?_⟩,?_⟩,?_⟩
 ·obtain⟨c,hr⟩:=h.at_.aV;exact⟨c,jg hr fun x hx=>same x (fun e=>n2 (by rw[<- e];exact hx)) (.inl hx)⟩
 ·have hm:x∈y.vs.flatMap fW:=by
   refine List.mem_flatMap.2 ⟨_,?_,hx⟩;have hl:=h.at_.len;have hi':i<g.aV.length:=hi;rw[List.getD_eq_getElem?_getD,List.getElem?_eq_getElem (by omega)];exact List.getElem_mem _
  exact same x (fun e=>n3 (by rw[<- e];exact hm)) (.inr hm)
 ·refine DO.2 ⟨⟨c2,n2,n3⟩,fun x hx=>⟨fun e=>?_,fun e=>?_⟩,n5,n6⟩
  ·exact(s1 x (hrv x e).1 (hrv x e).2).2 hx
  ·exact(s1 x (hvs x e).1 (hvs x e).2).2 hx
 ·intro x hx hn;simp only[bE,List.mem_cons,List.mem_append,not_or]at hn ⊢;obtain⟨a1,a2⟩:=hs x hx hn.2.1;exact⟨by rw[cN hn.1,a1],hn.1,a2,hn.2.2⟩
theorem BN{X3 X4 X5:PH}{y:nv}{g:dJ}{v3 v4:Value}{r:RecM}(h:gj X3 y g)(hs:Step X3 (.slice none 0 0) X4 v3)(hb:fU X4 v3 r.body)(hs2:Step X4 y.rv X5 v4)
 (hd4:∀x∈fW v3,X4 x≠none) (hr:∃c,kR X5 v4 tj (g.aV.length+1) c (vP (g.aV++[r]) (y.vs++[v3]))) :
 X4 y.b=some (0,dc g y.bv y.rv)/\X5 y.b=some (0,dc g y.bv y.rv)/\gj (aO X5 y.b 0 (dc { g with aV:=g.aV++[r] } y.bv v4)) ⟨y.b,y.bv,v4,y.vs++[v3]⟩ { g with aV:=g.aV++[r] } /\
 Fr X3 y (aO X5 y.b 0 (dc { g with aV:=g.aV++[r] } y.bv v4)) ⟨y.b,y.bv,v4,y.vs++[v3]⟩:=by
 have hd:=h.at_.dom;obtain⟨⟨n1,n2,n3⟩,n4,n5,n6⟩:=DO.1 h.nd;have s1:∀x,X3 x≠none->X4 x=X3 x/\x∉fW v3:=fun x hx=>hs x hx (by simp[fW]);have s2:∀x,X3 x≠none->x∉fW y.rv->X5 x=X3 x/\x∉fW v3/\x∉fW v4:=fun x hx hv=>by
  obtain⟨a1,a2⟩:=s1 x hx;obtain⟨b1,b2⟩:=hs2 x (by rw[a1];exact hx) hv;exact⟨b1.trans a1,a2,b2⟩
 have hbm:y.b∈bE y:=List.mem_cons_self;have hbv:∀x∈fW y.bv,x∈bE y/\x∉fW y.rv:=fun x hx=>⟨by simp[bE,hx],(n4 x hx).1⟩
 have hvs:∀x∈y.vs.flatMap fW,x∈bE y/\x∉fW y.rv:=fun x hx=>⟨List.mem_cons_of_mem _ (List.mem_append_right _ (List.mem_append_right _ hx)),fun e=>n5 x e hx⟩
 have hrv:∀x∈fW y.rv,x∈bE y:=fun x hx=>by simp[bE,hx]
 obtain⟨c1,c2,c3⟩:=s2 y.b (hd _ hbm) n2;have hv3rv:∀x∈fW v3,x∉fW y.rv:=fun x hx e=>(s1 x (hd x (hrv x e))).2 hx;have hv3:∀x∈fW v3,X5 x=X4 x/\x∉fW v4:=fun x hx=>hs2 x (hd4 x hx) (hv3rv x hx);have same:∀x∈bE y,x≠y.b->x∉fW y.rv->aO X5 y.b 0 (dc { g with aV:=g.aV++[r] } y.bv v4) x=X3 x:=fun x hx h1 h2=>by
  rw[cN h1];exact(s2 x (hd x hx) h2).1
 have hl:=h.at_.len;refine⟨(s1 _ (hd _ hbm)).1.trans h.at_.cell,c1.trans h.at_.cell,⟨⟨dP ..,h.at_.Cj,h.at_.buf.frame fun x hx=>same x (hbv x hx).1 (fun e=>n1 (by rw[<- e];exact hx)) (hbv x hx).2,?_,?_,?_⟩,?_⟩,?_⟩
 ·obtain⟨c,hr⟩:=hr;refine⟨c,?_⟩;simp only[List.length_append,List.length_singleton];exact jg hr fun x hx=>cN fun e=>c3 (by rw[<- e];exact hx)
 ·simp[hl]
 ·intro i hi;simp only[List.length_append,List.length_singleton]at hi;show fU _ ((y.vs++[v3]).getD i undef) (gl (g.aV++[r]) i).body;rw[lq hi];by_cases hin:i<g.aV.length
  ·rw[if_pos hin];have e1:(y.vs++[v3]).getD i undef=y.vs.getD i undef:=by
    rw[List.getD_eq_getElem?_getD,List.getElem?_append_left (by omega),List.getD_eq_getElem?_getD]
   rw[e1];refine(h.at_.body i hin).frame fun x hx=>?_;have hm:x∈y.vs.flatMap fW:=by
    refine List.mem_flatMap.2 ⟨_,?_,hx⟩;rw[List.getD_eq_getElem?_getD,List.getElem?_eq_getElem (by omega)];exact List.getElem_mem _
   exact same x (hvs x hm).1 (fun e=>n3 (by rw[<- e];exact hm)) (hvs x hm).2
  ·rw[if_neg hin];have e1:(y.vs++[v3]).getD i undef=v3:=by
    rw[List.getD_eq_getElem?_getD,List.getElem?_append_right (by omega),show i-y.vs.length=0 by omega];rfl
   rw[e1];refine hb.frame fun x hx=>?_;rw[cN (fun e=>c2 (by rw[<- e];exact hx)),(hv3 x hx).1]
 ·refine DO.2 ⟨⟨n1,c3,?_⟩,fun x hx=>⟨?_,?_⟩,fun x hx=>?_,?_⟩
  ·simp only[List.flatMap_append,List.mem_append,not_or];exact⟨n3,by simpa using c2⟩
  ·exact(s2 x (hd x (hbv x hx).1) (hbv x hx).2).2.2
  ·simp only[List.flatMap_append,List.mem_append,not_or];exact⟨(n4 x hx).2,by simpa using(s2 x (hd x (hbv x hx).1) (hbv x hx).2).2.1⟩
  ·simp only[List.flatMap_append,List.mem_append,not_or];exact⟨fun e=>(s2 x (hd x (hvs x e).1) (hvs x e).2).2.2 hx,fun e=>(hv3 x (by simpa using e)).2 hx⟩
  ·simp only[List.flatMap_append,List.nodup_append];refine⟨n6,by simpa using AL v3,fun a ha b hb e=>?_⟩;subst e;exact(s1 a (hd a (hvs a ha).1)).2 (by simpa using hb)
 ·intro x hx hn;simp only[bE,List.mem_cons,List.mem_append,not_or]at hn;obtain⟨a1,a2,a3⟩:=s2 x hx hn.2.2.1;refine⟨by rw[cN hn.1,a1],?_⟩;simp only[bE,List.mem_cons,List.mem_append,not_or,List.flatMap_append];exact⟨hn.1,hn.2.1,a3,hn.2.2.2,by simpa using a2⟩
theorem vS{α β:Type}{f:α->List β}:∀ {l:List α} {a:α},a∈l->(f a).Sublist (l.flatMap f)
 |[],_,h=>by cases h
 |x::r,a,h=>by
  rw[List.flatMap_cons];rcases List.mem_cons.1 h with rfl|h
  ·exact List.sublist_append_left _ _
  ·exact(vS h).trans (List.sublist_append_right _ _)
theorem ct.aaC{H:PH}{y:iL}{L:b8}(h:ct H y L){k:Nat}(hk:k<L.l.length):gj H (gl y.ys k) (gl L.l k):=by
 refine⟨h.seg k hk,?_⟩;have hk':k<y.ys.length:=by rw[h.len];exact hk
 refine(List.nodup_append.1 h.nd).2.1.sublist (vS ?_);rw[bL hk'];exact List.getElem_mem _
theorem Nf{α:Type}[Inhabited α]{l:List α}{k i:Nat}{x:α}(hi:i<l.length):gl (l.set k x) i=if i=k then x else gl l i:=by
 unfold gl;rw[List.getD_eq_getElem?_getD,List.getElem?_set];by_cases h:i=k
 ·subst h;simp[hi]
 ·rw[if_neg (fun e=>h e.symm),if_neg h,List.getD_eq_getElem?_getD]
theorem ct.set{H H':PH}{y:iL}{L:b8}{k:Nat}{sl:nv}{g:dJ}(h:ct H y L)(hk:k<L.l.length)(hb:sl.b=(gl y.ys k).b)(hg:gj H' sl g)(hf:Fr H (gl y.ys k) H' sl) :
 ct H' ⟨y.lv,y.ys.set k sl⟩ { L with l:=L.l.set k g }/\∀x,H x≠none->x∉bB y->H' x=H x/\x∉bB ⟨y.lv,y.ys.set k sl⟩:=by
 have hk':k<y.ys.length:=by rw[h.len];exact hk
 have hd:=h.dom;obtain⟨A,B,e1,e2,hA⟩:∃A B,y.ys=A++gl y.ys k::B/\y.ys.set k sl=A++sl::B/\A.length=k:=by
  refine⟨y.ys.take k,y.ys.drop (k+1),?_,?_,by simp;omega⟩
  ·rw[bL hk'];simp
  ·rw[List.set_eq_take_append_cons_drop,if_pos hk']
 obtain⟨s,hs⟩:∃s,s=gl y.ys k:=⟨_,rfl⟩
 rw[<- hs]at e1 hb hf;have F1:y.ys.flatMap bE=A.flatMap bE++(bE s++B.flatMap bE):=by rw[e1];simp
 have F2:(y.ys.set k sl).flatMap bE=A.flatMap bE++(bE sl++B.flatMap bE):=by rw[e2];simp
 have hnd:=h.nd;rw[F1]at hnd;simp only[List.nodup_append,List.mem_append]at hnd;obtain⟨n1,⟨n2,⟨n3,n4,n5⟩,n6⟩,n7⟩:=hnd;have oV:∀x∈fW y.lv,H' x=H x/\x∉bE sl:=fun x hx=>hf x (hd x (List.mem_append_left _ hx)) fun e=>n7 x hx x (.inr (.inl e)) rfl;have oA:∀x∈A.flatMap bE,H' x=H x/\x∉bE sl:=fun x hx=>hf x (hd x (List.mem_append_right _ (by rw[F1];exact List.mem_append_left _ hx))) fun e=>n6 x hx x (.inl e) rfl;have oB:∀x∈B.flatMap bE,H' x=H x/\x∉bE sl:=fun x hx=>hf x (hd x (List.mem_append_right _ (by rw[F1];exact List.mem_append_right _ (List.mem_append_right _ hx)))) fun e=>n5 x e x hx rfl;refine⟨⟨?_,by simp[h.len],?_,?_⟩,?_⟩
 ·obtain⟨c,hl⟩:=h.Kq;refine⟨c,?_⟩;simp only[List.length_set];have hl2:=jg (H':=H') hl fun x hx=>(oV x hx).1;have he:∀i,i<L.l.length->AI y.ys i 0=AI (y.ys.set k sl) i 0:=fun i hi=>by
   simp only[AI];rw[Nf (by rw[h.len];exact hi)];by_cases hik:i=k
   ·subst hik;rw[if_pos rfl,hb,hs]
   ·rw[if_neg hik]
  rcases hl2 with hz | ⟨b,lo,o,cs,g1,g2,g3,g4,g5⟩
  ·exact .inl hz
  ·refine .inr ⟨b,lo,o,cs,g1,g2,g3,g4,⟨fun i hi j q hj=>?_⟩⟩;have hj0:j=0:=by have:=(List.getElem?_eq_some_iff.1 hj).1;simpa using this
   subst hj0;have:=g5.at_ i hi 0 q hj;rw[he i hi]at this;exact this
 ·intro i hi;simp only[List.length_set]at hi;show oS H' (gl (y.ys.set k sl) i) (gl (L.l.set k g) i);rw[Nf (by rw[h.len];exact hi),Nf hi];by_cases hik:i=k
  ·rw[if_pos hik,if_pos hik];exact hg.at_
  ·rw[if_neg hik,if_neg hik];refine(h.seg i hi).frame fun x hx=>?_;have hm:gl y.ys i∈A\/gl y.ys i∈B:=by
    have hi':i<y.ys.length:=by rw[h.len];exact hi
    have e3:gl y.ys i=gl (A++s::B) i:=by rw[<- e1]
    rcases Nat.lt_or_ge i k with hlt|hge
    ·left;rw[e3,bV (by omega),bL (by omega)];exact List.getElem_mem _
    ·right;have hlen:y.ys.length=A.length+(B.length+1):=by rw[e1];simp
     rw[e3,show i=A.length+((i-k-1)+1)by omega,br];have:gl (s::B) (i-k-1+1)=gl B (i-k-1):=by simp[gl]
     rw[this,bL (by omega)];exact List.getElem_mem _
   rcases hm with hm|hm
   ·exact(oA x (List.mem_flatMap.2 ⟨_,hm,hx⟩)).1
   ·exact(oB x (List.mem_flatMap.2 ⟨_,hm,hx⟩)).1
 ·show(fW y.lv++(y.ys.set k sl).flatMap bE).Nodup;rw[F2];simp only[List.nodup_append,List.mem_append];refine⟨n1,⟨n2,⟨hg.nd,n4,fun a ha b hb e=>?_⟩,fun a ha b hb e=>?_⟩,fun a ha b hb e=>?_⟩
  ·subst e;exact(oB a hb).2 ha
  ·subst e;rcases hb with hb|hb
   ·exact(oA a ha).2 hb
   ·exact n6 a ha a (.inr hb) rfl
  ·subst e;rcases hb with hb|hb|hb
   ·exact n7 a ha a (.inl hb) rfl
   ·exact(oV a ha).2 hb
   ·exact n7 a ha a (.inr (.inr hb)) rfl
 ·intro x hx hn;have hn1:x∉fW y.lv:=fun e=>hn (List.mem_append_left _ e);have hn2:x∉A.flatMap bE/\x∉bE s/\x∉B.flatMap bE:=by
   have:x∉y.ys.flatMap bE:=fun e=>hn (List.mem_append_right _ e);rw[F1]at this;simpa only[List.mem_append,not_or]using this
  obtain⟨a1,a2⟩:=hf x hx hn2.2.1;refine⟨a1,?_⟩;show x∉fW y.lv++(y.ys.set k sl).flatMap bE;rw[F2];simp only[List.mem_append,not_or];exact⟨hn1,hn2.1,a2,hn2.2.2⟩
def Ld(s:S):Nat:=match tI s.hp with|some t=>t|none=>0
def S.log(s:S)(slot:Nat)(L:b8)(lv:Value)(d:bG)(H:PH):S :=
 (fun(q:S)=>(q.put (q.hp.del (Ld q))).new (.cI H))
  (((s.at_ (s.tg slot) (gu (s.qx (s.tg slot) 0) L lv)).at_ (s.qx (s.tg slot) 0) (.obj 116 [.slc (s.qx (s.qx (s.tg slot) 0) 0) 0 129 d.n d.n,.int .i64 d.calls])).at_ (s.qx (s.qx (s.tg slot) 0) 0) (.arr 158 DA d.n (fO d)))
def S.dev(s:S)(td:Nat)(d:bG):S:=(s.at_ td (.obj 116 [.slc (s.qx td 0) 0 129 d.n d.n,.int .i64 d.calls])).at_ (s.qx td 0) (.arr 158 DA d.n (fO d))
structure vT(L:b8)(d:bG):Prop where
 zG:L.l.length<800
 av:3<=L.av/\L.av<=200
 room:L.from_+L.av*8<=d.n
 size:d.n<100000
 calls:d.calls<900000000000
 next:0<=L.next/\L.next<100000000000
 gen:∀i,i<L.l.length->1<=(gl L.l i).gen/\(gl L.l i).gen<100000000000
 buf:∀i,i<L.l.length->(gl L.l i).buf.length<=378
 aV:∀i,i<L.l.length->(gl L.l i).aV.length*9<=(gl L.l i).buf.length
structure abz(L L1:b8)(d d1:bG)(n:Nat):Prop where
 pos:1<=L1.l.length
 zG:L1.l.length<=801
 from_:L1.from_=L.from_
 av:L1.av=L.av
 next:L1.next=L.next
 run:L1.run=L.run
 fresh:L1.fresh=L.fresh
 dn:d1.n=d.n
 calls:d1.calls<=d.calls+2
 gen:∀i,i<L1.l.length->1<=(gl L1.l i).gen/\(gl L1.l i).gen<=100000000000
 buf:∀i,i<L1.l.length->(gl L1.l i).buf.length<=378
 aV:∀i,i<L1.l.length->(gl L1.l i).aV.length*9<=(gl L1.l i).buf.length
 last:(kJ L1).buf.length+n<=370
theorem DP{L:b8}{d:bG}(ok:vT L d):1<=(bx L).gen/\(bx L).gen<=100000000000:=by
 by_cases h:L.l.length=0
 ·have:L.l=[]:=List.eq_nil_of_length_eq_zero h;simp only[bx,this,List.getLast?_nil];omega
 ·have hk:L.l.length-1<L.l.length:=by omega
  have e:L.l.getLast? = some (gl L.l (L.l.length-1)):=by rw[bL hk,List.getLast?_eq_getElem?,List.getElem?_eq_getElem hk]
  have:=ok.gen _ hk;simp only[bx,e];omega
theorem AM{L:b8}{i:Nat}(h:i<(uZ L).length):∃j,j<L.l.length/\gl (uZ L) i=gl L.l j:=by
 have hm:gl (uZ L) i∈L.l:=by rw[bL h];exact(List.mem_filter.1 (List.getElem_mem h)).1
 obtain⟨j,hj,e⟩:=List.getElem_of_mem hm;exact⟨j,hj,by rw[bL hj];exact e.symm⟩
theorem Uh(L:b8):(uZ L).length<=L.l.length:=List.length_filter_le _ _
theorem Le{L:b8}{d:bG}{n:Nat}(ok:vT L d)(hn:n<=300):abz L (dr L n) d (lz L d n) n:=by
 have hf:=ok.zG;cases hB:rT L n with
 |false =>
  rw[show dr L n=L from if_neg (by rw[hB];decide),show lz L d n=d from if_neg (by rw[hB];decide)];simp only[rT,Bool.or_eq_false_iff,decide_eq_false_iff_not]at hB;exact⟨by omega,by omega,rfl,rfl,rfl,rfl,rfl,rfl,by omega,fun i hi=>by have:=ok.gen i hi;omega,ok.buf,ok.aV,by omega⟩
 |true =>
  rw[show dr L n=jG L from if_pos hB,show lz L d n=uj L d from if_pos hB];have hln:(jG L).l.length=(uZ L).length+1:=by simp[jG]
  have hkl:=Uh L;have hg:=DP ok;have hgl:∀i,i<(uZ L).length+1->gl (jG L).l i=if i<(uZ L).length then gl (uZ L) i else bx L:=fun i hi=>by simp only[jG];exact lq hi
  refine⟨by omega,by omega,rfl,rfl,rfl,rfl,rfl,rfl,by simp[uj,gR,gQ],fun i hi=>?_,fun i hi=>?_,fun i hi=>?_,?_⟩
  ·rw[hgl i (by omega)];split
   ·obtain⟨j,hj,e⟩:=AM (L:=L) (i:=i) (by assumption);rw[e];have:=ok.gen j hj;omega
   ·exact hg
  ·rw[hgl i (by omega)];split
   ·obtain⟨j,hj,e⟩:=AM (L:=L) (i:=i) (by assumption);rw[e];exact ok.buf j hj
   ·simp[bx]
  ·rw[hgl i (by omega)];split
   ·obtain⟨j,hj,e⟩:=AM (L:=L) (i:=i) (by assumption);rw[e];exact ok.aV j hj
   ·simp[bx]
  ·have:kJ (jG L)=bx L:=by
    show gl (jG L).l ((jG L).l.length-1)=_;rw[hgl _ (by omega),if_neg (by omega)]
   rw[this];simp[bx];omega
theorem uo(L:b8)(g:dJ)(was:Nat)(d:bG):∀i,(dw L g was d i).n=d.n/\(dw L g was d i).calls<=d.calls+i
 |0=>⟨rfl,Nat.le_refl _⟩
 |i+1=>by
  have:=uo L g was d i;unfold dw;split
  ·simp only[gQ];omega
  ·omega
structure uq where
 H:PH
 y:iL
 L:b8
 d:bG
 body:List Int
 cap:Nat
noncomputable def CI:cG where
 α:=uq
 β:=nB
 m:=5
 m':=6
 pre:=fun a=>ct a.H a.y a.L/\vT a.L a.d/\1<=a.body.length/\a.body.length<=300
 args:=fun a=>[.a (.ptr 0 0 0 0),.a (.slc 4 0 1 a.body.length a.cap)]
 hp:=fun a=>[(0,gu 1 a.L a.y.lv)]++ic 1 2 a.d++[(3,.cI a.H)]
 ro:=fun a=>jO 4 a.body
 post:=fun a b=>ct b.H b.y (mK a.L a.body)/\∀x,a.H x≠none->x∉bB a.y->b.H x=a.H x/\x∉bB b.y
 res:=fun a _=>.ng [.a (.int .i64 a.L.next),.a (.lit .i64 0)]
 cR:=fun a b=>[(0,gu 1 (mK a.L a.body) b.y.lv)]++ic 1 2 (oT a.L a.d a.body)++[(5,.cI b.H)]
def YY(a:uq):An:=.flat 17 Nat (fun s i=>S.dev (s.int 95 i) (s.qx (s.tg 0) 0) (dw (dr a.L a.body.length) (La (kJ (dr a.L a.body.length)) a.L.next a.body) (kJ (dr a.L a.body.length)).buf.length (lz a.L a.d a.body.length) i)) (fun _ i=>i<=8) (fun _ i=>8-i)
def aaD(a:uq):An:=.mk 10 (PH×iL) (fun s x=>S.log s 0 (dr a.L a.body.length) x.2.lv (lz a.L a.d a.body.length) x.1) (fun _ x=>ct x.1 x.2 (dr a.L a.body.length)/\∀z,a.H z≠none->z∉bB a.y->x.1 z=a.H z/\z∉bB x.2) (fun _ _=>0) fun _=>.mk 1000 [YY a] []
def qV(x:Nat)(y z:List Value)(u:Nat):List Value:=List.take x y++z++List.drop (x+u) y
def AN(y:Nat)(z x:List Value):List Value:=qV y z x x.length
def kf(x:Nat)(y:List Value)(z u v w s:Nat):List Value:=AN x y (bP (Value.slice (some { block:=z,off:=u }) (v+w) s))
def ur(x:uq)(y:Nat):bG:=dw (dr x.L (ah x.body)) (La (kJ (dr x.L (ah x.body))) x.L.next x.body) (ah (kJ (dr x.L (ah x.body))).buf) (lz x.L x.d (ah x.body)) y
def fS(x y:Prop):=gA (bn false) x y
def uu(x:uq)(y:Int):Int:=nq (cD (dr x.L (ah x.body)).next/y)
def vU(x:Prop):=fS (ay 0) (ag x)
def Lf(u:List Value)(v:Nat)(x:uq)(y:PH)(w:PH×iL)(s:bG)(z:Nat)(t:Prop):=ag (cH (aW u v)/\bn (aK 300 (af (ah x.body)))/\vU (bh (ah x.body) x.cap/\y=y/\mJ (nq (cD (af (ah x.body))/(256:Int))) (nq (cD (af (ah x.body))/(1:Int))) (uu x 1099511627776) (ay (uu x 4294967296)) (mJ (uu x 16777216) (uu x 65536) (uu x 256) (ay (uu x 1)) (ag (gK (dr x.L (ah x.body)) w.snd (gP s (ur x z) (pL x.body cO/\z<=8/\t)))))))
def BO(x y w s:Nat)(t:Nat->Option (Nat×List Value))(f:Nat)(g:IntKind)(h:List CK)(i j:Nat->Nat->Value)(k:Nat->Nat->Nat->List Value->Prop):=gC x y w s fun z=>(z≠0/\0+(x+y)<=x+y)/\∀(v l:Nat) (u:List Value),t v=none->u.length=z*f->(BG u 0 (CK.int g::h) (x+y) fun m n=>bg i 0 x j (0+m) n)->k z v l u
def DQ(y:Nat)(x:b8)(z:Nat)(u:Value)(v:iL)(w s:Int)(t:Bool)(f:Prop):=bC y x.from_/\bC z x.av/\u=v.lv/\w=x.next/\s=x.run/\t=x.fresh/\f
def yI(x:uq):Int:=(dr x.L (ah x.body)).next+(1:Int)
def yJ(z:nB)(x:uq):=qU z (mK x.L x.body) (fun u=>x.H u) x.y
def Lg(x:uq)(u:PH)(v:PH×iL)(w:Bool)(s:bG):nB->Prop:=fun(z:nB)=>yI x-(1:Int)=x.L.next/\aI (u=z.H/\ag (DQ (dr x.L (ah x.body)).from_ (mK x.L x.body) (dr x.L (ah x.body)).av v.snd.lv z.y (yI x) (dr x.L (ah x.body)).run w (gP s (oT x.L x.d x.body) (yJ z x/\True))))
def Ng(x y:Int)(z:List A):List A:=A.int .u8 x::A.int .u8 y::z
def Ui(x z u:Int)(y:uq)(v w:Int)(s:List A):List A:=Ng (nq (cD x/z)) (nq (cD x/u)) (Ng (uu y v) (uu y w) s)
def gi(x y:b8)(z u:iL)(v:Prop):=ag (vf x y z.lv u.lv v)
def Nh(x:PH×iL)(z:uq):=ct x.fst x.snd (dr z.L (ah z.body))/\∀u:Nat,yE (z.H u) z.y u (x.fst u) x.snd
def Ni(x:uq)(z:PH)(u:b8)(v:iL)(w:bG):=∃y:PH×iL,bn (aK 300 (af (ah x.body)))/\vU (bh (ah x.body) x.cap/\z=y.fst/\gi u (dr x.L (ah x.body)) v y.snd (gP w (lz x.L x.d (ah x.body)) (pL x.body cO/\Nh y x/\True)))
def Nj(z:uq):=∃x:Nb,aA (vf z.L x.L z.y.lv x.y.lv (gP z.d x.d (z.H=x.H/\Ii x/\∀u:nB,qU u (jG x.L) (fun v=>x.H v) x.y->Ni z u.H (jG x.L) u.y (uj x.L x.d))))
def lB(z:PH×iL)(u:List Value)(v x y:Nat)(w:List Value)(s t f g:Nat)(h:List Value):PH:=aO (aM (aO (aM z.fst (aW u v)) x y w) (fC x y (s+8) t)) f g h
def pP(z:Value)(u:Nat)(v:Nat->Option (Nat×List Value))(w:A)(s:Nat->Nat->Nat->List Value->Prop):=Exists (kY z u (fun x=>v x) (fun x y=>x+[w].length<=y.length) fun x y t f=>s x y t f)
def vV(u:PH)(v:Value)(w:IntKind)(s:List CK)(t f g h i:Nat)(j:Nat->Nat->Value)(k:Nat->Nat->Nat->Nat->List Value->Prop):=Exists (kz u v (CK.int w) s fun y l m=>0+y<=y/\t<=f/\BO y g h l (fun x=>aM u v x) i w s m (fun x z=>j x z) fun x z n o=>k y x z n o)
def DR(s:Nat)(g:Nat->Option (Nat×List Value))(h:Nat->Nat->Value)(t:PH)(f:Value)(i:Int)(j:Nat->Nat->List Value->Nat->Nat->Nat->Nat->List Value->Prop):=BO 0 s 1 0 (fun u=>g u) 1 .u8 [] (aF 1 []) h fun u x y v=>Exists (kz (aO t x y v) f (CK.int .i64) (ji CK.deep) fun z k l=>0+z<=z/\BO z 1 32 k (fun w=>aM (aO t x y v) f w) 2 .i64 (ji CK.deep) l (lM [A.int .i64 i,A.val (fC x y (0+s) u)] 2) fun w m n o=>j x y v z w m n o)
def mL(x y:Int)(z:Prop):=ai x->ai (x-y)/\z
def jQ(x y:Int)(z:Prop):=ai x->ai (x+y)/\z
def iB(x:List Int)(y:Nat):=1<=ah x/\ah x<=y
def sC(x:Int->List Value)(y:List Int):Nat->Nat->Value:=fun(z u:Nat)=>aa x y (0+z) u
def Nk(x y z u v w:Int)(s:Prop):=(0:Int)<=x/\bf y 6/\(0:Int)<=z/\bf u 6/\(0:Int)<=v/\bf w 6/\s
def AO(x:uq):=ct x.H x.y x.L/\vT x.L x.d/\iB x.body 300
def AP(x:List Int)(z u:Prop):=∀y:Bool,(aC y->ah x=0)->aD y z (0<=0/\nr x/\u)
theorem Nl:fnBody (Y Tryz.prog) [(195,Nc),(198,Ib),(169,ko)] 162 CI fun a=>[(162,[YY a],[aaD a])]:=fnBody.of (p :=
 ∀x:uq,AO x->fR (aK (af (ah x.body)) 1) (∃z:nB,(0:Int)=x.L.next/\(1:Int)=0/\x.H=z.H/\gi x.L (mK x.L x.body) x.y z.y (gP x.d (oT x.L x.d x.body) (yJ z x/\True))) (aK 300 (af (ah x.body))) ((gD x.y.lv/\aD (af (di x.y.lv) == (0:Int)) (Nj x) (yG x.y (fun z=>x.H z) fun z U=>nA (aW U z) 3 (fun n=>x.H n) fun n B=>ai ((370:Int)-af (ah x.body))/\aX ((370:Int)-af (ah x.body)) (af (di (aW B n))) (Nj x) (Ni x x.H x.L x.y x.d)))/\∀z:PH×iL,Nh z x->gD z.snd.lv/\yG z.snd (fun n=>z.fst n) fun n B=>eo 2 8/\0<8/\(0:Int)<=0/\bf 1 2/\(0:Int)<=8/\bf 0 2/\eo 2 8/\2<8/\(ai (dr x.L (ah x.body)).next->Nk 0 5 8 4 16 3 (Nk 24 2 32 1 40 0 (nA (aW B n) 3 (fun M=>z.fst M) fun M Q=>ig (aW B n) 3 (fun w=>z.fst w) (fun w=>ey w) fun w f=>0<8/\Exists (kz z.fst (aW f w) (CK.int .u8) [] fun t V W=>0+t<=t/\BO t 8 1 V (fun g=>aM z.fst (aW f w) g) 1 .u8 [] W (lM (Ui (af (ah x.body)) 256 1 x 1099511627776 4294967296 (Ui (dr x.L (ah x.body)).next 16777216 65536 x 256 1 [])) 1) fun g h j o=>vV (aO (aM z.fst (aW f w)) h j o) (fC h j (t+8) g) .u8 [] (0+ah x.body) (ah x.body) (ah x.body) 1 1 (fun k l=>aa cO x.body (0+k) l) fun k l u v q=>pP (aW B n) 3 (fun p=>aO (aM (aO (aM z.fst (aW f w)) h j o) (fC h j (t+8) g)) u v q p) (A.val (fC u v (k+ah x.body) l)) fun p r c e=>cm (fun s=>aP (di (aW Q M)) (Lf B n x (aO (lB z f w h j o t g u v q) p r (kf c e u v k (ah x.body) l)) z (lz x.L x.d (ah x.body)) s True)) fun s=>s<=8 ->
 aX (af s) 8 (aQ s (pI (aY s*(48:Int)) 6 (aX (af (di (aW Q M))) (qf true 0 (aY s*(48:Int)-6)) (nA (aW B n) 3 (fun m=>aO (lB z f w h j o t g u v q) p r (kf c e u v k (ah x.body) l) m) fun m F=>pI (af s*(48:Int)) 6 (aX (qf true 0 (af s*(48:Int)-6)) (af (di (aW F m))) (∃D:ug,ag (aW B n=pv D.y.b 0/\bC s D.i/\gP (ur x s) D.d (ag (vf (dr x.L (ah x.body)) D.L z.snd.lv D.lv (aO (lB z f w h j o t g u v q) p r (kf c e u v k (ah x.body) l)=D.H/\AG D/\aB (bH s fun C=>aP (di (aW Q M)) (Lf B n x (aO (lB z f w h j o t g u v q) p r (kf c e u v k (ah x.body) l)) z (AH D) C (8-C<8-s)))))))) (bH s fun D=>aP (di (aW Q M)) (Lf B n x (aO (lB z f w h j o t g u v q) p r (kf c e u v k (ah x.body) l)) z (ur x s) D (8-D<8-s))))) (bH s fun m=>aP (di (aW Q M)) (Lf B n x (aO (lB z f w h j o t g u v q) p r (kf c e u v k (ah x.body) l)) z (ur x s) m (8-m<8-s)))))) (ig (aW B n) 4 (fun m=>aO (lB z f w h j o t g u v q) p r (kf c e u v k (ah x.body) l) m) (fun m=>ey m) fun m F=>ai (dr x.L (ah x.body)).next->AP x.body (vV (aO (lB z f w h j o t g u v q) p r (kf c e u v k (ah x.body) l)) (aW F m) .i64 (ji CK.deep) 1 1 1 32 2 (fun C J=>aF 2 (bT (dr x.L (ah x.body)).next (bP gW)) (0+C) J) fun C J G I N=>pP (aW B n) 4 (fun E=>aO (aM (aO (lB z f w h j o t g u v q) p r (kf c e u v k (ah x.body) l)) (aW F m)) G I N E) (A.val (fC G I (C+1) J)) fun E K P O=>jQ (dr x.L (ah x.body)).next 1 (aD (dr x.L (ah x.body)).fresh (mL (yI x) 1 (lu (ur x s) fun R=>Exists (Lg x (aO (aO (aM (aO (lB z f w h j o t g u v q) p r (kf c e u v k (ah x.body) l)) (aW F m)) G I N) E K (kf P O G I C 1 J)) z false (gR R)))) (mL (yI x) 1 (Exists (Lg x (aO (aO (aM (aO (lB z f w h j o t g u v q) p r (kf c e u v k (ah x.body) l)) (aW F m)) G I N) E K (kf P O G I C 1 J)) z (dr x.L (ah x.body)).fresh (ur x s)))))) (DR (ah x.body) (fun C=>aO (lB z f w h j o t g u v q) p r (kf c e u v k (ah x.body) l) C) (sC cO x.body) (aO (lB z f w h j o t g u v q) p r (kf c e u v k (ah x.body) l)) (aW F m) (dr x.L (ah x.body)).next fun C J G I N E K P=>pP (aW B n) 4 (fun O=>aO (aM (aO (aO (lB z f w h j o t g u v q) p r (kf c e u v k (ah x.body) l)) C J G) (aW F m)) E K P O) (A.val (fC E K (I+1) N)) fun O R S T=>jQ (dr x.L (ah x.body)).next 1 (aD (dr x.L (ah x.body)).fresh (mL (yI x) 1 (lu (ur x s) fun X=>Exists (Lg x (aO (aO (aM (aO (aO (lB z f w h j o t g u v q) p r (kf c e u v k (ah x.body) l)) C J G) (aW F m)) E K P) O R (kf S T E K I 1 N)) z false (gR X)))) (mL (yI x) 1 (Exists (Lg x (aO (aO (aM (aO (aO (lB z f w h j o t g u v q) p r (kf c e u v k (ah x.body) l)) C J G) (aW F m)) E K P) O R (kf S T E K I 1 N)) z (dr x.L (ah x.body)).fresh (ur x s))))))))))))) (by kernel_rfl) (by
 delta aD mJ eF aW ah ig ai bF aG ay bT kf bn gC qf aK aY af eo kY nC bP bf gA aC aR dW cH bw dV Lf fR aB BO gD Lg Ui ur Nj ey aP bK bH DQ cD lB gK yG ku aI bh pP yE kz gW jh aT fS vV uu AG Ni ag DR mL Ii AN aX qU jQ aA iB lu aQ ji pL nA bC pI nq nr AH sC yI Nk AO gi yJ iT Ng AP cm qV Nh vU
 try dsimp -iota -proj only
 rintro⟨H,y,L,d,body,cap⟩ ⟨hl,ok,hb1,hb2⟩;dsimp only at *;have hf:=ok.zG;have hcl:=ok.calls;have hnx:=ok.next
 have hng:=DP ok;obtain⟨e1,_,⟨ea,ec,e2⟩,e3,_⟩:=hl.sA;refine⟨fun c1=>?_,fun _=>⟨fun c2=>?_,fun _=>⟨⟨⟨ea,_,ec,e2,e3⟩,fun c3=>?_,fun c3=>?_⟩,?_⟩⟩⟩
 ·simp at c1;omega
 ·simp at c2;omega
 ·rw[e1]at c3;have hn0:L.l.length=0:=by simpa using c3
  have hneed:rT L body.length=true:=by simp only[rT,hn0];rfl
  have e1:dr L body.length=jG L:=if_pos hneed;have e2:lz L d body.length=uj L d:=if_pos hneed;refine⟨Nb.mk H y L d,?_⟩
  and_intros<;>first|exact dg|exact ok.av.1|exact ok.av.2|exact ok.room|exact ok.size|(simp only[bR];omega)|skip
  intro b hpost;refine⟨(b.H,b.y),?_⟩;simp only[e1,e2]
  and_intros<;>first|exact dg|exact hpost.1|exact hpost.2|rfl
 ·rw[e1]at c3 ⊢;have hn0:0<L.l.length:=by have:=(beq_eq_false_iff_ne.1 c3);omega
  have hk:L.l.length-1<L.l.length:=by omega
  obtain⟨b,lo,o,c,cs,g1,g2,g3,g4⟩:=hl.at_ hk;have hs:=hl.seg _ hk;obtain⟨b1,b2,b3,b4,⟨ba,bc,b5⟩,b6⟩:=hs.buf.len;have e5:((L.l.length:Int)-1).toNat=L.l.length-1:=by omega
  refine⟨by simp only[bR];omega,_,_,_,_,g1,by omega,b,lo,o+(L.l.length-1)*1,cs,by rw[e5,Nat.add_assoc],g2,⟨⟨_,g3,rfl⟩,trivial⟩,?_⟩;refine⟨_,_,g4,?_⟩;refine⟨_,_,rfl,?_⟩;refine⟨_,0,_,_,rfl,hs.cell,?_⟩;refine⟨⟨⟨_,rfl,b6⟩,trivial⟩,⟨ba,_,bc,b5,b3⟩,by simp only[bR];omega,fun c4=>?_,fun c4=>?_⟩
  ·simp only[dc,List.getD_cons_succ,List.getD_cons_zero,b1]at c4;have hneed:rT L body.length=true:=by
    have:=of_decide_eq_true c4;rw[rT,Bool.or_eq_true];exact .inr (decide_eq_true (show 370<(kJ L).buf.length+body.length by unfold kJ;omega))
   have e1:dr L body.length=jG L:=if_pos hneed;have e2:lz L d body.length=uj L d:=if_pos hneed;refine⟨Nb.mk H y L d,?_⟩
   and_intros<;>first|exact dg|exact ok.av.1|exact ok.av.2|exact ok.room|exact ok.size|(simp only[bR];omega)|skip
   intro b hpost;refine⟨(b.H,b.y),?_⟩;simp only[e1,e2]
   and_intros<;>first|exact dg|exact hpost.1|exact hpost.2|rfl
  ·simp only[dc,List.getD_cons_succ,List.getD_cons_zero,b1]at c4;have hneed:rT L body.length=false:=by
    have:=of_decide_eq_false c4;rw[rT,Bool.or_eq_false_iff];exact⟨decide_eq_false (by omega),decide_eq_false (show ¬370<(kJ L).buf.length+body.length by unfold kJ;omega)⟩
   have e1:dr L body.length=L:=if_neg (by rw[hneed];decide);have e2:lz L d body.length=d:=if_neg (by rw[hneed];decide);refine⟨(H,y),?_⟩;simp only[e1,e2]
   and_intros<;>first|exact dg|exact hl|exact fun _ _ h=>⟨rfl,h⟩|exact fun _ _ h=>⟨trivial,h⟩|rfl
 ·rintro⟨X,Y⟩ ⟨hX,hfr⟩;dsimp only at hX hfr ⊢;have h1:=Le (n:=body.length) ok hb2;have eA:mK L body=Lb (dr L body.length) body:=rfl;have eD:oT L d body=if(dr L body.length).fresh then gR (rU (dr L body.length) (lz L d body.length) body)else rU (dr L body.length) (lz L d body.length) body:=rfl;rw[eA,eD];obtain⟨L1,hL1⟩:∃L1,L1=dr L body.length:=⟨_,rfl⟩
  obtain⟨d1,hd1⟩:∃d1,d1=lz L d body.length:=⟨_,rfl⟩
  rw[<- hL1]at hX;rw[<- hL1,<- hd1]at h1 ⊢;have hp:=h1.pos;have hk:L1.l.length-1<L1.l.length:=by omega
  obtain⟨k1,_,⟨ka,kc,k2⟩,k3,_⟩:=hX.sA;obtain⟨b,lo,o,c,cs,g1,g2,g3,g4⟩:=hX.at_ hk;have hs:=hX.aaC hk;obtain⟨sl,hsl⟩:∃sl,sl=gl Y.ys (L1.l.length-1):=⟨_,rfl⟩
  have hlg:kJ L1=gl L1.l (L1.l.length-1):=rfl;obtain⟨g,hg⟩:∃g,g=kJ L1:=⟨_,rfl⟩
  rw[<- hlg,<- hg,<- hsl]at hs;rw[<- hsl]at g3 g4;rw[<- hg];have hlast:=h1.last;rw[<- hg]at hlast;have hgen:=h1.gen _ hk;rw[<- hlg,<- hg]at hgen;obtain⟨b1,b2,b3,b4,⟨ba,bc,b5⟩,b6⟩:=hs.at_.buf.len;have e5:((L1.l.length:Int)-1).toNat=L1.l.length-1:=by omega
  rw[k1];have hfew:=h1.zG;refine⟨⟨ka,_,kc,k2,k3⟩,by simp only[bR];omega,_,_,_,_,g1,by omega,b,lo,o+(L1.l.length-1)*1,cs,by rw[e5,Nat.add_assoc],g2,⟨⟨_,g3,rfl⟩,trivial⟩,?_⟩
  repeat refine lT ?_
  intro _
  repeat refine lT ?_
  refine⟨_,_,g4,?_⟩;refine⟨_,_,rfl,?_⟩;refine⟨_,0,_,_,rfl,hs.at_.cell,?_⟩;refine⟨⟨⟨_,rfl,b6⟩,trivial⟩,⟨ba,_,bc,b5,b3⟩,?_⟩;refine⟨_,_,g4,?_⟩;refine⟨_,_,rfl,?_⟩;refine⟨_,0,_,_,rfl,hs.at_.cell,?_⟩;refine⟨⟨⟨_,rfl,b6⟩,trivial⟩,?_⟩
  repeat refine lT ?_
  obtain⟨c0,hbuf⟩:=hs.at_.buf;simp only[show(dc g sl.bv sl.rv).getD 3 (Value.tuple #[])=sl.bv from rfl];refine⟨_,c0,_,hbuf,?_⟩
  repeat refine lT ?_
  intro cap1 q1 q2 q3
  repeat refine lT ?_
  intro p1 lo1 cs1 hp1 hl1 hr1;have hA:Step X sl.bv (aO (aM X sl.bv) p1 lo1 cs1) (fC p1 lo1 (g.buf.length+8) cap1):=tn hp1;have hsA:kR (aO (aM X sl.bv) p1 lo1 cs1) (fC p1 lo1 (g.buf.length+8) cap1) [.int .u8] (g.buf.length+8) cap1 (aa cO (g.buf++K9 body.length L1.next)):=by
   refine nE hl1 q1 q2 hr1 fun i hi j hj=>?_;have hj0:j=0:=by simpa using hj
   subst hj0;simp only[Nat.zero_add,bg,aa,cO,List.getD_cons_zero];by_cases hin:i<g.buf.length
   ·rw[if_pos hin,bV hin]
   ·rw[if_neg hin];obtain⟨m,rfl⟩:∃m,i=g.buf.length+m:=⟨i-g.buf.length,by omega⟩
    rw[br,Nat.add_sub_cancel_left];have hm:m<8:=by omega
    match m,hm with
    |0,_=>rfl
    |1,_=>rfl
    |2,_=>rfl
    |3,_=>rfl
    |4,_=>rfl
    |5,_=>rfl
    |6,_=>rfl
    |7,_=>rfl
  refine⟨_,cap1,_,hsA,?_⟩
  repeat refine lT ?_
  intro cap2 q4 q5 q6
  repeat refine lT ?_
  intro p2 lo2 cs2 hp2 hl2 hr2;have hB:Step X sl.bv (aO (aM (aO (aM X sl.bv) p1 lo1 cs1) (fC p1 lo1 (g.buf.length+8) cap1)) p2 lo2 cs2) (fC p2 lo2 (g.buf.length+8+body.length) cap2):=hA.trans (tn hp2);have hlb:(sB g L1.next body).length=g.buf.length+8+body.length:=by simp only[sB,List.length_append];rfl
  have hBy:fU (aO (aM (aO (aM X sl.bv) p1 lo1 cs1) (fC p1 lo1 (g.buf.length+8) cap1)) p2 lo2 cs2) (fC p2 lo2 (g.buf.length+8+body.length) cap2) (sB g L1.next body):=by
   refine⟨cap2,?_⟩;rw[hlb];refine nE hl2 q4 q5 hr2 fun i hi j hj=>?_;have hj0:j=0:=by simpa using hj
   subst hj0;simp only[Nat.zero_add,bg,aa,cO,List.getD_cons_zero,sB];have hl8:(g.buf++K9 body.length L1.next).length=g.buf.length+8:=by rw[List.length_append];rfl
   by_cases hin:i<g.buf.length+8
   ·rw[if_pos hin,show gl (g.buf++K9 body.length L1.next++body) i=gl (g.buf++K9 body.length L1.next) i from bV (by rw[hl8];exact hin)]
   ·rw[if_neg hin];obtain⟨m,rfl⟩:∃m,i=g.buf.length+8+m:=⟨i-(g.buf.length+8),by omega⟩
    rw[<- hl8,br,Nat.add_sub_cancel_left]
  obtain⟨hc2,hs3,hf3⟩:=yH hs hB hBy;obtain⟨X2,hX2⟩:∃X2,X2=aO (aM (aO (aM X sl.bv) p1 lo1 cs1) (fC p1 lo1 (g.buf.length+8) cap1)) p2 lo2 cs2:=⟨_,rfl⟩
  rw[<- hX2]at hc2 hs3 hf3 ⊢;refine⟨_,_,g4,?_⟩;refine⟨_,_,rfl,?_⟩;refine⟨_,0,_,_,rfl,hc2,by simp[dc],?_⟩;obtain⟨X3,hX3⟩:∃X3,X3=aO X2 sl.b 0 (dc { g with buf:=sB g L1.next body } (fC p2 lo2 (g.buf.length+8+body.length) cap2) sl.rv):=⟨_,rfl⟩
  have eX3:aO X2 sl.b 0 (List.take 3 (dc g sl.bv sl.rv)++[Value.slice (some ⟨p2,lo2,none⟩) (g.buf.length+8+body.length) cap2]++List.drop (3+[Value.slice (some ⟨p2,lo2,none⟩) (g.buf.length+8+body.length) cap2].length) (dc g sl.bv sl.rv))=X3:=hX3.symm;rw[<- hX3]at hs3 hf3;simp only[eX3];obtain⟨sl3,hsl3⟩:∃s,s={ sl with bv:=fC p2 lo2 (g.buf.length+8+body.length) cap2 }:=⟨_,rfl⟩
  obtain⟨g3',hg3⟩:∃s:dJ,s={ g with buf:=sB g L1.next body }:=⟨_,rfl⟩
  have hsw:La g L.next body=g3':=by rw[hg3,<- h1.next];rfl
  have hb3:g3'.buf.length=g.buf.length+8+body.length:=by rw[hg3];exact hlb
  have hgen3:g3'.gen=g.gen:=by rw[hg3]
  have hv2:sl3.bv=fC p2 lo2 (g.buf.length+8+body.length) cap2:=by rw[hsl3]
  have hb3s:sl3.b=sl.b:=by rw[hsl3]
  rw[<- hsl3,<- hg3]at hs3;rw[<- hsl3]at hf3;have hcell3:=hs3.at_.cell;have hwn:=uo L1 g3' g.buf.length d1;have hsegs:=ok.av;have hroom:=ok.room;have hsize:=ok.size;have q1n:=h1.dn;have q1c:=h1.calls;have q1f:=h1.from_;have q1s:=h1.av;rw[hsw];refine⟨⟨0,?_⟩,fun i hi=>⟨fun c5=>?_,fun c5=>?_⟩⟩
  ·and_intros<;>first|exact dg|rfl|exact Nat.le_refl _|exact ak.refl _ _ _
  ·have hi8:i<8:=by have:=of_decide_eq_true c5;omega
   have em:(bif true then max 0 (((i:Int)+1)*48-6)else min 0 (((i:Int)+1)*48-6))=(cw (i+1):Nat):=by simp only[cond_true,cw];omega
   have em2:(bif true then max 0 ((i:Int)*48-6)else min 0 ((i:Int)*48-6))=(cw i:Nat):=by simp only[cond_true,cw];omega
   simp only[show(dc g sl.bv sl.rv).getD 3 (Value.tuple #[])=sl.bv from rfl,b1,em,em2];have hw1:=hwn i
   repeat refine lT ?_
   refine⟨fun c6=>?_,fun c6=>?_⟩
   ·have c6:g.buf.length<cw (i+1):=by have:=of_decide_eq_true c6;omega
    refine⟨_,_,g4,?_⟩;refine⟨_,_,rfl,?_⟩;refine⟨_,0,_,_,rfl,by rw[<- hb3s];exact hcell3,?_⟩;refine⟨⟨⟨_,rfl,by rw[hv2];rfl⟩,trivial⟩,⟨_,_,_,hv2,Nat.le_trans q4 q5⟩,?_⟩;simp only[hv2,dc,List.getD_cons_succ,List.getD_cons_zero,QC]
    repeat refine lT ?_
    refine⟨fun c7=>?_,fun c7=>?_⟩
    ·have c7:cw i<g.buf.length+8+body.length:=by have:=of_decide_eq_true c7;omega
     have hcond:dw L1 g3' g.buf.length d1 (i+1)=gQ (dw L1 g3' g.buf.length d1 i) (kH L1 g3' i) 64 (qs g3' i L1.run):=by
      have:u0 g.buf.length g3'.buf.length i=true:=by simp only[u0,Bool.and_eq_true,decide_eq_true_eq];omega
      simp only[dw,this,if_true]
     refine⟨ug.mk X3 sl3 g3' i L1 Y.lv (dw L1 g3' g.buf.length d1 i),?_⟩
     and_intros<;>first|exact dg|exact hs3.at_|(rw[hb3s];exact g4)|exact ak.refl _ _ _|(dsimp only;omega)|skip
     intro _ _;refine⟨by simp only[bR];omega,i+1,?_⟩;rw[hcond]
     and_intros<;>first|exact dg|exact ak.refl _ _ _|(simp only[gQ];omega)|skip
    ·have c7:¬cw i<g.buf.length+8+body.length:=by have:=of_decide_eq_false c7;omega
     have hcond:dw L1 g3' g.buf.length d1 (i+1)=dw L1 g3' g.buf.length d1 i:=by
      have:u0 g.buf.length g3'.buf.length i=false:=by simp only[u0,Bool.and_eq_false_iff,decide_eq_false_iff_not];omega
      simp only[dw,this];rfl
     refine⟨by simp only[bR];omega,i+1,?_⟩;rw[hcond]
     and_intros<;>first|exact dg|exact ak.refl _ _ _|skip
   ·have c6:¬g.buf.length<cw (i+1):=by have:=of_decide_eq_false c6;omega
    have hcond:dw L1 g3' g.buf.length d1 (i+1)=dw L1 g3' g.buf.length d1 i:=by
     have:u0 g.buf.length g3'.buf.length i=false:=by simp only[u0,Bool.and_eq_false_iff,decide_eq_false_iff_not];omega
     simp only[dw,this];rfl
    refine⟨by simp only[bR];omega,i+1,?_⟩;rw[hcond]
    and_intros<;>first|exact dg|exact ak.refl _ _ _|skip
  ·have hi8:i=8:=by have:=of_decide_eq_false c5;omega
   subst hi8;have eD2:rU L1 d1 body=dw L1 g3' g.buf.length d1 8:=by
    have:La (kJ L1) L1.next body=g3':=by rw[h1.next,<- hg];exact hsw
    unfold rU;rw[this,<- hg]
   refine⟨_,_,g4,?_⟩;refine⟨_,_,rfl,?_⟩;refine⟨_,0,_,_,rfl,by rw[<- hb3s];exact hcell3,?_⟩;obtain⟨c9,hrec⟩:=hs3.at_.aV;obtain⟨m1,m2,m3,m4,m5,_,m6⟩:=fH hrec;refine⟨⟨⟨_,rfl,m6⟩,trivial⟩,fun _ b11 hb11=>⟨fun e=>absurd (hb11 e) (by omega),fun _=>?_⟩⟩;simp only[show(dc g3' sl3.bv sl3.rv).getD 4 (Value.tuple #[])=sl3.rv from rfl,Nat.zero_add]
   repeat refine lT ?_
   intro cap3 u1 u2 u3
   repeat refine lT ?_
   intro p3 lo3 cs3 hp3 hl3 hr3;have hC:Step X3 (.slice none 0 0) (aO X3 p3 lo3 cs3) (fC p3 lo3 body.length cap3):=Lc hp3;have hCb:fU (aO X3 p3 lo3 cs3) (fC p3 lo3 body.length cap3) body:=by
    refine⟨cap3,nE hl3 u1 u2 hr3 fun i hi j hj=>?_⟩;have hj0:j=0:=by simpa using hj
    subst hj0;simp only[bg,Nat.not_lt_zero,if_false,Nat.sub_zero]
   have hx3:∀x,X3 x≠none->x≠p3:=fun x hx e=>hx (by rw[e];exact hp3);have hrec4:kR (aO X3 p3 lo3 cs3) sl3.rv tj g3'.aV.length c9 (vP g3'.aV sl3.vs):=jg hrec fun x hx=>cN (hx3 x (nw hrec x hx));refine⟨_,c9,_,hrec4,?_⟩;have hrc:=h1.aV _ hk;have hbc:=h1.buf _ hk;rw[<- hlg,<- hg]at hrc hbc;have hmr:g3'.aV.length=g.aV.length:=by rw[hg3]
   repeat refine lT ?_
   intro cap4 w1 w2 w3
   repeat refine lT ?_
   intro p4 lo4 cs4 hp4 hl4 hr4;have hD:Step (aO X3 p3 lo3 cs3) sl3.rv (aO (aM (aO X3 p3 lo3 cs3) sl3.rv) p4 lo4 cs4) (fC p4 lo4 (g3'.aV.length+1) cap4):=tn hp4;have hr5:kR (aO (aM (aO X3 p3 lo3 cs3) sl3.rv) p4 lo4 cs4) (fC p4 lo4 (g3'.aV.length+1) cap4) tj (g3'.aV.length+1) cap4 (vP (g3'.aV++[⟨L1.next,body⟩]) (sl3.vs++[fC p3 lo3 body.length cap3])):=by
    refine nE hl4 w1 w2 hr4 fun i hi j hj=>?_;have hvl:=hs3.at_.len;simp only[bg,vP,Nat.zero_add];by_cases hin:i<g3'.aV.length
    ·rw[if_pos hin,bV hin];by_cases hj0:j=0
     ·rw[if_pos hj0,if_pos hj0]
     ·rw[if_neg hj0,if_neg hj0,List.getD_eq_getElem?_getD,List.getD_eq_getElem?_getD,List.getElem?_append_left (by omega)]
    ·rw[if_neg hin];obtain rfl:i=g3'.aV.length:=by omega
     rw[Nat.sub_self];have hj2:j<2:=hj
     match j,hj2 with
     |0,_=>rw[if_pos rfl,show g3'.aV.length=g3'.aV.length+0 from rfl,br];rfl
     |1,_=>rw[if_neg (by decide),List.getD_eq_getElem?_getD,List.getElem?_append_right (by omega),hvl,Nat.sub_self];rfl
   obtain⟨hcell4,hcell5,hnd6,hfr6⟩:=BN (r:=⟨L1.next,body⟩) hs3 hC hCb hD (fun x hx=>by
    simp only[fW,fC,List.mem_singleton]at hx;rw[hx,dP];simp) ⟨cap4,hr5⟩
   have hset:=hX.set hk (sl:=⟨sl3.b,sl3.bv,fC p4 lo4 (g3'.aV.length+1) cap4,sl3.vs++[fC p3 lo3 body.length cap3]⟩) (g:={ g3' with aV:=g3'.aV++[⟨L1.next,body⟩] }) (by rw[<- hsl];exact hb3s) hnd6 (by rw[<- hsl];exact hf3.trans hfr6);have hAll:=hset.1.congr (L':=Lb L1 body) (by
    simp only[Lb,PE];rw[<- hg,hg3];rfl)
   have hFr:∀z,H z≠none->z∉bB y->aO (aO (aM (aO X3 p3 lo3 cs3) sl3.rv) p4 lo4 cs4) sl3.b 0 (dc { g3' with aV:=g3'.aV++[⟨L1.next,body⟩] } sl3.bv (fC p4 lo4 (g3'.aV.length+1) cap4)) z=H z/\z∉bB ⟨Y.lv,Y.ys.set (L1.l.length-1) ⟨sl3.b,sl3.bv,fC p4 lo4 (g3'.aV.length+1) cap4,sl3.vs++[fC p3 lo3 body.length cap3]⟩⟩:=fun z hz hn=>by
    obtain⟨f1,f2⟩:=hfr z hz hn;obtain⟨f3,f4⟩:=hset.2 z (by rw[f1];exact hz) f2;exact⟨f3.trans f1,f4⟩
   obtain⟨X6,hX6⟩:∃X6,X6=aO (aO (aM (aO X3 p3 lo3 cs3) sl3.rv) p4 lo4 cs4) sl3.b 0 (dc { g3' with aV:=g3'.aV++[⟨L1.next,body⟩] } sl3.bv (fC p4 lo4 (g3'.aV.length+1) cap4)):=⟨_,rfl⟩
   rw[<- hX6]at hAll;simp only[<- hX6]at hFr;refine⟨_,_,g4,?_⟩;refine⟨_,_,rfl,?_⟩;refine⟨_,0,_,_,rfl,by rw[<- hb3s];exact hcell5,by simp[dc],fun _=>?_⟩;have q1x:=h1.next
   have eDn:(rU L1 d1 body).n=d.n/\(rU L1 d1 body).calls<=d.calls+10:=by rw[eD2];have:=hwn 8;omega
   rw[eD2]at eDn;refine⟨by simp only[bR];omega,fun hfre _=>⟨by simp only[bR];omega,dw L1 g3' g.buf.length d1 8,?_⟩,fun hfre _=>⟨by simp only[bR];omega,?_⟩⟩
   ·and_intros<;>first|exact dg|exact ak.refl _ _ _|skip
    intro _ _;rw[hfre,if_pos rfl,eD2];refine⟨⟨X6,⟨Y.lv,Y.ys.set (L1.l.length-1) ⟨sl3.b,sl3.bv,fC p4 lo4 (g3'.aV.length+1) cap4,sl3.vs++[fC p3 lo3 body.length cap3]⟩⟩⟩,?_⟩
    and_intros<;>first|exact dg|exact hAll|exact hFr|(rw[hX6,hb3s];rfl)|exact Nat.le_refl _|exact ak.refl _ _ _|rfl|skip
   ·rw[hfre,if_neg (by decide),eD2];refine⟨⟨X6,⟨Y.lv,Y.ys.set (L1.l.length-1) ⟨sl3.b,sl3.bv,fC p4 lo4 (g3'.aV.length+1) cap4,sl3.vs++[fC p3 lo3 body.length cap3]⟩⟩⟩,?_⟩
    and_intros<;>first|exact dg|exact hAll|exact hFr|(rw[hX6,hb3s];rfl)|exact Nat.le_refl _|exact ak.refl _ _ _|rfl|skip)
theorem DS:au (Y Tryz.prog).G.X 162 CI:=aU fF Nl ⟨Re,Ga,ja,trivial⟩
structure nF(rs:List RecM):Prop where
 lt:∀i j,i<j->j<rs.length->(gl rs i).pos<(gl rs j).pos
 Cj:∀i,i<rs.length->0<=(gl rs i).pos/\(gl rs i).pos<1000000000000
theorem vW{H:PH}{v:Value}{rs:List RecM}{vs:List Value}{n c:Nat}(h:kR H v tj n c (vP rs vs)){k:Nat}(hk:k<n):∃b lo o cs,v=fC b (lo+o) n c/\H b=some (lo,cs)/\cs[o+k*2]? = some (.int .i64 (gl rs k).pos)/\cs[o+k*2+1]? = some (vs.getD k undef) /\
 (vs.getD k undef).oneCell'=true/\bR .i64 (gl rs k).pos/\cs.getD (o+k*2) (Value.tuple #[]) = .int .i64 (gl rs k).pos/\cs.getD (o+k*2+1) (Value.tuple #[])=vs.getD k undef:=by
 rcases h with⟨_,h0,_⟩ | ⟨b,lo,o,cs,h1,h2,h3,h4,h5⟩
 ·omega
 ·obtain⟨g1,g2⟩:=h5.at_ k hk 0 (.int .i64) rfl;obtain⟨g3,g4⟩:=h5.at_ k hk 1 .deep rfl;have g1:cs[o+k*2]? = some (.int .i64 (gl rs k).pos):=g1;have g3:cs[o+k*2+1]? = some (vs.getD k undef):=g3;obtain⟨m,hm,hr⟩:=g2;have hr:bR .i64 (gl rs k).pos:=by
   have:(Value.int .i64 (gl rs k).pos) = .int .i64 m:=hm;injection this with _ e
   rw[e];exact hr
  exact⟨b,lo,o,cs,h1,h3,g1,g3,g4,hr,by rw[List.getD_eq_getElem?_getD,g1];rfl,by rw[List.getD_eq_getElem?_getD,g3];rfl⟩
structure Ij where
 H:PH
 rv:Value
 rs:List RecM
 vs:List Value
 p:Int
noncomputable def ZF:cG where
 α:=Ij
 β:=Nat
 m:=1
 m':=1
 pre:=fun a=>(∃c,kR a.H a.rv tj a.rs.length c (vP a.rs a.vs))/\a.rs.length<=400/\nF a.rs/\0<=a.p/\a.p<1000000000000
 args:=fun a=>[.a (.val a.rv),.a (.int .i64 a.p),.a (.fn 238)]
 hp:=fun _=>[]
 ro:=fun a=>[(0,.cI a.H)]
 post:=fun a n=>n<=a.rs.length/\(∀k,k<n->(gl a.rs k).pos<a.p)/\∀k,n<=k->k<a.rs.length->a.p<=(gl a.rs k).pos
 res:=fun a n=>.ng [.a (.int .i64 n),.a (.bool (decide (n<a.rs.length)&&decide ((gl a.rs n).pos=a.p)))]
 cR:=fun _ _=>[]
def abA(a:Ij):An:=.flat 3 (Nat×Nat) (fun s x=>(s.int 9 x.1).int 10 x.2) (fun _ x=>x.1<=x.2/\x.2<=a.rs.length/\(∀k,k<x.1->(gl a.rs k).pos<a.p)/\∀k,x.2<=k->k<a.rs.length->a.p<=(gl a.rs k).pos) (fun _ x=>x.2-x.1)
def yK(z:Nat)(x:Ij)(u:Nat):=z<=x.rs.length/\(∀y:Nat,y<u->(gl x.rs y).pos<x.p)/\∀y:Nat,z<=y->y<x.rs.length->x.p<=(gl x.rs y).pos
def vX(u:Nat)(v:Value)(w:Nat->Option (Nat×List Value))(s:Nat->List Value->Prop)(t:Prop):=qg u v 2 (fun x=>w x) (fun x=>jP x) (fun x y=>(∃z:Value,y[x+1]? = some z/\ey z)/\True) (fun x y=>s x y) t
def AQ(x:Nat×Nat):Int:=pM (cD (af x.fst+af x.snd)/(2:Int))
def Ik(x:Ij):=(∃y:Nat,kR x.H x.rv (CK.int .i64::ji CK.deep) x.rs.length y (vP x.rs x.vs))/\x.rs.length<=400/\nF x.rs/\bf x.p 1000000000000
def Il(x:Ij)(y:Nat×Nat)(z:Prop):=aP (di x.rv) (bI (aI (cH x.rv/\ay x.p/\x.H=x.H/\(y.fst<=y.snd/\yK y.snd x y.fst)/\z)))
def DT(y:Nat)(x:Ij):Bool:=decide (y<x.rs.length)&&decide ((gl x.rs y).pos=x.p)
theorem XI:fnBody (Y Tryz.prog) [] 237 ZF fun a=>[(237,[abA a],[])]:=fnBody.of (p :=
 ∀y:Ij,Ik y->gD y.rv/\(∃x:Nat×Nat,bC (di y.rv) x.snd/\aT x.fst (Il y x True))/\∀x:Nat×Nat,x.fst<=x.snd/\yK x.snd y x.fst->aD (bM x.fst x.snd) (ai (af x.fst+af x.snd)/\(0:Int)<=1/\Exists (jh y.rv (AQ x) fun v w=>Exists (nC v w (aR (AQ x)*2) (fun u=>y.H u) (fun u=>jP u) (fun u s=>(∃z:Value,s[u+1]? = some z/\ey z)/\True) fun u s=>mL (jW (aW s u)) y.p (aX (sw (jW (aW s u)-y.p) (-1:Int) 1) 0 (ai (AQ x+(1:Int))/\∃z:Nat×Nat,bC x.snd z.snd/\AQ x+(1:Int)=af z.fst/\Il y z (z.snd-z.fst<x.snd-x.fst)) (∃z:Nat×Nat,AQ x=af z.snd/\bC x.fst z.fst/\Il y z (z.snd-z.fst<x.snd-x.fst)))))) (vX x.fst y.rv (fun v=>y.H v) (fun v w=>mL (jW (aW w v)) y.p (∃u:Nat,bC x.fst u/\(sw (jW (aW w v)-y.p) (-1:Int) 1 == (0:Int))=DT u y/\yK u y u/\True)) (∃v:Nat,bC x.fst v/\fV (DT v y) (yK v y v) True))) (by kernel_rfl) (by
 delta aD aW ai ay ax bn qf aK af nC bf aC aR dW cH fV gD qg bI ey aP yK cD aI jh bM aT mL vX aX AQ Ik Il ji DT sw bC jP pM
 try dsimp -iota -proj only
 rintro⟨H,rv,rs,vs,p⟩ ⟨⟨c,hs⟩,h1,⟨h2,h2'⟩,h3,h4⟩;dsimp only at *;obtain⟨e1,_,_,e4,_,⟨ea,e2⟩,_⟩:=fH hs;refine⟨⟨ea,_,_,e2,by omega⟩,⟨(0,rs.length),?_⟩,fun x hx=>?_⟩
 ·rw[e1]
  (repeat' (first|apply And.intro|(intro _)))<;>first|exact dg|(exfalso;dsimp only at *;omega)
 ·obtain⟨i,j⟩:=x;obtain⟨x1,x2,x3,x4⟩:=hx;dsimp only at *;have hmid:uw .i64 (uw .u64 ((i:Int)+j)/2)=(((i+j)/2:Nat):Int):=by
   have e1:uw .u64 ((i:Int)+j)=(i:Int)+j:=by simp only[uw];omega
   rw[e1];have e2:((i:Int)+j)/2=(((i+j)/2:Nat):Int):=by omega
   rw[e2];exact fM (k:=.i64) (by simp only[bR];omega)
  refine⟨fun c1=>?_,fun c1=>?_⟩
  ·have c1:i<j:=by have:=of_decide_eq_true c1;omega
   obtain⟨m,hm⟩:∃m,m=(i+j)/2:=⟨_,rfl⟩
   rw[hmid,<- hm];have hmi:i<=m/\m<j:=by omega
   obtain⟨b,lo,o,cs,g1,g2,g3,g4,g5,g6,g7,g8⟩:=vW hs (k:=m) (by omega);have hr:=h2' m (by omega);refine⟨by simp only[bR];omega,by omega,_,_,_,_,g1,by omega,b,lo,o+m*2,cs,by rw[Int.toNat_natCast,Nat.add_assoc],g2,⟨⟨_,g3,_,rfl,g6⟩,⟨_,g4,g5⟩,trivial⟩,fun _=>?_⟩;rw[g7];simp only[jW,cond_true,cond_false];refine⟨by simp only[bR];omega,fun c2=>⟨by simp only[bR];omega,(m+1,j),?_⟩,fun c2=>⟨(i,m),?_⟩⟩
   ·have c2:=of_decide_eq_true c2;have hlt:(gl rs m).pos<p:=by omega
    (repeat' (first|apply And.intro|(intro _)))<;>first|exact dg|skip
    ·rename_i k hk;by_cases hkm:k=m
     ·rw[hkm];exact hlt
     ·have:=h2 k m (by dsimp only at hk;omega) (by omega);omega
    ·rename_i k hk1 hk2;exact x4 k hk1 hk2
   ·have c2:=of_decide_eq_false c2;have hge:p<=(gl rs m).pos:=by omega
    (repeat' (first|apply And.intro|(intro _)))<;>first|exact dg|skip
    ·rename_i k hk;exact x3 k hk
    ·rename_i k hk1 hk2;by_cases hkm:k=m
     ·rw[hkm];exact hge
     ·have:=h2 m k (by dsimp only at hk1;omega) hk2;omega
  ·have c1:i=j:=by have:=of_decide_eq_false c1;omega
   subst c1;rw[e1];refine⟨fun c2=>?_,fun c2=>⟨i,?_⟩⟩
   ·have c2:i<rs.length:=by have:=of_decide_eq_true c2;omega
    obtain⟨b,lo,o,cs,g1,g2,g3,g4,g5,g6,g7,g8⟩:=vW hs (k:=i) c2;have hr:=h2' i c2;refine⟨_,_,_,_,g1,by omega,b,lo,o+i*2,cs,by rw[Int.toNat_natCast,Nat.add_assoc],g2,⟨⟨_,g3,_,rfl,g6⟩,⟨_,g4,g5⟩,trivial⟩,fun _=>?_⟩;rw[g7];simp only[jW,cond_true,cond_false];refine⟨by simp only[bR];omega,i,?_⟩;have hb:(min (max ((gl rs i).pos-p) (-1)) 1 == 0)=(decide (i<rs.length)&&decide ((gl rs i).pos=p)):=by
     rw[Bool.eq_iff_iff];simp only[beq_iff_eq,Bool.and_eq_true,decide_eq_true_eq];omega
    (repeat' (first|apply And.intro|(intro _)))<;>first|exact dg|exact hb|(rename_i k hk;exact x3 k hk)|(rename_i k hk1 hk2;exact x4 k hk1 hk2)
   ·have c2:¬i<rs.length:=by have:=of_decide_eq_false c2;omega
    have hb:false=(decide (i<rs.length)&&decide ((gl rs i).pos=p)):=by simp[c2]
    (repeat' (first|apply And.intro|(intro _)))<;>first|exact dg|exact hb|(rename_i k hk;exact x3 k hk)|(rename_i k hk1 hk2;exact x4 k hk1 hk2))
theorem XJ:au (Y Tryz.prog).G.X 237 ZF:=aU fF XI trivial
def xQ(rs:List RecM)(p:Int):Option (List Int):=(rs.find? fun r=>decide (r.pos=p)).map (·.body)
def gL(l:List dJ)(p:Int):Option (List Int):=l.findSome? fun g=>xQ g.aV p
def BP(o:Option (List Int)):Int:=match o with|some _=>0|none=>9
theorem PF{α:Type}[Inhabited α]{l:List α}{k:Nat}(h:k<l.length):l.drop k=gl l k::l.drop (k+1):=by
 rw[bL h];exact List.drop_eq_getElem_cons h
theorem PG{α:Type}[Inhabited α]{q:α->Bool}:∀ {l:List α} {n:Nat},n<l.length->q (gl l n)=true->(∀k,k<n->q (gl l k)=false)->l.find? q=some (gl l n)
 |[],n,h,_,_=>by simp at h
 |x::l,0,_,h,_=>by
  have h:q x=true:=h;simp[List.find?_cons,h,gl]
 |x::l,n+1,hn,h,hk=>by
  have h0:q x=false:=hk 0 (by omega);have e:∀m,gl (x::l) (m+1)=gl l m:=fun m=>by simp[gl]
  rw[e]at h ⊢;rw[List.find?_cons,h0];exact PG (by simpa using hn) h fun k hkn=>by have:=hk (k+1) (by omega);rwa[e]at this
theorem XK{α:Type}[Inhabited α]{q:α->Bool}{l:List α}(h:∀k,k<l.length->q (gl l k)=false):l.find? q=none:=by
 rw[List.find?_eq_none];intro x hx;obtain⟨i,hi,rfl⟩:=List.getElem_of_mem hx;have:=h i hi;rw[bL hi]at this;simp[this]
structure Lh where
 H:PH
 y:iL
 L:b8
 p:Int
noncomputable def Nn:cG where
 α:=Lh
 β:=Nat
 m:=3
 m':=4
 pre:=fun a=>ct a.H a.y a.L/\a.L.l.length<1000/\0<=a.p/\a.p<1000000000000/\∀i,i<a.L.l.length->nF (gl a.L.l i).aV/\(gl a.L.l i).aV.length<=400/\∀k,k<(gl a.L.l i).aV.length->1<=(gl (gl a.L.l i).aV k).body.length/\(gl (gl a.L.l i).aV k).body.length<=1000
 args:=fun a=>[.a (.ptr 0 0 0 0),.a (.int .i64 a.p)]
 hp:=fun _=>[]
 ro:=fun a=>[(0,gu 2 a.L a.y.lv),(1,.cI a.H)]
 post:=fun a c=>((gL a.L.l a.p).getD []).length<=c
 res:=fun a c=>.ng [.a (.slc 3 0 1 ((gL a.L.l a.p).getD []).length c),.a (.int .i64 (BP (gL a.L.l a.p)))]
 cR:=fun a c=>jO 3 ((gL a.L.l a.p).getD [])
def ZG(a:Lh):An:=.flat 4 Nat (fun s k=>s.int 17 k) (fun _ k=>k<=a.L.l.length/\gL (a.L.l.drop k) a.p=gL a.L.l a.p) (fun _ k=>a.L.l.length-k)
def fc(x y:Prop):=ag (x/\ag y)
def oo(x:b8)(y:Nat):Nat:=(gl x.l y).aV.length
def yL(x:b8)(y:Nat):=oo x y<=400/\∀z:Nat,z<oo x y->iB (gl (gl x.l y).aV z).body 1000
def uv(x:Lh):List Int:=(gL x.L.l x.p).getD []
def kA(x:Value)(y:Prop):=aP (di x) (cH x/\y)
def Im(x:Lh):=bK x.L<1000/\(0:Int)<=x.p/\x.p<(1000000000000:Int)/\∀y:Nat,y<bK x.L->nF (gl x.L.l y).aV/\yL x.L y
def Io(y:Nat)(x:Lh):=gL (List.drop y x.L.l) x.p=gL x.L.l x.p
def DU(x:Value)(v:Prop)(w:PH)(s:Nat->(Nat->Nat->Value)->Prop):=(∃y:Option Go.Addr,∃u z:Nat,x=Value.slice y u z)/\aD (Fp x) v (0<=0/\Exists (kz w x (CK.int .u8) [] fun y u z=>s y z))
theorem Rf:fnBody (Y Tryz.prog) [(237,ZF)] 213 Nn fun a=>[(213,[ZG a],[])]:=fnBody.of (p :=
 ∀x:Lh,ct x.H x.y x.L/\Im x->gD x.y.lv/\cm (fun z=>kA x.y.lv (bI (aI (fc (ay x.p) (gK x.L x.y (x.H=x.H/\(z<=bK x.L/\Io z x)/\True)))))) fun z=>z<=bK x.L/\Io z x->qg z x.y.lv 1 (fun v=>x.H v) (fun v=>ey v) (fun v g=>True) (fun v g=>ig (aW g v) 4 (fun t=>x.H t) (fun t=>ey t) fun t n=>∃w:Ij,aW n t=w.rv/\x.p=w.p/\x.H=w.H/\Ik w/\∀f:Nat,yK f w f->aD (DT f w) (ig (aW g v) 4 (fun u=>x.H u) (fun u=>ey u) fun u o=>Exists (jh (aW o u) (af f) fun q r=>∃h i:Nat,pv q (r+ax f*2)=pv h i/\Exists (nC h i 1 (fun s=>x.H s) (fun s=>ey s) (fun s j=>True) fun s j=>DU (aW j s) (Exists (DC (ah (uv x)) 0 (BP (gL x.L.l x.p)))) x.H fun k c=>gC 0 k 1 0 fun d=>∃m:Nat,eH (0+k) (ah (uv x)) d m ((0:Int)=BP (gL x.L.l x.p)) 1 (vJ c) (aa cO (uv x)) (ah (uv x)<=m/\True)))) (bH z fun u=>kA x.y.lv (bI (aI (fc (ay x.p) (gK x.L x.y (x.H=x.H/\dD u (bK x.L) (Io u x) z))))))) (Exists (DC (ah (uv x)) 9 (BP (gL x.L.l x.p))))) (by kernel_rfl) (by
 delta aD aW ah ig ai aG ay ax bn gC aK aY af kY nC bf aC aR cH fc gD eH dD qg bI ey aP bK bH yK yL gK aI kz jh uv bM aT ag kA Ik iB aQ ji DT Im oo DC Io cm DU vJ
 try dsimp -iota -proj only
 rintro⟨H,y,L,p⟩ ⟨hl,h1,h2,h3,h4⟩;dsimp only at *;obtain⟨e1,_,⟨ea,ec,e2⟩,e3,_⟩:=hl.sA;refine⟨⟨ea,_,ec,e2,e3⟩,⟨0,?_⟩,fun k hk=>?_⟩
 ·and_intros<;>first|exact dg|rfl
 ·obtain⟨hk1,hk2⟩:=hk;rw[e1];refine⟨fun c1=>?_,fun c1=>⟨0,?_⟩⟩
  ·have hk:k<L.l.length:=by have:=of_decide_eq_true c1;omega
   obtain⟨b,lo,o,c,cs,g1,g2,g3,g4⟩:=hl.at_ hk;have hs:=hl.seg k hk;obtain⟨hso,hrl,hbl⟩:=h4 k hk;obtain⟨c9,hrec⟩:=hs.aV;obtain⟨m1,m2,m3,m4,m5,⟨ma,m7⟩,m6⟩:=fH hrec;rw[PF hk]at hk2;simp only[gL,List.findSome?_cons]at hk2;refine⟨_,_,_,_,g1,by omega,b,lo,o+k*1,cs,by rw[Int.toNat_natCast,Nat.add_assoc],g2,⟨⟨_,g3,rfl⟩,trivial⟩,?_⟩;refine⟨_,_,g4,?_⟩;refine⟨_,_,rfl,?_⟩;refine⟨_,0,_,_,rfl,hs.cell,?_⟩;refine⟨⟨⟨_,rfl,m6⟩,trivial⟩,Ij.mk H (gl y.ys k).rv (gl L.l k).aV (gl y.ys k).vs p,?_⟩
   and_intros<;>first|exact dg|rfl|exact⟨c9,hrec⟩|exact hso|skip
   rintro n ⟨n1,n2,n3⟩;dsimp only at n1 n2 n3 ⊢;refine⟨fun c2=>?_,fun c2=>⟨by simp only[bR];omega,k+1,?_⟩⟩
   ·simp only[Bool.and_eq_true,decide_eq_true_eq]at c2;obtain⟨c2,c3⟩:=c2;have hfind:xQ (gl L.l k).aV p=some (gl (gl L.l k).aV n).body:=by
     unfold xQ;rw[PG (q:=fun(r:RecM)=>decide (r.pos=p)) c2 (by simp[c3]) fun q hq=>by have:=n2 q hq;simp;omega];rfl
    have hread:gL L.l p=some (gl (gl L.l k).aV n).body:=by
     rw[hfind]at hk2;simp only[gL];exact hk2.symm
    rw[hread];obtain⟨b',lo',o',cs',q1,q2,q3,q4,q5,q6,q7,q8⟩:=vW hrec (k:=n) c2;obtain⟨cb,hbody⟩:=hs.body n c2;obtain⟨w1,w2,w3,w4,w5,⟨wa,w7⟩,w6⟩:=fH hbody;obtain⟨hb1,hb2⟩:=hbl n c2;refine⟨_,_,g4,?_⟩;refine⟨_,_,rfl,?_⟩;refine⟨_,0,_,_,rfl,hs.cell,?_⟩;refine⟨⟨⟨_,rfl,m6⟩,trivial⟩,_,_,_,_,q1,by omega,_,_,rfl,b',lo',o'+n*2+1,cs',by rw[Int.toNat_natCast];congr 1;omega,q2,⟨⟨_,q4,q5⟩,trivial⟩,?_⟩;rw[q8];have hnil:Fp ((gl y.ys k).vs.getD n undef)=false:=by
     rcases hbody with⟨_,h0,_⟩ | ⟨b9,lo9,o9,cs9,h9,_⟩
     ·omega
     ·rw[h9];rfl
    refine⟨⟨wa,_,_,w7⟩,fun c4=>absurd c4 (by rw[hnil];decide),fun _=>?_⟩
    repeat refine lT ?_
    refine⟨_,cb,_,hbody,?_⟩
    repeat refine lT ?_
    intro cap u1 u2 u3;refine⟨cap,?_⟩;have hrw:ak (gl (gl L.l k).aV n).body.length 1 (bg (aF 1 []) 0 0 (aa cO (gl (gl L.l k).aV n).body)) (aa cO (gl (gl L.l k).aV n).body):=⟨fun i hi j hj=>by
     simp only[bg,Nat.not_lt_zero,if_false,Nat.sub_zero]⟩
    simp only[Nat.zero_add,Option.getD_some,BP]
    and_intros<;>first|exact dg|exact hrw
   ·have hnone:xQ (gl L.l k).aV p=none:=by
     unfold xQ;rw[XK (q:=fun(r:RecM)=>decide (r.pos=p)) fun q hq=>?_]
     ·rfl
     ·simp only[decide_eq_false_iff_not];intro e;rcases Nat.lt_or_ge q n with hqn|hqn
      ·have:=n2 q hqn;omega
      ·by_cases hqe:q=n
       ·subst hqe;simp[hq,e]at c2
       ·have:=hso.lt n q (by omega) hq;have:=n3 n (Nat.le_refl _) (by omega);omega
    rw[hnone]at hk2
    and_intros<;>first|exact dg|exact hk2
  ·have hkn:k=L.l.length:=by have:=of_decide_eq_false c1;omega
   subst hkn;rw[List.drop_length]at hk2;have:gL L.l p=none:=hk2.symm;rw[this]
   and_intros<;>first|exact dg|rfl)
def jx(l:List dJ)(next:Int):Int:=match l.find? (fun g=>decide (0<g.aV.length))with|some g=>(gl g.aV 0).pos|none=>next
structure Fz where
 H:PH
 y:iL
 L:b8
noncomputable def DV:cG where
 α:=Fz
 β:=Unit
 m:=3
 m':=3
 pre:=fun a=>ct a.H a.y a.L/\a.L.l.length<1000
 args:=fun a=>[.a (.ptr 0 0 0 0)]
 hp:=fun _=>[]
 ro:=fun a=>[(0,gu 2 a.L a.y.lv),(1,.cI a.H)]
 post:=fun _ _=>True
 res:=fun a _=>.a (.int .i64 (jx a.L.l a.L.next))
 cR:=fun _ _=>[]
def ZH(a:Fz):An:=.flat 4 Nat (fun s k=>s.int 12 k) (fun _ k=>k<=a.L.l.length/\jx (a.L.l.drop k) a.L.next=jx a.L.l a.L.next) (fun _ k=>a.L.l.length-k)
def sD(x y:Int):=ai x->bz (x=y)
def Ip(y:Nat)(x:Fz):=jx (List.drop y x.L.l) x.L.next=jx x.L.l x.L.next
theorem Rh:fnBody (Y Tryz.prog) [] 164 DV fun a=>[(164,[ZH a],[])]:=fnBody.of (p :=
 ∀x:Fz,ct x.H x.y x.L/\bK x.L<1000->gD x.y.lv/\cm (fun z=>kA x.y.lv (bI (aI (aA (gK x.L x.y (x.H=x.H/\(z<=bK x.L/\Ip z x)/\True)))))) fun z=>z<=bK x.L/\Ip z x->qg z x.y.lv 1 (fun v=>x.H v) (fun v=>ey v) (fun v s=>True) (fun v s=>nA (aW s v) 4 (fun t=>x.H t) fun t i=>aX 0 (af (di (aW i t))) (ig (aW s v) 4 (fun u=>x.H u) (fun u=>ey u) fun u j=>Exists (jh (aW j u) 0 fun k m=>∃f g:Nat,pv k (m+0)=pv f g/\Exists (nC f g 0 (fun w=>x.H w) (fun w=>jP w) (fun w h=>True) fun w h=>sD (jW (aW h w)) (jx x.L.l x.L.next)))) (bH z fun u=>kA x.y.lv (bI (aI (aA (gK x.L x.y (x.H=x.H/\dD u (bK x.L) (Ip u x) z))))))) (sD x.L.next (jx x.L.l x.L.next))) (by kernel_rfl) (by
 delta aD aW ig ai bF ay ax bn aK aY af kY nC bf aC aR dW cH gD bz dD qg bI ey aP bK bH gK aI jh bM aT az ag kA aX aA sD aQ nA Ip bt jP cm
 try dsimp -iota -proj only
 rintro⟨H,y,L⟩ ⟨hl,h1⟩;dsimp only at *;obtain⟨e1,_,⟨ea,ec,e2⟩,e3,_⟩:=hl.sA;refine⟨⟨ea,_,ec,e2,e3⟩,⟨0,?_⟩,fun k hk=>?_⟩
 ·and_intros<;>first|exact dg|rfl
 ·obtain⟨hk1,hk2⟩:=hk;rw[e1];refine⟨fun c1=>?_,fun c1 _=>⟨(),?_⟩⟩
  ·have hk:k<L.l.length:=by have:=of_decide_eq_true c1;omega
   obtain⟨b,lo,o,c,cs,g1,g2,g3,g4⟩:=hl.at_ hk;have hs:=hl.seg k hk;obtain⟨c9,hrec⟩:=hs.aV;obtain⟨m1,m2,m3,m4,m5,⟨ma,m7⟩,m6⟩:=fH hrec;rw[PF hk]at hk2;simp only[jx,List.find?_cons]at hk2;refine⟨_,_,_,_,g1,by omega,b,lo,o+k*1,cs,by rw[Int.toNat_natCast,Nat.add_assoc],g2,⟨⟨_,g3,rfl⟩,trivial⟩,?_⟩;refine⟨_,_,g4,?_⟩;refine⟨_,_,rfl,?_⟩;refine⟨_,0,_,_,rfl,hs.cell,?_⟩;refine⟨⟨⟨_,rfl,m6⟩,trivial⟩,⟨ma,_,_,m7,by omega⟩,?_⟩;simp only[show(dc (gl L.l k) (gl y.ys k).bv (gl y.ys k).rv).getD 4 (Value.tuple #[])=(gl y.ys k).rv from rfl,m1];refine⟨fun c2=>?_,fun c2=>⟨by simp only[bR];omega,k+1,?_⟩⟩
   ·have c2:0<(gl L.l k).aV.length:=by have:=of_decide_eq_true c2;omega
    obtain⟨b',lo',o',cs',q1,q2,q3,q4,q5,q6,q7,q8⟩:=vW hrec (k:=0) c2;rw[decide_eq_true c2]at hk2;refine⟨_,_,g4,?_⟩;refine⟨_,_,rfl,?_⟩;refine⟨_,0,_,_,rfl,hs.cell,?_⟩;refine⟨⟨⟨_,rfl,m6⟩,trivial⟩,_,_,_,_,q1,by omega,_,_,rfl,b',lo',o',cs',rfl,q2,⟨⟨_,q3,_,rfl,q6⟩,trivial⟩,fun _=>⟨(),?_⟩⟩;have q7':cs'.getD o' (Value.tuple #[]) = .int .i64 (gl (gl L.l k).aV 0).pos:=q7;rw[q7']
    and_intros<;>first|exact dg|exact hk2
   ·have c2:¬0<(gl L.l k).aV.length:=by have:=of_decide_eq_false c2;omega
    rw[decide_eq_false c2]at hk2
    and_intros<;>first|exact dg|exact hk2
  ·have hkn:k=L.l.length:=by have:=of_decide_eq_false c1;omega
   subst hkn;rw[List.drop_length]at hk2
   and_intros<;>first|exact dg|exact hk2)
theorem Ri:au (Y Tryz.prog).G.X 213 Nn:=aU fF Rf ⟨XJ,trivial⟩
theorem AR:au (Y Tryz.prog).G.X 164 DV:=aU fF Rh trivial
def gB(f:Nat->Int)(r len:Nat):Int:=kE (fun k=>f (r+k)) len
def uy(i:Nat):Nat:=if i=0 then 22 else 16
def qW(g:dJ)(i:Nat)(f:Nat->Int):dJ:=if i=0 then { g with gen:=uw .i64 (gB f 4 6),base:=uw .i64 (gB f 16 6) }else g
def gv(g:dJ)(i:Nat)(f:Nat->Int):Bool :=
 (xG f == gB f 0 4)&&((uw .i64 (gB f 4 6) == (qW g i f).gen)&&(!decide (uw .i64 (gB f 10 4)<g.run)&&((f 14 == (i:Int))&&(decide (f 15<=kX i)&&decide (g.buf.length=cw i)))))
def ij(g:dJ)(i:Nat)(f:Nat->Int):dJ :=
 if gv g i f then { qW g i f with run:=uw .i64 (gB f 10 4),buf:=g.buf++(List.range (f 15).toNat).map fun k=>f (uy i+k) }else qW g i f
theorem uz{X:PH}{y:nv}{g g':dJ}(h:gj X y g)(hb:g'.buf=g.buf)(hr:g'.aV=g.aV)(hg:bR .i64 g'.gen/\bR .i64 g'.base/\bR .i64 g'.run) :
 gj (aO X y.b 0 (dc g' y.bv y.rv)) y g'/\Fr X y (aO X y.b 0 (dc g' y.bv y.rv)) y:=by
 obtain⟨⟨n1,n2,n3⟩,_⟩:=DO.1 h.nd;refine⟨⟨⟨dP ..,hg,?_,?_,by rw[hr];exact h.at_.len,fun i hi=>?_⟩,h.nd⟩,fun x hx hn=>⟨cN fun e=>hn (by rw[e];exact List.mem_cons_self),hn⟩⟩
 ·rw[hb];exact h.at_.buf.frame fun x hx=>cN fun e=>n1 (by rw[<- e];exact hx)
 ·rw[hr];obtain⟨c,hc⟩:=h.at_.aV;exact⟨c,jg hc fun x hx=>cN fun e=>n2 (by rw[<- e];exact hx)⟩
 ·rw[hr]at hi ⊢;refine(h.at_.body i hi).frame fun x hx=>cN fun e=>n3 ?_;rw[<- e];refine List.mem_flatMap.2 ⟨_,?_,hx⟩;have:=h.at_.len;rw[List.getD_eq_getElem?_getD,List.getElem?_eq_getElem (by omega)];exact List.getElem_mem _
structure zH where
 H:PH
 y:nv
 g:dJ
 i:Nat
 f:Nat->Int
 cap:Nat
structure BQ where
 H:PH
 y:nv
noncomputable def Uj:cG where
 α:=zH
 β:=BQ
 m:=2
 m':=3
 pre:=fun a=>gj a.H a.y a.g/\a.i<8/\a.g.buf.length<=378/\64<=a.cap/\(gv a.g a.i a.f=true->0<a.f 15)
 args:=fun a=>[.a (.val (pv a.y.b 0)),.a (.int .i64 a.i),.a (.slc 1 0 1 64 a.cap)]
 hp:=fun a=>[(0,.cI a.H)]
 ro:=fun a=>[(1,.arr 5 [.int .u8] 64 (bW a.f))]
 post:=fun a b=>gj b.H b.y (ij a.g a.i a.f)/\b.y.b=a.y.b/\b.y.rv=a.y.rv/\Fr a.H a.y b.H b.y
 res:=fun a _=>.a (.bool (gv a.g a.i a.f))
 cR:=fun _ b=>[(2,.cI b.H)]
def S.cI(s:S)(H:PH):S:=(s.put (s.hp.del (Ld s))).new (.cI H)
def ZI(a:zH):An:=.mk 5 PH (fun s H=>S.cI (s.set 7 (.a (.slc (s.tg 2) (uy a.i) 1 (kX a.i) (a.cap-uy a.i)))) H) (fun _ H=>gj H a.y (qW a.g a.i a.f)/\Fr a.H a.y H a.y) (fun _ _=>0) fun _=>.mk 1000 [] []
def sE(x:yp):Int:=pM (sk x x.len)
def BR(x:Nat)(y:List Value)(z:yp):List Value:=AN x y (gp (sE z))
def jR(x y:Nat)(z:Prop)(u:Nat)(v:Nat->Nat->Value)(w:Prop):=bh x y/\z/\eF x u v/\w
def DW(z:BQ)(x:zH):=gj z.H z.y (ij x.g x.i x.f)/\z.y.b=x.y.b/\z.y.rv=x.y.rv/\Fr x.H x.y z.H z.y
def yM(z:Bool)(x:zH)(u:PH)(v:Prop):=aD z (∃y:BQ,fV (gv x.g x.i x.f) (u=y.H) (DW y x/\True)) v
def vY(y z u v:Nat)(w:Nat->Int)(s:yp->Prop):=∃x:yp,(y=x.r/\z=x.len/\u-v=x.cap)/\aG x.n 64 1 (bW w) x.rows/\(x.r+x.len<=x.n/\x.len<=8)/\aB (s x)
def No(u:Nat)(x:zH)(v w s:Nat)(t:PH):PH->Prop:=fun(z:PH)=>(u=uy x.i/\v=kX x.i/\w-s=x.cap-uy x.i)/\bI (cH (pv x.y.b 0)/\aP x.i (jR 64 x.cap (t=z) 1 (bW x.f) ((gj z x.y (qW x.g x.i x.f)/\Fr x.H x.y z x.y)/\True)))
def Iq(x:zH):=gj x.H x.y x.g/\x.i<8/\ah x.g.buf<=378/\64<=x.cap/\(aC (gv x.g x.i x.f)->(0:Int)<x.f 15)
theorem Uk:fnBody (Y Tryz.prog) [(230,KY),(203,TU)] 231 Uj fun a=>[(231,[],[ZI a])]:=fnBody.of (p :=
 ∀x:zH,Iq x->eo 16 64/\aD (af x.i == (0:Int)) (cK 10 x.cap/\eo 4 10/\cK 6 (x.cap-16)/\vY 4 6 x.cap 4 x.f fun z=>vY 16 6 (x.cap-16) 0 x.f fun G=>pP (pv x.y.b 0) 0 (fun v=>x.H v) (A.int .i64 (sE z)) fun v u h s=>pP (pv x.y.b 0) 1 (fun j=>aO x.H v u (BR h s z) j) (A.int .i64 (sE G)) fun j e k B=>eo 6 48/\Exists (No 22 x 42 (x.cap-16) 6 (aO (aO x.H v u (BR h s z)) j e (BR k B G)))) (Exists (No 16 x 48 x.cap 16 x.H))/\∀z:PH,gj z x.y (qW x.g x.i x.f)/\Fr x.H x.y z x.y->cK 14 x.cap/\eo 10 14/\vY 10 4 x.cap 10 x.f fun v=>eo 4 64/\cK 4 x.cap/\∃u:Aw,bF 1 (1=u.c)/\(4=u.r/\60=u.len/\x.cap-4=u.cap)/\aG u.n 64 1 (bW x.f) u.rows/\(u.r+u.len<=u.n/\u.len<100000)/\aB (vY 0 4 x.cap 0 x.f fun h=>yM (vG u u.len != sk h h.len) x z (cK 10 x.cap/\eo 4 10/\gV (pv x.y.b 0) 0 (fun s=>z s) fun s j=>vY 4 6 x.cap 4 x.f fun e=>yM (sE e != jW (aW j s)) x z (gV (pv x.y.b 0) 2 (fun k=>z k) fun k B=>yM (aK (sE v) (jW (aW B k))) x z (bf 14 64/\14<64/\(kr (x.f 14)->yM (x.f 14 != af x.i) x z (bf 15 64/\15<64/\(kr (x.f 15)->yM (aK (af (kX x.i)) (x.f 15)) x z (nA (pv x.y.b 0) 3 (fun C=>z C) fun C K=>pI (af x.i*(48:Int)) 6 (yM (af (di (aW K C)) != qf true 0 (af x.i*(48:Int)-6)) x z (pP (pv x.y.b 0) 2 (fun t=>z t) (A.int .i64 (sE v)) fun t l m o=>ig (pv x.y.b 0) 3 (fun w=>aO z t l (BR m o v) w) (fun w=>ey w) fun w D=>bf 15 64 /\
 15<64/\(kr (x.f 15)->cK (x.f 15) (x.cap-uy x.i)/\vV (aO z t l (BR m o v)) (aW D w) .u8 [] (uy x.i+0+(aR (x.f 15)-0)) 64 (aR (x.f 15)-0) 1 1 (fun p E=>e9 (x.f (uy x.i+0+p))) fun p E q d I=>pP (pv x.y.b 0) 3 (fun F=>aO (aM (aO z t l (BR m o v)) (aW D w)) q d I F) (A.val (fC q d (p+(aR (x.f 15)-0)) E)) fun F L M N=>∃J:BQ,true=gv x.g x.i x.f/\aO (aO (aM (aO z t l (BR m o v)) (aW D w)) q d I) F L (kf M N q d p (aR (x.f 15)-0) E)=J.H/\DW J x/\True)))))))))))) (by kernel_rfl) (by
 delta aD eF aW ah ig ai bF aG ay bT kf bn gC qf aK af eo kY bP bf e9 aC aR dW cH fV bw dV aB BO gD BR bI jR yM ey aP gV bh pP kz sE vY vV ag vG AN DW sk No nA pI kr cK Iq gp jP vF qV pM
 try dsimp -iota -proj only
 rintro⟨H,y,g,i,f,cap⟩ ⟨hs,hi,hlen,hcap,hpos⟩;dsimp only at *;have eG:∀r len,kE (fun i=>u8 (bW f) (r+i)) len=gB f r len:=fun _ _=>rfl;have eS:dL .xor .u32 4294967295 (rP (fun i=>u8 (bW f) (4+i)) 60)=xG f:=rfl;obtain⟨rg1,rg2,rg3⟩:=hs.at_.Cj
 repeat refine lT ?_
 refine⟨⟨fun c1=>?_,fun c1=>?_⟩,?_⟩
 ·have hi0:i=0:=by simpa using c1
  subst hi0
  repeat refine lT ?_
  refine⟨yp.mk 4 6 (cap-4) 64 (bW f),?_⟩
  and_intros<;>first|exact dg|skip
  intro _ _;refine⟨yp.mk 16 6 (cap-16-0) 64 (bW f),?_⟩
  and_intros<;>first|exact dg|skip
  intro _ _;dsimp only;simp only[eG];have s1:=uz (g':={ g with gen:=uw .i64 (gB f 4 6) }) hs rfl rfl ⟨tK _ _,rg2,rg3⟩;have s2:=uz (g':={ g with gen:=uw .i64 (gB f 4 6),base:=uw .i64 (gB f 16 6) }) s1.1 rfl rfl ⟨tK _ _,tK _ _,rg3⟩;refine⟨_,_,rfl,?_⟩;refine⟨_,_,rfl,?_⟩;refine⟨_,0,_,_,rfl,hs.at_.cell,by simp[dc],?_⟩;refine⟨_,_,rfl,?_⟩;refine⟨_,_,rfl,?_⟩;refine⟨_,0,_,_,rfl,s1.1.at_.cell,by simp[dc],?_⟩
  repeat refine lT ?_
  refine⟨aO (aO H y.b 0 (dc { g with gen:=uw .i64 (gB f 4 6) } y.bv y.rv)) y.b 0 (dc { g with gen:=uw .i64 (gB f 4 6),base:=uw .i64 (gB f 16 6) } y.bv y.rv),?_⟩
  and_intros<;>first|exact dg|exact s2.1|exact s1.2.trans s2.2|rfl|(simp only[uy,if_true];omega)|skip
 ·have hi0:i≠0:=by simpa using c1
  refine⟨H,?_⟩;have hg:qW g i f=g:=if_neg hi0;rw[hg]
  and_intros<;>first|exact dg|exact hs|exact fun x _ hn=>⟨rfl,hn⟩|(simp only[uy,kX,if_neg hi0];done)|skip
 ·rintro X ⟨hX,hfr⟩;obtain⟨g1,hg1⟩:∃g1,g1=qW g i f:=⟨_,rfl⟩
  have eb:g1.buf=g.buf:=by rw[hg1];unfold qW;split<;>rfl
  have er:g1.run=g.run:=by rw[hg1];unfold qW;split<;>rfl
  rw[<- hg1]at hX;obtain⟨rx1,rx2,rx3⟩:=hX.at_.Cj;obtain⟨b1,b2,b3,b4,⟨ba,bc,b5⟩,b6⟩:=hX.at_.buf.len;have hcell:=hX.at_.cell
  repeat refine lT ?_
  refine⟨yp.mk 10 4 (cap-10) 64 (bW f),?_⟩
  and_intros<;>first|exact dg|skip
  intro _ _;dsimp only;simp only[eG]
  repeat refine lT ?_
  refine⟨Aw.mk 1 4 60 (cap-4) 64 (bW f),?_⟩
  and_intros<;>first|exact dg|skip
  intro _ _;refine⟨yp.mk 0 4 (cap-0) 64 (bW f),?_⟩
  and_intros<;>first|exact dg|skip
  intro _ _;dsimp only;simp only[eG,eS];refine⟨fun c1=>?_,fun c1=>?_⟩
  ·have hF:gv g i f=false:=by
    unfold gv;rw[<- hg1];have:(xG f == gB f 0 4)=false:=by simpa using c1
    rw[this];rfl
   refine⟨⟨X,y⟩,?_⟩;rw[hF,show ij g i f=g1 by unfold ij;rw[hF];exact hg1.symm]
   and_intros<;>first|exact dg|exact hX.at_|exact hX|exact hfr|rfl
  ·have k1:(xG f == gB f 0 4)=true:=by simpa using c1
   repeat refine lT ?_
   refine⟨_,_,rfl,?_⟩;refine⟨_,_,rfl,?_⟩;refine⟨_,0,_,_,rfl,hcell,?_⟩;refine⟨⟨⟨_,rfl,_,rfl,rx1⟩,trivial⟩,fun _=>⟨yp.mk 4 6 (cap-4) 64 (bW f),?_⟩⟩
   and_intros<;>first|exact dg|skip
   intro _ _;dsimp only;simp only[eG,dc,List.getD_cons_zero,jW];refine⟨fun c2=>?_,fun c2=>?_⟩
   ·have hF:gv g i f=false:=by
     unfold gv;rw[<- hg1];have:(uw .i64 (gB f 4 6) == g1.gen)=false:=by simpa using c2
     rw[this,Bool.false_and,Bool.and_false]
    refine⟨⟨X,y⟩,?_⟩;rw[hF,show ij g i f=g1 by unfold ij;rw[hF];exact hg1.symm]
    and_intros<;>first|exact dg|exact hX.at_|exact hX|exact hfr|rfl
   ·have k2:(uw .i64 (gB f 4 6) == g1.gen)=true:=by simpa using c2
    refine⟨_,_,rfl,?_⟩;refine⟨_,_,rfl,?_⟩;refine⟨_,0,_,_,rfl,hcell,?_⟩;refine⟨⟨⟨_,rfl,_,rfl,rx3⟩,trivial⟩,fun _=>?_⟩;simp only[dc,List.getD_cons_zero,List.getD_cons_succ,jW];refine⟨fun c3=>?_,fun c3=>?_⟩
    ·have hF:gv g i f=false:=by
      unfold gv;rw[<- hg1];rw[<- er,c3,k1,k2];simp
     refine⟨⟨X,y⟩,?_⟩;rw[hF,show ij g i f=g1 by unfold ij;rw[hF];exact hg1.symm]
     and_intros<;>first|exact dg|exact hX.at_|exact hX|exact hfr|rfl
    ·repeat refine lT ?_
     intro rg14;refine⟨fun c4=>?_,fun c4=>?_⟩
     ·have hF:gv g i f=false:=by
       unfold gv;rw[<- hg1];have:(f 14 == (i:Int))=false:=by simpa using c4
       rw[this,Bool.false_and,Bool.and_false,Bool.and_false,Bool.and_false]
      refine⟨⟨X,y⟩,?_⟩;rw[hF,show ij g i f=g1 by unfold ij;rw[hF];exact hg1.symm]
      and_intros<;>first|exact dg|exact hX.at_|exact hX|exact hfr|rfl
     ·have k4:(f 14 == (i:Int))=true:=by simpa using c4
      repeat refine lT ?_
      intro rg15;refine⟨fun c5=>?_,fun c5=>?_⟩
      ·have hF:gv g i f=false:=by
        unfold gv;rw[<- hg1];have c5:=of_decide_eq_true c5;have:decide (f 15<=kX i)=false:=by simp;omega
        rw[this,Bool.false_and,Bool.and_false,Bool.and_false,Bool.and_false,Bool.and_false]
       refine⟨⟨X,y⟩,?_⟩;rw[hF,show ij g i f=g1 by unfold ij;rw[hF];exact hg1.symm]
       and_intros<;>first|exact dg|exact hX.at_|exact hX|exact hfr|rfl
      ·have k5:decide (f 15<=kX i)=true:=by have:=of_decide_eq_false c5;simp;omega
       refine⟨_,_,rfl,?_⟩;refine⟨_,_,rfl,?_⟩;refine⟨_,0,_,_,rfl,hcell,?_⟩;refine⟨⟨⟨_,rfl,b6⟩,trivial⟩,⟨ba,_,bc,b5,b3⟩,?_⟩
       repeat refine lT ?_
       simp only[dc,List.getD_cons_zero,List.getD_cons_succ,b1];have em2:(bif true then max 0 ((i:Int)*48-6)else min 0 ((i:Int)*48-6))=(cw i:Nat):=by simp only[cond_true,cw];omega
       rw[em2];refine⟨fun c6=>?_,fun c6=>?_⟩
       ·have hF:gv g i f=false:=by
         unfold gv;rw[<- hg1];have c6:g1.buf.length≠cw i:=by intro e;rw[e]at c6;simp at c6
         have:decide (g.buf.length=cw i)=false:=by rw[<- eb];simpa using c6
         rw[this,Bool.and_false,Bool.and_false,Bool.and_false,Bool.and_false,Bool.and_false]
        refine⟨⟨X,y⟩,?_⟩;rw[hF,show ij g i f=g1 by unfold ij;rw[hF];exact hg1.symm]
        and_intros<;>first|exact dg|exact hX.at_|exact hX|exact hfr|rfl
       ·have k6:g1.buf.length=cw i:=by
         have:(g1.buf.length:Int)=(cw i:Nat):=by simpa using c6
         omega
        have hT:gv g i f=true:=by
         unfold gv;rw[<- hg1,k1,k2,<- er,c3,k4,k5,<- eb,k6];simp
        have s1:=uz (g':={ g1 with run:=uw .i64 (gB f 10 4) }) hX rfl rfl ⟨rx1,rx2,tK _ _⟩;obtain⟨X1,hX1⟩:∃X1,X1=aO X y.b 0 (dc { g1 with run:=uw .i64 (gB f 10 4) } y.bv y.rv):=⟨_,rfl⟩
        rw[<- hX1]at s1;have hf15:(f 15).toNat<=kX i:=by have:=of_decide_eq_true k5;omega
        have hroom:uy i+kX i=64:=by unfold uy kX;split<;>rfl
        have hroom2:kX i<=48:=by unfold kX;split<;>omega
        refine⟨_,_,rfl,?_⟩;refine⟨_,_,rfl,?_⟩;refine⟨_,0,_,_,rfl,hcell,by simp[dc],?_⟩;simp only[show aO X y.b 0 (List.take 2 (dc g1 y.bv y.rv)++[Value.int .i64 (uw .i64 (gB f 10 4))]++List.drop (2+[Value.int .i64 (uw .i64 (gB f 10 4))].length) (dc g1 y.bv y.rv))=X1 from hX1.symm];refine⟨_,_,rfl,?_⟩;refine⟨_,_,rfl,?_⟩;refine⟨_,0,_,_,rfl,s1.1.at_.cell,?_⟩;refine⟨⟨⟨_,rfl,b6⟩,trivial⟩,?_⟩
        repeat refine lT ?_
        intro _;obtain⟨c0,hbuf⟩:=s1.1.at_.buf;simp only[bR]at rg15;have hp15:=hpos hT;simp only[show(dc { g1 with run:=uw .i64 (gB f 10 4) } y.bv y.rv).getD 3 (Value.tuple #[])=y.bv from rfl]
        repeat refine lT ?_
        refine⟨_,c0,_,hbuf,?_⟩;dsimp only;rw[eb]
        repeat refine lT ?_
        intro cap1 q1 q2 q3
        repeat refine lT ?_
        intro p1 lo1 cs1 hp1 hl1 hr1;have hB:Step X1 y.bv (aO (aM X1 y.bv) p1 lo1 cs1) (fC p1 lo1 (g.buf.length+((f 15).toNat-0)) cap1):=tn hp1;have hlb:(g.buf++(List.range (f 15).toNat).map fun k=>f (uy i+k)).length=g.buf.length+((f 15).toNat-0):=by simp
        have hBy:fU (aO (aM X1 y.bv) p1 lo1 cs1) (fC p1 lo1 (g.buf.length+((f 15).toNat-0)) cap1) (g.buf++(List.range (f 15).toNat).map fun k=>f (uy i+k)):=by
         refine⟨cap1,?_⟩;rw[hlb];refine nE hl1 q1 q2 hr1 fun k hk j hj=>?_;have hj0:j=0:=by simpa using hj
         subst hj0;simp only[Nat.zero_add,bg,aa,cO,List.getD_cons_zero];by_cases hin:k<g.buf.length
         ·rw[if_pos hin,bV hin]
         ·rw[if_neg hin];obtain⟨m,rfl⟩:∃m,k=g.buf.length+m:=⟨k-g.buf.length,by omega⟩
          rw[br,Nat.add_sub_cancel_left];have:gl ((List.range (f 15).toNat).map fun k=>f (uy i+k)) m=f (uy i+m):=by
           rw[bL (by simp;omega)];simp
          rw[this,Nat.add_zero]
        obtain⟨hc2,hs3,hf3⟩:=yH s1.1 hB hBy;refine⟨_,_,rfl,?_⟩;refine⟨_,_,rfl,?_⟩;refine⟨_,0,_,_,rfl,hc2,by simp[dc],?_⟩;have hM:ij g i f={ g1 with run:=uw .i64 (gB f 10 4),buf:=g.buf++(List.range (f 15).toNat).map fun k=>f (uy i+k) }:=by
         unfold ij;rw[if_pos hT,<- hg1]
        refine⟨⟨aO (aO (aM X1 y.bv) p1 lo1 cs1) y.b 0 (dc { g1 with run:=uw .i64 (gB f 10 4),buf:=g.buf++(List.range (f 15).toNat).map fun k=>f (uy i+k) } (fC p1 lo1 (g.buf.length+((f 15).toNat-0)) cap1) y.rv),{ y with bv:=fC p1 lo1 (g.buf.length+((f 15).toNat-0)) cap1 }⟩,?_⟩;rw[hT,hM];refine And.intro (by first|trivial|rfl) (And.intro rfl (And.intro ⟨hs3,rfl,rfl,?_⟩ trivial));exact(hfr.trans s1.2).trans hf3)
theorem Ul:au (Y Tryz.prog).G.X 231 Uj:=aU fF Uk ⟨CF,HL,trivial⟩
structure vZ where
 H:PH
 v:Value
 len:Nat
 c:Nat
 rows:Nat->Nat->Value
noncomputable def Um:cG where
 α:=vZ
 β:=Unit
 m:=1
 m':=1
 pre:=fun a=>kR a.H a.v [.int .u8] a.len a.c a.rows/\a.len<=8
 args:=fun a=>[.a (.val a.v)]
 hp:=fun _=>[]
 ro:=fun a=>[(0,.cI a.H)]
 post:=fun _ _=>True
 res:=fun a _=>.a (.int .u64 (kE (fun i=>u8 a.rows i) a.len))
 cR:=fun _ _=>[]
def aaE(a:vZ):An:=.flat 3 Nat (fun s k=>(s.set 3 (.a (.int .u64 (kE (fun i=>u8 a.rows i) k)))).int 8 k) (fun _ k=>k<=a.len) (fun _ k=>a.len-k)
def v7(x:vZ)(y:Nat):Int:=kE (fun z=>u8 x.rows z) y
def Ir(x:vZ):=kR x.H x.v (ji (CK.int .u8)) x.len x.c x.rows/\x.len<=8
theorem Un:fnBody (Y Tryz.prog) [] 230 Um fun a=>[(230,[aaE a],[])]:=fnBody.of (p :=
 ∀x:vZ,Ir x->gD x.v/\cm (fun y=>(0:Int)=v7 x y/\kA x.v (aI (cH x.v/\x.H=x.H/\y<=x.len/\True))) fun y=>y<=x.len->qg y x.v 1 (fun z=>x.H z) (fun z=>∃u:Int,z=e9 u/\kr u) (fun z u=>True) (fun z u=>kr (jW (aW u z))->(0:Int)<=8/\bH y fun w=>dL .or .u64 (cD (v7 x y*(256:Int))) (jW (aW u z))=v7 x w/\kA x.v (aI (cH x.v/\x.H=x.H/\bS w x.len y))) (bz (v7 x y=v7 x x.len))) (by kernel_rfl) (by
 delta aD aW ai ay ax aK aY af nC bf e9 aC aR cH gD bz qg bS aP bH cD aI jh bM aT az kA aQ ji kr v7 bt cm Ir
 try dsimp -iota -proj only
 rintro⟨H,v,len,c,rows⟩ ⟨hs,h1⟩;dsimp only at *;obtain⟨e1,_,e3,e4,_,⟨ea,e2⟩,_⟩:=fH hs;refine⟨⟨ea,_,_,e2,by omega⟩,⟨0,?_⟩,fun k hk=>⟨fun c1=>?_,fun c1=>⟨(),?_⟩⟩⟩
 ·and_intros<;>first|exact dg|rfl
 ·rw[e1]at c1;have hk:k<len:=by have:=of_decide_eq_true c1;omega
  rcases hs with⟨_,h0,_⟩ | ⟨b,lo,o,cs,g1,g2,g3,g4,g5⟩
  ·omega
  ·obtain⟨q1,m,q2,q3⟩:=g5.at_ k hk 0 (.int .u8) rfl;have q1:cs[o+k*1]? = some (rows k 0):=q1;have q4:cs.getD (o+k*1) (Value.tuple #[])=rows k 0:=by rw[List.getD_eq_getElem?_getD,q1];rfl
   refine⟨_,_,_,_,g1,by omega,b,lo,o+k*1,cs,by rw[Int.toNat_natCast,Nat.add_assoc],g3,⟨⟨_,q1,m,q2,q3⟩,trivial⟩,fun _=>?_⟩;rw[q4];refine⟨by omega,by simp only[bR];omega,k+1,?_⟩
   and_intros<;>first|exact dg|rfl
 ·have hk:k=len:=by rw[e1]at c1;have:=of_decide_eq_false c1;omega
  subst hk
  and_intros<;>first|exact dg|rfl)
theorem Uo:au (Y Tryz.prog).G.X 230 Um:=aU fF Un trivial
def Is(buf:List Int)(at_:Nat):Int:=uw .i64 (kE (fun k=>gl buf (at_+k)) 2)
def aaF(buf:List Int)(at_:Nat):Int:=uw .i64 (kE (fun k=>gl buf (at_+2+k)) 6)
def tq(buf:List Int)(at_:Nat):Bool:=decide (at_+8<=buf.length)&&(decide (1<=Is buf at_)&&(decide (Is buf at_<=300)&&decide ((at_:Int)+8+Is buf at_<=buf.length)))
def recAt(buf:List Int)(at_:Nat):RecM:=⟨aaF buf at_,(buf.drop (at_+8)).take (Is buf at_).toNat⟩
def fI(buf:List Int):Nat->Nat->List RecM×Nat
 |0,at_=>([],at_)
 |k+1,at_=>if tq buf at_ then(recAt buf at_::(fI buf k (at_+8+(Is buf at_).toNat)).1,(fI buf k (at_+8+(Is buf at_).toNat)).2)else([],at_)
def zI(g:dJ):dJ:={ g with aV:=(fI g.buf 50 0).1,buf:=g.buf.take (fI g.buf 50 0).2 }
structure u5 where
 H:PH
 y:nv
 g:dJ
noncomputable def DX:cG where
 α:=u5
 β:=BQ
 m:=1
 m':=2
 pre:=fun a=>gj a.H a.y a.g/\a.g.buf.length<=378/\a.g.aV=[]
 args:=fun a=>[.a (.val (pv a.y.b 0))]
 hp:=fun a=>[(0,.cI a.H)]
 ro:=fun _=>[]
 post:=fun a b=>gj b.H b.y (zI a.g)/\b.y.b=a.y.b/\Fr a.H a.y b.H b.y
 res:=fun _ _=>.ng []
 cR:=fun _ b=>[(1,.cI b.H)]
structure nG where
 H:PH
 y:nv
 rs:List RecM
 at_:Nat
 k:Nat
def aaG(a:u5):An:=.flat 1 nG (fun s x=>S.cI (s.int 2 x.at_) x.H) (fun _ x=>gj x.H x.y { a.g with aV:=x.rs }/\x.y.b=a.y.b/\Fr a.H a.y x.H x.y/\x.at_<=a.g.buf.length/\a.g.buf.length<x.at_+9*x.k/\x.rs++(fI a.g.buf x.k x.at_).1=(fI a.g.buf 50 0).1/\(fI a.g.buf x.k x.at_).2=(fI a.g.buf 50 0).2/\x.rs.length*9<=x.at_) (fun _ x=>a.g.buf.length-x.at_)
def ZJ(a:u5):An:=.mk 7 nG (fun s x=>S.cI (s.int 2 x.at_) x.H) (fun _ x=>gj x.H x.y { a.g with aV:=(fI a.g.buf 50 0).1 }/\x.y.b=a.y.b/\Fr a.H a.y x.H x.y/\x.at_<=a.g.buf.length/\x.at_=(fI a.g.buf 50 0).2) (fun _ _=>0) fun _=>.mk 1000 [] []
def Np(z:nG)(x:u5)(u:List RecM)(v:Prop):=gj z.H z.y { gen:=x.g.gen,base:=x.g.base,run:=x.g.run,buf:=x.g.buf,aV:=u }/\z.y.b=x.y.b/\Fr x.H x.y z.H z.y/\z.at_<=ah x.g.buf/\v
def It(x:nG)(y:u5):=Np x y x.rs (ah y.g.buf<x.at_+9*x.k/\x.rs++(fI y.g.buf x.k x.at_).fst=(fI y.g.buf 50 0).fst/\(fI y.g.buf x.k x.at_).snd=(fI y.g.buf 50 0).snd/\x.rs.length*9<=x.at_)
def pQ(x:vZ):Int:=pM (v7 x x.len)
def Iu(f:Value)(u:PH)(s:Value)(t:Int)(g:Nat->Nat->Nat->Nat->List Value->Prop)(h:Nat->Option (Nat×List Value))(i:Nat->Nat->List Value->Nat->Nat->Nat->Nat->List Value->Prop):=DU f (vV u s .i64 (ji CK.deep) 1 1 1 32 2 (fun x y=>aF 2 (bT t (bP gW)) (0+x) y) fun x y z v w=>g x y z v w) u fun x y=>DR x (fun z=>h z) y u s t fun z v w j k l m n=>i z v w j k l m n
def Nq(y:nG)(x:u5):=Np y x (fI x.g.buf 50 0).fst (y.at_=(fI x.g.buf 50 0).snd)
def Nr(x:u5)(f:PH)(h:List Value)(i z u:Nat)(j:List Value)(k l:Nat)(w:vZ)(s:nG):=pP (pv x.y.b 0) 4 (fun t=>aO (aM f (aW h i)) z u j t) (A.val (fC z u (k+1) l)) fun t m n o=>ai ((8:Int)+pQ w)/\ai (af s.at_+((8:Int)+pQ w))/\∃v:nG,af s.at_+((8:Int)+pQ w)=af v.at_/\cH (pv x.y.b 0)/\aO (aO (aM f (aW h i)) z u j) t m (kf n o z u k 1 l)=v.H/\It v x/\ah x.g.buf-v.at_<ah x.g.buf-s.at_
def Ns(x:nG)(y:Int)(u:List Value)(w:Nat)(s:Int)(t:Nat)(f:vZ->Prop):=ai (af x.at_+y)/\Hh (aW u w)/\cK (af x.at_+y) (jX (aW u w))/\cK s (aR (af x.at_+y))/\∃z:vZ,ue u w t (aR (af x.at_+y))=z.v/\x.H=z.H/\Ir z/\aB (f z)
def v8(z:u5)(u:Nat)(v:nG)(w:Nat->List Value->Prop):=ig (pv z.y.b 0) u (fun x=>v.H x) (fun x=>ey x) fun x s=>w x s
def Iv(z:nG)(u:u5):nG->Prop:=fun(x:nG)=>bC z.at_ x.at_/\cH (pv u.y.b 0)/\z.H=x.H/\Nq x u/\True
theorem Li:fnBody (Y Tryz.prog) [(230,Um)] 232 DX fun a=>[(232,[aaG a],[ZJ a])]:=fnBody.of (p :=
 ∀z:u5,gj z.H z.y z.g/\ah z.g.buf<=378/\z.g.aV=[]->((∃x:nG,aT x.at_ (cH (pv z.y.b 0)/\z.H=x.H/\It x z/\True))/\∀x:nG,It x z->v8 z 3 x fun w s=>gD (aW s w)/\pO (af (di (aW s w))-af x.at_) 8 (v8 z 3 x fun t h=>Ns x 2 h t (af x.at_) (ax x.at_) fun u=>v8 z 3 x fun i v=>ai (af x.at_+(2:Int))/\Ns x 8 v i (af x.at_+(2:Int)) (aR (af x.at_+(2:Int))) fun d=>fR (aK (pQ u) 1) (Exists (Iv x z)) (aK 300 (pQ u)) (v8 z 3 x fun j k=>gD (aW k j)/\pI (af (di (aW k j))-af x.at_) 8 (aX (af (di (aW k j))-af x.at_-(8:Int)) (pQ u) (Exists (Iv x z)) (v8 z 4 x fun l m=>v8 z 3 x fun n o=>ai (af x.at_+(8:Int))/\pN (af x.at_+(8:Int)) (pQ u) (Hh (aW o n)/\cK (af x.at_+(8:Int)+pQ u) (jX (aW o n))/\cK (af x.at_+(8:Int)) (aR (af x.at_+(8:Int)+pQ u))/\Iu (ue o n (aR (af x.at_+(8:Int))) (aR (af x.at_+(8:Int)+pQ u))) x.H (aW m l) (pQ d) (fun f p q r c=>Nr z x.H m l q r c f p u x) (fun f=>x.H f) fun f p q r c e B C=>Nr z (aO x.H f p q) m l e B C r c u x))))) (Exists (Iv x z)))/\∀x:nG,Nq x z->v8 z 3 x fun w s=>Hh (aW s w)/\cK (af x.at_) (jX (aW s w))/\pP (pv z.y.b 0) 3 (fun t=>x.H t) (A.val (ue s w 0 (ax x.at_))) fun t h u i=>∃v:BQ,aO x.H t h (AN u i (bP (ue s w 0 (ax x.at_))))=v.H /\
 (gj v.H v.y (zI z.g)/\v.y.b=z.y.b/\Fr z.H z.y v.H v.y)/\True) (by kernel_rfl) (by
 delta aD aW ah ig ai bT kf ax gC aK af eo kY bP aC aR dW cH bw fR aB BO gD It ey pQ Iu Nq cn pP kz gW aT vV DR Nr Ns AN v8 aX pO pN ji Iv bC pI cK v7 Np qV ue DU Ir pM
 try dsimp -iota -proj only
 rintro⟨H,y,g⟩ ⟨hs,hlen,hnil⟩;dsimp only at *;refine⟨⟨⟨⟨H,y,[],0,50⟩,?_⟩,?_⟩,?_⟩
 ·have hs':gj H y { g with aV:=[] }:=by rw[<- hnil];exact hs
  and_intros<;>first|exact dg|exact hs'|exact fun x _ hn=>⟨rfl,hn⟩|rfl|skip
 ·rintro⟨X,Y,rs,at_,k⟩ ⟨hX,hb,hfr,h1,h2,h3,h4,h5⟩;dsimp only at *;have hcell:X y.b=some (0,dc { g with aV:=rs } Y.bv Y.rv):=by rw[<- hb];exact hX.at_.cell
  obtain⟨b1,b2,b3,b4,⟨ba,bc,b5⟩,b6⟩:=hX.at_.buf.len;have b1:di Y.bv=g.buf.length:=b1;have b4:g.buf.length<=jX Y.bv:=b4;have hbuf:fU X Y.bv g.buf:=hX.at_.buf;have pstop:tq g.buf at_=false->rs=(fI g.buf 50 0).1/\at_=(fI g.buf 50 0).2:=fun hR=>by
   have:fI g.buf k at_=([],at_):=by
    cases k with
    |zero=>rfl
    |succ k=>unfold fI;rw[hR];rfl
   rw[this]at h3 h4;exact⟨by simpa using h3,h4⟩
  have e3:(dc { g with aV:=rs } Y.bv Y.rv).getD 3 (Value.tuple #[])=Y.bv:=rfl;have e4:(dc { g with aV:=rs } Y.bv Y.rv).getD 4 (Value.tuple #[])=Y.rv:=rfl;have eN:kE (fun i=>u8 (fun i=>aa cO g.buf (at_+i)) i) 2=kE (fun k=>gl g.buf (at_+k)) 2:=rfl;have eP:kE (fun i=>u8 (fun i=>aa cO g.buf (at_+2+i)) i) 6=kE (fun k=>gl g.buf (at_+2+k)) 6:=rfl;refine⟨_,_,rfl,?_⟩;refine⟨_,_,rfl,?_⟩;refine⟨_,0,_,_,rfl,hcell,?_⟩;refine⟨⟨⟨_,rfl,b6⟩,trivial⟩,⟨ba,_,bc,b5,b3⟩,?_⟩;simp only[e3,b1];refine⟨by simp only[bR];omega,fun c1=>?_,fun c1=>?_⟩
  ·have c1:at_+8<=g.buf.length:=by have:=of_decide_eq_true c1;omega
   have w1:((at_:Int)+2).toNat=at_+2:=by omega
   have w2:((at_:Int)+8).toNat=at_+8:=by omega
   have cut1:=hbuf.cut (a:=at_) (e:=at_+2) (by omega) (by omega);rw[show at_+2-at_=2 by omega]at cut1;have cut2:=hbuf.cut (a:=at_+2) (e:=at_+8) (by omega) (by omega);rw[show at_+8-(at_+2)=6 by omega]at cut2;refine⟨_,_,rfl,?_⟩;refine⟨_,_,rfl,?_⟩;refine⟨_,0,_,_,rfl,hcell,?_⟩;refine⟨⟨⟨_,rfl,b6⟩,trivial⟩,?_⟩;simp only[e3,w1,Int.toNat_natCast]
   repeat refine lT ?_
   refine⟨vZ.mk X (nW 1 Y.bv at_ (at_+2) (jX Y.bv)) 2 (jX Y.bv-at_) (fun i=>aa cO g.buf (at_+i)),rfl,rfl,⟨cut1,by show 2<=8;omega⟩,fun _ _=>?_⟩;dsimp only;refine⟨_,_,rfl,?_⟩;refine⟨_,_,rfl,?_⟩;refine⟨_,0,_,_,rfl,hcell,?_⟩;refine⟨⟨⟨_,rfl,b6⟩,trivial⟩,?_⟩;simp only[e3,w1,w2,eN]
   repeat refine lT ?_
   refine⟨vZ.mk X (nW 1 Y.bv (at_+2) (at_+8) (jX Y.bv)) 6 (jX Y.bv-(at_+2)) (fun i=>aa cO g.buf (at_+2+i)),rfl,rfl,⟨cut2,by show 6<=8;omega⟩,fun _ _=>?_⟩;dsimp only;simp only[eP];rw[show uw .i64 (kE (fun k=>gl g.buf (at_+k)) 2)=Is g.buf at_ from rfl,show uw .i64 (kE (fun k=>gl g.buf (at_+2+k)) 6)=aaF g.buf at_ from rfl];obtain⟨N,hN⟩:∃N,N=Is g.buf at_:=⟨_,rfl⟩
   rw[<- hN];have hNr:bR .i64 N:=by rw[hN];exact tK _ _
   refine⟨fun c2=>?_,fun c2=>⟨fun c3=>?_,fun c3=>?_⟩⟩
   ·have c2:=of_decide_eq_true c2;refine⟨nG.mk X Y rs at_ 0,?_⟩;have hR:tq g.buf at_=false:=by unfold tq;rw[<- hN,show decide (1<=N)=false from decide_eq_false (by omega)];simp
    obtain⟨hp1,hp2⟩:=pstop hR
    and_intros<;>first|exact dg|(rw[<- hp1];exact hX)|exact hfr|exact hb|exact hp2
   ·have c3:=of_decide_eq_true c3;refine⟨nG.mk X Y rs at_ 0,?_⟩;have hR:tq g.buf at_=false:=by unfold tq;rw[<- hN,show decide (N<=300)=false from decide_eq_false (by omega)];simp
    obtain⟨hp1,hp2⟩:=pstop hR
    and_intros<;>first|exact dg|(rw[<- hp1];exact hX)|exact hfr|exact hb|exact hp2
   ·have c2:=of_decide_eq_false c2;have c3:=of_decide_eq_false c3;refine⟨_,_,rfl,?_⟩;refine⟨_,_,rfl,?_⟩;refine⟨_,0,_,_,rfl,hcell,?_⟩;refine⟨⟨⟨_,rfl,b6⟩,trivial⟩,⟨ba,_,bc,b5,b3⟩,?_⟩;simp only[e3,b1]
    repeat refine lT ?_
    refine⟨fun c4=>?_,fun c4=>?_⟩
    ·have c4:=of_decide_eq_true c4;refine⟨nG.mk X Y rs at_ 0,?_⟩;have hR:tq g.buf at_=false:=by unfold tq;rw[<- hN,show decide ((at_:Int)+8+N<=g.buf.length)=false from decide_eq_false (by omega)];simp
     obtain⟨hp1,hp2⟩:=pstop hR
     and_intros<;>first|exact dg|(rw[<- hp1];exact hX)|exact hfr|exact hb|exact hp2
    ·have c4:=of_decide_eq_false c4;have hR:tq g.buf at_=true:=by
      unfold tq;rw[<- hN];simp only[Bool.and_eq_true,decide_eq_true_eq];omega
     obtain⟨nn,rfl⟩:∃nn:Nat,N=nn:=⟨N.toNat,by omega⟩
     have w3:((at_:Int)+8+nn).toNat=at_+8+nn:=by omega
     obtain⟨c9,hrec⟩:=hX.at_.aV;have hrec:kR X Y.rv tj rs.length c9 (vP rs Y.vs):=hrec;obtain⟨m1,m2,m3,m4,m5,_,m6⟩:=fH hrec;have cut3:=hbuf.cut (a:=at_+8) (e:=at_+8+nn) (by omega) (by omega);rw[show at_+8+nn-(at_+8)=nn by omega]at cut3;obtain⟨_,_,_,_,_,⟨za,zs⟩,_⟩:=fH cut3;have hnz:Fp (nW 1 Y.bv (at_+8) (at_+8+nn) (jX Y.bv))=false:=by
      rcases cut3 with⟨_,h0,_⟩ | ⟨b9,lo9,o9,cs9,h9,_⟩
      ·omega
      ·rw[h9];rfl
     refine⟨_,_,rfl,?_⟩;refine⟨_,_,rfl,?_⟩;refine⟨_,0,_,_,rfl,hcell,?_⟩;refine⟨⟨⟨_,rfl,m6⟩,trivial⟩,?_⟩;refine⟨_,_,rfl,?_⟩;refine⟨_,_,rfl,?_⟩;refine⟨_,0,_,_,rfl,hcell,?_⟩;refine⟨⟨⟨_,rfl,b6⟩,trivial⟩,?_⟩;simp only[e3,e4,w2,w3]
     repeat refine lT ?_
     refine⟨⟨za,_,_,zs⟩,fun c5=>absurd c5 (by rw[hnz];decide),fun _=>?_⟩
     repeat refine lT ?_
     refine⟨_,_,_,cut3,?_⟩;simp only[Nat.zero_add]
     repeat refine lT ?_
     intro cap3 u1 u2 u3
     repeat refine lT ?_
     intro p3 lo3 cs3 hp3 hl3 hr3;obtain⟨r,hr⟩:∃r,r=recAt g.buf at_:=⟨_,rfl⟩
     have hrb:r.body.length=nn:=by
      rw[hr];simp only[recAt,<- hN];simp;omega
     have hC:Step X (.slice none 0 0) (aO X p3 lo3 cs3) (fC p3 lo3 nn cap3):=Lc hp3;have hCb:fU (aO X p3 lo3 cs3) (fC p3 lo3 nn cap3) r.body:=by
      refine⟨cap3,?_⟩;rw[hrb];refine nE hl3 u1 u2 hr3 fun i hi j hj=>?_;have hj0:j=0:=by simpa using hj
      subst hj0;simp only[bg,Nat.not_lt_zero,if_false,Nat.sub_zero,aa,cO,List.getD_cons_zero];have:gl r.body i=gl g.buf (at_+8+i):=by
       rw[hr];simp only[recAt,<- hN,gl];rw[List.getD_eq_getElem?_getD,List.getElem?_take_of_lt (by simpa using hi),List.getElem?_drop,List.getD_eq_getElem?_getD]
      rw[this]
     have hx3:∀x,X x≠none->x≠p3:=fun x hx e=>hx (by rw[e];exact hp3);have hrec4:kR (aO X p3 lo3 cs3) Y.rv tj rs.length c9 (vP rs Y.vs):=jg hrec fun x hx=>cN (hx3 x (nw hrec x hx));refine⟨_,c9,_,hrec4,?_⟩
     repeat refine lT ?_
     intro cap4 v1 v2 v3
     repeat refine lT ?_
     intro p4 lo4 cs4 hp4 hl4 hr4;have hD:Step (aO X p3 lo3 cs3) Y.rv (aO (aM (aO X p3 lo3 cs3) Y.rv) p4 lo4 cs4) (fC p4 lo4 (rs.length+1) cap4):=tn hp4;have hvl:Y.vs.length=rs.length:=hX.at_.len;have hr5:kR (aO (aM (aO X p3 lo3 cs3) Y.rv) p4 lo4 cs4) (fC p4 lo4 (rs.length+1) cap4) tj (rs.length+1) cap4 (vP (rs++[r]) (Y.vs++[fC p3 lo3 nn cap3])):=by
      refine nE hl4 v1 v2 hr4 fun i hi j hj=>?_;simp only[bg,vP,Nat.zero_add];by_cases hin:i<rs.length
      ·rw[if_pos hin,bV hin];by_cases hj0:j=0
       ·rw[if_pos hj0,if_pos hj0]
       ·rw[if_neg hj0,if_neg hj0,List.getD_eq_getElem?_getD,List.getD_eq_getElem?_getD,List.getElem?_append_left (by omega)]
      ·rw[if_neg hin];obtain rfl:i=rs.length:=by omega
       rw[Nat.sub_self];have hj2:j<2:=hj
       match j,hj2 with
       |0,_=>rw[if_pos rfl,show rs.length=rs.length+0 from rfl,br,hr];rfl
       |1,_=>rw[if_neg (by decide),List.getD_eq_getElem?_getD,List.getElem?_append_right (by omega),hvl,Nat.sub_self];rfl
     obtain⟨hcell4,hcell5,hnd6,hfr6⟩:=BN (r:=r) hX hC hCb hD (fun x hx=>by
      simp only[fW,fC,List.mem_singleton]at hx;rw[hx,dP];simp) ⟨cap4,hr5⟩
     have hpk:∃k',k=k'+1:=by
      cases k with
      |zero=>omega
      |succ k=>exact⟨k,rfl⟩
     obtain⟨k',rfl⟩:=hpk;have hps:fI g.buf (k'+1) at_=(r::(fI g.buf k' (at_+8+nn)).1,(fI g.buf k' (at_+8+nn)).2):=by
      have e:(Is g.buf at_).toNat=nn:=by rw[<- hN];rfl
      rw[hr];show(if tq g.buf at_=true then _ else _)=_;rw[if_pos hR,e]
     rw[hps]at h3 h4;refine⟨_,_,rfl,?_⟩;refine⟨_,_,rfl,?_⟩;refine⟨_,0,_,_,rfl,by rw[<- hb];exact hcell5,by simp[dc],?_⟩
     repeat refine lT ?_
     refine⟨⟨aO (aO (aM (aO X p3 lo3 cs3) Y.rv) p4 lo4 cs4) Y.b 0 (dc { g with aV:=rs++[r] } Y.bv (fC p4 lo4 (rs.length+1) cap4)),⟨Y.b,Y.bv,fC p4 lo4 (rs.length+1) cap4,Y.vs++[fC p3 lo3 nn cap3]⟩,rs++[r],at_+8+nn,k'⟩,?_⟩;have hnd7:gj (aO (aO (aM (aO X p3 lo3 cs3) Y.rv) p4 lo4 cs4) Y.b 0 (dc { g with aV:=rs++[r] } Y.bv (fC p4 lo4 (rs.length+1) cap4))) ⟨Y.b,Y.bv,fC p4 lo4 (rs.length+1) cap4,Y.vs++[fC p3 lo3 nn cap3]⟩ { g with aV:=rs++[r] }:=hnd6;have h3':rs++[r]++(fI g.buf k' (at_+8+nn)).1=(fI g.buf 50 0).1:=by rw[<- h3,List.append_assoc];rfl
     dsimp only
     and_intros<;>first|exact dg|exact hnd7|exact hb|exact hfr.trans hfr6|exact h3'|exact h4|(rw[<- hb];rfl)|(rw[List.length_append,List.length_singleton];omega)|skip
  ·have c1:=of_decide_eq_false c1;refine⟨nG.mk X Y rs at_ 0,?_⟩;have hR:tq g.buf at_=false:=by unfold tq;rw[show decide (at_+8<=g.buf.length)=false from decide_eq_false (by omega)];rfl
   obtain⟨hp1,hp2⟩:=pstop hR
   and_intros<;>first|exact dg|(rw[<- hp1];exact hX)|exact hfr|exact hb|exact hp2
 ·rintro⟨X,Y,rs,at_,k⟩ ⟨hX,hb,hfr,h1,h2⟩;dsimp only at *;have hcell:X y.b=some (0,dc { g with aV:=(fI g.buf 50 0).1 } Y.bv Y.rv):=by rw[<- hb];exact hX.at_.cell
  obtain⟨b1,b2,b3,b4,⟨ba,bc,b5⟩,b6⟩:=hX.at_.buf.len;have b1:di Y.bv=g.buf.length:=b1;have b4:g.buf.length<=jX Y.bv:=b4;have hbuf:fU X Y.bv g.buf:=hX.at_.buf;have e3:(dc { g with aV:=(fI g.buf 50 0).1 } Y.bv Y.rv).getD 3 (Value.tuple #[])=Y.bv:=rfl;refine⟨_,_,rfl,?_⟩;refine⟨_,_,rfl,?_⟩;refine⟨_,0,_,_,rfl,hcell,?_⟩;refine⟨⟨⟨_,rfl,b6⟩,trivial⟩,?_⟩;simp only[e3,Int.toNat_natCast]
  repeat refine lT ?_
  have hcut:=hbuf.cut (a:=0) (e:=at_) (by omega) h1;have hfpc:fW (nW 1 Y.bv 0 at_ (jX Y.bv))=fW Y.bv:=by
   obtain⟨c,hb⟩:=hbuf;rcases hb with⟨h0,_⟩ | ⟨b9,lo9,o9,cs9,h9,_⟩
   ·rw[h0];rfl
   ·rw[h9,Mq];rfl
  have hst:Step X Y.bv X (nW 1 Y.bv 0 at_ (jX Y.bv)):=fun x hx hn=>⟨rfl,by rw[hfpc];exact hn⟩
  have hby:fU X (nW 1 Y.bv 0 at_ (jX Y.bv)) (g.buf.take at_):=by
   refine⟨jX Y.bv-0,?_⟩;rw[show(g.buf.take at_).length=at_-0 by simp;omega];rcases hcut with h0 | ⟨b9,lo9,o9,cs9,g1,g2,g3,g4,g5⟩
   ·exact .inl h0
   ·refine .inr ⟨b9,lo9,o9,cs9,g1,g2,g3,g4,⟨fun i hi j q hj=>?_⟩⟩;have:=g5.at_ i hi j q hj;have e:aa cO g.buf (0+i) j=aa cO (g.buf.take at_) i j:=by
     unfold aa;rw[Nat.zero_add,Pw (by omega)]
    rwa[e]at this
  obtain⟨hc2,hs3,hf3⟩:=yH hX hst hby;refine⟨_,_,rfl,?_⟩;refine⟨_,_,rfl,?_⟩;refine⟨_,0,_,_,rfl,hcell,by simp[dc],?_⟩;refine⟨⟨aO X Y.b 0 (dc { g with aV:=(fI g.buf 50 0).1,buf:=g.buf.take at_ } (nW 1 Y.bv 0 at_ (jX Y.bv)) Y.rv),{ Y with bv:=nW 1 Y.bv 0 at_ (jX Y.bv) }⟩,?_⟩;have hM:zI g={ g with aV:=(fI g.buf 50 0).1,buf:=g.buf.take at_ }:=by unfold zI;rw[<- h2]
  rw[hM];refine And.intro (by rw[<- hb];rfl) (And.intro ⟨hs3,hb,hfr.trans hf3⟩ trivial))
theorem Lj:au (Y Tryz.prog).G.X 232 DX:=aU fF Li ⟨Uo,trivial⟩
end Go.Proofs.YtfjgoonelcaggaaGreat
namespace Go.Sx
section
def zJ(s:S)(K:S->Prop):Prop:=K ⟨s.nt,s.fr,⟨s.nx,true,.cI fun _=>none⟩::s.hp,s.nx+1,s.kp,s.rt⟩
theorem Nt:∀s K,zJ s K->yl s K:=by
 intro s K h w0 M ρ a w hs;have hl:=ρ.eE ⟨0,0,0,fun _=>False⟩;have hn:=hs.n;have hpl:(ρ.ext ⟨0,0,0,fun _=>False⟩).pl s.nx=⟨0,0,0,fun _=>False⟩:=by rw[<- hn];exact ρ.dH _
 refine⟨_,ρ.ext ⟨0,0,0,fun _=>False⟩,h,hl,⟨hs.defers,hs.size,by show ρ.n+1=s.nx+1;rw[hn],hs.frame.mono hl,?_⟩⟩;refine(hs.heap.mono hl).cons (e:=⟨s.nx,true,.cI fun _=>none⟩) ⟨by show s.nx<ρ.n+1;omega,?_,?_,?_⟩ fun x hx=>⟨?_,?_⟩
 ·intro b lo cs hb;cases hb
 ·rw[hpl];exact fun b hb=>hb.elim
 ·rw[hpl];exact fun _ b hb=>hb.elim
 ·have:=(hs.heap.iq x hx).tag;show s.nx≠x.tag;omega
 ·rw[hpl];exact fun _ b hb=>hb.elim
def An.zJ(key:Nat)(next:LH):An:=.view key Sx.zJ Nt next
def A.Gd:A->Bool
 |.ptr t _ _ _=>!Nat.beq t 0
 |.slc t _ _ _ _=>!Nat.beq t 0
 |.sub t _ _ _ _ _=>!Nat.beq t 0
 |_=>true
def CV.Gd:CV->Bool
 |.a x=>x.Gd
 |.agg xs=>xs.all A.Gd
def SV.Gd:SV->Bool
 |.a x=>x.Gd
 |.agg xs=>xs.all A.Gd
 |.ng xs=>xs.all CV.Gd
 |.Cg _ xs=>xs.all A.Gd
def Chunk.Gd:Chunk->Bool
 |.obj _ cs=>cs.all A.Gd
 |_=>true
structure Nu(ρ ρ':Env):Prop where
 n:ρ'.n=ρ.n
 pl:∀t,t≠0->ρ'.pl t=ρ.pl t
theorem ne0{t:Nat}(h:(!Nat.beq t 0)=true):t≠0:=by rintro rfl;simp at h
theorem A.cz.vg{ρ ρ':Env}(h:Nu ρ ρ'){x:A}(hx:x.Gd=true){v:Value}(r:x.cz ρ v):x.cz ρ' v:=by
 cases x<;>simp only[A.cz,A.Gd]at r hx ⊢<;>try exact r
 case ptr t _ _ _=>rw[h.n,h.pl t (ne0 hx)];exact r
 case slc t _ _ _ _=>rw[h.n,h.pl t (ne0 hx)];exact r
 case sub t _ _ _ _ _=>rw[h.n,h.pl t (ne0 hx)];exact r
theorem cE.vg{ρ ρ':Env}(h:Nu ρ ρ'):∀ {xs:List A} {vs:List Value},xs.all A.Gd=true->cE ρ xs vs->cE ρ' xs vs
 |[],_,_,r=>r
 |x::xs,_,hx,⟨v,t,e,r1,r2⟩=>by
  simp only[List.all_cons,Bool.and_eq_true]at hx;exact⟨v,t,e,r1.vg h hx.1,cE.vg h hx.2 r2⟩
theorem CV.cz.vg{ρ ρ':Env}(h:Nu ρ ρ'):∀ {x:CV} {v:Value},x.Gd=true->x.cz ρ v->x.cz ρ' v
 |.a _,_,hx,r=>A.cz.vg h hx r
 |.agg _,_,hx,⟨vs,e,r⟩=>⟨vs,e,cE.vg h hx r⟩
theorem tG.vg{ρ ρ':Env}(h:Nu ρ ρ'):∀ {xs:List CV} {vs:List Value},xs.all CV.Gd=true->tG ρ xs vs->tG ρ' xs vs
 |[],_,_,r=>r
 |x::xs,_,hx,⟨v,t,e,r1,r2⟩=>by
  simp only[List.all_cons,Bool.and_eq_true]at hx;exact⟨v,t,e,r1.vg h hx.1,tG.vg h hx.2 r2⟩
theorem SV.cz.vg{ρ ρ':Env}(h:Nu ρ ρ'):∀ {x:SV} {v:Value},x.Gd=true->x.cz ρ v->x.cz ρ' v
 |.a _,_,hx,r=>A.cz.vg h hx r
 |.agg _,_,hx,⟨vs,e,r⟩=>⟨vs,e,cE.vg h hx r⟩
 |.ng _,_,hx,⟨vs,e,r⟩=>⟨vs,e,tG.vg h hx r⟩
 |.Cg _ _,_,hx,⟨vs,e,r⟩=>⟨vs,e,cE.vg h hx r⟩
theorem Chunk.Sat.vg{ρ ρ':Env}(h:Nu ρ ρ'){p:Place}{w:World}{ch:Chunk}(hx:ch.Gd=true)(r:ch.Sat ρ p w):ch.Sat ρ' p w:=by
 cases ch with
 |obj ty cs=>obtain⟨vs,fr,h1,h2,⟨us,xs,h5,h3⟩,h4⟩:=r;exact⟨vs,fr,h1,h2,⟨us,xs,h5,h3.vg h hx⟩,h4⟩
 |arr ty ks n rows=>exact r
 |abs R=>exact r
 |cI H=>exact r
structure Sl1 where
 ty:Nat
 ks:List CK
 n:Nat
 cap:Nat
 rows:Nat->Nat->Value
structure V1(α:Type) where
 a:α
 H:PH
 v:Value
def cG.XL(C:cG)(sl:C.α->Sl1):cG where
 α:=V1 C.α
 β:=C.β
 m:=1
 m':=C.m'
 pre:=fun x=>C.pre x.a/\kR x.H x.v (sl x.a).ks (sl x.a).n (sl x.a).cap (sl x.a).rows
 args:=fun x=>[.a (.val x.v)]
 hp:=fun _=>[]
 ro:=fun x=>[(0,.cI x.H)]
 post:=fun x b=>C.post x.a b
 res:=fun x b=>C.res x.a b
 cR:=fun x b=>C.cR x.a b
structure abB(C:cG)(sl:C.α->Sl1):Prop where
 m:C.m=1
 hp:∀a,C.hp a=[]
 ro:∀a,C.ro a=[(0,.arr (sl a).ty (sl a).ks (sl a).n (sl a).rows)]
 args:∀a,C.args a=[.a (.slc 0 0 (sl a).ks.length (sl a).n (sl a).cap)]
 res:∀a b,(C.res a b).Gd=true
 cR:∀a b,∀p∈C.cR a b,p.1≠0/\p.2.Gd=true
theorem Lk{X:Cx}{C:cG}{f:Nat}(hs:mB X C f){sl:C.α->Sl1}(hv:abB C sl):mB X (C.XL sl) f:=by
 rintro⟨a,H,v⟩ ⟨hpre,hsl⟩ M ρ w vs hn hh hargs;obtain⟨u,_,rfl,hu,rfl⟩:=hargs;obtain⟨rfl,_⟩:=hu;have hps:=(hh.iq ⟨0,false,.cI H⟩ (by simp[xg,Fv,cG.XL])).ch;dsimp only at hpre hsl hps hn;obtain⟨p,hp1,hp2,hp3⟩:∃p:Place,(∀(ρ':Env),0<ρ'.n->ρ'.pl 0=p->(A.slc 0 0 (sl a).ks.length (sl a).n (sl a).cap).cz ρ' u)/\(∀ρ',(Chunk.arr (sl a).ty (sl a).ks (sl a).n (sl a).rows).Sat ρ' p w)/\∀b,p.fp b->b<w.heap.size:=by
  rcases hsl with⟨rfl,h0,h1⟩ | ⟨b,lo,o,cs,rfl,⟨hlc,hcm⟩,hH,hfit,hrows⟩
  ·exact⟨zw,fun ρ' h _=>⟨h,by omega,by rw[h1];exact Nat.zero_le _,.inl ⟨h0,h1,rfl⟩⟩,fun ρ'=>.inl ⟨h0,rfl,fun b hb=>hb⟩,fun b hb=>hb.elim⟩
  ·obtain⟨hfp,vs,vty,fr,hb,hvl,hvs,hun⟩:=hps b lo cs hH;refine⟨⟨b,lo+o,(sl a).cap,fun x=>x=b⟩,fun ρ' h e=>⟨h,hlc,hcm,.inr ⟨_,rfl,fun _=>by rw[e];simp⟩⟩,fun ρ'=>.inr ⟨vs,vty,fr,hb,by simp only;omega,hlc,fun x h1 h2=>hun x (by simp only at h1;omega) (by simp only at h2;omega),fun _=>Iff.rfl,fun i hi j k hk=>?_⟩,fun x hx=>?_⟩
   ·obtain⟨g1,g2⟩:=hrows.at_ i hi j k hk;refine⟨?_,g2⟩;have hlt:o+i*(sl a).ks.length+j<cs.length:=(List.getElem?_eq_some_iff.1 g1).1;rw[<- g1,<- hvs _ hlt];congr 1;simp only;omega
   ·simp only at hx;subst hx;exact(Array.getElem?_eq_some_iff.1 hb).1
 have hpl:(⟨1,fun _=>p⟩:Env).pl 0=p:=rfl;refine(hs a hpre M ⟨1,fun _=>p⟩ w [u] (by rw[hv.m]) ?_ ?_).mono ?_
 ·rw[hv.hp,hv.ro];refine⟨hh.keeps,fun e he=>?_,by simp[xg,Fv]⟩;have he:e=⟨0,false,.arr (sl a).ty (sl a).ks (sl a).n (sl a).rows⟩:=by simpa[xg,Fv]using he
  subst he;exact⟨Nat.one_pos,hp2 _,hp3,fun h=>(by cases h)⟩
 ·rw[hv.args];exact⟨u,[],rfl,hp1 _ Nat.one_pos rfl,rfl⟩
 ·rintro e w' ⟨r,rfl,o,ρ2,g1,g2,g3,g4,g5⟩;have hoff:Nu ρ2 ⟨ρ2.n,fun t=>if t=0 then ρ.pl 0 else ρ2.pl t⟩:=⟨rfl,fun t ht=>if_neg ht⟩
  refine⟨r,rfl,o,⟨ρ2.n,fun t=>if t=0 then ρ.pl 0 else ρ2.pl t⟩,g1,g2,fun T hT=>?_,g4.vg hoff (hv.res a o),?_⟩
  ·have hT:T<1:=hT;have:T=0:=by omega
   subst this;rfl
  ·have hent:∀e∈xg (C.cR a o),e.tag≠0/\e.ch.Gd=true:=fun e he=>by
    obtain⟨q,hq,rfl⟩:=List.mem_map.1 he;exact hv.cR a o q hq
   refine⟨g5.keeps,fun e he=>?_,g5.apart.imp_of_mem fun {x y} hx hy hxy=>?_⟩
   ·obtain⟨h1,h2⟩:=hent e he;have he:=g5.iq e he;exact⟨he.tag,by rw[hoff.pl _ h1];exact he.ch.vg hoff h2,by rw[hoff.pl _ h1];exact he.lt,by rw[hoff.pl _ h1];exact he.own⟩
   ·refine⟨hxy.1,?_⟩;rw[hoff.pl _ (hent x hx).1,hoff.pl _ (hent y hy).1];exact hxy.2
end
end Go.Sx
namespace Go.Proofs.YtfjgoonelcaggaaGreat
open Go.Sx
structure Mi where
 g:dJ
 ok:Bool
 run:Int
def g0:dJ:=⟨0,0,0,[],[]⟩
def xH(L:b8)(d:bG)(k i:Nat):Nat->Int:=d.now (L.from_+k*8+i)
def rdStep(x:Mi)(i:Nat)(f:Nat->Int):Mi :=
 ⟨if !(x.ok&&gv x.g i f)&&decide (i=0)then { (if x.ok then ij x.g i f else x.g)with gen:=0 }else(if x.ok then ij x.g i f else x.g),x.ok&&gv x.g i f,max x.run (uw .i64 (gB f 10 4)+1)⟩
def lQ(L:b8)(d:bG)(k:Nat):Nat->Mi
 |0=>⟨g0,true,L.run⟩
 |i+1=>rdStep (lQ L d k i) i (xH L d k i)
def nZ(L:b8)(d:bG)(k:Nat):Option dJ :=
 if(lQ L d k 8).g.gen<1\/((lQ L d k 8).g.gen-1).tmod L.av≠k then none else some (zI (lQ L d k 8).g)
structure Up(L:b8)(d:bG)(k:Nat):Prop where
 run:∀i,i<8->0<=uw .i64 (gB (xH L d k i) 10 4)/\uw .i64 (gB (xH L d k i) 10 4)<100000000000
 used:∀i,i<8->(lQ L d k i).ok=true->gv (lQ L d k i).g i (xH L d k i)=true->0<xH L d k i 15
theorem Nv(g:dJ)(i:Nat)(f:Nat->Int):(ij g i f).aV=g.aV:=by
 have e:(qW g i f).aV=g.aV:=by unfold qW;split<;>rfl
 unfold ij;split
 ·exact e
 ·exact e
theorem Rj(g:dJ)(i:Nat)(f:Nat->Int):(qW g i f).buf=g.buf:=by
 unfold qW;split<;>rfl
theorem Uq{g:dJ}{i:Nat}{f:Nat->Int}(h:gv g i f=false):ij g i f=qW g i f:=by
 unfold ij;rw[h];rfl
theorem Rk{g:dJ}{i:Nat}{f:Nat->Int}(h:gv g i f=true):(ij g i f).buf=g.buf++(List.range (f 15).toNat).map fun k=>f (uy i+k):=by
 unfold ij;rw[if_pos h]
theorem Rl{g:dJ}{i:Nat}{f:Nat->Int}(h:gv g i f=true):f 15<=kX i/\g.buf.length=cw i:=by
 unfold gv at h;simp only[Bool.and_eq_true,decide_eq_true_eq]at h;exact h.2.2.2.2
theorem Rm{g:dJ}{i:Nat}{f:Nat->Int}(h:g.buf.length<=cw i):(ij g i f).buf.length<=cw (i+1):=by
 cases hB:gv g i f with
 |false=>rw[Uq hB,Rj];unfold cw at *;omega
 |true =>
  obtain⟨h1,h2⟩:=Rl hB;rw[Rk hB];simp only[List.length_append,List.length_map,List.length_range];unfold cw kX at *;split at h1<;>omega
structure YZ(L:b8)(x:Mi)(i:Nat):Prop where
 aV:x.g.aV=[]
 buf:x.g.buf.length<=cw i
 run:0<=x.run/\x.run<200000000000
theorem DY{L:b8}{d:bG}{k:Nat}(h:Up L d k)(h0:0<=L.run/\L.run<200000000000):∀i,i<=8->YZ L (lQ L d k i) i
 |0,_=>⟨rfl,by show[].length<=_;simp,h0⟩
 |i+1,hi=>by
  have ih:=DY h h0 i (by omega);have hr:=h.run i (by omega);obtain⟨g1,g2,g3⟩:=ih;have hb:(if(lQ L d k i).ok then ij (lQ L d k i).g i (xH L d k i)else(lQ L d k i).g).aV=[]/\(if(lQ L d k i).ok then ij (lQ L d k i).g i (xH L d k i)else(lQ L d k i).g).buf.length<=cw (i+1):=by
   split
   ·exact⟨(Nv _ _ _).trans g1,Rm g2⟩
   ·exact⟨g1,by unfold cw at *;omega⟩
  show YZ L (rdStep (lQ L d k i) i (xH L d k i)) (i+1);unfold rdStep;refine⟨?_,?_,by dsimp only;omega⟩
  ·dsimp only;split
   ·exact hb.1
   ·exact hb.1
  ·dsimp only;split
   ·exact hb.2
   ·exact hb.2
theorem gj.aaH{X:PH}{y:nv}{g:dJ}(h:gj X y g):gj (aO X y.b 0 (dc { g with gen:=0 } y.bv y.rv)) y { g with gen:=0 }/\Fr X y (aO X y.b 0 (dc { g with gen:=0 } y.bv y.rv)) y :=
 uz h rfl rfl ⟨by simp only[bR];omega,h.at_.Cj.2.1,h.at_.Cj.2.2⟩
theorem aaI(H:PH)(b:Nat):gj (aO H b 0 [.int .i64 0,.int .i64 0,.int .i64 0,.slice none 0 0,.slice none 0 0]) (newL b) g0 :=
 ⟨⟨dP ..,⟨by simp only[g0,bR];omega,by simp only[g0,bR];omega,by simp only[g0,bR];omega⟩,⟨0,.inl ⟨rfl,rfl,rfl⟩⟩,⟨0,.inl ⟨rfl,rfl,rfl⟩⟩,rfl,fun i hi=>absurd hi (Nat.not_lt_zero i)⟩,by simp[newL,bE,fW]⟩
structure tu where
 H:PH
 L:b8
 lv:Value
 d:bG
 k:Nat
structure PI where
 H:PH
 y:nv
 v:Value
def DZ(H:PH)(b:PI):Option dJ->Prop
 |none=>b.v = .pointer none/\∀x,H x≠none->b.H x=H x
 |some g=>b.v=pv b.y.b 0/\gj b.H b.y g/\∀x,H x≠none->b.H x=H x/\x∉bE b.y
noncomputable def Nw:cG where
 α:=tu
 β:=PI
 m:=4
 m':=5
 pre:=fun a=>a.k<a.L.av/\3<=a.L.av/\a.L.av<=200/\a.L.from_+a.L.av*8<=a.d.n/\a.d.n<100000/\0<=a.L.run/\a.L.run<200000000000/\Up a.L a.d a.k
 args:=fun a=>[.a (.ptr 0 0 0 0),.a (.int .i64 a.k)]
 hp:=fun a=>[(0,gu 1 a.L a.lv),(3,.cI a.H)]
 ro:=fun a=>ic 1 2 a.d
 post:=fun a b=>DZ a.H b (nZ a.L a.d a.k)
 res:=fun _ b=>.a (.val b.v)
 cR:=fun a b=>[(0,gu 1 { a.L with run:=(lQ a.L a.d a.k 8).run } a.lv),(4,.cI b.H)]
structure Ur where
 i:Nat
 H:PH
 y:nv
def ZK(a:tu):An:=.flat 4 Ur (fun s x=>S.cI ((((s.at_ (s.tg 0) (gu (s.qx (s.tg 0) 0) { a.L with run:=(lQ a.L a.d a.k x.i).run } a.lv)).set 5 (.a (.val (pv x.y.b 0)))).set 6 (.a (.bool (lQ a.L a.d a.k x.i).ok))).int 12 x.i) x.H)
 (fun _ x=>x.i<=8/\gj x.H x.y (lQ a.L a.d a.k x.i).g/\∀z,a.H z≠none->x.H z=a.H z/\z∉bE x.y) (fun _ x=>8-x.i)
def ZL(a:tu):An:=.PD 3 5 (.mk 1000 [ZK a] [])
def oq(x:tu)(y:Ur):Mi:=lQ x.L x.d x.k y.i
def pR(x y:Option (Nat×List Value))(z:List Nat)(u:Nat):=x≠none->y=x/\¬u∈z
def Iw(x:Ur)(u:tu):=gj x.H x.y (Mi.g (oq u x))/\∀z:Nat,pR (u.H z) (x.H z) (bE x.y) z
def Iy(x:tu)(y:Int)(z:Mi)(u:Prop):=ag (aP x.L.from_ (aP x.L.av (cH x.lv/\ay x.L.next/\y=z.run/\bn x.L.fresh/\u)))
def Ll(x:tu)(u:PH)(y z:Ur)(v:yp):=ag (aP x.k (u=y.H/\Iy x (qf true (Mi.run (oq x z)) (sE v+(1:Int))) (oq x y) (gP x.d x.d (dD y.i 8 (Iw y x) z.i))))
def Iz(z:Value)(u:PH)(x:tu)(w:Ur):=∃y:PI,z=y.v/\u=y.H/\Iy x (Mi.run (oq x w)) (lQ x.L x.d x.k 8) (DZ x.H y (nZ x.L x.d x.k)/\True)
def IA(x:tu):=x.k<x.L.av/\3<=x.L.av/\x.L.av<=200/\iT (x.L.from_+x.L.av*8) x.d.n ((0:Int)<=x.L.run/\x.L.run<(200000000000:Int)/\Up x.L x.d x.k)
theorem Rn:fnBody (Y Tryz.prog) [(201,DB),(230,KY),(231,Uj),(232,DX)] 205 Nw fun a=>[(205,[],[ZL a])]:=fnBody.of (p :=
 ∀u:tu,IA u->∀o:Nat,u.H o=none->(∃x:Ur,aT x.i (true=Mi.ok (oq u x)/\kZ o x.y.b/\ag (aP u.k (DN u.H o 0 0=x.H/\Iy u u.L.run (oq u x) (gP u.d u.d ((x.i<=8/\Iw x u)/\True))))))/\∀x:Ur,x.i<=8/\Iw x u->aX (af x.i) 8 (Ic u.L (af u.k) x.i (∃w:RdA,ag (af u.L.from_+af u.k*(8:Int)+af x.i=af w.i/\gP u.d w.d ((w.i<w.d.n/\w.d.n<100000)/\∀h:Nat,64<=h->ai (Mi.run (oq u x))->cK 14 h/\eo 10 14/\vY 10 4 h 10 (w.d.now w.i) fun j=>ai (sE j+(1:Int))/\aD (Mi.ok (oq u x)) (∃z:zH,kZ x.y.b z.y.b/\bC x.i z.i/\bF 64 (h=z.cap)/\x.H=z.H/\aG 64 64 1 (bW (w.d.now w.i)) (bW z.f)/\Iq z/\∀v:BQ,DW v z->qp (bq (gv z.g z.i z.f)) (af x.i == (0:Int)) (Exists (kY (pv x.y.b 0) 0 (fun s=>v.H s) (fun s t=>s+1<=t.length) fun s t q r=>aQ x.i (∃l:Ur,aY x.i=af l.i/\gv z.g z.i z.f=Mi.ok (oq u l)/\kZ x.y.b l.y.b/\Ll u (aO v.H s t (qV q r (gp 0) 1)) l x j))) (aQ x.i (∃s:Ur,aY x.i=af s.i/\gv z.g z.i z.f=Mi.ok (oq u s)/\kZ x.y.b s.y.b/\Ll u v.H s x j))) (aD (af x.i == (0:Int)) (Exists (kY (pv x.y.b 0) 0 (fun z=>x.H z) (fun z v=>z+1<=v.length) fun z v c s=>aQ x.i (∃t:Ur,aY x.i=af t.i/\fV (Mi.ok (oq u t)) (kZ x.y.b t.y.b) (Ll u (aO x.H z v (qV c s (gp 0) 1)) t x j)))) (aQ x.i (∃z:Ur,aY x.i=af z.i /\
 fV (Mi.ok (oq u z)) (kZ x.y.b z.y.b) (Ll u x.H z x j)))))))) (gV (pv x.y.b 0) 0 (fun w=>x.H w) fun w h=>aX (jW (aW h w)) 1 (Iz DM x.H u x) (gV (pv x.y.b 0) 0 (fun m=>x.H m) fun m p=>ai (jW (aW p m)-(1:Int))/\(ai (af u.L.av)->af u.L.av≠(0:Int)/\aD ((jW (aW p m)-(1:Int)).tmod (af u.L.av) != af u.k) (Iz DM x.H u x) (∃z:u5,kZ x.y.b z.y.b/\x.H=z.H/\(gj z.H z.y z.g/\ah z.g.buf<=378/\z.g.aV=[])/\∀v:BQ,gj v.H v.y (zI z.g)/\v.y.b=z.y.b/\Fr z.H z.y v.H v.y->Iz (pv x.y.b 0) v.H u x))))) (by kernel_rfl) (by
 delta qp aD aW ah ig ai bF aG ay bT bn qf aK aY af eo kY bP aC dW cH fV bw aB Ll dD aP gV sE gW vY Iz aT ag oq aX pR DW pN IA bq aQ sk bC cK Iw kZ Iq Iy iT gp Ic jP qV DN pM DM
 try dsimp -iota -proj only
 rintro⟨H,L,lv,d,k⟩ ⟨h1,h2,h3,h4,h5,h6,h7,ok⟩;dsimp only at *;intro b hb;refine⟨⟨⟨0,aO H b 0 [.int .i64 0,.int .i64 0,.int .i64 0,.slice none 0 0,.slice none 0 0],newL b⟩,?_⟩,?_⟩
 ·have hz:∀z,H z≠none->aO H b 0 [.int .i64 0,.int .i64 0,.int .i64 0,.slice none 0 0,.slice none 0 0] z=H z/\¬z∈bE (newL b):=fun z hz=>by
   have:z≠b:=fun e=>hz (by rw[e];exact hb);exact⟨cN this,by simpa[newL,bE,fW]using this⟩
  and_intros<;>first|exact dg|exact aaI H b|exact hz|rfl
 ·rintro⟨i,X,Y⟩ ⟨hi,hX,hfr⟩;dsimp only at *;obtain⟨v1,v2,v3⟩:=DY ok ⟨h6,h7⟩ i hi;refine⟨fun c1=>?_,fun c1=>?_⟩
  ·have hi8:i<8:=by have:=of_decide_eq_true c1;omega
   obtain⟨F,hF⟩:∃F,F=xH L d k i:=⟨_,rfl⟩
   have hok:=ok.run i hi8;have hus:=ok.used i hi8;have hstep:lQ L d k (i+1)=rdStep (lQ L d k i) i F:=by rw[hF];rfl
   have hdn:d.now (L.from_+k*8+i)=F:=by rw[hF];rfl
   rw[<- hF]at hok hus;obtain⟨R,hR⟩:∃R,R=lQ L d k i:=⟨_,rfl⟩
   rw[<- hR]at hX v1 v2 v3 hus ⊢;have e10:kE (fun i=>u8 (bW F) (10+i)) 4=gB F 10 4:=rfl;intro _;refine⟨by simp only[bR];omega,by simp only[bR];omega,by simp only[bR];omega,RdA.mk d (L.from_+k*8+i),?_⟩;have hin:L.from_+k*8+i<d.n:=by omega
   and_intros<;>first|exact dg|skip
   intro cap hcap;intro _
   repeat refine lT ?_
   refine⟨yp.mk 10 4 (cap-10) 64 (bW F),?_⟩;simp only[hdn]
   and_intros<;>first|exact dg|skip
   intro _ _;simp only[e10,cond_true];refine⟨by simp only[bR];omega,fun c2=>⟨zH.mk X Y R.g i F cap,?_⟩,fun c2=>⟨fun c3=>?_,fun c3=>?_⟩⟩
   ·have hsz:R.g.buf.length<=378:=by unfold cw at v2;omega
    and_intros<;>first|exact dg|exact hX|exact hus c2|skip
    rintro⟨X1,Y1⟩ ⟨t1,t2,t3,t4⟩;dsimp only at *;have f1:∀z,H z≠none->X1 z=H z/\¬z∈bE Y1:=fun z hz=>by
     obtain⟨a1,a2⟩:=hfr z hz;obtain⟨b1,b2⟩:=t4 z (by rw[a1];exact hz) a2;exact⟨b1.trans a1,b2⟩
    refine⟨fun c3=>⟨fun c4=>?_,fun c4=>?_⟩,fun c3=>?_⟩
    ·have hg:(rdStep R i F).g={ ij R.g i F with gen:=0 }:=by
      have:gv R.g i F=false:=by simpa using c3
      have hi0:i=0:=by simpa using c4
      subst hi0;simp[rdStep,c2,this]
     obtain⟨q1,q2⟩:=t1.aaH;refine⟨_,_,rfl,_,_,rfl,Y1.b,0,0,_,by rw[t2],t1.at_.cell,by simp[dc],by simp only[bR];omega,⟨i+1,aO X1 Y1.b 0 (dc { ij R.g i F with gen:=0 } Y1.bv Y1.rv),Y1⟩,?_⟩;rw[hstep,<- hR];have f2:∀z,H z≠none->aO X1 Y1.b 0 (dc { ij R.g i F with gen:=0 } Y1.bv Y1.rv) z=H z/\¬z∈bE Y1:=fun z hz=>by
      obtain⟨a1,a2⟩:=f1 z hz;obtain⟨b1,b2⟩:=q2 z (by rw[a1];exact hz) a2;exact⟨b1.trans a1,b2⟩
     rw[hg]
     and_intros<;>first|exact dg|exact q1|exact f2|(rw[t2];done)|(simp[rdStep,c2];done)|rfl|skip
    ·have hg:(rdStep R i F).g=ij R.g i F:=by
      have hi0:i≠0:=by simpa using c4
      simp[rdStep,c2,hi0]
     refine⟨by simp only[bR];omega,⟨i+1,X1,Y1⟩,?_⟩;rw[hstep,<- hR,hg]
     and_intros<;>first|exact dg|exact t1|exact f1|(rw[t2];done)|(simp[rdStep,c2];done)|rfl|skip
    ·have hg:(rdStep R i F).g=ij R.g i F:=by
      have:gv R.g i F=true:=by simpa using c3
      simp[rdStep,c2,this]
     refine⟨by simp only[bR];omega,⟨i+1,X1,Y1⟩,?_⟩;rw[hstep,<- hR,hg]
     and_intros<;>first|exact dg|exact t1|exact f1|(rw[t2];done)|(simp[rdStep,c2];done)|rfl|skip
   ·have hg:(rdStep R i F).g={ R.g with gen:=0 }:=by
     have hi0:i=0:=by simpa using c3
     subst hi0;simp[rdStep,c2]
    obtain⟨q1,q2⟩:=hX.aaH;refine⟨_,_,rfl,_,_,rfl,Y.b,0,0,_,rfl,hX.at_.cell,by simp[dc],by simp only[bR];omega,⟨i+1,aO X Y.b 0 (dc { R.g with gen:=0 } Y.bv Y.rv),Y⟩,?_⟩;rw[hstep,<- hR];have f2:∀z,H z≠none->aO X Y.b 0 (dc { R.g with gen:=0 } Y.bv Y.rv) z=H z/\¬z∈bE Y:=fun z hz=>by
     obtain⟨a1,a2⟩:=hfr z hz;obtain⟨b1,b2⟩:=q2 z (by rw[a1];exact hz) a2;exact⟨b1.trans a1,b2⟩
    rw[hg]
    and_intros<;>first|exact dg|exact q1|exact f2|(simp[rdStep,c2];done)|rfl|skip
   ·have hg:(rdStep R i F).g=R.g:=by
     have hi0:i≠0:=by simpa using c3
     simp[rdStep,c2,hi0]
    refine⟨by simp only[bR];omega,⟨i+1,X,Y⟩,?_⟩;rw[hstep,<- hR,hg]
    and_intros<;>first|exact dg|exact hX|exact hfr|(simp[rdStep,c2];done)|rfl|skip
  ·have hi8:i=8:=by have:=of_decide_eq_false c1;omega
   subst hi8;obtain⟨r1,r2,r3⟩:=hX.at_.Cj;have hcell:=hX.at_.cell;obtain⟨R,hR⟩:∃R,R=lQ L d k 8:=⟨_,rfl⟩
   rw[<- hR]at hX v1 v2 v3 r1 hcell ⊢;have hseg:nZ L d k=if R.g.gen<1\/(R.g.gen-1).tmod L.av≠k then none else some (zI R.g):=by rw[hR];rfl
   have fnone:nZ L d k=none->DZ H ⟨X,Y,.pointer none⟩ (nZ L d k):=fun e=>by
    rw[e];exact⟨rfl,fun z hz=>(hfr z hz).1⟩
   refine⟨_,_,rfl,?_⟩;refine⟨_,_,rfl,?_⟩;refine⟨_,0,_,_,rfl,hcell,?_⟩;refine⟨⟨⟨_,rfl,_,rfl,r1⟩,trivial⟩,fun _=>?_⟩;simp only[dc,List.getD_cons_zero,jW];refine⟨fun c2=>⟨⟨X,Y,.pointer none⟩,?_⟩,fun c2=>?_⟩
   ·have c2:=of_decide_eq_true c2;have hno:nZ L d k=none:=by rw[hseg,if_pos (.inl c2)]
    and_intros<;>first|exact dg|exact fnone hno|rfl
   ·have c2:=of_decide_eq_false c2;refine⟨_,_,rfl,?_⟩;refine⟨_,_,rfl,?_⟩;refine⟨_,0,_,_,rfl,hcell,?_⟩;refine⟨⟨⟨_,rfl,_,rfl,r1⟩,trivial⟩,fun _=>?_⟩;simp only[dc,List.getD_cons_zero,jW];refine⟨by simp only[bR]at *;omega,fun _=>⟨by omega,fun c3=>⟨⟨X,Y,.pointer none⟩,?_⟩,fun c3=>?_⟩⟩
    ·have c3:(R.g.gen-1).tmod L.av≠k:=by simpa using c3
     have hno:nZ L d k=none:=by rw[hseg,if_pos (.inr c3)]
     and_intros<;>first|exact dg|exact fnone hno|rfl
    ·have c3:(R.g.gen-1).tmod L.av=k:=by simpa using c3
     have hyes:nZ L d k=some (zI R.g):=by rw[hseg,if_neg (by rintro(e|e)<;>omega)]
     refine⟨u5.mk X Y R.g,?_⟩;have hsz:R.g.buf.length<=378:=v2
     and_intros<;>first|exact dg|exact hX|exact v1|skip
     rintro⟨X1,Y1⟩ ⟨t1,t2,t3⟩;dsimp only at *;have f1:∀z,H z≠none->X1 z=H z/\¬z∈bE Y1:=fun z hz=>by
      obtain⟨a1,a2⟩:=hfr z hz;obtain⟨b1,b2⟩:=t3 z (by rw[a1];exact hz) a2;exact⟨b1.trans a1,b2⟩
     refine⟨⟨X1,Y1,pv Y.b 0⟩,?_⟩;rw[hyes];have hp:DZ H ⟨X1,Y1,pv Y.b 0⟩ (some (zI R.g)):=⟨by rw[t2],t1,f1⟩
     and_intros<;>first|exact dg|exact t1|exact f1|(show pv Y.b 0=pv Y1.b 0;rw[t2])|rfl)
theorem Ro:au (Y Tryz.prog).G.X 205 Nw:=aU fF Rn ⟨K0,CF,Ul,Lj,trivial⟩
noncomputable def PJ(n:Int):cG where
 α:=Unit
 β:=Unit
 m:=0
 m':=0
 pre:=fun _=>True
 args:=fun a=>[.a (.lit .u64 n)]
 hp:=fun _=>[]
 ro:=fun _=>[]
 post:=fun _ _=>True
 res:=fun _ b=>.a (.lit .i64 n)
 cR:=fun _ _=>[]
theorem Us:fnBody (Yf Tryz.prog) [] 189 (PJ 0) fun _=>[]:=fnBody.of (p :=
 aB (bz (ay 0))) (by kernel_rfl) (by
 delta ay aB bz az bt
 exact fun _ _=>⟨(),rfl,trivial,trivial⟩)
theorem Ut:fnBody (Yf Tryz.prog) [] 189 (PJ 1) fun _=>[]:=fnBody.of (p :=
 aB (bz (ay 1))) (by kernel_rfl) (by
 delta ay aB bz az bt
 exact fun _ _=>⟨(),rfl,trivial,trivial⟩)
noncomputable def Uu:cG where
 α:=Int
 β:=Unit
 m:=0
 m':=0
 pre:=fun a=>a=0\/a=1
 args:=fun a=>[.a (.int .u64 a)]
 hp:=fun _=>[]
 ro:=fun _=>[]
 post:=fun _ _=>True
 res:=fun a _=>.a (.int .i64 a)
 cR:=fun _ _=>[]
theorem Uv(n:Int)(h:fnBody (Yf Tryz.prog) [] 189 (PJ n) fun _=>[]):mB (Yf Tryz.prog).G.X (PJ n) 189:=CC aas (fun _=>CD aas (jK:=[]) trivial) h.body
theorem XM:mB (Y Tryz.prog).G.X Uu 189:=by
 intro a ha M ρ w vs hn hh hargs;rcases ha with rfl|rfl
 ·exact Uv 0 Us () trivial M ρ w vs hn hh hargs
 ·exact Uv 1 Ut () trivial M ρ w vs hn hh hargs
theorem Uw:au (Y Tryz.prog).G.X 189 Uu:=fun _ _ _ h=>xk XM h
noncomputable def XN(k:Nat):cG where
 α:=Unit
 β:=Unit
 m:=0
 m':=0
 pre:=fun _=>False
 args:=fun _=>List.replicate k (.a .any)
 hp:=fun _=>[]
 ro:=fun _=>[]
 post:=fun _ _=>True
 res:=fun _ _=>.a .any
 cR:=fun _ _=>[]
theorem IB(k f:Nat):au (Y Tryz.prog).G.X f (XN k):=aU fF (jK:=[]) (l:=fun _=>[]) ⟨fun a h=>False.elim h⟩ trivial
structure Lm where
 v:Value
 n:Nat
def D3(v:Value)(n:Nat):Prop:=n<=1/\(∃a c,v = .slice a n c)/\v.oneCell'=true
noncomputable def Ux:cG where
 α:=Lm
 β:=Unit
 m:=0
 m':=0
 pre:=fun a=>D3 a.v a.n
 args:=fun a=>[.a (.val a.v),.a (.int .i64 0),.a (.int .i64 a.n),.a (.fn 207)]
 hp:=fun _=>[]
 ro:=fun _=>[]
 post:=fun _ _=>True
 res:=fun _ _=>.ng []
 cR:=fun _ _=>[]
def aaJ:An:=.flat 4 Unit (fun s _=>s) (fun _ _=>False) (fun _ _=>0)
def aaK(a:Lm):An:=.mk 1 Unit (fun s _=>s) (fun _ _=>True) (fun _ _=>0) fun _=>.mk 60 [aaJ] []
theorem Uy:fnBody (Y Tryz.prog) [] 254 Ux fun a=>[(254,[aaK a],[])]:=fnBody.of (p :=
 ∀x:Lm,D3 x.v x.n->ai 1/\Exists (az (ay 1/\cH x.v/\aI (aP x.n (True/\True))))/\aB (aX 1 (af x.n) (Exists (az (ay 1/\bn (aK 1 (af x.n))/\ay 1/\cH x.v/\aI (aP x.n (False/\True))))/\∀y:Unit,False->aD true (Exists (jh x.v 1 fun z u=>False)) (ai 2/\Exists (az ((2:Int)=1/\cH x.v/\aI (aP x.n (True/\0<0)))))) (Exists (az (True/\True))))) (by kernel_rfl) (by
 delta aD ai ay bn aK af bf aC cH aB aP aI jh az aX
 try dsimp -iota -proj only
 rintro⟨v,n⟩ ⟨h1,_⟩;dsimp only at *;refine⟨by simp only[bR];omega,⟨(),?_⟩,fun _ _=>⟨fun c1=>?_,fun _=>⟨(),trivial,trivial⟩⟩⟩
 ·and_intros<;>first|trivial|rfl
 ·exfalso;have:=of_decide_eq_true c1;omega)
theorem Uz:au (Y Tryz.prog).G.X 254 Ux:=aU fF Uy trivial
noncomputable def Nx:cG where
 α:=Lm
 β:=Unit
 m:=0
 m':=0
 pre:=fun a=>D3 a.v a.n
 args:=fun a=>[.a (.val a.v),.a (.fn 207)]
 hp:=fun _=>[]
 ro:=fun _=>[]
 post:=fun _ _=>True
 res:=fun _ _=>.ng []
 cR:=fun _ _=>[]
noncomputable def UA:List (Nat×cG):=[(189,Uu),(254,Ux),(255,XN 4),(256,XN 4),(257,XN 4)]
def ZM:An:=.flat 2 Unit (fun s _=>s) (fun _ _=>True) (fun _ _=>0)
theorem Rp:fnBody (Y Tryz.prog) UA 206 Nx fun a=>[(233,[ZM],[])]:=fnBody.of (p :=
 ∀x:Lm,D3 x.v x.n->gD x.v/\∃y:Int,cD (af (di x.v))=y/\(y=(0:Int)\/y=(1:Int))/\aB (Exists (az (bn true/\bn true/\cH x.v/\mJ 0 (af (di x.v)) y True True))/\aB (ai (af (di x.v)-(0:Int))/\aD (cn (af (di x.v)-(0:Int)) 12) (∃z:Lm,x.v=z.v/\aI (bC (di x.v) z.n/\D3 z.v z.n/\aB (Exists (az (True/\True))))) (aD (y == (0:Int)) (Exists (az (False/\aB (Exists (az (True/\True)))))) (Exists (az (False/\aB False))))))) (by kernel_rfl) (by
 delta aD mJ ai ay bn af aC cH aB gD cD aI cn az bC
 rintro⟨v,n⟩ ⟨h1,⟨ba,c,h2⟩,h3⟩;dsimp only at h1 h2 h3;subst h2;have hl:di (.slice ba n c)=n:=rfl;dsimp only at *;rw[hl];have e1:uw .u64 (n:Int)=n:=by simp only[uw];omega
 refine⟨⟨_,_,_,rfl,by simp only[aq];omega⟩,n,e1,by omega,fun _ _=>⟨⟨(),?_⟩,fun _ _=>⟨by simp only[bR];omega,fun c1=>⟨⟨.slice ba n c,n⟩,?_⟩,fun c1=>?_⟩⟩⟩
 ·and_intros<;>first|trivial|rfl
 ·have hp:D3 (.slice ba n c) n:=⟨h1,⟨_,_,rfl⟩,h3⟩
  (repeat' (first|apply And.intro|(intro _)|apply Exists.intro ()))<;>first|trivial|rfl|omega|exact h1|exact h3|exact⟨_,_,rfl⟩
 ·exfalso;have:=of_decide_eq_false c1;omega)
theorem Rq:au (Y Tryz.prog).G.X 206 Nx:=aU fF Rp ⟨Uw,Uz,IB _ _,IB _ _,IB _ _,trivial⟩
structure xR where
 H:PH
 y:iL
 L:b8
 gb:Nat
 t:Int
 s:Int
noncomputable def xq:cG where
 α:=xR
 β:=Unit
 m:=3
 m':=3
 pre:=fun a=>ct a.H a.y a.L/\a.L.l.length<1000/\0<=a.s/\a.s<=1000/\bR .i64 a.t/\0<=a.t/\(∃r,a.H a.gb=some (0,.int .i64 a.t::r))/\∀i,i<a.L.l.length->a.t-a.s<(gl a.L.l i).gen
 args:=fun a=>[.a (.val a.y.lv),.Cg 209 [.ptr 0 0 0 0,.ptr 1 0 0 0]]
 hp:=fun _=>[]
 ro:=fun a=>[(0,.obj 289 [.val (pv a.gb 0)]),(1,.obj 3 [.int .i64 a.s]),(2,.cI a.H)]
 post:=fun _ _=>True
 res:=fun a _=>.a (.val a.y.lv)
 cR:=fun _ _=>[]
noncomputable def IC:cG where
 α:=xR
 β:=Unit
 m:=3
 m':=3
 pre:=xq.pre
 args:=xq.args
 hp:=fun _=>[]
 ro:=xq.ro
 post:=fun _ _=>True
 res:=fun a _=>.a (.lit .i64 (-1))
 cR:=fun _ _=>[]
def XO(a:xR):An:=.flat 2 Nat (fun s k=>s.int 8 k) (fun _ k=>k<=a.L.l.length) (fun _ k=>a.L.l.length-k)
def yN(x:xR):=ct x.H x.y x.L/\bK x.L<1000/\(0:Int)<=x.s/\x.s<=(1000:Int)/\ai x.t/\(0:Int)<=x.t/\(∃z:List Value,x.H x.gb=some (0,bT x.t z))/\∀z:Nat,z<bK x.L->x.t-x.s<(gl x.L.l z).gen
theorem Ny:fnBody (Y Tryz.prog) [] 234 IC fun a=>[(234,[XO a],[])]:=fnBody.of (p :=
 ∀x:xR,yN x->gD x.y.lv/\cm (fun z=>AJ x.y x.gb (ay x.s/\x.H=x.H/\z<=bK x.L/\True)) fun z=>z<=bK x.L->qg z x.y.lv 1 (fun u=>x.H u) (fun u=>ey u) (fun u t=>True) (fun u t=>gV (aW t u) 0 (fun v=>x.H v) fun v f=>gV (pv x.gb 0) 0 (fun w=>x.H w) fun w g=>ai x.s->pO (jW (aW g w)-x.s) (jW (aW f v)) (bz (af z=(-1:Int))) (bH z fun h=>AJ x.y x.gb (ay x.s/\x.H=x.H/\bS h (bK x.L) z))) (bz (ay (-1:Int)))) (by kernel_rfl) (by
 delta aD aW ig ai bF ay bT ax aK aY af kY nC bf aC aR dW cH bw gD bz qg bS ey aP bK bH gV yN aI cn jh bM aT az ag pO aA aQ AJ bt jP cm
 try dsimp -iota -proj only
 rintro⟨H,y,L,gb,T,S⟩ ⟨hl,h1,h2,h2',h3,h4,⟨gr,hgb⟩,h5⟩;dsimp only at *;obtain⟨e1,_,⟨ea,ec,e2⟩,e3,_⟩:=hl.sA;refine⟨⟨ea,_,ec,e2,e3⟩,⟨0,?_⟩,fun k hk=>⟨fun c1=>?_,fun c1=>⟨(),?_⟩⟩⟩
 ·and_intros<;>first|exact dg
 ·rw[e1]at c1;have hk:k<L.l.length:=by simpa using c1
  obtain⟨b,lo,o,c,cs,g1,g2,g3,g4⟩:=hl.at_ hk;have hs:=hl.seg k hk;obtain⟨r1,_,_⟩:=hs.Cj;refine⟨_,_,_,_,g1,by omega,b,lo,o+k*1,cs,by rw[Int.toNat_natCast,Nat.add_assoc],g2,⟨⟨_,g3,rfl⟩,trivial⟩,?_⟩;refine⟨_,_,g4,?_⟩;refine⟨_,_,rfl,?_⟩;refine⟨_,0,_,_,rfl,hs.cell,?_⟩;refine⟨⟨⟨_,rfl,_,rfl,r1⟩,trivial⟩,fun _=>?_⟩;refine⟨_,_,rfl,?_⟩;refine⟨_,_,rfl,?_⟩;refine⟨_,0,_,_,rfl,hgb,?_⟩;refine⟨⟨⟨_,rfl,_,rfl,h3⟩,trivial⟩,fun _ _=>?_⟩;simp only[dc,List.getD_cons_zero,jW,bR]at h3 ⊢;have h6:=h5 k hk;refine⟨by omega,fun c2=>?_,fun c2=>⟨by omega,k+1,?_⟩⟩
  ·exfalso;simp at c2;omega
  ·and_intros<;>first|exact dg
 ·and_intros<;>first|exact dg)
theorem Nz:au (Y Tryz.prog).G.X 234 IC:=aU fF Ny trivial
theorem NA:fnBody (Y Tryz.prog) [(234,IC)] 208 xq fun a=>[]:=fnBody.of (p :=
 ∀x:xR,yN x->∃z:xR,x.y.lv=z.y.lv/\aA (kZ x.gb z.gb/\x.s=z.s/\x.H=z.H/\yN z/\aB (bz (cH x.y.lv)))) (by kernel_rfl) (by
 delta ai bF bT dW cH bw aB bz bK yN az ag aA kZ bt
 intro a h;refine⟨a,?_⟩;obtain⟨h1,h2,h3,h4,h5,h6,h7,h8⟩:=h
 (repeat' (first|apply And.intro|(intro _)|apply Exists.intro ()))<;>first|exact dg|exact h7|exact h5.2|exact h5.1|exact h8 _ (by assumption))
theorem NB:au (Y Tryz.prog).G.X 208 xq:=aU fF NA ⟨Nz,trivial⟩
end Go.Proofs.YtfjgoonelcaggaaGreat
