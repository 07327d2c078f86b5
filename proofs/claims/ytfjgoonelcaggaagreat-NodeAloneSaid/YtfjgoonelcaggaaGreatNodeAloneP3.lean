/-
  
-/
import Derived.Test.YtfjgoonelcaggaaGreatNodeAloneP2
set_option maxRecDepth 100000
set_option maxHeartbeats 4000000
set_option linter.unusedVariables false
set_option linter.unusedSimpArgs false
noncomputable section
namespace Go.Proofs.YtfjgoonelcaggaaGreat
open Go.Sx
theorem Sy(a b:Nat)(ha:a<2^64)(hb:b<2^64):eW .or .u64 a b=((a ||| b:Nat):Int):=by
 have h:=Nat.or_lt_two_pow ha hb;have e:(BitVec.ofInt 64 (a:Int) ||| BitVec.ofInt 64 (b:Int)).toNat=a ||| b:=by
  rw[BitVec.toNat_or,BitVec.ofInt_natCast,BitVec.ofInt_natCast,BitVec.toNat_ofNat,BitVec.toNat_ofNat,Nat.mod_eq_of_lt ha,Nat.mod_eq_of_lt hb]
 show IntKind.u64.wrap ((BitVec.ofInt 64 (a:Int) ||| BitVec.ofInt 64 (b:Int)).toNat:Int)=_;rw[e];exact gH (by simp only[bZ];omega)
theorem UT(a:Nat)(ha:a<2^64):eW .and .u64 a 1=((a%2:Nat):Int):=by
 have e:(BitVec.ofInt 64 (a:Int) &&& BitVec.ofInt 64 ((1:Nat):Int)).toNat=a%2:=by
  rw[BitVec.toNat_and,BitVec.ofInt_natCast,BitVec.ofInt_natCast,BitVec.toNat_ofNat,BitVec.toNat_ofNat,Nat.mod_eq_of_lt ha,Nat.mod_eq_of_lt (by decide),Nat.and_one_is_mod]
 show IntKind.u64.wrap ((BitVec.ofInt 64 (a:Int) &&& BitVec.ofInt 64 ((1:Nat):Int)).toNat:Int)=_;rw[e];exact gH (by simp only[bZ];omega)
theorem ajd(c:Nat)(h:c<256):eW .and .u8 c 127=((c%128:Nat):Int):=by
 have h':∀y:Fin 256,eW .and .u8 (y.1:Int) 127=((y.1%128:Nat):Int):=by decide +kernel
 exact h' ⟨c,h⟩
theorem Ft:∀(k m u:Nat),u<128^(m+1)->(Cr k u).length<=m+1
 |0,_,_,_=>by simp[Cr]
 |k+1,m,u,h=>by
  unfold Cr;split
  ·simp
  ·cases m with
   |zero=>omega
   |succ m =>
    have:=Ft k m (u/128) (zBx (by omega))
    grind
theorem acB:∀(k u i:Nat),u<128^(k+1)->i<(Cr k u).length ->
 (i+1<(Cr k u).length->128<=u/128^i/\gl (Cr k u) i=((u/128^i%128+128:Nat):Int))/\(i+1=(Cr k u).length->u/128^i<128/\gl (Cr k u) i=((u/128^i:Nat):Int)/\(0<i->0<u/128^i))
 |0,u,i,h,hi=>by
  grind [Cr,gl]
 |k+1,u,i,h,hi=>by
  unfold Cr at hi ⊢;by_cases hu:u<128
  ·grind [gl]
  ·rw[if_neg hu]at hi ⊢;cases i with
   |zero =>
    have:=(BY k (u/128)).1;rw[Nat.pow_zero,Nat.div_one];refine⟨fun _=>⟨by omega,rfl⟩,fun hh=>?_⟩
    grind
   |succ i =>
    have e:u/128^(i+1)=u/128/128^i:=by rw[Nat.pow_succ,Nat.mul_comm,Nat.div_div_eq_div_mul]
    have hi':i<(Cr k (u/128)).length:=by simpa using hi
    obtain⟨h1,h2⟩:=acB k (u/128) i (zBx (by omega)) hi';have eg:∀x:Int,gl (x::Cr k (u/128)) (i+1)=gl (Cr k (u/128)) i:=fun x=>by simp[gl]
    grind
variable{c i:Nat}
theorem agJ{U:Nat}(hU:U<2^63)(hi:i<=8)(hc:c<256)(hx:c%128=U/128^i%128) :
 eW .or .u64 ((U%128^i:Nat):Int) (uw .u64 (eW .and .u8 (c:Int) 127*2^min (7*(i:Int)).toNat 64))=((U%128^(i+1):Nat):Int):=by
 have e1:(7*(i:Int)).toNat=7*i:=by omega
 have e2:min (7*i) 64=7*i:=by omega
 have e3:(128:Nat)^i=2^(7*i):=by rw[Nat.pow_mul]
 rw[ajd c hc,e1,e2,hx,Nat.pow_succ,Nat.mod_mul,e3];have hlt:U%2^(7*i)<2^(7*i):=Nat.mod_lt _ (Nat.pow_pos (by decide));have hp:(2:Nat)^(7*i)<=2^56:=Nat.pow_le_pow_right (by decide) (by omega);obtain⟨x,hx2⟩:∃x,x=U/2^(7*i)%128:=⟨_,rfl⟩
 have hxl:x<128:=by rw[hx2];exact Nat.mod_lt _ (by decide)
 rw[<- hx2];have hb:2^(7*i)*x<2^64:=by
  have:=Nat.mul_le_mul hp (Nat.le_of_lt_succ (show x<127+1 by omega));omega
 have e5:uw .u64 ((x:Int)*2^(7*i))=((2^(7*i)*x:Nat):Int):=by
  have:(x:Int)*2^(7*i)=((2^(7*i)*x:Nat):Int):=by push_cast;rw[Int.mul_comm]
  rw[this];simp only[uw];omega
 rw[e5,Sy _ _ (by omega) hb,Nat.or_comm,<- Nat.two_pow_add_eq_or_of_lt hlt,Nat.add_comm]
structure nW where
 l:List Int
 r:Nat
 len:Nat
 cap:Nat
 n:Int
def MI:cB where
 α:=nW
 m:=1
 m':=1
 pre:=fun a=>a.r+a.len<=a.l.length/\a.len<100000/\a.len<=a.cap/\0<=a.n/\a.n<4611686018427387904/\(vi a.n).length<=a.len/\∀i,i<(vi a.n).length->gl a.l (a.r+i)=gl (vi a.n) i
 args:=fun a=>[.a (.slc 0 a.r 1 a.len a.cap)]
 ro:=fun a=>mH 0 a.l
 res:=fun a _=>.nR [.a (.int .i64 a.n),.a (.int .i64 (vi a.n).length),.a (.lit .i64 0)]
def akH(a:nW):An:=.flat 3 Nat (fun s i=>(s.set 5 (.a (.int .u64 ((2*a.n.toNat%128^i:Nat):Int)))).int 11 i) (fun _ i=>i<(vi a.n).length) (fun _ i=>(vi a.n).length-i)
def zc(x:List Int)(z:Nat)(u:List Int)(v:Nat):=aj x<=z/\∀y:Nat,y<aj x->gl u (v+y)=gl x y
def Db(x z:Nat)(y:Int)(u:List Int)(v:Nat):=x<100000/\x<=z/\(0:Int)<=y/\y<(4611686018427387904:Int)/\zc (vi y) x u v
def Fu(x:nW):=x.r+x.len<=aj x.l/\Db x.len x.cap x.n x.l x.r
def JF(x:nW)(y:Nat):Int:=eW Go.BinOp.or .u64 (ag (2*aC x.n%128^y)) (dI (eW Go.BinOp.and .u8 (gl x.l (x.r+aG y)) (127:Int)*2^min (aC ((7:Int)*ag y)) 64))
def mI(x:Int)(y:Prop):=cR x 0 (az 0) y
def OD(x:nW)(y:Int):=Exists (aD ((0:Int)=x.n/\aS (aj (vi x.n)) (bA (y=(0:Int)))))
def sK(x:Int):Int:=uw .i64 x
def UU(x:nW)(y:Nat)(z:Prop):=bf x.len/\bK x.r x.len x.cap/\mI 0 (bK x.r x.len x.cap/\iq x.l dA/\y<aj (vi x.n)/\z)
theorem Sz:fnBody (Y Tryz.prog) [] 177 MI fun a=>[(177,[akH a],[])]:=fnBody.of (p :=
 ∀x:nW,Fu x->(∃y:Nat,aS y (aS (2*aC x.n%128^y) (UU x y True)))/\∀y:Nat,y<aj (vi x.n)->gI y x.len x.r (aj x.l) (lz (gl x.l (x.r+aG y))->rV (ag y == (9:Int)) (aN 1 (gl x.l (x.r+aG y))) (OD x 1) (ai ((7:Int)*ag y)/\(0:Int)<=7*ag y/\aI 127 (gl x.l (x.r+aG y)) (bQ y fun z=>JF x y=ag (2*aC x.n%128^z)/\UU x z (bM (aj (vi x.n)) z y)) (rV (aN 0 (ag y)) (gl x.l (x.r+aG y) == (0:Int)) (OD x 1) ((0:Int)<=1/\aK (eW .and .u64 (JF x y) (1:Int) == 1) (aY y (Exists (aD (eW .xor .i64 (-1:Int) (sK (JF x y/(2:Int)))=x.n/\bw y (aj (vi x.n)) (aJ (True/\True)))))) (aY y (Exists (aD (sK (JF x y/(2:Int))=x.n/\bw y (aj (vi x.n)) (aJ (True/\True)))))))))) (OD x 2)) (by kernel_rfl) (by
 delta rV cE aK cR aj ai aA az aG aN bK aU gI bI aZ ag Fu aq bQ dI aJ aC zc JF aS aI aD iq bf aY bA lz bS mI OD bw bM Db sK UU
 try dsimp -iota -proj only
 rintro⟨l,r,len,cap,n⟩ ⟨h1,h2,h3,h4,h5,h6,h7⟩;dsimp only at *;obtain⟨U,hU⟩:∃U,U=2*n.toNat:=⟨_,rfl⟩
 have hUlt:U<2^63:=by omega
 have hv:vi n=Cr 9 U:=by rw[hU];rfl
 have hv0:=BY 9 U;have hvs:=Ft 9 8 U (by omega);rw[<- hU];rw[hv]at h6 h7 ⊢;refine⟨⟨0,?_⟩,fun i hi=>?_⟩
 ·grind [af.refl]
 ·obtain⟨b1,b2⟩:=acB 9 U i (by omega) hi;have hgi:=h7 i hi;simp only[Ay,bZ,hgi];obtain⟨c,hc,hc1⟩:∃c:Nat,gl (Cr 9 U) i=(c:Int)/\c<256:=by
   by_cases hl:i+1<(Cr 9 U).length
   ·exact⟨_,(b1 hl).2,by omega⟩
   grind
  have hx:c%128=U/128^i%128:=by
   by_cases hl:i+1<(Cr 9 U).length
   ·omega
   ·omega
  have hor:=agJ (c:=c) hUlt (by omega:i<=8) hc1 hx;rw[hc]at b1 b2;simp only[hc,hor];have last:¬(127<(c:Int))->i+1=(Cr 9 U).length/\U%128^(i+1)=U/\(0<i->0<c):=fun h=>by
   have hl:¬(i+1<(Cr 9 U).length):=fun hl=>by omega
   obtain⟨g1,g2,g3⟩:=b2 (by omega);refine⟨by omega,Nat.mod_eq_of_lt ?_,fun h0=>by omega⟩;have:=(Nat.div_lt_iff_lt_mul (Nat.pow_pos (n:=i) (show 0<128 by decide))).1 g1;omega
  have more:127<(c:Int)->i+1<(Cr 9 U).length:=fun h=>by
   omega
  have fin:∀w,w=U->(eW .and .u64 (w:Int) 1 == 1)=true->False:=fun w hw h=>by
   grind [UT]
  have fin2:∀w:Nat,w=U->uw .i64 ((w:Int)/2)=n:=fun w hw=>by
   subst hw;show IntKind.i64.wrap ((w:Int)/2)=n;rw[gH (by simp only[bZ];omega)];omega
  have h9:((i:Int) == 9)=false:=by simp;omega
  rw[h9];refine⟨fun c1=>⟨by omega,by omega,fun _=>⟨fun e=>(by cases e),fun _=>⟨by omega,by omega,fun c2=>?_,fun c2=>⟨fun c3=>?_,fun c3=>?_⟩⟩⟩⟩,fun c1=>?_⟩
  ·grind [af.refl]
  ·obtain⟨l1,l2,l3⟩:=last (by simpa using c2);have l3:=l3 (by simpa using c3);refine⟨fun e=>?_,fun _=>⟨by omega,fun e=>(fin _ l2 e).elim,fun e=>⟨by omega,(),?_⟩⟩⟩
   ·grind
   ·and_intros<;>first|exact kG|exact fin2 _ l2
  ·obtain⟨l1,l2,l3⟩:=last (by simpa using c2);refine⟨by omega,fun e=>(fin _ l2 e).elim,fun e=>⟨by omega,(),?_⟩⟩
   and_intros<;>first|exact kG|exact fin2 _ l2
  grind)
theorem OE(l:List Int)(r n:Nat):lP (aa dA l) r n=List.foldl (fun(s:ByteArray) (n:Int)=>s.push (UInt8.ofNat n.toNat)) ByteArray.empty (List.map (fun(i:Nat)=>gl l (r+i)) (List.range n)):=rfl
theorem foldl_push:∀(l:List UInt8) (b:ByteArray),List.foldl (fun(s:ByteArray) (n:Int)=>s.push (UInt8.ofNat n.toNat)) b (l.map fun x=>(x.toNat:Int))=⟨b.data++l.toArray⟩
 |[],b=>by simp
 |x::l,b=>by
  rw[LS,List.foldl_cons,foldl_push l];congr 1;simp[ByteArray.push]
theorem XH{t:ByteArray}{n:Nat}{f:Nat->Int}(hn:n=t.size)(h:∀i,i<t.size->f i=gl (RI t) i):List.foldl (fun(s:ByteArray) (n:Int)=>s.push (UInt8.ofNat n.toNat)) ByteArray.empty (List.map f (List.range n))=t:=by
 have e:List.map f (List.range n)=RI t:=by
  refine zBR (by rw[T7,List.length_range,mW,hn]) fun i h1 h2=>?_;rw[zBQ,List.getElem_range,h i (by grind),b8 h2]
 rw[e,RI,foldl_push];cases t with
 |mk d=>show ByteArray.mk (#[]++d.toList.toArray)=ByteArray.mk d;simp
theorem bt{α:Type}[Inhabited α]{l m:List α}:gl (l++m) (l.length+i)=gl m i:=by
 simp[gl,LP,zAQ]
structure xF where
 l:List Int
 r:Nat
 len:Nat
 cap:Nat
 t:ByteArray
def UW:cB where
 α:=xF
 m:=1
 m':=1
 pre:=fun a=>a.r+a.len<=a.l.length/\a.len<100000/\a.len<=a.cap/\a.t.size<=1000/\(vi a.t.size++RI a.t).length<=a.len/\∀i,i<(vi a.t.size++RI a.t).length->gl a.l (a.r+i)=gl (vi a.t.size++RI a.t) i
 args:=fun a=>[.a (.slc 0 a.r 1 a.len a.cap)]
 ro:=fun a=>mH 0 a.l
 res:=fun a _=>.nR [.a (.str a.t),.a (.int .i64 (vi a.t.size++RI a.t).length),.a (.lit .i64 0)]
def cO(x y:Int):=(0:Int)<=x/\x<=y
def fm(x:Int)(y:Nat):=cO x (ag y)
def nX(x:xF):Int:=ag (aj (vi (ag (aT x.t))++RI x.t))
def sL(x:Int)(y:Nat)(z:Int)(u:Prop):=fm x y/\fm z (aC x)/\u
def OF(x:xF):=x.r+x.len<=aj x.l/\x.len<100000/\x.len<=x.cap/\aT x.t<=1000/\zc (vi (ag (aT x.t))++RI x.t) x.len x.l x.r
def Dc(x:nW):Int:=ag (aj (vi x.n))+x.n
def Dd(y z u:Nat)(v:List Int)(w:nW->Prop):nW->Prop:=fun(x:nW)=>(y=x.r/\z=x.len/\u=x.cap)/\dr x.l v dA/\Fu x/\aP (w x)
theorem Zr:fnBody (Y Tryz.prog) [(177,MI)] 235 UW fun _=>[]:=fnBody.of (p :=
 ∀x:xF,OF x->Exists (Dd x.r x.len x.cap x.l fun y=>jo (aN y.n 0) (Exists (aD (dx=x.t/\(0:Int)=nX x/\bA ((1:Int)=0)))) (aN 65536 y.n) (ai (ag x.len-ag (aj (vi y.n)))/\aI (ag x.len-ag (aj (vi y.n))) y.n (Exists (aD (dx=x.t/\(0:Int)=nX x/\bA ((2:Int)=0)))) (ai (Dc y)/\sL (Dc y) x.cap (ag (aj (vi y.n))) (x.r+aG (aj (vi y.n))+(aC (Dc y)-aG (aj (vi y.n)))<=aj x.l/\ai (Dc y)/\Exists (aD (lP (aa dA x.l) (x.r+aG (aj (vi y.n))) (aC (Dc y)-aG (aj (vi y.n)))=x.t/\Dc y=nX x/\aJ (True/\True)))))))) (by kernel_rfl) (by
 delta aK aj ai aA az aG aN aU dr fm dx aP jo nX ag aT Fu aq aJ aC zc aI aD cO bA sL OF Dc Dd Db dc
 try dsimp -iota -proj only
 rintro⟨l,r,len,cap,t⟩ ⟨h1,h2,h3,h4,h5,h6⟩;dsimp only at *;have hv:=nG (t.size:Nat);rw[wM,mW]at h5 h6 ⊢;have g1:∀i,i<(vi (t.size:Nat)).length->gl l (r+i)=gl (vi (t.size:Nat)) i:=fun i hi=>by grind [cu]
 refine⟨⟨l,r,len,cap,t.size⟩,?_⟩
 (repeat' (first|apply And.intro|(intro _)|apply Exists.intro ()))<;>first|exact kG|(exact g1 _ (by assumption))|(exfalso;(try dsimp only at *);(try simp only[tB,decide_eq_false_iff_not,RF]at *);omega)|skip
 refine XH (by grind) fun i hi=>?_;dsimp only;show gl l (r+(((vi (t.size:Nat)).length:Int)).toNat+i)=_;rw[show r+(((vi (t.size:Nat)).length:Int)).toNat+i=r+((vi (t.size:Nat)).length+i)by omega,h6 _ (by omega),bt])
theorem JG:av (Y Tryz.prog).G.X 177 MI:=bp gf Sz trivial
theorem Zs:av (Y Tryz.prog).G.X 235 UW:=bp gf Zr ⟨JG,trivial⟩
structure OG where
 l:List Int
 r:Nat
 cap:Nat
 x:aW
def agK:cB where
 α:=OG
 β:=Nat
 m:=1
 m':=2
 pre:=fun a=>jJ a.x=true/\a.r+(eF a.x).length<=a.l.length/\(eF a.x).length<=a.cap/\∀i,i<(eF a.x).length->gl a.l (a.r+i)=gl (eF a.x) i
 args:=fun a=>[.a (.slc 0 a.r 1 (eF a.x).length a.cap)]
 ro:=fun a=>mH 0 a.l
 res:=fun a c=>.nR [.a (.slc 1 0 4 1 c),.a (.lit .i64 0)]
 eV:=fun a _=>[(1,.arr 40 UP 1 (aa pe [a.x]))]
def amd(a:OG):An:=.flat 3 (Nat×Nat) (fun s k=>((s.new (.arr 40 UP k.1 (aa pe ([a.x].take k.1)))).set 4 (.a (.slc s.nx 0 4 k.1 k.2))).int 5 ((k.1*(eF a.x).length:Nat):Int)) (fun _ k=>k.1<=1) (fun _ k=>1-k.1)
def xG(x:Int)(y:nW):Int:=x+ag (aj (vi y.n))
def xH(x:Int)(y z:nW):Int:=xG (xG x y) z
def OH(x:Int)(y u v:Nat)(w:List Int)(s:Int)(t:nW)(f:nW->Prop):=fm x y/\Exists (Dd (u+aC x) (y-aC x) (v-aC x) w fun z=>ai (xH s t z)/\f z)
def OI(f v x:Int)(z w u s:Nat)(t:List Int)(g:Int)(h:nW->nW->Prop):=aZ f v/\fm x z/\Exists (Dd (w+u) (z-u) (s-u) t fun y=>ai (xG x y)/\aZ g v/\OH (xG x y) z w s t x y fun i=>h y i)
def iQ(x y z u v:Nat)(w s:Nat->Nat->Value)(t f:Prop):=ax x y z u/\aA y x v w s/\t/\f
def rB(y:Nat×Nat)(z:OG):Int:=ag (y.fst*aj (eF z.x))
def UX(y:OG)(u:Nat)(z:xF)(v:Nat×Nat)(w:xF)(s t:Prop):=(y.r+u=z.r/\aj (eF y.x)-u=z.len/\y.cap-u=z.cap)/\dr z.l y.l dA/\OF z/\aP (ai (rB v y+nX w)/\s/\t)
def sM(x y:Int)(z:Prop):=ai x/\ai (x+y)/\z
def JH(y:Nat×Nat)(z:OG):Nat->Nat->Value:=aa pe (List.take y.fst [z.x])
def OJ(y:OG):=aq (jJ y.x)/\y.r+aj (eF y.x)<=aj y.l/\zc (eF y.x) y.cap y.l y.r
theorem agL:fnBody (Y Tryz.prog) [(177,MI),(235,UW),(122,acz)] 210 agK fun a=>[(210,[amd a],[])]:=fnBody.of (p :=
 ∀y:OG,OJ y->(∃z:Nat×Nat,aS (z.fst*aj (eF y.x)) ((0=z.fst/\0=z.snd)/\aJ (bK y.r (aj (eF y.x)) y.cap/\z.fst=0/\iq y.l dA/\bE z.fst 1)))/\∀z:Nat×Nat,z.fst<=1->aI (rB z y) (ag (aj (eF y.x))) (fm (rB z y) (aj (eF y.x))/\∃u:xF,UX y (aG (z.fst*aj (eF y.x))) u z u (fm (rB z y+nX u) (aj (eF y.x))) (∃v:xF,UX y (aC (rB z y+nX u)) v z u (ai (rB z y+nX u+nX v)) (fm (rB z y+nX u+nX v) (aj (eF y.x))/\OI 0 2 0 (aj (eF y.x)-aC (rB z y+nX u+nX v)) (y.r+aC (rB z y+nX u+nX v)) 0 (y.cap-aC (rB z y+nX u+nX v)) y.l 1 fun g w=>ai w.n->jF z.fst 48 z.snd fun s=>sM (nX u+nX v) (xH 0 g w) (ai (rB z y+(nX u+nX v+xH 0 g w))/\∃f:Nat×Nat,rB z y+(nX u+nX v+xH 0 g w)=rB f y/\ax (z.fst+1) f.fst s f.snd/\aJ (bK y.r (aj (eF y.x)) y.cap/\iO f.fst z.fst 4 (JH z y) (ia (bR u.t) (bR v.t) (cI g.n (bW (cF (w.n == (1:Int)))))) (JH f y)/\iq y.l dA/\bL f.fst 1 z.fst))))) (∃u:Ma,iQ z.fst u.xs.length z.snd u.cap 4 (JH z y) (aa pe u.xs) (Da u) (∀v:Nat,True->∀w:Bool,(aq w->aj (gh u.xs)=0)->aK w (∃s:Nat,(0=1/\0=s)/\(1:Int)=0/\bA (1=0)) (qu (gh u.xs) /\
 y.r+aj (eF y.x)<=aj y.l/\aK (bg (fc (lP (aa dA (gh u.xs)) 0 (aj (gh u.xs))) (lP (aa dA y.l) y.r (aj (eF y.x))))) (∃s:Nat,(0=1/\0=s)/\(1:Int)=0/\bA (1=0)) (∃s:Nat,dF z.fst 1 z.snd s (az 0) 4 (JH z y) (aa pe [y.x]) (True/\True)))))) (by kernel_rfl) (by
 delta cE aK aj ai aA az cI aG gq aN ia fB bK aU dr fm aP aZ nX ag jF aT iO bL Fu aq OI dF bR iQ aJ aC xH bW ah zc aS cF aI iq UX cO bg fc Da OH ax sM rB bA ja JH qu OF eu xG Dd bM Db OJ dc bE
 try dsimp -iota -proj only
 rintro⟨l,r,cap,x⟩ ⟨h1,h2,h3,h4⟩;dsimp only at *;obtain⟨k1,k2,k3,k4⟩:=wZ h1;obtain⟨P,hP⟩:∃P,P=vi (x.key.size:Nat)++RI x.key:=⟨_,rfl⟩
 obtain⟨Q,hQ⟩:∃Q,Q=vi (x.val.size:Nat)++RI x.val:=⟨_,rfl⟩
 obtain⟨E,hE⟩:∃E,E=vi x.e:=⟨_,rfl⟩
 obtain⟨g,hg⟩:∃g:Int,g=if x.gone then 1 else 0:=⟨_,rfl⟩
 obtain⟨G,hG⟩:∃G,G=vi g:=⟨_,rfl⟩
 have hg0:0<=g/\g<=1:=by rw[hg];split<;>omega
 have hI:eF x=P++(Q++(E++G)):=by
  simp only[eF,iB,lp,zBy,zBH,z6,hP,hQ,hE,hG,hg,zAY]
 have hPl:1<=P.length:=by have:=nG (x.key.size:Nat);rw[hP,wM];omega
 have hlen:=MH h1;have hL:(eF x).length=P.length+(Q.length+(E.length+G.length)):=by rw[hI];simp only[wM]
 have fP:∀i,i<P.length->gl l (r+i)=gl P i:=fun i hi=>by grind [cu]
 have fQ:∀i,i<Q.length->gl l (r+P.length+i)=gl Q i:=fun i hi=>by
  rw[T8,h4 _ (by omega),hI,bt,cu hi]
 have fE:∀i,i<E.length->gl l (r+(P.length+Q.length)+i)=gl E i:=fun i hi=>by
  rw[T8,h4 _ (by omega),hI,T8,bt,bt,cu hi]
 have fG:∀i,i<G.length->gl l (r+(P.length+Q.length)+E.length+i)=gl G i:=fun i hi=>by
  rw[T8,T8,h4 _ (by omega),hI,T8,bt,bt,bt]
 have hall:List.map (fun(i:Nat)=>gl l (r+i)) (List.range (eF x).length)=List.map (fun(i:Nat)=>gl (eF x) (0+i)) (List.range (eF x).length):=by
  refine List.map_congr_left fun i hi=>?_;rw[h4 i (List.mem_range.1 hi),mA]
 obtain⟨L,hLL⟩:∃L,(eF x).length=L:=⟨_,rfl⟩
 rw[hLL]at h2 h3 h4 hlen hL hall ⊢;refine⟨⟨(0,0),?_⟩,fun k hk=>?_⟩
 ·grind [af.refl]
 ·obtain⟨k,c⟩:=k;have hk:k<=1:=hk;dsimp only;refine⟨fun c1=>?_,fun c1=>?_⟩
  ·have hk0:k=0:=by
    rcases zBn k 1 with h|h
    ·omega
    ·grind
   subst hk0;simp only[zBt,Int.natCast_zero,Int.zero_add,Int.toNat_zero,EZ,LL];refine⟨by omega,⟨xF.mk l r L cap x.key,?_⟩⟩;simp only[<- hP]
   and_intros<;>first|exact kG|exact fP|skip
   intro _ _;refine⟨by simp only[bZ];omega,by omega,⟨xF.mk l (r+P.length) (L-P.length) (cap-P.length) x.val,?_⟩⟩;simp only[<- hQ]
   and_intros<;>first|exact kG|exact fQ|skip
   intro _ _
   and_intros<;>first|exact kG|(simp only[bZ];omega)|skip
   refine⟨nW.mk l (r+(P.length+Q.length)) (L-(P.length+Q.length)) (cap-(P.length+Q.length)) x.e,?_⟩;simp only[<- hE]
   and_intros<;>first|exact kG|exact fE|skip
   intro _ _
   and_intros<;>first|exact kG|(simp only[bZ];omega)|skip
   refine⟨nW.mk l (r+(P.length+Q.length)+E.length) (L-(P.length+Q.length)-E.length) (cap-(P.length+Q.length)-E.length) g,?_⟩;simp only[<- hG]
   and_intros<;>first|exact kG|exact fG|skip
   intro _ _
   (repeat' (first|apply And.intro|(intro _)))<;>first|exact kG|(simp only[bZ];omega)|skip
   apply Exists.intro ((1,_):Nat×Nat);have hgo:(g == 1)=x.gone:=by
    rw[hg];cases x.gone<;>rfl
   have hr:af 1 4 (bq (aa pe (List.take 0 [x])) 0 0 fun(i j:Nat)=>aV 4 [Value.string x.key,Value.string x.val,Value.int .i64 x.e,Value.bool (g == 1)] (0+i) j) (aa pe (List.take 1 [x])):=.fN fun i hi=>by
    have:i=0:=by omega
    subst this;rw[hgo];rfl
   and_intros<;>first|exact cU|omega|grind [af.refl]|with_reducible exact cW _|(dsimp only[List.length_cons,List.length_nil]<;>omega)|exact hr|skip
  ·have hk1:k=1:=by
    rcases zBn k 1 with h|h
    ·grind
    ·omega
   subst hk1;have hx1:List.take 1 [x]=[x]:=rfl;have hI1:gh [x]=eF x:=by simp[gh]
   rw[hx1];refine⟨⟨[x],c⟩,?_⟩
   grind [OE,gl,af.refl])
theorem XJ:av (Y Tryz.prog).G.X 210 agK:=bp gf agL ⟨JG,Zs,OC,trivial⟩
end Go.Proofs.YtfjgoonelcaggaaGreat
namespace Go.Sx
section
def agM(f:A->S->(A->S->Prop)->Prop):Prop:=∀x s K,f x s K->∀w0 M ρ w,ρ.n=s.nx->ak w0 M ρ s.hp w->∀u,x.cT ρ u->R6 w0 M ρ w s u K
theorem XK(n:Nat):agM (R7 n):=Ie n
def acC(ty:Nat)(ks:List CK)(x:A)(s:S)(K:A->S->Prop):Prop :=
 match x with
 |.val v=>uq s fun tp wr H=>bif wr then ∃l c rows,oo H v ks l c rows /\
  K (.slc s.nx 0 ks.length l c) ⟨s.nt,s.fr,⟨s.nx,true,.arr ty ks l rows⟩::⟨s.nx+1,true,.dg (bu H v)⟩::s.hp.del tp,s.nx+2,s.kp,s.rt⟩else False
 |_=>False
theorem acD(ty:Nat)(ks:List CK):agM (acC ty ks):=by
 intro x s K h w0 M ρ w hρ hh u hu;unfold acC at h;split at h<;>try exact h.elim
 rename_i v;replace h:=vm h;obtain⟨tp,wr,H,h,hf⟩:=h;cases wr with
 |false=>exact h.elim
 |true =>
  simp only[iU]at h;obtain⟨l,c,rows,hat,hK⟩:=h;obtain⟨rfl,_⟩:=hu;have hcp:=(hh.jk _ (aX.bO hf)).ch;simp only at hcp;rcases hat with⟨rfl,rfl,rfl⟩ | ⟨b,lo,o,cs,rfl,⟨hlc,hcm⟩,hH,hfit,hrows⟩
  ·have hsp:=hh.NY hf ⟨0,0,0,fun _=>False⟩ ⟨0,0,0,fun x=>(ρ.pl tp).fp x⟩ (fun x hx=>hx.elim) (fun x hx=>hx) (fun x hx _=>hx)
    (c1:=.arr ty ks 0 rows) (c2:=.dg H) (fun ρ'=>.inl ⟨rfl,rfl,fun _ h=>h⟩) (fun ρ' x lo' cs' hx=>hcp x lo' cs' hx)
   rw[hρ]at hsp;exact⟨_,_,_,hK,rfl,rfl,by show ρ.n+1+1=s.nx+2;rw[hρ],(ρ.gY _).trans ((ρ.ext _).gY _),⟨by show s.nx<ρ.n+2;omega,cW _,by omega,.inl ⟨rfl,rfl,rfl⟩⟩,hsp⟩
  ·obtain⟨hfp,vs,vty,fr,hb,hvl,hvs,hun⟩:=hcp b lo cs hH;have hsp:=hh.NY hf ⟨b,lo+o,c,fun x=>x=b⟩ ⟨0,0,0,fun x=>(ρ.pl tp).fp x/\x≠b⟩ (fun x hx=>by grind) (fun x hx=>hx.1) (fun x hx hx'=>hx'.2 hx)
    (c1:=.arr ty ks l rows) (c2:=.dg (yR H b)) (fun ρ'=>.inr ⟨vs,vty,fr,hb,by grind,hlc,fun x h1 h2=>hun x (by grind) (by grind),fun _=>Iff.rfl,fun i hi j k hk=>by
     obtain⟨g1,g2⟩:=hrows.at_ i hi j k hk
     grind⟩)
    (fun ρ' x lo' cs' hx=>by
     by_cases hxb:x=b
     ·grind [G5]
     ·rw[E8 hxb]at hx;obtain⟨g1,g2⟩:=hcp x lo' cs' hx
      grind)
   rw[hρ]at hsp;refine⟨_,_,_,hK,rfl,rfl,by show ρ.n+1+1=s.nx+2;rw[hρ],(ρ.gY _).trans ((ρ.ext _).gY _),⟨by show s.nx<ρ.n+2;omega,hlc,hcm,.inr ⟨_,rfl,fun _=>?_⟩⟩,hsp⟩;have hpl:((ρ.ext ⟨b,lo+o,c,fun x=>x=b⟩).ext ⟨0,0,0,fun x=>(ρ.pl tp).fp x/\x≠b⟩).pl s.nx=⟨b,lo+o,c,fun x=>x=b⟩:=by
    rw[<- hρ,(ρ.ext _).yI _ (zBi _)];exact ρ.ew _
   grind
def OK(f:A->S->(A->S->Prop)->Prop)(slot:Nat)(s:S)(K:S->Prop):Prop :=
 match look s.fr slot with
 |.a x=>f x s fun y s'=>K (s'.set slot (.a y))
 |_=>False
variable{f:A->S->(A->S->Prop)->Prop}
theorem MJ(hf:agM f)(slot:Nat):∀s K,OK f slot s K->xC s K:=by
 intro s K h w0 M ρ a w hs;unfold OK at h;split at h<;>try exact h.elim
 rename_i x hx;have hr:=hs.frame slot;rw[hx]at hr;obtain⟨y,s',ρ',hK,h1,h2,h3,h4,h5,h6⟩:=hf x s _ h w0 M ρ w hs.n hs.heap _ hr;refine⟨_,ρ',hK,h4,⟨hs.defers,by rw[hs.size];exact h1.symm,h3,?_,h6⟩⟩;intro j;show(look ((slot,.a y)::s'.fr) j).cT ρ' _;simp only[look];by_cases hj:slot=j
 ·subst hj;simp only[fI,iU];exact h5
 ·simp only[gM hj,vv];rw[h2];exact(hs.frame j).mono h4
def UY(f:A->S->(A->S->Prop)->Prop)(slot cell:Nat)(s:S)(K:S->Prop):Prop :=
 match look s.fr slot with
 |.a (.ptr t _ _ _)=>match s.hp.find t with
  |some (_,.obj _ cs)=>match cs[cell]? with
   |some x=>f x s fun y s'=>match s'.hp.find t with
    |some (true,.obj ty cs')=>bif Nat.blt cell cs'.length then K (s'.put (s'.hp.yJ t (.obj ty (cs'.set cell y))))else False
    |_=>False
   |none=>False
  |_=>False
 |_=>False
theorem Zt(hf:agM f)(slot cell:Nat):∀s K,UY f slot cell s K->xC s K:=by
 intro s K h w0 M ρ a w hs;unfold UY at h;split at h<;>try exact h.elim
 rename_i t r e c hsl;split at h<;>try exact h.elim
 rename_i m0 ty0 cs hfd;split at h<;>try exact h.elim
 rename_i x hx;have he:=hs.heap.jk _ (aX.bO hfd);obtain⟨vs,fr,a1,a2,⟨us,xs,a3,a4⟩,a5⟩:=he.ch;obtain⟨u,hu,hru⟩:=a4.get hx;obtain⟨y,s',ρ',hK,h1,h2,h3,h4,h5,h6⟩:=hf x s _ h w0 M ρ w hs.n hs.heap u hru;split at hK<;>try exact hK.elim
 rename_i ty1 cs' hf';cases hl:Nat.blt cell cs'.length with
 |false=>grind
 |true =>
  rw[hl]at hK;simp only[iU]at hK;have hl:=EY hl;have htn:t<ρ.n:=he.tag;have hpl:ρ'.pl t=ρ.pl t:=h4.pl t htn;have h7:=h6.yJ hf' (iy.refl _ w) (ch':=.obj ty1 (cs'.set cell y)) (by
   obtain⟨vs',fr',b1,b2,⟨us',xs',b3,b4⟩,b5⟩:=(h6.jk _ (aX.bO hf')).ch;refine⟨vs',fr',b1,b2,⟨us',xs',b3,?_⟩,b5⟩;simp only[hpl]at b1;rw[a1]at b1;have hvv:vs=vs':=by injection b1 with b1;injection b1
   subst hvv;have hlu:=b4.length;have e1:us'[cell]? = some u:=by
    have g1:vs.toList[cell]? = us'[cell]?:=by rw[b3,YM (by omega)]
    have g2:vs.toList[cell]? = us[cell]?:=by
     obtain⟨hlt,_⟩:=Cj.1 hu;rw[a3,YM hlt]
    rw[<- g1,g2,hu]
   have:=b4.set cell (v:=u) (x:=y) h5
   grind [List.set_getElem_self])
  exact⟨_,ρ',hK,h4,⟨hs.defers,by rw[hs.size];exact h1.symm,h3,by show fA ρ' s'.fr _;rw[h2];exact hs.frame.mono h4,h7⟩⟩
def An.XL(key slot:Nat)(next:LH):An:=.view key (OK (R7 3) slot) (MJ (XK 3) slot) next
def An.agN(key slot cell:Nat)(next:LH):An:=.view key (UY (R7 3) slot cell) (Zt (XK 3) slot cell) next
def An.acE(key slot:Nat)(ty:Nat)(ks:List CK)(next:LH):An:=.view key (OK (acC ty ks) slot) (MJ (acD ty ks) slot) next
end
end Go.Sx
namespace Go.Proofs.YtfjgoonelcaggaaGreat
open Go.Sx
structure RecM where
 pos:Int
 body:List Int
 deriving Inhabited
structure cQ where
 gen:Int
 base:Int
 run:Int
 buf:List Int
 bn:List RecM
 deriving Inhabited
structure rC where
 b:Nat
 bv:Value
 rv:Value
 vs:List Value
def yl:List CK:=[.int .i64,.deep]
def AO(rs:List RecM)(vs:List Value):Nat->Nat->Value:=fun i j=>if j=0 then .int .i64 (gl rs i).pos else vs.getD i undef
def eH(g:cQ)(bv rv:Value):List Value:=[.int .i64 g.gen,.int .i64 g.base,.int .i64 g.run,bv,rv]
def iV(H:PH)(v:Value)(l:List Int):Prop:=∃c,oo H v [.int .u8] l.length c (aa dA l)
structure tP(H:PH)(y:rC)(g:cQ):Prop where
 cell:H y.b=some (0,eH g y.bv y.rv)
 AA:bZ .i64 g.gen/\bZ .i64 g.base/\bZ .i64 g.run
 buf:iV H y.bv g.buf
 bn:∃c,oo H y.rv yl g.bn.length c (AO g.bn y.vs)
 len:y.vs.length=g.bn.length
 body:∀i,i<g.bn.length->iV H (y.vs.getD i undef) (gl g.bn i).body
def iW:Value->List Nat
 |.slice (some ⟨b,_,_⟩) _ _=>[b]
 |_=>[]
def ct(y:rC):List Nat:=y.b::(iW y.bv++(iW y.rv++y.vs.flatMap iW))
variable{H H':PH}{c e i k l m r sz:Nat}{f:Nat->Int}{ks:List CK}{v:Value}
theorem l7{rows:Nat->Nat->Value}(h:oo H v ks l c rows)(e:∀x∈iW v,H' x=H x):oo H' v ks l c rows:=by
 rcases h with h | ⟨b,lo,o,cs,rfl,h1,h2,h3,h4⟩
 ·exact .inl h
 ·exact .inr ⟨b,lo,o,cs,rfl,h1,by grind [iW,iK],h3,h4⟩
theorem iV.frame{l:List Int}(h:iV H v l)(e:∀x∈iW v,H' x=H x):iV H' v l:=by
 obtain⟨c,h⟩:=h;exact⟨c,l7 h e⟩
theorem tP.frame{H H':PH}{y:rC}{g:cQ}(h:tP H y g)(e:∀x∈ct y,H' x=H x):tP H' y g:=by
 have e1:∀x∈iW y.bv,H' x=H x:=fun x hx=>e x (by simp[ct,hx]);have e2:∀x∈iW y.rv,H' x=H x:=fun x hx=>e x (by simp[ct,hx]);obtain⟨c,hr⟩:=h.bn;refine⟨by grind [ct,h.cell],h.AA,h.buf.frame e1,⟨c,l7 hr e2⟩,h.len,fun i hi=>(h.body i hi).frame fun x hx=>e x ?_⟩
 grind [ct,h.len,List.getElem_mem]
theorem rD{rows:Nat->Nat->Value}(h:oo H v ks l c rows):∀x∈iW v,H x≠none:=by
 rcases h with⟨rfl,_⟩ | ⟨b,lo,o,cs,rfl,h1,h2,h3,h4⟩
 ·intro x hx;cases hx
 grind [iW,iK]
theorem tP.dom{y:rC}{g:cQ}(h:tP H y g):∀x∈ct y,H x≠none:=by
 intro x hx;simp only[ct,uf,yG,zBD]at hx;rcases hx with rfl|hx|hx | ⟨v,hv,hx⟩
 ·rw[h.cell];simp
 ·obtain⟨c,hb⟩:=h.buf;grind [rD]
 ·grind [h.bn,rD]
 ·obtain⟨i,hi,rfl⟩:=List.getElem_of_mem hv;have hl:=h.len;obtain⟨c,hb⟩:=h.body i (by omega)
  grind [rD]
theorem iD{rows:Nat->Nat->Value}(h:oo H v ks l c rows):eC v=l/\nj v=c/\l<=c/\c<=aB/\NS v/\(∃a,v = .slice a l c)/\v.oneCell'=true:=by
 rcases h with⟨rfl,rfl,rfl⟩ | ⟨b,lo,o,cs,rfl,⟨h1,h1'⟩,h2,h3,h4⟩
 ·exact⟨rfl,rfl,cW _,Az _,.inl rfl,⟨_,rfl⟩,rfl⟩
 ·exact⟨rfl,rfl,h1,h1',.inr ⟨_,_,_,_,rfl,h1,h1'⟩,⟨_,rfl⟩,rfl⟩
theorem SA{rows:Nat->Nat->Value}(hk:1<=ks.length)(h:oo H v ks l c rows){a:Nat}(hs:sz=ks.length)(h1:a<=e)(h2:e<=l)(h2':e<=m)(h3:m<=c):oo H (sk sz v a e m) ks (e-a) (m-a) (fun i=>rows (a+i)):=by
 subst hs;rcases h with⟨rfl,rfl,rfl⟩ | ⟨b,lo,o,cs,rfl,⟨g1,g1'⟩,g2,g3,g4⟩
 ·exact .inl ⟨rfl,by omega,by omega⟩
 ·rw[E9];by_cases hm:m=a
  ·subst hm;refine .inr ⟨b,lo,o,cs,by grind,⟨by omega,by omega⟩,g2,by grind,⟨fun i hi=>by omega⟩⟩
  ·rw[if_neg hm];have e1:(m-a)*ks.length+a*ks.length=m*ks.length:=by rw[<- zBs,Nat.sub_add_cancel (by omega)]
   have e2:=xz ks.length h3;refine .inr ⟨b,lo,o+a*ks.length,cs,by grind,⟨by omega,by omega⟩,g2,by omega,⟨fun i hi j k hj=>?_⟩⟩;have:=g4.at_ (a+i) (by omega) j k hj
   grind
theorem iV.len{l:List Int}(h:iV H v l):eC v=l.length/\NS v/\l.length<=aB/\l.length<=nj v/\(∃a c,v = .slice a l.length c)/\v.oneCell'=true:=by
 obtain⟨c,h⟩:=h;obtain⟨h1,h2,h3,h4,h5,⟨a,h6⟩,h7⟩:=iD h
 grind
theorem iV.cut{l:List Int}(h:iV H v l){a:Nat}(h1:a<=e)(h2:e<=l.length):oo H (sk 1 v a e (nj v)) [.int .u8] (e-a) (nj v-a) (fun i=>aa dA l (a+i)):=by
 obtain⟨c,h⟩:=h;obtain⟨_,g2,g3,_⟩:=iD h
 grind [SA]
theorem oz{n:Nat}{rows:Nat->Nat->Value}(h:∀i,i<n->rows i 0 = .int .u8 (f i)):af n 1 rows (cG f):=⟨fun i hi j hj=>by
 have:j=0:=by omega
 subst this;exact h i hi⟩
theorem w8{rows:Nat->Nat->Value}:mO rows k 0 [v] i 0=if i=k then v else rows i 0:=by
 rw[Eg];simp
def EW(v:Int)(len k:Nat):Int:=uw .u8 (v/2^(8*(len-1-k)))
def bh(i:Nat):Nat:=48*i-6
def kH(i:Nat):Nat:=if i=0 then 42 else 48
def mq(n i:Nat):Nat:=min (kH i) (n-min (bh i) n)
def pR(g:cQ)(i:Nat)(run:Int)(j:Nat):Int :=
 if j<4 then 0 else if j<10 then EW (uw .u64 g.gen) 6 (j-4)else if j<14 then EW (uw .u64 run) 4 (j-10)else if j<15 then(i:Int)else if j<16 then(mq g.buf.length i:Int)
 else if i=0 then(if j<22 then EW (uw .u64 g.base) 6 (j-16)else if j-22<mq g.buf.length i then gl g.buf (j-22)else 0)
 else if j-16<mq g.buf.length i then gl g.buf (bh i+(j-16))else 0
def p6(f:Nat->Int):Int:=eW .xor .u32 4294967295 (vQ (fun k=>f (4+k)) 60)
def jN(g:cQ)(i:Nat)(run:Int)(j:Nat):Int:=if j<4 then EW (p6 (pR g i run)) 4 j else pR g i run j
theorem De{len:Nat}{v:Int}(h:len<=8):Ar (cG f) r len v len=cG fun i=>if r<=i/\i<r+len then EW v len (i-r)else f i:=by
 grind [Ar,cG,EW]
structure acF where
 H:PH
 y:rC
 g:cQ
 i:Nat
 run:Int
def OL:cB where
 α:=acF
 m:=1
 m':=2
 pre:=fun a=>tP a.H a.y a.g/\a.i<8/\a.g.buf.length<=378
 args:=fun a=>[.a (.val (pv a.y.b 0)),.a (.int .i64 a.i),.a (.int .i64 a.run)]
 ro:=fun a=>[(0,.dg a.H)]
 res:=fun _ _=>.a (.slc 1 0 1 64 64)
 eV:=fun a _=>[(1,.arr 5 [.int .u8] 64 (cG (jN a.g a.i a.run)))]
def nY(f:Value)(g:Nat)(h:Nat->Option (Nat×List Value))(i:Nat->List Value->Prop)(j:Nat->Nat->Nat->List Value->Prop):Nat->Prop:=fun(v:Nat)=>∃w:Nat,f=pv v w/\∃s t:Nat,pv v w=pv s t/\∃x y z:Nat,∃u:List Value,pv s (t+g)=pv x (y+z)/\h x=some (y,u)/\i z u/\j x y z u
def nZ(u:Value)(v:Nat)(w:Nat->Option (Nat×List Value))(s:Value->Prop)(t:Nat->List Value->Prop):Nat->Prop:=nY u v (fun x=>w x) (fun x z=>(∃y:Value,z[x]? = some y/\s y)/\True) fun x z y f=>t y f
def fF(y:Value):Option Go.Addr->Prop:=fun(z:Option Go.Addr)=>∃x u:Nat,y=Value.slice z x u/\x<=aB
def jO(y:Value)(z:Nat)(u:Nat->Option (Nat×List Value))(v:Nat->List Value->Prop):Nat->Prop:=nZ y z (fun x=>u x) (fun x=>aq x.oneCell') fun x w=>v x w
def Df(y z u:Nat)(w:Int)(s:Nat)(t:Nat->Nat->Value)(f:qo->Prop):qo->Prop:=fun(x:qo)=>(y=x.r/\z=x.len/\u=x.cap)/\w=x.v/\aA x.n s 1 t x.rows/\(x.r+x.len<=x.n/\x.len<=8)/\aP (f x)
def Dg(y z:Nat)(u:Nat->Nat->Value)(v:C3->Prop):C3->Prop:=fun(x:C3)=>tO 1 1 x.c/\(4=x.r/\60=x.len/\y=x.cap)/\aA x.n z 1 u x.rows/\(x.r+x.len<=x.n/\x.len<100000)/\aP (v x)
def OM(u:Prop)(x:qo)(y:Nat->Nat->Value)(v:qo->Prop):=dN u (cO 4 64) (Exists (Dg 60 x.n y fun z=>Exists (Df 0 4 64 (xD z z.len) x.n y fun w=>v w)))
def l8:List CK:=[CK.int .u8]
def nH(u:PH)(v:Value)(w:List CK)(s:Nat->Nat->(Nat->Nat->Value)->Prop):Nat->Prop:=fun(x:Nat)=>∃y:Nat,∃z:Nat->Nat->Value,oo u v w x y z/\s x y z
def ze(x:List Value)(y z u:Nat):Value:=sk 1 (aL x y) z u (nj (aL x y))
def UZ(x:acF)(w:qo)(j:Nat->Nat->Value)(k f:Nat):Nat->Prop:=jO (pv x.y.b 0) 3 (fun z=>x.H z) fun z v=>Exists (jO (pv x.y.b 0) 3 (fun u=>x.H u) fun u s=>Exists (fF (aL s u))/\uz (ag x.i*(48:Int)) 6 (NS (aL v z)/\fm (uA 0 (ag x.i*(48:Int)-6) (ag (eC (aL s u)))) (eC (aL v z))/\64<=w.n/\Exists (nH x.H (ze v z (aC (uA 0 (ag x.i*(48:Int)-6) (ag (eC (aL s u))))) (eC (aL v z))) l8 fun h m l=>aZ 15 64/\OM (15<w.n) w (mO (ur j k (min h f) l) 15 0 (kq (lZ (ag (min h f))))) fun t=>Exists (aD (aQ 64 64/\bA (aA 64 t.n 1 (pQ t t.len) (cG (jN x.g x.i x.run))))))))
def mJ(y:Value):=∃x:Int,y=fB x/\ai x
def jP(z:Value)(u:Nat)(v:Nat->Option (Nat×List Value))(w:Nat->List Value->Prop):Nat->Prop:=nZ z u (fun x=>v x) (fun x=>mJ x) fun x y=>ai (dR (aL y x))->w x y
theorem U0:fnBody (Y Tryz.prog) [(196,Jx),(203,Zo)] 229 OL fun _=>[]:=fnBody.of (p :=
 ∀x:acF,tP x.H x.y x.g/\x.i<8/\aj x.g.buf<=378->qp 64 64 (cO 10 64/\cO 4 10/\Exists (jP (pv x.y.b 0) 0 (fun u=>x.H u) fun u t=>Exists (Df 4 6 60 (dI (dR (aL t u))) 64 (qq (kq 0)) fun v=>cO 14 64/\cO 10 14/\Exists (Df 10 4 54 (dI x.run) v.n (pQ v v.len) fun z=>aZ 14 64/\14<z.n/\cO 16 64/\aK (ag x.i == (0:Int)) (cO 6 48/\Exists (jP (pv x.y.b 0) 1 (fun w=>x.H w) fun w f=>Exists (Df 16 6 48 (dI (dR (aL f w))) z.n (mO (pQ z z.len) 14 0 (kq (lZ (ag x.i)))) fun s=>cO 6 48/\Exists (UZ x s (pQ s s.len) 22 42)))) (Exists (UZ x z (mO (pQ z z.len) 14 0 (kq (lZ (ag x.i)))) 16 48))))))) (by kernel_rfl) (by
 delta aK aQ aL aj ai aA nZ nY dN fB bK p5 aU tO qQ fm aP aZ ag fF aq UZ jP jO dI OM aC ah l8 qp aD xD cO kq Df pQ ax uA bA lZ Dg qq nH uz mJ y7 ze
 try dsimp -iota -proj only
 rintro⟨H,y,g,i,run⟩ ⟨hs,hi,hlen⟩;dsimp only at hs hi hlen ⊢;have hc:=hs.cell;obtain⟨r1,r2,r3⟩:=hs.AA;obtain⟨b1,b2,b3,b4,⟨ba,bc,b5⟩,b6⟩:=hs.buf.len;obtain⟨S,hS⟩:∃S,S=min (bh i) g.buf.length:=⟨_,rfl⟩
 have hmm:(bif false then max (bif true then max 0 ((i:Int)*48-6)else min 0 ((i:Int)*48-6)) (g.buf.length:Int)else min (bif true then max 0 ((i:Int)*48-6)else min 0 ((i:Int)*48-6)) (g.buf.length:Int))=(S:Int):=by
  simp only[iU,vv,bh]at *;omega
 have hcut:=hs.buf.cut (a:=S) (e:=g.buf.length) (by omega) (cW _)
 repeat(first|refine And.intro (by omega) ?_|refine And.intro (by omega) ?_|refine And.intro (by omega) ?_)
 refine⟨_,_,rfl,?_⟩;refine⟨_,_,rfl,?_⟩;refine⟨_,0,_,_,rfl,hc,?_⟩;refine⟨⟨⟨_,rfl,_,rfl,r1⟩,trivial⟩,fun _=>⟨⟨4,6,60,uw .u64 g.gen,64,cG fun _=>0⟩,?_⟩⟩
 and_intros<;>first|exact kG|rfl|exact oz fun _ _=>rfl|skip
 intro _ _;obtain⟨F1,hF1⟩:∃F:Nat->Int,F=fun k=>if 4<=k/\k<4+6 then EW (uw .u64 g.gen) 6 (k-4)else 0:=⟨_,rfl⟩
 obtain⟨F2,hF2⟩:∃F:Nat->Int,F=fun k=>if 10<=k/\k<10+4 then EW (uw .u64 run) 4 (k-10)else F1 k:=⟨_,rfl⟩
 rw[show Ar (cG fun _=>0) 4 6 (uw .u64 g.gen) 6=cG F1 by grind [De]]
 repeat(first|refine And.intro (by omega) ?_|refine And.intro (by omega) ?_|refine And.intro (by omega) ?_)
 refine⟨⟨10,4,54,uw .u64 run,64,cG F1⟩,?_⟩
 and_intros<;>first|exact kG|rfl|skip
 intro _ _;rw[show Ar (cG F1) 10 4 (uw .u64 run) 4=cG F2 by grind [De]];have hi8:uw .u8 (i:Int)=i:=by simp only[uw];omega
 have hsec:∀(F:Nat->Int),(∀k,k<64->F k=pR g i run k)->∀k,k<64->(if 0<=k/\k<0+4 then EW (eW .xor .u32 4294967295 (vQ (fun i_1=>u8 (cG (pR g i run)) (4+i_1)) 60)) 4 (k-0)else pR g i run k)=jN g i run k:=by
  intro F hF k hk;simp only[jN,p6,mA,LL,Az,true_and];rfl
 repeat refine clE ?_
 rw[hi8];refine⟨fun c1=>?_,fun c1=>?_⟩
 ·have hi0:i=0:=by simpa using c1
  subst hi0;obtain⟨F3,hF3⟩:∃F:Nat->Int,F=fun k=>if k=14 then 0 else F2 k:=⟨_,rfl⟩
  obtain⟨F4,hF4⟩:∃F:Nat->Int,F=fun k=>if 16<=k/\k<16+6 then EW (uw .u64 g.base) 6 (k-16)else F3 k:=⟨_,rfl⟩
  repeat(first|refine And.intro (by omega) ?_|refine And.intro (by omega) ?_|refine And.intro (by omega) ?_)
  refine⟨_,_,rfl,?_⟩;refine⟨_,_,rfl,?_⟩;refine⟨_,0,_,_,rfl,hc,?_⟩;refine⟨⟨⟨_,rfl,_,rfl,r2⟩,trivial⟩,fun _=>⟨⟨16,6,48,uw .u64 g.base,64,cG F3⟩,?_⟩⟩
  and_intros<;>first|exact kG|rfl|exact oz (fun k hk=>by rw[w8,hF3];grind [cG])|skip
  intro _ _;rw[show Ar (cG F3) 16 6 (uw .u64 g.base) 6=cG F4 by grind [De]]
  repeat(first|refine And.intro (by omega) ?_|refine And.intro (by omega) ?_|refine And.intro (by omega) ?_)
  refine⟨_,_,rfl,?_⟩;refine⟨_,_,rfl,?_⟩;refine⟨_,0,_,_,rfl,hc,?_⟩;refine⟨⟨⟨_,rfl,b6⟩,trivial⟩,?_⟩;refine⟨_,_,rfl,?_⟩;refine⟨_,_,rfl,?_⟩;refine⟨_,0,_,_,rfl,hc,?_⟩;refine⟨⟨⟨_,rfl,b6⟩,trivial⟩,⟨ba,_,bc,b5,b3⟩,?_⟩;simp only[eH,zBq,G3,b1,hmm,Ay]
  repeat refine clE ?_
  refine⟨_,_,_,hcut,?_⟩
  repeat(first|refine And.intro (by omega) ?_|refine And.intro (by omega) ?_|refine And.intro (by omega) ?_)
  obtain⟨U,hU⟩:∃U,U=mq g.buf.length 0:=⟨_,rfl⟩
  have hU2:min (g.buf.length-S) 42=U:=by rw[hU,hS];simp only[mq,kH,bh,if_true];omega
  have hUs:(uw .u8 ((min (g.buf.length-S) 42:Nat):Int))=(U:Int):=by rw[hU2];simp only[uw];omega
  have hS0:S=0:=by rw[hS];simp[bh]
  have hfin:af 64 1 (mO (ur (cG F4) 22 (min (g.buf.length-S) 42) fun i=>aa dA g.buf (S+i)) 15 0 [Value.int .u8 (uw .u8 ((min (g.buf.length-S) 42:Nat):Int))]) (cG (pR g 0 run)):=by
   rw[hUs,hU2,hS0];refine oz fun k hk=>?_;rw[w8];simp only[ur,cG,aa,dA,G3,mA,hF4,hF3,hF2,hF1,pR,<- hU,if_true]
   (repeat' split)<;>first|rfl|(exfalso;omega)|skip
  refine⟨C3.mk 1 4 60 60 64 (cG (pR g 0 run)),?_⟩
  and_intros<;>first|exact kG|exact hfin|skip
  intro _ _;refine⟨qo.mk 0 4 64 (eW .xor .u32 4294967295 (vQ (fun i_1=>u8 (cG (pR g 0 run)) (4+i_1)) 60)) 64 (cG (pR g 0 run)),?_⟩
  and_intros<;>first|exact kG|exact hfin|skip
  intro _ _;refine⟨(),?_⟩;have hlast:af 64 1 (Ar (cG (pR g 0 run)) 0 4 (eW .xor .u32 4294967295 (vQ (fun i_1=>u8 (cG (pR g 0 run)) (4+i_1)) 60)) 4) (cG (jN g 0 run)):=by
   rw[De (by omega)];exact oz fun k hk=>by simp only[cG];rw[hsec _ (fun _ _=>rfl) k hk]
  grind
 ·have hi0:i≠0:=by simpa using c1
  repeat(first|refine And.intro (by omega) ?_|refine And.intro (by omega) ?_|refine And.intro (by omega) ?_)
  refine⟨_,_,rfl,?_⟩;refine⟨_,_,rfl,?_⟩;refine⟨_,0,_,_,rfl,hc,?_⟩;refine⟨⟨⟨_,rfl,b6⟩,trivial⟩,?_⟩;refine⟨_,_,rfl,?_⟩;refine⟨_,_,rfl,?_⟩;refine⟨_,0,_,_,rfl,hc,?_⟩;refine⟨⟨⟨_,rfl,b6⟩,trivial⟩,⟨ba,_,bc,b5,b3⟩,?_⟩;simp only[eH,zBq,G3,b1,hmm,Ay]
  repeat refine clE ?_
  refine⟨_,_,_,hcut,?_⟩
  repeat(first|refine And.intro (by omega) ?_|refine And.intro (by omega) ?_|refine And.intro (by omega) ?_)
  obtain⟨U,hU⟩:∃U,U=mq g.buf.length i:=⟨_,rfl⟩
  have hU2:min (g.buf.length-S) 48=U:=by rw[hU,hS];simp only[mq,kH,if_neg hi0];omega
  have hUs:(uw .u8 ((min (g.buf.length-S) 48:Nat):Int))=(U:Int):=by rw[hU2];simp only[uw];omega
  have hfin:af 64 1 (mO (ur (mO (cG F2) 14 0 [Value.int .u8 (i:Int)]) 16 (min (g.buf.length-S) 48) fun i=>aa dA g.buf (S+i)) 15 0 [Value.int .u8 (uw .u8 ((min (g.buf.length-S) 48:Nat):Int))]) (cG (pR g i run)):=by
   have hSU:0<U->S=bh i:=by rw[hU,hS];simp only[mq];omega
   rw[hUs,hU2];refine oz fun k hk=>?_;rw[w8];simp only[ur,cG,aa,dA,G3,w8,hF2,hF1,pR,<- hU,if_neg hi0]
   (repeat' split)<;>first|rfl|(exfalso;omega)|grind|skip
  refine⟨C3.mk 1 4 60 60 64 (cG (pR g i run)),?_⟩
  and_intros<;>first|exact kG|exact hfin|skip
  intro _ _;refine⟨qo.mk 0 4 64 (eW .xor .u32 4294967295 (vQ (fun i_1=>u8 (cG (pR g i run)) (4+i_1)) 60)) 64 (cG (pR g i run)),?_⟩
  and_intros<;>first|exact kG|exact hfin|skip
  intro _ _;refine⟨(),?_⟩;have hlast:af 64 1 (Ar (cG (pR g i run)) 0 4 (eW .xor .u32 4294967295 (vQ (fun i_1=>u8 (cG (pR g i run)) (4+i_1)) 60)) 4) (cG (jN g i run)):=by
   rw[De (by omega)];exact oz fun k hk=>by simp only[cG];rw[hsec _ (fun _ _=>rfl) k hk]
  grind)
theorem U1:av (Y Tryz.prog).G.X 229 OL:=bp gf U0 ⟨Ik,Ij,trivial⟩
structure cn where
 from_:Nat
 au:Nat
 l:List cQ
 next:Int
 run:Int
 fresh:Bool
 deriving Inhabited
structure jD where
 lv:Value
 ys:List rC
def ame(t:Nat)(L:cn)(lv:Value):List A:=[.ptr t 0 0 0,.int .i64 L.from_,.int .i64 L.au,.val lv,.int .i64 L.next,.int .i64 L.run,.bool L.fresh]
@[reducible] def Fv(a b:cn)(v w:Value)(p:Prop):Prop:=(↑a.from_:Int)=(↑b.from_:Int)/\(↑a.au:Int)=(↑b.au:Int)/\v=w/\a.next=b.next/\a.run=b.run/\a.fresh=b.fresh/\p
def js(t:Nat)(L:cn)(lv:Value):Chunk:=.obj 254 (ame t L lv)
def oC(L:cn)(g:cQ)(i:Nat):Nat:=L.from_+(g.gen-1).toNat%L.au*8+i
structure zf where
 H:PH
 y:rC
 g:cQ
 i:Nat
 L:cn
 lv:Value
 d:bH
def ON:cB where
 α:=zf
 m:=4
 m':=4
 pre:=fun a=>tP a.H a.y a.g/\a.i<8/\a.g.buf.length<=378/\1<=a.g.gen/\3<=a.L.au/\a.L.au<=200/\a.L.from_+a.L.au*8<=a.d.n/\a.d.n<100000/\a.d.calls<1000000000000
 args:=fun a=>[.a (.ptr 0 0 0 0),.a (.val (pv a.y.b 0)),.a (.int .i64 a.i)]
 hp:=fun a=>gW 1 2 a.d
 ro:=fun a=>[(0,js 1 a.L a.lv),(3,.dg a.H)]
 res:=fun _ _=>.a (.lit .i64 0)
 eV:=fun a _=>gW 1 2 (jX a.d (oC a.L a.g a.i) 64 (jN a.g a.i a.L.run))
def Dh(x:UL)(y:bH)(z:Nat)(u:Nat->Nat->Value)(v:Prop):=(0=x.r/\64=x.len/\64=x.cap)/\iZ y x.d (aA x.n z 1 u (cG x.src)/\AN x/\aP v)
def AP(x:cn)(y:bH)(z:Prop):=3<=x.au/\x.au<=200/\x.from_+x.au*8<=y.n/\z
def Fw(x:zf):=tP x.H x.y x.g/\x.i<8/\aj x.g.buf<=378/\(1:Int)<=x.g.gen/\AP x.L x.d (nE x.d)
def Fy(x:zf):bH:=jX x.d (oC x.L x.g x.i) 64 (jN x.g x.i x.L.run)
def OO(x:cn)(y:Int)(z:Nat)(u:Prop):=ai (ag x.from_)->ai (y*(8:Int))/\sM (ag x.from_+y*(8:Int)) (ag z) u
def rE(x y:Nat):=pv x 0=pv y 0
theorem Zu:fnBody (Y Tryz.prog) [(229,OL),(81,vq)] 198 ON fun _=>[]:=fnBody.of (p :=
 ∀x:zf,Fw x->Exists (jP (pv x.y.b 0) 0 (fun u=>x.H u) fun u v=>ai (dR (aL v u)-(1:Int))/\(ai (ag x.L.au)->ag x.L.au≠(0:Int)/\OO x.L ((dR (aL v u)-(1:Int)).tmod (ag x.L.au)) x.i (ai x.L.run->∃z:acF,rE x.y.b z.y.b/\cm x.i z.i/\x.L.run=z.run/\x.H=z.H/\(tP z.H z.y z.g/\z.i<8/\aj z.g.buf<=378)/\aP (∃w:UL,ah (ag x.L.from_+(dR (aL v u)-(1:Int)).tmod (ag x.L.au)*(8:Int)+ag x.i=ag w.i/\Dh w x.d 64 (cG (jN z.g z.i z.run)) (Exists (aD (aJ (l5 (ry w) (Fy x))))))))))) (by kernel_rfl) (by
 delta aL aj ai aA az nZ nY cm fB aP ag jP aJ nE ah ry Dh aD Fw sM AN Fy l5 OO AP mJ rE
 try dsimp -iota -proj only
 rintro⟨H,y,g,i,L,lv,d⟩ ⟨hs,hi,hlen,hg,s1,s2,h3,h4,h5⟩;dsimp only at *;have hc:=hs.cell;obtain⟨r1,r2,r3⟩:=hs.AA;have hm:(g.gen-1).tmod (L.au:Int)=(((g.gen-1).toNat%L.au:Nat):Int):=by
  rw[Int.tmod_eq_emod_of_nonneg (by omega),Int.natCast_emod];congr 1;omega
 have hml:(g.gen-1).toNat%L.au<L.au:=Nat.mod_lt _ (by omega);have hsn:((L.from_:Int)+(((g.gen-1).toNat%L.au:Nat):Int)*8+i)=(oC L g i:Nat):=by simp only[oC];omega
 have hlt:oC L g i<d.n:=by simp only[oC];omega
 refine⟨_,_,rfl,?_⟩;refine⟨_,_,rfl,?_⟩;refine⟨_,0,_,_,rfl,hc,?_⟩;refine⟨⟨⟨_,rfl,_,rfl,r1⟩,trivial⟩,fun _=>?_⟩;simp only[eH,G3,dR,hm];refine⟨by simp only[bZ]at *;omega,fun _=>⟨by omega,fun _=>⟨by simp only[bZ];omega,by simp only[bZ];omega,by simp only[bZ];omega,fun _=>?_⟩⟩⟩;rw[hsn];refine⟨acF.mk H y g i L.run,?_⟩
 and_intros<;>first|exact kG|skip
 intro _ _;refine⟨UL.mk d (oC L g i) 0 64 64 64 (jN g i L.run),?_⟩;simp only[mA]
 grind [af.refl])
theorem MK:av (Y Tryz.prog).G.X 198 ON:=bp gf Zu ⟨U1,ve,trivial⟩
instance:Inhabited rC:=⟨⟨0,undef,undef,[]⟩⟩
def Fz(ys:List rC):Nat->Nat->Value:=fun i _=>pv (gl ys i).b 0
structure cV(H:PH)(y:jD)(L:cn):Prop where
 lst:∃c,oo H y.lv [.deep] L.l.length c (Fz y.ys)
 len:y.ys.length=L.l.length
 seg:∀i,i<L.l.length->tP H (gl y.ys i) (gl L.l i)
 nd:(iW y.lv++y.ys.flatMap ct).Nodup
def cC(y:jD):List Nat:=iW y.lv++y.ys.flatMap ct
theorem cV.at_{H:PH}{y:jD}{L:cn}(h:cV H y L){i:Nat}(hi:i<L.l.length):∃b lo o c cs,y.lv=iK b (lo+o) L.l.length c/\H b=some (lo,cs)/\cs[o+i*1]? = some (pv (gl y.ys i).b 0)/\cs.getD (o+i*1) (Value.tuple #[])=pv (gl y.ys i).b 0:=by
 obtain⟨c,h⟩:=h.lst;rcases h with⟨_,h0,_⟩ | ⟨b,lo,o,cs,h1,h2,h3,h4,h5⟩
 ·omega
 ·have:=(h5.at_ i hi 0 .deep rfl).1;exact⟨b,lo,o,c,cs,h1,h3,this,by rw[LP,show cs[o+i*1]? = some (pv (gl y.ys i).b 0)from this];rfl⟩
theorem cV.vS{y:jD}{L:cn}(h:cV H y L):eC y.lv=L.l.length/\NS y.lv/\(∃a c,y.lv = .slice a L.l.length c)/\L.l.length<=aB/\y.lv.oneCell'=true:=by
 obtain⟨c,h⟩:=h.lst;obtain⟨h1,h2,h3,h4,h5,⟨a,h6⟩,h7⟩:=iD h
 grind
def cA(L:cn):cQ:=⟨(match L.l.getLast? with|some g=>g.gen+1|none=>1),L.next,0,[],[]⟩
variable{b x:Nat}{ys:List rC}
theorem qv(h:x∉iW v):bu H v x=H x:=by
 unfold bu;split
 ·grind [E8,iW]
 ·rfl
theorem BZ(hi:i<ys.length)(hx:x∈ct (gl ys i)):x∈ys.flatMap ct:=by
 grind [b8]
theorem acG(hx:x∈ys.flatMap ct):∃i,i<ys.length/\x∈ct (gl ys i):=by
 obtain⟨y,hy,hx⟩:=zBD.1 hx;obtain⟨i,hi,rfl⟩:=List.getElem_of_mem hy;exact⟨i,hi,by grind [b8]⟩
theorem cV.dom{H:PH}{y:jD}{L:cn}(h:cV H y L):∀x∈cC y,H x≠none:=by
 intro x hx;rcases yG.1 hx with hx|hx
 ·grind [h.lst,rD]
 ·obtain⟨i,hi,hx⟩:=acG hx;exact(h.seg i (by grind [h.len])).dom x hx
theorem cV.frame{H H':PH}{y:jD}{L:cn}(h:cV H y L)(e:∀x∈cC y,H' x=H x):cV H' y L:=by
 obtain⟨c,hl⟩:=h.lst;refine⟨⟨c,l7 hl fun x hx=>e x (CQ _ hx)⟩,h.len,fun i hi=>(h.seg i hi).frame fun x hx=>e x (LQ _ (BZ (by grind [h.len]) hx)),h.nd⟩
theorem jQ{α:Type}[Inhabited α]{l:List α}{x:α}(h:i<l.length+1):gl (l++[x]) i=if i<l.length then gl l i else x:=by
 by_cases hi:i<l.length
 ·grind [cu]
 ·rw[if_neg hi,show i=l.length+0 by omega,bt];rfl
def newL(b:Nat):rC:=⟨b,.slice none 0 0,.slice none 0 0,[]⟩
theorem ML{L:cn}(h1:bZ .i64 L.next)(h2:bZ .i64 (cA L).gen):tP (bB H b 0 (eH (cA L) (.slice none 0 0) (.slice none 0 0))) (newL b) (cA L) :=
 ⟨fJ ..,⟨h2,h1,by show bZ .i64 0;simp only[bZ];omega⟩,⟨0,.inl ⟨rfl,rfl,rfl⟩⟩,⟨0,.inl ⟨rfl,rfl,rfl⟩⟩,rfl,fun i hi=>absurd hi (uh i)⟩
structure ji(H:PH)(y:rC)(g:cQ):Prop where
 at_:tP H y g
 nd:(ct y).Nodup
variable{L':cn}{y:jD}{α β:Type}
theorem OP{L:cn}{sl:rC}{g:cQ}{b' lo cap:Nat}{cs:List Value}{R:Nat->Nat->Value}(hl:cV H y L)(hs:ji H sl g)(hd:∀x∈cC y,x∉ct sl)
 (hb':bu H y.lv b'=none) (hcs:cs.length=cap*1) (hc:L.l.length+1<=cap) (hc2:cap<=aB) (hp:IV cs 0 [.deep] (L.l.length+1) R)
 (hR:∀i,i<L.l.length+1->R i 0=Fz (y.ys++[sl]) i 0)  (hL':L'.l=L.l++[g]) :
 cV (bB (bu H y.lv) b' lo cs) ⟨iK b' lo (L.l.length+1) cap,y.ys++[sl]⟩ L' /\
 ∀x,H x≠none->x∉cC y->x∉ct sl->bB (bu H y.lv) b' lo cs x=H x/\x∉cC ⟨iK b' lo (L.l.length+1) cap,y.ys++[sl]⟩:=by
 have hdm:=hl.dom;have hds:=hs.at_.dom;have hnd:=hl.nd;rw[YO]at hnd;obtain⟨n1,n2,n3⟩:=hnd;have hFl:∀x∈y.ys.flatMap ct,x∉iW y.lv:=fun x hx e=>n3 x e x hx rfl;have hSl:∀x∈ct sl,x∉iW y.lv:=fun x hx e=>hd x (CQ _ e) hx;have hSF:∀x∈ct sl,x∉y.ys.flatMap ct:=fun x hx e=>hd x (LQ _ e) hx;have hm:∀x,x∉iW y.lv->bu H y.lv x=H x:=fun x hx=>qv hx;have hbF:b'∉y.ys.flatMap ct:=fun e=>by
  have:=hdm b' (LQ _ e)
  grind
 have hbS:b'∉ct sl:=fun e=>by
  grind
 have hfp:cC ⟨iK b' lo (L.l.length+1) cap,y.ys++[sl]⟩=b'::(y.ys.flatMap ct++ct sl):=by
  simp[cC,iW,iK]
 have hlen:L'.l.length=L.l.length+1:=by rw[hL'];simp
 refine⟨⟨⟨cap,.inr ⟨b',lo,0,cs,?_,⟨?_,hc2⟩,fJ ..,by simp[hcs],?_⟩⟩,?_,?_,?_⟩,?_⟩
 ·grind
 ·omega
 ·rw[hlen];refine⟨fun i hi j k hj=>?_⟩;have:=hp.at_ i hi j k hj
  grind
 ·grind [hl.len]
 ·intro i hi;rw[hlen]at hi;rw[hL',jQ hi];show tP _ (gl (y.ys++[sl]) i) _;rw[jQ (by grind [hl.len]),hl.len];by_cases hin:i<L.l.length
  ·rw[if_pos hin,if_pos hin];refine(hl.seg i hin).frame fun x hx=>?_
   grind [BZ,hl.len,dM]
  ·rw[if_neg hin,if_neg hin];refine hs.at_.frame fun x hx=>?_
   grind [dM]
 ·show(cC ⟨iK b' lo (L.l.length+1) cap,y.ys++[sl]⟩).Nodup;rw[hfp,zBT,YO];refine⟨?_,n2,hs.nd,?_⟩
  ·grind
  grind
 ·intro x hx hxn hxs;have hxl:x∉iW y.lv:=fun e=>hxn (CQ _ e);have hxF:x∉y.ys.flatMap ct:=fun e=>hxn (LQ _ e);have hxb':x≠b':=fun e=>by
   grind
  refine⟨by grind [dM],?_⟩
  grind
theorem cV.congr{L:cn}(h:cV H y L)(e:L'.l=L.l):cV H y L':=⟨by grind [h.lst],by grind [h.len],by grind [h.seg],h.nd⟩
structure qV where
 H:PH
 y:jD
def n9(t s:Int)(g:cQ):Bool:=decide (t-s<g.gen)
structure AQ where
 H:PH
 y:jD
 L:cn
 gb:Nat
 t:Int
structure zg(a:AQ):Prop where
 log:cV a.H a.y a.L
 wN:a.L.l.length<1000
 au:a.L.au<=200
 t:bZ .i64 a.t/\0<=a.t
 cell:∃r,a.H a.gb=some (0,.int .i64 a.t::r)
 far:a.gb∉cC a.y
def acH:cB where
 α:=AQ
 β:=Int
 m:=5
 m':=5
 pre:=fun a=>zg a
 args:=fun a=>[.a (.val a.y.lv),.E0 228 [.ptr 0 0 0 0,.ptr 1 0 0 0]]
 ro:=fun a=>[(0,.obj 289 [.val (pv a.gb 0)]),(1,.obj 202 [.ptr 2 0 0 0]),(2,js 4 a.L a.y.lv),(3,.dg a.H)]
 post:=fun a r=>(r = -1/\∀i,i<a.L.l.length->n9 a.t a.L.au (gl a.L.l i)=true)\/∃i:Nat,r=i/\i<a.L.l.length/\n9 a.t a.L.au (gl a.L.l i)=false/\∀j,j<i->n9 a.t a.L.au (gl a.L.l j)=true
 res:=fun _ r=>.a (.int .i64 r)
def akI(a:AQ):An:=.flat 2 Nat (fun s k=>s.int 8 k) (fun _ k=>k<=a.L.l.length/\∀j,j<k->n9 a.t a.L.au (gl a.L.l j)=true) (fun _ k=>a.L.l.length-k)
def aM(x:Prop):=ah (ah x)
def pG(w s t:Nat)(f:Nat->Option (Nat×List Value))(g:Value->Prop)(h i:Nat->List Value->Prop):=∃z u x:Nat,∃y:List Value,pv w (s+t)=pv z (u+x)/\f z=some (u,y)/\((∃v:Value,y[x]? = some v/\g v)/\h x y)/\i x y
def w9(z u v:Nat)(w:Nat->Option (Nat×List Value))(s:Nat->List Value->Prop):=pG z u v (fun x=>w x) (fun x=>aq x.oneCell') (fun x y=>True) fun x y=>s x y
def gu(x:Value):=x=x
def bY(x:cn):Nat:=x.l.length
def dG(x y:Nat)(z:Prop)(u:Nat):=(x<=y/\z)/\bM y x u
def ku(u:Value)(v:Int)(w:Nat->Nat->Prop):=∃x y:Nat,∃z s:Nat,u=iK x y z s/\aZ v (ag z)/\w x y
def Di(z:Nat)(x:AQ):=∀y:Nat,y<z->aq (n9 x.t (ag x.L.au) (gl x.L.l y))
def JI(z:Int)(x:AQ):=z=(-1:Int)/\Di (bY x.L) x\/∃y:Nat,z=ag y/\y<bY x.L/\aU (n9 x.t (ag x.L.au) (gl x.L.l y))/\Di y x
def pS(z:jD)(y:Nat)(u:Nat->Option (Nat×List Value))(v:Nat->List Value->Prop):=ku z.lv (ag y) fun w s=>w9 w s (aG y*1) (fun x=>u x) fun x t=>v x t
def zh(x y:Int)(z u:Prop):=ai x/\aK (bF y x) z u
def OQ(y:jD)(z:Nat)(t f:Nat->Prop)(g h i:Nat->Option (Nat×List Value))(s:Int)(j:Nat->Prop)(k:Nat->Nat->Prop)(l:Prop):=Exists (fF y.lv)/\(∃x:Nat,aS x (cR (ag (eC y.lv)) 0 (gu y.lv) (aM (gu (pv z 0)/\t x))))/\∀x:Nat,f x->bS x (eC y.lv) (pS y x (fun u=>g u) fun u m=>Exists (jP (aL m u) 0 (fun v=>h v) fun v n=>Exists (jP (pv z 0) 0 (fun w=>i w) fun w o=>ai s->zh (dR (aL o w)-s) (dR (aL n v)) (j x) (bQ x fun p=>cR (ag (eC y.lv)) 0 (gu y.lv) (aM (gu (pv z 0)/\k x p)))))) l
def xI(x:cn)(y:jD)(z:Prop):=Fv x x y.lv y.lv z
theorem acI:fnBody (Y Tryz.prog) [] 234 acH fun a=>[(234,[akI a],[])]:=fnBody.of (p :=
 ∀x:AQ,zg x->OQ x.y x.gb (fun z=>aM (xI x.L x.y (x.H=x.H/\(z<=bY x.L/\Di z x)/\True))) (fun z=>z<=bY x.L/\Di z x) (fun z=>x.H z) (fun z=>x.H z) (fun z=>x.H z) (ag x.L.au) (fun z=>∃u:Int,ag z=u/\JI u x/\True) (fun z u=>aM (xI x.L x.y (x.H=x.H/\dG u (bY x.L) (Di u x) z))) (∃z:Int,(-1:Int)=z/\JI z x/\True)) (by kernel_rfl) (by
 delta aK cR aL ai nZ aG aM aN w9 nY fB pG gu aU bI aZ bY ag fF dG aq ku bQ jP bF aC ah JI aS aI pS Di aY OQ bS zh xI mJ bw bM
 try dsimp -iota -proj only
 rintro⟨H,y,L,gb,T⟩ ⟨hl,h1,h2,⟨h3,h4⟩,⟨gr,hgb⟩,h5⟩;dsimp only at *;obtain⟨e1,_,⟨ea,ec,e2⟩,e3,_⟩:=hl.vS;refine⟨⟨ea,_,ec,e2,e3⟩,⟨0,?_⟩,fun k hk=>⟨fun c1=>?_,fun c1=>⟨-1,?_⟩⟩⟩
 ·grind
 ·obtain⟨hk0,hkk⟩:=hk;rw[e1]at c1;have hk:k<L.l.length:=by simpa using c1
  obtain⟨b,lo,o,c,cs,g1,g2,g3,g4⟩:=hl.at_ hk;have hs:=hl.seg k hk;obtain⟨r1,_,_⟩:=hs.AA;refine⟨_,_,_,_,g1,by omega,b,lo,o+k*1,cs,by grind,g2,⟨⟨_,g3,rfl⟩,trivial⟩,?_⟩;refine⟨_,_,g4,?_⟩;refine⟨_,_,rfl,?_⟩;refine⟨_,0,_,_,rfl,hs.cell,?_⟩;refine⟨⟨⟨_,rfl,_,rfl,r1⟩,trivial⟩,fun _=>?_⟩;refine⟨_,_,rfl,?_⟩;refine⟨_,_,rfl,?_⟩;refine⟨_,0,_,_,rfl,hgb,?_⟩;refine⟨⟨⟨_,rfl,_,rfl,h3⟩,trivial⟩,fun _ _=>?_⟩;simp only[eH,G3,dR,bZ]at h3 ⊢;refine⟨by omega,fun c2=>⟨k,?_⟩,fun c2=>⟨by omega,k+1,?_⟩⟩
  ·grind [n9]
  ·have c2:=ug c2;have hn:∀j,j<k+1->n9 T L.au (gl L.l j)=true:=fun j hj=>by
    by_cases e:j=k
    ·subst e;simp only[n9,tB];omega
    grind
   grind
 grind)
theorem acJ:av (Y Tryz.prog).G.X 234 acH:=bp gf acI trivial
def stay(t s:Int)(l:List cQ)(j:Nat):List Nat:=(List.range j).filter fun i=>n9 t s (gl l i)
theorem Fk[Inhabited α][Inhabited β]{l:List α}{f:α->β}(h:i<l.length):gl (l.map f) i=f (gl l i):=by
 grind [b8]
theorem acK[Inhabited α](l:List α):(List.range l.length).map (gl l)=l:=by
 refine zBR (by simp) fun i h1 h2=>?_;rw[zBQ,List.getElem_range,b8 h2]
theorem acL(t s:Int)(l:List cQ):(stay t s l l.length).map (gl l)=l.filter (n9 t s):=by
 have:l.filter (n9 t s)=((List.range l.length).map (gl l)).filter (n9 t s):=by rw[acK]
 rw[this,List.filter_map];rfl
theorem MM(t s:Int)(l:List cQ)(j:Nat):stay t s l (j+1)=stay t s l j++if n9 t s (gl l j)then[j]else[]:=by
 grind [stay,List.range_succ]
theorem agP{t s:Int}{l:List cQ}{j:Nat}(h:i<(stay t s l j).length):gl (stay t s l j) i<j:=by
 grind [stay,b8,List.getElem_mem]
theorem HR{f:α->List β}{l m:List α}(h:l.Sublist m):(l.flatMap f).Sublist (m.flatMap f):=by
 induction h with
 |slnil=>grind
 |cons a _ ih=>grind
 |cons_cons a _ ih=>grind
def AR(t:Int)(L:cn):cn:={ L with l:=L.l.filter (n9 t L.au) }
structure SB where
 j:Nat
 rows:Nat->Nat->Value
def acM:cB where
 α:=AQ
 β:=qV
 m:=5
 m':=6
 pre:=fun a=>zg a
 args:=fun a=>[.a (.val a.y.lv),.E0 228 [.ptr 0 0 0 0,.ptr 1 0 0 0]]
 hp:=fun a=>[(3,.dg a.H)]
 ro:=fun a=>[(0,.obj 289 [.val (pv a.gb 0)]),(1,.obj 202 [.ptr 2 0 0 0]),(2,js 4 a.L a.y.lv)]
 post:=fun a b=>cV b.H b.y (AR a.t a.L)/\∀x,a.H x≠none->x∉cC a.y->b.H x=a.H x/\x∉cC b.y
 res:=fun _ b=>.a (.val b.y.lv)
 eV:=fun _ b=>[(5,.dg b.H)]
structure U2(a:AQ)(x:SB):Prop where
 le:x.j<=a.L.l.length
 lt:(stay a.t a.L.au a.L.l x.j).length<x.j
 one:∀i,i<a.L.l.length->(x.rows i 0).oneCell'=true
 low:∀i,i<(stay a.t a.L.au a.L.l x.j).length->x.rows i 0=pv (gl a.y.ys (gl (stay a.t a.L.au a.L.l x.j) i)).b 0
 high:∀i,x.j<=i->i<a.L.l.length->x.rows i 0=Fz a.y.ys i 0
def akJ(a:AQ):An:=.flat 5 SB (fun s x=>((s.at_ (s.tg 0) (.arr 289 [.deep] a.L.l.length x.rows)).int 5 (stay a.t a.L.au a.L.l x.j).length).int 6 x.j) (fun _ x=>U2 a x) (fun _ x=>a.L.l.length-x.j)
def akK(a:AQ):An:=.acE 4 0 289 [.deep] (.mk 1000 [akJ a] [An.XL 0 4 (.mk 1000 [] [])])
def pT(x:AQ)(y:SB):Nat:=(stay x.t (ag x.L.au) x.L.l y.j).length
def Dj(x:Option (Nat×List Value))(z:jD)(y:Nat)(u:Option (Nat×List Value))(v:jD):=x≠none->¬y∈cC z->u=x/\¬y∈cC v
def OR(u:Int)(x:AQ)(v:Nat)(w:Nat->Nat->Value)(z:SB)(s:Prop):=aO (u == (-1:Int))/\aM (aA (bY x.L) v 1 w z.rows/\bu x.H x.y.lv=bu x.H x.y.lv/\gu (pv x.gb 0)/\aM (xI x.L x.y (U2 x z/\s)))
def vT(x:qV)(u:cn)(v:Nat->Option (Nat×List Value))(w:jD):=cV x.H x.y u/\∀z:Nat,Dj (v z) w z (x.H z) x.y
def uC:List CK:=[CK.deep]
def fe(x:Int):=ai (x+(1:Int))
def FA(x y u:Nat)(v:List Value)(w:Nat->Value):Nat->Value:=fun(z:Nat)=>if 0+aG x<=y/\y<0+aG x+(u-aG x)then aL v z else w z
def JJ:Value:=Value.pointer none
theorem acN:fnBody (Y Tryz.prog) [(234,acH)] 208 acM fun a=>[(208,[],[akK a])]:=fnBody.of (p :=
 ∀x:AQ,zg x->∃g:AQ,x.y.lv=g.y.lv/\aM (rE x.gb g.gb/\aM (Fv x.L g.L x.y.lv g.y.lv (x.H=g.H/\zg g/\∀s:Int,JI s g->aK (s == (-1:Int)) (∃u:qV,x.y.lv=u.y.lv/\x.H=u.H/\vT u (AR x.t x.L) (fun w=>x.H w) x.y/\True) (Exists (nH x.H x.y.lv uC fun u w m=>fe s/\(∃z:SB,s+(1:Int)=ag z.j/\s=ag (pT x z)/\aQ u w/\OR s x u m z True)/\∀z:SB,U2 x z->gI z.j u 0 (bY x.L) (Exists (jP (z.rows (0+aG z.j) 0) 0 (fun h=>bu x.H x.y.lv h) fun h k=>Exists (jP (pv x.gb 0) 0 (fun f=>bu x.H x.y.lv f) fun f l=>ai (ag x.L.au)->ai (dR (aL l f)-ag x.L.au)/\aK (bg (bF (dR (aL k h)) (dR (aL l f)-ag x.L.au))) (aZ (ag (pT x z)) (ag u)/\0+aG (pT x z)<bY x.L/\aY (pT x z) (aY z.j (∃v:SB,bw z.j v.j (bw (pT x z) (pT x v) (aQ u w/\OR s x (bY x.L) (mO z.rows (0+aG (pT x z)) 0 (bW (z.rows (0+aG z.j) 0))) v (bM (bY x.L) v.j z.j)))))) (aY z.j (∃v:SB,bw z.j v.j (cm (pT x z) (pT x v)/\aQ u w/\OR s x (bY x.L) z.rows v (bM (bY x.L) v.j z.j))))))) (fm (ag (pT x z)) u/\fm (ag (pT x z)) w/\(w-0≠0/\0+(aG (pT x z)-0)<=bY x.L)/\∀(h k:Nat) (f:List Value),bu x.H x.y.lv h=none->f.length=(w-0)*1->(IV f 0 uC (aG (pT x z)-0) fun v=>FA (pT x z) (0+v) u (bW JJ) fun i=>z.rows (0+v) i) ->
 ∃i:qV,iK h k (aG (pT x z)-0) (w-0)=i.y.lv/\bB (bu x.H x.y.lv) h k f=i.H/\vT i (AR x.t x.L) (fun n=>x.H n) x.y/\True))))))) (by kernel_rfl) (by
 delta aK aQ aL aO ai aA nZ aG aM aN nY cm fB bK gu aU gI bI fm aZ bY ag aq jP bF pT aC bW ah Dj JI aI cO OR bg Di aY vT uC bS nH xI mJ rE bw bM fe FA JJ
 try dsimp -iota -proj only
 rintro⟨H,y,L,gb,T⟩ hp;obtain⟨hl,h1,h2,⟨h3,h4⟩,⟨gr,hgb⟩,h5⟩:=hp;dsimp only at *;have hp:zg ⟨H,y,L,gb,T⟩:=⟨hl,h1,h2,⟨h3,h4⟩,⟨gr,hgb⟩,h5⟩
 obtain⟨e1,_,⟨ea,ec,e2⟩,e3,_⟩:=hl.vS;have hmap:=acL T L.au L.l;refine⟨⟨H,y,L,gb,T⟩,rfl,rfl,rfl,rfl,rfl,rfl,rfl,rfl,rfl,rfl,rfl,rfl,rfl,hp,fun r hr=>?_⟩;dsimp only at hr ⊢;refine⟨fun c=>⟨⟨H,y⟩,rfl,rfl,⟨hl.congr ?_,fun x _ hn=>⟨rfl,hn⟩⟩,trivial⟩,fun c=>?_⟩
 ·rcases hr with⟨_,hr⟩ | ⟨i,rfl,_⟩
  ·show L.l.filter (n9 T L.au)=L.l
   grind [List.filter_eq_self,List.getElem_of_mem,b8]
  grind
 ·obtain⟨r0,rfl,hr1,hr2,hr3⟩:∃i:Nat,r=i/\i<L.l.length/\n9 T L.au (gl L.l i)=false/\∀j,j<i->n9 T L.au (gl L.l j)=true:=by
   grind
  obtain⟨cl,hlst⟩:=hl.lst;obtain⟨u1,u2,u3,u4,_⟩:=iD hlst;have hst0:stay T L.au L.l (r0+1)=List.range r0:=by
   rw[MM,hr2];simp only[RF,if_false,z6];unfold stay;rw[List.filter_eq_self];exact fun i hi=>hr3 i (List.mem_range.1 hi)
  have hnd:=hl.nd;rw[YO]at hnd;obtain⟨n1,n2,n3⟩:=hnd;have hFl:∀x∈y.ys.flatMap ct,x∉iW y.lv:=fun x hx e=>n3 x e x hx rfl;have hm:∀x,x∉iW y.lv->bu H y.lv x=H x:=fun x hx=>qv hx;have hgb2:bu H y.lv gb=some (0,.int .i64 T::gr):=by rw[hm gb (fun e=>h5 (CQ _ e))];exact hgb
  have hseg:∀i,i<L.l.length->tP (bu H y.lv) (gl y.ys i) (gl L.l i):=fun i hi=>(hl.seg i hi).frame fun x hx=>hm x (hFl x (BZ (by grind [hl.len]) hx));refine⟨L.l.length,cl,Fz y.ys,hlst,by simp only[bZ];omega,⟨⟨r0+1,Fz y.ys⟩,?_⟩,fun x hx=>?_⟩
  ·have h0:U2 ⟨H,y,L,gb,T⟩ ⟨r0+1,Fz y.ys⟩:=⟨hr1,by grind,fun i _=>rfl,fun i hi=>by
    dsimp only at hi ⊢;rw[hst0]at hi ⊢;have hi':i<r0:=by simpa using hi
    rw[show gl (List.range r0) i=i by grind [b8]];rfl,fun i _ _=>rfl⟩
   grind [af.refl]
  ·obtain⟨j,rows⟩:=x;have hx':U2 ⟨H,y,L,gb,T⟩ ⟨j,rows⟩:=hx;obtain⟨x1,x2,x3,x4,x5⟩:=hx;dsimp only at x1 x2 x3 x4 x5 ⊢;obtain⟨k,hk⟩:∃k,k=(stay T L.au L.l j).length:=⟨_,rfl⟩
   rw[<- hk]at x2 x4 ⊢;simp only[mA,Ay];refine⟨fun c1=>?_,fun c1=>?_⟩
   ·have hj:j<L.l.length:=by have:=qi c1;omega
    have hs:=hseg j hj;obtain⟨r1,_,_⟩:=hs.AA;have hrow:rows j 0=pv (gl y.ys j).b 0:=x5 j (cW _) hj;have hsu:=MM T L.au L.l j;refine⟨⟨by omega,by omega⟩,by omega,_,_,hrow,?_⟩;refine⟨_,_,rfl,?_⟩;refine⟨_,0,_,_,rfl,hs.cell,?_⟩;refine⟨⟨⟨_,rfl,_,rfl,r1⟩,trivial⟩,fun _=>?_⟩;refine⟨_,_,rfl,?_⟩;refine⟨_,_,rfl,?_⟩;refine⟨_,0,_,_,rfl,hgb2,?_⟩;refine⟨⟨⟨_,rfl,_,rfl,h3⟩,trivial⟩,fun _ _=>?_⟩;simp only[eH,G3,dR,bZ]at h3 ⊢;refine⟨by omega,fun c2=>?_,fun c2=>?_⟩
    ·have hkeep:n9 T L.au (gl L.l j)=true:=by
      have:¬(gl L.l j).gen<=T-L.au:=by simpa using c2
      simp only[n9,tB];omega
     rw[hkeep,if_pos rfl]at hsu;have hlen:(stay T L.au L.l (j+1)).length=k+1:=by rw[hsu,hk];simp
     have hN:U2 ⟨H,y,L,gb,T⟩ ⟨j+1,mO rows k 0 [rows j 0]⟩:=⟨hj,by grind,fun i hi=>by
      grind [w8],fun i hi=>by
      dsimp only at hi ⊢;rw[hlen]at hi;rw[w8,hsu];by_cases e:i=k
      ·rw[if_pos e,hrow,e,hk,show(stay T L.au L.l j).length=(stay T L.au L.l j).length+0 from rfl,bt];rfl
      grind [cu],fun i hi hi2=>by
      grind [w8]⟩
     grind [af.refl]
    ·have hkeep:n9 T L.au (gl L.l j)=false:=by
      have:(gl L.l j).gen<=T-L.au:=by simpa using c2
      simp only[n9,decide_eq_false_iff_not];omega
     rw[hkeep]at hsu;simp only[RF,if_false,z6]at hsu;have hN:U2 ⟨H,y,L,gb,T⟩ ⟨j+1,rows⟩:=⟨hj,by grind,x3,by grind,fun i hi hi2=>x5 i (by grind) hi2⟩
     grind [af.refl]
   ·have hj:j=L.l.length:=by have:=ug c1;omega
    subst hj;have hkn:k<=L.l.length:=by omega
    refine⟨⟨by omega,by omega⟩,by omega,by omega,?_⟩;simp only[LL];intro b lo cs hb hcs hpr;have hlen:((stay T L.au L.l L.l.length).map (gl y.ys)).length=k:=by rw[T7,hk]
    have hL:(AR T L).l=(stay T L.au L.l L.l.length).map (gl L.l):=hmap.symm;have hll:(AR T L).l.length=k:=by rw[hL,T7,hk]
    have hsubl:((stay T L.au L.l L.l.length).map (gl y.ys)).Sublist y.ys:=by
     have e:((List.range L.l.length).map (gl y.ys))=y.ys:=by rw[<- hl.len,acK]
     have h:=List.Sublist.map (gl y.ys) (show(stay T L.au L.l L.l.length).Sublist (List.range L.l.length)from zBC);rw[e]at h;exact h
    have hsub:=HR (f:=ct) hsubl;have hbF:b∉y.ys.flatMap ct:=fun e=>by
     have:=hl.dom b (LQ _ e)
     grind
    have hat:cV (bB (bu H y.lv) b lo cs) ⟨iK b lo k cl,(stay T L.au L.l L.l.length).map (gl y.ys)⟩ (AR T L):=by
     refine⟨⟨cl,.inr ⟨b,lo,0,cs,by grind,⟨by omega,u4⟩,fJ ..,by rw[hcs];simp,⟨fun i hi q ck hq=>?_⟩⟩⟩,by grind,fun i hi=>?_,?_⟩
     ·rw[hll]at hi;have hq0:q=0:=by have:=(Cj.1 hq).1;simpa using this
      subst hq0;have:=hpr.at_ i hi 0 ck hq;rw[if_neg (by omega)]at this;have e:rows i 0=Fz ((stay T L.au L.l L.l.length).map (gl y.ys)) i 0:=by
       rw[x4 i hi];show _=pv (gl ((stay T L.au L.l L.l.length).map (gl y.ys)) i).b 0;rw[Fk (by omega)]
      grind
     ·rw[hll]at hi;rw[hL];show tP _ (gl ((stay T L.au L.l L.l.length).map (gl y.ys)) i) _;rw[Fk (by omega),Fk (by omega)];have hi2:=agP (t:=T) (s:=L.au) (l:=L.l) (j:=L.l.length) (i:=i) (by omega);exact(hseg _ hi2).frame fun x hx=>dM fun e=>hbF (by grind [BZ,hl.len])
     ·show(iW (iK b lo k cl)++((stay T L.au L.l L.l.length).map (gl y.ys)).flatMap ct).Nodup
      grind [iW,iK]
    refine⟨⟨bB (bu H y.lv) b lo cs,⟨iK b lo k cl,(stay T L.au L.l L.l.length).map (gl y.ys)⟩⟩,rfl,rfl,⟨hat,fun x hx hn=>?_⟩,trivial⟩;have hxl:x∉iW y.lv:=fun e=>hn (CQ _ e);have hxF:x∉y.ys.flatMap ct:=fun e=>hn (LQ _ e);have hxb:x≠b:=fun e=>by grind
    refine⟨(dM hxb).trans (hm x hxl),?_⟩;simp only[cC,iW,iK,List.cons_append,List.nil_append,uf,not_or]
    grind)
theorem acO:av (Y Tryz.prog).G.X 208 acM:=bp gf acN ⟨acJ,trivial⟩
def Ae(L:cn):List cQ:=L.l.filter (n9 (cA L).gen L.au)
def oD(L:cn):cn:={ L with l:=Ae L++[cA L] }
def xJ(L:cn)(d:bH):bH:=jq (jX d (oC L (cA L) 0) 64 (jN (cA L) 0 L.run))
structure U3 where
 H:PH
 y:jD
 L:cn
 d:bH
def U4:cB where
 α:=U3
 β:=qV
 m:=4
 m':=5
 pre:=fun a=>cV a.H a.y a.L/\a.L.l.length<900/\3<=a.L.au/\a.L.au<=200/\a.L.from_+a.L.au*8<=a.d.n/\a.d.n<100000/\a.d.calls<999999999999/\bZ .i64 a.L.next /\
  (cA a.L).gen<1000000000000/\1<=(cA a.L).gen
 args:=fun _=>[.a (.ptr 0 0 0 0)]
 hp:=fun a=>[(0,js 1 a.L a.y.lv)]++gW 1 2 a.d++[(3,.dg a.H)]
 post:=fun a b=>cV b.H b.y (oD a.L)/\∀x,a.H x≠none->x∉cC a.y->b.H x=a.H x/\x∉cC b.y
 res:=fun _ _=>.a (.lit .i64 0)
 eV:=fun a b=>[(0,js 1 (oD a.L) b.y.lv)]++gW 1 2 (xJ a.L a.d)++[(4,.dg b.H)]
def aje:An:=.agN 5 3 0 (.mk 1000 [] [])
def vU(u x y:Nat)(w:Nat->Option (Nat×List Value))(s:Nat)(t:List CK)(f g:Nat->Nat->Value)(h:Nat->Nat->List Value->Prop):=(u≠0/\0+(x+y)<=x+y)/\∀(v i:Nat) (z:List Value),w v=none->z.length=u*s->(IV z 0 t (x+y) fun j k=>bq f 0 x g (0+j) k)->h v i z
def Cu(z:PH)(u:Value)(v:CK)(w:List CK)(f s:Nat)(g:List Value)(h:Nat->Nat->Nat->Nat->List Value->Prop):=Exists (nH z u (v::w) fun x i j=>jF x f i fun t=>vU t x 1 (fun y=>bu z u y) s (v::w) j (ja s g) fun y k l=>h x t y k l)
def jd:Value:=Value.slice none 0 0
def oE(y:bH)(z:bH->Prop):=∃x:bH,ah (iZ y x (nE x/\aP (z x)))
def JK(x:PH)(y:Nat)(z u:Int):PH:=bB x y 0 (cI z (cI u (cI 0 (ia jd jd []))))
def U5(x:U3)(f:Int):=ai x.L.next->∀v:Nat,x.H v=none->∃u:zf,ah (rE v u.y.b/\aS u.i (iZ x.d u.d (ah (Fv x.L u.L x.y.lv u.lv (JK x.H v f x.L.next=u.H/\Fw u/\aP (∃z:AQ,x.y.lv=z.y.lv/\aM (JK x.H v f x.L.next=z.H/\rE v z.gb/\aM (Fv x.L z.L x.y.lv z.y.lv (zg z/\∀w:qV,vT w (AR z.t z.L) (fun j=>z.H j) z.y->Cu w.H w.y.lv CK.deep [] 8 1 (bW (Value.pointer (some { block:=v,off:=0 }))) fun k l g h m=>oE (Fy u) fun n=>∃s:qV,aJ (bB (bu w.H w.y.lv) g h m=s.H/\ah (Fv x.L (oD x.L) (iK g h (k+1) l) s.y.lv (iZ (jq n) (xJ x.L x.d) (vT s (oD x.L) (fun o=>x.H o) x.y/\True)))))))))))))
def qw(x:Nat):=ai (ag x-(1:Int))
def vV(x:Nat)(z:jD)(u:Nat->Option (Nat×List Value))(v:Nat->List Value->Prop):=qw x/\ku z.lv (ag x-(1:Int)) fun w s=>w9 w s (aC (ag x-(1:Int))*1) (fun y=>u y) fun y t=>v y t
def kz(x:bH)(y:Nat)(z:Prop):=x.n<100000/\x.calls<y/\z
def OS(x:U3):=cV x.H x.y x.L/\bY x.L<900/\AP x.L x.d (kz x.d 999999999999 (ai x.L.next/\(cA x.L).gen<(1000000000000:Int)/\(1:Int)<=(cA x.L).gen))
def Dk(x:Value)(y z:Prop):=Exists (fF x)/\aI 0 (ag (eC x)) y z
theorem Zv:fnBody (Y Tryz.prog) [(198,ON),(208,acM),(169,nC)] 195 U4 fun _=>[(195,[],[aje])]:=fnBody.of (p :=
 ∀x:U3,OS x->ai x.L.next->Dk x.y.lv (vV (eC x.y.lv) x.y (fun u=>x.H u) fun u w=>Exists (jP (aL w u) 0 (fun z=>x.H z) fun z v=>fe (dR (aL v z))/\(fe (dR (aL v z))->U5 x (dR (aL v z)+(1:Int))))) (U5 x 1)) (by kernel_rfl) (by
 delta aK aL aj ai az nZ cI gq aM aN w9 nY ia fB pG aU aP aZ bY ag Cu jF fF aq U5 ku jP aJ aC nE jd bW ah Dj vV aS aI vU Fw OS vT oE kz nH ja Fy eu AP mJ rE JK Dk fe qw
 try dsimp -iota -proj only
 rintro⟨H,y,L,d⟩ ⟨hl,h1,h2,h3,h4,h5,h6,h8,h9,h10⟩;dsimp only at *;obtain⟨e1,_,⟨ea,ec,e2⟩,e3,_⟩:=hl.vS;have hgR:bZ .i64 (cA L).gen:=by simp only[bZ];omega
 refine fun _=>⟨⟨ea,_,ec,e2,e3⟩,fun c1=>?_,fun c1=>?_⟩
 ·rw[e1]at c1;have hn:0<L.l.length:=by simpa using c1
  have hk:L.l.length-1<L.l.length:=by omega
  obtain⟨b,lo,o,c,cs,g1,g2,g3,g4⟩:=hl.at_ hk;have hs:=hl.seg _ hk;obtain⟨r1,_,_⟩:=hs.AA;have hng:(cA L).gen=(gl L.l (L.l.length-1)).gen+1:=by
   have:L.l.getLast? = some (gl L.l (L.l.length-1)):=by rw[b8 hk,zBG,IC hk]
   simp only[cA,this]
  simp only[e1];have e5:((L.l.length:Int)-1).toNat=L.l.length-1:=by omega
  refine⟨by simp only[bZ];omega,_,_,_,_,g1,by omega,b,lo,o+(L.l.length-1)*1,cs,by grind,g2,⟨⟨_,g3,rfl⟩,trivial⟩,?_⟩;refine⟨_,_,g4,?_⟩;refine⟨_,_,rfl,?_⟩;refine⟨_,0,_,_,rfl,hs.cell,?_⟩;refine⟨⟨⟨_,rfl,_,rfl,r1⟩,trivial⟩,fun _=>?_⟩;simp only[eH,G3,dR,<- hng];refine⟨hgR,fun _ _=>?_⟩;show ∀b,_;intro b hb;have hsg:=ML (H:=H) (b:=b) h8 hgR;have hl1:cV (bB H b 0 (eH (cA L) (.slice none 0 0) (.slice none 0 0))) y L:=hl.frame fun x hx=>dM fun e=>hl.dom x hx (by grind);refine⟨zf.mk (bB H b 0 (eH (cA L) (.slice none 0 0) (.slice none 0 0))) (newL b) (cA L) 0 L y.lv d,?_⟩
  and_intros<;>first|exact kG|exact hsg|(simp only[cA,List.length_nil];omega)|rfl|skip
  intro _ _;have hbm:∀x,H x≠none->x≠b:=fun x hx e=>hx (by grind);have hbl:b∉cC y:=fun e=>hl.dom b e hb;have hdp:zg ⟨bB H b 0 (eH (cA L) (.slice none 0 0) (.slice none 0 0)),y,L,b,(cA L).gen⟩:=⟨hl1,by grind,h3,⟨hgR,by grind⟩,⟨_,fJ ..⟩,hbl⟩
  refine⟨AQ.mk (bB H b 0 (eH (cA L) (.slice none 0 0) (.slice none 0 0))) y L b (cA L).gen,?_⟩
  and_intros<;>first|exact kG|exact hdp|rfl|skip
  rintro⟨H2,y2⟩ ⟨d1,d2⟩;dsimp only at d1 d2 ⊢;obtain⟨q1,q2⟩:=d2 b (by rw[fJ];simp) hbl;have hs2:ji H2 (newL b) (cA L):=⟨hsg.frame fun x hx=>(by grind [newL,ct,iW]),by simp[newL,ct,iW]⟩
  have hd2:∀x∈cC y2,x∉ct (newL b):=fun x hx e=>by
   grind [newL,ct,iW]
  have hkl:(AR (cA L).gen L).l.length<=L.l.length:=T1 _ _;obtain⟨c0,hsl⟩:=d1.lst;refine⟨_,c0,_,hsl,?_⟩
  repeat(first|refine And.intro (by omega) ?_|refine And.intro (by omega) ?_|refine And.intro (by omega) ?_)
  intro cap hc1 hc2 hc3
  repeat(first|refine And.intro (by omega) ?_|refine And.intro (by omega) ?_|refine And.intro (by omega) ?_)
  intro b' lo cs' hb' hcs hp;have hba:=OP (lo:=lo) (L':=oD L) d1 hs2 hd2 hb' hcs hc1 hc2 hp (by
   intro i hi;simp only[mA,bq,Fz];rw[jQ (by grind [d1.len]),d1.len];by_cases hin:i<(AR (cA L).gen L).l.length
   ·grind
   ·rw[if_neg hin,if_neg hin,show i-(AR (cA L).gen L).l.length=0 by omega];rfl) rfl
  have hfr:∀x,H x≠none->x∉cC y->bB (bu H2 y2.lv) b' lo cs' x=H x/\x∉cC ⟨iK b' lo ((AR (cA L).gen L).l.length+1) cap,y2.ys++[newL b]⟩:=fun x hx hn=>by
   grind [dM,newL,ct,iW]
  refine⟨jX d (oC L (cA L) 0) 64 (jN (cA L) 0 L.run),?_⟩
  and_intros<;>first|exact kG|(simp only[jX];omega)|skip
  intro _ _;refine⟨⟨bB (bu H2 y2.lv) b' lo cs',⟨iK b' lo ((AR (cA L).gen L).l.length+1) cap,y2.ys++[newL b]⟩⟩,?_⟩
  and_intros<;>first|exact kG|exact hba.1|exact hfr|exact cW _|exact af.refl _ _ _|rfl
 ·rw[e1]at c1;have hn:L.l.length=0:=by have:=ug c1;omega
  have hng:(cA L).gen=1:=by
   have:L.l=[]:=zAP hn;simp only[cA,this];rfl
  rw[<- hng];intro _;intro b hb;have hsg:=ML (H:=H) (b:=b) h8 hgR;have hl1:cV (bB H b 0 (eH (cA L) (.slice none 0 0) (.slice none 0 0))) y L:=hl.frame fun x hx=>dM fun e=>hl.dom x hx (by grind);refine⟨zf.mk (bB H b 0 (eH (cA L) (.slice none 0 0) (.slice none 0 0))) (newL b) (cA L) 0 L y.lv d,?_⟩
  and_intros<;>first|exact kG|exact hsg|(simp only[cA,List.length_nil];omega)|rfl|skip
  intro _ _;have hbm:∀x,H x≠none->x≠b:=fun x hx e=>hx (by grind);have hbl:b∉cC y:=fun e=>hl.dom b e hb;have hdp:zg ⟨bB H b 0 (eH (cA L) (.slice none 0 0) (.slice none 0 0)),y,L,b,(cA L).gen⟩:=⟨hl1,by grind,h3,⟨hgR,by grind⟩,⟨_,fJ ..⟩,hbl⟩
  refine⟨AQ.mk (bB H b 0 (eH (cA L) (.slice none 0 0) (.slice none 0 0))) y L b (cA L).gen,?_⟩
  and_intros<;>first|exact kG|exact hdp|rfl|skip
  rintro⟨H2,y2⟩ ⟨d1,d2⟩;dsimp only at d1 d2 ⊢;obtain⟨q1,q2⟩:=d2 b (by rw[fJ];simp) hbl;have hs2:ji H2 (newL b) (cA L):=⟨hsg.frame fun x hx=>(by grind [newL,ct,iW]),by simp[newL,ct,iW]⟩
  have hd2:∀x∈cC y2,x∉ct (newL b):=fun x hx e=>by
   grind [newL,ct,iW]
  have hkl:(AR (cA L).gen L).l.length<=L.l.length:=T1 _ _;obtain⟨c0,hsl⟩:=d1.lst;refine⟨_,c0,_,hsl,?_⟩
  repeat(first|refine And.intro (by omega) ?_|refine And.intro (by omega) ?_|refine And.intro (by omega) ?_)
  intro cap hc1 hc2 hc3
  repeat(first|refine And.intro (by omega) ?_|refine And.intro (by omega) ?_|refine And.intro (by omega) ?_)
  intro b' lo cs' hb' hcs hp;have hba:=OP (lo:=lo) (L':=oD L) d1 hs2 hd2 hb' hcs hc1 hc2 hp (by
   intro i hi;simp only[mA,bq,Fz];rw[jQ (by omega),d1.len];by_cases hin:i<(AR (cA L).gen L).l.length
   ·omega
   ·rw[if_neg hin,if_neg hin,show i-(AR (cA L).gen L).l.length=0 by omega];rfl) rfl
  have hfr:∀x,H x≠none->x∉cC y->bB (bu H2 y2.lv) b' lo cs' x=H x/\x∉cC ⟨iK b' lo ((AR (cA L).gen L).l.length+1) cap,y2.ys++[newL b]⟩:=fun x hx hn=>by
   grind [dM,newL,ct,iW]
  refine⟨jX d (oC L (cA L) 0) 64 (jN (cA L) 0 L.run),?_⟩
  and_intros<;>first|exact kG|(simp only[jX];omega)|skip
  intro _ _;refine⟨⟨bB (bu H2 y2.lv) b' lo cs',⟨iK b' lo ((AR (cA L).gen L).l.length+1) cap,y2.ys++[newL b]⟩⟩,?_⟩
  and_intros<;>first|exact kG|exact hba.1|exact hfr|exact cW _|exact af.refl _ _ _|rfl)
theorem Zw:av (Y Tryz.prog).G.X 195 U4:=bp gf Zv ⟨MK,acO,lR,trivial⟩
def mP(L:cn):cQ:=gl L.l (L.l.length-1)
def tQ(L:cn)(n:Nat):Bool:=decide (L.l.length=0)||decide (370<(mP L).buf.length+n)
def dX(L:cn)(n:Nat):cn:=if tQ L n then oD L else L
def mQ(L:cn)(d:bH)(n:Nat):bH:=if tQ L n then xJ L d else d
def HS(n:Nat)(next:Int):List Int:=[uw .u8 (uw .u64 (n:Int)/256),uw .u8 (uw .u64 (n:Int)/1),uw .u8 (uw .u64 next/1099511627776),uw .u8 (uw .u64 next/4294967296),uw .u8 (uw .u64 next/16777216),uw .u8 (uw .u64 next/65536),uw .u8 (uw .u64 next/256),uw .u8 (uw .u64 next/1)]
def xK(g:cQ)(next:Int)(body:List Int):List Int:=g.buf++HS body.length next++body
def SC(g:cQ)(next:Int)(body:List Int):cQ:={ g with buf:=xK g next body }
def OT(g:cQ)(next:Int)(body:List Int):cQ:={ g with buf:=xK g next body,bn:=g.bn++[⟨next,body⟩] }
def AS(was now i:Nat):Bool:=decide (was<bh (i+1))&&decide (bh i<now)
def eL(L:cn)(g:cQ)(was:Nat)(d:bH):Nat->bH
 |0=>d
 |i+1=>if AS was g.buf.length i then jX (eL L g was d i) (oC L g i) 64 (jN g i L.run)else eL L g was d i
def XM(L:cn)(g:cQ):cn:={ L with l:=L.l.set (L.l.length-1) g }
def SD(L:cn)(body:List Int):cn:={ XM L (OT (mP L) L.next body)with next:=L.next+1,fresh:=false }
def xg(L:cn)(d:bH)(body:List Int):bH:=eL L (SC (mP L) L.next body) (mP L).buf.length d 8
def p7(L:cn)(body:List Int):cn:=SD (dX L body.length) body
def sN(L:cn)(d:bH)(body:List Int):bH:=if(dX L body.length).fresh then jq (xg (dX L body.length) (mQ L d body.length) body)else xg (dX L body.length) (mQ L d body.length) body
def Step(H:PH)(v:Value)(H':PH)(v':Value):Prop:=∀x,H x≠none->x∉iW v->H' x=H x/\x∉iW v'
variable{H'' X0 X2 X3 X4 X5:PH}{cs:List Value}{d:bH}{g:cQ}{lo:Nat}{y y' y'':rC}
theorem Step.trans{v' v'':Value}(h:Step H v H' v')(k:Step H' v' H'' v''):Step H v H'' v'':=fun x hx hv=>by
 obtain⟨h1,h2⟩:=h x hx hv;obtain⟨k1,k2⟩:=k x (by grind) h2
 grind
theorem ym(h:bu H v b=none):Step H v (bB (bu H v) b lo cs) (iK b lo l c):=fun x hx hv=>by
 grind [qv,dM,iW,iK]
theorem SE(h:H b=none):Step H (.slice none 0 0) (bB H b lo cs) (iK b lo l c):=ym (H:=H) (v:=.slice none 0 0) h
theorem rF{rows rows':Nat->Nat->Value}(hl:cs.length=c*ks.length)(h1:l<=c)(h2:c<=aB)(hp:IV cs 0 ks l rows)(he:∀i,i<l->∀j,j<ks.length->rows i j=rows' i j):oo (bB H b lo cs) (iK b lo l c) ks l c rows' :=
 .inr ⟨b,lo,0,cs,by grind,⟨h1,h2⟩,fJ ..,by omega,⟨fun i hi j k hj=>by
  have:=hp.at_ i hi j k hj
  grind⟩⟩
theorem FB(v:Value):(iW v).Nodup:=by
 unfold iW;split<;>simp
def Fr(H:PH)(y:rC)(H':PH)(y':rC):Prop:=∀x,H x≠none->x∉ct y->H' x=H x/\x∉ct y'
theorem Fr.trans(h:Fr H y H' y')(k:Fr H' y' H'' y''):Fr H y H'' y'':=fun x hx hv=>by
 obtain⟨h1,h2⟩:=h x hx hv;obtain⟨k1,k2⟩:=k x (by grind) h2
 grind
theorem JL:(ct y).Nodup↔(y.b∉iW y.bv/\y.b∉iW y.rv/\y.b∉y.vs.flatMap iW)/\(∀x∈iW y.bv,x∉iW y.rv/\x∉y.vs.flatMap iW)/\(∀x∈iW y.rv,x∉y.vs.flatMap iW)/\(y.vs.flatMap iW).Nodup:=by
 unfold ct;rw[zBT,YO,YO];have a1:=FB y.bv;have a2:=FB y.rv
 grind
theorem Dl{v2:Value}{buf:List Int}(h:ji X0 y g)(hs:Step X0 y.bv X2 v2)(hb:iV X2 v2 buf) :
 X2 y.b=some (0,eH g y.bv y.rv)/\ji (bB X2 y.b 0 (eH { g with buf:=buf } v2 y.rv)) { y with bv:=v2 } { g with buf:=buf }/\Fr X0 y (bB X2 y.b 0 (eH { g with buf:=buf } v2 y.rv)) { y with bv:=v2 }:=by
 have hd:=h.at_.dom;obtain⟨⟨n1,n2,n3⟩,n4,n5,n6⟩:=JL.1 h.nd;have s1:∀x∈ct y,x∉iW y.bv->X2 x=X0 x/\x∉iW v2:=fun x hx hv=>hs x (hd x hx) hv;have hbm:y.b∈ct y:=List.mem_cons_self;obtain⟨c1,c2⟩:=s1 y.b hbm n1;have hrv:∀x∈iW y.rv,x∈ct y/\x∉iW y.bv:=fun x hx=>⟨by simp[ct,hx],fun e=>(n4 x e).1 hx⟩
 have hvs:∀x∈y.vs.flatMap iW,x∈ct y/\x∉iW y.bv:=fun x hx=>⟨CP _ (LQ _ (LQ _ hx)),fun e=>(n4 x e).2 hx⟩
 have same:∀x,x≠y.b->(x∈iW y.rv\/x∈y.vs.flatMap iW)->bB X2 y.b 0 (eH { g with buf:=buf } v2 y.rv) x=X0 x:=fun x hx h=>by
  grind [dM]
 refine⟨c1.trans h.at_.cell,⟨⟨fJ ..,h.at_.AA,hb.frame fun x hx=>dM fun e=>c2 (by grind),?_,h.at_.len,fun i hi=>(h.at_.body i hi).frame fun x hx=>?_⟩,?_⟩,?_⟩
 ·obtain⟨c,hr⟩:=h.at_.bn;exact⟨c,l7 hr fun x hx=>same x (fun e=>n2 (by grind)) (.inl hx)⟩
 ·have hm:x∈y.vs.flatMap iW:=by
   refine zBD.2 ⟨_,?_,hx⟩;have hl:=h.at_.len;have hi':i<g.bn.length:=hi;rw[LP,IC (by omega)];exact List.getElem_mem _
  grind
 ·grind [JL]
 ·intro x hx hn;simp only[ct,uf,yG,not_or]at hn ⊢;obtain⟨a1,a2⟩:=hs x hx hn.2.1
  grind [dM]
theorem Hi{v3 v4:Value}{r:RecM}(h:ji X3 y g)(hs:Step X3 (.slice none 0 0) X4 v3)(hb:iV X4 v3 r.body)(hs2:Step X4 y.rv X5 v4)
 (hd4:∀x∈iW v3,X4 x≠none) (hr:∃c,oo X5 v4 yl (g.bn.length+1) c (AO (g.bn++[r]) (y.vs++[v3]))) :
 X4 y.b=some (0,eH g y.bv y.rv)/\X5 y.b=some (0,eH g y.bv y.rv)/\ji (bB X5 y.b 0 (eH { g with bn:=g.bn++[r] } y.bv v4)) ⟨y.b,y.bv,v4,y.vs++[v3]⟩ { g with bn:=g.bn++[r] } /\
 Fr X3 y (bB X5 y.b 0 (eH { g with bn:=g.bn++[r] } y.bv v4)) ⟨y.b,y.bv,v4,y.vs++[v3]⟩:=by
 have hd:=h.at_.dom;obtain⟨⟨n1,n2,n3⟩,n4,n5,n6⟩:=JL.1 h.nd;have s1:∀x,X3 x≠none->X4 x=X3 x/\x∉iW v3:=fun x hx=>hs x hx (by simp[iW]);have s2:∀x,X3 x≠none->x∉iW y.rv->X5 x=X3 x/\x∉iW v3/\x∉iW v4:=fun x hx hv=>by
  obtain⟨a1,a2⟩:=s1 x hx;obtain⟨b1,b2⟩:=hs2 x (by grind) hv
  grind
 have hbm:y.b∈ct y:=List.mem_cons_self;have hbv:∀x∈iW y.bv,x∈ct y/\x∉iW y.rv:=fun x hx=>⟨by simp[ct,hx],(n4 x hx).1⟩
 have hvs:∀x∈y.vs.flatMap iW,x∈ct y/\x∉iW y.rv:=fun x hx=>⟨CP _ (LQ _ (LQ _ hx)),fun e=>n5 x e hx⟩
 have hrv:∀x∈iW y.rv,x∈ct y:=fun x hx=>by simp[ct,hx]
 obtain⟨c1,c2,c3⟩:=s2 y.b (hd _ hbm) n2;have hv3rv:∀x∈iW v3,x∉iW y.rv:=fun x hx e=>(s1 x (hd x (hrv x e))).2 hx;have hv3:∀x∈iW v3,X5 x=X4 x/\x∉iW v4:=fun x hx=>hs2 x (hd4 x hx) (hv3rv x hx);have same:∀x∈ct y,x≠y.b->x∉iW y.rv->bB X5 y.b 0 (eH { g with bn:=g.bn++[r] } y.bv v4) x=X3 x:=fun x hx h1 h2=>by
  grind [dM]
 have hl:=h.at_.len;refine⟨(s1 _ (hd _ hbm)).1.trans h.at_.cell,c1.trans h.at_.cell,⟨⟨fJ ..,h.at_.AA,h.at_.buf.frame fun x hx=>same x (hbv x hx).1 (fun e=>n1 (by grind)) (hbv x hx).2,?_,?_,?_⟩,?_⟩,?_⟩
 ·obtain⟨c,hr⟩:=hr;refine⟨c,?_⟩
  grind [l7,dM]
 ·simp[hl]
 ·intro i hi;simp only[wM,ID]at hi;show iV _ ((y.vs++[v3]).getD i undef) (gl (g.bn++[r]) i).body;rw[jQ hi];by_cases hin:i<g.bn.length
  ·rw[if_pos hin];have e1:(y.vs++[v3]).getD i undef=y.vs.getD i undef:=by
    rw[LP,YM (by omega),LP]
   rw[e1];refine(h.at_.body i hin).frame fun x hx=>?_
   grind
  ·rw[if_neg hin];have e1:(y.vs++[v3]).getD i undef=v3:=by
    rw[LP,zAQ (by omega),show i-y.vs.length=0 by omega];rfl
   rw[e1];refine hb.frame fun x hx=>?_
   grind [dM]
 ·refine JL.2 ⟨⟨n1,c3,?_⟩,fun x hx=>⟨?_,?_⟩,fun x hx=>?_,?_⟩
  ·grind
  ·grind
  ·grind
  ·grind
  grind [FB]
 ·intro x hx hn;simp only[ct,uf,yG,not_or]at hn;obtain⟨a1,a2,a3⟩:=s2 x hx hn.2.2.1;refine⟨by grind [dM],?_⟩;simp only[ct,uf,yG,not_or,zBL]
  grind
theorem Hj{α β:Type}{f:α->List β}:∀ {l:List α} {a:α},a∈l->(f a).Sublist (l.flatMap f)
 |[],_,h=>by cases h
 |x::r,a,h=>by
  rw[zBy];rcases uf.1 h with rfl|h
  ·grind
  ·exact(Hj h).trans (List.sublist_append_right _ _)
theorem cV.akL{y:jD}{L:cn}(h:cV H y L)(hk:k<L.l.length):ji H (gl y.ys k) (gl L.l k):=by
 refine⟨h.seg k hk,?_⟩;have hk':k<y.ys.length:=by rw[h.len];exact hk
 grind [h.nd,b8]
theorem U6[Inhabited α]{l:List α}{x:α}(hi:i<l.length):gl (l.set k x) i=if i=k then x else gl l i:=by
 grind [gl]
theorem cV.set{H H':PH}{y:jD}{L:cn}{k:Nat}{sl:rC}{g:cQ}(h:cV H y L)(hk:k<L.l.length)(hb:sl.b=(gl y.ys k).b)(hg:ji H' sl g)(hf:Fr H (gl y.ys k) H' sl) :
 cV H' ⟨y.lv,y.ys.set k sl⟩ { L with l:=L.l.set k g }/\∀x,H x≠none->x∉cC y->H' x=H x/\x∉cC ⟨y.lv,y.ys.set k sl⟩:=by
 have hk':k<y.ys.length:=by rw[h.len];exact hk
 have hd:=h.dom;obtain⟨A,B,e1,e2,hA⟩:∃A B,y.ys=A++gl y.ys k::B/\y.ys.set k sl=A++sl::B/\A.length=k:=by
  refine⟨y.ys.take k,y.ys.drop (k+1),?_,?_,by simp;omega⟩
  ·rw[b8 hk'];simp
  grind [List.set_eq_take_append_cons_drop]
 obtain⟨s,hs⟩:∃s,s=gl y.ys k:=⟨_,rfl⟩
 rw[<- hs]at e1 hb hf;have F1:y.ys.flatMap ct=A.flatMap ct++(ct s++B.flatMap ct):=by rw[e1];simp
 have F2:(y.ys.set k sl).flatMap ct=A.flatMap ct++(ct sl++B.flatMap ct):=by rw[e2];simp
 have hnd:=h.nd;rw[F1]at hnd;simp only[YO,yG]at hnd;obtain⟨n1,⟨n2,⟨n3,n4,n5⟩,n6⟩,n7⟩:=hnd;have oV:∀x∈iW y.lv,H' x=H x/\x∉ct sl:=fun x hx=>hf x (hd x (CQ _ hx)) fun e=>n7 x hx x (.inr (.inl e)) rfl;have oA:∀x∈A.flatMap ct,H' x=H x/\x∉ct sl:=fun x hx=>hf x (hd x (LQ _ (by grind))) fun e=>n6 x hx x (.inl e) rfl;have oB:∀x∈B.flatMap ct,H' x=H x/\x∉ct sl:=fun x hx=>hf x (hd x (LQ _ (by grind))) fun e=>n5 x e x hx rfl;refine⟨⟨?_,by simp[h.len],?_,?_⟩,?_⟩
 ·obtain⟨c,hl⟩:=h.lst;refine⟨c,?_⟩;simp only[List.length_set];have hl2:=l7 (H':=H') hl fun x hx=>(oV x hx).1;have he:∀i,i<L.l.length->Fz y.ys i 0=Fz (y.ys.set k sl) i 0:=fun i hi=>by
   grind [Fz,U6,h.len]
  rcases hl2 with hz | ⟨b,lo,o,cs,g1,g2,g3,g4,g5⟩
  ·exact .inl hz
  ·refine .inr ⟨b,lo,o,cs,g1,g2,g3,g4,⟨fun i hi j q hj=>?_⟩⟩;have hj0:j=0:=by have:=(Cj.1 hj).1;simpa using this
   subst hj0;have:=g5.at_ i hi 0 q hj
   grind
 ·intro i hi;simp only[List.length_set]at hi;show tP H' (gl (y.ys.set k sl) i) (gl (L.l.set k g) i);rw[U6 (by grind [h.len]),U6 hi];by_cases hik:i=k
  ·grind [hg.at_]
  ·rw[if_neg hik,if_neg hik];refine(h.seg i hi).frame fun x hx=>?_;have hm:gl y.ys i∈A\/gl y.ys i∈B:=by
    have hi':i<y.ys.length:=by rw[h.len];exact hi
    have e3:gl y.ys i=gl (A++s::B) i:=by rw[<- e1]
    rcases zBn i k with hlt|hge
    ·grind [b8]
    ·right;have hlen:y.ys.length=A.length+(B.length+1):=by rw[e1];simp
     rw[e3,show i=A.length+((i-k-1)+1)by omega,bt]
     grind [b8]
   grind
 ·show(iW y.lv++(y.ys.set k sl).flatMap ct).Nodup;rw[F2];simp only[YO,yG];refine⟨n1,⟨n2,⟨hg.nd,n4,fun a ha b hb e=>?_⟩,fun a ha b hb e=>?_⟩,fun a ha b hb e=>?_⟩
  ·grind
  ·grind
  grind
 ·intro x hx hn;have hn1:x∉iW y.lv:=fun e=>hn (CQ _ e);have hn2:x∉A.flatMap ct/\x∉ct s/\x∉B.flatMap ct:=by
   have:x∉y.ys.flatMap ct:=fun e=>hn (LQ _ e);rw[F1]at this;simpa only[yG,not_or]using this
  obtain⟨a1,a2⟩:=hf x hx hn2.2.1;refine⟨a1,?_⟩;show x∉iW y.lv++(y.ys.set k sl).flatMap ct
  grind
def SF(s:S):Nat:=match yL s.hp with|some t=>t|none=>0
def S.log(s:S)(slot:Nat)(L:cn)(lv:Value)(d:bH)(H:PH):S :=
 (fun(q:S)=>(q.put (q.hp.del (SF q))).new (.dg H))
  (((s.at_ (s.tg slot) (js (s.uZ (s.tg slot) 0) L lv)).at_ (s.uZ (s.tg slot) 0) (.obj 116 [.slc (s.uZ (s.uZ (s.tg slot) 0) 0) 0 129 d.n d.n,.int .i64 d.calls])).at_ (s.uZ (s.uZ (s.tg slot) 0) 0) (.arr 158 Hf d.n (eZ d)))
def S.dev(s:S)(td:Nat)(d:bH):S:=(s.at_ td (.obj 116 [.slc (s.uZ td 0) 0 129 d.n d.n,.int .i64 d.calls])).at_ (s.uZ td 0) (.arr 158 Hf d.n (eZ d))
structure AT(L:cn)(d:bH):Prop where
 wN:L.l.length<800
 au:3<=L.au/\L.au<=200
 room:L.from_+L.au*8<=d.n
 size:d.n<100000
 calls:d.calls<900000000000
 next:0<=L.next/\L.next<100000000000
 gen:∀i,i<L.l.length->1<=(gl L.l i).gen/\(gl L.l i).gen<100000000000
 buf:∀i,i<L.l.length->(gl L.l i).buf.length<=378
 bn:∀i,i<L.l.length->(gl L.l i).bn.length*9<=(gl L.l i).buf.length
structure amf(L L1:cn)(d d1:bH)(n:Nat):Prop where
 pos:1<=L1.l.length
 wN:L1.l.length<=801
 from_:L1.from_=L.from_
 au:L1.au=L.au
 next:L1.next=L.next
 run:L1.run=L.run
 fresh:L1.fresh=L.fresh
 dn:d1.n=d.n
 calls:d1.calls<=d.calls+2
 gen:∀i,i<L1.l.length->1<=(gl L1.l i).gen/\(gl L1.l i).gen<=100000000000
 buf:∀i,i<L1.l.length->(gl L1.l i).buf.length<=378
 bn:∀i,i<L1.l.length->(gl L1.l i).bn.length*9<=(gl L1.l i).buf.length
 last:(mP L1).buf.length+n<=370
theorem JM{L:cn}(ok:AT L d):1<=(cA L).gen/\(cA L).gen<=100000000000:=by
 by_cases h:L.l.length=0
 ·grind [cA]
 ·have hk:L.l.length-1<L.l.length:=by omega
  have e:L.l.getLast? = some (gl L.l (L.l.length-1)):=by rw[b8 hk,zBG,IC hk]
  have:=ok.gen _ hk
  grind [cA]
theorem FC{L:cn}(h:i<(Ae L).length):∃j,j<L.l.length/\gl (Ae L) i=gl L.l j:=by
 have hm:gl (Ae L) i∈L.l:=by rw[b8 h];exact(zBc.1 (List.getElem_mem h)).1
 obtain⟨j,hj,e⟩:=List.getElem_of_mem hm;exact⟨j,hj,by grind [b8]⟩
theorem acP(L:cn):(Ae L).length<=L.l.length:=T1 _ _
theorem SG{L:cn}{n:Nat}(ok:AT L d)(hn:n<=300):amf L (dX L n) d (mQ L d n) n:=by
 have hf:=ok.wN;cases hB:tQ L n with
 |false =>
  rw[show dX L n=L from if_neg (by grind),show mQ L d n=d from if_neg (by grind)];simp only[tQ,Bool.or_eq_false_iff,decide_eq_false_iff_not]at hB;exact⟨by omega,by omega,rfl,rfl,rfl,rfl,rfl,rfl,by omega,fun i hi=>by have:=ok.gen i hi;omega,ok.buf,ok.bn,by omega⟩
 |true =>
  rw[show dX L n=oD L from if_pos hB,show mQ L d n=xJ L d from if_pos hB];have hln:(oD L).l.length=(Ae L).length+1:=by simp[oD]
  have hkl:=acP L;have hg:=JM ok;have hgl:∀i,i<(Ae L).length+1->gl (oD L).l i=if i<(Ae L).length then gl (Ae L) i else cA L:=fun i hi=>by grind [oD,jQ]
  refine⟨by omega,by omega,rfl,rfl,rfl,rfl,rfl,rfl,by simp[xJ,jq,jX],fun i hi=>?_,fun i hi=>?_,fun i hi=>?_,?_⟩
  ·rw[hgl i (by omega)];split
   ·obtain⟨j,hj,e⟩:=FC (L:=L) (i:=i) (by assumption);rw[e];have:=ok.gen j hj;omega
   ·exact hg
  ·rw[hgl i (by omega)];split
   ·obtain⟨j,hj,e⟩:=FC (L:=L) (i:=i) (by assumption);rw[e];exact ok.buf j hj
   ·simp[cA]
  ·rw[hgl i (by omega)];split
   ·obtain⟨j,hj,e⟩:=FC (L:=L) (i:=i) (by assumption);rw[e];exact ok.bn j hj
   ·simp[cA]
  grind [mP,cA]
theorem zi(L:cn)(g:cQ)(was:Nat)(d:bH):∀i,(eL L g was d i).n=d.n/\(eL L g was d i).calls<=d.calls+i
 |0=>⟨rfl,cW _⟩
 |i+1=>by
  have:=zi L g was d i
  grind [eL,jX]
structure zj where
 H:PH
 y:jD
 L:cn
 d:bH
 body:List Int
 cap:Nat
def Im:cB where
 α:=zj
 β:=qV
 m:=5
 m':=6
 pre:=fun a=>cV a.H a.y a.L/\AT a.L a.d/\1<=a.body.length/\a.body.length<=300
 args:=fun a=>[.a (.ptr 0 0 0 0),.a (.slc 4 0 1 a.body.length a.cap)]
 hp:=fun a=>[(0,js 1 a.L a.y.lv)]++gW 1 2 a.d++[(3,.dg a.H)]
 ro:=fun a=>mH 4 a.body
 post:=fun a b=>cV b.H b.y (p7 a.L a.body)/\∀x,a.H x≠none->x∉cC a.y->b.H x=a.H x/\x∉cC b.y
 res:=fun a _=>.nR [.a (.int .i64 a.L.next),.a (.lit .i64 0)]
 eV:=fun a b=>[(0,js 1 (p7 a.L a.body) b.y.lv)]++gW 1 2 (sN a.L a.d a.body)++[(5,.dg b.H)]
def aiw(a:zj):An:=.flat 17 Nat (fun s i=>S.dev (s.int 95 i) (s.uZ (s.tg 0) 0) (eL (dX a.L a.body.length) (SC (mP (dX a.L a.body.length)) a.L.next a.body) (mP (dX a.L a.body.length)).buf.length (mQ a.L a.d a.body.length) i)) (fun _ i=>i<=8) (fun _ i=>8-i)
def akM(a:zj):An:=.mk 10 (PH×jD) (fun s x=>S.log s 0 (dX a.L a.body.length) x.2.lv (mQ a.L a.d a.body.length) x.1) (fun _ x=>cV x.1 x.2 (dX a.L a.body.length)/\∀z,a.H z≠none->z∉cC a.y->x.1 z=a.H z/\z∉cC x.2) (fun _ _=>0) fun _=>.mk 1000 [aiw a] []
def uD(x:Nat)(y z:List Value)(u:Nat):List Value:=List.take x y++z++List.drop (x+u) y
def SH(y:Nat)(z:List Value)(x:Value):List Value:=uD y z (bW x) (List.length (bW x))
def nr(x:Nat)(y:List Value)(z u v w s:Nat):List Value:=SH x y (Value.slice (some { block:=z,off:=u }) (v+w) s)
def zk(x:zj)(y:Nat):bH:=eL (dX x.L (aj x.body)) (SC (mP (dX x.L (aj x.body))) x.L.next x.body) (aj (mP (dX x.L (aj x.body))).buf) (mQ x.L x.d (aj x.body)) y
def zl(x:zj)(y:Int):Int:=lZ (dI (dX x.L (aj x.body)).next/y)
def vW(x:Prop):=bD (cR 0 0 (0=0) x)
def SI(u:List Value)(v:Nat)(x:zj)(y:PH)(w:PH×jD)(s:bH)(z:Nat)(t:Prop):=ah (gu (aL u v)/\aO (aN 300 (ag (aj x.body)))/\vW (aQ (aj x.body) x.cap/\y=y/\cR (lZ (dI (ag (aj x.body))/(256:Int))) (lZ (dI (ag (aj x.body))/(1:Int))) (az (zl x 1099511627776)) (cR (zl x 4294967296) (zl x 16777216) (az (zl x 65536)) (cR (zl x 256) (zl x 1) (0=0) (xI (dX x.L (aj x.body)) w.snd (iZ s (zk x z) (iq x.body dA/\z<=8/\t)))))))
def JN(y:Nat)(x:cn)(z:Nat)(u:Value)(v:jD)(w s:Int)(t:Bool)(f:Prop):=ah (cm y x.from_/\cm z x.au/\u=v.lv/\w=x.next/\s=x.run/\t=x.fresh/\f)
def Dm(x:zj):Int:=(dX x.L (aj x.body)).next+(1:Int)
def Dn(z:qV)(x:zj):=vT z (p7 x.L x.body) (fun u=>x.H u) x.y
def JO(x:zj)(u:PH)(v:PH×jD)(w:Bool)(s:bH):=∃z:qV,Dm x-(1:Int)=x.L.next/\aJ (u=z.H/\JN (dX x.L (aj x.body)).from_ (p7 x.L x.body) (dX x.L (aj x.body)).au v.snd.lv z.y (Dm x) (dX x.L (aj x.body)).run w (iZ s (sN x.L x.d x.body) (Dn z x/\True)))
def AU:List CK:=CK.int .i64::uC
def FD(u:Nat)(h:Nat->Option (Nat×List Value))(i:Nat->Nat->Value)(s:PH)(t:Value)(j:Int)(k:Nat->Nat->List Value->Nat->Nat->Nat->Nat->List Value->Prop):=gq 0 u 1 0 fun f=>vU f 0 u (fun x=>h x) 1 l8 (aV 1 []) i fun x z v=>Exists (nH (bB s x z v) t AU fun y l m=>0+y<=y/\gq y 1 32 l fun g=>vU g y 1 (fun w=>bu (bB s x z v) t w) 2 AU m (qg [A.int .i64 j,A.val (iK x z (0+u) f)] 2) fun w n o=>k x z v y g w n o)
def U7(x y:Int)(z:List A):List A:=A.int .u8 x::A.int .u8 y::z
def U8(x z u:Int)(y:zj)(v w:Int)(s:List A):List A:=U7 (lZ (dI x/z)) (lZ (dI x/u)) (U7 (zl y v) (zl y w) s)
def cK(x y:cn)(z u:jD)(v:Prop):=ah (Fv x y z.lv u.lv v)
def vX(z:Value)(u:Nat)(v:Nat->Option (Nat×List Value))(w:A)(s:Nat->Nat->Nat->List Value->Prop):=Exists (nY z u (fun x=>v x) (fun x y=>x+[w].length<=y.length) fun x y t f=>s x y t f)
def OU(v:PH)(w s:Nat)(t:List Value)(f:Value)(j u k:Nat)(l:Nat->Nat->Value)(m:Value)(n:Nat->Nat->Nat->Nat->List Value->Nat->Nat->Nat->List Value->Prop):Nat->Prop:=nH (bB v w s t) f l8 fun y o p=>0+y<=y/\j+u<=k/\gq y u 1 o fun g=>vU g y u (fun x=>bu (bB v w s t) f x) 1 l8 p (fun x z=>l x z) fun x z i=>vX m 3 (fun h=>bB (bu (bB v w s t) f) x z i h) (A.val (iK x z (y+u) g)) fun h q r c=>n y g x z i h q r c
def U9(x:PH×jD)(z:zj):=cV x.fst x.snd (dX z.L (aj z.body))/\∀u:Nat,Dj (z.H u) z.y u (x.fst u) x.snd
def Va(x:zj)(z:PH)(u:cn)(v:jD)(w:bH):PH×jD->Prop:=fun(y:PH×jD)=>aO (aN 300 (ag (aj x.body)))/\vW (aQ (aj x.body) x.cap/\z=y.fst/\cK u (dX x.L (aj x.body)) v y.snd (iZ w (mQ x.L x.d (aj x.body)) (iq x.body dA/\U9 y x/\True)))
def Vb(z:zj):=∃x:U3,aM (Fv z.L x.L z.y.lv x.y.lv (iZ z.d x.d (z.H=x.H/\OS x/\∀u:qV,vT u (oD x.L) (fun v=>x.H v) x.y->Exists (Va z u.H (oD x.L) u.y (xJ x.L x.d)))))
def oF(z:PH×jD)(u:List Value)(v x y:Nat)(w:List Value)(s t f g:Nat)(h:List Value):PH:=bB (bu (bB (bu z.fst (aL u v)) x y w) (iK x y (s+8) t)) f g h
def qx(x y:Int)(z:Prop):=ai x->ai (x-y)/\z
def iR(x:List Int)(y:Nat):=1<=aj x/\aj x<=y
def oG(x y:Int)(z:Prop):=ai x->ai (x+y)/\z
def vY(x:Int->List Value)(y:List Int):Nat->Nat->Value:=fun(z u:Nat)=>aa x y (0+z) u
def Vc(x y z u v w:Int)(s:Prop):=(0:Int)<=x/\aZ y 6/\(0:Int)<=z/\aZ u 6/\(0:Int)<=v/\aZ w 6/\s
def FE(x:zj):=cV x.H x.y x.L/\AT x.L x.d/\iR x.body 300
def Dp(x:List Int)(z u:Prop):=∀y:Bool,(aq y->aj x=0)->aK y z (0<=0/\qu x/\u)
def uE(x:Int)(y:Prop)(z:Int)(u:Prop):=jo (aN x 1) y (aN z x) u
theorem Vd:fnBody (Y Tryz.prog) [(195,U4),(198,ON),(169,nC)] 162 Im fun a=>[(162,[aiw a],[akM a])]:=fnBody.of (p :=
 ∀x:zj,FE x->uE (ag (aj x.body)) (∃z:qV,(0:Int)=x.L.next/\(1:Int)=0/\x.H=z.H/\cK x.L (p7 x.L x.body) x.y z.y (iZ x.d (sN x.L x.d x.body) (Dn z x/\True))) 300 ((Exists (fF x.y.lv)/\aK (ag (eC x.y.lv) == (0:Int)) (Vb x) (vV (eC x.y.lv) x.y (fun z=>x.H z) fun z U=>Exists (jO (aL U z) 3 (fun g=>x.H g) fun g B=>Exists (fF (aL B g))/\ai ((370:Int)-ag (aj x.body))/\aI ((370:Int)-ag (aj x.body)) (ag (eC (aL B g))) (Vb x) (Exists (Va x x.H x.L x.y x.d)))))/\∀z:PH×jD,U9 z x->Exists (fF z.snd.lv)/\vV (eC z.snd.lv) z.snd (fun g=>z.fst g) fun g B=>cO 2 8/\0<8/\(0:Int)<=0/\aZ 1 2/\(0:Int)<=8/\aZ 0 2/\cO 2 8/\2<8/\(ai (dX x.L (aj x.body)).next->Vc 0 5 8 4 16 3 (Vc 24 2 32 1 40 0 (Exists (jO (aL B g) 3 (fun K=>z.fst K) fun K P=>Exists (fF (aL P K))/\Exists (jO (aL B g) 3 (fun s=>z.fst s) fun s h=>0<8/\Exists (nH z.fst (aL h s) l8 fun t V W=>0+t<=t/\gq t 8 1 V fun j=>vU j t 8 (fun f=>bu z.fst (aL h s) f) 1 l8 W (qg (U8 (ag (aj x.body)) 256 1 x 1099511627776 4294967296 (U8 (dX x.L (aj x.body)).next 16777216 65536 x 256 1 [])) 1) fun f k o=>Exists (OU (bu z.fst (aL h s)) f k o (iK f k (t+8) j) 0 (aj x.body) (aj x.body) (fun l m=>aa dA x.body (0+l) m) (aL B g) fun l m u v p q r c e=>(∃w:Nat,aS w (bf (eC (aL P K)) /\
 SI B g x (bB (oF z h s f k o t j u v p) q r (nr c e u v l (aj x.body) m)) z (mQ x.L x.d (aj x.body)) w True))/\∀w:Nat,w<=8->aI (ag w) 8 (aY w (uz (bI w*(48:Int)) 6 (aI (ag (eC (aL P K))) (qQ true 0 (bI w*(48:Int)-6)) (Exists (jO (aL B g) 3 (fun n=>bB (oF z h s f k o t j u v p) q r (nr c e u v l (aj x.body) m) n) fun n D=>Exists (fF (aL D n))/\uz (ag w*(48:Int)) 6 (aI (qQ true 0 (ag w*(48:Int)-6)) (ag (eC (aL D n))) (∃E:zf,ah (aL B g=pv E.y.b 0/\cm w E.i/\iZ (zk x w) E.d (ah (Fv (dX x.L (aj x.body)) E.L z.snd.lv E.lv (bB (oF z h s f k o t j u v p) q r (nr c e u v l (aj x.body) m)=E.H/\Fw E/\aP (bQ w fun C=>bf (eC (aL P K))/\SI B g x (bB (oF z h s f k o t j u v p) q r (nr c e u v l (aj x.body) m)) z (Fy E) C (bM 8 C w))))))) (bQ w fun E=>bf (eC (aL P K))/\SI B g x (bB (oF z h s f k o t j u v p) q r (nr c e u v l (aj x.body) m)) z (zk x w) E (bM 8 E w))))) (bQ w fun n=>bf (eC (aL P K))/\SI B g x (bB (oF z h s f k o t j u v p) q r (nr c e u v l (aj x.body) m)) z (zk x w) n (bM 8 n w))))) (Exists (jO (aL B g) 4 (fun n=>bB (oF z h s f k o t j u v p) q r (nr c e u v l (aj x.body) m) n) fun n D=>ai (dX x.L (aj x.body)).next->Dp x.body (Cu (bB (oF z h s f k o t j u v p) q r (nr c e u v l (aj x.body) m)) (aL D n) (CK.int .i64) uC 32 2 (cI (dX x.L (aj x.body)).next (bW jd)) fun C M G I N=>vX (aL B g) 4 (fun F=>bB (bu (bB (oF z h s f k o t j u v p) q r (nr c e u v l (aj x.body) m)) (aL D n)) G I N F) (A.val (iK G I (C+1) M)) fun F J Q O=>oG (dX x.L (aj x.body)).next 1 (aK (dX x.L (aj x.body)).fresh (qx (Dm x) 1 (oE (zk x w) fun R=>JO x (bB (bB (bu (bB (oF z h s f k o t j u v p) q r (nr c e u v l (aj x.body) m)) (aL D n)) G I N) F J (nr Q O G I C 1 M)) z false (jq R))) (qx (Dm x) 1 (JO x (bB (bB (bu (bB (oF z h s f k o t j u v p) q r (nr c e u v l (aj x.body) m)) (aL D n)) G I N) F J (nr Q O G I C 1 M)) z (dX x.L (aj x.body)).fresh (zk x w))))) (FD (aj x.body) (fun C=>bB (oF z h s f k o t j u v p) q r (nr c e u v l (aj x.body) m) C) (vY dA x.body) (bB (oF z h s f k o t j u v p) q r (nr c e u v l (aj x.body) m)) (aL D n) (dX x.L (aj x.body)).next fun C M G I N F J Q=>vX (aL B g) 4 (fun O=>bB (bu (bB (bB (oF z h s f k o t j u v p) q r (nr c e u v l (aj x.body) m)) C M G) (aL D n)) F J Q O) (A.val (iK F J (I+1) N)) fun O R S T=>oG (dX x.L (aj x.body)).next 1 (aK (dX x.L (aj x.body)).fresh (qx (Dm x) 1 (oE (zk x w) fun X=>JO x (bB (bB (bu (bB (bB (oF z h s f k o t j u v p) q r (nr c e u v l (aj x.body) m)) C M G) (aL D n)) F J Q) O R (nr S T F J I 1 N)) z false (jq X))) (qx (Dm x) 1 (JO x (bB (bB (bu (bB (bB (oF z h s f k o t j u v p) q r (nr c e u v l (aj x.body) m)) C M G) (aL D n)) F J Q) O R (nr S T F J I 1 N)) z (dX x.L (aj x.body)).fresh (zk x w)))))))))))))))) (by kernel_rfl) (by
 delta cE aK cR aQ aL aO aj ai aA az nZ cI nr gq aM aN w9 nY cm fB pG bK gu SH aU qQ SI bI aP aZ jo bY ag Cu bD jF fF JO FD aq ku U8 bQ cK zk JN OU Vb jO dI aJ oF aC nE jd bW ah l8 Dj vV aS vX aI iq vU cO zl bf Fw qx Va iR OS aY vT oE oG lZ vW uC kz nH ja uz qu Fy vY Dm Vc FE Dn uD U7 eu xI AP AU bw Dp bM uE U9 qw
 try dsimp -iota -proj only
 rintro⟨H,y,L,d,body,cap⟩ ⟨hl,ok,hb1,hb2⟩;dsimp only at *;have hf:=ok.wN;have hcl:=ok.calls;have hnx:=ok.next
 have hng:=JM ok;obtain⟨e1,_,⟨ea,ec,e2⟩,e3,_⟩:=hl.vS;refine⟨fun c1=>?_,fun _=>⟨fun c2=>?_,fun _=>⟨⟨⟨ea,_,ec,e2,e3⟩,fun c3=>?_,fun c3=>?_⟩,?_⟩⟩⟩
 ·grind
 ·grind
 ·rw[e1]at c3;have hn0:L.l.length=0:=by simpa using c3
  have hneed:tQ L body.length=true:=by simp only[tQ,hn0];rfl
  have e1:dX L body.length=oD L:=if_pos hneed;have e2:mQ L d body.length=xJ L d:=if_pos hneed;refine⟨U3.mk H y L d,?_⟩
  and_intros<;>first|exact kG|exact ok.au.1|exact ok.au.2|exact ok.room|exact ok.size|(simp only[bZ];omega)|skip
  intro b hpost;refine⟨(b.H,b.y),?_⟩
  grind [af.refl]
 ·rw[e1]at c3 ⊢;have hn0:0<L.l.length:=by have:=(beq_eq_false_iff_ne.1 c3);omega
  have hk:L.l.length-1<L.l.length:=by omega
  obtain⟨b,lo,o,c,cs,g1,g2,g3,g4⟩:=hl.at_ hk;have hs:=hl.seg _ hk;obtain⟨b1,b2,b3,b4,⟨ba,bc,b5⟩,b6⟩:=hs.buf.len;have e5:((L.l.length:Int)-1).toNat=L.l.length-1:=by omega
  refine⟨by simp only[bZ];omega,_,_,_,_,g1,by omega,b,lo,o+(L.l.length-1)*1,cs,by grind,g2,⟨⟨_,g3,rfl⟩,trivial⟩,?_⟩;refine⟨_,_,g4,?_⟩;refine⟨_,_,rfl,?_⟩;refine⟨_,0,_,_,rfl,hs.cell,?_⟩;refine⟨⟨⟨_,rfl,b6⟩,trivial⟩,⟨ba,_,bc,b5,b3⟩,by simp only[bZ];omega,fun c4=>?_,fun c4=>?_⟩
  ·simp only[eH,zBq,G3,b1]at c4;have hneed:tQ L body.length=true:=by
    have:=qi c4;rw[tQ,IE];exact .inr (zBg (show 370<(mP L).buf.length+body.length by grind [mP]))
   have e1:dX L body.length=oD L:=if_pos hneed;have e2:mQ L d body.length=xJ L d:=if_pos hneed;refine⟨U3.mk H y L d,?_⟩
   and_intros<;>first|exact kG|exact ok.au.1|exact ok.au.2|exact ok.room|exact ok.size|(simp only[bZ];omega)|skip
   intro b hpost;refine⟨(b.H,b.y),?_⟩
   grind [af.refl]
  ·simp only[eH,zBq,G3,b1]at c4;have hneed:tQ L body.length=false:=by
    have:=ug c4;rw[tQ,Bool.or_eq_false_iff];exact⟨Ml (by omega),Ml (show ¬370<(mP L).buf.length+body.length by grind [mP])⟩
   have e1:dX L body.length=L:=if_neg (by grind);have e2:mQ L d body.length=d:=if_neg (by grind);refine⟨(H,y),?_⟩
   grind [af.refl]
 ·rintro⟨X,Y⟩ ⟨hX,hfr⟩;dsimp only at hX hfr ⊢;have h1:=SG (n:=body.length) ok hb2;have eA:p7 L body=SD (dX L body.length) body:=rfl;have eD:sN L d body=if(dX L body.length).fresh then jq (xg (dX L body.length) (mQ L d body.length) body)else xg (dX L body.length) (mQ L d body.length) body:=rfl;rw[eA,eD];obtain⟨L1,hL1⟩:∃L1,L1=dX L body.length:=⟨_,rfl⟩
  obtain⟨d1,hd1⟩:∃d1,d1=mQ L d body.length:=⟨_,rfl⟩
  rw[<- hL1]at hX;rw[<- hL1,<- hd1]at h1 ⊢;have hp:=h1.pos;have hk:L1.l.length-1<L1.l.length:=by omega
  obtain⟨k1,_,⟨ka,kc,k2⟩,k3,_⟩:=hX.vS;obtain⟨b,lo,o,c,cs,g1,g2,g3,g4⟩:=hX.at_ hk;have hs:=hX.akL hk;obtain⟨sl,hsl⟩:∃sl,sl=gl Y.ys (L1.l.length-1):=⟨_,rfl⟩
  have hlg:mP L1=gl L1.l (L1.l.length-1):=rfl;obtain⟨g,hg⟩:∃g,g=mP L1:=⟨_,rfl⟩
  rw[<- hlg,<- hg,<- hsl]at hs;rw[<- hsl]at g3 g4;rw[<- hg];have hlast:=h1.last;rw[<- hg]at hlast;have hgen:=h1.gen _ hk;rw[<- hlg,<- hg]at hgen;obtain⟨b1,b2,b3,b4,⟨ba,bc,b5⟩,b6⟩:=hs.at_.buf.len;have e5:((L1.l.length:Int)-1).toNat=L1.l.length-1:=by omega
  rw[k1];have hfew:=h1.wN;refine⟨⟨ka,_,kc,k2,k3⟩,by simp only[bZ];omega,_,_,_,_,g1,by omega,b,lo,o+(L1.l.length-1)*1,cs,by grind,g2,⟨⟨_,g3,rfl⟩,trivial⟩,?_⟩
  repeat(first|refine And.intro (by omega) ?_|refine And.intro (by omega) ?_|refine And.intro (by omega) ?_)
  intro _
  repeat(first|refine And.intro (by omega) ?_|refine And.intro (by omega) ?_|refine And.intro (by omega) ?_)
  refine⟨_,_,g4,?_⟩;refine⟨_,_,rfl,?_⟩;refine⟨_,0,_,_,rfl,hs.at_.cell,?_⟩;refine⟨⟨⟨_,rfl,b6⟩,trivial⟩,⟨ba,_,bc,b5,b3⟩,?_⟩;refine⟨_,_,g4,?_⟩;refine⟨_,_,rfl,?_⟩;refine⟨_,0,_,_,rfl,hs.at_.cell,?_⟩;refine⟨⟨⟨_,rfl,b6⟩,trivial⟩,?_⟩
  repeat(first|refine And.intro (by omega) ?_|refine And.intro (by omega) ?_|refine And.intro (by omega) ?_)
  obtain⟨c0,hbuf⟩:=hs.at_.buf;simp only[show(eH g sl.bv sl.rv).getD 3 (Value.tuple #[])=sl.bv from rfl];refine⟨_,c0,_,hbuf,?_⟩
  repeat(first|refine And.intro (by omega) ?_|refine And.intro (by omega) ?_|refine And.intro (by omega) ?_)
  intro cap1 q1 q2 q3
  repeat(first|refine And.intro (by omega) ?_|refine And.intro (by omega) ?_|refine And.intro (by omega) ?_)
  intro p1 lo1 cs1 hp1 hl1 hr1;have hA:Step X sl.bv (bB (bu X sl.bv) p1 lo1 cs1) (iK p1 lo1 (g.buf.length+8) cap1):=ym hp1;have hsA:oo (bB (bu X sl.bv) p1 lo1 cs1) (iK p1 lo1 (g.buf.length+8) cap1) [.int .u8] (g.buf.length+8) cap1 (aa dA (g.buf++HS body.length L1.next)):=by
   refine rF hl1 q1 q2 hr1 fun i hi j hj=>?_;have hj0:j=0:=by simpa using hj
   subst hj0;simp only[mA,bq,aa,dA,G3];by_cases hin:i<g.buf.length
   ·grind [cu]
   ·rw[if_neg hin];obtain⟨m,rfl⟩:∃m,i=g.buf.length+m:=⟨i-g.buf.length,by omega⟩
    rw[bt,zBB];have hm:m<8:=by omega
    match m,hm with
    |0,_=>rfl
    |1,_=>rfl
    |2,_=>rfl
    |3,_=>rfl
    |4,_=>rfl
    |5,_=>rfl
    |6,_=>rfl
    |7,_=>rfl
  refine⟨_,cap1,_,hsA,?_⟩
  repeat(first|refine And.intro (by omega) ?_|refine And.intro (by omega) ?_|refine And.intro (by omega) ?_)
  intro cap2 q4 q5 q6
  repeat(first|refine And.intro (by omega) ?_|refine And.intro (by omega) ?_|refine And.intro (by omega) ?_)
  intro p2 lo2 cs2 hp2 hl2 hr2;have hB:Step X sl.bv (bB (bu (bB (bu X sl.bv) p1 lo1 cs1) (iK p1 lo1 (g.buf.length+8) cap1)) p2 lo2 cs2) (iK p2 lo2 (g.buf.length+8+body.length) cap2):=hA.trans (ym hp2);have hlb:(xK g L1.next body).length=g.buf.length+8+body.length:=by simp only[xK,wM];rfl
  have hBy:iV (bB (bu (bB (bu X sl.bv) p1 lo1 cs1) (iK p1 lo1 (g.buf.length+8) cap1)) p2 lo2 cs2) (iK p2 lo2 (g.buf.length+8+body.length) cap2) (xK g L1.next body):=by
   refine⟨cap2,?_⟩;rw[hlb];refine rF hl2 q4 q5 hr2 fun i hi j hj=>?_;have hj0:j=0:=by simpa using hj
   subst hj0;simp only[mA,bq,aa,dA,G3,xK];have hl8:(g.buf++HS body.length L1.next).length=g.buf.length+8:=by rw[wM];rfl
   by_cases hin:i<g.buf.length+8
   ·rw[if_pos hin,show gl (g.buf++HS body.length L1.next++body) i=gl (g.buf++HS body.length L1.next) i from cu (by omega)]
   ·rw[if_neg hin];obtain⟨m,rfl⟩:∃m,i=g.buf.length+8+m:=⟨i-(g.buf.length+8),by omega⟩
    rw[<- hl8,bt,zBB]
  obtain⟨hc2,hs3,hf3⟩:=Dl hs hB hBy;obtain⟨X2,hX2⟩:∃X2,X2=bB (bu (bB (bu X sl.bv) p1 lo1 cs1) (iK p1 lo1 (g.buf.length+8) cap1)) p2 lo2 cs2:=⟨_,rfl⟩
  rw[<- hX2]at hc2 hs3 hf3 ⊢;refine⟨_,_,g4,?_⟩;refine⟨_,_,rfl,?_⟩;refine⟨_,0,_,_,rfl,hc2,by simp[eH],?_⟩;obtain⟨X3,hX3⟩:∃X3,X3=bB X2 sl.b 0 (eH { g with buf:=xK g L1.next body } (iK p2 lo2 (g.buf.length+8+body.length) cap2) sl.rv):=⟨_,rfl⟩
  have eX3:bB X2 sl.b 0 (List.take 3 (eH g sl.bv sl.rv)++[Value.slice (some ⟨p2,lo2,none⟩) (g.buf.length+8+body.length) cap2]++List.drop (3+[Value.slice (some ⟨p2,lo2,none⟩) (g.buf.length+8+body.length) cap2].length) (eH g sl.bv sl.rv))=X3:=hX3.symm;rw[<- hX3]at hs3 hf3;simp only[eX3];obtain⟨sl3,hsl3⟩:∃s,s={ sl with bv:=iK p2 lo2 (g.buf.length+8+body.length) cap2 }:=⟨_,rfl⟩
  obtain⟨g3',hg3⟩:∃s:cQ,s={ g with buf:=xK g L1.next body }:=⟨_,rfl⟩
  have hsw:SC g L.next body=g3':=by rw[hg3,<- h1.next];rfl
  have hb3:g3'.buf.length=g.buf.length+8+body.length:=by rw[hg3];exact hlb
  have hgen3:g3'.gen=g.gen:=by rw[hg3]
  have hv2:sl3.bv=iK p2 lo2 (g.buf.length+8+body.length) cap2:=by rw[hsl3]
  have hb3s:sl3.b=sl.b:=by rw[hsl3]
  rw[<- hsl3,<- hg3]at hs3;rw[<- hsl3]at hf3;have hcell3:=hs3.at_.cell;have hwn:=zi L1 g3' g.buf.length d1;have hsegs:=ok.au;have hroom:=ok.room;have hsize:=ok.size;have q1n:=h1.dn;have q1c:=h1.calls;have q1f:=h1.from_;have q1s:=h1.au;rw[hsw];refine⟨⟨0,?_⟩,fun i hi=>⟨fun c5=>?_,fun c5=>?_⟩⟩
  ·and_intros<;>first|exact kG|rfl|exact cW _|exact af.refl _ _ _
  ·have hi8:i<8:=by have:=qi c5;omega
   have em:(bif true then max 0 (((i:Int)+1)*48-6)else min 0 (((i:Int)+1)*48-6))=(bh (i+1):Nat):=by simp only[iU,bh];omega
   have em2:(bif true then max 0 ((i:Int)*48-6)else min 0 ((i:Int)*48-6))=(bh i:Nat):=by simp only[iU,bh];omega
   simp only[show(eH g sl.bv sl.rv).getD 3 (Value.tuple #[])=sl.bv from rfl,b1,em,em2];have hw1:=hwn i
   repeat refine clE ?_
   refine⟨fun c6=>?_,fun c6=>?_⟩
   ·have c6:g.buf.length<bh (i+1):=by have:=qi c6;omega
    refine⟨_,_,g4,?_⟩;refine⟨_,_,rfl,?_⟩;refine⟨_,0,_,_,rfl,by rw[<- hb3s];exact hcell3,?_⟩;refine⟨⟨⟨_,rfl,by rw[hv2];rfl⟩,trivial⟩,⟨_,_,_,hv2,YP q4 q5⟩,?_⟩;simp only[hv2,eH,zBq,G3,YW]
    repeat refine clE ?_
    refine⟨fun c7=>?_,fun c7=>?_⟩
    ·have c7:bh i<g.buf.length+8+body.length:=by have:=qi c7;omega
     have hcond:eL L1 g3' g.buf.length d1 (i+1)=jX (eL L1 g3' g.buf.length d1 i) (oC L1 g3' i) 64 (jN g3' i L1.run):=by
      have:AS g.buf.length g3'.buf.length i=true:=by simp only[AS,jB,tB];omega
      simp only[eL,this,if_true]
     refine⟨zf.mk X3 sl3 g3' i L1 Y.lv (eL L1 g3' g.buf.length d1 i),?_⟩
     and_intros<;>first|exact kG|exact hs3.at_|(rw[hb3s];exact g4)|exact af.refl _ _ _|(dsimp only;omega)|skip
     intro _ _;refine⟨by simp only[bZ];omega,i+1,?_⟩
     grind [af.refl]
    ·have c7:¬bh i<g.buf.length+8+body.length:=by have:=ug c7;omega
     have hcond:eL L1 g3' g.buf.length d1 (i+1)=eL L1 g3' g.buf.length d1 i:=by
      have:AS g.buf.length g3'.buf.length i=false:=by simp only[AS,Bool.and_eq_false_iff,decide_eq_false_iff_not];omega
      simp only[eL,this];rfl
     refine⟨by simp only[bZ];omega,i+1,?_⟩
     grind [af.refl]
   ·have c6:¬g.buf.length<bh (i+1):=by have:=ug c6;omega
    have hcond:eL L1 g3' g.buf.length d1 (i+1)=eL L1 g3' g.buf.length d1 i:=by
     have:AS g.buf.length g3'.buf.length i=false:=by simp only[AS,Bool.and_eq_false_iff,decide_eq_false_iff_not];omega
     simp only[eL,this];rfl
    refine⟨by simp only[bZ];omega,i+1,?_⟩
    grind [af.refl]
  ·have hi8:i=8:=by have:=ug c5;omega
   subst hi8;have eD2:xg L1 d1 body=eL L1 g3' g.buf.length d1 8:=by
    have:SC (mP L1) L1.next body=g3':=by rw[h1.next,<- hg];exact hsw
    unfold xg;rw[this,<- hg]
   refine⟨_,_,g4,?_⟩;refine⟨_,_,rfl,?_⟩;refine⟨_,0,_,_,rfl,by rw[<- hb3s];exact hcell3,?_⟩;obtain⟨c9,hrec⟩:=hs3.at_.bn;obtain⟨m1,m2,m3,m4,m5,_,m6⟩:=iD hrec;refine⟨⟨⟨_,rfl,m6⟩,trivial⟩,fun _ b11 hb11=>⟨fun e=>absurd (hb11 e) (by omega),fun _=>?_⟩⟩;simp only[show(eH g3' sl3.bv sl3.rv).getD 4 (Value.tuple #[])=sl3.rv from rfl,mA]
   repeat(first|refine And.intro (by omega) ?_|refine And.intro (by omega) ?_|refine And.intro (by omega) ?_)
   intro cap3 u1 u2 u3
   repeat(first|refine And.intro (by omega) ?_|refine And.intro (by omega) ?_|refine And.intro (by omega) ?_)
   intro p3 lo3 cs3 hp3 hl3 hr3;have hC:Step X3 (.slice none 0 0) (bB X3 p3 lo3 cs3) (iK p3 lo3 body.length cap3):=SE hp3;have hCb:iV (bB X3 p3 lo3 cs3) (iK p3 lo3 body.length cap3) body:=by
    refine⟨cap3,rF hl3 u1 u2 hr3 fun i hi j hj=>?_⟩;have hj0:j=0:=by simpa using hj
    subst hj0;simp only[bq,uh,if_false,LL]
   have hx3:∀x,X3 x≠none->x≠p3:=fun x hx e=>hx (by grind);have hrec4:oo (bB X3 p3 lo3 cs3) sl3.rv yl g3'.bn.length c9 (AO g3'.bn sl3.vs):=l7 hrec fun x hx=>dM (hx3 x (rD hrec x hx));refine⟨_,c9,_,hrec4,?_⟩;have hrc:=h1.bn _ hk;have hbc:=h1.buf _ hk;rw[<- hlg,<- hg]at hrc hbc;have hmr:g3'.bn.length=g.bn.length:=by rw[hg3]
   repeat(first|refine And.intro (by omega) ?_|refine And.intro (by omega) ?_|refine And.intro (by omega) ?_)
   intro cap4 w1 w2 w3
   repeat(first|refine And.intro (by omega) ?_|refine And.intro (by omega) ?_|refine And.intro (by omega) ?_)
   intro p4 lo4 cs4 hp4 hl4 hr4;have hD:Step (bB X3 p3 lo3 cs3) sl3.rv (bB (bu (bB X3 p3 lo3 cs3) sl3.rv) p4 lo4 cs4) (iK p4 lo4 (g3'.bn.length+1) cap4):=ym hp4;have hr5:oo (bB (bu (bB X3 p3 lo3 cs3) sl3.rv) p4 lo4 cs4) (iK p4 lo4 (g3'.bn.length+1) cap4) yl (g3'.bn.length+1) cap4 (AO (g3'.bn++[⟨L1.next,body⟩]) (sl3.vs++[iK p3 lo3 body.length cap3])):=by
    refine rF hl4 w1 w2 hr4 fun i hi j hj=>?_;have hvl:=hs3.at_.len;simp only[bq,AO,mA];by_cases hin:i<g3'.bn.length
    ·grind [cu]
    ·rw[if_neg hin];obtain rfl:i=g3'.bn.length:=by omega
     rw[zBr];have hj2:j<2:=hj
     match j,hj2 with
     |0,_=>rw[if_pos rfl,show g3'.bn.length=g3'.bn.length+0 from rfl,bt];rfl
     |1,_=>rw[if_neg (by decide),LP,zAQ (by omega),hvl,zBr];rfl
   obtain⟨hcell4,hcell5,hnd6,hfr6⟩:=Hi (r:=⟨L1.next,body⟩) hs3 hC hCb hD (fun x hx=>by
    grind [iW,iK,fJ]) ⟨cap4,hr5⟩
   have hset:=hX.set hk (sl:=⟨sl3.b,sl3.bv,iK p4 lo4 (g3'.bn.length+1) cap4,sl3.vs++[iK p3 lo3 body.length cap3]⟩) (g:={ g3' with bn:=g3'.bn++[⟨L1.next,body⟩] }) (by grind) hnd6 (by rw[<- hsl];exact hf3.trans hfr6);have hAll:=hset.1.congr (L':=SD L1 body) (by
    simp only[SD,XM];rw[<- hg,hg3];rfl)
   have hFr:∀z,H z≠none->z∉cC y->bB (bB (bu (bB X3 p3 lo3 cs3) sl3.rv) p4 lo4 cs4) sl3.b 0 (eH { g3' with bn:=g3'.bn++[⟨L1.next,body⟩] } sl3.bv (iK p4 lo4 (g3'.bn.length+1) cap4)) z=H z/\z∉cC ⟨Y.lv,Y.ys.set (L1.l.length-1) ⟨sl3.b,sl3.bv,iK p4 lo4 (g3'.bn.length+1) cap4,sl3.vs++[iK p3 lo3 body.length cap3]⟩⟩:=fun z hz hn=>by
    grind
   obtain⟨X6,hX6⟩:∃X6,X6=bB (bB (bu (bB X3 p3 lo3 cs3) sl3.rv) p4 lo4 cs4) sl3.b 0 (eH { g3' with bn:=g3'.bn++[⟨L1.next,body⟩] } sl3.bv (iK p4 lo4 (g3'.bn.length+1) cap4)):=⟨_,rfl⟩
   rw[<- hX6]at hAll;simp only[<- hX6]at hFr;refine⟨_,_,g4,?_⟩;refine⟨_,_,rfl,?_⟩;refine⟨_,0,_,_,rfl,by rw[<- hb3s];exact hcell5,by simp[eH],fun _=>?_⟩;have q1x:=h1.next
   have eDn:(xg L1 d1 body).n=d.n/\(xg L1 d1 body).calls<=d.calls+10:=by rw[eD2];have:=hwn 8;omega
   rw[eD2]at eDn;refine⟨by simp only[bZ];omega,fun hfre _=>⟨by grind,eL L1 g3' g.buf.length d1 8,?_⟩,fun hfre _=>⟨by grind,?_⟩⟩
   ·and_intros<;>first|exact kG|exact af.refl _ _ _|skip
    intro _ _;rw[hfre,if_pos rfl,eD2];refine⟨⟨X6,⟨Y.lv,Y.ys.set (L1.l.length-1) ⟨sl3.b,sl3.bv,iK p4 lo4 (g3'.bn.length+1) cap4,sl3.vs++[iK p3 lo3 body.length cap3]⟩⟩⟩,?_⟩
    and_intros<;>first|exact kG|exact hAll|exact hFr|(rw[hX6,hb3s];rfl)|exact cW _|exact af.refl _ _ _|rfl|skip
   ·rw[hfre,if_neg (by decide),eD2];refine⟨⟨X6,⟨Y.lv,Y.ys.set (L1.l.length-1) ⟨sl3.b,sl3.bv,iK p4 lo4 (g3'.bn.length+1) cap4,sl3.vs++[iK p3 lo3 body.length cap3]⟩⟩⟩,?_⟩
    and_intros<;>first|exact kG|exact hAll|exact hFr|(rw[hX6,hb3s];rfl)|exact cW _|exact af.refl _ _ _|rfl|skip)
theorem JP:av (Y Tryz.prog).G.X 162 Im:=bp gf Vd ⟨Zw,MK,lR,trivial⟩
structure rG(rs:List RecM):Prop where
 lt:∀i j,i<j->j<rs.length->(gl rs i).pos<(gl rs j).pos
 AA:∀i,i<rs.length->0<=(gl rs i).pos/\(gl rs i).pos<1000000000000
theorem AV{rs:List RecM}{vs:List Value}{n:Nat}(h:oo H v yl n c (AO rs vs))(hk:k<n):∃b lo o cs,v=iK b (lo+o) n c/\H b=some (lo,cs)/\cs[o+k*2]? = some (.int .i64 (gl rs k).pos)/\cs[o+k*2+1]? = some (vs.getD k undef) /\
 (vs.getD k undef).oneCell'=true/\bZ .i64 (gl rs k).pos/\cs.getD (o+k*2) (Value.tuple #[]) = .int .i64 (gl rs k).pos/\cs.getD (o+k*2+1) (Value.tuple #[])=vs.getD k undef:=by
 rcases h with⟨_,h0,_⟩ | ⟨b,lo,o,cs,h1,h2,h3,h4,h5⟩
 ·omega
 ·obtain⟨g1,g2⟩:=h5.at_ k hk 0 (.int .i64) rfl;obtain⟨g3,g4⟩:=h5.at_ k hk 1 .deep rfl;have g1:cs[o+k*2]? = some (.int .i64 (gl rs k).pos):=g1;have g3:cs[o+k*2+1]? = some (vs.getD k undef):=g3;obtain⟨m,hm,hr⟩:=g2;have hr:bZ .i64 (gl rs k).pos:=by
   have:(Value.int .i64 (gl rs k).pos) = .int .i64 m:=hm;injection this with _ e
   rw[e];exact hr
  exact⟨b,lo,o,cs,h1,h3,g1,g3,g4,hr,by grind,by grind⟩
structure OV where
 H:PH
 rv:Value
 rs:List RecM
 vs:List Value
 p:Int
def ajf:cB where
 α:=OV
 β:=Nat
 m:=1
 m':=1
 pre:=fun a=>(∃c,oo a.H a.rv yl a.rs.length c (AO a.rs a.vs))/\a.rs.length<=400/\rG a.rs/\0<=a.p/\a.p<1000000000000
 args:=fun a=>[.a (.val a.rv),.a (.int .i64 a.p),.a (.fn 238)]
 ro:=fun a=>[(0,.dg a.H)]
 post:=fun a n=>n<=a.rs.length/\(∀k,k<n->(gl a.rs k).pos<a.p)/\∀k,n<=k->k<a.rs.length->a.p<=(gl a.rs k).pos
 res:=fun a n=>.nR [.a (.int .i64 n),.a (.bool (decide (n<a.rs.length)&&decide ((gl a.rs n).pos=a.p)))]
def amg(a:OV):An:=.flat 3 (Nat×Nat) (fun s x=>(s.int 9 x.1).int 10 x.2) (fun _ x=>x.1<=x.2/\x.2<=a.rs.length/\(∀k,k<x.1->(gl a.rs k).pos<a.p)/\∀k,x.2<=k->k<a.rs.length->a.p<=(gl a.rs k).pos) (fun _ x=>x.2-x.1)
def Dq(z:Nat)(x:OV)(u:Nat):=z<=x.rs.length/\(∀y:Nat,y<u->(gl x.rs y).pos<x.p)/\∀y:Nat,z<=y->y<x.rs.length->x.p<=(gl x.rs y).pos
def FF(y:List Value)(z:Nat):=(∃x:Value,y[z+1]? = some x/\aq x.oneCell')/\True
def AW(y:Nat)(u:Value)(v:Nat->Option (Nat×List Value))(w:Nat->List Value->Prop)(s:Prop):=bS y (eC u) (ku u (ag y) fun t f=>pG t f (aG y*2) (fun x=>v x) (fun x=>mJ x) (fun x z=>FF z x) fun x z=>w x z) s
def FG(x:Nat×Nat):Int:=sK (dI (ag x.fst+ag x.snd)/(2:Int))
def OW(x:OV):=(∃y:Nat,oo x.H x.rv AU x.rs.length y (AO x.rs x.vs))/\x.rs.length<=400/\rG x.rs/\aZ x.p 1000000000000
def OX(x:OV)(y:Nat×Nat)(z:Prop):=bf (eC x.rv)/\bD (aJ (gu x.rv/\az x.p/\x.H=x.H/\(y.fst<=y.snd/\Dq y.snd x y.fst)/\z))
def JQ(y:Nat)(x:OV):Bool:=decide (y<x.rs.length)&&decide ((gl x.rs y).pos=x.p)
theorem agQ:fnBody (Y Tryz.prog) [] 237 ajf fun a=>[(237,[amg a],[])]:=fnBody.of (p :=
 ∀y:OV,OW y->Exists (fF y.rv)/\(∃x:Nat×Nat,cm (eC y.rv) x.snd/\aS x.fst (OX y x True))/\∀x:Nat×Nat,x.fst<=x.snd/\Dq x.snd y x.fst->bS x.fst x.snd (ai (ag x.fst+ag x.snd)/\(0:Int)<=1/\ku y.rv (FG x) fun u w=>pG u w (aC (FG x)*2) (fun z=>y.H z) (fun z=>mJ z) (fun z s=>FF s z) fun z s=>qx (dR (aL s z)) y.p (aI (uA (dR (aL s z)-y.p) (-1:Int) 1) 0 (fe (FG x)/\∃v:Nat×Nat,cm x.snd v.snd/\FG x+(1:Int)=ag v.fst/\OX y v (v.snd-v.fst<x.snd-x.fst)) (∃v:Nat×Nat,FG x=ag v.snd/\cm x.fst v.fst/\OX y v (v.snd-v.fst<x.snd-x.fst)))) (AW x.fst y.rv (fun u=>y.H u) (fun u w=>qx (dR (aL w u)) y.p (∃z:Nat,cm x.fst z/\(uA (dR (aL w u)-y.p) (-1:Int) 1 == (0:Int))=JQ z y/\Dq z y z/\True)) (∃u:Nat,cm x.fst u/\false=JQ u y/\Dq u y u/\True))) (by kernel_rfl) (by
 delta aK aL aO ai az aG aN cm fB pG gu aU qQ aZ ag bD fF aq ku Dq dI aJ aC AW aS aI bf qx FG OW uA OX uC bS JQ mJ AU fe sK FF
 try dsimp -iota -proj only
 rintro⟨H,rv,rs,vs,p⟩ ⟨⟨c,hs⟩,h1,⟨h2,h2'⟩,h3,h4⟩;dsimp only at *;obtain⟨e1,_,_,e4,_,⟨ea,e2⟩,_⟩:=iD hs;refine⟨⟨ea,_,_,e2,by omega⟩,⟨(0,rs.length),?_⟩,fun x hx=>?_⟩
 ·grind
 ·obtain⟨i,j⟩:=x;obtain⟨x1,x2,x3,x4⟩:=hx;dsimp only at *;have hmid:uw .i64 (uw .u64 ((i:Int)+j)/2)=(((i+j)/2:Nat):Int):=by
   have e1:uw .u64 ((i:Int)+j)=(i:Int)+j:=by simp only[uw];omega
   rw[e1];have e2:((i:Int)+j)/2=(((i+j)/2:Nat):Int):=by omega
   rw[e2];exact gH (k:=.i64) (by simp only[bZ];omega)
  refine⟨fun c1=>?_,fun c1=>?_⟩
  ·have c1:i<j:=by have:=qi c1;omega
   obtain⟨m,hm⟩:∃m,m=(i+j)/2:=⟨_,rfl⟩
   rw[hmid,<- hm];have hmi:i<=m/\m<j:=by omega
   obtain⟨b,lo,o,cs,g1,g2,g3,g4,g5,g6,g7,g8⟩:=AV hs (k:=m) (by omega);have hr:=h2' m (by omega);refine⟨by simp only[bZ];omega,by omega,_,_,_,_,g1,by omega,b,lo,o+m*2,cs,by grind,g2,⟨⟨_,g3,_,rfl,g6⟩,⟨_,g4,g5⟩,trivial⟩,fun _=>?_⟩;rw[g7];simp only[dR,iU,vv];refine⟨by simp only[bZ];omega,fun c2=>⟨by simp only[bZ];omega,(m+1,j),?_⟩,fun c2=>⟨(i,m),?_⟩⟩
   ·have c2:=qi c2;have hlt:(gl rs m).pos<p:=by omega
    (repeat' (first|apply And.intro|(intro _)))<;>first|exact kG|skip
    ·rename_i k hk;by_cases hkm:k=m
     ·grind
     ·have:=h2 k m (by omega) (by omega);omega
    grind
   ·have c2:=ug c2;have hge:p<=(gl rs m).pos:=by omega
    (repeat' (first|apply And.intro|(intro _)))<;>first|exact kG|skip
    ·grind
    ·rename_i k hk1 hk2;by_cases hkm:k=m
     ·grind
     ·have:=h2 m k (by omega) hk2;omega
  ·have c1:i=j:=by have:=ug c1;omega
   subst c1;rw[e1];refine⟨fun c2=>?_,fun c2=>⟨i,?_⟩⟩
   ·have c2:i<rs.length:=by have:=qi c2;omega
    obtain⟨b,lo,o,cs,g1,g2,g3,g4,g5,g6,g7,g8⟩:=AV hs (k:=i) c2;have hr:=h2' i c2;refine⟨_,_,_,_,g1,by omega,b,lo,o+i*2,cs,by grind,g2,⟨⟨_,g3,_,rfl,g6⟩,⟨_,g4,g5⟩,trivial⟩,fun _=>?_⟩;rw[g7];simp only[dR,iU,vv];refine⟨by simp only[bZ];omega,i,?_⟩
    grind
   grind)
theorem agR:av (Y Tryz.prog).G.X 237 ajf:=bp gf agQ trivial
def Cv(rs:List RecM)(p:Int):Option (List Int):=(rs.find? fun r=>decide (r.pos=p)).map (·.body)
def jR(l:List cQ)(p:Int):Option (List Int):=l.findSome? fun g=>Cv g.bn p
def Hl(o:Option (List Int)):Int:=match o with|some _=>0|none=>9
theorem XN[Inhabited α]{l:List α}(h:k<l.length):l.drop k=gl l k::l.drop (k+1):=by
 grind [b8,List.drop_eq_getElem_cons]
theorem XP{α:Type}[Inhabited α]{q:α->Bool}:∀ {l:List α} {n:Nat},n<l.length->q (gl l n)=true->(∀k,k<n->q (gl l k)=false)->l.find? q=some (gl l n)
 |[],n,h,_,_=>by simp at h
 |x::l,0,_,h,_=>by
  grind [gl]
 |x::l,n+1,hn,h,hk=>by
  have h0:q x=false:=hk 0 (by omega);have e:∀m,gl (x::l) (m+1)=gl l m:=fun m=>by simp[gl]
  rw[e]at h ⊢;rw[zBS,h0];exact XP (by simpa using hn) h fun k hkn=>by grind
theorem agS[Inhabited α]{q:α->Bool}{l:List α}(h:∀k,k<l.length->q (gl l k)=false):l.find? q=none:=by
 grind [List.getElem_of_mem,b8]
structure SJ where
 H:PH
 y:jD
 L:cn
 p:Int
def Ve:cB where
 α:=SJ
 β:=Nat
 m:=3
 m':=4
 pre:=fun a=>cV a.H a.y a.L/\a.L.l.length<1000/\0<=a.p/\a.p<1000000000000/\∀i,i<a.L.l.length->rG (gl a.L.l i).bn/\(gl a.L.l i).bn.length<=400/\∀k,k<(gl a.L.l i).bn.length->1<=(gl (gl a.L.l i).bn k).body.length/\(gl (gl a.L.l i).bn k).body.length<=1000
 args:=fun a=>[.a (.ptr 0 0 0 0),.a (.int .i64 a.p)]
 ro:=fun a=>[(0,js 2 a.L a.y.lv),(1,.dg a.H)]
 post:=fun a c=>((jR a.L.l a.p).getD []).length<=c
 res:=fun a c=>.nR [.a (.slc 3 0 1 ((jR a.L.l a.p).getD []).length c),.a (.int .i64 (Hl (jR a.L.l a.p)))]
 eV:=fun a c=>mH 3 ((jR a.L.l a.p).getD [])
def ajg(a:SJ):An:=.flat 4 Nat (fun s k=>s.int 17 k) (fun _ k=>k<=a.L.l.length/\jR (a.L.l.drop k) a.p=jR a.L.l a.p) (fun _ k=>a.L.l.length-k)
def uF(x:cn)(y:Nat):Nat:=(gl x.l y).bn.length
def Dr(x:cn)(y:Nat):=uF x y<=400/\∀z:Nat,z<uF x y->iR (gl (gl x.l y).bn z).body 1000
def FH(x:Value)(v:Prop)(w:PH)(s:Nat->(Nat->Nat->Value)->Prop):=(∃y:Option Go.Addr,∃u z:Nat,x=Value.slice y u z)/\aK (LZ x) v (0<=0/\Exists (nH w x l8 fun y u z=>s y z))
def zm(x:SJ):List Int:=(jR x.L.l x.p).getD []
def mY(x:Value)(y:Prop):=bf (eC x)/\gu x/\y
def oH(y:PH)(z:jD)(x:cn)(u:Prop):=cV y z x/\bY x<1000/\u
def OY(x:SJ):=oH x.H x.y x.L ((0:Int)<=x.p/\x.p<(1000000000000:Int)/\∀z:Nat,z<bY x.L->rG (gl x.L.l z).bn/\Dr x.L z)
def nI(x:cn)(y:jD)(z:Prop):=cK x x y y z
def OZ(y:Nat)(x:SJ):=jR (List.drop y x.L.l) x.p=jR x.L.l x.p
theorem Zx:fnBody (Y Tryz.prog) [(237,ajf)] 213 Ve fun a=>[(213,[ajg a],[])]:=fnBody.of (p :=
 ∀x:SJ,OY x->Exists (fF x.y.lv)/\(∃z:Nat,aS z (mY x.y.lv (lB (az x.p/\nI x.L x.y (x.H=x.H/\(z<=bY x.L/\OZ z x)/\True)))))/\∀z:Nat,z<=bY x.L/\OZ z x->bS z (eC x.y.lv) (pS x.y z (fun s=>x.H s) fun s g=>Exists (jO (aL g s) 4 (fun t=>x.H t) fun t m=>∃u:OV,aL m t=u.rv/\x.p=u.p/\x.H=u.H/\OW u/\∀w:Nat,Dq w u w->aK (JQ w u) (Exists (jO (aL g s) 4 (fun v=>x.H v) fun v n=>ku (aL n v) (ag w) fun o q=>∃h i:Nat,pv o (q+aG w*2)=pv h i/\w9 h i 1 (fun f=>x.H f) fun f r=>FH (aL r f) (Exists (JA (aj (zm x)) 0 (Hl (jR x.L.l x.p)))) x.H fun j c=>gq 0 j 1 0 fun d=>∃k:Nat,dF (0+j) (aj (zm x)) d k ((0:Int)=Hl (jR x.L.l x.p)) 1 (vR c) (aa dA (zm x)) (bE (aj (zm x)) k))) (bQ z fun v=>mY x.y.lv (lB (az x.p/\nI x.L x.y (x.H=x.H/\dG v (bY x.L) (OZ v x) z)))))) (Exists (JA (aj (zm x)) 9 (Hl (jR x.L.l x.p))))) (by kernel_rfl) (by
 delta aK aL aO aj ai aA az nZ aG gq aN w9 nY pG gu aU bI aZ bY ag bD fF dG aq ku bQ cK dF Dq jO Dr aJ aC ah l8 aS aI FH zm bf pS iR aY ax mY OW uC bS JQ OY nH lB nI JA vR uF eu OZ AU bw bM bE oH
 try dsimp -iota -proj only
 rintro⟨H,y,L,p⟩ ⟨hl,h1,h2,h3,h4⟩;dsimp only at *;obtain⟨e1,_,⟨ea,ec,e2⟩,e3,_⟩:=hl.vS;refine⟨⟨ea,_,ec,e2,e3⟩,⟨0,?_⟩,fun k hk=>?_⟩
 ·grind
 ·obtain⟨hk1,hk2⟩:=hk;rw[e1];refine⟨fun c1=>?_,fun c1=>⟨0,?_⟩⟩
  ·have hk:k<L.l.length:=by have:=qi c1;omega
   obtain⟨b,lo,o,c,cs,g1,g2,g3,g4⟩:=hl.at_ hk;have hs:=hl.seg k hk;obtain⟨hso,hrl,hbl⟩:=h4 k hk;obtain⟨c9,hrec⟩:=hs.bn;obtain⟨m1,m2,m3,m4,m5,⟨ma,m7⟩,m6⟩:=iD hrec;rw[XN hk]at hk2;simp only[jR,List.findSome?_cons]at hk2;refine⟨_,_,_,_,g1,by omega,b,lo,o+k*1,cs,by grind,g2,⟨⟨_,g3,rfl⟩,trivial⟩,?_⟩;refine⟨_,_,g4,?_⟩;refine⟨_,_,rfl,?_⟩;refine⟨_,0,_,_,rfl,hs.cell,?_⟩;refine⟨⟨⟨_,rfl,m6⟩,trivial⟩,OV.mk H (gl y.ys k).rv (gl L.l k).bn (gl y.ys k).vs p,?_⟩
   and_intros<;>first|exact kG|rfl|exact⟨c9,hrec⟩|exact hso|skip
   rintro n ⟨n1,n2,n3⟩;dsimp only at n1 n2 n3 ⊢;refine⟨fun c2=>?_,fun c2=>⟨by simp only[bZ];omega,k+1,?_⟩⟩
   ·simp only[jB,tB]at c2;obtain⟨c2,c3⟩:=c2;have hfind:Cv (gl L.l k).bn p=some (gl (gl L.l k).bn n).body:=by
     unfold Cv;rw[XP (q:=fun(r:RecM)=>decide (r.pos=p)) c2 (by simp[c3]) fun q hq=>by grind];rfl
    have hread:jR L.l p=some (gl (gl L.l k).bn n).body:=by
     rw[hfind]at hk2;simp only[jR];exact hk2.symm
    rw[hread];obtain⟨b',lo',o',cs',q1,q2,q3,q4,q5,q6,q7,q8⟩:=AV hrec (k:=n) c2;obtain⟨cb,hbody⟩:=hs.body n c2;obtain⟨w1,w2,w3,w4,w5,⟨wa,w7⟩,w6⟩:=iD hbody;obtain⟨hb1,hb2⟩:=hbl n c2;refine⟨_,_,g4,?_⟩;refine⟨_,_,rfl,?_⟩;refine⟨_,0,_,_,rfl,hs.cell,?_⟩;refine⟨⟨⟨_,rfl,m6⟩,trivial⟩,_,_,_,_,q1,by omega,_,_,rfl,b',lo',o'+n*2+1,cs',by grind,q2,⟨⟨_,q4,q5⟩,trivial⟩,?_⟩;rw[q8];have hnil:LZ ((gl y.ys k).vs.getD n undef)=false:=by
     rcases hbody with⟨_,h0,_⟩ | ⟨b9,lo9,o9,cs9,h9,_⟩
     ·omega
     ·rw[h9];rfl
    refine⟨⟨wa,_,_,w7⟩,fun c4=>absurd c4 (by grind),fun _=>?_⟩
    repeat(first|refine And.intro (by omega) ?_|refine And.intro (by omega) ?_|refine And.intro (by omega) ?_)
    refine⟨_,cb,_,hbody,?_⟩
    repeat(first|refine And.intro (by omega) ?_|refine And.intro (by omega) ?_|refine And.intro (by omega) ?_)
    intro cap u1 u2 u3;refine⟨cap,?_⟩;have hrw:af (gl (gl L.l k).bn n).body.length 1 (bq (aV 1 []) 0 0 (aa dA (gl (gl L.l k).bn n).body)) (aa dA (gl (gl L.l k).bn n).body):=⟨fun i hi j hj=>by
     simp only[bq,uh,if_false,LL]⟩
    simp only[mA,Option.getD_some,Hl]
    grind
   ·have hnone:Cv (gl L.l k).bn p=none:=by
     unfold Cv;rw[agS (q:=fun(r:RecM)=>decide (r.pos=p)) fun q hq=>?_]
     ·rfl
     ·simp only[decide_eq_false_iff_not];intro e;rcases zBn q n with hqn|hqn
      ·grind
      ·by_cases hqe:q=n
       ·grind
       ·have:=hso.lt n q (by omega) hq
        grind
    rw[hnone]at hk2
    and_intros<;>first|exact kG|exact hk2
  ·have hkn:k=L.l.length:=by have:=ug c1;omega
   subst hkn;rw[List.drop_length]at hk2;have:jR L.l p=none:=hk2.symm;rw[this]
   and_intros<;>first|exact kG|rfl)
def mE(l:List cQ)(next:Int):Int:=match l.find? (fun g=>decide (0<g.bn.length))with|some g=>(gl g.bn 0).pos|none=>next
structure Mb where
 H:PH
 y:jD
 L:cn
def JR:cB where
 α:=Mb
 m:=3
 m':=3
 pre:=fun a=>cV a.H a.y a.L/\a.L.l.length<1000
 args:=fun a=>[.a (.ptr 0 0 0 0)]
 ro:=fun a=>[(0,js 2 a.L a.y.lv),(1,.dg a.H)]
 res:=fun a _=>.a (.int .i64 (mE a.L.l a.L.next))
def ajh(a:Mb):An:=.flat 4 Nat (fun s k=>s.int 12 k) (fun _ k=>k<=a.L.l.length/\mE (a.L.l.drop k) a.L.next=mE a.L.l a.L.next) (fun _ k=>a.L.l.length-k)
def xL(x y:Int):=ai x->Exists (bN (x=y))
def O0(y:Nat)(x:Mb):=mE (List.drop y x.L.l) x.L.next=mE x.L.l x.L.next
theorem Zy:fnBody (Y Tryz.prog) [] 164 JR fun a=>[(164,[ajh a],[])]:=fnBody.of (p :=
 ∀x:Mb,cV x.H x.y x.L/\bY x.L<1000->Exists (fF x.y.lv)/\(∃z:Nat,aS z (mY x.y.lv (bD (aJ (aM (xI x.L x.y (x.H=x.H/\(z<=bY x.L/\O0 z x)/\True)))))))/\∀z:Nat,z<=bY x.L/\O0 z x->bS z (eC x.y.lv) (pS x.y z (fun w=>x.H w) fun w t=>Exists (jO (aL t w) 4 (fun s=>x.H s) fun s i=>Dk (aL i s) (Exists (jO (aL t w) 4 (fun u=>x.H u) fun u j=>ku (aL j u) 0 fun k m=>∃f g:Nat,pv k (m+0)=pv f g/\pG f g 0 (fun v=>x.H v) (fun v=>mJ v) (fun v h=>True) fun v h=>xL (dR (aL h v)) (mE x.L.l x.L.next))) (bQ z fun u=>mY x.y.lv (bD (aJ (aM (xI x.L x.y (x.H=x.H/\dG u (bY x.L) (O0 u x) z)))))))) (xL x.L.next (mE x.L.l x.L.next))) (by kernel_rfl) (by
 delta aK aL aO ai az nZ aG aM aN w9 nY fB pG gu aU bI bN aZ bY ag bD fF dG aq ku bQ jO aJ aC ah aS aI aD bf pS aY mY bA xL bS O0 xI mJ Dk bw bM
 try dsimp -iota -proj only
 rintro⟨H,y,L⟩ ⟨hl,h1⟩;dsimp only at *;obtain⟨e1,_,⟨ea,ec,e2⟩,e3,_⟩:=hl.vS;refine⟨⟨ea,_,ec,e2,e3⟩,⟨0,?_⟩,fun k hk=>?_⟩
 ·grind
 ·obtain⟨hk1,hk2⟩:=hk;rw[e1];refine⟨fun c1=>?_,fun c1 _=>⟨(),?_⟩⟩
  ·have hk:k<L.l.length:=by have:=qi c1;omega
   obtain⟨b,lo,o,c,cs,g1,g2,g3,g4⟩:=hl.at_ hk;have hs:=hl.seg k hk;obtain⟨c9,hrec⟩:=hs.bn;obtain⟨m1,m2,m3,m4,m5,⟨ma,m7⟩,m6⟩:=iD hrec;rw[XN hk]at hk2;simp only[mE,zBS]at hk2;refine⟨_,_,_,_,g1,by omega,b,lo,o+k*1,cs,by grind,g2,⟨⟨_,g3,rfl⟩,trivial⟩,?_⟩;refine⟨_,_,g4,?_⟩;refine⟨_,_,rfl,?_⟩;refine⟨_,0,_,_,rfl,hs.cell,?_⟩;refine⟨⟨⟨_,rfl,m6⟩,trivial⟩,⟨ma,_,_,m7,by omega⟩,?_⟩;simp only[show(eH (gl L.l k) (gl y.ys k).bv (gl y.ys k).rv).getD 4 (Value.tuple #[])=(gl y.ys k).rv from rfl,m1];refine⟨fun c2=>?_,fun c2=>⟨by simp only[bZ];omega,k+1,?_⟩⟩
   ·have c2:0<(gl L.l k).bn.length:=by have:=qi c2;omega
    obtain⟨b',lo',o',cs',q1,q2,q3,q4,q5,q6,q7,q8⟩:=AV hrec (k:=0) c2;rw[zBg c2]at hk2;refine⟨_,_,g4,?_⟩;refine⟨_,_,rfl,?_⟩;refine⟨_,0,_,_,rfl,hs.cell,?_⟩;refine⟨⟨⟨_,rfl,m6⟩,trivial⟩,_,_,_,_,q1,by omega,_,_,rfl,b',lo',o',cs',rfl,q2,⟨⟨_,q3,_,rfl,q6⟩,trivial⟩,fun _=>⟨(),?_⟩⟩;have q7':cs'.getD o' (Value.tuple #[]) = .int .i64 (gl (gl L.l k).bn 0).pos:=q7;rw[q7']
    and_intros<;>first|exact kG|exact hk2
   ·have c2:¬0<(gl L.l k).bn.length:=by have:=ug c2;omega
    rw[Ml c2]at hk2
    and_intros<;>first|exact kG|exact hk2
  ·have hkn:k=L.l.length:=by have:=ug c1;omega
   subst hkn;rw[List.drop_length]at hk2
   and_intros<;>first|exact kG|exact hk2)
theorem Zz:av (Y Tryz.prog).G.X 213 Ve:=bp gf Zx ⟨agR,trivial⟩
theorem FI:av (Y Tryz.prog).G.X 164 JR:=bp gf Zy trivial
def gB(f:Nat->Int)(r len:Nat):Int:=mF (fun k=>f (r+k)) len
def uG(i:Nat):Nat:=if i=0 then 22 else 16
def p8(g:cQ)(i:Nat)(f:Nat->Int):cQ:=if i=0 then { g with gen:=uw .i64 (gB f 4 6),base:=uw .i64 (gB f 16 6) }else g
def iz(g:cQ)(i:Nat)(f:Nat->Int):Bool :=
 (p6 f == gB f 0 4)&&((uw .i64 (gB f 4 6) == (p8 g i f).gen)&&(!decide (uw .i64 (gB f 10 4)<g.run)&&((f 14 == (i:Int))&&(decide (f 15<=kH i)&&decide (g.buf.length=bh i)))))
def kS(g:cQ)(i:Nat)(f:Nat->Int):cQ :=
 if iz g i f then { p8 g i f with run:=uw .i64 (gB f 10 4),buf:=g.buf++(List.range (f 15).toNat).map fun k=>f (uG i+k) }else p8 g i f
theorem zn{X:PH}{g':cQ}(h:ji X y g)(hb:g'.buf=g.buf)(hr:g'.bn=g.bn)(hg:bZ .i64 g'.gen/\bZ .i64 g'.base/\bZ .i64 g'.run) :
 ji (bB X y.b 0 (eH g' y.bv y.rv)) y g'/\Fr X y (bB X y.b 0 (eH g' y.bv y.rv)) y:=by
 obtain⟨⟨n1,n2,n3⟩,_⟩:=JL.1 h.nd;refine⟨⟨⟨fJ ..,hg,?_,?_,by grind [h.at_.len],fun i hi=>?_⟩,h.nd⟩,fun x hx hn=>⟨dM fun e=>hn (by rw[e];exact List.mem_cons_self),hn⟩⟩
 ·rw[hb];exact h.at_.buf.frame fun x hx=>dM fun e=>n1 (by grind)
 ·rw[hr];obtain⟨c,hc⟩:=h.at_.bn;exact⟨c,l7 hc fun x hx=>dM fun e=>n2 (by grind)⟩
 ·rw[hr]at hi ⊢;refine(h.at_.body i hi).frame fun x hx=>dM fun e=>n3 ?_
  grind [h.at_.len]
structure Ek where
 H:PH
 y:rC
 g:cQ
 i:Nat
 f:Nat->Int
 cap:Nat
structure Ho where
 H:PH
 y:rC
def acQ:cB where
 α:=Ek
 β:=Ho
 m:=2
 m':=3
 pre:=fun a=>ji a.H a.y a.g/\a.i<8/\a.g.buf.length<=378/\64<=a.cap/\(iz a.g a.i a.f=true->0<a.f 15)
 args:=fun a=>[.a (.val (pv a.y.b 0)),.a (.int .i64 a.i),.a (.slc 1 0 1 64 a.cap)]
 hp:=fun a=>[(0,.dg a.H)]
 ro:=fun a=>[(1,.arr 5 [.int .u8] 64 (cG a.f))]
 post:=fun a b=>ji b.H b.y (kS a.g a.i a.f)/\b.y.b=a.y.b/\b.y.rv=a.y.rv/\Fr a.H a.y b.H b.y
 res:=fun a _=>.a (.bool (iz a.g a.i a.f))
 eV:=fun _ b=>[(2,.dg b.H)]
def S.dg(s:S)(H:PH):S:=(s.put (s.hp.del (SF s))).new (.dg H)
def aji(a:Ek):An:=.mk 5 PH (fun s H=>S.dg (s.set 7 (.a (.slc (s.tg 2) (uG a.i) 1 (kH a.i) (a.cap-uG a.i)))) H) (fun _ H=>ji H a.y (p8 a.g a.i a.f)/\Fr a.H a.y H a.y) (fun _ _=>0) fun _=>.mk 1000 [] []
def xh(x:As):Int:=sK (sI x x.len)
def O1(z:Ho)(x:Ek):=ji z.H z.y (kS x.g x.i x.f)/\z.y.b=x.y.b/\z.y.rv=x.y.rv/\Fr x.H x.y z.H z.y
def AX(z:Bool)(x:Ek)(u:PH):Ho->Prop:=fun(y:Ho)=>z=iz x.g x.i x.f/\u=y.H/\O1 y x/\True
def vZ(y z u v:Nat)(w:Nat->Int)(s:As->Prop):=∃x:As,(y=x.r/\z=x.len/\u-v=x.cap)/\aA x.n 64 1 (cG w) x.rows/\(x.r+x.len<=x.n/\x.len<=8)/\aP (s x)
def Ds(y:Nat)(z:List Value)(x:As):List Value:=uD y z (gm (xh x)) (List.length (gm (xh x)))
def Vf(u:Nat)(x:Ek)(v w s:Nat)(t:PH):PH->Prop:=fun(z:PH)=>(u=uG x.i/\v=kH x.i/\w-s=x.cap-uG x.i)/\bD (gu (pv x.y.b 0)/\bf x.i/\aQ 64 x.cap/\t=z/\cE 64 1 (cG x.f)/\(ji z x.y (p8 x.g x.i x.f)/\Fr x.H x.y z x.y)/\True)
def O2(x:Ek):=ji x.H x.y x.g/\x.i<8/\aj x.g.buf<=378/\64<=x.cap/\(aq (iz x.g x.i x.f)->(0:Int)<x.f 15)
theorem acR:fnBody (Y Tryz.prog) [(230,Jy),(203,Zo)] 231 acQ fun a=>[(231,[],[aji a])]:=fnBody.of (p :=
 ∀x:Ek,O2 x->cO 16 64/\aK (ag x.i == (0:Int)) (fm 10 x.cap/\cO 4 10/\fm 6 (x.cap-16)/\vZ 4 6 x.cap 4 x.f fun z=>vZ 16 6 (x.cap-16) 0 x.f fun c=>vX (pv x.y.b 0) 0 (fun u=>x.H u) (A.int .i64 (xh z)) fun u w s v=>vX (pv x.y.b 0) 1 (fun t=>bB x.H u w (Ds s v z) t) (A.int .i64 (xh c)) fun t m h n=>cO 6 48/\Exists (Vf 22 x 42 (x.cap-16) 6 (bB (bB x.H u w (Ds s v z)) t m (Ds h n c)))) (Exists (Vf 16 x 48 x.cap 16 x.H))/\∀z:PH,ji z x.y (p8 x.g x.i x.f)/\Fr x.H x.y z x.y->fm 14 x.cap/\cO 10 14/\vZ 10 4 x.cap 10 x.f fun u=>cO 4 64/\fm 4 x.cap/\Exists (Dg (x.cap-4) 64 (cG x.f) fun w=>vZ 0 4 x.cap 0 x.f fun s=>aK (xD w w.len != sI s s.len) (Exists (AX false x z)) (fm 10 x.cap/\cO 4 10/\Exists (jP (pv x.y.b 0) 0 (fun v=>z v) fun v t=>vZ 4 6 x.cap 4 x.f fun m=>aK (xh m != dR (aL t v)) (Exists (AX false x z)) (Exists (jP (pv x.y.b 0) 2 (fun h=>z h) fun h n=>aI (xh u) (dR (aL n h)) (Exists (AX false x z)) (aZ 14 64/\14<64/\(lz (x.f 14)->aK (x.f 14 != ag x.i) (Exists (AX false x z)) (aZ 15 64/\15<64/\(lz (x.f 15)->aI (ag (kH x.i)) (x.f 15) (Exists (AX false x z)) (Exists (jO (pv x.y.b 0) 3 (fun k=>z k) fun k d=>Exists (fF (aL d k))/\uz (ag x.i*(48:Int)) 6 (aK (ag (eC (aL d k)) != qQ true 0 (ag x.i*(48:Int)-6)) (Exists (AX false x z)) (vX (pv x.y.b 0) 2 (fun j=>z j) (A.int .i64 (xh u)) fun j o p q=>Exists (jO (pv x.y.b 0) 3 (fun l=>bB z j o (Ds p q u) l) fun l e=>aZ 15 64 /\
 15<64/\(lz (x.f 15)->fm (x.f 15) (x.cap-uG x.i)/\Exists (OU z j o (Ds p q u) (aL e l) (uG x.i+0) (aC (x.f 15)-0) 64 (fun r B=>jm (x.f (uG x.i+0+r))) (pv x.y.b 0) fun r B C D E F G I J=>Exists (AX true x (bB (bB (bu (bB z j o (Ds p q u)) (aL e l)) C D E) F G (nr I J C D r (aC (x.f 15)-0) B)))))))))))))))))))) (by kernel_rfl) (by
 delta cE aK aQ aL aO aj ai aA az nZ cI nr gq aN nY fB bK gu SH aU tO qQ fm aP aZ ag bD xh fF aq AX jP OU jO jm aC vZ bW ah l8 vX Ds aI vU xD cO bf ax sI gm Vf Dg lz nH uz O2 uD O1 eu mJ y7 sK
 try dsimp -iota -proj only
 rintro⟨H,y,g,i,f,cap⟩ ⟨hs,hi,hlen,hcap,hpos⟩;dsimp only at *;have eG:∀r len,mF (fun i=>u8 (cG f) (r+i)) len=gB f r len:=fun _ _=>rfl;have eS:eW .xor .u32 4294967295 (vQ (fun i=>u8 (cG f) (4+i)) 60)=p6 f:=rfl;obtain⟨rg1,rg2,rg3⟩:=hs.at_.AA
 repeat refine clE ?_
 refine⟨⟨fun c1=>?_,fun c1=>?_⟩,?_⟩
 ·have hi0:i=0:=by simpa using c1
  subst hi0
  repeat(first|refine And.intro (by omega) ?_|refine And.intro (by omega) ?_|refine And.intro (by omega) ?_)
  refine⟨As.mk 4 6 (cap-4) 64 (cG f),?_⟩
  and_intros<;>first|exact kG|skip
  intro _ _;refine⟨As.mk 16 6 (cap-16-0) 64 (cG f),?_⟩
  and_intros<;>first|exact kG|skip
  intro _ _;dsimp only;simp only[eG];have s1:=zn (g':={ g with gen:=uw .i64 (gB f 4 6) }) hs rfl rfl ⟨yM _ _,rg2,rg3⟩;have s2:=zn (g':={ g with gen:=uw .i64 (gB f 4 6),base:=uw .i64 (gB f 16 6) }) s1.1 rfl rfl ⟨yM _ _,yM _ _,rg3⟩;refine⟨_,_,rfl,?_⟩;refine⟨_,_,rfl,?_⟩;refine⟨_,0,_,_,rfl,hs.at_.cell,by simp[eH],?_⟩;refine⟨_,_,rfl,?_⟩;refine⟨_,_,rfl,?_⟩;refine⟨_,0,_,_,rfl,s1.1.at_.cell,by simp[eH],?_⟩
  repeat(first|refine And.intro (by omega) ?_|refine And.intro (by omega) ?_|refine And.intro (by omega) ?_)
  refine⟨bB (bB H y.b 0 (eH { g with gen:=uw .i64 (gB f 4 6) } y.bv y.rv)) y.b 0 (eH { g with gen:=uw .i64 (gB f 4 6),base:=uw .i64 (gB f 16 6) } y.bv y.rv),?_⟩
  and_intros<;>first|exact kG|exact s2.1|exact s1.2.trans s2.2|rfl|(simp only[uG,if_true];omega)|skip
 ·have hi0:i≠0:=by simpa using c1
  refine⟨H,?_⟩;have hg:p8 g i f=g:=if_neg hi0;rw[hg]
  and_intros<;>first|exact kG|exact hs|exact fun x _ hn=>⟨rfl,hn⟩|grind [uG,kH]|skip
 ·rintro X ⟨hX,hfr⟩;obtain⟨g1,hg1⟩:∃g1,g1=p8 g i f:=⟨_,rfl⟩
  have eb:g1.buf=g.buf:=by rw[hg1];unfold p8;split<;>rfl
  have er:g1.run=g.run:=by rw[hg1];unfold p8;split<;>rfl
  rw[<- hg1]at hX;obtain⟨rx1,rx2,rx3⟩:=hX.at_.AA;obtain⟨b1,b2,b3,b4,⟨ba,bc,b5⟩,b6⟩:=hX.at_.buf.len;have hcell:=hX.at_.cell
  repeat(first|refine And.intro (by omega) ?_|refine And.intro (by omega) ?_|refine And.intro (by omega) ?_)
  refine⟨As.mk 10 4 (cap-10) 64 (cG f),?_⟩
  and_intros<;>first|exact kG|skip
  intro _ _;dsimp only;simp only[eG]
  repeat(first|refine And.intro (by omega) ?_|refine And.intro (by omega) ?_|refine And.intro (by omega) ?_)
  refine⟨C3.mk 1 4 60 (cap-4) 64 (cG f),?_⟩
  and_intros<;>first|exact kG|skip
  intro _ _;refine⟨As.mk 0 4 (cap-0) 64 (cG f),?_⟩
  and_intros<;>first|exact kG|skip
  intro _ _;dsimp only;simp only[eG,eS];refine⟨fun c1=>?_,fun c1=>?_⟩
  ·have hF:iz g i f=false:=by
    unfold iz;rw[<- hg1];have:(p6 f == gB f 0 4)=false:=by simpa using c1
    rw[this];rfl
   refine⟨⟨X,y⟩,?_⟩
   grind [kS]
  ·have k1:(p6 f == gB f 0 4)=true:=by simpa using c1
   repeat(first|refine And.intro (by omega) ?_|refine And.intro (by omega) ?_|refine And.intro (by omega) ?_)
   refine⟨_,_,rfl,?_⟩;refine⟨_,_,rfl,?_⟩;refine⟨_,0,_,_,rfl,hcell,?_⟩;refine⟨⟨⟨_,rfl,_,rfl,rx1⟩,trivial⟩,fun _=>⟨As.mk 4 6 (cap-4) 64 (cG f),?_⟩⟩
   and_intros<;>first|exact kG|skip
   intro _ _;dsimp only;simp only[eG,eH,G3,dR];refine⟨fun c2=>?_,fun c2=>?_⟩
   ·have hF:iz g i f=false:=by
     unfold iz;rw[<- hg1];have:(uw .i64 (gB f 4 6) == g1.gen)=false:=by simpa using c2
     rw[this,Bool.false_and,RP]
    refine⟨⟨X,y⟩,?_⟩
    grind [kS]
   ·have k2:(uw .i64 (gB f 4 6) == g1.gen)=true:=by simpa using c2
    refine⟨_,_,rfl,?_⟩;refine⟨_,_,rfl,?_⟩;refine⟨_,0,_,_,rfl,hcell,?_⟩;refine⟨⟨⟨_,rfl,_,rfl,rx3⟩,trivial⟩,fun _=>?_⟩;simp only[eH,G3,zBq,dR];refine⟨fun c3=>?_,fun c3=>?_⟩
    ·have hF:iz g i f=false:=by
      unfold iz;rw[<- hg1];rw[<- er,c3,k1,k2];simp
     refine⟨⟨X,y⟩,?_⟩
     grind [kS]
    ·repeat(first|refine And.intro (by omega) ?_|refine And.intro (by omega) ?_|refine And.intro (by omega) ?_)
     intro rg14;refine⟨fun c4=>?_,fun c4=>?_⟩
     ·have hF:iz g i f=false:=by
       unfold iz;rw[<- hg1];have:(f 14 == (i:Int))=false:=by simpa using c4
       rw[this,Bool.false_and,RP,RP,RP]
      refine⟨⟨X,y⟩,?_⟩
      grind [kS]
     ·have k4:(f 14 == (i:Int))=true:=by simpa using c4
      repeat(first|refine And.intro (by omega) ?_|refine And.intro (by omega) ?_|refine And.intro (by omega) ?_)
      intro rg15;refine⟨fun c5=>?_,fun c5=>?_⟩
      ·have hF:iz g i f=false:=by
        unfold iz;rw[<- hg1];have c5:=qi c5;have:decide (f 15<=kH i)=false:=by simp;omega
        rw[this,Bool.false_and,RP,RP,RP,RP]
       refine⟨⟨X,y⟩,?_⟩
       grind [kS]
      ·have k5:decide (f 15<=kH i)=true:=by have:=ug c5;simp;omega
       refine⟨_,_,rfl,?_⟩;refine⟨_,_,rfl,?_⟩;refine⟨_,0,_,_,rfl,hcell,?_⟩;refine⟨⟨⟨_,rfl,b6⟩,trivial⟩,⟨ba,_,bc,b5,b3⟩,?_⟩
       repeat refine clE ?_
       simp only[eH,G3,zBq,b1];have em2:(bif true then max 0 ((i:Int)*48-6)else min 0 ((i:Int)*48-6))=(bh i:Nat):=by simp only[iU,bh];omega
       rw[em2];refine⟨fun c6=>?_,fun c6=>?_⟩
       ·have hF:iz g i f=false:=by
         unfold iz;rw[<- hg1];have c6:g1.buf.length≠bh i:=by intro e;rw[e]at c6;simp at c6
         have:decide (g.buf.length=bh i)=false:=by rw[<- eb];simpa using c6
         rw[this,RP,RP,RP,RP,RP]
        refine⟨⟨X,y⟩,?_⟩
        grind [kS]
       ·have k6:g1.buf.length=bh i:=by
         have:(g1.buf.length:Int)=(bh i:Nat):=by simpa using c6
         omega
        have hT:iz g i f=true:=by
         unfold iz;rw[<- hg1,k1,k2,<- er,c3,k4,k5,<- eb,k6];simp
        have s1:=zn (g':={ g1 with run:=uw .i64 (gB f 10 4) }) hX rfl rfl ⟨rx1,rx2,yM _ _⟩;obtain⟨X1,hX1⟩:∃X1,X1=bB X y.b 0 (eH { g1 with run:=uw .i64 (gB f 10 4) } y.bv y.rv):=⟨_,rfl⟩
        rw[<- hX1]at s1;have hf15:(f 15).toNat<=kH i:=by have:=qi k5;omega
        have hroom:uG i+kH i=64:=by unfold uG kH;split<;>rfl
        have hroom2:kH i<=48:=by unfold kH;split<;>omega
        refine⟨_,_,rfl,?_⟩;refine⟨_,_,rfl,?_⟩;refine⟨_,0,_,_,rfl,hcell,by simp[eH],?_⟩;simp only[show bB X y.b 0 (List.take 2 (eH g1 y.bv y.rv)++[Value.int .i64 (uw .i64 (gB f 10 4))]++List.drop (2+[Value.int .i64 (uw .i64 (gB f 10 4))].length) (eH g1 y.bv y.rv))=X1 from hX1.symm];refine⟨_,_,rfl,?_⟩;refine⟨_,_,rfl,?_⟩;refine⟨_,0,_,_,rfl,s1.1.at_.cell,?_⟩;refine⟨⟨⟨_,rfl,b6⟩,trivial⟩,?_⟩
        repeat(first|refine And.intro (by omega) ?_|refine And.intro (by omega) ?_|refine And.intro (by omega) ?_)
        intro _;obtain⟨c0,hbuf⟩:=s1.1.at_.buf;simp only[bZ]at rg15;have hp15:=hpos hT;simp only[show(eH { g1 with run:=uw .i64 (gB f 10 4) } y.bv y.rv).getD 3 (Value.tuple #[])=y.bv from rfl]
        repeat(first|refine And.intro (by omega) ?_|refine And.intro (by omega) ?_|refine And.intro (by omega) ?_)
        refine⟨_,c0,_,hbuf,?_⟩;dsimp only;rw[eb]
        repeat(first|refine And.intro (by omega) ?_|refine And.intro (by omega) ?_|refine And.intro (by omega) ?_)
        intro cap1 q1 q2 q3
        repeat(first|refine And.intro (by omega) ?_|refine And.intro (by omega) ?_|refine And.intro (by omega) ?_)
        intro p1 lo1 cs1 hp1 hl1 hr1;have hB:Step X1 y.bv (bB (bu X1 y.bv) p1 lo1 cs1) (iK p1 lo1 (g.buf.length+((f 15).toNat-0)) cap1):=ym hp1;have hlb:(g.buf++(List.range (f 15).toNat).map fun k=>f (uG i+k)).length=g.buf.length+((f 15).toNat-0):=by simp
        have hBy:iV (bB (bu X1 y.bv) p1 lo1 cs1) (iK p1 lo1 (g.buf.length+((f 15).toNat-0)) cap1) (g.buf++(List.range (f 15).toNat).map fun k=>f (uG i+k)):=by
         refine⟨cap1,?_⟩;rw[hlb];refine rF hl1 q1 q2 hr1 fun k hk j hj=>?_;have hj0:j=0:=by simpa using hj
         subst hj0;simp only[mA,bq,aa,dA,G3];by_cases hin:k<g.buf.length
         ·grind [cu]
         ·rw[if_neg hin];obtain⟨m,rfl⟩:∃m,k=g.buf.length+m:=⟨k-g.buf.length,by omega⟩
          rw[bt,zBB];have:gl ((List.range (f 15).toNat).map fun k=>f (uG i+k)) m=f (uG i+m):=by
           rw[b8 (by simp;omega)];simp
          grind
        obtain⟨hc2,hs3,hf3⟩:=Dl s1.1 hB hBy;refine⟨_,_,rfl,?_⟩;refine⟨_,_,rfl,?_⟩;refine⟨_,0,_,_,rfl,hc2,by simp[eH],?_⟩;have hM:kS g i f={ g1 with run:=uw .i64 (gB f 10 4),buf:=g.buf++(List.range (f 15).toNat).map fun k=>f (uG i+k) }:=by
         unfold kS;rw[if_pos hT,<- hg1]
        refine⟨⟨bB (bB (bu X1 y.bv) p1 lo1 cs1) y.b 0 (eH { g1 with run:=uw .i64 (gB f 10 4),buf:=g.buf++(List.range (f 15).toNat).map fun k=>f (uG i+k) } (iK p1 lo1 (g.buf.length+((f 15).toNat-0)) cap1) y.rv),{ y with bv:=iK p1 lo1 (g.buf.length+((f 15).toNat-0)) cap1 }⟩,?_⟩;rw[hT,hM];refine And.intro (by grind) (And.intro rfl (And.intro ⟨hs3,rfl,rfl,?_⟩ trivial));exact(hfr.trans s1.2).trans hf3)
theorem acS:av (Y Tryz.prog).G.X 231 acQ:=bp gf acR ⟨Il,Ij,trivial⟩
structure Cw where
 H:PH
 v:Value
 len:Nat
 c:Nat
 rows:Nat->Nat->Value
def acT:cB where
 α:=Cw
 m:=1
 m':=1
 pre:=fun a=>oo a.H a.v [.int .u8] a.len a.c a.rows/\a.len<=8
 args:=fun a=>[.a (.val a.v)]
 ro:=fun a=>[(0,.dg a.H)]
 res:=fun a _=>.a (.int .u64 (mF (fun i=>u8 a.rows i) a.len))
def akN(a:Cw):An:=.flat 3 Nat (fun s k=>(s.set 3 (.a (.int .u64 (mF (fun i=>u8 a.rows i) k)))).int 8 k) (fun _ k=>k<=a.len) (fun _ k=>a.len-k)
def AY(x:Cw)(y:Nat):Int:=mF (fun z=>u8 x.rows z) y
theorem acU:fnBody (Y Tryz.prog) [] 230 acT fun a=>[(230,[akN a],[])]:=fnBody.of (p :=
 ∀x:Cw,oo x.H x.v l8 x.len x.c x.rows/\x.len<=8->Exists (fF x.v)/\(∃y:Nat,aS y ((0:Int)=AY x y/\mY x.v (aJ (gu x.v/\x.H=x.H/\bE y x.len))))/\∀y:Nat,y<=x.len->bS y (eC x.v) (ku x.v (ag y) fun s t=>pG s t (aG y*1) (fun z=>x.H z) (fun z=>∃u:Int,z=jm u/\lz u) (fun z u=>True) fun z u=>lz (dR (aL u z))->(0:Int)<=8/\bQ y fun w=>eW .or .u64 (dI (AY x y*(256:Int))) (dR (aL u z))=AY x w/\mY x.v (aJ (gu x.v/\x.H=x.H/\bL w x.len y))) (Exists (bN (AY x y=AY x x.len)))) (by kernel_rfl) (by
 delta aK aL ai az aG aN pG gu aU bI bN aZ ag fF bL aq ku bQ jm dI aJ aC l8 aS aI aD bf aY mY bA lz bS AY bw bM bE
 try dsimp -iota -proj only
 rintro⟨H,v,len,c,rows⟩ ⟨hs,h1⟩;dsimp only at *;obtain⟨e1,_,e3,e4,_,⟨ea,e2⟩,_⟩:=iD hs;refine⟨⟨ea,_,_,e2,by omega⟩,⟨0,?_⟩,fun k hk=>⟨fun c1=>?_,fun c1=>⟨(),?_⟩⟩⟩
 ·and_intros<;>first|exact kG|rfl
 ·rw[e1]at c1;have hk:k<len:=by have:=qi c1;omega
  rcases hs with⟨_,h0,_⟩ | ⟨b,lo,o,cs,g1,g2,g3,g4,g5⟩
  ·omega
  ·obtain⟨q1,m,q2,q3⟩:=g5.at_ k hk 0 (.int .u8) rfl;have q1:cs[o+k*1]? = some (rows k 0):=q1;have q4:cs.getD (o+k*1) (Value.tuple #[])=rows k 0:=by rw[LP,q1];rfl
   refine⟨_,_,_,_,g1,by omega,b,lo,o+k*1,cs,by grind,g3,⟨⟨_,q1,m,q2,q3⟩,trivial⟩,fun _=>?_⟩;rw[q4];refine⟨by omega,by simp only[bZ];omega,k+1,?_⟩
   and_intros<;>first|exact kG|rfl
 grind)
theorem acV:av (Y Tryz.prog).G.X 230 acT:=bp gf acU trivial
def HT(buf:List Int)(at_:Nat):Int:=uw .i64 (mF (fun k=>gl buf (at_+k)) 2)
def agT(buf:List Int)(at_:Nat):Int:=uw .i64 (mF (fun k=>gl buf (at_+2+k)) 6)
def v7(buf:List Int)(at_:Nat):Bool:=decide (at_+8<=buf.length)&&(decide (1<=HT buf at_)&&(decide (HT buf at_<=300)&&decide ((at_:Int)+8+HT buf at_<=buf.length)))
def recAt(buf:List Int)(at_:Nat):RecM:=⟨agT buf at_,(buf.drop (at_+8)).take (HT buf at_).toNat⟩
def gP(buf:List Int):Nat->Nat->List RecM×Nat
 |0,at_=>([],at_)
 |k+1,at_=>if v7 buf at_ then(recAt buf at_::(gP buf k (at_+8+(HT buf at_).toNat)).1,(gP buf k (at_+8+(HT buf at_).toNat)).2)else([],at_)
def yo(g:cQ):cQ:={ g with bn:=(gP g.buf 50 0).1,buf:=g.buf.take (gP g.buf 50 0).2 }
structure Af where
 H:PH
 y:rC
 g:cQ
def JS:cB where
 α:=Af
 β:=Ho
 m:=1
 m':=2
 pre:=fun a=>ji a.H a.y a.g/\a.g.buf.length<=378/\a.g.bn=[]
 args:=fun a=>[.a (.val (pv a.y.b 0))]
 hp:=fun a=>[(0,.dg a.H)]
 post:=fun a b=>ji b.H b.y (yo a.g)/\b.y.b=a.y.b/\Fr a.H a.y b.H b.y
 res:=fun _ _=>.nR []
 eV:=fun _ b=>[(1,.dg b.H)]
structure sr where
 H:PH
 y:rC
 rs:List RecM
 at_:Nat
 k:Nat
def akO(a:Af):An:=.flat 1 sr (fun s x=>S.dg (s.int 2 x.at_) x.H) (fun _ x=>ji x.H x.y { a.g with bn:=x.rs }/\x.y.b=a.y.b/\Fr a.H a.y x.H x.y/\x.at_<=a.g.buf.length/\a.g.buf.length<x.at_+9*x.k/\x.rs++(gP a.g.buf x.k x.at_).1=(gP a.g.buf 50 0).1/\(gP a.g.buf x.k x.at_).2=(gP a.g.buf 50 0).2/\x.rs.length*9<=x.at_) (fun _ x=>a.g.buf.length-x.at_)
def ajj(a:Af):An:=.mk 7 sr (fun s x=>S.dg (s.int 2 x.at_) x.H) (fun _ x=>ji x.H x.y { a.g with bn:=(gP a.g.buf 50 0).1 }/\x.y.b=a.y.b/\Fr a.H a.y x.H x.y/\x.at_<=a.g.buf.length/\x.at_=(gP a.g.buf 50 0).2) (fun _ _=>0) fun _=>.mk 1000 [] []
def Vg(z:sr)(x:Af)(u:List RecM)(v:Prop):=ji z.H z.y { gen:=x.g.gen,base:=x.g.base,run:=x.g.run,buf:=x.g.buf,bn:=u }/\z.y.b=x.y.b/\Fr x.H x.y z.H z.y/\z.at_<=aj x.g.buf/\v
def O3(x:sr)(y:Af):=Vg x y x.rs (aj y.g.buf<x.at_+9*x.k/\x.rs++(gP y.g.buf x.k x.at_).fst=(gP y.g.buf 50 0).fst/\(gP y.g.buf x.k x.at_).snd=(gP y.g.buf 50 0).snd/\x.rs.length*9<=x.at_)
def v8(x:Cw):Int:=sK (AY x x.len)
def Vh(y:sr)(x:Af):=Vg y x (gP x.g.buf 50 0).fst (y.at_=(gP x.g.buf 50 0).snd)
def Vi(x:Af)(f:PH)(h:List Value)(i z u:Nat)(j:List Value)(k l:Nat)(w:Cw)(s:sr):=vX (pv x.y.b 0) 4 (fun t=>bB (bu f (aL h i)) z u j t) (A.val (iK z u (k+1) l)) fun t m n o=>ai ((8:Int)+v8 w)/\ai (ag s.at_+((8:Int)+v8 w))/\∃v:sr,ag s.at_+((8:Int)+v8 w)=ag v.at_/\gu (pv x.y.b 0)/\bB (bB (bu f (aL h i)) z u j) t m (nr n o z u k 1 l)=v.H/\O3 v x/\bM (aj x.g.buf) v.at_ s.at_
def Vj(y:sr)(z:Int)(u:List Value)(w:Nat)(s:Int)(t:Nat)(f:Cw->Prop):=ai (ag y.at_+z)/\NS (aL u w)/\sL (ag y.at_+z) (nj (aL u w)) s (∃x:Cw,ze u w t (aC (ag y.at_+z))=x.v/\y.H=x.H/\(oo x.H x.v l8 x.len x.c x.rows/\x.len<=8)/\aP (f x))
def O4(z:sr)(u:Af):=∃x:sr,cm z.at_ x.at_/\gu (pv u.y.b 0)/\z.H=x.H/\Vh x u/\True
def AZ(z:Af)(u:Nat)(v:sr)(w:Nat->List Value->Prop):Nat->Prop:=jO (pv z.y.b 0) u (fun x=>v.H x) fun x s=>w x s
theorem SK:fnBody (Y Tryz.prog) [(230,acT)] 232 JS fun a=>[(232,[akO a],[ajj a])]:=fnBody.of (p :=
 ∀z:Af,ji z.H z.y z.g/\aj z.g.buf<=378/\z.g.bn=[]->((∃x:sr,aS x.at_ (gu (pv z.y.b 0)/\z.H=x.H/\O3 x z/\True))/\∀x:sr,O3 x z->Exists (AZ z 3 x fun w s=>Exists (fF (aL s w))/\zh (ag (eC (aL s w))-ag x.at_) 8 (Exists (AZ z 3 x fun t j=>Vj x 2 j t (ag x.at_) (aG x.at_) fun u=>Exists (AZ z 3 x fun k v=>ai (ag x.at_+(2:Int))/\Vj x 8 v k (ag x.at_+(2:Int)) (aC (ag x.at_+(2:Int))) fun d=>uE (v8 u) (O4 x z) 300 (Exists (AZ z 3 x fun l m=>Exists (fF (aL m l))/\uz (ag (eC (aL m l))-ag x.at_) 8 (aI (ag (eC (aL m l))-ag x.at_-(8:Int)) (v8 u) (O4 x z) (Exists (AZ z 4 x fun h i=>Exists (AZ z 3 x fun n o=>ai (ag x.at_+(8:Int))/\sM (ag x.at_+(8:Int)) (v8 u) (NS (aL o n)/\sL (ag x.at_+(8:Int)+v8 u) (nj (aL o n)) (ag x.at_+(8:Int)) (FH (ze o n (aC (ag x.at_+(8:Int))) (aC (ag x.at_+(8:Int)+v8 u))) (Cu x.H (aL i h) (CK.int .i64) uC 32 2 (cI (v8 d) (bW jd)) fun p q f r c=>Vi z x.H i h f r c p q u x) x.H fun p q=>FD p (fun f=>x.H f) q x.H (aL i h) (v8 d) fun f r c e B C D E=>Vi z (bB x.H f r c) i h C D E e B u x))))))))))) (O4 x z)))/\∀x:sr,Vh x z->Exists (AZ z 3 x fun w s=>NS (aL s w)/\fm (ag x.at_) (nj (aL s w)) /\
 vX (pv z.y.b 0) 3 (fun t=>x.H t) (A.val (ze s w 0 (aG x.at_))) fun t j u k=>∃v:Ho,bB x.H t j (SH u k (ze s w 0 (aG x.at_)))=v.H/\(ji v.H v.y (yo z.g)/\v.y.b=z.y.b/\Fr z.H z.y v.H v.y)/\True)) (by kernel_rfl) (by
 delta aK aL aj ai nZ cI aG nr gq aN nY cm fB gu SH aU fm aP jo ag Cu jF fF FD aq O3 bF v8 jO aC Vh jd bW l8 aS vX aI FH vU cO Vi sM Vj uC nH O4 ja uz sL AZ AY uD zh Vg eu AU bM uE ze sK
 try dsimp -iota -proj only
 rintro⟨H,y,g⟩ ⟨hs,hlen,hnil⟩;dsimp only at *;refine⟨⟨⟨⟨H,y,[],0,50⟩,?_⟩,?_⟩,?_⟩
 ·have hs':ji H y { g with bn:=[] }:=by rw[<- hnil];exact hs
  and_intros<;>first|exact kG|exact hs'|exact fun x _ hn=>⟨rfl,hn⟩|rfl|skip
 ·rintro⟨X,Y,rs,at_,k⟩ ⟨hX,hb,hfr,h1,h2,h3,h4,h5⟩;dsimp only at *;have hcell:X y.b=some (0,eH { g with bn:=rs } Y.bv Y.rv):=by rw[<- hb];exact hX.at_.cell
  obtain⟨b1,b2,b3,b4,⟨ba,bc,b5⟩,b6⟩:=hX.at_.buf.len;have b1:eC Y.bv=g.buf.length:=b1;have b4:g.buf.length<=nj Y.bv:=b4;have hbuf:iV X Y.bv g.buf:=hX.at_.buf;have pstop:v7 g.buf at_=false->rs=(gP g.buf 50 0).1/\at_=(gP g.buf 50 0).2:=fun hR=>by
   have:gP g.buf k at_=([],at_):=by
    cases k with
    |zero=>rfl
    |succ k=>grind [gP]
   grind
  have e3:(eH { g with bn:=rs } Y.bv Y.rv).getD 3 (Value.tuple #[])=Y.bv:=rfl;have e4:(eH { g with bn:=rs } Y.bv Y.rv).getD 4 (Value.tuple #[])=Y.rv:=rfl;have eN:mF (fun i=>u8 (fun i=>aa dA g.buf (at_+i)) i) 2=mF (fun k=>gl g.buf (at_+k)) 2:=rfl;have eP:mF (fun i=>u8 (fun i=>aa dA g.buf (at_+2+i)) i) 6=mF (fun k=>gl g.buf (at_+2+k)) 6:=rfl;refine⟨_,_,rfl,?_⟩;refine⟨_,_,rfl,?_⟩;refine⟨_,0,_,_,rfl,hcell,?_⟩;refine⟨⟨⟨_,rfl,b6⟩,trivial⟩,⟨ba,_,bc,b5,b3⟩,?_⟩;simp only[e3,b1];refine⟨by simp only[bZ];omega,fun c1=>?_,fun c1=>?_⟩
  ·have c1:at_+8<=g.buf.length:=by have:=qi c1;omega
   have w1:((at_:Int)+2).toNat=at_+2:=by omega
   have w2:((at_:Int)+8).toNat=at_+8:=by omega
   have cut1:=hbuf.cut (a:=at_) (e:=at_+2) (by omega) (by omega);rw[show at_+2-at_=2 by omega]at cut1;have cut2:=hbuf.cut (a:=at_+2) (e:=at_+8) (by omega) (by omega);rw[show at_+8-(at_+2)=6 by omega]at cut2;refine⟨_,_,rfl,?_⟩;refine⟨_,_,rfl,?_⟩;refine⟨_,0,_,_,rfl,hcell,?_⟩;refine⟨⟨⟨_,rfl,b6⟩,trivial⟩,?_⟩;simp only[e3,w1,Ay]
   repeat refine clE ?_
   refine⟨Cw.mk X (sk 1 Y.bv at_ (at_+2) (nj Y.bv)) 2 (nj Y.bv-at_) (fun i=>aa dA g.buf (at_+i)),rfl,rfl,⟨cut1,by grind⟩,fun _ _=>?_⟩;dsimp only;refine⟨_,_,rfl,?_⟩;refine⟨_,_,rfl,?_⟩;refine⟨_,0,_,_,rfl,hcell,?_⟩;refine⟨⟨⟨_,rfl,b6⟩,trivial⟩,?_⟩;simp only[e3,w1,w2,eN]
   repeat refine clE ?_
   refine⟨Cw.mk X (sk 1 Y.bv (at_+2) (at_+8) (nj Y.bv)) 6 (nj Y.bv-(at_+2)) (fun i=>aa dA g.buf (at_+2+i)),rfl,rfl,⟨cut2,by grind⟩,fun _ _=>?_⟩;dsimp only;simp only[eP];rw[show uw .i64 (mF (fun k=>gl g.buf (at_+k)) 2)=HT g.buf at_ from rfl,show uw .i64 (mF (fun k=>gl g.buf (at_+2+k)) 6)=agT g.buf at_ from rfl];obtain⟨N,hN⟩:∃N,N=HT g.buf at_:=⟨_,rfl⟩
   rw[<- hN];have hNr:bZ .i64 N:=by rw[hN];exact yM _ _
   refine⟨fun c2=>?_,fun c2=>⟨fun c3=>?_,fun c3=>?_⟩⟩
   ·have c2:=qi c2;refine⟨sr.mk X Y rs at_ 0,?_⟩
    grind [v7]
   ·have c3:=qi c3;refine⟨sr.mk X Y rs at_ 0,?_⟩
    grind [v7]
   ·have c2:=ug c2;have c3:=ug c3;refine⟨_,_,rfl,?_⟩;refine⟨_,_,rfl,?_⟩;refine⟨_,0,_,_,rfl,hcell,?_⟩;refine⟨⟨⟨_,rfl,b6⟩,trivial⟩,⟨ba,_,bc,b5,b3⟩,?_⟩;simp only[e3,b1]
    repeat refine clE ?_
    refine⟨fun c4=>?_,fun c4=>?_⟩
    ·have c4:=qi c4;refine⟨sr.mk X Y rs at_ 0,?_⟩;have hR:v7 g.buf at_=false:=by unfold v7;rw[<- hN,show decide ((at_:Int)+8+N<=g.buf.length)=false from Ml (by omega)];simp
     grind
    ·have c4:=ug c4;have hR:v7 g.buf at_=true:=by
      unfold v7;rw[<- hN];simp only[jB,tB];omega
     obtain⟨nn,rfl⟩:∃nn:Nat,N=nn:=⟨N.toNat,by omega⟩
     have w3:((at_:Int)+8+nn).toNat=at_+8+nn:=by omega
     obtain⟨c9,hrec⟩:=hX.at_.bn;have hrec:oo X Y.rv yl rs.length c9 (AO rs Y.vs):=hrec;obtain⟨m1,m2,m3,m4,m5,_,m6⟩:=iD hrec;have cut3:=hbuf.cut (a:=at_+8) (e:=at_+8+nn) (by omega) (by omega);rw[show at_+8+nn-(at_+8)=nn by omega]at cut3;obtain⟨_,_,_,_,_,⟨za,zs⟩,_⟩:=iD cut3;have hnz:LZ (sk 1 Y.bv (at_+8) (at_+8+nn) (nj Y.bv))=false:=by
      rcases cut3 with⟨_,h0,_⟩ | ⟨b9,lo9,o9,cs9,h9,_⟩
      ·omega
      ·rw[h9];rfl
     refine⟨_,_,rfl,?_⟩;refine⟨_,_,rfl,?_⟩;refine⟨_,0,_,_,rfl,hcell,?_⟩;refine⟨⟨⟨_,rfl,m6⟩,trivial⟩,?_⟩;refine⟨_,_,rfl,?_⟩;refine⟨_,_,rfl,?_⟩;refine⟨_,0,_,_,rfl,hcell,?_⟩;refine⟨⟨⟨_,rfl,b6⟩,trivial⟩,?_⟩;simp only[e3,e4,w2,w3]
     repeat refine clE ?_
     refine⟨⟨za,_,_,zs⟩,fun c5=>absurd c5 (by grind),fun _=>?_⟩
     repeat(first|refine And.intro (by omega) ?_|refine And.intro (by omega) ?_|refine And.intro (by omega) ?_)
     refine⟨_,_,_,cut3,?_⟩;simp only[mA]
     repeat(first|refine And.intro (by omega) ?_|refine And.intro (by omega) ?_|refine And.intro (by omega) ?_)
     intro cap3 u1 u2 u3
     repeat(first|refine And.intro (by omega) ?_|refine And.intro (by omega) ?_|refine And.intro (by omega) ?_)
     intro p3 lo3 cs3 hp3 hl3 hr3;obtain⟨r,hr⟩:∃r,r=recAt g.buf at_:=⟨_,rfl⟩
     have hrb:r.body.length=nn:=by
      rw[hr];simp only[recAt,<- hN];simp;omega
     have hC:Step X (.slice none 0 0) (bB X p3 lo3 cs3) (iK p3 lo3 nn cap3):=SE hp3;have hCb:iV (bB X p3 lo3 cs3) (iK p3 lo3 nn cap3) r.body:=by
      refine⟨cap3,?_⟩;rw[hrb];refine rF hl3 u1 u2 hr3 fun i hi j hj=>?_;have hj0:j=0:=by simpa using hj
      subst hj0;simp only[bq,uh,if_false,LL,aa,dA,G3];have:gl r.body i=gl g.buf (at_+8+i):=by
       rw[hr];simp only[recAt,<- hN,gl];rw[LP,List.getElem?_take_of_lt (by simpa using hi),zBE,LP]
      rw[this]
     have hx3:∀x,X x≠none->x≠p3:=fun x hx e=>hx (by grind);have hrec4:oo (bB X p3 lo3 cs3) Y.rv yl rs.length c9 (AO rs Y.vs):=l7 hrec fun x hx=>dM (hx3 x (rD hrec x hx));refine⟨_,c9,_,hrec4,?_⟩
     repeat(first|refine And.intro (by omega) ?_|refine And.intro (by omega) ?_|refine And.intro (by omega) ?_)
     intro cap4 v1 v2 v3
     repeat(first|refine And.intro (by omega) ?_|refine And.intro (by omega) ?_|refine And.intro (by omega) ?_)
     intro p4 lo4 cs4 hp4 hl4 hr4;have hD:Step (bB X p3 lo3 cs3) Y.rv (bB (bu (bB X p3 lo3 cs3) Y.rv) p4 lo4 cs4) (iK p4 lo4 (rs.length+1) cap4):=ym hp4;have hvl:Y.vs.length=rs.length:=hX.at_.len;have hr5:oo (bB (bu (bB X p3 lo3 cs3) Y.rv) p4 lo4 cs4) (iK p4 lo4 (rs.length+1) cap4) yl (rs.length+1) cap4 (AO (rs++[r]) (Y.vs++[iK p3 lo3 nn cap3])):=by
      refine rF hl4 v1 v2 hr4 fun i hi j hj=>?_;simp only[bq,AO,mA];by_cases hin:i<rs.length
      ·grind [cu]
      ·rw[if_neg hin];obtain rfl:i=rs.length:=by omega
       rw[zBr];have hj2:j<2:=hj
       match j,hj2 with
       |0,_=>rw[if_pos rfl,show rs.length=rs.length+0 from rfl,bt,hr];rfl
       |1,_=>rw[if_neg (by decide),LP,zAQ (by omega),hvl,zBr];rfl
     obtain⟨hcell4,hcell5,hnd6,hfr6⟩:=Hi (r:=r) hX hC hCb hD (fun x hx=>by
      grind [iW,iK,fJ]) ⟨cap4,hr5⟩
     have hpk:∃k',k=k'+1:=by
      cases k with
      |zero=>omega
      |succ k=>grind
     obtain⟨k',rfl⟩:=hpk;have hps:gP g.buf (k'+1) at_=(r::(gP g.buf k' (at_+8+nn)).1,(gP g.buf k' (at_+8+nn)).2):=by
      have e:(HT g.buf at_).toNat=nn:=by rw[<- hN];rfl
      rw[hr];show(if v7 g.buf at_=true then _ else _)=_;rw[if_pos hR,e]
     rw[hps]at h3 h4;refine⟨_,_,rfl,?_⟩;refine⟨_,_,rfl,?_⟩;refine⟨_,0,_,_,rfl,by rw[<- hb];exact hcell5,by simp[eH],?_⟩
     repeat refine clE ?_
     refine⟨⟨bB (bB (bu (bB X p3 lo3 cs3) Y.rv) p4 lo4 cs4) Y.b 0 (eH { g with bn:=rs++[r] } Y.bv (iK p4 lo4 (rs.length+1) cap4)),⟨Y.b,Y.bv,iK p4 lo4 (rs.length+1) cap4,Y.vs++[iK p3 lo3 nn cap3]⟩,rs++[r],at_+8+nn,k'⟩,?_⟩;have hnd7:ji (bB (bB (bu (bB X p3 lo3 cs3) Y.rv) p4 lo4 cs4) Y.b 0 (eH { g with bn:=rs++[r] } Y.bv (iK p4 lo4 (rs.length+1) cap4))) ⟨Y.b,Y.bv,iK p4 lo4 (rs.length+1) cap4,Y.vs++[iK p3 lo3 nn cap3]⟩ { g with bn:=rs++[r] }:=hnd6;have h3':rs++[r]++(gP g.buf k' (at_+8+nn)).1=(gP g.buf 50 0).1:=by rw[<- h3,zAY];rfl
     dsimp only
     and_intros<;>first|exact kG|exact hnd7|exact hb|exact hfr.trans hfr6|exact h3'|exact h4|(rw[<- hb];rfl)|grind|skip
  ·have c1:=ug c1;refine⟨sr.mk X Y rs at_ 0,?_⟩;have hR:v7 g.buf at_=false:=by unfold v7;rw[show decide (at_+8<=g.buf.length)=false from Ml (by omega)];rfl
   grind
 ·rintro⟨X,Y,rs,at_,k⟩ ⟨hX,hb,hfr,h1,h2⟩;dsimp only at *;have hcell:X y.b=some (0,eH { g with bn:=(gP g.buf 50 0).1 } Y.bv Y.rv):=by rw[<- hb];exact hX.at_.cell
  obtain⟨b1,b2,b3,b4,⟨ba,bc,b5⟩,b6⟩:=hX.at_.buf.len;have b1:eC Y.bv=g.buf.length:=b1;have b4:g.buf.length<=nj Y.bv:=b4;have hbuf:iV X Y.bv g.buf:=hX.at_.buf;have e3:(eH { g with bn:=(gP g.buf 50 0).1 } Y.bv Y.rv).getD 3 (Value.tuple #[])=Y.bv:=rfl;refine⟨_,_,rfl,?_⟩;refine⟨_,_,rfl,?_⟩;refine⟨_,0,_,_,rfl,hcell,?_⟩;refine⟨⟨⟨_,rfl,b6⟩,trivial⟩,?_⟩;simp only[e3,Ay]
  repeat(first|refine And.intro (by omega) ?_|refine And.intro (by omega) ?_|refine And.intro (by omega) ?_)
  have hcut:=hbuf.cut (a:=0) (e:=at_) (by omega) h1;have hfpc:iW (sk 1 Y.bv 0 at_ (nj Y.bv))=iW Y.bv:=by
   obtain⟨c,hb⟩:=hbuf;rcases hb with⟨h0,_⟩ | ⟨b9,lo9,o9,cs9,h9,_⟩
   ·rw[h0];rfl
   ·rw[h9,Uh];rfl
  have hst:Step X Y.bv X (sk 1 Y.bv 0 at_ (nj Y.bv)):=fun x hx hn=>⟨rfl,by grind⟩
  have hby:iV X (sk 1 Y.bv 0 at_ (nj Y.bv)) (g.buf.take at_):=by
   refine⟨nj Y.bv-0,?_⟩;rw[show(g.buf.take at_).length=at_-0 by simp;omega];rcases hcut with h0 | ⟨b9,lo9,o9,cs9,g1,g2,g3,g4,g5⟩
   ·exact .inl h0
   ·refine .inr ⟨b9,lo9,o9,cs9,g1,g2,g3,g4,⟨fun i hi j q hj=>?_⟩⟩;have:=g5.at_ i hi j q hj;have e:aa dA g.buf (0+i) j=aa dA (g.buf.take at_) i j:=by
     unfold aa;rw[mA,XC (by omega)]
    grind
  obtain⟨hc2,hs3,hf3⟩:=Dl hX hst hby;refine⟨_,_,rfl,?_⟩;refine⟨_,_,rfl,?_⟩;refine⟨_,0,_,_,rfl,hcell,by simp[eH],?_⟩;refine⟨⟨bB X Y.b 0 (eH { g with bn:=(gP g.buf 50 0).1,buf:=g.buf.take at_ } (sk 1 Y.bv 0 at_ (nj Y.bv)) Y.rv),{ Y with bv:=sk 1 Y.bv 0 at_ (nj Y.bv) }⟩,?_⟩;have hM:yo g={ g with bn:=(gP g.buf 50 0).1,buf:=g.buf.take at_ }:=by unfold yo;rw[<- h2]
  rw[hM];refine And.intro (by rw[<- hb];rfl) (And.intro ⟨hs3,hb,hfr.trans hf3⟩ trivial))
theorem SL:av (Y Tryz.prog).G.X 232 JS:=bp gf SK ⟨acV,trivial⟩
end Go.Proofs.YtfjgoonelcaggaaGreat
namespace Go.Sx
section
def El(s:S)(K:S->Prop):Prop:=K ⟨s.nt,s.fr,⟨s.nx,true,.dg fun _=>none⟩::s.hp,s.nx+1,s.kp,s.rt⟩
theorem Vk:∀s K,El s K->xC s K:=by
 intro s K h w0 M ρ a w hs;have hl:=ρ.gY ⟨0,0,0,fun _=>False⟩;have hn:=hs.n;have hpl:(ρ.ext ⟨0,0,0,fun _=>False⟩).pl s.nx=⟨0,0,0,fun _=>False⟩:=by rw[<- hn];exact ρ.ew _
 refine⟨_,ρ.ext ⟨0,0,0,fun _=>False⟩,h,hl,⟨hs.defers,hs.size,by show ρ.n+1=s.nx+1;rw[hn],hs.frame.mono hl,?_⟩⟩;refine(hs.heap.mono hl).cons (e:=⟨s.nx,true,.dg fun _=>none⟩) ⟨by show s.nx<ρ.n+1;omega,?_,?_,?_⟩ fun x hx=>⟨?_,?_⟩
 ·intro b lo cs hb;cases hb
 ·rw[hpl];grind
 ·rw[hpl];grind
 ·have:=(hs.heap.jk x hx).tag
  grind
 ·rw[hpl];grind
def An.El(key:Nat)(next:LH):An:=.view key Sx.El Vk next
def A.MN:A->Bool
 |.ptr t _ _ _=>!Nat.beq t 0
 |.slc t _ _ _ _=>!Nat.beq t 0
 |.sub t _ _ _ _ _=>!Nat.beq t 0
 |_=>true
def CV.MN:CV->Bool
 |.a x=>x.MN
 |.agg xs=>xs.all A.MN
def SV.MN:SV->Bool
 |.a x=>x.MN
 |.agg xs=>xs.all A.MN
 |.nR xs=>xs.all CV.MN
 |.E0 _ xs=>xs.all A.MN
def Chunk.MN:Chunk->Bool
 |.obj _ cs=>cs.all A.MN
 |.Cd ..=>false
 |_=>true
structure Vl(ρ ρ':Env):Prop where
 n:ρ'.n=ρ.n
 pl:∀t,t≠0->ρ'.pl t=ρ.pl t
theorem ne0{t:Nat}(h:(!Nat.beq t 0)=true):t≠0:=by rintro rfl;simp at h
theorem A.cT.Au{ρ ρ':Env}(h:Vl ρ ρ'){x:A}(hx:x.MN=true){v:Value}(r:x.cT ρ v):x.cT ρ' v:=by
 cases x<;>simp only[A.cT,A.MN]at r hx ⊢<;>try exact r
 case ptr t _ _ _=>rw[h.n,h.pl t (ne0 hx)];exact r
 case slc t _ _ _ _=>rw[h.n,h.pl t (ne0 hx)];exact r
 case sub t _ _ _ _ _=>rw[h.n,h.pl t (ne0 hx)];exact r
theorem dw.Au{ρ ρ':Env}(h:Vl ρ ρ'):∀ {xs:List A} {vs:List Value},xs.all A.MN=true->dw ρ xs vs->dw ρ' xs vs
 |[],_,_,r=>r
 |x::xs,_,hx,⟨v,t,e,r1,r2⟩=>by
  simp only[List.all_cons,jB]at hx;exact⟨v,t,e,r1.Au h hx.1,dw.Au h hx.2 r2⟩
theorem CV.cT.Au{ρ ρ':Env}(h:Vl ρ ρ'):∀ {x:CV} {v:Value},x.MN=true->x.cT ρ v->x.cT ρ' v
 |.a _,_,hx,r=>A.cT.Au h hx r
 |.agg _,_,hx,⟨vs,e,r⟩=>⟨vs,e,dw.Au h hx r⟩
theorem vw.Au{ρ ρ':Env}(h:Vl ρ ρ'):∀ {xs:List CV} {vs:List Value},xs.all CV.MN=true->vw ρ xs vs->vw ρ' xs vs
 |[],_,_,r=>r
 |x::xs,_,hx,⟨v,t,e,r1,r2⟩=>by
  simp only[List.all_cons,jB]at hx;exact⟨v,t,e,r1.Au h hx.1,vw.Au h hx.2 r2⟩
theorem SV.cT.Au{ρ ρ':Env}(h:Vl ρ ρ'):∀ {x:SV} {v:Value},x.MN=true->x.cT ρ v->x.cT ρ' v
 |.a _,_,hx,r=>A.cT.Au h hx r
 |.agg _,_,hx,⟨vs,e,r⟩=>⟨vs,e,dw.Au h hx r⟩
 |.nR _,_,hx,⟨vs,e,r⟩=>⟨vs,e,vw.Au h hx r⟩
 |.E0 _ _,_,hx,⟨vs,e,r⟩=>⟨vs,e,dw.Au h hx r⟩
theorem Chunk.Sat.Au{ρ ρ':Env}(h:Vl ρ ρ'){p:Place}{w:World}{ch:Chunk}(hx:ch.MN=true)(r:ch.Sat ρ p w):ch.Sat ρ' p w:=by
 cases ch with
 |obj ty cs=>obtain⟨vs,fr,h1,h2,⟨us,xs,h5,h3⟩,h4⟩:=r;exact⟨vs,fr,h1,h2,⟨us,xs,h5,h3.Au h hx⟩,h4⟩
 |arr ty ks n rows=>exact r
 |abs R=>exact r
 |Cd ts tt tc cs R=>cases hx
 |dg H=>exact r
structure Sl1 where
 ty:Nat
 ks:List CK
 n:Nat
 cap:Nat
 rows:Nat->Nat->Value
structure V1(α:Type) where
 a:α
 H:PH
 v:Value
def cB.agU(C:cB)(sl:C.α->Sl1):cB where
 α:=V1 C.α
 β:=C.β
 m:=1
 m':=C.m'
 pre:=fun x=>C.pre x.a/\oo x.H x.v (sl x.a).ks (sl x.a).n (sl x.a).cap (sl x.a).rows
 args:=fun x=>[.a (.val x.v)]
 hp:=fun _=>[]
 ro:=fun x=>[(0,.dg x.H)]
 post:=fun x b=>C.post x.a b
 res:=fun x b=>C.res x.a b
 eV:=fun x b=>C.eV x.a b
structure amh(C:cB)(sl:C.α->Sl1):Prop where
 m:C.m=1
 hp:∀a,C.hp a=[]
 ro:∀a,C.ro a=[(0,.arr (sl a).ty (sl a).ks (sl a).n (sl a).rows)]
 args:∀a,C.args a=[.a (.slc 0 0 (sl a).ks.length (sl a).n (sl a).cap)]
 res:∀a b,(C.res a b).MN=true
 eV:∀a b,∀p∈C.eV a b,p.1≠0/\p.2.MN=true
theorem SM{X:Cx}{C:cB}{f:Nat}(hs:gN X C f){sl:C.α->Sl1}(hv:amh C sl):gN X (C.agU sl) f:=by
 rintro⟨a,H,v⟩ ⟨hpre,hsl⟩ M ρ w vs hn hh hargs;obtain⟨u,_,rfl,hu,rfl⟩:=hargs;obtain⟨rfl,_⟩:=hu;have hps:=(hh.jk ⟨0,false,.dg H⟩ (by simp[ql,EV,cB.agU])).ch;dsimp only at hpre hsl hps hn;obtain⟨p,hp1,hp2,hp3⟩:∃p:Place,(∀(ρ':Env),0<ρ'.n->ρ'.pl 0=p->(A.slc 0 0 (sl a).ks.length (sl a).n (sl a).cap).cT ρ' u)/\(∀ρ',(Chunk.arr (sl a).ty (sl a).ks (sl a).n (sl a).rows).Sat ρ' p w)/\∀b,p.fp b->b<w.heap.size:=by
  rcases hsl with⟨rfl,h0,h1⟩ | ⟨b,lo,o,cs,rfl,⟨hlc,hcm⟩,hH,hfit,hrows⟩
  ·exact⟨AI,fun ρ' h _=>⟨h,by omega,by omega,.inl ⟨h0,h1,rfl⟩⟩,fun ρ'=>.inl ⟨h0,rfl,fun b hb=>hb⟩,fun b hb=>hb.elim⟩
  ·obtain⟨hfp,vs,vty,fr,hb,hvl,hvs,hun⟩:=hps b lo cs hH;refine⟨⟨b,lo+o,(sl a).cap,fun x=>x=b⟩,fun ρ' h e=>⟨h,hlc,hcm,.inr ⟨_,rfl,fun _=>by rw[e];simp⟩⟩,fun ρ'=>.inr ⟨vs,vty,fr,hb,by grind,hlc,fun x h1 h2=>hun x (by grind) (by grind),fun _=>Iff.rfl,fun i hi j k hk=>?_⟩,fun x hx=>?_⟩
   ·obtain⟨g1,g2⟩:=hrows.at_ i hi j k hk
    grind
   grind
 have hpl:(⟨1,fun _=>p⟩:Env).pl 0=p:=rfl;refine(hs a hpre M ⟨1,fun _=>p⟩ w [u] (by rw[hv.m]) ?_ ?_).mono ?_
 ·rw[hv.hp,hv.ro];refine⟨hh.keeps,fun e he=>?_,by simp[ql,EV]⟩;have he:e=⟨0,false,.arr (sl a).ty (sl a).ks (sl a).n (sl a).rows⟩:=by simpa[ql,EV]using he
  subst he;exact⟨Nat.one_pos,hp2 _,hp3,fun h=>(by cases h)⟩
 ·rw[hv.args];exact⟨u,[],rfl,hp1 _ Nat.one_pos rfl,rfl⟩
 ·rintro e w' ⟨r,rfl,o,ρ2,g1,g2,g3,g4,g5⟩;have hoff:Vl ρ2 ⟨ρ2.n,fun t=>if t=0 then ρ.pl 0 else ρ2.pl t⟩:=⟨rfl,fun t ht=>if_neg ht⟩
  refine⟨r,rfl,o,⟨ρ2.n,fun t=>if t=0 then ρ.pl 0 else ρ2.pl t⟩,g1,g2,fun T hT=>?_,g4.Au hoff (hv.res a o),?_⟩
  ·have hT:T<1:=hT
   grind
  ·have hent:∀e∈ql (C.eV a o),e.tag≠0/\e.ch.MN=true:=fun e he=>by
    obtain⟨q,hq,rfl⟩:=kj.1 he;exact hv.eV a o q hq
   refine⟨g5.keeps,fun e he=>?_,g5.apart.imp_of_mem fun {x y} hx hy hxy=>?_⟩
   ·obtain⟨h1,h2⟩:=hent e he;have he:=g5.jk e he;exact⟨he.tag,by rw[hoff.pl _ h1];exact he.ch.Au hoff h2,by rw[hoff.pl _ h1];exact he.lt,by grind [he.own]⟩
   ·refine⟨hxy.1,?_⟩;rw[hoff.pl _ (hent x hx).1,hoff.pl _ (hent y hy).1];exact hxy.2
end
end Go.Sx
namespace Go.Proofs.YtfjgoonelcaggaaGreat
open Go.Sx
structure XR where
 g:cQ
 ok:Bool
 run:Int
def g0:cQ:=⟨0,0,0,[],[]⟩
def rW(L:cn)(d:bH)(k i:Nat):Nat->Int:=d.now (L.from_+k*8+i)
def rdStep(x:XR)(i:Nat)(f:Nat->Int):XR :=
 ⟨if !(x.ok&&iz x.g i f)&&decide (i=0)then { (if x.ok then kS x.g i f else x.g)with gen:=0 }else(if x.ok then kS x.g i f else x.g),x.ok&&iz x.g i f,max x.run (uw .i64 (gB f 10 4)+1)⟩
def lS(L:cn)(d:bH)(k:Nat):Nat->XR
 |0=>⟨g0,true,L.run⟩
 |i+1=>rdStep (lS L d k i) i (rW L d k i)
def tR(L:cn)(d:bH)(k:Nat):Option cQ :=
 if(lS L d k 8).g.gen<1\/((lS L d k 8).g.gen-1).tmod L.au≠k then none else some (yo (lS L d k 8).g)
structure ZA(L:cn)(d:bH)(k:Nat):Prop where
 run:∀i,i<8->0<=uw .i64 (gB (rW L d k i) 10 4)/\uw .i64 (gB (rW L d k i) 10 4)<100000000000
 used:∀i,i<8->(lS L d k i).ok=true->iz (lS L d k i).g i (rW L d k i)=true->0<rW L d k i 15
theorem Vm(g:cQ)(i:Nat)(f:Nat->Int):(kS g i f).bn=g.bn:=by
 grind [p8,kS]
theorem ZB(g:cQ)(i:Nat)(f:Nat->Int):(p8 g i f).buf=g.buf:=by
 grind [p8]
variable{f:Nat->Int}{g:cQ}{i:Nat}
theorem SN(h:iz g i f=false):kS g i f=p8 g i f:=by
 grind [kS]
theorem ZC(h:iz g i f=true):(kS g i f).buf=g.buf++(List.range (f 15).toNat).map fun k=>f (uG i+k):=by
 grind [kS]
theorem MO(h:iz g i f=true):f 15<=kH i/\g.buf.length=bh i:=by
 unfold iz at h
 grind
theorem ZD(h:g.buf.length<=bh i):(kS g i f).buf.length<=bh (i+1):=by
 cases hB:iz g i f with
 |false=>grind [SN,ZB,bh]
 |true =>
  obtain⟨h1,h2⟩:=MO hB
  grind [ZC,bh,kH]
structure aix(L:cn)(x:XR)(i:Nat):Prop where
 bn:x.g.bn=[]
 buf:x.g.buf.length<=bh i
 run:0<=x.run/\x.run<200000000000
theorem JT{L:cn}{d:bH}{k:Nat}(h:ZA L d k)(h0:0<=L.run/\L.run<200000000000):∀i,i<=8->aix L (lS L d k i) i
 |0,_=>⟨rfl,by show[].length<=_;simp,h0⟩
 |i+1,hi=>by
  have ih:=JT h h0 i (by omega);have hr:=h.run i (by omega);obtain⟨g1,g2,g3⟩:=ih;have hb:(if(lS L d k i).ok then kS (lS L d k i).g i (rW L d k i)else(lS L d k i).g).bn=[]/\(if(lS L d k i).ok then kS (lS L d k i).g i (rW L d k i)else(lS L d k i).g).buf.length<=bh (i+1):=by
   split
   ·grind [Vm,ZD]
   ·grind [bh]
  show aix L (rdStep (lS L d k i) i (rW L d k i)) (i+1);unfold rdStep;refine⟨?_,?_,by grind⟩
  ·grind
  grind
theorem ji.akP{X:PH}{y:rC}(h:ji X y g):ji (bB X y.b 0 (eH { g with gen:=0 } y.bv y.rv)) y { g with gen:=0 }/\Fr X y (bB X y.b 0 (eH { g with gen:=0 } y.bv y.rv)) y :=
 zn h rfl rfl ⟨by simp only[bZ];omega,h.at_.AA.2.1,h.at_.AA.2.2⟩
theorem akQ(H:PH)(b:Nat):ji (bB H b 0 [.int .i64 0,.int .i64 0,.int .i64 0,.slice none 0 0,.slice none 0 0]) (newL b) g0 :=
 ⟨⟨fJ ..,⟨by simp only[g0,bZ];omega,by simp only[g0,bZ];omega,by simp only[g0,bZ];omega⟩,⟨0,.inl ⟨rfl,rfl,rfl⟩⟩,⟨0,.inl ⟨rfl,rfl,rfl⟩⟩,rfl,fun i hi=>absurd hi (uh i)⟩,by simp[newL,ct,iW]⟩
structure yp where
 H:PH
 L:cn
 lv:Value
 d:bH
 k:Nat
structure XS where
 H:PH
 y:rC
 v:Value
def JU(H:PH)(b:XS):Option cQ->Prop
 |none=>b.v = .pointer none/\∀x,H x≠none->b.H x=H x
 |some g=>b.v=pv b.y.b 0/\ji b.H b.y g/\∀x,H x≠none->b.H x=H x/\x∉ct b.y
def Vn:cB where
 α:=yp
 β:=XS
 m:=4
 m':=5
 pre:=fun a=>a.k<a.L.au/\3<=a.L.au/\a.L.au<=200/\a.L.from_+a.L.au*8<=a.d.n/\a.d.n<100000/\0<=a.L.run/\a.L.run<200000000000/\ZA a.L a.d a.k
 args:=fun a=>[.a (.ptr 0 0 0 0),.a (.int .i64 a.k)]
 hp:=fun a=>[(0,js 1 a.L a.lv),(3,.dg a.H)]
 ro:=fun a=>gW 1 2 a.d
 post:=fun a b=>JU a.H b (tR a.L a.d a.k)
 res:=fun _ b=>.a (.val b.v)
 eV:=fun a b=>[(0,js 1 { a.L with run:=(lS a.L a.d a.k 8).run } a.lv),(4,.dg b.H)]
structure RdL where
 i:Nat
 H:PH
 y:rC
def ajk(a:yp):An:=.flat 4 RdL (fun s x=>S.dg ((((s.at_ (s.tg 0) (js (s.uZ (s.tg 0) 0) { a.L with run:=(lS a.L a.d a.k x.i).run } a.lv)).set 5 (.a (.val (pv x.y.b 0)))).set 6 (.a (.bool (lS a.L a.d a.k x.i).ok))).int 12 x.i) x.H)
 (fun _ x=>x.i<=8/\ji x.H x.y (lS a.L a.d a.k x.i).g/\∀z,a.H z≠none->x.H z=a.H z/\z∉ct x.y) (fun _ x=>8-x.i)
def ajl(a:yp):An:=.XL 3 5 (.mk 1000 [ajk a] [])
def we(x:yp)(y:Nat):XR:=lS x.L x.d x.k y
def O5(x:RdL)(u:yp):=ji x.H x.y (XR.g (we u x.i))/\∀z:Nat,u.H z≠none->x.H z=u.H z/\¬z∈ct x.y
def O6(x:yp)(y:Int)(z:Nat)(u:Prop):=ah (cR (ag x.L.from_) (ag x.L.au) (gu x.lv) (az x.L.next/\y=XR.run (we x z)/\aO x.L.fresh/\u))
def JV(u:RdL)(v:Bool)(x:yp)(w:PH)(s:As):=aY u.i (∃z:RdL,bw u.i z.i (v=XR.ok (we x z.i)/\rE u.y.b z.y.b/\ah (bf x.k/\w=z.H/\O6 x (qQ true (XR.run (we x u.i)) (xh s+(1:Int))) z.i (iZ x.d x.d (dG z.i 8 (O5 z x) u.i)))))
def O7(z:Value)(u:PH)(x:yp)(w:RdL):=∃y:XS,z=y.v/\u=y.H/\O6 x (XR.run (we x w.i)) 8 (JU x.H y (tR x.L x.d x.k)/\True)
def O8(x:yp):=x.k<x.L.au/\AP x.L x.d (x.d.n<100000/\(0:Int)<=x.L.run/\x.L.run<(200000000000:Int)/\ZA x.L x.d x.k)
theorem ZE:fnBody (Y Tryz.prog) [(201,Eh),(230,Jy),(231,acQ),(232,JS)] 205 Vn fun a=>[(205,[],[ajl a])]:=fnBody.of (p :=
 ∀u:yp,O8 u->∀l:Nat,u.H l=none->(∃x:RdL,aS x.i (true=XR.ok (we u x.i)/\rE l x.y.b/\ah (bf u.k/\JK u.H l 0 0=x.H/\O6 u u.L.run x.i (iZ u.d u.d ((x.i<=8/\O5 x u)/\True)))))/\∀x:RdL,x.i<=8/\O5 x u->aI (ag x.i) 8 (OO u.L (ag u.k) x.i (∃w:RdA,ah (ag u.L.from_+ag u.k*(8:Int)+ag x.i=ag w.i/\iZ u.d w.d ((w.i<w.d.n/\w.d.n<100000)/\∀t:Nat,64<=t->ai (XR.run (we u x.i))->fm 14 t/\cO 10 14/\vZ 10 4 t 10 (w.d.now w.i) fun h=>fe (xh h)/\aK (XR.ok (we u x.i)) (∃z:Ek,rE x.y.b z.y.b/\cm x.i z.i/\tO 64 t z.cap/\x.H=z.H/\aA 64 64 1 (cG (w.d.now w.i)) (cG z.f)/\O2 z/\∀v:Ho,O1 v z->rV (bg (iz z.g z.i z.f)) (ag x.i == (0:Int)) (Exists (nY (pv x.y.b 0) 0 (fun s=>v.H s) (fun s m=>s+1<=m.length) fun s m p q=>JV x (iz z.g z.i z.f) u (bB v.H s m (uD p q (gm 0) 1)) h)) (JV x (iz z.g z.i z.f) u v.H h)) (aK (ag x.i == (0:Int)) (Exists (nY (pv x.y.b 0) 0 (fun z=>x.H z) (fun z v=>z+1<=v.length) fun z v r s=>JV x false u (bB x.H z v (uD r s (gm 0) 1)) h)) (JV x false u x.H h)))))) (Exists (jP (pv x.y.b 0) 0 (fun w=>x.H w) fun w t=>aI (dR (aL t w)) 1 (O7 JJ x.H u x) (Exists (jP (pv x.y.b 0) 0 (fun j=>x.H j) fun j o=>ai (dR (aL o j)-(1:Int))/\(ai (ag u.L.au) ->
 ag u.L.au≠(0:Int)/\aK ((dR (aL o j)-(1:Int)).tmod (ag u.L.au) != ag u.k) (O7 JJ x.H u x) (∃z:Af,rE x.y.b z.y.b/\x.H=z.H/\(ji z.H z.y z.g/\aj z.g.buf<=378/\z.g.bn=[])/\∀v:Ho,ji v.H v.y (yo z.g)/\v.y.b=z.y.b/\Fr z.H z.y v.H v.y->O7 (pv x.y.b 0) v.H u x))))))) (by kernel_rfl) (by
 delta rV aK cR aL aO aj ai aA az nZ cI aN nY cm ia fB gu aU tO qQ bI fm aP ag xh dG aq JV jP vZ jd ah aS aI O7 cO bf bg O5 aY ax sM sI gm O6 O8 we O2 uD O1 OO AP mJ rE JK bw bM fe sK JJ
 try dsimp -iota -proj only
 rintro⟨H,L,lv,d,k⟩ ⟨h1,h2,h3,h4,h5,h6,h7,ok⟩;dsimp only at *;intro b hb;refine⟨⟨⟨0,bB H b 0 [.int .i64 0,.int .i64 0,.int .i64 0,.slice none 0 0,.slice none 0 0],newL b⟩,?_⟩,?_⟩
 ·have hz:∀z,H z≠none->bB H b 0 [.int .i64 0,.int .i64 0,.int .i64 0,.slice none 0 0,.slice none 0 0] z=H z/\¬z∈ct (newL b):=fun z hz=>by
   grind [dM,newL,ct,iW]
  and_intros<;>first|exact kG|exact akQ H b|exact hz|rfl
 ·rintro⟨i,X,Y⟩ ⟨hi,hX,hfr⟩;dsimp only at *;obtain⟨v1,v2,v3⟩:=JT ok ⟨h6,h7⟩ i hi;refine⟨fun c1=>?_,fun c1=>?_⟩
  ·have hi8:i<8:=by have:=qi c1;omega
   obtain⟨F,hF⟩:∃F,F=rW L d k i:=⟨_,rfl⟩
   have hok:=ok.run i hi8;have hus:=ok.used i hi8;have hstep:lS L d k (i+1)=rdStep (lS L d k i) i F:=by rw[hF];rfl
   have hdn:d.now (L.from_+k*8+i)=F:=by rw[hF];rfl
   rw[<- hF]at hok hus;obtain⟨R,hR⟩:∃R,R=lS L d k i:=⟨_,rfl⟩
   rw[<- hR]at hX v1 v2 v3 hus ⊢;have e10:mF (fun i=>u8 (cG F) (10+i)) 4=gB F 10 4:=rfl;intro _;refine⟨by simp only[bZ];omega,by simp only[bZ];omega,by simp only[bZ];omega,RdA.mk d (L.from_+k*8+i),?_⟩;have hin:L.from_+k*8+i<d.n:=by omega
   and_intros<;>first|exact kG|skip
   intro cap hcap;intro _
   repeat(first|refine And.intro (by omega) ?_|refine And.intro (by omega) ?_|refine And.intro (by omega) ?_)
   refine⟨As.mk 10 4 (cap-10) 64 (cG F),?_⟩;simp only[hdn]
   and_intros<;>first|exact kG|skip
   intro _ _;simp only[e10,iU];refine⟨by simp only[bZ];omega,fun c2=>⟨Ek.mk X Y R.g i F cap,?_⟩,fun c2=>⟨fun c3=>?_,fun c3=>?_⟩⟩
   ·have hsz:R.g.buf.length<=378:=by unfold bh at v2;omega
    and_intros<;>first|exact kG|exact hX|exact hus c2|skip
    rintro⟨X1,Y1⟩ ⟨t1,t2,t3,t4⟩;dsimp only at *;have f1:∀z,H z≠none->X1 z=H z/\¬z∈ct Y1:=fun z hz=>by
     obtain⟨a1,a2⟩:=hfr z hz;obtain⟨b1,b2⟩:=t4 z (by grind) a2
     grind
    refine⟨fun c3=>⟨fun c4=>?_,fun c4=>?_⟩,fun c3=>?_⟩
    ·have hg:(rdStep R i F).g={ kS R.g i F with gen:=0 }:=by
      have:iz R.g i F=false:=by simpa using c3
      have hi0:i=0:=by simpa using c4
      subst hi0;simp[rdStep,c2,this]
     obtain⟨q1,q2⟩:=t1.akP;refine⟨_,_,rfl,_,_,rfl,Y1.b,0,0,_,by rw[t2],t1.at_.cell,by simp[eH],by simp only[bZ];omega,⟨i+1,bB X1 Y1.b 0 (eH { kS R.g i F with gen:=0 } Y1.bv Y1.rv),Y1⟩,?_⟩;rw[hstep,<- hR];have f2:∀z,H z≠none->bB X1 Y1.b 0 (eH { kS R.g i F with gen:=0 } Y1.bv Y1.rv) z=H z/\¬z∈ct Y1:=fun z hz=>by
      obtain⟨a1,a2⟩:=f1 z hz;obtain⟨b1,b2⟩:=q2 z (by grind) a2
      grind
     rw[hg]
     and_intros<;>first|exact kG|exact q1|exact f2|(rw[t2];done)|(simp[rdStep,c2];done)|rfl|skip
    ·have hg:(rdStep R i F).g=kS R.g i F:=by
      have hi0:i≠0:=by simpa using c4
      simp[rdStep,c2,hi0]
     refine⟨by simp only[bZ];omega,⟨i+1,X1,Y1⟩,?_⟩
     grind [af.refl,rdStep]
    ·have hg:(rdStep R i F).g=kS R.g i F:=by
      have:iz R.g i F=true:=by simpa using c3
      simp[rdStep,c2,this]
     refine⟨by simp only[bZ];omega,⟨i+1,X1,Y1⟩,?_⟩
     grind [af.refl,rdStep]
   ·have hg:(rdStep R i F).g={ R.g with gen:=0 }:=by
     have hi0:i=0:=by simpa using c3
     subst hi0;simp[rdStep,c2]
    obtain⟨q1,q2⟩:=hX.akP;refine⟨_,_,rfl,_,_,rfl,Y.b,0,0,_,rfl,hX.at_.cell,by simp[eH],by simp only[bZ];omega,⟨i+1,bB X Y.b 0 (eH { R.g with gen:=0 } Y.bv Y.rv),Y⟩,?_⟩;rw[hstep,<- hR];have f2:∀z,H z≠none->bB X Y.b 0 (eH { R.g with gen:=0 } Y.bv Y.rv) z=H z/\¬z∈ct Y:=fun z hz=>by
     obtain⟨a1,a2⟩:=hfr z hz;obtain⟨b1,b2⟩:=q2 z (by grind) a2
     grind
    rw[hg]
    and_intros<;>first|exact kG|exact q1|exact f2|(simp[rdStep,c2];done)|rfl|skip
   ·have hg:(rdStep R i F).g=R.g:=by
     have hi0:i≠0:=by simpa using c3
     simp[rdStep,c2,hi0]
    refine⟨by simp only[bZ];omega,⟨i+1,X,Y⟩,?_⟩
    grind [af.refl,rdStep]
  ·have hi8:i=8:=by have:=ug c1;omega
   subst hi8;obtain⟨r1,r2,r3⟩:=hX.at_.AA;have hcell:=hX.at_.cell;obtain⟨R,hR⟩:∃R,R=lS L d k 8:=⟨_,rfl⟩
   rw[<- hR]at hX v1 v2 v3 r1 hcell ⊢;have hseg:tR L d k=if R.g.gen<1\/(R.g.gen-1).tmod L.au≠k then none else some (yo R.g):=by rw[hR];rfl
   have fnone:tR L d k=none->JU H ⟨X,Y,.pointer none⟩ (tR L d k):=fun e=>by
    rw[e];exact⟨rfl,fun z hz=>(hfr z hz).1⟩
   refine⟨_,_,rfl,?_⟩;refine⟨_,_,rfl,?_⟩;refine⟨_,0,_,_,rfl,hcell,?_⟩;refine⟨⟨⟨_,rfl,_,rfl,r1⟩,trivial⟩,fun _=>?_⟩;simp only[eH,G3,dR];refine⟨fun c2=>⟨⟨X,Y,.pointer none⟩,?_⟩,fun c2=>?_⟩
   ·grind
   ·have c2:=ug c2;refine⟨_,_,rfl,?_⟩;refine⟨_,_,rfl,?_⟩;refine⟨_,0,_,_,rfl,hcell,?_⟩;refine⟨⟨⟨_,rfl,_,rfl,r1⟩,trivial⟩,fun _=>?_⟩;simp only[eH,G3,dR];refine⟨by simp only[bZ]at *;omega,fun _=>⟨by omega,fun c3=>⟨⟨X,Y,.pointer none⟩,?_⟩,fun c3=>?_⟩⟩
    ·grind
    ·have c3:(R.g.gen-1).tmod L.au=k:=by simpa using c3
     have hyes:tR L d k=some (yo R.g):=by rw[hseg,if_neg (by omega)]
     refine⟨Af.mk X Y R.g,?_⟩;have hsz:R.g.buf.length<=378:=v2
     and_intros<;>first|exact kG|exact hX|exact v1|skip
     rintro⟨X1,Y1⟩ ⟨t1,t2,t3⟩;dsimp only at *;have f1:∀z,H z≠none->X1 z=H z/\¬z∈ct Y1:=fun z hz=>by
      obtain⟨a1,a2⟩:=hfr z hz;obtain⟨b1,b2⟩:=t3 z (by grind) a2
      grind
     refine⟨⟨X1,Y1,pv Y.b 0⟩,?_⟩;rw[hyes];have hp:JU H ⟨X1,Y1,pv Y.b 0⟩ (some (yo R.g)):=⟨by rw[t2],t1,f1⟩
     grind)
theorem ZF:av (Y Tryz.prog).G.X 205 Vn:=bp gf ZE ⟨Hg,Il,acS,SL,trivial⟩
def ajm(k:Nat):cB where
 α:=Unit
 m:=0
 m':=0
 pre:=fun _=>False
 args:=fun _=>List.replicate k (.a .any)
 res:=fun _ _=>.a .any
theorem XT(k f:Nat):av (Y Tryz.prog).G.X f (ajm k):=bp gf (mB:=[]) (l:=fun _=>[]) ⟨fun a h=>False.elim h⟩ trivial
structure Cy where
 H:PH
 y:jD
 L:cn
 gb:Nat
 t:Int
 s:Int
def B0:cB where
 α:=Cy
 m:=3
 m':=3
 pre:=fun a=>cV a.H a.y a.L/\a.L.l.length<1000/\0<=a.s/\a.s<=1000/\bZ .i64 a.t/\0<=a.t/\(∃r,a.H a.gb=some (0,.int .i64 a.t::r))/\∀i,i<a.L.l.length->a.t-a.s<(gl a.L.l i).gen
 args:=fun a=>[.a (.val a.y.lv),.E0 209 [.ptr 0 0 0 0,.ptr 1 0 0 0]]
 ro:=fun a=>[(0,.obj 289 [.val (pv a.gb 0)]),(1,.obj 3 [.int .i64 a.s]),(2,.dg a.H)]
 res:=fun a _=>.a (.val a.y.lv)
def O9:cB where
 α:=Cy
 m:=3
 m':=3
 pre:=B0.pre
 args:=B0.args
 ro:=B0.ro
 res:=fun a _=>.a (.lit .i64 (-1))
def agV(a:Cy):An:=.flat 2 Nat (fun s k=>s.int 8 k) (fun _ k=>k<=a.L.l.length) (fun _ k=>a.L.l.length-k)
def Dt(x:Cy):=oH x.H x.y x.L ((0:Int)<=x.s/\x.s<=(1000:Int)/\ai x.t/\(0:Int)<=x.t/\(∃z:List Value,x.H x.gb=some (0,cI x.t z))/\∀z:Nat,z<bY x.L->x.t-x.s<(gl x.L.l z).gen)
theorem Vo:fnBody (Y Tryz.prog) [] 234 O9 fun a=>[(234,[agV a],[])]:=fnBody.of (p :=
 ∀x:Cy,Dt x->OQ x.y x.gb (fun z=>az x.s/\x.H=x.H/\bE z (bY x.L)) (fun z=>z<=bY x.L) (fun z=>x.H z) (fun z=>x.H z) (fun z=>x.H z) x.s (fun z=>Exists (bN (ag z=(-1:Int)))) (fun z u=>az x.s/\x.H=x.H/\bL u (bY x.L) z) (Exists (bN (az (-1:Int))))) (by kernel_rfl) (by
 delta aK cR aL ai az nZ cI aG aM aN w9 nY fB pG gu aU bI bN aZ bY ag fF bL aq ku bQ jP bF Dt aC ah aS aI aD pS aY OQ bA bS zh mJ bw bM bE oH
 try dsimp -iota -proj only
 rintro⟨H,y,L,gb,T,S⟩ ⟨hl,h1,h2,h2',h3,h4,⟨gr,hgb⟩,h5⟩;dsimp only at *;obtain⟨e1,_,⟨ea,ec,e2⟩,e3,_⟩:=hl.vS;refine⟨⟨ea,_,ec,e2,e3⟩,⟨0,?_⟩,fun k hk=>⟨fun c1=>?_,fun c1=>⟨(),?_⟩⟩⟩
 ·grind
 ·rw[e1]at c1;have hk:k<L.l.length:=by simpa using c1
  obtain⟨b,lo,o,c,cs,g1,g2,g3,g4⟩:=hl.at_ hk;have hs:=hl.seg k hk;obtain⟨r1,_,_⟩:=hs.AA;refine⟨_,_,_,_,g1,by omega,b,lo,o+k*1,cs,by grind,g2,⟨⟨_,g3,rfl⟩,trivial⟩,?_⟩;refine⟨_,_,g4,?_⟩;refine⟨_,_,rfl,?_⟩;refine⟨_,0,_,_,rfl,hs.cell,?_⟩;refine⟨⟨⟨_,rfl,_,rfl,r1⟩,trivial⟩,fun _=>?_⟩;refine⟨_,_,rfl,?_⟩;refine⟨_,_,rfl,?_⟩;refine⟨_,0,_,_,rfl,hgb,?_⟩;refine⟨⟨⟨_,rfl,_,rfl,h3⟩,trivial⟩,fun _ _=>?_⟩;simp only[eH,G3,dR,bZ]at h3 ⊢;have h6:=h5 k hk;refine⟨by omega,fun c2=>?_,fun c2=>⟨by omega,k+1,?_⟩⟩
  ·grind
  grind
 grind)
theorem Vp:av (Y Tryz.prog).G.X 234 O9:=bp gf Vo trivial
theorem Vq:fnBody (Y Tryz.prog) [(234,O9)] 208 B0 fun a=>[]:=fnBody.of (p :=
 ∀x:Cy,Dt x->∃z:Cy,x.y.lv=z.y.lv/\aM (rE x.gb z.gb/\x.s=z.s/\x.H=z.H/\Dt z/\aP (Exists (bN (gu x.y.lv))))) (by kernel_rfl) (by
 delta ai cI aM fB gu bN aP bY Dt ah aD bA rE oH
 grind)
theorem Vr:av (Y Tryz.prog).G.X 208 B0:=bp gf Vq ⟨Vp,trivial⟩
end Go.Proofs.YtfjgoonelcaggaaGreat
namespace Go.Sx
section
def Pa(slot:Nat)(v:Bool)(s:S)(K:S->Prop):Prop:=match look s.fr slot with
 |.a (.bool b)=>b=v/\K (s.set slot (.a (ofB v)))
 |.a .tt=>bif v then K s else False
 |.a .ff=>bif v then False else K s
 |_=>K s
theorem MP(slot:Nat)(v:Bool):∀s K,Pa slot v s K->xC s K:=by
 intro s K h w0 M ρ a w hs;unfold Pa at h;split at h
 ·rename_i b hb;obtain⟨rfl,h⟩:=h;have hr:=hs.frame slot;rw[hb]at hr;refine⟨_,ρ,h,Env.le.refl ρ,hs.Uz ?_⟩;have hr:a.tmps.getD slot undef = .bool b:=hr;rw[hr];exact wU b ρ
 ·grind [Env.le.refl]
 ·grind [Env.le.refl]
 grind [Env.le.refl]
def Pb:List (Nat×Bool)->S->(S->Prop)->Prop
 |[],s,K=>K s
 |e::r,s,K=>Pa e.1 e.2 s fun s=>Pb r s K
theorem JW:∀(l:List (Nat×Bool)) s K,Pb l s K->xC s K
 |[],s,K,h=>fun w0 M ρ a w hs=>⟨s,ρ,h,Env.le.refl ρ,hs⟩
 |e::r,s,K,h=>fun w0 M ρ a w hs=>by
  obtain⟨s1,ρ1,h1,l1,g1⟩:=MP e.1 e.2 s _ h w0 M ρ a w hs;obtain⟨s2,ρ2,h2,l2,g2⟩:=JW r s1 K h1 w0 M ρ1 a w g1;exact⟨s2,ρ2,h2,l1.trans l2,g2⟩
def Vs(slot:Nat)(n:Int)(s:S)(K:S->Prop):Prop:=match look s.fr slot with
 |.a (.int k m)=>m=n/\K (s.set slot (.a (.lit k n)))
 |_=>K s
theorem ZG(slot:Nat)(n:Int):∀s K,Vs slot n s K->xC s K:=by
 intro s K h w0 M ρ a w hs;unfold Vs at h;split at h
 ·rename_i k m hb;obtain⟨rfl,h⟩:=h;have hr:=hs.frame slot;rw[hb]at hr;exact⟨_,ρ,h,Env.le.refl ρ,hs.Uz hr⟩
 grind [Env.le.refl]
def An.Em(key slot:Nat)(v:Bool)(next:LH):An:=.view key (Pa slot v) (MP slot v) next
def An.ZH(key:Nat)(l:List (Nat×Bool))(next:LH):An:=.view key (Pb l) (JW l) next
def An.T6(key slot:Nat)(n:Int)(next:LH):An:=.view key (Vs slot n) (ZG slot n) next
def Vt(slot:Nat)(v:Bool)(s:S)(K:S->Prop):Prop:=match look s.fr slot with
 |.a (.bool b)=>b=v/\K (s.set slot (.a (ofB v)))
 |_=>K s
theorem ZI(slot:Nat)(v:Bool):∀s K,Vt slot v s K->xC s K:=by
 intro s K h w0 M ρ a w hs;unfold Vt at h;split at h
 ·rename_i b hb;obtain⟨rfl,h⟩:=h;have hr:=hs.frame slot;rw[hb]at hr;refine⟨_,ρ,h,Env.le.refl ρ,hs.Uz ?_⟩;have hr:a.tmps.getD slot undef = .bool b:=hr;rw[hr];exact wU b ρ
 grind [Env.le.refl]
def An.isT(key slot:Nat)(v:Bool)(next:LH):An:=.view key (Vt slot v) (ZI slot v) next
end
end Go.Sx
namespace Go.Proofs.YtfjgoonelcaggaaGreat
open Go.Sx
def lhZ:LH:=.mk 60 [] []
structure rZ where
 H:PH
 y:jD
 L:cn
structure oI(a:rZ):Prop where
 at_:cV a.H a.y a.L
 len:a.L.l.length<256
 gen:∀i,i<a.L.l.length->1<=(gl a.L.l i).gen/\(gl a.L.l i).gen<1000000000000
 up:∀i j,i<j->j<a.L.l.length->(gl a.L.l i).gen<(gl a.L.l j).gen
structure ZJ where
 s:rZ
 i:Nat
 j:Nat
def acW:cB where
 α:=ZJ
 m:=1
 m':=1
 pre:=fun a=>oI a.s/\a.i<a.s.L.l.length/\a.j<a.s.L.l.length
 args:=fun a=>[.a (.val (pv (gl a.s.y.ys a.i).b 0)),.a (.val (pv (gl a.s.y.ys a.j).b 0))]
 ro:=fun a=>[(0,.dg a.s.H)]
 res:=fun a _=>.a (.int .i64 (min (max ((gl a.s.L.l a.i).gen-(gl a.s.L.l a.j).gen) (-1)) 1))
def A0(x:ZJ):Int:=min (max ((gl x.s.L.l x.i).gen-(gl x.s.L.l x.j).gen) (-1:Int)) (1:Int)
theorem acX:fnBody (Y Tryz.prog) [] 207 acW fun _=>[]:=fnBody.of (p :=
 ∀x:ZJ,oI x.s/\x.i<bY x.s.L/\x.j<bY x.s.L->Exists (jP (pv (gl x.s.y.ys x.i).b 0) 0 (fun z=>x.s.H z) fun z v=>Exists (jP (pv (gl x.s.y.ys x.j).b 0) 0 (fun u=>x.s.H u) fun u w=>ai (dR (aL v z)-dR (aL w u))/\Exists (bN (uA (dR (aL v z)-dR (aL w u)) (-1:Int) 1=A0 x))))) (by kernel_rfl) (by
 delta aL ai nZ nY fB qQ bN bY jP aD A0 uA bA mJ
 try dsimp -iota -proj only
 rintro⟨⟨H,y,L⟩,i,j⟩ ⟨ok,hi,hj⟩;dsimp only at *;obtain⟨hl,hn,hg,_⟩:=ok;dsimp only at hl hn hg;have si:=hl.seg i hi;have sj:=hl.seg j hj;have gi:=hg i hi;have gj:=hg j hj;obtain⟨ri,_,_⟩:=si.AA;obtain⟨rj,_,_⟩:=sj.AA;refine⟨_,_,rfl,?_⟩;refine⟨_,_,rfl,?_⟩;refine⟨_,0,_,_,rfl,si.cell,?_⟩;refine⟨⟨⟨_,rfl,_,rfl,ri⟩,trivial⟩,fun _=>?_⟩;refine⟨_,_,rfl,?_⟩;refine⟨_,_,rfl,?_⟩;refine⟨_,0,_,_,rfl,sj.cell,?_⟩;refine⟨⟨⟨_,rfl,_,rfl,rj⟩,trivial⟩,fun _=>?_⟩;refine⟨?_,(),rfl,trivial,trivial⟩;show bZ .i64 ((gl L.l i).gen-(gl L.l j).gen);simp only[bZ];omega)
theorem acY:av (Y Tryz.prog).G.X 207 acW:=bp gf acX trivial
def acZ:cB where
 α:=rZ
 m:=1
 m':=1
 pre:=oI
 args:=fun a=>[.a (.val a.y.lv),.a (.int .i64 0),.a (.int .i64 a.L.l.length),.a (.fn 207)]
 ro:=fun a=>[(0,.dg a.H)]
 res:=fun _ _=>.nR []
def Pc:List (Nat×cB):=[(207,acW)]
theorem FJ:Ac (Y Tryz.prog).G.X Pc:=⟨acY,trivial⟩
def akR(a:rZ):An:=.mk 1 Nat (fun s i=>s.int 8 i) (fun _ i=>1<=i/\i<=max 1 a.L.l.length) (fun _ i=>a.L.l.length-i) fun _=>.mk 60 [] [.isT 0 34 false lhZ]
def FK(z:List Value)(u:Nat)(v:List Value)(w:Nat)(t:rZ)(f:ZJ->Prop)(g:Prop):ZJ->Prop:=fun(x:ZJ)=>aL z u=pv (gl x.s.y.ys x.i).b 0/\aL v w=pv (gl x.s.y.ys x.j).b 0/\t.H=x.s.H/\(oI x.s/\x.i<bY x.s.L/\x.j<bY x.s.L)/\aP (f x/\g)
def Du(x:rZ)(z u:Nat)(v:Prop):=gu x.y.lv/\cR 0 (ag (bY x.L)) (x.H=x.H) ((1<=z/\z<=u)/\v)
theorem ad0:fnBody (Y Tryz.prog) Pc 254 acZ fun a=>[(254,[akR a],[])]:=fnBody.of (p :=
 ∀x:rZ,oI x->ai 1/\(∃z:Nat,(1:Int)=ag z/\Du x z (max 1 (bY x.L)) True)/\∀z:Nat,1<=z/\z<=max 1 (bY x.L)->bS z (bY x.L) (aI 0 (ag z) (pS x.y z (fun u=>x.H u) fun u s=>vV z x.y (fun w=>x.H w) fun w t=>Exists (FK s u t w x (fun v=>aU (aN (A0 v) 0)) (bQ z fun v=>Du x v (max 1 (bY x.L)) (bM (bY x.L) v z)))) (bQ z fun u=>Du x u (max 1 (bY x.L)) (bM (bY x.L) u z))) (Exists (aD (True/\True)))) (by kernel_rfl) (by
 delta aK cR aL ai aG aN w9 pG gu aU bI aP aZ bY ag aq ku bQ aC vV aI aD pS FK A0 aY Du bS bw bM qw
 try dsimp -iota -proj only
 rintro⟨H,y,L⟩ ok;dsimp only at *;have hl:cV H y L:=ok.at_;have hn:L.l.length<256:=ok.len;refine⟨by simp only[bZ];omega,⟨1,?_⟩,fun i hi=>⟨fun c=>⟨fun _=>?_,fun d=>?_⟩,fun c=>⟨(),trivial,trivial⟩⟩⟩
 ·grind
 ·obtain⟨hi1,hi2⟩:=hi;have hi:i<L.l.length:=by have:=qi c;omega
  have hu:(gl L.l (i-1)).gen<(gl L.l i).gen:=ok.up (i-1) i (by omega) hi;obtain⟨b1,lo1,o1,c1,cs1,g1,g2,g3,g4⟩:=hl.at_ (i:=i) hi;refine⟨_,_,_,_,g1,by omega,b1,lo1,o1+i*1,cs1,by grind,g2,⟨⟨_,g3,rfl⟩,trivial⟩,by simp only[bZ];omega,?_⟩;obtain⟨b2,lo2,o2,c2,cs2,f1,f2,f3,f4⟩:=hl.at_ (i:=i-1) (by omega);have e:((i:Int)-1).toNat=i-1:=by omega
  refine⟨_,_,_,_,f1,by omega,b2,lo2,o2+(i-1)*1,cs2,by grind,f2,⟨⟨_,f3,rfl⟩,trivial⟩,⟨⟨⟨H,y,L⟩,i,i-1⟩,g4,f4,rfl,⟨ok,hi,by grind⟩,fun _ _=>⟨Ml ?_,by simp only[bZ];omega,i+1,?_⟩⟩⟩
  ·grind
  grind
 grind)
theorem ad1:av (Y Tryz.prog).G.X 254 acZ:=bp gf ad0 FJ
def ad2:cB where
 α:=rZ
 m:=1
 m':=1
 pre:=fun a=>oI a/\1<=a.L.l.length
 args:=fun a=>[.a (.val a.y.lv),.a (.int .i64 0),.a (.int .i64 a.L.l.length),.a (.fn 207)]
 ro:=fun a=>[(0,.dg a.H)]
 res:=fun _ _=>.a .tt
def akS(a:rZ):An:=.mk 5 Nat (fun s i=>s.int 9 i) (fun _ i=>1<=i/\i<=a.L.l.length) (fun _ i=>a.L.l.length-i) fun _=>.mk 60 [] [.isT 0 36 true lhZ]
theorem ad3:fnBody (Y Tryz.prog) Pc 259 ad2 fun a=>[(259,[akS a],[.isT 0 41 true lhZ])]:=fnBody.of (p :=
 ∀x:rZ,oI x/\1<=bY x.L->ai 1/\(∃z:Nat,(1:Int)=ag z/\aO true/\aJ (bD (Du x z (bY x.L) True)))/\∀z:Nat,1<=z/\z<=bY x.L->bS z (bY x.L) (pS x.y z (fun v=>x.H v) fun v s=>vV z x.y (fun w=>x.H w) fun w t=>Exists (FK s v t w x (fun u=>aq (bg (aN (A0 u) 0))) (bQ z fun u=>aO true/\aJ (bD (Du x u (bY x.L) (bM (bY x.L) u z)))))) (aq (ag z == ag (bY x.L))/\Exists (bN (aO true)))) (by kernel_rfl) (by
 delta aK cR aL aO ai az aG aN w9 pG gu aU bI bN aP aZ bY ag bD aq ku bQ aJ aC vV aI aD pS bg FK A0 aY Du bA bS bw bM qw
 try dsimp -iota -proj only
 rintro⟨H,y,L⟩ ⟨ok,h0⟩;dsimp only at *;have hl:cV H y L:=ok.at_;have hn:L.l.length<256:=ok.len;refine⟨by simp only[bZ];omega,⟨1,?_⟩,fun i hi=>⟨fun c=>?_,fun c=>⟨?_,(),rfl,trivial,trivial⟩⟩⟩
 ·grind
 ·obtain⟨hi1,hi2⟩:=hi;have hi:i<L.l.length:=by have:=qi c;omega
  have hu:(gl L.l (i-1)).gen<(gl L.l i).gen:=ok.up (i-1) i (by omega) hi;obtain⟨b1,lo1,o1,c1,cs1,g1,g2,g3,g4⟩:=hl.at_ (i:=i) hi;refine⟨_,_,_,_,g1,by omega,b1,lo1,o1+i*1,cs1,by grind,g2,⟨⟨_,g3,rfl⟩,trivial⟩,by simp only[bZ];omega,?_⟩;obtain⟨b2,lo2,o2,c2,cs2,f1,f2,f3,f4⟩:=hl.at_ (i:=i-1) (by omega);have e:((i:Int)-1).toNat=i-1:=by omega
  have hc:(!decide (min (max ((gl L.l i).gen-(gl L.l (i-1)).gen) (-1)) 1<0))=true:=by rw[Ml (by omega)];rfl
  refine⟨_,_,_,_,f1,by omega,b2,lo2,o2+(i-1)*1,cs2,by grind,f2,⟨⟨_,f3,rfl⟩,trivial⟩,⟨⟨⟨H,y,L⟩,i,i-1⟩,g4,f4,rfl,⟨ok,hi,by grind⟩,fun _ _=>⟨hc,by simp only[bZ];omega,i+1,?_⟩⟩⟩
  grind
 grind)
theorem ad4:av (Y Tryz.prog).G.X 259 ad2:=bp gf ad3 FJ
structure O2A where
 s:rZ
 i:Nat
 j:Nat
 n:Int
def ajn:cB where
 α:=O2A
 m:=2
 m':=2
 pre:=fun a=>oI a.s/\a.i<a.j/\a.j<a.s.L.l.length
 args:=fun a=>[.a (.val a.s.y.lv),.a (.int .i64 a.i),.a (.int .i64 a.j),.a (.ptr 0 0 0 0),.a (.fn 207)]
 ro:=fun a=>[(0,.obj 3 [.int .i64 a.n]),(1,.dg a.s.H)]
 res:=fun a _=>.nR [.a (.int .i64 a.i),.a (.int .i64 a.j)]
theorem agW:fnBody (Y Tryz.prog) Pc 283 ajn fun _=>[(283,[],[.isT 0 22 false lhZ])]:=fnBody.of (p :=
 ∀x:O2A,oI x.s/\x.i<x.j/\x.j<bY x.s.L->pS x.s.y x.j (fun z=>x.s.H z) fun z v=>pS x.s.y x.i (fun u=>x.s.H u) fun u w=>Exists (FK v z w u x.s (fun t=>aU (aN (A0 t) 0)) (Exists (aD (cR (ag x.i) (ag x.j) True True))))) (by kernel_rfl) (by
 delta cR aL aG aN w9 pG aU aP aZ bY ag aq ku aC aD pS FK A0
 try dsimp -iota -proj only
 rintro⟨⟨H,y,L⟩,i,j,n⟩ ⟨ok,h1,h2⟩;dsimp only at *;have hl:cV H y L:=ok.at_;have hu:(gl L.l i).gen<(gl L.l j).gen:=ok.up i j h1 h2;obtain⟨b1,lo1,o1,c1,cs1,g1,g2,g3,g4⟩:=hl.at_ (i:=j) h2;refine⟨_,_,_,_,g1,by omega,b1,lo1,o1+j*1,cs1,by grind,g2,⟨⟨_,g3,rfl⟩,trivial⟩,?_⟩;obtain⟨b2,lo2,o2,c2,cs2,f1,f2,f3,f4⟩:=hl.at_ (i:=i) (by omega);refine⟨_,_,_,_,f1,by omega,b2,lo2,o2+i*1,cs2,by grind,f2,⟨⟨_,f3,rfl⟩,trivial⟩,⟨⟨⟨H,y,L⟩,j,i⟩,g4,f4,rfl,⟨ok,h2,by grind⟩,fun _ _=>⟨Ml ?_,(),rfl,rfl,trivial,trivial⟩⟩⟩
 grind)
theorem agX:av (Y Tryz.prog).G.X 283 ajn:=bp gf agW FJ
structure M3A where
 s:rZ
 i:Nat
 j:Nat
 k:Nat
 n:Int
def ad5:cB where
 α:=M3A
 m:=2
 m':=2
 pre:=fun a=>oI a.s/\a.i<a.j/\a.j<a.k/\a.k<a.s.L.l.length
 args:=fun a=>[.a (.val a.s.y.lv),.a (.int .i64 a.i),.a (.int .i64 a.j),.a (.int .i64 a.k),.a (.ptr 0 0 0 0),.a (.fn 207)]
 ro:=fun a=>[(0,.obj 3 [.int .i64 a.n]),(1,.dg a.s.H)]
 res:=fun a _=>.a (.int .i64 a.j)
def Pd(z:M3A)(u v:Nat)(w:O2A->Prop):O2A->Prop:=fun(x:O2A)=>z.s.y.lv=x.s.y.lv/\cm u x.i/\cm v x.j/\ah (z.n=x.n/\z.s.H=x.s.H/\(oI x.s/\x.i<x.j/\x.j<bY x.s.L)/\aP (w x))
theorem ad6:fnBody (Y Tryz.prog) [(283,ajn)] 277 ad5 fun _=>[]:=fnBody.of (p :=
 ∀x:M3A,oI x.s/\x.i<x.j/\x.j<x.k/\x.k<bY x.s.L->Exists (Pd x x.i x.j fun y=>Exists (Pd x y.j x.k fun z=>Exists (Pd x y.i z.i fun u=>Exists (bN (cm u.j x.j)))))) (by kernel_rfl) (by
 delta cm bN aP bY ag ah aD Pd bA
 try dsimp -iota -proj only
 rintro⟨s,i,j,k,n⟩ ⟨ok,h1,h2,h3⟩;dsimp only at *;have h4:i<s.L.l.length:=by omega
 have h5:j<s.L.l.length:=by omega
 refine⟨⟨s,i,j,n⟩,?_⟩
 and_intros<;>first|exact cU|exact ok|exact h1|exact h5|exact kL|skip
 intro _ _;refine⟨⟨s,j,k,n⟩,?_⟩
 and_intros<;>first|exact cU|exact ok|exact h2|exact h3|exact kL|skip
 intro _ _;refine⟨⟨s,i,j,n⟩,?_⟩
 grind)
theorem ad7:av (Y Tryz.prog).G.X 277 ad5:=bp gf ad6 ⟨agX,trivial⟩
def ad8:cB where
 α:=rZ
 β:=Nat
 m:=1
 m':=1
 pre:=fun a=>oI a/\12<a.L.l.length
 args:=fun a=>[.a (.val a.y.lv),.a (.int .i64 0),.a (.int .i64 a.L.l.length),.a (.fn 207)]
 ro:=fun a=>[(0,.dg a.H)]
 res:=fun _ b=>.nR [.a (.int .i64 b),.a (.lit .i64 1)]
def sO(x:rZ):Int:=(ag (bY x.L)-(0:Int)).tdiv (4:Int)
def Pe(z:rZ)(x:M3A)(u v w t:Prop):=z.y.lv=x.s.y.lv/\u/\v/\w/\ah ((0:Int)=x.n/\z.H=x.s.H/\(oI x.s/\x.i<x.j/\x.j<x.k/\x.k<bY x.s.L)/\aP t)
def Pf(x:rZ)(y:Int)(u:M3A->Prop):=ai ((0:Int)+sO x*y-(1:Int))/\fe ((0:Int)+sO x*y)/\∃z:M3A,Pe x z ((0:Int)+sO x*y-(1:Int)=ag z.i) ((0:Int)+sO x*y=ag z.j) ((0:Int)+sO x*y+(1:Int)=ag z.k) (u z)
def ad9(x:rZ)(y z:Int)(u:M3A->M3A->Prop):=Pf x y fun v=>Pf x z fun w=>u v w
def Pg(x:rZ)(y:Int)(z:Prop):=(4:Int)≠(0:Int)/\ai (sO x)/\ai (sO x*y)/\ai ((0:Int)+sO x*y)/\z
def ada(x:rZ)(y z:Int)(u:Prop):=Pg x y (Pg x z u)
theorem adb:fnBody (Y Tryz.prog) [(277,ad5)] 257 ad8 fun _=>[]:=fnBody.of (p :=
 ∀x:rZ,oI x/\12<bY x.L->ai (ag (bY x.L)-(0:Int))/\ada x 1 2 (Pg x 3 (aK (bF 8 (ag (bY x.L)-(0:Int))) (aK (bF 50 (ag (bY x.L)-(0:Int))) (ad9 x 1 2 fun y u=>Pf x 3 fun v=>∃z:M3A,Pe x z (cm y.j z.i) (cm u.j z.j) (cm v.j z.k) (∃w:Nat,cm z.j w/\bA (az 1))) (∃y:M3A,Pe x y ((0:Int)+sO x*(1:Int)=ag y.i) ((0:Int)+sO x*(2:Int)=ag y.j) ((0:Int)+sO x*(3:Int)=ag y.k) (∃u:Nat,cm y.j u/\bA (az 1)))) (∃y:Nat,(0:Int)+sO x*(2:Int)=ag y/\bA (az 1))))) (by kernel_rfl) (by
 delta aK ai az cm aU aP bY ag aq ad9 Pf bF sO ah bA Pe ada Pg fe
 try dsimp -iota -proj only
 rintro s ⟨ok,h⟩;have hn:s.L.l.length<256:=ok.len;obtain⟨n,hn0⟩:∃n,n=s.L.l.length:=⟨_,rfl⟩
 have e0:((s.L.l.length:Int)-0)=(n:Int):=by omega
 have e1:(n:Int).tdiv 4=((n/4:Nat):Int):=rfl;rw[e0,e1];simp only[bZ];have q1:n/4<2*(n/4):=by omega
 have q2:2*(n/4)<3*(n/4):=by omega
 have q3:3*(n/4)<s.L.l.length:=by omega
 have z1:n/4-1<n/4:=by omega
 have z2:n/4<n/4+1:=by omega
 have z3:n/4+1<s.L.l.length:=by omega
 have y1:2*(n/4)-1<2*(n/4):=by omega
 have y2:2*(n/4)<2*(n/4)+1:=by omega
 have y3:2*(n/4)+1<s.L.l.length:=by omega
 have x1:3*(n/4)-1<3*(n/4):=by omega
 have x2:3*(n/4)<3*(n/4)+1:=by omega
 have x3:n/4*4<=s.L.l.length:=by omega
 have x4:3*(n/4)+1<s.L.l.length:=by omega
 refine⟨by omega,by decide,by omega,by omega,by omega,by decide,by omega,by omega,by omega,by decide,by omega,by omega,by omega,fun _=>⟨fun _=>⟨by omega,by omega,⟨s,n/4-1,n/4,n/4+1,0⟩,?_⟩,fun _=>⟨⟨s,n/4,2*(n/4),3*(n/4),0⟩,?_⟩⟩,fun c=>?_⟩
 ·and_intros<;>first|exact cU|exact ok|exact z1|exact z2|exact z3|(intro h_;revert h_)|omega|grind|rfl|grind|grind|grind|skip
  intro _ _;refine⟨by omega,by omega,⟨s,2*(n/4)-1,2*(n/4),2*(n/4)+1,0⟩,?_⟩
  and_intros<;>first|exact cU|exact ok|exact y1|exact y2|exact y3|(intro h_;revert h_)|omega|grind|rfl|grind|grind|grind|skip
  intro _ _;refine⟨by omega,by omega,⟨s,3*(n/4)-1,3*(n/4),3*(n/4)+1,0⟩,?_⟩
  and_intros<;>first|exact cU|exact ok|exact x1|exact x2|exact x4|(intro h_;revert h_)|omega|grind|rfl|grind|grind|grind|skip
  intro _ _;refine⟨⟨s,n/4,2*(n/4),3*(n/4),0⟩,?_⟩
  grind
 ·grind
 grind)
theorem ade:av (Y Tryz.prog).G.X 257 ad8:=bp gf adb ⟨ad7,trivial⟩
def adf:cB where
 α:=Nat
 β:=Nat
 m:=0
 m':=0
 pre:=fun n=>n<256
 args:=fun n=>[.a (.int .u64 n)]
 post:=fun n r=>r<=8/\(1<=n->1<=r)
 res:=fun _ r=>.a (.int .i64 r)
theorem ZK(u:UInt8)(k:Int)(h0:0<=k)(h1:k<=1000):bZ .i64 (k+(u.toNat:Int)):=by
 have:=u.toNat_lt;simp only[bZ];omega
def A1(x:UInt8)(y:List UInt8):List UInt8:=x::y
def En(x y:UInt8)(z:List UInt8):List UInt8:=A1 x (A1 y z)
def HU(y x:UInt8)(z:List UInt8):List UInt8:=En y x (En x x (A1 x z))
def agY(x:UInt8)(y:List UInt8):List UInt8:=HU x x (HU x x (HU x x (HU x x (HU x x (En x x (En x x y))))))
def Ph(x:UInt8):List UInt8:=agY x (agY x (HU x x (A1 x [])))
def Vu(x:Int):Int:=ag (((List.append (En 0 1 (A1 2 (HU 2 3 (HU 4 4 (En 4 4 (HU 4 5 (HU 5 5 (HU 5 5 (En 5 5 (agY 6 (En 6 6 (A1 6 [])))))))))))) (Ph 7)).append (List.append (Ph 8) (Ph 8))).toArray.getD (aC (lZ x)) (0:UInt8)).toNat
def SO(x z:Int)(u:Nat):=aZ (lZ x) 256/\ai (z+Vu x)/\∃y:Nat,z+Vu x=ag y/\(y<=8/\(1<=u->1<=y))/\True
def Vv(x z:Int)(y:Nat)(u v w:Int):=aK (bF 65536 x) ((0:Int)<=16/\aK (bF 256 (x/(65536:Int))) ((0:Int)<=8/\SO (x/(65536:Int)/(256:Int)) z y) (SO (x/(65536:Int)) u y)) (aK (bF 256 x) ((0:Int)<=8/\SO (x/(256:Int)) v y) (SO x w y))
theorem adg:fnBody (Y Tryz.prog) [] 189 adf fun _=>[]:=fnBody.of (p :=
 ∀x:Nat,x<256->aK (bF 4294967296 (ag x)) ((0:Int)<=32/\Vv (ag x/(4294967296:Int)) 56 x 48 40 32) (Vv (ag x) 24 x 16 8 0)) (by kernel_rfl) (by
 delta agY aK HU ai En A1 aU SO aZ ag aq bF aC Vu Vv lZ Ph
 intro a h1;have h1:a<256:=h1;refine⟨fun c=>(by grind),fun d1=>⟨fun c=>(by grind),fun d2=>⟨fun c=>(by grind),fun d3=>?_⟩⟩⟩;have hu:uw .u8 (a:Int)=(a:Int):=by simp only[uw];omega
 rw[hu];refine⟨⟨by omega,by omega⟩,ZK _ 0 (by decide) (by decide),_,Int.zero_add _,?_⟩;rw[Ay,and_true];clear hu d1 d2 d3
 revert h1
 revert a
 decide +kernel)
theorem adh:av (Y Tryz.prog).G.X 189 adf:=bp gf adg trivial
def Vw:cB where
 α:=rZ
 m:=1
 m':=1
 pre:=fun a=>oI a
 args:=fun a=>[.a (.val a.y.lv),.a (.fn 207)]
 ro:=fun a=>[(0,.dg a.H)]
 res:=fun _ _=>.nR []
def adi:List (Nat×cB):=[(189,adf),(254,acZ),(259,ad2),(255,ajm 4),(256,ajm 4),(257,ad8)]
def Pj(z:rZ)(u:rZ->Prop)(v:Prop):rZ->Prop:=fun(x:rZ)=>z.y.lv=x.y.lv/\aJ (cm (eC z.y.lv) (bY x.L)/\z.H=x.H/\u x/\v)
theorem ZL:fnBody (Y Tryz.prog) adi 206 Vw fun _=>[(233,[],[.isT 0 999 false lhZ])]:=fnBody.of (p :=
 ∀x:rZ,oI x->Exists (fF x.y.lv)/\∃u:Nat,dI (ag (eC x.y.lv))=ag u/\u<256/\∀v:Nat,v<=8/\(1<=u->1<=v)->ai (ag (eC x.y.lv)-(0:Int))/\aK (bF (ag (eC x.y.lv)-(0:Int)) 12) (Exists (Pj x (fun z=>oI z) (aP (Exists (aD (True/\True)))))) (aK (ag v == (0:Int)) (Exists (aD (False/\aP (Exists (aD (True/\True)))))) (Exists (Pj x (fun z=>oI z/\12<bY z.L) (∀z:Nat,True->Exists (Pj x (fun w=>oI w/\1<=bY w.L) (aP (Exists (aD (True/\True)))))))))) (by kernel_rfl) (by
 delta aK ai az cm aU aP bY ag fF aq bF dI aJ aD Pj
 try dsimp -iota -proj only
 rintro⟨H,y,L⟩ ok;have ok:oI ⟨H,y,L⟩:=ok;have hn:L.l.length<256:=ok.len;obtain⟨e1,_,⟨ea,ec,e2⟩,e3,_⟩:=ok.at_.vS;dsimp only at e1 e2 e3 ⊢;rw[e1];refine⟨⟨ea,_,ec,e2,by omega⟩,L.l.length,by grind [uw],hn,fun r ⟨q1,q2⟩=>⟨by simp only[bZ];omega,fun c=>⟨⟨H,y,L⟩,rfl,rfl,rfl,rfl,ok,fun _ _=>⟨(),trivial,trivial⟩⟩,fun c=>?_⟩⟩;have c:¬((L.l.length:Int)-0<=12):=ug c;have c1:12<L.l.length:=by omega
 have c2:1<=L.l.length:=by omega
 have c3:=q2 c2;refine⟨fun d=>(by grind),fun _=>⟨⟨H,y,L⟩,rfl,rfl,rfl,rfl,⟨ok,c1⟩,fun _ _=>⟨⟨H,y,L⟩,rfl,rfl,rfl,rfl,⟨ok,c2⟩,fun _ _=>⟨(),trivial,trivial⟩⟩⟩⟩)
theorem ZM:av (Y Tryz.prog).G.X 206 Vw:=bp gf ZL ⟨adh,ad1,ad4,XT _ _,XT _ _,ade,trivial⟩
def oT(from_ au:Nat)(d:bH):Nat->cn
 |0=>⟨from_,au,[],1,1,true⟩
 |k+1=>{ oT from_ au d k with l:=(oT from_ au d k).l++(tR (oT from_ au d k) d k).toList,run:=(lS (oT from_ au d k) d k 8).run }
def xM(l:List cQ):Int:=match l.getLast? with
 |none=>1
 |some g=>match g.bn.getLast? with
  |none=>g.base+64
  |some r=>r.pos+65
def cH(from_ au:Nat)(d:bH):cn:={ oT from_ au d au with next:=xM (oT from_ au d au).l }
structure rH(from_ au:Nat)(d:bH):Prop where
 wN:3<=au/\au<=200
 room:from_+au*8<=d.n
 size:d.n<100000
 rd:∀k,k<au->ZA (oT from_ au d k) d k
 up:∀i j,i<j->j<(oT from_ au d au).l.length->(gl (oT from_ au d au).l i).gen<(gl (oT from_ au d au).l j).gen
 near:∀i,i<(oT from_ au d au).l.length->(gl (oT from_ au d au).l ((oT from_ au d au).l.length-1)).gen-au<(gl (oT from_ au d au).l i).gen
 AA:∀i,i<(oT from_ au d au).l.length->(1<=(gl (oT from_ au d au).l i).gen/\(gl (oT from_ au d au).l i).gen<1000000000000)/\0<=(gl (oT from_ au d au).l i).base/\(gl (oT from_ au d au).l i).base<100000000000 /\
  ∀j,j<(gl (oT from_ au d au).l i).bn.length->0<=(gl (gl (oT from_ au d au).l i).bn j).pos/\(gl (gl (oT from_ au d au).l i).bn j).pos<100000000000
theorem A2(from_ au:Nat)(d:bH):∀k,(oT from_ au d k).from_=from_/\(oT from_ au d k).au=au/\(oT from_ au d k).next=1/\(oT from_ au d k).fresh=true
 |0=>⟨rfl,rfl,rfl,rfl⟩
 |k+1=>A2 from_ au d k
theorem XU{from_ au:Nat}{d:bH}(h:rH from_ au d):∀k,k<=au->0<=(oT from_ au d k).run/\(oT from_ au d k).run<200000000000
 |0,_=>⟨by simp[oT],by simp[oT]⟩
 |k+1,hk=>(JT (h.rd k (by omega)) (XU h k (by omega)) 8 (cW _)).run
theorem Io(from_ au:Nat)(d:bH):∀k,(oT from_ au d k).l.length<=k
 |0=>cW _
 |k+1=>by
  show((oT from_ au d k).l++(tR (oT from_ au d k) d k).toList).length<=_;rw[wM];have:=Io from_ au d k
  grind
structure Pm where
 H:PH
 d:bH
 from_:Nat
 au:Nat
structure OpS where
 k:Nat
 H:PH
 y:jD
def Pn:cB where
 α:=Pm
 β:=qV
 m:=3
 m':=5
 pre:=fun a=>rH a.from_ a.au a.d
 args:=fun a=>[.a (.ptr 0 0 0 0),.a (.int .i64 a.from_),.a (.int .i64 a.au)]
 hp:=fun a=>[(2,.dg a.H)]
 ro:=fun a=>gW 0 1 a.d
 post:=fun a b=>cV b.H b.y (cH a.from_ a.au a.d)/\∀x,a.H x≠none->b.H x=a.H x/\x∉cC b.y
 res:=fun a _=>.nR [.a (.ptr 3 0 0 0),.a (.lit .i64 0)]
 eV:=fun a b=>[(3,js 0 (cH a.from_ a.au a.d) b.y.lv),(4,.dg b.H)]
def ajo(a:Pm):An:=.flat 7 OpS (fun s x=>S.dg ((s.at_ (s.tg 8) (js (s.uZ (s.tg 8) 0) (oT a.from_ a.au a.d x.k) x.y.lv)).int 43 x.k) x.H)
 (fun _ x=>x.k<=a.au/\cV x.H x.y (oT a.from_ a.au a.d x.k)/\∀z,a.H z≠none->x.H z=a.H z/\z∉cC x.y) (fun _ x=>a.au-x.k)
def zo(x:Pm)(y:OpS):cn:=oT x.from_ x.au x.d y.k
def zq(x y:Option (Nat×List Value))(z:jD)(u:Nat):=x≠none->y=x/\¬u∈cC z
def Po(x:OpS)(u:Pm):=cV x.H x.y (zo u x)/\∀z:Nat,zq (u.H z) (x.H z) x.y z
def Vx(x:Pm)(u:PH)(z:OpS)(v w:Nat)(s:Value)(t f:Int)(g:Bool)(h:Prop):=bf x.au/\ah (aO (aN (ag x.d.n-ag x.au*(8:Int)) (ag x.from_))/\bD (aJ (aM (cR (ag x.from_) (ag x.au) (u=z.H) (JN v (zo x z) w s z.y t f g (bf x.au/\iZ x.d x.d h))))))
def Vy(z:OpS)(u:Pm)(v:PH)(x:yp)(w:Value):=aY z.k (∃y:OpS,bw z.k y.k (Vx u v y x.L.from_ x.L.au w x.L.next (XR.run (we x 8)) x.L.fresh (dG y.k u.au (Po y u) z.k)))
def Dv(x:qV)(z:Pm):=cV x.H x.y (cH z.from_ z.au z.d)/\∀u:Nat,zq (z.H u) (x.H u) x.y u
def Vz(x:Pm)(z:OpS)(v:Cy)(w:Int):qV->Prop:=fun(u:qV)=>ah (aJ (JN (cn.from_ (zo x z)) (cH x.from_ x.au x.d) (cn.au (zo x z)) v.y.lv u.y (w+(64:Int)) (cn.run (zo x z)) (cn.fresh (zo x z)) (z.H=u.H/\Dv u x/\True)))
theorem ZN:fnBody (Y Tryz.prog) [(205,Vn),(206,Vw),(208,B0)] 175 Pn fun a=>[(175,[ajo a],[])]:=fnBody.of (p :=
 ∀x:Pm,rH x.from_ x.au x.d->ai (ag x.au)->aI (ag x.au) 3 (∃A:qV,False) (ai (ag x.au)->jo (aN 200 (ag x.au)) (∃B:qV,False) (aN (ag x.from_) 0) (ai (ag x.au)->ai (ag x.au*(8:Int))/\ai (ag x.d.n-ag x.au*(8:Int))/\aI (ag x.d.n-ag x.au*(8:Int)) (ag x.from_) (∃C:qV,False) (ai (ag x.au)->ai (ag x.au)->(∃z:OpS,aS z.k (Vx x x.H z x.from_ x.au jd 1 1 true ((z.k<=x.au/\Po z x)/\True)))/\∀z:OpS,z.k<=x.au/\Po z x->bS z.k x.au (∃u:yp,ah (cm z.k u.k/\ah (Fv (zo x z) u.L z.y.lv u.lv (z.H=u.H/\iZ x.d u.d (O8 u/\∀w:XS,JU u.H w (tR u.L u.d u.k)->(∃t:Option Go.Addr,w.v=Value.pointer t)/\aK (bg (R4 w.v)) (Cu w.H u.lv CK.deep [] 8 1 (bW w.v) fun t h j f i=>Vy z x (bB (bu w.H u.lv) j f i) u (iK j f (t+1) h)) (Vy z x w.H u u.lv)))))) (∃u:rZ,z.y.lv=u.y.lv/\z.H=u.H/\oI u/\aP (Dk z.y.lv (vV (eC z.y.lv) z.y (fun w=>z.H w) fun w l=>∃t:Cy,z.y.lv=t.y.lv/\aM (aL l w=pv t.gb 0/\ag x.au=t.s/\z.H=t.H/\Dt t/\aP (Exists (jP (aL l w) 1 (fun h=>z.H h) fun h j=>ai (dR (aL j h)+(64:Int))/\Exists (jO (aL l w) 4 (fun f=>z.H f) fun f i=>Dk (aL i f) (Exists (jO (aL l w) 4 (fun o=>z.H o) fun o r=>qw (eC (aL i f)) /\
 ku (aL r o) (ag (eC (aL i f))-(1:Int)) fun c e=>∃p q:Nat,pv c (e+aC (ag (eC (aL i f))-(1:Int))*2)=pv p q/\pG p q 0 (fun g=>z.H g) (fun g=>mJ g) (fun g m=>True) fun g m=>ai (dR (aL m g))->sM (dR (aL m g)+(1:Int)) 64 (Exists (Vz x z t (dR (aL m g)+(1:Int)))))) (Exists (Vz x z t (dR (aL j h))))))))) (∃w:qV,ah (aJ (cK (zo x z) (cH x.from_ x.au x.d) z.y w.y (z.H=w.H/\Dv w x/\True)))))))))) (by kernel_rfl) (by
 delta aK cR aL aO ai az nZ cI gq aM aN w9 nY cm fB pG aU bI aP aZ jo bY ag Cu bD jF fF dG aq ku cK jP JN jO Dt aJ aC jd bW ah vV aS Vy Dv aI vU bf zo bg aY sM zq O8 bS nH ja Vz we Po eu AP mJ Vx Dk bw bM oH qw
 try dsimp -iota -proj only
 rintro⟨H,d,fr,sg⟩ ok;dsimp only at *;have ok:rH fr sg d:=ok;obtain⟨s1,s2⟩:=ok.wN;have s3:=ok.room;have s4:=ok.size;refine fun _=>⟨fun c=>by grind,fun _ _=>⟨fun c=>by grind,fun _=>⟨fun c=>by grind,fun _ _=>⟨by simp only[bZ];omega,by simp only[bZ];omega,fun c=>by grind,fun _ _ _=>⟨⟨⟨0,H,⟨.slice none 0 0,[]⟩⟩,?_⟩,?_⟩⟩⟩⟩⟩
 ·have h0:cV H ⟨.slice none 0 0,[]⟩ (oT fr sg d 0):=⟨⟨0,.inl ⟨rfl,rfl,rfl⟩⟩,rfl,fun i hi=>absurd hi (uh i),by simp[iW]⟩
  have h1:∀z,H z≠none->H z=H z/\¬z∈cC ⟨.slice none 0 0,[]⟩:=fun z _=>⟨rfl,by simp[cC,iW]⟩
  and_intros<;>first|exact kG|exact h0|exact h1|rfl|exact fun _ _=>⟨trivial,by simp[cC,iW]⟩
 ·rintro⟨k,X,Y⟩ ⟨hk,hX,hfr⟩;dsimp only at *;obtain⟨e1,_,⟨ea,ec,e2⟩,e3,e5⟩:=hX.vS;obtain⟨m1,m2,m3,m4⟩:=A2 fr sg d k;refine⟨fun c1=>?_,fun c1=>?_⟩
  ·have hk':k<sg:=by have:=qi c1;omega
   have hrd:=ok.rd k hk';obtain⟨hr1,hr2⟩:=XU ok k (by omega);have hstep:oT fr sg d (k+1)={ oT fr sg d k with l:=(oT fr sg d k).l++(tR (oT fr sg d k) d k).toList,run:=(lS (oT fr sg d k) d k 8).run }:=rfl;obtain⟨L,hL⟩:∃L,L=oT fr sg d k:=⟨_,rfl⟩
   rw[<- hL]at hX e1 e2 e3 m1 m2 m3 m4 hrd hr1 hr2 hstep ⊢;refine⟨yp.mk X L Y.lv d k,?_⟩
   and_intros<;>first|exact kG|exact hrd|(dsimp only;omega)|skip
   rintro⟨X1,sl,v⟩ hpost;dsimp only at hpost ⊢;cases hseg:tR L d k with
   |none =>
    rw[hseg]at hpost;obtain⟨hv,hf⟩:=hpost;dsimp only at hv hf;subst hv;have hX1:cV X1 Y (oT fr sg d (k+1)):=(hX.frame fun x hx=>hf x (hX.dom x hx)).congr (by grind);have hz:∀z,H z≠none->X1 z=H z/\¬z∈cC Y:=fun z hz=>by
     grind
    refine⟨⟨_,rfl⟩,fun c=>absurd c (by decide),fun _=>⟨by simp only[bZ];omega,⟨k+1,X1,Y⟩,?_⟩⟩
    grind [af.refl]
   |some g =>
    rw[hseg]at hpost;obtain⟨hv,hs,hf⟩:=hpost;dsimp only at hv hs hf;subst hv;have hXf:cV X1 Y L:=hX.frame fun x hx=>(hf x (hX.dom x hx)).1;refine⟨⟨_,rfl⟩,fun _=>?_,fun c=>absurd c (show ¬(true=false)by decide)⟩;obtain⟨c0,hsl⟩:=hXf.lst;refine⟨_,c0,_,hsl,?_⟩;have hone:L.l.length<=100000:=by
     have:=ok.wN;have:∀j,(oT fr sg d j).l.length<=j:=fun j=>by
      induction j with
      |zero=>exact cW _
      |succ j ih =>
       grind [oT]
     have:=this k;rw[<- hL]at this;omega
    repeat(first|refine And.intro (by omega) ?_|refine And.intro (by omega) ?_|refine And.intro (by omega) ?_)
    intro cap q1 q2 q3
    repeat(first|refine And.intro (by omega) ?_|refine And.intro (by omega) ?_|refine And.intro (by omega) ?_)
    intro p1 lo1 cs1 hp1 hl1 hr1;have hpush:=OP (lo:=lo1) (L':=oT fr sg d (k+1)) hXf hs (fun x hx=>(hf x (hX.dom x hx)).2) hp1 hl1 q1 q2 hr1 (by
     intro i hi;simp only[mA,bq,Fz];rw[jQ (by grind [hX.len]),hX.len];by_cases hin:i<L.l.length
     ·grind
     ·rw[if_neg hin,if_neg hin,show i-L.l.length=0 by omega];rfl) (by grind)
    have hz:∀z,H z≠none->bB (bu X1 Y.lv) p1 lo1 cs1 z=H z/\¬z∈cC ⟨iK p1 lo1 (L.l.length+1) cap,Y.ys++[sl]⟩:=fun z hz=>by
     grind
    refine⟨by simp only[bZ];omega,⟨k+1,bB (bu X1 Y.lv) p1 lo1 cs1,⟨iK p1 lo1 (L.l.length+1) cap,Y.ys++[sl]⟩⟩,?_⟩
    grind [af.refl]
  ·have hk':k=sg:=by have:=ug c1;omega
   subst hk';have hrng:=ok.AA;have hup:=ok.up;have hnr:=ok.near;have hone:=Io fr k d k;have hM:(cH fr k d).l=(oT fr k d k).l:=rfl;have hM2:(cH fr k d).next=xM (oT fr k d k).l:=rfl
   have hM3:(cH fr k d).from_=fr/\(cH fr k d).au=k/\(cH fr k d).run=(oT fr k d k).run/\(cH fr k d).fresh=true:=⟨m1,m2,rfl,m4⟩
   obtain⟨L,hL⟩:∃L,L=oT fr k d k:=⟨_,rfl⟩
   rw[<- hL]at hX e1 e2 e3 m1 m2 m3 m4 hone hrng hup hnr hM hM2 hM3 ⊢;obtain⟨M,hMM⟩:∃M,M=cH fr k d:=⟨_,rfl⟩
   rw[<- hMM]at hM hM2 hM3 ⊢;obtain⟨n1,n2,n3,n4⟩:=hM3;have hXM:cV X Y M:=hX.congr hM;have hso:oI ⟨X,Y,L⟩:=⟨hX,by grind,fun i hi=>(hrng i hi).1,hup⟩
   refine⟨rZ.mk X Y L,rfl,rfl,hso,fun _ _=>⟨⟨ea,_,ec,e2,e3⟩,fun c2=>?_,fun c2=>⟨⟨X,Y⟩,?_⟩⟩⟩
   ·rw[e1]at c2;have hn:0<L.l.length:=by have:=qi c2;omega
    have hk1:L.l.length-1<L.l.length:=by omega
    obtain⟨b,lo,o,c,cs,g1,g2,g3,g4⟩:=hX.at_ hk1;have hs:=hX.seg _ hk1;obtain⟨r1,r2,r3⟩:=hs.AA;obtain⟨u1,u2,u3,u4⟩:=hrng _ hk1;have hlast:L.l.getLast? = some (gl L.l (L.l.length-1)):=by rw[b8 hk1,zBG,IC hk1]
    have hall:∀i,i<L.l.length->(gl L.l (L.l.length-1)).gen-(k:Int)<(gl L.l i).gen:=hnr;obtain⟨sl,hsl⟩:∃sl,sl=gl Y.ys (L.l.length-1):=⟨_,rfl⟩
    obtain⟨g,hg⟩:∃g,g=gl L.l (L.l.length-1):=⟨_,rfl⟩
    rw[<- hg]at hs r1 r2 r3 u1 u2 u3 u4 hlast hall;rw[<- hsl]at g3 g4 hs;have e6:((L.l.length:Int)-1).toNat=L.l.length-1:=by omega
    rw[e1];refine⟨by simp only[bZ];omega,_,_,_,_,g1,by omega,b,lo,o+(L.l.length-1)*1,cs,by grind,g2,⟨⟨_,g3,rfl⟩,trivial⟩,Cy.mk X Y L sl.b g.gen k,?_⟩
    and_intros<;>first|exact kG|exact g4|exact hX|exact r1.1|exact r1.2|exact hall|exact⟨_,hs.cell⟩|(dsimp only;omega)|skip
    intro _ _;obtain⟨c9,hrec⟩:=hs.bn;obtain⟨w1,w2,w3,w4,w5,⟨wa,w7⟩,w6⟩:=iD hrec;refine⟨_,_,g4,?_⟩;refine⟨_,_,rfl,?_⟩;refine⟨_,0,_,_,rfl,hs.cell,?_⟩;refine⟨⟨⟨_,rfl,_,rfl,r2⟩,trivial⟩,fun _=>?_⟩;simp only[show dR ((eH g sl.bv sl.rv).getD 1 (Value.tuple #[]))=g.base from rfl];refine⟨by simp only[bZ];omega,_,_,g4,?_⟩;refine⟨_,_,rfl,?_⟩;refine⟨_,0,_,_,rfl,hs.cell,?_⟩;refine⟨⟨⟨_,rfl,w6⟩,trivial⟩,⟨wa,_,_,w7,by omega⟩,?_⟩;simp only[show(eH g sl.bv sl.rv).getD 4 (Value.tuple #[])=sl.rv from rfl,w1];refine⟨fun c3=>?_,fun c3=>⟨⟨X,Y⟩,?_⟩⟩
    ·have hq:0<g.bn.length:=by have:=qi c3;omega
     have hq1:g.bn.length-1<g.bn.length:=by omega
     have hrl:g.bn.getLast? = some (gl g.bn (g.bn.length-1)):=by rw[b8 hq1,zBG,IC hq1]
     have hnx:M.next=(gl g.bn (g.bn.length-1)).pos+65:=by rw[hM2];simp only[xM,hlast,hrl]
     obtain⟨b',lo',o',cs',q1,q2,q3,q4,q5,q6,q7,q8⟩:=AV hrec (k:=g.bn.length-1) hq1;obtain⟨p1,p2⟩:=u4 _ hq1;have e7:((g.bn.length:Int)-1).toNat=g.bn.length-1:=by omega
     refine⟨_,_,g4,?_⟩;refine⟨_,_,rfl,?_⟩;refine⟨_,0,_,_,rfl,hs.cell,?_⟩;refine⟨⟨⟨_,rfl,w6⟩,trivial⟩,by simp only[bZ,aB]at *;omega,?_⟩;simp only[show(eH g sl.bv sl.rv).getD 4 (Value.tuple #[])=sl.rv from rfl];refine⟨_,_,_,_,q1,by omega,_,_,rfl,b',lo',o'+(g.bn.length-1)*2,cs',by grind,q2,⟨⟨_,q3,_,rfl,q6⟩,trivial⟩,fun _=>?_⟩;rw[q7];simp only[dR];refine⟨by simp only[bZ];omega,by simp only[bZ];omega,⟨X,Y⟩,?_⟩
     grind
    ·have hq:g.bn.length=0:=by have:=ug c3;omega
     have hrl:g.bn.getLast? = none:=by rw[zAP hq];rfl
     grind [xM]
   ·rw[e1]at c2;have hn:L.l=[]:=zAP (by grind);have hnx:M.next=1:=by rw[hM2,hn];rfl
    grind)
theorem MQ:av (Y Tryz.prog).G.X 175 Pn:=bp gf ZN ⟨ZF,ZM,Vr,trivial⟩
structure Cz(H:PH)(v:Value)(vs:List Value)(rs:List RecM):Prop where
 rows:∃c,oo H v yl rs.length c (AO rs vs)
 len:vs.length=rs.length
 body:∀i,i<rs.length->iV H (vs.getD i undef) (gl rs i).body
 sep:∀x∈iW v,x∉vs.flatMap iW
variable{H:PH}{cap3 cap4 i j lo3 lo4 p3 p4 x:Nat}{cs3 cs4 vs:List Value}{l:List cQ}{rs:List RecM}{v:Value}
theorem ami(hi:i<vs.length)(hx:x∈iW (vs.getD i undef)):x∈vs.flatMap iW:=by
 grind
theorem Cz.dom(h:Cz H v vs rs):∀x,x∈iW v\/x∈vs.flatMap iW->H x≠none:=by
 rintro x (hx|hx)
 ·grind [h.rows,rD]
 ·obtain⟨u,hu,hx⟩:=zBD.1 hx;obtain⟨i,hi,rfl⟩:=List.getElem_of_mem hu;obtain⟨c,hb⟩:=h.body i (by grind [h.len])
  grind [rD]
theorem Cz.push{r:RecM}{n:Nat}(h:Cz H v vs rs)(hn:n=r.body.length)(hp3:H p3=none)
 (hb:iV (bB H p3 lo3 cs3) (iK p3 lo3 n cap3) r.body) (hp4:bu (bB H p3 lo3 cs3) v p4=none)
 (hr:oo (bB (bu (bB H p3 lo3 cs3) v) p4 lo4 cs4) (iK p4 lo4 (rs.length+1) cap4) yl (rs.length+1) cap4 (AO (rs++[r]) (vs++[iK p3 lo3 n cap3]))) :
 Cz (bB (bu (bB H p3 lo3 cs3) v) p4 lo4 cs4) (iK p4 lo4 (rs.length+1) cap4) (vs++[iK p3 lo3 n cap3]) (rs++[r]) /\
 ∀z,H z≠none->z∉iW v->z∉vs.flatMap iW->bB (bu (bB H p3 lo3 cs3) v) p4 lo4 cs4 z=H z/\z∉iW (iK p4 lo4 (rs.length+1) cap4)/\z∉(vs++[iK p3 lo3 n cap3]).flatMap iW:=by
 have hd:=h.dom;have h3:∀z,H z≠none->z≠p3:=fun z hz e=>hz (by grind);have h3v:p3∉iW v:=fun e=>hd p3 (.inl e) hp3;have h34:p4≠p3:=fun e=>by grind [qv,fJ]
 have hz4:∀z,H z≠none->z∉iW v->z≠p4:=fun z hz hv e=>by
  grind [qv,dM]
 have same:∀z,H z≠none->z∉iW v->bB (bu (bB H p3 lo3 cs3) v) p4 lo4 cs4 z=H z:=fun z hz hv=>by
  grind [dM,qv]
 have hvs:∀z∈vs.flatMap iW,z∉iW v:=fun z hz e=>h.sep z e hz;refine⟨⟨⟨cap4,by simpa using hr⟩,by simp[h.len],fun i hi=>?_,fun x hx=>?_⟩,fun z hz hv hs=>⟨same z hz hv,?_,?_⟩⟩
 ·rw[wM,ID]at hi;rw[jQ hi];by_cases hin:i<rs.length
  ·rw[if_pos hin,LP,YM (by grind [h.len]),<- LP];refine(h.body i hin).frame fun x hx=>?_
   grind [h.len]
  ·rw[if_neg hin];have e1:(vs++[iK p3 lo3 n cap3]).getD i undef=iK p3 lo3 n cap3:=by
    rw[LP,zAQ (by rw[h.len];omega),show i-vs.length=0 by rw[h.len];omega];rfl
   rw[e1];refine hb.frame fun x hx=>?_
   grind [iW,iK,dM,qv]
 ·simp only[iW,iK,zAZ]at hx;subst hx;simp only[zBL,yG,not_or]
  grind [iW,iK]
 ·grind [iW,iK]
 ·simp only[zBL,yG,not_or]
  grind [iW,iK]
def fV(l:List cQ):List RecM:=l.flatMap (·.bn)
def sP(l:List cQ)(i j:Nat):List RecM:=fV (l.take i)++(gl l i).bn.take j
theorem ZO(hj:j<(gl l i).bn.length):sP l i (j+1)=sP l i j++[gl (gl l i).bn j]:=by
 grind [sP,sJ]
theorem ZP(hi:i<l.length)(hj:(gl l i).bn.length<=j):sP l i j=fV (l.take (i+1)):=by
 grind [sP,fV,flatMap_push,List.take_of_length_le]
structure Ag where
 H:PH
 y:jD
 L:cn
structure CA where
 H:PH
 v:Value
 vs:List Value
structure yq where
 i:Nat
 j:Nat
 H:PH
 v:Value
 vs:List Value
def XV:cB where
 α:=Ag
 β:=CA
 m:=3
 m':=4
 pre:=fun a=>cV a.H a.y a.L/\a.L.l.length<1000/\∀i,i<a.L.l.length->(gl a.L.l i).bn.length<=400/\∀k,k<(gl a.L.l i).bn.length->1<=(gl (gl a.L.l i).bn k).body.length/\(gl (gl a.L.l i).bn k).body.length<=1000
 args:=fun a=>[.a (.ptr 0 0 0 0)]
 hp:=fun a=>[(1,.dg a.H)]
 ro:=fun a=>[(0,js 2 a.L a.y.lv)]
 post:=fun a b=>Cz b.H b.v b.vs (fV a.L.l)/\∀z,a.H z≠none->b.H z=a.H z/\z∉iW b.v/\z∉b.vs.flatMap iW
 res:=fun _ b=>.a (.val b.v)
 eV:=fun _ b=>[(3,.dg b.H)]
structure HV(a:Ag)(x:yq)(rs:List RecM):Prop where
 out:Cz x.H x.v x.vs rs
 fr:∀z,a.H z≠none->x.H z=a.H z/\z∉iW x.v/\z∉x.vs.flatMap iW
def ajp(a:Ag)(i:Nat):An:=.flat 8 yq (fun s x=>S.dg ((s.set 3 (.a (.val x.v))).int 24 x.j) x.H) (fun _ x=>x.j<=(gl a.L.l i).bn.length/\HV a x (sP a.L.l i x.j)) (fun _ x=>(gl a.L.l i).bn.length-x.j)
def akT(a:Ag):An:=.mk 5 yq (fun s x=>S.dg ((s.set 3 (.a (.val x.v))).int 15 x.i) x.H) (fun _ x=>x.i<=a.L.l.length/\HV a x (fV (a.L.l.take x.i))) (fun _ x=>a.L.l.length-x.i) fun x=>.mk 60 [ajp a x.i] []
def JX(x:CA)(z:Ag):=Cz x.H x.v x.vs (fV z.L.l)/\∀y:Nat,z.H y≠none->x.H y=z.H y/\¬y∈iW x.v/\¬y∈List.flatMap iW x.vs
def JY(x:Ag):=oH x.H x.y x.L (∀z:Nat,z<bY x.L->Dr x.L z)
def VA(u:yq)(x:Ag)(s:PH)(w:yq)(t f:Nat)(g:List Value)(z:yq):=uy u.i (eC x.y.lv) (gu x.y.lv) (bD (ah (bB (bu s w.v) t f g=z.H/\nI x.L x.y (dG z.j (uF x.L u.i) (HV x z (sP x.L.l u.i z.j)) w.j))))
theorem adj:fnBody (Y Tryz.prog) [] 176 XV fun a=>[(176,[akT a],[])]:=fnBody.of (p :=
 ∀x:Ag,JY x->Exists (fF x.y.lv)/\(∃z:yq,aS z.i (jd=z.v/\mY x.y.lv (bD (ah (x.H=z.H/\nI x.L x.y ((z.i<=bY x.L/\HV x z (fV (List.take z.i x.L.l)))/\True))))))/\∀z:yq,z.i<=bY x.L/\HV x z (fV (List.take z.i x.L.l))->bS z.i (eC x.y.lv) (pS x.y z.i (fun s=>z.H s) fun s k=>Exists (jO (aL k s) 4 (fun t=>z.H t) fun t g=>Exists (fF (aL g t))/\(∃u:yq,aS u.j (z.v=u.v/\mY (aL g t) (gu (aL k s)/\uy z.i (eC x.y.lv) (gu x.y.lv) (bD (ah (z.H=u.H/\nI x.L x.y ((u.j<=uF x.L z.i/\HV x u (sP x.L.l z.i u.j))/\True)))))))/\∀u:yq,u.j<=uF x.L z.i/\HV x u (sP x.L.l z.i u.j)->AW u.j (aL g t) (fun w=>u.H w) (fun w m=>ai (dR (aL m w))->FH (aL m (w+1)) (Cu u.H u.v (CK.int .i64) uC 32 2 (cI (dR (aL m w)) (bW jd)) fun o p f n q=>aY u.j (∃h:yq,bw u.j h.j (iK f n (o+1) p=h.v/\mY (aL g t) (gu (aL k s)/\VA z x u.H u f n q h)))) u.H fun o p=>FD o (fun f=>u.H f) p u.H u.v (dR (aL m w)) fun f n q h e c d A=>aY u.j (∃r:yq,bw u.j r.j (iK c d (h+1) e=r.v/\mY (aL g t) (gu (aL k s)/\VA z x (bB u.H f n q) u c d A r)))) (aY z.i (∃w:yq,bw z.i w.i (u.v=w.v/\mY x.y.lv (bD (ah (u.H=w.H/\nI x.L x.y (dG w.i (bY x.L) (HV x w (fV (List.take w.i x.L.l))) z.i))))))))) (∃s:CA,z.v=s.v /\
 z.H=s.H/\JX s x/\True)) (by kernel_rfl) (by
 delta aK cR aL aO aj ai az nZ cI aG gq aN w9 nY fB pG gu aU bI aZ bY ag Cu bD jF fF FD dG aq ku cK jO Dr aC AW jd bW ah l8 aS aI FH vU uy bf JX pS iR aY mY uC bS JY nH ja VA nI uF eu mJ AU bw bM FF oH
 try dsimp -iota -proj only
 rintro⟨H,y,L⟩ ⟨hl,h1,h2⟩;dsimp only at *;obtain⟨e1,_,⟨ea,ec,e2⟩,e3,_⟩:=hl.vS;refine⟨⟨ea,_,ec,e2,e3⟩,⟨⟨0,0,H,.slice none 0 0,[]⟩,?_⟩,fun x hx=>?_⟩
 ·have h0:HV ⟨H,y,L⟩ ⟨0,0,H,.slice none 0 0,[]⟩ (fV (L.l.take 0)):=⟨⟨⟨0,.inl ⟨rfl,rfl,rfl⟩⟩,rfl,fun i hi=>absurd hi (uh i),fun x hx=>by cases hx⟩,fun z _=>⟨rfl,by simp[iW],by simp⟩⟩
  grind
 ·obtain⟨i,j0,X,v,vs⟩:=x;obtain⟨hi,hI⟩:=hx;dsimp only at hi hI ⊢;rw[e1];refine⟨fun c1=>?_,fun c1=>?_⟩
  ·have hi':i<L.l.length:=by have:=qi c1;omega
   have hX:cV X y L:=hl.frame fun x hx=>(hI.fr x (hl.dom x hx)).1;obtain⟨b,lo,o,c,cs,g1,g2,g3,g4⟩:=hX.at_ hi';have hs:=hX.seg i hi';obtain⟨c9,hrec⟩:=hs.bn;obtain⟨m1,m2,m3,m4,m5,⟨ma,m7⟩,m6⟩:=iD hrec;obtain⟨hrl,hbl⟩:=h2 i hi';refine⟨_,_,_,_,g1,by omega,b,lo,o+i*1,cs,by grind,g2,⟨⟨_,g3,rfl⟩,trivial⟩,?_⟩;refine⟨_,_,g4,?_⟩;refine⟨_,_,rfl,?_⟩;refine⟨_,0,_,_,rfl,hs.cell,?_⟩;refine⟨⟨⟨_,rfl,m6⟩,trivial⟩,⟨ma,_,_,m7,by omega⟩,?_⟩;simp only[show(eH (gl L.l i) (gl y.ys i).bv (gl y.ys i).rv).getD 4 (Value.tuple #[])=(gl y.ys i).rv from rfl,m1];refine⟨⟨⟨i,0,X,v,vs⟩,?_⟩,fun x2 hx2=>?_⟩
   ·have h0:HV ⟨H,y,L⟩ ⟨i,0,X,v,vs⟩ (sP L.l i 0):=by
     have:sP L.l i 0=fV (L.l.take i):=by simp[sP]
     rw[this];exact⟨hI.out,hI.fr⟩
    grind
   ·obtain⟨i2,j,X,v,vs⟩:=x2;obtain⟨hj,hJ⟩:=hx2;dsimp only at hj hJ ⊢;have hX:cV X y L:=hl.frame fun x hx=>(hJ.fr x (hl.dom x hx)).1;have hs:=hX.seg i hi';obtain⟨c9,hrec⟩:=hs.bn;have hlen:(sP L.l i j).length<=400400:=by
     have a1:=pg (l:=L.l) (f:=fun g:cQ=>g.bn) (m:=400) (fun q hq=>(h2 q hq).1) i (by omega);unfold sP fV;rw[wM,zBj];omega
    refine⟨fun c2=>?_,fun c2=>⟨by simp only[bZ];omega,⟨i+1,0,X,v,vs⟩,?_⟩⟩
    ·have hj':j<(gl L.l i).bn.length:=by have:=qi c2;omega
     obtain⟨b',lo',o',cs',q1,q2,q3,q4,q5,q6,q7,q8⟩:=AV hrec (k:=j) hj';obtain⟨cb,hbody⟩:=hs.body j hj';obtain⟨w1,w2,w3,w4,w5,⟨wa,w7⟩,w6⟩:=iD hbody;obtain⟨hb1,hb2⟩:=hbl j hj';have hnil:LZ ((gl y.ys i).vs.getD j undef)=false:=by
      rcases hbody with⟨_,h0,_⟩ | ⟨b9,lo9,o9,cs9,h9,_⟩
      ·omega
      ·rw[h9];rfl
     refine⟨_,_,_,_,q1,by omega,b',lo',o'+j*2,cs',by grind,q2,⟨⟨_,q3,_,rfl,q6⟩,⟨_,q4,q5⟩,trivial⟩,fun _=>?_⟩;rw[q7,q8];refine⟨⟨wa,_,_,w7⟩,fun c4=>absurd c4 (by grind),fun _=>?_⟩
     repeat(first|refine And.intro (by omega) ?_|refine And.intro (by omega) ?_|refine And.intro (by omega) ?_)
     refine⟨_,cb,_,hbody,?_⟩;simp only[mA]
     repeat(first|refine And.intro (by omega) ?_|refine And.intro (by omega) ?_|refine And.intro (by omega) ?_)
     intro cap3 u1 u2 u3
     repeat(first|refine And.intro (by omega) ?_|refine And.intro (by omega) ?_|refine And.intro (by omega) ?_)
     intro p3 lo3 cs3 hp3 hl3 hr3;obtain⟨r,hr⟩:∃r,r=gl (gl L.l i).bn j:=⟨_,rfl⟩
     rw[<- hr]at hbody hb1 hb2 hr3 u1 u3 ⊢;have hCb:iV (bB X p3 lo3 cs3) (iK p3 lo3 r.body.length cap3) r.body:=by
      refine⟨cap3,rF hl3 u1 u2 hr3 fun q hq j hj=>?_⟩;have hj0:j=0:=by simpa using hj
      subst hj0;simp only[bq,uh,if_false,LL]
     obtain⟨c8,hout⟩:=hJ.out.rows;have hx3:∀x,X x≠none->x≠p3:=fun x hx e=>hx (by grind);have hout4:oo (bB X p3 lo3 cs3) v yl (sP L.l i j).length c8 (AO (sP L.l i j) vs):=l7 hout fun x hx=>dM (hx3 x (rD hout x hx));refine⟨_,c8,_,hout4,?_⟩
     repeat(first|refine And.intro (by omega) ?_|refine And.intro (by omega) ?_|refine And.intro (by omega) ?_)
     intro cap4 v1 v2 v3
     repeat(first|refine And.intro (by omega) ?_|refine And.intro (by omega) ?_|refine And.intro (by omega) ?_)
     intro p4 lo4 cs4 hp4 hl4 hr4;have hvl:vs.length=(sP L.l i j).length:=hJ.out.len;have hr5:oo (bB (bu (bB X p3 lo3 cs3) v) p4 lo4 cs4) (iK p4 lo4 ((sP L.l i j).length+1) cap4) yl ((sP L.l i j).length+1) cap4 (AO (sP L.l i j++[r]) (vs++[iK p3 lo3 r.body.length cap3])):=by
      refine rF hl4 v1 v2 hr4 fun q hq j' hj2=>?_;simp only[bq,AO,mA];by_cases hin:q<(sP L.l i j).length
      ·grind [cu]
      ·rw[if_neg hin];obtain rfl:q=(sP L.l i j).length:=by omega
       rw[zBr];have hj2:j'<2:=hj2
       match j',hj2 with
       |0,_=>rw[if_pos rfl,show(sP L.l i j).length=(sP L.l i j).length+0 from rfl,bt];rfl
       |1,_=>rw[if_neg (by decide),LP,zAQ (by omega),hvl,zBr];rfl
     obtain⟨hO,hF⟩:=hJ.out.push (r:=r) rfl hp3 hCb hp4 hr5;have hN:HV ⟨H,y,L⟩ ⟨i,j+1,bB (bu (bB X p3 lo3 cs3) v) p4 lo4 cs4,iK p4 lo4 ((sP L.l i j).length+1) cap4,vs++[iK p3 lo3 r.body.length cap3]⟩ (sP L.l i (j+1)):=by
      refine⟨by grind [ZO],fun z hz=>?_⟩;obtain⟨a1,a2,a3⟩:=hJ.fr z hz;obtain⟨b1,b2,b3⟩:=hF z (by grind) a2 a3;exact⟨b1.trans a1,b2,b3⟩
     refine⟨by simp only[bZ];omega,⟨i,j+1,bB (bu (bB X p3 lo3 cs3) v) p4 lo4 cs4,iK p4 lo4 ((sP L.l i j).length+1) cap4,vs++[iK p3 lo3 r.body.length cap3]⟩,?_⟩
     grind
    ·have hj':¬j<(gl L.l i).bn.length:=by have:=ug c2;omega
     have hN:HV ⟨H,y,L⟩ ⟨i+1,0,X,v,vs⟩ (fV (L.l.take (i+1))):=by
      rw[<- ZP hi' (Nat.le_of_not_lt hj')];exact⟨hJ.out,hJ.fr⟩
     grind
  ·have hi':i=L.l.length:=by have:=ug c1;omega
   subst hi';rw[zBd]at hI;refine⟨⟨X,v,vs⟩,?_⟩
   and_intros<;>first|exact kG|exact hI.out|exact hI.fr|rfl)
theorem SP:av (Y Tryz.prog).G.X 176 XV:=bp gf adj trivial
end Go.Proofs.YtfjgoonelcaggaaGreat
namespace Go.Proofs.YtfjgoonelcaggaaGreat.Ix
open Go.Sx
def XW(a b:Int):Int:=eW .xor .u64 a b
def w64(a:Int):Int:=uw .u64 a
def adk(x:Int):Int:=w64 (XW x (x/1073741824)*13787848793156543929)
def adl(x:Int):Int:=w64 (XW x (x/134217728)*10723151780598845931)
def adm(x:Int):Int:=XW x (x/2147483648)
def wg(x:Int):Int:=adm (adl (adk x))
def Hp:cB where
 α:=Int
 m:=0
 m':=0
 args:=fun a=>[.a (.int .u64 a)]
 res:=fun a _=>.a (.int .u64 (wg a))
def _root_.adn(x y z u:Int):Int:=rA (dI (rA x (x/y)*z)) (dI (rA x (x/y)*z)/u)
def _root_.Pp(x y:Int):=True->(0:Int)<=30/\(0:Int)<=27/\(0:Int)<=31/\Exists (bN (adn (dI (rA x (x/(1073741824:Int))*(13787848793156543929:Int))) 134217728 10723151780598845931 2147483648=y))
theorem JZ:fnBody (Y Tryz.prog) [] 120 Hp fun _=>[]:=fnBody.of (p :=
 ∀x:Int,Pp x (Ix.wg x)) (by kernel_rfl) (by
 delta bN adn dI aD rA bA Pp
 intro a _;exact⟨by decide,by decide,by decide,(),rfl,trivial,trivial⟩)
theorem Eo:av (Y Tryz.prog).G.X 120 Hp:=bp gf JZ trivial
def qy(h:Int)(b:ByteArray):Nat->Int
 |0=>h
 |i+1=>w64 (wg (XW (qy h b i) ((b.data.getD i 0).toNat:Int))+1)
def ado(h:Int)(b:ByteArray):Int:=wg (XW (qy h b b.size) (w64 (256+w64 b.size)))
def iE(g:Nat->ByteArray):Nat->Int
 |0=>11400714819323198485
 |i+1=>ado (iE g i) (g i)
structure ZQ where
 g:Nat->ByteArray
 n:Nat
 cap:Nat
def zu:cB where
 α:=ZQ
 m:=1
 m':=1
 pre:=fun a=>a.n<100000/\∀i,i<a.n->(a.g i).size<=aB
 args:=fun a=>[.a (.slc 0 0 1 a.n a.cap)]
 ro:=fun a=>[(0,.arr 9 [.str] a.n (fun i _=>.string (a.g i)))]
 res:=fun a _=>.a (.int .u64 (iE a.g a.n))
def ajq(a:ZQ)(i:Nat):An:=.flat 6 Nat (fun s j=>(s.int 15 j).set 3 (.a (.int .u64 (qy (iE a.g i) (a.g i) j)))) (fun _ j=>j<=(a.g i).size) (fun _ j=>(a.g i).size-j)
def ajr(a:ZQ):An:=.mk 3 Nat (fun s i=>(s.int 9 i).set 3 (.a (.int .u64 (iE a.g i)))) (fun _ i=>i<=a.n) (fun _ i=>a.n-i) (fun i=>.mk 60 [ajq a i] [])
def _root_.FL(y:ByteArray)(u x z:Nat)(v:Nat->ByteArray)(w:Prop):=bf (aT y)/\y=y/\uy u x (aQ x z) (aJ (aQ x z/\(cE x 1 fun s t=>bR (v s))/\w))
def _root_.FM(x y:Nat)(z:Nat->ByteArray)(u:Prop):=dU x y (aJ (aQ x y/\(cE x 1 fun v w=>bR (z v))/\u))
theorem FN:fnBody (Y Tryz.prog) [(120,Hp)] 66 zu fun a=>[(66,[ajr a],[])]:=fnBody.of (p :=
 ∀x:Ix.ZQ,(x.n<100000/\∀s:Nat,s<x.n->aT (x.g s)<=aB)->(∃y:Nat,(11400714819323198485:Int)=Ix.iE x.g y/\aS y (FM x.n x.cap (fun z=>x.g z) (bE y x.n)))/\∀y:Nat,fS y x.n ((∃z:Nat,Ix.iE x.g y=Ix.qy (Ix.iE x.g y) (x.g y) z/\aS z (FL (x.g (0+aG y)) y x.n x.cap (fun t=>x.g t) (bE z (aT (x.g y)))))/\∀z:Nat,z<=aT (x.g y)->bS z (aT (x.g (0+aG y))) (aZ (ag z) (ag (aT (x.g (0+aG y))))/\∃v:Int,rA (Ix.qy (Ix.iE x.g y) (x.g y) z) (ag ((x.g (0+aG y)).data.getD (aG z) (0:UInt8)).toNat)=v/\cZ (aY z (∃u:Nat,dI (Ix.wg v+(1:Int))=Ix.qy (Ix.iE x.g y) (x.g y) u/\bw z u (FL (x.g (0+aG y)) y x.n x.cap (fun w=>x.g w) (bL u (aT (x.g y)) z))))) (∃v:Int,rA (Ix.qy (Ix.iE x.g y) (x.g y) z) (dI ((256:Int)+dI (ag (aT (x.g (0+aG y))))))=v/\cZ (aY y (∃u:Nat,Ix.wg v=Ix.iE x.g u/\bw y u (FM x.n x.cap (fun w=>x.g w) (bL u x.n y)))))) (Exists (bN (Ix.iE x.g y=Ix.iE x.g x.n)))) (by kernel_rfl) (by
 delta cE aK cR aQ aO ai aA az aG aN bK aU gI bI bN aP aZ ag aT bL aq dU bR dI aJ aC FL aS fS aI aD uy bf rA aY bA bS cZ FM bw bM bE
 try dsimp -iota -proj only
 intro a h;obtain⟨hn,hs⟩:=h;simp only[mA,Ay];refine⟨⟨0,by and_intros<;>(first|exact trivial|rfl|omega|assumption|exact af.refl _ _ _|(simp only[bZ];omega)|(simp;done)|(simp;omega)|grind)⟩,fun i hi=>⟨fun h1=>?_,fun h1=>?_⟩⟩
 ·have hi':i<a.n:=by simpa using h1
  have hsz:=hs i hi';refine⟨by omega,hi',⟨0,by and_intros<;>(first|exact trivial|rfl|omega|assumption|exact af.refl _ _ _|(simp only[bZ];omega)|(simp;done)|(simp;omega)|grind)⟩,fun j hj=>⟨fun h2=>?_,fun h2=>?_⟩⟩
  ·have hj':j<(a.g i).size:=by simpa using h2
   refine⟨by omega,_,rfl,trivial,fun _ _=>⟨by simp only[bZ,aB]at *;omega,j+1,?_⟩⟩
   and_intros<;>(first|exact trivial|rfl|omega|assumption|exact af.refl _ _ _|(simp only[bZ];omega)|(simp;done)|(simp;omega)|grind)
  ·have hj' : j = (a.g i).size := by have : ¬ j < (a.g i).size := by simpa using h2
                                     omega
   subst hj';refine⟨_,rfl,trivial,fun _ _=>⟨by simp only[bZ];omega,i+1,?_⟩⟩
   and_intros<;>(first|exact trivial|rfl|omega|assumption|exact af.refl _ _ _|(simp only[bZ];omega)|(simp;done)|(simp;omega)|grind)
 ·have hi' : i = a.n := by have : ¬ i < a.n := by simpa using h1
                           omega
  subst hi';exact⟨(),rfl,trivial,trivial⟩)
theorem yu:av (Y Tryz.prog).G.X 66 zu:=bp gf FN ⟨Eo,trivial⟩
structure bX where
 key:ByteArray
 pos:Int
 has:Bool
 gone:Bool
 deriving Inhabited
def p9(p:bX):List Value:=[.string p.key,.int .i64 p.pos,.bool p.has,.bool p.gone]
def ksP:List CK:=[.str,.int .i64,.bool,.bool]
def Pq(key:ByteArray):Int:=iE (fun _=>key) 1
def fC(L:Nat)(key:ByteArray):Nat:=(Pq key).toNat%L
def hit(key:ByteArray)(p:bX):Bool:=p.has&&decide (p.key=key)
def bare(p:bX):Bool:=!p.has&&!p.gone
def iF(t:List bX)(key:ByteArray):Nat->Nat->Int->Int×Int
 |0,_,free=>(-1,free)
 |k+1,i,free=>if hit key (gl t i)then((i:Int),(i:Int))else
  let f:=if !(gl t i).has&&decide (free<0)then(i:Int)else free
  if bare (gl t i)then(-1,f)else iF t key k ((i+1)%t.length) f
def cM(t:List bX)(key:ByteArray):Int×Int:=iF t key t.length (fC t.length key) (-1)
def tS(o a:Nat)(t:List bX)(cap n used:Nat):List (Nat×Chunk):=[(o,.obj 247 [.slc a 0 4 t.length cap,.int .i64 n,.int .i64 used]),(a,.arr 251 ksP t.length (aa p9 t))]
theorem agZ{k:IntKind}{n:Int}(h:bZ k n):k.wrap n=n:=by
 cases k<;>simp only[bZ]at h<;>simp[IntKind.wrap,IntKind.bits,IntKind.signed,Int.emod_def]<;>omega
theorem ZR(a b:Int):0<=XW a b/\XW a b<18446744073709551616:=by
 grind [XW,eW,IJ,uw]
theorem Mc(key:ByteArray):0<=Pq key:=(ZR _ _).1
theorem wh{L:Nat}(key:ByteArray)(h:1<=L):fC L key<L:=Nat.mod_lt _ h
theorem start_eq{L:Nat}(key:ByteArray)(h:1<=L)(h2:L<100000):uw .i64 (iE (fun _=>key) 1%uw .u64 (L:Int))=(fC L key:Int):=by
 have e1:uw .u64 (L:Int)=L:=by simp only[uw];omega
 have h0:=Mc key;have h3:=wh key h;have e2:Pq key%(L:Int)=(fC L key:Int):=by
  unfold fC;rw[Int.natCast_emod,Int.toNat_of_nonneg h0]
 rw[e1];show uw .i64 (Pq key%(L:Int))=_;rw[e2];exact agZ (by simp only[bZ];omega)
variable{i:Nat}{t:List bX}
theorem ah0{L:Nat}:((i:Int)+1).tmod (L:Int)=(((i+1)%L:Nat):Int):=by
 grind
theorem FO{key:ByteArray}{at_:Nat}{free:Int}{r:Int×Int}(hi:i<t.length)(h:iF t key (t.length-i) at_ free=r) :
 (if hit key (gl t at_)then((at_:Int),(at_:Int))else
 if bare (gl t at_)then(-1,if !(gl t at_).has&&decide (free<0)then(at_:Int)else free)else iF t key (t.length-(i+1)) ((at_+1)%t.length) (if !(gl t at_).has&&decide (free<0)then(at_:Int)else free))=r:=by
 rw[<- h,show t.length-i=(t.length-(i+1))+1 by omega];rfl
structure tT where
 t:List bX
 cap:Nat
 n:Nat
 used:Nat
 key:ByteArray
def MR:cB where
 α:=tT
 m:=2
 m':=2
 pre:=fun a=>1<=a.t.length/\a.t.length<100000/\a.key.size<=aB
 args:=fun a=>[.a (.ptr 0 0 0 0),.a (.str a.key)]
 ro:=fun a=>tS 0 1 a.t a.cap a.n a.used
 res:=fun a _=>.nR [.a (.int .i64 (cM a.t a.key).1),.a (.int .i64 (cM a.t a.key).2)]
def akU(a:tT):An:=.flat 4 (Nat×Nat×Int) (fun s x=>((s.int 25 x.1).int 7 x.2.1).set 6 (.a (.int .i64 x.2.2)))
 (fun _ x=>x.1<=a.t.length/\x.2.1<a.t.length/\-1<=x.2.2/\x.2.2<a.t.length/\iF a.t a.key (a.t.length-x.1) x.2.1 x.2.2=cM a.t a.key) (fun _ x=>a.t.length-x.1)
def _root_.Pr(y:Nat×Nat×Int)(x:Ix.tT):=y.snd.fst<x.t.length/\(-1:Int)<=y.snd.snd/\y.snd.snd<ag x.t.length/\Ix.iF x.t x.key (x.t.length-y.fst) y.snd.fst y.snd.snd=Ix.cM x.t x.key
def _root_.VB(x:Ix.tT)(y:Prop):=mI (ag x.t.length) (ah (x.key=x.key/\aQ x.t.length x.cap/\cR (ag x.n) (ag x.used) (cE x.t.length 4 (aa Ix.p9 x.t)) y))
def _root_.Pt(y:Int)(x:Ix.tT)(z:Int):=Exists (aD (y=(Ix.cM x.t x.key).fst/\bA (z=(Ix.cM x.t x.key).snd)))
def _root_.nJ(x:List Ix.bX)(y:Nat):Ix.bX:=gl x (0+aG y)
def _root_.VC(x:Ix.tT)(y:Nat×Nat×Int)(u:Int):=rV (bg (Ix.bX.has (nJ x.t y.snd.fst))) (bg (Ix.bX.gone (nJ x.t y.snd.fst))) (Pt (-1:Int) x u) (aY y.snd.fst (ag x.t.length≠(0:Int)/\aY y.fst (∃z:Nat×Nat×Int,u=z.snd.snd/\Int.tmod (bI y.snd.fst) (ag x.t.length)=ag z.snd.fst/\bw y.fst z.fst (VB x (dG z.fst x.t.length (Pr z x) y.fst)))))
def _root_.FP(z:ByteArray)(u:Ix.ZQ->Prop):Ix.ZQ->Prop:=fun(x:Ix.ZQ)=>iQ 1 x.n 1 x.cap 1 (aV 1 (bW (bR z))) (fun y v=>bR (x.g y)) (x.n<100000/\∀y:Nat,y<x.n->aT (x.g y)<=aB) (u x)
def _root_.wk(x:Nat)(y:Prop):=1<=x/\x<100000/\y
theorem adp:fnBody (Y Tryz.prog) [(66,zu)] 168 MR fun a=>[(168,[akU a],[])]:=fnBody.of (p :=
 ∀y:Ix.tT,wk y.t.length (aT y.key<=aB)->Exists (FP y.key fun z=>aP (dI (ag y.t.length)≠(0:Int)/\(∃x:Nat×Nat×Int,(-1:Int)=x.snd.snd/\sK (Ix.iE z.g z.n%dI (ag y.t.length))=ag x.snd.fst/\aS x.fst (VB y ((x.fst<=y.t.length/\Pr x y)/\True)))/\∀x:Nat×Nat×Int,x.fst<=y.t.length/\Pr x y->bS x.fst y.t.length (fO x.snd.fst y.t.length (rV (Ix.bX.has (nJ y.t x.snd.fst)) (fc (Ix.bX.key (nJ y.t x.snd.fst)) y.key) (Pt (ag x.snd.fst) y (ag x.snd.fst)) (rV (bg (Ix.bX.has (nJ y.t x.snd.fst))) (aN x.snd.snd 0) (VC y x (ag x.snd.fst)) (VC y x x.snd.snd)))) (Pt (-1:Int) y x.snd.snd)))) (by kernel_rfl) (by
 delta rV cE aK cR aQ ai aA az aG aN bK aU bI aP aZ ag aT dG aq bR iQ VC dS dI aC bW ah aS aI aD Pr fO bg FP fc aY ax bA VB bS mI Pt wk bw bM nJ sK
 try dsimp -iota -proj only
 intro a h;obtain⟨h1,h2,h3⟩:=h;have hst:=wh a.key h1;refine⟨⟨fun _=>a.key,1,1⟩,?_⟩;simp only[mA,Ay,start_eq a.key h1 h2,ah0];refine⟨⟨trivial,trivial,trivial⟩,⟨cW _,.fN fun j hj=>?_⟩,⟨by omega,fun _ _=>h3⟩,fun _ _=>⟨by grind [uw],⟨(0,fC a.t.length a.key,-1),?_⟩,fun x hx=>?_⟩⟩
 ·have:j=0:=by omega
  subst this;rfl
 ·dsimp only
  and_intros<;>(first|exact trivial|rfl|omega|assumption|exact af.refl _ _ _|(simp only[bZ];omega)|(simp;done)|(simp;omega)|grind)
 ·obtain⟨i,at_,free⟩:=x;obtain⟨i1,i2,i3,i4,i5⟩:=hx;dsimp only at *;have hmod:(at_+1)%a.t.length<a.t.length:=Nat.mod_lt _ h1;have stop:i=a.t.length->cM a.t a.key=(-1,free):=by
   intro e;rw[<- i5,e,zBr];rfl
  have step:=fun hi=>FO (i:=i) hi i5;simp only[bZ]
  repeat' (first|intro _|apply And.intro|apply Exists.intro ()|apply Exists.intro ((i+1,(at_+1)%a.t.length,_):Nat×Nat×Int))
  all_goals(try with_reducible rfl)
  all_goals(try exact af.refl _ _ _)
  all_goals(try dsimp only)
  all_goals(try simp only[tB,decide_eq_false_iff_not]at *)
  all_goals(try omega)
  all_goals(try(have h9:=step (by omega);grind [hit,bare]))
  all_goals grind)
theorem Ep:av (Y Tryz.prog).G.X 168 MR:=bp gf adp ⟨yu,trivial⟩
structure dO where
 t:List bX
 n:Nat
 used:Nat
def sQ(x:dO)(key:ByteArray):Int:=if 0<=(cM x.t key).1 then(gl x.t (cM x.t key).1.toNat).pos else 0
def qW(x:dO)(key:ByteArray)(pos:Int):dO :=
 if 0<=(cM x.t key).1 then { x with t:=x.t.set (cM x.t key).1.toNat { gl x.t (cM x.t key).1.toNat with pos:=pos } }
 else⟨x.t.set (cM x.t key).2.toNat ⟨key,pos,true,false⟩,x.n+1,if(gl x.t (cM x.t key).2.toNat).gone then x.used else x.used+1⟩
theorem tU(x:dO)(key:ByteArray)(pos:Int):(qW x key pos).t.length=x.t.length:=by grind [qW]
theorem Hq(t:List bX)(key:ByteArray)(h:1<=t.length):∀(k i:Nat) (f:Int),i<t.length->f<t.length->(iF t key k i f).1<t.length/\(iF t key k i f).2<t.length
 |0,i,f,hi,hf=>by grind [iF]
 |k+1,i,f,hi,hf=>by
  have h1:(if !(gl t i).has&&decide (f<0)then(i:Int)else f)<t.length:=by split<;>omega
  unfold iF;by_cases hh:hit key (gl t i)=true
  ·grind
  ·rw[if_neg hh];dsimp only;by_cases hb:bare (gl t i)=true
   ·grind
   ·rw[if_neg hb];exact Hq t key h k _ _ (Nat.mod_lt _ h) h1
theorem A3(key:ByteArray)(h:1<=t.length):(cM t key).1<t.length/\(cM t key).2<t.length :=
 Hq t key h _ _ _ (wh key h) (by omega)
structure qo where
 x:dO
 cap:Nat
 key:ByteArray
 pos:Int
def adq:cB where
 α:=qo
 m:=2
 m':=2
 pre:=fun a=>1<=a.x.t.length/\a.x.t.length<100000/\a.key.size<=aB/\2*a.x.used<a.x.t.length/\a.x.n<100000/\((cM a.x.t a.key).1<0->0<=(cM a.x.t a.key).2)
 args:=fun a=>[.a (.ptr 0 0 0 0),.a (.str a.key),.a (.int .i64 a.pos)]
 hp:=fun a=>tS 0 1 a.x.t a.cap a.x.n a.x.used
 res:=fun a _=>.a (.int .i64 (sQ a.x a.key))
 eV:=fun a _=>tS 0 1 (qW a.x a.key a.pos).t a.cap (qW a.x a.key a.pos).n (qW a.x a.key a.pos).used
def adr:cB where
 α:=Unit
 m:=1
 m':=1
 pre:=fun _=>False
 args:=fun _=>[.a (.ptr 0 0 0 0)]
 res:=fun _ _=>.a .any
theorem ZS(f:Nat):av (Y Tryz.prog).G.X f adr:=bp gf (mB:=[]) (l:=fun _=>[]) ⟨fun a h=>False.elim h⟩ trivial
def _root_.mR(x:Int)(y:Nat)(z:Prop):=dS x y (0+aC x) z
def _root_.dh(x:Ix.dO):Nat:=x.t.length
def _root_.A4(y:Ix.dO)(x:List Ix.bX)(z u:Nat)(v w:Prop)(s:Nat->Nat->Value)(t f:Prop):=ax (dh y) x.length z u/\v/\w/\aA x.length (dh y) 4 s (aa Ix.p9 x)/\t/\f
def _root_.Dw(z:ByteArray)(x:Ix.tT)(y:Ix.dO)(u:Nat)(v:Prop):=ah (z=x.key/\A4 y x.t u x.cap (cm y.n x.n) (cm y.used x.used) (aa Ix.p9 y.t) (wk x.t.length (aT x.key<=aB)) (aP v))
def _root_.xN(x:Ix.tT):Nat:=0+aC (Ix.cM x.t x.key).fst
def _root_.Pu(z:Ix.qo)(x:Ix.tT)(y:Ix.dO)(u:Nat)(v w s:Prop):=Dw z.key x y u (aK (bF 0 (Ix.cM x.t x.key).fst) (mR (Ix.cM x.t x.key).fst (dh y) (ai (gl y.t (xN x)).pos->mR (Ix.cM x.t x.key).fst (dh y) v)) (mR (Ix.cM x.t x.key).snd (dh y) (aK (bg (gl y.t (0+aC (Ix.cM x.t x.key).snd)).gone) (ai (ag y.used)->aY y.used (mR (Ix.cM x.t x.key).snd (dh y) (ai (ag y.n)->aY y.n w))) (mR (Ix.cM x.t x.key).snd (dh y) (ai (ag y.n)->aY y.n s)))))
def _root_.rI(x:ByteArray)(y:Int)(z:Value)(u:Bool):List Value:=bR x::cI y (ia z (cF u) [])
def _root_.FQ(v:Ix.dO)(x:Ix.qo)(y z:Ix.dO)(w s:Nat)(f:Prop)(u:Ix.tT):=(0:Int)=Ix.sQ v x.key/\A4 y z.t w s (bI y.n=ag z.n) f (mO (aa Ix.p9 y.t) (0+aC (Ix.cM u.t u.key).snd) 0 (rI x.key x.pos (cF true) false)) True True
def _root_.Pv(x:Ix.dO)(z:Ix.tT)(v:Ix.dO)(u:Ix.qo)(y:Ix.dO)(w s:Nat):=(gl x.t (xN z)).pos=Ix.sQ v u.key/\A4 x y.t w s (cm x.n y.n) (cm x.used y.used) (mO (aa Ix.p9 x.t) (xN z) 1 (gm u.pos)) True True
def _root_.VD(y:Ix.qo):Ix.tT->Prop:=fun(z:Ix.tT)=>Pu y z y.x y.cap (Exists (aD (Pv y.x z y.x y (Ix.qW y.x y.key y.pos) y.cap y.cap))) (Exists (aD (FQ y.x y y.x (Ix.qW y.x y.key y.pos) y.cap y.cap (bI y.x.used=ag (Ix.qW y.x y.key y.pos).used) z))) (Exists (aD (FQ y.x y y.x (Ix.qW y.x y.key y.pos) y.cap y.cap (cm y.x.used (Ix.qW y.x y.key y.pos).used) z)))
def _root_.FR(x:Ix.dO)(z:Nat)(y:ByteArray):=2*x.used<z/\x.n<100000/\((Ix.cM x.t y).fst<(0:Int)->(0:Int)<=(Ix.cM x.t y).snd)
theorem ads:fnBody (Y Tryz.prog) [(168,MR),(167,adr)] 123 adq fun _=>[]:=fnBody.of (p :=
 ∀y:Ix.qo,wk (dh y.x) (aT y.key<=aB/\FR y.x (dh y.x) y.key)->ai (ag y.x.used)->zh ((2:Int)*ag y.x.used) (ag (dh y.x)) (Exists (aD (ah (False/\aP (Exists (VD y)))))) (Exists (VD y))) (by kernel_rfl) (by
 delta aK ai aA cI mR cm ia fB aU bI A4 aP aZ ag dh aT aq Pu FQ bR bF Pv dS aC ah cF aD VD Dw bg rI aY ax gm FR xN zh wk
 try dsimp -iota -proj only
 intro a h;obtain⟨h1,h2,h3,h4,h5,h6⟩:=h;obtain⟨l1,l2⟩:=A3 a.key h1;have hl:=tU a.x a.key a.pos;have yes:0<=(cM a.x.t a.key).1->qW a.x a.key a.pos={ a.x with t:=a.x.t.set (cM a.x.t a.key).1.toNat { gl a.x.t (cM a.x.t a.key).1.toNat with pos:=a.pos } }:=fun e=>if_pos e;have no:¬0<=(cM a.x.t a.key).1->qW a.x a.key a.pos=⟨a.x.t.set (cM a.x.t a.key).2.toNat ⟨a.key,a.pos,true,false⟩,a.x.n+1,if(gl a.x.t (cM a.x.t a.key).2.toNat).gone then a.x.used else a.x.used+1⟩:=fun e=>if_neg e;simp only[mA,bZ];refine fun _=>⟨by omega,fun e=>absurd e (by simp;omega),fun _=>⟨⟨a.x.t,a.cap,a.x.n,a.x.used,a.key⟩,?_⟩⟩
 dsimp only
 repeat' (first|intro _|apply And.intro|apply Exists.intro ())
 all_goals(try with_reducible rfl)
 all_goals(try simp only[tB,decide_eq_false_iff_not,RM,zBm]at *)
 all_goals(try exact trivial)
 all_goals(try omega)
 all_goals(try(grind [sQ]))
 all_goals(try(with_reducible exact af.refl _ _ _))
 all_goals(first|(rw[yes (by assumption)];refine .set _ (by omega) (fun i hi=>by grind [iY]) ?_;simp only[kK];rfl)|(rw[no (by assumption)];refine .set _ (by omega) (fun i hi=>by grind [iY]) ?_;simp only[kK];rfl)))
theorem adt:av (Y Tryz.prog).G.X 123 adq:=bp gf ads ⟨Ep,ZS _,trivial⟩
def gA(t:List bX)(y:dO):Nat->dO
 |0=>y
 |i+1=>if(gl t i).has then qW (gA t y i) (gl t i).key (gl t i).pos else gA t y i
def cS(n:Nat):dO:=⟨List.replicate n ⟨.empty,0,false,false⟩,0,0⟩
theorem qa(t:List bX)(y:dO):∀i,(gA t y i).t.length=y.t.length
 |0=>rfl
 |i+1=>by
  unfold gA;split
  ·rw[tU,qa t y i]
  ·exact qa t y i
theorem zv{α:Type}[Inhabited α]{n:Nat}{x:α}(h:i<n):gl (List.replicate n x) i=x:=by
 grind [b8]
def pH(x:dO):dO:=gA x.t (cS (max 16 (4*x.n))) x.t.length
structure Hr where
 x:dO
 cap:Nat
def adu:cB where
 α:=Hr
 β:=Nat
 m:=2
 m':=3
 pre:=fun a=>1<=a.x.t.length/\a.x.t.length<100000/\a.x.n<10000/\(∀i,i<a.x.t.length->(gl a.x.t i).key.size<=aB) /\
  ∀i,i<a.x.t.length->(gl a.x.t i).has=true->2*(gA a.x.t (cS (max 16 (4*a.x.n))) i).used<max 16 (4*a.x.n)/\(gA a.x.t (cS (max 16 (4*a.x.n))) i).n<100000 /\
   ((cM (gA a.x.t (cS (max 16 (4*a.x.n))) i).t (gl a.x.t i).key).1<0->0<=(cM (gA a.x.t (cS (max 16 (4*a.x.n))) i).t (gl a.x.t i).key).2)
 args:=fun a=>[.a (.ptr 0 0 0 0)]
 hp:=fun a=>[(0,.obj 247 [.slc 1 0 4 a.x.t.length a.cap,.int .i64 a.x.n,.int .i64 a.x.used])]
 ro:=fun a=>[(1,.arr 251 ksP a.x.t.length (aa p9 a.x.t))]
 res:=fun _ _=>.nR []
 eV:=fun a cap=>tS 0 2 (pH a.x).t cap (pH a.x).n (pH a.x).used
def akV(a:Hr):An:=.flat 3 (Nat×Nat) (fun s x=>(((s.at_ (s.tg 0) (.obj 247 [.slc (s.uZ (s.tg 0) 0) 0 4 (max 16 (4*a.x.n)) x.2,.int .i64 (gA a.x.t (cS (max 16 (4*a.x.n))) x.1).n,.int .i64 (gA a.x.t (cS (max 16 (4*a.x.n))) x.1).used])).at_ (s.uZ (s.tg 0) 0) (.arr 251 ksP (max 16 (4*a.x.n)) (aa p9 (gA a.x.t (cS (max 16 (4*a.x.n))) x.1).t))).int 21 x.1))
 (fun _ x=>x.1<=a.x.t.length) (fun _ x=>a.x.t.length-x.1)
def _root_.sR(y:Ix.Hr)(z:Nat):Ix.dO:=Ix.gA y.x.t (Ix.cS (max 16 (4*y.x.n))) z
def _root_.FT(x y:Ix.dO)(z:Prop):=cm x.n y.n/\cm x.used y.used/\z
def _root_.Pw(x:Ix.dO)(y u v:Nat)(z:Ix.dO)(w s:Prop):=ax (dh x) y u v/\FT x z (w/\aA y (dh x) 4 (aa Ix.p9 x.t) (aa Ix.p9 z.t)/\s)
def _root_.Px(y:Ix.Hr):=wk (dh y.x) (y.x.n<10000/\(∀z:Nat,z<dh y.x->aT (gl y.x.t z).key<=aB)/\∀z:Nat,z<dh y.x->aq (gl y.x.t z).has->FR (sR y z) (max 16 (4*y.x.n)) (gl y.x.t z).key)
def _root_.FU(y:Ix.Hr):Int:=qQ true 16 ((4:Int)*ag y.x.n)
def _root_.Py(z:Nat)(y:Ix.Hr)(u:Nat×Nat)(v:Ix.dO):=aA z (max 16 (4*y.x.n)) 4 (aa Ix.p9 (Ix.dO.t (sR y u.fst))) (aa Ix.p9 v.t)
def _root_.FV(x:Ix.dO):=cE (dh x) 4 (aa Ix.p9 x.t)
def _root_.A5(x:Bool):List Value:=rI dx 0 (cF false) x
theorem adv:fnBody (Y Tryz.prog) [(123,adq)] 167 adu fun a=>[(167,[akV a],[])]:=fnBody.of (p :=
 ∀y:Ix.Hr,Px y->ai (ag y.x.n)->ai ((4:Int)*ag y.x.n)/\qp (FU y) ((32:Int)*FU y) (jM (fun z=>xE (dh y.x) y.cap (ah (ah (aC (FU y)=max 16 (4*y.x.n)/\aC (FU y)=z.snd)/\aS (Ix.dO.n (sR y z.fst)) (aS (Ix.dO.used (sR y z.fst)) (FV y.x/\aA (max 16 (4*y.x.n)) (aC (FU y)) 4 (qq (A5 false)) (aa Ix.p9 (Ix.dO.t (sR y z.fst)))/\bE z.fst (dh y.x)))))) fun z=>fS z.fst (dh y.x) (aK (Ix.bX.has (nJ y.x.t z.fst)) (ai (Ix.bX.pos (nJ y.x.t z.fst))->∃u:Ix.qo,ah (Ix.bX.key (nJ y.x.t z.fst)=u.key/\Ix.bX.pos (nJ y.x.t z.fst)=u.pos/\ax (max 16 (4*y.x.n)) (dh u.x) z.snd u.cap/\FT (sR y z.fst) u.x (Py (dh u.x) y z u.x/\wk (dh u.x) (aT u.key<=aB/\FR u.x (dh u.x) u.key)/\aP (iP z fun w=>xE (dh y.x) y.cap (ah (Pw (Ix.qW u.x u.key u.pos) (max 16 (4*y.x.n)) u.cap w.snd (sR y w.fst) (FV y.x) (bL w.fst (dh y.x) z.fst))))))) (iP z fun v=>xE (dh y.x) y.cap (ah (tO (max 16 (4*y.x.n)) z.snd v.snd/\FT (sR y z.fst) (sR y v.fst) (FV y.x/\Py (max 16 (4*y.x.n)) y z (sR y v.fst)/\bL v.fst (dh y.x) z.fst))))) (∃v:Nat,ax (max 16 (4*y.x.n)) (dh (Ix.pH y.x)) z.snd v/\FT (sR y z.fst) (Ix.pH y.x) (bA (Py (dh (Ix.pH y.x)) y z (Ix.pH y.x)))))) (by kernel_rfl) (by
 delta cE aK aQ aL ai aA az cI aG aN cm ia dN fB bK aU tO qQ gI bI dx aP aZ ag dh aT bL aq bR sR iP aC ah aS qp cF fS aI Pw Px bf rI aY ax bA FR bS qq FU FT xE Py FV wk A5 jM bw bM nJ bE
 try dsimp -iota -proj only
 intro a h;obtain⟨h1,h2,h3,h4,h5⟩:=h;obtain⟨M,hM⟩:∃M,M=max 16 (4*a.x.n):=⟨_,rfl⟩
 have hMi:(max 16 (4*(a.x.n:Int)):Int)=(M:Int):=by omega
 simp only[iU,<- hM]at h5 ⊢;simp only[hMi,mA,Ay];have hlen:∀i,(gA a.x.t (cS M) i).t.length=M:=fun i=>by rw[qa];simp[cS]
 have hg:pH a.x=gA a.x.t (cS M) a.x.t.length:=by unfold pH;rw[<- hM]
 rw[hg,hlen];refine fun _=>⟨by simp only[bZ];omega,by omega,by omega,by omega,⟨(0,M),?_⟩,fun x hx=>?_⟩
 ·dsimp only
  and_intros<;>first|exact af.refl _ _ _|skip
  all_goals first|exact trivial|rfl|omega|skip
  refine .fN fun i hi=>?_;unfold aa;rw[show gl (gA a.x.t (cS M) 0).t i=⟨.empty,0,false,false⟩from zv hi];rfl
 ·obtain⟨i,cap⟩:=x;have hx':i<=a.x.t.length:=hx;have h6:=h5 i;have sy:(gl a.x.t i).has=true->gA a.x.t (cS M) (i+1)=qW (gA a.x.t (cS M) i) (gl a.x.t i).key (gl a.x.t i).pos:=fun e=>if_pos e;have sn:(gl a.x.t i).has=false->gA a.x.t (cS M) (i+1)=gA a.x.t (cS M) i:=fun e=>if_neg (by rw[e];decide);have se:¬i<a.x.t.length->gA a.x.t (cS M) a.x.t.length=gA a.x.t (cS M) i:=fun e=>by grind
  dsimp only at *
  repeat' (first|intro _|apply And.intro|apply Exists.intro (qo.mk (gA a.x.t (cS M) i) cap _ _)|apply Exists.intro ((i+1,cap):Nat×Nat)|apply Exists.intro (cap:Nat))
  all_goals(try with_reducible rfl)
  all_goals(try with_reducible exact af.refl _ _ _)
  all_goals(try dsimp only)
  all_goals(try simp only[tB,decide_eq_false_iff_not,RM,zBm,bZ]at *)
  all_goals(try simp only[hlen,tU])
  all_goals(try exact trivial)
  all_goals(try omega)
  all_goals first
   |exact h4 i (by omega)
   |exact(h6 (by omega) (by assumption)).1
   |exact(h6 (by omega) (by assumption)).2.1
   |exact(h6 (by omega) (by assumption)).2.2 (by assumption)
   |(rw[sy (by assumption)];done)
   |(rw[sy (by assumption)];exact af.refl _ _ _)
   |(rw[sn (by assumption)];done)
   |grind [af.refl]
   |(rw[se (by omega)];done)
   |grind [af.refl])
theorem adw:av (Y Tryz.prog).G.X 167 adu:=bp gf adv ⟨adt,trivial⟩
end Go.Proofs.YtfjgoonelcaggaaGreat.Ix
